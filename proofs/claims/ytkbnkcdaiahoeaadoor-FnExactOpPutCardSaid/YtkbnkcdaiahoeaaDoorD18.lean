/- the law FnExactOwnersOk over data; the law FnExactOpOk over data; the law FnExactOpPut over data. No condition. -/
import Derived.Test.YtkbnkcdaiahoeaaDoorD4
import Derived.Test.YtkbnkcdaiahoeaaDoorE31
import Derived.Test.YtkbnkcdaiahoeaaDoorD174
namespace Go.Proofs.YtkbnkcdaiahoeaaDoor
open Go Go.RowKit
set_option maxRecDepth 100000
set_option maxHeartbeats 4000000
set_option linter.unusedSimpArgs false
set_option linter.unusedVariables false
attribute [local go_sem] List.size_toArray Int.toNat_zero Nat.sub_zero size_mk top_val eq_self datL X.dat u8min u8max i64min i64max stepT gdO aop ev lit litOk putF fzX_false putO upd app List.contains_nil List.elem_nil aBin aInt aStr aBool aLen lenTy aBuiltin aLoad aTake aTakeX aStore splice aSlice aBd look_cons look_nil lookC_cons lookC_nil by_s by_C start_s start_C X.cells X.cell List.all_cons List.all_nil Bool.and_self Bool.not_true Bool.not_false false_implies true_implies forall_const and_true true_and and_self implies_true not_false_eq_true Nat.zero_add Nat.add_zero List.getD_cons_zero List.getD_cons_succ List.map_cons List.map_nil Option.bind_some Option.map_some Option.map_none List.getElem?_cons_zero List.getElem?_cons_succ List.length_cons List.length_nil List.drop_zero List.drop_succ_cons List.take_succ_cons List.take_zero List.cons_append List.nil_append List.append_nil D.of List.length_map all_get_map Option.isSome_some and_false false_and Nat.lt_add_one Nat.zero_lt_succ decide_true decide_false aPart aSl2 Nat.lt_irrefl fzX litEs List.contains_cons List.elem_cons Bool.true_or Bool.or_true Bool.false_or Bool.or_false beq_self_eq_true
theorem arg_bare {av : Nat → Prop} {C : Caps} {bor : List Nat} {x y : X} (h : x.bare = y) (ho : x.on (fun _ => false) = true) : aArg av C x y bor := by
  cases x <;> first | exact .inr h.symm | exact .inr (.inl h.symm) | (simp [X.on] at ho)
theorem szOw_path {v : Ow} {left : Int} (h0 : 0 ≤ left) (h : 0 ≤ szOw v left) : (v.path.size : Int) ≤ left := by
  simp only [szOw] at h
  split at h
  · omega
  · split at h
    · omega
    · omega
theorem szOws_hs {os : List Ow} {left : Int} (h0 : 0 ≤ left) (h1 : left ≤ 1000000) (h : 0 ≤ szOws os left) : ∀ o ∈ os, o.path.size ≤ 1000000 := by
  intro v hv
  obtain ⟨y, h2, h3, h4⟩ := szOws_mem h0 h v hv
  have := szOw_path h2 h4
  omega
section
attribute [local go_sem] tsz9 tsz35 tfld35 tel25 toNat_cast und9 und4 zero35 tsz53 tfld53 tel22
theorem ownersOk_law (os : List Ow) : Fun Tryd.prog 3 [.d (.of owX os)] (.d (.bool true)) := by
  refine Fun.of ?_ rfl rfl
  refine Spec.of (fn := Tryd.f3) Tryd.func3 rfl (by kernel_rfl) (rs := [.tmp 2]) rfl 1 (by simp [Tryd.f3]) rfl (by simp) ?_
  intro hreal
  rintro ⟨P, T, L0, w0, ι0, C0, U0⟩ hP hT hU
  subst hP hT
  refine st ?_
  all_goals first
  | fail_if_success with_reducible refine atR 0 ?_
  | (
    refine rg 0 [] [some 2] 1 ?_
    all_goals refine qP ?_
    all_goals refine qE ?_)
  all_goals first
  | fail_if_success with_reducible refine atR 1 ?_
  | (
    refine rg 1 [] [some 3] 1 ?_
    all_goals refine qP ?_
    all_goals refine qE ?_)
  all_goals first
  | fail_if_success with_reducible refine atR 2 ?_
  | (
    refine rg 2 [] [some 8, some 9, some 10, some 3] 4 ?_
    all_goals iterate 2 refine qP ?_
    all_goals (
      refine qL_cons ?_
      intro R hR
      refine sm ?_
      refine call_fun (szTOws os 1000000 (by omega) (by omega)) [] ?_ (.inl rfl) ?_
      · exact ⟨.inl rfl, ⟨.inl rfl, trivial⟩⟩
      refine sm ?_
      all_goals (refine hR _ ?_; clear hR R))
    all_goals refine qP ?_
    all_goals refine qE ?_)
  all_goals first
  | fail_if_success with_reducible refine atR 3 ?_
  | (
    refine rg 3 [] [some 11, some 12] 2 ?_
    all_goals iterate 2 refine qP ?_
    all_goals refine qE ?_)
  all_goals first
  | fail_if_success with_reducible refine atC 12 ?_
  | (
    refine cn 12 ?_ ?_ <;> intro hc12 <;> try (cases hc12; done)
    all_goals refine st ?_)
  all_goals try have hss : os.length ≤ 1000000 := by have := szOws_len (l := os) (left := 1000000) (by omega) (by omega); omega
  all_goals try have hel := szOws_hs (os := os) (left := 1000000) (by omega) (by omega) (by omega)
  all_goals first
  | fail_if_success with_reducible refine atR 4 ?_
  | (
    refine rg 4 [] [some 2] 1 ?_
    all_goals refine qP ?_
    all_goals refine qE ?_)
  all_goals first
  | fail_if_success with_reducible refine atR 5 ?_
  | (
    refine rg 5 [] [some 13, some 14, some 15, some 4] 4 ?_
    all_goals refine qP ?_
    all_goals (
      refine qL_cons ?_
      intro R hR
      refine sm ?_
      refine call_fun (toTOws os false hss (fun _ _ => trivial)) [] ?_ (.inl rfl) ?_
      · exact ⟨.inl rfl, ⟨.inl rfl, trivial⟩⟩
      refine sm ?_
      all_goals (refine hR _ ?_; clear hR R))
    all_goals (
      refine qL_cons ?_
      intro R hR
      refine sm ?_
      refine call_fun (specOwnersOk os hel) [] ?_ (.inl rfl) ?_
      · exact ⟨arg_bare (toOws_bare os false) (on_toOws _ os false), trivial⟩
      refine sm ?_
      all_goals (refine hR _ ?_; clear hR R))
    all_goals refine qP ?_
    all_goals refine qE ?_)
  all_goals first
  | fail_if_success with_reducible refine atR 6 ?_
  | (
    refine rg 6 [] [some 16, some 17, some 5] 3 ?_
    all_goals refine qP ?_
    all_goals (
      refine qL_cons ?_
      intro R hR
      refine sm ?_
      refine call_fun (toTOws os false hss (fun _ _ => trivial)) [] ?_ (.inl rfl) ?_
      · exact ⟨.inl rfl, ⟨.inl rfl, trivial⟩⟩
      refine sm ?_
      all_goals (refine hR _ ?_; clear hR R))
    all_goals refine qP ?_
    all_goals refine qE ?_)
  all_goals first
  | fail_if_success with_reducible refine atR 7 ?_
  | (
    refine rg 7 [] [some 18, some 19, some 6] 3 ?_
    all_goals refine qP ?_
    all_goals (
      refine qL_cons ?_
      intro R hR
      refine sm ?_
      refine call_fun (implOwnersOk os hel) [] ?_ (.inl rfl) ?_
      · exact ⟨arg_bare (toOws_bare os false) (on_toOws _ os false), trivial⟩
      refine sm ?_
      all_goals (refine hR _ ?_; clear hR R))
    all_goals refine qP ?_
    all_goals refine qE ?_)
  all_goals first
  | fail_if_success with_reducible refine atR 8 ?_
  | (
    refine rg 8 [] [some 20, some 21, some 22] 3 ?_
    all_goals iterate 3 refine qP ?_
    all_goals refine qE ?_)
  all_goals first
  | fail_if_success with_reducible refine atC 22 ?_
  | (
    refine cn 22 ?_ ?_ <;> intro hc22 <;> try (cases hc22; done)
    all_goals refine st ?_)
  all_goals first
  | fail_if_success with_reducible refine atR 9 ?_
  | (
    refine rg 9 [] [some 2] 1 ?_
    all_goals refine qP ?_
    all_goals refine qE ?_)
  all_goals first
  | fail_if_success with_reducible refine atR 10 ?_
  | (
    refine rg 10 [] [some 23, some 24, some 25, some 26, some 27] 5 ?_
    all_goals iterate 2 refine qP ?_
    all_goals (
      refine qL_cons ?_
      intro R hR
      refine sm ?_
      refine call_fun (toTOws os false hss (fun _ _ => trivial)) [] ?_ (.inl rfl) ?_
      · exact ⟨.inl rfl, ⟨.inl rfl, trivial⟩⟩
      refine sm ?_
      all_goals (refine hR _ ?_; clear hR R))
    all_goals (
      refine qL_cons ?_
      intro R hR
      refine sm ?_
      refine call_fun (inTOws os hss) [] ?_ (.inl rfl) ?_
      · exact ⟨.inl rfl, ⟨.inl rfl, trivial⟩⟩
      refine sm ?_
      all_goals (refine hR _ ?_; clear hR R))
    all_goals refine qP ?_
    all_goals refine qE ?_)
  all_goals first
  | fail_if_success with_reducible refine atC 27 ?_
  | (
    refine cn 27 ?_ ?_ <;> intro hc27 <;> try (cases hc27; done)
    all_goals refine st ?_)
  all_goals first
  | fail_if_success with_reducible refine atR 11 ?_
  | (
    refine rg 11 [] [some 2] 1 ?_
    all_goals refine qP ?_
    all_goals refine qE ?_)
  all_goals first
  | fail_if_success with_reducible refine atR 12 ?_
  | (
    refine rg 12 [] [some 28, some 29, some 30, some 7] 4 ?_
    all_goals refine qP ?_
    all_goals (
      refine qL_cons ?_
      intro R hR
      refine sm ?_
      refine call_fun (toTOws os true hss (fun _ _ => trivial)) [] ?_ (.inl rfl) ?_
      · exact ⟨.inl rfl, ⟨.inl rfl, trivial⟩⟩
      refine sm ?_
      all_goals (refine hR _ ?_; clear hR R))
    all_goals (
      refine qL_cons ?_
      intro R hR
      refine sm ?_
      refine call_fun (implOwnersOk os hel) [] ?_ (.inl rfl) ?_
      · exact ⟨arg_bare (toOws_bare os true) (on_toOws _ os true), trivial⟩
      refine sm ?_
      all_goals (refine hR _ ?_; clear hR R))
    all_goals refine qP ?_
    all_goals refine qE ?_)
  all_goals first
  | fail_if_success with_reducible refine atR 13 ?_
  | (
    refine rg 13 [] [some 31, some 32, some 33] 3 ?_
    all_goals iterate 3 refine qP ?_
    all_goals refine qE ?_)
  all_goals first
  | fail_if_success with_reducible refine atC 33 ?_
  | (
    refine cn 33 ?_ ?_ <;> intro hc33 <;> try (cases hc33; done)
    all_goals refine st ?_)
  all_goals first
  | fail_if_success with_reducible refine atR 14 ?_
  | (
    refine rg 14 [] [some 2] 1 ?_
    all_goals refine qP ?_
    all_goals refine qE ?_)
  all_goals first
  | fail_if_success with_reducible refine atR 15 ?_
  | (
    refine rg 15 [] [some 2] 1 ?_
    all_goals refine qP ?_
    all_goals refine qE ?_)
  all_goals first
  | fail_if_success with_reducible refine ret_fun (t := 2) ?_ ?_
  | (
    refine ret_fun (t := 2) ?_ (fun _ => rfl)
    first
    | exact cl
    | (
      try refine sm ?_
      all_goals (
       simp_all)))

end
end Go.Proofs.YtkbnkcdaiahoeaaDoor
namespace Go.Proofs.YtkbnkcdaiahoeaaDoor
open Go Go.RowKit
set_option maxRecDepth 100000
set_option maxHeartbeats 4000000
set_option linter.unusedSimpArgs false
set_option linter.unusedVariables false
theorem tsz41 : tsz Tryd.prog 41 = some (true, 7) := by kernel_rfl
theorem tfld41 : tfld Tryd.prog 41 = some [(0, 3), (1, 9), (2, 9), (3, 9), (4, 9), (5, 3), (6, 39)] := by kernel_rfl
theorem zero44 : tzero Tryd.prog 44 = some [.d (.int .i64 0), .d (.str ByteArray.empty), .d (.str ByteArray.empty), .d (.str ByteArray.empty), .d (.str ByteArray.empty), .d (.int .i64 0), .nil] := by kernel_rfl
structure Op_ where
  kind : Int
  br : ByteArray
  who : ByteArray
  path : ByteArray
  to : ByteArray
  at_ : Int
  text : List ByteArray
attribute [local go_sem] List.size_toArray Int.toNat_zero Nat.sub_zero size_mk top_val eq_self datL X.dat u8min u8max i64min i64max stepT gdO aop ev lit litOk putF fzX_false putO upd app List.contains_nil List.elem_nil aBin aInt aStr aBool aLen lenTy aBuiltin aLoad aTake aTakeX aStore splice aSlice aBd look_cons look_nil lookC_cons lookC_nil by_s by_C start_s start_C X.cells X.cell List.all_cons List.all_nil Bool.and_self Bool.not_true Bool.not_false false_implies true_implies forall_const and_true true_and and_self implies_true not_false_eq_true Nat.zero_add Nat.add_zero List.getD_cons_zero List.getD_cons_succ List.map_cons List.map_nil Option.bind_some Option.map_some Option.map_none List.getElem?_cons_zero List.getElem?_cons_succ List.length_cons List.length_nil List.drop_zero List.drop_succ_cons List.take_succ_cons List.take_zero List.cons_append List.nil_append List.append_nil D.of List.length_map all_get_map Option.isSome_some and_false false_and Nat.lt_add_one Nat.zero_lt_succ decide_true decide_false aPart aSl2 Nat.lt_irrefl fzX litEs List.contains_cons List.elem_cons Bool.true_or Bool.or_true Bool.false_or Bool.or_false beq_self_eq_true
def szOp_ (v : Op_) (left : Int) : Int :=
  let a0 := left - v.br.size
  if a0 < 0 then -1 else
  let a1 := a0 - v.who.size
  if a1 < 0 then -1 else
  let a2 := a1 - v.path.size
  if a2 < 0 then -1 else
  let a3 := a2 - v.to.size
  if a3 < 0 then -1 else
  let a4 := szS v.text a3
  if a4 < 0 then -1 else
  a4
theorem szOp__le {v : Op_} {left : Int} (h : 0 ≤ left) : -1 ≤ szOp_ v left ∧ szOp_ v left ≤ left := by
  simp only [szOp_]
  split
  · omega
  split
  · omega
  split
  · omega
  split
  · omega
  have q4 := szS_le (l := v.text) (left := ((((left - v.br.size) - v.who.size) - v.path.size) - v.to.size)) (by omega)
  split
  · omega
  constructor <;> omega
theorem szOp__text {v : Op_} {left : Int} (h0 : 0 ≤ left) (h : 0 ≤ szOp_ v left) : (v.text.length : Int) ≤ left := by
  simp only [szOp_] at h
  split at h
  · omega
  split at h
  · omega
  split at h
  · omega
  split at h
  · omega
  have q4 := szS_le (l := v.text) (left := ((((left - v.br.size) - v.who.size) - v.path.size) - v.to.size)) (by omega)
  have z4 : 0 ≤ szS v.text ((((left - v.br.size) - v.who.size) - v.path.size) - v.to.size) → (v.text.length : Int) ≤ ((((left - v.br.size) - v.who.size) - v.path.size) - v.to.size) := fun h => szS_len (by omega) h
  split at h
  · omega
  have := z4 (by omega)
  omega
section
attribute [local go_sem] tsz9 tsz39 tel39 toNat_cast und9 und4 tsz44 tfld44 tsz3' tsz41 tfld41 zero44
theorem szTOp_ (v : Op_) (left : Int) (hl : 0 ≤ left) (hl2 : left ≤ 1000000) : Fun Tryd.prog 19 [.ag [.d (.int .i64 v.kind), .d (.str v.br), .d (.str v.who), .d (.str v.path), .d (.str v.to), .d (.int .i64 v.at_), .d (strs v.text)], .d (.int .i64 left)] (.d (.int .i64 (szOp_ v left))) := by
  refine Fun.of ?_ rfl rfl
  refine Spec.of (fn := Tryd.f19) Tryd.func19 rfl (by kernel_rfl) (rs := [.tmp 4]) rfl 1 (by simp [Tryd.f19]) rfl (by simp) ?_
  intro hreal
  rintro ⟨P, T, L0, w0, ι0, C0, U0⟩ hP hT hU
  subst hP hT
  refine st ?_
  have hbr : v.br.size ≤ 9223372036854775807 := D.real_str (X.real_d (X.real_ag (hreal (.ag [.d (.int .i64 v.kind), .d (.str v.br), .d (.str v.who), .d (.str v.path), .d (.str v.to), .d (.int .i64 v.at_), .d (strs v.text)]) (by simp)) (.d (.str v.br)) (by simp)))
  have hwho : v.who.size ≤ 9223372036854775807 := D.real_str (X.real_d (X.real_ag (hreal (.ag [.d (.int .i64 v.kind), .d (.str v.br), .d (.str v.who), .d (.str v.path), .d (.str v.to), .d (.int .i64 v.at_), .d (strs v.text)]) (by simp)) (.d (.str v.who)) (by simp)))
  have hpath : v.path.size ≤ 9223372036854775807 := D.real_str (X.real_d (X.real_ag (hreal (.ag [.d (.int .i64 v.kind), .d (.str v.br), .d (.str v.who), .d (.str v.path), .d (.str v.to), .d (.int .i64 v.at_), .d (strs v.text)]) (by simp)) (.d (.str v.path)) (by simp)))
  have hto : v.to.size ≤ 9223372036854775807 := D.real_str (X.real_d (X.real_ag (hreal (.ag [.d (.int .i64 v.kind), .d (.str v.br), .d (.str v.who), .d (.str v.path), .d (.str v.to), .d (.int .i64 v.at_), .d (strs v.text)]) (by simp)) (.d (.str v.to)) (by simp)))
  all_goals first
  | fail_if_success with_reducible refine atR 0 ?_
  | (
    refine rg 0 [] [some 2, some 4] 2 ?_
    all_goals iterate 2 refine qP ?_
    all_goals refine qE ?_)
  all_goals first
  | fail_if_success with_reducible refine atR 1 ?_
  | (
    refine rg 1 [] [some 5, some 6, some 7, some 8, some 9, some 1] 6 ?_
    all_goals iterate 4 refine qP ?_
    all_goals (
      refine qL_cons ?_
      intro R hR
      refine sm ?_
      rw [wrap64 (by omega) (by omega)]
      all_goals (refine hR _ ?_; clear hR R))
    all_goals refine qP ?_
    all_goals refine qE ?_)
  all_goals first
  | fail_if_success with_reducible refine atR 2 ?_
  | (
    refine rg 2 [] [some 10, some 11] 2 ?_
    all_goals iterate 2 refine qP ?_
    all_goals refine qE ?_)
  all_goals first
  | fail_if_success with_reducible refine atC 11 ?_
  | (
    refine cn 11 ?_ ?_ <;> intro hc11 <;> try (cases hc11; done)
    all_goals refine st ?_)
  all_goals first
  | fail_if_success with_reducible refine atR 3 ?_
  | (
    refine rg 3 [] [some 4] 1 ?_
    all_goals refine qP ?_
    all_goals refine qE ?_)
  all_goals first
  | fail_if_success with_reducible refine atR 4 ?_
  | (
    refine rg 4 [] [some 12, some 13, some 14, some 15, some 16, some 1] 6 ?_
    all_goals iterate 4 refine qP ?_
    all_goals (
      refine qL_cons ?_
      intro R hR
      refine sm ?_
      rw [wrap64 (by omega) (by omega)]
      all_goals (refine hR _ ?_; clear hR R))
    all_goals refine qP ?_
    all_goals refine qE ?_)
  all_goals first
  | fail_if_success with_reducible refine atR 5 ?_
  | (
    refine rg 5 [] [some 17, some 18] 2 ?_
    all_goals iterate 2 refine qP ?_
    all_goals refine qE ?_)
  all_goals first
  | fail_if_success with_reducible refine atC 18 ?_
  | (
    refine cn 18 ?_ ?_ <;> intro hc18 <;> try (cases hc18; done)
    all_goals refine st ?_)
  all_goals first
  | fail_if_success with_reducible refine atR 6 ?_
  | (
    refine rg 6 [] [some 4] 1 ?_
    all_goals refine qP ?_
    all_goals refine qE ?_)
  all_goals first
  | fail_if_success with_reducible refine atR 7 ?_
  | (
    refine rg 7 [] [some 19, some 20, some 21, some 22, some 23, some 1] 6 ?_
    all_goals iterate 4 refine qP ?_
    all_goals (
      refine qL_cons ?_
      intro R hR
      refine sm ?_
      rw [wrap64 (by omega) (by omega)]
      all_goals (refine hR _ ?_; clear hR R))
    all_goals refine qP ?_
    all_goals refine qE ?_)
  all_goals first
  | fail_if_success with_reducible refine atR 8 ?_
  | (
    refine rg 8 [] [some 24, some 25] 2 ?_
    all_goals iterate 2 refine qP ?_
    all_goals refine qE ?_)
  all_goals first
  | fail_if_success with_reducible refine atC 25 ?_
  | (
    refine cn 25 ?_ ?_ <;> intro hc25 <;> try (cases hc25; done)
    all_goals refine st ?_)
  all_goals first
  | fail_if_success with_reducible refine atR 9 ?_
  | (
    refine rg 9 [] [some 4] 1 ?_
    all_goals refine qP ?_
    all_goals refine qE ?_)
  all_goals first
  | fail_if_success with_reducible refine atR 10 ?_
  | (
    refine rg 10 [] [some 26, some 27, some 28, some 29, some 30, some 1] 6 ?_
    all_goals iterate 4 refine qP ?_
    all_goals (
      refine qL_cons ?_
      intro R hR
      refine sm ?_
      rw [wrap64 (by omega) (by omega)]
      all_goals (refine hR _ ?_; clear hR R))
    all_goals refine qP ?_
    all_goals refine qE ?_)
  all_goals first
  | fail_if_success with_reducible refine atR 11 ?_
  | (
    refine rg 11 [] [some 31, some 32] 2 ?_
    all_goals iterate 2 refine qP ?_
    all_goals refine qE ?_)
  all_goals first
  | fail_if_success with_reducible refine atC 32 ?_
  | (
    refine cn 32 ?_ ?_ <;> intro hc32 <;> try (cases hc32; done)
    all_goals refine st ?_)
  all_goals try have q4 := szS_le (l := v.text) (left := left - v.br.size - v.who.size - v.path.size - v.to.size) (by omega)
  all_goals first
  | fail_if_success with_reducible refine atR 12 ?_
  | (
    refine rg 12 [] [some 4] 1 ?_
    all_goals refine qP ?_
    all_goals refine qE ?_)
  all_goals first
  | fail_if_success with_reducible refine atR 13 ?_
  | (
    refine rg 13 [] [some 33, some 34, some 35, some 36, some 1] 5 ?_
    all_goals iterate 3 refine qP ?_
    all_goals (
      refine qL_cons ?_
      intro R hR
      refine sm ?_
      refine call_fun (szStringS_spec v.text (left - v.br.size - v.who.size - v.path.size - v.to.size) (by omega) (by omega)) [] ?_ (.inl rfl) ?_
      · exact ⟨.inl rfl, ⟨.inl rfl, trivial⟩⟩
      refine sm ?_
      all_goals (refine hR _ ?_; clear hR R))
    all_goals refine qP ?_
    all_goals refine qE ?_)
  all_goals first
  | fail_if_success with_reducible refine atR 14 ?_
  | (
    refine rg 14 [] [some 37, some 38] 2 ?_
    all_goals iterate 2 refine qP ?_
    all_goals refine qE ?_)
  all_goals first
  | fail_if_success with_reducible refine atC 38 ?_
  | (
    refine cn 38 ?_ ?_ <;> intro hc38 <;> try (cases hc38; done)
    all_goals refine st ?_)
  all_goals first
  | fail_if_success with_reducible refine atR 15 ?_
  | (
    refine rg 15 [] [some 4] 1 ?_
    all_goals refine qP ?_
    all_goals refine qE ?_)
  all_goals first
  | fail_if_success with_reducible refine atR 16 ?_
  | (
    refine rg 16 [] [some 39, some 4] 2 ?_
    all_goals iterate 2 refine qP ?_
    all_goals refine qE ?_)
  all_goals first
  | fail_if_success with_reducible refine ret_fun (t := 4) ?_ ?_
  | (
    refine ret_fun (t := 4) ?_ (fun _ => rfl)
    first
    | exact cl
    | (
      try refine sm ?_
      all_goals (
       congr 2; simp only [szOp_]; repeat (first | rfl | rw [if_pos (by omega)] | rw [if_neg (by omega)]))))

structure Op_Q where
  kind : D
  br : D
  who : D
  path : D
  to : D
  at_ : D
  text : D
def opQ (q : Op_Q) : List D := [q.kind, q.br, q.who, q.path, q.to, q.at_, q.text]
def opT (b : Bool) (v : Op_) : Op_Q := ⟨.int .i64 v.kind, .str v.br, .str v.who, .str v.path, .str v.to, .int .i64 v.at_, toSD v.text b⟩
def toOp_ (v : Op_) (b : Bool) : X := .ag [.d (.int .i64 v.kind), .d (.str v.br), .d (.str v.who), .d (.str v.path), .d (.str v.to), .d (.int .i64 v.at_), toS v.text b]
theorem on_toOp_ (V : Nat → Bool) (v : Op_) (b : Bool) : (toOp_ v b).on V = true := by simp [toOp_, X.on, X.onL, on_toS]
end
section
attribute [local go_sem] tsz9 tsz39 tel39 toNat_cast und9 und4 tsz44 tfld44 tsz3' tsz41 tfld41 zero44 cells_toS cell_toS dat_toS cells_toSm cell_toSm dat_toSm
theorem toTOp_ (v : Op_) (b : Bool) (htext : v.text.length ≤ 1000000) : Fun Tryd.prog 21 [.ag [.d (.int .i64 v.kind), .d (.str v.br), .d (.str v.who), .d (.str v.path), .d (.str v.to), .d (.int .i64 v.at_), .d (strs v.text)], .d (.bool b)] (toOp_ v b) := by
  refine Fun.of ?_ rfl (on_toOp_ _ _ _)
  refine Spec.of (fn := Tryd.f21) Tryd.func21 rfl (by kernel_rfl) (rs := [.cell 4 44]) rfl 1 (by simp [Tryd.f21]) rfl (by simp) ?_
  intro hreal
  rintro ⟨P, T, L0, w0, ι0, C0, U0⟩ hP hT hU
  subst hP hT
  refine st ?_
  all_goals first
  | fail_if_success with_reducible refine atR 0 ?_
  | (
    refine rg 0 [] [some 2, some 4] 2 ?_
    all_goals iterate 2 refine qP ?_
    all_goals refine qE ?_)
  all_goals first
  | fail_if_success with_reducible refine atR 1 ?_
  | (
    refine rg 1 [] [some 5] 1 ?_
    all_goals refine qP ?_
    all_goals refine qE ?_)
  all_goals first
  | fail_if_success with_reducible refine atR 2 ?_
  | (
    refine rg 2 [] [some 6, some 7, some 8, none] 4 ?_
    all_goals iterate 4 refine qP ?_
    all_goals refine qE ?_)
  all_goals first
  | fail_if_success with_reducible refine atR 3 ?_
  | (
    refine rg 3 [] [some 9, some 10, some 11, none] 4 ?_
    all_goals iterate 4 refine qP ?_
    all_goals refine qE ?_)
  all_goals first
  | fail_if_success with_reducible refine atR 4 ?_
  | (
    refine rg 4 [] [some 12, some 13, some 14, none] 4 ?_
    all_goals iterate 4 refine qP ?_
    all_goals refine qE ?_)
  all_goals first
  | fail_if_success with_reducible refine atR 5 ?_
  | (
    refine rg 5 [] [some 15, some 16, some 17, none] 4 ?_
    all_goals iterate 4 refine qP ?_
    all_goals refine qE ?_)
  all_goals first
  | fail_if_success with_reducible refine atR 6 ?_
  | (
    refine rg 6 [] [some 18, some 19, some 20, none] 4 ?_
    all_goals iterate 4 refine qP ?_
    all_goals refine qE ?_)
  all_goals first
  | fail_if_success with_reducible refine atR 7 ?_
  | (
    refine rg 7 [] [some 21, some 22, some 23, none] 4 ?_
    all_goals iterate 4 refine qP ?_
    all_goals refine qE ?_)
  all_goals first
  | fail_if_success with_reducible refine atR 8 ?_
  | (
    refine rg 8 [] [some 24, some 25, some 26, some 27, some 28, none] 6 ?_
    all_goals iterate 3 refine qP ?_
    all_goals (
      refine qL_cons ?_
      intro R hR
      refine sm ?_
      refine call_fun (toStringS_spec v.text b htext) [] ?_ (.inl rfl) ?_
      · exact ⟨.inl rfl, ⟨.inl rfl, trivial⟩⟩
      refine sm ?_
      all_goals (refine hR _ ?_; clear hR R))
    all_goals iterate 2 refine qP ?_
    all_goals refine qE ?_)
  all_goals first
  | fail_if_success with_reducible refine atR 9 ?_
  | (
    refine rg 9 [] [some 29, none] 2 ?_
    all_goals iterate 2 refine qP ?_
    all_goals refine qE ?_)
  all_goals (
    refine ret_cell (a := 4) (t := 44) ?_ (fun V => on_toOp_ _ _ _)
    simp only [go_sem, reduceIte, reduceCtorEq, Nat.reduceAdd, Nat.reduceEqDiff, Nat.reduceLeDiff, Nat.reduceLT, Nat.reduceSub, Int.reduceLE, Int.reduceNeg, Int.reduceLT, toOp_])

end
section
attribute [local go_sem] tsz9 tsz39 tel39 toNat_cast und9 und4 tsz44 tfld44 tsz3' tsz41 tfld41 zero44 bne_self_eq_false
theorem inTOp_ (v : Op_) (htext : v.text.length ≤ 1000000) : Fun Tryd.prog 23 [.ag [.d (.int .i64 v.kind), .d (.str v.br), .d (.str v.who), .d (.str v.path), .d (.str v.to), .d (.int .i64 v.at_), .d (toD v.text)], .ag [.d (.int .i64 v.kind), .d (.str v.br), .d (.str v.who), .d (.str v.path), .d (.str v.to), .d (.int .i64 v.at_), .d (toD v.text)]] (.d (.bool true)) := by
  refine Fun.of ?_ rfl rfl
  refine Spec.of (fn := Tryd.f23) Tryd.func23 rfl (by kernel_rfl) (rs := [.tmp 4]) rfl 1 (by simp [Tryd.f23]) rfl (by simp) ?_
  intro hreal
  rintro ⟨P, T, L0, w0, ι0, C0, U0⟩ hP hT hU
  subst hP hT
  refine st ?_
  all_goals first
  | fail_if_success with_reducible refine atR 0 ?_
  | (
    refine rg 0 [] [some 2, some 3, some 4] 3 ?_
    all_goals iterate 3 refine qP ?_
    all_goals refine qE ?_)
  all_goals first
  | fail_if_success with_reducible refine atR 1 ?_
  | (
    refine rg 1 [] [some 5, some 6, some 7, some 8, some 9] 5 ?_
    all_goals iterate 5 refine qP ?_
    all_goals refine qE ?_)
  all_goals first
  | fail_if_success with_reducible refine atC 9 ?_
  | (
    refine cn 9 ?_ ?_ <;> intro hc9 <;> try (cases hc9; done)
    all_goals refine st ?_)
  all_goals first
  | fail_if_success with_reducible refine atR 2 ?_
  | (
    refine rg 2 [] [some 4] 1 ?_
    all_goals refine qP ?_
    all_goals refine qE ?_)
  all_goals first
  | fail_if_success with_reducible refine atR 3 ?_
  | (
    refine rg 3 [] [some 10, some 11, some 12, some 13, some 14] 5 ?_
    all_goals iterate 5 refine qP ?_
    all_goals refine qE ?_)
  all_goals first
  | fail_if_success with_reducible refine atC 14 ?_
  | (
    refine cn 14 ?_ ?_ <;> intro hc14 <;> try (cases hc14; done)
    all_goals refine st ?_)
  all_goals first
  | fail_if_success with_reducible refine atR 4 ?_
  | (
    refine rg 4 [] [some 4] 1 ?_
    all_goals refine qP ?_
    all_goals refine qE ?_)
  all_goals first
  | fail_if_success with_reducible refine atR 5 ?_
  | (
    refine rg 5 [] [some 15, some 16, some 17, some 18, some 19] 5 ?_
    all_goals iterate 5 refine qP ?_
    all_goals refine qE ?_)
  all_goals first
  | fail_if_success with_reducible refine atC 19 ?_
  | (
    refine cn 19 ?_ ?_ <;> intro hc19 <;> try (cases hc19; done)
    all_goals refine st ?_)
  all_goals first
  | fail_if_success with_reducible refine atR 6 ?_
  | (
    refine rg 6 [] [some 4] 1 ?_
    all_goals refine qP ?_
    all_goals refine qE ?_)
  all_goals first
  | fail_if_success with_reducible refine atR 7 ?_
  | (
    refine rg 7 [] [some 20, some 21, some 22, some 23, some 24] 5 ?_
    all_goals iterate 5 refine qP ?_
    all_goals refine qE ?_)
  all_goals first
  | fail_if_success with_reducible refine atC 24 ?_
  | (
    refine cn 24 ?_ ?_ <;> intro hc24 <;> try (cases hc24; done)
    all_goals refine st ?_)
  all_goals first
  | fail_if_success with_reducible refine atR 8 ?_
  | (
    refine rg 8 [] [some 4] 1 ?_
    all_goals refine qP ?_
    all_goals refine qE ?_)
  all_goals first
  | fail_if_success with_reducible refine atR 9 ?_
  | (
    refine rg 9 [] [some 25, some 26, some 27, some 28, some 29] 5 ?_
    all_goals iterate 5 refine qP ?_
    all_goals refine qE ?_)
  all_goals first
  | fail_if_success with_reducible refine atC 29 ?_
  | (
    refine cn 29 ?_ ?_ <;> intro hc29 <;> try (cases hc29; done)
    all_goals refine st ?_)
  all_goals first
  | fail_if_success with_reducible refine atR 10 ?_
  | (
    refine rg 10 [] [some 4] 1 ?_
    all_goals refine qP ?_
    all_goals refine qE ?_)
  all_goals first
  | fail_if_success with_reducible refine atR 11 ?_
  | (
    refine rg 11 [] [some 30, some 31, some 32, some 33, some 34] 5 ?_
    all_goals iterate 5 refine qP ?_
    all_goals refine qE ?_)
  all_goals first
  | fail_if_success with_reducible refine atC 34 ?_
  | (
    refine cn 34 ?_ ?_ <;> intro hc34 <;> try (cases hc34; done)
    all_goals refine st ?_)
  all_goals first
  | fail_if_success with_reducible refine atR 12 ?_
  | (
    refine rg 12 [] [some 4] 1 ?_
    all_goals refine qP ?_
    all_goals refine qE ?_)
  all_goals first
  | fail_if_success with_reducible refine atR 13 ?_
  | (
    refine rg 13 [] [some 35, some 36, some 37, some 38, some 39, some 40] 6 ?_
    all_goals iterate 4 refine qP ?_
    all_goals (
      refine qL_cons ?_
      intro R hR
      refine sm ?_
      refine call_fun (intact_spec v.text htext) [] ?_ (.inl rfl) ?_
      · exact ⟨.inl rfl, ⟨.inl rfl, trivial⟩⟩
      refine sm ?_
      all_goals (refine hR _ ?_; clear hR R))
    all_goals refine qP ?_
    all_goals refine qE ?_)
  all_goals first
  | fail_if_success with_reducible refine atC 40 ?_
  | (
    refine cn 40 ?_ ?_ <;> intro hc40 <;> try (cases hc40; done)
    all_goals refine st ?_)
  all_goals first
  | fail_if_success with_reducible refine atR 14 ?_
  | (
    refine rg 14 [] [some 4] 1 ?_
    all_goals refine qP ?_
    all_goals refine qE ?_)
  all_goals first
  | fail_if_success with_reducible refine atR 15 ?_
  | (
    refine rg 15 [] [some 4] 1 ?_
    all_goals refine qP ?_
    all_goals refine qE ?_)
  all_goals first
  | fail_if_success with_reducible refine ret_fun (t := 4) ?_ ?_
  | (
    refine ret_fun (t := 4) ?_ (fun _ => rfl)
    first
    | exact cl
    | (
      try refine sm ?_
      all_goals (
       simp_all)))

theorem toOp_bare (v : Op_) (b : Bool) : (toOp_ v b).bare = .ag [.d (.int .i64 v.kind), .d (.str v.br), .d (.str v.who), .d (.str v.path), .d (.str v.to), .d (.int .i64 v.at_), .d (strs v.text)] := by
  show X.ag [_, _, _, _, _, _, (toS v.text b).bare1] = _
  rw [toS_bare]; rfl
theorem szOp_path {v : Op_} {left : Int} (h0 : 0 ≤ left) (h : 0 ≤ szOp_ v left) : (v.path.size : Int) ≤ left ∧ (v.to.size : Int) ≤ left := by
  simp only [szOp_] at h
  split at h
  · omega
  · split at h
    · omega
    · split at h
      · omega
      · split at h
        · omega
        · omega
end
section
attribute [local go_sem] tsz9 tsz39 tel39 toNat_cast und9 und4 tsz44 tfld44 tsz3' tsz41 tfld41 zero44
theorem specOpOk (v : Op_) (hp : v.path.size ≤ 1000000) (ht : v.to.size ≤ 1000000) : Fun Tryd.prog 20 [.ag [.d (.int .i64 v.kind), .d (.str v.br), .d (.str v.who), .d (.str v.path), .d (.str v.to), .d (.int .i64 v.at_), .d (strs v.text)]] (.d (.bool (opB v.kind v.br v.who v.path v.to v.at_ v.text))) := by
  refine Fun.of ?_ rfl rfl
  refine Spec.of (fn := Tryd.f20) Tryd.func20 rfl (by kernel_rfl) (rs := [.tmp 2]) rfl 1 (by simp [Tryd.f20]) rfl (by simp) ?_
  intro hreal
  rintro ⟨P, T, L0, w0, ι0, C0, U0⟩ hP hT hU
  subst hP hT
  refine st ?_
  all_goals first
  | fail_if_success with_reducible refine atR 0 ?_
  | (
    refine rg 0 [] [some 1, some 2] 2 ?_
    all_goals iterate 2 refine qP ?_
    all_goals refine qE ?_)
  all_goals first
  | fail_if_success with_reducible refine atR 1 ?_
  | (
    refine rg 1 [] [some 3, some 4, some 2] 3 ?_
    all_goals refine qP ?_
    all_goals (
      refine qL_cons ?_
      intro R hR
      refine sm ?_
      refine call_fun (l19Ok_all v.kind v.br v.who v.path v.to v.at_ v.text hp ht) [] ?_ (.inl rfl) ?_
      · exact ⟨.inl rfl, trivial⟩
      refine sm ?_
      all_goals (refine hR _ ?_; clear hR R))
    all_goals refine qP ?_
    all_goals refine qE ?_)
  all_goals first
  | fail_if_success with_reducible refine ret_fun (t := 2) ?_ ?_
  | (
    refine ret_fun (t := 2) ?_ (fun _ => rfl)
    first
    | exact cl
    | (
      try refine sm ?_
      all_goals (
       rfl)))

end
section
attribute [local go_sem] tsz9 tsz39 tel39 toNat_cast und9 und4 tsz44 tfld44 tsz3' tsz41 tfld41 zero44 toOp_ toS_false
theorem opOk_law (v : Op_) : Fun Tryd.prog 6 [.ag [.d (.int .i64 v.kind), .d (.str v.br), .d (.str v.who), .d (.str v.path), .d (.str v.to), .d (.int .i64 v.at_), .d (strs v.text)]] (.d (.bool true)) := by
  refine Fun.of ?_ rfl rfl
  refine Spec.of (fn := Tryd.f6) Tryd.func6 rfl (by kernel_rfl) (rs := [.tmp 2]) rfl 1 (by simp [Tryd.f6]) rfl (by simp) ?_
  intro hreal
  rintro ⟨P, T, L0, w0, ι0, C0, U0⟩ hP hT hU
  subst hP hT
  refine st ?_
  all_goals first
  | fail_if_success with_reducible refine atR 0 ?_
  | (
    refine rg 0 [] [some 1, some 2] 2 ?_
    all_goals iterate 2 refine qP ?_
    all_goals refine qE ?_)
  all_goals first
  | fail_if_success with_reducible refine atR 1 ?_
  | (
    refine rg 1 [] [some 3] 1 ?_
    all_goals refine qP ?_
    all_goals refine qE ?_)
  all_goals first
  | fail_if_success with_reducible refine atR 2 ?_
  | (
    refine rg 2 [] [some 8, some 9, some 10, some 3] 4 ?_
    all_goals iterate 2 refine qP ?_
    all_goals (
      refine qL_cons ?_
      intro R hR
      refine sm ?_
      refine call_fun (szTOp_ v 1000000 (by omega) (by omega)) [] ?_ (.inl rfl) ?_
      · exact ⟨.inl rfl, ⟨.inl rfl, trivial⟩⟩
      refine sm ?_
      all_goals (refine hR _ ?_; clear hR R))
    all_goals refine qP ?_
    all_goals refine qE ?_)
  all_goals first
  | fail_if_success with_reducible refine atR 3 ?_
  | (
    refine rg 3 [] [some 11, some 12] 2 ?_
    all_goals iterate 2 refine qP ?_
    all_goals refine qE ?_)
  all_goals first
  | fail_if_success with_reducible refine atC 12 ?_
  | (
    refine cn 12 ?_ ?_ <;> intro hc12 <;> try (cases hc12; done)
    all_goals refine st ?_)
  all_goals first
  | fail_if_success with_reducible refine atR 4 ?_
  | (
    refine rg 4 [] [some 2] 1 ?_
    all_goals refine qP ?_
    all_goals refine qE ?_)
  all_goals first
  | fail_if_success with_reducible refine ret_fun (t := 2) ?_ ?_
  | (
    refine ret_fun (t := 2) ?_ (fun _ => rfl)
    first
    | exact cl
    | (
      try refine sm ?_
      all_goals (
       rfl)))
  have hv : v.text.length ≤ 1000000 := by have := szOp__text (v := v) (left := 1000000) (by omega) (by omega); omega
  have hpt := szOp_path (v := v) (left := 1000000) (by omega) (by omega)
  have hp : v.path.size ≤ 1000000 := by omega
  have ht : v.to.size ≤ 1000000 := by omega
  all_goals first
  | fail_if_success with_reducible refine atR 5 ?_
  | (
    refine rg 5 [] [some 13, some 14, some 15, some 4] 4 ?_
    all_goals refine qP ?_
    all_goals (
      refine qL_cons ?_
      intro R hR
      refine sm ?_
      refine call_fun (toTOp_ v false hv) [] ?_ (.inl rfl) ?_
      · exact ⟨.inl rfl, ⟨.inl rfl, trivial⟩⟩
      refine sm ?_
      all_goals (refine hR _ ?_; clear hR R))
    all_goals (
      refine qL_cons ?_
      intro R hR
      refine sm ?_
      refine call_fun (specOpOk v hp ht) [] ?_ (.inl rfl) ?_
      · exact ⟨.inr (.inl (toOp_bare v false).symm), trivial⟩
      refine sm ?_
      all_goals (refine hR _ ?_; clear hR R))
    all_goals refine qP ?_
    all_goals refine qE ?_)
  all_goals first
  | fail_if_success with_reducible refine atR 6 ?_
  | (
    refine rg 6 [] [some 16, some 17, some 5, none] 4 ?_
    all_goals refine qP ?_
    all_goals (
      refine qL_cons ?_
      intro R hR
      refine sm ?_
      refine call_fun (toTOp_ v false hv) [] ?_ (.inl rfl) ?_
      · exact ⟨.inl rfl, ⟨.inl rfl, trivial⟩⟩
      refine sm ?_
      all_goals (refine hR _ ?_; clear hR R))
    all_goals iterate 2 refine qP ?_
    all_goals refine qE ?_)
  all_goals first
  | fail_if_success with_reducible refine atR 7 ?_
  | (
    refine rg 7 [] [some 18, some 19, some 6] 3 ?_
    all_goals refine qP ?_
    all_goals (
      refine qL_cons ?_
      intro R hR
      refine sm ?_
      refine call_fun (implOpOk_all v.kind v.br v.who v.path v.to v.at_ v.text (by omega) (by omega)) [] ?_ (.inl rfl) ?_
      · exact ⟨.inr (.inl (toOp_bare v false).symm), trivial⟩
      refine sm ?_
      all_goals (refine hR _ ?_; clear hR R))
    all_goals refine qP ?_
    all_goals refine qE ?_)
  all_goals first
  | fail_if_success with_reducible refine atR 8 ?_
  | (
    refine rg 8 [] [some 20, some 21, some 22] 3 ?_
    all_goals iterate 3 refine qP ?_
    all_goals refine qE ?_)
  all_goals first
  | fail_if_success with_reducible refine atC 22 ?_
  | (
    refine cn 22 ?_ ?_ <;> intro hc22 <;> try (cases hc22; done)
    all_goals refine st ?_)
  all_goals first
  | fail_if_success with_reducible refine atR 9 ?_
  | (
    refine rg 9 [] [some 2] 1 ?_
    all_goals refine qP ?_
    all_goals refine qE ?_)
  all_goals first
  | fail_if_success with_reducible refine atR 10 ?_
  | (
    refine rgD 10 [] [some 23, some 24, some 25, some 26, some 27] 5 6 ?_
    intro av hav
    have hf1 := freeD 1 hav
    have hf16 := freeD 16 hav
    all_goals (
      refine qL_cons ?_
      intro R hR
      simp only [go_sem, reduceIte, reduceCtorEq, Nat.reduceAdd, Nat.reduceEqDiff, Nat.reduceLeDiff, Nat.reduceLT, Nat.reduceSub, Int.reduceLE, Int.reduceNeg, Int.reduceLT, hf1, hf16]
      all_goals (refine hR _ ?_; clear hR R))
    all_goals (
      refine qL_cons ?_
      intro R hR
      simp only [go_sem, reduceIte, reduceCtorEq, Nat.reduceAdd, Nat.reduceEqDiff, Nat.reduceLeDiff, Nat.reduceLT, Nat.reduceSub, Int.reduceLE, Int.reduceNeg, Int.reduceLT, hf1, hf16]
      all_goals (refine hR _ ?_; clear hR R))
    all_goals (
      refine qL_cons ?_
      intro R hR
      simp only [go_sem, reduceIte, reduceCtorEq, Nat.reduceAdd, Nat.reduceEqDiff, Nat.reduceLeDiff, Nat.reduceLT, Nat.reduceSub, Int.reduceLE, Int.reduceNeg, Int.reduceLT, hf1, hf16]
      refine call_fun (toTOp_ v false hv) [] ?_ (.inl rfl) ?_
      · exact ⟨.inl rfl, ⟨.inl rfl, trivial⟩⟩
      simp only [go_sem, reduceIte, reduceCtorEq, Nat.reduceAdd, Nat.reduceEqDiff, Nat.reduceLeDiff, Nat.reduceLT, Nat.reduceSub, Int.reduceLE, Int.reduceNeg, Int.reduceLT, hf1, hf16]
      all_goals (refine hR _ ?_; clear hR R))
    all_goals (
      refine qL_cons ?_
      intro R hR
      simp only [go_sem, reduceIte, reduceCtorEq, Nat.reduceAdd, Nat.reduceEqDiff, Nat.reduceLeDiff, Nat.reduceLT, Nat.reduceSub, Int.reduceLE, Int.reduceNeg, Int.reduceLT, hf1, hf16]
      refine call_fun (inTOp_ v hv) [] ?_ (.inl rfl) ?_
      · exact ⟨.inl rfl, ⟨.inl rfl, trivial⟩⟩
      simp only [go_sem, reduceIte, reduceCtorEq, Nat.reduceAdd, Nat.reduceEqDiff, Nat.reduceLeDiff, Nat.reduceLT, Nat.reduceSub, Int.reduceLE, Int.reduceNeg, Int.reduceLT, hf1, hf16]
      all_goals (refine hR _ ?_; clear hR R))
    all_goals refine qP ?_
    all_goals refine qE ?_
    all_goals clear hf1 hf16 hav av)
  all_goals first
  | fail_if_success with_reducible refine atC 27 ?_
  | (
    refine cn 27 ?_ ?_ <;> intro hc27 <;> try (cases hc27; done)
    all_goals refine st ?_)
  all_goals first
  | fail_if_success with_reducible refine atR 11 ?_
  | (
    refine rg 11 [] [some 2] 1 ?_
    all_goals refine qP ?_
    all_goals refine qE ?_)
  all_goals first
  | fail_if_success with_reducible refine atR 12 ?_
  | (
    refine rg 12 [] [some 28, some 29, some 30, some 7] 4 ?_
    all_goals refine qP ?_
    all_goals (
      refine qL_cons ?_
      intro R hR
      refine sm ?_
      refine call_fun (toTOp_ v true hv) [] ?_ (.inl rfl) ?_
      · exact ⟨.inl rfl, ⟨.inl rfl, trivial⟩⟩
      refine sm ?_
      all_goals (refine hR _ ?_; clear hR R))
    all_goals (
      refine qL_cons ?_
      intro R hR
      refine sm ?_
      refine call_fun (implOpOk_all v.kind v.br v.who v.path v.to v.at_ v.text (by omega) (by omega)) [] ?_ (.inl rfl) ?_
      · exact ⟨.inr (.inl (toOp_bare v true).symm), trivial⟩
      refine sm ?_
      all_goals (refine hR _ ?_; clear hR R))
    all_goals refine qP ?_
    all_goals refine qE ?_)
  all_goals first
  | fail_if_success with_reducible refine atR 13 ?_
  | (
    refine rg 13 [] [some 31, some 32, some 33] 3 ?_
    all_goals iterate 3 refine qP ?_
    all_goals refine qE ?_)
  all_goals first
  | fail_if_success with_reducible refine atC 33 ?_
  | (
    refine cn 33 ?_ ?_ <;> intro hc33 <;> try (cases hc33; done)
    all_goals refine st ?_)
  all_goals first
  | fail_if_success with_reducible refine atR 14 ?_
  | (
    refine rg 14 [] [some 2] 1 ?_
    all_goals refine qP ?_
    all_goals refine qE ?_)
  all_goals first
  | fail_if_success with_reducible refine atR 15 ?_
  | (
    refine rg 15 [] [some 2] 1 ?_
    all_goals refine qP ?_
    all_goals refine qE ?_)
  all_goals first
  | fail_if_success with_reducible refine ret_fun (t := 2) ?_ ?_
  | (
    refine ret_fun (t := 2) ?_ (fun _ => rfl)
    first
    | exact cl
    | (
      try refine sm ?_
      all_goals (
       simp_all)))

end
end Go.Proofs.YtkbnkcdaiahoeaaDoor
namespace Go.Proofs.YtkbnkcdaiahoeaaDoor
open Go Go.RowKit Go.Shelf
set_option maxRecDepth 100000
set_option maxHeartbeats 4000000
set_option linter.unusedSimpArgs false
set_option linter.unusedVariables false
def opPutB (kind : Int) (br who path to : ByteArray) (at_ : Int) (text : List ByteArray) : ByteArray := if opB kind br who path to at_ text = true then putB kind br who path to at_ text else ⟨#[]⟩
theorem op_at {k : Int} {br who path to : ByteArray} {at_ : Int} {text : List ByteArray} (hk : k = 6 ∨ k = 7) (h : opB k br who path to at_ text = true) : 0 ≤ at_ ∧ at_ ≤ 15 := by
  unfold opB at h
  rw [if_neg (by omega), if_neg (by omega), if_neg (by omega), if_neg (by omega), if_pos hk] at h
  simp only [Bool.and_eq_true, withinB, decide_eq_true_eq] at h
  exact ⟨h.2.2.1, h.2.2.2⟩
attribute [local go_sem] List.size_toArray Int.toNat_zero Nat.sub_zero size_mk top_val eq_self datL X.dat u8min u8max i64min i64max stepT gdO aop ev lit litOk putF fzX_false putO upd app List.contains_nil List.elem_nil aBin aInt aStr aBool aLen lenTy aBuiltin aLoad aTake aTakeX aStore splice aSlice aBd look_cons look_nil lookC_cons lookC_nil by_s by_C start_s start_C X.cells X.cell List.all_cons List.all_nil Bool.and_self Bool.not_true Bool.not_false false_implies true_implies forall_const and_true true_and and_self implies_true not_false_eq_true Nat.zero_add Nat.add_zero List.getD_cons_zero List.getD_cons_succ List.map_cons List.map_nil Option.bind_some Option.map_some Option.map_none List.getElem?_cons_zero List.getElem?_cons_succ List.length_cons List.length_nil List.drop_zero List.drop_succ_cons List.take_succ_cons List.take_zero List.cons_append List.nil_append List.append_nil D.of List.length_map all_get_map Option.isSome_some and_false false_and Nat.lt_add_one Nat.zero_lt_succ decide_true decide_false aPart aSl2 Nat.lt_irrefl fzX litEs List.contains_cons List.elem_cons Bool.true_or Bool.or_true Bool.false_or Bool.or_false beq_self_eq_true
section
attribute [local go_sem] tsz9 tsz39 tel39 toNat_cast und9 und4 und5b tsz44 tfld44 tsz3' sS
theorem implPut_bad (kind : Int) (br who path to : ByteArray) (at_ : Int) (text : List ByteArray) (hb : br.size ≤ 1000000) (hw : who.size ≤ 1000000) (hp : path.size ≤ 1000000) (ht : to.size ≤ 1000000) (hl : text.length ≤ 1000000) (hls : ∀ l ∈ text, l.size ≤ 1000000) (ho : opB kind br who path to at_ text = false) : Fun Tryd.prog 25 [.ag [.d (.int .i64 kind), .d (.str br), .d (.str who), .d (.str path), .d (.str to), .d (.int .i64 at_), .d (strs text)]] (.d (.str ⟨#[]⟩)) := by
  refine Fun.of ?_ rfl rfl
  refine Spec.of (fn := Tryd.f25) Tryd.func25 rfl (by kernel_rfl) (rs := [.tmp 2]) rfl 1 (by simp [Tryd.f25]) rfl (by simp) ?_
  intro hreal
  rintro ⟨P, T, L0, w0, ι0, C0, U0⟩ hP hT hU
  subst hP hT
  refine st ?_
  all_goals first
  | fail_if_success with_reducible refine atR 0 ?_
  | (
    refine rg 0 [] [some 1, some 2] 2 ?_
    all_goals iterate 2 refine qP ?_
    all_goals refine qE ?_)
  all_goals first
  | fail_if_success with_reducible refine atR 1 ?_
  | (
    refine rg 1 [] [some 6, some 7, some 8] 3 ?_
    all_goals refine qP ?_
    all_goals (
      refine qL_cons ?_
      intro R hR
      refine sm ?_
      refine call_fun (implOpOk_all kind br who path to at_ text hp ht) [] ?_ (.inl rfl) ?_
      · exact ⟨.inl rfl, trivial⟩
      refine sm ?_
      simp only [ho]
      all_goals (refine hR _ ?_; clear hR R))
    all_goals refine qP ?_
    all_goals refine qE ?_)
  all_goals first
  | fail_if_success with_reducible refine atC 8 ?_
  | (
    refine cn 8 ?_ ?_ <;> intro hc8 <;> try (cases hc8; done)
    all_goals refine st ?_)
  all_goals try (exfalso; simp_all; done)
  all_goals first
  | fail_if_success with_reducible refine atR 2 ?_
  | (
    refine rg 2 [] [some 2] 1 ?_
    all_goals refine qP ?_
    all_goals refine qE ?_)
  all_goals first
  | fail_if_success with_reducible refine ret_fun (t := 2) ?_ ?_
  | (
    refine ret_fun (t := 2) ?_ (fun _ => rfl)
    first
    | exact cl
    | (
      try refine sm ?_
      all_goals (
       rfl)))

theorem implPut_all (kind : Int) (br who path to : ByteArray) (at_ : Int) (text : List ByteArray) (hb : br.size ≤ 1000000) (hw : who.size ≤ 1000000) (hp : path.size ≤ 1000000) (ht : to.size ≤ 1000000) (hl : text.length ≤ 1000000) (hls : ∀ l ∈ text, l.size ≤ 1000000) : Fun Tryd.prog 25 [.ag [.d (.int .i64 kind), .d (.str br), .d (.str who), .d (.str path), .d (.str to), .d (.int .i64 at_), .d (strs text)]] (.d (.str (opPutB kind br who path to at_ text))) := by
  unfold opPutB
  cases h : opB kind br who path to at_ text with
  | false =>
    rw [if_neg (by simp)]
    exact implPut_bad kind br who path to at_ text hb hw hp ht hl hls h
  | true =>
    rw [if_pos rfl]
    have hk : ¬ (kind < 1 ∨ 7 < kind) := by
      intro hk
      rw [op_out hk] at h
      cases h
    have : kind = 1 ∨ kind = 2 ∨ kind = 3 ∨ kind = 4 ∨ kind = 5 ∨ kind = 6 ∨ kind = 7 := by omega
    rcases this with rfl | rfl | rfl | rfl | rfl | rfl | rfl
    · exact implPut_1 br who path to at_ text hb hw hp ht hl hls h
    · exact implPut_2 br who path to at_ text hb hw hp ht hl hls h
    · exact implPut_3 br who path to at_ text hb hw hp ht hl hls h
    · exact implPut_4 br who path to at_ text hb hw hp ht hl hls h
    · exact implPut_5 br who path to at_ text hb hw hp ht hl hls h
    · exact implPut_6 br who path to at_ text hb hw hp ht hl hls (op_at (by omega) h) h
    · exact implPut_7 br who path to at_ text hb hw hp ht hl hls (op_at (by omega) h) h
theorem l19Put_all (kind : Int) (br who path to : ByteArray) (at_ : Int) (text : List ByteArray) (hb : br.size ≤ 1000000) (hw : who.size ≤ 1000000) (hp : path.size ≤ 1000000) (ht : to.size ≤ 1000000) (hl : text.length ≤ 1000000) (hls : ∀ l ∈ text, l.size ≤ 1000000) (h : opB kind br who path to at_ text = true) : Fun Tryd.prog 54 [.ag [.d (.int .i64 kind), .d (.str br), .d (.str who), .d (.str path), .d (.str to), .d (.int .i64 at_), .d (strs text)]] (.d (.str (putB kind br who path to at_ text))) := by
  have hk : ¬ (kind < 1 ∨ 7 < kind) := by
    intro hk
    rw [op_out hk] at h
    cases h
  have : kind = 1 ∨ kind = 2 ∨ kind = 3 ∨ kind = 4 ∨ kind = 5 ∨ kind = 6 ∨ kind = 7 := by omega
  rcases this with rfl | rfl | rfl | rfl | rfl | rfl | rfl
  · exact l19Put_1 br who path to at_ text hb hw hp ht hl hls
  · exact l19Put_2 br who path to at_ text hb hw hp ht hl hls
  · exact l19Put_3 br who path to at_ text hb hw hp ht hl hls
  · exact l19Put_4 br who path to at_ text hb hw hp ht hl hls
  · exact l19Put_5 br who path to at_ text hb hw hp ht hl hls
  · exact l19Put_6 br who path to at_ text hb hw hp ht hl hls (op_at (by omega) h)
  · exact l19Put_7 br who path to at_ text hb hw hp ht hl hls (op_at (by omega) h)
end
section
attribute [local go_sem] tsz9 tsz39 tel39 toNat_cast und9 und4 und5b tsz44 tfld44 tsz3' sS
theorem specPut_true (kind : Int) (br who path to : ByteArray) (at_ : Int) (text : List ByteArray) (hb : br.size ≤ 1000000) (hw : who.size ≤ 1000000) (hp : path.size ≤ 1000000) (ht : to.size ≤ 1000000) (hl : text.length ≤ 1000000) (hls : ∀ l ∈ text, l.size ≤ 1000000) (ho : opB kind br who path to at_ text = true) : Fun Tryd.prog 24 [.ag [.d (.int .i64 kind), .d (.str br), .d (.str who), .d (.str path), .d (.str to), .d (.int .i64 at_), .d (strs text)]] (.d (.str (putB kind br who path to at_ text))) := by
  refine Fun.of ?_ rfl rfl
  refine Spec.of (fn := Tryd.f24) Tryd.func24 rfl (by kernel_rfl) (rs := [.tmp 2]) rfl 1 (by simp [Tryd.f24]) rfl (by simp) ?_
  intro hreal
  rintro ⟨P, T, L0, w0, ι0, C0, U0⟩ hP hT hU
  subst hP hT
  refine st ?_
  all_goals first
  | fail_if_success with_reducible refine atR 0 ?_
  | (
    refine rg 0 [] [some 1, some 2] 2 ?_
    all_goals iterate 2 refine qP ?_
    all_goals refine qE ?_)
  all_goals first
  | fail_if_success with_reducible refine atR 1 ?_
  | (
    refine rg 1 [] [some 3, some 4, some 5] 3 ?_
    all_goals refine qP ?_
    all_goals (
      refine qL_cons ?_
      intro R hR
      refine sm ?_
      refine call_fun (l19Ok_all kind br who path to at_ text hp ht) [] ?_ (.inl rfl) ?_
      · exact ⟨.inl rfl, trivial⟩
      refine sm ?_
      simp only [ho]
      all_goals (refine hR _ ?_; clear hR R))
    all_goals refine qP ?_
    all_goals refine qE ?_)
  all_goals first
  | fail_if_success with_reducible refine atC 5 ?_
  | (
    refine cn 5 ?_ ?_ <;> intro hc5 <;> try (cases hc5; done)
    all_goals refine st ?_)
  all_goals try (exfalso; simp_all; done)
  all_goals first
  | fail_if_success with_reducible refine atR 2 ?_
  | (
    refine rg 2 [] [some 2] 1 ?_
    all_goals refine qP ?_
    all_goals refine qE ?_)
  all_goals first
  | fail_if_success with_reducible refine atR 3 ?_
  | (
    refine rg 3 [] [some 6, some 7, some 2] 3 ?_
    all_goals refine qP ?_
    all_goals (
      refine qL_cons ?_
      intro R hR
      refine sm ?_
      refine call_fun (l19Put_all kind br who path to at_ text hb hw hp ht hl hls ho) [] ?_ (.inl rfl) ?_
      · exact ⟨.inl rfl, trivial⟩
      refine sm ?_
      all_goals (refine hR _ ?_; clear hR R))
    all_goals refine qP ?_
    all_goals refine qE ?_)
  all_goals first
  | fail_if_success with_reducible refine ret_fun (t := 2) ?_ ?_
  | (
    refine ret_fun (t := 2) ?_ (fun _ => rfl)
    first
    | exact cl
    | (
      try refine sm ?_
      all_goals (
       rfl)))

end
section
attribute [local go_sem] tsz9 tsz39 tel39 toNat_cast und9 und4 und5b tsz44 tfld44 tsz3' sS
theorem specPut_false (kind : Int) (br who path to : ByteArray) (at_ : Int) (text : List ByteArray) (hb : br.size ≤ 1000000) (hw : who.size ≤ 1000000) (hp : path.size ≤ 1000000) (ht : to.size ≤ 1000000) (hl : text.length ≤ 1000000) (hls : ∀ l ∈ text, l.size ≤ 1000000) (ho : opB kind br who path to at_ text = false) : Fun Tryd.prog 24 [.ag [.d (.int .i64 kind), .d (.str br), .d (.str who), .d (.str path), .d (.str to), .d (.int .i64 at_), .d (strs text)]] (.d (.str ⟨#[]⟩)) := by
  refine Fun.of ?_ rfl rfl
  refine Spec.of (fn := Tryd.f24) Tryd.func24 rfl (by kernel_rfl) (rs := [.tmp 2]) rfl 1 (by simp [Tryd.f24]) rfl (by simp) ?_
  intro hreal
  rintro ⟨P, T, L0, w0, ι0, C0, U0⟩ hP hT hU
  subst hP hT
  refine st ?_
  all_goals first
  | fail_if_success with_reducible refine atR 0 ?_
  | (
    refine rg 0 [] [some 1, some 2] 2 ?_
    all_goals iterate 2 refine qP ?_
    all_goals refine qE ?_)
  all_goals first
  | fail_if_success with_reducible refine atR 1 ?_
  | (
    refine rg 1 [] [some 3, some 4, some 5] 3 ?_
    all_goals refine qP ?_
    all_goals (
      refine qL_cons ?_
      intro R hR
      refine sm ?_
      refine call_fun (l19Ok_all kind br who path to at_ text hp ht) [] ?_ (.inl rfl) ?_
      · exact ⟨.inl rfl, trivial⟩
      refine sm ?_
      simp only [ho]
      all_goals (refine hR _ ?_; clear hR R))
    all_goals refine qP ?_
    all_goals refine qE ?_)
  all_goals first
  | fail_if_success with_reducible refine atC 5 ?_
  | (
    refine cn 5 ?_ ?_ <;> intro hc5 <;> try (cases hc5; done)
    all_goals refine st ?_)
  all_goals try (exfalso; simp_all; done)
  all_goals first
  | fail_if_success with_reducible refine atR 2 ?_
  | (
    refine rg 2 [] [some 2] 1 ?_
    all_goals refine qP ?_
    all_goals refine qE ?_)
  all_goals first
  | fail_if_success with_reducible refine ret_fun (t := 2) ?_ ?_
  | (
    refine ret_fun (t := 2) ?_ (fun _ => rfl)
    first
    | exact cl
    | (
      try refine sm ?_
      all_goals (
       rfl)))

theorem specPut_all (kind : Int) (br who path to : ByteArray) (at_ : Int) (text : List ByteArray) (hb : br.size ≤ 1000000) (hw : who.size ≤ 1000000) (hp : path.size ≤ 1000000) (ht : to.size ≤ 1000000) (hl : text.length ≤ 1000000) (hls : ∀ l ∈ text, l.size ≤ 1000000) : Fun Tryd.prog 24 [.ag [.d (.int .i64 kind), .d (.str br), .d (.str who), .d (.str path), .d (.str to), .d (.int .i64 at_), .d (strs text)]] (.d (.str (opPutB kind br who path to at_ text))) := by
  unfold opPutB
  cases h : opB kind br who path to at_ text with
  | false =>
    rw [if_neg (by simp)]
    exact specPut_false kind br who path to at_ text hb hw hp ht hl hls h
  | true =>
    rw [if_pos rfl]
    exact specPut_true kind br who path to at_ text hb hw hp ht hl hls h
theorem szGo_mem : ∀ (l : List ByteArray) (x : Int), 0 ≤ x → 0 ≤ szGo l x → ∀ s ∈ l, (s.size : Int) ≤ x
  | s :: r, x, h0, h, y, hy => by
    simp only [szGo] at h
    split at h
    · omega
    · rcases List.mem_cons.1 hy with rfl | hy
      · omega
      · have := szGo_mem r _ (by omega) h y hy
        omega
theorem szS_mem {l : List ByteArray} {left : Int} (h0 : 0 ≤ left) (h : 0 ≤ szS l left) : ∀ s ∈ l, (s.size : Int) ≤ left := by
  unfold szS at h
  split at h
  · omega
  · intro s hs
    have := szGo_mem l _ (by omega) h s hs
    omega
theorem szOp_all {v : Op_} {left : Int} (h0 : 0 ≤ left) (h : 0 ≤ szOp_ v left) : (v.br.size : Int) ≤ left ∧ (v.who.size : Int) ≤ left ∧ (v.path.size : Int) ≤ left ∧ (v.to.size : Int) ≤ left ∧ (v.text.length : Int) ≤ left ∧ ∀ s ∈ v.text, (s.size : Int) ≤ left := by
  have ht := szOp__text h0 h
  simp only [szOp_] at h
  split at h
  · omega
  · split at h
    · omega
    · split at h
      · omega
      · split at h
        · omega
        · split at h
          · omega
          · refine ⟨by omega, by omega, by omega, by omega, ht, fun s hs => ?_⟩
            have := szS_mem (l := v.text) (by omega) h s hs
            omega
end
section
attribute [local go_sem] tsz9 tsz39 tel39 toNat_cast und9 und4 tsz44 tfld44 tsz3' tsz41 tfld41 zero44 toOp_ toS_false
theorem opPut_law (v : Op_) : Fun Tryd.prog 7 [.ag [.d (.int .i64 v.kind), .d (.str v.br), .d (.str v.who), .d (.str v.path), .d (.str v.to), .d (.int .i64 v.at_), .d (strs v.text)]] (.d (.bool true)) := by
  refine Fun.of ?_ rfl rfl
  refine Spec.of (fn := Tryd.f7) Tryd.func7 rfl (by kernel_rfl) (rs := [.tmp 2]) rfl 1 (by simp [Tryd.f7]) rfl (by simp) ?_
  intro hreal
  rintro ⟨P, T, L0, w0, ι0, C0, U0⟩ hP hT hU
  subst hP hT
  refine st ?_
  all_goals first
  | fail_if_success with_reducible refine atR 0 ?_
  | (
    refine rg 0 [] [some 1, some 2] 2 ?_
    all_goals iterate 2 refine qP ?_
    all_goals refine qE ?_)
  all_goals first
  | fail_if_success with_reducible refine atR 1 ?_
  | (
    refine rg 1 [] [some 3] 1 ?_
    all_goals refine qP ?_
    all_goals refine qE ?_)
  all_goals first
  | fail_if_success with_reducible refine atR 2 ?_
  | (
    refine rg 2 [] [some 8, some 9, some 10, some 3] 4 ?_
    all_goals iterate 2 refine qP ?_
    all_goals (
      refine qL_cons ?_
      intro R hR
      refine sm ?_
      refine call_fun (szTOp_ v 1000000 (by omega) (by omega)) [] ?_ (.inl rfl) ?_
      · exact ⟨.inl rfl, ⟨.inl rfl, trivial⟩⟩
      refine sm ?_
      all_goals (refine hR _ ?_; clear hR R))
    all_goals refine qP ?_
    all_goals refine qE ?_)
  all_goals first
  | fail_if_success with_reducible refine atR 3 ?_
  | (
    refine rg 3 [] [some 11, some 12] 2 ?_
    all_goals iterate 2 refine qP ?_
    all_goals refine qE ?_)
  all_goals first
  | fail_if_success with_reducible refine atC 12 ?_
  | (
    refine cn 12 ?_ ?_ <;> intro hc12 <;> try (cases hc12; done)
    all_goals refine st ?_)
  all_goals first
  | fail_if_success with_reducible refine atR 4 ?_
  | (
    refine rg 4 [] [some 2] 1 ?_
    all_goals refine qP ?_
    all_goals refine qE ?_)
  all_goals first
  | fail_if_success with_reducible refine ret_fun (t := 2) ?_ ?_
  | (
    refine ret_fun (t := 2) ?_ (fun _ => rfl)
    first
    | exact cl
    | (
      try refine sm ?_
      all_goals (
       rfl)))
  obtain ⟨q1, q2, q3, q4, q5, q6⟩ := szOp_all (v := v) (left := 1000000) (by omega) (by omega)
  have hb : v.br.size ≤ 1000000 := by omega
  have hw : v.who.size ≤ 1000000 := by omega
  have hp : v.path.size ≤ 1000000 := by omega
  have ht : v.to.size ≤ 1000000 := by omega
  have hv : v.text.length ≤ 1000000 := by omega
  have hls : ∀ l ∈ v.text, l.size ≤ 1000000 := fun l hl => by have := q6 l hl; omega
  all_goals first
  | fail_if_success with_reducible refine atR 5 ?_
  | (
    refine rg 5 [] [some 13, some 14, some 15, some 4] 4 ?_
    all_goals refine qP ?_
    all_goals (
      refine qL_cons ?_
      intro R hR
      refine sm ?_
      refine call_fun (toTOp_ v false hv) [] ?_ (.inl rfl) ?_
      · exact ⟨.inl rfl, ⟨.inl rfl, trivial⟩⟩
      refine sm ?_
      all_goals (refine hR _ ?_; clear hR R))
    all_goals (
      refine qL_cons ?_
      intro R hR
      refine sm ?_
      refine call_fun (specPut_all v.kind v.br v.who v.path v.to v.at_ v.text hb hw hp ht hv hls) [] ?_ (.inl rfl) ?_
      · exact ⟨.inr (.inl (toOp_bare v false).symm), trivial⟩
      refine sm ?_
      all_goals (refine hR _ ?_; clear hR R))
    all_goals refine qP ?_
    all_goals refine qE ?_)
  all_goals first
  | fail_if_success with_reducible refine atR 6 ?_
  | (
    refine rg 6 [] [some 16, some 17, some 5, none] 4 ?_
    all_goals refine qP ?_
    all_goals (
      refine qL_cons ?_
      intro R hR
      refine sm ?_
      refine call_fun (toTOp_ v false hv) [] ?_ (.inl rfl) ?_
      · exact ⟨.inl rfl, ⟨.inl rfl, trivial⟩⟩
      refine sm ?_
      all_goals (refine hR _ ?_; clear hR R))
    all_goals iterate 2 refine qP ?_
    all_goals refine qE ?_)
  all_goals first
  | fail_if_success with_reducible refine atR 7 ?_
  | (
    refine rg 7 [] [some 18, some 19, some 6] 3 ?_
    all_goals refine qP ?_
    all_goals (
      refine qL_cons ?_
      intro R hR
      refine sm ?_
      refine call_fun (implPut_all v.kind v.br v.who v.path v.to v.at_ v.text hb hw hp ht hv hls) [] ?_ (.inl rfl) ?_
      · exact ⟨.inr (.inl (toOp_bare v false).symm), trivial⟩
      refine sm ?_
      all_goals (refine hR _ ?_; clear hR R))
    all_goals refine qP ?_
    all_goals refine qE ?_)
  all_goals first
  | fail_if_success with_reducible refine atR 8 ?_
  | (
    refine rg 8 [] [some 20, some 21, some 22] 3 ?_
    all_goals iterate 3 refine qP ?_
    all_goals refine qE ?_)
  all_goals first
  | fail_if_success with_reducible refine atC 22 ?_
  | (
    refine cn 22 ?_ ?_ <;> intro hc22 <;> try (cases hc22; done)
    all_goals refine st ?_)
  all_goals first
  | fail_if_success with_reducible refine atR 9 ?_
  | (
    refine rg 9 [] [some 2] 1 ?_
    all_goals refine qP ?_
    all_goals refine qE ?_)
  all_goals first
  | fail_if_success with_reducible refine atR 10 ?_
  | (
    refine rgD 10 [] [some 23, some 24, some 25, some 26, some 27] 5 6 ?_
    intro av hav
    have hf1 := freeD 1 hav
    have hf16 := freeD 16 hav
    all_goals (
      refine qL_cons ?_
      intro R hR
      simp only [go_sem, reduceIte, reduceCtorEq, Nat.reduceAdd, Nat.reduceEqDiff, Nat.reduceLeDiff, Nat.reduceLT, Nat.reduceSub, Int.reduceLE, Int.reduceNeg, Int.reduceLT, hf1, hf16]
      all_goals (refine hR _ ?_; clear hR R))
    all_goals (
      refine qL_cons ?_
      intro R hR
      simp only [go_sem, reduceIte, reduceCtorEq, Nat.reduceAdd, Nat.reduceEqDiff, Nat.reduceLeDiff, Nat.reduceLT, Nat.reduceSub, Int.reduceLE, Int.reduceNeg, Int.reduceLT, hf1, hf16]
      all_goals (refine hR _ ?_; clear hR R))
    all_goals (
      refine qL_cons ?_
      intro R hR
      simp only [go_sem, reduceIte, reduceCtorEq, Nat.reduceAdd, Nat.reduceEqDiff, Nat.reduceLeDiff, Nat.reduceLT, Nat.reduceSub, Int.reduceLE, Int.reduceNeg, Int.reduceLT, hf1, hf16]
      refine call_fun (toTOp_ v false hv) [] ?_ (.inl rfl) ?_
      · exact ⟨.inl rfl, ⟨.inl rfl, trivial⟩⟩
      simp only [go_sem, reduceIte, reduceCtorEq, Nat.reduceAdd, Nat.reduceEqDiff, Nat.reduceLeDiff, Nat.reduceLT, Nat.reduceSub, Int.reduceLE, Int.reduceNeg, Int.reduceLT, hf1, hf16]
      all_goals (refine hR _ ?_; clear hR R))
    all_goals (
      refine qL_cons ?_
      intro R hR
      simp only [go_sem, reduceIte, reduceCtorEq, Nat.reduceAdd, Nat.reduceEqDiff, Nat.reduceLeDiff, Nat.reduceLT, Nat.reduceSub, Int.reduceLE, Int.reduceNeg, Int.reduceLT, hf1, hf16]
      refine call_fun (inTOp_ v hv) [] ?_ (.inl rfl) ?_
      · exact ⟨.inl rfl, ⟨.inl rfl, trivial⟩⟩
      simp only [go_sem, reduceIte, reduceCtorEq, Nat.reduceAdd, Nat.reduceEqDiff, Nat.reduceLeDiff, Nat.reduceLT, Nat.reduceSub, Int.reduceLE, Int.reduceNeg, Int.reduceLT, hf1, hf16]
      all_goals (refine hR _ ?_; clear hR R))
    all_goals refine qP ?_
    all_goals refine qE ?_
    all_goals clear hf1 hf16 hav av)
  all_goals first
  | fail_if_success with_reducible refine atC 27 ?_
  | (
    refine cn 27 ?_ ?_ <;> intro hc27 <;> try (cases hc27; done)
    all_goals refine st ?_)
  all_goals first
  | fail_if_success with_reducible refine atR 11 ?_
  | (
    refine rg 11 [] [some 2] 1 ?_
    all_goals refine qP ?_
    all_goals refine qE ?_)
  all_goals first
  | fail_if_success with_reducible refine atR 12 ?_
  | (
    refine rg 12 [] [some 28, some 29, some 30, some 7] 4 ?_
    all_goals refine qP ?_
    all_goals (
      refine qL_cons ?_
      intro R hR
      refine sm ?_
      refine call_fun (toTOp_ v true hv) [] ?_ (.inl rfl) ?_
      · exact ⟨.inl rfl, ⟨.inl rfl, trivial⟩⟩
      refine sm ?_
      all_goals (refine hR _ ?_; clear hR R))
    all_goals (
      refine qL_cons ?_
      intro R hR
      refine sm ?_
      refine call_fun (implPut_all v.kind v.br v.who v.path v.to v.at_ v.text hb hw hp ht hv hls) [] ?_ (.inl rfl) ?_
      · exact ⟨.inr (.inl (toOp_bare v true).symm), trivial⟩
      refine sm ?_
      all_goals (refine hR _ ?_; clear hR R))
    all_goals refine qP ?_
    all_goals refine qE ?_)
  all_goals first
  | fail_if_success with_reducible refine atR 13 ?_
  | (
    refine rg 13 [] [some 31, some 32, some 33] 3 ?_
    all_goals iterate 3 refine qP ?_
    all_goals refine qE ?_)
  all_goals first
  | fail_if_success with_reducible refine atC 33 ?_
  | (
    refine cn 33 ?_ ?_ <;> intro hc33 <;> try (cases hc33; done)
    all_goals refine st ?_)
  all_goals first
  | fail_if_success with_reducible refine atR 14 ?_
  | (
    refine rg 14 [] [some 2] 1 ?_
    all_goals refine qP ?_
    all_goals refine qE ?_)
  all_goals first
  | fail_if_success with_reducible refine atR 15 ?_
  | (
    refine rg 15 [] [some 2] 1 ?_
    all_goals refine qP ?_
    all_goals refine qE ?_)
  all_goals first
  | fail_if_success with_reducible refine ret_fun (t := 2) ?_ ?_
  | (
    refine ret_fun (t := 2) ?_ (fun _ => rfl)
    first
    | exact cl
    | (
      try refine sm ?_
      all_goals (
       simp_all)))

end
end Go.Proofs.YtkbnkcdaiahoeaaDoor
