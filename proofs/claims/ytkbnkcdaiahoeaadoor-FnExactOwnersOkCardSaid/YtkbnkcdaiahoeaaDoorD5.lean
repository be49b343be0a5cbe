/- the law FnExactOwnersOk over data. No condition. -/
import Derived.Test.YtkbnkcdaiahoeaaDoorD4
namespace Go.Proofs.YtkbnkcdaiahoeaaDoor
open Go Go.RowKit
set_option maxRecDepth 100000
set_option maxHeartbeats 4000000
set_option linter.unusedSimpArgs false
set_option linter.unusedVariables false
attribute [local go_sem] List.size_toArray Int.toNat_zero Nat.sub_zero size_mk top_val eq_self datL X.dat u8min u8max i64min i64max stepT gdO aop ev lit litOk putF fzX_false putO upd app List.contains_nil List.elem_nil aBin aInt aStr aBool aLen lenTy aBuiltin aLoad aTake aTakeX aStore splice aSlice aBd look_cons look_nil lookC_cons lookC_nil by_s by_C start_s start_C X.cells X.cell List.all_cons List.all_nil Bool.and_self Bool.not_true Bool.not_false false_implies true_implies forall_const and_true true_and and_self implies_true not_false_eq_true Nat.zero_add Nat.add_zero List.getD_cons_zero List.getD_cons_succ List.map_cons List.map_nil Option.bind_some Option.map_some Option.map_none List.getElem?_cons_zero List.getElem?_cons_succ List.length_cons List.length_nil List.drop_zero List.drop_succ_cons List.take_succ_cons List.take_zero List.cons_append List.nil_append List.append_nil D.of List.length_map all_get_map Option.isSome_some and_false false_and Nat.lt_add_one Nat.zero_lt_succ decide_true decide_false aPart aSl2 Nat.lt_irrefl fzX litEs List.contains_cons List.elem_cons Bool.true_or Bool.or_true Bool.false_or Bool.or_false beq_self_eq_true
theorem arg_bare {av : Nat → Prop} {C : Caps} {bor : List Nat} {x y : X} (h : x.bare = y) (ho : x.on (fun _ => false) = true) : aArg av C x y bor := by
  cases x <;> first | exact .inr h.symm | exact .inr (.inl h.symm) | (simp [X.on] at ho)
theorem szOw_path {v : Ow} {left : Int} (h0 : 0 ≤ left) (h : 0 ≤ szOw v left) : (v.path.size : Int) ≤ left := by
  simp only [szOw] at h
  split at h
  · omega
  · split at h
    · omega
    · omega
theorem szOws_hs {os : List Ow} {left : Int} (h0 : 0 ≤ left) (h1 : left ≤ 1000000) (h : 0 ≤ szOws os left) : ∀ o ∈ os, o.path.size ≤ 1000000 := by
  intro v hv
  obtain ⟨y, h2, h3, h4⟩ := szOws_mem h0 h v hv
  have := szOw_path h2 h4
  omega
section
attribute [local go_sem] tsz9 tsz35 tfld35 tel25 toNat_cast und9 und4 zero35 tsz53 tfld53 tel22
theorem ownersOk_law (os : List Ow) : Fun Tryd.prog 3 [.d (.of owX os)] (.d (.bool true)) := by
  refine Fun.of ?_ rfl rfl
  refine Spec.of (fn := Tryd.f3) Tryd.func3 rfl (by kernel_rfl) (rs := [.tmp 2]) rfl 1 (by simp [Tryd.f3]) rfl (by simp) ?_
  intro hreal
  rintro ⟨P, T, L0, w0, ι0, C0, U0⟩ hP hT hU
  subst hP hT
  refine st ?_
  all_goals first
  | fail_if_success with_reducible refine atR 0 ?_
  | (
    refine rg 0 [] [some 2] 1 ?_
    all_goals refine qP ?_
    all_goals refine qE ?_)
  all_goals first
  | fail_if_success with_reducible refine atR 1 ?_
  | (
    refine rg 1 [] [some 3] 1 ?_
    all_goals refine qP ?_
    all_goals refine qE ?_)
  all_goals first
  | fail_if_success with_reducible refine atR 2 ?_
  | (
    refine rg 2 [] [some 8, some 9, some 10, some 3] 4 ?_
    all_goals iterate 2 refine qP ?_
    all_goals (
      refine qL_cons ?_
      intro R hR
      refine sm ?_
      refine call_fun (szTOws os 1000000 (by omega) (by omega)) [] ?_ (.inl rfl) ?_
      · exact ⟨.inl rfl, ⟨.inl rfl, trivial⟩⟩
      refine sm ?_
      all_goals (refine hR _ ?_; clear hR R))
    all_goals refine qP ?_
    all_goals refine qE ?_)
  all_goals first
  | fail_if_success with_reducible refine atR 3 ?_
  | (
    refine rg 3 [] [some 11, some 12] 2 ?_
    all_goals iterate 2 refine qP ?_
    all_goals refine qE ?_)
  all_goals first
  | fail_if_success with_reducible refine atC 12 ?_
  | (
    refine cn 12 ?_ ?_ <;> intro hc12 <;> try (cases hc12; done)
    all_goals refine st ?_)
  all_goals try have hss : os.length ≤ 1000000 := by have := szOws_len (l := os) (left := 1000000) (by omega) (by omega); omega
  all_goals try have hel := szOws_hs (os := os) (left := 1000000) (by omega) (by omega) (by omega)
  all_goals first
  | fail_if_success with_reducible refine atR 4 ?_
  | (
    refine rg 4 [] [some 2] 1 ?_
    all_goals refine qP ?_
    all_goals refine qE ?_)
  all_goals first
  | fail_if_success with_reducible refine atR 5 ?_
  | (
    refine rg 5 [] [some 13, some 14, some 15, some 4] 4 ?_
    all_goals refine qP ?_
    all_goals (
      refine qL_cons ?_
      intro R hR
      refine sm ?_
      refine call_fun (toTOws os false hss (fun _ _ => trivial)) [] ?_ (.inl rfl) ?_
      · exact ⟨.inl rfl, ⟨.inl rfl, trivial⟩⟩
      refine sm ?_
      all_goals (refine hR _ ?_; clear hR R))
    all_goals (
      refine qL_cons ?_
      intro R hR
      refine sm ?_
      refine call_fun (specOwnersOk os hel) [] ?_ (.inl rfl) ?_
      · exact ⟨arg_bare (toOws_bare os false) (on_toOws _ os false), trivial⟩
      refine sm ?_
      all_goals (refine hR _ ?_; clear hR R))
    all_goals refine qP ?_
    all_goals refine qE ?_)
  all_goals first
  | fail_if_success with_reducible refine atR 6 ?_
  | (
    refine rg 6 [] [some 16, some 17, some 5] 3 ?_
    all_goals refine qP ?_
    all_goals (
      refine qL_cons ?_
      intro R hR
      refine sm ?_
      refine call_fun (toTOws os false hss (fun _ _ => trivial)) [] ?_ (.inl rfl) ?_
      · exact ⟨.inl rfl, ⟨.inl rfl, trivial⟩⟩
      refine sm ?_
      all_goals (refine hR _ ?_; clear hR R))
    all_goals refine qP ?_
    all_goals refine qE ?_)
  all_goals first
  | fail_if_success with_reducible refine atR 7 ?_
  | (
    refine rg 7 [] [some 18, some 19, some 6] 3 ?_
    all_goals refine qP ?_
    all_goals (
      refine qL_cons ?_
      intro R hR
      refine sm ?_
      refine call_fun (implOwnersOk os hel) [] ?_ (.inl rfl) ?_
      · exact ⟨arg_bare (toOws_bare os false) (on_toOws _ os false), trivial⟩
      refine sm ?_
      all_goals (refine hR _ ?_; clear hR R))
    all_goals refine qP ?_
    all_goals refine qE ?_)
  all_goals first
  | fail_if_success with_reducible refine atR 8 ?_
  | (
    refine rg 8 [] [some 20, some 21, some 22] 3 ?_
    all_goals iterate 3 refine qP ?_
    all_goals refine qE ?_)
  all_goals first
  | fail_if_success with_reducible refine atC 22 ?_
  | (
    refine cn 22 ?_ ?_ <;> intro hc22 <;> try (cases hc22; done)
    all_goals refine st ?_)
  all_goals first
  | fail_if_success with_reducible refine atR 9 ?_
  | (
    refine rg 9 [] [some 2] 1 ?_
    all_goals refine qP ?_
    all_goals refine qE ?_)
  all_goals first
  | fail_if_success with_reducible refine atR 10 ?_
  | (
    refine rg 10 [] [some 23, some 24, some 25, some 26, some 27] 5 ?_
    all_goals iterate 2 refine qP ?_
    all_goals (
      refine qL_cons ?_
      intro R hR
      refine sm ?_
      refine call_fun (toTOws os false hss (fun _ _ => trivial)) [] ?_ (.inl rfl) ?_
      · exact ⟨.inl rfl, ⟨.inl rfl, trivial⟩⟩
      refine sm ?_
      all_goals (refine hR _ ?_; clear hR R))
    all_goals (
      refine qL_cons ?_
      intro R hR
      refine sm ?_
      refine call_fun (inTOws os hss) [] ?_ (.inl rfl) ?_
      · exact ⟨.inl rfl, ⟨.inl rfl, trivial⟩⟩
      refine sm ?_
      all_goals (refine hR _ ?_; clear hR R))
    all_goals refine qP ?_
    all_goals refine qE ?_)
  all_goals first
  | fail_if_success with_reducible refine atC 27 ?_
  | (
    refine cn 27 ?_ ?_ <;> intro hc27 <;> try (cases hc27; done)
    all_goals refine st ?_)
  all_goals first
  | fail_if_success with_reducible refine atR 11 ?_
  | (
    refine rg 11 [] [some 2] 1 ?_
    all_goals refine qP ?_
    all_goals refine qE ?_)
  all_goals first
  | fail_if_success with_reducible refine atR 12 ?_
  | (
    refine rg 12 [] [some 28, some 29, some 30, some 7] 4 ?_
    all_goals refine qP ?_
    all_goals (
      refine qL_cons ?_
      intro R hR
      refine sm ?_
      refine call_fun (toTOws os true hss (fun _ _ => trivial)) [] ?_ (.inl rfl) ?_
      · exact ⟨.inl rfl, ⟨.inl rfl, trivial⟩⟩
      refine sm ?_
      all_goals (refine hR _ ?_; clear hR R))
    all_goals (
      refine qL_cons ?_
      intro R hR
      refine sm ?_
      refine call_fun (implOwnersOk os hel) [] ?_ (.inl rfl) ?_
      · exact ⟨arg_bare (toOws_bare os true) (on_toOws _ os true), trivial⟩
      refine sm ?_
      all_goals (refine hR _ ?_; clear hR R))
    all_goals refine qP ?_
    all_goals refine qE ?_)
  all_goals first
  | fail_if_success with_reducible refine atR 13 ?_
  | (
    refine rg 13 [] [some 31, some 32, some 33] 3 ?_
    all_goals iterate 3 refine qP ?_
    all_goals refine qE ?_)
  all_goals first
  | fail_if_success with_reducible refine atC 33 ?_
  | (
    refine cn 33 ?_ ?_ <;> intro hc33 <;> try (cases hc33; done)
    all_goals refine st ?_)
  all_goals first
  | fail_if_success with_reducible refine atR 14 ?_
  | (
    refine rg 14 [] [some 2] 1 ?_
    all_goals refine qP ?_
    all_goals refine qE ?_)
  all_goals first
  | fail_if_success with_reducible refine atR 15 ?_
  | (
    refine rg 15 [] [some 2] 1 ?_
    all_goals refine qP ?_
    all_goals refine qE ?_)
  all_goals first
  | fail_if_success with_reducible refine ret_fun (t := 2) ?_ ?_
  | (
    refine ret_fun (t := 2) ?_ (fun _ => rfl)
    first
    | exact cl
    | (
      try refine sm ?_
      all_goals (
       simp_all)))

end
end Go.Proofs.YtkbnkcdaiahoeaaDoor
