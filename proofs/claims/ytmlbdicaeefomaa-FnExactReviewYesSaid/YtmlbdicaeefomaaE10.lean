/- a copy of a review. No condition. -/
import Derived.Test.YtmlbdicaeefomaaE9
namespace Go.Proofs.Ytmlbdicaeefomaa
open Go Go.RowKit
set_option maxRecDepth 100000
set_option linter.unusedSimpArgs false
set_option linter.unusedVariables false
attribute [local go_sem] List.size_toArray Int.toNat_zero Nat.sub_zero size_mk top_val eq_self datL X.dat u8min u8max i64min i64max stepT gdO aop ev lit litOk putF fzX_false putO upd app List.contains_nil List.elem_nil aBin aInt aStr aBool aLen lenTy aBuiltin aLoad aTake aTakeX aStore splice aSlice aBd look_cons look_nil lookC_cons lookC_nil by_s by_C start_s start_C X.cells X.cell List.all_cons List.all_nil Bool.and_self Bool.not_true Bool.not_false false_implies true_implies forall_const and_true true_and and_self implies_true not_false_eq_true Nat.zero_add Nat.add_zero List.getD_cons_zero List.getD_cons_succ List.map_cons List.map_nil Option.bind_some Option.map_some Option.map_none List.getElem?_cons_zero List.getElem?_cons_succ List.length_cons List.length_nil List.drop_zero List.drop_succ_cons List.take_succ_cons List.take_zero List.cons_append List.nil_append List.append_nil D.of List.length_map all_get_map Option.isSome_some and_false false_and Nat.lt_add_one Nat.zero_lt_succ decide_true decide_false fzX litEs List.contains_cons List.elem_cons Bool.true_or Bool.or_true Bool.false_or Bool.or_false beq_self_eq_true
theorem zero27 : tzero Try.prog 27 = some [.d (.str ByteArray.empty), .d (.str ByteArray.empty), .d (.str ByteArray.empty), .nil] := by kernel_rfl
theorem toS_cases (ss : List ByteArray) (b : Bool) : toS ss b = .nil ∨ ∃ d, toS ss b = .d d := by
  unfold toS; split
  · exact .inl rfl
  · exact .inr ⟨_, rfl⟩
theorem bareL_sS (s : ByteArray) : D.bareL (sS s) = sS s := rfl
theorem toS_bare (ss : List ByteArray) (b : Bool) : (toS ss b).bare1 = .d (strs ss) := by
  unfold toS
  split
  · rename_i h
    have : ss = [] := by simp at h; exact h.2
    subst this; rfl
  · show X.d (D.bare (spOf _ _)) = _
    unfold spOf
    split
    · rename_i h
      have : List.replicate (room ss.length) spare = [] := by
        apply List.length_eq_zero_iff.1
        simp at h ⊢; omega
      simp only [this, List.append_nil, D.bare, bareLL_map, bareL_sS]; rfl
    · simp only [D.bare, bareLL_map, bareL_sS, D.of]
      congr 2
      rw [List.map_append, List.take_left' (by simp)]
def rvT (v : Rv) (b : Bool) : X := .ag [.d (.str v.br), .d (.str v.into), .d (.str v.by_), toS v.yes b]
theorem rvT_bare (v : Rv) (b : Bool) : (rvT v b).bare = .ag [.d (.str v.br), .d (.str v.into), .d (.str v.by_), .d (strs v.yes)] := by
  show X.ag [_, _, _, (toS v.yes b).bare1] = _
  rw [toS_bare]; rfl
theorem take_all {L : List ByteArray} {n : Nat} (h : L.length ≤ n) : (L.map sS).take n = L.map sS := List.take_of_length_le (by simpa using h)
theorem sS_len (L : List ByteArray) : ∀ x ∈ L.map sS, x.length = 1 := by
  intro x hx
  obtain ⟨s, -, rfl⟩ := List.mem_map.1 hx
  rfl
section
attribute [local go_sem] tsz9 tsz22 tsz27 tfld27 tsz24 tfld24 tel22 toNat_cast sS und9 zero27
theorem toReview_spec (v : Rv) (bare : Bool) (hv : v.yes.length ≤ 1000000) : Fun Try.prog 10 [.ag [.d (.str v.br), .d (.str v.into), .d (.str v.by_), .d (strs v.yes)], .d (.bool bare)] (rvT v bare) := by
  refine Fun.of ?_ rfl (by unfold rvT; rcases toS_cases v.yes bare with h | ⟨d, h⟩ <;> simp [X.on, X.onL, h])
  refine Spec.of (fn := Try.f10) Try.func10 rfl (by kernel_rfl) (rs := [.cell 4 27]) rfl 1 (by simp [Try.f10]) rfl (by simp) ?_
  intro hreal
  rintro ⟨P, T, L0, w0, ι0, C0, U0⟩ hP hT hU
  subst hP hT
  refine st ?_
  all_goals first
  | fail_if_success with_reducible refine atR 0 ?_
  | (
    refine rg 0 [] [some 2, some 4] 2 ?_
    all_goals iterate 2 refine qP ?_
    all_goals refine qE ?_)
  all_goals first
  | fail_if_success with_reducible refine atR 1 ?_
  | (
    refine rg 1 [] [some 5] 1 ?_
    all_goals refine qP ?_
    all_goals refine qE ?_)
  all_goals first
  | fail_if_success with_reducible refine atR 2 ?_
  | (
    refine rg 2 [] [some 6, some 7, some 8, none] 4 ?_
    all_goals iterate 4 refine qP ?_
    all_goals refine qE ?_)
  all_goals first
  | fail_if_success with_reducible refine atR 3 ?_
  | (
    refine rg 3 [] [some 9, some 10, some 11, none] 4 ?_
    all_goals iterate 4 refine qP ?_
    all_goals refine qE ?_)
  all_goals first
  | fail_if_success with_reducible refine atR 4 ?_
  | (
    refine rg 4 [] [some 12, some 13, some 14, none] 4 ?_
    all_goals iterate 4 refine qP ?_
    all_goals refine qE ?_)
  all_goals first
  | fail_if_success with_reducible refine atR 5 ?_
  | (
    refine rg 5 [] [some 15, some 16, some 17, some 18, some 19, none] 6 ?_
    all_goals iterate 3 refine qP ?_
    all_goals (
      refine qL_cons ?_
      intro R hR
      refine sm ?_
      refine call_fun (toStringS_spec v.yes bare hv) [] ?_ (.inl rfl) ?_
      · exact ⟨.inl rfl, ⟨.inl rfl, trivial⟩⟩
      refine sm ?_
      rcases toS_cases v.yes bare with hts | ⟨dd, hts⟩ <;> simp only [hts]
      all_goals (refine hR _ ?_; clear hR R))
    all_goals iterate 2 refine qP ?_
    all_goals refine qE ?_)
  all_goals first
  | fail_if_success with_reducible refine atR 6 ?_
  | (
    refine rg 6 [] [some 20, none] 2 ?_
    all_goals iterate 2 refine qP ?_
    all_goals refine qE ?_)
  all_goals (
    refine ret_cell (a := 4) (t := 27) ?_ (fun V => by unfold rvT; rcases toS_cases v.yes bare with h | ⟨d, h⟩ <;> simp [X.on, X.onL, h])
    simp only [go_sem, reduceIte, reduceCtorEq, Nat.reduceAdd, Nat.reduceEqDiff, Nat.reduceLeDiff, Nat.reduceLT, Nat.reduceSub, Int.reduceLE, Int.reduceNeg, Int.reduceLT, rvT, hts])

end
section
attribute [local go_sem] tsz9 tsz22 tsz27 tfld27 tsz24 tfld24 tel22 toNat_cast sS und9 zero27
theorem eqStringS_spec (a b : List ByteArray) : Fun Try.prog 62 [.d (strs a), .d (strs b)] (.d (.bool (decide (a = b)))) := by
  refine Fun.of ?_ rfl rfl
  refine Spec.of (fn := Try.f62) Try.func62 rfl (by kernel_rfl) (rs := [.tmp 4]) rfl 1 (by simp [Try.f62]) rfl (by simp) ?_
  intro hreal
  rintro ⟨P, T, L0, w0, ι0, C0, U0⟩ hP hT hU
  subst hP hT
  refine st ?_
  have hla : a.length ≤ 9223372036854775807 := by simpa using D.real_len (X.real_d (hreal (.d (strs a)) (by simp)) : D.real (.sl (a.map sS)))
  all_goals first
  | fail_if_success with_reducible refine atR 0 ?_
  | (
    refine rg 0 [] [some 4] 1 ?_
    all_goals refine qP ?_
    all_goals refine qE ?_)
  all_goals first
  | fail_if_success with_reducible refine atR 1 ?_
  | (
    refine rg 1 [] [some 6, some 7, some 8, some 9, some 10] 5 ?_
    all_goals iterate 5 refine qP ?_
    all_goals refine qE ?_)
  all_goals first
  | fail_if_success with_reducible refine atC 10 ?_
  | (
    refine cn 10 ?_ ?_ <;> intro hc10 <;> try (cases hc10; done)
    all_goals refine st ?_)
  all_goals first
  | fail_if_success with_reducible refine atR 2 ?_
  | (
    refine rg 2 [] [some 4] 1 ?_
    all_goals refine qP ?_
    all_goals refine qE ?_)
  all_goals first
  | fail_if_success with_reducible refine atR 3 ?_
  | (
    refine rg 3 [] [some 5] 1 ?_
    all_goals refine qP ?_
    all_goals refine qE ?_)
  all_goals first
  | fail_if_success with_reducible refine AW.rounds (α := Nat) ?_ ?_ ?_ ?_ ?_ ?_ ?_ ?_
  | (
    refine AW.rounds (α := Nat) (fun i => i ≤ a.length ∧ a.length = b.length ∧ ∀ j, j < i → a[j]? = b[j]?) (fun i => St.by [(0, .d (strs a)), (1, .d (strs b)), (5, .d (.int .i64 i))] []) (fun i => a.length - i) 1 0 ?_ ?_ ?_
    · exact ⟨by omega, by omega, fun j hj => by omega⟩
    · refine Vw.to [] _ _ (vU hU) ?_ ?_ (by simp [tauL])
      · refine vd (vd (vw_d ?_ (trivial)))
        · first
          | exact cl2
          | (
            refine sm2 ?_
            all_goals (
             rfl))
      · trivial
    · intro i hJ
      refine st ?_
      obtain ⟨hJ1, hJ2, hJ3⟩ := hJ
      all_goals first
      | fail_if_success with_reducible refine atR 4 ?_
      | (
        refine rg 4 [] [some 11, some 12, some 13, some 14] 4 ?_
        all_goals iterate 4 refine qP ?_
        all_goals refine qE ?_)
      all_goals first
      | fail_if_success with_reducible refine atC 14 ?_
      | (
        refine cn 14 ?_ ?_ <;> intro hc14 <;> try (cases hc14; done)
        all_goals refine st ?_)
      all_goals first
      | fail_if_success with_reducible refine atR 6 ?_
      | (
        refine rgD 6 [] [some 17, some 18, some 19, some 20, some 21, some 22, some 23, some 24, some 25] 9 10 ?_
        intro av hav
        all_goals iterate 2 refine qP ?_
        all_goals (
          refine qL_cons ?_
          intro R hR
          refine sm ?_
          refine ⟨⟨by omega, by omega⟩, ?_⟩
          intro x2 hx2
          all_goals (refine hR _ ?_; clear hR R))
        all_goals iterate 3 refine qP ?_
        all_goals (
          refine qL_cons ?_
          intro R hR
          refine sm ?_
          refine ⟨⟨by omega, by omega⟩, ?_⟩
          intro x6 hx6
          all_goals (refine hR _ ?_; clear hR R))
        all_goals iterate 2 refine qP ?_
        all_goals refine qE ?_
        all_goals clear  hav av)
      all_goals first
      | fail_if_success with_reducible refine atC 25 ?_
      | (
        refine cn 25 ?_ ?_ <;> intro hc25 <;> try (cases hc25; done)
        all_goals refine st ?_)
      all_goals first
      | fail_if_success with_reducible refine atR 7 ?_
      | (
        refine rg 7 [] [some 4] 1 ?_
        all_goals refine qP ?_
        all_goals refine qE ?_)
      all_goals first
      | fail_if_success with_reducible refine atR 5 ?_
      | (
        refine rg 5 [] [some 15, some 16, some 5] 3 ?_
        all_goals refine qP ?_
        all_goals (
          refine qL_cons ?_
          intro R hR
          refine sm ?_
          rw [wrap64 (by omega) (by omega)]
          all_goals (refine hR _ ?_; clear hR R))
        all_goals refine qP ?_
        all_goals refine qE ?_)
      all_goals first
      | fail_if_success with_reducible refine atR 8 ?_
      | (
        refine rg 8 [] [some 4] 1 ?_
        all_goals refine qP ?_
        all_goals refine qE ?_)
      all_goals first
      | fail_if_success with_reducible refine ⟨i + 1, ?_, ?_, ?_⟩
      | (
        refine ⟨i + 1, ?_, ?_, ?_⟩
        · refine ⟨by omega, hJ2, fun j hj => ?_⟩
          by_cases hji : j = i
          · subst hji; simp_all
          · exact hJ3 j (by omega)
        · omega
        · refine Vw.to [] _ _ (vU hU) ?_ ?_ (by simp [tauL])
          · refine vd (vd (vw_d ?_ (trivial)))
            · first
              | exact cl2
              | (
                refine sm2 ?_
                all_goals (
                 congr 1))
          · trivial)
      all_goals first
      | fail_if_success with_reducible refine ret_fun (t := 4) ?_ ?_
      | (
        refine ret_fun (t := 4) ?_ (fun _ => rfl)
        first
        | exact cl
        | (
          try refine sm ?_
          all_goals (
           first
             | (congr 2; symm; rw [decide_eq_false_iff_not]; intro hab; subst hab; simp_all; done)
             | (congr 2; symm; rw [decide_eq_true_eq]; apply List.ext_getElem?; intro j; by_cases hj : j < i
                · exact hJ3 j hj
                · rw [List.getElem?_eq_none (by omega), List.getElem?_eq_none (by omega)])))))
  all_goals first
  | fail_if_success with_reducible refine ret_fun (t := 4) ?_ ?_
  | (
    refine ret_fun (t := 4) ?_ (fun _ => rfl)
    first
    | exact cl
    | (
      try refine sm ?_
      all_goals (
       (congr 2; symm; rw [decide_eq_false_iff_not]; intro hab; subst hab; simp_all; done))))

end
end Go.Proofs.Ytmlbdicaeefomaa
