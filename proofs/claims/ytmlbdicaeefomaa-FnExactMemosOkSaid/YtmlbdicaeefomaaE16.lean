/- what a text is, of both. No condition. -/
import Derived.Test.YtmlbdicaeefomaaE15
namespace Go.Proofs.Ytmlbdicaeefomaa
open Go Go.RowKit
set_option maxRecDepth 100000
set_option linter.unusedSimpArgs false
set_option linter.unusedVariables false
attribute [local go_sem] List.size_toArray Int.toNat_zero Nat.sub_zero size_mk top_val eq_self datL X.dat u8min u8max i64min i64max stepT gdO aop ev lit litOk putF fzX_false putO upd app List.contains_nil List.elem_nil aBin aInt aStr aBool aLen lenTy aBuiltin aLoad aTake aTakeX aStore splice aSlice aBd look_cons look_nil lookC_cons lookC_nil by_s by_C start_s start_C X.cells X.cell List.all_cons List.all_nil Bool.and_self Bool.not_true Bool.not_false false_implies true_implies forall_const and_true true_and and_self implies_true not_false_eq_true Nat.zero_add Nat.add_zero List.getD_cons_zero List.getD_cons_succ List.map_cons List.map_nil Option.bind_some Option.map_some Option.map_none List.getElem?_cons_zero List.getElem?_cons_succ List.length_cons List.length_nil List.drop_zero List.drop_succ_cons List.take_succ_cons List.take_zero List.cons_append List.nil_append List.append_nil D.of List.length_map all_get_map Option.isSome_some and_false false_and Nat.lt_add_one Nat.zero_lt_succ decide_true decide_false
theorem idxF_nonneg {α : Type} (p : α → Bool) (l : List α) : decide (0 ≤ idxF p l) = l.any p := by
  unfold idxF
  cases h : l.findIdx? p with
  | none =>
    rw [List.findIdx?_eq_none_iff] at h
    have : l.any p = false := by rw [List.any_eq_false]; intro x hx; simp [h x hx]
    simp [this]
  | some i =>
    rw [List.findIdx?_eq_some_iff_getElem] at h
    obtain ⟨hi, hp, -⟩ := h
    have : l.any p = true := by rw [List.any_eq_true]; exact ⟨_, List.getElem_mem hi, hp⟩
    simp [this]
theorem tx_end {ss : List ByteArray} {i : Nat} (h : ∀ j x, j < i → ss[j]? = some x → lnB x = true) (hi : ss.length ≤ i) : decide ((ss.length : Int) ≤ 10) = txB ss := by
  have : ss.all lnB = true := by
    rw [List.all_eq_true]
    intro x hx
    obtain ⟨j, hj, rfl⟩ := List.mem_iff_getElem.1 hx
    exact h j _ (by omega) (by simp)
  simp [txB, this]
theorem tx_bad {ss : List ByteArray} {i : Nat} {x : ByteArray} (h : ss[i]? = some x) (hc : lnB x = false) : false = txB ss := by
  have : ss.all lnB = false := by
    rw [List.all_eq_false]
    exact ⟨x, List.mem_of_getElem? h, by simp [hc]⟩
  simp [txB, this]
theorem any_not (ss : List ByteArray) : (!ss.any fun s => !lnB s) = ss.all lnB := by
  induction ss with
  | nil => rfl
  | cons s r ih => simp [List.any_cons, List.all_cons, Bool.not_or, ih]
section
attribute [local go_sem] tsz9 tel22 toNat_cast sS und9
theorem ContainsFuncS_spec (ss : List ByteArray) (fn : FuncId) (cs : List X) (p : ByteArray → Bool) (hcs : ∀ V, X.onL V cs = true) (hn : ∀ av C, aArgs av C [] cs cs) (hf : ∀ s, Fun Try.prog fn (.d (.str s) :: cs) (.d (.bool (p s)))) : Fun Try.prog 75 [.d (strs ss), .clo fn cs] (.d (.bool (ss.any p))) := by
  refine Fun.of ?_ (by simp [X.onL, X.on, hcs]) rfl
  refine Spec.of (fn := Try.f75) Try.func75 rfl (by kernel_rfl) (rs := [.tmp 4]) rfl 1 (by simp [Try.f75]) (by simp [X.onL, X.on, hcs]) (by simp) ?_
  intro hreal
  rintro ⟨P, T, L0, w0, ι0, C0, U0⟩ hP hT hU
  subst hP hT
  refine st ?_
  all_goals first
  | fail_if_success with_reducible refine atR 0 ?_
  | (
    refine rg 0 [] [some 4] 1 ?_
    all_goals refine qP ?_
    all_goals refine qE ?_)
  all_goals first
  | fail_if_success with_reducible refine atR 1 ?_
  | (
    refine rg 1 [] [some 5, some 6, some 7, some 8, some 4] 5 ?_
    all_goals iterate 2 refine qP ?_
    all_goals (
      refine qL_cons ?_
      intro R hR
      refine sm ?_
      refine call_fun (IndexFuncS_spec ss fn cs p hcs hn hf) [] ?_ (.inl rfl) ?_
      · exact ⟨.inl rfl, ⟨.inl rfl, trivial⟩⟩
      refine sm ?_
      all_goals (refine hR _ ?_; clear hR R))
    all_goals iterate 2 refine qP ?_
    all_goals refine qE ?_)
  all_goals first
  | fail_if_success with_reducible refine ret_fun (t := 4) ?_ ?_
  | (
    refine ret_fun (t := 4) ?_ (fun _ => rfl)
    first
    | exact cl
    | (
      try refine sm ?_
      all_goals (
       (congr 2; exact idxF_nonneg p ss))))

end
section
attribute [local go_sem] tsz9 tel22 toNat_cast sS und9
theorem TextOk_spec (ss : List ByteArray) : Fun Try.prog 48 [.d (strs ss)] (.d (.bool (txB ss))) := by
  refine Fun.of ?_ rfl rfl
  refine Spec.of (fn := Try.f48) Try.func48 rfl (by kernel_rfl) (rs := [.tmp 2]) rfl 1 (by simp [Try.f48]) rfl (by simp) ?_
  intro hreal
  rintro ⟨P, T, L0, w0, ι0, C0, U0⟩ hP hT hU
  subst hP hT
  refine st ?_
  all_goals first
  | fail_if_success with_reducible refine atR 0 ?_
  | (
    refine rg 0 [] [some 2] 1 ?_
    all_goals refine qP ?_
    all_goals refine qE ?_)
  all_goals first
  | fail_if_success with_reducible refine atR 1 ?_
  | (
    refine rg 1 [] [some 3, some 4, some 5, some 6, some 7, some 8, some 9, some 10, some 2] 9 ?_
    all_goals iterate 4 refine qP ?_
    all_goals first | refine qU 6 ?_ | (refine qS 6 ?_ ?_ <;> intro hg1_3 <;> try (cases hg1_3; done))
    all_goals refine qP ?_
    all_goals first
    | (
      refine qL_cons ?_
      intro R hR
      refine sm ?_
      refine call_fun (ContainsFuncS_spec ss 76 [] (fun s => !lnB s) (fun _ => rfl) (fun _ _ => trivial) TextOk1_spec) [] ?_ (.inl rfl) ?_
      · exact ⟨.inl rfl, ⟨.inl rfl, trivial⟩⟩
      refine sm ?_
      refine hR _ ?_
      clear hR R)
    | refine qP ?_
    all_goals iterate 3 refine qP ?_
    all_goals refine qE ?_)
  all_goals first
  | fail_if_success with_reducible refine ret_fun (t := 2) ?_ ?_
  | (
    refine ret_fun (t := 2) ?_ (fun _ => rfl)
    first
    | exact cl
    | (
      try refine sm ?_
      all_goals (
       (congr 2; simp only [any_not, txB]; simp_all; try (intro h; omega)))))

end
section
attribute [local go_sem] tsz9 tel22 toNat_cast sS und9
theorem l1Ok_spec (ss : List ByteArray) : Fun Try.prog 73 [.d (strs ss)] (.d (.bool (txB ss))) := by
  refine Fun.of ?_ rfl rfl
  refine Spec.of (fn := Try.f73) Try.func73 rfl (by kernel_rfl) (rs := [.tmp 2]) rfl 1 (by simp [Try.f73]) rfl (by simp) ?_
  intro hreal
  rintro ⟨P, T, L0, w0, ι0, C0, U0⟩ hP hT hU
  subst hP hT
  refine st ?_
  have hlen : ss.length ≤ 9223372036854775807 := by simpa using D.real_len (X.real_d (hreal (.d (strs ss)) (by simp)) : D.real (.sl (ss.map sS)))
  all_goals first
  | fail_if_success with_reducible refine atR 0 ?_
  | (
    refine rg 0 [] [some 2] 1 ?_
    all_goals refine qP ?_
    all_goals refine qE ?_)
  all_goals first
  | fail_if_success with_reducible refine atR 1 ?_
  | (
    refine rg 1 [] [some 3] 1 ?_
    all_goals refine qP ?_
    all_goals refine qE ?_)
  all_goals first
  | fail_if_success with_reducible refine AW.rounds (α := Nat) ?_ ?_ ?_ ?_ ?_ ?_ ?_ ?_
  | (
    refine AW.rounds (α := Nat) (fun i => i ≤ ss.length ∧ ∀ j y, j < i → ss[j]? = some y → lnB y = true) (fun i => St.by [(0, .d (strs ss)), (3, .d (.int .i64 i))] []) (fun i => ss.length - i) 1 0 ?_ ?_ ?_
    · exact ⟨by omega, fun j y hj => by omega⟩
    · refine Vw.to [] _ _ (vU hU) ?_ ?_ (by simp [tauL])
      · refine vd (vw_d ?_ (trivial))
        · first
          | exact cl2
          | (
            refine sm2 ?_
            all_goals (
             rfl))
      · trivial
    · intro i hJ
      refine st ?_
      obtain ⟨hJ1, hJ2⟩ := hJ
      all_goals first
      | fail_if_success with_reducible refine atR 2 ?_
      | (
        refine rg 2 [] [some 4, some 5, some 6, some 7] 4 ?_
        all_goals iterate 4 refine qP ?_
        all_goals refine qE ?_)
      all_goals first
      | fail_if_success with_reducible refine atC 7 ?_
      | (
        refine cn 7 ?_ ?_ <;> intro hc7 <;> try (cases hc7; done)
        all_goals refine st ?_)
      all_goals first
      | fail_if_success with_reducible refine atR 4 ?_
      | (
        refine rg 4 [] [some 10, some 11, some 12, some 13, some 14, some 15] 6 ?_
        all_goals iterate 2 refine qP ?_
        all_goals (
          refine qL_cons ?_
          intro R hR
          refine sm ?_
          refine ⟨⟨by omega, by omega⟩, ?_⟩
          intro x2 hx2
          all_goals (refine hR _ ?_; clear hR R))
        all_goals refine qP ?_
        all_goals (
          refine qL_cons ?_
          intro R hR
          refine sm ?_
          refine call_fun (l1Line_spec x2) [] ?_ (.inl rfl) ?_
          · exact ⟨.inl rfl, trivial⟩
          refine sm ?_
          all_goals (refine hR _ ?_; clear hR R))
        all_goals refine qP ?_
        all_goals refine qE ?_)
      all_goals first
      | fail_if_success with_reducible refine atC 15 ?_
      | (
        refine cn 15 ?_ ?_ <;> intro hc15 <;> try (cases hc15; done)
        all_goals refine st ?_)
      all_goals first
      | fail_if_success with_reducible refine atR 5 ?_
      | (
        refine rg 5 [] [some 2] 1 ?_
        all_goals refine qP ?_
        all_goals refine qE ?_)
      all_goals first
      | fail_if_success with_reducible refine atR 3 ?_
      | (
        refine rg 3 [] [some 8, some 9, some 3] 3 ?_
        all_goals refine qP ?_
        all_goals (
          refine qL_cons ?_
          intro R hR
          refine sm ?_
          rw [wrap64 (by omega) (by omega)]
          all_goals (refine hR _ ?_; clear hR R))
        all_goals refine qP ?_
        all_goals refine qE ?_)
      all_goals first
      | fail_if_success with_reducible refine atR 6 ?_
      | (
        refine rg 6 [] [some 16, some 17, some 18, some 2] 4 ?_
        all_goals iterate 4 refine qP ?_
        all_goals refine qE ?_)
      all_goals first
      | fail_if_success with_reducible refine ⟨i + 1, ?_, ?_, ?_⟩
      | (
        refine ⟨i + 1, ?_, ?_, ?_⟩
        · refine ⟨by omega, fun j y hj hy => ?_⟩
          by_cases hji : j = i
          · subst hji; rw [hx2] at hy; cases hy; simpa using hc15
          · exact hJ2 j y (by omega) hy
        · omega
        · refine Vw.to [] _ _ (vU hU) ?_ ?_ (by simp [tauL])
          · refine vd (vw_d ?_ (trivial))
            · first
              | exact cl2
              | (
                refine sm2 ?_
                all_goals (
                 congr 1))
          · trivial)
      all_goals first
      | fail_if_success with_reducible refine ret_fun (t := 2) ?_ ?_
      | (
        refine ret_fun (t := 2) ?_ (fun _ => rfl)
        first
        | exact cl
        | (
          try refine sm ?_
          all_goals (
           first
             | (congr 2; exact tx_end hJ2 (by omega))
             | (congr 2; exact tx_bad hx2 (by simpa using hc15))))))

end
end Go.Proofs.Ytmlbdicaeefomaa
