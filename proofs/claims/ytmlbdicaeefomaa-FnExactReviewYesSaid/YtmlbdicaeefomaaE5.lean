/- names that ascend. No condition. -/
import Derived.Test.YtmlbdicaeefomaaE4
namespace Go.Proofs.Ytmlbdicaeefomaa
open Go Go.RowKit
set_option maxRecDepth 100000
set_option linter.unusedSimpArgs false
set_option linter.unusedVariables false
attribute [local go_sem] List.size_toArray Int.toNat_zero Nat.sub_zero size_mk top_val eq_self datL X.dat u8min u8max i64min i64max stepT gdO aop ev lit litOk putF fzX_false putO upd app List.contains_nil List.elem_nil aBin aInt aStr aBool aLen lenTy aBuiltin aLoad aTake aTakeX aStore splice aSlice aBd look_cons look_nil lookC_cons lookC_nil by_s by_C start_s start_C X.cells X.cell List.all_cons List.all_nil Bool.and_self Bool.not_true Bool.not_false false_implies true_implies forall_const and_true true_and and_self implies_true not_false_eq_true Nat.zero_add Nat.add_zero List.getD_cons_zero List.getD_cons_succ List.map_cons List.map_nil Option.bind_some Option.map_some Option.map_none List.getElem?_cons_zero List.getElem?_cons_succ List.length_cons List.length_nil List.drop_zero List.drop_succ_cons List.take_succ_cons List.take_zero List.cons_append List.nil_append List.append_nil D.of List.length_map all_get_map Option.isSome_some and_false false_and Nat.lt_add_one Nat.zero_lt_succ decide_true decide_false fzX litEs List.contains_cons List.elem_cons Bool.true_or Bool.or_true Bool.false_or Bool.or_false beq_self_eq_true
def sS (s : ByteArray) : List D := [.str s]
abbrev strs (l : List ByteArray) : D := .of sS l
def okAt (ss : List ByteArray) (i : Nat) : Bool := match ss[i]? with
  | some s => nmB s && (i == 0 || match ss[i - 1]? with | some r => strLt r s | none => true)
  | none => true
def naB (ss : List ByteArray) : Bool := (List.range ss.length).all (okAt ss)
theorem na_end {ss : List ByteArray} {i : Nat} (h : ∀ j, j < i → okAt ss j = true) (hi : ss.length ≤ i) : naB ss = true := by
  unfold naB
  rw [List.all_eq_true]
  intro j hj
  exact h j (by have := List.mem_range.1 hj; omega)
theorem na_bad {ss : List ByteArray} {i : Nat} (hi : i < ss.length) (h : okAt ss i = false) : naB ss = false := by
  unfold naB
  rw [List.all_eq_false]
  exact ⟨i, List.mem_range.2 hi, by simp [h]⟩
section
attribute [local go_sem] tel22 tsz9 toNat_cast sS
theorem namesAscend_spec (ss : List ByteArray) : Fun Try.prog 34 [.d (strs ss)] (.d (.bool (naB ss))) := by
  refine Fun.of ?_ rfl rfl
  refine Spec.of (fn := Try.f34) Try.func34 rfl (by kernel_rfl) (rs := [.tmp 2]) rfl 1 (by simp [Try.f34]) rfl (by simp) ?_
  intro hreal
  rintro ⟨P, T, L0, w0, ι0, C0, U0⟩ hP hT hU
  subst hP hT
  refine st ?_
  have hlen : ss.length ≤ 9223372036854775807 := by simpa using D.real_len (X.real_d (hreal (.d (strs ss)) (by simp)) : D.real (.sl (ss.map sS)))
  all_goals first
  | fail_if_success with_reducible refine atR 0 ?_
  | (
    refine rg 0 [] [some 2] 1 ?_
    all_goals refine qP ?_
    all_goals refine qE ?_)
  all_goals first
  | fail_if_success with_reducible refine atR 1 ?_
  | (
    refine rg 1 [] [some 5, some 6, some 7] 3 ?_
    all_goals iterate 3 refine qP ?_
    all_goals refine qE ?_)
  all_goals first
  | fail_if_success with_reducible refine AW.rounds (α := Nat) ?_ ?_ ?_ ?_ ?_ ?_ ?_ ?_
  | (
    refine AW.rounds (α := Nat) (fun i => i ≤ ss.length ∧ ∀ j, j < i → okAt ss j = true) (fun i => St.by [(0, .d (strs ss)), (5, .d (strs ss)), (6, .d (.int .i64 ss.length)), (7, .d (.int .i64 i))] []) (fun i => ss.length - i) 1 0 ?_ ?_ ?_
    · exact ⟨by omega, fun j hj => by omega⟩
    · refine Vw.to [] _ _ (vU hU) ?_ ?_ (by simp [tauL])
      · refine vd (vd (vd (vw_d ?_ (trivial))))
        · first
          | exact cl2
          | (
            refine sm2 ?_
            all_goals (
             rfl))
      · trivial
    · intro i hJ
      refine st ?_
      all_goals first
      | fail_if_success with_reducible refine atR 2 ?_
      | (
        refine rg 2 [] [some 8] 1 ?_
        all_goals refine qP ?_
        all_goals refine qE ?_)
      all_goals first
      | fail_if_success with_reducible refine atC 8 ?_
      | (
        refine cn 8 ?_ ?_ <;> intro hc8 <;> try (cases hc8; done)
        all_goals refine st ?_)
      all_goals first
      | fail_if_success with_reducible refine atR 3 ?_
      | (
        refine rg 3 [] [some 9, some 10, some 11, some 3, some 4] 5 ?_
        all_goals refine qP ?_
        all_goals (
          refine qL_cons ?_
          intro R hR
          refine sm ?_
          refine ⟨⟨by omega, by omega⟩, ?_⟩
          intro x3 hx3
          all_goals (refine hR _ ?_; clear hR R))
        all_goals iterate 3 refine qP ?_
        all_goals refine qE ?_)
      all_goals first
      | fail_if_success with_reducible refine atR 4 ?_
      | (
        refine rg 4 [] [some 12, some 13, some 14, some 15, some 16, some 17, some 18, some 19, some 20, some 21, some 22, some 23, some 24, some 25, some 26, some 27] 16 ?_
        all_goals refine qP ?_
        all_goals (
          refine qL_cons ?_
          intro R hR
          refine sm ?_
          refine call_fun (nameOk_spec x3) [] ?_ (.inl rfl) ?_
          · exact ⟨.inl rfl, trivial⟩
          refine sm ?_
          all_goals (refine hR _ ?_; clear hR R))
        all_goals iterate 2 refine qP ?_
        all_goals first | refine qU 15 ?_ | (refine qS 15 ?_ ?_ <;> intro hg4_3 <;> try (cases hg4_3; done))
        all_goals iterate 3 refine qP ?_
        all_goals first | refine qU 18 ?_ | (refine qS 18 ?_ ?_ <;> intro hg4_6 <;> try (cases hg4_6; done))
        all_goals iterate 2 refine qP ?_
        all_goals first
        | (
          refine qL_cons ?_
          intro R hR
          refine sm ?_
          rw [wrap64 (by omega) (by omega)]
          refine hR _ ?_
          clear hR R)
        | refine qP ?_
        all_goals first
        | (
          refine qL_cons ?_
          intro R hR
          simp only [go_sem, reduceIte, reduceCtorEq, Nat.reduceAdd, Nat.reduceEqDiff, Nat.reduceLeDiff, Nat.reduceLT, Nat.reduceSub, Int.reduceLE, Int.reduceNeg, Int.reduceLT, sub_cast (show 0 < i by omega)]
          refine ⟨⟨by omega, by omega⟩, ?_⟩
          intro x4 hx4
          refine hR _ ?_
          clear hR R)
        | refine qP ?_
        all_goals iterate 5 refine qP ?_
        all_goals refine qE ?_)
      all_goals first
      | fail_if_success with_reducible refine atC 27 ?_
      | (
        refine cn 27 ?_ ?_ <;> intro hc27 <;> try (cases hc27; done)
        all_goals refine st ?_)
      all_goals first
      | fail_if_success with_reducible refine atR 5 ?_
      | (
        refine rg 5 [] [some 2] 1 ?_
        all_goals refine qP ?_
        all_goals refine qE ?_)
      all_goals first
      | fail_if_success with_reducible refine atR 6 ?_
      | (
        refine rg 6 [] [some 28, some 7] 2 ?_
        all_goals (
          refine qL_cons ?_
          intro R hR
          refine sm ?_
          rw [wrap64 (by omega) (by omega)]
          all_goals (refine hR _ ?_; clear hR R))
        all_goals refine qP ?_
        all_goals refine qE ?_)
      all_goals first
      | fail_if_success with_reducible refine atR 7 ?_
      | (
        refine rg 7 [] [some 2] 1 ?_
        all_goals refine qP ?_
        all_goals refine qE ?_)
      all_goals first
      | fail_if_success with_reducible refine ⟨i + 1, ?_, ?_, ?_⟩
      | (
        refine ⟨i + 1, ?_, ?_, ?_⟩
        · refine ⟨by omega, fun j hj => ?_⟩
          by_cases hji : j = i
          · subst hji; (simp_all [okAt] <;> omega)
          · exact hJ.2 j (by omega)
        · omega
        · refine Vw.to [] _ _ (vU hU) ?_ ?_ (by simp [tauL])
          · refine vd (vd (vd (vw_d ?_ (trivial))))
            · first
              | exact cl2
              | (
                refine sm2 ?_
                all_goals (
                 congr 1))
          · trivial)
      all_goals first
      | fail_if_success with_reducible refine ret_fun (t := 2) ?_ ?_
      | (
        refine ret_fun (t := 2) ?_ (fun _ => rfl)
        first
        | exact cl
        | (
          try refine sm ?_
          all_goals (
           first
             | (congr 1; congr 1; exact (na_end hJ.2 (by omega)).symm)
             | (congr 1; congr 1; refine (na_bad (i := i) (by omega) ?_).symm; (simp_all [okAt] <;> omega); done)))))

end
end Go.Proofs.Ytmlbdicaeefomaa
