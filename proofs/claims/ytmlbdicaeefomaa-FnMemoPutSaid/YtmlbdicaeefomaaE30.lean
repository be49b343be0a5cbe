/- the reference ReviewYes; reviews are the same. No condition. -/
import Derived.Test.YtmlbdicaeefomaaE29
namespace Go.Proofs.Ytmlbdicaeefomaa
open Go Go.RowKit
set_option maxRecDepth 100000
set_option linter.unusedSimpArgs false
set_option linter.unusedVariables false
attribute [local go_sem] List.size_toArray Int.toNat_zero Nat.sub_zero size_mk top_val eq_self datL X.dat u8min u8max i64min i64max stepT gdO aop ev lit litOk putF fzX_false putO upd app List.contains_nil List.elem_nil aBin aInt aStr aBool aLen lenTy aBuiltin aLoad aTake aTakeX aStore splice aSlice aBd look_cons look_nil lookC_cons lookC_nil by_s by_C start_s start_C X.cells X.cell List.all_cons List.all_nil Bool.and_self Bool.not_true Bool.not_false false_implies true_implies forall_const and_true true_and and_self implies_true not_false_eq_true Nat.zero_add Nat.add_zero List.getD_cons_zero List.getD_cons_succ List.map_cons List.map_nil Option.bind_some Option.map_some Option.map_none List.getElem?_cons_zero List.getElem?_cons_succ List.length_cons List.length_nil List.drop_zero List.drop_succ_cons List.take_succ_cons List.take_zero List.cons_append List.nil_append List.append_nil D.of List.length_map all_get_map Option.isSome_some and_false false_and Nat.lt_add_one Nat.zero_lt_succ decide_true decide_false aPart Nat.lt_irrefl fzX litEs List.contains_cons List.elem_cons Bool.true_or Bool.or_true Bool.false_or Bool.or_false beq_self_eq_true
section
attribute [local go_sem] tsz9 tsz22 tsz27 tfld27 tel22 toNat_cast und9 zero27 tz9l iz9 aDst aSrc List.length_append
theorem specReviewYes_bad (v : Rv) (who : ByteArray) (h : rvB v = false) : Fun Try.prog 24 [.ag [.d (.str v.br), .d (.str v.into), .d (.str v.by_), .d (strs v.yes)], .d (.str who)] (rvBad) := by
  refine Fun.of ?_ rfl rfl
  refine Spec.of (fn := Try.f24) Try.func24 rfl (by kernel_rfl) (rs := [.cell 4 27, .tmp 5]) rfl 1 (by simp [Try.f24]) rfl (by simp) ?_
  intro hreal
  rintro ⟨P, T, L0, w0, ι0, C0, U0⟩ hP hT hU
  subst hP hT
  refine st ?_
  all_goals first
  | fail_if_success with_reducible refine atR 0 ?_
  | (
    refine rg 0 [] [some 2, some 4, some 5] 3 ?_
    all_goals iterate 3 refine qP ?_
    all_goals refine qE ?_)
  all_goals first
  | fail_if_success with_reducible refine atR 1 ?_
  | (
    refine rg 1 [] [some 7, some 8, some 9] 3 ?_
    all_goals refine qP ?_
    all_goals (
      refine qL_cons ?_
      intro R hR
      refine sm ?_
      refine call_fun (l17Ok_spec v) [] ?_ (.inl rfl) ?_
      · exact ⟨.inl rfl, trivial⟩
      refine sm ?_
      all_goals (refine hR _ ?_; clear hR R))
    all_goals refine qP ?_
    all_goals refine qE ?_)
  all_goals first
  | fail_if_success with_reducible refine atC 9 ?_
  | (
    refine cn 9 ?_ ?_ <;> intro hc9 <;> try (cases hc9; done)
    all_goals refine st ?_)
  all_goals try (simp [h] at hc9; done)
  all_goals first
  | fail_if_success with_reducible refine atR 2 ?_
  | (
    refine rg 2 [] [some 10, none, some 5] 3 ?_
    all_goals iterate 3 refine qP ?_
    all_goals refine qE ?_)
  all_goals refine ret_dat [.ag [.d (.str ByteArray.empty), .d (.str ByteArray.empty), .d (.str ByteArray.empty), .nil], .d (.bool false)] (Vw.refl _ _ _) ⟨cl, cl, trivial⟩ (fun _ => rfl) rfl

theorem sS_all (l : List ByteArray) : ∀ e ∈ l.map sS, e.length = 1 := by
  intro e he
  obtain ⟨s, -, rfl⟩ := List.mem_map.1 he
  rfl
end
section
attribute [local go_sem] tsz9 tsz22 tsz27 tfld27 tel22 toNat_cast und9 zero27 tz9l iz9 aDst aSrc List.length_append
theorem specReviewYes_ok (v : Rv) (who : ByteArray) (h : rvB v = true) : FunR Try.prog 24 [.ag [.d (.str v.br), .d (.str v.into), .d (.str v.by_), .d (strs v.yes)], .d (.str who)] (rvMk v (putS v.yes who)) (.vec 9 1 ((rvOut v (putS v.yes who)).map sS)) := by
  refine FunR.of ?_ rfl
  refine Spec.of (fn := Try.f24) Try.func24 rfl (by kernel_rfl) (rs := [.cell 4 27, .tmp 5]) rfl 1 (by simp [Try.f24]) rfl (by simp) ?_
  intro hreal
  rintro ⟨P, T, L0, w0, ι0, C0, U0⟩ hP hT hU
  subst hP hT
  refine st ?_
  have hlen := rvB_len h
  all_goals first
  | fail_if_success with_reducible refine atR 0 ?_
  | (
    refine rg 0 [] [some 2, some 4, some 5] 3 ?_
    all_goals iterate 3 refine qP ?_
    all_goals refine qE ?_)
  all_goals first
  | fail_if_success with_reducible refine atR 1 ?_
  | (
    refine rg 1 [] [some 7, some 8, some 9] 3 ?_
    all_goals refine qP ?_
    all_goals (
      refine qL_cons ?_
      intro R hR
      refine sm ?_
      refine call_fun (l17Ok_spec v) [] ?_ (.inl rfl) ?_
      · exact ⟨.inl rfl, trivial⟩
      refine sm ?_
      all_goals (refine hR _ ?_; clear hR R))
    all_goals refine qP ?_
    all_goals refine qE ?_)
  all_goals first
  | fail_if_success with_reducible refine atC 9 ?_
  | (
    refine cn 9 ?_ ?_ <;> intro hc9 <;> try (cases hc9; done)
    all_goals refine st ?_)
  all_goals try (simp [h] at hc9; done)
  all_goals first
  | fail_if_success with_reducible refine atR 2 ?_
  | (
    refine rg 2 [] [some 10, none, some 5] 3 ?_
    all_goals iterate 3 refine qP ?_
    all_goals refine qE ?_)
  all_goals first
  | fail_if_success with_reducible refine atR 3 ?_
  | (
    refine rgW 3 [] [some 11, some 12, some 13, some 14, some 15, some 16, some 17, some 18, some 19, some 20, some 21, some 22, some 23, some 6, none] 15 16 [(9, [13]), (11, [16]), (14, [20])] ?_
    intro av wr hav hwr
    have hf1_1 := avD 1 1 hav
    have hf3_1 := avD 3 1 hav
    have hf5_1 := avD 5 1 hav
    have hf8_1 := avD 8 1 hav
    have hf9_13 := avD 9 13 hav
    have hf11_16 := avD 11 16 hav
    have hf14_20 := avD 14 20 hav
    have hw9_13 := wrD 9 13 hwr
    have hw11_16 := wrD 11 16 hwr
    have hw14_20 := wrD 14 20 hwr
    all_goals refine qP ?_
    all_goals (
      refine qL_cons ?_
      intro R hR
      simp only [go_sem, reduceIte, reduceCtorEq, Nat.reduceAdd, Nat.reduceEqDiff, Nat.reduceLeDiff, Nat.reduceLT, Nat.reduceSub, Int.reduceLE, Int.reduceNeg, Int.reduceLT, hf1_1, hf3_1, hf5_1, hf8_1, hf9_13, hf11_16, hf14_20, hw9_13, hw11_16, hw14_20]
      all_goals (refine hR _ ?_; clear hR R))
    all_goals refine qP ?_
    all_goals (
      refine qL_cons ?_
      intro R hR
      simp only [go_sem, reduceIte, reduceCtorEq, Nat.reduceAdd, Nat.reduceEqDiff, Nat.reduceLeDiff, Nat.reduceLT, Nat.reduceSub, Int.reduceLE, Int.reduceNeg, Int.reduceLT, hf1_1, hf3_1, hf5_1, hf8_1, hf9_13, hf11_16, hf14_20, hw9_13, hw11_16, hw14_20]
      all_goals (refine hR _ ?_; clear hR R))
    all_goals refine qP ?_
    all_goals (
      refine qL_cons ?_
      intro R hR
      simp only [go_sem, reduceIte, reduceCtorEq, Nat.reduceAdd, Nat.reduceEqDiff, Nat.reduceLeDiff, Nat.reduceLT, Nat.reduceSub, Int.reduceLE, Int.reduceNeg, Int.reduceLT, hf1_1, hf3_1, hf5_1, hf8_1, hf9_13, hf11_16, hf14_20, hw9_13, hw11_16, hw14_20]
      all_goals (refine hR _ ?_; clear hR R))
    all_goals iterate 2 refine qP ?_
    all_goals (
      refine qL_cons ?_
      intro R hR
      simp only [go_sem, reduceIte, reduceCtorEq, Nat.reduceAdd, Nat.reduceEqDiff, Nat.reduceLeDiff, Nat.reduceLT, Nat.reduceSub, Int.reduceLE, Int.reduceNeg, Int.reduceLT, hf1_1, hf3_1, hf5_1, hf8_1, hf9_13, hf11_16, hf14_20, hw9_13, hw11_16, hw14_20]
      all_goals (refine hR _ ?_; clear hR R))
    all_goals (
      refine qL_cons ?_
      intro R hR
      simp only [go_sem, reduceIte, reduceCtorEq, Nat.reduceAdd, Nat.reduceEqDiff, Nat.reduceLeDiff, Nat.reduceLT, Nat.reduceSub, Int.reduceLE, Int.reduceNeg, Int.reduceLT, hf1_1, hf3_1, hf5_1, hf8_1, hf9_13, hf11_16, hf14_20, hw9_13, hw11_16, hw14_20]
      refine ⟨sS_all _, by omega, ?_⟩
      all_goals (refine hR _ ?_; clear hR R))
    all_goals refine qP ?_
    all_goals (
      refine qL_cons ?_
      intro R hR
      simp only [go_sem, reduceIte, reduceCtorEq, Nat.reduceAdd, Nat.reduceEqDiff, Nat.reduceLeDiff, Nat.reduceLT, Nat.reduceSub, Int.reduceLE, Int.reduceNeg, Int.reduceLT, hf1_1, hf3_1, hf5_1, hf8_1, hf9_13, hf11_16, hf14_20, hw9_13, hw11_16, hw14_20]
      refine call_mv (l5Put_spec v.yes who (by omega)) rfl (a := 16) (by decide) cl (by simp only [hw11_16]) (by simp only [hf11_16]; exact fun h => h) ?_ ?_
      · exact ⟨.inl rfl, .inl rfl, trivial⟩
      simp only [go_sem, reduceIte, reduceCtorEq, Nat.reduceAdd, Nat.reduceEqDiff, Nat.reduceLeDiff, Nat.reduceLT, Nat.reduceSub, Int.reduceLE, Int.reduceNeg, Int.reduceLT, hf1_1, hf3_1, hf5_1, hf8_1, hf9_13, hf11_16, hf14_20, hw9_13, hw11_16, hw14_20]
      all_goals (refine hR _ ?_; clear hR R))
    all_goals iterate 2 refine qP ?_
    all_goals (
      refine qL_cons ?_
      intro R hR
      simp only [go_sem, reduceIte, reduceCtorEq, Nat.reduceAdd, Nat.reduceEqDiff, Nat.reduceLeDiff, Nat.reduceLT, Nat.reduceSub, Int.reduceLE, Int.reduceNeg, Int.reduceLT, hf1_1, hf3_1, hf5_1, hf8_1, hf9_13, hf11_16, hf14_20, hw9_13, hw11_16, hw14_20]
      all_goals (refine hR _ ?_; clear hR R))
    all_goals refine qE ?_
    all_goals clear hf1_1 hf3_1 hf5_1 hf8_1 hf9_13 hf11_16 hf14_20 hw9_13 hw11_16 hw14_20 hav hwr wr av)
  all_goals first
  | fail_if_success with_reducible refine atR 4 ?_
  | (
    refine rg 4 [] [some 24, some 25, some 26] 3 ?_
    all_goals refine qP ?_
    all_goals (
      refine qL_cons ?_
      intro R hR
      refine sm ?_
      refine call_fun (l17Ok_spec { v with yes := putS v.yes who }) [18] ?_ (.inr rfl) ?_
      · exact ⟨.inr (.inr ⟨_, rfl, .inl rfl, .inl rfl, .inl rfl, .inr (.inr (lend_of (by simp) (by simp) cl (by simp [insS_len]))), trivial⟩), trivial⟩
      refine sm ?_
      all_goals (refine hR _ ?_; clear hR R))
    all_goals refine qP ?_
    all_goals refine qE ?_)
  all_goals first
  | fail_if_success with_reducible refine atC 26 ?_
  | (
    refine cn 26 ?_ ?_ <;> intro hc26 <;> try (cases hc26; done)
    all_goals refine st ?_)
  all_goals first
  | fail_if_success with_reducible refine atR 5 ?_
  | (
    refine rg 5 [] [some 27, some 28, some 29, some 30, some 31, none] 6 ?_
    all_goals iterate 3 refine qP ?_
    all_goals (
      refine qL_cons ?_
      intro R hR
      refine sm ?_
      refine ⟨sS_all _, by omega, ?_⟩
      all_goals (refine hR _ ?_; clear hR R))
    all_goals iterate 2 refine qP ?_
    all_goals refine qE ?_)
  all_goals first
  | fail_if_success with_reducible refine atR 6 ?_
  | (
    refine rg 6 [] [some 32, none, some 5] 3 ?_
    all_goals iterate 3 refine qP ?_
    all_goals refine qE ?_)
  all_goals first
  | fail_if_success with_reducible refine atR 7 ?_
  | (
    refine rg 7 [] [some 33, none, some 5] 3 ?_
    all_goals iterate 3 refine qP ?_
    all_goals refine qE ?_)
  all_goals first
  | (
      have hB : rvB { v with yes := putS v.yes who } = true := by simp_all [wI]
      have hO : rvOut v (putS v.yes who) = putS v.yes who := by simp_all [rvOut, wI]
      simp only [rvMk, hO, hB]
      refine ret_row [.ag [.d (.str v.br), .d (.str v.into), .d (.str v.by_), .vec 0 1 0 (putS v.yes who).length], .d (.bool true)] (Vw.to (g' := 5) [(0, 18), (1, 2)] [(4, .bx 1 0), (5, .d (.bool true))] [(0, .vec 9 1 ((putS v.yes who).map sS)), (1, .box 27 [.d (.str v.br), .d (.str v.into), .d (.str v.by_), .vec 0 1 0 (putS v.yes who).length])] (fun n hn => absurd (hU n hn) (by omega)) (vx (vd trivial)) ⟨⟨by omega, rfl, cl3⟩, ⟨by omega, rfl, ?_⟩, trivial⟩ (by simp [tauL])) cl ⟨cl, cl, trivial⟩ rfl rfl
      first
      | exact cl3
      | (
        simp only [go_sem, reduceIte, reduceCtorEq, Nat.reduceAdd, Nat.reduceEqDiff, Nat.reduceLeDiff, Nat.reduceLT, Nat.reduceSub, Int.reduceLE, Int.reduceNeg, Int.reduceLT, tauL, Cap.ren, insS_len]
        rfl))
  | (
      have hB : rvB { v with yes := putS v.yes who } = false := by simp_all [wI]
      have hO : rvOut v (putS v.yes who) = v.yes := by simp_all [rvOut, wI]
      simp only [rvMk, hO, hB]
      refine ret_row [.ag [.d (.str v.br), .d (.str v.into), .d (.str v.by_), .vec 0 1 0 (v.yes).length], .d (.bool false)] (Vw.to (g' := 5) [(0, 28), (1, 2)] [(4, .bx 1 0), (5, .d (.bool false))] [(0, .vec 9 1 ((v.yes).map sS)), (1, .box 27 [.d (.str v.br), .d (.str v.into), .d (.str v.by_), .vec 0 1 0 (v.yes).length])] (fun n hn => absurd (hU n hn) (by omega)) (vx (vd trivial)) ⟨⟨by omega, rfl, cl3⟩, ⟨by omega, rfl, ?_⟩, trivial⟩ (by simp [tauL])) cl ⟨cl, cl, trivial⟩ rfl rfl
      first
      | exact cl3
      | (
        simp only [go_sem, reduceIte, reduceCtorEq, Nat.reduceAdd, Nat.reduceEqDiff, Nat.reduceLeDiff, Nat.reduceLT, Nat.reduceSub, Int.reduceLE, Int.reduceNeg, Int.reduceLT, tauL, Cap.ren, insS_len]
        rfl))

end
section
attribute [local go_sem] tsz9 tsz22 tsz27 tfld27 tel22 toNat_cast und9 sS
theorem smTexts_spec (a b : List ByteArray) : Fun Try.prog 46 [.d (strs a), .d (strs b)] (.d (.bool (decide (a = b)))) := by
  refine Fun.of ?_ rfl rfl
  refine Spec.of (fn := Try.f46) Try.func46 rfl (by kernel_rfl) (rs := [.tmp 4]) rfl 1 (by simp [Try.f46]) rfl (by simp) ?_
  intro hreal
  rintro ⟨P, T, L0, w0, ι0, C0, U0⟩ hP hT hU
  subst hP hT
  refine st ?_
  have hla : a.length ≤ 9223372036854775807 := by simpa using D.real_len (X.real_d (hreal (.d (strs a)) (by simp)) : D.real (.sl (a.map sS)))
  all_goals first
  | fail_if_success with_reducible refine atR 0 ?_
  | (
    refine rg 0 [] [some 4] 1 ?_
    all_goals refine qP ?_
    all_goals refine qE ?_)
  all_goals first
  | fail_if_success with_reducible refine atR 1 ?_
  | (
    refine rg 1 [] [some 6, some 7, some 8, some 9, some 10] 5 ?_
    all_goals iterate 5 refine qP ?_
    all_goals refine qE ?_)
  all_goals first
  | fail_if_success with_reducible refine atC 10 ?_
  | (
    refine cn 10 ?_ ?_ <;> intro hc10 <;> try (cases hc10; done)
    all_goals refine st ?_)
  all_goals first
  | fail_if_success with_reducible refine atR 2 ?_
  | (
    refine rg 2 [] [some 4] 1 ?_
    all_goals refine qP ?_
    all_goals refine qE ?_)
  all_goals first
  | fail_if_success with_reducible refine atR 3 ?_
  | (
    refine rg 3 [] [some 5] 1 ?_
    all_goals refine qP ?_
    all_goals refine qE ?_)
  all_goals first
  | fail_if_success with_reducible refine AW.rounds (α := Nat) ?_ ?_ ?_ ?_ ?_ ?_ ?_ ?_
  | (
    refine AW.rounds (α := Nat) (fun i => i ≤ a.length ∧ a.length = b.length ∧ ∀ j, j < i → a[j]? = b[j]?) (fun i => St.by [(0, .d (strs a)), (1, .d (strs b)), (5, .d (.int .i64 i))] []) (fun i => a.length - i) 1 0 ?_ ?_ ?_
    · exact ⟨by omega, by omega, fun j hj => by omega⟩
    · refine Vw.to [] _ _ (vU hU) ?_ ?_ (by simp [tauL])
      · refine vd (vd (vw_d ?_ (trivial)))
        · first
          | exact cl2
          | (
            refine sm2 ?_
            all_goals (
             rfl))
      · trivial
    · intro i hJ
      refine st ?_
      obtain ⟨hJ1, hJ2, hJ3⟩ := hJ
      all_goals first
      | fail_if_success with_reducible refine atR 4 ?_
      | (
        refine rg 4 [] [some 11, some 12, some 13, some 14] 4 ?_
        all_goals iterate 4 refine qP ?_
        all_goals refine qE ?_)
      all_goals first
      | fail_if_success with_reducible refine atC 14 ?_
      | (
        refine cn 14 ?_ ?_ <;> intro hc14 <;> try (cases hc14; done)
        all_goals refine st ?_)
      all_goals first
      | fail_if_success with_reducible refine atR 6 ?_
      | (
        refine rgD 6 [] [some 17, some 18, some 19, some 20, some 21, some 22, some 23, some 24, some 25] 9 10 ?_
        intro av hav
        all_goals iterate 2 refine qP ?_
        all_goals (
          refine qL_cons ?_
          intro R hR
          refine sm ?_
          refine ⟨⟨by omega, by omega⟩, ?_⟩
          intro x1 hx1
          all_goals (refine hR _ ?_; clear hR R))
        all_goals iterate 3 refine qP ?_
        all_goals (
          refine qL_cons ?_
          intro R hR
          refine sm ?_
          refine ⟨⟨by omega, by omega⟩, ?_⟩
          intro x2 hx2
          all_goals (refine hR _ ?_; clear hR R))
        all_goals iterate 2 refine qP ?_
        all_goals refine qE ?_
        all_goals clear  hav av)
      all_goals first
      | fail_if_success with_reducible refine atC 25 ?_
      | (
        refine cn 25 ?_ ?_ <;> intro hc25 <;> try (cases hc25; done)
        all_goals refine st ?_)
      all_goals first
      | fail_if_success with_reducible refine atR 7 ?_
      | (
        refine rg 7 [] [some 4] 1 ?_
        all_goals refine qP ?_
        all_goals refine qE ?_)
      all_goals first
      | fail_if_success with_reducible refine atR 5 ?_
      | (
        refine rg 5 [] [some 15, some 16, some 5] 3 ?_
        all_goals refine qP ?_
        all_goals (
          refine qL_cons ?_
          intro R hR
          refine sm ?_
          rw [wrap64 (by omega) (by omega)]
          all_goals (refine hR _ ?_; clear hR R))
        all_goals refine qP ?_
        all_goals refine qE ?_)
      all_goals first
      | fail_if_success with_reducible refine ⟨i + 1, ?_, ?_, ?_⟩
      | (
        refine ⟨i + 1, ?_, ?_, ?_⟩
        · refine ⟨by omega, hJ2, fun j hj => ?_⟩
          by_cases hji : j = i
          · subst hji; simp_all
          · exact hJ3 j (by omega)
        · omega
        · refine Vw.to [] _ _ (vU hU) ?_ ?_ (by simp [tauL])
          · refine vd (vd (vw_d ?_ (trivial)))
            · first
              | exact cl2
              | (
                refine sm2 ?_
                all_goals (
                 congr 1))
          · trivial)
      all_goals first
      | fail_if_success with_reducible refine atR 8 ?_
      | (
        refine rg 8 [] [some 4] 1 ?_
        all_goals refine qP ?_
        all_goals refine qE ?_)
      all_goals first
      | fail_if_success with_reducible refine ret_fun (t := 4) ?_ ?_
      | (
        refine ret_fun (t := 4) ?_ (fun _ => rfl)
        first
        | exact cl
        | (
          try refine sm ?_
          all_goals (
           first
             | (congr 2; symm; rw [decide_eq_false_iff_not]; intro hab; subst hab; simp_all; done)
             | (congr 2; symm; rw [decide_eq_true_eq]; apply List.ext_getElem?; intro j; by_cases hj : j < i
                · exact hJ3 j hj
                · rw [List.getElem?_eq_none (by omega), List.getElem?_eq_none (by omega)])))))
  all_goals first
  | fail_if_success with_reducible refine ret_fun (t := 4) ?_ ?_
  | (
    refine ret_fun (t := 4) ?_ (fun _ => rfl)
    first
    | exact cl
    | (
      try refine sm ?_
      all_goals (
       first
         | (congr 2; symm; rw [decide_eq_false_iff_not]; intro hab; subst hab; simp_all; done)
         | (congr 2; symm; rw [decide_eq_true_eq]; apply List.ext_getElem?; intro j; by_cases hj : j < i
            · exact hJ3 j hj
            · rw [List.getElem?_eq_none (by omega), List.getElem?_eq_none (by omega)]))))

end
section
attribute [local go_sem] tsz9 tsz22 tsz27 tfld27 tel22 toNat_cast und9 sS
theorem smHas_spec (a : List ByteArray) (x : ByteArray) : Fun Try.prog 26 [.d (strs a), .d (.str x)] (.d (.bool (a.any fun y => decide (y = x)))) := by
  refine Fun.of ?_ rfl rfl
  refine Spec.of (fn := Try.f26) Try.func26 rfl (by kernel_rfl) (rs := [.tmp 4]) rfl 1 (by simp [Try.f26]) rfl (by simp) ?_
  intro hreal
  rintro ⟨P, T, L0, w0, ι0, C0, U0⟩ hP hT hU
  subst hP hT
  refine st ?_
  have hla : a.length ≤ 9223372036854775807 := by simpa using D.real_len (X.real_d (hreal (.d (strs a)) (by simp)) : D.real (.sl (a.map sS)))
  all_goals first
  | fail_if_success with_reducible refine atR 0 ?_
  | (
    refine rg 0 [] [some 4] 1 ?_
    all_goals refine qP ?_
    all_goals refine qE ?_)
  all_goals first
  | fail_if_success with_reducible refine atR 1 ?_
  | (
    refine rg 1 [] [some 5] 1 ?_
    all_goals refine qP ?_
    all_goals refine qE ?_)
  all_goals first
  | fail_if_success with_reducible refine AW.rounds (α := Nat) ?_ ?_ ?_ ?_ ?_ ?_ ?_ ?_
  | (
    refine AW.rounds (α := Nat) (fun i => i ≤ a.length ∧ ∀ j y, j < i → a[j]? = some y → y ≠ x) (fun i => St.by [(0, .d (strs a)), (1, .d (.str x)), (5, .d (.int .i64 i))] []) (fun i => a.length - i) 1 0 ?_ ?_ ?_
    · exact ⟨by omega, fun j y hj => by omega⟩
    · refine Vw.to [] _ _ (vU hU) ?_ ?_ (by simp [tauL])
      · refine vd (vd (vw_d ?_ (trivial)))
        · first
          | exact cl2
          | (
            refine sm2 ?_
            all_goals (
             rfl))
      · trivial
    · intro i hJ
      refine st ?_
      obtain ⟨hJ1, hJ2⟩ := hJ
      all_goals first
      | fail_if_success with_reducible refine atR 2 ?_
      | (
        refine rg 2 [] [some 6, some 7, some 8, some 9] 4 ?_
        all_goals iterate 4 refine qP ?_
        all_goals refine qE ?_)
      all_goals first
      | fail_if_success with_reducible refine atC 9 ?_
      | (
        refine cn 9 ?_ ?_ <;> intro hc9 <;> try (cases hc9; done)
        all_goals refine st ?_)
      all_goals first
      | fail_if_success with_reducible refine atR 4 ?_
      | (
        refine rg 4 [] [some 12, some 13, some 14, some 15, some 16, some 17] 6 ?_
        all_goals iterate 2 refine qP ?_
        all_goals (
          refine qL_cons ?_
          intro R hR
          refine sm ?_
          refine ⟨⟨by omega, by omega⟩, ?_⟩
          intro x1 hx1
          all_goals (refine hR _ ?_; clear hR R))
        all_goals iterate 3 refine qP ?_
        all_goals refine qE ?_)
      all_goals first
      | fail_if_success with_reducible refine atC 17 ?_
      | (
        refine cn 17 ?_ ?_ <;> intro hc17 <;> try (cases hc17; done)
        all_goals refine st ?_)
      all_goals first
      | fail_if_success with_reducible refine atR 5 ?_
      | (
        refine rg 5 [] [some 4] 1 ?_
        all_goals refine qP ?_
        all_goals refine qE ?_)
      all_goals first
      | fail_if_success with_reducible refine atR 3 ?_
      | (
        refine rg 3 [] [some 10, some 11, some 5] 3 ?_
        all_goals refine qP ?_
        all_goals (
          refine qL_cons ?_
          intro R hR
          refine sm ?_
          rw [wrap64 (by omega) (by omega)]
          all_goals (refine hR _ ?_; clear hR R))
        all_goals refine qP ?_
        all_goals refine qE ?_)
      all_goals first
      | fail_if_success with_reducible refine ⟨i + 1, ?_, ?_, ?_⟩
      | (
        refine ⟨i + 1, ?_, ?_, ?_⟩
        · refine ⟨by omega, fun j y hj hy => ?_⟩
          by_cases hji : j = i
          · subst hji; simp_all
          · exact hJ2 j y (by omega) hy
        · omega
        · refine Vw.to [] _ _ (vU hU) ?_ ?_ (by simp [tauL])
          · refine vd (vd (vw_d ?_ (trivial)))
            · first
              | exact cl2
              | (
                refine sm2 ?_
                all_goals (
                 congr 1))
          · trivial)
      all_goals first
      | fail_if_success with_reducible refine atR 6 ?_
      | (
        refine rg 6 [] [some 4] 1 ?_
        all_goals refine qP ?_
        all_goals refine qE ?_)
      all_goals first
      | fail_if_success with_reducible refine ret_fun (t := 4) ?_ ?_
      | (
        refine ret_fun (t := 4) ?_ (fun _ => rfl)
        first
        | exact cl
        | (
          try refine sm ?_
          all_goals (
           first
             | (congr 2; symm; rw [List.any_eq_true]; exact ⟨x1, List.mem_of_getElem? hx1, by simp_all⟩)
             | (congr 2; symm; rw [List.any_eq_false]; intro y hm; obtain ⟨j, hj, hjy⟩ := List.mem_iff_getElem.1 hm; have := hJ2 j y (by omega) (by rw [List.getElem?_eq_getElem hj, hjy]); simpa using this)))))
  all_goals first
  | fail_if_success with_reducible refine ret_fun (t := 4) ?_ ?_
  | (
    refine ret_fun (t := 4) ?_ (fun _ => rfl)
    first
    | exact cl
    | (
      try refine sm ?_
      all_goals (
       first
         | (congr 2; symm; rw [List.any_eq_true]; exact ⟨x1, List.mem_of_getElem? hx1, by simp_all⟩)
         | (congr 2; symm; rw [List.any_eq_false]; intro y hm; obtain ⟨j, hj, hjy⟩ := List.mem_iff_getElem.1 hm; have := hJ2 j y (by omega) (by rw [List.getElem?_eq_getElem hj, hjy]); simpa using this))))

end
section
attribute [local go_sem] tsz9 tsz22 tsz27 tfld27 tel22 toNat_cast und9
theorem smReview_spec (v w : Rv) : Fun Try.prog 25 [.ag [.d (.str v.br), .d (.str v.into), .d (.str v.by_), .d (strs v.yes)], .ag [.d (.str w.br), .d (.str w.into), .d (.str w.by_), .d (strs w.yes)]] (.d (.bool (decide (v.br = w.br ∧ v.into = w.into ∧ v.by_ = w.by_ ∧ v.yes = w.yes)))) := by
  refine Fun.of ?_ rfl rfl
  refine Spec.of (fn := Try.f25) Try.func25 rfl (by kernel_rfl) (rs := [.tmp 4]) rfl 1 (by simp [Try.f25]) rfl (by simp) ?_
  intro hreal
  rintro ⟨P, T, L0, w0, ι0, C0, U0⟩ hP hT hU
  subst hP hT
  refine st ?_
  all_goals first
  | fail_if_success with_reducible refine atR 0 ?_
  | (
    refine rg 0 [] [some 2, some 3, some 4] 3 ?_
    all_goals iterate 3 refine qP ?_
    all_goals refine qE ?_)
  all_goals first
  | fail_if_success with_reducible refine atR 1 ?_
  | (
    refine rg 1 [] [some 5, some 6, some 7, some 8, some 9, some 10, some 11, some 12, some 13, some 14, some 15, some 16, some 17, some 18, some 19, some 20, some 21, some 22, some 23, some 24, some 25, some 26, some 27, some 28, some 29, some 30, some 4] 27 ?_
    all_goals iterate 6 refine qP ?_
    all_goals first | refine qU 10 ?_ | (refine qS 10 ?_ ?_ <;> intro hg1_5 <;> try (cases hg1_5; done))
    all_goals iterate 7 refine qP ?_
    all_goals first | refine qU 17 ?_ | (refine qS 17 ?_ ?_ <;> intro hg1_12 <;> try (cases hg1_12; done))
    all_goals iterate 7 refine qP ?_
    all_goals first | refine qU 24 ?_ | (refine qS 24 ?_ ?_ <;> intro hg1_19 <;> try (cases hg1_19; done))
    all_goals iterate 4 refine qP ?_
    all_goals first
    | (
      refine qL_cons ?_
      intro R hR
      refine sm ?_
      refine call_fun (smTexts_spec v.yes w.yes) [] ?_ (.inl rfl) ?_
      · exact ⟨.inl rfl, ⟨.inl rfl, trivial⟩⟩
      refine sm ?_
      refine hR _ ?_
      clear hR R)
    | refine qP ?_
    all_goals iterate 2 refine qP ?_
    all_goals refine qE ?_)
  all_goals first
  | fail_if_success with_reducible refine ret_fun (t := 4) ?_ ?_
  | (
    refine ret_fun (t := 4) ?_ (fun _ => rfl)
    first
    | exact cl
    | (
      try refine sm ?_
      all_goals (
       (congr 2; simp_all))))

end
end Go.Proofs.Ytmlbdicaeefomaa
