/- a review drawn from a code. No condition. -/
import Derived.Test.YtmlbdicaeefomaaE32
namespace Go.Proofs.Ytmlbdicaeefomaa
open Go Go.RowKit
set_option maxRecDepth 100000
set_option linter.unusedSimpArgs false
set_option linter.unusedVariables false
attribute [local go_sem] List.size_toArray Int.toNat_zero Nat.sub_zero size_mk top_val eq_self datL X.dat u8min u8max i64min i64max stepT gdO aop ev lit litOk putF fzX_false putO upd app List.contains_nil List.elem_nil aBin aInt aStr aBool aLen lenTy aBuiltin aLoad aTake aTakeX aStore splice aSlice aBd look_cons look_nil lookC_cons lookC_nil by_s by_C start_s start_C X.cells X.cell List.all_cons List.all_nil Bool.and_self Bool.not_true Bool.not_false false_implies true_implies forall_const and_true true_and and_self implies_true not_false_eq_true Nat.zero_add Nat.add_zero List.getD_cons_zero List.getD_cons_succ List.map_cons List.map_nil Option.bind_some Option.map_some Option.map_none List.getElem?_cons_zero List.getElem?_cons_succ List.length_cons List.length_nil List.drop_zero List.drop_succ_cons List.take_succ_cons List.take_zero List.cons_append List.nil_append List.append_nil D.of List.length_map all_get_map Option.isSome_some and_false false_and Nat.lt_add_one Nat.zero_lt_succ decide_true decide_false fzX litEs List.contains_cons List.elem_cons Bool.true_or Bool.or_true Bool.false_or Bool.or_false beq_self_eq_true
section
attribute [local go_sem] tsz9 tsz22 tsz27 tfld27 tel22 toNat_cast und9 zero27 tz9l iz9 aDst aSrc caps1 sS List.length_append St.frz X.frz X.frzL Cap.frz
theorem l30Review_spec (bs : List UInt8) (p : Int) (hp : 0 ≤ p) (hp2 : p ≤ 100000) : Spec Try.prog 56 [.bx 0 0] [(0, rdC bs p)] 1 (fun x δ => ∃ c', δ = [(0, some c')] ∧ rvR bs p 8 x c') := by
  refine Spec.of (fn := Try.f56) Try.func56 rfl (by kernel_rfl) (rs := [.cell 2 27]) rfl 2 (by simp [Try.f56]) rfl (by simp [Cap.on, X.onL, X.on, rdC]) ?_
  intro hreal
  rintro ⟨P, T, L0, w0, ι0, C0, U0⟩ hP hT hU
  subst hP hT
  refine st ?_
  all_goals first
  | fail_if_success with_reducible refine atR 0 ?_
  | (
    refine rg 0 [] [some 2] 1 ?_
    all_goals refine qP ?_
    all_goals refine qE ?_)
  all_goals first
  | fail_if_success with_reducible refine atR 1 ?_
  | (
    refine rg 1 [1, 4, 7] [some 6, some 7, some 8, some 9, some 10, some 11, some 12, some 13, some 14, some 15, some 3, none] 12 ?_
    all_goals iterate 2 refine qP ?_
    all_goals (
      refine qL_cons ?_
      intro R hR
      refine sm ?_
      refine call_box (of_spec bs [⟨#[115, 105, 100, 101]⟩, ⟨#[100, 101, 118]⟩, ⟨#[109, 97, 105, 110]⟩] (p) (by omega) (by omega) (by decide) (by decide)) rfl rfl ofR_on (ofR_ne _ _) (a := 0) (by decide) cl trivial (fun h => h) ?_ ?_
      · exact ⟨.inl rfl, ⟨.inl rfl, trivial⟩⟩
      rintro _ _ ⟨s1, rfl, rfl⟩
      try refine sm ?_
      all_goals (refine hR _ ?_; clear hR R))
    all_goals iterate 2 refine qP ?_
    all_goals (
      refine qL_cons ?_
      intro R hR
      refine sm ?_
      refine call_box (of_spec bs [⟨#[109, 97, 105, 110]⟩, ⟨#[109, 97, 105, 110]⟩, ⟨#[100, 101, 118]⟩] (p + 1) (by omega) (by omega) (by decide) (by decide)) rfl rfl ofR_on (ofR_ne _ _) (a := 0) (by decide) cl trivial (fun h => h) ?_ ?_
      · exact ⟨.inl rfl, ⟨.inl rfl, trivial⟩⟩
      rintro _ _ ⟨s2, rfl, rfl⟩
      try refine sm ?_
      all_goals (refine hR _ ?_; clear hR R))
    all_goals iterate 2 refine qP ?_
    all_goals (
      refine qL_cons ?_
      intro R hR
      refine sm ?_
      refine call_box (of_spec bs [⟨#[97, 110, 110]⟩, ⟨#[98, 111, 98]⟩, ⟨#[101, 118, 101]⟩] (p + 1 + 1) (by omega) (by omega) (by decide) (by decide)) rfl rfl ofR_on (ofR_ne _ _) (a := 0) (by decide) cl trivial (fun h => h) ?_ ?_
      · exact ⟨.inl rfl, ⟨.inl rfl, trivial⟩⟩
      rintro _ _ ⟨s3, rfl, rfl⟩
      try refine sm ?_
      all_goals (refine hR _ ?_; clear hR R))
    all_goals iterate 3 refine qP ?_
    all_goals refine qE ?_)
  all_goals refine AW.view (Vw.ownB 9 1 13 3 (tyB := 27) cl rfl) ?_
  all_goals first
  | fail_if_success with_reducible refine atR 2 ?_
  | (
    refine rg 2 [0] [some 16, some 4] 2 ?_
    all_goals iterate 2 refine qP ?_
    all_goals refine qE ?_)
  all_goals first
  | fail_if_success with_reducible refine atR 3 ?_
  | (
    refine rg 3 [] [some 5] 1 ?_
    all_goals refine qP ?_
    all_goals refine qE ?_)
  all_goals first
  | fail_if_success with_reducible refine AW.rounds (α := (Nat × List ByteArray × Int)) ?_ ?_ ?_ ?_ ?_ ?_ ?_ ?_
  | (
    refine AW.rounds (α := (Nat × List ByteArray × Int)) (fun z => z.1 ≤ 3 ∧ z.2.1.length ≤ z.1 ∧ p ≤ z.2.2 ∧ z.2.2 ≤ p + 3 + z.1) (fun z => St.by [(0, .bx 0 0), (2, .bx 2 0), (3, .bx 13 0), (4, .d (strs [⟨#[97, 110, 110]⟩, ⟨#[98, 111, 98]⟩, ⟨#[99, 105, 100]⟩])), (5, .d (.int .i64 z.1))] [(0, rdC bs z.2.2), (2, .box 27 [.d (.str ByteArray.empty), .d (.str ByteArray.empty), .d (.str ByteArray.empty), .nil]), (13, .box 27 [.d (.str s1), .d (.str s2), .d (.str s3), .vec 15 1 0 z.2.1.length]), (15, .vec 9 1 (z.2.1.map sS))]) (fun z => 3 - z.1) 16 (0, [], p + 1 + 1 + 1) ?_ ?_ ?_
    · exact ⟨by simp, by simp, by simp only; omega, by simp only; omega⟩
    · refine Vw.to [] _ _ (vU hU) ?_ ?_ (by simp [tauL])
      · refine vx (vx (vx (vd (vw_d ?_ (trivial)))))
        · first
          | exact cl2
          | (
            refine sm2 ?_
            all_goals (
             rfl))
      · exact ⟨⟨by simp, rfl, cl3⟩, ⟨by simp, rfl, cl3⟩, ⟨by simp, rfl, cl3⟩, ⟨by simp, rfl, cl3⟩, trivial⟩
    · intro z hJ
      refine st ?_
      obtain ⟨hJ1, hJ2, hJ3, hJ4⟩ := hJ
      all_goals first
      | fail_if_success with_reducible refine atR 4 ?_
      | (
        refine rg 4 [] [some 17, some 18, some 19, some 20] 4 ?_
        all_goals iterate 4 refine qP ?_
        all_goals refine qE ?_)
      all_goals first
      | fail_if_success with_reducible refine atC 20 ?_
      | (
        refine cn 20 ?_ ?_ <;> intro hc20 <;> try (cases hc20; done)
        all_goals refine st ?_)
      all_goals first
      | fail_if_success with_reducible refine atR 6 ?_
      | (
        refine rg 6 [] [some 23, some 24, some 25] 3 ?_
        all_goals refine qP ?_
        all_goals (
          refine qL_cons ?_
          intro R hR
          refine sm ?_
          refine call_box (pick_spec bs 2 (z.2.2) (by omega) (by omega) (by omega)) rfl rfl pickR_on (pickR_ne _ _ _) (a := 0) (by decide) cl trivial (fun h => h) ?_ ?_
          · exact ⟨.inl rfl, ⟨.inl rfl, trivial⟩⟩
          rintro _ _ ⟨r, rfl, r0, r1, rfl⟩
          try refine sm ?_
          all_goals (refine hR _ ?_; clear hR R))
        all_goals refine qP ?_
        all_goals refine qE ?_)
      all_goals first
      | fail_if_success with_reducible refine atC 25 ?_
      | (
        refine cn 25 ?_ ?_ <;> intro hc25 <;> try (cases hc25; done)
        all_goals refine st ?_)
      all_goals first
      | fail_if_success with_reducible refine atR 7 ?_
      | (
        refine rgW 7 [6] [some 26, some 27, some 28, some 29, some 30, some 31, some 32, some 33, some 34, none] 10 11 [(7, [15]), (9, [13])] ?_
        intro av wr hav hwr
        have hf1_13 := avD 1 13 hav
        have hf7_15 := avD 7 15 hav
        have hf9_13 := avD 9 13 hav
        have hw7_15 := wrD 7 15 hwr
        have hw9_13 := wrD 9 13 hwr
        all_goals refine qP ?_
        all_goals (
          refine qL_cons ?_
          intro R hR
          simp only [go_sem, reduceIte, reduceCtorEq, Nat.reduceAdd, Nat.reduceEqDiff, Nat.reduceLeDiff, Nat.reduceLT, Nat.reduceSub, Int.reduceLE, Int.reduceNeg, Int.reduceLT, hf1_13, hf7_15, hf9_13, hw7_15, hw9_13]
          all_goals (refine hR _ ?_; clear hR R))
        all_goals iterate 2 refine qP ?_
        all_goals (
          refine qL_cons ?_
          intro R hR
          simp only [go_sem, reduceIte, reduceCtorEq, Nat.reduceAdd, Nat.reduceEqDiff, Nat.reduceLeDiff, Nat.reduceLT, Nat.reduceSub, Int.reduceLE, Int.reduceNeg, Int.reduceLT, hf1_13, hf7_15, hf9_13, hw7_15, hw9_13]
          refine ⟨⟨by omega, by omega⟩, ?_⟩
          intro c hc
          obtain ⟨y, hy, rfl⟩ := row_get (ss := [⟨#[97, 110, 110]⟩, ⟨#[98, 111, 98]⟩, ⟨#[99, 105, 100]⟩]) hc
          refine ⟨rfl, ?_⟩
          all_goals (refine hR _ ?_; clear hR R))
        all_goals (
          refine qL_cons ?_
          intro R hR
          simp only [go_sem, reduceIte, reduceCtorEq, Nat.reduceAdd, Nat.reduceEqDiff, Nat.reduceLeDiff, Nat.reduceLT, Nat.reduceSub, Int.reduceLE, Int.reduceNeg, Int.reduceLT, hf1_13, hf7_15, hf9_13, hw7_15, hw9_13]
          all_goals (refine hR _ ?_; clear hR R))
        all_goals refine qP ?_
        all_goals (
          refine qL_cons ?_
          intro R hR
          simp only [go_sem, reduceIte, reduceCtorEq, Nat.reduceAdd, Nat.reduceEqDiff, Nat.reduceLeDiff, Nat.reduceLT, Nat.reduceSub, Int.reduceLE, Int.reduceNeg, Int.reduceLT, hf1_13, hf7_15, hf9_13, hw7_15, hw9_13]
          refine ⟨by simp [sS], by omega, ?_⟩
          all_goals (refine hR _ ?_; clear hR R))
        all_goals refine qP ?_
        all_goals (
          refine qL_cons ?_
          intro R hR
          simp only [go_sem, reduceIte, reduceCtorEq, Nat.reduceAdd, Nat.reduceEqDiff, Nat.reduceLeDiff, Nat.reduceLT, Nat.reduceSub, Int.reduceLE, Int.reduceNeg, Int.reduceLT, hf1_13, hf7_15, hf9_13, hw7_15, hw9_13]
          all_goals (refine hR _ ?_; clear hR R))
        all_goals refine qE ?_
        all_goals clear hf1_13 hf7_15 hf9_13 hw7_15 hw9_13 hav hwr wr av)
      all_goals first
      | fail_if_success with_reducible refine atR 5 ?_
      | (
        refine rg 5 [] [some 21, some 22, some 5] 3 ?_
        all_goals refine qP ?_
        all_goals (
          refine qL_cons ?_
          intro R hR
          refine sm ?_
          rw [wrap64 (by omega) (by omega)]
          all_goals (refine hR _ ?_; clear hR R))
        all_goals refine qP ?_
        all_goals refine qE ?_)
      all_goals first
      | fail_if_success with_reducible refine ⟨(z.1 + 1, z.2.1, z.2.2), ?_, ?_, ?_⟩
      | (
          refine ⟨(z.1 + 1, z.2.1 ++ [y], z.2.2 + 1), ?_, ?_, ?_⟩
          · refine ⟨by simp only; omega, by simp; omega, by simp only; omega, by simp only; omega⟩
          · simp only; omega
          · refine Vw.to [(15, 30)] _ _ (fun n hn => by have := hU n hn; have h0 : n = 0 := (by omega); subst h0; exact ⟨by decide, rfl⟩) ?_ ?_ (by simp [tauL])
            · refine vx (vx (vx (vd (vw_d ?_ trivial))))
              refine sm2 ?_
              congr 1
            · refine ⟨⟨by simp, rfl, cl3⟩, ⟨by simp, rfl, cl3⟩, ⟨by simp, rfl, ?_⟩, ⟨by simp, rfl, ?_⟩, trivial⟩
              all_goals first
              | exact cl3
              | (simp [tauL, Cap.ren, upd, look, lookC, St.by, X.renL, X.ren, sS, putF]; done))
      | (
          refine ⟨(z.1 + 1, z.2.1, z.2.2 + 1), ?_, ?_, ?_⟩
          · refine ⟨by simp only; omega, by simp; omega, by simp only; omega, by simp only; omega⟩
          · simp only; omega
          · refine Vw.to [] _ _ (fun n hn => by have := hU n hn; have h0 : n = 0 := (by omega); subst h0; exact ⟨by decide, rfl⟩) ?_ ?_ (by simp [tauL])
            · refine vx (vx (vx (vd (vw_d ?_ trivial))))
              refine sm2 ?_
              congr 1
            · refine ⟨⟨by simp, rfl, cl3⟩, ⟨by simp, rfl, cl3⟩, ⟨by simp, rfl, ?_⟩, ⟨by simp, rfl, ?_⟩, trivial⟩
              all_goals first
              | exact cl3
              | (simp [tauL, Cap.ren, upd, look, lookC, St.by, X.renL, X.ren, sS, putF]; done))
      all_goals first
      | fail_if_success with_reducible refine atR 8 ?_
      | (
        refine rg 8 [] [some 35, some 36, some 37] 3 ?_
        all_goals refine qP ?_
        all_goals (
          refine qL_cons ?_
          intro R hR
          refine sm ?_
          refine call_box (pick_spec bs 14 (z.2.2) (by omega) (by omega) (by omega)) rfl rfl pickR_on (pickR_ne _ _ _) (a := 0) (by decide) cl trivial (fun h => h) ?_ ?_
          · exact ⟨.inl rfl, ⟨.inl rfl, trivial⟩⟩
          rintro _ _ ⟨r2, rfl, r20, r21, rfl⟩
          try refine sm ?_
          all_goals (refine hR _ ?_; clear hR R))
        all_goals refine qP ?_
        all_goals refine qE ?_)
      all_goals first
      | fail_if_success with_reducible refine atC 37 ?_
      | (
        refine cn 37 ?_ ?_ <;> intro hc37 <;> try (cases hc37; done)
        all_goals refine st ?_)
      all_goals first
      | fail_if_success with_reducible refine atR 9 ?_
      | (
        refine rg 9 [2] [some 38, some 39, some 40, some 41, some 42, none] 6 ?_
        all_goals iterate 3 refine qP ?_
        all_goals (
          refine qL_cons ?_
          intro R hR
          refine sm ?_
          refine ⟨by simp, by omega, ?_⟩
          all_goals (refine hR _ ?_; clear hR R))
        all_goals iterate 2 refine qP ?_
        all_goals refine qE ?_)
      all_goals first
      | fail_if_success with_reducible refine atR 10 ?_
      | (
        refine rg 10 [] [some 43, none] 2 ?_
        all_goals iterate 2 refine qP ?_
        all_goals refine qE ?_)
      all_goals first
      | exact ret_boxV (R := rvR bs p 8) (c1 := rdC bs (z.2.2 + 1)) (Vw.frz 15 1 (z.2.1.map sS) cl) [RVx ⟨s1, s2, s3, z.2.1⟩] ⟨cl, trivial⟩ (fun _ => rfl) cl rfl ⟨_, rfl, _, by omega, by omega, rfl⟩
      | (
        refine ret_boxV (R := rvR bs p 8) (c1 := rdC bs (z.2.2 + 1)) (Vw.frz (ty := 9) 26 1 ((z.2.1 ++ [(⟨#[97, 110, 110]⟩ : ByteArray)]).map sS) ?_) [RVx ⟨s1, s2, s3, z.2.1 ++ [(⟨#[97, 110, 110]⟩ : ByteArray)]⟩] ⟨?_, trivial⟩ (fun _ => rfl) ?_ rfl ⟨_, rfl, _, by omega, by omega, rfl⟩
        · refine sm ?_
          simp [sS]
        · refine sm ?_
          simp [RVx, sS, strs, D.of]
        · exact cl))
  all_goals first
  | exact ret_boxV (R := rvR bs p 8) (c1 := rdC bs (z.2.2 + 1)) (Vw.frz 15 1 (z.2.1.map sS) cl) [RVx ⟨s1, s2, s3, z.2.1⟩] ⟨cl, trivial⟩ (fun _ => rfl) cl rfl ⟨_, rfl, _, by omega, by omega, rfl⟩
  | (
    refine ret_boxV (R := rvR bs p 8) (c1 := rdC bs (z.2.2 + 1)) (Vw.frz (ty := 9) 26 1 ((z.2.1 ++ [(⟨#[97, 110, 110]⟩ : ByteArray)]).map sS) ?_) [RVx ⟨s1, s2, s3, z.2.1 ++ [(⟨#[97, 110, 110]⟩ : ByteArray)]⟩] ⟨?_, trivial⟩ (fun _ => rfl) ?_ rfl ⟨_, rfl, _, by omega, by omega, rfl⟩
    · refine sm ?_
      simp [sS]
    · refine sm ?_
      simp [RVx, sS, strs, D.of]
    · exact cl)

end
section
attribute [local go_sem] tsz9 tsz22 tsz27 tfld27 tel22 toNat_cast und9 zero27 iz9 RVx
theorem DrawReviewYes_spec (bs : List UInt8) : FunE Try.prog 22 [.d (.of bX bs)] (fun x => ∃ v : Rv, ∃ who : ByteArray, x = .tup [RVx v, .d (.str who)]) := by
  refine FunE.of ?_ rfl (by rintro x ⟨v, who, rfl⟩; rfl)
  refine Spec.of (fn := Try.f22) Try.func22 rfl (by kernel_rfl) (rs := [.cell 2 27, .tmp 3]) rfl 1 (by simp [Try.f22]) rfl (by simp) ?_
  intro hreal
  rintro ⟨P, T, L0, w0, ι0, C0, U0⟩ hP hT hU
  subst hP hT
  refine st ?_
  all_goals first
  | fail_if_success with_reducible refine atR 0 ?_
  | (
    refine rg 0 [] [some 2, some 3] 2 ?_
    all_goals iterate 2 refine qP ?_
    all_goals refine qE ?_)
  all_goals first
  | fail_if_success with_reducible refine atR 1 ?_
  | (
    refine rg 1 [] [some 6, some 7, some 4] 3 ?_
    all_goals refine qP ?_
    all_goals (
      refine qL_cons ?_
      intro R hR
      refine sm ?_
      refine call_new (l30Open_spec bs) ?_ ?_
      · exact ⟨.inl rfl, trivial⟩
      refine sm ?_
      all_goals (refine hR _ ?_; clear hR R))
    all_goals refine qP ?_
    all_goals refine qE ?_)
  all_goals first
  | fail_if_success with_reducible refine atR 2 ?_
  | (
    refine rg 2 [] [some 8, some 9, some 5, none] 4 ?_
    all_goals refine qP ?_
    all_goals (
      refine qL_cons ?_
      intro R hR
      refine sm ?_
      refine call_box (l30Review_spec (cutB bs) 0 (by omega) (by omega)) rfl rfl rvR_on (rvR_ne _ _ _ (by omega)) (a := 4) (by decide) cl trivial (fun h => h) ?_ ?_
      · exact ⟨.inl rfl, trivial⟩
      rintro _ _ ⟨v, rfl, q, hq1, hq2, rfl⟩
      try refine sm ?_
      all_goals (refine hR _ ?_; clear hR R))
    all_goals iterate 2 refine qP ?_
    all_goals refine qE ?_)
  all_goals first
  | fail_if_success with_reducible refine atR 3 ?_
  | (
    refine rgW 3 [2] [some 10, some 11, some 12, some 13, none, some 3] 6 7 [(3, [4]), (4, [1])] ?_
    intro av wr hav hwr
    have hf0_8 := avD 0 8 hav
    have hf3_4 := avD 3 4 hav
    have hf4_1 := avD 4 1 hav
    have hw3_4 := wrD 3 4 hwr
    have hw4_1 := wrD 4 1 hwr
    all_goals (
      refine qL_cons ?_
      intro R hR
      simp only [go_sem, reduceIte, reduceCtorEq, Nat.reduceAdd, Nat.reduceEqDiff, Nat.reduceLeDiff, Nat.reduceLT, Nat.reduceSub, Int.reduceLE, Int.reduceNeg, Int.reduceLT, hf0_8, hf3_4, hf4_1, hw3_4, hw4_1]
      all_goals (refine hR _ ?_; clear hR R))
    all_goals iterate 2 refine qP ?_
    all_goals (
      refine qL_cons ?_
      intro R hR
      simp only [go_sem, reduceIte, reduceCtorEq, Nat.reduceAdd, Nat.reduceEqDiff, Nat.reduceLeDiff, Nat.reduceLT, Nat.reduceSub, Int.reduceLE, Int.reduceNeg, Int.reduceLT, hf0_8, hf3_4, hf4_1, hw3_4, hw4_1]
      refine call_box (of_spec (cutB bs) [⟨#[97, 110, 110]⟩, ⟨#[98, 111, 98]⟩, ⟨#[122, 111, 101]⟩, ⟨#[]⟩] q (by omega) (by omega) (by decide) (by decide)) rfl rfl ofR_on (ofR_ne _ _) (a := 4) (by decide) cl (by simp only [hw3_4]) (by simp only [hf3_4]; exact fun h => h) ?_ ?_
      · exact ⟨.inl rfl, ⟨.inl rfl, trivial⟩⟩
      rintro _ _ ⟨who, rfl, rfl⟩
      try refine sm ?_
      all_goals (refine hR _ ?_; clear hR R))
    all_goals (
      refine qL_cons ?_
      intro R hR
      simp only [go_sem, reduceIte, reduceCtorEq, Nat.reduceAdd, Nat.reduceEqDiff, Nat.reduceLeDiff, Nat.reduceLT, Nat.reduceSub, Int.reduceLE, Int.reduceNeg, Int.reduceLT, hf0_8, hf3_4, hf4_1, hw3_4, hw4_1]
      all_goals (refine hR _ ?_; clear hR R))
    all_goals refine qP ?_
    all_goals refine qE ?_
    all_goals clear hf0_8 hf3_4 hf4_1 hw3_4 hw4_1 hav hwr wr av)
  all_goals exact ⟨_, _, Vw.refl _ _ _, [], [RVx v, .d (.str who)], fun n hn => by simp at hn, ⟨cl, cl, trivial⟩, rfl, ⟨v, who, rfl⟩, rfl⟩

end
end Go.Proofs.Ytmlbdicaeefomaa
