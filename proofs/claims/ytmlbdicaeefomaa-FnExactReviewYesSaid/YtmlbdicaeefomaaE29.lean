/- the program ReviewYes. No condition. -/
import Derived.Test.YtmlbdicaeefomaaE28
namespace Go.Proofs.Ytmlbdicaeefomaa
open Go Go.RowKit
set_option maxRecDepth 100000
set_option linter.unusedSimpArgs false
set_option linter.unusedVariables false
/-- What a review's names become: w, if that is ok. -/
def rvOut (v : Rv) (w : List ByteArray) : List ByteArray := if rvB { v with yes := w } then w else v.yes
def rvMk (v : Rv) (w : List ByteArray) (m : Nat) : X := .tup [.ag [.d (.str v.br), .d (.str v.into), .d (.str v.by_), .vec m 1 0 (rvOut v w).length], .d (.bool (rvB { v with yes := w }))]
def rvBad : X := .tup [.ag [.d (.str ByteArray.empty), .d (.str ByteArray.empty), .d (.str ByteArray.empty), .nil], .d (.bool false)]
def wI (v : Rv) (who : ByteArray) : List ByteArray := if fS v.yes who then v.yes else insS v.yes (kS v.yes who) who
theorem rvB_len {v : Rv} (h : rvB v = true) : v.yes.length ≤ 5 := by
  simp only [rvB, Bool.and_eq_true, decide_eq_true_eq] at h
  omega
attribute [local go_sem] List.size_toArray Int.toNat_zero Nat.sub_zero size_mk top_val eq_self datL X.dat u8min u8max i64min i64max stepT gdO aop ev lit litOk putF fzX_false putO upd app List.contains_nil List.elem_nil aBin aInt aStr aBool aLen lenTy aBuiltin aLoad aTake aTakeX aStore splice aSlice aBd look_cons look_nil lookC_cons lookC_nil by_s by_C start_s start_C X.cells X.cell List.all_cons List.all_nil Bool.and_self Bool.not_true Bool.not_false false_implies true_implies forall_const and_true true_and and_self implies_true not_false_eq_true Nat.zero_add Nat.add_zero List.getD_cons_zero List.getD_cons_succ List.map_cons List.map_nil Option.bind_some Option.map_some Option.map_none List.getElem?_cons_zero List.getElem?_cons_succ List.length_cons List.length_nil List.drop_zero List.drop_succ_cons List.take_succ_cons List.take_zero List.cons_append List.nil_append List.append_nil D.of List.length_map all_get_map Option.isSome_some and_false false_and Nat.lt_add_one Nat.zero_lt_succ decide_true decide_false fzX litEs List.contains_cons List.elem_cons Bool.true_or Bool.or_true Bool.false_or Bool.or_false beq_self_eq_true
section
attribute [local go_sem] tsz9 tsz22 tsz27 tfld27 tel22 toNat_cast und9 zero27 tz9l iz9 aDst aSrc
theorem implReviewYes_bad (v : Rv) (who : ByteArray) (h : rvB v = false) : Fun Try.prog 23 [.ag [.d (.str v.br), .d (.str v.into), .d (.str v.by_), .d (strs v.yes)], .d (.str who)] (rvBad) := by
  refine Fun.of ?_ rfl rfl
  refine Spec.of (fn := Try.f23) Try.func23 rfl (by kernel_rfl) (rs := [.cell 4 27, .tmp 5]) rfl 1 (by simp [Try.f23]) rfl (by simp) ?_
  intro hreal
  rintro ⟨P, T, L0, w0, ι0, C0, U0⟩ hP hT hU
  subst hP hT
  refine st ?_
  all_goals first
  | fail_if_success with_reducible refine atR 0 ?_
  | (
    refine rg 0 [] [some 2, some 4, some 5] 3 ?_
    all_goals iterate 3 refine qP ?_
    all_goals refine qE ?_)
  all_goals first
  | fail_if_success with_reducible refine atR 1 ?_
  | (
    refine rg 1 [] [some 9, some 10, some 11] 3 ?_
    all_goals refine qP ?_
    all_goals (
      refine qL_cons ?_
      intro R hR
      refine sm ?_
      refine call_fun (implReviewOk v) [] ?_ (.inl rfl) ?_
      · exact ⟨.inl rfl, trivial⟩
      refine sm ?_
      all_goals (refine hR _ ?_; clear hR R))
    all_goals refine qP ?_
    all_goals refine qE ?_)
  all_goals first
  | fail_if_success with_reducible refine atC 11 ?_
  | (
    refine cn 11 ?_ ?_ <;> intro hc11 <;> try (cases hc11; done)
    all_goals refine st ?_)
  all_goals try (simp [h] at hc11; done)
  all_goals first
  | fail_if_success with_reducible refine atR 2 ?_
  | (
    refine rg 2 [] [some 12, none, some 5] 3 ?_
    all_goals iterate 3 refine qP ?_
    all_goals refine qE ?_)
  all_goals refine ret_dat [.ag [.d (.str ByteArray.empty), .d (.str ByteArray.empty), .d (.str ByteArray.empty), .nil], .d (.bool false)] (Vw.refl _ _ _) ⟨cl, cl, trivial⟩ (fun _ => rfl) rfl

end
section
attribute [local go_sem] tsz9 tsz22 tsz27 tfld27 tel22 toNat_cast und9 zero27 tz9l iz9 aDst aSrc
theorem implReviewYes_ok (v : Rv) (who : ByteArray) (h : rvB v = true) : FunR Try.prog 23 [.ag [.d (.str v.br), .d (.str v.into), .d (.str v.by_), .d (strs v.yes)], .d (.str who)] (rvMk v (wI v who)) (.vec 9 1 ((rvOut v (wI v who)).map sS)) := by
  refine FunR.of ?_ rfl
  refine Spec.of (fn := Try.f23) Try.func23 rfl (by kernel_rfl) (rs := [.cell 4 27, .tmp 5]) rfl 1 (by simp [Try.f23]) rfl (by simp) ?_
  intro hreal
  rintro ⟨P, T, L0, w0, ι0, C0, U0⟩ hP hT hU
  subst hP hT
  refine st ?_
  have hlen := rvB_len h
  all_goals first
  | fail_if_success with_reducible refine atR 0 ?_
  | (
    refine rg 0 [] [some 2, some 4, some 5] 3 ?_
    all_goals iterate 3 refine qP ?_
    all_goals refine qE ?_)
  all_goals first
  | fail_if_success with_reducible refine atR 1 ?_
  | (
    refine rg 1 [] [some 9, some 10, some 11] 3 ?_
    all_goals refine qP ?_
    all_goals (
      refine qL_cons ?_
      intro R hR
      refine sm ?_
      refine call_fun (implReviewOk v) [] ?_ (.inl rfl) ?_
      · exact ⟨.inl rfl, trivial⟩
      refine sm ?_
      all_goals (refine hR _ ?_; clear hR R))
    all_goals refine qP ?_
    all_goals refine qE ?_)
  all_goals first
  | fail_if_success with_reducible refine atC 11 ?_
  | (
    refine cn 11 ?_ ?_ <;> intro hc11 <;> try (cases hc11; done)
    all_goals refine st ?_)
  all_goals try (simp [h] at hc11; done)
  all_goals first
  | fail_if_success with_reducible refine atR 2 ?_
  | (
    refine rg 2 [] [some 12, none, some 5] 3 ?_
    all_goals iterate 3 refine qP ?_
    all_goals refine qE ?_)
  all_goals first
  | fail_if_success with_reducible refine atR 3 ?_
  | (
    refine rgW 3 [] [some 13, some 14, some 15, some 16, some 17, some 18, some 19, some 20, some 21, some 22, some 6, none] 12 13 [(11, [17])] ?_
    intro av wr hav hwr
    have hf1_1 := avD 1 1 hav
    have hf3_1 := avD 3 1 hav
    have hf5_1 := avD 5 1 hav
    have hf7_1 := avD 7 1 hav
    have hf11_17 := avD 11 17 hav
    have hw11_17 := wrD 11 17 hwr
    all_goals refine qP ?_
    all_goals (
      refine qL_cons ?_
      intro R hR
      simp only [go_sem, reduceIte, reduceCtorEq, Nat.reduceAdd, Nat.reduceEqDiff, Nat.reduceLeDiff, Nat.reduceLT, Nat.reduceSub, Int.reduceLE, Int.reduceNeg, Int.reduceLT, hf1_1, hf3_1, hf5_1, hf7_1, hf11_17, hw11_17]
      all_goals (refine hR _ ?_; clear hR R))
    all_goals refine qP ?_
    all_goals (
      refine qL_cons ?_
      intro R hR
      simp only [go_sem, reduceIte, reduceCtorEq, Nat.reduceAdd, Nat.reduceEqDiff, Nat.reduceLeDiff, Nat.reduceLT, Nat.reduceSub, Int.reduceLE, Int.reduceNeg, Int.reduceLT, hf1_1, hf3_1, hf5_1, hf7_1, hf11_17, hw11_17]
      all_goals (refine hR _ ?_; clear hR R))
    all_goals refine qP ?_
    all_goals (
      refine qL_cons ?_
      intro R hR
      simp only [go_sem, reduceIte, reduceCtorEq, Nat.reduceAdd, Nat.reduceEqDiff, Nat.reduceLeDiff, Nat.reduceLT, Nat.reduceSub, Int.reduceLE, Int.reduceNeg, Int.reduceLT, hf1_1, hf3_1, hf5_1, hf7_1, hf11_17, hw11_17]
      all_goals (refine hR _ ?_; clear hR R))
    all_goals refine qP ?_
    all_goals (
      refine qL_cons ?_
      intro R hR
      simp only [go_sem, reduceIte, reduceCtorEq, Nat.reduceAdd, Nat.reduceEqDiff, Nat.reduceLeDiff, Nat.reduceLT, Nat.reduceSub, Int.reduceLE, Int.reduceNeg, Int.reduceLT, hf1_1, hf3_1, hf5_1, hf7_1, hf11_17, hw11_17]
      all_goals (refine hR _ ?_; clear hR R))
    all_goals (
      refine qL_cons ?_
      intro R hR
      simp only [go_sem, reduceIte, reduceCtorEq, Nat.reduceAdd, Nat.reduceEqDiff, Nat.reduceLeDiff, Nat.reduceLT, Nat.reduceSub, Int.reduceLE, Int.reduceNeg, Int.reduceLT, hf1_1, hf3_1, hf5_1, hf7_1, hf11_17, hw11_17]
      refine call_row (Clone_spec v.yes (by omega)) [] ?_ (.inl rfl) ?_
      · exact ⟨.inl rfl, trivial⟩
      simp only [go_sem, reduceIte, reduceCtorEq, Nat.reduceAdd, Nat.reduceEqDiff, Nat.reduceLeDiff, Nat.reduceLT, Nat.reduceSub, Int.reduceLE, Int.reduceNeg, Int.reduceLT, hf1_1, hf3_1, hf5_1, hf7_1, hf11_17, hw11_17]
      all_goals (refine hR _ ?_; clear hR R))
    all_goals iterate 2 refine qP ?_
    all_goals (
      refine qL_cons ?_
      intro R hR
      simp only [go_sem, reduceIte, reduceCtorEq, Nat.reduceAdd, Nat.reduceEqDiff, Nat.reduceLeDiff, Nat.reduceLT, Nat.reduceSub, Int.reduceLE, Int.reduceNeg, Int.reduceLT, hf1_1, hf3_1, hf5_1, hf7_1, hf11_17, hw11_17]
      all_goals (refine hR _ ?_; clear hR R))
    all_goals refine qE ?_
    all_goals clear hf1_1 hf3_1 hf5_1 hf7_1 hf11_17 hw11_17 hav hwr wr av)
  all_goals first
  | fail_if_success with_reducible refine atR 4 ?_
  | (
    refine rg 4 [] [some 24, some 25, some 26, some 27, some 23, some 28, some 29, some 7, some 8] 9 ?_
    all_goals iterate 3 refine qP ?_
    all_goals (
      refine qL_cons ?_
      intro R hR
      refine sm ?_
      refine call_fun (BS_spec v.yes who (by omega)) [15] ?_ (.inr rfl) ?_
      · exact ⟨.inr (lend_of (by simp) (by simp) cl (by simp)), ⟨.inl rfl, trivial⟩⟩
      refine sm ?_
      all_goals (refine hR _ ?_; clear hR R))
    all_goals iterate 5 refine qP ?_
    all_goals refine qE ?_)
  all_goals first
  | fail_if_success with_reducible refine atR 5 ?_
  | (
    refine rg 5 [] [some 30, some 31] 2 ?_
    all_goals iterate 2 refine qP ?_
    all_goals refine qE ?_)
  all_goals first
  | fail_if_success with_reducible refine atC 31 ?_
  | (
    refine cn 31 ?_ ?_ <;> intro hc31 <;> try (cases hc31; done)
    all_goals refine st ?_)
  all_goals first
  | fail_if_success with_reducible refine atR 6 ?_
  | (
    refine rg 6 [] [some 32, some 33, some 34, some 35, some 36, some 37, some 38, none] 8 ?_
    all_goals iterate 5 refine qP ?_
    all_goals (
      refine qL_cons ?_
      intro R hR
      refine sm ?_
      refine call_ins (Ins_spec v.yes who (kS v.yes who) (kS_le _ _) (by omega)) (a := 15) (b := 34) (by decide) (by decide) (by decide) cl cl trivial (fun h => h) trivial (fun h => h) ?_ ?_
      · exact ⟨.inl rfl, .inl rfl, .inl rfl, trivial⟩
      refine sm ?_
      all_goals (refine hR _ ?_; clear hR R))
    all_goals iterate 2 refine qP ?_
    all_goals refine qE ?_)
  all_goals first
  | fail_if_success with_reducible refine atR 7 ?_
  | (
    refine rg 7 [] [some 39, some 40, some 41] 3 ?_
    all_goals refine qP ?_
    all_goals (
      refine qL_cons ?_
      intro R hR
      first
      | (
        refine sm ?_
        refine call_fun (implReviewOk { v with yes := v.yes }) [15] ?_ (.inr rfl) ?_
        · exact ⟨.inr (.inr ⟨_, rfl, .inl rfl, .inl rfl, .inl rfl, .inr (.inr (lend_of (by simp) (by simp) cl (by simp [insS_len]))), trivial⟩), trivial⟩
        refine sm ?_)
      | (
        refine sm ?_
        refine call_fun (implReviewOk { v with yes := insS v.yes (kS v.yes who) who }) [35] ?_ (.inr rfl) ?_
        · exact ⟨.inr (.inr ⟨_, rfl, .inl rfl, .inl rfl, .inl rfl, .inr (.inr (lend_of (by simp) (by simp) cl (by simp [insS_len]))), trivial⟩), trivial⟩
        refine sm ?_)
      all_goals (refine hR _ ?_; clear hR R))
    all_goals refine qP ?_
    all_goals refine qE ?_)
  all_goals first
  | fail_if_success with_reducible refine atC 41 ?_
  | (
    refine cn 41 ?_ ?_ <;> intro hc41 <;> try (cases hc41; done)
    all_goals refine st ?_)
  all_goals first
  | fail_if_success with_reducible refine atR 8 ?_
  | (
    refine rgW 8 [] [some 42, some 43, some 44, some 45, some 46, some 47, some 48, some 49, some 50, some 51, none, some 5] 12 13 [(10, [2])] ?_
    intro av wr hav hwr
    have hf1_1 := avD 1 1 hav
    have hf3_1 := avD 3 1 hav
    have hf5_1 := avD 5 1 hav
    have hf7_1 := avD 7 1 hav
    have hf10_2 := avD 10 2 hav
    have hw10_2 := wrD 10 2 hwr
    all_goals refine qP ?_
    all_goals (
      refine qL_cons ?_
      intro R hR
      simp only [go_sem, reduceIte, reduceCtorEq, Nat.reduceAdd, Nat.reduceEqDiff, Nat.reduceLeDiff, Nat.reduceLT, Nat.reduceSub, Int.reduceLE, Int.reduceNeg, Int.reduceLT, hf1_1, hf3_1, hf5_1, hf7_1, hf10_2, hw10_2]
      all_goals (refine hR _ ?_; clear hR R))
    all_goals refine qP ?_
    all_goals (
      refine qL_cons ?_
      intro R hR
      simp only [go_sem, reduceIte, reduceCtorEq, Nat.reduceAdd, Nat.reduceEqDiff, Nat.reduceLeDiff, Nat.reduceLT, Nat.reduceSub, Int.reduceLE, Int.reduceNeg, Int.reduceLT, hf1_1, hf3_1, hf5_1, hf7_1, hf10_2, hw10_2]
      all_goals (refine hR _ ?_; clear hR R))
    all_goals refine qP ?_
    all_goals (
      refine qL_cons ?_
      intro R hR
      simp only [go_sem, reduceIte, reduceCtorEq, Nat.reduceAdd, Nat.reduceEqDiff, Nat.reduceLeDiff, Nat.reduceLT, Nat.reduceSub, Int.reduceLE, Int.reduceNeg, Int.reduceLT, hf1_1, hf3_1, hf5_1, hf7_1, hf10_2, hw10_2]
      all_goals (refine hR _ ?_; clear hR R))
    all_goals refine qP ?_
    all_goals (
      refine qL_cons ?_
      intro R hR
      simp only [go_sem, reduceIte, reduceCtorEq, Nat.reduceAdd, Nat.reduceEqDiff, Nat.reduceLeDiff, Nat.reduceLT, Nat.reduceSub, Int.reduceLE, Int.reduceNeg, Int.reduceLT, hf1_1, hf3_1, hf5_1, hf7_1, hf10_2, hw10_2]
      all_goals (refine hR _ ?_; clear hR R))
    all_goals (
      refine qL_cons ?_
      intro R hR
      simp only [go_sem, reduceIte, reduceCtorEq, Nat.reduceAdd, Nat.reduceEqDiff, Nat.reduceLeDiff, Nat.reduceLT, Nat.reduceSub, Int.reduceLE, Int.reduceNeg, Int.reduceLT, hf1_1, hf3_1, hf5_1, hf7_1, hf10_2, hw10_2]
      refine call_row (Clone_spec v.yes (by omega)) [] ?_ (.inl rfl) ?_
      · exact ⟨.inl rfl, trivial⟩
      simp only [go_sem, reduceIte, reduceCtorEq, Nat.reduceAdd, Nat.reduceEqDiff, Nat.reduceLeDiff, Nat.reduceLT, Nat.reduceSub, Int.reduceLE, Int.reduceNeg, Int.reduceLT, hf1_1, hf3_1, hf5_1, hf7_1, hf10_2, hw10_2]
      all_goals (refine hR _ ?_; clear hR R))
    all_goals refine qP ?_
    all_goals (
      refine qL_cons ?_
      intro R hR
      simp only [go_sem, reduceIte, reduceCtorEq, Nat.reduceAdd, Nat.reduceEqDiff, Nat.reduceLeDiff, Nat.reduceLT, Nat.reduceSub, Int.reduceLE, Int.reduceNeg, Int.reduceLT, hf1_1, hf3_1, hf5_1, hf7_1, hf10_2, hw10_2]
      all_goals (refine hR _ ?_; clear hR R))
    all_goals refine qP ?_
    all_goals refine qE ?_
    all_goals clear hf1_1 hf3_1 hf5_1 hf7_1 hf10_2 hw10_2 hav hwr wr av)
  all_goals first
  | fail_if_success with_reducible refine atR 9 ?_
  | (
    refine rg 9 [] [some 52, none, some 5] 3 ?_
    all_goals iterate 3 refine qP ?_
    all_goals refine qE ?_)
  all_goals first
  | (
      have hB : rvB { v with yes := wI v who } = true := by simp_all [wI]
      have hO : rvOut v (wI v who) = v.yes := by simp_all [rvOut, wI]
      simp only [rvMk, hO, hB]
      refine ret_row [.ag [.d (.str v.br), .d (.str v.into), .d (.str v.by_), .vec 0 1 0 (v.yes).length], .d (.bool true)] (Vw.to (g' := 5) [(0, 15), (1, 2)] [(4, .bx 1 0), (5, .d (.bool true))] [(0, .vec 9 1 ((v.yes).map sS)), (1, .box 27 [.d (.str v.br), .d (.str v.into), .d (.str v.by_), .vec 0 1 0 (v.yes).length])] (fun n hn => absurd (hU n hn) (by omega)) (vx (vd trivial)) ⟨⟨by omega, rfl, cl3⟩, ⟨by omega, rfl, ?_⟩, trivial⟩ (by simp [tauL])) cl ⟨cl, cl, trivial⟩ rfl rfl
      first
      | exact cl3
      | (
        simp only [go_sem, reduceIte, reduceCtorEq, Nat.reduceAdd, Nat.reduceEqDiff, Nat.reduceLeDiff, Nat.reduceLT, Nat.reduceSub, Int.reduceLE, Int.reduceNeg, Int.reduceLT, tauL, Cap.ren, insS_len]
        rfl))
  | (
      have hB : rvB { v with yes := wI v who } = true := by simp_all [wI]
      have hO : rvOut v (wI v who) = insS v.yes (kS v.yes who) who := by simp_all [rvOut, wI]
      simp only [rvMk, hO, hB]
      refine ret_row [.ag [.d (.str v.br), .d (.str v.into), .d (.str v.by_), .vec 0 1 0 (insS v.yes (kS v.yes who) who).length], .d (.bool true)] (Vw.to (g' := 5) [(0, 35), (1, 2)] [(4, .bx 1 0), (5, .d (.bool true))] [(0, .vec 9 1 ((insS v.yes (kS v.yes who) who).map sS)), (1, .box 27 [.d (.str v.br), .d (.str v.into), .d (.str v.by_), .vec 0 1 0 (insS v.yes (kS v.yes who) who).length])] (fun n hn => absurd (hU n hn) (by omega)) (vx (vd trivial)) ⟨⟨by omega, rfl, cl3⟩, ⟨by omega, rfl, ?_⟩, trivial⟩ (by simp [tauL])) cl ⟨cl, cl, trivial⟩ rfl rfl
      first
      | exact cl3
      | (
        simp only [go_sem, reduceIte, reduceCtorEq, Nat.reduceAdd, Nat.reduceEqDiff, Nat.reduceLeDiff, Nat.reduceLT, Nat.reduceSub, Int.reduceLE, Int.reduceNeg, Int.reduceLT, tauL, Cap.ren, insS_len]
        rfl))
  | (
      have hB : rvB { v with yes := wI v who } = false := by simp_all [wI]
      have hO : rvOut v (wI v who) = v.yes := by simp_all [rvOut, wI]
      simp only [rvMk, hO, hB]
      refine ret_row [.ag [.d (.str v.br), .d (.str v.into), .d (.str v.by_), .vec 0 1 0 (v.yes).length], .d (.bool false)] (Vw.to (g' := 5) [(0, 41), (1, 2)] [(4, .bx 1 0), (5, .d (.bool false))] [(0, .vec 9 1 ((v.yes).map sS)), (1, .box 27 [.d (.str v.br), .d (.str v.into), .d (.str v.by_), .vec 0 1 0 (v.yes).length])] (fun n hn => absurd (hU n hn) (by omega)) (vx (vd trivial)) ⟨⟨by omega, rfl, cl3⟩, ⟨by omega, rfl, ?_⟩, trivial⟩ (by simp [tauL])) cl ⟨cl, cl, trivial⟩ rfl rfl
      first
      | exact cl3
      | (
        simp only [go_sem, reduceIte, reduceCtorEq, Nat.reduceAdd, Nat.reduceEqDiff, Nat.reduceLeDiff, Nat.reduceLT, Nat.reduceSub, Int.reduceLE, Int.reduceNeg, Int.reduceLT, tauL, Cap.ren, insS_len]
        rfl))
  | (
      have hB : rvB { v with yes := wI v who } = false := by simp_all [wI]
      have hO : rvOut v (wI v who) = v.yes := by simp_all [rvOut, wI]
      simp only [rvMk, hO, hB]
      refine ret_row [.ag [.d (.str v.br), .d (.str v.into), .d (.str v.by_), .vec 0 1 0 (v.yes).length], .d (.bool false)] (Vw.to (g' := 5) [(0, 49), (1, 2)] [(4, .bx 1 0), (5, .d (.bool false))] [(0, .vec 9 1 ((v.yes).map sS)), (1, .box 27 [.d (.str v.br), .d (.str v.into), .d (.str v.by_), .vec 0 1 0 (v.yes).length])] (fun n hn => absurd (hU n hn) (by omega)) (vx (vd trivial)) ⟨⟨by omega, rfl, cl3⟩, ⟨by omega, rfl, ?_⟩, trivial⟩ (by simp [tauL])) cl ⟨cl, cl, trivial⟩ rfl rfl
      first
      | exact cl3
      | (
        simp only [go_sem, reduceIte, reduceCtorEq, Nat.reduceAdd, Nat.reduceEqDiff, Nat.reduceLeDiff, Nat.reduceLT, Nat.reduceSub, Int.reduceLE, Int.reduceNeg, Int.reduceLT, tauL, Cap.ren, insS_len]
        rfl))

end
end Go.Proofs.Ytmlbdicaeefomaa
