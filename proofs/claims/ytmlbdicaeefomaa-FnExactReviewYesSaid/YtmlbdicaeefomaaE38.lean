/- the law FnExactReviewYes over data. No condition. -/
import Derived.Test.YtmlbdicaeefomaaE37
import Derived.Test.YtmlbdicaeefomaaE34
namespace Go.Proofs.Ytmlbdicaeefomaa
open Go Go.RowKit
set_option maxRecDepth 100000
set_option maxHeartbeats 8000000
set_option linter.unusedSimpArgs false
set_option linter.unusedVariables false
theorem capFree_sS (l : List ByteArray) : capFree (.vec 9 1 (l.map sS)) = true := by
  simp [capFree, sS, D.scal]
theorem mkL_len {n k : Nat} {es : List ByteArray} (h : n ≤ es.length) : (mkL n k es).length = es.length := by
  simp [mkL]; omega
theorem mkL_get {k : Nat} {es : List ByteArray} : ∀ (j : Nat) y, (mkL es.length k es)[j]? = some y → y = mkT (k + j) := by
  intro j y h
  have hj := (List.getElem?_eq_some_iff.1 h).1
  rw [mkL_len (Nat.le_refl _)] at hj
  unfold mkL at h
  rw [List.getElem?_append_left (by simpa using hj)] at h
  simp [hj] at h
  exact h.symm
theorem insS_le (es : List ByteArray) (i : Nat) (s : ByteArray) : (putS es s).length ≤ es.length + 1 := by
  unfold putS
  split
  · omega
  · rw [insS_len]; exact Nat.le_refl _
theorem rvOut_len (v : Rv) (who : ByteArray) : (rvOut v (putS v.yes who)).length ≤ v.yes.length + 1 := by
  unfold rvOut
  split
  · exact insS_le _ 0 _
  · omega
theorem implRY (v : Rv) (who : ByteArray) (h : rvB v = true) : FunR Try.prog 23 [.ag [.d (.str v.br), .d (.str v.into), .d (.str v.by_), .d (strs v.yes)], .d (.str who)] (rvMk v (putS v.yes who)) (.vec 9 1 ((rvOut v (putS v.yes who)).map sS)) := by
  have := implReviewYes_ok v who h
  rwa [wI_put who h] at this
theorem lend_toD {av : Nat → Prop} {C : Caps} {bor : List Nat} {n : Nat} {ty : TypeId} {ss : List ByteArray} (hb : n ∈ bor) (ha : ¬ av n) (hC : C n = some (.vec ty 1 ((rowS ss).map sS))) : aLend av C bor (.vec n 1 0 ss.length) (.d (toD ss)) := by
  unfold toD spOf
  split
  · rename_i hh
    exact lend_of hb ha hC hh
  · exact lend_sp hb ha hC (by simp [rowS_len])
attribute [local go_sem] List.size_toArray Int.toNat_zero Nat.sub_zero size_mk top_val eq_self datL X.dat u8min u8max i64min i64max stepT gdO aop ev lit litOk putF fzX_false putO upd app List.contains_nil List.elem_nil aBin aInt aStr aBool aLen lenTy aBuiltin aLoad aTake aTakeX aStore splice aSlice aBd look_cons look_nil lookC_cons lookC_nil by_s by_C start_s start_C X.cells X.cell List.all_cons List.all_nil Bool.and_self Bool.not_true Bool.not_false false_implies true_implies forall_const and_true true_and and_self implies_true not_false_eq_true Nat.zero_add Nat.add_zero List.getD_cons_zero List.getD_cons_succ List.map_cons List.map_nil Option.bind_some Option.map_some Option.map_none List.getElem?_cons_zero List.getElem?_cons_succ List.length_cons List.length_nil List.drop_zero List.drop_succ_cons List.take_succ_cons List.take_zero List.cons_append List.nil_append List.append_nil D.of List.length_map all_get_map Option.isSome_some and_false false_and Nat.lt_add_one Nat.zero_lt_succ decide_true decide_false fzX litEs List.contains_cons List.elem_cons Bool.true_or Bool.or_true Bool.false_or Bool.or_false beq_self_eq_true
section
attribute [local go_sem] tsz9 tsz22 tsz27 tfld27 tsz24 tfld24 tel22 toNat_cast sS und9
theorem szReview_neg (v : Rv) (left : Int) (hl : left < 0) (hl2 : -1000000000000000 ≤ left) (hb : v.br.size ≤ 1000000000000000) : Fun Try.prog 8 [.ag [.d (.str v.br), .d (.str v.into), .d (.str v.by_), .d (strs v.yes)], .d (.int .i64 left)] (.d (.int .i64 (-1))) := by
  refine Fun.of ?_ rfl rfl
  refine Spec.of (fn := Try.f8) Try.func8 rfl (by kernel_rfl) (rs := [.tmp 4]) rfl 1 (by simp [Try.f8]) rfl (by simp) ?_
  intro hreal
  rintro ⟨P, T, L0, w0, ι0, C0, U0⟩ hP hT hU
  subst hP hT
  refine st ?_
  all_goals first
  | fail_if_success with_reducible refine atR 0 ?_
  | (
    refine rg 0 [] [some 2, some 4] 2 ?_
    all_goals iterate 2 refine qP ?_
    all_goals refine qE ?_)
  all_goals first
  | fail_if_success with_reducible refine atR 1 ?_
  | (
    refine rg 1 [] [some 5, some 6, some 7, some 8, some 9, some 1] 6 ?_
    all_goals iterate 4 refine qP ?_
    all_goals (
      refine qL_cons ?_
      intro R hR
      refine sm ?_
      rw [wrap64 (by omega) (by omega)]
      all_goals (refine hR _ ?_; clear hR R))
    all_goals refine qP ?_
    all_goals refine qE ?_)
  all_goals first
  | fail_if_success with_reducible refine atR 2 ?_
  | (
    refine rg 2 [] [some 10, some 11] 2 ?_
    all_goals iterate 2 refine qP ?_
    all_goals refine qE ?_)
  all_goals first
  | fail_if_success with_reducible refine atC 11 ?_
  | (
    refine cn 11 ?_ ?_ <;> intro hc11 <;> try (cases hc11; done)
    all_goals refine st ?_)
  all_goals try (exfalso; omega)
  all_goals first
  | fail_if_success with_reducible refine atR 3 ?_
  | (
    refine rg 3 [] [some 4] 1 ?_
    all_goals refine qP ?_
    all_goals refine qE ?_)
  all_goals first
  | fail_if_success with_reducible refine ret_fun (t := 4) ?_ ?_
  | (
    refine ret_fun (t := 4) ?_ (fun _ => rfl)
    first
    | exact cl
    | (
      try refine sm ?_
      all_goals (
       rfl)))

end
section
attribute [local go_sem] tsz9 tsz22 tsz27 tfld27 tsz24 tfld24 tel22 toNat_cast und9 und4 zero27 rvMk rvBad
theorem law7_big (v : Rv) (who : ByteArray) (hw : 1000000 < who.size) (hw2 : who.size ≤ 1000000000000000) (hb : v.br.size ≤ 1000000000000000) : Fun Try.prog 7 [.ag [.d (.str v.br), .d (.str v.into), .d (.str v.by_), .d (strs v.yes)], .d (.str who)] (.d (.bool true)) := by
  refine Fun.of ?_ rfl rfl
  refine Spec.of (fn := Try.f7) Try.func7 rfl (by kernel_rfl) (rs := [.tmp 4]) rfl 1 (by simp [Try.f7]) rfl (by simp) ?_
  intro hreal
  rintro ⟨P, T, L0, w0, ι0, C0, U0⟩ hP hT hU
  subst hP hT
  refine st ?_
  all_goals first
  | fail_if_success with_reducible refine atR 0 ?_
  | (
    refine rg 0 [] [some 2, some 4] 2 ?_
    all_goals iterate 2 refine qP ?_
    all_goals refine qE ?_)
  all_goals first
  | fail_if_success with_reducible refine atR 1 ?_
  | (
    refine rg 1 [] [some 16, some 17, some 18, some 5] 4 ?_
    all_goals iterate 2 refine qP ?_
    all_goals (
      refine qL_cons ?_
      intro R hR
      refine sm ?_
      rw [wrap64 (by omega) (by omega)]
      all_goals (refine hR _ ?_; clear hR R))
    all_goals refine qP ?_
    all_goals refine qE ?_)
  all_goals first
  | fail_if_success with_reducible refine atR 2 ?_
  | (
    refine rg 2 [] [some 19, some 20, some 21, some 5] 4 ?_
    all_goals iterate 2 refine qP ?_
    all_goals (
      refine qL_cons ?_
      intro R hR
      refine sm ?_
      refine call_fun (szReview_neg v (1000000 - who.size) (by omega) (by omega) hb) [] ?_ (.inl rfl) ?_
      · exact ⟨.inl rfl, ⟨.inl rfl, trivial⟩⟩
      refine sm ?_
      all_goals (refine hR _ ?_; clear hR R))
    all_goals refine qP ?_
    all_goals refine qE ?_)
  all_goals first
  | fail_if_success with_reducible refine atR 3 ?_
  | (
    refine rg 3 [] [some 22, some 23] 2 ?_
    all_goals iterate 2 refine qP ?_
    all_goals refine qE ?_)
  all_goals first
  | fail_if_success with_reducible refine atC 23 ?_
  | (
    refine cn 23 ?_ ?_ <;> intro hc23 <;> try (cases hc23; done)
    all_goals refine st ?_)
  all_goals try (exfalso; omega)
  all_goals first
  | fail_if_success with_reducible refine atR 4 ?_
  | (
    refine rg 4 [] [some 4] 1 ?_
    all_goals refine qP ?_
    all_goals refine qE ?_)
  all_goals first
  | fail_if_success with_reducible refine ret_fun (t := 4) ?_ ?_
  | (
    refine ret_fun (t := 4) ?_ (fun _ => rfl)
    first
    | exact cl
    | (
      try refine sm ?_
      all_goals (
       rfl)))

end
section
attribute [local go_sem] tsz9 tsz22 tsz27 tfld27 tsz24 tfld24 tel22 toNat_cast und9 und4 zero27 rvMk rvBad
theorem law7_bad (v : Rv) (who : ByteArray) (h : rvB v = false) (hw : who.size ≤ 1000000) : Fun Try.prog 7 [.ag [.d (.str v.br), .d (.str v.into), .d (.str v.by_), .d (strs v.yes)], .d (.str who)] (.d (.bool true)) := by
  refine Fun.of ?_ rfl rfl
  refine Spec.of (fn := Try.f7) Try.func7 rfl (by kernel_rfl) (rs := [.tmp 4]) rfl 1 (by simp [Try.f7]) rfl (by simp) ?_
  intro hreal
  rintro ⟨P, T, L0, w0, ι0, C0, U0⟩ hP hT hU
  subst hP hT
  refine st ?_
  all_goals first
  | fail_if_success with_reducible refine atR 0 ?_
  | (
    refine rg 0 [] [some 2, some 4] 2 ?_
    all_goals iterate 2 refine qP ?_
    all_goals refine qE ?_)
  all_goals first
  | fail_if_success with_reducible refine atR 1 ?_
  | (
    refine rg 1 [] [some 16, some 17, some 18, some 5] 4 ?_
    all_goals iterate 2 refine qP ?_
    all_goals (
      refine qL_cons ?_
      intro R hR
      refine sm ?_
      rw [wrap64 (by omega) (by omega)]
      all_goals (refine hR _ ?_; clear hR R))
    all_goals refine qP ?_
    all_goals refine qE ?_)
  all_goals first
  | fail_if_success with_reducible refine atR 2 ?_
  | (
    refine rg 2 [] [some 19, some 20, some 21, some 5] 4 ?_
    all_goals iterate 2 refine qP ?_
    all_goals (
      refine qL_cons ?_
      intro R hR
      refine sm ?_
      refine call_fun (szReview_spec v (1000000 - who.size) (by omega) (by omega)) [] ?_ (.inl rfl) ?_
      · exact ⟨.inl rfl, ⟨.inl rfl, trivial⟩⟩
      refine sm ?_
      all_goals (refine hR _ ?_; clear hR R))
    all_goals refine qP ?_
    all_goals refine qE ?_)
  all_goals first
  | fail_if_success with_reducible refine atR 3 ?_
  | (
    refine rg 3 [] [some 22, some 23] 2 ?_
    all_goals iterate 2 refine qP ?_
    all_goals refine qE ?_)
  all_goals first
  | fail_if_success with_reducible refine atC 23 ?_
  | (
    refine cn 23 ?_ ?_ <;> intro hc23 <;> try (cases hc23; done)
    all_goals refine st ?_)
  all_goals try have hv : v.yes.length ≤ 1000000 := szRv_len (by omega) (by omega) (show 0 ≤ szRv v (1000000 - who.size) by omega)
  all_goals first
  | fail_if_success with_reducible refine atR 4 ?_
  | (
    refine rg 4 [] [some 4] 1 ?_
    all_goals refine qP ?_
    all_goals refine qE ?_)
  all_goals first
  | fail_if_success with_reducible refine atR 5 ?_
  | (
    refine rg 5 [] [some 25, some 26, some 27, some 28, some 24, some 29, some 30, some 6, none, some 7] 10 ?_
    all_goals refine qP ?_
    all_goals (
      refine qL_cons ?_
      intro R hR
      refine sm ?_
      refine call_row (toReviewR v hv) [] ?_ (.inl rfl) ?_
      · exact ⟨.inl rfl, ⟨.inl rfl, trivial⟩⟩
      refine sm ?_
      all_goals (refine hR _ ?_; clear hR R))
    all_goals refine qP ?_
    all_goals (
      refine qL_cons ?_
      intro R hR
      refine sm ?_
      refine call_fun (specReviewYes_bad v who h) [14] ?_ (.inr rfl) ?_
      · exact ⟨.inr (.inr ⟨_, rfl, .inl rfl, .inl rfl, .inl rfl, .inr (.inr (lend_take (by simp) (by simp) cl (by simp [rowS_len]) (rowS_take _))), trivial⟩), ⟨.inl rfl, trivial⟩⟩
      refine sm ?_
      all_goals (refine hR _ ?_; clear hR R))
    all_goals iterate 6 refine qP ?_
    all_goals refine qE ?_)
  all_goals first
  | fail_if_success with_reducible refine atR 6 ?_
  | (
    refine rg 6 [] [some 31, some 32, some 8, none] 4 ?_
    all_goals refine qP ?_
    all_goals (
      refine qL_cons ?_
      intro R hR
      refine sm ?_
      refine call_row (toReviewR v hv) [] ?_ (.inl rfl) ?_
      · exact ⟨.inl rfl, ⟨.inl rfl, trivial⟩⟩
      refine sm ?_
      all_goals (refine hR _ ?_; clear hR R))
    all_goals iterate 2 refine qP ?_
    all_goals refine qE ?_)
  all_goals first
  | fail_if_success with_reducible refine atR 7 ?_
  | (
    refine rg 7 [] [some 34, some 35, some 36, some 33, some 37, some 38, some 9, none, some 10] 9 ?_
    all_goals iterate 2 refine qP ?_
    all_goals (
      refine qL_cons ?_
      intro R hR
      refine sm ?_
      refine call_fun (implReviewYes_bad v who h) [24] ?_ (.inr rfl) ?_
      · exact ⟨.inr (.inr ⟨_, rfl, .inl rfl, .inl rfl, .inl rfl, .inr (.inr (lend_take (by simp) (by simp) cl (by simp [rowS_len]) (rowS_take _))), trivial⟩), ⟨.inl rfl, trivial⟩⟩
      refine sm ?_
      all_goals (refine hR _ ?_; clear hR R))
    all_goals iterate 6 refine qP ?_
    all_goals refine qE ?_)
  all_goals first
  | fail_if_success with_reducible refine atR 8 ?_
  | (
    refine rg 8 [] [some 39, some 40, some 41, some 42, some 43, some 44, some 45, some 46, some 47] 9 ?_
    all_goals iterate 2 refine qP ?_
    all_goals (
      refine qL_cons ?_
      intro R hR
      refine sm ?_
      refine call_fun (eqReview_spec ⟨ByteArray.empty, ByteArray.empty, ByteArray.empty, []⟩ ⟨ByteArray.empty, ByteArray.empty, ByteArray.empty, []⟩) [] ?_ (.inr rfl) ?_
      · exact ⟨.inl rfl, ⟨.inl rfl, trivial⟩⟩
      refine sm ?_
      all_goals (refine hR _ ?_; clear hR R))
    all_goals iterate 2 refine qP ?_
    all_goals first | refine qU 43 ?_ | (refine qS 43 ?_ ?_ <;> intro hg8_4 <;> try (cases hg8_4; done))
    all_goals iterate 4 refine qP ?_
    all_goals refine qE ?_)
  all_goals first
  | fail_if_success with_reducible refine atC 47 ?_
  | (
    refine cn 47 ?_ ?_ <;> intro hc47 <;> try (cases hc47; done)
    all_goals refine st ?_)
  all_goals try (exfalso; simp_all; done)
  all_goals first
  | fail_if_success with_reducible refine atR 9 ?_
  | (
    refine rg 9 [] [some 4] 1 ?_
    all_goals refine qP ?_
    all_goals refine qE ?_)
  all_goals first
  | fail_if_success with_reducible refine atR 10 ?_
  | (
    refine rgW 10 [] [some 48, some 49, some 50, some 51, some 52] 5 6 [] ?_
    intro av wr hav hwr
    have hf0_25 := avD 0 25 hav
    have hf1_1 := avD 1 1 hav
    have hf3_24 := avD 3 24 hav
    have hf3_47 := avD 3 47 hav
    all_goals (
      refine qL_cons ?_
      intro R hR
      simp only [go_sem, reduceIte, reduceCtorEq, Nat.reduceAdd, Nat.reduceEqDiff, Nat.reduceLeDiff, Nat.reduceLT, Nat.reduceSub, Int.reduceLE, Int.reduceNeg, Int.reduceLT, hf0_25, hf1_1, hf3_24, hf3_47]
      all_goals (refine hR _ ?_; clear hR R))
    all_goals (
      refine qL_cons ?_
      intro R hR
      simp only [go_sem, reduceIte, reduceCtorEq, Nat.reduceAdd, Nat.reduceEqDiff, Nat.reduceLeDiff, Nat.reduceLT, Nat.reduceSub, Int.reduceLE, Int.reduceNeg, Int.reduceLT, hf0_25, hf1_1, hf3_24, hf3_47]
      all_goals (refine hR _ ?_; clear hR R))
    all_goals (
      refine qL_cons ?_
      intro R hR
      simp only [go_sem, reduceIte, reduceCtorEq, Nat.reduceAdd, Nat.reduceEqDiff, Nat.reduceLeDiff, Nat.reduceLT, Nat.reduceSub, Int.reduceLE, Int.reduceNeg, Int.reduceLT, hf0_25, hf1_1, hf3_24, hf3_47]
      refine call_row (toReviewR v hv) [] ?_ (.inl rfl) ?_
      · exact ⟨.inl rfl, ⟨.inl rfl, trivial⟩⟩
      simp only [go_sem, reduceIte, reduceCtorEq, Nat.reduceAdd, Nat.reduceEqDiff, Nat.reduceLeDiff, Nat.reduceLT, Nat.reduceSub, Int.reduceLE, Int.reduceNeg, Int.reduceLT, hf0_25, hf1_1, hf3_24, hf3_47]
      all_goals (refine hR _ ?_; clear hR R))
    all_goals (
      refine qL_cons ?_
      intro R hR
      simp only [go_sem, reduceIte, reduceCtorEq, Nat.reduceAdd, Nat.reduceEqDiff, Nat.reduceLeDiff, Nat.reduceLT, Nat.reduceSub, Int.reduceLE, Int.reduceNeg, Int.reduceLT, hf0_25, hf1_1, hf3_24, hf3_47]
      refine call_fun (intactReview_spec v hv) [24, 47] ?_ (.inr rfl) ?_
      · exact ⟨.inr (.inr ⟨_, rfl, .inl rfl, .inl rfl, .inl rfl, .inr (.inr (lend_toD (by simp) (by simp only [hf3_24]; exact fun h => h) cl)), trivial⟩), ⟨.inr (.inr ⟨_, rfl, .inl rfl, .inl rfl, .inl rfl, .inr (.inr (lend_toD (by simp) (by simp only [hf3_47]; exact fun h => h) cl)), trivial⟩), trivial⟩⟩
      simp only [go_sem, reduceIte, reduceCtorEq, Nat.reduceAdd, Nat.reduceEqDiff, Nat.reduceLeDiff, Nat.reduceLT, Nat.reduceSub, Int.reduceLE, Int.reduceNeg, Int.reduceLT, hf0_25, hf1_1, hf3_24, hf3_47]
      all_goals (refine hR _ ?_; clear hR R))
    all_goals refine qP ?_
    all_goals refine qE ?_
    all_goals clear hf0_25 hf1_1 hf3_24 hf3_47 hav hwr wr av)
  all_goals first
  | fail_if_success with_reducible refine atC 52 ?_
  | (
    refine cn 52 ?_ ?_ <;> intro hc52 <;> try (cases hc52; done)
    all_goals refine st ?_)
  all_goals try (exfalso; simp_all; done)
  all_goals first
  | fail_if_success with_reducible refine atR 11 ?_
  | (
    refine rg 11 [] [some 4] 1 ?_
    all_goals refine qP ?_
    all_goals refine qE ?_)
  all_goals first
  | fail_if_success with_reducible refine atR 12 ?_
  | (
    refine rg 12 [] [some 11] 1 ?_
    all_goals refine qP ?_
    all_goals refine qE ?_)
  all_goals first
  | fail_if_success with_reducible refine atR 13 ?_
  | (
    refine rg 13 [] [some 53, some 54, some 55, some 11] 4 ?_
    all_goals iterate 2 refine qP ?_
    all_goals (
      refine qL_cons ?_
      intro R hR
      refine sm ?_
      refine call_own (markR_spec v.br v.into v.by_ (rowS v.yes) v.yes.length 101 (by simp [rowS_len]) (by omega) (by omega)) rfl rfl mkR_on (mkR_ne _ _ _) (a := 24) (by decide) rfl cl trivial (fun h => h) ?_ ?_
      · exact ⟨.inl rfl, .inl rfl, trivial⟩
      rintro _ _ ⟨rfl, rfl⟩
      refine sm ?_
      all_goals (refine hR _ ?_; clear hR R))
    all_goals refine qP ?_
    all_goals refine qE ?_)
  all_goals first
  | fail_if_success with_reducible refine atR 14 ?_
  | (
    refine rg 14 [] [some 56, some 57, some 58, some 59, some 60, some 61, some 62, some 63, some 64, some 65, some 66, some 67, some 68] 13 ?_
    all_goals iterate 3 refine qP ?_
    all_goals first | refine qU 58 ?_ | (refine qS 58 ?_ ?_ <;> intro hg14_2 <;> try (cases hg14_2; done))
    all_goals iterate 2 refine qP ?_
    all_goals first
    | (
      refine qL_cons ?_
      intro R hR
      refine sm ?_
      refine call_fun (eqReview_spec ⟨ByteArray.empty, ByteArray.empty, ByteArray.empty, []⟩ ⟨ByteArray.empty, ByteArray.empty, ByteArray.empty, []⟩) [] ?_ (.inr rfl) ?_
      · exact ⟨.inl rfl, ⟨.inl rfl, trivial⟩⟩
      refine sm ?_
      refine hR _ ?_
      clear hR R)
    | refine qP ?_
    all_goals iterate 3 refine qP ?_
    all_goals first | refine qU 64 ?_ | (refine qS 64 ?_ ?_ <;> intro hg14_8 <;> try (cases hg14_8; done))
    all_goals iterate 4 refine qP ?_
    all_goals refine qE ?_)
  all_goals first
  | fail_if_success with_reducible refine atC 68 ?_
  | (
    refine cn 68 ?_ ?_ <;> intro hc68 <;> try (cases hc68; done)
    all_goals refine st ?_)
  all_goals try (exfalso; simp_all; done)
  all_goals first
  | fail_if_success with_reducible refine atR 15 ?_
  | (
    refine rg 15 [] [some 4] 1 ?_
    all_goals refine qP ?_
    all_goals refine qE ?_)
  all_goals first
  | fail_if_success with_reducible refine atR 16 ?_
  | (
    refine rg 16 [] [some 12] 1 ?_
    all_goals refine qP ?_
    all_goals refine qE ?_)
  all_goals first
  | fail_if_success with_reducible refine atR 17 ?_
  | (
    refine rg 17 [] [some 69, some 70, some 71, some 12] 4 ?_
    all_goals iterate 2 refine qP ?_
    all_goals (
      refine qL_cons ?_
      intro R hR
      refine sm ?_
      refine call_fun (markR_nil ByteArray.empty ByteArray.empty ByteArray.empty 101) [] ?_ (.inl rfl) ?_
      · exact ⟨.inl rfl, ⟨.inl rfl, trivial⟩⟩
      refine sm ?_
      all_goals (refine hR _ ?_; clear hR R))
    all_goals refine qP ?_
    all_goals refine qE ?_)
  all_goals first
  | fail_if_success with_reducible refine atR 18 ?_
  | (
    refine rg 18 [] [some 13] 1 ?_
    all_goals refine qP ?_
    all_goals refine qE ?_)
  all_goals first
  | fail_if_success with_reducible refine atR 19 ?_
  | (
    refine rg 19 [] [some 72, some 73, some 74, some 13] 4 ?_
    all_goals iterate 2 refine qP ?_
    all_goals (
      refine qL_cons ?_
      intro R hR
      refine sm ?_
      refine call_fun (heldR_spec ByteArray.empty ByteArray.empty ByteArray.empty [] 101 (by omega) (by decide) (fun j y h => by simp at h)) [] ?_ (.inl rfl) ?_
      · exact ⟨.inl rfl, ⟨.inl rfl, trivial⟩⟩
      refine sm ?_
      all_goals (refine hR _ ?_; clear hR R))
    all_goals refine qP ?_
    all_goals refine qE ?_)
  all_goals first
  | fail_if_success with_reducible refine atR 20 ?_
  | (
    refine rg 20 [] [some 75, some 76] 2 ?_
    all_goals iterate 2 refine qP ?_
    all_goals refine qE ?_)
  all_goals first
  | fail_if_success with_reducible refine atC 76 ?_
  | (
    refine cn 76 ?_ ?_ <;> intro hc76 <;> try (cases hc76; done)
    all_goals refine st ?_)
  all_goals first
  | fail_if_success with_reducible refine atR 21 ?_
  | (
    refine rg 21 [] [some 4] 1 ?_
    all_goals refine qP ?_
    all_goals refine qE ?_)
  all_goals first
  | fail_if_success with_reducible refine atR 22 ?_
  | (
    refine rg 22 [] [some 77, some 78, some 79] 3 ?_
    all_goals iterate 3 refine qP ?_
    all_goals refine qE ?_)
  all_goals first
  | fail_if_success with_reducible refine atC 79 ?_
  | (
    refine cn 79 ?_ ?_ <;> intro hc79 <;> try (cases hc79; done)
    all_goals refine st ?_)
  all_goals try (exfalso; first | omega | (rw [mkL_len (Nat.le_refl _)] at *; omega) | (simp at *; done) | (simp_all [mkL_len]; done))
  all_goals first
  | fail_if_success with_reducible refine atR 23 ?_
  | (
    refine rg 23 [] [some 4] 1 ?_
    all_goals refine qP ?_
    all_goals refine qE ?_)
  all_goals first
  | fail_if_success with_reducible refine atR 24 ?_
  | (
    refine rg 24 [] [some 81, some 82, some 83, some 84, some 80, some 85, some 86, some 14, none, some 15] 10 ?_
    all_goals refine qP ?_
    all_goals (
      refine qL_cons ?_
      intro R hR
      refine sm ?_
      refine call_fun (toReview_spec v true hv) [] ?_ (.inl rfl) ?_
      · exact ⟨.inl rfl, ⟨.inl rfl, trivial⟩⟩
      refine sm ?_
      all_goals (refine hR _ ?_; clear hR R))
    all_goals refine qP ?_
    all_goals (
      refine qL_cons ?_
      intro R hR
      refine sm ?_
      refine call_fun (implReviewYes_bad v who h) [] ?_ (.inl rfl) ?_
      · exact ⟨.inr (.inl (rvT_bare v true).symm), ⟨.inl rfl, trivial⟩⟩
      refine sm ?_
      all_goals (refine hR _ ?_; clear hR R))
    all_goals iterate 6 refine qP ?_
    all_goals refine qE ?_)
  all_goals first
  | fail_if_success with_reducible refine atR 25 ?_
  | (
    refine rg 25 [] [some 87, some 88, some 89, some 90, some 91, some 92, some 93, some 94, some 95] 9 ?_
    all_goals iterate 2 refine qP ?_
    all_goals (
      refine qL_cons ?_
      intro R hR
      refine sm ?_
      refine call_fun (eqReview_spec ⟨ByteArray.empty, ByteArray.empty, ByteArray.empty, []⟩ ⟨ByteArray.empty, ByteArray.empty, ByteArray.empty, []⟩) [] ?_ (.inr rfl) ?_
      · exact ⟨.inl rfl, ⟨.inl rfl, trivial⟩⟩
      refine sm ?_
      all_goals (refine hR _ ?_; clear hR R))
    all_goals iterate 2 refine qP ?_
    all_goals first | refine qU 91 ?_ | (refine qS 91 ?_ ?_ <;> intro hg25_4 <;> try (cases hg25_4; done))
    all_goals iterate 4 refine qP ?_
    all_goals refine qE ?_)
  all_goals first
  | fail_if_success with_reducible refine atC 95 ?_
  | (
    refine cn 95 ?_ ?_ <;> intro hc95 <;> try (cases hc95; done)
    all_goals refine st ?_)
  all_goals try (exfalso; simp_all; done)
  all_goals first
  | fail_if_success with_reducible refine atR 26 ?_
  | (
    refine rg 26 [] [some 4] 1 ?_
    all_goals refine qP ?_
    all_goals refine qE ?_)
  all_goals first
  | fail_if_success with_reducible refine atR 27 ?_
  | (
    refine rg 27 [] [some 13] 1 ?_
    all_goals refine qP ?_
    all_goals refine qE ?_)
  all_goals first
  | fail_if_success with_reducible refine atR 28 ?_
  | (
    refine rg 28 [] [some 96, some 97, some 98, some 13] 4 ?_
    all_goals iterate 2 refine qP ?_
    all_goals (
      refine qL_cons ?_
      intro R hR
      refine sm ?_
      refine call_fun (heldR_spec ByteArray.empty ByteArray.empty ByteArray.empty [] 101 (by omega) (by decide) (fun j y h => by simp at h)) [] ?_ (.inl rfl) ?_
      · exact ⟨.inl rfl, ⟨.inl rfl, trivial⟩⟩
      refine sm ?_
      all_goals (refine hR _ ?_; clear hR R))
    all_goals refine qP ?_
    all_goals refine qE ?_)
  all_goals first
  | fail_if_success with_reducible refine atR 29 ?_
  | (
    refine rg 29 [] [some 99, some 100] 2 ?_
    all_goals iterate 2 refine qP ?_
    all_goals refine qE ?_)
  all_goals first
  | fail_if_success with_reducible refine atC 100 ?_
  | (
    refine cn 100 ?_ ?_ <;> intro hc100 <;> try (cases hc100; done)
    all_goals refine st ?_)
  all_goals first
  | fail_if_success with_reducible refine atR 30 ?_
  | (
    refine rg 30 [] [some 4] 1 ?_
    all_goals refine qP ?_
    all_goals refine qE ?_)
  all_goals first
  | fail_if_success with_reducible refine atR 31 ?_
  | (
    refine rg 31 [] [some 101, some 102, some 103] 3 ?_
    all_goals iterate 3 refine qP ?_
    all_goals refine qE ?_)
  all_goals first
  | fail_if_success with_reducible refine atC 103 ?_
  | (
    refine cn 103 ?_ ?_ <;> intro hc103 <;> try (cases hc103; done)
    all_goals refine st ?_)
  all_goals try (exfalso; first | omega | (rw [mkL_len (Nat.le_refl _)] at *; omega) | (simp at *; done) | (simp_all [mkL_len]; done))
  all_goals first
  | fail_if_success with_reducible refine atR 32 ?_
  | (
    refine rg 32 [] [some 4] 1 ?_
    all_goals refine qP ?_
    all_goals refine qE ?_)
  all_goals first
  | fail_if_success with_reducible refine atR 33 ?_
  | (
    refine rg 33 [] [some 4] 1 ?_
    all_goals refine qP ?_
    all_goals refine qE ?_)
  all_goals first
  | fail_if_success with_reducible refine ret_fun (t := 4) ?_ ?_
  | (
    refine ret_fun (t := 4) ?_ (fun _ => rfl)
    first
    | exact cl
    | (
      try refine sm ?_
      all_goals (
       (first | rfl | (congr 2; simp_all; done) | trace_state))))

end
section
attribute [local go_sem] tsz9 tsz22 tsz27 tfld27 tsz24 tfld24 tel22 toNat_cast und9 und4 zero27 rvMk rvBad
theorem law7_ok (v : Rv) (who : ByteArray) (h : rvB v = true) (hw : who.size ≤ 1000000) : Fun Try.prog 7 [.ag [.d (.str v.br), .d (.str v.into), .d (.str v.by_), .d (strs v.yes)], .d (.str who)] (.d (.bool true)) := by
  refine Fun.of ?_ rfl rfl
  refine Spec.of (fn := Try.f7) Try.func7 rfl (by kernel_rfl) (rs := [.tmp 4]) rfl 1 (by simp [Try.f7]) rfl (by simp) ?_
  intro hreal
  rintro ⟨P, T, L0, w0, ι0, C0, U0⟩ hP hT hU
  subst hP hT
  refine st ?_
  all_goals first
  | fail_if_success with_reducible refine atR 0 ?_
  | (
    refine rg 0 [] [some 2, some 4] 2 ?_
    all_goals iterate 2 refine qP ?_
    all_goals refine qE ?_)
  all_goals first
  | fail_if_success with_reducible refine atR 1 ?_
  | (
    refine rg 1 [] [some 16, some 17, some 18, some 5] 4 ?_
    all_goals iterate 2 refine qP ?_
    all_goals (
      refine qL_cons ?_
      intro R hR
      refine sm ?_
      rw [wrap64 (by omega) (by omega)]
      all_goals (refine hR _ ?_; clear hR R))
    all_goals refine qP ?_
    all_goals refine qE ?_)
  all_goals first
  | fail_if_success with_reducible refine atR 2 ?_
  | (
    refine rg 2 [] [some 19, some 20, some 21, some 5] 4 ?_
    all_goals iterate 2 refine qP ?_
    all_goals (
      refine qL_cons ?_
      intro R hR
      refine sm ?_
      refine call_fun (szReview_spec v (1000000 - who.size) (by omega) (by omega)) [] ?_ (.inl rfl) ?_
      · exact ⟨.inl rfl, ⟨.inl rfl, trivial⟩⟩
      refine sm ?_
      all_goals (refine hR _ ?_; clear hR R))
    all_goals refine qP ?_
    all_goals refine qE ?_)
  all_goals first
  | fail_if_success with_reducible refine atR 3 ?_
  | (
    refine rg 3 [] [some 22, some 23] 2 ?_
    all_goals iterate 2 refine qP ?_
    all_goals refine qE ?_)
  all_goals first
  | fail_if_success with_reducible refine atC 23 ?_
  | (
    refine cn 23 ?_ ?_ <;> intro hc23 <;> try (cases hc23; done)
    all_goals refine st ?_)
  all_goals try have hv : v.yes.length ≤ 1000000 := szRv_len (by omega) (by omega) (show 0 ≤ szRv v (1000000 - who.size) by omega)
  all_goals try have h5 := rvB_len h
  all_goals try have h6 := rvOut_len v who
  all_goals first
  | fail_if_success with_reducible refine atR 4 ?_
  | (
    refine rg 4 [] [some 4] 1 ?_
    all_goals refine qP ?_
    all_goals refine qE ?_)
  all_goals first
  | fail_if_success with_reducible refine atR 5 ?_
  | (
    refine rg 5 [] [some 25, some 26, some 27, some 28, some 24, some 29, some 30, some 6, none, some 7] 10 ?_
    all_goals refine qP ?_
    all_goals (
      refine qL_cons ?_
      intro R hR
      refine sm ?_
      refine call_row (toReviewR v hv) [] ?_ (.inl rfl) ?_
      · exact ⟨.inl rfl, ⟨.inl rfl, trivial⟩⟩
      refine sm ?_
      all_goals (refine hR _ ?_; clear hR R))
    all_goals refine qP ?_
    all_goals (
      refine qL_cons ?_
      intro R hR
      refine sm ?_
      refine call_row (specReviewYes_ok v who h) [14] ?_ (.inr ⟨rfl, capFree_sS _⟩) ?_
      · exact ⟨.inr (.inr ⟨_, rfl, .inl rfl, .inl rfl, .inl rfl, .inr (.inr (lend_take (by simp) (by simp) cl (by simp [rowS_len]) (rowS_take _))), trivial⟩), ⟨.inl rfl, trivial⟩⟩
      refine sm ?_
      all_goals (refine hR _ ?_; clear hR R))
    all_goals iterate 6 refine qP ?_
    all_goals refine qE ?_)
  all_goals first
  | fail_if_success with_reducible refine atR 6 ?_
  | (
    refine rg 6 [] [some 31, some 32, some 8, none] 4 ?_
    all_goals refine qP ?_
    all_goals (
      refine qL_cons ?_
      intro R hR
      refine sm ?_
      refine call_row (toReviewR v hv) [] ?_ (.inl rfl) ?_
      · exact ⟨.inl rfl, ⟨.inl rfl, trivial⟩⟩
      refine sm ?_
      all_goals (refine hR _ ?_; clear hR R))
    all_goals iterate 2 refine qP ?_
    all_goals refine qE ?_)
  all_goals first
  | fail_if_success with_reducible refine atR 7 ?_
  | (
    refine rg 7 [] [some 34, some 35, some 36, some 33, some 37, some 38, some 9, none, some 10] 9 ?_
    all_goals iterate 2 refine qP ?_
    all_goals (
      refine qL_cons ?_
      intro R hR
      refine sm ?_
      refine call_row (implRY v who h) [24] ?_ (.inr ⟨rfl, capFree_sS _⟩) ?_
      · exact ⟨.inr (.inr ⟨_, rfl, .inl rfl, .inl rfl, .inl rfl, .inr (.inr (lend_take (by simp) (by simp) cl (by simp [rowS_len]) (rowS_take _))), trivial⟩), ⟨.inl rfl, trivial⟩⟩
      refine sm ?_
      all_goals (refine hR _ ?_; clear hR R))
    all_goals iterate 6 refine qP ?_
    all_goals refine qE ?_)
  all_goals first
  | fail_if_success with_reducible refine atR 8 ?_
  | (
    refine rg 8 [] [some 39, some 40, some 41, some 42, some 43, some 44, some 45, some 46, some 47] 9 ?_
    all_goals iterate 2 refine qP ?_
    all_goals (
      refine qL_cons ?_
      intro R hR
      refine sm ?_
      refine call_fun (eqReview_spec ⟨v.br, v.into, v.by_, (rvOut v (putS v.yes who))⟩ ⟨v.br, v.into, v.by_, (rvOut v (putS v.yes who))⟩) [29, 16] ?_ (.inr rfl) ?_
      · exact ⟨.inr (.inr ⟨_, rfl, .inl rfl, .inl rfl, .inl rfl, .inr (.inr (lend_of (by simp) (by simp) cl (by simp [mkL_len]))), trivial⟩), ⟨.inr (.inr ⟨_, rfl, .inl rfl, .inl rfl, .inl rfl, .inr (.inr (lend_of (by simp) (by simp) cl (by simp [mkL_len]))), trivial⟩), trivial⟩⟩
      refine sm ?_
      all_goals (refine hR _ ?_; clear hR R))
    all_goals iterate 2 refine qP ?_
    all_goals first | refine qU 43 ?_ | (refine qS 43 ?_ ?_ <;> intro hg8_4 <;> try (cases hg8_4; done))
    all_goals iterate 4 refine qP ?_
    all_goals refine qE ?_)
  all_goals first
  | fail_if_success with_reducible refine atC 47 ?_
  | (
    refine cn 47 ?_ ?_ <;> intro hc47 <;> try (cases hc47; done)
    all_goals refine st ?_)
  all_goals try (exfalso; simp_all; done)
  all_goals first
  | fail_if_success with_reducible refine atR 9 ?_
  | (
    refine rg 9 [] [some 4] 1 ?_
    all_goals refine qP ?_
    all_goals refine qE ?_)
  all_goals first
  | fail_if_success with_reducible refine atR 10 ?_
  | (
    refine rgW 10 [] [some 48, some 49, some 50, some 51, some 52] 5 6 [] ?_
    intro av wr hav hwr
    have hf0_25 := avD 0 25 hav
    have hf1_1 := avD 1 1 hav
    have hf3_24 := avD 3 24 hav
    have hf3_47 := avD 3 47 hav
    all_goals (
      refine qL_cons ?_
      intro R hR
      simp only [go_sem, reduceIte, reduceCtorEq, Nat.reduceAdd, Nat.reduceEqDiff, Nat.reduceLeDiff, Nat.reduceLT, Nat.reduceSub, Int.reduceLE, Int.reduceNeg, Int.reduceLT, hf0_25, hf1_1, hf3_24, hf3_47]
      all_goals (refine hR _ ?_; clear hR R))
    all_goals (
      refine qL_cons ?_
      intro R hR
      simp only [go_sem, reduceIte, reduceCtorEq, Nat.reduceAdd, Nat.reduceEqDiff, Nat.reduceLeDiff, Nat.reduceLT, Nat.reduceSub, Int.reduceLE, Int.reduceNeg, Int.reduceLT, hf0_25, hf1_1, hf3_24, hf3_47]
      all_goals (refine hR _ ?_; clear hR R))
    all_goals (
      refine qL_cons ?_
      intro R hR
      simp only [go_sem, reduceIte, reduceCtorEq, Nat.reduceAdd, Nat.reduceEqDiff, Nat.reduceLeDiff, Nat.reduceLT, Nat.reduceSub, Int.reduceLE, Int.reduceNeg, Int.reduceLT, hf0_25, hf1_1, hf3_24, hf3_47]
      refine call_row (toReviewR v hv) [] ?_ (.inl rfl) ?_
      · exact ⟨.inl rfl, ⟨.inl rfl, trivial⟩⟩
      simp only [go_sem, reduceIte, reduceCtorEq, Nat.reduceAdd, Nat.reduceEqDiff, Nat.reduceLeDiff, Nat.reduceLT, Nat.reduceSub, Int.reduceLE, Int.reduceNeg, Int.reduceLT, hf0_25, hf1_1, hf3_24, hf3_47]
      all_goals (refine hR _ ?_; clear hR R))
    all_goals (
      refine qL_cons ?_
      intro R hR
      simp only [go_sem, reduceIte, reduceCtorEq, Nat.reduceAdd, Nat.reduceEqDiff, Nat.reduceLeDiff, Nat.reduceLT, Nat.reduceSub, Int.reduceLE, Int.reduceNeg, Int.reduceLT, hf0_25, hf1_1, hf3_24, hf3_47]
      refine call_fun (intactReview_spec v hv) [24, 47] ?_ (.inr rfl) ?_
      · exact ⟨.inr (.inr ⟨_, rfl, .inl rfl, .inl rfl, .inl rfl, .inr (.inr (lend_toD (by simp) (by simp only [hf3_24]; exact fun h => h) cl)), trivial⟩), ⟨.inr (.inr ⟨_, rfl, .inl rfl, .inl rfl, .inl rfl, .inr (.inr (lend_toD (by simp) (by simp only [hf3_47]; exact fun h => h) cl)), trivial⟩), trivial⟩⟩
      simp only [go_sem, reduceIte, reduceCtorEq, Nat.reduceAdd, Nat.reduceEqDiff, Nat.reduceLeDiff, Nat.reduceLT, Nat.reduceSub, Int.reduceLE, Int.reduceNeg, Int.reduceLT, hf0_25, hf1_1, hf3_24, hf3_47]
      all_goals (refine hR _ ?_; clear hR R))
    all_goals refine qP ?_
    all_goals refine qE ?_
    all_goals clear hf0_25 hf1_1 hf3_24 hf3_47 hav hwr wr av)
  all_goals first
  | fail_if_success with_reducible refine atC 52 ?_
  | (
    refine cn 52 ?_ ?_ <;> intro hc52 <;> try (cases hc52; done)
    all_goals refine st ?_)
  all_goals try (exfalso; simp_all; done)
  all_goals first
  | fail_if_success with_reducible refine atR 11 ?_
  | (
    refine rg 11 [] [some 4] 1 ?_
    all_goals refine qP ?_
    all_goals refine qE ?_)
  all_goals first
  | fail_if_success with_reducible refine atR 12 ?_
  | (
    refine rg 12 [] [some 11] 1 ?_
    all_goals refine qP ?_
    all_goals refine qE ?_)
  all_goals first
  | fail_if_success with_reducible refine atR 13 ?_
  | (
    refine rg 13 [] [some 53, some 54, some 55, some 11] 4 ?_
    all_goals iterate 2 refine qP ?_
    all_goals (
      refine qL_cons ?_
      intro R hR
      refine sm ?_
      refine call_own (markR_spec v.br v.into v.by_ (rowS v.yes) v.yes.length 101 (by simp [rowS_len]) (by omega) (by omega)) rfl rfl mkR_on (mkR_ne _ _ _) (a := 24) (by decide) rfl cl trivial (fun h => h) ?_ ?_
      · exact ⟨.inl rfl, .inl rfl, trivial⟩
      rintro _ _ ⟨rfl, rfl⟩
      refine sm ?_
      all_goals (refine hR _ ?_; clear hR R))
    all_goals refine qP ?_
    all_goals refine qE ?_)
  all_goals first
  | fail_if_success with_reducible refine atR 14 ?_
  | (
    refine rg 14 [] [some 56, some 57, some 58, some 59, some 60, some 61, some 62, some 63, some 64, some 65, some 66, some 67, some 68] 13 ?_
    all_goals iterate 3 refine qP ?_
    all_goals first | refine qU 58 ?_ | (refine qS 58 ?_ ?_ <;> intro hg14_2 <;> try (cases hg14_2; done))
    all_goals iterate 2 refine qP ?_
    all_goals first
    | (
      refine qL_cons ?_
      intro R hR
      refine sm ?_
      refine call_fun (eqReview_spec ⟨v.br, v.into, v.by_, (rvOut v (putS v.yes who))⟩ ⟨v.br, v.into, v.by_, (rvOut v (putS v.yes who))⟩) [29, 16] ?_ (.inr rfl) ?_
      · exact ⟨.inr (.inr ⟨_, rfl, .inl rfl, .inl rfl, .inl rfl, .inr (.inr (lend_of (by simp) (by simp) cl (by simp [mkL_len]))), trivial⟩), ⟨.inr (.inr ⟨_, rfl, .inl rfl, .inl rfl, .inl rfl, .inr (.inr (lend_of (by simp) (by simp) cl (by simp [mkL_len]))), trivial⟩), trivial⟩⟩
      refine sm ?_
      refine hR _ ?_
      clear hR R)
    | refine qP ?_
    all_goals iterate 3 refine qP ?_
    all_goals first | refine qU 64 ?_ | (refine qS 64 ?_ ?_ <;> intro hg14_8 <;> try (cases hg14_8; done))
    all_goals iterate 4 refine qP ?_
    all_goals refine qE ?_)
  all_goals first
  | fail_if_success with_reducible refine atC 68 ?_
  | (
    refine cn 68 ?_ ?_ <;> intro hc68 <;> try (cases hc68; done)
    all_goals refine st ?_)
  all_goals try (exfalso; simp_all; done)
  all_goals first
  | fail_if_success with_reducible refine atR 15 ?_
  | (
    refine rg 15 [] [some 4] 1 ?_
    all_goals refine qP ?_
    all_goals refine qE ?_)
  all_goals first
  | fail_if_success with_reducible refine atR 16 ?_
  | (
    refine rg 16 [] [some 12] 1 ?_
    all_goals refine qP ?_
    all_goals refine qE ?_)
  all_goals first
  | fail_if_success with_reducible refine atR 17 ?_
  | (
    refine rg 17 [] [some 69, some 70, some 71, some 12] 4 ?_
    all_goals iterate 2 refine qP ?_
    all_goals (
      refine qL_cons ?_
      intro R hR
      refine sm ?_
      refine call_own (markR_spec v.br v.into v.by_ (rvOut v (putS v.yes who)) (rvOut v (putS v.yes who)).length 101 (Nat.le_refl _) (by omega) (by omega)) rfl rfl mkR_on (mkR_ne _ _ _) (a := 29) (by decide) rfl cl trivial (fun h => h) ?_ ?_
      · exact ⟨.inl rfl, .inl rfl, trivial⟩
      rintro _ _ ⟨rfl, rfl⟩
      refine sm ?_
      all_goals (refine hR _ ?_; clear hR R))
    all_goals refine qP ?_
    all_goals refine qE ?_)
  all_goals first
  | fail_if_success with_reducible refine atR 18 ?_
  | (
    refine rg 18 [] [some 13] 1 ?_
    all_goals refine qP ?_
    all_goals refine qE ?_)
  all_goals first
  | fail_if_success with_reducible refine atR 19 ?_
  | (
    refine rg 19 [] [some 72, some 73, some 74, some 13] 4 ?_
    all_goals iterate 2 refine qP ?_
    all_goals (
      refine qL_cons ?_
      intro R hR
      refine sm ?_
      refine call_fun (heldR_spec v.br v.into v.by_ (mkL (rvOut v (putS v.yes who)).length 101 (rvOut v (putS v.yes who))) 101 (by omega) (by rw [mkL_len (Nat.le_refl _)]; omega) mkL_get) [29] ?_ (.inr rfl) ?_
      · exact ⟨.inr (.inr ⟨_, rfl, .inl rfl, .inl rfl, .inl rfl, .inr (.inr (lend_of (by simp) (by simp) cl (by simp [mkL_len]))), trivial⟩), ⟨.inl rfl, trivial⟩⟩
      refine sm ?_
      all_goals (refine hR _ ?_; clear hR R))
    all_goals refine qP ?_
    all_goals refine qE ?_)
  all_goals first
  | fail_if_success with_reducible refine atR 20 ?_
  | (
    refine rg 20 [] [some 75, some 76] 2 ?_
    all_goals iterate 2 refine qP ?_
    all_goals refine qE ?_)
  all_goals first
  | fail_if_success with_reducible refine atC 76 ?_
  | (
    refine cn 76 ?_ ?_ <;> intro hc76 <;> try (cases hc76; done)
    all_goals refine st ?_)
  all_goals first
  | fail_if_success with_reducible refine atR 21 ?_
  | (
    refine rg 21 [] [some 4] 1 ?_
    all_goals refine qP ?_
    all_goals refine qE ?_)
  all_goals first
  | fail_if_success with_reducible refine atR 22 ?_
  | (
    refine rg 22 [] [some 77, some 78, some 79] 3 ?_
    all_goals iterate 3 refine qP ?_
    all_goals refine qE ?_)
  all_goals first
  | fail_if_success with_reducible refine atC 79 ?_
  | (
    refine cn 79 ?_ ?_ <;> intro hc79 <;> try (cases hc79; done)
    all_goals refine st ?_)
  all_goals try (exfalso; first | omega | (rw [mkL_len (Nat.le_refl _)] at *; omega) | (simp at *; done) | (simp_all [mkL_len]; done))
  all_goals first
  | fail_if_success with_reducible refine atR 23 ?_
  | (
    refine rg 23 [] [some 4] 1 ?_
    all_goals refine qP ?_
    all_goals refine qE ?_)
  all_goals first
  | fail_if_success with_reducible refine atR 24 ?_
  | (
    refine rg 24 [] [some 81, some 82, some 83, some 84, some 80, some 85, some 86, some 14, none, some 15] 10 ?_
    all_goals refine qP ?_
    all_goals (
      refine qL_cons ?_
      intro R hR
      refine sm ?_
      refine call_fun (toReview_spec v true hv) [] ?_ (.inl rfl) ?_
      · exact ⟨.inl rfl, ⟨.inl rfl, trivial⟩⟩
      refine sm ?_
      all_goals (refine hR _ ?_; clear hR R))
    all_goals refine qP ?_
    all_goals (
      refine qL_cons ?_
      intro R hR
      refine sm ?_
      refine call_row (implRY v who h) [] ?_ (.inl rfl) ?_
      · exact ⟨.inr (.inl (rvT_bare v true).symm), ⟨.inl rfl, trivial⟩⟩
      refine sm ?_
      all_goals (refine hR _ ?_; clear hR R))
    all_goals iterate 6 refine qP ?_
    all_goals refine qE ?_)
  all_goals first
  | fail_if_success with_reducible refine atR 25 ?_
  | (
    refine rg 25 [] [some 87, some 88, some 89, some 90, some 91, some 92, some 93, some 94, some 95] 9 ?_
    all_goals iterate 2 refine qP ?_
    all_goals (
      refine qL_cons ?_
      intro R hR
      refine sm ?_
      refine call_fun (eqReview_spec ⟨v.br, v.into, v.by_, (rvOut v (putS v.yes who))⟩ ⟨v.br, v.into, v.by_, (rvOut v (putS v.yes who))⟩) [86, 16] ?_ (.inr rfl) ?_
      · exact ⟨.inr (.inr ⟨_, rfl, .inl rfl, .inl rfl, .inl rfl, .inr (.inr (lend_of (by simp) (by simp) cl (by simp [mkL_len]))), trivial⟩), ⟨.inr (.inr ⟨_, rfl, .inl rfl, .inl rfl, .inl rfl, .inr (.inr (lend_of (by simp) (by simp) cl (by simp [mkL_len]))), trivial⟩), trivial⟩⟩
      refine sm ?_
      all_goals (refine hR _ ?_; clear hR R))
    all_goals iterate 2 refine qP ?_
    all_goals first | refine qU 91 ?_ | (refine qS 91 ?_ ?_ <;> intro hg25_4 <;> try (cases hg25_4; done))
    all_goals iterate 4 refine qP ?_
    all_goals refine qE ?_)
  all_goals first
  | fail_if_success with_reducible refine atC 95 ?_
  | (
    refine cn 95 ?_ ?_ <;> intro hc95 <;> try (cases hc95; done)
    all_goals refine st ?_)
  all_goals try (exfalso; simp_all; done)
  all_goals first
  | fail_if_success with_reducible refine atR 26 ?_
  | (
    refine rg 26 [] [some 4] 1 ?_
    all_goals refine qP ?_
    all_goals refine qE ?_)
  all_goals first
  | fail_if_success with_reducible refine atR 27 ?_
  | (
    refine rg 27 [] [some 13] 1 ?_
    all_goals refine qP ?_
    all_goals refine qE ?_)
  all_goals first
  | fail_if_success with_reducible refine atR 28 ?_
  | (
    refine rg 28 [] [some 96, some 97, some 98, some 13] 4 ?_
    all_goals iterate 2 refine qP ?_
    all_goals (
      refine qL_cons ?_
      intro R hR
      refine sm ?_
      refine call_fun (heldR_spec v.br v.into v.by_ (mkL (rvOut v (putS v.yes who)).length 101 (rvOut v (putS v.yes who))) 101 (by omega) (by rw [mkL_len (Nat.le_refl _)]; omega) mkL_get) [29] ?_ (.inr rfl) ?_
      · exact ⟨.inr (.inr ⟨_, rfl, .inl rfl, .inl rfl, .inl rfl, .inr (.inr (lend_of (by simp) (by simp) cl (by simp [mkL_len]))), trivial⟩), ⟨.inl rfl, trivial⟩⟩
      refine sm ?_
      all_goals (refine hR _ ?_; clear hR R))
    all_goals refine qP ?_
    all_goals refine qE ?_)
  all_goals first
  | fail_if_success with_reducible refine atR 29 ?_
  | (
    refine rg 29 [] [some 99, some 100] 2 ?_
    all_goals iterate 2 refine qP ?_
    all_goals refine qE ?_)
  all_goals first
  | fail_if_success with_reducible refine atC 100 ?_
  | (
    refine cn 100 ?_ ?_ <;> intro hc100 <;> try (cases hc100; done)
    all_goals refine st ?_)
  all_goals first
  | fail_if_success with_reducible refine atR 30 ?_
  | (
    refine rg 30 [] [some 4] 1 ?_
    all_goals refine qP ?_
    all_goals refine qE ?_)
  all_goals first
  | fail_if_success with_reducible refine atR 31 ?_
  | (
    refine rg 31 [] [some 101, some 102, some 103] 3 ?_
    all_goals iterate 3 refine qP ?_
    all_goals refine qE ?_)
  all_goals first
  | fail_if_success with_reducible refine atC 103 ?_
  | (
    refine cn 103 ?_ ?_ <;> intro hc103 <;> try (cases hc103; done)
    all_goals refine st ?_)
  all_goals try (exfalso; first | omega | (rw [mkL_len (Nat.le_refl _)] at *; omega) | (simp at *; done) | (simp_all [mkL_len]; done))
  all_goals first
  | fail_if_success with_reducible refine atR 32 ?_
  | (
    refine rg 32 [] [some 4] 1 ?_
    all_goals refine qP ?_
    all_goals refine qE ?_)
  all_goals first
  | fail_if_success with_reducible refine atR 33 ?_
  | (
    refine rg 33 [] [some 4] 1 ?_
    all_goals refine qP ?_
    all_goals refine qE ?_)
  all_goals first
  | fail_if_success with_reducible refine ret_fun (t := 4) ?_ ?_
  | (
    refine ret_fun (t := 4) ?_ (fun _ => rfl)
    first
    | exact cl
    | (
      try refine sm ?_
      all_goals (
       (first | rfl | (congr 2; simp_all; done) | trace_state))))

end
end Go.Proofs.Ytmlbdicaeefomaa
