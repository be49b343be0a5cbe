/- the law FnReviewYes over data. No condition. -/
import Derived.Test.YtmlbdicaeefomaaE33
import Derived.Test.YtmlbdicaeefomaaAxF
namespace Go.Proofs.Ytmlbdicaeefomaa
open Go Go.RowKit
set_option maxRecDepth 100000
set_option maxHeartbeats 4000000
set_option linter.unusedSimpArgs false
set_option linter.unusedVariables false
theorem strLt_trans {a b c : ByteArray} (h1 : strLt a b = true) (h2 : strLt b c = true) : strLt a c = true := by
  unfold strLt at *
  simp only [bytesLess_eq, decide_eq_true_eq] at *
  exact List.lt_trans h1 h2
def asc (ss : List ByteArray) : Prop := ∀ (i j : Nat) (x y : ByteArray), i < j → ss[i]? = some x → ss[j]? = some y → strLt x y = true
theorem asc_of {ss : List ByteArray} (h : naB ss = true) : asc ss := by
  have step : ∀ i x y, ss[i]? = some x → ss[i + 1]? = some y → strLt x y = true := by
    intro i x y hx hy
    unfold naB at h
    rw [List.all_eq_true] at h
    have := h (i + 1) (List.mem_range.2 (List.getElem?_eq_some_iff.1 hy).1)
    unfold okAt at this
    rw [hy] at this
    simp only [Nat.add_sub_cancel, hx, Bool.and_eq_true, Bool.or_eq_true, beq_iff_eq, Nat.add_eq_zero_iff, Nat.one_ne_zero, and_false, false_or] at this
    exact this.2
  intro i j x y hij
  induction j generalizing y with
  | zero => omega
  | succ j ih =>
    intro hx hy
    by_cases hj : i = j
    · subst hj; exact step i x y hx hy
    · have hlt : j < ss.length := by have := (List.getElem?_eq_some_iff.1 hy).1; omega
      exact strLt_trans (ih ss[j] (by omega) hx (by simp)) (step j _ y (by simp) hy)
theorem twS_le (ss : List ByteArray) (x : ByteArray) : twS ss x ≤ ss.length := by
  unfold twS
  exact (List.takeWhile_sublist _).length_le
theorem twS_lt {ss : List ByteArray} {x : ByteArray} {j : Nat} {y : ByteArray} (hj : j < twS ss x) (hy : ss[j]? = some y) : strLt y x = true := by
  unfold twS at hj
  induction ss generalizing j with
  | nil => simp at hy
  | cons a r ih =>
    by_cases ha : strLt a x = true
    · simp only [List.takeWhile_cons, ha, if_true, List.length_cons] at hj
      cases j with
      | zero => simp at hy; subst hy; exact ha
      | succ j => exact ih (Nat.lt_of_succ_lt_succ hj) (by simpa using hy)
    · simp [List.takeWhile_cons, ha] at hj
theorem twS_ge {ss : List ByteArray} {x y : ByteArray} (hy : ss[twS ss x]? = some y) : strLt y x = false := by
  unfold twS at hy
  induction ss with
  | nil => simp at hy
  | cons a r ih =>
    by_cases ha : strLt a x = true
    · simp only [List.takeWhile_cons, ha, if_true, List.length_cons, List.getElem?_cons_succ] at hy
      exact ih hy
    · simp only [List.takeWhile_cons, ha, if_false, List.length_nil, List.getElem?_cons_zero, Option.some.injEq, Bool.false_eq_true] at hy
      subst hy; simpa using ha
theorem bsGo_in (less : Nat → Bool) (k n : Nat) (h1 : ∀ t, t < k → less t = true) (h2 : ∀ t, k ≤ t → t < n → less t = false) : ∀ (f lo hi : Nat), hi - lo ≤ f → lo ≤ k → k ≤ hi → hi ≤ n → Lib.bsGo less f lo hi = k
  | 0, lo, hi, hf, hl, hh, hn => by simp only [Lib.bsGo]; omega
  | f + 1, lo, hi, hf, hl, hh, hn => by
    simp only [Lib.bsGo]
    split
    · rename_i hlt
      split
      · rename_i hm
        refine bsGo_in less k n h1 h2 f _ _ (by omega) ?_ hh hn
        by_cases hk : (lo + hi) / 2 < k
        · omega
        · rw [h2 _ (by omega) (by omega)] at hm; cases hm
      · rename_i hm
        refine bsGo_in less k n h1 h2 f _ _ (by omega) hl ?_ (by omega)
        by_cases hk : (lo + hi) / 2 < k
        · exact absurd (h1 _ hk) hm
        · omega
    · omega
theorem kS_tw {ss : List ByteArray} (x : ByteArray) (h : asc ss) : kS ss x = twS ss x := by
  unfold kS
  have hle := twS_le ss x
  refine bsGo_in _ (twS ss x) ss.length (fun t ht => ?_) (fun t h1 h2 => ?_) _ _ _ (Nat.le_refl _) (Nat.zero_le _) hle (Nat.le_refl _)
  · have hlt : t < ss.length := by omega
    have := twS_lt (y := ss[t]) ht (by simp)
    simpa [strLt, hlt] using this
  · have hb : twS ss x < ss.length := by omega
    have hg := twS_ge (ss := ss) (x := x) (y := ss[twS ss x]) (by simp)
    have : strLt ss[t] x = false := by
      by_cases ht : t = twS ss x
      · subst ht; exact hg
      · have a := h (twS ss x) t ss[twS ss x] ss[t] (by omega) (by simp) (by simp)
        cases hs : strLt ss[t] x with
        | false => rfl
        | true => rw [strLt_trans a hs] at hg; cases hg
    simpa [strLt, h2] using this
theorem fS_tw {ss : List ByteArray} (x : ByteArray) (h : asc ss) : (fS ss x = true) ↔ ss[twS ss x]? = some x := by
  unfold fS
  rw [kS_tw x h, decide_eq_true_eq]
  constructor
  · rintro ⟨h1, h2⟩
    rw [List.getElem?_eq_getElem h1]
    simpa [h1] using h2
  · intro h1
    obtain ⟨h2, h3⟩ := List.getElem?_eq_some_iff.1 h1
    exact ⟨h2, by simp [h2, h3]⟩
theorem rvB_na {v : Rv} (h : rvB v = true) : naB v.yes = true := by
  simp only [rvB, Bool.and_eq_true] at h
  exact h.2
theorem wI_put {v : Rv} (who : ByteArray) (h : rvB v = true) : wI v who = putS v.yes who := by
  have ha := asc_of (rvB_na h)
  unfold wI putS
  rw [kS_tw who ha]
  by_cases hf : fS v.yes who = true
  · rw [if_pos hf, if_pos ((fS_tw who ha).1 hf)]
  · rw [if_neg hf, if_neg (fun hh => hf ((fS_tw who ha).2 hh))]
theorem insS_at {es : List ByteArray} {i : Nat} {s : ByteArray} (h : i ≤ es.length) : (insS es i s)[i]? = some s := by
  unfold insS
  rw [List.getElem?_append_right (by simp; omega)]
  simp [Nat.min_eq_left h]
theorem put_at (ss : List ByteArray) (x : ByteArray) : (putS ss x)[twS ss x]? = some x := by
  unfold putS
  split
  · assumption
  · exact insS_at (twS_le ss x)
theorem put_mem (ss : List ByteArray) (x : ByteArray) : x ∈ putS ss x := List.mem_of_getElem? (put_at ss x)
theorem put_sub {ss : List ByteArray} {x y : ByteArray} (h : y ∈ ss) : y ∈ putS ss x := by
  unfold putS
  split
  · exact h
  · unfold insS
    rw [← List.take_append_drop (twS ss x) ss] at h
    simp only [List.mem_append, List.mem_cons] at h ⊢
    rcases h with h | h
    · exact .inl h
    · exact .inr (.inr h)
theorem put_put (ss : List ByteArray) (x : ByteArray) : putS (putS ss x) x = putS ss x := by
  have htw : twS (putS ss x) x = twS ss x := by
    have hle := twS_le ss x
    refine twS_eq ?_ (fun j y hj hy => ?_) (fun y hy => ?_)
    · have := (List.getElem?_eq_some_iff.1 (put_at ss x)).1; omega
    · have : ss[j]? = some y := by
        unfold putS at hy
        split at hy
        · exact hy
        · unfold insS at hy
          rw [List.getElem?_append_left (by simp; omega), List.getElem?_take_of_lt hj] at hy
          exact hy
      exact twS_lt hj this
    · rw [put_at] at hy; cases hy; exact strLt_irrefl x
  show (if (putS ss x)[twS (putS ss x) x]? = some x then putS ss x else insS (putS ss x) (twS (putS ss x) x) x) = putS ss x
  rw [htw, if_pos (put_at ss x)]
/-- What ReviewYes answers. -/
def resB (v : Rv) (who : ByteArray) : Bool := rvB v && rvB { v with yes := putS v.yes who }
def resV (v : Rv) (who : ByteArray) : Rv := if rvB v then { v with yes := rvOut v (putS v.yes who) } else ⟨ByteArray.empty, ByteArray.empty, ByteArray.empty, []⟩
theorem frz_mk (v : Rv) (w : List ByteArray) : (rvMk v w 0).frz 0 1 ((rvOut v w).map sS) = .tup [RVx { v with yes := rvOut v w }, .d (.bool (rvB { v with yes := w }))] := by
  simp [rvMk, X.frz, X.frzL, RVx]
  rfl
theorem implReviewYes (v : Rv) (who : ByteArray) : Fun Try.prog 23 [RVx v, .d (.str who)] (.tup [RVx (resV v who), .d (.bool (resB v who))]) := by
  cases h : rvB v with
  | true =>
    have : Fun Try.prog 23 [RVx v, .d (.str who)] _ := (implReviewYes_ok v who h).dat rfl (frz_mk _ _) rfl
    rw [wI_put who h] at this
    simpa [resV, resB, h] using this
  | false =>
    have : Fun Try.prog 23 [RVx v, .d (.str who)] _ := (implReviewYes_bad v who h).nn (y' := .tup [RVx ⟨ByteArray.empty, ByteArray.empty, ByteArray.empty, []⟩, .d (.bool false)]) rfl
    simpa [resV, resB, h] using this
theorem specReviewYes (v : Rv) (who : ByteArray) : Fun Try.prog 24 [RVx v, .d (.str who)] (.tup [RVx (resV v who), .d (.bool (resB v who))]) := by
  cases h : rvB v with
  | true =>
    have : Fun Try.prog 24 [RVx v, .d (.str who)] _ := (specReviewYes_ok v who h).dat rfl (frz_mk _ _) rfl
    simpa [resV, resB, h] using this
  | false =>
    have : Fun Try.prog 24 [RVx v, .d (.str who)] _ := (specReviewYes_bad v who h).nn (y' := .tup [RVx ⟨ByteArray.empty, ByteArray.empty, ByteArray.empty, []⟩, .d (.bool false)]) rfl
    simpa [resV, resB, h] using this
theorem res_not {v : Rv} {who : ByteArray} (h : rvB v = true) (h2 : resB v who = false) : resV v who = v := by
  have : rvB { v with yes := putS v.yes who } = false := by simpa [resB, h] using h2
  simp [resV, h, rvOut, this]
theorem res_ok {v : Rv} {who : ByteArray} (h2 : resB v who = true) : resV v who = { v with yes := putS v.yes who } ∧ rvB v = true ∧ rvB (resV v who) = true := by
  simp only [resB, Bool.and_eq_true] at h2
  have : resV v who = { v with yes := putS v.yes who } := by simp [resV, h2.1, rvOut, h2.2]
  exact ⟨this, h2.1, by rw [this]; exact h2.2⟩
theorem res_has {v : Rv} {who y : ByteArray} {i : Nat} (h2 : resB v who = true) (hy : v.yes[i]? = some y) : ((resV v who).yes.any fun z => decide (z = y)) = true := by
  rw [(res_ok h2).1, List.any_eq_true]
  exact ⟨y, put_sub (List.mem_of_getElem? hy), by simp⟩
theorem res_who {v : Rv} {who : ByteArray} (h2 : resB v who = true) : ((resV v who).yes.any fun z => decide (z = who)) = true := by
  rw [(res_ok h2).1, List.any_eq_true]
  exact ⟨who, put_mem _ _, by simp⟩
theorem res_again {v : Rv} {who : ByteArray} (h2 : resB v who = true) : resB (resV v who) who = true ∧ resV (resV v who) who = resV v who := by
  obtain ⟨h3, h4, h5⟩ := res_ok h2
  have e : ({ resV v who with yes := putS (resV v who).yes who } : Rv) = resV v who := by rw [h3]; simp [put_put]
  have h6 : resB (resV v who) who = true := by simp [resB, h5, e]
  exact ⟨h6, by rw [(res_ok h6).1, e]⟩
attribute [local go_sem] List.size_toArray Int.toNat_zero Nat.sub_zero size_mk top_val eq_self datL X.dat u8min u8max i64min i64max stepT gdO aop ev lit litOk putF fzX_false putO upd app List.contains_nil List.elem_nil aBin aInt aStr aBool aLen lenTy aBuiltin aLoad aTake aTakeX aStore splice aSlice aBd look_cons look_nil lookC_cons lookC_nil by_s by_C start_s start_C X.cells X.cell List.all_cons List.all_nil Bool.and_self Bool.not_true Bool.not_false false_implies true_implies forall_const and_true true_and and_self implies_true not_false_eq_true Nat.zero_add Nat.add_zero List.getD_cons_zero List.getD_cons_succ List.map_cons List.map_nil Option.bind_some Option.map_some Option.map_none List.getElem?_cons_zero List.getElem?_cons_succ List.length_cons List.length_nil List.drop_zero List.drop_succ_cons List.take_succ_cons List.take_zero List.cons_append List.nil_append List.append_nil D.of List.length_map all_get_map Option.isSome_some and_false false_and Nat.lt_add_one Nat.zero_lt_succ decide_true decide_false fzX litEs List.contains_cons List.elem_cons Bool.true_or Bool.or_true Bool.false_or Bool.or_false beq_self_eq_true
section
attribute [local go_sem] tsz31 tsz9 tsz22 tsz27 tfld27 tel22 tel31 toNat_cast und9 und4 zero27 RVx sS
theorem reviewYes_law (bs : List UInt8) : Fun Try.prog 6 [.d (.of bX bs)] (.d (.bool true)) := by
  refine Fun.of ?_ rfl rfl
  refine Spec.of (fn := Try.f6) Try.func6 rfl (by kernel_rfl) (rs := [.tmp 2]) rfl 1 (by simp [Try.f6]) rfl (by simp) ?_
  intro hreal
  rintro ⟨P, T, L0, w0, ι0, C0, U0⟩ hP hT hU
  subst hP hT
  refine st ?_
  all_goals first
  | fail_if_success with_reducible refine atR 0 ?_
  | (
    refine rg 0 [] [some 2] 1 ?_
    all_goals refine qP ?_
    all_goals refine qE ?_)
  all_goals first
  | fail_if_success with_reducible refine atR 1 ?_
  | (
    refine rg 1 [] [some 12, some 13, some 14] 3 ?_
    all_goals iterate 3 refine qP ?_
    all_goals refine qE ?_)
  all_goals first
  | fail_if_success with_reducible refine atC 14 ?_
  | (
    refine cn 14 ?_ ?_ <;> intro hc14 <;> try (cases hc14; done)
    all_goals refine st ?_)
  all_goals first
  | fail_if_success with_reducible refine atR 2 ?_
  | (
    refine rg 2 [] [some 2] 1 ?_
    all_goals refine qP ?_
    all_goals refine qE ?_)
  all_goals first
  | fail_if_success with_reducible refine atR 3 ?_
  | (
    refine rg 3 [] [some 16, some 17, some 15, some 18, some 19, some 3, none, some 4] 8 ?_
    all_goals refine qP ?_
    all_goals (
      refine qL_cons ?_
      intro R hR
      refine sm ?_
      refine call_ex (DrawReviewYes_spec bs) ⟨_, ⟨ByteArray.empty, ByteArray.empty, ByteArray.empty, []⟩, ByteArray.empty, rfl⟩ ?_ ?_
      · exact ⟨.inl rfl, trivial⟩
      rintro _ ⟨v, who, rfl⟩
      refine sm ?_
      all_goals (refine hR _ ?_; clear hR R))
    all_goals iterate 6 refine qP ?_
    all_goals refine qE ?_)
  all_goals first
  | fail_if_success with_reducible refine atR 4 ?_
  | (
    refine rg 4 [] [some 21, some 22, some 23, some 20, some 24, some 25, some 5, none, some 6] 9 ?_
    all_goals iterate 2 refine qP ?_
    all_goals (
      refine qL_cons ?_
      intro R hR
      refine sm ?_
      refine call_fun (implReviewYes (v) who) [] ?_ (.inl rfl) ?_
      · exact ⟨.inl rfl, ⟨.inl rfl, trivial⟩⟩
      refine sm ?_
      all_goals (refine hR _ ?_; clear hR R))
    all_goals iterate 6 refine qP ?_
    all_goals refine qE ?_)
  all_goals first
  | fail_if_success with_reducible refine atR 5 ?_
  | (
    refine rg 5 [] [some 27, some 28, some 29, some 26, some 30, some 31, some 7, none, some 8] 9 ?_
    all_goals iterate 2 refine qP ?_
    all_goals (
      refine qL_cons ?_
      intro R hR
      refine sm ?_
      refine call_fun (specReviewYes (v) who) [] ?_ (.inl rfl) ?_
      · exact ⟨.inl rfl, ⟨.inl rfl, trivial⟩⟩
      refine sm ?_
      all_goals (refine hR _ ?_; clear hR R))
    all_goals iterate 6 refine qP ?_
    all_goals refine qE ?_)
  all_goals first
  | fail_if_success with_reducible refine atR 6 ?_
  | (
    refine rgD 6 [] [some 32, some 33, some 34, some 35, some 36, some 37, some 38, some 39, some 40, some 41, some 42, some 43, some 44, some 45, some 46, some 47, some 48, some 49, some 50, some 51, some 52] 21 22 ?_
    intro av hav
    have hf10 := freeD 10 hav
    have hf19 := freeD 19 hav
    have hf28 := freeD 28 hav
    all_goals iterate 4 refine qP ?_
    all_goals first | refine qU 35 ?_ | (refine qS 35 ?_ ?_ <;> intro hg6_3 <;> try (cases hg6_3; done))
    all_goals first
    | (
      refine qL_cons ?_
      intro R hR
      simp only [go_sem, reduceIte, reduceCtorEq, Nat.reduceAdd, Nat.reduceEqDiff, Nat.reduceLeDiff, Nat.reduceLT, Nat.reduceSub, Int.reduceLE, Int.reduceNeg, Int.reduceLT, hf10, hf19, hf28]
      refine hR _ ?_
      clear hR R)
    | refine qP ?_
    all_goals first
    | (
      refine qL_cons ?_
      intro R hR
      simp only [go_sem, reduceIte, reduceCtorEq, Nat.reduceAdd, Nat.reduceEqDiff, Nat.reduceLeDiff, Nat.reduceLT, Nat.reduceSub, Int.reduceLE, Int.reduceNeg, Int.reduceLT, hf10, hf19, hf28]
      refine hR _ ?_
      clear hR R)
    | refine qP ?_
    all_goals first
    | (
      refine qL_cons ?_
      intro R hR
      simp only [go_sem, reduceIte, reduceCtorEq, Nat.reduceAdd, Nat.reduceEqDiff, Nat.reduceLeDiff, Nat.reduceLT, Nat.reduceSub, Int.reduceLE, Int.reduceNeg, Int.reduceLT, hf10, hf19, hf28]
      refine call_fun (smReview_spec (resV v who) (resV v who)) [] ?_ (.inl rfl) ?_
      · exact ⟨.inl rfl, ⟨.inl rfl, trivial⟩⟩
      simp only [go_sem, reduceIte, reduceCtorEq, Nat.reduceAdd, Nat.reduceEqDiff, Nat.reduceLeDiff, Nat.reduceLT, Nat.reduceSub, Int.reduceLE, Int.reduceNeg, Int.reduceLT, hf10, hf19, hf28]
      refine hR _ ?_
      clear hR R)
    | refine qP ?_
    all_goals iterate 3 refine qP ?_
    all_goals first | refine qU 41 ?_ | (refine qS 41 ?_ ?_ <;> intro hg6_9 <;> try (cases hg6_9; done))
    all_goals first
    | (
      refine qL_cons ?_
      intro R hR
      simp only [go_sem, reduceIte, reduceCtorEq, Nat.reduceAdd, Nat.reduceEqDiff, Nat.reduceLeDiff, Nat.reduceLT, Nat.reduceSub, Int.reduceLE, Int.reduceNeg, Int.reduceLT, hf10, hf19, hf28]
      refine hR _ ?_
      clear hR R)
    | refine qP ?_
    all_goals first
    | (
      refine qL_cons ?_
      intro R hR
      simp only [go_sem, reduceIte, reduceCtorEq, Nat.reduceAdd, Nat.reduceEqDiff, Nat.reduceLeDiff, Nat.reduceLT, Nat.reduceSub, Int.reduceLE, Int.reduceNeg, Int.reduceLT, hf10, hf19, hf28]
      refine call_fun (implReviewOk v) [] ?_ (.inl rfl) ?_
      · exact ⟨.inl rfl, trivial⟩
      simp only [go_sem, reduceIte, reduceCtorEq, Nat.reduceAdd, Nat.reduceEqDiff, Nat.reduceLeDiff, Nat.reduceLT, Nat.reduceSub, Int.reduceLE, Int.reduceNeg, Int.reduceLT, hf10, hf19, hf28]
      refine hR _ ?_
      clear hR R)
    | refine qP ?_
    all_goals first
    | (
      refine qL_cons ?_
      intro R hR
      simp only [go_sem, reduceIte, reduceCtorEq, Nat.reduceAdd, Nat.reduceEqDiff, Nat.reduceLeDiff, Nat.reduceLT, Nat.reduceSub, Int.reduceLE, Int.reduceNeg, Int.reduceLT, hf10, hf19, hf28]
      refine hR _ ?_
      clear hR R)
    | refine qP ?_
    all_goals first
    | (
      refine qL_cons ?_
      intro R hR
      simp only [go_sem, reduceIte, reduceCtorEq, Nat.reduceAdd, Nat.reduceEqDiff, Nat.reduceLeDiff, Nat.reduceLT, Nat.reduceSub, Int.reduceLE, Int.reduceNeg, Int.reduceLT, hf10, hf19, hf28]
      refine call_fun (specReviewOk v) [] ?_ (.inl rfl) ?_
      · exact ⟨.inl rfl, trivial⟩
      simp only [go_sem, reduceIte, reduceCtorEq, Nat.reduceAdd, Nat.reduceEqDiff, Nat.reduceLeDiff, Nat.reduceLT, Nat.reduceSub, Int.reduceLE, Int.reduceNeg, Int.reduceLT, hf10, hf19, hf28]
      refine hR _ ?_
      clear hR R)
    | refine qP ?_
    all_goals iterate 3 refine qP ?_
    all_goals first | refine qU 48 ?_ | (refine qS 48 ?_ ?_ <;> intro hg6_16 <;> try (cases hg6_16; done))
    all_goals first
    | (
      refine qL_cons ?_
      intro R hR
      simp only [go_sem, reduceIte, reduceCtorEq, Nat.reduceAdd, Nat.reduceEqDiff, Nat.reduceLeDiff, Nat.reduceLT, Nat.reduceSub, Int.reduceLE, Int.reduceNeg, Int.reduceLT, hf10, hf19, hf28]
      refine hR _ ?_
      clear hR R)
    | refine qP ?_
    all_goals first
    | (
      refine qL_cons ?_
      intro R hR
      simp only [go_sem, reduceIte, reduceCtorEq, Nat.reduceAdd, Nat.reduceEqDiff, Nat.reduceLeDiff, Nat.reduceLT, Nat.reduceSub, Int.reduceLE, Int.reduceNeg, Int.reduceLT, hf10, hf19, hf28]
      refine call_fun (implReviewOk v) [] ?_ (.inl rfl) ?_
      · exact ⟨.inl rfl, trivial⟩
      simp only [go_sem, reduceIte, reduceCtorEq, Nat.reduceAdd, Nat.reduceEqDiff, Nat.reduceLeDiff, Nat.reduceLT, Nat.reduceSub, Int.reduceLE, Int.reduceNeg, Int.reduceLT, hf10, hf19, hf28]
      refine hR _ ?_
      clear hR R)
    | refine qP ?_
    all_goals iterate 2 refine qP ?_
    all_goals refine qE ?_
    all_goals clear hf10 hf19 hf28 hav av)
  all_goals first
  | fail_if_success with_reducible refine atC 52 ?_
  | (
    refine cn 52 ?_ ?_ <;> intro hc52 <;> try (cases hc52; done)
    all_goals refine st ?_)
  all_goals first
  | fail_if_success with_reducible refine atR 7 ?_
  | (
    refine rgD 7 [] [some 53, some 54, some 55, some 56, some 57, some 58, some 59, some 60, some 61, some 62, some 63, some 64, some 65, some 66, some 67, some 2] 16 17 ?_
    intro av hav
    have hf10 := freeD 10 hav
    have hf19 := freeD 19 hav
    have hf28 := freeD 28 hav
    all_goals iterate 4 refine qP ?_
    all_goals first | refine qU 56 ?_ | (refine qS 56 ?_ ?_ <;> intro hg7_3 <;> try (cases hg7_3; done))
    all_goals first
    | (
      refine qL_cons ?_
      intro R hR
      simp only [go_sem, reduceIte, reduceCtorEq, Nat.reduceAdd, Nat.reduceEqDiff, Nat.reduceLeDiff, Nat.reduceLT, Nat.reduceSub, Int.reduceLE, Int.reduceNeg, Int.reduceLT, hf10, hf19, hf28]
      refine hR _ ?_
      clear hR R)
    | refine qP ?_
    all_goals first
    | (
      refine qL_cons ?_
      intro R hR
      simp only [go_sem, reduceIte, reduceCtorEq, Nat.reduceAdd, Nat.reduceEqDiff, Nat.reduceLeDiff, Nat.reduceLT, Nat.reduceSub, Int.reduceLE, Int.reduceNeg, Int.reduceLT, hf10, hf19, hf28]
      refine hR _ ?_
      clear hR R)
    | refine qP ?_
    all_goals first
    | (
      refine qL_cons ?_
      intro R hR
      simp only [go_sem, reduceIte, reduceCtorEq, Nat.reduceAdd, Nat.reduceEqDiff, Nat.reduceLeDiff, Nat.reduceLT, Nat.reduceSub, Int.reduceLE, Int.reduceNeg, Int.reduceLT, hf10, hf19, hf28]
      refine call_fun (smReview_spec (resV v who) (resV v who)) [] ?_ (.inl rfl) ?_
      · exact ⟨.inl rfl, ⟨.inl rfl, trivial⟩⟩
      simp only [go_sem, reduceIte, reduceCtorEq, Nat.reduceAdd, Nat.reduceEqDiff, Nat.reduceLeDiff, Nat.reduceLT, Nat.reduceSub, Int.reduceLE, Int.reduceNeg, Int.reduceLT, hf10, hf19, hf28]
      refine hR _ ?_
      clear hR R)
    | refine qP ?_
    all_goals iterate 2 refine qP ?_
    all_goals first | refine qU 61 ?_ | (refine qS 61 ?_ ?_ <;> intro hg7_8 <;> try (cases hg7_8; done))
    all_goals first
    | (
      refine qL_cons ?_
      intro R hR
      simp only [go_sem, reduceIte, reduceCtorEq, Nat.reduceAdd, Nat.reduceEqDiff, Nat.reduceLeDiff, Nat.reduceLT, Nat.reduceSub, Int.reduceLE, Int.reduceNeg, Int.reduceLT, hf10, hf19, hf28]
      refine hR _ ?_
      clear hR R)
    | refine qP ?_
    all_goals first
    | (
      refine qL_cons ?_
      intro R hR
      simp only [go_sem, reduceIte, reduceCtorEq, Nat.reduceAdd, Nat.reduceEqDiff, Nat.reduceLeDiff, Nat.reduceLT, Nat.reduceSub, Int.reduceLE, Int.reduceNeg, Int.reduceLT, hf10, hf19, hf28]
      refine call_fun (implReviewOk v) [] ?_ (.inl rfl) ?_
      · exact ⟨.inl rfl, trivial⟩
      simp only [go_sem, reduceIte, reduceCtorEq, Nat.reduceAdd, Nat.reduceEqDiff, Nat.reduceLeDiff, Nat.reduceLT, Nat.reduceSub, Int.reduceLE, Int.reduceNeg, Int.reduceLT, hf10, hf19, hf28]
      refine hR _ ?_
      clear hR R)
    | refine qP ?_
    all_goals first
    | (
      refine qL_cons ?_
      intro R hR
      simp only [go_sem, reduceIte, reduceCtorEq, Nat.reduceAdd, Nat.reduceEqDiff, Nat.reduceLeDiff, Nat.reduceLT, Nat.reduceSub, Int.reduceLE, Int.reduceNeg, Int.reduceLT, hf10, hf19, hf28]
      refine hR _ ?_
      clear hR R)
    | refine qP ?_
    all_goals first
    | (
      refine qL_cons ?_
      intro R hR
      simp only [go_sem, reduceIte, reduceCtorEq, Nat.reduceAdd, Nat.reduceEqDiff, Nat.reduceLeDiff, Nat.reduceLT, Nat.reduceSub, Int.reduceLE, Int.reduceNeg, Int.reduceLT, hf10, hf19, hf28]
      refine call_fun (specReviewOk v) [] ?_ (.inl rfl) ?_
      · exact ⟨.inl rfl, trivial⟩
      simp only [go_sem, reduceIte, reduceCtorEq, Nat.reduceAdd, Nat.reduceEqDiff, Nat.reduceLeDiff, Nat.reduceLT, Nat.reduceSub, Int.reduceLE, Int.reduceNeg, Int.reduceLT, hf10, hf19, hf28]
      refine hR _ ?_
      clear hR R)
    | refine qP ?_
    all_goals iterate 3 refine qP ?_
    all_goals refine qE ?_
    all_goals clear hf10 hf19 hf28 hav av)
  all_goals first
  | fail_if_success with_reducible refine atR 8 ?_
  | (
    refine rg 8 [] [some 68, some 69] 2 ?_
    all_goals iterate 2 refine qP ?_
    all_goals refine qE ?_)
  all_goals first
  | fail_if_success with_reducible refine atC 69 ?_
  | (
    refine cn 69 ?_ ?_ <;> intro hc69 <;> try (cases hc69; done)
    all_goals refine st ?_)
  all_goals try (have h2 : resB v who = true := hc69; have h3 := (res_ok h2).2.2; have h4 := res_again h2; have h5 := res_who h2)
  all_goals first
  | fail_if_success with_reducible refine atR 9 ?_
  | (
    refine rg 9 [] [some 70, some 71, some 72, some 2] 4 ?_
    all_goals iterate 2 refine qP ?_
    all_goals (
      refine qL_cons ?_
      intro R hR
      refine sm ?_
      refine call_fun (smReview_spec (resV v who) (v)) [] ?_ (.inl rfl) ?_
      · exact ⟨.inl rfl, ⟨.inl rfl, trivial⟩⟩
      refine sm ?_
      all_goals (refine hR _ ?_; clear hR R))
    all_goals refine qP ?_
    all_goals refine qE ?_)
  all_goals first
  | fail_if_success with_reducible refine atR 10 ?_
  | (
    refine rg 10 [] [some 74, some 75, some 76, some 73, some 77, some 78, some 9, none, some 10] 9 ?_
    all_goals iterate 2 refine qP ?_
    all_goals (
      refine qL_cons ?_
      intro R hR
      refine sm ?_
      refine call_fun (implReviewYes (resV v who) who) [] ?_ (.inl rfl) ?_
      · exact ⟨.inl rfl, ⟨.inl rfl, trivial⟩⟩
      refine sm ?_
      all_goals (refine hR _ ?_; clear hR R))
    all_goals iterate 6 refine qP ?_
    all_goals refine qE ?_)
  all_goals first
  | fail_if_success with_reducible refine atR 11 ?_
  | (
    refine rg 11 [] [some 11] 1 ?_
    all_goals refine qP ?_
    all_goals refine qE ?_)
  all_goals first
  | fail_if_success with_reducible refine AW.rounds (α := Nat) ?_ ?_ ?_ ?_ ?_ ?_ ?_ ?_
  | (
    refine AW.rounds (α := Nat) (fun i => i ≤ v.yes.length) (fun i => St.by [(3, .bx 10 0), (4, .d (.str who)), (5, .bx 19 0), (9, .bx 60 0), (10, .d (.bool (resB (resV v who) who))), (11, .d (.int .i64 i))] [(10, .box 27 [.d (.str (v).br), .d (.str (v).into), .d (.str (v).by_), .d (strs (v).yes)]), (19, .box 27 [.d (.str (resV v who).br), .d (.str (resV v who).into), .d (.str (resV v who).by_), .d (strs (resV v who).yes)]), (60, .box 27 [.d (.str (resV (resV v who) who).br), .d (.str (resV (resV v who) who).into), .d (.str (resV (resV v who) who).by_), .d (strs (resV (resV v who) who).yes)])]) (fun i => v.yes.length - i) 64 0 ?_ ?_ ?_
    · omega
    · refine Vw.to [] _ _ (vU hU) ?_ ?_ (by simp [tauL])
      · refine vx (vd (vx (vx (vd (vw_d ?_ (trivial))))))
        · first
          | exact cl2
          | (
            refine sm2 ?_
            all_goals (
             rfl))
      · exact ⟨⟨by simp, rfl, cl3⟩, ⟨by simp, rfl, cl3⟩, ⟨by simp, rfl, cl3⟩, trivial⟩
    · intro i hJ
      refine st ?_
      have hlenv : v.yes.length ≤ 5 := rvB_len (res_ok (v := v) (who := who) (by simp_all)).2.1
      all_goals first
      | fail_if_success with_reducible refine atR 12 ?_
      | (
        refine rg 12 [] [some 79, some 80, some 81, some 82, some 83] 5 ?_
        all_goals iterate 5 refine qP ?_
        all_goals refine qE ?_)
      all_goals first
      | fail_if_success with_reducible refine atC 83 ?_
      | (
        refine cn 83 ?_ ?_ <;> intro hc83 <;> try (cases hc83; done)
        all_goals refine st ?_)
      all_goals first
      | fail_if_success with_reducible refine atR 14 ?_
      | (
        refine rgD 14 [] [some 86, some 87, some 88, some 89, some 90, some 91, some 92, some 93, some 94] 9 10 ?_
        intro av hav
        have hf10 := freeD 10 hav
        have hf19 := freeD 19 hav
        all_goals refine qP ?_
        all_goals (
          refine qL_cons ?_
          intro R hR
          simp only [go_sem, reduceIte, reduceCtorEq, Nat.reduceAdd, Nat.reduceEqDiff, Nat.reduceLeDiff, Nat.reduceLT, Nat.reduceSub, Int.reduceLE, Int.reduceNeg, Int.reduceLT, hf10, hf19]
          all_goals (refine hR _ ?_; clear hR R))
        all_goals refine qP ?_
        all_goals (
          refine qL_cons ?_
          intro R hR
          simp only [go_sem, reduceIte, reduceCtorEq, Nat.reduceAdd, Nat.reduceEqDiff, Nat.reduceLeDiff, Nat.reduceLT, Nat.reduceSub, Int.reduceLE, Int.reduceNeg, Int.reduceLT, hf10, hf19]
          all_goals (refine hR _ ?_; clear hR R))
        all_goals refine qP ?_
        all_goals (
          refine qL_cons ?_
          intro R hR
          simp only [go_sem, reduceIte, reduceCtorEq, Nat.reduceAdd, Nat.reduceEqDiff, Nat.reduceLeDiff, Nat.reduceLT, Nat.reduceSub, Int.reduceLE, Int.reduceNeg, Int.reduceLT, hf10, hf19]
          refine ⟨⟨by omega, by omega⟩, ?_⟩
          intro y hy
          all_goals (refine hR _ ?_; clear hR R))
        all_goals (
          refine qL_cons ?_
          intro R hR
          simp only [go_sem, reduceIte, reduceCtorEq, Nat.reduceAdd, Nat.reduceEqDiff, Nat.reduceLeDiff, Nat.reduceLT, Nat.reduceSub, Int.reduceLE, Int.reduceNeg, Int.reduceLT, hf10, hf19]
          all_goals (refine hR _ ?_; clear hR R))
        all_goals (
          refine qL_cons ?_
          intro R hR
          simp only [go_sem, reduceIte, reduceCtorEq, Nat.reduceAdd, Nat.reduceEqDiff, Nat.reduceLeDiff, Nat.reduceLT, Nat.reduceSub, Int.reduceLE, Int.reduceNeg, Int.reduceLT, hf10, hf19]
          refine call_fun (smHas_spec (resV v who).yes y) [] ?_ (.inl rfl) ?_
          · exact ⟨.inl rfl, ⟨.inl rfl, trivial⟩⟩
          simp only [go_sem, reduceIte, reduceCtorEq, Nat.reduceAdd, Nat.reduceEqDiff, Nat.reduceLeDiff, Nat.reduceLT, Nat.reduceSub, Int.reduceLE, Int.reduceNeg, Int.reduceLT, hf10, hf19]
          all_goals (refine hR _ ?_; clear hR R))
        all_goals refine qP ?_
        all_goals refine qE ?_
        all_goals clear hf10 hf19 hav av)
      all_goals first
      | fail_if_success with_reducible refine atC 94 ?_
      | (
        refine cn 94 ?_ ?_ <;> intro hc94 <;> try (cases hc94; done)
        all_goals refine st ?_)
      all_goals first
      | fail_if_success with_reducible refine atR 15 ?_
      | (
        refine rg 15 [] [some 2] 1 ?_
        all_goals refine qP ?_
        all_goals refine qE ?_)
      all_goals first
      | fail_if_success with_reducible refine atR 13 ?_
      | (
        refine rg 13 [] [some 84, some 85, some 11] 3 ?_
        all_goals refine qP ?_
        all_goals (
          refine qL_cons ?_
          intro R hR
          refine sm ?_
          rw [wrap64 (by omega) (by omega)]
          all_goals (refine hR _ ?_; clear hR R))
        all_goals refine qP ?_
        all_goals refine qE ?_)
      all_goals first
      | fail_if_success with_reducible refine ⟨i + 1, ?_, ?_, ?_⟩
      | (
        refine ⟨i + 1, ?_, ?_, ?_⟩
        · omega
        · omega
        · refine Vw.to [] _ _ (vU hU) ?_ ?_ (by simp [tauL])
          · refine vx (vd (vx (vx (vd (vw_d ?_ (trivial))))))
            · first
              | exact cl2
              | (
                refine sm2 ?_
                all_goals (
                 congr 1))
          · exact ⟨⟨by simp, rfl, cl3⟩, ⟨by simp, rfl, cl3⟩, ⟨by simp, rfl, cl3⟩, trivial⟩)
      all_goals first
      | fail_if_success with_reducible refine atR 16 ?_
      | (
        refine rg 16 [] [some 95, some 96, some 97, some 98, some 99, some 100, some 101, some 102, some 103, some 104, some 105, some 106, some 107, some 108, some 109, some 110, some 2] 17 ?_
        all_goals refine qP ?_
        all_goals (
          refine qL_cons ?_
          intro R hR
          refine sm ?_
          refine call_fun (implReviewOk (resV v who)) [] ?_ (.inl rfl) ?_
          · exact ⟨.inl rfl, trivial⟩
          refine sm ?_
          all_goals (refine hR _ ?_; clear hR R))
        all_goals refine qP ?_
        all_goals first | refine qU 97 ?_ | (refine qS 97 ?_ ?_ <;> intro hg16_2 <;> try (cases hg16_2; done))
        all_goals iterate 3 refine qP ?_
        all_goals first
        | (
          refine qL_cons ?_
          intro R hR
          refine sm ?_
          refine call_fun (smHas_spec (resV v who).yes who) [] ?_ (.inl rfl) ?_
          · exact ⟨.inl rfl, ⟨.inl rfl, trivial⟩⟩
          refine sm ?_
          refine hR _ ?_
          clear hR R)
        | refine qP ?_
        all_goals iterate 2 refine qP ?_
        all_goals first | refine qU 103 ?_ | (refine qS 103 ?_ ?_ <;> intro hg16_8 <;> try (cases hg16_8; done))
        all_goals iterate 3 refine qP ?_
        all_goals first | refine qU 106 ?_ | (refine qS 106 ?_ ?_ <;> intro hg16_11 <;> try (cases hg16_11; done))
        all_goals iterate 2 refine qP ?_
        all_goals first
        | (
          refine qL_cons ?_
          intro R hR
          refine sm ?_
          refine call_fun (smReview_spec (resV (resV v who) who) (resV v who)) [] ?_ (.inl rfl) ?_
          · exact ⟨.inl rfl, ⟨.inl rfl, trivial⟩⟩
          refine sm ?_
          refine hR _ ?_
          clear hR R)
        | refine qP ?_
        all_goals iterate 2 refine qP ?_
        all_goals refine qE ?_)
      all_goals first
      | fail_if_success with_reducible refine ret_fun (t := 2) ?_ ?_
      | (
        refine ret_fun (t := 2) ?_ (fun _ => rfl)
        first
        | exact cl
        | (
          try refine sm ?_
          all_goals (
           first
           | (exfalso
              rw [res_has hc69 hy] at hc94
              cases hc94)
           | (congr 2
              have hn := res_not (v := v) (who := who) (by simpa using hc52) (by simpa using hc69)
              rw [hn]; simp; done)
           | (congr 2; simp_all; done)
           | trace_state))))
  all_goals first
  | fail_if_success with_reducible refine ret_fun (t := 2) ?_ ?_
  | (
    refine ret_fun (t := 2) ?_ (fun _ => rfl)
    first
    | exact cl
    | (
      try refine sm ?_
      all_goals (
       first
       | (exfalso
          rw [res_has hc69 hy] at hc94
          cases hc94)
       | (congr 2
          have hn := res_not (v := v) (who := who) (by simpa using hc52) (by simpa using hc69)
          rw [hn]; simp; done)
       | (congr 2; simp_all; done)
       | trace_state)))

end
end Go.Proofs.Ytmlbdicaeefomaa
