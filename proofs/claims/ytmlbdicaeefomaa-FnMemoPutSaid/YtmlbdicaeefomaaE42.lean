/- what is known of a clash put in, of the reference; what is known of a clash put in, of the program. No condition. -/
import Derived.Test.YtmlbdicaeefomaaE40
import Derived.Test.YtmlbdicaeefomaaAxI
namespace Go.Proofs.Ytmlbdicaeefomaa
open Go Go.RowKit
set_option maxRecDepth 100000
set_option maxHeartbeats 4000000
set_option linter.unusedSimpArgs false
set_option linter.unusedVariables false
/-- A known clash put in: what was known of the same clash goes. -/
def mgM (ms : List Mm) (m : Mm) : List Mm := ms.filter (fun x => !sameB m.old m.one m.two x) ++ [m]
def resM (ms : List Mm) (m : Mm) : List Mm := if mmB (mgM ms m) then mgM ms m else ms
theorem mmB_at {ms : List Mm} (h : mmB ms = true) {i : Nat} {x : Mm} (hx : ms[i]? = some x) : okM ms i = true := by
  simp only [mmB, Bool.and_eq_true] at h
  exact List.all_eq_true.1 h.1 i (List.mem_range.2 (List.getElem?_eq_some_iff.1 hx).1)
theorem mmB_len {ms : List Mm} (h : mmB ms = true) : ms.length ≤ 5 := by
  simp only [mmB, Bool.and_eq_true, decide_eq_true_eq] at h
  omega
theorem txB_len {ss : List ByteArray} (h : txB ss = true) : ss.length ≤ 1000000 := by
  simp only [txB, Bool.and_eq_true, decide_eq_true_eq] at h
  omega
theorem mmB_sm {ms : List Mm} (h : mmB ms = true) : ∀ m ∈ ms, smM m := by
  intro m hm
  obtain ⟨i, hi, rfl⟩ := List.mem_iff_getElem.1 hm
  have := mmB_at h (List.getElem?_eq_getElem hi)
  simp only [okM, List.getElem?_eq_getElem hi, Bool.and_eq_true] at this
  obtain ⟨⟨⟨⟨⟨h1, h2⟩, h3⟩, h4⟩, -⟩, -⟩ := this
  exact ⟨txB_len h1, txB_len h2, txB_len h3, txB_len h4⟩
theorem same_eq {old one two : List ByteArray} {m : Mm} (h : sameB old one two m = true) : old = m.old ∧ ((one = m.one ∧ two = m.two) ∨ (one = m.two ∧ two = m.one)) := by
  simpa [sameB] using h
theorem same_of {old one two : List ByteArray} {m : Mm} (h : old = m.old ∧ ((one = m.one ∧ two = m.two) ∨ (one = m.two ∧ two = m.one))) : sameB old one two m = true := by
  simpa [sameB] using h
theorem same_trans {m x y : Mm} (h1 : sameB m.old m.one m.two x = true) (h2 : sameB m.old m.one m.two y = true) : sameB y.old y.one y.two x = true := by
  obtain ⟨a1, a2⟩ := same_eq h1
  obtain ⟨b1, b2⟩ := same_eq h2
  refine same_of ⟨b1.symm.trans a1, ?_⟩
  rcases a2 with ⟨a2, a3⟩ | ⟨a2, a3⟩ <;> rcases b2 with ⟨b2, b3⟩ | ⟨b2, b3⟩ <;> simp_all
theorem filt_take {ms : List Mm} {p : Mm → Bool} {i : Nat} {x : Mm} (h : ms[i]? = some x) : (ms.take (i + 1)).filter p = (ms.take i).filter p ++ (if p x then [x] else []) := by
  rw [List.take_add_one, h, List.filter_append]
  simp [List.filter_cons]
theorem one_same {ms : List Mm} (h : mmB ms = true) {m : Mm} {i j : Nat} {x y : Mm} (hij : i < j) (hx : ms[i]? = some x) (hy : ms[j]? = some y) (h1 : sameB m.old m.one m.two x = true) (h2 : sameB m.old m.one m.two y = true) : False := by
  have := mmB_at h hy
  simp only [okM, hy, Bool.and_eq_true] at this
  have h3 := this.2
  have h4 := take_any (P := sameB y.old y.one y.two) hij hx (same_trans h1 h2)
  simp [h4] at h3
theorem filt_none {ms : List Mm} {p : Mm → Bool} (h : ms.findIdx? p = none) : ms.filter (fun x => !p x) = ms := by
  rw [List.filter_eq_self]
  intro a ha
  simpa using List.findIdx?_eq_none_iff.1 h a ha
theorem filt_erase : ∀ {ms : List Mm} {p : Mm → Bool} {i : Nat} (h : ms.findIdx? p = some i), (∀ j x, i < j → ms[j]? = some x → p x = false) → ms.filter (fun x => !p x) = ms.eraseIdx i
  | [], p, i, h, _ => by simp at h
  | x :: r, p, i, h, ho => by
    rw [List.findIdx?_cons] at h
    by_cases hx : p x = true
    · simp only [hx, if_true, Option.some.injEq] at h
      subst h
      simp only [List.filter_cons, hx, Bool.not_true, Bool.false_eq_true, if_false, List.eraseIdx_cons_zero]
      rw [List.filter_eq_self]
      intro a ha
      obtain ⟨j, hj, rfl⟩ := List.mem_iff_getElem.1 ha
      have := ho (j + 1) r[j] (by omega) (by simp)
      simp [this]
    · simp only [hx, Bool.false_eq_true, if_false, Option.map_eq_some_iff] at h
      obtain ⟨k, hk, rfl⟩ := h
      simp only [List.filter_cons, hx, Bool.not_false, if_true, List.eraseIdx_cons_succ]
      rw [filt_erase hk (fun j y hj hy => ho (j + 1) y (by omega) (by simpa using hy))]
theorem mg_some {ms : List Mm} {m : Mm} {i : Nat} (hm : mmB ms = true) (h : ms.findIdx? (sameB m.old m.one m.two) = some i) : ms.eraseIdx i ++ [m] = mgM ms m ∧ i < ms.length := by
  obtain ⟨hi, hp, -⟩ := List.findIdx?_eq_some_iff_getElem.1 h
  refine ⟨?_, hi⟩
  unfold mgM
  rw [filt_erase h]
  intro j x hj hx
  cases hs : sameB m.old m.one m.two x with
  | false => rfl
  | true => exact (one_same hm hj (List.getElem?_eq_getElem hi) hx hp hs).elim
theorem mg_none {ms : List Mm} {m : Mm} (h : ms.findIdx? (sameB m.old m.one m.two) = none) : ms ++ [m] = mgM ms m := by
  unfold mgM
  rw [filt_none h]
theorem idxM_some {ms : List Mm} {p : Mm → Bool} {i : Nat} (h : ms.findIdx? p = some i) : idxF p ms = (i : Int) := by simp [idxF, h]
theorem idxM_none {ms : List Mm} {p : Mm → Bool} (h : ms.findIdx? p = none) : idxF p ms = -1 := by simp [idxF, h]
theorem map_erase (ms : List Mm) (i : Nat) : (ms.map mX).eraseIdx i = (ms.eraseIdx i).map mX := by
  simp only [List.eraseIdx_eq_take_drop_succ, List.map_append, List.map_take, List.map_drop]
theorem mg_len (ms : List Mm) (m : Mm) : (mgM ms m).length ≤ ms.length + 1 := by
  simp only [mgM, List.length_append, List.length_cons, List.length_nil]
  have := List.length_filter_le (fun x => !sameB m.old m.one m.two x) ms
  omega
def mpX (ms : List Mm) (m : Mm) (k : Nat) : X := .tup [.vec k 4 0 (resM ms m).length, .d (.bool (mmB (mgM ms m)))]
attribute [local go_sem] List.size_toArray Int.toNat_zero Nat.sub_zero size_mk top_val eq_self datL X.dat u8min u8max i64min i64max stepT gdO aop ev lit litOk putF fzX_false putO upd app List.contains_nil List.elem_nil aBin aInt aStr aBool aLen lenTy aBuiltin aLoad aTake aTakeX aStore splice aSlice aBd look_cons look_nil lookC_cons lookC_nil by_s by_C start_s start_C X.cells X.cell List.all_cons List.all_nil Bool.and_self Bool.not_true Bool.not_false false_implies true_implies forall_const and_true true_and and_self implies_true not_false_eq_true Nat.zero_add Nat.add_zero List.getD_cons_zero List.getD_cons_succ List.map_cons List.map_nil Option.bind_some Option.map_some Option.map_none List.getElem?_cons_zero List.getElem?_cons_succ List.length_cons List.length_nil List.drop_zero List.drop_succ_cons List.take_succ_cons List.take_zero List.cons_append List.nil_append List.append_nil D.of List.length_map all_get_map Option.isSome_some and_false false_and Nat.lt_add_one Nat.zero_lt_succ decide_true decide_false aPart aSl2 Nat.lt_irrefl fzX litEs List.contains_cons List.elem_cons Bool.true_or Bool.or_true Bool.false_or Bool.or_false beq_self_eq_true
section
attribute [local go_sem] tsz9 tsz22 tsz34 tfld34 tel22 tel32 toNat_cast und9 zero34 tz9l iz9 tz34l iz34 aDst aSrc sS MMx
theorem specMemoPut_bad (ms : List Mm) (m : Mm) (h : mmB ms = false) : Fun Try.prog 15 [.d (.of mX ms), .ag [.d (strs m.old), .d (strs m.one), .d (strs m.two), .d (strs m.done)]] (.tup [.nil, .d (.bool false)]) := by
  refine Fun.of ?_ rfl rfl
  refine Spec.of (fn := Try.f15) Try.func15 rfl (by kernel_rfl) (rs := [.tmp 4, .tmp 5]) rfl 1 (by simp [Try.f15]) rfl (by simp) ?_
  intro hreal
  rintro ⟨P, T, L0, w0, ι0, C0, U0⟩ hP hT hU
  subst hP hT
  refine st ?_
  all_goals first
  | fail_if_success with_reducible refine atR 0 ?_
  | (
    refine rg 0 [] [some 3, some 4, some 5] 3 ?_
    all_goals iterate 3 refine qP ?_
    all_goals refine qE ?_)
  all_goals first
  | fail_if_success with_reducible refine atR 1 ?_
  | (
    refine rg 1 [] [some 8, some 9, some 10] 3 ?_
    all_goals refine qP ?_
    all_goals (
      refine qL_cons ?_
      intro R hR
      refine sm ?_
      refine call_fun (l18Ok_spec ms) [] ?_ (.inl rfl) ?_
      · exact ⟨.inl rfl, trivial⟩
      refine sm ?_
      all_goals (refine hR _ ?_; clear hR R))
    all_goals refine qP ?_
    all_goals refine qE ?_)
  all_goals first
  | fail_if_success with_reducible refine atC 10 ?_
  | (
    refine cn 10 ?_ ?_ <;> intro hc10 <;> try (cases hc10; done)
    all_goals refine st ?_)
  all_goals try (simp [h] at hc10; done)
  all_goals first
  | fail_if_success with_reducible refine atR 2 ?_
  | (
    refine rg 2 [] [some 4, some 5] 2 ?_
    all_goals iterate 2 refine qP ?_
    all_goals refine qE ?_)
  all_goals refine ret_dat [.nil, .d (.bool false)] (Vw.refl _ _ _) ⟨cl, cl, trivial⟩ (fun _ => rfl) rfl

end
section
attribute [local go_sem] tsz9 tsz22 tsz34 tfld34 tel22 tel32 toNat_cast und9 zero34 tz9l iz9 tz34l iz34 aDst aSrc sS MMx
theorem specMemoPut_row (ms : List Mm) (m : Mm) (h : mmB ms = true) (hm : smM m) : FunR Try.prog 15 [.d (.of mX ms), .ag [.d (strs m.old), .d (strs m.one), .d (strs m.two), .d (strs m.done)]] (mpX ms m) (.vec 34 4 ((resM ms m).map mX)) := by
  refine FunR.of ?_ rfl
  refine Spec.of (fn := Try.f15) Try.func15 rfl (by kernel_rfl) (rs := [.tmp 4, .tmp 5]) rfl 1 (by simp [Try.f15]) rfl (by simp) ?_
  intro hreal
  rintro ⟨P, T, L0, w0, ι0, C0, U0⟩ hP hT hU
  subst hP hT
  refine st ?_
  have hlen := mmB_len h
  all_goals first
  | fail_if_success with_reducible refine atR 0 ?_
  | (
    refine rg 0 [] [some 3, some 4, some 5] 3 ?_
    all_goals iterate 3 refine qP ?_
    all_goals refine qE ?_)
  all_goals first
  | fail_if_success with_reducible refine atR 1 ?_
  | (
    refine rg 1 [] [some 8, some 9, some 10] 3 ?_
    all_goals refine qP ?_
    all_goals (
      refine qL_cons ?_
      intro R hR
      refine sm ?_
      refine call_fun (l18Ok_spec ms) [] ?_ (.inl rfl) ?_
      · exact ⟨.inl rfl, trivial⟩
      refine sm ?_
      all_goals (refine hR _ ?_; clear hR R))
    all_goals refine qP ?_
    all_goals refine qE ?_)
  all_goals first
  | fail_if_success with_reducible refine atC 10 ?_
  | (
    refine cn 10 ?_ ?_ <;> intro hc10 <;> try (cases hc10; done)
    all_goals refine st ?_)
  all_goals try (simp [h] at hc10; done)
  all_goals first
  | fail_if_success with_reducible refine atR 2 ?_
  | (
    refine rg 2 [] [some 4, some 5] 2 ?_
    all_goals iterate 2 refine qP ?_
    all_goals refine qE ?_)
  all_goals first
  | fail_if_success with_reducible refine atR 3 ?_
  | (
    refine rg 3 [] [some 11, some 6] 2 ?_
    all_goals iterate 2 refine qP ?_
    all_goals refine qE ?_)
  all_goals first
  | fail_if_success with_reducible refine atR 4 ?_
  | (
    refine rg 4 [] [some 7] 1 ?_
    all_goals refine qP ?_
    all_goals refine qE ?_)
  all_goals first
  | fail_if_success with_reducible refine AW.rounds (α := Nat) ?_ ?_ ?_ ?_ ?_ ?_ ?_ ?_
  | (
    refine AW.rounds (α := Nat) (fun i => i ≤ ms.length) (fun i => St.by [(0, .d (.of mX ms)), (3, .bx 1 0), (6, .vec 7 4 0 ((ms.take i).filter (fun x => !sameB m.old m.one m.two x)).length), (7, .d (.int .i64 i))] [(1, .box 34 [.d (strs m.old), .d (strs m.one), .d (strs m.two), .d (strs m.done)]), (7, .vec 34 4 (((ms.take i).filter (fun x => !sameB m.old m.one m.two x)).map mX))]) (fun i => ms.length - i) 10 0 ?_ ?_ ?_
    · omega
    · refine Vw.to [] _ _ (vU hU) ?_ ?_ (by simp [tauL])
      · refine vd (vx (vx (vw_d ?_ (trivial))))
        · first
          | exact cl2
          | (
            refine sm2 ?_
            all_goals (
             rfl))
      · refine ⟨⟨by simp, rfl, cl3⟩, ⟨by simp, rfl, ?_⟩, trivial⟩
        refine sm3 ?_
        try simp
    · intro i hJ
      refine st ?_
      all_goals first
      | fail_if_success with_reducible refine atR 5 ?_
      | (
        refine rg 5 [] [some 12, some 13, some 14, some 15] 4 ?_
        all_goals iterate 4 refine qP ?_
        all_goals refine qE ?_)
      all_goals first
      | fail_if_success with_reducible refine atC 15 ?_
      | (
        refine cn 15 ?_ ?_ <;> intro hc15 <;> try (cases hc15; done)
        all_goals refine st ?_)
      all_goals try (
        have hii : i = ms.length := by omega
        subst hii
        rw [List.take_length])
      all_goals first
      | fail_if_success with_reducible refine atR 7 ?_
      | (
        refine rgD 7 [] [some 18, some 19, some 20, some 21, some 22, some 23, some 24, some 25, some 26, some 27, some 28, some 29] 12 13 ?_
        intro av hav
        have hf1 := freeD 1 hav
        all_goals iterate 2 refine qP ?_
        all_goals (
          refine qL_cons ?_
          intro R hR
          simp only [go_sem, reduceIte, reduceCtorEq, Nat.reduceAdd, Nat.reduceEqDiff, Nat.reduceLeDiff, Nat.reduceLT, Nat.reduceSub, Int.reduceLE, Int.reduceNeg, Int.reduceLT, hf1]
          refine ⟨⟨by omega, by omega⟩, ?_⟩
          intro x hx
          simp only [go_sem, reduceIte, reduceCtorEq, Nat.reduceAdd, Nat.reduceEqDiff, Nat.reduceLeDiff, Nat.reduceLT, Nat.reduceSub, Int.reduceLE, Int.reduceNeg, Int.reduceLT, hf1, mX]
          all_goals (refine hR _ ?_; clear hR R))
        all_goals (
          refine qL_cons ?_
          intro R hR
          simp only [go_sem, reduceIte, reduceCtorEq, Nat.reduceAdd, Nat.reduceEqDiff, Nat.reduceLeDiff, Nat.reduceLT, Nat.reduceSub, Int.reduceLE, Int.reduceNeg, Int.reduceLT, hf1]
          all_goals (refine hR _ ?_; clear hR R))
        all_goals refine qP ?_
        all_goals (
          refine qL_cons ?_
          intro R hR
          simp only [go_sem, reduceIte, reduceCtorEq, Nat.reduceAdd, Nat.reduceEqDiff, Nat.reduceLeDiff, Nat.reduceLT, Nat.reduceSub, Int.reduceLE, Int.reduceNeg, Int.reduceLT, hf1]
          all_goals (refine hR _ ?_; clear hR R))
        all_goals refine qP ?_
        all_goals (
          refine qL_cons ?_
          intro R hR
          simp only [go_sem, reduceIte, reduceCtorEq, Nat.reduceAdd, Nat.reduceEqDiff, Nat.reduceLeDiff, Nat.reduceLT, Nat.reduceSub, Int.reduceLE, Int.reduceNeg, Int.reduceLT, hf1]
          all_goals (refine hR _ ?_; clear hR R))
        all_goals refine qP ?_
        all_goals (
          refine qL_cons ?_
          intro R hR
          simp only [go_sem, reduceIte, reduceCtorEq, Nat.reduceAdd, Nat.reduceEqDiff, Nat.reduceLeDiff, Nat.reduceLT, Nat.reduceSub, Int.reduceLE, Int.reduceNeg, Int.reduceLT, hf1]
          all_goals (refine hR _ ?_; clear hR R))
        all_goals (
          refine qL_cons ?_
          intro R hR
          simp only [go_sem, reduceIte, reduceCtorEq, Nat.reduceAdd, Nat.reduceEqDiff, Nat.reduceLeDiff, Nat.reduceLT, Nat.reduceSub, Int.reduceLE, Int.reduceNeg, Int.reduceLT, hf1]
          refine call_fun (l18Same_spec x m.old m.one m.two) [] ?_ (.inl rfl) ?_
          · exact ⟨.inl rfl, ⟨.inl rfl, ⟨.inl rfl, ⟨.inl rfl, trivial⟩⟩⟩⟩
          simp only [go_sem, reduceIte, reduceCtorEq, Nat.reduceAdd, Nat.reduceEqDiff, Nat.reduceLeDiff, Nat.reduceLT, Nat.reduceSub, Int.reduceLE, Int.reduceNeg, Int.reduceLT, hf1]
          all_goals (refine hR _ ?_; clear hR R))
        all_goals refine qP ?_
        all_goals refine qE ?_
        all_goals clear hf1 hav av)
      all_goals first
      | fail_if_success with_reducible refine atC 29 ?_
      | (
        refine cn 29 ?_ ?_ <;> intro hc29 <;> try (cases hc29; done)
        all_goals refine st ?_)
      all_goals first
      | fail_if_success with_reducible refine atR 8 ?_
      | (
        refine rg 8 [6] [some 30, some 31, some 32, some 33, some 34, some 35, some 36, some 37, some 6] 9 ?_
        all_goals iterate 3 refine qP ?_
        all_goals (
          refine qL_cons ?_
          intro R hR
          refine sm ?_
          refine ⟨⟨by omega, by omega⟩, ?_⟩
          intro y hy
          obtain rfl : x = y := Option.some.inj (hx.symm.trans hy)
          simp only [go_sem, reduceIte, reduceCtorEq, Nat.reduceAdd, Nat.reduceEqDiff, Nat.reduceLeDiff, Nat.reduceLT, Nat.reduceSub, Int.reduceLE, Int.reduceNeg, Int.reduceLT, mX]
          all_goals (refine hR _ ?_; clear hR R))
        all_goals refine qP ?_
        all_goals (
          refine qL_cons ?_
          intro R hR
          refine sm ?_
          refine call_fun (l18Copy_spec x (mmB_sm h x (List.mem_of_getElem? hx))) [] ?_ (.inl rfl) ?_
          · exact ⟨.inl rfl, trivial⟩
          refine sm ?_
          all_goals (refine hR _ ?_; clear hR R))
        all_goals refine qP ?_
        all_goals (
          refine qL_cons ?_
          intro R hR
          refine sm ?_
          have hfl := List.length_filter_le (fun x => !sameB m.old m.one m.two x) (ms.take i)
          simp only [List.length_take] at hfl
          refine ⟨by simp, by omega, ?_⟩
          all_goals (refine hR _ ?_; clear hR R))
        all_goals refine qP ?_
        all_goals refine qE ?_)
      all_goals first
      | fail_if_success with_reducible refine atR 6 ?_
      | (
        refine rg 6 [] [some 16, some 17, some 7] 3 ?_
        all_goals refine qP ?_
        all_goals (
          refine qL_cons ?_
          intro R hR
          refine sm ?_
          rw [wrap64 (by omega) (by omega)]
          all_goals (refine hR _ ?_; clear hR R))
        all_goals refine qP ?_
        all_goals refine qE ?_)
      all_goals first
      | fail_if_success with_reducible refine ⟨i + 1, ?_, ?_, ?_⟩
      | (
        have hsk : sameB m.old m.one m.two x = true := hc29
        (
          refine ⟨i + 1, ?_, ?_, ?_⟩
          · omega
          · omega
          · refine Vw.to [] _ _ (fun n hn => absurd (hU n hn) (by omega)) ?_ ?_ (by simp [tauL])
            · refine vd (vx (vw_x ?_ rfl (vw_d ?_ trivial)))
              · refine sm2 ?_
                rw [filt_take hx]
                simp [tauL, X.ren, hsk]
              · refine sm2 ?_
                congr 1
            · refine ⟨⟨by simp, rfl, cl3⟩, ⟨by simp, rfl, ?_⟩, trivial⟩
              refine sm3 ?_
              rw [filt_take hx]
              simp [tauL, Cap.ren, mX, strs, D.of, hsk]))
      | (
          refine ⟨i + 1, ?_, ?_, ?_⟩
          · omega
          · omega
          · refine Vw.to [(7, 33)] _ _ (fun n hn => absurd (hU n hn) (by omega)) ?_ ?_ (by simp [tauL])
            · refine vd (vx (vw_x ?_ rfl (vw_d ?_ trivial)))
              · refine sm2 ?_
                rw [filt_take hx]
                simp [tauL, X.ren, hc29]
              · refine sm2 ?_
                congr 1
            · refine ⟨⟨by simp, rfl, cl3⟩, ⟨by simp, rfl, ?_⟩, trivial⟩
              refine sm3 ?_
              rw [filt_take hx]
              simp [tauL, Cap.ren, mX, strs, D.of, hc29])
      all_goals first
      | fail_if_success with_reducible refine atR 9 ?_
      | (
        refine rg 9 [3] [some 38, some 39, some 40, some 41, some 42, some 6] 6 ?_
        all_goals iterate 2 refine qP ?_
        all_goals (
          refine qL_cons ?_
          intro R hR
          refine sm ?_
          refine call_fun (l18Copy_spec m hm) [] ?_ (.inl rfl) ?_
          · exact ⟨.inl rfl, trivial⟩
          refine sm ?_
          all_goals (refine hR _ ?_; clear hR R))
        all_goals refine qP ?_
        all_goals (
          refine qL_cons ?_
          intro R hR
          refine sm ?_
          have hfl := List.length_filter_le (fun x => !sameB m.old m.one m.two x) ms
          refine ⟨by simp, by omega, ?_⟩
          all_goals (refine hR _ ?_; clear hR R))
        all_goals refine qP ?_
        all_goals refine qE ?_)
      all_goals first
      | fail_if_success with_reducible refine atR 10 ?_
      | (
        refine rg 10 [] [some 43, some 44, some 45] 3 ?_
        all_goals refine qP ?_
        all_goals (
          refine qL_cons ?_
          intro R hR
          refine sm ?_
          refine call_fun (l18Ok_spec (mgM ms m)) [18] ?_ (.inr rfl) ?_
          · exact ⟨.inr (lend_of (ty := 34) (by simp) (by simp) (by refine sm ?_; simp [mgM, mX, strs, D.of]) (by simp [mgM])), trivial⟩
          refine sm ?_
          all_goals (refine hR _ ?_; clear hR R))
        all_goals refine qP ?_
        all_goals refine qE ?_)
      all_goals first
      | fail_if_success with_reducible refine atC 45 ?_
      | (
        refine cn 45 ?_ ?_ <;> intro hc45 <;> try (cases hc45; done)
        all_goals refine st ?_)
      all_goals first
      | fail_if_success with_reducible refine atR 11 ?_
      | (
        refine rg 11 [] [some 46, some 47, some 4, some 5] 4 ?_
        all_goals refine qP ?_
        all_goals (
          refine qL_cons ?_
          intro R hR
          refine sm ?_
          refine call_row (l18All_row ms (mmB_sm h) (by omega)) [] ?_ (.inl rfl) ?_
          · exact ⟨.inl rfl, trivial⟩
          refine sm ?_
          all_goals (refine hR _ ?_; clear hR R))
        all_goals iterate 2 refine qP ?_
        all_goals refine qE ?_)
      all_goals first
      | fail_if_success with_reducible refine atR 12 ?_
      | (
        refine rg 12 [] [some 48, some 4, some 5] 3 ?_
        all_goals iterate 3 refine qP ?_
        all_goals refine qE ?_)
      all_goals first
      | (
          have hB : mmB (mgM ms m) = true := by simp_all
          have hR : resM ms m = mgM ms m := by simp [resM, hB]
          simp only [mpX, hR, hB]
          refine ret_row [.vec 0 4 0 (mgM ms m).length, .d (.bool true)] (Vw.to (g' := 1) [(0, 18)] [(4, .vec 0 4 0 (mgM ms m).length), (5, .d (.bool true))] [(0, .vec 34 4 ((mgM ms m).map mX))] (fun n hn => absurd (hU n hn) (by omega)) (vw_x ?_ rfl (vd trivial)) ⟨⟨by omega, rfl, ?_⟩, trivial⟩ (by simp [tauL])) cl ⟨cl, cl, trivial⟩ rfl rfl
          · first
            | exact cl2
            | (
              refine sm2 ?_
              simp [mgM])
          · first
            | exact cl3
            | (
              refine sm3 ?_
              simp [mgM, mX, strs, D.of, Cap.ren]))
      | (
          have hB : mmB (mgM ms m) = false := by simp_all
          have hR : resM ms m = ms := by simp [resM, hB]
          simp only [mpX, hR, hB]
          refine ret_row [.vec 0 4 0 (ms).length, .d (.bool false)] (Vw.to (g' := 1) [(0, 24)] [(4, .vec 0 4 0 (ms).length), (5, .d (.bool false))] [(0, .vec 34 4 ((ms).map mX))] (fun n hn => absurd (hU n hn) (by omega)) (vw_x ?_ rfl (vd trivial)) ⟨⟨by omega, rfl, ?_⟩, trivial⟩ (by simp [tauL])) cl ⟨cl, cl, trivial⟩ rfl rfl
          · first
            | exact cl2
            | (
              refine sm2 ?_
              simp [mgM])
          · first
            | exact cl3
            | (
              refine sm3 ?_
              simp [mgM, mX, strs, D.of, Cap.ren])))
  all_goals first
  | (
      have hB : mmB (mgM ms m) = true := by simp_all
      have hR : resM ms m = mgM ms m := by simp [resM, hB]
      simp only [mpX, hR, hB]
      refine ret_row [.vec 0 4 0 (mgM ms m).length, .d (.bool true)] (Vw.to (g' := 1) [(0, 18)] [(4, .vec 0 4 0 (mgM ms m).length), (5, .d (.bool true))] [(0, .vec 34 4 ((mgM ms m).map mX))] (fun n hn => absurd (hU n hn) (by omega)) (vw_x ?_ rfl (vd trivial)) ⟨⟨by omega, rfl, ?_⟩, trivial⟩ (by simp [tauL])) cl ⟨cl, cl, trivial⟩ rfl rfl
      · first
        | exact cl2
        | (
          refine sm2 ?_
          simp [mgM])
      · first
        | exact cl3
        | (
          refine sm3 ?_
          simp [mgM, mX, strs, D.of, Cap.ren]))
  | (
      have hB : mmB (mgM ms m) = false := by simp_all
      have hR : resM ms m = ms := by simp [resM, hB]
      simp only [mpX, hR, hB]
      refine ret_row [.vec 0 4 0 (ms).length, .d (.bool false)] (Vw.to (g' := 1) [(0, 24)] [(4, .vec 0 4 0 (ms).length), (5, .d (.bool false))] [(0, .vec 34 4 ((ms).map mX))] (fun n hn => absurd (hU n hn) (by omega)) (vw_x ?_ rfl (vd trivial)) ⟨⟨by omega, rfl, ?_⟩, trivial⟩ (by simp [tauL])) cl ⟨cl, cl, trivial⟩ rfl rfl
      · first
        | exact cl2
        | (
          refine sm2 ?_
          simp [mgM])
      · first
        | exact cl3
        | (
          refine sm3 ?_
          simp [mgM, mX, strs, D.of, Cap.ren]))

end
section
attribute [local go_sem] tsz9 tsz22 tsz34 tfld34 tel22 tel32 toNat_cast und9 zero34 tz9l iz9 tz34l iz34 aDst aSrc sS MMx caps1
theorem specMemoPut_own (ms : List Mm) (m : Mm) (h : mmB ms = true) (hm : smM m) : Spec Try.prog 15 [.vec 0 4 0 ms.length, .ag [.d (strs m.old), .d (strs m.one), .d (strs m.two), .d (strs m.done)]] [(0, .vec 34 4 (ms.map mX))] 1 (fun x δ => x = mpX ms m 1 ∧ δ = [(1, some (.vec 34 4 ((resM ms m).map mX)))]) := by
  refine Spec.of (fn := Try.f15) Try.func15 rfl (by kernel_rfl) (rs := [.tmp 4, .tmp 5]) rfl 2 (by simp [Try.f15]) rfl (by simp [Cap.on, X.onL, X.on]) ?_
  intro hreal
  rintro ⟨P, T, L0, w0, ι0, C0, U0⟩ hP hT hU
  subst hP hT
  refine st ?_
  have hlen := mmB_len h
  all_goals first
  | fail_if_success with_reducible refine atR 0 ?_
  | (
    refine rg 0 [] [some 3, some 4, some 5] 3 ?_
    all_goals iterate 3 refine qP ?_
    all_goals refine qE ?_)
  all_goals first
  | fail_if_success with_reducible refine atR 1 ?_
  | (
    refine rg 1 [] [some 8, some 9, some 10] 3 ?_
    all_goals refine qP ?_
    all_goals (
      refine qL_cons ?_
      intro R hR
      refine sm ?_
      refine call_fun (l18Ok_spec (ms)) [0] ?_ (.inr rfl) ?_
      · exact ⟨.inr (lend_of (by simp) (by simp) cl (by simp)), trivial⟩
      refine sm ?_
      all_goals (refine hR _ ?_; clear hR R))
    all_goals refine qP ?_
    all_goals refine qE ?_)
  all_goals first
  | fail_if_success with_reducible refine atC 10 ?_
  | (
    refine cn 10 ?_ ?_ <;> intro hc10 <;> try (cases hc10; done)
    all_goals refine st ?_)
  all_goals try (simp [h] at hc10; done)
  all_goals first
  | fail_if_success with_reducible refine atR 2 ?_
  | (
    refine rg 2 [] [some 4, some 5] 2 ?_
    all_goals iterate 2 refine qP ?_
    all_goals refine qE ?_)
  all_goals first
  | fail_if_success with_reducible refine atR 3 ?_
  | (
    refine rg 3 [] [some 11, some 6] 2 ?_
    all_goals iterate 2 refine qP ?_
    all_goals refine qE ?_)
  all_goals first
  | fail_if_success with_reducible refine atR 4 ?_
  | (
    refine rg 4 [] [some 7] 1 ?_
    all_goals refine qP ?_
    all_goals refine qE ?_)
  all_goals first
  | fail_if_success with_reducible refine AW.rounds (α := Nat) ?_ ?_ ?_ ?_ ?_ ?_ ?_ ?_
  | (
    refine AW.rounds (α := Nat) (fun i => i ≤ ms.length) (fun i => St.by [(0, .vec 0 4 0 ms.length), (3, .bx 2 0), (6, .vec 8 4 0 ((ms.take i).filter (fun x => !sameB m.old m.one m.two x)).length), (7, .d (.int .i64 i))] [(0, .vec 34 4 (ms.map mX)), (2, .box 34 [.d (strs m.old), .d (strs m.one), .d (strs m.two), .d (strs m.done)]), (8, .vec 34 4 (((ms.take i).filter (fun x => !sameB m.old m.one m.two x)).map mX))]) (fun i => ms.length - i) 11 0 ?_ ?_ ?_
    · omega
    · refine Vw.to [] _ _ (vU hU) ?_ ?_ (by simp [tauL])
      · refine vx (vx (vx (vw_d ?_ (trivial))))
        · first
          | exact cl2
          | (
            refine sm2 ?_
            all_goals (
             rfl))
      · refine ⟨⟨by simp, rfl, cl3⟩, ⟨by simp, rfl, cl3⟩, ⟨by simp, rfl, ?_⟩, trivial⟩
        refine sm3 ?_
        try simp
    · intro i hJ
      refine st ?_
      all_goals first
      | fail_if_success with_reducible refine atR 5 ?_
      | (
        refine rg 5 [] [some 12, some 13, some 14, some 15] 4 ?_
        all_goals iterate 4 refine qP ?_
        all_goals refine qE ?_)
      all_goals first
      | fail_if_success with_reducible refine atC 15 ?_
      | (
        refine cn 15 ?_ ?_ <;> intro hc15 <;> try (cases hc15; done)
        all_goals refine st ?_)
      all_goals try (
        have hii : i = ms.length := by omega
        subst hii
        rw [List.take_length])
      all_goals first
      | fail_if_success with_reducible refine atR 7 ?_
      | (
        refine rgD 7 [] [some 18, some 19, some 20, some 21, some 22, some 23, some 24, some 25, some 26, some 27, some 28, some 29] 12 13 ?_
        intro av hav
        have hf2 := freeD 2 hav
        have hf0 := freeD 0 hav
        all_goals iterate 2 refine qP ?_
        all_goals (
          refine qL_cons ?_
          intro R hR
          simp only [go_sem, reduceIte, reduceCtorEq, Nat.reduceAdd, Nat.reduceEqDiff, Nat.reduceLeDiff, Nat.reduceLT, Nat.reduceSub, Int.reduceLE, Int.reduceNeg, Int.reduceLT, hf2, hf0]
          refine ⟨⟨by omega, by omega⟩, ?_⟩
          all_goals (refine hR _ ?_; clear hR R))
        all_goals (
          refine qL_cons ?_
          intro R hR
          simp only [go_sem, reduceIte, reduceCtorEq, Nat.reduceAdd, Nat.reduceEqDiff, Nat.reduceLeDiff, Nat.reduceLT, Nat.reduceSub, Int.reduceLE, Int.reduceNeg, Int.reduceLT, hf2, hf0]
          refine ⟨by omega, ?_⟩
          intro x hx
          simp only [go_sem, reduceIte, reduceCtorEq, Nat.reduceAdd, Nat.reduceEqDiff, Nat.reduceLeDiff, Nat.reduceLT, Nat.reduceSub, Int.reduceLE, Int.reduceNeg, Int.reduceLT, hf2, hf0, mX]
          all_goals (refine hR _ ?_; clear hR R))
        all_goals refine qP ?_
        all_goals (
          refine qL_cons ?_
          intro R hR
          simp only [go_sem, reduceIte, reduceCtorEq, Nat.reduceAdd, Nat.reduceEqDiff, Nat.reduceLeDiff, Nat.reduceLT, Nat.reduceSub, Int.reduceLE, Int.reduceNeg, Int.reduceLT, hf2, hf0]
          all_goals (refine hR _ ?_; clear hR R))
        all_goals refine qP ?_
        all_goals (
          refine qL_cons ?_
          intro R hR
          simp only [go_sem, reduceIte, reduceCtorEq, Nat.reduceAdd, Nat.reduceEqDiff, Nat.reduceLeDiff, Nat.reduceLT, Nat.reduceSub, Int.reduceLE, Int.reduceNeg, Int.reduceLT, hf2, hf0]
          all_goals (refine hR _ ?_; clear hR R))
        all_goals refine qP ?_
        all_goals (
          refine qL_cons ?_
          intro R hR
          simp only [go_sem, reduceIte, reduceCtorEq, Nat.reduceAdd, Nat.reduceEqDiff, Nat.reduceLeDiff, Nat.reduceLT, Nat.reduceSub, Int.reduceLE, Int.reduceNeg, Int.reduceLT, hf2, hf0]
          all_goals (refine hR _ ?_; clear hR R))
        all_goals (
          refine qL_cons ?_
          intro R hR
          simp only [go_sem, reduceIte, reduceCtorEq, Nat.reduceAdd, Nat.reduceEqDiff, Nat.reduceLeDiff, Nat.reduceLT, Nat.reduceSub, Int.reduceLE, Int.reduceNeg, Int.reduceLT, hf2, hf0]
          refine call_fun (l18Same_spec x m.old m.one m.two) [] ?_ (.inl rfl) ?_
          · exact ⟨.inl rfl, ⟨.inl rfl, ⟨.inl rfl, ⟨.inl rfl, trivial⟩⟩⟩⟩
          simp only [go_sem, reduceIte, reduceCtorEq, Nat.reduceAdd, Nat.reduceEqDiff, Nat.reduceLeDiff, Nat.reduceLT, Nat.reduceSub, Int.reduceLE, Int.reduceNeg, Int.reduceLT, hf2, hf0]
          all_goals (refine hR _ ?_; clear hR R))
        all_goals refine qP ?_
        all_goals refine qE ?_
        all_goals clear hf2 hf0 hav av)
      all_goals first
      | fail_if_success with_reducible refine atC 29 ?_
      | (
        refine cn 29 ?_ ?_ <;> intro hc29 <;> try (cases hc29; done)
        all_goals refine st ?_)
      all_goals first
      | fail_if_success with_reducible refine atR 8 ?_
      | (
        refine rg 8 [6] [some 30, some 31, some 32, some 33, some 34, some 35, some 36, some 37, some 6] 9 ?_
        all_goals iterate 3 refine qP ?_
        all_goals (
          refine qL_cons ?_
          intro R hR
          refine sm ?_
          refine ⟨⟨by omega, by omega⟩, ?_⟩
          all_goals (refine hR _ ?_; clear hR R))
        all_goals (
          refine qL_cons ?_
          intro R hR
          refine sm ?_
          refine ⟨by omega, ?_⟩
          intro y hy
          simp only [go_sem, reduceIte, reduceCtorEq, Nat.reduceAdd, Nat.reduceEqDiff, Nat.reduceLeDiff, Nat.reduceLT, Nat.reduceSub, Int.reduceLE, Int.reduceNeg, Int.reduceLT, mX]
          obtain rfl : x = y := Option.some.inj (hx.symm.trans hy)
          all_goals (refine hR _ ?_; clear hR R))
        all_goals (
          refine qL_cons ?_
          intro R hR
          refine sm ?_
          refine call_fun (l18Copy_spec x (mmB_sm h x (List.mem_of_getElem? hx))) [] ?_ (.inl rfl) ?_
          · exact ⟨.inl rfl, trivial⟩
          refine sm ?_
          all_goals (refine hR _ ?_; clear hR R))
        all_goals refine qP ?_
        all_goals (
          refine qL_cons ?_
          intro R hR
          refine sm ?_
          have hfl := List.length_filter_le (fun x => !sameB m.old m.one m.two x) (ms.take i)
          simp only [List.length_take] at hfl
          refine ⟨by simp, by omega, ?_⟩
          all_goals (refine hR _ ?_; clear hR R))
        all_goals refine qP ?_
        all_goals refine qE ?_)
      all_goals first
      | fail_if_success with_reducible refine atR 6 ?_
      | (
        refine rg 6 [] [some 16, some 17, some 7] 3 ?_
        all_goals refine qP ?_
        all_goals (
          refine qL_cons ?_
          intro R hR
          refine sm ?_
          rw [wrap64 (by omega) (by omega)]
          all_goals (refine hR _ ?_; clear hR R))
        all_goals refine qP ?_
        all_goals refine qE ?_)
      all_goals first
      | fail_if_success with_reducible refine ⟨i + 1, ?_, ?_, ?_⟩
      | (
        have hsk : sameB m.old m.one m.two x = true := hc29
        (
          refine ⟨i + 1, ?_, ?_, ?_⟩
          · omega
          · omega
          · refine Vw.to [] _ _ (fun n hn => by have := hU n hn; have h0 : n = 0 := (by omega); subst h0; exact ⟨by decide, rfl⟩) ?_ ?_ (by simp [tauL])
            · refine vx (vx (vw_x ?_ rfl (vw_d ?_ trivial)))
              · refine sm2 ?_
                rw [filt_take hx]
                simp [tauL, X.ren, hsk]
              · refine sm2 ?_
                congr 1
            · refine ⟨⟨by simp, rfl, cl3⟩, ⟨by simp, rfl, cl3⟩, ⟨by simp, rfl, ?_⟩, trivial⟩
              refine sm3 ?_
              rw [filt_take hx]
              simp [tauL, Cap.ren, mX, strs, D.of, hsk]))
      | (
          refine ⟨i + 1, ?_, ?_, ?_⟩
          · omega
          · omega
          · refine Vw.to [(8, 34)] _ _ (fun n hn => by have := hU n hn; have h0 : n = 0 := (by omega); subst h0; exact ⟨by decide, rfl⟩) ?_ ?_ (by simp [tauL])
            · refine vx (vx (vw_x ?_ rfl (vw_d ?_ trivial)))
              · refine sm2 ?_
                rw [filt_take hx]
                simp [tauL, X.ren, hc29]
              · refine sm2 ?_
                congr 1
            · refine ⟨⟨by simp, rfl, cl3⟩, ⟨by simp, rfl, cl3⟩, ⟨by simp, rfl, ?_⟩, trivial⟩
              refine sm3 ?_
              rw [filt_take hx]
              simp [tauL, Cap.ren, mX, strs, D.of, hc29])
      all_goals first
      | fail_if_success with_reducible refine atR 9 ?_
      | (
        refine rg 9 [3] [some 38, some 39, some 40, some 41, some 42, some 6] 6 ?_
        all_goals iterate 2 refine qP ?_
        all_goals (
          refine qL_cons ?_
          intro R hR
          refine sm ?_
          refine call_fun (l18Copy_spec m hm) [] ?_ (.inl rfl) ?_
          · exact ⟨.inl rfl, trivial⟩
          refine sm ?_
          all_goals (refine hR _ ?_; clear hR R))
        all_goals refine qP ?_
        all_goals (
          refine qL_cons ?_
          intro R hR
          refine sm ?_
          have hfl := List.length_filter_le (fun x => !sameB m.old m.one m.two x) ms
          refine ⟨by simp, by omega, ?_⟩
          all_goals (refine hR _ ?_; clear hR R))
        all_goals refine qP ?_
        all_goals refine qE ?_)
      all_goals first
      | fail_if_success with_reducible refine atR 10 ?_
      | (
        refine rg 10 [] [some 43, some 44, some 45] 3 ?_
        all_goals refine qP ?_
        all_goals (
          refine qL_cons ?_
          intro R hR
          refine sm ?_
          refine call_fun (l18Ok_spec (mgM ms m)) [19] ?_ (.inr rfl) ?_
          · exact ⟨.inr (lend_of (ty := 34) (by simp) (by simp) (by refine sm ?_; simp [mgM, mX, strs, D.of]) (by simp [mgM])), trivial⟩
          refine sm ?_
          all_goals (refine hR _ ?_; clear hR R))
        all_goals refine qP ?_
        all_goals refine qE ?_)
      all_goals first
      | fail_if_success with_reducible refine atC 45 ?_
      | (
        refine cn 45 ?_ ?_ <;> intro hc45 <;> try (cases hc45; done)
        all_goals refine st ?_)
      all_goals first
      | fail_if_success with_reducible refine atR 11 ?_
      | (
        refine rg 11 [] [some 46, some 47, some 4, some 5] 4 ?_
        all_goals refine qP ?_
        all_goals (
          refine qL_cons ?_
          intro R hR
          refine sm ?_
          refine call_o (mk := fun m => .vec m 4 0 ms.length) (ty := 34) (k := 4) (es := ms.map mX) (ty' := 34) (k' := 4) (es' := ms.map mX) (l18All_own ms (mmB_sm h) (by omega)) rfl (fun _ => rfl) (a := 0) (by decide) cl trivial (fun h => h) ?_ ?_
          · exact ⟨.inl rfl, trivial⟩
          refine sm ?_
          all_goals (refine hR _ ?_; clear hR R))
        all_goals iterate 2 refine qP ?_
        all_goals refine qE ?_)
      all_goals first
      | fail_if_success with_reducible refine atR 12 ?_
      | (
        refine rg 12 [] [some 48, some 4, some 5] 3 ?_
        all_goals iterate 3 refine qP ?_
        all_goals refine qE ?_)
      all_goals first
      | (
          have hB : mmB (mgM ms m) = true := by simp_all
          have hR : resM ms m = mgM ms m := by simp [resM, hB]
          simp only [mpX, hR, hB]
          refine ret_o [.vec 1 4 0 (mgM ms m).length, .d (.bool true)] (Vw.to (g' := 2) [(1, 19)] [(4, .vec 1 4 0 (mgM ms m).length), (5, .d (.bool true))] [(0, .vec 34 4 (ms.map mX)), (1, .vec 34 4 ((mgM ms m).map mX))] (fun n hn => by have := hU n hn; have h0 : n = 0 := (by omega); subst h0; exact ⟨by decide, rfl⟩) (vw_x ?_ rfl (vd trivial)) ⟨⟨by omega, rfl, cl3⟩, ⟨by omega, rfl, ?_⟩, trivial⟩ (by simp [tauL])) cl cl ⟨cl, cl, trivial⟩ rfl rfl
          · first
            | exact cl2
            | (
              refine sm2 ?_
              simp [mgM])
          · first
            | exact cl3
            | (
              refine sm3 ?_
              simp [mgM, mX, strs, D.of, Cap.ren]))
      | (
          have hB : mmB (mgM ms m) = false := by simp_all
          have hR : resM ms m = ms := by simp [resM, hB]
          simp only [mpX, hR, hB]
          refine ret_o [.vec 1 4 0 (ms).length, .d (.bool false)] (Vw.to (g' := 2) [(1, 25)] [(4, .vec 1 4 0 (ms).length), (5, .d (.bool false))] [(0, .vec 34 4 (ms.map mX)), (1, .vec 34 4 ((ms).map mX))] (fun n hn => by have := hU n hn; have h0 : n = 0 := (by omega); subst h0; exact ⟨by decide, rfl⟩) (vw_x ?_ rfl (vd trivial)) ⟨⟨by omega, rfl, cl3⟩, ⟨by omega, rfl, ?_⟩, trivial⟩ (by simp [tauL])) cl cl ⟨cl, cl, trivial⟩ rfl rfl
          · first
            | exact cl2
            | (
              refine sm2 ?_
              simp [mgM])
          · first
            | exact cl3
            | (
              refine sm3 ?_
              simp [mgM, mX, strs, D.of, Cap.ren])))
  all_goals first
  | (
      have hB : mmB (mgM ms m) = true := by simp_all
      have hR : resM ms m = mgM ms m := by simp [resM, hB]
      simp only [mpX, hR, hB]
      refine ret_o [.vec 1 4 0 (mgM ms m).length, .d (.bool true)] (Vw.to (g' := 2) [(1, 19)] [(4, .vec 1 4 0 (mgM ms m).length), (5, .d (.bool true))] [(0, .vec 34 4 (ms.map mX)), (1, .vec 34 4 ((mgM ms m).map mX))] (fun n hn => by have := hU n hn; have h0 : n = 0 := (by omega); subst h0; exact ⟨by decide, rfl⟩) (vw_x ?_ rfl (vd trivial)) ⟨⟨by omega, rfl, cl3⟩, ⟨by omega, rfl, ?_⟩, trivial⟩ (by simp [tauL])) cl cl ⟨cl, cl, trivial⟩ rfl rfl
      · first
        | exact cl2
        | (
          refine sm2 ?_
          simp [mgM])
      · first
        | exact cl3
        | (
          refine sm3 ?_
          simp [mgM, mX, strs, D.of, Cap.ren]))
  | (
      have hB : mmB (mgM ms m) = false := by simp_all
      have hR : resM ms m = ms := by simp [resM, hB]
      simp only [mpX, hR, hB]
      refine ret_o [.vec 1 4 0 (ms).length, .d (.bool false)] (Vw.to (g' := 2) [(1, 25)] [(4, .vec 1 4 0 (ms).length), (5, .d (.bool false))] [(0, .vec 34 4 (ms.map mX)), (1, .vec 34 4 ((ms).map mX))] (fun n hn => by have := hU n hn; have h0 : n = 0 := (by omega); subst h0; exact ⟨by decide, rfl⟩) (vw_x ?_ rfl (vd trivial)) ⟨⟨by omega, rfl, cl3⟩, ⟨by omega, rfl, ?_⟩, trivial⟩ (by simp [tauL])) cl cl ⟨cl, cl, trivial⟩ rfl rfl
      · first
        | exact cl2
        | (
          refine sm2 ?_
          simp [mgM])
      · first
        | exact cl3
        | (
          refine sm3 ?_
          simp [mgM, mX, strs, D.of, Cap.ren]))

end
end Go.Proofs.Ytmlbdicaeefomaa
namespace Go.Proofs.Ytmlbdicaeefomaa
open Go Go.RowKit
set_option maxRecDepth 100000
set_option maxHeartbeats 4000000
set_option linter.unusedSimpArgs false
set_option linter.unusedVariables false
theorem sm_one {m : Mm} (hm : smM m) : ∀ x ∈ [m], smM x := by intro x hx; simp at hx; subst hx; exact hm
attribute [local go_sem] List.size_toArray Int.toNat_zero Nat.sub_zero size_mk top_val eq_self datL X.dat u8min u8max i64min i64max stepT gdO aop ev lit litOk putF fzX_false putO upd app List.contains_nil List.elem_nil aBin aInt aStr aBool aLen lenTy aBuiltin aLoad aTake aTakeX aStore splice aSlice aBd look_cons look_nil lookC_cons lookC_nil by_s by_C start_s start_C X.cells X.cell List.all_cons List.all_nil Bool.and_self Bool.not_true Bool.not_false false_implies true_implies forall_const and_true true_and and_self implies_true not_false_eq_true Nat.zero_add Nat.add_zero List.getD_cons_zero List.getD_cons_succ List.map_cons List.map_nil Option.bind_some Option.map_some Option.map_none List.getElem?_cons_zero List.getElem?_cons_succ List.length_cons List.length_nil List.drop_zero List.drop_succ_cons List.take_succ_cons List.take_zero List.cons_append List.nil_append List.append_nil D.of List.length_map all_get_map Option.isSome_some and_false false_and Nat.lt_add_one Nat.zero_lt_succ decide_true decide_false aPart aSl2 Nat.lt_irrefl fzX litEs List.contains_cons List.elem_cons Bool.true_or Bool.or_true Bool.false_or Bool.or_false beq_self_eq_true
section
attribute [local go_sem] tsz9 tsz22 tsz34 tfld34 tel22 tel32 toNat_cast und9 zero34 tz9l iz9 tz34l iz34 aDst aSrc sS MMx
theorem implMemoPut_bad (ms : List Mm) (m : Mm) (h : mmB ms = false) : Fun Try.prog 14 [.d (.of mX ms), .ag [.d (strs m.old), .d (strs m.one), .d (strs m.two), .d (strs m.done)]] (.tup [.nil, .d (.bool false)]) := by
  refine Fun.of ?_ rfl rfl
  refine Spec.of (fn := Try.f14) Try.func14 rfl (by kernel_rfl) (rs := [.tmp 4, .tmp 5]) rfl 1 (by simp [Try.f14]) rfl (by simp) ?_
  intro hreal
  rintro ⟨P, T, L0, w0, ι0, C0, U0⟩ hP hT hU
  subst hP hT
  refine st ?_
  all_goals first
  | fail_if_success with_reducible refine atR 0 ?_
  | (
    refine rg 0 [] [some 3, some 4, some 5] 3 ?_
    all_goals iterate 3 refine qP ?_
    all_goals refine qE ?_)
  all_goals first
  | fail_if_success with_reducible refine atR 1 ?_
  | (
    refine rg 1 [] [some 8, some 9, some 10] 3 ?_
    all_goals refine qP ?_
    all_goals (
      refine qL_cons ?_
      intro R hR
      refine sm ?_
      refine call_fun (implMemosOk ms) [] ?_ (.inl rfl) ?_
      · exact ⟨.inl rfl, trivial⟩
      refine sm ?_
      all_goals (refine hR _ ?_; clear hR R))
    all_goals refine qP ?_
    all_goals refine qE ?_)
  all_goals first
  | fail_if_success with_reducible refine atC 10 ?_
  | (
    refine cn 10 ?_ ?_ <;> intro hc10 <;> try (cases hc10; done)
    all_goals refine st ?_)
  all_goals try (simp [h] at hc10; done)
  all_goals first
  | fail_if_success with_reducible refine atR 2 ?_
  | (
    refine rg 2 [] [some 4, some 5] 2 ?_
    all_goals iterate 2 refine qP ?_
    all_goals refine qE ?_)
  all_goals refine ret_dat [.nil, .d (.bool false)] (Vw.refl _ _ _) ⟨cl, cl, trivial⟩ (fun _ => rfl) rfl

end
section
attribute [local go_sem] tsz9 tsz22 tsz34 tfld34 tel22 tel32 toNat_cast und9 zero34 tz9l iz9 tz34l iz34 aDst aSrc sS MMx
theorem implMemoPut_some (ms : List Mm) (m : Mm) (h : mmB ms = true) (hm : smM m) (i : Nat) (hf : ms.findIdx? (sameB m.old m.one m.two) = some i) : FunR Try.prog 14 [.d (.of mX ms), .ag [.d (strs m.old), .d (strs m.one), .d (strs m.two), .d (strs m.done)]] (mpX ms m) (.vec 34 4 ((resM ms m).map mX)) := by
  refine FunR.of ?_ rfl
  refine Spec.of (fn := Try.f14) Try.func14 rfl (by kernel_rfl) (rs := [.tmp 4, .tmp 5]) rfl 1 (by simp [Try.f14]) rfl (by simp) ?_
  intro hreal
  rintro ⟨P, T, L0, w0, ι0, C0, U0⟩ hP hT hU
  subst hP hT
  refine st ?_
  have hlen := mmB_len h
  have hi := (mg_some h hf).2
  all_goals first
  | fail_if_success with_reducible refine atR 0 ?_
  | (
    refine rg 0 [] [some 3, some 4, some 5] 3 ?_
    all_goals iterate 3 refine qP ?_
    all_goals refine qE ?_)
  all_goals first
  | fail_if_success with_reducible refine atR 1 ?_
  | (
    refine rg 1 [] [some 8, some 9, some 10] 3 ?_
    all_goals refine qP ?_
    all_goals (
      refine qL_cons ?_
      intro R hR
      refine sm ?_
      refine call_fun (implMemosOk ms) [] ?_ (.inl rfl) ?_
      · exact ⟨.inl rfl, trivial⟩
      refine sm ?_
      all_goals (refine hR _ ?_; clear hR R))
    all_goals refine qP ?_
    all_goals refine qE ?_)
  all_goals first
  | fail_if_success with_reducible refine atC 10 ?_
  | (
    refine cn 10 ?_ ?_ <;> intro hc10 <;> try (cases hc10; done)
    all_goals refine st ?_)
  all_goals try (simp [h] at hc10; done)
  all_goals first
  | fail_if_success with_reducible refine atR 2 ?_
  | (
    refine rg 2 [] [some 4, some 5] 2 ?_
    all_goals iterate 2 refine qP ?_
    all_goals refine qE ?_)
  all_goals first
  | fail_if_success with_reducible refine atR 3 ?_
  | (
    refine rg 3 [] [some 11, some 12, some 6] 3 ?_
    all_goals refine qP ?_
    all_goals (
      refine qL_cons ?_
      intro R hR
      refine sm ?_
      refine call_row (copyMemos_row ms (mmB_sm h) (by omega)) [] ?_ (.inl rfl) ?_
      · exact ⟨.inl rfl, trivial⟩
      refine sm ?_
      all_goals (refine hR _ ?_; clear hR R))
    all_goals refine qP ?_
    all_goals refine qE ?_)
  all_goals first
  | fail_if_success with_reducible refine atR 4 ?_
  | (
    refine rg 4 [] [some 13, some 14, some 15, some 16, some 17, some 18, some 19, some 20, some 7] 9 ?_
    all_goals iterate 7 refine qP ?_
    all_goals (
      refine qL_cons ?_
      intro R hR
      refine sm ?_
      refine call_fun (memoPlace_spec ms m.old m.one m.two) [8] ?_ (.inr rfl) ?_
      · exact ⟨.inr (lend_of (by simp) (by simp) cl (by simp)), ⟨.inl rfl, ⟨.inl rfl, ⟨.inl rfl, trivial⟩⟩⟩⟩
      refine sm ?_
      rw [idxM_some hf]
      all_goals (refine hR _ ?_; clear hR R))
    all_goals refine qP ?_
    all_goals refine qE ?_)
  all_goals first
  | fail_if_success with_reducible refine atR 5 ?_
  | (
    refine rg 5 [] [some 21, some 22] 2 ?_
    all_goals iterate 2 refine qP ?_
    all_goals refine qE ?_)
  all_goals first
  | fail_if_success with_reducible refine atC 22 ?_
  | (
    refine cn 22 ?_ ?_ <;> intro hc22 <;> try (cases hc22; done)
    all_goals refine st ?_)
  all_goals try (exfalso; omega)
  all_goals first
  | fail_if_success with_reducible refine atR 6 ?_
  | (
    refine rg 6 [] [some 23, some 24, some 25, some 26, some 27, some 6] 6 ?_
    all_goals iterate 3 refine qP ?_
    all_goals (
      refine qL_cons ?_
      intro R hR
      refine sm ?_
      rw [wrap64 (by omega) (by omega)]
      all_goals (refine hR _ ?_; clear hR R))
    all_goals (
      refine qL_cons ?_
      intro R hR
      refine sm ?_
      refine call_mv (Delete_spec ms i (mg_some h hf).2 (by omega)) rfl (a := 8) (by decide) cl trivial (fun h => h) ?_ ?_
      · exact ⟨.inl rfl, .inl rfl, .inl rfl, trivial⟩
      refine sm ?_
      all_goals (refine hR _ ?_; clear hR R))
    all_goals refine qP ?_
    all_goals refine qE ?_)
  all_goals first
  | fail_if_success with_reducible refine atR 7 ?_
  | (
    refine rg 7 [2] [some 28, some 29, some 30, some 31, some 32, some 6] 6 ?_
    all_goals iterate 3 refine qP ?_
    all_goals (
      refine qL_cons ?_
      intro R hR
      refine sm ?_
      refine call_row (copyMemos_row [m] (sm_one hm) (by simp)) [] ?_ (.inl rfl) ?_
      · exact ⟨.inl rfl, trivial⟩
      refine sm ?_
      all_goals (refine hR _ ?_; clear hR R))
    all_goals (
      refine qL_cons ?_
      intro R hR
      refine sm ?_
      refine ⟨by have hev := List.length_eraseIdx_le (ms.map mX) i; simp only [List.length_map] at hev; omega, ?_⟩
      all_goals (refine hR _ ?_; clear hR R))
    all_goals refine qP ?_
    all_goals refine qE ?_)
  all_goals first
  | fail_if_success with_reducible refine atR 8 ?_
  | (
    refine rg 8 [] [some 33, some 34, some 35] 3 ?_
    all_goals refine qP ?_
    all_goals (
      refine qL_cons ?_
      intro R hR
      refine sm ?_
      refine call_fun (implMemosOk (mgM ms m)) [31] ?_ (.inr rfl) ?_
      · exact ⟨.inr (lend_of (ty := 34) (by simp) (by simp) (by refine sm ?_; simp [← (mg_some h hf).1, map_erase, mX]) (by simp [← (mg_some h hf).1, map_erase])), trivial⟩
      refine sm ?_
      all_goals (refine hR _ ?_; clear hR R))
    all_goals refine qP ?_
    all_goals refine qE ?_)
  all_goals first
  | fail_if_success with_reducible refine atC 35 ?_
  | (
    refine cn 35 ?_ ?_ <;> intro hc35 <;> try (cases hc35; done)
    all_goals refine st ?_)
  all_goals first
  | fail_if_success with_reducible refine atR 9 ?_
  | (
    refine rg 9 [] [some 36, some 37, some 4, some 5] 4 ?_
    all_goals refine qP ?_
    all_goals (
      refine qL_cons ?_
      intro R hR
      refine sm ?_
      refine call_row (copyMemos_row ms (mmB_sm h) (by omega)) [] ?_ (.inl rfl) ?_
      · exact ⟨.inl rfl, trivial⟩
      refine sm ?_
      all_goals (refine hR _ ?_; clear hR R))
    all_goals iterate 2 refine qP ?_
    all_goals refine qE ?_)
  all_goals first
  | fail_if_success with_reducible refine atR 10 ?_
  | (
    refine rg 10 [] [some 38, some 4, some 5] 3 ?_
    all_goals iterate 3 refine qP ?_
    all_goals refine qE ?_)
  all_goals first
  | (
      have hB : mmB (mgM ms m) = true := by simp_all
      have hR : resM ms m = mgM ms m := by simp [resM, hB]
      simp only [mpX, hR, hB]
      refine ret_row [.vec 0 4 0 (mgM ms m).length, .d (.bool true)] (Vw.to (g' := 1) [(0, 31)] [(4, .vec 0 4 0 (mgM ms m).length), (5, .d (.bool true))] [(0, .vec 34 4 ((mgM ms m).map mX))] (fun n hn => absurd (hU n hn) (by omega)) (vw_x ?_ rfl (vd trivial)) ⟨⟨by omega, rfl, ?_⟩, trivial⟩ (by simp [tauL])) cl ⟨cl, cl, trivial⟩ rfl rfl
      · first
        | exact cl2
        | (
          refine sm2 ?_
          simp [← (mg_some h hf).1, map_erase])
      · first
        | exact cl3
        | (
          refine sm3 ?_
          simp [← (mg_some h hf).1, map_erase, mX]))
  | (
      have hB : mmB (mgM ms m) = false := by simp_all
      have hR : resM ms m = ms := by simp [resM, hB]
      simp only [mpX, hR, hB]
      refine ret_row [.vec 0 4 0 (ms).length, .d (.bool false)] (Vw.to (g' := 1) [(0, 37)] [(4, .vec 0 4 0 (ms).length), (5, .d (.bool false))] [(0, .vec 34 4 ((ms).map mX))] (fun n hn => absurd (hU n hn) (by omega)) (vw_x ?_ rfl (vd trivial)) ⟨⟨by omega, rfl, ?_⟩, trivial⟩ (by simp [tauL])) cl ⟨cl, cl, trivial⟩ rfl rfl
      · first
        | exact cl2
        | (
          refine sm2 ?_
          simp)
      · first
        | exact cl3
        | (
          refine sm3 ?_
          simp))

end
section
attribute [local go_sem] tsz9 tsz22 tsz34 tfld34 tel22 tel32 toNat_cast und9 zero34 tz9l iz9 tz34l iz34 aDst aSrc sS MMx
theorem implMemoPut_none (ms : List Mm) (m : Mm) (h : mmB ms = true) (hm : smM m) (hf : ms.findIdx? (sameB m.old m.one m.two) = none) : FunR Try.prog 14 [.d (.of mX ms), .ag [.d (strs m.old), .d (strs m.one), .d (strs m.two), .d (strs m.done)]] (mpX ms m) (.vec 34 4 ((resM ms m).map mX)) := by
  refine FunR.of ?_ rfl
  refine Spec.of (fn := Try.f14) Try.func14 rfl (by kernel_rfl) (rs := [.tmp 4, .tmp 5]) rfl 1 (by simp [Try.f14]) rfl (by simp) ?_
  intro hreal
  rintro ⟨P, T, L0, w0, ι0, C0, U0⟩ hP hT hU
  subst hP hT
  refine st ?_
  have hlen := mmB_len h
  all_goals first
  | fail_if_success with_reducible refine atR 0 ?_
  | (
    refine rg 0 [] [some 3, some 4, some 5] 3 ?_
    all_goals iterate 3 refine qP ?_
    all_goals refine qE ?_)
  all_goals first
  | fail_if_success with_reducible refine atR 1 ?_
  | (
    refine rg 1 [] [some 8, some 9, some 10] 3 ?_
    all_goals refine qP ?_
    all_goals (
      refine qL_cons ?_
      intro R hR
      refine sm ?_
      refine call_fun (implMemosOk ms) [] ?_ (.inl rfl) ?_
      · exact ⟨.inl rfl, trivial⟩
      refine sm ?_
      all_goals (refine hR _ ?_; clear hR R))
    all_goals refine qP ?_
    all_goals refine qE ?_)
  all_goals first
  | fail_if_success with_reducible refine atC 10 ?_
  | (
    refine cn 10 ?_ ?_ <;> intro hc10 <;> try (cases hc10; done)
    all_goals refine st ?_)
  all_goals try (simp [h] at hc10; done)
  all_goals first
  | fail_if_success with_reducible refine atR 2 ?_
  | (
    refine rg 2 [] [some 4, some 5] 2 ?_
    all_goals iterate 2 refine qP ?_
    all_goals refine qE ?_)
  all_goals first
  | fail_if_success with_reducible refine atR 3 ?_
  | (
    refine rg 3 [] [some 11, some 12, some 6] 3 ?_
    all_goals refine qP ?_
    all_goals (
      refine qL_cons ?_
      intro R hR
      refine sm ?_
      refine call_row (copyMemos_row ms (mmB_sm h) (by omega)) [] ?_ (.inl rfl) ?_
      · exact ⟨.inl rfl, trivial⟩
      refine sm ?_
      all_goals (refine hR _ ?_; clear hR R))
    all_goals refine qP ?_
    all_goals refine qE ?_)
  all_goals first
  | fail_if_success with_reducible refine atR 4 ?_
  | (
    refine rg 4 [] [some 13, some 14, some 15, some 16, some 17, some 18, some 19, some 20, some 7] 9 ?_
    all_goals iterate 7 refine qP ?_
    all_goals (
      refine qL_cons ?_
      intro R hR
      refine sm ?_
      refine call_fun (memoPlace_spec ms m.old m.one m.two) [8] ?_ (.inr rfl) ?_
      · exact ⟨.inr (lend_of (by simp) (by simp) cl (by simp)), ⟨.inl rfl, ⟨.inl rfl, ⟨.inl rfl, trivial⟩⟩⟩⟩
      refine sm ?_
      rw [idxM_none hf]
      all_goals (refine hR _ ?_; clear hR R))
    all_goals refine qP ?_
    all_goals refine qE ?_)
  all_goals first
  | fail_if_success with_reducible refine atR 5 ?_
  | (
    refine rg 5 [] [some 21, some 22] 2 ?_
    all_goals iterate 2 refine qP ?_
    all_goals refine qE ?_)
  all_goals first
  | fail_if_success with_reducible refine atC 22 ?_
  | (
    refine cn 22 ?_ ?_ <;> intro hc22 <;> try (cases hc22; done)
    all_goals refine st ?_)
  all_goals try (exfalso; omega)
  all_goals first
  | fail_if_success with_reducible refine atR 6 ?_
  | (
    refine rg 6 [] [some 23, some 24, some 25, some 26, some 27, some 6] 6 ?_
    all_goals iterate 3 refine qP ?_
    all_goals (
      refine qL_cons ?_
      intro R hR
      refine sm ?_
      rw [wrap64 (by omega) (by omega)]
      all_goals (refine hR _ ?_; clear hR R))
    all_goals (
      refine qL_cons ?_
      intro R hR
      refine sm ?_
      refine call_mv (Delete_spec ms i (mg_some h hf).2 (by omega)) rfl (a := 8) (by decide) cl trivial (fun h => h) ?_ ?_
      · exact ⟨.inl rfl, .inl rfl, .inl rfl, trivial⟩
      refine sm ?_
      all_goals (refine hR _ ?_; clear hR R))
    all_goals refine qP ?_
    all_goals refine qE ?_)
  all_goals first
  | fail_if_success with_reducible refine atR 7 ?_
  | (
    refine rg 7 [2] [some 28, some 29, some 30, some 31, some 32, some 6] 6 ?_
    all_goals iterate 3 refine qP ?_
    all_goals (
      refine qL_cons ?_
      intro R hR
      refine sm ?_
      refine call_row (copyMemos_row [m] (sm_one hm) (by simp)) [] ?_ (.inl rfl) ?_
      · exact ⟨.inl rfl, trivial⟩
      refine sm ?_
      all_goals (refine hR _ ?_; clear hR R))
    all_goals (
      refine qL_cons ?_
      intro R hR
      refine sm ?_
      refine ⟨by omega, ?_⟩
      all_goals (refine hR _ ?_; clear hR R))
    all_goals refine qP ?_
    all_goals refine qE ?_)
  all_goals first
  | fail_if_success with_reducible refine atR 8 ?_
  | (
    refine rg 8 [] [some 33, some 34, some 35] 3 ?_
    all_goals refine qP ?_
    all_goals (
      refine qL_cons ?_
      intro R hR
      refine sm ?_
      refine call_fun (implMemosOk (mgM ms m)) [25] ?_ (.inr rfl) ?_
      · exact ⟨.inr (lend_of (ty := 34) (by simp) (by simp) (by refine sm ?_; simp [← mg_none hf, mX]) (by simp [← mg_none hf])), trivial⟩
      refine sm ?_
      all_goals (refine hR _ ?_; clear hR R))
    all_goals refine qP ?_
    all_goals refine qE ?_)
  all_goals first
  | fail_if_success with_reducible refine atC 35 ?_
  | (
    refine cn 35 ?_ ?_ <;> intro hc35 <;> try (cases hc35; done)
    all_goals refine st ?_)
  all_goals first
  | fail_if_success with_reducible refine atR 9 ?_
  | (
    refine rg 9 [] [some 36, some 37, some 4, some 5] 4 ?_
    all_goals refine qP ?_
    all_goals (
      refine qL_cons ?_
      intro R hR
      refine sm ?_
      refine call_row (copyMemos_row ms (mmB_sm h) (by omega)) [] ?_ (.inl rfl) ?_
      · exact ⟨.inl rfl, trivial⟩
      refine sm ?_
      all_goals (refine hR _ ?_; clear hR R))
    all_goals iterate 2 refine qP ?_
    all_goals refine qE ?_)
  all_goals first
  | fail_if_success with_reducible refine atR 10 ?_
  | (
    refine rg 10 [] [some 38, some 4, some 5] 3 ?_
    all_goals iterate 3 refine qP ?_
    all_goals refine qE ?_)
  all_goals first
  | (
      have hB : mmB (mgM ms m) = true := by simp_all
      have hR : resM ms m = mgM ms m := by simp [resM, hB]
      simp only [mpX, hR, hB]
      refine ret_row [.vec 0 4 0 (mgM ms m).length, .d (.bool true)] (Vw.to (g' := 1) [(0, 25)] [(4, .vec 0 4 0 (mgM ms m).length), (5, .d (.bool true))] [(0, .vec 34 4 ((mgM ms m).map mX))] (fun n hn => absurd (hU n hn) (by omega)) (vw_x ?_ rfl (vd trivial)) ⟨⟨by omega, rfl, ?_⟩, trivial⟩ (by simp [tauL])) cl ⟨cl, cl, trivial⟩ rfl rfl
      · first
        | exact cl2
        | (
          refine sm2 ?_
          simp [← mg_none hf])
      · first
        | exact cl3
        | (
          refine sm3 ?_
          simp [← mg_none hf, mX]))
  | (
      have hB : mmB (mgM ms m) = false := by simp_all
      have hR : resM ms m = ms := by simp [resM, hB]
      simp only [mpX, hR, hB]
      refine ret_row [.vec 0 4 0 (ms).length, .d (.bool false)] (Vw.to (g' := 1) [(0, 31)] [(4, .vec 0 4 0 (ms).length), (5, .d (.bool false))] [(0, .vec 34 4 ((ms).map mX))] (fun n hn => absurd (hU n hn) (by omega)) (vw_x ?_ rfl (vd trivial)) ⟨⟨by omega, rfl, ?_⟩, trivial⟩ (by simp [tauL])) cl ⟨cl, cl, trivial⟩ rfl rfl
      · first
        | exact cl2
        | (
          refine sm2 ?_
          simp)
      · first
        | exact cl3
        | (
          refine sm3 ?_
          simp))

/-- MemoPut of the code, over data. -/
def mpD (ms : List Mm) (m : Mm) : X := .tup [.d (.of mX (if mmB ms then resM ms m else [])), .d (.bool (mmB ms && mmB (mgM ms m)))]
theorem frz_mp (ms : List Mm) (m : Mm) (h : mmB ms = true) : (mpX ms m 0).frz 0 4 ((resM ms m).map mX) = mpD ms m := by
  simp [mpX, X.frz, X.frzL, mpD, h, D.of]
theorem implMemoPut_row (ms : List Mm) (m : Mm) (h : mmB ms = true) (hm : smM m) : FunR Try.prog 14 [.d (.of mX ms), MMx m] (mpX ms m) (.vec 34 4 ((resM ms m).map mX)) := by
  cases hf : ms.findIdx? (sameB m.old m.one m.two) with
  | some i => exact implMemoPut_some ms m h hm i hf
  | none => exact implMemoPut_none ms m h hm hf
theorem implMemoPut (ms : List Mm) (m : Mm) (hm : smM m) : Fun Try.prog 14 [.d (.of mX ms), MMx m] (mpD ms m) := by
  cases h : mmB ms with
  | true => exact (implMemoPut_row ms m h hm).dat rfl (frz_mp ms m h) rfl
  | false =>
    have : Fun Try.prog 14 [.d (.of mX ms), MMx m] _ := (implMemoPut_bad ms m h).nn (y' := .tup [.d (.of mX []), .d (.bool false)]) rfl
    simpa [mpD, h] using this
theorem specMemoPut (ms : List Mm) (m : Mm) (hm : smM m) : Fun Try.prog 15 [.d (.of mX ms), MMx m] (mpD ms m) := by
  cases h : mmB ms with
  | true => exact (specMemoPut_row ms m h hm).dat rfl (frz_mp ms m h) rfl
  | false =>
    have : Fun Try.prog 15 [.d (.of mX ms), MMx m] _ := (specMemoPut_bad ms m h).nn (y' := .tup [.d (.of mX []), .d (.bool false)]) rfl
    simpa [mpD, h] using this
end
end Go.Proofs.Ytmlbdicaeefomaa
