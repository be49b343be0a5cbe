/- the program MemosOk; the reference MemosOk. No condition. -/
import Derived.Test.YtmlbdicaeefomaaE20
namespace Go.Proofs.Ytmlbdicaeefomaa
open Go Go.RowKit
set_option maxRecDepth 100000
set_option linter.unusedSimpArgs false
set_option linter.unusedVariables false
theorem zero34 : tzero Try.prog 34 = some [.nil, .nil, .nil, .nil] := by kernel_rfl
def okM (ms : List Mm) (i : Nat) : Bool := match ms[i]? with
  | some m => txB m.old && txB m.one && txB m.two && txB m.done && !decide (m.one = m.two) && !((ms.take i).any (sameB m.old m.one m.two))
  | none => true
def mmB (ms : List Mm) : Bool := (List.range ms.length).all (okM ms) && decide ((ms.length : Int) ≤ 5)
theorem mm_end {ms : List Mm} {i : Nat} (h : ∀ j, j < i → okM ms j = true) (hi : ms.length ≤ i) : decide ((ms.length : Int) ≤ 5) = mmB ms := by
  have : (List.range ms.length).all (okM ms) = true := by
    rw [List.all_eq_true]
    intro j hj
    exact h j (by have := List.mem_range.1 hj; omega)
  simp [mmB, this]
theorem mm_bad {ms : List Mm} {i : Nat} (hi : i < ms.length) (h : okM ms i = false) : false = mmB ms := by
  have : (List.range ms.length).all (okM ms) = false := by
    rw [List.all_eq_false]
    exact ⟨i, List.mem_range.2 hi, by simp [h]⟩
  simp [mmB, this]
theorem mX_len (ms : List Mm) : ∀ x ∈ ms.map mX, x.length = 4 := by
  intro x hx
  obtain ⟨s, -, rfl⟩ := List.mem_map.1 hx
  rfl
attribute [local go_sem] List.size_toArray Int.toNat_zero Nat.sub_zero size_mk top_val eq_self datL X.dat u8min u8max i64min i64max stepT gdO aop ev lit litOk putF fzX_false putO upd app List.contains_nil List.elem_nil aBin aInt aStr aBool aLen lenTy aBuiltin aLoad aTake aTakeX aStore splice aSlice aBd look_cons look_nil lookC_cons lookC_nil by_s by_C start_s start_C X.cells X.cell List.all_cons List.all_nil Bool.and_self Bool.not_true Bool.not_false false_implies true_implies forall_const and_true true_and and_self implies_true not_false_eq_true Nat.zero_add Nat.add_zero List.getD_cons_zero List.getD_cons_succ List.map_cons List.map_nil Option.bind_some Option.map_some Option.map_none List.getElem?_cons_zero List.getElem?_cons_succ List.length_cons List.length_nil List.drop_zero List.drop_succ_cons List.take_succ_cons List.take_zero List.cons_append List.nil_append List.append_nil D.of List.length_map all_get_map Option.isSome_some and_false false_and Nat.lt_add_one Nat.zero_lt_succ decide_true decide_false aPart Nat.lt_irrefl fzX litEs List.contains_cons List.elem_cons Bool.true_or Bool.or_true Bool.false_or Bool.or_false beq_self_eq_true
section
attribute [local go_sem] tsz9 tsz22 tsz34 tfld34 tel22 tel32 toNat_cast und9 zero34
theorem implMemosOk (ms : List Mm) : Fun Try.prog 17 [.d (.of mX ms)] (.d (.bool (mmB ms))) := by
  refine Fun.of ?_ rfl rfl
  refine Spec.of (fn := Try.f17) Try.func17 rfl (by kernel_rfl) (rs := [.tmp 2]) rfl 1 (by simp [Try.f17]) rfl (by simp) ?_
  intro hreal
  rintro ⟨P, T, L0, w0, ι0, C0, U0⟩ hP hT hU
  subst hP hT
  refine st ?_
  have hlen : ms.length ≤ 9223372036854775807 := by simpa using D.real_len (X.real_d (hreal (.d (.of mX ms)) (by simp)) : D.real (.sl (ms.map mX)))
  all_goals first
  | fail_if_success with_reducible refine atR 0 ?_
  | (
    refine rg 0 [] [some 2] 1 ?_
    all_goals refine qP ?_
    all_goals refine qE ?_)
  all_goals first
  | fail_if_success with_reducible refine atR 1 ?_
  | (
    refine rg 1 [] [some 5, some 6, some 7] 3 ?_
    all_goals iterate 3 refine qP ?_
    all_goals refine qE ?_)
  all_goals first
  | fail_if_success with_reducible refine AW.rounds (α := Nat) ?_ ?_ ?_ ?_ ?_ ?_ ?_ ?_
  | (
    refine AW.rounds (α := Nat) (fun i => i ≤ ms.length ∧ ∀ j, j < i → okM ms j = true) (fun i => St.by [(0, .d (.of mX ms)), (5, .d (.of mX ms)), (6, .d (.int .i64 ms.length)), (7, .d (.int .i64 i))] []) (fun i => ms.length - i) 1 0 ?_ ?_ ?_
    · exact ⟨by omega, fun j hj => by omega⟩
    · refine Vw.to [] _ _ (vU hU) ?_ ?_ (by simp [tauL])
      · refine vd (vd (vd (vw_d ?_ (trivial))))
        · first
          | exact cl2
          | (
            refine sm2 ?_
            all_goals (
             rfl))
      · trivial
    · intro i hJ
      refine st ?_
      obtain ⟨hJ1, hJ2⟩ := hJ
      all_goals first
      | fail_if_success with_reducible refine atR 2 ?_
      | (
        refine rg 2 [] [some 8] 1 ?_
        all_goals refine qP ?_
        all_goals refine qE ?_)
      all_goals first
      | fail_if_success with_reducible refine atC 8 ?_
      | (
        refine cn 8 ?_ ?_ <;> intro hc8 <;> try (cases hc8; done)
        all_goals refine st ?_)
      all_goals first
      | fail_if_success with_reducible refine atR 3 ?_
      | (
        refine rg 3 [] [some 9, some 10, some 11, some 4, some 3, none] 6 ?_
        all_goals refine qP ?_
        all_goals (
          refine qL_cons ?_
          intro R hR
          refine sm ?_
          refine ⟨⟨by omega, by omega⟩, ?_⟩
          intro x1 hx1
          simp only [go_sem, reduceIte, reduceCtorEq, Nat.reduceAdd, Nat.reduceEqDiff, Nat.reduceLeDiff, Nat.reduceLT, Nat.reduceSub, Int.reduceLE, Int.reduceNeg, Int.reduceLT, mX]
          all_goals (refine hR _ ?_; clear hR R))
        all_goals iterate 4 refine qP ?_
        all_goals refine qE ?_)
      all_goals first
      | fail_if_success with_reducible refine atR 4 ?_
      | (
        refine rgD 4 [] [some 12, some 13, some 14, some 15, some 16, some 17, some 18, some 19, some 20, some 21, some 22, some 23, some 24, some 25, some 26, some 27, some 28, some 29, some 30, some 31, some 32, some 33, some 34, some 35, some 36, some 37, some 38, some 39, some 40, some 41, some 42, some 43, some 44, some 45] 34 35 ?_
        intro av hav
        have hf5 := freeD 5 hav
        all_goals refine qP ?_
        all_goals (
          refine qL_cons ?_
          intro R hR
          simp only [go_sem, reduceIte, reduceCtorEq, Nat.reduceAdd, Nat.reduceEqDiff, Nat.reduceLeDiff, Nat.reduceLT, Nat.reduceSub, Int.reduceLE, Int.reduceNeg, Int.reduceLT, hf5]
          all_goals (refine hR _ ?_; clear hR R))
        all_goals refine qP ?_
        all_goals (
          refine qL_cons ?_
          intro R hR
          simp only [go_sem, reduceIte, reduceCtorEq, Nat.reduceAdd, Nat.reduceEqDiff, Nat.reduceLeDiff, Nat.reduceLT, Nat.reduceSub, Int.reduceLE, Int.reduceNeg, Int.reduceLT, hf5]
          all_goals (refine hR _ ?_; clear hR R))
        all_goals refine qP ?_
        all_goals (
          refine qL_cons ?_
          intro R hR
          simp only [go_sem, reduceIte, reduceCtorEq, Nat.reduceAdd, Nat.reduceEqDiff, Nat.reduceLeDiff, Nat.reduceLT, Nat.reduceSub, Int.reduceLE, Int.reduceNeg, Int.reduceLT, hf5]
          all_goals (refine hR _ ?_; clear hR R))
        all_goals (
          refine qL_cons ?_
          intro R hR
          simp only [go_sem, reduceIte, reduceCtorEq, Nat.reduceAdd, Nat.reduceEqDiff, Nat.reduceLeDiff, Nat.reduceLT, Nat.reduceSub, Int.reduceLE, Int.reduceNeg, Int.reduceLT, hf5]
          refine call_fun (areTexts_spec x1.old x1.one x1.two) [] ?_ (.inl rfl) ?_
          · exact ⟨.inl rfl, ⟨.inl rfl, ⟨.inl rfl, trivial⟩⟩⟩
          simp only [go_sem, reduceIte, reduceCtorEq, Nat.reduceAdd, Nat.reduceEqDiff, Nat.reduceLeDiff, Nat.reduceLT, Nat.reduceSub, Int.reduceLE, Int.reduceNeg, Int.reduceLT, hf5]
          all_goals (refine hR _ ?_; clear hR R))
        all_goals iterate 2 refine qP ?_
        all_goals first | refine qU 20 ?_ | (refine qS 20 ?_ ?_ <;> intro hg4_8 <;> try (cases hg4_8; done))
        all_goals refine qP ?_
        all_goals first
        | (
          refine qL_cons ?_
          intro R hR
          simp only [go_sem, reduceIte, reduceCtorEq, Nat.reduceAdd, Nat.reduceEqDiff, Nat.reduceLeDiff, Nat.reduceLT, Nat.reduceSub, Int.reduceLE, Int.reduceNeg, Int.reduceLT, hf5]
          refine hR _ ?_
          clear hR R)
        | refine qP ?_
        all_goals first
        | (
          refine qL_cons ?_
          intro R hR
          simp only [go_sem, reduceIte, reduceCtorEq, Nat.reduceAdd, Nat.reduceEqDiff, Nat.reduceLeDiff, Nat.reduceLT, Nat.reduceSub, Int.reduceLE, Int.reduceNeg, Int.reduceLT, hf5]
          refine call_fun (TextOk_spec x1.done) [] ?_ (.inl rfl) ?_
          · exact ⟨.inl rfl, trivial⟩
          simp only [go_sem, reduceIte, reduceCtorEq, Nat.reduceAdd, Nat.reduceEqDiff, Nat.reduceLeDiff, Nat.reduceLT, Nat.reduceSub, Int.reduceLE, Int.reduceNeg, Int.reduceLT, hf5]
          refine hR _ ?_
          clear hR R)
        | refine qP ?_
        all_goals iterate 3 refine qP ?_
        all_goals first | refine qU 26 ?_ | (refine qS 26 ?_ ?_ <;> intro hg4_14 <;> try (cases hg4_14; done))
        all_goals refine qP ?_
        all_goals first
        | (
          refine qL_cons ?_
          intro R hR
          simp only [go_sem, reduceIte, reduceCtorEq, Nat.reduceAdd, Nat.reduceEqDiff, Nat.reduceLeDiff, Nat.reduceLT, Nat.reduceSub, Int.reduceLE, Int.reduceNeg, Int.reduceLT, hf5]
          refine hR _ ?_
          clear hR R)
        | refine qP ?_
        all_goals refine qP ?_
        all_goals first
        | (
          refine qL_cons ?_
          intro R hR
          simp only [go_sem, reduceIte, reduceCtorEq, Nat.reduceAdd, Nat.reduceEqDiff, Nat.reduceLeDiff, Nat.reduceLT, Nat.reduceSub, Int.reduceLE, Int.reduceNeg, Int.reduceLT, hf5]
          refine hR _ ?_
          clear hR R)
        | refine qP ?_
        all_goals first
        | (
          refine qL_cons ?_
          intro R hR
          simp only [go_sem, reduceIte, reduceCtorEq, Nat.reduceAdd, Nat.reduceEqDiff, Nat.reduceLeDiff, Nat.reduceLT, Nat.reduceSub, Int.reduceLE, Int.reduceNeg, Int.reduceLT, hf5]
          refine call_fun (EqualS_spec x1.one x1.two) [] ?_ (.inl rfl) ?_
          · exact ⟨.inl rfl, ⟨.inl rfl, trivial⟩⟩
          simp only [go_sem, reduceIte, reduceCtorEq, Nat.reduceAdd, Nat.reduceEqDiff, Nat.reduceLeDiff, Nat.reduceLT, Nat.reduceSub, Int.reduceLE, Int.reduceNeg, Int.reduceLT, hf5]
          refine hR _ ?_
          clear hR R)
        | refine qP ?_
        all_goals iterate 2 refine qP ?_
        all_goals first | refine qU 33 ?_ | (refine qS 33 ?_ ?_ <;> intro hg4_21 <;> try (cases hg4_21; done))
        all_goals iterate 2 refine qP ?_
        all_goals first
        | (
          refine qL_cons ?_
          intro R hR
          simp only [go_sem, reduceIte, reduceCtorEq, Nat.reduceAdd, Nat.reduceEqDiff, Nat.reduceLeDiff, Nat.reduceLT, Nat.reduceSub, Int.reduceLE, Int.reduceNeg, Int.reduceLT, hf5]
          refine ⟨mX_len _, ⟨by omega, by omega⟩, ?_⟩
          rw [← List.map_take]
          refine hR _ ?_
          clear hR R)
        | refine qP ?_
        all_goals refine qP ?_
        all_goals first
        | (
          refine qL_cons ?_
          intro R hR
          simp only [go_sem, reduceIte, reduceCtorEq, Nat.reduceAdd, Nat.reduceEqDiff, Nat.reduceLeDiff, Nat.reduceLT, Nat.reduceSub, Int.reduceLE, Int.reduceNeg, Int.reduceLT, hf5]
          refine hR _ ?_
          clear hR R)
        | refine qP ?_
        all_goals refine qP ?_
        all_goals first
        | (
          refine qL_cons ?_
          intro R hR
          simp only [go_sem, reduceIte, reduceCtorEq, Nat.reduceAdd, Nat.reduceEqDiff, Nat.reduceLeDiff, Nat.reduceLT, Nat.reduceSub, Int.reduceLE, Int.reduceNeg, Int.reduceLT, hf5]
          refine hR _ ?_
          clear hR R)
        | refine qP ?_
        all_goals refine qP ?_
        all_goals first
        | (
          refine qL_cons ?_
          intro R hR
          simp only [go_sem, reduceIte, reduceCtorEq, Nat.reduceAdd, Nat.reduceEqDiff, Nat.reduceLeDiff, Nat.reduceLT, Nat.reduceSub, Int.reduceLE, Int.reduceNeg, Int.reduceLT, hf5]
          refine hR _ ?_
          clear hR R)
        | refine qP ?_
        all_goals first
        | (
          refine qL_cons ?_
          intro R hR
          simp only [go_sem, reduceIte, reduceCtorEq, Nat.reduceAdd, Nat.reduceEqDiff, Nat.reduceLeDiff, Nat.reduceLT, Nat.reduceSub, Int.reduceLE, Int.reduceNeg, Int.reduceLT, hf5]
          refine call_fun (memoPlace_spec (ms.take i) x1.old x1.one x1.two) [] ?_ (.inl rfl) ?_
          · exact ⟨.inl rfl, ⟨.inl rfl, ⟨.inl rfl, ⟨.inl rfl, trivial⟩⟩⟩⟩
          simp only [go_sem, reduceIte, reduceCtorEq, Nat.reduceAdd, Nat.reduceEqDiff, Nat.reduceLeDiff, Nat.reduceLT, Nat.reduceSub, Int.reduceLE, Int.reduceNeg, Int.reduceLT, hf5]
          refine hR _ ?_
          clear hR R)
        | refine qP ?_
        all_goals iterate 2 refine qP ?_
        all_goals refine qE ?_
        all_goals clear hf5 hav av)
      all_goals first
      | fail_if_success with_reducible refine atC 45 ?_
      | (
        refine cn 45 ?_ ?_ <;> intro hc45 <;> try (cases hc45; done)
        all_goals refine st ?_)
      all_goals first
      | fail_if_success with_reducible refine atR 5 ?_
      | (
        refine rg 5 [] [some 2] 1 ?_
        all_goals refine qP ?_
        all_goals refine qE ?_)
      all_goals first
      | fail_if_success with_reducible refine atR 6 ?_
      | (
        refine rg 6 [] [some 46, some 7] 2 ?_
        all_goals (
          refine qL_cons ?_
          intro R hR
          refine sm ?_
          rw [wrap64 (by omega) (by omega)]
          all_goals (refine hR _ ?_; clear hR R))
        all_goals refine qP ?_
        all_goals refine qE ?_)
      all_goals first
      | fail_if_success with_reducible refine atR 7 ?_
      | (
        refine rg 7 [] [some 47, some 48, some 49, some 2] 4 ?_
        all_goals iterate 4 refine qP ?_
        all_goals refine qE ?_)
      all_goals first
      | fail_if_success with_reducible refine ⟨i + 1, ?_, ?_, ?_⟩
      | (
        refine ⟨i + 1, ?_, ?_, ?_⟩
        · refine ⟨by omega, fun j hj => ?_⟩
          by_cases hji : j = i
          · subst hji; simp_all [okM, ← idxF_nonneg]
          · exact hJ2 j (by omega)
        · omega
        · refine Vw.to [] _ _ (vU hU) ?_ ?_ (by simp [tauL])
          · refine vd (vd (vd (vw_d ?_ (trivial))))
            · first
              | exact cl2
              | (
                refine sm2 ?_
                all_goals (
                 congr 1))
          · trivial)
      all_goals first
      | fail_if_success with_reducible refine ret_fun (t := 2) ?_ ?_
      | (
        refine ret_fun (t := 2) ?_ (fun _ => rfl)
        first
        | exact cl
        | (
          try refine sm ?_
          all_goals (
           first
             | (congr 2; exact mm_end hJ2 (by omega))
             | (congr 2; refine mm_bad (i := i) (by omega) ?_; simp_all [okM, ← idxF_nonneg]; done)))))

end
end Go.Proofs.Ytmlbdicaeefomaa
namespace Go.Proofs.Ytmlbdicaeefomaa
open Go Go.RowKit
set_option maxRecDepth 100000
set_option linter.unusedSimpArgs false
set_option linter.unusedVariables false
theorem any_take {P : Mm → Bool} {ms : List Mm} {i : Nat} (h : ∀ j, j < i → ∀ m, ms[j]? = some m → P m = false) : (ms.take i).any P = false := by
  rw [List.any_eq_false]
  intro m hm
  obtain ⟨j, hj, hm⟩ := List.mem_iff_getElem.1 hm
  have h1 : j < i := by simp at hj; omega
  have := h j h1 m (by rw [← hm, List.getElem_take]; exact List.getElem?_eq_getElem _)
  simp [this]
theorem take_any {P : Mm → Bool} {ms : List Mm} {i j : Nat} {m : Mm} (hj : j < i) (hm : ms[j]? = some m) (h : P m = true) : (ms.take i).any P = true := by
  rw [List.any_eq_true]
  refine ⟨m, ?_, h⟩
  obtain ⟨h1, rfl⟩ := List.getElem?_eq_some_iff.1 hm
  rw [List.mem_iff_getElem]
  exact ⟨j, by simp; omega, by simp⟩
attribute [local go_sem] List.size_toArray Int.toNat_zero Nat.sub_zero size_mk top_val eq_self datL X.dat u8min u8max i64min i64max stepT gdO aop ev lit litOk putF fzX_false putO upd app List.contains_nil List.elem_nil aBin aInt aStr aBool aLen lenTy aBuiltin aLoad aTake aTakeX aStore splice aSlice aBd look_cons look_nil lookC_cons lookC_nil by_s by_C start_s start_C X.cells X.cell List.all_cons List.all_nil Bool.and_self Bool.not_true Bool.not_false false_implies true_implies forall_const and_true true_and and_self implies_true not_false_eq_true Nat.zero_add Nat.add_zero List.getD_cons_zero List.getD_cons_succ List.map_cons List.map_nil Option.bind_some Option.map_some Option.map_none List.getElem?_cons_zero List.getElem?_cons_succ List.length_cons List.length_nil List.drop_zero List.drop_succ_cons List.take_succ_cons List.take_zero List.cons_append List.nil_append List.append_nil D.of List.length_map all_get_map Option.isSome_some and_false false_and Nat.lt_add_one Nat.zero_lt_succ decide_true decide_false aPart Nat.lt_irrefl fzX litEs List.contains_cons List.elem_cons Bool.true_or Bool.or_true Bool.false_or Bool.or_false beq_self_eq_true
section
attribute [local go_sem] tsz9 tsz22 tsz34 tfld34 tel22 tel32 toNat_cast und9 zero34
theorem l18Ok_spec (ms : List Mm) : Fun Try.prog 42 [.d (.of mX ms)] (.d (.bool (mmB ms))) := by
  refine Fun.of ?_ rfl rfl
  refine Spec.of (fn := Try.f42) Try.func42 rfl (by kernel_rfl) (rs := [.tmp 2]) rfl 1 (by simp [Try.f42]) rfl (by simp) ?_
  intro hreal
  rintro ⟨P, T, L0, w0, ι0, C0, U0⟩ hP hT hU
  subst hP hT
  refine st ?_
  have hlen : ms.length ≤ 9223372036854775807 := by simpa using D.real_len (X.real_d (hreal (.d (.of mX ms)) (by simp)) : D.real (.sl (ms.map mX)))
  all_goals first
  | fail_if_success with_reducible refine atR 0 ?_
  | (
    refine rg 0 [] [some 2] 1 ?_
    all_goals refine qP ?_
    all_goals refine qE ?_)
  all_goals first
  | fail_if_success with_reducible refine atR 1 ?_
  | (
    refine rg 1 [] [some 3] 1 ?_
    all_goals refine qP ?_
    all_goals refine qE ?_)
  all_goals first
  | fail_if_success with_reducible refine AW.rounds (α := Nat) ?_ ?_ ?_ ?_ ?_ ?_ ?_ ?_
  | (
    refine AW.rounds (α := Nat) (fun i => i ≤ ms.length ∧ ∀ j, j < i → okM ms j = true) (fun i => St.by [(0, .d (.of mX ms)), (3, .d (.int .i64 i))] []) (fun i => ms.length - i) 1 0 ?_ ?_ ?_
    · exact ⟨by omega, fun j hj => by omega⟩
    · refine Vw.to [] _ _ (vU hU) ?_ ?_ (by simp [tauL])
      · refine vd (vw_d ?_ (trivial))
        · first
          | exact cl2
          | (
            refine sm2 ?_
            all_goals (
             rfl))
      · trivial
    · intro i hJ
      refine st ?_
      obtain ⟨hJ1, hJ2⟩ := hJ
      all_goals first
      | fail_if_success with_reducible refine atR 2 ?_
      | (
        refine rg 2 [] [some 6, some 7, some 8, some 9] 4 ?_
        all_goals iterate 4 refine qP ?_
        all_goals refine qE ?_)
      all_goals first
      | fail_if_success with_reducible refine atC 9 ?_
      | (
        refine cn 9 ?_ ?_ <;> intro hc9 <;> try (cases hc9; done)
        all_goals refine st ?_)
      all_goals first
      | fail_if_success with_reducible refine atR 4 ?_
      | (
        refine rg 4 [] [some 12, some 13, some 14, some 15, some 4, none] 6 ?_
        all_goals iterate 2 refine qP ?_
        all_goals (
          refine qL_cons ?_
          intro R hR
          refine sm ?_
          refine ⟨⟨by omega, by omega⟩, ?_⟩
          intro x1 hx1
          simp only [go_sem, reduceIte, reduceCtorEq, Nat.reduceAdd, Nat.reduceEqDiff, Nat.reduceLeDiff, Nat.reduceLT, Nat.reduceSub, Int.reduceLE, Int.reduceNeg, Int.reduceLT, mX]
          all_goals (refine hR _ ?_; clear hR R))
        all_goals iterate 3 refine qP ?_
        all_goals refine qE ?_)
      all_goals first
      | fail_if_success with_reducible refine atR 5 ?_
      | (
        refine rg 5 [] [some 16, some 17, some 18, some 19, some 20, some 21, some 22, some 23, some 24, some 25, some 26, some 27, some 28, some 29, some 30, some 31, some 32, some 33, some 34, some 35, some 36, some 37, some 38, some 39, some 40, some 41, some 42, some 43, some 44] 29 ?_
        all_goals iterate 2 refine qP ?_
        all_goals (
          refine qL_cons ?_
          intro R hR
          refine sm ?_
          refine call_fun (l1Ok_spec x1.old) [] ?_ (.inl rfl) ?_
          · exact ⟨.inl rfl, trivial⟩
          refine sm ?_
          all_goals (refine hR _ ?_; clear hR R))
        all_goals iterate 2 refine qP ?_
        all_goals first | refine qU 20 ?_ | (refine qS 20 ?_ ?_ <;> intro hg5_4 <;> try (cases hg5_4; done))
        all_goals iterate 2 refine qP ?_
        all_goals first
        | (
          refine qL_cons ?_
          intro R hR
          refine sm ?_
          refine call_fun (l1Ok_spec x1.one) [] ?_ (.inl rfl) ?_
          · exact ⟨.inl rfl, trivial⟩
          refine sm ?_
          refine hR _ ?_
          clear hR R)
        | refine qP ?_
        all_goals iterate 3 refine qP ?_
        all_goals first | refine qU 26 ?_ | (refine qS 26 ?_ ?_ <;> intro hg5_10 <;> try (cases hg5_10; done))
        all_goals iterate 2 refine qP ?_
        all_goals first
        | (
          refine qL_cons ?_
          intro R hR
          refine sm ?_
          refine call_fun (l1Ok_spec x1.two) [] ?_ (.inl rfl) ?_
          · exact ⟨.inl rfl, trivial⟩
          refine sm ?_
          refine hR _ ?_
          clear hR R)
        | refine qP ?_
        all_goals iterate 3 refine qP ?_
        all_goals first | refine qU 32 ?_ | (refine qS 32 ?_ ?_ <;> intro hg5_16 <;> try (cases hg5_16; done))
        all_goals iterate 2 refine qP ?_
        all_goals first
        | (
          refine qL_cons ?_
          intro R hR
          refine sm ?_
          refine call_fun (l1Ok_spec x1.done) [] ?_ (.inl rfl) ?_
          · exact ⟨.inl rfl, trivial⟩
          refine sm ?_
          refine hR _ ?_
          clear hR R)
        | refine qP ?_
        all_goals iterate 3 refine qP ?_
        all_goals first | refine qU 38 ?_ | (refine qS 38 ?_ ?_ <;> intro hg5_22 <;> try (cases hg5_22; done))
        all_goals iterate 4 refine qP ?_
        all_goals first
        | (
          refine qL_cons ?_
          intro R hR
          refine sm ?_
          refine call_fun (l1Same_spec x1.one x1.two) [] ?_ (.inl rfl) ?_
          · exact ⟨.inl rfl, ⟨.inl rfl, trivial⟩⟩
          refine sm ?_
          refine hR _ ?_
          clear hR R)
        | refine qP ?_
        all_goals refine qP ?_
        all_goals refine qE ?_)
      all_goals first
      | fail_if_success with_reducible refine atC 44 ?_
      | (
        refine cn 44 ?_ ?_ <;> intro hc44 <;> try (cases hc44; done)
        all_goals refine st ?_)
      all_goals first
      | fail_if_success with_reducible refine atR 6 ?_
      | (
        refine rg 6 [] [some 2] 1 ?_
        all_goals refine qP ?_
        all_goals refine qE ?_)
      all_goals first
      | fail_if_success with_reducible refine atR 7 ?_
      | (
        refine rg 7 [] [some 5] 1 ?_
        all_goals refine qP ?_
        all_goals refine qE ?_)
      all_goals first
      | fail_if_success with_reducible refine AW.rounds (α := Nat) ?_ ?_ ?_ ?_ ?_ ?_ ?_ ?_
      | (
        refine AW.rounds (α := Nat) (fun k => k ≤ i ∧ ∀ j, j < k → ∀ m, ms[j]? = some m → sameB x1.old x1.one x1.two m = false) (fun k => St.by [(0, .d (.of mX ms)), (3, .d (.int .i64 i)), (4, .bx 9 0), (5, .d (.int .i64 k))] [(9, .box 34 [.d (strs x1.old), .d (strs x1.one), .d (strs x1.two), .d (strs x1.done)])]) (fun k => i - k) 41 0 ?_ ?_ ?_
        · exact ⟨by omega, fun j hj => by omega⟩
        · refine Vw.to [] _ _ (vU hU) ?_ ?_ (by simp [tauL])
          · refine vd (vd (vx (vw_d ?_ (trivial))))
            · first
              | exact cl2
              | (
                refine sm2 ?_
                all_goals (
                 rfl))
          · exact ⟨⟨by simp, rfl, cl3⟩, trivial⟩
        · intro k hJ
          refine st ?_
          obtain ⟨hK1, hK2⟩ := hJ
          all_goals first
          | fail_if_success with_reducible refine atR 8 ?_
          | (
            refine rg 8 [] [some 45, some 46, some 47] 3 ?_
            all_goals iterate 3 refine qP ?_
            all_goals refine qE ?_)
          all_goals first
          | fail_if_success with_reducible refine atC 47 ?_
          | (
            refine cn 47 ?_ ?_ <;> intro hc47 <;> try (cases hc47; done)
            all_goals refine st ?_)
          all_goals first
          | fail_if_success with_reducible refine atR 10 ?_
          | (
            refine rgD 10 [] [some 50, some 51, some 52, some 53, some 54, some 55, some 56, some 57, some 58, some 59, some 60] 11 12 ?_
            intro av hav
            have hf9 := freeD 9 hav
            all_goals iterate 2 refine qP ?_
            all_goals (
              refine qL_cons ?_
              intro R hR
              simp only [go_sem, reduceIte, reduceCtorEq, Nat.reduceAdd, Nat.reduceEqDiff, Nat.reduceLeDiff, Nat.reduceLT, Nat.reduceSub, Int.reduceLE, Int.reduceNeg, Int.reduceLT, hf9]
              refine ⟨⟨by omega, by omega⟩, ?_⟩
              intro x2 hx2
              simp only [go_sem, reduceIte, reduceCtorEq, Nat.reduceAdd, Nat.reduceEqDiff, Nat.reduceLeDiff, Nat.reduceLT, Nat.reduceSub, Int.reduceLE, Int.reduceNeg, Int.reduceLT, hf9, mX]
              all_goals (refine hR _ ?_; clear hR R))
            all_goals (
              refine qL_cons ?_
              intro R hR
              simp only [go_sem, reduceIte, reduceCtorEq, Nat.reduceAdd, Nat.reduceEqDiff, Nat.reduceLeDiff, Nat.reduceLT, Nat.reduceSub, Int.reduceLE, Int.reduceNeg, Int.reduceLT, hf9]
              all_goals (refine hR _ ?_; clear hR R))
            all_goals refine qP ?_
            all_goals (
              refine qL_cons ?_
              intro R hR
              simp only [go_sem, reduceIte, reduceCtorEq, Nat.reduceAdd, Nat.reduceEqDiff, Nat.reduceLeDiff, Nat.reduceLT, Nat.reduceSub, Int.reduceLE, Int.reduceNeg, Int.reduceLT, hf9]
              all_goals (refine hR _ ?_; clear hR R))
            all_goals refine qP ?_
            all_goals (
              refine qL_cons ?_
              intro R hR
              simp only [go_sem, reduceIte, reduceCtorEq, Nat.reduceAdd, Nat.reduceEqDiff, Nat.reduceLeDiff, Nat.reduceLT, Nat.reduceSub, Int.reduceLE, Int.reduceNeg, Int.reduceLT, hf9]
              all_goals (refine hR _ ?_; clear hR R))
            all_goals refine qP ?_
            all_goals (
              refine qL_cons ?_
              intro R hR
              simp only [go_sem, reduceIte, reduceCtorEq, Nat.reduceAdd, Nat.reduceEqDiff, Nat.reduceLeDiff, Nat.reduceLT, Nat.reduceSub, Int.reduceLE, Int.reduceNeg, Int.reduceLT, hf9]
              all_goals (refine hR _ ?_; clear hR R))
            all_goals (
              refine qL_cons ?_
              intro R hR
              simp only [go_sem, reduceIte, reduceCtorEq, Nat.reduceAdd, Nat.reduceEqDiff, Nat.reduceLeDiff, Nat.reduceLT, Nat.reduceSub, Int.reduceLE, Int.reduceNeg, Int.reduceLT, hf9]
              refine call_fun (l18Same_spec x2 x1.old x1.one x1.two) [] ?_ (.inl rfl) ?_
              · exact ⟨.inl rfl, ⟨.inl rfl, ⟨.inl rfl, ⟨.inl rfl, trivial⟩⟩⟩⟩
              simp only [go_sem, reduceIte, reduceCtorEq, Nat.reduceAdd, Nat.reduceEqDiff, Nat.reduceLeDiff, Nat.reduceLT, Nat.reduceSub, Int.reduceLE, Int.reduceNeg, Int.reduceLT, hf9]
              all_goals (refine hR _ ?_; clear hR R))
            all_goals refine qE ?_
            all_goals clear hf9 hav av)
          all_goals first
          | fail_if_success with_reducible refine atC 60 ?_
          | (
            refine cn 60 ?_ ?_ <;> intro hc60 <;> try (cases hc60; done)
            all_goals refine st ?_)
          all_goals first
          | fail_if_success with_reducible refine atR 11 ?_
          | (
            refine rg 11 [] [some 2] 1 ?_
            all_goals refine qP ?_
            all_goals refine qE ?_)
          all_goals first
          | fail_if_success with_reducible refine atR 9 ?_
          | (
            refine rg 9 [] [some 48, some 49, some 5] 3 ?_
            all_goals refine qP ?_
            all_goals (
              refine qL_cons ?_
              intro R hR
              refine sm ?_
              rw [wrap64 (by omega) (by omega)]
              all_goals (refine hR _ ?_; clear hR R))
            all_goals refine qP ?_
            all_goals refine qE ?_)
          all_goals first
          | fail_if_success with_reducible refine ⟨k + 1, ?_, ?_, ?_⟩
          | (
            refine ⟨k + 1, ?_, ?_, ?_⟩
            · refine ⟨by omega, fun j hj m hm => ?_⟩
              by_cases hji : j = k
              · subst hji; simp_all
              · exact hK2 j (by omega) m hm
            · omega
            · refine Vw.to [] _ _ (vU hU) ?_ ?_ (by simp [tauL])
              · refine vd (vd (vx (vw_d ?_ (trivial))))
                · first
                  | exact cl2
                  | (
                    refine sm2 ?_
                    all_goals (
                     congr 1))
              · exact ⟨⟨by simp, rfl, cl3⟩, trivial⟩)
          all_goals first
          | fail_if_success with_reducible refine atR 3 ?_
          | (
            refine rg 3 [] [some 10, some 11, some 3] 3 ?_
            all_goals refine qP ?_
            all_goals (
              refine qL_cons ?_
              intro R hR
              refine sm ?_
              rw [wrap64 (by omega) (by omega)]
              all_goals (refine hR _ ?_; clear hR R))
            all_goals refine qP ?_
            all_goals refine qE ?_)
          all_goals first
          | fail_if_success with_reducible refine ⟨i + 1, ?_, ?_, ?_⟩
          | (
            refine ⟨i + 1, ?_, ?_, ?_⟩
            · refine ⟨by omega, fun j hj => ?_⟩
              by_cases hji : j = i
              · subst hji
                have hat := any_take (P := sameB x1.old x1.one x1.two) (i := j) (ms := ms) (fun j hj m hm => hK2 j (by omega) m hm)
                simp_all [okM]
              · exact hJ2 j (by omega)
            · omega
            · refine Vw.to [] _ _ (vU hU) ?_ ?_ (by simp [tauL])
              · refine vd (vw_d ?_ (trivial))
                · first
                  | exact cl2
                  | (
                    refine sm2 ?_
                    all_goals (
                     congr 1))
              · trivial)
          all_goals first
          | fail_if_success with_reducible refine ret_fun (t := 2) ?_ ?_
          | (
            refine ret_fun (t := 2) ?_ (fun _ => rfl)
            first
            | exact cl
            | (
              try refine sm ?_
              all_goals (
               (congr 2; refine mm_bad (i := i) (by omega) ?_; have hat := take_any (P := sameB x1.old x1.one x1.two) (show k < i by omega) hx2 (by assumption); simp_all [okM]; done)))))
      all_goals first
      | fail_if_success with_reducible refine atR 12 ?_
      | (
        refine rg 12 [] [some 61, some 62, some 63, some 2] 4 ?_
        all_goals iterate 4 refine qP ?_
        all_goals refine qE ?_)
      all_goals first
      | fail_if_success with_reducible refine ret_fun (t := 2) ?_ ?_
      | (
        refine ret_fun (t := 2) ?_ (fun _ => rfl)
        first
        | exact cl
        | (
          try refine sm ?_
          all_goals (
           first
             | (congr 2; exact mm_end hJ2 (by omega))
             | (congr 2; refine mm_bad (i := i) (by omega) ?_; simp_all [okM]; done)))))

end
section
attribute [local go_sem] tsz9 tsz22 tsz34 tfld34 tel22 tel32 toNat_cast und9 zero34
theorem specMemosOk (ms : List Mm) : Fun Try.prog 18 [.d (.of mX ms)] (.d (.bool (mmB ms))) := by
  refine Fun.of ?_ rfl rfl
  refine Spec.of (fn := Try.f18) Try.func18 rfl (by kernel_rfl) (rs := [.tmp 2]) rfl 1 (by simp [Try.f18]) rfl (by simp) ?_
  intro hreal
  rintro ⟨P, T, L0, w0, ι0, C0, U0⟩ hP hT hU
  subst hP hT
  refine st ?_
  all_goals first
  | fail_if_success with_reducible refine atR 0 ?_
  | (
    refine rg 0 [] [some 2] 1 ?_
    all_goals refine qP ?_
    all_goals refine qE ?_)
  all_goals first
  | fail_if_success with_reducible refine atR 1 ?_
  | (
    refine rg 1 [] [some 3, some 4, some 2] 3 ?_
    all_goals refine qP ?_
    all_goals (
      refine qL_cons ?_
      intro R hR
      refine sm ?_
      refine call_fun (l18Ok_spec ms) [] ?_ (.inl rfl) ?_
      · exact ⟨.inl rfl, trivial⟩
      refine sm ?_
      all_goals (refine hR _ ?_; clear hR R))
    all_goals refine qP ?_
    all_goals refine qE ?_)
  all_goals first
  | fail_if_success with_reducible refine ret_fun (t := 2) ?_ ?_
  | (
    refine ret_fun (t := 2) ?_ (fun _ => rfl)
    first
    | exact cl
    | (
      try refine sm ?_
      all_goals (
       rfl)))

end
end Go.Proofs.Ytmlbdicaeefomaa
