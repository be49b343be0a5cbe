/- memos copied; one taken out of its place. No condition. -/
import Derived.Test.YtmlbdicaeefomaaE14
import Derived.Test.YtmlbdicaeefomaaE22
import Derived.Test.YtmlbdicaeefomaaAxI
namespace Go.Proofs.Ytmlbdicaeefomaa
open Go Go.RowKit
set_option maxRecDepth 100000
set_option maxHeartbeats 4000000
set_option linter.unusedSimpArgs false
set_option linter.unusedVariables false
theorem tz34l : (tzero Try.prog 34).map (·.length) = some 4 := by kernel_rfl
theorem iz34 : (tzero Try.prog 34).isSome = true := by kernel_rfl
theorem tsz32 : tsz Try.prog 32 = some (false, 1) := by kernel_rfl
/-- No side of a known clash is long. -/
def smM (m : Mm) : Prop := m.old.length ≤ 1000000 ∧ m.one.length ≤ 1000000 ∧ m.two.length ≤ 1000000 ∧ m.done.length ≤ 1000000
def MMx (m : Mm) : X := .ag [.d (strs m.old), .d (strs m.one), .d (strs m.two), .d (strs m.done)]
theorem strs_all (l : List ByteArray) : ∀ e ∈ l.map sS, e.length = 1 := by
  intro e he
  obtain ⟨s, -, rfl⟩ := List.mem_map.1 he
  rfl
theorem mX_get {ms : List Mm} {i : Nat} {c : List D} (h : (ms.map mX)[i]? = some c) : ∃ y, ms[i]? = some y ∧ c = mX y := by
  rw [List.getElem?_map] at h
  cases hs : ms[i]? with
  | none => rw [hs] at h; cases h
  | some y => rw [hs] at h; exact ⟨y, rfl, (Option.some.inj h).symm⟩
theorem takeM {ms : List Mm} {i : Nat} {x : Mm} (h : ms[i]? = some x) : (ms.take i).map mX ++ [mX x] = (ms.take (i + 1)).map mX := by
  rw [List.take_add_one, h]
  simp
theorem takeM2 {ms : List Mm} {i : Nat} {x : Mm} (h : ms[i]? = some x) : (ms.take i).map mX ++ [[.sl (x.old.map sS), .sl (x.one.map sS), .sl (x.two.map sS), .sl (x.done.map sS)]] = (ms.take (i + 1)).map mX := takeM h
attribute [local go_sem] List.size_toArray Int.toNat_zero Nat.sub_zero size_mk top_val eq_self datL X.dat u8min u8max i64min i64max stepT gdO aop ev lit litOk putF fzX_false putO upd app List.contains_nil List.elem_nil aBin aInt aStr aBool aLen lenTy aBuiltin aLoad aTake aTakeX aStore splice aSlice aBd look_cons look_nil lookC_cons lookC_nil by_s by_C start_s start_C X.cells X.cell List.all_cons List.all_nil Bool.and_self Bool.not_true Bool.not_false false_implies true_implies forall_const and_true true_and and_self implies_true not_false_eq_true Nat.zero_add Nat.add_zero List.getD_cons_zero List.getD_cons_succ List.map_cons List.map_nil Option.bind_some Option.map_some Option.map_none List.getElem?_cons_zero List.getElem?_cons_succ List.length_cons List.length_nil List.drop_zero List.drop_succ_cons List.take_succ_cons List.take_zero List.cons_append List.nil_append List.append_nil D.of List.length_map all_get_map Option.isSome_some and_false false_and Nat.lt_add_one Nat.zero_lt_succ decide_true decide_false aPart aSl2 Nat.lt_irrefl fzX litEs List.contains_cons List.elem_cons Bool.true_or Bool.or_true Bool.false_or Bool.or_false beq_self_eq_true
section
attribute [local go_sem] tsz9 tsz22 tsz34 tfld34 tel22 tel32 toNat_cast und9 zero34 tz9l iz9 tz34l iz34 aDst aSrc sS MMx
theorem l18Copy_spec (m : Mm) (h : smM m) : Fun Try.prog 44 [.ag [.d (strs m.old), .d (strs m.one), .d (strs m.two), .d (strs m.done)]] (MMx m) := by
  refine Fun.of ?_ rfl rfl
  refine Spec.of (fn := Try.f44) Try.func44 rfl (by kernel_rfl) (rs := [.cell 2 34]) rfl 1 (by simp [Try.f44]) rfl (by simp) ?_
  intro hreal
  rintro ⟨P, T, L0, w0, ι0, C0, U0⟩ hP hT hU
  subst hP hT
  refine st ?_
  obtain ⟨h1, h2, h3, h4⟩ := h
  all_goals first
  | fail_if_success with_reducible refine atR 0 ?_
  | (
    refine rg 0 [] [some 1, some 2] 2 ?_
    all_goals iterate 2 refine qP ?_
    all_goals refine qE ?_)
  all_goals first
  | fail_if_success with_reducible refine atR 1 ?_
  | (
    refine rgW 1 [3, 7, 11, 15] [some 3, some 4, some 5, some 6, some 7, some 8, some 9, some 10, some 11, some 12, some 13, some 14, some 15, some 16, some 17, some 18, some 19, none] 18 19 [(3, [3]), (7, [7]), (11, [11]), (15, [15]), (17, [2])] ?_
    intro av wr hav hwr
    have hf2_1 := avD 2 1 hav
    have hf6_1 := avD 6 1 hav
    have hf10_1 := avD 10 1 hav
    have hf14_1 := avD 14 1 hav
    have hf3_3 := avD 3 3 hav
    have hf7_7 := avD 7 7 hav
    have hf11_11 := avD 11 11 hav
    have hf15_15 := avD 15 15 hav
    have hf17_2 := avD 17 2 hav
    have hw3_3 := wrD 3 3 hwr
    have hw7_7 := wrD 7 7 hwr
    have hw11_11 := wrD 11 11 hwr
    have hw15_15 := wrD 15 15 hwr
    have hw17_2 := wrD 17 2 hwr
    all_goals iterate 2 refine qP ?_
    all_goals (
      refine qL_cons ?_
      intro R hR
      simp only [go_sem, reduceIte, reduceCtorEq, Nat.reduceAdd, Nat.reduceEqDiff, Nat.reduceLeDiff, Nat.reduceLT, Nat.reduceSub, Int.reduceLE, Int.reduceNeg, Int.reduceLT, hf2_1, hf6_1, hf10_1, hf14_1, hf3_3, hf7_7, hf11_11, hf15_15, hf17_2, hw3_3, hw7_7, hw11_11, hw15_15, hw17_2]
      all_goals (refine hR _ ?_; clear hR R))
    all_goals (
      refine qL_cons ?_
      intro R hR
      simp only [go_sem, reduceIte, reduceCtorEq, Nat.reduceAdd, Nat.reduceEqDiff, Nat.reduceLeDiff, Nat.reduceLT, Nat.reduceSub, Int.reduceLE, Int.reduceNeg, Int.reduceLT, hf2_1, hf6_1, hf10_1, hf14_1, hf3_3, hf7_7, hf11_11, hf15_15, hf17_2, hw3_3, hw7_7, hw11_11, hw15_15, hw17_2]
      refine ⟨strs_all _, by omega, ?_⟩
      all_goals (refine hR _ ?_; clear hR R))
    all_goals iterate 2 refine qP ?_
    all_goals (
      refine qL_cons ?_
      intro R hR
      simp only [go_sem, reduceIte, reduceCtorEq, Nat.reduceAdd, Nat.reduceEqDiff, Nat.reduceLeDiff, Nat.reduceLT, Nat.reduceSub, Int.reduceLE, Int.reduceNeg, Int.reduceLT, hf2_1, hf6_1, hf10_1, hf14_1, hf3_3, hf7_7, hf11_11, hf15_15, hf17_2, hw3_3, hw7_7, hw11_11, hw15_15, hw17_2]
      all_goals (refine hR _ ?_; clear hR R))
    all_goals (
      refine qL_cons ?_
      intro R hR
      simp only [go_sem, reduceIte, reduceCtorEq, Nat.reduceAdd, Nat.reduceEqDiff, Nat.reduceLeDiff, Nat.reduceLT, Nat.reduceSub, Int.reduceLE, Int.reduceNeg, Int.reduceLT, hf2_1, hf6_1, hf10_1, hf14_1, hf3_3, hf7_7, hf11_11, hf15_15, hf17_2, hw3_3, hw7_7, hw11_11, hw15_15, hw17_2]
      refine ⟨strs_all _, by omega, ?_⟩
      all_goals (refine hR _ ?_; clear hR R))
    all_goals iterate 2 refine qP ?_
    all_goals (
      refine qL_cons ?_
      intro R hR
      simp only [go_sem, reduceIte, reduceCtorEq, Nat.reduceAdd, Nat.reduceEqDiff, Nat.reduceLeDiff, Nat.reduceLT, Nat.reduceSub, Int.reduceLE, Int.reduceNeg, Int.reduceLT, hf2_1, hf6_1, hf10_1, hf14_1, hf3_3, hf7_7, hf11_11, hf15_15, hf17_2, hw3_3, hw7_7, hw11_11, hw15_15, hw17_2]
      all_goals (refine hR _ ?_; clear hR R))
    all_goals (
      refine qL_cons ?_
      intro R hR
      simp only [go_sem, reduceIte, reduceCtorEq, Nat.reduceAdd, Nat.reduceEqDiff, Nat.reduceLeDiff, Nat.reduceLT, Nat.reduceSub, Int.reduceLE, Int.reduceNeg, Int.reduceLT, hf2_1, hf6_1, hf10_1, hf14_1, hf3_3, hf7_7, hf11_11, hf15_15, hf17_2, hw3_3, hw7_7, hw11_11, hw15_15, hw17_2]
      refine ⟨strs_all _, by omega, ?_⟩
      all_goals (refine hR _ ?_; clear hR R))
    all_goals iterate 2 refine qP ?_
    all_goals (
      refine qL_cons ?_
      intro R hR
      simp only [go_sem, reduceIte, reduceCtorEq, Nat.reduceAdd, Nat.reduceEqDiff, Nat.reduceLeDiff, Nat.reduceLT, Nat.reduceSub, Int.reduceLE, Int.reduceNeg, Int.reduceLT, hf2_1, hf6_1, hf10_1, hf14_1, hf3_3, hf7_7, hf11_11, hf15_15, hf17_2, hw3_3, hw7_7, hw11_11, hw15_15, hw17_2]
      all_goals (refine hR _ ?_; clear hR R))
    all_goals (
      refine qL_cons ?_
      intro R hR
      simp only [go_sem, reduceIte, reduceCtorEq, Nat.reduceAdd, Nat.reduceEqDiff, Nat.reduceLeDiff, Nat.reduceLT, Nat.reduceSub, Int.reduceLE, Int.reduceNeg, Int.reduceLT, hf2_1, hf6_1, hf10_1, hf14_1, hf3_3, hf7_7, hf11_11, hf15_15, hf17_2, hw3_3, hw7_7, hw11_11, hw15_15, hw17_2]
      refine ⟨strs_all _, by omega, ?_⟩
      all_goals (refine hR _ ?_; clear hR R))
    all_goals refine qP ?_
    all_goals (
      refine qL_cons ?_
      intro R hR
      simp only [go_sem, reduceIte, reduceCtorEq, Nat.reduceAdd, Nat.reduceEqDiff, Nat.reduceLeDiff, Nat.reduceLT, Nat.reduceSub, Int.reduceLE, Int.reduceNeg, Int.reduceLT, hf2_1, hf6_1, hf10_1, hf14_1, hf3_3, hf7_7, hf11_11, hf15_15, hf17_2, hw3_3, hw7_7, hw11_11, hw15_15, hw17_2]
      all_goals (refine hR _ ?_; clear hR R))
    all_goals refine qE ?_
    all_goals clear hf2_1 hf6_1 hf10_1 hf14_1 hf3_3 hf7_7 hf11_11 hf15_15 hf17_2 hw3_3 hw7_7 hw11_11 hw15_15 hw17_2 hav hwr wr av)
  all_goals exact ret_dat [MMx m] (Vw.refl _ _ _) ⟨cl, trivial⟩ (fun _ => rfl) rfl

end
section
attribute [local go_sem] tsz9 tsz22 tsz34 tfld34 tel22 tel32 toNat_cast und9 zero34 tz9l iz9 tz34l iz34 aDst aSrc sS MMx
theorem l18All_row (ms : List Mm) (h : ∀ m ∈ ms, smM m) (hl : ms.length ≤ 1000000) : FunR Try.prog 45 [.d (.of mX ms)] (fun m => .vec m 4 0 ms.length) (.vec 34 4 (ms.map mX)) := by
  refine FunR.of ?_ rfl
  refine Spec.of (fn := Try.f45) Try.func45 rfl (by kernel_rfl) (rs := [.tmp 2]) rfl 1 (by simp [Try.f45]) rfl (by simp) ?_
  intro hreal
  rintro ⟨P, T, L0, w0, ι0, C0, U0⟩ hP hT hU
  subst hP hT
  refine st ?_
  all_goals first
  | fail_if_success with_reducible refine atR 0 ?_
  | (
    refine rg 0 [] [some 2] 1 ?_
    all_goals refine qP ?_
    all_goals refine qE ?_)
  all_goals first
  | fail_if_success with_reducible refine atR 1 ?_
  | (
    refine rg 1 [] [some 5, some 3] 2 ?_
    all_goals iterate 2 refine qP ?_
    all_goals refine qE ?_)
  all_goals first
  | fail_if_success with_reducible refine atR 2 ?_
  | (
    refine rg 2 [] [some 4] 1 ?_
    all_goals refine qP ?_
    all_goals refine qE ?_)
  all_goals first
  | fail_if_success with_reducible refine AW.rounds (α := Nat) ?_ ?_ ?_ ?_ ?_ ?_ ?_ ?_
  | (
    refine AW.rounds (α := Nat) (fun i => i ≤ ms.length) (fun i => St.by [(0, .d (.of mX ms)), (3, .vec 2 4 0 (ms.take i).length), (4, .d (.int .i64 i))] [(2, .vec 34 4 ((ms.take i).map mX))]) (fun i => ms.length - i) 5 0 ?_ ?_ ?_
    · omega
    · refine Vw.to [] _ _ (vU hU) ?_ ?_ (by simp [tauL])
      · refine vd (vx (vw_d ?_ (trivial)))
        · first
          | exact cl2
          | (
            refine sm2 ?_
            all_goals (
             rfl))
      · refine ⟨⟨by simp, rfl, cl3⟩, trivial⟩
    · intro i hJ
      refine st ?_
      all_goals first
      | fail_if_success with_reducible refine atR 3 ?_
      | (
        refine rg 3 [] [some 6, some 7, some 8, some 9] 4 ?_
        all_goals iterate 4 refine qP ?_
        all_goals refine qE ?_)
      all_goals first
      | fail_if_success with_reducible refine atC 9 ?_
      | (
        refine cn 9 ?_ ?_ <;> intro hc9 <;> try (cases hc9; done)
        all_goals refine st ?_)
      all_goals first
      | fail_if_success with_reducible refine atR 5 ?_
      | (
        refine rg 5 [6] [some 12, some 13, some 14, some 15, some 16, some 17, some 18, some 19, some 3] 9 ?_
        all_goals iterate 3 refine qP ?_
        all_goals (
          refine qL_cons ?_
          intro R hR
          refine sm ?_
          refine ⟨⟨by omega, by omega⟩, ?_⟩
          intro x hx
          simp only [go_sem, reduceIte, reduceCtorEq, Nat.reduceAdd, Nat.reduceEqDiff, Nat.reduceLeDiff, Nat.reduceLT, Nat.reduceSub, Int.reduceLE, Int.reduceNeg, Int.reduceLT, mX]
          all_goals (refine hR _ ?_; clear hR R))
        all_goals refine qP ?_
        all_goals (
          refine qL_cons ?_
          intro R hR
          refine sm ?_
          refine call_fun (l18Copy_spec x (h x (List.mem_of_getElem? hx))) [] ?_ (.inl rfl) ?_
          · exact ⟨.inl rfl, trivial⟩
          refine sm ?_
          all_goals (refine hR _ ?_; clear hR R))
        all_goals refine qP ?_
        all_goals (
          refine qL_cons ?_
          intro R hR
          refine sm ?_
          have hfl := List.length_take_le i ms
          refine ⟨by simp, by omega, ?_⟩
          all_goals (refine hR _ ?_; clear hR R))
        all_goals refine qP ?_
        all_goals refine qE ?_)
      all_goals first
      | fail_if_success with_reducible refine atR 4 ?_
      | (
        refine rg 4 [] [some 10, some 11, some 4] 3 ?_
        all_goals refine qP ?_
        all_goals (
          refine qL_cons ?_
          intro R hR
          refine sm ?_
          rw [wrap64 (by omega) (by omega)]
          all_goals (refine hR _ ?_; clear hR R))
        all_goals refine qP ?_
        all_goals refine qE ?_)
      all_goals first
      | fail_if_success with_reducible refine ⟨i + 1, ?_, ?_, ?_⟩
      | (
        refine ⟨i + 1, ?_, ?_, ?_⟩
        · omega
        · omega
        · refine Vw.to [(2, 16)] _ _ (fun n hn => absurd (hU n hn) (by omega)) ?_ ?_ (by simp [tauL])
          · refine vd (vw_x ?_ (by first | rfl | simp [X.on, *]) (vw_d ?_ (trivial)))
            · first
              | exact cl2
              | (
                refine sm2 ?_
                all_goals (
                 congr 1
                 simp only [List.length_take]
                 omega))
            · first
              | exact cl2
              | (
                refine sm2 ?_
                all_goals (
                 congr 1))
          · refine ⟨⟨by simp, rfl, ?_⟩, trivial⟩
            refine sm3 ?_
            simp only [takeM2 hx])
      all_goals first
      | fail_if_success with_reducible refine atR 6 ?_
      | (
        refine rg 6 [] [some 20, some 2] 2 ?_
        all_goals iterate 2 refine qP ?_
        all_goals refine qE ?_)
      all_goals (
        have hi : i = ms.length := by omega
        subst hi
        simp only [List.take_length]
        refine ret_vec (ty := 34) 2 hU cl ?_
        exact cl))

end
section
attribute [local go_sem] tsz9 tsz22 tsz34 tfld34 tel22 tel32 toNat_cast und9 zero34 tz9l iz9 tz34l iz34 aDst aSrc sS MMx caps1
theorem l18All_own (ms : List Mm) (h : ∀ m ∈ ms, smM m) (hl : ms.length ≤ 1000000) : Spec Try.prog 45 [.vec 0 4 0 ms.length] [(0, .vec 34 4 (ms.map mX))] 1 (fun x δ => x = .vec 1 4 0 ms.length ∧ δ = [(1, some (.vec 34 4 (ms.map mX)))]) := by
  refine Spec.of (fn := Try.f45) Try.func45 rfl (by kernel_rfl) (rs := [.tmp 2]) rfl 2 (by simp [Try.f45]) rfl (by simp [Cap.on, X.onL, X.on]) ?_
  intro hreal
  rintro ⟨P, T, L0, w0, ι0, C0, U0⟩ hP hT hU
  subst hP hT
  refine st ?_
  all_goals first
  | fail_if_success with_reducible refine atR 0 ?_
  | (
    refine rg 0 [] [some 2] 1 ?_
    all_goals refine qP ?_
    all_goals refine qE ?_)
  all_goals first
  | fail_if_success with_reducible refine atR 1 ?_
  | (
    refine rg 1 [] [some 5, some 3] 2 ?_
    all_goals iterate 2 refine qP ?_
    all_goals refine qE ?_)
  all_goals first
  | fail_if_success with_reducible refine atR 2 ?_
  | (
    refine rg 2 [] [some 4] 1 ?_
    all_goals refine qP ?_
    all_goals refine qE ?_)
  all_goals first
  | fail_if_success with_reducible refine AW.rounds (α := Nat) ?_ ?_ ?_ ?_ ?_ ?_ ?_ ?_
  | (
    refine AW.rounds (α := Nat) (fun i => i ≤ ms.length) (fun i => St.by [(0, .vec 0 4 0 ms.length), (3, .vec 3 4 0 (ms.take i).length), (4, .d (.int .i64 i))] [(0, .vec 34 4 (ms.map mX)), (3, .vec 34 4 ((ms.take i).map mX))]) (fun i => ms.length - i) 6 0 ?_ ?_ ?_
    · omega
    · refine Vw.to [] _ _ (vU hU) ?_ ?_ (by simp [tauL])
      · refine vx (vx (vw_d ?_ (trivial)))
        · first
          | exact cl2
          | (
            refine sm2 ?_
            all_goals (
             rfl))
      · refine ⟨⟨by simp, rfl, cl3⟩, ⟨by simp, rfl, cl3⟩, trivial⟩
    · intro i hJ
      refine st ?_
      all_goals first
      | fail_if_success with_reducible refine atR 3 ?_
      | (
        refine rg 3 [] [some 6, some 7, some 8, some 9] 4 ?_
        all_goals iterate 4 refine qP ?_
        all_goals refine qE ?_)
      all_goals first
      | fail_if_success with_reducible refine atC 9 ?_
      | (
        refine cn 9 ?_ ?_ <;> intro hc9 <;> try (cases hc9; done)
        all_goals refine st ?_)
      all_goals first
      | fail_if_success with_reducible refine atR 5 ?_
      | (
        refine rg 5 [6] [some 12, some 13, some 14, some 15, some 16, some 17, some 18, some 19, some 3] 9 ?_
        all_goals iterate 3 refine qP ?_
        all_goals (
          refine qL_cons ?_
          intro R hR
          refine sm ?_
          refine ⟨⟨by omega, by omega⟩, ?_⟩
          all_goals (refine hR _ ?_; clear hR R))
        all_goals (
          refine qL_cons ?_
          intro R hR
          refine sm ?_
          refine ⟨by omega, ?_⟩
          intro x hx
          simp only [go_sem, reduceIte, reduceCtorEq, Nat.reduceAdd, Nat.reduceEqDiff, Nat.reduceLeDiff, Nat.reduceLT, Nat.reduceSub, Int.reduceLE, Int.reduceNeg, Int.reduceLT, mX]
          all_goals (refine hR _ ?_; clear hR R))
        all_goals (
          refine qL_cons ?_
          intro R hR
          refine sm ?_
          refine call_fun (l18Copy_spec x (h x (List.mem_of_getElem? hx))) [] ?_ (.inl rfl) ?_
          · exact ⟨.inl rfl, trivial⟩
          refine sm ?_
          all_goals (refine hR _ ?_; clear hR R))
        all_goals refine qP ?_
        all_goals (
          refine qL_cons ?_
          intro R hR
          refine sm ?_
          have hfl := List.length_take_le i ms
          refine ⟨by simp, by omega, ?_⟩
          all_goals (refine hR _ ?_; clear hR R))
        all_goals refine qP ?_
        all_goals refine qE ?_)
      all_goals first
      | fail_if_success with_reducible refine atR 4 ?_
      | (
        refine rg 4 [] [some 10, some 11, some 4] 3 ?_
        all_goals refine qP ?_
        all_goals (
          refine qL_cons ?_
          intro R hR
          refine sm ?_
          rw [wrap64 (by omega) (by omega)]
          all_goals (refine hR _ ?_; clear hR R))
        all_goals refine qP ?_
        all_goals refine qE ?_)
      all_goals first
      | fail_if_success with_reducible refine ⟨i + 1, ?_, ?_, ?_⟩
      | (
        refine ⟨i + 1, ?_, ?_, ?_⟩
        · omega
        · omega
        · refine Vw.to [(3, 17)] _ _ (fun n hn => by have := hU n hn; have h0 : n = 0 := (by omega); subst h0; exact ⟨by decide, rfl⟩) ?_ ?_ (by simp [tauL])
          · refine vx (vw_x ?_ (by first | rfl | simp [X.on, *]) (vw_d ?_ (trivial)))
            · first
              | exact cl2
              | (
                refine sm2 ?_
                all_goals (
                 congr 1
                 simp only [List.length_take]
                 omega))
            · first
              | exact cl2
              | (
                refine sm2 ?_
                all_goals (
                 congr 1))
          · refine ⟨⟨by simp, rfl, cl3⟩, ⟨by simp, rfl, ?_⟩, trivial⟩
            refine sm3 ?_
            simp only [takeM2 hx])
      all_goals first
      | fail_if_success with_reducible refine atR 6 ?_
      | (
        refine rg 6 [] [some 20, some 2] 2 ?_
        all_goals iterate 2 refine qP ?_
        all_goals refine qE ?_)
      all_goals (
        have hi : i = ms.length := by omega
        subst hi
        simp only [List.take_length]
        refine ret_o [.vec 1 4 0 ms.length] (Vw.to (g' := 2) [(1, 3)] [(2, .vec 1 4 0 ms.length)] [(0, .vec 34 4 (ms.map mX)), (1, .vec 34 4 (ms.map mX))] (fun n hn => by have := hU n hn; have h0 : n = 0 := (by omega); subst h0; exact ⟨by decide, rfl⟩) (vx trivial) ⟨⟨by omega, rfl, cl3⟩, ⟨by omega, rfl, ?_⟩, trivial⟩ (by simp [tauL])) cl cl ⟨cl, trivial⟩ rfl rfl
        exact cl3))

end
section
attribute [local go_sem] tsz9 tsz22 tsz34 tfld34 tel22 tel32 toNat_cast und9 zero34 tz9l iz9 tz34l iz34 aDst aSrc sS MMx
theorem copyMemos_row (ms : List Mm) (h : ∀ m ∈ ms, smM m) (hl : ms.length ≤ 1000000) : FunR Try.prog 39 [.d (.of mX ms)] (fun m => .vec m 4 0 ms.length) (.vec 34 4 (ms.map mX)) := by
  refine FunR.of ?_ rfl
  refine Spec.of (fn := Try.f39) Try.func39 rfl (by kernel_rfl) (rs := [.tmp 2]) rfl 1 (by simp [Try.f39]) rfl (by simp) ?_
  intro hreal
  rintro ⟨P, T, L0, w0, ι0, C0, U0⟩ hP hT hU
  subst hP hT
  refine st ?_
  all_goals first
  | fail_if_success with_reducible refine atR 0 ?_
  | (
    refine rg 0 [] [some 2] 1 ?_
    all_goals refine qP ?_
    all_goals refine qE ?_)
  all_goals first
  | fail_if_success with_reducible refine atR 1 ?_
  | (
    refine rg 1 [] [some 6, some 3] 2 ?_
    all_goals iterate 2 refine qP ?_
    all_goals refine qE ?_)
  all_goals first
  | fail_if_success with_reducible refine atR 2 ?_
  | (
    refine rg 2 [] [some 7, some 8, some 9] 3 ?_
    all_goals iterate 3 refine qP ?_
    all_goals refine qE ?_)
  all_goals first
  | fail_if_success with_reducible refine AW.rounds (α := Nat) ?_ ?_ ?_ ?_ ?_ ?_ ?_ ?_
  | (
    refine AW.rounds (α := Nat) (fun i => i ≤ ms.length) (fun i => St.by [(3, .vec 2 4 0 (ms.take i).length), (7, .d (.of mX ms)), (8, .d (.int .i64 ms.length)), (9, .d (.int .i64 i))] [(2, .vec 34 4 ((ms.take i).map mX))]) (fun i => ms.length - i) 7 0 ?_ ?_ ?_
    · omega
    · refine Vw.to [] _ _ (vU hU) ?_ ?_ (by simp [tauL])
      · refine vx (vd (vd (vw_d ?_ (trivial))))
        · first
          | exact cl2
          | (
            refine sm2 ?_
            all_goals (
             rfl))
      · refine ⟨⟨by simp, rfl, cl3⟩, trivial⟩
    · intro i hJ
      refine st ?_
      all_goals first
      | fail_if_success with_reducible refine atR 3 ?_
      | (
        refine rg 3 [] [some 10] 1 ?_
        all_goals refine qP ?_
        all_goals refine qE ?_)
      all_goals first
      | fail_if_success with_reducible refine atC 10 ?_
      | (
        refine cn 10 ?_ ?_ <;> intro hc10 <;> try (cases hc10; done)
        all_goals refine st ?_)
      all_goals first
      | fail_if_success with_reducible refine atR 4 ?_
      | (
        refine rg 4 [] [some 11, some 12, some 5, none] 4 ?_
        all_goals (
          refine qL_cons ?_
          intro R hR
          refine sm ?_
          refine ⟨⟨by omega, by omega⟩, ?_⟩
          intro x hx
          have hs := h x (List.mem_of_getElem? hx)
          obtain ⟨hs1, hs2, hs3, hs4⟩ := hs
          simp only [go_sem, reduceIte, reduceCtorEq, Nat.reduceAdd, Nat.reduceEqDiff, Nat.reduceLeDiff, Nat.reduceLT, Nat.reduceSub, Int.reduceLE, Int.reduceNeg, Int.reduceLT, mX]
          all_goals (refine hR _ ?_; clear hR R))
        all_goals iterate 3 refine qP ?_
        all_goals refine qE ?_)
      all_goals first
      | fail_if_success with_reducible refine atR 5 ?_
      | (
        refine rgW 5 [3, 6, 9, 12, 14] [some 13, some 14, some 15, some 16, some 17, some 18, some 19, some 20, some 21, some 22, some 23, some 24, some 25, some 26, some 27, some 28, some 3] 17 18 [(15, [2])] ?_
        intro av wr hav hwr
        have hf2_10 := avD 2 10 hav
        have hf5_10 := avD 5 10 hav
        have hf8_10 := avD 8 10 hav
        have hf11_10 := avD 11 10 hav
        have hf15_2 := avD 15 2 hav
        have hw15_2 := wrD 15 2 hwr
        all_goals iterate 2 refine qP ?_
        all_goals (
          refine qL_cons ?_
          intro R hR
          simp only [go_sem, reduceIte, reduceCtorEq, Nat.reduceAdd, Nat.reduceEqDiff, Nat.reduceLeDiff, Nat.reduceLT, Nat.reduceSub, Int.reduceLE, Int.reduceNeg, Int.reduceLT, hf2_10, hf5_10, hf8_10, hf11_10, hf15_2, hw15_2]
          all_goals (refine hR _ ?_; clear hR R))
        all_goals (
          refine qL_cons ?_
          intro R hR
          simp only [go_sem, reduceIte, reduceCtorEq, Nat.reduceAdd, Nat.reduceEqDiff, Nat.reduceLeDiff, Nat.reduceLT, Nat.reduceSub, Int.reduceLE, Int.reduceNeg, Int.reduceLT, hf2_10, hf5_10, hf8_10, hf11_10, hf15_2, hw15_2]
          refine call_row (Clone_spec x.old (by assumption)) [] ?_ (.inl rfl) ?_
          · exact ⟨.inl rfl, trivial⟩
          simp only [go_sem, reduceIte, reduceCtorEq, Nat.reduceAdd, Nat.reduceEqDiff, Nat.reduceLeDiff, Nat.reduceLT, Nat.reduceSub, Int.reduceLE, Int.reduceNeg, Int.reduceLT, hf2_10, hf5_10, hf8_10, hf11_10, hf15_2, hw15_2]
          all_goals (refine hR _ ?_; clear hR R))
        all_goals refine qP ?_
        all_goals (
          refine qL_cons ?_
          intro R hR
          simp only [go_sem, reduceIte, reduceCtorEq, Nat.reduceAdd, Nat.reduceEqDiff, Nat.reduceLeDiff, Nat.reduceLT, Nat.reduceSub, Int.reduceLE, Int.reduceNeg, Int.reduceLT, hf2_10, hf5_10, hf8_10, hf11_10, hf15_2, hw15_2]
          all_goals (refine hR _ ?_; clear hR R))
        all_goals (
          refine qL_cons ?_
          intro R hR
          simp only [go_sem, reduceIte, reduceCtorEq, Nat.reduceAdd, Nat.reduceEqDiff, Nat.reduceLeDiff, Nat.reduceLT, Nat.reduceSub, Int.reduceLE, Int.reduceNeg, Int.reduceLT, hf2_10, hf5_10, hf8_10, hf11_10, hf15_2, hw15_2]
          refine call_row (Clone_spec x.one (by assumption)) [] ?_ (.inl rfl) ?_
          · exact ⟨.inl rfl, trivial⟩
          simp only [go_sem, reduceIte, reduceCtorEq, Nat.reduceAdd, Nat.reduceEqDiff, Nat.reduceLeDiff, Nat.reduceLT, Nat.reduceSub, Int.reduceLE, Int.reduceNeg, Int.reduceLT, hf2_10, hf5_10, hf8_10, hf11_10, hf15_2, hw15_2]
          all_goals (refine hR _ ?_; clear hR R))
        all_goals refine qP ?_
        all_goals (
          refine qL_cons ?_
          intro R hR
          simp only [go_sem, reduceIte, reduceCtorEq, Nat.reduceAdd, Nat.reduceEqDiff, Nat.reduceLeDiff, Nat.reduceLT, Nat.reduceSub, Int.reduceLE, Int.reduceNeg, Int.reduceLT, hf2_10, hf5_10, hf8_10, hf11_10, hf15_2, hw15_2]
          all_goals (refine hR _ ?_; clear hR R))
        all_goals (
          refine qL_cons ?_
          intro R hR
          simp only [go_sem, reduceIte, reduceCtorEq, Nat.reduceAdd, Nat.reduceEqDiff, Nat.reduceLeDiff, Nat.reduceLT, Nat.reduceSub, Int.reduceLE, Int.reduceNeg, Int.reduceLT, hf2_10, hf5_10, hf8_10, hf11_10, hf15_2, hw15_2]
          refine call_row (Clone_spec x.two (by assumption)) [] ?_ (.inl rfl) ?_
          · exact ⟨.inl rfl, trivial⟩
          simp only [go_sem, reduceIte, reduceCtorEq, Nat.reduceAdd, Nat.reduceEqDiff, Nat.reduceLeDiff, Nat.reduceLT, Nat.reduceSub, Int.reduceLE, Int.reduceNeg, Int.reduceLT, hf2_10, hf5_10, hf8_10, hf11_10, hf15_2, hw15_2]
          all_goals (refine hR _ ?_; clear hR R))
        all_goals refine qP ?_
        all_goals (
          refine qL_cons ?_
          intro R hR
          simp only [go_sem, reduceIte, reduceCtorEq, Nat.reduceAdd, Nat.reduceEqDiff, Nat.reduceLeDiff, Nat.reduceLT, Nat.reduceSub, Int.reduceLE, Int.reduceNeg, Int.reduceLT, hf2_10, hf5_10, hf8_10, hf11_10, hf15_2, hw15_2]
          all_goals (refine hR _ ?_; clear hR R))
        all_goals (
          refine qL_cons ?_
          intro R hR
          simp only [go_sem, reduceIte, reduceCtorEq, Nat.reduceAdd, Nat.reduceEqDiff, Nat.reduceLeDiff, Nat.reduceLT, Nat.reduceSub, Int.reduceLE, Int.reduceNeg, Int.reduceLT, hf2_10, hf5_10, hf8_10, hf11_10, hf15_2, hw15_2]
          refine call_row (Clone_spec x.done (by assumption)) [] ?_ (.inl rfl) ?_
          · exact ⟨.inl rfl, trivial⟩
          simp only [go_sem, reduceIte, reduceCtorEq, Nat.reduceAdd, Nat.reduceEqDiff, Nat.reduceLeDiff, Nat.reduceLT, Nat.reduceSub, Int.reduceLE, Int.reduceNeg, Int.reduceLT, hf2_10, hf5_10, hf8_10, hf11_10, hf15_2, hw15_2]
          all_goals (refine hR _ ?_; clear hR R))
        all_goals iterate 2 refine qP ?_
        all_goals (
          refine qL_cons ?_
          intro R hR
          simp only [go_sem, reduceIte, reduceCtorEq, Nat.reduceAdd, Nat.reduceEqDiff, Nat.reduceLeDiff, Nat.reduceLT, Nat.reduceSub, Int.reduceLE, Int.reduceNeg, Int.reduceLT, hf2_10, hf5_10, hf8_10, hf11_10, hf15_2, hw15_2]
          have hfl := List.length_take_le i ms
          refine ⟨by simp, by omega, ?_⟩
          all_goals (refine hR _ ?_; clear hR R))
        all_goals refine qP ?_
        all_goals refine qE ?_
        all_goals clear hf2_10 hf5_10 hf8_10 hf11_10 hf15_2 hw15_2 hav hwr wr av)
      all_goals first
      | fail_if_success with_reducible refine atR 6 ?_
      | (
        refine rg 6 [] [some 29, some 9] 2 ?_
        all_goals (
          refine qL_cons ?_
          intro R hR
          refine sm ?_
          rw [wrap64 (by omega) (by omega)]
          all_goals (refine hR _ ?_; clear hR R))
        all_goals refine qP ?_
        all_goals refine qE ?_)
      all_goals first
      | fail_if_success with_reducible refine ⟨i + 1, ?_, ?_, ?_⟩
      | (
        refine ⟨i + 1, ?_, ?_, ?_⟩
        · omega
        · omega
        · refine Vw.to [(2, 27)] _ _ (fun n hn => absurd (hU n hn) (by omega)) ?_ ?_ (by simp [tauL])
          · refine vw_x ?_ (by first | rfl | simp [X.on, *]) (vd (vd (vw_d ?_ (trivial))))
            · first
              | exact cl2
              | (
                refine sm2 ?_
                all_goals (
                 congr 1
                 simp only [List.length_take]
                 omega))
            · first
              | exact cl2
              | (
                refine sm2 ?_
                all_goals (
                 congr 1))
          · refine ⟨⟨by simp, rfl, ?_⟩, trivial⟩
            refine sm3 ?_
            simp only [takeM2 hx])
      all_goals first
      | fail_if_success with_reducible refine atR 7 ?_
      | (
        refine rg 7 [] [some 30, some 2] 2 ?_
        all_goals iterate 2 refine qP ?_
        all_goals refine qE ?_)
      all_goals (
        have hi : i = ms.length := by omega
        subst hi
        simp only [List.take_length]
        exact ret_vec (ty := 34) 2 hU cl cl))

theorem succNat (i : Nat) : ((i : Int) + 1).toNat = i + 1 := by omega
theorem zd34 : (tzero Try.prog 34).bind datL = some [.sl [], .sl [], .sl [], .sl []] := by kernel_rfl
theorem cut_del {α : Type} {es : List α} {i n : Nat} (hi : i < n) (hn : es.length = n) (R D B : List α) :
    ((es.take i ++ (es.drop (i + 1)).take (n - (i + 1)) ++ B).take (i + (n - (i + 1))) ++ R ++ D).take (n - 1) = es.eraseIdx i := by
  have h1 : (es.drop (i + 1)).take (n - (i + 1)) = es.drop (i + 1) := List.take_of_length_le (by simp; omega)
  rw [h1, List.eraseIdx_eq_take_drop_succ]
  have h2 : (es.take i ++ es.drop (i + 1)).length = n - 1 := by simp; omega
  have h3 : i + (n - (i + 1)) = n - 1 := by omega
  rw [h3, List.take_left' h2, List.append_assoc, List.take_left' h2]
end
section
attribute [local go_sem] tsz9 tsz22 tsz34 tfld34 tel22 tel32 toNat_cast und9 zero34 tz9l iz9 tz34l iz34 aDst aSrc sS MMx aIn aClear aPart caps1 succNat zd34 Nat.min_self List.length_take List.length_drop List.length_append
theorem Delete_spec (ms : List Mm) (i : Nat) (hi : i < ms.length) (hl : ms.length ≤ 1000000) : Spec Try.prog 41 [.vec 0 4 0 ms.length, .d (.int .i64 i), .d (.int .i64 ((i : Int) + 1))] [(0, .vec 34 4 (ms.map mX))] 1 (fun x' δ => x' = .vec 1 4 0 ((ms.map mX).eraseIdx i).length ∧ δ = [(0, none), (1, some (.vec 34 4 ((ms.map mX).eraseIdx i)))]) := by
  refine Spec.of (fn := Try.f41) Try.func41 rfl (by kernel_rfl) (rs := [.tmp 6]) rfl 2 (by simp [Try.f41]) rfl (by simp [Cap.on, X.onL, X.on]) ?_
  intro hreal
  rintro ⟨P, T, L0, w0, ι0, C0, U0⟩ hP hT hU
  subst hP hT
  refine st ?_
  all_goals first
  | fail_if_success with_reducible refine atR 0 ?_
  | (
    refine rg 0 [] [some 6] 1 ?_
    all_goals refine qP ?_
    all_goals refine qE ?_)
  all_goals first
  | fail_if_success with_reducible refine atR 1 ?_
  | (
    refine rg 1 [] [some 8, some 9, some 10, some 11, some 12, some 13] 6 ?_
    all_goals iterate 5 refine qP ?_
    all_goals (
      refine qL_cons ?_
      intro R hR
      refine sm ?_
      refine ⟨⟨by omega, by omega, by omega, by omega⟩, ?_⟩
      all_goals (refine hR _ ?_; clear hR R))
    all_goals refine qE ?_)
  all_goals first
  | fail_if_success with_reducible refine atR 2 ?_
  | (
    refine rg 2 [] [some 14, some 15, some 16] 3 ?_
    all_goals iterate 3 refine qP ?_
    all_goals refine qE ?_)
  all_goals first
  | fail_if_success with_reducible refine atC 16 ?_
  | (
    refine cn 16 ?_ ?_ <;> intro hc16 <;> try (cases hc16; done)
    all_goals refine st ?_)
  all_goals try (omega; done)
  all_goals first
  | fail_if_success with_reducible refine atR 3 ?_
  | (
    refine rg 3 [] [some 17, some 6] 2 ?_
    all_goals iterate 2 refine qP ?_
    all_goals refine qE ?_)
  all_goals first
  | fail_if_success with_reducible refine atR 4 ?_
  | (
    refine rg 4 [] [some 18, some 19, some 7] 3 ?_
    all_goals iterate 3 refine qP ?_
    all_goals refine qE ?_)
  all_goals first
  | fail_if_success with_reducible refine atR 5 ?_
  | (
    refine rgW 5 [] [some 20, some 21, some 22, some 23, some 24, some 25, some 26, some 0] 8 9 [(6, [0])] ?_
    intro av wr hav hwr
    have hf6_0 := avD 6 0 hav
    have hw6_0 := wrD 6 0 hwr
    all_goals iterate 2 refine qP ?_
    all_goals (
      refine qL_cons ?_
      intro R hR
      simp only [go_sem, reduceIte, reduceCtorEq, Nat.reduceAdd, Nat.reduceEqDiff, Nat.reduceLeDiff, Nat.reduceLT, Nat.reduceSub, Int.reduceLE, Int.reduceNeg, Int.reduceLT, hf6_0, hw6_0]
      refine ⟨⟨by omega, by omega⟩, ?_⟩
      all_goals (refine hR _ ?_; clear hR R))
    all_goals iterate 2 refine qP ?_
    all_goals (
      refine qL_cons ?_
      intro R hR
      simp only [go_sem, reduceIte, reduceCtorEq, Nat.reduceAdd, Nat.reduceEqDiff, Nat.reduceLeDiff, Nat.reduceLT, Nat.reduceSub, Int.reduceLE, Int.reduceNeg, Int.reduceLT, hf6_0, hw6_0]
      refine ⟨⟨by omega, by omega⟩, ?_⟩
      all_goals (refine hR _ ?_; clear hR R))
    all_goals (
      refine qL_cons ?_
      intro R hR
      simp only [go_sem, reduceIte, reduceCtorEq, Nat.reduceAdd, Nat.reduceEqDiff, Nat.reduceLeDiff, Nat.reduceLT, Nat.reduceSub, Int.reduceLE, Int.reduceNeg, Int.reduceLT, hf6_0, hw6_0, hi]
      refine ⟨by omega, by omega, ?_⟩
      all_goals (refine hR _ ?_; clear hR R))
    all_goals refine qP ?_
    all_goals refine qE ?_
    all_goals clear hf6_0 hw6_0 hav hwr wr av)
  all_goals first
  | fail_if_success with_reducible refine atR 6 ?_
  | (
    refine rg 6 [] [some 27, some 28, some 29, some 30, some 31, none] 6 ?_
    all_goals iterate 4 refine qP ?_
    all_goals (
      refine qL_cons ?_
      intro R hR
      simp only [go_sem, reduceIte, reduceCtorEq, Nat.reduceAdd, Nat.reduceEqDiff, Nat.reduceLeDiff, Nat.reduceLT, Nat.reduceSub, Int.reduceLE, Int.reduceNeg, Int.reduceLT, hi]
      refine ⟨⟨by omega, by omega, by simp; omega⟩, ?_⟩
      all_goals (refine hR _ ?_; clear hR R))
    all_goals (
      refine qL_cons ?_
      intro R hR
      refine sm ?_
      refine ⟨by omega, ?_, ?_⟩
      · intro h0
        have h1 := congrArg List.length h0
        simp at h1
        omega
      all_goals (refine hR _ ?_; clear hR R))
    all_goals refine qE ?_)
  all_goals refine AW.view (Vw.trunc 0 4 (ms.length - 1) _ cl) ?_
  all_goals first
  | fail_if_success with_reducible refine atR 7 ?_
  | (
    refine rg 7 [] [some 32, some 6] 2 ?_
    all_goals iterate 2 refine qP ?_
    all_goals refine qE ?_)
  all_goals (
    refine ret_mv 0 hU ?_ ?_
    · refine sm ?_
      congr 1
      simp [List.length_eraseIdx, hi]
      try omega
    · refine sm ?_
      congr 2
      exact cut_del hi (by simp) _ _ _)

end
end Go.Proofs.Ytmlbdicaeefomaa
