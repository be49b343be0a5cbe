/- owners, of both; who owns a path, of both. No condition. -/
import Derived.Test.YtkbnkcdaiahoeaaDoorD2
import Derived.Test.YtkbnkcdaiahoeaaDoorE9
namespace Go.Proofs.YtkbnkcdaiahoeaaDoor
open Go Go.RowKit
set_option maxRecDepth 100000
set_option maxHeartbeats 4000000
set_option linter.unusedSimpArgs false
set_option linter.unusedVariables false
theorem tsz35 : tsz Tryd.prog 35 = some (true, 2) := by kernel_rfl
theorem tfld35 : tfld Tryd.prog 35 = some [(0, 9), (1, 9)] := by kernel_rfl
theorem zero35 : tzero Tryd.prog 35 = some [.d (.str ByteArray.empty), .d (.str ByteArray.empty)] := by kernel_rfl
theorem tel25 : telem Tryd.prog 25 = some (35, 2, 32) := by kernel_rfl
theorem und5b : Tryd.prog.underlying 5 = some (.int .u8) := by kernel_rfl
structure Ow where
  path : ByteArray
  who : ByteArray
def owX (o : Ow) : List D := [.str o.path, .str o.who]
def okO (os : List Ow) (i : Nat) : Bool := match os[i]? with
  | some o => pthB o.path && nmB o.who && (i == 0 || match os[i - 1]? with | some r => strLt r.path o.path | none => true)
  | none => true
/-- Who owns which path, by paths that ascend, not too many. -/
def owB (os : List Ow) : Bool := (List.range os.length).all (okO os) && decide ((os.length : Int) ≤ 5)
theorem ow_end {os : List Ow} {i : Nat} (h : ∀ j, j < i → okO os j = true) (hi : os.length ≤ i) : decide ((os.length : Int) ≤ 5) = owB os := by
  have : (List.range os.length).all (okO os) = true := by
    rw [List.all_eq_true]
    intro j hj
    exact h j (by have := List.mem_range.1 hj; omega)
  simp [owB, this]
theorem ow_bad {os : List Ow} {i : Nat} (hi : i < os.length) (h : okO os i = false) : false = owB os := by
  have : (List.range os.length).all (okO os) = false := by
    rw [List.all_eq_false]
    exact ⟨i, List.mem_range.2 hi, by simp [h]⟩
  simp [owB, this]
theorem okO_1 {os : List Ow} {i : Nat} {x : Ow} (hx : os[i]? = some x) (hp : pthB x.path = true) (hn : nmB x.who = true) (hi : i = 0) : okO os i = true := by
  subst hi; simp [okO, hx, hn, hp]
theorem okO_2 {os : List Ow} {i : Nat} {x r : Ow} (hx : os[i]? = some x) (hp : pthB x.path = true) (hn : nmB x.who = true) (hr : os[i - 1]? = some r) (h1 : strLt r.path x.path = true) : okO os i = true := by
  simp [okO, hx, hn, hp, hr, h1]
theorem okO_3 {os : List Ow} {i : Nat} {x : Ow} (hx : os[i]? = some x) (hp : pthB x.path = false ∨ nmB x.who = false) : okO os i = false := by
  rcases hp with h | h <;> simp [okO, hx, h]
theorem okO_4 {os : List Ow} {i : Nat} {x r : Ow} (hx : os[i]? = some x) (hi : 0 < i) (hr : os[i - 1]? = some r) (h1 : strLt r.path x.path = false) : okO os i = false := by
  simp [okO, hx, hr, h1, show i ≠ 0 by omega]
theorem strLt_lt {a b : ByteArray} (h : strLt a b = true) : ¬ (strLt b a = true ∨ b = a) := by
  rintro (h1 | h1)
  · rw [strLt_asymm h] at h1; cases h1
  · subst h1; rw [strLt_irrefl] at h; cases h
theorem get_use {α : Type} {l : List α} {i : Nat} {x : α} {Φ : α → Prop} (hx : l[i]? = some x) (h : Φ x) : ∀ z, l[i]? = some z → Φ z := by
  intro z hz
  rw [hx] at hz
  cases hz
  exact h
attribute [local go_sem] List.size_toArray Int.toNat_zero Nat.sub_zero size_mk top_val eq_self datL X.dat u8min u8max i64min i64max stepT gdO aop ev lit litOk putF fzX_false putO upd app List.contains_nil List.elem_nil aBin aInt aStr aBool aLen lenTy aBuiltin aLoad aTake aTakeX aStore splice aSlice aBd look_cons look_nil lookC_cons lookC_nil by_s by_C start_s start_C X.cells X.cell List.all_cons List.all_nil Bool.and_self Bool.not_true Bool.not_false false_implies true_implies forall_const and_true true_and and_self implies_true not_false_eq_true Nat.zero_add Nat.add_zero List.getD_cons_zero List.getD_cons_succ List.map_cons List.map_nil Option.bind_some Option.map_some Option.map_none List.getElem?_cons_zero List.getElem?_cons_succ List.length_cons List.length_nil List.drop_zero List.drop_succ_cons List.take_succ_cons List.take_zero List.cons_append List.nil_append List.append_nil D.of List.length_map all_get_map Option.isSome_some and_false false_and Nat.lt_add_one Nat.zero_lt_succ decide_true decide_false aPart aSl2 Nat.lt_irrefl fzX litEs List.contains_cons List.elem_cons Bool.true_or Bool.or_true Bool.false_or Bool.or_false beq_self_eq_true
section
attribute [local go_sem] tsz9 tsz39 tel39 toNat_cast und9 sS
theorem l4Path_spec (s : ByteArray) (hs : s.size ≤ 1000000) : Fun Tryd.prog 40 [.d (.str s)] (.d (.bool (pthB s))) := by
  refine Fun.of ?_ rfl rfl
  refine Spec.of (fn := Tryd.f40) Tryd.func40 rfl (by kernel_rfl) (rs := [.tmp 2]) rfl 1 (by simp [Tryd.f40]) rfl (by simp) ?_
  intro hreal
  rintro ⟨P, T, L0, w0, ι0, C0, U0⟩ hP hT hU
  subst hP hT
  refine st ?_
  have hcl := cut_one 47 3 s
  all_goals first
  | fail_if_success with_reducible refine atR 0 ?_
  | (
    refine rg 0 [] [some 2] 1 ?_
    all_goals refine qP ?_
    all_goals refine qE ?_)
  all_goals first
  | fail_if_success with_reducible refine atR 1 ?_
  | (
    refine rg 1 [] [some 5, some 6, some 3] 3 ?_
    all_goals refine qP ?_
    all_goals (
      refine qL_cons ?_
      intro R hR
      refine sm ?_
      refine call_row (l1Cut_spec s 47 3 hs (by omega)) [] ?_ (.inl rfl) ?_
      · exact ⟨.inl rfl, ⟨.inl rfl, ⟨.inl rfl, trivial⟩⟩⟩
      refine sm ?_
      all_goals (refine hR _ ?_; clear hR R))
    all_goals refine qP ?_
    all_goals refine qE ?_)
  all_goals first
  | fail_if_success with_reducible refine atR 2 ?_
  | (
    refine rg 2 [] [some 4] 1 ?_
    all_goals refine qP ?_
    all_goals refine qE ?_)
  all_goals first
  | fail_if_success with_reducible refine AW.rounds (α := Nat) ?_ ?_ ?_ ?_ ?_ ?_ ?_ ?_
  | (
    refine AW.rounds (α := Nat) (fun i => i ≤ (cutN 47 3 s).length ∧ ∀ j y, j < i → (cutN 47 3 s)[j]? = some y → nmB y = true) (fun i => St.by [(0, .d (.str s)), (3, .vec 3 1 0 (cutN 47 3 s).length), (4, .d (.int .i64 i))] [(3, .vec 9 1 ((cutN 47 3 s).map sS))]) (fun i => (cutN 47 3 s).length - i) 5 0 ?_ ?_ ?_
    · exact ⟨by omega, fun j y hj => by omega⟩
    · refine Vw.to [] _ _ (vU hU) ?_ ?_ (by simp [tauL])
      · refine vd (vx (vw_d ?_ (trivial)))
        · first
          | exact cl2
          | (
            refine sm2 ?_
            all_goals (
             rfl))
      · exact ⟨⟨by simp, rfl, cl3⟩, trivial⟩
    · intro i hJ
      refine st ?_
      obtain ⟨hJ1, hJ2⟩ := hJ
      all_goals first
      | fail_if_success with_reducible refine atR 3 ?_
      | (
        refine rg 3 [] [some 7, some 8, some 9, some 10] 4 ?_
        all_goals iterate 4 refine qP ?_
        all_goals refine qE ?_)
      all_goals first
      | fail_if_success with_reducible refine atC 10 ?_
      | (
        refine cn 10 ?_ ?_ <;> intro hc10 <;> try (cases hc10; done)
        all_goals refine st ?_)
      all_goals first
      | fail_if_success with_reducible refine atR 5 ?_
      | (
        refine rg 5 [] [some 13, some 14, some 15, some 16, some 17, some 18] 6 ?_
        all_goals iterate 2 refine qP ?_
        all_goals (
          refine qL_cons ?_
          intro R hR
          refine sm ?_
          refine ⟨⟨by omega, by omega⟩, ?_⟩
          all_goals (refine hR _ ?_; clear hR R))
        all_goals (
          refine qL_cons ?_
          intro R hR
          refine sm ?_
          refine ⟨by omega, ?_⟩
          intro x hx
          all_goals (refine hR _ ?_; clear hR R))
        all_goals (
          refine qL_cons ?_
          intro R hR
          refine sm ?_
          refine call_fun (l4Name_spec x) [] ?_ (.inl rfl) ?_
          · exact ⟨.inl rfl, trivial⟩
          refine sm ?_
          all_goals (refine hR _ ?_; clear hR R))
        all_goals refine qP ?_
        all_goals refine qE ?_)
      all_goals first
      | fail_if_success with_reducible refine atC 18 ?_
      | (
        refine cn 18 ?_ ?_ <;> intro hc18 <;> try (cases hc18; done)
        all_goals refine st ?_)
      all_goals first
      | fail_if_success with_reducible refine atR 6 ?_
      | (
        refine rg 6 [] [some 2] 1 ?_
        all_goals refine qP ?_
        all_goals refine qE ?_)
      all_goals first
      | fail_if_success with_reducible refine atR 4 ?_
      | (
        refine rg 4 [] [some 11, some 12, some 4] 3 ?_
        all_goals refine qP ?_
        all_goals (
          refine qL_cons ?_
          intro R hR
          refine sm ?_
          rw [wrap64 (by omega) (by omega)]
          all_goals (refine hR _ ?_; clear hR R))
        all_goals refine qP ?_
        all_goals refine qE ?_)
      all_goals first
      | fail_if_success with_reducible refine ⟨i + 1, ?_, ?_, ?_⟩
      | (
        refine ⟨i + 1, ?_, ?_, ?_⟩
        · refine ⟨by omega, fun j y hj hy => ?_⟩
          by_cases hji : j = i
          · subst hji; rw [hx] at hy; cases hy; simpa using hc18
          · exact hJ2 j y (by omega) hy
        · omega
        · refine Vw.to [] _ _ (vU hU) ?_ ?_ (by simp [tauL])
          · refine vd (vx (vw_d ?_ (trivial)))
            · first
              | exact cl2
              | (
                refine sm2 ?_
                all_goals (
                 congr 1))
          · exact ⟨⟨by simp, rfl, cl3⟩, trivial⟩)
      all_goals first
      | fail_if_success with_reducible refine atR 7 ?_
      | (
        refine rg 7 [] [some 19, some 20, some 21, some 2] 4 ?_
        all_goals iterate 4 refine qP ?_
        all_goals refine qE ?_)
      all_goals first
      | fail_if_success with_reducible refine ret_fun (t := 2) ?_ ?_
      | (
        refine ret_fun (t := 2) ?_ (fun _ => rfl)
        first
        | exact cl
        | (
          try refine sm ?_
          all_goals (
           first
           | (congr 2; rw [← pth_cut]
              have : (cutN 47 3 s).all nmB = true := by
                rw [List.all_eq_true]
                intro y hy
                obtain ⟨j, hj, rfl⟩ := List.mem_iff_getElem.1 hy
                exact hJ2 j _ (by omega) (by simp)
              rw [this, Bool.and_true])
           | (congr 2; rw [← pth_cut]
              have : (cutN 47 3 s).all nmB = false := by
                rw [List.all_eq_false]
                exact ⟨x, List.mem_of_getElem? hx, by simpa using hc18⟩
              rw [this, Bool.and_false])))))

end
section
attribute [local go_sem] tsz9 tsz39 tel39 toNat_cast und9 sS und5b
theorem l4In_spec (dir path : ByteArray) : Fun Tryd.prog 68 [.d (.str dir), .d (.str path)] (.d (.bool (inB dir path))) := by
  refine Fun.of ?_ rfl rfl
  refine Spec.of (fn := Tryd.f68) Tryd.func68 rfl (by kernel_rfl) (rs := [.tmp 4]) rfl 1 (by simp [Tryd.f68]) rfl (by simp) ?_
  intro hreal
  rintro ⟨P, T, L0, w0, ι0, C0, U0⟩ hP hT hU
  subst hP hT
  refine st ?_
  all_goals first
  | fail_if_success with_reducible refine atR 0 ?_
  | (
    refine rg 0 [] [some 4] 1 ?_
    all_goals refine qP ?_
    all_goals refine qE ?_)
  all_goals first
  | fail_if_success with_reducible refine atR 1 ?_
  | (
    refine rg 1 [] [some 5, some 6, some 7, some 8, some 9, some 10, some 11, some 12, some 13, some 14, some 15, some 16, some 17, some 18, some 19, some 20, some 21, some 22, some 23, some 24, some 4] 21 ?_
    all_goals iterate 6 refine qP ?_
    all_goals first | refine qU 10 ?_ | (refine qS 10 ?_ ?_ <;> intro hg1_5 <;> try (cases hg1_5; done))
    all_goals iterate 3 refine qP ?_
    all_goals first
    | (
      refine qL_cons ?_
      intro R hR
      refine sm ?_
      refine ⟨⟨by omega, by omega⟩, ?_⟩
      refine hR _ ?_
      clear hR R)
    | refine qP ?_
    all_goals iterate 4 refine qP ?_
    all_goals first | refine qU 18 ?_ | (refine qS 18 ?_ ?_ <;> intro hg1_13 <;> try (cases hg1_13; done))
    all_goals iterate 3 refine qP ?_
    all_goals first
    | (
      refine qL_cons ?_
      intro R hR
      refine sm ?_
      refine ⟨⟨by omega, by omega⟩, ?_⟩
      intro x hx
      refine hR _ ?_
      clear hR R)
    | refine qP ?_
    all_goals iterate 3 refine qP ?_
    all_goals refine qE ?_)
  all_goals first
  | fail_if_success with_reducible refine ret_fun (t := 4) ?_ ?_
  | (
    refine ret_fun (t := 4) ?_ (fun _ => rfl)
    first
    | exact cl
    | (
      try refine sm ?_
      all_goals (
       (congr 2
        simp only [inB]
        first
        | (have hxx : decide (path.data[dir.size]? = some 47) = decide ((x.toNat : Int) = 47) := by
             rw [hx]
             refine decide_eq_decide.2 ⟨fun h => by cases h; rfl, fun h => ?_⟩
             congr 1
             exact UInt8.toNat_inj.1 (by simpa using (show x.toNat = 47 by omega))
           rw [hxx]
           simp_all; done)
        | (simp_all; done)
        | (simp_all; intro h; omega)))))

end
section
attribute [local go_sem] tsz9 tsz39 tel39 toNat_cast und9 tsz35 tfld35 tel25 zero35 owX
theorem implOwnersOk (os : List Ow) (hs : ∀ o ∈ os, o.path.size ≤ 1000000) : Fun Tryd.prog 12 [.d (.of owX os)] (.d (.bool (owB os))) := by
  refine Fun.of ?_ rfl rfl
  refine Spec.of (fn := Tryd.f12) Tryd.func12 rfl (by kernel_rfl) (rs := [.tmp 2]) rfl 1 (by simp [Tryd.f12]) rfl (by simp) ?_
  intro hreal
  rintro ⟨P, T, L0, w0, ι0, C0, U0⟩ hP hT hU
  subst hP hT
  refine st ?_
  have hlen : os.length ≤ 9223372036854775807 := by simpa using D.real_len (X.real_d (hreal (.d (.of owX os)) (by simp)) : D.real (.sl (os.map owX)))
  all_goals first
  | fail_if_success with_reducible refine atR 0 ?_
  | (
    refine rg 0 [] [some 2] 1 ?_
    all_goals refine qP ?_
    all_goals refine qE ?_)
  all_goals first
  | fail_if_success with_reducible refine atR 1 ?_
  | (
    refine rg 1 [] [some 5, some 6, some 7] 3 ?_
    all_goals iterate 3 refine qP ?_
    all_goals refine qE ?_)
  all_goals first
  | fail_if_success with_reducible refine AW.rounds (α := Nat) ?_ ?_ ?_ ?_ ?_ ?_ ?_ ?_
  | (
    refine AW.rounds (α := Nat) (fun i => i ≤ os.length ∧ ∀ j, j < i → okO os j = true) (fun i => St.by [(0, .d (.of owX os)), (5, .d (.of owX os)), (6, .d (.int .i64 os.length)), (7, .d (.int .i64 i))] []) (fun i => os.length - i) 5 0 ?_ ?_ ?_
    · exact ⟨by omega, fun j hj => by omega⟩
    · refine Vw.to [] _ _ (vU hU) ?_ ?_ (by simp [tauL])
      · refine vd (vd (vd (vw_d ?_ (trivial))))
        · first
          | exact cl2
          | (
            refine sm2 ?_
            all_goals (
             rfl))
      · trivial
    · intro i hJ
      refine st ?_
      obtain ⟨hJ1, hJ2⟩ := hJ
      all_goals first
      | fail_if_success with_reducible refine atR 2 ?_
      | (
        refine rg 2 [] [some 8] 1 ?_
        all_goals refine qP ?_
        all_goals refine qE ?_)
      all_goals first
      | fail_if_success with_reducible refine atC 8 ?_
      | (
        refine cn 8 ?_ ?_ <;> intro hc8 <;> try (cases hc8; done)
        all_goals refine st ?_)
      all_goals first
      | fail_if_success with_reducible refine atR 3 ?_
      | (
        refine rg 3 [] [some 9, some 10, some 11, some 4, some 3, none] 6 ?_
        all_goals refine qP ?_
        all_goals (
          refine qL_cons ?_
          intro R hR
          refine sm ?_
          refine ⟨⟨by omega, by omega⟩, ?_⟩
          intro x hx
          have hxs := hs x (List.mem_of_getElem? hx)
          try simp only [go_sem, reduceIte, reduceCtorEq, Nat.reduceAdd, Nat.reduceEqDiff, Nat.reduceLeDiff, Nat.reduceLT, Nat.reduceSub, Int.reduceLE, Int.reduceNeg, Int.reduceLT, owX]
          all_goals (refine hR _ ?_; clear hR R))
        all_goals iterate 4 refine qP ?_
        all_goals refine qE ?_)
      all_goals first
      | fail_if_success with_reducible refine atR 4 ?_
      | (
        refine rgD 4 [] [some 12, some 13, some 14, some 15, some 16, some 17, some 18, some 19, some 20, some 21, some 22, some 23, some 24, some 25, some 26, some 27, some 28, some 29, some 30, some 31, some 32, some 33, some 34, some 35, some 36] 25 26 ?_
        intro av hav
        have hf9 := freeD 9 hav
        all_goals refine qP ?_
        all_goals (
          refine qL_cons ?_
          intro R hR
          simp only [go_sem, reduceIte, reduceCtorEq, Nat.reduceAdd, Nat.reduceEqDiff, Nat.reduceLeDiff, Nat.reduceLT, Nat.reduceSub, Int.reduceLE, Int.reduceNeg, Int.reduceLT, hf9]
          all_goals (refine hR _ ?_; clear hR R))
        all_goals (
          refine qL_cons ?_
          intro R hR
          simp only [go_sem, reduceIte, reduceCtorEq, Nat.reduceAdd, Nat.reduceEqDiff, Nat.reduceLeDiff, Nat.reduceLT, Nat.reduceSub, Int.reduceLE, Int.reduceNeg, Int.reduceLT, hf9]
          refine call_fun (PathOk_spec x.path hxs) [] ?_ (.inl rfl) ?_
          · exact ⟨.inl rfl, trivial⟩
          simp only [go_sem, reduceIte, reduceCtorEq, Nat.reduceAdd, Nat.reduceEqDiff, Nat.reduceLeDiff, Nat.reduceLT, Nat.reduceSub, Int.reduceLE, Int.reduceNeg, Int.reduceLT, hf9]
          all_goals (refine hR _ ?_; clear hR R))
        all_goals iterate 2 refine qP ?_
        all_goals first | refine qU 16 ?_ | (refine qS 16 ?_ ?_ <;> intro hg4_4 <;> try (cases hg4_4; done))
        all_goals refine qP ?_
        all_goals first
        | (
          refine qL_cons ?_
          intro R hR
          simp only [go_sem, reduceIte, reduceCtorEq, Nat.reduceAdd, Nat.reduceEqDiff, Nat.reduceLeDiff, Nat.reduceLT, Nat.reduceSub, Int.reduceLE, Int.reduceNeg, Int.reduceLT, hf9]
          refine hR _ ?_
          clear hR R)
        | refine qP ?_
        all_goals first
        | (
          refine qL_cons ?_
          intro R hR
          simp only [go_sem, reduceIte, reduceCtorEq, Nat.reduceAdd, Nat.reduceEqDiff, Nat.reduceLeDiff, Nat.reduceLT, Nat.reduceSub, Int.reduceLE, Int.reduceNeg, Int.reduceLT, hf9]
          refine call_fun (nameOk_spec x.who) [] ?_ (.inl rfl) ?_
          · exact ⟨.inl rfl, trivial⟩
          simp only [go_sem, reduceIte, reduceCtorEq, Nat.reduceAdd, Nat.reduceEqDiff, Nat.reduceLeDiff, Nat.reduceLT, Nat.reduceSub, Int.reduceLE, Int.reduceNeg, Int.reduceLT, hf9]
          refine hR _ ?_
          clear hR R)
        | refine qP ?_
        all_goals iterate 3 refine qP ?_
        all_goals first | refine qU 22 ?_ | (refine qS 22 ?_ ?_ <;> intro hg4_10 <;> try (cases hg4_10; done))
        all_goals iterate 3 refine qP ?_
        all_goals first | refine qU 25 ?_ | (refine qS 25 ?_ ?_ <;> intro hg4_13 <;> try (cases hg4_13; done))
        all_goals iterate 2 refine qP ?_
        all_goals first
        | (
          refine qL_cons ?_
          intro R hR
          simp only [go_sem, reduceIte, reduceCtorEq, Nat.reduceAdd, Nat.reduceEqDiff, Nat.reduceLeDiff, Nat.reduceLT, Nat.reduceSub, Int.reduceLE, Int.reduceNeg, Int.reduceLT, hf9]
          rw [wrap64 (by omega) (by omega)]
          refine hR _ ?_
          clear hR R)
        | refine qP ?_
        all_goals first
        | (
          refine qL_cons ?_
          intro R hR
          simp only [go_sem, reduceIte, reduceCtorEq, Nat.reduceAdd, Nat.reduceEqDiff, Nat.reduceLeDiff, Nat.reduceLT, Nat.reduceSub, Int.reduceLE, Int.reduceNeg, Int.reduceLT, hf9, sub_cast (show 0 < i by omega)]
          refine ⟨⟨by omega, by omega⟩, ?_⟩
          intro r hr
          try simp only [go_sem, reduceIte, reduceCtorEq, Nat.reduceAdd, Nat.reduceEqDiff, Nat.reduceLeDiff, Nat.reduceLT, Nat.reduceSub, Int.reduceLE, Int.reduceNeg, Int.reduceLT, hf9, owX]
          refine hR _ ?_
          clear hR R)
        | refine qP ?_
        all_goals refine qP ?_
        all_goals first
        | (
          refine qL_cons ?_
          intro R hR
          simp only [go_sem, reduceIte, reduceCtorEq, Nat.reduceAdd, Nat.reduceEqDiff, Nat.reduceLeDiff, Nat.reduceLT, Nat.reduceSub, Int.reduceLE, Int.reduceNeg, Int.reduceLT, hf9]
          refine hR _ ?_
          clear hR R)
        | refine qP ?_
        all_goals refine qP ?_
        all_goals first
        | (
          refine qL_cons ?_
          intro R hR
          simp only [go_sem, reduceIte, reduceCtorEq, Nat.reduceAdd, Nat.reduceEqDiff, Nat.reduceLeDiff, Nat.reduceLT, Nat.reduceSub, Int.reduceLE, Int.reduceNeg, Int.reduceLT, hf9]
          refine hR _ ?_
          clear hR R)
        | refine qP ?_
        all_goals iterate 3 refine qP ?_
        all_goals refine qE ?_
        all_goals clear hf9 hav av)
      all_goals first
      | fail_if_success with_reducible refine atC 36 ?_
      | (
        refine cn 36 ?_ ?_ <;> intro hc36 <;> try (cases hc36; done)
        all_goals refine st ?_)
      all_goals first
      | fail_if_success with_reducible refine atR 5 ?_
      | (
        refine rg 5 [] [some 2] 1 ?_
        all_goals refine qP ?_
        all_goals refine qE ?_)
      all_goals first
      | fail_if_success with_reducible refine atR 6 ?_
      | (
        refine rg 6 [] [some 37, some 7] 2 ?_
        all_goals (
          refine qL_cons ?_
          intro R hR
          refine sm ?_
          rw [wrap64 (by omega) (by omega)]
          all_goals (refine hR _ ?_; clear hR R))
        all_goals refine qP ?_
        all_goals refine qE ?_)
      all_goals first
      | fail_if_success with_reducible refine ⟨i + 1, ?_, ?_, ?_⟩
      | (
        refine ⟨i + 1, ?_, ?_, ?_⟩
        · refine ⟨by omega, fun j hj => ?_⟩
          by_cases hji : j = i
          · subst hji
            first
            | (refine okO_1 hx ?_ ?_ ?_ <;> first | omega | simp_all; done)
            | (refine okO_2 hx ?_ ?_ hr ?_ <;> first | (simp_all; done) | (exact strLt_of (by simp_all) (by simp_all)))
          · exact hJ2 j (by omega)
        · omega
        · refine Vw.to [] _ _ (vU hU) ?_ ?_ (by simp [tauL])
          · refine vd (vd (vd (vw_d ?_ (trivial))))
            · first
              | exact cl2
              | (
                refine sm2 ?_
                all_goals (
                 congr 1))
          · trivial)
      all_goals first
      | fail_if_success with_reducible refine atR 7 ?_
      | (
        refine rg 7 [] [some 38, some 39, some 40, some 2] 4 ?_
        all_goals iterate 4 refine qP ?_
        all_goals refine qE ?_)
      all_goals first
      | fail_if_success with_reducible refine ret_fun (t := 2) ?_ ?_
      | (
        refine ret_fun (t := 2) ?_ (fun _ => rfl)
        first
        | exact cl
        | (
          try refine sm ?_
          all_goals (
           first
           | (congr 2; exact ow_end hJ2 (by omega))
           | (congr 2
              refine ow_bad (i := i) (by omega) ?_
              first
              | (refine okO_4 hx (by omega) hr ?_; first | assumption | (refine Bool.eq_false_iff.2 (fun h => strLt_lt h ?_); assumption))
              | (refine okO_3 hx (.inl ?_); simp_all; done)
              | (refine okO_3 hx (.inr ?_); simp_all; done))))))

end
section
attribute [local go_sem] tsz9 tsz39 tel39 toNat_cast und9 tsz35 tfld35 tel25 zero35 owX
theorem l17Owners_spec (os : List Ow) (hs : ∀ o ∈ os, o.path.size ≤ 1000000) : Fun Tryd.prog 30 [.d (.of owX os)] (.d (.bool (owB os))) := by
  refine Fun.of ?_ rfl rfl
  refine Spec.of (fn := Tryd.f30) Tryd.func30 rfl (by kernel_rfl) (rs := [.tmp 2]) rfl 1 (by simp [Tryd.f30]) rfl (by simp) ?_
  intro hreal
  rintro ⟨P, T, L0, w0, ι0, C0, U0⟩ hP hT hU
  subst hP hT
  refine st ?_
  have hlen : os.length ≤ 9223372036854775807 := by simpa using D.real_len (X.real_d (hreal (.d (.of owX os)) (by simp)) : D.real (.sl (os.map owX)))
  all_goals first
  | fail_if_success with_reducible refine atR 0 ?_
  | (
    refine rg 0 [] [some 2] 1 ?_
    all_goals refine qP ?_
    all_goals refine qE ?_)
  all_goals first
  | fail_if_success with_reducible refine atR 1 ?_
  | (
    refine rg 1 [] [some 3] 1 ?_
    all_goals refine qP ?_
    all_goals refine qE ?_)
  all_goals first
  | fail_if_success with_reducible refine AW.rounds (α := Nat) ?_ ?_ ?_ ?_ ?_ ?_ ?_ ?_
  | (
    refine AW.rounds (α := Nat) (fun i => i ≤ os.length ∧ ∀ j, j < i → okO os j = true) (fun i => St.by [(0, .d (.of owX os)), (3, .d (.int .i64 i))] []) (fun i => os.length - i) 2 0 ?_ ?_ ?_
    · exact ⟨by omega, fun j hj => by omega⟩
    · refine Vw.to [] _ _ (vU hU) ?_ ?_ (by simp [tauL])
      · refine vd (vw_d ?_ (trivial))
        · first
          | exact cl2
          | (
            refine sm2 ?_
            all_goals (
             rfl))
      · trivial
    · intro i hJ
      refine st ?_
      obtain ⟨hJ1, hJ2⟩ := hJ
      all_goals first
      | fail_if_success with_reducible refine atR 2 ?_
      | (
        refine rg 2 [] [some 4, some 5, some 6, some 7] 4 ?_
        all_goals iterate 4 refine qP ?_
        all_goals refine qE ?_)
      all_goals first
      | fail_if_success with_reducible refine atC 7 ?_
      | (
        refine cn 7 ?_ ?_ <;> intro hc7 <;> try (cases hc7; done)
        all_goals refine st ?_)
      all_goals first
      | fail_if_success with_reducible refine atR 4 ?_
      | (
        refine rgD 4 [] [some 10, some 11, some 12, some 13, some 14, some 15, some 16, some 17, some 18, some 19, some 20, some 21, some 22, some 23, some 24, some 25, some 26, some 27, some 28, some 29, some 30, some 31, some 32, some 33, some 34, some 35, some 36, some 37, some 38, some 39, some 40, some 41, some 42, some 43] 34 35 ?_
        intro av hav
        all_goals iterate 2 refine qP ?_
        all_goals (
          refine qL_cons ?_
          intro R hR
          refine sm ?_
          refine ⟨⟨by omega, by omega⟩, ?_⟩
          intro x hx
          have hxs := hs x (List.mem_of_getElem? hx)
          try simp only [go_sem, reduceIte, reduceCtorEq, Nat.reduceAdd, Nat.reduceEqDiff, Nat.reduceLeDiff, Nat.reduceLT, Nat.reduceSub, Int.reduceLE, Int.reduceNeg, Int.reduceLT, owX]
          all_goals (refine hR _ ?_; clear hR R))
        all_goals iterate 2 refine qP ?_
        all_goals (
          refine qL_cons ?_
          intro R hR
          refine sm ?_
          refine call_fun (l4Path_spec x.path hxs) [] ?_ (.inl rfl) ?_
          · exact ⟨.inl rfl, trivial⟩
          refine sm ?_
          all_goals (refine hR _ ?_; clear hR R))
        all_goals iterate 2 refine qP ?_
        all_goals first | refine qU 17 ?_ | (refine qS 17 ?_ ?_ <;> intro hg4_7 <;> try (cases hg4_7; done))
        all_goals iterate 2 refine qP ?_
        all_goals first
        | (
          refine qL_cons ?_
          intro R hR
          refine sm ?_
          refine ⟨⟨by omega, by omega⟩, ?_⟩
          refine get_use hx ?_
          try simp only [go_sem, reduceIte, reduceCtorEq, Nat.reduceAdd, Nat.reduceEqDiff, Nat.reduceLeDiff, Nat.reduceLT, Nat.reduceSub, Int.reduceLE, Int.reduceNeg, Int.reduceLT, owX]
          refine hR _ ?_
          clear hR R)
        | refine qP ?_
        all_goals iterate 2 refine qP ?_
        all_goals first
        | (
          refine qL_cons ?_
          intro R hR
          refine sm ?_
          refine call_fun (l4Name_spec x.who) [] ?_ (.inl rfl) ?_
          · exact ⟨.inl rfl, trivial⟩
          refine sm ?_
          refine hR _ ?_
          clear hR R)
        | refine qP ?_
        all_goals iterate 3 refine qP ?_
        all_goals first | refine qU 26 ?_ | (refine qS 26 ?_ ?_ <;> intro hg4_16 <;> try (cases hg4_16; done))
        all_goals iterate 3 refine qP ?_
        all_goals first | refine qU 29 ?_ | (refine qS 29 ?_ ?_ <;> intro hg4_19 <;> try (cases hg4_19; done))
        all_goals iterate 2 refine qP ?_
        all_goals first
        | (
          refine qL_cons ?_
          intro R hR
          refine sm ?_
          refine ⟨⟨by omega, by omega⟩, ?_⟩
          refine get_use hx ?_
          try simp only [go_sem, reduceIte, reduceCtorEq, Nat.reduceAdd, Nat.reduceEqDiff, Nat.reduceLeDiff, Nat.reduceLT, Nat.reduceSub, Int.reduceLE, Int.reduceNeg, Int.reduceLT, owX]
          refine hR _ ?_
          clear hR R)
        | refine qP ?_
        all_goals iterate 4 refine qP ?_
        all_goals first
        | (
          refine qL_cons ?_
          intro R hR
          refine sm ?_
          rw [wrap64 (by omega) (by omega)]
          refine hR _ ?_
          clear hR R)
        | refine qP ?_
        all_goals first
        | (
          refine qL_cons ?_
          intro R hR
          simp only [go_sem, reduceIte, reduceCtorEq, Nat.reduceAdd, Nat.reduceEqDiff, Nat.reduceLeDiff, Nat.reduceLT, Nat.reduceSub, Int.reduceLE, Int.reduceNeg, Int.reduceLT, sub_cast (show 0 < i by omega)]
          refine ⟨⟨by omega, by omega⟩, ?_⟩
          intro r hr
          try simp only [go_sem, reduceIte, reduceCtorEq, Nat.reduceAdd, Nat.reduceEqDiff, Nat.reduceLeDiff, Nat.reduceLT, Nat.reduceSub, Int.reduceLE, Int.reduceNeg, Int.reduceLT, owX]
          refine hR _ ?_
          clear hR R)
        | refine qP ?_
        all_goals iterate 5 refine qP ?_
        all_goals refine qE ?_
        all_goals clear  hav av)
      all_goals first
      | fail_if_success with_reducible refine atC 43 ?_
      | (
        refine cn 43 ?_ ?_ <;> intro hc43 <;> try (cases hc43; done)
        all_goals refine st ?_)
      all_goals first
      | fail_if_success with_reducible refine atR 5 ?_
      | (
        refine rg 5 [] [some 2] 1 ?_
        all_goals refine qP ?_
        all_goals refine qE ?_)
      all_goals first
      | fail_if_success with_reducible refine atR 3 ?_
      | (
        refine rg 3 [] [some 8, some 9, some 3] 3 ?_
        all_goals refine qP ?_
        all_goals (
          refine qL_cons ?_
          intro R hR
          refine sm ?_
          rw [wrap64 (by omega) (by omega)]
          all_goals (refine hR _ ?_; clear hR R))
        all_goals refine qP ?_
        all_goals refine qE ?_)
      all_goals first
      | fail_if_success with_reducible refine ⟨i + 1, ?_, ?_, ?_⟩
      | (
        refine ⟨i + 1, ?_, ?_, ?_⟩
        · refine ⟨by omega, fun j hj => ?_⟩
          by_cases hji : j = i
          · subst hji
            first
            | (refine okO_1 hx ?_ ?_ ?_ <;> first | omega | simp_all; done)
            | (refine okO_2 hx ?_ ?_ hr ?_ <;> first | (simp_all; done) | (exact strLt_of (by simp_all) (by simp_all)))
          · exact hJ2 j (by omega)
        · omega
        · refine Vw.to [] _ _ (vU hU) ?_ ?_ (by simp [tauL])
          · refine vd (vw_d ?_ (trivial))
            · first
              | exact cl2
              | (
                refine sm2 ?_
                all_goals (
                 congr 1))
          · trivial)
      all_goals first
      | fail_if_success with_reducible refine atR 6 ?_
      | (
        refine rg 6 [] [some 44, some 45, some 46, some 2] 4 ?_
        all_goals iterate 4 refine qP ?_
        all_goals refine qE ?_)
      all_goals first
      | fail_if_success with_reducible refine ret_fun (t := 2) ?_ ?_
      | (
        refine ret_fun (t := 2) ?_ (fun _ => rfl)
        first
        | exact cl
        | (
          try refine sm ?_
          all_goals (
           first
           | (congr 2; exact ow_end hJ2 (by omega))
           | (congr 2
              refine ow_bad (i := i) (by omega) ?_
              first
              | (refine okO_4 hx (by omega) hr ?_; first | assumption | (refine Bool.eq_false_iff.2 (fun h => strLt_lt h ?_); assumption))
              | (refine okO_3 hx (.inl ?_); simp_all; done)
              | (refine okO_3 hx (.inr ?_); simp_all; done))))))

end
section
attribute [local go_sem] tsz9 tsz39 tel39 toNat_cast und9 tsz35 tfld35 tel25 zero35 owX
theorem specOwnersOk (os : List Ow) (hs : ∀ o ∈ os, o.path.size ≤ 1000000) : Fun Tryd.prog 10 [.d (.of owX os)] (.d (.bool (owB os))) := by
  refine Fun.of ?_ rfl rfl
  refine Spec.of (fn := Tryd.f10) Tryd.func10 rfl (by kernel_rfl) (rs := [.tmp 2]) rfl 1 (by simp [Tryd.f10]) rfl (by simp) ?_
  intro hreal
  rintro ⟨P, T, L0, w0, ι0, C0, U0⟩ hP hT hU
  subst hP hT
  refine st ?_
  all_goals first
  | fail_if_success with_reducible refine atR 0 ?_
  | (
    refine rg 0 [] [some 2] 1 ?_
    all_goals refine qP ?_
    all_goals refine qE ?_)
  all_goals first
  | fail_if_success with_reducible refine atR 1 ?_
  | (
    refine rg 1 [] [some 3, some 4, some 2] 3 ?_
    all_goals refine qP ?_
    all_goals (
      refine qL_cons ?_
      intro R hR
      refine sm ?_
      refine call_fun (l17Owners_spec os hs) [] ?_ (.inl rfl) ?_
      · exact ⟨.inl rfl, trivial⟩
      refine sm ?_
      all_goals (refine hR _ ?_; clear hR R))
    all_goals refine qP ?_
    all_goals refine qE ?_)
  all_goals first
  | fail_if_success with_reducible refine ret_fun (t := 2) ?_ ?_
  | (
    refine ret_fun (t := 2) ?_ (fun _ => rfl)
    first
    | exact cl
    | (
      try refine sm ?_
      all_goals (
       rfl)))

end
end Go.Proofs.YtkbnkcdaiahoeaaDoor
namespace Go.Proofs.YtkbnkcdaiahoeaaDoor
open Go Go.RowKit
set_option maxRecDepth 100000
set_option maxHeartbeats 4000000
set_option linter.unusedSimpArgs false
set_option linter.unusedVariables false
def atW (dir path : ByteArray) : Bool := decide (dir = path) || inB dir path
theorem at_eq {dir path : ByteArray} (h1 : pthB dir = true) (h2 : pthB path = true) : atB dir path = atW dir path := by
  simp only [atB, atW, pinB, h1, h2, hp_in, Bool.true_and]
/-- The longest owned path at which a path is, or below which; who owns it. -/
def whoS (path : ByteArray) (p : ByteArray × ByteArray) (o : Ow) : ByteArray × ByteArray := if (atW o.path path && decide ((p.1.size : Int) < (o.path.size : Int))) = true then (o.path, o.who) else p
def whoF (path : ByteArray) (os : List Ow) : ByteArray × ByteArray := os.foldl (whoS path) (ByteArray.empty, ByteArray.empty)
def ofB (os : List Ow) (path : ByteArray) : ByteArray := if (owB os && pthB path) = true then (whoF path os).2 else ByteArray.empty
theorem who_step {path : ByteArray} {os : List Ow} {i : Nat} {x : Ow} (hx : os[i]? = some x) : whoF path (os.take (i + 1)) = whoS path (whoF path (os.take i)) x := by
  unfold whoF
  rw [List.take_add_one, hx, List.foldl_append]
  rfl
theorem who_nil (path : ByteArray) (os : List Ow) : whoF path (os.take 0) = (ByteArray.empty, ByteArray.empty) := rfl
theorem ow_path {os : List Ow} {i : Nat} {x : Ow} (h : owB os = true) (hx : os[i]? = some x) : pthB x.path = true := by
  simp only [owB, Bool.and_eq_true, List.all_eq_true, List.mem_range] at h
  have := h.1 i (List.getElem?_eq_some_iff.1 hx).1
  simp only [okO, hx, Bool.and_eq_true] at this
  exact this.1.1
attribute [local go_sem] List.size_toArray Int.toNat_zero Nat.sub_zero size_mk top_val eq_self datL X.dat u8min u8max i64min i64max stepT gdO aop ev lit litOk putF fzX_false putO upd app List.contains_nil List.elem_nil aBin aInt aStr aBool aLen lenTy aBuiltin aLoad aTake aTakeX aStore splice aSlice aBd look_cons look_nil lookC_cons lookC_nil by_s by_C start_s start_C X.cells X.cell List.all_cons List.all_nil Bool.and_self Bool.not_true Bool.not_false false_implies true_implies forall_const and_true true_and and_self implies_true not_false_eq_true Nat.zero_add Nat.add_zero List.getD_cons_zero List.getD_cons_succ List.map_cons List.map_nil Option.bind_some Option.map_some Option.map_none List.getElem?_cons_zero List.getElem?_cons_succ List.length_cons List.length_nil List.drop_zero List.drop_succ_cons List.take_succ_cons List.take_zero List.cons_append List.nil_append List.append_nil D.of List.length_map all_get_map Option.isSome_some and_false false_and Nat.lt_add_one Nat.zero_lt_succ decide_true decide_false aPart aSl2 Nat.lt_irrefl fzX litEs List.contains_cons List.elem_cons Bool.true_or Bool.or_true Bool.false_or Bool.or_false beq_self_eq_true
section
attribute [local go_sem] tsz9 tsz39 tel39 toNat_cast und9 tsz35 tfld35 tel25 zero35 owX
theorem implOwnerOf (os : List Ow) (path : ByteArray) (hs : ∀ o ∈ os, o.path.size ≤ 1000000) (hp : path.size ≤ 1000000) : Fun Tryd.prog 15 [.d (.of owX os), .d (.str path)] (.d (.str (ofB os path))) := by
  refine Fun.of ?_ rfl rfl
  refine Spec.of (fn := Tryd.f15) Tryd.func15 rfl (by kernel_rfl) (rs := [.tmp 4]) rfl 1 (by simp [Tryd.f15]) rfl (by simp) ?_
  intro hreal
  rintro ⟨P, T, L0, w0, ι0, C0, U0⟩ hP hT hU
  subst hP hT
  refine st ?_
  have hlen : os.length ≤ 9223372036854775807 := by simpa using D.real_len (X.real_d (hreal (.d (.of owX os)) (by simp)) : D.real (.sl (os.map owX)))
  all_goals first
  | fail_if_success with_reducible refine atR 0 ?_
  | (
    refine rg 0 [] [some 4] 1 ?_
    all_goals refine qP ?_
    all_goals refine qE ?_)
  all_goals first
  | fail_if_success with_reducible refine atR 1 ?_
  | (
    refine rg 1 [] [some 8, some 9, some 10, some 11, some 12, some 13, some 14, some 15] 8 ?_
    all_goals refine qP ?_
    all_goals (
      refine qL_cons ?_
      intro R hR
      refine sm ?_
      refine call_fun (implOwnersOk os hs) [] ?_ (.inl rfl) ?_
      · exact ⟨.inl rfl, trivial⟩
      refine sm ?_
      all_goals (refine hR _ ?_; clear hR R))
    all_goals iterate 2 refine qP ?_
    all_goals first | refine qU 11 ?_ | (refine qS 11 ?_ ?_ <;> intro hg1_3 <;> try (cases hg1_3; done))
    all_goals refine qP ?_
    all_goals first
    | (
      refine qL_cons ?_
      intro R hR
      refine sm ?_
      refine call_fun (PathOk_spec path hp) [] ?_ (.inl rfl) ?_
      · exact ⟨.inl rfl, trivial⟩
      refine sm ?_
      refine hR _ ?_
      clear hR R)
    | refine qP ?_
    all_goals iterate 2 refine qP ?_
    all_goals refine qE ?_)
  all_goals first
  | fail_if_success with_reducible refine atC 15 ?_
  | (
    refine cn 15 ?_ ?_ <;> intro hc15 <;> try (cases hc15; done)
    all_goals refine st ?_)
  all_goals try (have h1 : owB os = true := by simp_all)
  all_goals try (have h2 : pthB path = true := by simp_all)
  all_goals first
  | fail_if_success with_reducible refine atR 2 ?_
  | (
    refine rg 2 [] [some 4] 1 ?_
    all_goals refine qP ?_
    all_goals refine qE ?_)
  all_goals first
  | fail_if_success with_reducible refine atR 3 ?_
  | (
    refine rg 3 [] [some 16, some 5, none] 3 ?_
    all_goals iterate 3 refine qP ?_
    all_goals refine qE ?_)
  all_goals first
  | fail_if_success with_reducible refine atR 4 ?_
  | (
    refine rg 4 [] [some 17, some 18, some 19] 3 ?_
    all_goals iterate 3 refine qP ?_
    all_goals refine qE ?_)
  all_goals first
  | fail_if_success with_reducible refine AW.rounds (α := Nat) ?_ ?_ ?_ ?_ ?_ ?_ ?_ ?_
  | (
    refine AW.rounds (α := Nat) (fun i => i ≤ os.length) (fun i => St.by [(0, .d (.of owX os)), (1, .d (.str path)), (5, .bx 11 0), (17, .d (.of owX os)), (18, .d (.int .i64 os.length)), (19, .d (.int .i64 i))] [(11, .box 35 [.d (.str (whoF path (os.take i)).1), .d (.str (whoF path (os.take i)).2)])]) (fun i => os.length - i) 16 0 ?_ ?_ ?_
    · omega
    · refine Vw.to [] _ _ (vU hU) ?_ ?_ (by simp [tauL])
      · refine vd (vd (vx (vd (vd (vw_d ?_ (trivial))))))
        · first
          | exact cl2
          | (
            refine sm2 ?_
            all_goals (
             rfl))
      · exact ⟨⟨by simp, rfl, cl3⟩, trivial⟩
    · intro i hJ
      refine st ?_
      all_goals first
      | fail_if_success with_reducible refine atR 5 ?_
      | (
        refine rg 5 [] [some 20] 1 ?_
        all_goals refine qP ?_
        all_goals refine qE ?_)
      all_goals first
      | fail_if_success with_reducible refine atC 20 ?_
      | (
        refine cn 20 ?_ ?_ <;> intro hc20 <;> try (cases hc20; done)
        all_goals refine st ?_)
      all_goals first
      | fail_if_success with_reducible refine atR 6 ?_
      | (
        refine rg 6 [] [some 21, some 22, some 7, none] 4 ?_
        all_goals (
          refine qL_cons ?_
          intro R hR
          refine sm ?_
          refine ⟨⟨by omega, by omega⟩, ?_⟩
          intro x hx
          have hxs := hs x (List.mem_of_getElem? hx)
          try simp only [go_sem, reduceIte, reduceCtorEq, Nat.reduceAdd, Nat.reduceEqDiff, Nat.reduceLeDiff, Nat.reduceLT, Nat.reduceSub, Int.reduceLE, Int.reduceNeg, Int.reduceLT, owX]
          all_goals (refine hR _ ?_; clear hR R))
        all_goals iterate 3 refine qP ?_
        all_goals refine qE ?_)
      all_goals first
      | fail_if_success with_reducible refine atR 7 ?_
      | (
        refine rg 7 [] [some 23, some 24, some 25, some 26, some 27, some 28, some 29, some 30, some 31, some 32, some 33, some 34, some 35] 13 ?_
        all_goals iterate 3 refine qP ?_
        all_goals (
          refine qL_cons ?_
          intro R hR
          refine sm ?_
          refine call_fun (isAt_spec x.path path hxs hp) [] ?_ (.inl rfl) ?_
          · exact ⟨.inl rfl, ⟨.inl rfl, trivial⟩⟩
          refine sm ?_
          all_goals (refine hR _ ?_; clear hR R))
        all_goals refine qP ?_
        all_goals first | refine qU 27 ?_ | (refine qS 27 ?_ ?_ <;> intro hg7_4 <;> try (cases hg7_4; done))
        all_goals iterate 8 refine qP ?_
        all_goals refine qE ?_)
      all_goals first
      | fail_if_success with_reducible refine atC 35 ?_
      | (
        refine cn 35 ?_ ?_ <;> intro hc35 <;> try (cases hc35; done)
        all_goals refine st ?_)
      all_goals first
      | fail_if_success with_reducible refine atR 8 ?_
      | (
        refine rg 8 [] [some 36, none] 2 ?_
        all_goals iterate 2 refine qP ?_
        all_goals refine qE ?_)
      all_goals first
      | fail_if_success with_reducible refine atR 9 ?_
      | (
        refine rg 9 [] [some 37, some 19] 2 ?_
        all_goals (
          refine qL_cons ?_
          intro R hR
          refine sm ?_
          rw [wrap64 (by omega) (by omega)]
          all_goals (refine hR _ ?_; clear hR R))
        all_goals refine qP ?_
        all_goals refine qE ?_)
      all_goals first
      | fail_if_success with_reducible refine ⟨i + 1, ?_, ?_, ?_⟩
      | (
        refine ⟨i + 1, ?_, ?_, ?_⟩
        · omega
        · omega
        · refine Vw.to [] _ _ (vU hU) ?_ ?_ (by simp [tauL])
          · refine vd (vd (vx (vd (vd (vw_d ?_ (trivial))))))
            · first
              | exact cl2
              | (
                refine sm2 ?_
                all_goals (
                 congr 1))
          · refine ⟨⟨by simp, rfl, ?_⟩, trivial⟩
            refine sm3 ?_
            have ha := at_eq (ow_path h1 hx) h2
            have hw := who_step (path := path) hx
            unfold whoS at hw
            by_cases hq : (atW x.path path && decide (((whoF path (os.take i)).1.size : Int) < (x.path.size : Int))) = true
            · rw [if_pos hq] at hw
              (rw [hw]) <;> (first | rfl | (exfalso; simp_all; done) | (exfalso; simp_all; omega))
            · rw [if_neg hq] at hw
              (rw [hw]) <;> (first | rfl | (exfalso; simp_all; done) | (exfalso; simp_all; omega)))
      all_goals first
      | fail_if_success with_reducible refine atR 10 ?_
      | (
        refine rg 10 [] [some 38, some 39, some 4] 3 ?_
        all_goals iterate 3 refine qP ?_
        all_goals refine qE ?_)
      all_goals first
      | fail_if_success with_reducible refine ret_fun (t := 4) ?_ ?_
      | (
        refine ret_fun (t := 4) ?_ (fun _ => rfl)
        first
        | exact cl
        | (
          try refine sm ?_
          all_goals (
           (congr 2
            have hi : i = os.length := by omega
            subst hi
            rw [List.take_length] at *
            simp [ofB, h1, h2])))))
  all_goals first
  | fail_if_success with_reducible refine ret_fun (t := 4) ?_ ?_
  | (
    refine ret_fun (t := 4) ?_ (fun _ => rfl)
    first
    | exact cl
    | (
      try refine sm ?_
      all_goals (
       (congr 2; simp_all [ofB]; try rfl))))

end
section
attribute [local go_sem] tsz9 tsz39 tel39 toNat_cast und9 tsz35 tfld35 tel25 zero35 owX
theorem l17Who_spec (os : List Ow) (path : ByteArray) : Fun Tryd.prog 41 [.d (.of owX os), .d (.str path)] (.d (.str (whoF path os).2)) := by
  refine Fun.of ?_ rfl rfl
  refine Spec.of (fn := Tryd.f41) Tryd.func41 rfl (by kernel_rfl) (rs := [.tmp 4]) rfl 1 (by simp [Tryd.f41]) rfl (by simp) ?_
  intro hreal
  rintro ⟨P, T, L0, w0, ι0, C0, U0⟩ hP hT hU
  subst hP hT
  refine st ?_
  have hlen : os.length ≤ 9223372036854775807 := by simpa using D.real_len (X.real_d (hreal (.d (.of owX os)) (by simp)) : D.real (.sl (os.map owX)))
  all_goals first
  | fail_if_success with_reducible refine atR 0 ?_
  | (
    refine rg 0 [] [some 4] 1 ?_
    all_goals refine qP ?_
    all_goals refine qE ?_)
  all_goals first
  | fail_if_success with_reducible refine atR 1 ?_
  | (
    refine rg 1 [] [some 5] 1 ?_
    all_goals refine qP ?_
    all_goals refine qE ?_)
  all_goals first
  | fail_if_success with_reducible refine atR 2 ?_
  | (
    refine rg 2 [] [some 6] 1 ?_
    all_goals refine qP ?_
    all_goals refine qE ?_)
  all_goals first
  | fail_if_success with_reducible refine atR 3 ?_
  | (
    refine rg 3 [] [some 7] 1 ?_
    all_goals refine qP ?_
    all_goals refine qE ?_)
  all_goals first
  | fail_if_success with_reducible refine AW.rounds (α := Nat) ?_ ?_ ?_ ?_ ?_ ?_ ?_ ?_
  | (
    refine AW.rounds (α := Nat) (fun i => i ≤ os.length) (fun i => St.by [(0, .d (.of owX os)), (1, .d (.str path)), (5, .d (.str (whoF path (os.take i)).2)), (6, .d (.int .i64 (whoF path (os.take i)).1.size)), (7, .d (.int .i64 i))] []) (fun i => os.length - i) 4 0 ?_ ?_ ?_
    · omega
    · refine Vw.to [] _ _ (vU hU) ?_ ?_ (by simp [tauL])
      · refine vd (vd (vw_d ?_ (vw_d ?_ (vw_d ?_ (trivial)))))
        · first
          | exact cl2
          | (
            refine sm2 ?_
            all_goals (
             rfl))
        · first
          | exact cl2
          | (
            refine sm2 ?_
            all_goals (
             rfl))
        · first
          | exact cl2
          | (
            refine sm2 ?_
            all_goals (
             rfl))
      · trivial
    · intro i hJ
      refine st ?_
      have hatc : ∀ d, atW d path = (decide (d = path) || inB d path) := fun _ => rfl
      all_goals first
      | fail_if_success with_reducible refine atR 4 ?_
      | (
        refine rg 4 [] [some 8, some 9, some 10, some 11] 4 ?_
        all_goals iterate 4 refine qP ?_
        all_goals refine qE ?_)
      all_goals first
      | fail_if_success with_reducible refine atC 11 ?_
      | (
        refine cn 11 ?_ ?_ <;> intro hc11 <;> try (cases hc11; done)
        all_goals refine st ?_)
      all_goals first
      | fail_if_success with_reducible refine atR 6 ?_
      | (
        refine rg 6 [] [some 14, some 15, some 16, some 17, some 18, some 19, some 20, some 21, some 22, some 23, some 24, some 25, some 26, some 27, some 28, some 29, some 30, some 31, some 32, some 33, some 34, some 35, some 36, some 37, some 38, some 39] 26 ?_
        all_goals iterate 2 refine qP ?_
        all_goals (
          refine qL_cons ?_
          intro R hR
          refine sm ?_
          refine ⟨⟨by omega, by omega⟩, ?_⟩
          intro x hx
          try simp only [go_sem, reduceIte, reduceCtorEq, Nat.reduceAdd, Nat.reduceEqDiff, Nat.reduceLeDiff, Nat.reduceLT, Nat.reduceSub, Int.reduceLE, Int.reduceNeg, Int.reduceLT, owX]
          all_goals (refine hR _ ?_; clear hR R))
        all_goals iterate 5 refine qP ?_
        all_goals first | refine qU 21 ?_ | (refine qS 21 ?_ ?_ <;> intro hg6_7 <;> try (cases hg6_7; done))
        all_goals iterate 2 refine qP ?_
        all_goals first
        | (
          refine qL_cons ?_
          intro R hR
          refine sm ?_
          refine ⟨⟨by omega, by omega⟩, ?_⟩
          refine get_use hx ?_
          try simp only [go_sem, reduceIte, reduceCtorEq, Nat.reduceAdd, Nat.reduceEqDiff, Nat.reduceLeDiff, Nat.reduceLT, Nat.reduceSub, Int.reduceLE, Int.reduceNeg, Int.reduceLT, owX]
          refine hR _ ?_
          clear hR R)
        | refine qP ?_
        all_goals iterate 3 refine qP ?_
        all_goals first
        | (
          refine qL_cons ?_
          intro R hR
          refine sm ?_
          refine call_fun (l4In_spec x.path path) [] ?_ (.inl rfl) ?_
          · exact ⟨.inl rfl, ⟨.inl rfl, trivial⟩⟩
          refine sm ?_
          refine hR _ ?_
          clear hR R)
        | refine qP ?_
        all_goals iterate 2 refine qP ?_
        all_goals first | refine qU 30 ?_ | (refine qS 30 ?_ ?_ <;> intro hg6_16 <;> try (cases hg6_16; done))
        all_goals iterate 2 refine qP ?_
        all_goals first
        | (
          refine qL_cons ?_
          intro R hR
          refine sm ?_
          refine ⟨⟨by omega, by omega⟩, ?_⟩
          refine get_use hx ?_
          try simp only [go_sem, reduceIte, reduceCtorEq, Nat.reduceAdd, Nat.reduceEqDiff, Nat.reduceLeDiff, Nat.reduceLT, Nat.reduceSub, Int.reduceLE, Int.reduceNeg, Int.reduceLT, owX]
          refine hR _ ?_
          clear hR R)
        | refine qP ?_
        all_goals iterate 6 refine qP ?_
        all_goals refine qE ?_)
      all_goals first
      | fail_if_success with_reducible refine atC 39 ?_
      | (
        refine cn 39 ?_ ?_ <;> intro hc39 <;> try (cases hc39; done)
        all_goals refine st ?_)
      all_goals first
      | fail_if_success with_reducible refine atR 7 ?_
      | (
        refine rg 7 [] [some 40, some 41, some 42, some 43, some 44, some 5] 6 ?_
        all_goals iterate 2 refine qP ?_
        all_goals (
          refine qL_cons ?_
          intro R hR
          refine sm ?_
          refine ⟨⟨by omega, by omega⟩, ?_⟩
          refine get_use hx ?_
          try simp only [go_sem, reduceIte, reduceCtorEq, Nat.reduceAdd, Nat.reduceEqDiff, Nat.reduceLeDiff, Nat.reduceLT, Nat.reduceSub, Int.reduceLE, Int.reduceNeg, Int.reduceLT, owX]
          all_goals (refine hR _ ?_; clear hR R))
        all_goals iterate 3 refine qP ?_
        all_goals refine qE ?_)
      all_goals first
      | fail_if_success with_reducible refine atR 8 ?_
      | (
        refine rg 8 [] [some 45, some 46, some 47, some 48, some 49, some 50, some 6] 7 ?_
        all_goals iterate 2 refine qP ?_
        all_goals (
          refine qL_cons ?_
          intro R hR
          refine sm ?_
          refine ⟨⟨by omega, by omega⟩, ?_⟩
          refine get_use hx ?_
          try simp only [go_sem, reduceIte, reduceCtorEq, Nat.reduceAdd, Nat.reduceEqDiff, Nat.reduceLeDiff, Nat.reduceLT, Nat.reduceSub, Int.reduceLE, Int.reduceNeg, Int.reduceLT, owX]
          all_goals (refine hR _ ?_; clear hR R))
        all_goals iterate 4 refine qP ?_
        all_goals refine qE ?_)
      all_goals first
      | fail_if_success with_reducible refine atR 5 ?_
      | (
        refine rg 5 [] [some 12, some 13, some 7] 3 ?_
        all_goals refine qP ?_
        all_goals (
          refine qL_cons ?_
          intro R hR
          refine sm ?_
          rw [wrap64 (by omega) (by omega)]
          all_goals (refine hR _ ?_; clear hR R))
        all_goals refine qP ?_
        all_goals refine qE ?_)
      all_goals first
      | fail_if_success with_reducible refine ⟨i + 1, ?_, ?_, ?_⟩
      | (
        refine ⟨i + 1, ?_, ?_, ?_⟩
        · omega
        · omega
        · refine Vw.to [] _ _ (vU hU) ?_ ?_ (by simp [tauL])
          · refine vd (vd (vw_d ?_ (vw_d ?_ (vw_d ?_ (trivial)))))
            · first
              | exact cl2
              | (
                refine sm2 ?_
                all_goals (
                 have hw := who_step (path := path) hx
                 unfold whoS at hw
                 by_cases hq : (atW x.path path && decide (((whoF path (os.take i)).1.size : Int) < (x.path.size : Int))) = true
                 · rw [if_pos hq] at hw
                   (rw [hw]) <;> (first | rfl | (exfalso; simp_all; done) | (exfalso; simp_all; omega))
                 · rw [if_neg hq] at hw
                   (rw [hw]) <;> (first | rfl | (exfalso; simp_all; done) | (exfalso; simp_all; omega))))
            · first
              | exact cl2
              | (
                refine sm2 ?_
                all_goals (
                 have hw := who_step (path := path) hx
                 unfold whoS at hw
                 by_cases hq : (atW x.path path && decide (((whoF path (os.take i)).1.size : Int) < (x.path.size : Int))) = true
                 · rw [if_pos hq] at hw
                   (rw [hw]) <;> (first | rfl | (exfalso; simp_all; done) | (exfalso; simp_all; omega))
                 · rw [if_neg hq] at hw
                   (rw [hw]) <;> (first | rfl | (exfalso; simp_all; done) | (exfalso; simp_all; omega))))
            · first
              | exact cl2
              | (
                refine sm2 ?_
                all_goals (
                 congr 1))
          · trivial)
      all_goals first
      | fail_if_success with_reducible refine atR 9 ?_
      | (
        refine rg 9 [] [some 51, some 4] 2 ?_
        all_goals iterate 2 refine qP ?_
        all_goals refine qE ?_)
      all_goals first
      | fail_if_success with_reducible refine ret_fun (t := 4) ?_ ?_
      | (
        refine ret_fun (t := 4) ?_ (fun _ => rfl)
        first
        | exact cl
        | (
          try refine sm ?_
          all_goals (
           (congr 2
            have hi : i = os.length := by omega
            subst hi
            rw [List.take_length])))))

end
section
attribute [local go_sem] tsz9 tsz39 tel39 toNat_cast und9 tsz35 tfld35 tel25 zero35 owX
theorem specOwnerOf (os : List Ow) (path : ByteArray) (hs : ∀ o ∈ os, o.path.size ≤ 1000000) (hp : path.size ≤ 1000000) : Fun Tryd.prog 16 [.d (.of owX os), .d (.str path)] (.d (.str (ofB os path))) := by
  refine Fun.of ?_ rfl rfl
  refine Spec.of (fn := Tryd.f16) Tryd.func16 rfl (by kernel_rfl) (rs := [.tmp 4]) rfl 1 (by simp [Tryd.f16]) rfl (by simp) ?_
  intro hreal
  rintro ⟨P, T, L0, w0, ι0, C0, U0⟩ hP hT hU
  subst hP hT
  refine st ?_
  all_goals first
  | fail_if_success with_reducible refine atR 0 ?_
  | (
    refine rg 0 [] [some 4] 1 ?_
    all_goals refine qP ?_
    all_goals refine qE ?_)
  all_goals first
  | fail_if_success with_reducible refine atR 1 ?_
  | (
    refine rg 1 [] [some 5, some 6, some 7, some 8, some 9, some 10, some 11, some 12] 8 ?_
    all_goals refine qP ?_
    all_goals (
      refine qL_cons ?_
      intro R hR
      refine sm ?_
      refine call_fun (l17Owners_spec os hs) [] ?_ (.inl rfl) ?_
      · exact ⟨.inl rfl, trivial⟩
      refine sm ?_
      all_goals (refine hR _ ?_; clear hR R))
    all_goals iterate 2 refine qP ?_
    all_goals first | refine qU 8 ?_ | (refine qS 8 ?_ ?_ <;> intro hg1_3 <;> try (cases hg1_3; done))
    all_goals refine qP ?_
    all_goals first
    | (
      refine qL_cons ?_
      intro R hR
      refine sm ?_
      refine call_fun (l4Path_spec path hp) [] ?_ (.inl rfl) ?_
      · exact ⟨.inl rfl, trivial⟩
      refine sm ?_
      refine hR _ ?_
      clear hR R)
    | refine qP ?_
    all_goals iterate 2 refine qP ?_
    all_goals refine qE ?_)
  all_goals first
  | fail_if_success with_reducible refine atC 12 ?_
  | (
    refine cn 12 ?_ ?_ <;> intro hc12 <;> try (cases hc12; done)
    all_goals refine st ?_)
  all_goals first
  | fail_if_success with_reducible refine atR 2 ?_
  | (
    refine rg 2 [] [some 4] 1 ?_
    all_goals refine qP ?_
    all_goals refine qE ?_)
  all_goals first
  | fail_if_success with_reducible refine atR 3 ?_
  | (
    refine rg 3 [] [some 13, some 14, some 15, some 4] 4 ?_
    all_goals iterate 2 refine qP ?_
    all_goals (
      refine qL_cons ?_
      intro R hR
      refine sm ?_
      refine call_fun (l17Who_spec os path) [] ?_ (.inl rfl) ?_
      · exact ⟨.inl rfl, ⟨.inl rfl, trivial⟩⟩
      refine sm ?_
      all_goals (refine hR _ ?_; clear hR R))
    all_goals refine qP ?_
    all_goals refine qE ?_)
  all_goals first
  | fail_if_success with_reducible refine ret_fun (t := 4) ?_ ?_
  | (
    refine ret_fun (t := 4) ?_ (fun _ => rfl)
    first
    | exact cl
    | (
      try refine sm ?_
      all_goals (
       (congr 2; simp_all [ofB]; try rfl))))

end
end Go.Proofs.YtkbnkcdaiahoeaaDoor
