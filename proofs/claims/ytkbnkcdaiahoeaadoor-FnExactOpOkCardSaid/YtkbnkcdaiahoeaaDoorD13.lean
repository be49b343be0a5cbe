/- owners, of both; what is to be done is ok: the parts. No condition. -/
import Derived.Test.YtkbnkcdaiahoeaaDoorD2
import Derived.Test.YtkbnkcdaiahoeaaDoorE9
import Derived.Test.YtkbnkcdaiahoeaaDoorE16
namespace Go.Proofs.YtkbnkcdaiahoeaaDoor
open Go Go.RowKit
set_option maxRecDepth 100000
set_option maxHeartbeats 4000000
set_option linter.unusedSimpArgs false
set_option linter.unusedVariables false
theorem tsz35 : tsz Tryd.prog 35 = some (true, 2) := by kernel_rfl
theorem tfld35 : tfld Tryd.prog 35 = some [(0, 9), (1, 9)] := by kernel_rfl
theorem zero35 : tzero Tryd.prog 35 = some [.d (.str ByteArray.empty), .d (.str ByteArray.empty)] := by kernel_rfl
theorem tel25 : telem Tryd.prog 25 = some (35, 2, 32) := by kernel_rfl
theorem und5b : Tryd.prog.underlying 5 = some (.int .u8) := by kernel_rfl
structure Ow where
  path : ByteArray
  who : ByteArray
def owX (o : Ow) : List D := [.str o.path, .str o.who]
def okO (os : List Ow) (i : Nat) : Bool := match os[i]? with
  | some o => pthB o.path && nmB o.who && (i == 0 || match os[i - 1]? with | some r => strLt r.path o.path | none => true)
  | none => true
/-- Who owns which path, by paths that ascend, not too many. -/
def owB (os : List Ow) : Bool := (List.range os.length).all (okO os) && decide ((os.length : Int) ≤ 5)
theorem ow_end {os : List Ow} {i : Nat} (h : ∀ j, j < i → okO os j = true) (hi : os.length ≤ i) : decide ((os.length : Int) ≤ 5) = owB os := by
  have : (List.range os.length).all (okO os) = true := by
    rw [List.all_eq_true]
    intro j hj
    exact h j (by have := List.mem_range.1 hj; omega)
  simp [owB, this]
theorem ow_bad {os : List Ow} {i : Nat} (hi : i < os.length) (h : okO os i = false) : false = owB os := by
  have : (List.range os.length).all (okO os) = false := by
    rw [List.all_eq_false]
    exact ⟨i, List.mem_range.2 hi, by simp [h]⟩
  simp [owB, this]
theorem okO_1 {os : List Ow} {i : Nat} {x : Ow} (hx : os[i]? = some x) (hp : pthB x.path = true) (hn : nmB x.who = true) (hi : i = 0) : okO os i = true := by
  subst hi; simp [okO, hx, hn, hp]
theorem okO_2 {os : List Ow} {i : Nat} {x r : Ow} (hx : os[i]? = some x) (hp : pthB x.path = true) (hn : nmB x.who = true) (hr : os[i - 1]? = some r) (h1 : strLt r.path x.path = true) : okO os i = true := by
  simp [okO, hx, hn, hp, hr, h1]
theorem okO_3 {os : List Ow} {i : Nat} {x : Ow} (hx : os[i]? = some x) (hp : pthB x.path = false ∨ nmB x.who = false) : okO os i = false := by
  rcases hp with h | h <;> simp [okO, hx, h]
theorem okO_4 {os : List Ow} {i : Nat} {x r : Ow} (hx : os[i]? = some x) (hi : 0 < i) (hr : os[i - 1]? = some r) (h1 : strLt r.path x.path = false) : okO os i = false := by
  simp [okO, hx, hr, h1, show i ≠ 0 by omega]
theorem strLt_lt {a b : ByteArray} (h : strLt a b = true) : ¬ (strLt b a = true ∨ b = a) := by
  rintro (h1 | h1)
  · rw [strLt_asymm h] at h1; cases h1
  · subst h1; rw [strLt_irrefl] at h; cases h
theorem get_use {α : Type} {l : List α} {i : Nat} {x : α} {Φ : α → Prop} (hx : l[i]? = some x) (h : Φ x) : ∀ z, l[i]? = some z → Φ z := by
  intro z hz
  rw [hx] at hz
  cases hz
  exact h
attribute [local go_sem] List.size_toArray Int.toNat_zero Nat.sub_zero size_mk top_val eq_self datL X.dat u8min u8max i64min i64max stepT gdO aop ev lit litOk putF fzX_false putO upd app List.contains_nil List.elem_nil aBin aInt aStr aBool aLen lenTy aBuiltin aLoad aTake aTakeX aStore splice aSlice aBd look_cons look_nil lookC_cons lookC_nil by_s by_C start_s start_C X.cells X.cell List.all_cons List.all_nil Bool.and_self Bool.not_true Bool.not_false false_implies true_implies forall_const and_true true_and and_self implies_true not_false_eq_true Nat.zero_add Nat.add_zero List.getD_cons_zero List.getD_cons_succ List.map_cons List.map_nil Option.bind_some Option.map_some Option.map_none List.getElem?_cons_zero List.getElem?_cons_succ List.length_cons List.length_nil List.drop_zero List.drop_succ_cons List.take_succ_cons List.take_zero List.cons_append List.nil_append List.append_nil D.of List.length_map all_get_map Option.isSome_some and_false false_and Nat.lt_add_one Nat.zero_lt_succ decide_true decide_false aPart aSl2 Nat.lt_irrefl fzX litEs List.contains_cons List.elem_cons Bool.true_or Bool.or_true Bool.false_or Bool.or_false beq_self_eq_true
section
attribute [local go_sem] tsz9 tsz39 tel39 toNat_cast und9 sS
theorem l4Path_spec (s : ByteArray) (hs : s.size ≤ 1000000) : Fun Tryd.prog 40 [.d (.str s)] (.d (.bool (pthB s))) := by
  refine Fun.of ?_ rfl rfl
  refine Spec.of (fn := Tryd.f40) Tryd.func40 rfl (by kernel_rfl) (rs := [.tmp 2]) rfl 1 (by simp [Tryd.f40]) rfl (by simp) ?_
  intro hreal
  rintro ⟨P, T, L0, w0, ι0, C0, U0⟩ hP hT hU
  subst hP hT
  refine st ?_
  have hcl := cut_one 47 3 s
  all_goals first
  | fail_if_success with_reducible refine atR 0 ?_
  | (
    refine rg 0 [] [some 2] 1 ?_
    all_goals refine qP ?_
    all_goals refine qE ?_)
  all_goals first
  | fail_if_success with_reducible refine atR 1 ?_
  | (
    refine rg 1 [] [some 5, some 6, some 3] 3 ?_
    all_goals refine qP ?_
    all_goals (
      refine qL_cons ?_
      intro R hR
      refine sm ?_
      refine call_row (l1Cut_spec s 47 3 hs (by omega)) [] ?_ (.inl rfl) ?_
      · exact ⟨.inl rfl, ⟨.inl rfl, ⟨.inl rfl, trivial⟩⟩⟩
      refine sm ?_
      all_goals (refine hR _ ?_; clear hR R))
    all_goals refine qP ?_
    all_goals refine qE ?_)
  all_goals first
  | fail_if_success with_reducible refine atR 2 ?_
  | (
    refine rg 2 [] [some 4] 1 ?_
    all_goals refine qP ?_
    all_goals refine qE ?_)
  all_goals first
  | fail_if_success with_reducible refine AW.rounds (α := Nat) ?_ ?_ ?_ ?_ ?_ ?_ ?_ ?_
  | (
    refine AW.rounds (α := Nat) (fun i => i ≤ (cutN 47 3 s).length ∧ ∀ j y, j < i → (cutN 47 3 s)[j]? = some y → nmB y = true) (fun i => St.by [(0, .d (.str s)), (3, .vec 3 1 0 (cutN 47 3 s).length), (4, .d (.int .i64 i))] [(3, .vec 9 1 ((cutN 47 3 s).map sS))]) (fun i => (cutN 47 3 s).length - i) 5 0 ?_ ?_ ?_
    · exact ⟨by omega, fun j y hj => by omega⟩
    · refine Vw.to [] _ _ (vU hU) ?_ ?_ (by simp [tauL])
      · refine vd (vx (vw_d ?_ (trivial)))
        · first
          | exact cl2
          | (
            refine sm2 ?_
            all_goals (
             rfl))
      · exact ⟨⟨by simp, rfl, cl3⟩, trivial⟩
    · intro i hJ
      refine st ?_
      obtain ⟨hJ1, hJ2⟩ := hJ
      all_goals first
      | fail_if_success with_reducible refine atR 3 ?_
      | (
        refine rg 3 [] [some 7, some 8, some 9, some 10] 4 ?_
        all_goals iterate 4 refine qP ?_
        all_goals refine qE ?_)
      all_goals first
      | fail_if_success with_reducible refine atC 10 ?_
      | (
        refine cn 10 ?_ ?_ <;> intro hc10 <;> try (cases hc10; done)
        all_goals refine st ?_)
      all_goals first
      | fail_if_success with_reducible refine atR 5 ?_
      | (
        refine rg 5 [] [some 13, some 14, some 15, some 16, some 17, some 18] 6 ?_
        all_goals iterate 2 refine qP ?_
        all_goals (
          refine qL_cons ?_
          intro R hR
          refine sm ?_
          refine ⟨⟨by omega, by omega⟩, ?_⟩
          all_goals (refine hR _ ?_; clear hR R))
        all_goals (
          refine qL_cons ?_
          intro R hR
          refine sm ?_
          refine ⟨by omega, ?_⟩
          intro x hx
          all_goals (refine hR _ ?_; clear hR R))
        all_goals (
          refine qL_cons ?_
          intro R hR
          refine sm ?_
          refine call_fun (l4Name_spec x) [] ?_ (.inl rfl) ?_
          · exact ⟨.inl rfl, trivial⟩
          refine sm ?_
          all_goals (refine hR _ ?_; clear hR R))
        all_goals refine qP ?_
        all_goals refine qE ?_)
      all_goals first
      | fail_if_success with_reducible refine atC 18 ?_
      | (
        refine cn 18 ?_ ?_ <;> intro hc18 <;> try (cases hc18; done)
        all_goals refine st ?_)
      all_goals first
      | fail_if_success with_reducible refine atR 6 ?_
      | (
        refine rg 6 [] [some 2] 1 ?_
        all_goals refine qP ?_
        all_goals refine qE ?_)
      all_goals first
      | fail_if_success with_reducible refine atR 4 ?_
      | (
        refine rg 4 [] [some 11, some 12, some 4] 3 ?_
        all_goals refine qP ?_
        all_goals (
          refine qL_cons ?_
          intro R hR
          refine sm ?_
          rw [wrap64 (by omega) (by omega)]
          all_goals (refine hR _ ?_; clear hR R))
        all_goals refine qP ?_
        all_goals refine qE ?_)
      all_goals first
      | fail_if_success with_reducible refine ⟨i + 1, ?_, ?_, ?_⟩
      | (
        refine ⟨i + 1, ?_, ?_, ?_⟩
        · refine ⟨by omega, fun j y hj hy => ?_⟩
          by_cases hji : j = i
          · subst hji; rw [hx] at hy; cases hy; simpa using hc18
          · exact hJ2 j y (by omega) hy
        · omega
        · refine Vw.to [] _ _ (vU hU) ?_ ?_ (by simp [tauL])
          · refine vd (vx (vw_d ?_ (trivial)))
            · first
              | exact cl2
              | (
                refine sm2 ?_
                all_goals (
                 congr 1))
          · exact ⟨⟨by simp, rfl, cl3⟩, trivial⟩)
      all_goals first
      | fail_if_success with_reducible refine atR 7 ?_
      | (
        refine rg 7 [] [some 19, some 20, some 21, some 2] 4 ?_
        all_goals iterate 4 refine qP ?_
        all_goals refine qE ?_)
      all_goals first
      | fail_if_success with_reducible refine ret_fun (t := 2) ?_ ?_
      | (
        refine ret_fun (t := 2) ?_ (fun _ => rfl)
        first
        | exact cl
        | (
          try refine sm ?_
          all_goals (
           first
           | (congr 2; rw [← pth_cut]
              have : (cutN 47 3 s).all nmB = true := by
                rw [List.all_eq_true]
                intro y hy
                obtain ⟨j, hj, rfl⟩ := List.mem_iff_getElem.1 hy
                exact hJ2 j _ (by omega) (by simp)
              rw [this, Bool.and_true])
           | (congr 2; rw [← pth_cut]
              have : (cutN 47 3 s).all nmB = false := by
                rw [List.all_eq_false]
                exact ⟨x, List.mem_of_getElem? hx, by simpa using hc18⟩
              rw [this, Bool.and_false])))))

end
section
attribute [local go_sem] tsz9 tsz39 tel39 toNat_cast und9 sS und5b
theorem l4In_spec (dir path : ByteArray) : Fun Tryd.prog 68 [.d (.str dir), .d (.str path)] (.d (.bool (inB dir path))) := by
  refine Fun.of ?_ rfl rfl
  refine Spec.of (fn := Tryd.f68) Tryd.func68 rfl (by kernel_rfl) (rs := [.tmp 4]) rfl 1 (by simp [Tryd.f68]) rfl (by simp) ?_
  intro hreal
  rintro ⟨P, T, L0, w0, ι0, C0, U0⟩ hP hT hU
  subst hP hT
  refine st ?_
  all_goals first
  | fail_if_success with_reducible refine atR 0 ?_
  | (
    refine rg 0 [] [some 4] 1 ?_
    all_goals refine qP ?_
    all_goals refine qE ?_)
  all_goals first
  | fail_if_success with_reducible refine atR 1 ?_
  | (
    refine rg 1 [] [some 5, some 6, some 7, some 8, some 9, some 10, some 11, some 12, some 13, some 14, some 15, some 16, some 17, some 18, some 19, some 20, some 21, some 22, some 23, some 24, some 4] 21 ?_
    all_goals iterate 6 refine qP ?_
    all_goals first | refine qU 10 ?_ | (refine qS 10 ?_ ?_ <;> intro hg1_5 <;> try (cases hg1_5; done))
    all_goals iterate 3 refine qP ?_
    all_goals first
    | (
      refine qL_cons ?_
      intro R hR
      refine sm ?_
      refine ⟨⟨by omega, by omega⟩, ?_⟩
      refine hR _ ?_
      clear hR R)
    | refine qP ?_
    all_goals iterate 4 refine qP ?_
    all_goals first | refine qU 18 ?_ | (refine qS 18 ?_ ?_ <;> intro hg1_13 <;> try (cases hg1_13; done))
    all_goals iterate 3 refine qP ?_
    all_goals first
    | (
      refine qL_cons ?_
      intro R hR
      refine sm ?_
      refine ⟨⟨by omega, by omega⟩, ?_⟩
      intro x hx
      refine hR _ ?_
      clear hR R)
    | refine qP ?_
    all_goals iterate 3 refine qP ?_
    all_goals refine qE ?_)
  all_goals first
  | fail_if_success with_reducible refine ret_fun (t := 4) ?_ ?_
  | (
    refine ret_fun (t := 4) ?_ (fun _ => rfl)
    first
    | exact cl
    | (
      try refine sm ?_
      all_goals (
       (congr 2
        simp only [inB]
        first
        | (have hxx : decide (path.data[dir.size]? = some 47) = decide ((x.toNat : Int) = 47) := by
             rw [hx]
             refine decide_eq_decide.2 ⟨fun h => by cases h; rfl, fun h => ?_⟩
             congr 1
             exact UInt8.toNat_inj.1 (by simpa using (show x.toNat = 47 by omega))
           rw [hxx]
           simp_all; done)
        | (simp_all; done)
        | (simp_all; intro h; omega)))))

end
section
attribute [local go_sem] tsz9 tsz39 tel39 toNat_cast und9 tsz35 tfld35 tel25 zero35 owX
theorem implOwnersOk (os : List Ow) (hs : ∀ o ∈ os, o.path.size ≤ 1000000) : Fun Tryd.prog 12 [.d (.of owX os)] (.d (.bool (owB os))) := by
  refine Fun.of ?_ rfl rfl
  refine Spec.of (fn := Tryd.f12) Tryd.func12 rfl (by kernel_rfl) (rs := [.tmp 2]) rfl 1 (by simp [Tryd.f12]) rfl (by simp) ?_
  intro hreal
  rintro ⟨P, T, L0, w0, ι0, C0, U0⟩ hP hT hU
  subst hP hT
  refine st ?_
  have hlen : os.length ≤ 9223372036854775807 := by simpa using D.real_len (X.real_d (hreal (.d (.of owX os)) (by simp)) : D.real (.sl (os.map owX)))
  all_goals first
  | fail_if_success with_reducible refine atR 0 ?_
  | (
    refine rg 0 [] [some 2] 1 ?_
    all_goals refine qP ?_
    all_goals refine qE ?_)
  all_goals first
  | fail_if_success with_reducible refine atR 1 ?_
  | (
    refine rg 1 [] [some 5, some 6, some 7] 3 ?_
    all_goals iterate 3 refine qP ?_
    all_goals refine qE ?_)
  all_goals first
  | fail_if_success with_reducible refine AW.rounds (α := Nat) ?_ ?_ ?_ ?_ ?_ ?_ ?_ ?_
  | (
    refine AW.rounds (α := Nat) (fun i => i ≤ os.length ∧ ∀ j, j < i → okO os j = true) (fun i => St.by [(0, .d (.of owX os)), (5, .d (.of owX os)), (6, .d (.int .i64 os.length)), (7, .d (.int .i64 i))] []) (fun i => os.length - i) 5 0 ?_ ?_ ?_
    · exact ⟨by omega, fun j hj => by omega⟩
    · refine Vw.to [] _ _ (vU hU) ?_ ?_ (by simp [tauL])
      · refine vd (vd (vd (vw_d ?_ (trivial))))
        · first
          | exact cl2
          | (
            refine sm2 ?_
            all_goals (
             rfl))
      · trivial
    · intro i hJ
      refine st ?_
      obtain ⟨hJ1, hJ2⟩ := hJ
      all_goals first
      | fail_if_success with_reducible refine atR 2 ?_
      | (
        refine rg 2 [] [some 8] 1 ?_
        all_goals refine qP ?_
        all_goals refine qE ?_)
      all_goals first
      | fail_if_success with_reducible refine atC 8 ?_
      | (
        refine cn 8 ?_ ?_ <;> intro hc8 <;> try (cases hc8; done)
        all_goals refine st ?_)
      all_goals first
      | fail_if_success with_reducible refine atR 3 ?_
      | (
        refine rg 3 [] [some 9, some 10, some 11, some 4, some 3, none] 6 ?_
        all_goals refine qP ?_
        all_goals (
          refine qL_cons ?_
          intro R hR
          refine sm ?_
          refine ⟨⟨by omega, by omega⟩, ?_⟩
          intro x hx
          have hxs := hs x (List.mem_of_getElem? hx)
          try simp only [go_sem, reduceIte, reduceCtorEq, Nat.reduceAdd, Nat.reduceEqDiff, Nat.reduceLeDiff, Nat.reduceLT, Nat.reduceSub, Int.reduceLE, Int.reduceNeg, Int.reduceLT, owX]
          all_goals (refine hR _ ?_; clear hR R))
        all_goals iterate 4 refine qP ?_
        all_goals refine qE ?_)
      all_goals first
      | fail_if_success with_reducible refine atR 4 ?_
      | (
        refine rgD 4 [] [some 12, some 13, some 14, some 15, some 16, some 17, some 18, some 19, some 20, some 21, some 22, some 23, some 24, some 25, some 26, some 27, some 28, some 29, some 30, some 31, some 32, some 33, some 34, some 35, some 36] 25 26 ?_
        intro av hav
        have hf9 := freeD 9 hav
        all_goals refine qP ?_
        all_goals (
          refine qL_cons ?_
          intro R hR
          simp only [go_sem, reduceIte, reduceCtorEq, Nat.reduceAdd, Nat.reduceEqDiff, Nat.reduceLeDiff, Nat.reduceLT, Nat.reduceSub, Int.reduceLE, Int.reduceNeg, Int.reduceLT, hf9]
          all_goals (refine hR _ ?_; clear hR R))
        all_goals (
          refine qL_cons ?_
          intro R hR
          simp only [go_sem, reduceIte, reduceCtorEq, Nat.reduceAdd, Nat.reduceEqDiff, Nat.reduceLeDiff, Nat.reduceLT, Nat.reduceSub, Int.reduceLE, Int.reduceNeg, Int.reduceLT, hf9]
          refine call_fun (PathOk_spec x.path hxs) [] ?_ (.inl rfl) ?_
          · exact ⟨.inl rfl, trivial⟩
          simp only [go_sem, reduceIte, reduceCtorEq, Nat.reduceAdd, Nat.reduceEqDiff, Nat.reduceLeDiff, Nat.reduceLT, Nat.reduceSub, Int.reduceLE, Int.reduceNeg, Int.reduceLT, hf9]
          all_goals (refine hR _ ?_; clear hR R))
        all_goals iterate 2 refine qP ?_
        all_goals first | refine qU 16 ?_ | (refine qS 16 ?_ ?_ <;> intro hg4_4 <;> try (cases hg4_4; done))
        all_goals refine qP ?_
        all_goals first
        | (
          refine qL_cons ?_
          intro R hR
          simp only [go_sem, reduceIte, reduceCtorEq, Nat.reduceAdd, Nat.reduceEqDiff, Nat.reduceLeDiff, Nat.reduceLT, Nat.reduceSub, Int.reduceLE, Int.reduceNeg, Int.reduceLT, hf9]
          refine hR _ ?_
          clear hR R)
        | refine qP ?_
        all_goals first
        | (
          refine qL_cons ?_
          intro R hR
          simp only [go_sem, reduceIte, reduceCtorEq, Nat.reduceAdd, Nat.reduceEqDiff, Nat.reduceLeDiff, Nat.reduceLT, Nat.reduceSub, Int.reduceLE, Int.reduceNeg, Int.reduceLT, hf9]
          refine call_fun (nameOk_spec x.who) [] ?_ (.inl rfl) ?_
          · exact ⟨.inl rfl, trivial⟩
          simp only [go_sem, reduceIte, reduceCtorEq, Nat.reduceAdd, Nat.reduceEqDiff, Nat.reduceLeDiff, Nat.reduceLT, Nat.reduceSub, Int.reduceLE, Int.reduceNeg, Int.reduceLT, hf9]
          refine hR _ ?_
          clear hR R)
        | refine qP ?_
        all_goals iterate 3 refine qP ?_
        all_goals first | refine qU 22 ?_ | (refine qS 22 ?_ ?_ <;> intro hg4_10 <;> try (cases hg4_10; done))
        all_goals iterate 3 refine qP ?_
        all_goals first | refine qU 25 ?_ | (refine qS 25 ?_ ?_ <;> intro hg4_13 <;> try (cases hg4_13; done))
        all_goals iterate 2 refine qP ?_
        all_goals first
        | (
          refine qL_cons ?_
          intro R hR
          simp only [go_sem, reduceIte, reduceCtorEq, Nat.reduceAdd, Nat.reduceEqDiff, Nat.reduceLeDiff, Nat.reduceLT, Nat.reduceSub, Int.reduceLE, Int.reduceNeg, Int.reduceLT, hf9]
          rw [wrap64 (by omega) (by omega)]
          refine hR _ ?_
          clear hR R)
        | refine qP ?_
        all_goals first
        | (
          refine qL_cons ?_
          intro R hR
          simp only [go_sem, reduceIte, reduceCtorEq, Nat.reduceAdd, Nat.reduceEqDiff, Nat.reduceLeDiff, Nat.reduceLT, Nat.reduceSub, Int.reduceLE, Int.reduceNeg, Int.reduceLT, hf9, sub_cast (show 0 < i by omega)]
          refine ⟨⟨by omega, by omega⟩, ?_⟩
          intro r hr
          try simp only [go_sem, reduceIte, reduceCtorEq, Nat.reduceAdd, Nat.reduceEqDiff, Nat.reduceLeDiff, Nat.reduceLT, Nat.reduceSub, Int.reduceLE, Int.reduceNeg, Int.reduceLT, hf9, owX]
          refine hR _ ?_
          clear hR R)
        | refine qP ?_
        all_goals refine qP ?_
        all_goals first
        | (
          refine qL_cons ?_
          intro R hR
          simp only [go_sem, reduceIte, reduceCtorEq, Nat.reduceAdd, Nat.reduceEqDiff, Nat.reduceLeDiff, Nat.reduceLT, Nat.reduceSub, Int.reduceLE, Int.reduceNeg, Int.reduceLT, hf9]
          refine hR _ ?_
          clear hR R)
        | refine qP ?_
        all_goals refine qP ?_
        all_goals first
        | (
          refine qL_cons ?_
          intro R hR
          simp only [go_sem, reduceIte, reduceCtorEq, Nat.reduceAdd, Nat.reduceEqDiff, Nat.reduceLeDiff, Nat.reduceLT, Nat.reduceSub, Int.reduceLE, Int.reduceNeg, Int.reduceLT, hf9]
          refine hR _ ?_
          clear hR R)
        | refine qP ?_
        all_goals iterate 3 refine qP ?_
        all_goals refine qE ?_
        all_goals clear hf9 hav av)
      all_goals first
      | fail_if_success with_reducible refine atC 36 ?_
      | (
        refine cn 36 ?_ ?_ <;> intro hc36 <;> try (cases hc36; done)
        all_goals refine st ?_)
      all_goals first
      | fail_if_success with_reducible refine atR 5 ?_
      | (
        refine rg 5 [] [some 2] 1 ?_
        all_goals refine qP ?_
        all_goals refine qE ?_)
      all_goals first
      | fail_if_success with_reducible refine atR 6 ?_
      | (
        refine rg 6 [] [some 37, some 7] 2 ?_
        all_goals (
          refine qL_cons ?_
          intro R hR
          refine sm ?_
          rw [wrap64 (by omega) (by omega)]
          all_goals (refine hR _ ?_; clear hR R))
        all_goals refine qP ?_
        all_goals refine qE ?_)
      all_goals first
      | fail_if_success with_reducible refine ⟨i + 1, ?_, ?_, ?_⟩
      | (
        refine ⟨i + 1, ?_, ?_, ?_⟩
        · refine ⟨by omega, fun j hj => ?_⟩
          by_cases hji : j = i
          · subst hji
            first
            | (refine okO_1 hx ?_ ?_ ?_ <;> first | omega | simp_all; done)
            | (refine okO_2 hx ?_ ?_ hr ?_ <;> first | (simp_all; done) | (exact strLt_of (by simp_all) (by simp_all)))
          · exact hJ2 j (by omega)
        · omega
        · refine Vw.to [] _ _ (vU hU) ?_ ?_ (by simp [tauL])
          · refine vd (vd (vd (vw_d ?_ (trivial))))
            · first
              | exact cl2
              | (
                refine sm2 ?_
                all_goals (
                 congr 1))
          · trivial)
      all_goals first
      | fail_if_success with_reducible refine atR 7 ?_
      | (
        refine rg 7 [] [some 38, some 39, some 40, some 2] 4 ?_
        all_goals iterate 4 refine qP ?_
        all_goals refine qE ?_)
      all_goals first
      | fail_if_success with_reducible refine ret_fun (t := 2) ?_ ?_
      | (
        refine ret_fun (t := 2) ?_ (fun _ => rfl)
        first
        | exact cl
        | (
          try refine sm ?_
          all_goals (
           first
           | (congr 2; exact ow_end hJ2 (by omega))
           | (congr 2
              refine ow_bad (i := i) (by omega) ?_
              first
              | (refine okO_4 hx (by omega) hr ?_; first | assumption | (refine Bool.eq_false_iff.2 (fun h => strLt_lt h ?_); assumption))
              | (refine okO_3 hx (.inl ?_); simp_all; done)
              | (refine okO_3 hx (.inr ?_); simp_all; done))))))

end
section
attribute [local go_sem] tsz9 tsz39 tel39 toNat_cast und9 tsz35 tfld35 tel25 zero35 owX
theorem l17Owners_spec (os : List Ow) (hs : ∀ o ∈ os, o.path.size ≤ 1000000) : Fun Tryd.prog 30 [.d (.of owX os)] (.d (.bool (owB os))) := by
  refine Fun.of ?_ rfl rfl
  refine Spec.of (fn := Tryd.f30) Tryd.func30 rfl (by kernel_rfl) (rs := [.tmp 2]) rfl 1 (by simp [Tryd.f30]) rfl (by simp) ?_
  intro hreal
  rintro ⟨P, T, L0, w0, ι0, C0, U0⟩ hP hT hU
  subst hP hT
  refine st ?_
  have hlen : os.length ≤ 9223372036854775807 := by simpa using D.real_len (X.real_d (hreal (.d (.of owX os)) (by simp)) : D.real (.sl (os.map owX)))
  all_goals first
  | fail_if_success with_reducible refine atR 0 ?_
  | (
    refine rg 0 [] [some 2] 1 ?_
    all_goals refine qP ?_
    all_goals refine qE ?_)
  all_goals first
  | fail_if_success with_reducible refine atR 1 ?_
  | (
    refine rg 1 [] [some 3] 1 ?_
    all_goals refine qP ?_
    all_goals refine qE ?_)
  all_goals first
  | fail_if_success with_reducible refine AW.rounds (α := Nat) ?_ ?_ ?_ ?_ ?_ ?_ ?_ ?_
  | (
    refine AW.rounds (α := Nat) (fun i => i ≤ os.length ∧ ∀ j, j < i → okO os j = true) (fun i => St.by [(0, .d (.of owX os)), (3, .d (.int .i64 i))] []) (fun i => os.length - i) 2 0 ?_ ?_ ?_
    · exact ⟨by omega, fun j hj => by omega⟩
    · refine Vw.to [] _ _ (vU hU) ?_ ?_ (by simp [tauL])
      · refine vd (vw_d ?_ (trivial))
        · first
          | exact cl2
          | (
            refine sm2 ?_
            all_goals (
             rfl))
      · trivial
    · intro i hJ
      refine st ?_
      obtain ⟨hJ1, hJ2⟩ := hJ
      all_goals first
      | fail_if_success with_reducible refine atR 2 ?_
      | (
        refine rg 2 [] [some 4, some 5, some 6, some 7] 4 ?_
        all_goals iterate 4 refine qP ?_
        all_goals refine qE ?_)
      all_goals first
      | fail_if_success with_reducible refine atC 7 ?_
      | (
        refine cn 7 ?_ ?_ <;> intro hc7 <;> try (cases hc7; done)
        all_goals refine st ?_)
      all_goals first
      | fail_if_success with_reducible refine atR 4 ?_
      | (
        refine rgD 4 [] [some 10, some 11, some 12, some 13, some 14, some 15, some 16, some 17, some 18, some 19, some 20, some 21, some 22, some 23, some 24, some 25, some 26, some 27, some 28, some 29, some 30, some 31, some 32, some 33, some 34, some 35, some 36, some 37, some 38, some 39, some 40, some 41, some 42, some 43] 34 35 ?_
        intro av hav
        all_goals iterate 2 refine qP ?_
        all_goals (
          refine qL_cons ?_
          intro R hR
          refine sm ?_
          refine ⟨⟨by omega, by omega⟩, ?_⟩
          intro x hx
          have hxs := hs x (List.mem_of_getElem? hx)
          try simp only [go_sem, reduceIte, reduceCtorEq, Nat.reduceAdd, Nat.reduceEqDiff, Nat.reduceLeDiff, Nat.reduceLT, Nat.reduceSub, Int.reduceLE, Int.reduceNeg, Int.reduceLT, owX]
          all_goals (refine hR _ ?_; clear hR R))
        all_goals iterate 2 refine qP ?_
        all_goals (
          refine qL_cons ?_
          intro R hR
          refine sm ?_
          refine call_fun (l4Path_spec x.path hxs) [] ?_ (.inl rfl) ?_
          · exact ⟨.inl rfl, trivial⟩
          refine sm ?_
          all_goals (refine hR _ ?_; clear hR R))
        all_goals iterate 2 refine qP ?_
        all_goals first | refine qU 17 ?_ | (refine qS 17 ?_ ?_ <;> intro hg4_7 <;> try (cases hg4_7; done))
        all_goals iterate 2 refine qP ?_
        all_goals first
        | (
          refine qL_cons ?_
          intro R hR
          refine sm ?_
          refine ⟨⟨by omega, by omega⟩, ?_⟩
          refine get_use hx ?_
          try simp only [go_sem, reduceIte, reduceCtorEq, Nat.reduceAdd, Nat.reduceEqDiff, Nat.reduceLeDiff, Nat.reduceLT, Nat.reduceSub, Int.reduceLE, Int.reduceNeg, Int.reduceLT, owX]
          refine hR _ ?_
          clear hR R)
        | refine qP ?_
        all_goals iterate 2 refine qP ?_
        all_goals first
        | (
          refine qL_cons ?_
          intro R hR
          refine sm ?_
          refine call_fun (l4Name_spec x.who) [] ?_ (.inl rfl) ?_
          · exact ⟨.inl rfl, trivial⟩
          refine sm ?_
          refine hR _ ?_
          clear hR R)
        | refine qP ?_
        all_goals iterate 3 refine qP ?_
        all_goals first | refine qU 26 ?_ | (refine qS 26 ?_ ?_ <;> intro hg4_16 <;> try (cases hg4_16; done))
        all_goals iterate 3 refine qP ?_
        all_goals first | refine qU 29 ?_ | (refine qS 29 ?_ ?_ <;> intro hg4_19 <;> try (cases hg4_19; done))
        all_goals iterate 2 refine qP ?_
        all_goals first
        | (
          refine qL_cons ?_
          intro R hR
          refine sm ?_
          refine ⟨⟨by omega, by omega⟩, ?_⟩
          refine get_use hx ?_
          try simp only [go_sem, reduceIte, reduceCtorEq, Nat.reduceAdd, Nat.reduceEqDiff, Nat.reduceLeDiff, Nat.reduceLT, Nat.reduceSub, Int.reduceLE, Int.reduceNeg, Int.reduceLT, owX]
          refine hR _ ?_
          clear hR R)
        | refine qP ?_
        all_goals iterate 4 refine qP ?_
        all_goals first
        | (
          refine qL_cons ?_
          intro R hR
          refine sm ?_
          rw [wrap64 (by omega) (by omega)]
          refine hR _ ?_
          clear hR R)
        | refine qP ?_
        all_goals first
        | (
          refine qL_cons ?_
          intro R hR
          simp only [go_sem, reduceIte, reduceCtorEq, Nat.reduceAdd, Nat.reduceEqDiff, Nat.reduceLeDiff, Nat.reduceLT, Nat.reduceSub, Int.reduceLE, Int.reduceNeg, Int.reduceLT, sub_cast (show 0 < i by omega)]
          refine ⟨⟨by omega, by omega⟩, ?_⟩
          intro r hr
          try simp only [go_sem, reduceIte, reduceCtorEq, Nat.reduceAdd, Nat.reduceEqDiff, Nat.reduceLeDiff, Nat.reduceLT, Nat.reduceSub, Int.reduceLE, Int.reduceNeg, Int.reduceLT, owX]
          refine hR _ ?_
          clear hR R)
        | refine qP ?_
        all_goals iterate 5 refine qP ?_
        all_goals refine qE ?_
        all_goals clear  hav av)
      all_goals first
      | fail_if_success with_reducible refine atC 43 ?_
      | (
        refine cn 43 ?_ ?_ <;> intro hc43 <;> try (cases hc43; done)
        all_goals refine st ?_)
      all_goals first
      | fail_if_success with_reducible refine atR 5 ?_
      | (
        refine rg 5 [] [some 2] 1 ?_
        all_goals refine qP ?_
        all_goals refine qE ?_)
      all_goals first
      | fail_if_success with_reducible refine atR 3 ?_
      | (
        refine rg 3 [] [some 8, some 9, some 3] 3 ?_
        all_goals refine qP ?_
        all_goals (
          refine qL_cons ?_
          intro R hR
          refine sm ?_
          rw [wrap64 (by omega) (by omega)]
          all_goals (refine hR _ ?_; clear hR R))
        all_goals refine qP ?_
        all_goals refine qE ?_)
      all_goals first
      | fail_if_success with_reducible refine ⟨i + 1, ?_, ?_, ?_⟩
      | (
        refine ⟨i + 1, ?_, ?_, ?_⟩
        · refine ⟨by omega, fun j hj => ?_⟩
          by_cases hji : j = i
          · subst hji
            first
            | (refine okO_1 hx ?_ ?_ ?_ <;> first | omega | simp_all; done)
            | (refine okO_2 hx ?_ ?_ hr ?_ <;> first | (simp_all; done) | (exact strLt_of (by simp_all) (by simp_all)))
          · exact hJ2 j (by omega)
        · omega
        · refine Vw.to [] _ _ (vU hU) ?_ ?_ (by simp [tauL])
          · refine vd (vw_d ?_ (trivial))
            · first
              | exact cl2
              | (
                refine sm2 ?_
                all_goals (
                 congr 1))
          · trivial)
      all_goals first
      | fail_if_success with_reducible refine atR 6 ?_
      | (
        refine rg 6 [] [some 44, some 45, some 46, some 2] 4 ?_
        all_goals iterate 4 refine qP ?_
        all_goals refine qE ?_)
      all_goals first
      | fail_if_success with_reducible refine ret_fun (t := 2) ?_ ?_
      | (
        refine ret_fun (t := 2) ?_ (fun _ => rfl)
        first
        | exact cl
        | (
          try refine sm ?_
          all_goals (
           first
           | (congr 2; exact ow_end hJ2 (by omega))
           | (congr 2
              refine ow_bad (i := i) (by omega) ?_
              first
              | (refine okO_4 hx (by omega) hr ?_; first | assumption | (refine Bool.eq_false_iff.2 (fun h => strLt_lt h ?_); assumption))
              | (refine okO_3 hx (.inl ?_); simp_all; done)
              | (refine okO_3 hx (.inr ?_); simp_all; done))))))

end
section
attribute [local go_sem] tsz9 tsz39 tel39 toNat_cast und9 tsz35 tfld35 tel25 zero35 owX
theorem specOwnersOk (os : List Ow) (hs : ∀ o ∈ os, o.path.size ≤ 1000000) : Fun Tryd.prog 10 [.d (.of owX os)] (.d (.bool (owB os))) := by
  refine Fun.of ?_ rfl rfl
  refine Spec.of (fn := Tryd.f10) Tryd.func10 rfl (by kernel_rfl) (rs := [.tmp 2]) rfl 1 (by simp [Tryd.f10]) rfl (by simp) ?_
  intro hreal
  rintro ⟨P, T, L0, w0, ι0, C0, U0⟩ hP hT hU
  subst hP hT
  refine st ?_
  all_goals first
  | fail_if_success with_reducible refine atR 0 ?_
  | (
    refine rg 0 [] [some 2] 1 ?_
    all_goals refine qP ?_
    all_goals refine qE ?_)
  all_goals first
  | fail_if_success with_reducible refine atR 1 ?_
  | (
    refine rg 1 [] [some 3, some 4, some 2] 3 ?_
    all_goals refine qP ?_
    all_goals (
      refine qL_cons ?_
      intro R hR
      refine sm ?_
      refine call_fun (l17Owners_spec os hs) [] ?_ (.inl rfl) ?_
      · exact ⟨.inl rfl, trivial⟩
      refine sm ?_
      all_goals (refine hR _ ?_; clear hR R))
    all_goals refine qP ?_
    all_goals refine qE ?_)
  all_goals first
  | fail_if_success with_reducible refine ret_fun (t := 2) ?_ ?_
  | (
    refine ret_fun (t := 2) ?_ (fun _ => rfl)
    first
    | exact cl
    | (
      try refine sm ?_
      all_goals (
       rfl)))

end
end Go.Proofs.YtkbnkcdaiahoeaaDoor
namespace Go.Proofs.YtkbnkcdaiahoeaaDoor
open Go Go.RowKit Go.Shelf
set_option maxRecDepth 100000
set_option maxHeartbeats 4000000
set_option linter.unusedSimpArgs false
set_option linter.unusedVariables false
theorem tsz44 : tsz Tryd.prog 44 = some (true, 7) := by kernel_rfl
theorem tfld44 : tfld Tryd.prog 44 = some [(0, 3), (1, 9), (2, 9), (3, 9), (4, 9), (5, 3), (6, 39)] := by kernel_rfl
theorem tsz3' : tsz Tryd.prog 3 = some (false, 1) := by kernel_rfl
/-- A bar is in it. -/
def barB (s : ByteArray) : Bool := decide (0 ≤ Lib.indexByte s.data.toList 124)
theorem indexByte_pos (c : UInt8) : ∀ (l : List UInt8) (k : Nat), l[k]? = some c → 0 ≤ Lib.indexByte l c
  | [], k, h => by simp at h
  | b :: l, 0, h => by
    simp at h
    simp [Lib.indexByte, h]
  | b :: l, k + 1, h => by
    have ih := indexByte_pos c l k (by simpa using h)
    simp only [Lib.indexByte, beq_iff_eq]
    split
    · omega
    · split <;> omega
theorem bar_no {s : ByteArray} (h : ∀ j, j < s.size → s.data[j]? ≠ some 124) : barB s = false := by
  unfold barB
  rw [indexByte_none]
  · decide
  · intro k
    by_cases hk : k < s.size
    · have := h k hk
      simpa using this
    · have hl : s.data.toList.length = s.size := (Lib.size_eq s).symm
      rw [List.getElem?_eq_none (by omega)]
      simp
theorem bar_yes {s : ByteArray} {j : Nat} {c : UInt8} (h : s.data[j]? = some c) (hc : (c.toNat : Int) = 124) : barB s = true := by
  have : c = 124 := UInt8.toNat_inj.1 (by simpa using (show c.toNat = 124 by omega))
  subst this
  exact decide_eq_true (indexByte_pos 124 _ j (by simpa using h))
theorem Contains_spec (s : ByteArray) : Fun Tryd.prog 52 [.d (.str s), .d (.str ⟨#[124]⟩)] (.d (.bool (barB s))) := by
  refine Fun.calls (by kernel_rfl) rfl rfl (fun ι U L w => ⟨.bool _, Rel.bool _⟩) ?_
  intro ι U L w us hl hr v hv
  have h0 := hr 0 (by simp)
  have h1 := hr 1 (by simp)
  match us, hl with
  | [u0, u1], _ =>
  simp only [List.getElem_cons_zero, List.getElem_cons_succ, List.getD_cons_zero, List.getD_cons_succ] at h0 h1
  obtain ⟨rfl, -⟩ := h0.str_inv
  obtain ⟨rfl, -⟩ := h1.str_inv
  have hv' := hv.bool_inv
  subst hv'
  exact (Any.strings_Contains_one lay144 s 124 w).mono fun e w' ⟨he, hw⟩ => ⟨he, 0, hw⟩
def linesB (text : List ByteArray) : Bool := txB text && !text.any barB
def wsB (path to : ByteArray) (at_ : Int) (text : List ByteArray) (a b c d : Bool) : Bool := (a || decide (path = ⟨#[]⟩)) && (b || decide (to = ⟨#[]⟩)) && (c || decide (at_ = 0)) && (d || decide ((text.length : Int) = 0))
/-- What is to be done is ok. -/
def opB (kind : Int) (br who path to : ByteArray) (at_ : Int) (text : List ByteArray) : Bool := nmB br && nmB who && (
  if kind = 1 then wsB path to at_ text true false false true && pthB path && linesB text
  else if kind = 2 then wsB path to at_ text true false false false && pthB path
  else if kind = 3 then wsB path to at_ text true true false false && pthB path && pthB to
  else if kind = 4 ∨ kind = 5 then wsB path to at_ text false true false false && nmB to
  else if kind = 6 ∨ kind = 7 then wsB path to at_ text false false true false && withinB at_ 0 15
  else false)
theorem op_out {kind : Int} (hk : kind < 1 ∨ 7 < kind) (br who path to : ByteArray) (at_ : Int) (text : List ByteArray) : opB kind br who path to at_ text = false := by
  unfold opB
  rw [if_neg (by omega), if_neg (by omega), if_neg (by omega), if_neg (by omega), if_neg (by omega), Bool.and_false]
theorem pth_empty : pthB ⟨#[]⟩ = false := by rw [← pth_cut]; decide
theorem within_out {k : Int} (h : k < 1 ∨ 7 < k) : withinB k 1 7 = false := by
  unfold withinB
  rcases h with h | h
  · rw [decide_eq_false (by omega), Bool.false_and]
  · rw [decide_eq_false (show ¬ k ≤ 7 by omega), Bool.and_false]
attribute [local go_sem] List.size_toArray Int.toNat_zero Nat.sub_zero size_mk top_val eq_self datL X.dat u8min u8max i64min i64max stepT gdO aop ev lit litOk putF fzX_false putO upd app List.contains_nil List.elem_nil aBin aInt aStr aBool aLen lenTy aBuiltin aLoad aTake aTakeX aStore splice aSlice aBd look_cons look_nil lookC_cons lookC_nil by_s by_C start_s start_C X.cells X.cell List.all_cons List.all_nil Bool.and_self Bool.not_true Bool.not_false false_implies true_implies forall_const and_true true_and and_self implies_true not_false_eq_true Nat.zero_add Nat.add_zero List.getD_cons_zero List.getD_cons_succ List.map_cons List.map_nil Option.bind_some Option.map_some Option.map_none List.getElem?_cons_zero List.getElem?_cons_succ List.length_cons List.length_nil List.drop_zero List.drop_succ_cons List.take_succ_cons List.take_zero List.cons_append List.nil_append List.append_nil D.of List.length_map all_get_map Option.isSome_some and_false false_and Nat.lt_add_one Nat.zero_lt_succ decide_true decide_false aPart aSl2 Nat.lt_irrefl fzX litEs List.contains_cons List.elem_cons Bool.true_or Bool.or_true Bool.false_or Bool.or_false beq_self_eq_true
section
attribute [local go_sem] tsz9 tsz39 tel39 toNat_cast und9 und4 und5b tsz44 tfld44 tsz3' sS
theorem OpOk1_spec (s : ByteArray) : Fun Tryd.prog 51 [.d (.str s)] (.d (.bool (barB s))) := by
  refine Fun.of ?_ rfl rfl
  refine Spec.of (fn := Tryd.f51) Tryd.func51 rfl (by kernel_rfl) (rs := [.tmp 2]) rfl 1 (by simp [Tryd.f51]) rfl (by simp) ?_
  intro hreal
  rintro ⟨P, T, L0, w0, ι0, C0, U0⟩ hP hT hU
  subst hP hT
  refine st ?_
  all_goals first
  | fail_if_success with_reducible refine atR 0 ?_
  | (
    refine rg 0 [] [some 2] 1 ?_
    all_goals refine qP ?_
    all_goals refine qE ?_)
  all_goals first
  | fail_if_success with_reducible refine atR 1 ?_
  | (
    refine rg 1 [] [some 3, some 4, some 2] 3 ?_
    all_goals refine qP ?_
    all_goals (
      refine qL_cons ?_
      intro R hR
      refine sm ?_
      refine call_fun (Contains_spec s) [] ?_ (.inl rfl) ?_
      · exact ⟨.inl rfl, ⟨.inl rfl, trivial⟩⟩
      refine sm ?_
      all_goals (refine hR _ ?_; clear hR R))
    all_goals refine qP ?_
    all_goals refine qE ?_)
  all_goals first
  | fail_if_success with_reducible refine ret_fun (t := 2) ?_ ?_
  | (
    refine ret_fun (t := 2) ?_ (fun _ => rfl)
    first
    | exact cl
    | (
      try refine sm ?_
      all_goals (
       rfl)))

end
section
attribute [local go_sem] tsz9 tsz39 tel39 toNat_cast und9 und4 und5b tsz44 tfld44 tsz3' sS
theorem l19Lines_spec (text : List ByteArray) : Fun Tryd.prog 73 [.d (strs text)] (.d (.bool (linesB text))) := by
  refine Fun.of ?_ rfl rfl
  refine Spec.of (fn := Tryd.f73) Tryd.func73 rfl (by kernel_rfl) (rs := [.tmp 2]) rfl 1 (by simp [Tryd.f73]) rfl (by simp) ?_
  intro hreal
  rintro ⟨P, T, L0, w0, ι0, C0, U0⟩ hP hT hU
  subst hP hT
  refine st ?_
  have hlen : text.length ≤ 9223372036854775807 := by simpa using D.real_len (X.real_d (hreal (.d (strs text)) (by simp)) : D.real (.sl (text.map sS)))
  all_goals first
  | fail_if_success with_reducible refine atR 0 ?_
  | (
    refine rg 0 [] [some 2] 1 ?_
    all_goals refine qP ?_
    all_goals refine qE ?_)
  all_goals first
  | fail_if_success with_reducible refine atR 1 ?_
  | (
    refine rg 1 [] [some 3] 1 ?_
    all_goals refine qP ?_
    all_goals refine qE ?_)
  all_goals first
  | fail_if_success with_reducible refine AW.rounds (α := Nat) ?_ ?_ ?_ ?_ ?_ ?_ ?_ ?_
  | (
    refine AW.rounds (α := Nat) (fun i => i ≤ text.length ∧ ∀ j y, j < i → text[j]? = some y → barB y = false) (fun i => St.by [(0, .d (strs text)), (3, .d (.int .i64 i))] []) (fun i => text.length - i) 1 0 ?_ ?_ ?_
    · exact ⟨by omega, fun j y hj => by omega⟩
    · refine Vw.to [] _ _ (vU hU) ?_ ?_ (by simp [tauL])
      · refine vd (vw_d ?_ (trivial))
        · first
          | exact cl2
          | (
            refine sm2 ?_
            all_goals (
             rfl))
      · trivial
    · intro i hJ
      refine st ?_
      obtain ⟨hJ1, hJ2⟩ := hJ
      all_goals first
      | fail_if_success with_reducible refine atR 2 ?_
      | (
        refine rg 2 [] [some 5, some 6, some 7, some 8] 4 ?_
        all_goals iterate 4 refine qP ?_
        all_goals refine qE ?_)
      all_goals first
      | fail_if_success with_reducible refine atC 8 ?_
      | (
        refine cn 8 ?_ ?_ <;> intro hc8 <;> try (cases hc8; done)
        all_goals refine st ?_)
      all_goals first
      | fail_if_success with_reducible refine atR 4 ?_
      | (
        obtain ⟨x, hx⟩ : ∃ x, text[i]? = some x := ⟨_, List.getElem?_eq_getElem (by omega)⟩
        have hxr : x.size ≤ 9223372036854775807 := by
          have := D.real_sl (X.real_d (hreal (.d (strs text)) (by simp)) : D.real (.sl (text.map sS))) (sS x) (List.mem_map.2 ⟨x, List.mem_of_getElem? hx, rfl⟩) (.str x) (by simp [sS])
          exact D.real_str this
        all_goals first
        | fail_if_success with_reducible refine atR 4 ?_
        | (
          refine rg 4 [] [some 4] 1 ?_
          all_goals refine qP ?_
          all_goals refine qE ?_))
      all_goals first
      | fail_if_success with_reducible refine AW.rounds (α := Nat) ?_ ?_ ?_ ?_ ?_ ?_ ?_ ?_
      | (
        refine AW.rounds (α := Nat) (fun k => k ≤ x.size ∧ ∀ j, j < k → x.data[j]? ≠ some 124) (fun k => St.by [(0, .d (strs text)), (3, .d (.int .i64 i)), (4, .d (.int .i64 k))] []) (fun k => x.size - k) 1 0 ?_ ?_ ?_
        · exact ⟨by omega, fun j hj => by omega⟩
        · refine Vw.to [] _ _ (vU hU) ?_ ?_ (by simp [tauL])
          · refine vd (vd (vw_d ?_ (trivial)))
            · first
              | exact cl2
              | (
                refine sm2 ?_
                all_goals (
                 rfl))
          · trivial
        · intro k hJ
          refine st ?_
          obtain ⟨hK1, hK2⟩ := hJ
          all_goals first
          | fail_if_success with_reducible refine atR 5 ?_
          | (
            refine rg 5 [] [some 11, some 12, some 13, some 14, some 15, some 16, some 17] 7 ?_
            all_goals iterate 3 refine qP ?_
            all_goals (
              refine qL_cons ?_
              intro R hR
              refine sm ?_
              refine ⟨⟨by omega, by omega⟩, ?_⟩
              refine get_use hx ?_
              try refine sm ?_
              all_goals (refine hR _ ?_; clear hR R))
            all_goals iterate 3 refine qP ?_
            all_goals refine qE ?_)
          all_goals first
          | fail_if_success with_reducible refine atC 17 ?_
          | (
            refine cn 17 ?_ ?_ <;> intro hc17 <;> try (cases hc17; done)
            all_goals refine st ?_)
          all_goals first
          | fail_if_success with_reducible refine atR 7 ?_
          | (
            refine rg 7 [] [some 20, some 21, some 22, some 23, some 24, some 25, some 26] 7 ?_
            all_goals iterate 2 refine qP ?_
            all_goals (
              refine qL_cons ?_
              intro R hR
              refine sm ?_
              refine ⟨⟨by omega, by omega⟩, ?_⟩
              refine get_use hx ?_
              try refine sm ?_
              all_goals (refine hR _ ?_; clear hR R))
            all_goals iterate 2 refine qP ?_
            all_goals (
              refine qL_cons ?_
              intro R hR
              refine sm ?_
              refine ⟨⟨by omega, by omega⟩, ?_⟩
              intro c hc
              all_goals (refine hR _ ?_; clear hR R))
            all_goals refine qP ?_
            all_goals refine qE ?_)
          all_goals first
          | fail_if_success with_reducible refine atC 26 ?_
          | (
            refine cn 26 ?_ ?_ <;> intro hc26 <;> try (cases hc26; done)
            all_goals refine st ?_)
          all_goals first
          | fail_if_success with_reducible refine atR 8 ?_
          | (
            refine rg 8 [] [some 2] 1 ?_
            all_goals refine qP ?_
            all_goals refine qE ?_)
          all_goals first
          | fail_if_success with_reducible refine atR 6 ?_
          | (
            refine rg 6 [] [some 18, some 19, some 4] 3 ?_
            all_goals refine qP ?_
            all_goals (
              refine qL_cons ?_
              intro R hR
              refine sm ?_
              rw [wrap64 (by omega) (by omega)]
              all_goals (refine hR _ ?_; clear hR R))
            all_goals refine qP ?_
            all_goals refine qE ?_)
          all_goals first
          | fail_if_success with_reducible refine ⟨k + 1, ?_, ?_, ?_⟩
          | (
            refine ⟨k + 1, ?_, ?_, ?_⟩
            · refine ⟨by omega, fun j hj => ?_⟩
              by_cases hjk : j = k
              · subst hjk
                rw [hc]
                intro hh
                cases hh
                exact hc26 rfl
              · exact hK2 j (by omega)
            · omega
            · refine Vw.to [] _ _ (vU hU) ?_ ?_ (by simp [tauL])
              · refine vd (vd (vw_d ?_ (trivial)))
                · first
                  | exact cl2
                  | (
                    refine sm2 ?_
                    all_goals (
                     congr 1))
              · trivial)
          all_goals first
          | fail_if_success with_reducible refine atR 3 ?_
          | (
            refine rg 3 [] [some 9, some 10, some 3] 3 ?_
            all_goals refine qP ?_
            all_goals (
              refine qL_cons ?_
              intro R hR
              refine sm ?_
              rw [wrap64 (by omega) (by omega)]
              all_goals (refine hR _ ?_; clear hR R))
            all_goals refine qP ?_
            all_goals refine qE ?_)
          all_goals first
          | fail_if_success with_reducible refine ⟨i + 1, ?_, ?_, ?_⟩
          | (
            refine ⟨i + 1, ?_, ?_, ?_⟩
            · refine ⟨by omega, fun j y hj hy => ?_⟩
              by_cases hji : j = i
              · subst hji
                rw [hx] at hy
                cases hy
                exact bar_no (fun q hq => hK2 q (by omega))
              · exact hJ2 j y (by omega) hy
            · omega
            · refine Vw.to [] _ _ (vU hU) ?_ ?_ (by simp [tauL])
              · refine vd (vw_d ?_ (trivial))
                · first
                  | exact cl2
                  | (
                    refine sm2 ?_
                    all_goals (
                     congr 1))
              · trivial)
          all_goals first
          | fail_if_success with_reducible refine ret_fun (t := 2) ?_ ?_
          | (
            refine ret_fun (t := 2) ?_ (fun _ => rfl)
            first
            | exact cl
            | (
              try refine sm ?_
              all_goals (
               first
               | (congr 2; unfold linesB
                  have : text.any barB = true := List.any_eq_true.2 ⟨x, List.mem_of_getElem? hx, bar_yes hc (by assumption)⟩
                  rw [this]; simp; done)
               | (congr 2; unfold linesB
                  have : text.any barB = false := by
                    rw [List.any_eq_false]
                    intro y hy
                    obtain ⟨j, hj, rfl⟩ := List.mem_iff_getElem.1 hy
                    have := hJ2 j _ (by omega) (List.getElem?_eq_getElem hj)
                    simp [this]
                  rw [this]; simp; done)))))
      all_goals first
      | fail_if_success with_reducible refine atR 9 ?_
      | (
        refine rg 9 [] [some 27, some 28, some 2] 3 ?_
        all_goals refine qP ?_
        all_goals (
          refine qL_cons ?_
          intro R hR
          refine sm ?_
          refine call_fun (l1Ok_spec text) [] ?_ (.inl rfl) ?_
          · exact ⟨.inl rfl, trivial⟩
          refine sm ?_
          all_goals (refine hR _ ?_; clear hR R))
        all_goals refine qP ?_
        all_goals refine qE ?_)
      all_goals first
      | fail_if_success with_reducible refine ret_fun (t := 2) ?_ ?_
      | (
        refine ret_fun (t := 2) ?_ (fun _ => rfl)
        first
        | exact cl
        | (
          try refine sm ?_
          all_goals (
           first
           | (congr 2; unfold linesB
              have : text.any barB = true := List.any_eq_true.2 ⟨x, List.mem_of_getElem? hx, bar_yes hc (by assumption)⟩
              rw [this]; simp; done)
           | (congr 2; unfold linesB
              have : text.any barB = false := by
                rw [List.any_eq_false]
                intro y hy
                obtain ⟨j, hj, rfl⟩ := List.mem_iff_getElem.1 hy
                have := hJ2 j _ (by omega) (List.getElem?_eq_getElem hj)
                simp [this]
              rw [this]; simp; done)))))

end
section
attribute [local go_sem] tsz9 tsz39 tel39 toNat_cast und9 und4 und5b tsz44 tfld44 tsz3' sS
theorem l19Bare_spec (kind : Int) (br who path to : ByteArray) (at_ : Int) (text : List ByteArray) (a b c d : Bool) : Fun Tryd.prog 72 [.ag [.d (.int .i64 kind), .d (.str br), .d (.str who), .d (.str path), .d (.str to), .d (.int .i64 at_), .d (strs text)], .d (.bool a), .d (.bool b), .d (.bool c), .d (.bool d)] (.d (.bool (wsB path to at_ text a b c d))) := by
  refine Fun.of ?_ rfl rfl
  refine Spec.of (fn := Tryd.f72) Tryd.func72 rfl (by kernel_rfl) (rs := [.tmp 10]) rfl 1 (by simp [Tryd.f72]) rfl (by simp) ?_
  intro hreal
  rintro ⟨P, T, L0, w0, ι0, C0, U0⟩ hP hT hU
  subst hP hT
  refine st ?_
  all_goals first
  | fail_if_success with_reducible refine atR 0 ?_
  | (
    refine rg 0 [] [some 5, some 10] 2 ?_
    all_goals iterate 2 refine qP ?_
    all_goals refine qE ?_)
  all_goals first
  | fail_if_success with_reducible refine atR 1 ?_
  | (
    refine rg 1 [] [some 11, some 12, some 13, some 14, some 15, some 16, some 17, some 18, some 19, some 20, some 21, some 22, some 23, some 24, some 25, some 26, some 27, some 28, some 29, some 30, some 31, some 32, some 33, some 34, some 35, some 36, some 37, some 38, some 39, some 40, some 41, some 10] 32 ?_
    all_goals iterate 2 refine qP ?_
    all_goals first | refine qU 12 ?_ | (refine qS 12 ?_ ?_ <;> intro hg1_1 <;> try (cases hg1_1; done))
    all_goals iterate 5 refine qP ?_
    all_goals first | refine qU 17 ?_ | (refine qS 17 ?_ ?_ <;> intro hg1_6 <;> try (cases hg1_6; done))
    all_goals iterate 2 refine qP ?_
    all_goals first | refine qU 19 ?_ | (refine qS 19 ?_ ?_ <;> intro hg1_8 <;> try (cases hg1_8; done))
    all_goals iterate 6 refine qP ?_
    all_goals first | refine qU 25 ?_ | (refine qS 25 ?_ ?_ <;> intro hg1_14 <;> try (cases hg1_14; done))
    all_goals iterate 2 refine qP ?_
    all_goals first | refine qU 27 ?_ | (refine qS 27 ?_ ?_ <;> intro hg1_16 <;> try (cases hg1_16; done))
    all_goals iterate 6 refine qP ?_
    all_goals first | refine qU 33 ?_ | (refine qS 33 ?_ ?_ <;> intro hg1_22 <;> try (cases hg1_22; done))
    all_goals iterate 2 refine qP ?_
    all_goals first | refine qU 35 ?_ | (refine qS 35 ?_ ?_ <;> intro hg1_24 <;> try (cases hg1_24; done))
    all_goals iterate 7 refine qP ?_
    all_goals refine qE ?_)
  all_goals first
  | fail_if_success with_reducible refine ret_fun (t := 10) ?_ ?_
  | (
    refine ret_fun (t := 10) ?_ (fun _ => rfl)
    first
    | exact cl
    | (
      try refine sm ?_
      all_goals (
       (congr 2; simp only [wsB]; simp_all; done))))

end
end Go.Proofs.YtkbnkcdaiahoeaaDoor
