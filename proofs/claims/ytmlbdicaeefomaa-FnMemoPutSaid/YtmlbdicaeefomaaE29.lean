/- strings copied, one put in at its place; the program ReviewYes. No condition. -/
import Derived.Test.YtmlbdicaeefomaaE12
import Derived.Test.YtmlbdicaeefomaaAxD
namespace Go.Proofs.Ytmlbdicaeefomaa
open Go Go.RowKit Go.Shelf
set_option maxRecDepth 100000
set_option linter.unusedSimpArgs false
set_option linter.unusedVariables false
def ren22 : Ren := { f := fun x => match x with | 22 => 60 | 29 => 81 | 30 => 82 | 36 => 88 | 17 => 89 | n => n, t := fun x => match x with | 24 => 22 | n => n, g := fun n => n }
theorem lays22 : Lays2.n22 Try.prog ren22 :=
  { mixed := Eq.refl true, f17 := Eq.trans Try.func89 (congrArg some (by kernel_rfl)), f22 := Eq.trans Try.func60 (congrArg some (by kernel_rfl)), f29 := Eq.trans Try.func81 (congrArg some (by kernel_rfl)), f30 := Eq.trans Try.func82 (congrArg some (by kernel_rfl)),
    f36 := Eq.trans Try.func88 (congrArg some (by kernel_rfl)), t0 := Try.underlying0, a0 := Try.isAgg0, z0 := Try.sizeOf0, v0 := Try.zeroValue0, t3 := Try.underlying3, a3 := Try.isAgg3, z3 := Try.sizeOf3, v3 := Try.zeroValue3, t4 := Try.underlying4, a4 := Try.isAgg4, z4 := Try.sizeOf4, v4 := Try.zeroValue4,
    t9 := Try.underlying9, a9 := Try.isAgg9, z9 := Try.sizeOf9, v9 := Try.zeroValue9, t24 := Try.underlying22, a24 := Try.isAgg22, z24 := Try.sizeOf22, v24 := Try.zeroValue22, i9 := by kernel_rfl }
def ren26 : Ren := { f := fun x => match x with | 26 => 59 | 33 => 79 | 34 => 80 | 38 => 87 | n => n, t := fun x => match x with | 24 => 22 | 40 => 90 | n => n, g := fun n => n }
theorem lays26 : Lays2.n26 Try.prog ren26 :=
  { mixed := Eq.refl true, f26 := Eq.trans Try.func59 (congrArg some (by kernel_rfl)), f33 := Eq.trans Try.func79 (congrArg some (by kernel_rfl)), f34 := Eq.trans Try.func80 (congrArg some (by kernel_rfl)), f38 := Eq.trans Try.func87 (congrArg some (by kernel_rfl)),
    t0 := Try.underlying0, a0 := Try.isAgg0, z0 := Try.sizeOf0, v0 := Try.zeroValue0, t3 := Try.underlying3, a3 := Try.isAgg3, z3 := Try.sizeOf3, v3 := Try.zeroValue3, t4 := Try.underlying4, a4 := Try.isAgg4, z4 := Try.sizeOf4, v4 := Try.zeroValue4,
    t9 := Try.underlying9, a9 := Try.isAgg9, z9 := Try.sizeOf9, v9 := Try.zeroValue9, t24 := Try.underlying22, a24 := Try.isAgg22, z24 := Try.sizeOf22, v24 := Try.zeroValue22, t40 := Try.underlying90, a40 := Try.isAgg90, z40 := Try.sizeOf90, v40 := Try.zeroValue90 }
/-- Where the search stops; whether it is there. -/
def kS (ss : List ByteArray) (x : ByteArray) : Nat := Lib.bsGo (fun t => Op.bytesLess (ss.getD t ByteArray.empty).toList x.toList) ss.length 0 ss.length
def fS (ss : List ByteArray) (x : ByteArray) : Bool := decide (kS ss x < ss.length ∧ ss.getD (kS ss x) ByteArray.empty = x)
theorem BS_spec (ss : List ByteArray) (x : ByteArray) (hn : ss.length ≤ 1000000) : Fun Try.prog 59 [.d (strs ss), .d (.str x)] (.tup [.d (.int .i64 (kS ss x : Nat)), .d (.bool (fS ss x))]) :=
  BinarySearch_spec lays26 (by kernel_rfl) ss x (by omega)
theorem bsGo_le (less : Nat → Bool) : ∀ (f lo hi : Nat), lo ≤ hi → Lib.bsGo less f lo hi ≤ hi
  | 0, lo, hi, h => h
  | f + 1, lo, hi, h => by
    simp only [Lib.bsGo]
    split
    · split
      · exact bsGo_le less f _ _ (by omega)
      · exact Nat.le_trans (bsGo_le less f _ _ (by omega)) (by omega)
    · exact h
theorem kS_le (ss : List ByteArray) (x : ByteArray) : kS ss x ≤ ss.length := bsGo_le _ _ _ _ (Nat.zero_le _)
theorem Ins_spec (es : List ByteArray) (s : ByteArray) (i : Nat) (hi : i ≤ es.length) (hn : es.length ≤ 1000000) :
    Spec Try.prog 60 [.vec 0 1 0 es.length, .d (.int .i64 i), .vec 2 1 0 1] [(0, .vec 9 1 (es.map sS)), (2, .vec 9 1 [sS s])] 1 (fun x δ => x = .vec 1 1 0 (es.length + 1) ∧ δ = [(0, none), (1, some (.vec 9 1 ((insS es i s).map sS)))]) :=
  Insert_spec lays22 (by kernel_rfl) es s i hi hn
/-- x put in at its place among names that ascend. -/
def twS (ss : List ByteArray) (x : ByteArray) : Nat := (ss.takeWhile fun y => strLt y x).length
def putS (ss : List ByteArray) (x : ByteArray) : List ByteArray := if ss[twS ss x]? = some x then ss else insS ss (twS ss x) x
theorem mtake (ss : List ByteArray) (i : Nat) : (ss.map sS).take i = (ss.take i).map sS := by rw [List.map_take]
theorem mdrop (ss : List ByteArray) (i : Nat) : (ss.map sS).drop i = (ss.drop i).map sS := by rw [List.map_drop]
theorem row_get {ss : List ByteArray} {i : Nat} {c : List D} (h : (ss.map sS)[i]? = some c) : ∃ y, ss[i]? = some y ∧ c = sS y := by
  rw [List.getElem?_map] at h
  cases hs : ss[i]? with
  | none => rw [hs] at h; cases h
  | some y => rw [hs] at h; exact ⟨y, rfl, (Option.some.inj h).symm⟩
theorem twS_eq {ss : List ByteArray} {x : ByteArray} {i : Nat} (h1 : i ≤ ss.length) (h2 : ∀ j y, j < i → ss[j]? = some y → strLt y x = true) (h3 : ∀ y, ss[i]? = some y → strLt y x = false) : twS ss x = i := by
  unfold twS
  have e : ss = ss.take i ++ ss.drop i := (List.take_append_drop i ss).symm
  rw [e, List.takeWhile_append_of_pos]
  · have : (ss.drop i).takeWhile (fun y => strLt y x) = [] := by
      cases hd : ss.drop i with
      | nil => rfl
      | cons y r =>
        have : ss[i]? = some y := by
          have := congrArg (·[0]?) hd
          simpa using this
        simp [h3 y this]
    rw [this]; simp; omega
  · intro y hy
    obtain ⟨j, hj, hjy⟩ := List.mem_iff_getElem.1 hy
    have hji : j < i := by simp at hj; omega
    exact h2 j y hji (by rw [← hjy, List.getElem_take]; exact List.getElem?_eq_getElem _)
theorem tz9l : (tzero Try.prog 9).map (·.length) = some 1 := by kernel_rfl
theorem iz9 : (tzero Try.prog 9).isSome = true := by kernel_rfl
attribute [local go_sem] List.size_toArray Int.toNat_zero Nat.sub_zero size_mk top_val eq_self datL X.dat u8min u8max i64min i64max stepT gdO aop ev lit litOk putF fzX_false putO upd app List.contains_nil List.elem_nil aBin aInt aStr aBool aLen lenTy aBuiltin aLoad aTake aTakeX aStore splice aSlice aBd look_cons look_nil lookC_cons lookC_nil by_s by_C start_s start_C X.cells X.cell List.all_cons List.all_nil Bool.and_self Bool.not_true Bool.not_false false_implies true_implies forall_const and_true true_and and_self implies_true not_false_eq_true Nat.zero_add Nat.add_zero List.getD_cons_zero List.getD_cons_succ List.map_cons List.map_nil Option.bind_some Option.map_some Option.map_none List.getElem?_cons_zero List.getElem?_cons_succ List.length_cons List.length_nil List.drop_zero List.drop_succ_cons List.take_succ_cons List.take_zero List.cons_append List.nil_append List.append_nil D.of List.length_map all_get_map Option.isSome_some and_false false_and Nat.lt_add_one Nat.zero_lt_succ decide_true decide_false aPart Nat.lt_irrefl fzX litEs List.contains_cons List.elem_cons Bool.true_or Bool.or_true Bool.false_or Bool.or_false beq_self_eq_true
section
attribute [local go_sem] tsz9 tsz22 tsz27 tfld27 tel22 toNat_cast und9 tz9l iz9 aDst aSrc aNil
theorem Clone_spec (ss : List ByteArray) (hss : ss.length ≤ 1000000) : FunR Try.prog 58 [.d (strs ss)] (fun m => .vec m 1 0 ss.length) (.vec 9 1 (ss.map sS)) := by
  refine FunR.of ?_ rfl
  refine Spec.of (fn := Try.f58) Try.func58 rfl (by kernel_rfl) (rs := [.tmp 2]) rfl 1 (by simp [Try.f58]) rfl (by simp) ?_
  intro hreal
  rintro ⟨P, T, L0, w0, ι0, C0, U0⟩ hP hT hU
  subst hP hT
  refine st ?_
  all_goals first
  | fail_if_success with_reducible refine atR 0 ?_
  | (
    refine rg 0 [] [some 2] 1 ?_
    all_goals refine qP ?_
    all_goals refine qE ?_)
  all_goals first
  | fail_if_success with_reducible refine atR 1 ?_
  | (
    refine rg 1 [] [some 3, some 4] 2 ?_
    all_goals refine qP ?_
    all_goals (
      refine qL_cons ?_
      intro R hR
      refine sm ?_
      intro b hb
      all_goals (refine hR _ ?_; clear hR R))
    all_goals refine qE ?_)
  all_goals first
  | fail_if_success with_reducible refine atC 4 ?_
  | (
    refine cn 4 ?_ ?_ <;> intro hc4 <;> try (cases hc4; done)
    all_goals refine st ?_)
  all_goals first
  | fail_if_success with_reducible refine atR 2 ?_
  | (
    refine rg 2 [] [some 2] 1 ?_
    all_goals refine qP ?_
    all_goals refine qE ?_)
  all_goals first
  | fail_if_success with_reducible refine atR 3 ?_
  | (
    refine rg 3 [] [some 5, some 6, some 7, some 2] 4 ?_
    all_goals iterate 2 refine qP ?_
    all_goals (
      refine qL_cons ?_
      intro R hR
      refine sm ?_
      refine ⟨by simp [sS], by omega, ?_⟩
      all_goals (refine hR _ ?_; clear hR R))
    all_goals refine qP ?_
    all_goals refine qE ?_)
  all_goals first
  | (
    have hz : ss = [] := by simpa using hb (by assumption)
    subst hz
    exact ret_nilrow 9 1 hU cl)
  | exact ret_vec 6 hU cl cl

end
section
attribute [local go_sem] tsz9 tsz22 tsz27 tfld27 tel22 toNat_cast und9 tz9l iz9 aDst aSrc sS mtake mdrop List.length_take List.length_drop List.length_append
theorem l5Put_spec (ss : List ByteArray) (x : ByteArray) (hss : ss.length ≤ 1000000) : Spec Try.prog 61 [.vec 0 1 0 ss.length, .d (.str x)] [(0, .vec 9 1 (ss.map sS))] 1 (fun x' δ => x' = .vec 1 1 0 (putS ss x).length ∧ δ = [(0, none), (1, some (.vec 9 1 ((putS ss x).map sS)))]) := by
  refine Spec.of (fn := Try.f61) Try.func61 rfl (by kernel_rfl) (rs := [.tmp 4]) rfl 2 (by simp [Try.f61]) rfl (by simp [Cap.on, X.onL, X.on]) ?_
  intro hreal
  rintro ⟨P, T, L0, w0, ι0, C0, U0⟩ hP hT hU
  subst hP hT
  refine st ?_
  all_goals first
  | fail_if_success with_reducible refine atR 0 ?_
  | (
    refine rg 0 [] [some 4] 1 ?_
    all_goals refine qP ?_
    all_goals refine qE ?_)
  all_goals first
  | fail_if_success with_reducible refine atR 1 ?_
  | (
    refine rg 1 [] [some 5] 1 ?_
    all_goals refine qP ?_
    all_goals refine qE ?_)
  all_goals first
  | fail_if_success with_reducible refine AW.rounds (α := Nat) ?_ ?_ ?_ ?_ ?_ ?_ ?_ ?_
  | (
    refine AW.rounds (α := Nat) (fun i => i ≤ ss.length ∧ ∀ j y, j < i → ss[j]? = some y → strLt y x = true) (fun i => St.by [(0, .vec 0 1 0 ss.length), (1, .d (.str x)), (5, .d (.int .i64 i))] [(0, .vec 9 1 (ss.map sS))]) (fun i => ss.length - i) 2 0 ?_ ?_ ?_
    · exact ⟨by omega, fun j y hj => by omega⟩
    · refine Vw.to [] _ _ (vU hU) ?_ ?_ (by simp [tauL])
      · refine vx (vd (vw_d ?_ (trivial)))
        · first
          | exact cl2
          | (
            refine sm2 ?_
            all_goals (
             rfl))
      · exact ⟨⟨by simp, rfl, cl3⟩, trivial⟩
    · intro i hJ
      refine st ?_
      obtain ⟨hJ1, hJ2⟩ := hJ
      all_goals first
      | fail_if_success with_reducible refine atR 2 ?_
      | (
        refine rg 2 [] [some 7, some 8, some 9, some 10, some 11, some 12, some 13, some 14, some 15, some 16, some 17, some 18] 12 ?_
        all_goals iterate 5 refine qP ?_
        all_goals first | refine qU 11 ?_ | (refine qS 11 ?_ ?_ <;> intro hg2_4 <;> try (cases hg2_4; done))
        all_goals iterate 2 refine qP ?_
        all_goals first
        | (
          refine qL_cons ?_
          intro R hR
          refine sm ?_
          refine ⟨⟨by omega, by omega⟩, ?_⟩
          refine hR _ ?_
          clear hR R)
        | refine qP ?_
        all_goals first
        | (
          refine qL_cons ?_
          intro R hR
          refine sm ?_
          refine ⟨by omega, ?_⟩
          intro xa hxa
          refine hR _ ?_
          clear hR R)
        | refine qP ?_
        all_goals iterate 3 refine qP ?_
        all_goals refine qE ?_)
      all_goals first
      | fail_if_success with_reducible refine atC 18 ?_
      | (
        refine cn 18 ?_ ?_ <;> intro hc18 <;> try (cases hc18; done)
        all_goals refine st ?_)
      all_goals first
      | fail_if_success with_reducible refine atR 3 ?_
      | (
        refine rg 3 [] [some 19, some 20, some 5] 3 ?_
        all_goals refine qP ?_
        all_goals (
          refine qL_cons ?_
          intro R hR
          refine sm ?_
          rw [wrap64 (by omega) (by omega)]
          all_goals (refine hR _ ?_; clear hR R))
        all_goals refine qP ?_
        all_goals refine qE ?_)
      all_goals first
      | fail_if_success with_reducible refine ⟨i + 1, ?_, ?_, ?_⟩
      | (
        refine ⟨i + 1, ?_, ?_, ?_⟩
        · refine ⟨by omega, fun j y hj hy => ?_⟩
          by_cases hji : j = i
          · subst hji; simp_all
          · exact hJ2 j y (by omega) hy
        · omega
        · refine Vw.to [] _ _ (vU hU) ?_ ?_ (by simp [tauL])
          · refine vx (vd (vw_d ?_ (trivial)))
            · first
              | exact cl2
              | (
                refine sm2 ?_
                all_goals (
                 congr 1))
          · exact ⟨⟨by simp, rfl, cl3⟩, trivial⟩)
      all_goals first
      | fail_if_success with_reducible refine atR 4 ?_
      | (
        refine rg 4 [] [some 21, some 22, some 23, some 24, some 25, some 26, some 27, some 28, some 29, some 30, some 31, some 32] 12 ?_
        all_goals iterate 5 refine qP ?_
        all_goals first | refine qU 25 ?_ | (refine qS 25 ?_ ?_ <;> intro hg4_4 <;> try (cases hg4_4; done))
        all_goals iterate 2 refine qP ?_
        all_goals first
        | (
          refine qL_cons ?_
          intro R hR
          refine sm ?_
          refine ⟨⟨by omega, by omega⟩, ?_⟩
          refine hR _ ?_
          clear hR R)
        | refine qP ?_
        all_goals first
        | (
          refine qL_cons ?_
          intro R hR
          refine sm ?_
          refine ⟨by omega, ?_⟩
          intro xb hxb
          refine hR _ ?_
          clear hR R)
        | refine qP ?_
        all_goals iterate 3 refine qP ?_
        all_goals refine qE ?_)
      all_goals first
      | fail_if_success with_reducible refine atC 32 ?_
      | (
        refine cn 32 ?_ ?_ <;> intro hc32 <;> try (cases hc32; done)
        all_goals refine st ?_)
      all_goals first
      | fail_if_success with_reducible refine atR 5 ?_
      | (
        refine rg 5 [] [some 33, some 4] 2 ?_
        all_goals iterate 2 refine qP ?_
        all_goals refine qE ?_)
      all_goals first
      | fail_if_success with_reducible refine atR 6 ?_
      | (
        refine rg 6 [] [some 34, some 35, some 36, some 37, some 38, some 6] 6 ?_
        all_goals iterate 3 refine qP ?_
        all_goals (
          refine qL_cons ?_
          intro R hR
          refine sm ?_
          refine ⟨⟨by omega, by omega⟩, ?_⟩
          all_goals (refine hR _ ?_; clear hR R))
        all_goals (
          refine qL_cons ?_
          intro R hR
          refine sm ?_
          refine ⟨by omega, by omega, ?_⟩
          all_goals (refine hR _ ?_; clear hR R))
        all_goals refine qP ?_
        all_goals refine qE ?_)
      all_goals first
      | fail_if_success with_reducible refine atR 7 ?_
      | (
        refine rg 7 [2] [some 39, some 40, some 41, some 42, some 6] 5 ?_
        all_goals iterate 3 refine qP ?_
        all_goals (
          refine qL_cons ?_
          intro R hR
          refine sm ?_
          refine ⟨by simp, by omega, ?_⟩
          all_goals (refine hR _ ?_; clear hR R))
        all_goals refine qP ?_
        all_goals refine qE ?_)
      all_goals first
      | fail_if_success with_reducible refine atR 8 ?_
      | (
        refine rg 8 [] [some 43, some 44, some 45, some 46, some 47, some 4] 6 ?_
        all_goals iterate 3 refine qP ?_
        all_goals (
          refine qL_cons ?_
          intro R hR
          refine sm ?_
          refine ⟨⟨by omega, by omega⟩, ?_⟩
          all_goals (refine hR _ ?_; clear hR R))
        all_goals (
          refine qL_cons ?_
          intro R hR
          refine sm ?_
          refine ⟨by omega, by omega, ?_⟩
          all_goals (refine hR _ ?_; clear hR R))
        all_goals refine qP ?_
        all_goals refine qE ?_)
      all_goals try have htw : twS ss x = i := twS_eq hJ1 hJ2 (fun y hy => by first | (rw [List.getElem?_eq_none (by omega)] at hy; cases hy) | (rw [hxa] at hy; cases hy; assumption))
      all_goals first
      | (
        have hp : putS ss x = ss := by unfold putS; rw [htw, hxb, if_pos (by simp_all)]
        rw [hp]
        exact ret_mv 0 hU cl cl)
      | (
        have hp : putS ss x = insS ss i x := by
          unfold putS; rw [htw, if_neg ?_]
          first
          | (rw [List.getElem?_eq_none (by omega)]; simp; done)
          | (rw [hxb]; simp_all; done)
        rw [hp]
        refine ret_mv 41 hU (len := (insS ss i x).length) (es := (insS ss i x).map sS) ?_ ?_
        · refine sm ?_
          rw [insS_len]
          congr 1
          omega
        · refine sm ?_
          congr 2
          rw [List.take_of_length_le (show (ss.drop i).length ≤ ss.length - i by simp)]
          simp [insS, sS]))

end
end Go.Proofs.Ytmlbdicaeefomaa
namespace Go.Proofs.Ytmlbdicaeefomaa
open Go Go.RowKit
set_option maxRecDepth 100000
set_option linter.unusedSimpArgs false
set_option linter.unusedVariables false
/-- What a review's names become: w, if that is ok. -/
def rvOut (v : Rv) (w : List ByteArray) : List ByteArray := if rvB { v with yes := w } then w else v.yes
def rvMk (v : Rv) (w : List ByteArray) (m : Nat) : X := .tup [.ag [.d (.str v.br), .d (.str v.into), .d (.str v.by_), .vec m 1 0 (rvOut v w).length], .d (.bool (rvB { v with yes := w }))]
def rvBad : X := .tup [.ag [.d (.str ByteArray.empty), .d (.str ByteArray.empty), .d (.str ByteArray.empty), .nil], .d (.bool false)]
def wI (v : Rv) (who : ByteArray) : List ByteArray := if fS v.yes who then v.yes else insS v.yes (kS v.yes who) who
theorem rvB_len {v : Rv} (h : rvB v = true) : v.yes.length ≤ 5 := by
  simp only [rvB, Bool.and_eq_true, decide_eq_true_eq] at h
  omega
attribute [local go_sem] List.size_toArray Int.toNat_zero Nat.sub_zero size_mk top_val eq_self datL X.dat u8min u8max i64min i64max stepT gdO aop ev lit litOk putF fzX_false putO upd app List.contains_nil List.elem_nil aBin aInt aStr aBool aLen lenTy aBuiltin aLoad aTake aTakeX aStore splice aSlice aBd look_cons look_nil lookC_cons lookC_nil by_s by_C start_s start_C X.cells X.cell List.all_cons List.all_nil Bool.and_self Bool.not_true Bool.not_false false_implies true_implies forall_const and_true true_and and_self implies_true not_false_eq_true Nat.zero_add Nat.add_zero List.getD_cons_zero List.getD_cons_succ List.map_cons List.map_nil Option.bind_some Option.map_some Option.map_none List.getElem?_cons_zero List.getElem?_cons_succ List.length_cons List.length_nil List.drop_zero List.drop_succ_cons List.take_succ_cons List.take_zero List.cons_append List.nil_append List.append_nil D.of List.length_map all_get_map Option.isSome_some and_false false_and Nat.lt_add_one Nat.zero_lt_succ decide_true decide_false aPart Nat.lt_irrefl fzX litEs List.contains_cons List.elem_cons Bool.true_or Bool.or_true Bool.false_or Bool.or_false beq_self_eq_true
section
attribute [local go_sem] tsz9 tsz22 tsz27 tfld27 tel22 toNat_cast und9 zero27 tz9l iz9 aDst aSrc
theorem implReviewYes_bad (v : Rv) (who : ByteArray) (h : rvB v = false) : Fun Try.prog 23 [.ag [.d (.str v.br), .d (.str v.into), .d (.str v.by_), .d (strs v.yes)], .d (.str who)] (rvBad) := by
  refine Fun.of ?_ rfl rfl
  refine Spec.of (fn := Try.f23) Try.func23 rfl (by kernel_rfl) (rs := [.cell 4 27, .tmp 5]) rfl 1 (by simp [Try.f23]) rfl (by simp) ?_
  intro hreal
  rintro ⟨P, T, L0, w0, ι0, C0, U0⟩ hP hT hU
  subst hP hT
  refine st ?_
  all_goals first
  | fail_if_success with_reducible refine atR 0 ?_
  | (
    refine rg 0 [] [some 2, some 4, some 5] 3 ?_
    all_goals iterate 3 refine qP ?_
    all_goals refine qE ?_)
  all_goals first
  | fail_if_success with_reducible refine atR 1 ?_
  | (
    refine rg 1 [] [some 9, some 10, some 11] 3 ?_
    all_goals refine qP ?_
    all_goals (
      refine qL_cons ?_
      intro R hR
      refine sm ?_
      refine call_fun (implReviewOk v) [] ?_ (.inl rfl) ?_
      · exact ⟨.inl rfl, trivial⟩
      refine sm ?_
      all_goals (refine hR _ ?_; clear hR R))
    all_goals refine qP ?_
    all_goals refine qE ?_)
  all_goals first
  | fail_if_success with_reducible refine atC 11 ?_
  | (
    refine cn 11 ?_ ?_ <;> intro hc11 <;> try (cases hc11; done)
    all_goals refine st ?_)
  all_goals try (simp [h] at hc11; done)
  all_goals first
  | fail_if_success with_reducible refine atR 2 ?_
  | (
    refine rg 2 [] [some 12, none, some 5] 3 ?_
    all_goals iterate 3 refine qP ?_
    all_goals refine qE ?_)
  all_goals refine ret_dat [.ag [.d (.str ByteArray.empty), .d (.str ByteArray.empty), .d (.str ByteArray.empty), .nil], .d (.bool false)] (Vw.refl _ _ _) ⟨cl, cl, trivial⟩ (fun _ => rfl) rfl

end
section
attribute [local go_sem] tsz9 tsz22 tsz27 tfld27 tel22 toNat_cast und9 zero27 tz9l iz9 aDst aSrc
theorem implReviewYes_ok (v : Rv) (who : ByteArray) (h : rvB v = true) : FunR Try.prog 23 [.ag [.d (.str v.br), .d (.str v.into), .d (.str v.by_), .d (strs v.yes)], .d (.str who)] (rvMk v (wI v who)) (.vec 9 1 ((rvOut v (wI v who)).map sS)) := by
  refine FunR.of ?_ rfl
  refine Spec.of (fn := Try.f23) Try.func23 rfl (by kernel_rfl) (rs := [.cell 4 27, .tmp 5]) rfl 1 (by simp [Try.f23]) rfl (by simp) ?_
  intro hreal
  rintro ⟨P, T, L0, w0, ι0, C0, U0⟩ hP hT hU
  subst hP hT
  refine st ?_
  have hlen := rvB_len h
  all_goals first
  | fail_if_success with_reducible refine atR 0 ?_
  | (
    refine rg 0 [] [some 2, some 4, some 5] 3 ?_
    all_goals iterate 3 refine qP ?_
    all_goals refine qE ?_)
  all_goals first
  | fail_if_success with_reducible refine atR 1 ?_
  | (
    refine rg 1 [] [some 9, some 10, some 11] 3 ?_
    all_goals refine qP ?_
    all_goals (
      refine qL_cons ?_
      intro R hR
      refine sm ?_
      refine call_fun (implReviewOk v) [] ?_ (.inl rfl) ?_
      · exact ⟨.inl rfl, trivial⟩
      refine sm ?_
      all_goals (refine hR _ ?_; clear hR R))
    all_goals refine qP ?_
    all_goals refine qE ?_)
  all_goals first
  | fail_if_success with_reducible refine atC 11 ?_
  | (
    refine cn 11 ?_ ?_ <;> intro hc11 <;> try (cases hc11; done)
    all_goals refine st ?_)
  all_goals try (simp [h] at hc11; done)
  all_goals first
  | fail_if_success with_reducible refine atR 2 ?_
  | (
    refine rg 2 [] [some 12, none, some 5] 3 ?_
    all_goals iterate 3 refine qP ?_
    all_goals refine qE ?_)
  all_goals first
  | fail_if_success with_reducible refine atR 3 ?_
  | (
    refine rgW 3 [] [some 13, some 14, some 15, some 16, some 17, some 18, some 19, some 20, some 21, some 22, some 6, none] 12 13 [(11, [17])] ?_
    intro av wr hav hwr
    have hf1_1 := avD 1 1 hav
    have hf3_1 := avD 3 1 hav
    have hf5_1 := avD 5 1 hav
    have hf7_1 := avD 7 1 hav
    have hf11_17 := avD 11 17 hav
    have hw11_17 := wrD 11 17 hwr
    all_goals refine qP ?_
    all_goals (
      refine qL_cons ?_
      intro R hR
      simp only [go_sem, reduceIte, reduceCtorEq, Nat.reduceAdd, Nat.reduceEqDiff, Nat.reduceLeDiff, Nat.reduceLT, Nat.reduceSub, Int.reduceLE, Int.reduceNeg, Int.reduceLT, hf1_1, hf3_1, hf5_1, hf7_1, hf11_17, hw11_17]
      all_goals (refine hR _ ?_; clear hR R))
    all_goals refine qP ?_
    all_goals (
      refine qL_cons ?_
      intro R hR
      simp only [go_sem, reduceIte, reduceCtorEq, Nat.reduceAdd, Nat.reduceEqDiff, Nat.reduceLeDiff, Nat.reduceLT, Nat.reduceSub, Int.reduceLE, Int.reduceNeg, Int.reduceLT, hf1_1, hf3_1, hf5_1, hf7_1, hf11_17, hw11_17]
      all_goals (refine hR _ ?_; clear hR R))
    all_goals refine qP ?_
    all_goals (
      refine qL_cons ?_
      intro R hR
      simp only [go_sem, reduceIte, reduceCtorEq, Nat.reduceAdd, Nat.reduceEqDiff, Nat.reduceLeDiff, Nat.reduceLT, Nat.reduceSub, Int.reduceLE, Int.reduceNeg, Int.reduceLT, hf1_1, hf3_1, hf5_1, hf7_1, hf11_17, hw11_17]
      all_goals (refine hR _ ?_; clear hR R))
    all_goals refine qP ?_
    all_goals (
      refine qL_cons ?_
      intro R hR
      simp only [go_sem, reduceIte, reduceCtorEq, Nat.reduceAdd, Nat.reduceEqDiff, Nat.reduceLeDiff, Nat.reduceLT, Nat.reduceSub, Int.reduceLE, Int.reduceNeg, Int.reduceLT, hf1_1, hf3_1, hf5_1, hf7_1, hf11_17, hw11_17]
      all_goals (refine hR _ ?_; clear hR R))
    all_goals (
      refine qL_cons ?_
      intro R hR
      simp only [go_sem, reduceIte, reduceCtorEq, Nat.reduceAdd, Nat.reduceEqDiff, Nat.reduceLeDiff, Nat.reduceLT, Nat.reduceSub, Int.reduceLE, Int.reduceNeg, Int.reduceLT, hf1_1, hf3_1, hf5_1, hf7_1, hf11_17, hw11_17]
      refine call_row (Clone_spec v.yes (by omega)) [] ?_ (.inl rfl) ?_
      · exact ⟨.inl rfl, trivial⟩
      simp only [go_sem, reduceIte, reduceCtorEq, Nat.reduceAdd, Nat.reduceEqDiff, Nat.reduceLeDiff, Nat.reduceLT, Nat.reduceSub, Int.reduceLE, Int.reduceNeg, Int.reduceLT, hf1_1, hf3_1, hf5_1, hf7_1, hf11_17, hw11_17]
      all_goals (refine hR _ ?_; clear hR R))
    all_goals iterate 2 refine qP ?_
    all_goals (
      refine qL_cons ?_
      intro R hR
      simp only [go_sem, reduceIte, reduceCtorEq, Nat.reduceAdd, Nat.reduceEqDiff, Nat.reduceLeDiff, Nat.reduceLT, Nat.reduceSub, Int.reduceLE, Int.reduceNeg, Int.reduceLT, hf1_1, hf3_1, hf5_1, hf7_1, hf11_17, hw11_17]
      all_goals (refine hR _ ?_; clear hR R))
    all_goals refine qE ?_
    all_goals clear hf1_1 hf3_1 hf5_1 hf7_1 hf11_17 hw11_17 hav hwr wr av)
  all_goals first
  | fail_if_success with_reducible refine atR 4 ?_
  | (
    refine rg 4 [] [some 24, some 25, some 26, some 27, some 23, some 28, some 29, some 7, some 8] 9 ?_
    all_goals iterate 3 refine qP ?_
    all_goals (
      refine qL_cons ?_
      intro R hR
      refine sm ?_
      refine call_fun (BS_spec v.yes who (by omega)) [15] ?_ (.inr rfl) ?_
      · exact ⟨.inr (lend_of (by simp) (by simp) cl (by simp)), ⟨.inl rfl, trivial⟩⟩
      refine sm ?_
      all_goals (refine hR _ ?_; clear hR R))
    all_goals iterate 5 refine qP ?_
    all_goals refine qE ?_)
  all_goals first
  | fail_if_success with_reducible refine atR 5 ?_
  | (
    refine rg 5 [] [some 30, some 31] 2 ?_
    all_goals iterate 2 refine qP ?_
    all_goals refine qE ?_)
  all_goals first
  | fail_if_success with_reducible refine atC 31 ?_
  | (
    refine cn 31 ?_ ?_ <;> intro hc31 <;> try (cases hc31; done)
    all_goals refine st ?_)
  all_goals first
  | fail_if_success with_reducible refine atR 6 ?_
  | (
    refine rg 6 [] [some 32, some 33, some 34, some 35, some 36, some 37, some 38, none] 8 ?_
    all_goals iterate 5 refine qP ?_
    all_goals (
      refine qL_cons ?_
      intro R hR
      refine sm ?_
      refine call_ins (Ins_spec v.yes who (kS v.yes who) (kS_le _ _) (by omega)) (a := 15) (b := 34) (by decide) (by decide) (by decide) cl cl trivial (fun h => h) trivial (fun h => h) ?_ ?_
      · exact ⟨.inl rfl, .inl rfl, .inl rfl, trivial⟩
      refine sm ?_
      all_goals (refine hR _ ?_; clear hR R))
    all_goals iterate 2 refine qP ?_
    all_goals refine qE ?_)
  all_goals first
  | fail_if_success with_reducible refine atR 7 ?_
  | (
    refine rg 7 [] [some 39, some 40, some 41] 3 ?_
    all_goals refine qP ?_
    all_goals (
      refine qL_cons ?_
      intro R hR
      first
      | (
        refine sm ?_
        refine call_fun (implReviewOk { v with yes := v.yes }) [15] ?_ (.inr rfl) ?_
        · exact ⟨.inr (.inr ⟨_, rfl, .inl rfl, .inl rfl, .inl rfl, .inr (.inr (lend_of (by simp) (by simp) cl (by simp [insS_len]))), trivial⟩), trivial⟩
        refine sm ?_)
      | (
        refine sm ?_
        refine call_fun (implReviewOk { v with yes := insS v.yes (kS v.yes who) who }) [35] ?_ (.inr rfl) ?_
        · exact ⟨.inr (.inr ⟨_, rfl, .inl rfl, .inl rfl, .inl rfl, .inr (.inr (lend_of (by simp) (by simp) cl (by simp [insS_len]))), trivial⟩), trivial⟩
        refine sm ?_)
      all_goals (refine hR _ ?_; clear hR R))
    all_goals refine qP ?_
    all_goals refine qE ?_)
  all_goals first
  | fail_if_success with_reducible refine atC 41 ?_
  | (
    refine cn 41 ?_ ?_ <;> intro hc41 <;> try (cases hc41; done)
    all_goals refine st ?_)
  all_goals first
  | fail_if_success with_reducible refine atR 8 ?_
  | (
    refine rgW 8 [] [some 42, some 43, some 44, some 45, some 46, some 47, some 48, some 49, some 50, some 51, none, some 5] 12 13 [(10, [2])] ?_
    intro av wr hav hwr
    have hf1_1 := avD 1 1 hav
    have hf3_1 := avD 3 1 hav
    have hf5_1 := avD 5 1 hav
    have hf7_1 := avD 7 1 hav
    have hf10_2 := avD 10 2 hav
    have hw10_2 := wrD 10 2 hwr
    all_goals refine qP ?_
    all_goals (
      refine qL_cons ?_
      intro R hR
      simp only [go_sem, reduceIte, reduceCtorEq, Nat.reduceAdd, Nat.reduceEqDiff, Nat.reduceLeDiff, Nat.reduceLT, Nat.reduceSub, Int.reduceLE, Int.reduceNeg, Int.reduceLT, hf1_1, hf3_1, hf5_1, hf7_1, hf10_2, hw10_2]
      all_goals (refine hR _ ?_; clear hR R))
    all_goals refine qP ?_
    all_goals (
      refine qL_cons ?_
      intro R hR
      simp only [go_sem, reduceIte, reduceCtorEq, Nat.reduceAdd, Nat.reduceEqDiff, Nat.reduceLeDiff, Nat.reduceLT, Nat.reduceSub, Int.reduceLE, Int.reduceNeg, Int.reduceLT, hf1_1, hf3_1, hf5_1, hf7_1, hf10_2, hw10_2]
      all_goals (refine hR _ ?_; clear hR R))
    all_goals refine qP ?_
    all_goals (
      refine qL_cons ?_
      intro R hR
      simp only [go_sem, reduceIte, reduceCtorEq, Nat.reduceAdd, Nat.reduceEqDiff, Nat.reduceLeDiff, Nat.reduceLT, Nat.reduceSub, Int.reduceLE, Int.reduceNeg, Int.reduceLT, hf1_1, hf3_1, hf5_1, hf7_1, hf10_2, hw10_2]
      all_goals (refine hR _ ?_; clear hR R))
    all_goals refine qP ?_
    all_goals (
      refine qL_cons ?_
      intro R hR
      simp only [go_sem, reduceIte, reduceCtorEq, Nat.reduceAdd, Nat.reduceEqDiff, Nat.reduceLeDiff, Nat.reduceLT, Nat.reduceSub, Int.reduceLE, Int.reduceNeg, Int.reduceLT, hf1_1, hf3_1, hf5_1, hf7_1, hf10_2, hw10_2]
      all_goals (refine hR _ ?_; clear hR R))
    all_goals (
      refine qL_cons ?_
      intro R hR
      simp only [go_sem, reduceIte, reduceCtorEq, Nat.reduceAdd, Nat.reduceEqDiff, Nat.reduceLeDiff, Nat.reduceLT, Nat.reduceSub, Int.reduceLE, Int.reduceNeg, Int.reduceLT, hf1_1, hf3_1, hf5_1, hf7_1, hf10_2, hw10_2]
      refine call_row (Clone_spec v.yes (by omega)) [] ?_ (.inl rfl) ?_
      · exact ⟨.inl rfl, trivial⟩
      simp only [go_sem, reduceIte, reduceCtorEq, Nat.reduceAdd, Nat.reduceEqDiff, Nat.reduceLeDiff, Nat.reduceLT, Nat.reduceSub, Int.reduceLE, Int.reduceNeg, Int.reduceLT, hf1_1, hf3_1, hf5_1, hf7_1, hf10_2, hw10_2]
      all_goals (refine hR _ ?_; clear hR R))
    all_goals refine qP ?_
    all_goals (
      refine qL_cons ?_
      intro R hR
      simp only [go_sem, reduceIte, reduceCtorEq, Nat.reduceAdd, Nat.reduceEqDiff, Nat.reduceLeDiff, Nat.reduceLT, Nat.reduceSub, Int.reduceLE, Int.reduceNeg, Int.reduceLT, hf1_1, hf3_1, hf5_1, hf7_1, hf10_2, hw10_2]
      all_goals (refine hR _ ?_; clear hR R))
    all_goals refine qP ?_
    all_goals refine qE ?_
    all_goals clear hf1_1 hf3_1 hf5_1 hf7_1 hf10_2 hw10_2 hav hwr wr av)
  all_goals first
  | fail_if_success with_reducible refine atR 9 ?_
  | (
    refine rg 9 [] [some 52, none, some 5] 3 ?_
    all_goals iterate 3 refine qP ?_
    all_goals refine qE ?_)
  all_goals first
  | (
      have hB : rvB { v with yes := wI v who } = true := by simp_all [wI]
      have hO : rvOut v (wI v who) = v.yes := by simp_all [rvOut, wI]
      simp only [rvMk, hO, hB]
      refine ret_row [.ag [.d (.str v.br), .d (.str v.into), .d (.str v.by_), .vec 0 1 0 (v.yes).length], .d (.bool true)] (Vw.to (g' := 5) [(0, 15), (1, 2)] [(4, .bx 1 0), (5, .d (.bool true))] [(0, .vec 9 1 ((v.yes).map sS)), (1, .box 27 [.d (.str v.br), .d (.str v.into), .d (.str v.by_), .vec 0 1 0 (v.yes).length])] (fun n hn => absurd (hU n hn) (by omega)) (vx (vd trivial)) ⟨⟨by omega, rfl, cl3⟩, ⟨by omega, rfl, ?_⟩, trivial⟩ (by simp [tauL])) cl ⟨cl, cl, trivial⟩ rfl rfl
      first
      | exact cl3
      | (
        simp only [go_sem, reduceIte, reduceCtorEq, Nat.reduceAdd, Nat.reduceEqDiff, Nat.reduceLeDiff, Nat.reduceLT, Nat.reduceSub, Int.reduceLE, Int.reduceNeg, Int.reduceLT, tauL, Cap.ren, insS_len]
        rfl))
  | (
      have hB : rvB { v with yes := wI v who } = true := by simp_all [wI]
      have hO : rvOut v (wI v who) = insS v.yes (kS v.yes who) who := by simp_all [rvOut, wI]
      simp only [rvMk, hO, hB]
      refine ret_row [.ag [.d (.str v.br), .d (.str v.into), .d (.str v.by_), .vec 0 1 0 (insS v.yes (kS v.yes who) who).length], .d (.bool true)] (Vw.to (g' := 5) [(0, 35), (1, 2)] [(4, .bx 1 0), (5, .d (.bool true))] [(0, .vec 9 1 ((insS v.yes (kS v.yes who) who).map sS)), (1, .box 27 [.d (.str v.br), .d (.str v.into), .d (.str v.by_), .vec 0 1 0 (insS v.yes (kS v.yes who) who).length])] (fun n hn => absurd (hU n hn) (by omega)) (vx (vd trivial)) ⟨⟨by omega, rfl, cl3⟩, ⟨by omega, rfl, ?_⟩, trivial⟩ (by simp [tauL])) cl ⟨cl, cl, trivial⟩ rfl rfl
      first
      | exact cl3
      | (
        simp only [go_sem, reduceIte, reduceCtorEq, Nat.reduceAdd, Nat.reduceEqDiff, Nat.reduceLeDiff, Nat.reduceLT, Nat.reduceSub, Int.reduceLE, Int.reduceNeg, Int.reduceLT, tauL, Cap.ren, insS_len]
        rfl))
  | (
      have hB : rvB { v with yes := wI v who } = false := by simp_all [wI]
      have hO : rvOut v (wI v who) = v.yes := by simp_all [rvOut, wI]
      simp only [rvMk, hO, hB]
      refine ret_row [.ag [.d (.str v.br), .d (.str v.into), .d (.str v.by_), .vec 0 1 0 (v.yes).length], .d (.bool false)] (Vw.to (g' := 5) [(0, 41), (1, 2)] [(4, .bx 1 0), (5, .d (.bool false))] [(0, .vec 9 1 ((v.yes).map sS)), (1, .box 27 [.d (.str v.br), .d (.str v.into), .d (.str v.by_), .vec 0 1 0 (v.yes).length])] (fun n hn => absurd (hU n hn) (by omega)) (vx (vd trivial)) ⟨⟨by omega, rfl, cl3⟩, ⟨by omega, rfl, ?_⟩, trivial⟩ (by simp [tauL])) cl ⟨cl, cl, trivial⟩ rfl rfl
      first
      | exact cl3
      | (
        simp only [go_sem, reduceIte, reduceCtorEq, Nat.reduceAdd, Nat.reduceEqDiff, Nat.reduceLeDiff, Nat.reduceLT, Nat.reduceSub, Int.reduceLE, Int.reduceNeg, Int.reduceLT, tauL, Cap.ren, insS_len]
        rfl))
  | (
      have hB : rvB { v with yes := wI v who } = false := by simp_all [wI]
      have hO : rvOut v (wI v who) = v.yes := by simp_all [rvOut, wI]
      simp only [rvMk, hO, hB]
      refine ret_row [.ag [.d (.str v.br), .d (.str v.into), .d (.str v.by_), .vec 0 1 0 (v.yes).length], .d (.bool false)] (Vw.to (g' := 5) [(0, 49), (1, 2)] [(4, .bx 1 0), (5, .d (.bool false))] [(0, .vec 9 1 ((v.yes).map sS)), (1, .box 27 [.d (.str v.br), .d (.str v.into), .d (.str v.by_), .vec 0 1 0 (v.yes).length])] (fun n hn => absurd (hU n hn) (by omega)) (vx (vd trivial)) ⟨⟨by omega, rfl, cl3⟩, ⟨by omega, rfl, ?_⟩, trivial⟩ (by simp [tauL])) cl ⟨cl, cl, trivial⟩ rfl rfl
      first
      | exact cl3
      | (
        simp only [go_sem, reduceIte, reduceCtorEq, Nat.reduceAdd, Nat.reduceEqDiff, Nat.reduceLeDiff, Nat.reduceLT, Nat.reduceSub, Int.reduceLE, Int.reduceNeg, Int.reduceLT, tauL, Cap.ren, insS_len]
        rfl))

end
end Go.Proofs.Ytmlbdicaeefomaa
