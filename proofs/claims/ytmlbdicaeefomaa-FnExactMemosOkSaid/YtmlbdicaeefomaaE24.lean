/- copies of memos. No condition. -/
import Derived.Test.YtmlbdicaeefomaaE23
namespace Go.Proofs.Ytmlbdicaeefomaa
open Go Go.RowKit
set_option maxRecDepth 100000
set_option linter.unusedSimpArgs false
set_option linter.unusedVariables false
attribute [local go_sem] List.size_toArray Int.toNat_zero Nat.sub_zero size_mk top_val eq_self datL X.dat u8min u8max i64min i64max stepT gdO aop ev lit litOk putF fzX_false putO upd app List.contains_nil List.elem_nil aBin aInt aStr aBool aLen lenTy aBuiltin aLoad aTake aTakeX aStore splice aSlice aBd look_cons look_nil lookC_cons lookC_nil by_s by_C start_s start_C X.cells X.cell List.all_cons List.all_nil Bool.and_self Bool.not_true Bool.not_false false_implies true_implies forall_const and_true true_and and_self implies_true not_false_eq_true Nat.zero_add Nat.add_zero List.getD_cons_zero List.getD_cons_succ List.map_cons List.map_nil Option.bind_some Option.map_some Option.map_none List.getElem?_cons_zero List.getElem?_cons_succ List.length_cons List.length_nil List.drop_zero List.drop_succ_cons List.take_succ_cons List.take_zero List.cons_append List.nil_append List.append_nil D.of List.length_map all_get_map Option.isSome_some and_false false_and Nat.lt_add_one Nat.zero_lt_succ decide_true decide_false
theorem iz9 : (tzero Try.prog 9).isSome = true := by kernel_rfl
theorem cells_toS (ss : List ByteArray) (b : Bool) : (toS ss b).cells = [toS ss b] := by unfold toS; split <;> rfl
theorem cell_toS (ss : List ByteArray) (b : Bool) : (toS ss b).cell = true := by unfold toS; split <;> rfl
theorem cells_toSm (ss : List ByteArray) (b : Bool) : X.cells.match_1 (fun _ => List X) (toS ss b) (fun cs => cs) (fun x => [x]) = [toS ss b] := cells_toS ss b
theorem cell_toSm (ss : List ByteArray) (b : Bool) : X.cell.match_1 (fun _ => Bool) (toS ss b) (fun _ => true) (fun _ => true) (fun _ _ => true) (fun _ _ _ _ => true) (fun _ _ _ _ => true) (fun _ => true) (fun _ _ => true) (fun _ => false) = true := cell_toS ss b
theorem on_toS (V : Nat → Bool) (ss : List ByteArray) (b : Bool) : (toS ss b).on V = true := by unfold toS; split <;> rfl
def toSD (ss : List ByteArray) (b : Bool) : D := if b && decide (ss.length = 0) then .sl [] else toD ss
theorem dat_toS (ss : List ByteArray) (b : Bool) : (toS ss b).dat = some (toSD ss b) := by unfold toS toSD; split <;> rfl
theorem dat_toSm (ss : List ByteArray) (b : Bool) : X.dat.match_1 (fun _ => Option D) (toS ss b) (fun x => some x) (fun _ => some (D.sl [])) (fun _ => none) = some (toSD ss b) := dat_toS ss b
theorem toSD_false (ss : List ByteArray) : toSD ss false = toD ss := rfl
theorem toSD_bare (ss : List ByteArray) (b : Bool) : (toSD ss b).bare = strs ss := by
  have h := toS_bare ss b
  unfold toSD
  unfold toS at h
  split
  · rename_i hh
    have : ss = [] := by simp at hh; exact hh.2
    subst this; rfl
  · rename_i hh
    rw [if_neg hh] at h
    have h : X.d (D.bare (toD ss)) = .d (strs ss) := h
    exact X.d.inj h
theorem bareLL_app : ∀ a b : List (List D), D.bareLL (a ++ b) = D.bareLL a ++ D.bareLL b
  | [], b => rfl
  | x :: a, b => by simp [D.bareLL, bareLL_app a b]
theorem spOf_bare {n : Nat} {es es2 : List (List D)} (h : n = es.length) : (spOf n (es ++ es2)).bare = .sl (D.bareLL es) := by
  subst h
  unfold spOf
  split
  · rename_i hh
    have : es2 = [] := by
      apply List.length_eq_zero_iff.1
      simpa using hh
    subst this
    simp [D.bare]
  · simp only [D.bare, bareLL_app]
    rw [List.take_left' (by rw [bareLL_len])]
structure MmQ where
  old : D
  one : D
  two : D
  done : D
def mmQ (q : MmQ) : List D := [q.old, q.one, q.two, q.done]
def mmT (b : Bool) (v : Mm) : MmQ := ⟨toSD v.old b, toSD v.one b, toSD v.two b, toSD v.done b⟩
def toMm (v : Mm) (b : Bool) : X := .ag [toS v.old b, toS v.one b, toS v.two b, toS v.done b]
theorem on_toMm (V : Nat → Bool) (v : Mm) (b : Bool) : (toMm v b).on V = true := by simp [toMm, X.on, X.onL, on_toS]
section
attribute [local go_sem] tsz9 tsz22 tsz34 tfld34 tel22 tel32 toNat_cast und9 zero34 tsz69 tfld69 tel42 cells_toS cell_toS dat_toS cells_toSm cell_toSm dat_toSm
theorem toTMm (v : Mm) (b : Bool) (hold : v.old.length ≤ 1000000) (hone : v.one.length ≤ 1000000) (htwo : v.two.length ≤ 1000000) (hdone : v.done.length ≤ 1000000) : Fun Try.prog 52 [.ag [.d (strs v.old), .d (strs v.one), .d (strs v.two), .d (strs v.done)], .d (.bool b)] (toMm v b) := by
  refine Fun.of ?_ rfl (on_toMm _ _ _)
  refine Spec.of (fn := Try.f52) Try.func52 rfl (by kernel_rfl) (rs := [.cell 4 34]) rfl 1 (by simp [Try.f52]) rfl (by simp) ?_
  intro hreal
  rintro ⟨P, T, L0, w0, ι0, C0, U0⟩ hP hT hU
  subst hP hT
  refine st ?_
  all_goals first
  | fail_if_success with_reducible refine atR 0 ?_
  | (
    refine rg 0 [] [some 2, some 4] 2 ?_
    all_goals iterate 2 refine qP ?_
    all_goals refine qE ?_)
  all_goals first
  | fail_if_success with_reducible refine atR 1 ?_
  | (
    refine rg 1 [] [some 5] 1 ?_
    all_goals refine qP ?_
    all_goals refine qE ?_)
  all_goals first
  | fail_if_success with_reducible refine atR 2 ?_
  | (
    refine rg 2 [] [some 6, some 7, some 8, some 9, some 10, none] 6 ?_
    all_goals iterate 3 refine qP ?_
    all_goals (
      refine qL_cons ?_
      intro R hR
      refine sm ?_
      refine call_fun (toStringS_spec v.old b hold) [] ?_ (.inl rfl) ?_
      · exact ⟨.inl rfl, ⟨.inl rfl, trivial⟩⟩
      refine sm ?_
      all_goals (refine hR _ ?_; clear hR R))
    all_goals iterate 2 refine qP ?_
    all_goals refine qE ?_)
  all_goals first
  | fail_if_success with_reducible refine atR 3 ?_
  | (
    refine rg 3 [] [some 11, some 12, some 13, some 14, some 15, none] 6 ?_
    all_goals iterate 3 refine qP ?_
    all_goals (
      refine qL_cons ?_
      intro R hR
      refine sm ?_
      refine call_fun (toStringS_spec v.one b hone) [] ?_ (.inl rfl) ?_
      · exact ⟨.inl rfl, ⟨.inl rfl, trivial⟩⟩
      refine sm ?_
      all_goals (refine hR _ ?_; clear hR R))
    all_goals iterate 2 refine qP ?_
    all_goals refine qE ?_)
  all_goals first
  | fail_if_success with_reducible refine atR 4 ?_
  | (
    refine rg 4 [] [some 16, some 17, some 18, some 19, some 20, none] 6 ?_
    all_goals iterate 3 refine qP ?_
    all_goals (
      refine qL_cons ?_
      intro R hR
      refine sm ?_
      refine call_fun (toStringS_spec v.two b htwo) [] ?_ (.inl rfl) ?_
      · exact ⟨.inl rfl, ⟨.inl rfl, trivial⟩⟩
      refine sm ?_
      all_goals (refine hR _ ?_; clear hR R))
    all_goals iterate 2 refine qP ?_
    all_goals refine qE ?_)
  all_goals first
  | fail_if_success with_reducible refine atR 5 ?_
  | (
    refine rg 5 [] [some 21, some 22, some 23, some 24, some 25, none] 6 ?_
    all_goals iterate 3 refine qP ?_
    all_goals (
      refine qL_cons ?_
      intro R hR
      refine sm ?_
      refine call_fun (toStringS_spec v.done b hdone) [] ?_ (.inl rfl) ?_
      · exact ⟨.inl rfl, ⟨.inl rfl, trivial⟩⟩
      refine sm ?_
      all_goals (refine hR _ ?_; clear hR R))
    all_goals iterate 2 refine qP ?_
    all_goals refine qE ?_)
  all_goals first
  | fail_if_success with_reducible refine atR 6 ?_
  | (
    refine rg 6 [] [some 26, none] 2 ?_
    all_goals iterate 2 refine qP ?_
    all_goals refine qE ?_)
  all_goals (
    refine ret_cell (a := 4) (t := 34) ?_ (fun V => on_toMm _ _ _)
    simp only [go_sem, reduceIte, reduceCtorEq, Nat.reduceAdd, Nat.reduceEqDiff, Nat.reduceLeDiff, Nat.reduceLT, Nat.reduceSub, Int.reduceLE, Int.reduceNeg, Int.reduceLT, toMm])

def fillMm : Mm := ⟨[spare], [spare], [spare], [spare]⟩
end
section
attribute [local go_sem] tsz9 tsz22 tsz34 tfld34 tel22 tel32 toNat_cast und9 zero34 tsz69 tfld69 tel42 sS iz9 litEs Nat.reduceMul
theorem fillTMm  : Fun Try.prog 53 [] (.ag [.d (strs fillMm.old), .d (strs fillMm.one), .d (strs fillMm.two), .d (strs fillMm.done)]) := by
  refine Fun.of ?_ rfl rfl
  refine Spec.of (fn := Try.f53) Try.func53 rfl (by kernel_rfl) (rs := [.cell 0 34]) rfl 1 (by simp [Try.f53]) rfl (by simp) ?_
  intro hreal
  rintro ⟨P, T, L0, w0, ι0, C0, U0⟩ hP hT hU
  subst hP hT
  refine st ?_
  all_goals first
  | fail_if_success with_reducible refine atR 0 ?_
  | (
    refine rg 0 [] [some 0] 1 ?_
    all_goals refine qP ?_
    all_goals refine qE ?_)
  all_goals first
  | fail_if_success with_reducible refine atR 1 ?_
  | (
    refine rg 1 [] [some 1, some 2, some 3, some 4, some 5, none] 6 ?_
    all_goals iterate 6 refine qP ?_
    all_goals refine qE ?_)
  all_goals (
    refine ret_cell (a := 0) (t := 34) ?_ (fun V => rfl)
    refine sm ?_
    rfl)

def zeroMmQ : MmQ := ⟨.sl [], .sl [], .sl [], .sl []⟩
theorem zdMm : (tzero Try.prog 34).bind datL = some (mmQ zeroMmQ) := by kernel_rfl
def fillMmQ : MmQ := ⟨strs fillMm.old, strs fillMm.one, strs fillMm.two, strs fillMm.done⟩
def mmL (ss : List Mm) (b : Bool) : List MmQ := ss.map (mmT b) ++ List.replicate (room ss.length) fillMmQ
def toMms (ss : List Mm) (b : Bool) : X := if b && decide (ss.length = 0) then .nil else .d (spOf ss.length ((mmL ss b).map mmQ))
theorem on_toMms (V : Nat → Bool) (ss : List Mm) (b : Bool) : (toMms ss b).on V = true := by unfold toMms; split <;> rfl
theorem mmL_end {ss : List Mm} {b : Bool} {l : List MmQ} (h1 : l.length = ss.length + room ss.length) (h2 : ∀ j v, j < ss.length → ss[j]? = some v → l[j]? = some (mmT b v)) (h3 : ∀ j, ss.length ≤ j → j < ss.length + room ss.length → l[j]? = some fillMmQ) : l = mmL ss b := by
  unfold mmL
  apply List.ext_getElem?
  intro j
  by_cases hj : j < ss.length
  · rw [h2 j ss[j] hj (by simp), List.getElem?_append_left (by simpa using hj)]
    simp [hj]
  · by_cases hj2 : j < ss.length + room ss.length
    · rw [h3 j (by omega) hj2, List.getElem?_append_right (by simp; omega), List.getElem?_replicate]
      simp; omega
    · rw [List.getElem?_eq_none (by omega), List.getElem?_eq_none (by simp; omega)]
end
section
attribute [local go_sem] tsz9 tsz22 tsz34 tfld34 tel22 tel32 toNat_cast und9 zero34 tsz69 tfld69 tel42 mX cells_toS cell_toS dat_toS cells_toSm cell_toSm dat_toSm zdMm mmQ addNat toMm
theorem toTMms (ss : List Mm) (bare : Bool) (hss : ss.length ≤ 1000000) (hel : ∀ v ∈ ss, v.old.length ≤ 1000000 ∧ v.one.length ≤ 1000000 ∧ v.two.length ≤ 1000000 ∧ v.done.length ≤ 1000000) : Fun Try.prog 20 [.d (.of mmX ss), .d (.bool bare)] (toMms ss bare) := by
  refine Fun.of ?_ rfl (on_toMms _ _ _)
  refine Spec.of (fn := Try.f20) Try.func20 rfl (by kernel_rfl) (rs := [.tmp 4]) rfl 1 (by simp [Try.f20]) rfl (by simp) ?_
  intro hreal
  rintro ⟨P, T, L0, w0, ι0, C0, U0⟩ hP hT hU
  subst hP hT
  refine st ?_
  have hroom := room_le ss.length
  have hlen : ss.length ≤ 9223372036854775807 := by omega
  all_goals first
  | fail_if_success with_reducible refine atR 0 ?_
  | (
    refine rg 0 [] [some 4] 1 ?_
    all_goals refine qP ?_
    all_goals refine qE ?_)
  all_goals first
  | fail_if_success with_reducible refine atR 1 ?_
  | (
    refine rg 1 [] [some 8, some 9, some 10, some 11, some 12, some 13] 6 ?_
    all_goals iterate 2 refine qP ?_
    all_goals first | refine qU 9 ?_ | (refine qS 9 ?_ ?_ <;> intro hg1_1 <;> try (cases hg1_1; done))
    all_goals iterate 4 refine qP ?_
    all_goals refine qE ?_)
  all_goals first
  | fail_if_success with_reducible refine atC 13 ?_
  | (
    refine cn 13 ?_ ?_ <;> intro hc13 <;> try (cases hc13; done)
    all_goals refine st ?_)
  all_goals first
  | fail_if_success with_reducible refine atR 2 ?_
  | (
    refine rg 2 [] [some 4] 1 ?_
    all_goals refine qP ?_
    all_goals refine qE ?_)
  all_goals first
  | fail_if_success with_reducible refine atR 3 ?_
  | (
    refine rg 3 [] [some 14, some 15, some 16, some 17, some 18, some 19, some 20, some 5] 8 ?_
    all_goals iterate 4 refine qP ?_
    all_goals (
      refine qL_cons ?_
      intro R hR
      refine sm ?_
      refine call_fun (roomBehind_spec ss.length (by omega)) [] ?_ (.inl rfl) ?_
      · exact ⟨.inl rfl, trivial⟩
      refine sm ?_
      all_goals (refine hR _ ?_; clear hR R))
    all_goals (
      refine qL_cons ?_
      intro R hR
      refine sm ?_
      rw [wrap64 (by omega) (by omega)]
      all_goals (refine hR _ ?_; clear hR R))
    all_goals (
      refine qL_cons ?_
      intro R hR
      refine sm ?_
      refine ⟨⟨by omega, by omega, by omega, by omega⟩, ?_⟩
      all_goals (refine hR _ ?_; clear hR R))
    all_goals refine qP ?_
    all_goals refine qE ?_)
  all_goals first
  | fail_if_success with_reducible refine atR 4 ?_
  | (
    refine rg 4 [] [some 6] 1 ?_
    all_goals refine qP ?_
    all_goals refine qE ?_)
  all_goals first
  | fail_if_success with_reducible refine AW.rounds (α := (Nat × List MmQ)) ?_ ?_ ?_ ?_ ?_ ?_ ?_ ?_
  | (
    refine AW.rounds (α := (Nat × List MmQ)) (fun p => p.1 ≤ ss.length ∧ p.2.length = ss.length + room ss.length ∧ ∀ j v, j < p.1 → ss[j]? = some v → p.2[j]? = some (mmT bare v)) (fun p => St.by [(0, .d (.of mmX ss)), (1, .d (.bool bare)), (5, .vec 14 4 0 (ss.length + room ss.length)), (6, .d (.int .i64 p.1))] [(14, .vec 34 4 (p.2.map mmQ))]) (fun p => ss.length - p.1) 15 (0, List.replicate (ss.length + room ss.length) zeroMmQ) ?_ ?_ ?_
    · refine ⟨by simp, by simp, fun j v hj => ?_⟩
      simp only at hj; omega
    · refine Vw.to [] _ _ (vU hU) ?_ ?_ (by simp [tauL])
      · refine vd (vd (vx (vw_d ?_ (trivial))))
        · first
          | exact cl2
          | (
            refine sm2 ?_
            all_goals (
             rfl))
      · refine ⟨⟨by simp, rfl, ?_⟩, trivial⟩
        refine sm3 ?_
        simp [mmQ, zeroMmQ]
    · intro p hJ
      refine st ?_
      obtain ⟨hJ1, hJ2, hJ3⟩ := hJ
      all_goals first
      | fail_if_success with_reducible refine atR 5 ?_
      | (
        refine rg 5 [] [some 21, some 22, some 23, some 24] 4 ?_
        all_goals iterate 4 refine qP ?_
        all_goals refine qE ?_)
      all_goals first
      | fail_if_success with_reducible refine atC 24 ?_
      | (
        refine cn 24 ?_ ?_ <;> intro hc24 <;> try (cases hc24; done)
        all_goals refine st ?_)
      all_goals first
      | fail_if_success with_reducible refine atR 7 ?_
      | (
        refine rg 7 [] [some 27, some 28, some 29, some 30, some 31, some 32, some 33, some 34, some 35, none] 10 ?_
        all_goals iterate 4 refine qP ?_
        all_goals (
          refine qL_cons ?_
          intro R hR
          refine sm ?_
          refine ⟨⟨by omega, by omega⟩, ?_⟩
          intro x4 hx4
          simp only [go_sem, reduceIte, reduceCtorEq, Nat.reduceAdd, Nat.reduceEqDiff, Nat.reduceLeDiff, Nat.reduceLT, Nat.reduceSub, Int.reduceLE, Int.reduceNeg, Int.reduceLT, mmX]
          all_goals (refine hR _ ?_; clear hR R))
        all_goals iterate 2 refine qP ?_
        all_goals (
          refine qL_cons ?_
          intro R hR
          refine sm ?_
          refine call_fun (toTMm x4 bare ((hel x4 (List.mem_of_getElem? hx4)).1) ((hel x4 (List.mem_of_getElem? hx4)).2.1) ((hel x4 (List.mem_of_getElem? hx4)).2.2.1) ((hel x4 (List.mem_of_getElem? hx4)).2.2.2)) [] ?_ (.inl rfl) ?_
          · exact ⟨.inl rfl, ⟨.inl rfl, trivial⟩⟩
          refine sm ?_
          all_goals (refine hR _ ?_; clear hR R))
        all_goals (
          refine qL_cons ?_
          intro R hR
          refine sm ?_
          refine ⟨⟨by omega, by omega⟩, ?_⟩
          all_goals (refine hR _ ?_; clear hR R))
        all_goals (
          refine qL_cons ?_
          intro R hR
          refine sm ?_
          refine ⟨by omega, ?_⟩
          intro x7 hx7
          all_goals (refine hR _ ?_; clear hR R))
        all_goals refine qE ?_)
      all_goals first
      | fail_if_success with_reducible refine atR 6 ?_
      | (
        refine rg 6 [] [some 25, some 26, some 6] 3 ?_
        all_goals refine qP ?_
        all_goals (
          refine qL_cons ?_
          intro R hR
          refine sm ?_
          rw [wrap64 (by omega) (by omega)]
          all_goals (refine hR _ ?_; clear hR R))
        all_goals refine qP ?_
        all_goals refine qE ?_)
      all_goals first
      | fail_if_success with_reducible refine ⟨(p.1 + 1, p.2.set p.1 (mmT bare x4)), ?_, ?_, ?_⟩
      | (
        refine ⟨(p.1 + 1, p.2.set p.1 (mmT bare x4)), ?_, ?_, ?_⟩
        · refine ⟨by simp only; omega, by simp only [List.length_set]; omega, fun j v hj hv => ?_⟩
          simp only at hj ⊢
          by_cases hjp : j = p.1
          · subst hjp; rw [List.getElem?_set_self (by omega)]; simp_all
          · rw [List.getElem?_set_ne (Ne.symm hjp)]; exact hJ3 j v (by omega) hv
        · simp only; omega
        · refine Vw.to [] _ _ (vU hU) ?_ ?_ (by simp [tauL])
          · refine vd (vd (vx (vw_d ?_ (trivial))))
            · first
              | exact cl2
              | (
                refine sm2 ?_
                all_goals (
                 congr 1))
          · refine ⟨⟨by simp, rfl, ?_⟩, trivial⟩
            refine sm3 ?_
            simp [List.map_set, mmQ, mmT])
      all_goals first
      | fail_if_success with_reducible refine atR 8 ?_
      | (
        refine rg 8 [] [some 36, some 37, some 7] 3 ?_
        all_goals iterate 3 refine qP ?_
        all_goals refine qE ?_)
      all_goals first
      | fail_if_success with_reducible refine AW.rounds (α := (Nat × List MmQ)) ?_ ?_ ?_ ?_ ?_ ?_ ?_ ?_
      | (
        refine AW.rounds (α := (Nat × List MmQ)) (fun q => ss.length ≤ q.1 ∧ q.1 ≤ ss.length + room ss.length ∧ q.2.length = ss.length + room ss.length ∧ (∀ j v, j < ss.length → ss[j]? = some v → q.2[j]? = some (mmT bare v)) ∧ (∀ j, ss.length ≤ j → j < q.1 → q.2[j]? = some fillMmQ)) (fun q => St.by [(0, .d (.of mmX ss)), (5, .vec 14 4 0 (ss.length + room ss.length)), (7, .d (.int .i64 q.1))] [(14, .vec 34 4 (q.2.map mmQ))]) (fun q => ss.length + room ss.length - q.1) 15 (ss.length, p.2) ?_ ?_ ?_
        · refine ⟨by simp, by simp, by simp only; omega, fun j v hj hv => hJ3 j v (by omega) hv, fun j h1 h2 => ?_⟩
          simp only at h2; omega
        · refine Vw.to [] _ _ (vU hU) ?_ ?_ (by simp [tauL])
          · refine vd (vx (vd (trivial)))
          · refine ⟨⟨by simp, rfl, ?_⟩, trivial⟩
            exact cl4
        · intro q hJ
          refine st ?_
          obtain ⟨hK1, hK2, hK3, hK4, hK5⟩ := hJ
          all_goals first
          | fail_if_success with_reducible refine atR 9 ?_
          | (
            refine rg 9 [] [some 38, some 39, some 40, some 41] 4 ?_
            all_goals iterate 2 refine qP ?_
            all_goals (
              refine qL_cons ?_
              intro R hR
              refine sm ?_
              refine ⟨by omega, ?_⟩
              all_goals (refine hR _ ?_; clear hR R))
            all_goals refine qP ?_
            all_goals refine qE ?_)
          all_goals first
          | fail_if_success with_reducible refine atC 41 ?_
          | (
            refine cn 41 ?_ ?_ <;> intro hc41 <;> try (cases hc41; done)
            all_goals refine st ?_)
          all_goals first
          | fail_if_success with_reducible refine atR 11 ?_
          | (
            refine rg 11 [] [some 44, some 45, some 46, some 47, none] 5 ?_
            all_goals iterate 2 refine qP ?_
            all_goals (
              refine qL_cons ?_
              intro R hR
              refine sm ?_
              refine call_fun (fillTMm) [] ?_ (.inl rfl) ?_
              · exact trivial
              refine sm ?_
              all_goals (refine hR _ ?_; clear hR R))
            all_goals (
              refine qL_cons ?_
              intro R hR
              refine sm ?_
              refine ⟨⟨by omega, by omega⟩, ?_⟩
              all_goals (refine hR _ ?_; clear hR R))
            all_goals (
              refine qL_cons ?_
              intro R hR
              refine sm ?_
              refine ⟨by omega, ?_⟩
              intro x7 hx7
              all_goals (refine hR _ ?_; clear hR R))
            all_goals refine qE ?_)
          all_goals first
          | fail_if_success with_reducible refine atR 10 ?_
          | (
            refine rg 10 [] [some 42, some 43, some 7] 3 ?_
            all_goals refine qP ?_
            all_goals (
              refine qL_cons ?_
              intro R hR
              refine sm ?_
              rw [wrap64 (by omega) (by omega)]
              all_goals (refine hR _ ?_; clear hR R))
            all_goals refine qP ?_
            all_goals refine qE ?_)
          all_goals first
          | fail_if_success with_reducible refine ⟨(q.1 + 1, q.2.set q.1 fillMmQ), ?_, ?_, ?_⟩
          | (
            refine ⟨(q.1 + 1, q.2.set q.1 fillMmQ), ?_, ?_, ?_⟩
            · refine ⟨by simp only; omega, by simp only; omega, by simp only [List.length_set]; omega, fun j v hj hv => ?_, fun j h1 h2 => ?_⟩
              · simp only at hj ⊢
                rw [List.getElem?_set_ne (by omega)]; exact hK4 j v hj hv
              · simp only at h1 h2 ⊢
                by_cases hjp : j = q.1
                · subst hjp; rw [List.getElem?_set_self (by omega)]
                · rw [List.getElem?_set_ne (Ne.symm hjp)]; exact hK5 j h1 (by omega)
            · simp only; omega
            · refine Vw.to [] _ _ (vU hU) ?_ ?_ (by simp [tauL])
              · refine vd (vx (vw_d ?_ (trivial)))
                · first
                  | exact cl2
                  | (
                    refine sm2 ?_
                    all_goals (
                     congr 1))
              · refine ⟨⟨by simp, rfl, ?_⟩, trivial⟩
                refine sm3 ?_
                simp [List.map_set, mmQ, fillMmQ, fillMm, strs, D.of])
          all_goals first
          | fail_if_success with_reducible refine atR 12 ?_
          | (
            refine rg 12 [] [some 48, some 49, some 50, some 51, some 4] 5 ?_
            all_goals iterate 3 refine qP ?_
            all_goals (
              refine qL_cons ?_
              intro R hR
              refine sm ?_
              refine ⟨⟨by omega, by omega⟩, ?_⟩
              all_goals (refine hR _ ?_; clear hR R))
            all_goals refine qP ?_
            all_goals refine qE ?_)
          all_goals (
            refine ret_frz (t := 4) 14 4 (q.2.map mmQ) (len := ss.length) (ty := 34) ?_ ?_ (by simp; omega) ?_
            · exact cl
            · exact cl
            · rw [mmL_end (b := bare) hK3 hK4 (fun j h1 h2 => hK5 j h1 (by omega))]
              unfold toMms
              rw [if_neg (by simp_all)])))
  all_goals first
    | (
        refine ret_fun (t := 4) ?_ (on_toMms · _ _)
        refine sm ?_
        simp_all [toMms]; done)

end
end Go.Proofs.Ytmlbdicaeefomaa
