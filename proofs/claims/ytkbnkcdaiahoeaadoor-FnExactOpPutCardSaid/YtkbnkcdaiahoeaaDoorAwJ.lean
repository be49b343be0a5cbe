/- That 'aop' tells what an operation of the model does: literal slices, make, append. No condition. -/
import Derived.Test.YtkbnkcdaiahoeaaDoorAwI
namespace Go.Proofs.YtkbnkcdaiahoeaaDoor
open Go Go.RowKit
set_option linter.unusedVariables false
set_option linter.unusedSimpArgs false
section
variable {P : Program} {ι : Nat → Gh} {U : Nat → Prop} {L : Lim} {w : World} {C : Caps} {m : Nat} {K : X → Del → Prop} {e : Operand → X} {ρ : Operand → Value} {wr av : Nat → Prop}

theorem lit_fill (k : Nat) : ∀ (ps : List (Nat × X)) (vs : List (Nat × Value)) (i0 : Nat) (es : List (List D)) (us : List Value),
    All2 (fun p q => p.1 = q.1 ∧ Rel ι U L w p.2 q.2) ps vs → litEs k i0 ps = some es → (i0 + ps.length) * k ≤ us.length →
    ∃ us' : List Value, Instr.fill (fun i => some (i * k, k)) us.toArray vs = some us'.toArray ∧ us'.length = us.length ∧ es.length = ps.length ∧ (∀ j, j < i0 * k → us'.getD j undef = us.getD j undef) ∧
      (∀ i (hi : i < es.length), (es[i]'hi).length = k ∧ ∀ j (hj : j < (es[i]'hi).length), Den L w ((es[i]'hi)[j]'hj) (us'.getD ((i0 + i) * k + j) undef)) ∧ (∀ v ∈ us', v ∈ us ∨ v.oneCell' = true) := by
  intro ps
  induction ps with
  | nil =>
    intro vs i0 es us hp he hl
    cases hp
    simp only [litEs, Option.some.injEq] at he; subst he
    exact ⟨us, rfl, rfl, rfl, fun _ _ => rfl, fun i hi => absurd hi (by simp), fun v hv => .inl hv⟩
  | cons p ps ih =>
    intro vs i0 es us hp he hl
    cases hp with
    | @cons _ q _ vs hpq hp =>
      obtain ⟨j0, x⟩ := p
      obtain ⟨j1, v⟩ := q
      obtain ⟨h1, h2⟩ := hpq
      simp only at h1 h2; subst h1
      simp only [litEs] at he
      split at he
      · rename_i hij; subst hij
        split at he
        · rename_i ds es' hds hes
          split at he
          · rename_i hdk
            simp only [Option.some.injEq] at he; subst he
            simp only [List.length_cons] at hl
            have hcell := datL_cell hds
            obtain ⟨ws, g1, g2, g3⟩ := h2.cells hcell
            obtain ⟨d1, d2⟩ := datL_rel hds g3
            have hmul : (i0 + 1) * k ≤ us.length := Nat.le_trans (Nat.mul_le_mul_right k (by omega)) hl
            have hfit : i0 * k + ws.length ≤ us.length := by rw [Nat.add_mul] at hmul; omega
            obtain ⟨us', k1, k2, k3, k4, k5, k6⟩ := ih vs (i0 + 1) es' (splice us (i0 * k) ws) hp hes (by simp [splice]; rw [show i0 + 1 + ps.length = i0 + (ps.length + 1) from by omega]; omega)
            have hspl : (splice us (i0 * k) ws).length = us.length := by simp [splice]; omega
            refine ⟨us', ?_, by omega, by simp [k3], fun j hj => ?_, fun i hi => ?_, fun u hu => ?_⟩
            · have e1 : v.cells.size = ws.length := by rw [g1]; simp
              simp only [Instr.fill]
              rw [if_neg (by rw [e1]; simp; omega), g1, foldl_set us ws (i0 * k) hfit]
              exact k1
            · rw [k4 j (by rw [Nat.add_mul]; omega), getD_splice _ _ _ _ hfit, if_neg (by omega)]
            · cases i with
              | zero =>
                refine ⟨hdk, fun j hj => ?_⟩
                simp only [List.getElem_cons_zero] at hj ⊢
                rw [Nat.add_zero, k4 (i0 * k + j) (by rw [Nat.add_mul]; omega), getD_splice _ _ _ _ hfit, if_pos (by omega)]
                rw [show i0 * k + j - i0 * k = j from by omega]
                exact d2 j hj
              | succ i =>
                have := k5 i (by simpa using hi)
                simp only [List.getElem_cons_succ]
                refine ⟨this.1, fun j hj => ?_⟩
                have h := this.2 j hj
                rwa [show i0 + 1 + i = i0 + (i + 1) from by omega] at h
            · rcases k6 u hu with h | h
              · unfold splice at h
                simp only [List.mem_append] at h
                rcases h with (h | h) | h
                · exact .inl (List.mem_of_mem_take h)
                · exact .inr (cell_one_all g2 hcell g3 u h)
                · exact .inl (List.mem_of_mem_drop h)
              · exact .inr h
          · simp at he
        · simp at he
      · simp at he

theorem getElemBang (z : Array Value) (i : Nat) (h : i < z.size) : z[i]! = z[i] := by simp [h]

theorem buildSlice_sound (hW : WR ι U L w C) (hm : ¬ U m) {t el : TypeId} {k by_ : Nat} (ht : telem P t = some (el, k, by_)) {len : Nat} {ps : List (Nat × X)} {vs : List (Nat × Value)} (hp : All2 (fun p q => p.1 = q.1 ∧ Rel ι U L w p.2 q.2) ps vs)
    (h : if len = 0 then ps = [] ∧ K (.vec m k 0 0) [(m, some (.vec el k []))] else
        0 < k ∧ len = ps.length ∧ len * k ≤ 16777216 ∧ ((tzero P el).isSome = true) ∧ (match litEs k 0 ps with
        | some es => K (.vec m k 0 es.length) [(m, some (.vec el k es))]
        | none => False)) :
    ∃ v w', (Instr.buildSlice t len vs.toArray).run P w = .ok v w' ∧ Aft ι U L w C m K v w' := by
  obtain ⟨i, hu, hi, hsz, hby, hso, -⟩ := telem_inv (w := w) ht
  split at h
  · rename_i hl
    subst hl
    obtain ⟨rfl, hK⟩ := h
    cases hp
    refine ⟨.slice (some ⟨w.heap.size, 0, none⟩) 0 0, w.alloc (.cells #[] el), ?_, ?_⟩
    · simp [Instr.buildSlice, run_underlying hu, hso, Instr.fill, newRow]; congr 2; apply Array.ext'; simp
    · exact Aft.newVec hW hm (ty := el) (k := k) (cap := 0) (es := []) (us := []) rfl rfl rfl rfl (by simp) (Nat.le_refl _) (Nat.zero_le _) (fun i hi => absurd hi (by simp)) hK
  · rename_i hl
    obtain ⟨hk, hlen, h24, hz, h⟩ := h
    obtain ⟨zc, hz⟩ := Option.isSome_iff_exists.1 hz
    obtain ⟨z, i', hi', hz0, hz', -⟩ := tzero_inv (w := w) hz
    split at h
    · rename_i es hes
      have hpl : vs.length = ps.length := by
        clear hes hlen h
        induction hp with
        | nil => rfl
        | cons _ _ ih => simp [ih]
      obtain ⟨us', k1, k2, k3, k4, k5, k6⟩ := lit_fill (ι := ι) (U := U) (L := L) (w := w) k ps vs 0 es ((List.range (len * k)).map fun j => z.cells[j % z.cells.size]!) hp hes (by simp [hlen])
      have hpos : ¬ (len = 0 ∨ k = 0) := by omega
      refine ⟨.slice (some ⟨w.heap.size, 0, none⟩) len len, w.alloc (.cells us'.toArray el), ?_, ?_⟩
      · have e2 : ((Array.range (len * k)).map (z.cells[· % z.cells.size]!)) = ((List.range (len * k)).map fun j => z.cells[j % z.cells.size]!).toArray := by rw [← List.toArray_range, List.map_toArray]
        have c1 : ¬ (len * k > 2 ^ 24) := by omega
        have c2 : ¬ (len * k = 0) := by
          have := Nat.mul_pos (Nat.pos_of_ne_zero hl) hk; omega
        simp only [Instr.buildSlice, Sem.run_bind, run_underlying hu, Result.andThen_ok, hso, Sem.run_ite, c1, c2, if_false, hz', Sem.run_pure, e2, k1, newRow, run_newObj]
        rfl
      · have hel : es.length = len := by omega
        have h5 := k5
        have h6 : es.length ≤ top := by
          have : es.length * 1 ≤ es.length * k := Nat.mul_le_mul_left _ hk
          rw [hel] at this ⊢; unfold top; omega
        rw [show (Value.slice (some ⟨w.heap.size, 0, none⟩) len len) = .slice (some ⟨w.heap.size, 0, none⟩) es.length es.length by rw [hel]]
        refine Aft.newVec hW hm (ty := el) (k := k) (cap := es.length) (es := es) (us := us') rfl rfl rfl rfl (by rw [k2]; simp [hel]) (Nat.le_refl _) h6 (fun i hi => ⟨(k5 i hi).1, fun j hj => ?_⟩) h
        have := (k5 i hi).2 j hj
        rw [Nat.zero_add] at this
        exact this
    · exact h.elim

/-- make: a row of zero values. -/
theorem makeSlice_sound (hW : WR ι U L w C) (hm : ¬ U m) {t el : TypeId} {k by_ : Nat} (ht : telem P t = some (el, k, by_)) {n c : Int} (hn : 0 ≤ n) (hnc : n ≤ c) (hb : c * by_ ≤ 140737488355328) (hct : c ≤ 140737488355328)
    {z : List D} (hz : (tzero P el).bind datL = some z) (hzk : z.length = k) (hK : K (.vec m k 0 n.toNat) [(m, some (.vec el k (List.replicate n.toNat z)))]) :
    ∃ v w', (Instr.makeSlice t (.int .i64 n) (.int .i64 c)).run P w = .ok v w' ∧ Aft ι U L w C m K v w' := by
  obtain ⟨i, hu, hi, hsz, hby, hso, hti⟩ := telem_inv (w := w) ht
  obtain ⟨zs, hz1, hz2⟩ := Option.bind_eq_some_iff.1 hz
  obtain ⟨zv, i', hi', hz0, hz', rfl⟩ := tzero_inv (w := w) hz1
  obtain ⟨d1, d2⟩ := datL_rel (ι := ι) (U := U) (L := L) (w := w) hz2 (us := zv.cells.toList) (lits_rel _)
  have hzs : zv.cells.size = k := by simp at d1; omega
  have f1 : IntKind.i64.wrap n = n := fits_i64 (by omega) (by omega)
  have f2 : IntKind.i64.wrap c = c := fits_i64 (by omega) (by omega)
  obtain ⟨n', rfl⟩ := Int.eq_ofNat_of_zero_le hn
  obtain ⟨c', rfl⟩ := Int.eq_ofNat_of_zero_le (Int.le_trans hn hnc)
  have hb' : by_ * c' ≤ 281474976710656 := by
    have h0 : ((c' * by_ : Nat) : Int) = c' * by_ := Int.natCast_mul _ _
    rw [Nat.mul_comm]; omega
  have hb2 : (by_ : Int) * (c' : Int) ≤ 281474976710656 := by
    have h0 : ((by_ * c' : Nat) : Int) = by_ * c' := Int.natCast_mul _ _
    omega
  refine ⟨.slice (some ⟨w.heap.size, 0, none⟩) n' c', w.alloc (.cells ((List.range (c' * k)).map fun j => zv.cells.toList.getD (j % k) undef).toArray el), ?_, ?_⟩
  · have e0 : ¬ ((c' : Int) < 0) := by omega
    have e1 : ¬ ((n' : Int) < 0) := by omega
    have e2 : ¬ ((n' : Int) > (c' : Int)) := by omega
    have e3 : ¬ ((by_ : Int) * (c' : Int) > 2 ^ 48) := by simpa using hb2
    simp only [Instr.makeSlice, Sem.run_bind, run_underlying hu, Result.andThen_ok, asInt, asIntOf, Sem.run_pure, hti, hby, f1, f2, e0, e1, e2, e3, decide_false, Bool.or_false, Bool.false_eq_true, if_false, run_askRoom, hso, Int.toNat_natCast]
    by_cases hz0 : c' * k = 0
    · simp [hz0, newRow, Array.range]
      congr 2; apply Array.ext'; simp [hz0]
    · simp only [hz0, if_false, Sem.run_bind, hz', Result.andThen_ok, Sem.run_pure, newRow, run_newObj]
      simp only [← List.toArray_range, List.map_toArray]
      have hkp : 0 < k := Nat.pos_of_ne_zero (fun h => hz0 (by simp [h]))
      have : (List.range (c' * k)).map (fun x => zv.cells[x % zv.cells.size]!) = (List.range (c' * k)).map fun j => zv.cells.toList.getD (j % k) undef := by
        apply List.map_congr_left
        intro j _
        rw [hzs]
        have hlt : j % k < zv.cells.size := by rw [hzs]; exact Nat.mod_lt _ hkp
        rw [getElemBang _ _ hlt]
        simp [List.getD_eq_getElem?_getD, hlt]
      rw [this]; rfl
  · have hrep : (List.replicate n' z).length = n' := by simp
    have hA := Aft.newVec hW hm (K := K) (ty := el) (k := k) (cap := c') (es := List.replicate n' z) (us := (List.range (c' * k)).map fun j => zv.cells.toList.getD (j % k) undef) (w' := w.alloc (.cells ((List.range (c' * k)).map fun j => zv.cells.toList.getD (j % k) undef).toArray el)) rfl rfl rfl rfl (by simp) (by simp; omega) (by unfold top; omega) (fun i hi => ?_) (by simpa using hK)
    · rw [hrep] at hA; exact hA
    · simp only [List.length_replicate] at hi
      simp only [List.getElem_replicate]
      refine ⟨hzk, fun j hj => ?_⟩
      have hlt : i * k + j < c' * k := by
        have : (i + 1) * k ≤ c' * k := Nat.mul_le_mul_right k (by omega)
        rw [Nat.add_mul] at this; omega
      have := d2 j hj
      have e : ((List.range (c' * k)).map fun j => zv.cells.toList.getD (j % k) undef).getD (i * k + j) undef = zv.cells.toList.getD j undef := by
        rw [List.getD_eq_getElem?_getD, List.getElem?_map, List.getElem?_range hlt]
        simp only [Option.map_some, Option.getD_some]
        congr 1
        rw [Nat.add_comm, Nat.add_mul_mod_self_right, Nat.mod_eq_of_lt (by omega)]
      rw [e]; exact this
end
end Go.Proofs.YtkbnkcdaiahoeaaDoor
