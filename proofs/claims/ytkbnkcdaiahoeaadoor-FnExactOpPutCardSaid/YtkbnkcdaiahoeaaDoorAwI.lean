/- That 'aop' tells what an operation of the model does: stores, literal slices, make. No condition. -/
import Derived.Test.YtkbnkcdaiahoeaaDoorAwH
namespace Go.Proofs.YtkbnkcdaiahoeaaDoor
open Go Go.RowKit
set_option linter.unusedVariables false
set_option linter.unusedSimpArgs false
section
variable {P : Program} {ι : Nat → Gh} {U : Nat → Prop} {L : Lim} {w : World} {C : Caps} {m : Nat} {K : X → Del → Prop} {e : Operand → X} {ρ : Operand → Value} {wr av : Nat → Prop}

theorem den_nil (a : Option Addr) (c : Nat) (hc : c ≤ top) (h0 : a = none → c = 0) : Den L w (.sl []) (.slice a 0 c) := .sl (fun _ _ => Go.undef) (Nat.zero_le _) hc h0 (fun h => absurd rfl h) (fun i hi => absurd hi (by simp))
theorem dat_rel {x : X} {d : D} (h : x.dat = some d) {u : Value} (hr : Rel ι U L w x u) : Den L w d u := by
  cases x <;> simp [X.dat] at h
  case d x => subst h; cases hr with | d h => exact h
  case nil => subst h; rw [hr.nil_inv]; exact den_nil _ _ (Nat.zero_le _) (fun _ => rfl)
theorem datL_rel : ∀ {xs : List X} {ds : List D} (h : datL xs = some ds) {us : List Value} (hr : ∀ j (hj : j < xs.length), Rel ι U L w (xs[j]'hj) (us.getD j undef)), ds.length = xs.length ∧ ∀ j (hj : j < ds.length), Den L w (ds[j]'hj) (us.getD j undef)
  | [], ds, h, us, hr => by simp only [datL, Option.some.injEq] at h; subst h; exact ⟨rfl, fun j hj => absurd hj (by simp)⟩
  | x :: xs, ds, h, us, hr => by
    simp only [datL] at h
    split at h
    · rename_i d ds' h1 h2
      simp only [Option.some.injEq] at h; subst h
      have r0 := hr 0 (by simp)
      cases us with
      | nil =>
        have := datL_rel h2 (us := []) (fun j hj => by have := hr (j + 1) (by simpa using hj); simpa using this)
        refine ⟨by simp [this.1], fun j hj => ?_⟩
        cases j with
        | zero => exact dat_rel h1 r0
        | succ j => have := this.2 j (by simpa using hj); simpa using this
      | cons u us =>
        have := datL_rel h2 (us := us) (fun j hj => by have := hr (j + 1) (by simpa using hj); simpa using this)
        refine ⟨by simp [this.1], fun j hj => ?_⟩
        cases j with
        | zero => exact dat_rel h1 r0
        | succ j => have := this.2 j (by simpa using hj); simpa using this
    · simp at h
theorem cell_one_all {xs : List X} {us : List Value} (hl : us.length = xs.length) (hc : xs.all X.cell = true) (hr : ∀ j (hj : j < xs.length), Rel ι U L w (xs[j]'hj) (us.getD j undef)) : ∀ v ∈ us, v.oneCell' = true := by
  intro v hv
  obtain ⟨j, hj, rfl⟩ := List.getElem_of_mem hv
  have := hr j (by omega)
  rw [List.getD_eq_getElem?_getD, List.getElem?_eq_getElem hj] at this
  exact this.one (List.all_eq_true.1 hc _ (List.getElem_mem _))
theorem dat_cell {x : X} {d : D} (h : x.dat = some d) : x.cell = true := by cases x <;> simp [X.dat] at h <;> rfl
theorem datL_cell : ∀ {xs : List X} {ds : List D}, datL xs = some ds → xs.all X.cell = true
  | [], _, _ => rfl
  | x :: xs, ds, h => by
    simp only [datL] at h
    split at h
    · rename_i d ds' h1 h2
      simp [dat_cell h1, datL_cell h2]
    · simp at h

theorem run_storeVar_at {t : TypeId} {g : Bool} {n : Nat} (ht : tsz P t = some (g, n)) {v : Value} {vs cur : List Value} (hv : v.cells = vs.toArray) (hn : vs.length = n) (h1 : ∀ v ∈ vs, v.oneCell' = true) {b o : Nat} {ty : TypeId} (hg : w.heap[b]? = some (.cells cur.toArray ty (0, 0))) (hfit : o + vs.length ≤ cur.length) :
    (storeVar t ⟨b, o, none⟩ v).run P w = .ok () (w.setRow b (splice cur o vs).toArray) := by
  obtain ⟨i, d, hi, hd, hsz, ha, hz⟩ := tsz_inv (w := w) ht
  have := run_storeCells_at P b o ty vs 0 cur.toArray w hg (by simpa using hfit) h1
  simp only [Nat.add_zero] at this
  simp only [storeVar, Sem.run_bind, hz, Result.andThen_ok]
  rw [if_neg (by rw [hv]; simp [hn])]
  rw [hv]
  simpa [splice] using this

theorem getD_splice (us vs : List Value) (off j : Nat) (ho : off + vs.length ≤ us.length) : (splice us off vs).getD j undef = if off ≤ j ∧ j < off + vs.length then vs.getD (j - off) undef else us.getD j undef := by
  unfold splice
  simp only [List.getD_eq_getElem?_getD, List.append_assoc, List.getElem?_append, List.length_take, List.getElem?_take, List.getElem?_drop]
  have e1 : min off us.length = off := by omega
  simp only [e1]
  by_cases c1 : j < off
  · simp [c1, show ¬ (off ≤ j ∧ j < off + vs.length) from by omega]
  · by_cases c2 : j - off < vs.length
    · simp [c1, c2, show off ≤ j ∧ j < off + vs.length from by omega]
    · simp only [c1, c2, if_false, show ¬ (off ≤ j ∧ j < off + vs.length) from by omega]
      rw [show off + vs.length + (j - off - vs.length) = j from by omega]

theorem store_sound (hW : WR ι U L w C) {t : TypeId} {g : Bool} {n : Nat} (ht : tsz P t = some (g, n)) {a x : X} {ua ux : Value} (ra : Rel ι U L w a ua) (rx : Rel ι U L w x ux) (h : aStore wr av C n a x fun δ => K .undef δ) :
    ∃ w', (Instr.storeAt t ua ux).run P w = .ok () w' ∧ Aft ι U L w C m K undef w' := by
  unfold aStore at h
  split at h
  · rename_i nm off
    obtain ⟨-, -, h⟩ := h
    split at h
    · rename_i ty cs hc
      obtain ⟨hxn, hoff, hcell, hK⟩ := h
      cases ra with
      | bx hn =>
        obtain ⟨hnl, us, h1, h2, h3⟩ := hW.ok nm _ hc
        obtain ⟨vs, g1, g2, g3⟩ := rx.cells hcell
        have hst := run_storeVar_at (P := P) (w := w) ht g1 (by omega) (cell_one_all g2 hcell g3) h1 (o := off) (by omega)
        refine ⟨_, by simp only [Instr.storeAt, Instr.sureAddr, Sem.run_bind, Sem.run_pure, Result.andThen_ok]; exact hst, ?_⟩
        refine Aft.write hW hc hnl (c' := .box ty (splice cs off x.cells)) (x := .undef) (fun L' w' he hh => ?_) (fun _ _ _ => .undef) hK
        have hsp := splice_rel (ι := ι) (U := U) (L := L') (w := w') h2 g2 (off := off) (by omega) (fun j hj => (h3 j hj).mono (fun _ _ => rfl) (fun _ h => h) he.stab) (fun j hj => (g3 j hj).mono (fun _ _ => rfl) (fun _ h => h) he.stab)
        exact ⟨hnl, _, by rw [hh]; exact setRow_heap w _ _ _ ty (0, 0) h1, hsp.1, hsp.2⟩
    · exact h.elim
  · rename_i nm k i off
    obtain ⟨-, -, h⟩ := h
    split at h
    · rename_i ty k' es hc
      obtain ⟨rfl, hi, hxn, hoff, h⟩ := h
      split at h
      · rename_i ds hds
        have hcell := datL_cell hds
        cases ra with
        | ve hn =>
          rcases hW.ok nm _ hc with ⟨-, rfl⟩ | ⟨hnl, us, h1, h2, h3, h4, h5⟩
          · exact absurd hi (by simp)
          · have hK := h _ (List.getElem?_eq_getElem hi)
            obtain ⟨vs, g1, g2, g3⟩ := rx.cells hcell
            obtain ⟨d1, d2⟩ := datL_rel hds g3
            have hb : i * k + k ≤ (ι nm).cap * k := by
              have : (i + 1) * k ≤ (ι nm).cap * k := Nat.mul_le_mul_right k (by omega)
              rw [Nat.add_mul] at this; omega
            have hst := run_storeVar_at (P := P) (w := w) ht g1 (by omega) (cell_one_all g2 hcell g3) h1 (o := i * k + off) (by omega)
            refine ⟨_, by simp only [Instr.storeAt, Instr.sureAddr, Sem.run_bind, Sem.run_pure, Result.andThen_ok]; exact hst, ?_⟩
            refine Aft.write hW hc hnl (c' := .vec ty k (es.set i (splice (es[i]'hi) off ds))) (x := .undef) (fun L' w' he hh => ?_) (fun _ _ _ => .undef) hK
            refine .inr ⟨hnl, _, by rw [hh]; exact setRow_heap w _ _ _ ty (0, 0) h1, by simp [splice]; omega, by simpa using h3, h4, fun i' hi' => ?_⟩
            simp only [List.length_set] at hi'
            obtain ⟨hk0, h60⟩ := h5 i hi
            by_cases hii : i = i'
            · subst hii
              simp only [List.getElem_set_self]
              refine ⟨by simp [splice]; omega, fun j hj => ?_⟩
              have hjk : j < k := by simp [splice] at hj; omega
              rw [getD_splice _ _ _ _ (by omega)]
              have e1 : (splice (es[i]'hi) off ds)[j]'hj = if h : off ≤ j ∧ j < off + ds.length then ds[j - off]'(by omega) else (es[i]'hi)[j]'(by omega) := by
                have : (splice (es[i]'hi) off ds)[j]? = if h : off ≤ j ∧ j < off + ds.length then some (ds[j - off]'(by omega)) else some ((es[i]'hi)[j]'(by omega)) := by
                  unfold splice
                  simp only [List.append_assoc, List.getElem?_append, List.length_take, List.getElem?_take, List.getElem?_drop]
                  have e1 : min off (es[i]'hi).length = off := by omega
                  simp only [e1]
                  by_cases c1 : j < off
                  · simp [c1, show ¬ (off ≤ j ∧ j < off + ds.length) from by omega, show j < (es[i]'hi).length from by omega]
                  · by_cases c2 : j - off < ds.length
                    · simp [c1, c2, show off ≤ j ∧ j < off + ds.length from by omega]
                    · simp only [c1, c2, if_false, show ¬ (off ≤ j ∧ j < off + ds.length) from by omega, dite_false]
                      rw [show off + ds.length + (j - off - ds.length) = j from by omega, List.getElem?_eq_getElem]
                have h0 := List.getElem?_eq_getElem hj
                rw [this] at h0
                split at h0 <;> rename_i hcc <;> simp only [Option.some.injEq] at h0
                · rw [dif_pos hcc]; exact h0.symm
                · rw [dif_neg hcc]; exact h0.symm
              rw [e1]
              by_cases hcc : off ≤ j ∧ j < off + ds.length
              · rw [dif_pos hcc, if_pos (by omega)]
                have := d2 (j - off) (by omega)
                rw [show i * k + j - (i * k + off) = j - off from by omega]
                exact this.mono he.stab
              · rw [dif_neg hcc, if_neg (by omega)]
                exact (h60 j (by omega)).mono he.stab
            · rw [List.getElem_set_ne hii]
              obtain ⟨hk1, h61⟩ := h5 i' (by simpa using hi')
              refine ⟨hk1, fun j hj => ?_⟩
              rw [getD_splice _ _ _ _ (by omega), if_neg ?_]
              · exact (h61 j hj).mono he.stab
              · rintro ⟨q1, q2⟩
                rcases Nat.lt_or_gt_of_ne hii with hlt | hgt
                · have : (i + 1) * k ≤ i' * k := Nat.mul_le_mul_right k (by omega)
                  rw [Nat.add_mul] at this; omega
                · have : (i' + 1) * k ≤ i * k := Nat.mul_le_mul_right k (by omega)
                  rw [Nat.add_mul] at this; omega
      · exact h.elim
    · exact h.elim
  · exact h.elim
end
end Go.Proofs.YtkbnkcdaiahoeaaDoor
