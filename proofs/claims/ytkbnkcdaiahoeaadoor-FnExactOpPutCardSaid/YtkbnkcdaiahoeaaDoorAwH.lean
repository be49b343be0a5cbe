/- That 'aop' tells what an operation of the model does: variables, structs, literal slices, stores. No condition. -/
import Derived.Test.YtkbnkcdaiahoeaaDoorAwG
namespace Go.Proofs.YtkbnkcdaiahoeaaDoor
open Go Go.RowKit
set_option linter.unusedVariables false
set_option linter.unusedSimpArgs false
section
variable {P : Program} {ι : Nat → Gh} {U : Nat → Prop} {L : Lim} {w : World} {C : Caps} {m : Nat} {K : X → Del → Prop} {e : Operand → X} {ρ : Operand → Value} {wr av : Nat → Prop}

inductive All2 {α β : Type} (R : α → β → Prop) : List α → List β → Prop
  | nil : All2 R [] []
  | cons {a b l r} (h : R a b) (t : All2 R l r) : All2 R (a :: l) (b :: r)
/-- A value's cells. -/
theorem Rel.cells {x : X} {v : Value} (h : Rel ι U L w x v) (hx : x.cells.all X.cell = true) : ∃ us : List Value, v.cells = us.toArray ∧ us.length = x.cells.length ∧ ∀ j (hj : j < x.cells.length), Rel ι U L w (x.cells[j]'hj) (us.getD j Go.undef) := by
  have one : ∀ y : X, y.cells = [y] → Rel ι U L w y v → y.cell = true → ∃ us : List Value, v.cells = us.toArray ∧ us.length = y.cells.length ∧ ∀ j (hj : j < y.cells.length), Rel ι U L w (y.cells[j]'hj) (us.getD j Go.undef) := by
    intro y hy hr hc
    have h1 := hr.one hc
    refine ⟨[v], by cases v <;> simp_all [Value.cells, Value.oneCell'], by simp [hy], ?_⟩
    rw [hy]
    intro j hj
    simp at hj; subst hj; simpa using hr
  cases h with
  | ag us hl hr => exact ⟨us, by simp [Value.cells], by simp [X.cells, hl], fun j hj => hr j hj⟩
  | d h => exact one _ rfl (.d h) rfl
  | nil => exact one _ rfl .nil rfl
  | bx hn => exact one _ rfl (.bx hn) rfl
  | ve hn => exact one _ rfl (.ve hn) rfl
  | vec hn hnl hle ho => exact one _ rfl (.vec hn hnl hle ho) rfl
  | vec0 hn hnl => exact one _ rfl (.vec0 hn hnl) rfl
  | ptr b o us hs hd => exact one _ rfl (.ptr b o us hs hd) rfl
  | clo us hl hr => exact one _ rfl (.clo us hl hr) rfl
  | tup us hl hr => simp [X.cells, X.cell] at hx
  | undef => simp [X.cells, X.cell] at hx
  | junk u => simp [X.cells, X.cell] at hx

theorem tzero_inv {t : TypeId} {cs : List X} (h : tzero P t = some cs) : ∃ z i, P.info? t = some i ∧ i.zero = some z ∧ (zeroValue t).run P w = .ok z w ∧ cs = z.cells.toList.map lit := by
  unfold tzero at h
  obtain ⟨z, hz, rfl⟩ := Option.map_eq_some_iff.1 h
  obtain ⟨i, hi, hz⟩ := Option.bind_eq_some_iff.1 hz
  exact ⟨z, i, hi, hz, by simp [zeroValue, run_typeInfo w hi, hz], rfl⟩
theorem lits_rel (us : List Value) : ∀ j (hj : j < (us.map lit).length), Rel ι U L w ((us.map lit)[j]'hj) (us.getD j undef) := by
  intro j hj
  simp at hj
  simp [List.getElem?_eq_getElem hj, lit_rel]

theorem alloc_sound (hW : WR ι U L w C) (hm : ¬ U m) {t : TypeId} {cs : List X} (hz : tzero P t = some cs) (hK : K (.bx m 0) [(m, some (.box t cs))]) :
    ∃ v w', (Instr.alloc t true (.tuple #[])).run P w = .ok v w' ∧ Aft ι U L w C m K v w' := by
  obtain ⟨z, i, -, -, hz', rfl⟩ := tzero_inv (w := w) hz
  refine ⟨_, _, ?_, Aft.newBox hW hm (us := z.cells.toList) (by simp) (lits_rel _) hK⟩
  simp [Instr.alloc, hz', newVar, newRow]
theorem box_sound (hW : WR ι U L w C) (hm : ¬ U m) {t : TypeId} {x : X} {u : Value} (hx : Rel ι U L w x u) (hc : x.cells.all X.cell = true) (hK : K (.bx m 0) [(m, some (.box t x.cells))]) :
    ∃ v w', (Instr.box t u).run P w = .ok v w' ∧ Aft ι U L w C m K v w' := by
  obtain ⟨us, h1, h2, h3⟩ := hx.cells hc
  refine ⟨_, _, ?_, Aft.newBox hW hm (us := us) h2 h3 hK⟩
  simp [Instr.box, newVar, newRow, h1]

/-! ### A struct out of its parts -/
theorem foldl_set (us : List Value) : ∀ (vs : List Value) (off : Nat), off + vs.length ≤ us.length → 
    (vs.toArray.zipIdx.foldl (fun cs (p : Value × Nat) => cs.setIfInBounds (off + p.2) p.1) us.toArray) = (splice us off vs).toArray := by
  intro vs off h
  rw [← Array.foldl_toList]
  simp only [Array.toList_zipIdx]
  have key : ∀ (l : List Value) (us : List Value) (i : Nat), off + i + l.length ≤ us.length → (l.zipIdx i).foldl (fun cs (p : Value × Nat) => cs.setIfInBounds (off + p.2) p.1) us.toArray = (splice us (off + i) l).toArray := by
    intro l
    induction l with
    | nil => intro us i h; simp [splice]
    | cons v l ih =>
      intro us i h
      simp only [List.length_cons] at h
      simp only [List.zipIdx_cons, List.foldl_cons, List.setIfInBounds_toArray]
      rw [ih (us.set (off + i) v) (i + 1) (by simp; omega)]
      congr 1
      unfold splice
      apply List.ext_getElem?
      intro j
      simp only [List.append_assoc, List.getElem?_append, List.length_take, List.length_set, List.getElem?_take, List.getElem?_drop, List.getElem?_set, List.length_cons]
      by_cases h1 : j < off + i
      · simp [h1, show j < off + (i + 1) from by omega, show min (off + i) us.length = off + i from by omega, show min (off + (i + 1)) us.length = off + (i + 1) from by omega, show ¬ (off + i = j) from by omega]
      · by_cases h2 : j = off + i
        · subst h2
          simp [show min (off + i) us.length = off + i from by omega, show min (off + (i + 1)) us.length = off + (i + 1) from by omega, show off + i < off + (i + 1) from by omega, show off + i < us.length from by omega]
        · have e1 : min (off + i) us.length = off + i := by omega
          have e2 : min (off + (i + 1)) us.length = off + (i + 1) := by omega
          simp only [e1, e2, h1, if_false, show ¬ j < off + (i + 1) from by omega]
          rw [show j - (off + i) = (j - (off + (i + 1))) + 1 from by omega]
          simp only [List.getElem?_cons_succ]
          by_cases h3 : j - (off + (i + 1)) < l.length
          · simp [h3]
          · simp only [h3, if_false, show ¬ (j - (off + (i + 1)) + 1 < l.length + 1) from by omega, show ¬ (off + i = off + (i + 1) + l.length + (j - (off + (i + 1)) - l.length)) from by omega]
            congr 1
            omega
  exact key vs us 0 (by omega)

theorem splice_rel {cs xs : List X} {us vs : List Value} (h1 : us.length = cs.length) (h2 : vs.length = xs.length) {off : Nat} (ho : off + xs.length ≤ cs.length)
    (r1 : ∀ j (hj : j < cs.length), Rel ι U L w (cs[j]'hj) (us.getD j undef)) (r2 : ∀ j (hj : j < xs.length), Rel ι U L w (xs[j]'hj) (vs.getD j undef)) :
    (splice us off vs).length = (splice cs off xs).length ∧ ∀ j (hj : j < (splice cs off xs).length), Rel ι U L w ((splice cs off xs)[j]'hj) ((splice us off vs).getD j undef) := by
  have hl : (splice cs off xs).length = cs.length := by simp [splice]; omega
  refine ⟨by simp [splice]; omega, fun j hj => ?_⟩
  rw [hl] at hj
  have g1 : ∀ x, (splice cs off xs)[j]? = some x → Rel ι U L w x ((splice us off vs).getD j undef) := by
    intro x hx
    unfold splice at hx ⊢
    rw [List.getD_eq_getElem?_getD]
    simp only [List.append_assoc, List.getElem?_append, List.length_take, List.getElem?_take, List.getElem?_drop] at hx ⊢
    have e1 : min off us.length = off := by omega
    have e2 : min off cs.length = off := by omega
    simp only [e1, e2] at hx ⊢
    by_cases c1 : j < off
    · simp only [c1, if_true] at hx ⊢
      obtain ⟨hjl, rfl⟩ := List.getElem?_eq_some_iff.1 hx
      have := r1 j hjl; rwa [List.getD_eq_getElem?_getD] at this
    · simp only [c1, if_false] at hx ⊢
      by_cases c2 : j - off < xs.length
      · rw [if_pos c2] at hx
        rw [if_pos (by omega)]
        obtain ⟨hjl, rfl⟩ := List.getElem?_eq_some_iff.1 hx
        have := r2 (j - off) hjl; rwa [List.getD_eq_getElem?_getD] at this
      · rw [if_neg c2] at hx
        rw [if_neg (by omega)]
        have e3 : off + vs.length + (j - off - vs.length) = j := by omega
        have e4 : off + xs.length + (j - off - xs.length) = j := by omega
        rw [e4] at hx; rw [e3]
        obtain ⟨hjl, rfl⟩ := List.getElem?_eq_some_iff.1 hx
        have := r1 j hjl; rwa [List.getD_eq_getElem?_getD] at this
  exact g1 _ (List.getElem?_eq_getElem _)

theorem fill_sound (fl : List (Nat × Nat)) : ∀ (ps : List (Nat × X)) (vs : List (Nat × Value)) (cs : List X) (us : List Value) (r : List X), us.length = cs.length →
    (∀ j (hj : j < cs.length), Rel ι U L w (cs[j]'hj) (us.getD j undef)) → All2 (fun p q => p.1 = q.1 ∧ Rel ι U L w p.2 q.2) ps vs → fillX fl cs ps = some r →
    ∃ us' : List Value, Instr.fill (fun i => fl[i]?) us.toArray vs = some us'.toArray ∧ us'.length = r.length ∧ ∀ j (hj : j < r.length), Rel ι U L w (r[j]'hj) (us'.getD j undef) := by
  intro ps
  induction ps with
  | nil =>
    intro vs cs us r hl hr hp hf
    cases hp
    simp only [fillX, Option.some.injEq] at hf
    subst hf
    exact ⟨us, rfl, hl, hr⟩
  | cons p ps ih =>
    intro vs cs us r hl hr hp hf
    cases hp with
    | @cons _ q _ vs hpq hp =>
      obtain ⟨h1, h2⟩ := hpq
      obtain ⟨i, x⟩ := p
      obtain ⟨i', v⟩ := q
      simp only at h1 h2
      subst h1
      simp only [fillX] at hf
      split at hf
      · simp at hf
      · rename_i off sz hfl
        split at hf
        · rename_i hc
          obtain ⟨ws, g1, g2, g3⟩ := h2.cells hc.2.2
          obtain ⟨hs1, hs2⟩ := splice_rel hl g2 (off := off) (by omega) hr g3
          obtain ⟨us', k1, k2, k3⟩ := ih vs _ _ r hs1 hs2 hp hf
          refine ⟨us', ?_, k2, k3⟩
          have e1 : v.cells.size = ws.length := by rw [g1]; simp
          simp only [Instr.fill, hfl]
          rw [if_neg (by rw [e1]; simp; omega)]
          rw [g1, foldl_set us ws off (by omega)]
          exact k1
        · simp at hf
theorem tparts_inv : ∀ {fs : List (Nat × TypeId)} {fl : List (Nat × Nat)}, tparts P fs = some fl → fl.length = fs.length ∧ ∀ (i : Nat) (f : Nat × TypeId), fs[i]? = some f → ∃ n, fl[i]? = some (f.1, n) ∧ (sizeOf f.2).run P w = .ok n w := by
  intro fs
  induction fs with
  | nil => intro fl h; simp only [tparts, Option.some.injEq] at h; subst h; exact ⟨rfl, by simp⟩
  | cons f fs ih =>
    intro fl h
    obtain ⟨off, t⟩ := f
    simp only [tparts] at h
    split at h
    · rename_i g n q ht hq
      simp only [Option.some.injEq] at h; subst h
      obtain ⟨h1, h2⟩ := ih hq
      obtain ⟨_, _, -, -, -, -, hz⟩ := tsz_inv (w := w) ht
      refine ⟨by simp [h1], fun i f hf => ?_⟩
      cases i with
      | zero => simp at hf; subst hf; exact ⟨n, rfl, hz⟩
      | succ i => simpa using h2 i f (by simpa using hf)
    · simp at h
theorem run_mapM_places : ∀ (fs : List Field) (fl : List (Nat × Nat)), fl.length = fs.length → (∀ (i : Nat) (f : Field), fs[i]? = some f → ∃ n, fl[i]? = some (f.offset, n) ∧ (sizeOf f.type).run P w = .ok n w) →
    (fs.mapM (fun f => do pure (f.offset, ← sizeOf f.type) : Field → Sem (Nat × Nat))).run P w = .ok fl w := by
  intro fs
  induction fs with
  | nil => intro fl hl h; have : fl = [] := List.eq_nil_of_length_eq_zero (by simpa using hl); subst this; simp
  | cons f fs ih =>
    intro fl hl h
    cases fl with
    | nil => simp at hl
    | cons q fl =>
      obtain ⟨n, h1, h2⟩ := h 0 f rfl
      simp at h1; subst h1
      have := ih fl (by simpa using hl) (fun i g hg => by simpa using h (i + 1) g (by simpa using hg))
      simp only [List.mapM_cons, Sem.run_bind, h2, Result.andThen_ok, Sem.run_pure, this]
theorem build_sound (hW : WR ι U L w C) {t : TypeId} {cs r : List X} {fl : List (Nat × Nat)} (hz : tzero P t = some cs) (hf : (tfld P t).bind (tparts P) = some fl) {ps : List (Nat × X)} {vs : List (Nat × Value)}
    (hp : All2 (fun p q => p.1 = q.1 ∧ Rel ι U L w p.2 q.2) ps vs) (hr : fillX fl cs ps = some r) :
    ∃ v, (Instr.build t vs.toArray).run P w = .ok v w ∧ Rel ι U L w (.ag r) v := by
  obtain ⟨z, i, hi, hz0, hz', rfl⟩ := tzero_inv (w := w) hz
  obtain ⟨fs, hfs, hfl⟩ := Option.bind_eq_some_iff.1 hf
  unfold tfld at hfs
  split at hfs
  · rename_i fa hu
    simp only [Option.some.injEq] at hfs
    subst hfs
    obtain ⟨h1, h2⟩ := tparts_inv (w := w) hfl
    obtain ⟨us, k1, k2, k3⟩ := fill_sound (ι := ι) (U := U) (L := L) (w := w) fl ps vs _ z.cells.toList r (by simp) (lits_rel _) hp hr
    refine ⟨.agg us.toArray, ?_, .ag us k2 k3⟩
    have hpl := run_mapM_places (P := P) (w := w) fa.toList fl (by simpa using h1) (fun i f hf => by
      have := h2 i (f.offset, f.type) (by simp [hf]); simpa using this)
    have hpa : (fa.mapM (fun f => do pure (f.offset, ← sizeOf f.type) : Field → Sem (Nat × Nat))).run P w = .ok fl.toArray w := by
      rw [Array.mapM_eq_mapM_toList, Sem.run_map, hpl]; rfl
    have e1 : z.cells = (z.cells.toList).toArray := by simp
    simp only [Instr.build, Sem.run_bind, hz', Result.andThen_ok, run_underlying hu, hpa]
    have e2 : (fun (x : Nat) => (fl.toArray)[x]?) = fun i => fl[i]? := by funext x; simp
    rw [e2]
    have e3 : Instr.fill (fun i => fl[i]?) z.cells vs = some us.toArray := by rw [e1]; exact k1
    simp [e3]
  · simp at hfs
end
end Go.Proofs.YtkbnkcdaiahoeaaDoor
