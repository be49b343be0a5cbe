/- Two library functions under this walk's contracts: slices.BinarySearch and slices.Insert over strings, out of the kit's shelf. No condition. -/
import Derived.Test.YtkbnkcdaiahoeaaDoorAxA
import Derived.Shelf.Spec.SlicesInsertGrow
import Derived.Shelf.Spec.SlicesInsert
import Derived.Shelf.Spec.SearchS
namespace Go.Proofs.YtkbnkcdaiahoeaaDoor
open Go Go.RowKit Go.Shelf
set_option linter.unusedVariables false
set_option linter.unusedSimpArgs false
def sS' (s : ByteArray) : List D := [.str s]
theorem modify_id {a : Array Obj} {b : Nat} {f : Obj → Obj} (h : ∀ x, a[b]? = some x → f x = x) : a.modify b f = a := by
  apply Array.ext_getElem?
  intro i
  rw [Array.getElem?_modify]
  split
  · rename_i hi; subst hi
    cases hx : a[b]? with
    | none => rfl
    | some x => simp [h x hx]
  · rfl
theorem setRow_self {w : World} {b : Nat} {us : Array Value} {ty : TypeId} {fr : Nat × Nat} (h : w.heap[b]? = some (.cells us ty fr)) : w.setRow b us = w := by
  unfold World.setRow
  rw [modify_id]
  intro x hx
  rw [h] at hx; cases hx; rfl
theorem setRow_setRow (w : World) (b : Nat) (x y : Array Value) : (w.setRow b x).setRow b y = w.setRow b y := by
  unfold World.setRow
  simp only
  congr 1
  apply Array.ext_getElem?
  intro i
  rw [Array.getElem?_modify, Array.getElem?_modify, Array.getElem?_modify]
  split
  · cases w.heap[i]? with
    | none => rfl
    | some o => cases o <;> rfl
  · rfl
theorem setCell_setRow {w : World} {b o : Nat} {us : List Value} {ty : TypeId} {fr : Nat × Nat} {v : Value} (h : w.heap[b]? = some (.cells us.toArray ty fr)) : w.setCell ⟨b, o, none⟩ v = w.setRow b (us.set o v).toArray := by
  unfold World.setCell World.setRow
  congr 1
  apply Array.ext_getElem?
  intro i
  rw [Array.getElem?_modify, Array.getElem?_modify]
  split
  · rename_i hi; subst hi
    rw [h]
    simp
  · rfl
theorem splice_set (us vs : List Value) (o : Nat) (v : Value) (h : o < us.length) : splice (us.set o v) (o + 1) vs = splice us o (v :: vs) := by
  unfold splice
  rw [List.take_set, List.drop_set_of_lt (by omega)]
  have hmin : min o us.length = o := Nat.min_eq_left (Nat.le_of_lt h)
  have : (us.take (o + 1)).set o v = us.take o ++ [v] := by
    rw [List.take_succ_eq_append_getElem h, List.set_append_right _ _ (by simp; omega)]
    simp [List.length_take, hmin]
  rw [this]
  simp only [List.append_assoc, List.singleton_append, List.cons_append, List.nil_append, List.length_cons]
  rw [show o + 1 + vs.length = o + (vs.length + 1) by omega]
theorem setCells_setRow {b : Nat} {ty : TypeId} {fr : Nat × Nat} : ∀ (vs : List Value) (o : Nat) (us : List Value) (w : World), w.heap[b]? = some (.cells us.toArray ty fr) → o + vs.length ≤ us.length → w.setCells b o vs = w.setRow b (splice us o vs).toArray
  | [], o, us, w, h, _ => by
    simp only [World.setCells, splice, List.append_nil, List.length_nil, Nat.add_zero, List.take_append_drop]
    exact (setRow_self h).symm
  | v :: vs, o, us, w, h, hl => by
    simp only [List.length_cons] at hl
    rw [World.setCells, setCell_setRow h, setCells_setRow vs (o + 1) (us.set o v) _ (setRow_heap w _ _ _ ty fr h) (by simp; omega), setRow_setRow, splice_set _ _ _ _ (by omega)]
theorem setRow_drew (w : World) (b : Nat) (x : Array Value) : w.drew.setRow b x = (w.setRow b x).drew := rfl

section
variable {ι : Nat → Gh} {U : Nat → Prop} {L : Lim} {w : World} {C : Caps} {m : Nat} {Q : X → Del → Prop}
/-- What happened behind a draw. -/
theorem Aft.drewN {q : Nat} {v : Value} {w' : World} (h : Aft ι U L w C m Q v w') : Aft ι U L w C m Q v (w'.drewN q) := by
  obtain ⟨x, δ, ι', L', h1, h2, h3, h4, h5, h6⟩ := h
  have he : Evo L' w' L' (w'.drewN q) := ⟨rfl, rfl, rfl, Nat.le_refl _, fun _ _ h => ⟨h, rfl⟩⟩
  exact ⟨x, δ, ι', L', h1, h2.mono (fun _ _ => rfl) (fun _ h => h) he.stab, h3.grow (fun _ _ => rfl) (fun _ h => h) he (fun n hn hl => ⟨rfl, h3.lim n hn hl⟩), h4.trans he, h5, ⟨h6.same, h6.orig⟩⟩
/-- A row that was written is called by another name. -/
theorem Aft.move {n0 k len : Nat} {ty : TypeId} {es : List (List D)} (hCm : C m = none) (hvec : ∀ n c, C n = some c → ∃ ty k es, c = Cap.vec ty k es) (hn : n0 ≠ m) {v : Value} {w' : World} (h : Aft ι U L w C m (fun x δ => x = .vec n0 k 0 len ∧ δ = [(n0, some (.vec ty k es))]) v w') :
    Aft ι U L w C m (fun x δ => x = .vec m k 0 len ∧ δ = [(n0, none), (m, some (.vec ty k es))]) v w' := by
  obtain ⟨x, δ, ι', L', ⟨rfl, rfl⟩, h2, h3, h4, h5, h6⟩ := h
  have e1 : ∀ n, n ≠ m → upd ι' m (ι' n0) n = ι' n := fun n h => upd_other _ _ _ _ h
  have e2 : upd ι' m (ι' n0) m = ι' n0 := upd_same _ _ _
  have hC0 : ∀ n, n ≠ n0 → n ≠ m → app [(n0, none), (m, some (Cap.vec ty k es))] C n = C n := fun n a b => by simp [app, upd, a, b]
  have hC1 : app [(n0, none), (m, some (Cap.vec ty k es))] C n0 = none := by simp [app, upd, hn]
  have hC2 : app [(n0, none), (m, some (Cap.vec ty k es))] C m = some (.vec ty k es) := by simp [app, upd]
  have hD0 : ∀ n, n ≠ n0 → app [(n0, some (Cap.vec ty k es))] C n = C n := fun n a => by simp [app, upd, a]
  have hD1 : app [(n0, some (Cap.vec ty k es))] C n0 = some (.vec ty k es) := by simp [app, upd]
  have hne : ∀ n, app [(n0, none), (m, some (Cap.vec ty k es))] C n ≠ none → n = m ∨ (n ≠ m ∧ n ≠ n0 ∧ C n ≠ none) := by
    intro n hn'
    by_cases a : n = m
    · exact .inl a
    · by_cases b : n = n0
      · subst b; exact absurd hC1 hn'
      · exact .inr ⟨a, b, by rwa [hC0 n b a] at hn'⟩
  have hD : ∀ n, n ≠ n0 → C n ≠ none → app [(n0, some (Cap.vec ty k es))] C n ≠ none := fun n a b => by rwa [hD0 n a]
  have hDn : app [(n0, some (Cap.vec ty k es))] C n0 ≠ none := by rw [hD1]; simp
  have hm0 : ∀ n, C n ≠ none → n ≠ m := fun n a b => by subst b; exact a hCm
  have hx : Rel (upd ι' m (ι' n0)) (fun n => U n ∨ n = m) L' w' (.vec m k 0 len) v := by
    cases h2 with
    | vec a b c d =>
      have := Rel.vec (ι := upd ι' m (ι' n0)) (U := fun n => U n ∨ n = m) (L := L') (w := w') (n := m) (Or.inr rfl) (by rw [e2]; exact b) (by rw [e2]; exact c) d
      rw [e2] at this; exact this
    | vec0 a b => exact Rel.vec0 (U := fun n => U n ∨ n = m) (Or.inr rfl) (by rw [e2]; exact b)
  refine ⟨_, _, upd ι' m (ι' n0), L', ⟨rfl, rfl⟩, hx, ?_, h4, fun n hn' => by rw [e1 n hn']; exact h5 n hn', ?_⟩
  · refine ⟨?_, ?_, ?_, ?_, h3.glob⟩
    · intro n c hc
      rcases hne n (by simp [hc]) with rfl | ⟨a, b, d⟩
      · rw [hC2] at hc; cases hc
        have := h3.ok n0 _ hD1
        unfold CapOk at this ⊢
        rw [e2]; exact this
      · rw [hC0 n b a] at hc
        have := h3.ok n c (by rw [hD0 n b]; exact hc)
        obtain ⟨ty', k', es', rfl⟩ := hvec n c hc
        unfold CapOk at this ⊢
        rw [e1 n a]; exact this
    · intro n hn' hl
      rcases hne n hn' with rfl | ⟨a, b, d⟩
      · rw [e2] at hl ⊢; exact h3.lim n0 hDn hl
      · rw [e1 n a] at hl ⊢; exact h3.lim n (hD n b d) hl
    · intro n n' hn1 hn2 hl hl' hb
      rcases hne n hn1 with rfl | ⟨a, b, d⟩ <;> rcases hne n' hn2 with rfl | ⟨a', b', d'⟩
      · rfl
      · rw [e2] at hl hb; rw [e1 n' a'] at hl' hb
        exact absurd (h3.inj n0 n' hDn (hD n' b' d') hl hl' hb).symm b'
      · rw [e2] at hl' hb; rw [e1 n a] at hl hb
        exact absurd (h3.inj n n0 (hD n b d) hDn hl hl' hb) b
      · rw [e1 n a] at hl hb; rw [e1 n' a'] at hl' hb
        exact h3.inj n n' (hD n b d) (hD n' b' d') hl hl' hb
    · intro n hn'
      rcases hne n hn' with rfl | ⟨a, b, d⟩
      · exact .inr rfl
      · exact h3.used n (hD n b d)
  · constructor
    · exact h6.same
    · intro n hn' hl
      rcases hne n hn' with rfl | ⟨a, b, d⟩
      · rw [e2] at hl ⊢; exact h6.orig n0 hDn hl
      · rw [e1 n a] at hl ⊢; exact h6.orig n (hD n b d) hl
end
/-- A library function that answers scalars and leaves memory alone. -/
theorem Fun.calls {P : Program} {f : FuncId} {ys : List X} {y : X} (hc : callable P f = true) (hy : y.on (fun _ => false) = true) (hys : X.onL (fun _ => false) ys = true) (hr : ∀ (ι : Nat → Gh) (U : Nat → Prop) (L : Lim) (w : World), ∃ v, Rel ι U L w y v)
    (h : ∀ (ι : Nat → Gh) (U : Nat → Prop) (L : Lim) (w : World) (us : List Value), us.length = ys.length → (∀ i (hi : i < ys.length), Rel ι U L w (ys[i]'hi) (us.getD i undef)) → ∀ v, Rel ι U L w y v → Calls P f us.toArray w fun e w' => e = .returned v ∧ ∃ q, w' = w.drewN q) : Fun P f ys y := by
  refine Fun.of ⟨hc, fun ι U L w us hW hm hl hr' => ?_⟩ hys hy
  obtain ⟨v, hv⟩ := hr ι U L w
  refine (h ι U L w us hl hr' v hv).mono ?_
  rintro e w' ⟨rfl, q, rfl⟩
  exact ⟨v, rfl, (Aft.same hW hv ⟨rfl, rfl⟩).drewN⟩
theorem BinarySearch_spec {P : Program} {ρ : Ren} (Ly : Lays2.n26 P ρ) (hc : callable P (ρ.f 26) = true) (ss : List ByteArray) (x : ByteArray) (hn : ss.length < 4611686018427387904) :
    Fun P (ρ.f 26) [.d (.of sS' ss), .d (.str x)] (.tup [.d (.int .i64 (Lib.bsGo (fun t => Op.bytesLess (ss.getD t ByteArray.empty).toList x.toList) ss.length 0 ss.length : Nat)), .d (.bool (decide (Lib.bsGo (fun t => Op.bytesLess (ss.getD t ByteArray.empty).toList x.toList) ss.length 0 ss.length < ss.length ∧ ss.getD (Lib.bsGo (fun t => Op.bytesLess (ss.getD t ByteArray.empty).toList x.toList) ss.length 0 ss.length) ByteArray.empty = x)))]) := by
  have hle : ∀ (less : Nat → Bool) (f lo hi : Nat), lo ≤ hi → Lib.bsGo less f lo hi ≤ hi := by
    intro less f
    induction f with
    | zero => intro lo hi h; exact h
    | succ f ih =>
      intro lo hi h
      simp only [Lib.bsGo]
      split
      · split
        · exact ih _ _ (by omega)
        · exact Nat.le_trans (ih _ _ (by omega)) (by omega)
      · exact h
  refine Fun.calls hc rfl rfl (fun ι U L w => ⟨.tuple #[_, _], .tup [_, _] rfl (fun i hi => by
    match i, hi with
    | 0, _ => exact Rel.int _ (fits_i64 (by omega) (by have := hle (fun t => Op.bytesLess (ss.getD t ByteArray.empty).toList x.toList) ss.length 0 ss.length (Nat.zero_le _); omega))
    | 1, _ => exact Rel.bool _)⟩) ?_
  intro ι U L w us hl hr v hv
  have h0 := hr 0 (by simp)
  have h1 := hr 1 (by simp)
  match us, hl with
  | [u0, u1], _ =>
  simp only [List.getElem_cons_zero, List.getElem_cons_succ, List.getD_cons_zero, List.getD_cons_succ] at h0 h1
  obtain ⟨rfl, -⟩ := h1.str_inv
  obtain ⟨a, c, rfl, hc1, hc2, hc3, us, hs, hd⟩ := h0.sl_inv
  have hv' : v = .tuple #[.int .i64 (Lib.bsGo (fun t => Op.bytesLess (ss.getD t ByteArray.empty).toList x.toList) ss.length 0 ss.length : Nat), .bool (decide (Lib.bsGo (fun t => Op.bytesLess (ss.getD t ByteArray.empty).toList x.toList) ss.length 0 ss.length < ss.length ∧ ss.getD (Lib.bsGo (fun t => Op.bytesLess (ss.getD t ByteArray.empty).toList x.toList) ss.length 0 ss.length) ByteArray.empty = x))] := by
    cases hv with
    | tup us hl hr =>
      have g0 := hr 0 (by simp)
      have g1 := hr 1 (by simp)
      match us, hl with
      | [v0, v1], _ =>
        simp only [List.getElem_cons_zero, List.getElem_cons_succ, List.getD_cons_zero, List.getD_cons_succ] at g0 g1
        rw [g0.int_inv.1, g1.bool_inv]
  subst hv'
  simp only [List.length_map]
  by_cases hne : ss = []
  · subst hne
    refine (Any2.slices_BinarySearch_string_empty Ly a c x w).mono ?_
    rintro e w' ⟨rfl, rfl⟩
    refine ⟨?_, 0, rfl⟩
    simp [Lib.bsGo]
  · obtain ⟨b, o, k, rfl, hst⟩ := hs (by simpa using hne)
    refine Any2.slices_BinarySearch_string Ly b o ss.length c (fun t => ss.getD t ByteArray.empty) x w hn (fun j hj => ?_)
    have hj' : j < (ss.map sS').length := by simpa using hj
    obtain ⟨g1, g2⟩ := hst j hj'
    have hk : k = 1 := by rw [← g1]; simp [sS']
    subst hk
    have := (g2 0 (by omega)).2
    rw [Nat.mul_one, Nat.add_zero] at this
    rw [this]
    have hdj := hd j hj' 0 (by simp [sS'])
    have e2 : ((ss.map sS')[j]'hj')[0]'(by simp [sS']) = .str ss[j] := by simp [sS']
    rw [e2] at hdj
    have h := (Rel.d (ι := ι) (U := U) hdj).str_inv.1
    rw [h]
    simp [hj]
end Go.Proofs.YtkbnkcdaiahoeaaDoor
