/- That 'aop' tells what an operation of the model does: new blocks, stores, appends. No condition. -/
import Derived.Test.YtkbnkcdaiahoeaaDoorAwF
import Derived.Laws.AppendOwn
import Derived.Laws.OwnMore
import Derived.Laws.MakeOwn
namespace Go.Proofs.YtkbnkcdaiahoeaaDoor
open Go Go.RowKit
set_option linter.unusedVariables false
set_option linter.unusedSimpArgs false
section
variable {P : Program} {ι : Nat → Gh} {U : Nat → Prop} {L : Lim} {w : World} {C : Caps} {m : Nat} {K : X → Del → Prop} {e : Operand → X} {ρ : Operand → Value} {wr av : Nat → Prop}

theorem evo_alloc (w : World) (o : Obj) (t : Bool) : Evo L w (upd L w.heap.size t) (w.alloc o) :=
  ⟨rfl, rfl, rfl, by simp, fun b hb hl => ⟨by rw [upd_other _ _ _ _ (by omega)]; exact hl, Below.heap_alloc w o b hb⟩⟩
theorem heap_alloc_at (w : World) (o : Obj) : (w.alloc o).heap[w.heap.size]? = some o := by
  show (w.heap.push o)[w.heap.size]? = _; simp
theorem upd_U (hm : ¬ U m) (g : Gh) : ∀ n, U n → upd ι m g n = ι n := fun n hn => upd_other _ _ _ _ (fun h => hm (h ▸ hn))
theorem app_one (n : Nat) (c : Option Cap) : app [(n, c)] C = upd C n c := rfl

/-- A new block of the call's own, by the name m. -/
theorem Aft.new (hW : WR ι U L w C) (hm : ¬ U m) {g : Gh} {c : Cap} {x : X} {v : Value} {w' : World} {L' : Lim} (he : Evo L w L' w') (hold : ∀ b, b < w.heap.size → w'.heap[b]? = w.heap[b]? ∧ L' b = L b)
    (hb : g.nl = false → g.b = w.heap.size ∧ L' w.heap.size = true)
    (hc : CapOk (upd ι m g) (fun n => U n ∨ n = m) L' w' m c) (hx : Rel (upd ι m g) (fun n => U n ∨ n = m) L' w' x v) (hK : K x [(m, some c)]) : Aft ι U L w C m K v w' := by
  have hCm : C m = none := by
    by_cases h : C m = none
    · exact h
    · exact absurd (hW.used m h) hm
  refine ⟨x, _, upd ι m g, L', hK, hx, ?_, he, fun n hn => upd_other _ _ _ _ hn, fun b hb' _ => hold b hb', fun n hn hl => ?_⟩
  rotate_left
  · rw [app_one] at hn
    by_cases hnm : n = m
    · subst hnm; rw [upd_same] at hl ⊢; exact .inl (Nat.le_of_eq (hb hl).1.symm)
    · rw [upd_other _ _ _ _ hnm] at hn hl ⊢; exact .inr ⟨n, hn, hl, rfl⟩
  rw [app_one]
  have hne : ∀ n, n ≠ m → upd C m (some c) n ≠ none → C n ≠ none := by intro n hn h; rwa [upd_other _ _ _ _ hn] at h
  constructor
  · intro n c' hc'
    by_cases hn : n = m
    · subst hn; rw [upd_same] at hc'; cases hc'; exact hc
    · rw [upd_other _ _ _ _ hn] at hc'
      have hu := hW.used n (by simp [hc'])
      refine (hW.ok n c' hc').grow hu (upd_U hm g) (fun _ h => .inl h) he.stab (fun hl => (hold _ ?_).1)
      exact hW.lt (by simp [hc']) hl
  · intro n hn hl
    by_cases hnm : n = m
    · subst hnm; rw [upd_same] at hl ⊢; obtain ⟨h1, h2⟩ := hb hl; rw [h1]; exact h2
    · have h0 := hne n hnm hn
      rw [upd_other _ _ _ _ hnm] at hl ⊢
      rw [(hold _ (hW.lt h0 hl)).2]; exact hW.lim n h0 hl
  · intro n k hn hk hl hl' hbb
    by_cases hnm : n = m
    · by_cases hkm : k = m
      · rw [hnm, hkm]
      · subst hnm
        rw [upd_same] at hl hbb; rw [upd_other _ _ _ _ hkm] at hl' hbb
        have := hW.lt (hne k hkm hk) hl'
        rw [← hbb, (hb hl).1] at this; omega
    · by_cases hkm : k = m
      · subst hkm
        rw [upd_same] at hl' hbb; rw [upd_other _ _ _ _ hnm] at hl hbb
        have := hW.lt (hne n hnm hn) hl
        rw [hbb, (hb hl').1] at this; omega
      · rw [upd_other _ _ _ _ hnm] at hl hbb; rw [upd_other _ _ _ _ hkm] at hl' hbb
        exact hW.inj n k (hne n hnm hn) (hne k hkm hk) hl hl' hbb
  · intro n hn
    by_cases hnm : n = m
    · exact .inr hnm
    · exact .inl (hW.used n (hne n hnm hn))
  · exact hW.glob.mono he.stab

theorem Aft.newBox (hW : WR ι U L w C) (hm : ¬ U m) {ty : TypeId} {cs : List X} {us : List Value} (hl : us.length = cs.length) (hr : ∀ j (hj : j < cs.length), Rel ι U L w (cs[j]'hj) (us.getD j undef))
    (hK : K (.bx m 0) [(m, some (.box ty cs))]) : Aft ι U L w C m K (.pointer (some ⟨w.heap.size, 0, none⟩)) (w.alloc (.cells us.toArray ty)) := by
  have hx : Rel (upd ι m ⟨w.heap.size, 0, false⟩) (fun n => U n ∨ n = m) (upd L w.heap.size true) (w.alloc (.cells us.toArray ty)) (.bx m 0) (.pointer (some ⟨w.heap.size, 0, none⟩)) := by
    have := Rel.bx (ι := upd ι m ⟨w.heap.size, 0, false⟩) (U := fun n => U n ∨ n = m) (L := upd L w.heap.size true) (w := w.alloc (.cells us.toArray ty)) (n := m) (off := 0) (.inr rfl)
    rwa [upd_same] at this
  refine Aft.new hW hm (g := ⟨w.heap.size, 0, false⟩) (c := .box ty cs) (L' := upd L w.heap.size true) (evo_alloc w _ true) (fun b hb => ⟨Below.heap_alloc w _ b hb, upd_other _ _ _ _ (by omega)⟩) (fun _ => ⟨rfl, upd_same _ _ _⟩) ?_ hx hK
  refine ⟨by rw [upd_same], us, by rw [upd_same]; exact heap_alloc_at w _, hl, fun j hj => (hr j hj).mono (upd_U hm _) (fun _ h => .inl h) (evo_alloc w _ true).stab⟩

theorem Aft.newVec (hW : WR ι U L w C) (hm : ¬ U m) {ty : TypeId} {k cap : Nat} {es : List (List D)} {us : List Value} {w' : World} (hw' : w'.heap = w.heap.push (.cells us.toArray ty)) (ho : w'.os = w.os) (ht : w'.tape = w.tape) (hop : w'.output = w.output)
    (hl : us.length = cap * k) (hes : es.length ≤ cap) (hcap : cap ≤ top)
    (hr : ∀ i (hi : i < es.length), (es[i]'hi).length = k ∧ ∀ j (hj : j < (es[i]'hi).length), Den L w ((es[i]'hi)[j]'hj) (us.getD (i * k + j) undef))
    (hK : K (.vec m k 0 es.length) [(m, some (.vec ty k es))]) : Aft ι U L w C m K (.slice (some ⟨w.heap.size, 0, none⟩) es.length cap) w' := by
  have hev : Evo L w (upd L w.heap.size true) w' := ⟨ho, ht, hop, by rw [hw']; simp, fun b hb hl => ⟨by rw [upd_other _ _ _ _ (by omega)]; exact hl, by rw [hw', Array.getElem?_push, if_neg (by omega)]⟩⟩
  have hx : Rel (upd ι m ⟨w.heap.size, cap, false⟩) (fun n => U n ∨ n = m) (upd L w.heap.size true) w' (.vec m k 0 es.length) (.slice (some ⟨w.heap.size, 0, none⟩) es.length cap) := by
    have := Rel.vec (ι := upd ι m ⟨w.heap.size, cap, false⟩) (U := fun n => U n ∨ n = m) (L := upd L w.heap.size true) (w := w') (n := m) (k := k) (a := 0) (len := es.length) (o := 0) (.inr rfl) (by rw [upd_same]) (by rw [upd_same]; show 0 + es.length ≤ cap; omega) (.inl (by simp))
    rwa [upd_same] at this
  refine Aft.new hW hm (g := ⟨w.heap.size, cap, false⟩) (c := .vec ty k es) (L' := upd L w.heap.size true) hev (fun b hb => ⟨by rw [hw', Array.getElem?_push, if_neg (by omega)], upd_other _ _ _ _ (by omega)⟩) (fun _ => ⟨rfl, upd_same _ _ _⟩) ?_ hx hK
  refine .inr ⟨by rw [upd_same], us, by rw [upd_same, hw']; simp, by rw [upd_same]; exact hl, by rw [upd_same]; exact hes, by rw [upd_same]; exact hcap, fun i hi => ⟨(hr i hi).1, fun j hj => ((hr i hi).2 j hj).mono hev.stab⟩⟩

/-- A new block that stays as it is. -/
theorem Aft.newData (hW : WR ι U L w C) {ty : TypeId} {x : X} {v : Value} {us : List Value}
    (hx : Rel ι U (upd L w.heap.size false) (w.alloc (.cells us.toArray ty)) x v) (hK : K x []) : Aft ι U L w C m K v (w.alloc (.cells us.toArray ty)) := by
  refine ⟨x, [], ι, upd L w.heap.size false, hK, hx.mono (fun _ _ => rfl) (fun _ h => .inl h) (fun _ _ _ h => h), ?_, evo_alloc w _ false, fun _ _ => rfl, fun b hb _ => ⟨Below.heap_alloc w _ b hb, upd_other _ _ _ _ (by omega)⟩, fun n hn hl => .inr ⟨n, hn, hl, rfl⟩⟩
  exact hW.grow (fun _ _ => rfl) (fun _ h => .inl h) (evo_alloc w _ false) (fun n hn hl => by
    have := hW.lt hn hl
    exact ⟨Below.heap_alloc w _ _ this, by rw [upd_other _ _ _ _ (by omega)]; exact hW.lim n hn hl⟩)

/-- A block of the call's own is written. -/
theorem Aft.write (hW : WR ι U L w C) {nm : Nat} {c c' : Cap} (hc : C nm = some c) (hl : (ι nm).nl = false) {us : List Value}
    (hok : ∀ L' w', Evo L w L' w' → w'.heap[(ι nm).b]? = (w.setRow (ι nm).b us.toArray).heap[(ι nm).b]? → CapOk ι U L' w' nm c')
    {x : X} {v : Value} (hx : ∀ L' w', Evo L w L' w' → Rel ι U L' w' x v) (hK : K x [(nm, some c')]) : Aft ι U L w C m K v (w.setRow (ι nm).b us.toArray) := by
  have hlim := hW.lim nm (by simp [hc]) hl
  have he : Evo L w L (w.setRow (ι nm).b us.toArray) := ⟨rfl, rfl, rfl, by simp, fun b hb hlb => ⟨hlb, setRow_other w _ b _ (fun h => by subst h; rw [hlim] at hlb; cases hlb)⟩⟩
  have hne : ∀ n, upd C nm (some c') n ≠ none → C n ≠ none := by
    intro n h
    by_cases hn : n = nm
    · subst hn; simp [hc]
    · rwa [upd_other _ _ _ _ hn] at h
  refine ⟨x, _, ι, L, hK, (hx _ _ he).mono (fun _ _ => rfl) (fun _ h => .inl h) (fun _ _ _ h => h), ?_, he, fun _ _ => rfl, fun b hb hne => ⟨setRow_other w _ b _ (fun h => hne nm (by simp [hc]) hl h.symm), rfl⟩, fun n hn hl => .inr ⟨n, hne n (by rwa [app_one] at hn), hl, rfl⟩⟩
  rw [app_one]
  constructor
  · intro n d hd
    by_cases hn : n = nm
    · subst hn; rw [upd_same] at hd; cases hd
      exact (hok _ _ he rfl).grow (hW.used _ (by simp [hc])) (fun _ _ => rfl) (fun _ h => .inl h) (fun _ _ _ h => h) (fun _ => rfl)
    · rw [upd_other _ _ _ _ hn] at hd
      refine (hW.ok n d hd).grow (hW.used n (by simp [hd])) (fun _ _ => rfl) (fun _ h => .inl h) he.stab (fun hl' => setRow_other w _ _ _ (fun h => hn (hW.inj n nm (by simp [hd]) (by simp [hc]) hl' hl h)))
  · intro n hn hl'; exact hW.lim n (hne n hn) hl'
  · intro n k hn hk; exact hW.inj n k (hne n hn) (hne k hk)
  · intro n hn; exact .inl (hW.used n (hne n hn))
  · exact hW.glob.mono he.stab
end
end Go.Proofs.YtkbnkcdaiahoeaaDoor
