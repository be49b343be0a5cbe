/- That 'aop' tells what an operation of the model does: all operations that leave memory as it is. No condition. -/
import Derived.Test.YtkbnkcdaiahoeaaDoorAwE
namespace Go.Proofs.YtkbnkcdaiahoeaaDoor
open Go Go.RowKit
set_option linter.unusedVariables false
set_option linter.unusedSimpArgs false
section
variable {P : Program} {ι : Nat → Gh} {U : Nat → Prop} {L : Lim} {w : World} {C : Caps} {m : Nat} {K : X → Del → Prop} {e : Operand → X} {ρ : Operand → Value} {wr av : Nat → Prop}

/-! ### A part of a slice -/
theorem Den.sub {es : List (List D)} {a : Option Addr} {c : Nat} (h : Den L w (.sl es) (.slice a es.length c)) (l n : Nat) (hl : l ≤ n) (hn : n ≤ es.length) (e : TypeId) (k : Nat) (hk : ∀ x ∈ es, x.length = k)
    {a' : Option Addr} (ha : a' = if c = l then a else a.map (·.add (l * k))) : Den L w (.sl ((es.take n).drop l)) (.slice a' (n - l) (c - l)) := by
  cases h with
  | sl us hc hB h0 hs hd =>
    have hlen : ((es.take n).drop l).length = n - l := by simp; omega
    rw [← hlen]
    have hel : ∀ i (hi : i < ((es.take n).drop l).length), ((es.take n).drop l)[i]'hi = es[l + i]'(by simp at hi; omega) := by intro i hi; simp
    refine .sl (fun i j => us (l + i) j) (by omega) (by omega) (fun hn => ?_) (fun hne => ?_) (fun i hi j hj => ?_)
    · have : a = none := by rw [ha] at hn; split at hn <;> simp_all
      rw [h0 this]; omega
    · have hpos : 0 < n - l := by rw [← hlen]; exact List.length_pos_iff.2 hne
      have hes : es ≠ [] := by intro h; subst h; simp at hn; omega
      obtain ⟨b, o, k', rfl, h1⟩ := hs hes
      have hk' : k' = k := by rw [← (h1 0 (by omega)).1]; exact hk _ (List.getElem_mem _)
      subst hk'
      refine ⟨b, o + l * k', k', ?_, fun i hi => ?_⟩
      · rw [ha, if_neg (by omega)]
        simp only [Option.map_some, Option.some.injEq]
        unfold Addr.add; split <;> simp_all
      · rw [hel i hi]
        have := h1 (l + i) (by omega)
        refine ⟨this.1, fun j hj => ?_⟩
        have h2 := this.2 j hj
        rw [Nat.add_mul] at h2
        rwa [show o + l * k' + i * k' + j = o + (l * k' + i * k') + j from by omega]
    · have h4 := hd (l + i) (by omega) j (by rw [hel i hi] at hj; exact hj)
      simpa using h4

def hiB (isS : Bool) (len cap : Nat) : Option Value → Sem Nat
  | some v => Instr.sliceBound v cap (if isS then .sliceAcap else .sliceAlen)
  | none => pure len
def loB (h : Nat) : Option Value → Sem Nat
  | some v => Instr.sliceBound v h .sliceB
  | none => pure 0
theorem run_sliceBounds (isS : Bool) (len cap : Nat) (lv hv : Option Value) : (Instr.sliceBounds isS len cap lv hv none).run P w = ((hiB isS len cap hv).run P w).andThen fun h w' => ((loB h lv).run P w').andThen fun l w'' => .ok (l, h, cap) w'' := by
  unfold Instr.sliceBounds
  cases hv <;> cases lv <;> simp [hiB, loB]
theorem bound_sound {y : Nat} {code : BoundsCode} {k : IntKind} {i : Int} (a : 0 ≤ i) (b : i ≤ y) : (Instr.sliceBound (.int k i) y code).run P w = .ok i.toNat w := by
  simp [Instr.sliceBound, asIntOf, a, b]
/-- A bound: given as a number, or left out. -/
inductive BdRel (ι : Nat → Gh) (U : Nat → Prop) (L : Lim) (w : World) : Option X → Option Value → Prop
  | none : BdRel ι U L w .none .none
  | some {x v} (h : Rel ι U L w x v) : BdRel ι U L w (.some x) (.some v)
theorem bd_sound {isS : Bool} {len cap : Nat} (hc : len ≤ cap) {lo hi : Option X} {lv hv : Option Value} (rlo : BdRel ι U L w lo lv) (rhi : BdRel ι U L w hi hv)
    {K' : Nat → Nat → Prop} (h : aBd len lo hi K') : ∃ l n, (Instr.sliceBounds isS len cap lv hv none).run P w = .ok (l, n, cap) w ∧ l ≤ n ∧ n ≤ len ∧ K' l n := by
  unfold aBd at h
  split at h
  · rename_i l n hl hn
    obtain ⟨⟨h1, h2, h3⟩, h4⟩ := h
    refine ⟨l.toNat, n.toNat, ?_, by omega, by omega, h4⟩
    have eh : (hiB isS len cap hv).run P w = .ok n.toNat w := by
      cases rhi with
      | none => simp at hn; simp [hiB]; omega
      | some r =>
        rename_i x v
        cases x with
        | d y => cases y with
          | int k i => simp at hn; subst hn; rw [r.int_inv.1]; exact bound_sound (by omega) (by omega)
          | _ => simp at hn
        | _ => simp at hn
    have el : (loB n.toNat lv).run P w = .ok l.toNat w := by
      cases rlo with
      | none => simp at hl; simp [loB]; omega
      | some r =>
        rename_i x v
        cases x with
        | d y => cases y with
          | int k i => simp at hl; subst hl; rw [r.int_inv.1]; exact bound_sound (by omega) (by omega)
          | _ => simp at hl
        | _ => simp at hl
    rw [run_sliceBounds, eh]; simp only [Result.andThen_ok]; rw [el]; rfl
  · exact h.elim
theorem bd_opt (hρ : ∀ o, Rel ι U L w (e o) (ρ o)) (o : Option Operand) : BdRel ι U L w (o.map e) (o.map ρ) := by
  cases o
  · exact .none
  · exact .some (hρ _)

theorem slice_sound (hW : WR ι U L w C) {t : TypeId} {x : X} {u : Value} {lo hi : Option X} {lv hv : Option Value} (hx : Rel ι U L w x u) (rlo : BdRel ι U L w lo lv) (rhi : BdRel ι U L w hi hv) {K' : X → Prop} (h : aSlice P t x lo hi K') :
    ∃ y v, (Instr.sliceAt t u lv hv none).run P w = .ok v w ∧ Rel ι U L w y v ∧ K' y := by
  unfold aSlice at h
  have hsl : ∀ {el : TypeId}, P.underlying t = some (.slice el) → (Instr.sliceAt t u lv hv none).run P w = (Instr.slice t u lv hv none).run P w := by
    intro el hu; simp [Instr.sliceAt, run_underlying hu]
  split at h
  · rename_i es
    split at h
    · rename_i el k by_ ht
      obtain ⟨hk, h⟩ := h
      obtain ⟨i, hu, hi', hsz, -, hso, -⟩ := telem_inv (w := w) ht
      cases hx with
      | d hx =>
        have hx0 := hx
        cases hx with
        | @sl _ a c us hc hB h0 hs hd =>
          obtain ⟨l, n, h1, h2, h3, h4⟩ := bd_sound (P := P) (isS := true) hc rlo rhi h
          have := hx0.sub l n h2 h3 el k hk rfl
          refine ⟨_, _, ?_, .d this, h4⟩
          rw [hsl hu]
          simp only [Instr.slice, Sem.run_bind, run_underlying hu, Result.andThen_ok, h1, hso, Sem.run_pure]
    · exact h.1.elim
  · rename_i n0 es
    split at h
    · rename_i el k by_ ht
      obtain ⟨hk, h⟩ := h
      obtain ⟨i, hu, hi', hsz, -, hso, -⟩ := telem_inv (w := w) ht
      cases hx with
      | d hx =>
        cases hx with
        | @sp _ _ a c hn hx0 =>
          have hc : es.length ≤ c := by cases hx0 with | sl us hc hB h0 hs hd => exact hc
          have key : ∃ l n, (Instr.sliceBounds true n0 c lv hv none).run P w = .ok (l, n, c) w ∧ l ≤ n ∧ n ≤ es.length ∧ K' (.d (.sl ((es.take n).drop l))) := by
            cases rhi with
            | none =>
              obtain ⟨l, n, h1, h2, h3, h4⟩ := bd_sound (P := P) (isS := true) (Nat.le_trans hn hc) rlo (BdRel.none (ι := ι) (U := U) (L := L) (w := w)) h
              exact ⟨l, n, h1, h2, Nat.le_trans h3 hn, h4⟩
            | some r =>
              obtain ⟨l, n, h1, h2, h3, h4⟩ := bd_sound (P := P) (isS := true) hc rlo (.some r) h
              refine ⟨l, n, ?_, h2, h3, h4⟩
              rw [← h1, run_sliceBounds, run_sliceBounds]
              rfl
          obtain ⟨l, n, h1', h2, h3, h4⟩ := key
          have := hx0.sub l n h2 h3 el k hk rfl
          refine ⟨_, _, ?_, .d this, h4⟩
          rw [hsl hu]
          simp only [Instr.slice, Sem.run_bind, run_underlying hu, Result.andThen_ok, h1', hso, Sem.run_pure]
    · exact h.1.elim
  · obtain ⟨ht, h⟩ := h
    obtain ⟨⟨el, k, by_⟩, ht⟩ := Option.isSome_iff_exists.1 ht
    obtain ⟨i, hu, hi', hsz, -, hso, -⟩ := telem_inv (w := w) ht
    obtain rfl := hx.nil_inv
    obtain ⟨l, n, h1, h2, h3, h4⟩ := bd_sound (P := P) (isS := true) (Nat.le_refl 0) rlo rhi h
    obtain rfl : n = 0 := by omega
    obtain rfl : l = 0 := by omega
    refine ⟨_, .slice none 0 0, ?_, .nil, h4⟩
    rw [hsl hu]
    simp only [Instr.slice, Sem.run_bind, run_underlying hu, Result.andThen_ok, h1, hso, Sem.run_pure]
    simp
  · rename_i s
    obtain ⟨hu, h⟩ := h
    obtain ⟨rfl, hs⟩ := hx.str_inv
    obtain ⟨l, n, h1, h2, h3, h4⟩ := bd_sound (P := P) (isS := false) (Nat.le_refl s.size) rlo rhi h
    refine ⟨_, .string (s.extract l n), ?_, .d (.str ?_), h4⟩
    · simp [Instr.sliceAt, run_underlying hu, Instr.slice, h1]
    · rw [ByteArray.size_extract]; omega
  · rename_i nm k a len
    split at h
    · rename_i el k' by_ ht
      obtain ⟨rfl, h⟩ := h
      obtain ⟨i, hu, hi', hsz, -, hso, -⟩ := telem_inv (w := w) ht
      cases hx with
      | vec0 hn hnl =>
        obtain ⟨l, n, h1, h2, h3, h4⟩ := bd_sound (P := P) (isS := true) (Nat.le_refl 0) rlo rhi h
        obtain rfl : n = 0 := by omega
        obtain rfl : l = 0 := by omega
        refine ⟨_, .slice none 0 0, ?_, .vec0 hn hnl, h4⟩
        rw [hsl hu]
        simp only [Instr.slice, Sem.run_bind, run_underlying hu, Result.andThen_ok, h1, hso, Sem.run_pure]
        simp
      | @vec _ _ _ _ o hn hnl hle ho =>
        obtain ⟨l, n, h1, h2, h3, h4⟩ := bd_sound (P := P) (isS := true) (cap := (ι nm).cap - a) (by omega) rlo rhi h
        refine ⟨_, .slice (some ⟨(ι nm).b, if (ι nm).cap - a = l then o else o + l * k, none⟩) (n - l) ((ι nm).cap - a - l), ?_, ?_, h4⟩
        · rw [hsl hu]
          simp only [Instr.slice, Sem.run_bind, run_underlying hu, Result.andThen_ok, h1, hso, Sem.run_pure]
          have add : ∀ j, (⟨(ι nm).b, o, none⟩ : Addr).add j = ⟨(ι nm).b, o + j, none⟩ := by
            intro j; unfold Addr.add; split <;> simp_all
          split <;> simp_all
        · rw [Nat.sub_sub]
          refine .vec hn hnl (by omega) ?_
          split
          · rename_i hcl
            by_cases hz : a + l = 0
            · left
              have : a = 0 := by omega
              subst this
              have : l = 0 := by omega
              subst this
              rcases ho with ho | ho
              · simpa using ho
              · exact absurd rfl ho.2
            · right; exact ⟨by omega, hz⟩
          · rcases ho with ho | ho
            · left; rw [ho, Nat.add_mul]
            · right; omega
    · exact h.1.elim
  · exact h.elim
end
end Go.Proofs.YtkbnkcdaiahoeaaDoor
