/- Calls that change an own block that comes with any of the arguments. No condition. -/
import Derived.Test.YtkbnkcdaiahoeaaDoorAxF
namespace Go.Proofs.YtkbnkcdaiahoeaaDoor
open Go Go.RowKit
set_option linter.unusedVariables false
set_option linter.unusedSimpArgs false
/-- A contract over one own block (name 0): it may change; the answer is data. -/
def FunC (P : Program) (f : FuncId) (c : Cap) (xs : List X) (R : X → Cap → Prop) : Prop := Spec P f xs [(0, c)] 1 fun x δ => ∃ c', δ = [(0, some c')] ∧ R x c'
theorem call_own {P : Program} {f : FuncId} {c : Cap} {xs0 : List X} {R : X → Cap → Prop} (h : FunC P f c xs0 R) (hc : c.on (fun _ => false) = true) (h0 : X.onL (fun n => n == 0) xs0 = true) (hR : ∀ x c', R x c' → x.on (fun _ => false) = true ∧ c'.on (fun _ => false) = true) (hne : ∃ x c', R x c')
    {a m : Nat} (ham : a ≠ m) {wr av : Nat → Prop} {C : Caps} {xs ys : List X} (hys : X.renL (fun n => if n = 0 then a else m) xs0 = ys) (hCa : C a = some c) (hw : wr a) (hv : ¬ av a) (ha : aArgs av C [] xs ys) {K : X → Del → Prop} (hK : ∀ x c', R x c' → K x [(a, some c')]) : aCall P m wr av C f xs K := by
  have h' := Spec.ren h (fun n => decide (n < 2)) (fun n => if n = 0 then a else m) (fun n k hn hk he => by
    simp at hn hk
    by_cases a1 : n = 0 <;> by_cases a2 : k = 0
    · omega
    · simp [a1, a2] at he; exact absurd he ham
    · simp [a1, a2] at he; exact absurd he.symm ham
    · omega) (by decide) ((onL_mono (V := fun n => n == 0) (fun n h => by simp at h; subst h; decide)).2 xs0 h0) (by intro p hp; simp at hp; subst hp; exact ⟨by simp, cap_mono hc⟩) (fun x δ ⟨c', hδ, _⟩ p hp => by
      subst hδ; simp at hp; subst hp; exact .inr (by simp))
  rw [hys] at h'
  have e2 : renPre (fun n => if n = 0 then a else m) [(0, c)] = [(a, c)] := by simp [renPre, cap_free hc]
  rw [e2] at h'
  simp only [Nat.one_ne_zero, if_false] at h'
  obtain ⟨x0, c0, h0⟩ := hne
  refine ⟨_, _, _, [], ha, h', fun p hp => by simp at hp; subst hp; exact ⟨hCa, hw, hv⟩, ⟨_, _, x0, [(0, some c0)], ⟨c0, rfl, h0⟩, rfl, rfl⟩, fun h => absurd rfl h, ?_⟩
  rintro x δ ⟨x0, δ0, ⟨c', rfl, h0⟩, rfl, rfl⟩
  obtain ⟨k1, k2⟩ := hR _ _ h0
  refine ⟨fun h => absurd rfl h, fun p hp => ?_, ?_⟩
  · simp [renDel] at hp
    subst hp
    exact .inr (by simp)
  · have := hK _ _ h0
    simpa [renDel, ren_free k1, cap_free k2] using this
end Go.Proofs.YtkbnkcdaiahoeaaDoor
