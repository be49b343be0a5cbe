/- A row seen only up to a length; a loop's rows. No condition. -/
import Derived.Test.YtkbnkcdaiahoeaaDoorAxG
namespace Go.Proofs.YtkbnkcdaiahoeaaDoor
open Go Go.RowKit
set_option linter.unusedVariables false
set_option linter.unusedSimpArgs false
theorem CapOk.trunc {ι : Nat → Gh} {U : Nat → Prop} {L : Lim} {w : World} {n : Nat} {ty : TypeId} {k : Nat} {es : List (List D)} (len : Nat) (h : CapOk ι U L w n (.vec ty k es)) : CapOk ι U L w n (.vec ty k (es.take len)) := by
  rcases h with ⟨h1, rfl⟩ | ⟨h1, us, h2, h3, h4, h5, h6⟩
  · exact .inl ⟨h1, by simp⟩
  · refine .inr ⟨h1, us, h2, h3, by simp only [List.length_take]; omega, h5, fun i hi => ?_⟩
    have hi' : i < es.length := by simp only [List.length_take] at hi; omega
    simp only [List.getElem_take]
    exact h6 i hi'
/-- Only the head of an own row is looked at from here on. -/
theorem Vw.trunc {Γ : Ctx} {g : Nat} {σ : St} (n k len : Nat) {ty : TypeId} (es : List (List D)) (hc : σ.C n = some (.vec ty k es)) : Vw Γ g σ g ⟨σ.s, upd σ.C n (some (.vec ty k (es.take len)))⟩ := by
  intro U a w hu ⟨h1, h2, hU0, ι, L, hW, hr, he, hf, hu0⟩
  have hs : ∀ j, upd σ.C n (some (.vec ty k (es.take len))) j ≠ none → σ.C j ≠ none := by
    intro j hj
    by_cases hn : j = n
    · subst hn; rw [hc]; simp
    · rwa [upd_other _ _ _ _ hn] at hj
  refine ⟨U, hu, h1, h2, hU0, ι, L, ⟨fun j c hj => ?_, fun j hj hl => hW.lim j (hs j hj) hl, fun j i hj hi hl hl' hb => hW.inj j i (hs j hj) (hs i hi) hl hl' hb, fun j hj => hW.used j (hs j hj), hW.glob⟩, hr, he, ⟨fun b hb ho => ?_, fun j hj hl => ?_⟩, hu0⟩
  · by_cases hn : j = n
    · subst hn
      replace hj : upd σ.C j (some (.vec ty k (es.take len))) j = some c := hj
      rw [upd_same] at hj
      cases hj
      exact (hW.ok j _ hc).trunc len
    · replace hj : upd σ.C n (some (.vec ty k (es.take len))) j = some c := hj
      rw [upd_other _ _ _ _ hn] at hj
      exact hW.ok j c hj
  · exact hf.same b hb ho
  · refine hf.orig j (fun h => hj ?_) hl
    by_cases hn : j = n
    · subst hn; rw [hc] at h; cases h
    · show upd σ.C n (some (.vec ty k (es.take len))) j = none
      rw [upd_other _ _ _ _ hn]; exact h
end Go.Proofs.YtkbnkcdaiahoeaaDoor
