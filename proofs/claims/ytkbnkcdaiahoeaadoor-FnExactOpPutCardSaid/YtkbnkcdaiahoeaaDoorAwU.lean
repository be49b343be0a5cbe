/- Carrying out: a region's list, operation by operation. No condition. -/
import Derived.Test.YtkbnkcdaiahoeaaDoorAwT
namespace Go.Proofs.YtkbnkcdaiahoeaaDoor
open Go Go.RowKit
set_option linter.unusedVariables false
set_option linter.unusedSimpArgs false

/-- A region's operations from the i-th on. -/
def qL (P : Program) (g : Nat) (ds : List (Option Tmp)) (fz : Nat → Bool) (wr av : Nat → Nat → Prop) (K : St → Prop) : List Oper → Nat → St → Prop
  | [], _, σ => K σ
  | o :: r, i, σ => stepT P g ds fz wr av i o σ (qL P g ds fz wr av K r (i + 1))

theorem qi_of_qL {P : Program} {g : Nat} {ds : List (Option Tmp)} {fz : Nat → Bool} {wr av : Nat → Nat → Prop} {K : St → Prop} (ops : List Oper) : ∀ (r : List Oper) (i : Nat), ops.drop i = r →
    qL P g ds fz wr av K r i = qi P g ds fz wr av ops K (List.range' i r.length)
  | [], i, _ => rfl
  | o :: r, i, h => by
    have h1 : ops[i]? = some o := by
      have := congrArg (·[0]?) h
      simpa using this
    have h2 : ops.drop (i + 1) = r := by
      rw [← List.drop_drop, h]; rfl
    rw [List.length_cons, List.range'_succ]
    funext σ
    simp only [qL, qi, h1]
    rw [qi_of_qL ops r (i + 1) h2]

theorem AW.regionL {Γ : Ctx} {g : Nat} {σ : St} {Q : Exit → Nat → St → Prop} {id : Nat} {ops : List Oper} (fz : List Nat) (ds : List (Option Tmp)) (hds : ops.map (·.dst) = ds) (hd : dstOk Γ.T ops = true)
    (h : qL Γ.P g ds (fun i => fz.contains i) (fun _ _ => True) (fun _ _ => False) (Q .normal (g + ops.length)) ops 0 σ) : AW Γ (.region id ops.toArray false) g σ Q := by
  subst hds
  refine AW.region (fz := fun i => fz.contains i) (by simpa using hd) ?_
  have := qi_of_qL (P := Γ.P) (g := g) (ds := ops.map (·.dst)) (fz := fun i => fz.contains i) (wr := fun _ _ => True) (av := fun _ _ => False) (K := Q .normal (g + ops.length)) ops ops 0 rfl
  rw [this] at h
  simpa [List.range_eq_range'] using h
theorem AW.regionAnyL {Γ : Ctx} {g : Nat} {σ : St} {Q : Exit → Nat → St → Prop} {id : Nat} {ops : List Oper} (fz : List Nat) (ds : List (Option Tmp)) (hds : ops.map (·.dst) = ds) (F : Nat) (W : Nat → List Nat) (hm : Γ.P.follows .mixedOrders = true) (hd : dstOk Γ.T ops = true) (hD : drawOk Γ.P F ops = true)
    (h : qL Γ.P g ds (fun i => fz.contains i) (wrO W) (avO ops F g W) (Q .normal (g + ops.length)) ops 0 σ) : AW Γ (.region id ops.toArray true) g σ Q := by
  subst hds
  refine AW.regionAny (fz := fun i => fz.contains i) F W hm (by simpa using hd) (by simpa using hD) ?_
  have := qi_of_qL (P := Γ.P) (g := g) (ds := ops.map (·.dst)) (fz := fun i => fz.contains i) (wr := wrO W) (av := avO ops F g W) (K := Q .normal (g + ops.length)) ops ops 0 rfl
  rw [this] at h
  simpa [List.range_eq_range'] using h
section
variable {P : Program} {g : Nat} {ds : List (Option Tmp)} {fz : Nat → Bool} {wr av : Nat → Nat → Prop} {K : St → Prop}
theorem qL_nil {i : Nat} {σ : St} (h : K σ) : qL P g ds fz wr av K [] i σ := h
theorem qL_cons {o : Oper} {r : List Oper} {i : Nat} {σ : St} (h : ∀ R : St → Prop, (∀ σ', qL P g ds fz wr av K r (i + 1) σ' → R σ') → stepT P g ds fz wr av i o σ R) : qL P g ds fz wr av K (o :: r) i σ := h _ fun _ h => h
end

/-- Slots by a list; the others are not spoken of. -/
def look : List (Nat × X) → Nat → X
  | [], _ => .junk
  | p :: l, t => if t = p.1 then p.2 else look l t
def lookC : List (Nat × Cap) → Caps
  | [], _ => none
  | p :: l, n => if n = p.1 then some p.2 else lookC l n
def vwL (τ : Nat → Nat) (V : Nat → Bool) (s : Nat → X) : List (Nat × X) → Prop
  | [] => True
  | p :: l => vwX τ V (s p.1) p.2 ∧ vwL τ V s l
theorem look_view {τ : Nat → Nat} {V : Nat → Bool} {s : Nat → X} : ∀ {l : List (Nat × X)}, vwL τ V s l → ∀ t, vwX τ V (s t) (look l t)
  | [], _, t => .inl rfl
  | p :: l, ⟨h1, h2⟩, t => by
    simp only [look]
    split
    · rename_i h; rw [h]; exact h1
    · exact look_view h2 t
def viewC (τ : Nat → Nat) (g : Nat) (C : Caps) : List (Nat × Cap) → Prop
  | [] => True
  | p :: l => (p.1 < g ∧ p.2.on (fun n => decide (n < g)) = true ∧ C (τ p.1) = some (p.2.ren τ)) ∧ viewC τ g C l
theorem lookC_view {τ : Nat → Nat} {g : Nat} {C : Caps} : ∀ {l : List (Nat × Cap)}, viewC τ g C l → ∀ n c, lookC l n = some c → n < g ∧ c.on (fun n => decide (n < g)) = true ∧ C (τ n) = some (c.ren τ)
  | [], _, n, c, h => by cases h
  | p :: l, ⟨h1, h2⟩, n, c, h => by
    simp only [lookC] at h
    split at h
    · rename_i hn; cases h; subst hn; exact h1
    · exact lookC_view h2 n c h
theorem lookC_key : ∀ {l : List (Nat × Cap)} {n : Nat}, lookC l n ≠ none → n ∈ l.map (·.1)
  | [], n, h => (h rfl).elim
  | p :: l, n, h => by
    simp only [lookC] at h
    split at h
    · rename_i hn; simp [hn]
    · simp [lookC_key h]
/-- The state by lists. -/
def St.by (l : List (Nat × X)) (cl : List (Nat × Cap)) : St := ⟨look l, lookC cl⟩
def tauL : List (Nat × Nat) → Nat → Nat
  | [], n => n
  | p :: l, n => if n = p.1 then p.2 else tauL l n
theorem Vw.to {Γ : Ctx} {g g' : Nat} {σ : St} (tl : List (Nat × Nat)) (l : List (Nat × X)) (cl : List (Nat × Cap)) (h0 : ∀ n, Γ.U0 n → n < g' ∧ tauL tl n = n)
    (hs : vwL (tauL tl) (fun n => decide (n < g')) σ.s l) (hC : viewC (tauL tl) g' σ.C cl) (hi : (cl.map fun p => tauL tl p.1).Nodup) : Vw Γ g σ g' (.by l cl) :=
  Vw.ren (tauL tl) h0 (look_view hs) (lookC_view hC) fun n m hn hm h => by
    have hn' := lookC_key hn
    have hm' := lookC_key hm
    obtain ⟨p, hp, rfl⟩ := List.mem_map.1 hn'
    obtain ⟨q, hq, rfl⟩ := List.mem_map.1 hm'
    by_cases hpq : p.1 = q.1
    · exact hpq
    · exfalso
      rw [List.Nodup, List.pairwise_map] at hi
      have := hi
      have key : ∀ (l : List (Nat × Cap)), l.Pairwise (fun a b => tauL tl a.1 ≠ tauL tl b.1) → p ∈ l → q ∈ l → False := by
        intro l
        induction l with
        | nil => intro _ h; simp at h
        | cons x l ih =>
          intro hl hp hq
          rw [List.pairwise_cons] at hl
          rcases List.mem_cons.1 hp with rfl | hp'
          · rcases List.mem_cons.1 hq with rfl | hq'
            · exact hpq rfl
            · exact hl.1 q hq' h
          · rcases List.mem_cons.1 hq with rfl | hq'
            · exact hl.1 p hp' h.symm
            · exact ih hl.2 hp' hq'
      exact key cl this hp hq
end Go.Proofs.YtkbnkcdaiahoeaaDoor
