/- Steps of a walk in short words: what each step asks for besides is found by the same few commands everywhere. No condition. -/
import Derived.Test.YtkbnkcdaiahoeaaDoorAwW
namespace Go.Proofs.YtkbnkcdaiahoeaaDoor
open Go Go.RowKit
set_option linter.unusedVariables false
/-- The goal, evaluated. -/
theorem sm {A B : Prop} (k : B) (h : B → A := by intro h; simp only [go_sem, reduceIte, reduceCtorEq, Nat.reduceAdd, Nat.reduceEqDiff, Nat.reduceLeDiff, Nat.reduceLT, Nat.reduceSub, Int.reduceLE, Int.reduceNeg, Int.reduceLT, Nat.reduceMul, Nat.reduceBEq]; exact h) : A := h k
theorem sm2 {A B : Prop} (k : B) (h : B → A := by intro h; simp only [go_sem, reduceIte, reduceCtorEq, Nat.reduceAdd, Nat.reduceEqDiff, Nat.reduceLeDiff, Nat.reduceLT, Nat.reduceSub, Int.reduceLE, Int.reduceNeg, Int.reduceLT, Nat.reduceMul, Nat.reduceBEq, X.ren, tauL]; exact h) : A := h k
theorem sm3 {A B : Prop} (k : B) (h : B → A := by intro h; simp only [go_sem, reduceIte, reduceCtorEq, Nat.reduceAdd, Nat.reduceEqDiff, Nat.reduceLeDiff, Nat.reduceLT, Nat.reduceSub, Int.reduceLE, Int.reduceNeg, Int.reduceLT, Nat.reduceMul, Nat.reduceBEq, tauL, Cap.ren]; exact h) : A := h k
theorem cl {A : Prop} (h : A := by simp only [go_sem, reduceIte, reduceCtorEq, Nat.reduceAdd, Nat.reduceEqDiff, Nat.reduceLeDiff, Nat.reduceLT, Nat.reduceSub, Int.reduceLE, Int.reduceNeg, Int.reduceLT, Nat.reduceMul, Nat.reduceBEq] <;> rfl) : A := h
theorem cl2 {A : Prop} (h : A := by simp only [go_sem, reduceIte, reduceCtorEq, Nat.reduceAdd, Nat.reduceEqDiff, Nat.reduceLeDiff, Nat.reduceLT, Nat.reduceSub, Int.reduceLE, Int.reduceNeg, Int.reduceLT, Nat.reduceMul, Nat.reduceBEq, X.ren, tauL] <;> rfl) : A := h
theorem cl3 {A : Prop} (h : A := by simp only [go_sem, reduceIte, reduceCtorEq, Nat.reduceAdd, Nat.reduceEqDiff, Nat.reduceLeDiff, Nat.reduceLT, Nat.reduceSub, Int.reduceLE, Int.reduceNeg, Int.reduceLT, Nat.reduceMul, Nat.reduceBEq, tauL] <;> rfl) : A := h
theorem cl4 {A : Prop} (h : A := by simp only [go_sem, reduceIte, reduceCtorEq, Nat.reduceAdd, Nat.reduceEqDiff, Nat.reduceLeDiff, Nat.reduceLT, Nat.reduceSub, Int.reduceLE, Int.reduceNeg, Int.reduceLT, Nat.reduceMul, Nat.reduceBEq, tauL, Cap.ren] <;> rfl) : A := h
/-- To the next region, test or loop. -/
theorem st {A B : Prop} (k : B) (h : B → A := by intro h; (repeat with_reducible (first | refine EThen_n ?_ | refine EThen_r ?_ | refine EThen_e ?_ | refine EBlock_n ?_ | refine EBlock_r ?_ | refine EBlock_e ?_ | refine EBlock_o (by decide) ?_ | refine AW.seqX ?_ | refine AW.block ?_ | refine AW.skip ?_ | refine AW.exit ?_ | refine AW.ret ?_)); exact h) : A := h k
section
variable {P : Program} {g : Nat} {ds : List (Option Tmp)} {fz : Nat → Bool} {wr av : Nat → Nat → Prop} {K : St → Prop} {o : Oper} {r : List Oper} {i : Nat} {σ σ' : St}
theorem qP (k : qL P g ds fz wr av K r (i + 1) σ') (h : ∀ R : St → Prop, R σ' → stepT P g ds fz wr av i o σ R := by intro R hR; simp only [go_sem, reduceIte, reduceCtorEq, Nat.reduceAdd, Nat.reduceEqDiff, Nat.reduceLeDiff, Nat.reduceLT, Nat.reduceSub, Int.reduceLE, Int.reduceNeg, Int.reduceLT, Nat.reduceMul, Nat.reduceBEq]; first | exact hR | exact ⟨by omega, hR⟩) : qL P g ds fz wr av K (o :: r) i σ := h _ k
theorem qE {B : Prop} (k : B) (h : B → K σ := by intro h; (repeat with_reducible (first | refine EThen_n ?_ | refine EThen_r ?_ | refine EThen_e ?_ | refine EBlock_n ?_ | refine EBlock_r ?_ | refine EBlock_e ?_ | refine EBlock_o (by decide) ?_ | refine AW.seqX ?_ | refine AW.block ?_ | refine AW.skip ?_ | refine AW.exit ?_ | refine AW.ret ?_)); exact h) : qL P g ds fz wr av K [] i σ := h k
theorem qU (t : Nat) (k : qL P g ds fz wr av K r i σ) (h : σ.s t = .undef := by (simp only [go_sem, reduceIte, reduceCtorEq, Nat.reduceAdd, Nat.reduceEqDiff, Nat.reduceLeDiff, Nat.reduceLT, Nat.reduceSub, Int.reduceLE, Int.reduceNeg, Int.reduceLT, Nat.reduceMul, Nat.reduceBEq] <;> fail)) : qL P g ds fz wr av K r i σ := k
theorem qS (t : Nat) {b : Bool} {B1 B0 : Prop} (h1 : B1 → qL P g ds fz wr av K r i ⟨upd σ.s t (.d (.bool true)), σ.C⟩) (h0 : B0 → qL P g ds fz wr av K r i ⟨upd σ.s t (.d (.bool false)), σ.C⟩) (hb : σ.s t = .d (.bool b) := by simp only [go_sem, reduceIte, reduceCtorEq, Nat.reduceAdd, Nat.reduceEqDiff, Nat.reduceLeDiff, Nat.reduceLT, Nat.reduceSub, Int.reduceLE, Int.reduceNeg, Int.reduceLT, Nat.reduceMul, Nat.reduceBEq] <;> rfl)
    (e1 : (b = true) = B1 := by first | (conv => lhs; simp only [decide_eq_true_eq, decide_eq_false_iff_not, Bool.not_eq_true', Bool.not_eq_false', Bool.and_eq_true, Bool.or_eq_true, Bool.or_eq_false_iff, beq_iff_eq, Int.not_le, Int.not_lt, Nat.not_le, Nat.not_lt]) | exact rfl) (e0 : (b = false) = B0 := by first | (conv => lhs; simp only [decide_eq_true_eq, decide_eq_false_iff_not, Bool.not_eq_true', Bool.not_eq_false', Bool.and_eq_true, Bool.or_eq_true, Bool.or_eq_false_iff, beq_iff_eq, Int.not_le, Int.not_lt, Nat.not_le, Nat.not_lt]) | exact rfl) : qL P g ds fz wr av K r i σ :=
  qL_split t hb (fun h => h1 (e1 ▸ h)) (fun h => h0 (e0 ▸ h))
end
section
variable {Γ : Ctx} {g : Nat} {σ : St} {Q : Exit → Nat → St → Prop}
theorem atR (id : Nat) {ops : Array Oper} {d : Bool} (h : AW Γ (.region id ops d) g σ Q) : AW Γ (.region id ops d) g σ Q := h
theorem atC (t : Nat) {x y : Code} (h : AW Γ (.cond (.tmp t) x y) g σ Q) : AW Γ (.cond (.tmp t) x y) g σ Q := h
theorem rg (id : Nat) {ops : List Oper} (fz : List Nat) (ds : List (Option Tmp)) (n : Nat) (h : qL Γ.P g ds (fun i => fz.contains i) (fun _ _ => True) (fun _ _ => False) (Q .normal (g + n)) ops 0 σ)
    (hds : ops.map (·.dst) = ds := by exact rfl) (hn : ops.length = n := by exact rfl) (hd : dstOk Γ.T ops = true := by exact rfl) : AW Γ (.region id ops.toArray false) g σ Q := by
  subst hn
  exact AW.regionL fz ds hds hd h
theorem rgD (id : Nat) {ops : List Oper} (fz : List Nat) (ds : List (Option Tmp)) (n : Nat) (F : Nat)
    (h : ∀ (av : Nat → Nat → Prop), av = avO ops F g (fun _ => []) → qL Γ.P g ds (fun i => fz.contains i) (wrO (fun _ => [])) av (Q .normal (g + n)) ops 0 σ)
    (hds : ops.map (·.dst) = ds := by exact rfl) (hn : ops.length = n := by exact rfl) (hm : Γ.P.follows .mixedOrders = true := by kernel_rfl) (hd : dstOk Γ.T ops = true := by exact rfl) (hD : drawOk Γ.P F ops = true := by kernel_rfl) : AW Γ (.region id ops.toArray true) g σ Q := by
  subst hn
  exact AW.regionAnyL fz ds hds F (fun _ => []) hm hd hD (h _ rfl)
theorem cn (t : Nat) {x y : Code} {b : Bool} {B1 B0 : Prop} (h1 : B1 → AW Γ x g σ Q) (h0 : B0 → AW Γ y g σ Q) (hb : σ.s t = .d (.bool b) := by simp only [go_sem, reduceIte, reduceCtorEq, Nat.reduceAdd, Nat.reduceEqDiff, Nat.reduceLeDiff, Nat.reduceLT, Nat.reduceSub, Int.reduceLE, Int.reduceNeg, Int.reduceLT, Nat.reduceMul, Nat.reduceBEq] <;> rfl)
    (e1 : (b = true) = B1 := by first | (conv => lhs; simp only [decide_eq_true_eq, decide_eq_false_iff_not, Bool.not_eq_true', Bool.not_eq_false', Bool.and_eq_true, Bool.or_eq_true, Bool.or_eq_false_iff, beq_iff_eq, Int.not_le, Int.not_lt, Nat.not_le, Nat.not_lt]) | exact rfl) (e0 : (b = false) = B0 := by first | (conv => lhs; simp only [decide_eq_true_eq, decide_eq_false_iff_not, Bool.not_eq_true', Bool.not_eq_false', Bool.and_eq_true, Bool.or_eq_true, Bool.or_eq_false_iff, beq_iff_eq, Int.not_le, Int.not_lt, Nat.not_le, Nat.not_lt]) | exact rfl) : AW Γ (.cond (.tmp t) x y) g σ Q :=
  AW.cond hb (fun h => h1 (e1 ▸ h)) (fun h => h0 (e0 ▸ h))
end
theorem freeD {ops : List Oper} {F g : Nat} {av : Nat → Nat → Prop} (k : Nat) (hav : av = avO ops F g (fun _ => [])) (hk : k < g := by decide) : ∀ i, av i k = False := fun i => eq_false (by rw [hav]; exact avO_free (fun _ => by simp) hk)
theorem vd {τ : Nat → Nat} {V : Nat → Bool} {s : Nat → X} {t : Nat} {y : D} {l : List (Nat × X)} (hl : vwL τ V s l) (h : s t = .d y := by simp only [go_sem, reduceIte, reduceCtorEq, Nat.reduceAdd, Nat.reduceEqDiff, Nat.reduceLeDiff, Nat.reduceLT, Nat.reduceSub, Int.reduceLE, Int.reduceNeg, Int.reduceLT, Nat.reduceMul, Nat.reduceBEq, X.ren, tauL] <;> rfl) : vwL τ V s ((t, .d y) :: l) := vw_d h hl
theorem vx {τ : Nat → Nat} {V : Nat → Bool} {s : Nat → X} {t : Nat} {y : X} {l : List (Nat × X)} (hl : vwL τ V s l) (ho : y.on V = true := by first | rfl | simp [X.on]) (h : s t = y.ren τ := by simp only [go_sem, reduceIte, reduceCtorEq, Nat.reduceAdd, Nat.reduceEqDiff, Nat.reduceLeDiff, Nat.reduceLT, Nat.reduceSub, Int.reduceLE, Int.reduceNeg, Int.reduceLT, Nat.reduceMul, Nat.reduceBEq, X.ren, tauL] <;> rfl) : vwL τ V s ((t, y) :: l) := vw_x h ho hl
theorem vU {Γ : Ctx} {e q g' : Nat} (hU : ∀ n, Γ.U0 n → n < e ∧ n ≠ q) (hg : e ≤ g' := by decide) : ∀ n, Γ.U0 n → n < g' ∧ tauL [] n = n := fun n hn => ⟨Nat.lt_of_lt_of_le (hU n hn).1 hg, rfl⟩
end Go.Proofs.YtkbnkcdaiahoeaaDoor
