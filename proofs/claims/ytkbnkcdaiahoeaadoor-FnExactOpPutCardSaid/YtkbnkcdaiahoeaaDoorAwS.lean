/- The judgement over code: regions, tests, blocks, loops. No condition. -/
import Derived.Test.YtkbnkcdaiahoeaaDoorAwR
import Derived.Control
namespace Go.Proofs.YtkbnkcdaiahoeaaDoor
open Go Go.RowKit
set_option linter.unusedVariables false
set_option linter.unusedSimpArgs false

/-- What an exit leaves; 'g': names from there on are free. -/
def AX (Γ : Ctx) (Q : Exit → Nat → St → Prop) (e : Exit) (a : Act) (w : World) : Prop := ∃ g σ U, Q e g σ ∧ (∀ n, U n → n < g) ∧ Inv Γ U σ a w
def AW (Γ : Ctx) (c : Code) (g : Nat) (σ : St) (Q : Exit → Nat → St → Prop) : Prop := ∀ U a w, (∀ n, U n → n < g) → Inv Γ U σ a w → c.wp Γ.P (AX Γ Q) a w
def EThen (K : Nat → St → Prop) (Q : Exit → Nat → St → Prop) : Exit → Nat → St → Prop
  | .normal, g, σ => K g σ
  | e, g, σ => Q e g σ
def EBlock (id : Nat) (Q : Exit → Nat → St → Prop) : Exit → Nat → St → Prop
  | .exit id', g, σ => if id' = id then Q .normal g σ else Q (.exit id') g σ
  | e, g, σ => Q e g σ

section
variable {Γ : Ctx} {g : Nat} {σ : St} {Q : Exit → Nat → St → Prop}

theorem AW.mono {c : Code} {Q' : Exit → Nat → St → Prop} (h : AW Γ c g σ Q) (hq : ∀ e g σ, Q e g σ → Q' e g σ) : AW Γ c g σ Q' :=
  fun U a w hu hI => wp_mono (h U a w hu hI) fun e a' w' ⟨g', σ', U', h1, h2⟩ => ⟨g', σ', U', hq _ _ _ h1, h2⟩
theorem AW.skip (h : Q .normal g σ) : AW Γ .skip g σ Q := fun U a w hu hI => wp_skip ⟨g, σ, U, h, hu, hI⟩
theorem AW.exit {id : Nat} (h : Q (.exit id) g σ) : AW Γ (.exit id) g σ Q := fun U a w hu hI => wp_exit ⟨g, σ, U, h, hu, hI⟩
theorem AW.ret (h : Q .ret g σ) : AW Γ .ret g σ Q := fun U a w hu hI => wp_ret ⟨g, σ, U, h, hu, hI⟩
theorem AW.seq {x y : Code} (h : AW Γ x g σ (EThen (fun g σ => AW Γ y g σ Q) Q)) : AW Γ (.seq x y) g σ Q := fun U a w hu hI =>
  wp_seq (wp_mono (h U a w hu hI) fun e a' w' ⟨g', σ', U', h1, h2, h3⟩ => by
    cases e <;> first | exact h1 U' a' w' h2 h3 | exact ⟨g', σ', U', h1, h2, h3⟩)
theorem AW.block {id : Nat} {c : Code} (h : AW Γ c g σ (EBlock id Q)) : AW Γ (.block id c) g σ Q := fun U a w hu hI =>
  wp_block (wp_mono (h U a w hu hI) fun e a' w' ⟨g', σ', U', h1, h2, h3⟩ => by
    cases e with
    | exit id' =>
      simp only [EBlock] at h1
      simp only [Exit.inBlock]
      split
      · rename_i hh; rw [if_pos hh] at h1; exact ⟨g', σ', U', h1, h2, h3⟩
      · rename_i hh; rw [if_neg hh] at h1; exact ⟨g', σ', U', h1, h2, h3⟩
    | _ => exact ⟨g', σ', U', h1, h2, h3⟩)
theorem AW.cond {c : Operand} {x y : Code} {b : Bool} (hb : ev σ.s c = .d (.bool b)) (ht : b = true → AW Γ x g σ Q) (hf : b = false → AW Γ y g σ Q) : AW Γ (.cond c x y) g σ Q := fun U a w hu hI => by
  obtain ⟨ι, L, hW, hs, -⟩ := hI.mem
  have h := ev_rel hW.glob hs c
  rw [hb] at h
  exact wp_cond_split h.bool_inv (fun h => ht h U a w hu hI) (fun h => hf h U a w hu hI)
theorem AW.region {id : Nat} {ops : Array Oper} {fz : Nat → Bool} (hd : dstOk Γ.T ops.toList = true)
    (h : qi Γ.P g (ops.toList.map (·.dst)) fz (fun _ _ => True) (fun _ _ => False) ops.toList (Q .normal (g + ops.size)) (List.range ops.size) σ) : AW Γ (.region id ops false) g σ Q := fun U a w hu hI =>
  wp_region (qi_sound hd _ List.nodup_range (fun i hi hU => by have := hu _ hU; omega) hI h fun σ' U' a' w' hk hu' hI' => ⟨_, σ', U', hk, fun n hn => by
    rcases hu' n hn with h | ⟨i, hi, rfl⟩
    · have := hu n h; omega
    · have := List.mem_range.1 hi; omega, hI'⟩)

theorem Inv.drew {U : Nat → Prop} {a : Act} {w : World} (h : Inv Γ U σ a w) : Inv Γ U σ a { w with drawn := w.drawn + 1 } := by
  obtain ⟨h1, h2, h0, ι, L, hW, hs, he, hf, hu⟩ := h
  refine ⟨h1, h2, h0, ι, L, hW.grow (fun _ _ => rfl) (fun _ h => h) (Evo.drew L w) (fun n hn hl => ⟨rfl, hW.lim n hn hl⟩), fun t => (hs t).mono (fun _ _ => rfl) (fun _ h => h) (Evo.drew L w).stab, he.trans (Evo.drew L w), ⟨hf.same, hf.orig⟩, hu⟩
theorem AW.regionAny {id : Nat} {ops : Array Oper} {fz : Nat → Bool} (F : Nat) (W : Nat → List Nat) (hm : Γ.P.follows .mixedOrders = true) (hd : dstOk Γ.T ops.toList = true) (hD : drawOk Γ.P F ops.toList = true)
    (h : qi Γ.P g (ops.toList.map (·.dst)) fz (wrO W) (avO ops.toList F g W) ops.toList (Q .normal (g + ops.size)) (List.range ops.size) σ) : AW Γ (.region id ops true) g σ Q := fun U a w hu hI =>
  wp_region_any hm (any_sound (drawOk_spec hD) hd ops.size _ (List.range ops.size) (by simp) List.pairwise_lt_range (fun i => by
      rw [List.mem_range]
      by_cases hi : i < ops.size <;> simp [hi]) (fun i o ho hi p hp => absurd (List.mem_range.2 (Array.getElem?_eq_some_iff.1 ho).1) hi) (fun i hi hU => by have := hu _ hU; omega) (by simp) hI.drew h
    fun σ' U' a' w' hk hu' hI' => ⟨_, σ', U', hk, fun n hn => by
      rcases hu' n hn with h | ⟨i, hi, rfl⟩
      · have := hu n h; omega
      · have := List.mem_range.1 hi; omega, hI'⟩)

open Classical in
/-- Rounds: in front of each the state is one of 'st', and the measure falls. -/
theorem AW.loop {c : Code} {α : Type} (J : α → Prop) (st : α → St) (μ : α → Nat) (G : Nat)
    (h0 : ∀ U a w, (∀ n, U n → n < g) → Inv Γ U σ a w → ∃ p, J p ∧ ∃ U', (∀ n, U' n → n < G) ∧ Inv Γ U' (st p) a w)
    (round : ∀ p, J p → AW Γ c G (st p) (EThen (fun g' σ' => ∀ U a w, (∀ n, U n → n < g') → Inv Γ U σ' a w → ∃ p', J p' ∧ μ p' < μ p ∧ ∃ U', (∀ n, U' n → n < G) ∧ Inv Γ U' (st p') a w) Q)) : AW Γ (.loop c) g σ Q := fun U a w hu hI => by
  let H : Act → World → Nat → Prop := fun a w k => ∃ p, J p ∧ μ p = k ∧ ∃ U', (∀ n, U' n → n < G) ∧ Inv Γ U' (st p) a w
  have key : ∀ a w, (∃ k, H a w k) → ∃ k, H a w k ∧ ∀ j, H a w j → k ≤ j := by
    intro a w ⟨k, hk⟩
    induction k using Nat.strongRecOn with
    | _ k ih =>
      by_cases hh : ∃ j, j < k ∧ H a w j
      · obtain ⟨j, hj, hj'⟩ := hh; exact ih j hj hj'
      · exact ⟨k, hk, fun j hj => Nat.le_of_not_lt fun h => hh ⟨j, h, hj⟩⟩
  let M : Act → World → Nat := fun a w => if h : ∃ k, H a w k then Classical.choose (key a w h) else 0
  have hM : ∀ a w, (∃ k, H a w k) → H a w (M a w) ∧ ∀ j, H a w j → M a w ≤ j := by
    intro a w h
    have := Classical.choose_spec (key a w h)
    simp only [M, dif_pos h]
    exact this
  refine wp_loop (I := fun a w => ∃ k, H a w k) (μ := M) ?_ ?_
  · obtain ⟨p, hJ, U', hu', hI'⟩ := h0 U a w hu hI
    exact ⟨_, p, hJ, rfl, U', hu', hI'⟩
  · intro a w h
    obtain ⟨⟨p, hJ, hp, U', hu', hI'⟩, -⟩ := hM a w h
    refine wp_mono (round p hJ U' a w hu' hI') ?_
    rintro e a' w' ⟨g', σ', V, h1, h2, h3⟩
    cases e with
    | normal =>
      obtain ⟨p', hJ', hlt, V', hv', hI''⟩ := h1 V a' w' h2 h3
      have hx : H a' w' (μ p') := ⟨p', hJ', rfl, V', hv', hI''⟩
      refine ⟨⟨_, hx⟩, ?_⟩
      have := (hM a' w' ⟨_, hx⟩).2 _ hx
      omega
    | _ => exact ⟨g', σ', V, h1, h2, h3⟩
end
end Go.Proofs.YtkbnkcdaiahoeaaDoor
