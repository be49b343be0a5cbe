/- Contracts of functions that look at an own row and hand back a new one. No condition. -/
import Derived.Test.YtkbnkcdaiahoeaaDoorAxH
namespace Go.Proofs.YtkbnkcdaiahoeaaDoor
open Go Go.RowKit
set_option linter.unusedVariables false
set_option linter.unusedSimpArgs false
/-- Called with an own row (name 0), that stays as it is, f hands back a new one. -/
def FunO (P : Program) (f : FuncId) (c : Cap) (k n : Nat) (ys : List X) (mk : Nat → X) (c' : Cap) : Prop := Spec P f (.vec 0 k 0 n :: ys) [(0, c)] 1 fun x δ => x = mk 1 ∧ δ = [(1, some c')]
theorem call_o {P : Program} {f : FuncId} {ys : List X} {ty ty' : TypeId} {k k' n : Nat} {es es' : List (List D)} {mk : Nat → X} (h : FunO P f (.vec ty k es) k n ys mk (.vec ty' k' es'))
    (hys : X.onL (fun _ => false) ys = true) (hmk : ∀ τ : Nat → Nat, (mk 1).ren τ = mk (τ 1)) {a m : Nat} (ham : a ≠ m) {wr av : Nat → Prop} {C : Caps} {xs : List X} (hCa : C a = some (.vec ty k es)) (hw : wr a) (hv : ¬ av a) (ha : aArgs av C [] xs (.vec a k 0 n :: ys)) {K : X → Del → Prop} (hK : K (mk m) [(m, some (.vec ty' k' es'))]) : aCall P m wr av C f xs K := by
  have h' := Spec.ren h (fun n => decide (n < 2)) (fun n => if n = 0 then a else m) (fun n k hn hk he => by
    simp at hn hk
    by_cases a1 : n = 0 <;> by_cases a2 : k = 0
    · omega
    · simp [a1, a2] at he; exact absurd he ham
    · simp [a1, a2] at he; exact absurd he.symm ham
    · omega) (by decide) (by
      simp only [X.onL, X.on, Bool.and_eq_true]
      exact ⟨by decide, (onL_mono (V := fun _ => false) (fun n h => by simp at h)).2 ys hys⟩) (by simp [Cap.on]) (fun x δ ⟨_, hδ⟩ p hp => by
      subst hδ; simp at hp; subst hp; exact .inl rfl)
  have e1 : X.renL (fun n => if n = 0 then a else m) (.vec 0 k 0 n :: ys) = .vec a k 0 n :: ys := by
    simp only [X.renL, X.ren, if_true]
    rw [(renL_on _ (fun _ => false) (fun n h => by simp at h)).2 ys hys]
  rw [e1] at h'
  have e2 : renPre (fun n => if n = 0 then a else m) [(0, Cap.vec ty k es)] = [(a, .vec ty k es)] := by simp [renPre, Cap.ren]
  rw [e2] at h'
  simp only [Nat.one_ne_zero, if_false] at h'
  refine ⟨_, _, _, [], ha, h', fun p hp => by simp at hp; subst hp; exact ⟨hCa, hw, hv⟩, ⟨_, _, _, _, ⟨rfl, rfl⟩, rfl, rfl⟩, fun h => absurd rfl h, ?_⟩
  rintro x δ ⟨x0, δ0, ⟨rfl, rfl⟩, rfl, rfl⟩
  refine ⟨fun h => absurd rfl h, fun p hp => ?_, ?_⟩
  · simp [renDel] at hp
    subst hp
    exact .inl rfl
  · simpa [hmk, renDel, Cap.ren] using hK
theorem ret_o {Γ : Ctx} {rs : List ResultVar} {g g' : Nat} {σ σ' : St} {ty0 ty : TypeId} {k0 k : Nat} {es0 es : List (List D)} {x : X} (xs : List X) (hv : Vw Γ g σ g' σ') (hC0 : σ'.C 0 = some (.vec ty0 k0 es0)) (hC : σ'.C 1 = some (.vec ty k es)) (h2 : resOk Γ.P σ' rs xs) (h3 : X.onL (fun n => n == 1) xs = true) (hx : one xs = x) :
    ERet Γ rs [(0, .vec ty0 k0 es0)] 1 (fun y δ => y = x ∧ δ = [(1, some (.vec ty k es))]) .ret g σ := by
  refine ⟨g', σ', hv, [(1, some (.vec ty k es))], xs, fun n hn => ?_, h2, ?_, hx, rfl⟩
  · simp only [List.map_cons, List.map_nil, List.cons_append, List.nil_append, List.mem_cons, List.not_mem_nil, or_false] at hn
    refine ⟨?_, fun c hc => ?_⟩
    · rcases hn with rfl | rfl
      · exact .inr (by simp)
      · exact .inl rfl
    · rcases hn with rfl | rfl
      · simp [app, upd, capsOf] at hc
        subst hc
        exact ⟨hC0, rfl⟩
      · simp [app, upd] at hc
        subst hc
        exact ⟨hC, rfl⟩
  · refine (onL_mono (V := fun n => n == 1) (fun n h => ?_)).2 xs h3
    simp at h
    subst h
    simp
end Go.Proofs.YtkbnkcdaiahoeaaDoor
