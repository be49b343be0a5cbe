/- Small words for own rows: lent, handed back. No condition. -/
import Derived.Test.YtkbnkcdaiahoeaaDoorAxC
namespace Go.Proofs.YtkbnkcdaiahoeaaDoor
open Go Go.RowKit
set_option linter.unusedVariables false
theorem lend_of {av : Nat → Prop} {C : Caps} {bor : List Nat} {n k len : Nat} {ty : TypeId} {es : List (List D)} (hb : n ∈ bor) (ha : ¬ av n) (hC : C n = some (.vec ty k es)) (hl : len = es.length) : aLend av C bor (.vec n k 0 len) (.d (.sl es)) := by
  subst hl
  refine ⟨hb, ha, ?_⟩
  rw [hC]
  exact ⟨rfl, by simp, .inl (by simp)⟩
theorem lend_sp {av : Nat → Prop} {C : Caps} {bor : List Nat} {n k len : Nat} {ty : TypeId} {es : List (List D)} (hb : n ∈ bor) (ha : ¬ av n) (hC : C n = some (.vec ty k es)) (hl : len ≤ es.length) : aLend av C bor (.vec n k 0 len) (.d (.sp len es)) := by
  refine ⟨hb, ha, ?_⟩
  rw [hC]
  exact ⟨rfl, by omega, .inr ⟨rfl, rfl⟩⟩
theorem lend_take {av : Nat → Prop} {C : Caps} {bor : List Nat} {n k len : Nat} {ty : TypeId} {es es' : List (List D)} (hb : n ∈ bor) (ha : ¬ av n) (hC : C n = some (.vec ty k es)) (hl : len ≤ es.length) (he : es.take len = es') : aLend av C bor (.vec n k 0 len) (.d (.sl es')) := by
  subst he
  refine ⟨hb, ha, ?_⟩
  rw [hC]
  exact ⟨rfl, by omega, .inl (by simp)⟩
/-- nil handed back as an empty row. -/
theorem ret_nilrow {Γ : Ctx} {t : Tmp} {g : Nat} {σ : St} (ty : TypeId) (k : Nat) (hU : ∀ n, Γ.U0 n → n < 1 ∧ n ≠ 0) (h : σ.s t = .nil) : ERet Γ [.tmp t] [] 0 (fun x δ => x = .vec 0 k 0 0 ∧ δ = [(0, some (.vec ty k []))]) .ret g σ := by
  have h1 := Vw.own (Γ := Γ) (g := g) (σ := σ) ty k [t] (by intro t' ht; simp at ht; subst ht; exact h)
  have h2 := Vw.to (Γ := Γ) (g := g + 1) (g' := 1) (σ := ⟨fun t' => if [t].contains t' then .vec g k 0 0 else σ.s t', upd σ.C g (some (.vec ty k []))⟩) [(0, g)] [(t, .vec 0 k 0 0)] [(0, .vec ty k [])] (fun n hn => absurd (hU n hn) (by omega))
    (vw_x (by simp [X.ren, tauL]) rfl trivial) ⟨⟨by omega, rfl, by simp [tauL, Cap.ren, upd]⟩, trivial⟩ (by simp [tauL])
  refine ret_row [.vec 0 k 0 0] (h1.trans h2) (by simp [St.by, lookC]) ⟨by simp [St.by, look], trivial⟩ rfl rfl
/-- An own row handed back. -/
theorem ret_vec {Γ : Ctx} {t : Tmp} {g : Nat} {σ : St} (n : Nat) {ty : TypeId} {k len : Nat} {es : List (List D)} (hU : ∀ n, Γ.U0 n → n < 1 ∧ n ≠ 0) (h : σ.s t = .vec n k 0 len) (hC : σ.C n = some (.vec ty k es)) :
    ERet Γ [.tmp t] [] 0 (fun x δ => x = .vec 0 k 0 len ∧ δ = [(0, some (.vec ty k es))]) .ret g σ := by
  have h2 := Vw.to (Γ := Γ) (g := g) (g' := 1) (σ := σ) [(0, n)] [(t, .vec 0 k 0 len)] [(0, .vec ty k es)] (fun n hn => absurd (hU n hn) (by omega))
    (vw_x (by simp [X.ren, tauL, h]) rfl trivial) ⟨⟨by omega, rfl, by simp [tauL, Cap.ren, hC]⟩, trivial⟩ (by simp [tauL])
  refine ret_row [.vec 0 k 0 len] h2 (by simp [St.by, lookC]) ⟨by simp [St.by, look], trivial⟩ rfl rfl
/-- An own row handed back in the place of one that came in. -/
theorem ret_mv {Γ : Ctx} {t : Tmp} {g : Nat} {σ : St} (r : Nat) {c0 : Cap} {ty : TypeId} {k len : Nat} {es : List (List D)} (hU : ∀ n, Γ.U0 n → n < 2 ∧ n ≠ 1) (h : σ.s t = .vec r k 0 len) (hC : σ.C r = some (.vec ty k es)) :
    ERet Γ [.tmp t] [(0, c0)] 1 (fun x δ => x = .vec 1 k 0 len ∧ δ = [(0, none), (1, some (.vec ty k es))]) .ret g σ := by
  have h2 := Vw.to (Γ := Γ) (g := g) (g' := 2) (σ := σ) [(1, r)] [(t, .vec 1 k 0 len)] [(1, .vec ty k es)] (fun n hn => by
      have := hU n hn
      have h0 : n = 0 := by omega
      subst h0
      exact ⟨by omega, rfl⟩)
    (vw_x (by simp [X.ren, tauL, h]) rfl trivial) ⟨⟨by omega, rfl, by simp [tauL, Cap.ren, hC]⟩, trivial⟩ (by simp [tauL])
  refine ⟨2, _, h2, [(0, none), (1, some (.vec ty k es))], [.vec 1 k 0 len], fun n hn => ?_, ⟨by simp [St.by, look], trivial⟩, rfl, rfl, rfl⟩
  simp only [List.map_cons, List.map_nil, List.cons_append, List.nil_append, List.mem_cons, List.not_mem_nil, or_false] at hn
  refine ⟨?_, fun c hc => ?_⟩
  · rcases hn with rfl | rfl | rfl
    · exact .inr (by simp)
    · exact .inr (by simp)
    · exact .inl rfl
  · rcases hn with rfl | rfl | rfl
    · simp [app, upd] at hc
    · simp [app, upd] at hc
    · simp [app, upd] at hc
      subst hc
      exact ⟨by simp [St.by, lookC], rfl⟩
/-- A call that takes an own row and hands one back in its place. -/
theorem call_mv {P : Program} {f : FuncId} {ys : List X} {ty ty' : TypeId} {k k' n n' : Nat} {es es' : List (List D)} (h : Spec P f (.vec 0 k 0 n :: ys) [(0, .vec ty k es)] 1 (fun x δ => x = .vec 1 k' 0 n' ∧ δ = [(0, none), (1, some (.vec ty' k' es'))]))
    (hys : X.onL (fun _ => false) ys = true) {a m : Nat} (ham : a ≠ m) {wr av : Nat → Prop} {C : Caps} {xs : List X} (hCa : C a = some (.vec ty k es)) (hw : wr a) (hv : ¬ av a) (ha : aArgs av C [] xs (.vec a k 0 n :: ys)) {K : X → Del → Prop} (hK : K (.vec m k' 0 n') [(a, none), (m, some (.vec ty' k' es'))]) : aCall P m wr av C f xs K := by
  have h' := h.ren (fun n => decide (n < 2)) (fun n => if n = 0 then a else m) (fun n k hn hk he => by
    simp at hn hk
    by_cases a1 : n = 0 <;> by_cases a2 : k = 0
    · omega
    · simp [a1, a2] at he; exact absurd he ham
    · simp [a1, a2] at he; exact absurd he.symm ham
    · omega) (by decide) (by
      simp only [X.onL, X.on, Bool.and_eq_true]
      exact ⟨by decide, (onL_mono (V := fun _ => false) (fun n h => by simp at h)).2 ys hys⟩) (by simp [Cap.on]) (fun x δ ⟨_, hδ⟩ p hp => by
      subst hδ; simp at hp; rcases hp with rfl | rfl
      · exact .inr (by simp)
      · exact .inl rfl)
  have e1 : X.renL (fun n => if n = 0 then a else m) (.vec 0 k 0 n :: ys) = .vec a k 0 n :: ys := by
    simp only [X.renL, X.ren, if_true]
    rw [(renL_on _ (fun _ => false) (fun n h => by simp at h)).2 ys hys]
  rw [e1] at h'
  have e2 : renPre (fun n => if n = 0 then a else m) [(0, Cap.vec ty k es)] = [(a, .vec ty k es)] := by simp [renPre, Cap.ren]
  rw [e2] at h'
  simp only [Nat.one_ne_zero, if_false] at h'
  refine ⟨_, _, _, [], ha, h', fun p hp => by simp at hp; subst hp; exact ⟨hCa, hw, hv⟩, ⟨_, _, _, _, ⟨rfl, rfl⟩, rfl, rfl⟩, fun h => absurd rfl h, ?_⟩
  rintro x δ ⟨x0, δ0, ⟨rfl, rfl⟩, rfl, rfl⟩
  refine ⟨fun h => absurd rfl h, fun p hp => ?_, ?_⟩
  · simp [renDel] at hp
    rcases hp with rfl | rfl
    · exact .inr (by simp)
    · exact .inl rfl
  · simpa [X.ren, renDel, Cap.ren] using hK
/-- A row put in at a place of an own row: slices.Insert. -/
theorem call_ins {P : Program} {f : FuncId} {ty : TypeId} {es es' : List (List D)} {s : List (List D)} {i n n' : Nat} (h : Spec P f [.vec 0 1 0 n, .d (.int .i64 i), .vec 2 1 0 1] [(0, .vec ty 1 es), (2, .vec ty 1 s)] 1 (fun x δ => x = .vec 1 1 0 n' ∧ δ = [(0, none), (1, some (.vec ty 1 es'))]))
    {a b m : Nat} (ham : a ≠ m) (hbm : b ≠ m) (hab : a ≠ b) {wr av : Nat → Prop} {C : Caps} {xs : List X} (hCa : C a = some (.vec ty 1 es)) (hCb : C b = some (.vec ty 1 s)) (hw : wr a) (hv : ¬ av a) (hwb : wr b) (hvb : ¬ av b) (ha : aArgs av C [] xs [.vec a 1 0 n, .d (.int .i64 i), .vec b 1 0 1]) {K : X → Del → Prop} (hK : K (.vec m 1 0 n') [(a, none), (m, some (.vec ty 1 es'))]) : aCall P m wr av C f xs K := by
  have h' := h.ren (fun n => decide (n < 3)) (fun n => if n = 0 then a else if n = 1 then m else b) (fun n k hn hk he => by
    simp at hn hk
    match n, k, hn, hk with
    | 0, 0, _, _ | 1, 1, _, _ | 2, 2, _, _ => rfl
    | 0, 1, _, _ => simp at he; exact absurd he ham
    | 0, 2, _, _ => simp at he; exact absurd he hab
    | 1, 0, _, _ => simp at he; exact absurd he.symm ham
    | 1, 2, _, _ => simp at he; exact absurd he.symm hbm
    | 2, 0, _, _ => simp at he; exact absurd he.symm hab
    | 2, 1, _, _ => simp at he; exact absurd he hbm) (by decide) (by simp [X.onL, X.on]) (by simp [Cap.on]) (fun x δ ⟨_, hδ⟩ p hp => by
      subst hδ; simp at hp; rcases hp with rfl | rfl
      · exact .inr (by simp)
      · exact .inl rfl)
  have e1 : X.renL (fun n => if n = 0 then a else if n = 1 then m else b) [.vec 0 1 0 n, .d (.int .i64 i), .vec 2 1 0 1] = [.vec a 1 0 n, .d (.int .i64 i), .vec b 1 0 1] := by simp [X.renL, X.ren]
  rw [e1] at h'
  have e2 : renPre (fun n => if n = 0 then a else if n = 1 then m else b) [(0, Cap.vec ty 1 es), (2, .vec ty 1 s)] = [(a, .vec ty 1 es), (b, .vec ty 1 s)] := by simp [renPre, Cap.ren]
  rw [e2] at h'
  simp only [Nat.one_ne_zero, if_false, if_true] at h'
  refine ⟨_, _, _, [], ha, h', fun p hp => ?_, ⟨_, _, _, _, ⟨rfl, rfl⟩, rfl, rfl⟩, fun h => absurd rfl h, ?_⟩
  · simp at hp
    rcases hp with rfl | rfl
    · exact ⟨hCa, hw, hv⟩
    · exact ⟨hCb, hwb, hvb⟩
  rintro x δ ⟨x0, δ0, ⟨rfl, rfl⟩, rfl, rfl⟩
  refine ⟨fun h => absurd rfl h, fun p hp => ?_, ?_⟩
  · simp [renDel] at hp
    rcases hp with rfl | rfl
    · exact .inr (by simp)
    · exact .inl rfl
  · simpa [X.ren, renDel, Cap.ren] using hK
end Go.Proofs.YtkbnkcdaiahoeaaDoor
