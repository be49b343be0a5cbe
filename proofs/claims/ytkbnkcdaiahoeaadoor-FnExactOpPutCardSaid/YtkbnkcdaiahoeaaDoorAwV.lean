/- Steps of a walk; functions that answer data. No condition. -/
import Derived.Test.YtkbnkcdaiahoeaaDoorAwU
namespace Go.Proofs.YtkbnkcdaiahoeaaDoor
open Go Go.RowKit
set_option linter.unusedVariables false
set_option linter.unusedSimpArgs false

/-! ### Steps of a walk -/
section
variable {Γ : Ctx} {g : Nat} {σ : St} {Q : Exit → Nat → St → Prop}
theorem AW.seqR (id : Nat) {ops : List Oper} {y : Code} (fz : List Nat) (ds : List (Option Tmp)) (n : Nat) (hds : ops.map (·.dst) = ds) (hn : ops.length = n) (hd : dstOk Γ.T ops = true)
    (h : ∀ K : St → Prop, (∀ σ', AW Γ y (g + n) σ' Q → K σ') → qL Γ.P g ds (fun i => fz.contains i) (fun _ _ => True) (fun _ _ => False) K ops 0 σ) : AW Γ (.seq (.region id ops.toArray false) y) g σ Q := by
  subst hn
  refine AW.seq (AW.regionL fz ds hds hd ?_)
  exact h _ fun σ' h => h
theorem AW.endR (id : Nat) {ops : List Oper} (fz : List Nat) (ds : List (Option Tmp)) (n : Nat) (hds : ops.map (·.dst) = ds) (hn : ops.length = n) (hd : dstOk Γ.T ops = true)
    (h : ∀ K : St → Prop, (∀ σ', Q .normal (g + n) σ' → K σ') → qL Γ.P g ds (fun i => fz.contains i) (fun _ _ => True) (fun _ _ => False) K ops 0 σ) : AW Γ (.region id ops.toArray false) g σ Q := by
  subst hn
  refine AW.regionL fz ds hds hd ?_
  exact h _ fun σ' h => h
theorem AW.seqD (id : Nat) {ops : List Oper} {y : Code} (fz : List Nat) (ds : List (Option Tmp)) (n : Nat) (F : Nat) (W : Nat → List Nat) (hds : ops.map (·.dst) = ds) (hn : ops.length = n) (hm : Γ.P.follows .mixedOrders = true) (hd : dstOk Γ.T ops = true) (hD : drawOk Γ.P F ops = true)
    (h : ∀ K : St → Prop, (∀ σ', AW Γ y (g + n) σ' Q → K σ') → ∀ (av : Nat → Nat → Prop), av = avO ops F g W → qL Γ.P g ds (fun i => fz.contains i) (wrO W) av K ops 0 σ) : AW Γ (.seq (.region id ops.toArray true) y) g σ Q := by
  subst hn
  refine AW.seq (AW.regionAnyL fz ds hds F W hm hd hD ?_)
  exact h _ (fun σ' h => h) _ rfl
theorem AW.endD (id : Nat) {ops : List Oper} (fz : List Nat) (ds : List (Option Tmp)) (n : Nat) (F : Nat) (W : Nat → List Nat) (hds : ops.map (·.dst) = ds) (hn : ops.length = n) (hm : Γ.P.follows .mixedOrders = true) (hd : dstOk Γ.T ops = true) (hD : drawOk Γ.P F ops = true)
    (h : ∀ K : St → Prop, (∀ σ', Q .normal (g + n) σ' → K σ') → ∀ (av : Nat → Nat → Prop), av = avO ops F g W → qL Γ.P g ds (fun i => fz.contains i) (wrO W) av K ops 0 σ) : AW Γ (.region id ops.toArray true) g σ Q := by
  subst hn
  refine AW.regionAnyL fz ds hds F W hm hd hD ?_
  exact h _ (fun σ' h => h) _ rfl
theorem AW.seqX {x y : Code} (h : AW Γ x g σ (EThen (fun g σ => AW Γ y g σ Q) Q)) : AW Γ (.seq x y) g σ Q := AW.seq h
theorem AW.cnd (t : Nat) {x y : Code} {b : Bool} (hb : σ.s t = .d (.bool b)) (ht : b = true → AW Γ x g σ Q) (hf : b = false → AW Γ y g σ Q) : AW Γ (.cond (.tmp t) x y) g σ Q := AW.cond hb ht hf
theorem EThen_n {K : Nat → St → Prop} (h : K g σ) : EThen K Q .normal g σ := h
theorem EThen_r {K : Nat → St → Prop} (h : Q .ret g σ) : EThen K Q .ret g σ := h
theorem EThen_e {K : Nat → St → Prop} {id : Nat} (h : Q (.exit id) g σ) : EThen K Q (.exit id) g σ := h
theorem EBlock_n {id : Nat} (h : Q .normal g σ) : EBlock id Q .normal g σ := h
theorem EBlock_r {id : Nat} (h : Q .ret g σ) : EBlock id Q .ret g σ := h
theorem EBlock_e {id : Nat} (h : Q .normal g σ) : EBlock id Q (.exit id) g σ := by simpa [EBlock] using h
theorem EBlock_o {id id' : Nat} (hn : id' ≠ id) (h : Q (.exit id') g σ) : EBlock id Q (.exit id') g σ := by simpa [EBlock, hn] using h
end
/-- A test's outcome as a fact. -/
theorem St.split (t : Nat) {F : St → Prop} {σ : St} {b : Bool} (hb : σ.s t = .d (.bool b)) (h1 : b = true → F ⟨upd σ.s t (.d (.bool true)), σ.C⟩) (h2 : b = false → F ⟨upd σ.s t (.d (.bool false)), σ.C⟩) : F σ := by
  have e : ∀ c, b = c → (⟨upd σ.s t (.d (.bool c)), σ.C⟩ : St) = σ := by
    intro c hc
    have : upd σ.s t (.d (.bool c)) = σ.s := by
      funext j
      by_cases hj : j = t
      · subst hj; rw [upd_same, hb, hc]
      · rw [upd_other _ _ _ _ hj]
    rw [this]
  cases hbb : b with
  | true => have := h1 hbb; rwa [e true hbb] at this
  | false => have := h2 hbb; rwa [e false hbb] at this

/-! ### Calls of functions that answer data -/
theorem Spec.any {P : Program} {f : FuncId} {xs : List X} {Q : X → Del → Prop} (h : Spec P f xs [] 0 Q) (hx : X.onL (fun _ => false) xs = true) (hq : ∀ x δ, Q x δ → x.on (fun _ => false) = true ∧ δ = []) (m : Nat) : Spec P f xs [] m Q := by
  refine ⟨h.1, fun ι U L w us hW hm hl hr => ?_⟩
  have e1 : ∀ n, (fun _ : Nat => false) n = true → ι n = ι ((fun n => n) n) := fun n h => by simp at h
  have e2 : ∀ n, (fun _ : Nat => false) n = true → U ((fun n => n) n) → (fun _ : Nat => False) n := fun n h => by simp at h
  have hC : ∀ n, capsOf [] n = none := fun n => rfl
  refine (h.2 ι (fun _ => False) L w us ⟨fun n c hc => by simp [hC] at hc, fun n hn => absurd (hC n) hn, fun n m hn => absurd (hC n) hn, fun n hn => hn (hC n), hW.glob⟩ (fun h => h) hl (Rel.renL e1 e2 xs us (by rw [renL_id]; exact hr) hx)).mono ?_
  rintro e w' ⟨v, rfl, x, δ, ι1, L1, hQ, hrel, hW1, he, hi, hf⟩
  obtain ⟨hon, rfl⟩ := hq x δ hQ
  refine ⟨v, rfl, x, [], ι, L1, hQ, ?_, ⟨fun n c hc => by simp [app, hC] at hc, fun n hn => absurd (hC n) hn, fun n m hn => absurd (hC n) hn, fun n hn => absurd (hC n) hn, hW1.glob⟩, he, fun _ _ => rfl, ⟨fun b hb ho => hf.same b hb (fun n hn => absurd (hC n) hn), fun n hn => absurd (hC n) hn⟩⟩
  exact Rel.ren (τ := fun n => n) (V := fun _ => false) (fun n h => by simp at h) (fun n h => by simp at h) x v (by rw [ren_id]; exact hrel) hon
/-- Function f, called with data ys, answers y. -/
def Fun (P : Program) (f : FuncId) (ys : List X) (y : X) : Prop := ∀ m, Spec P f ys [] m fun x δ => x = y ∧ δ = []
theorem Fun.of {P : Program} {f : FuncId} {ys : List X} {y : X} (h : Spec P f ys [] 0 fun x δ => x = y ∧ δ = []) (hx : X.onL (fun _ => false) ys = true) (hy : y.on (fun _ => false) = true) : Fun P f ys y :=
  fun m => h.any hx (fun x δ ⟨h1, h2⟩ => ⟨h1 ▸ hy, h2⟩) m
theorem call_fun {P : Program} {f : FuncId} {ys : List X} {y : X} (h : Fun P f ys y) {m : Nat} {wr av : Nat → Prop} {C : Caps} {xs : List X} (bor : List Nat) (ha : aArgs av C bor xs ys) (hs : bor = [] ∨ y.free = true) {K : X → Del → Prop} (hK : K y []) : aCall P m wr av C f xs K :=
  ⟨ys, [], _, bor, ha, h m, fun p hp => by simp at hp, ⟨y, [], rfl, rfl⟩, fun _ => rfl, fun x δ ⟨h1, h2⟩ => ⟨fun hb => ⟨by rw [h1]; exact hs.resolve_left hb, by rw [h2]; rfl⟩, fun p hp => by rw [h2] at hp; simp at hp, by rw [h1, h2]; exact hK⟩⟩

/-! ### Words for evaluation -/
theorem wrap64 {n : Int} (h1 : -9223372036854775808 ≤ n) (h2 : n ≤ 9223372036854775807) : IntKind.i64.wrap n = n := by
  unfold IntKind.wrap
  simp [IntKind.min, IntKind.max, IntKind.bits, IntKind.signed]
  omega
/-- A slice of values, each laid out by f. -/
def D.of {α : Type} (f : α → List D) (l : List α) : D := .sl (l.map f)
theorem all_get_map {α : Type} {l : List α} {f : α → List D} {i : Nat} {Φ : List D → Prop} : (∀ c, (l.map f)[i]? = some c → Φ c) ↔ (∀ x, l[i]? = some x → Φ (f x)) := by
  rw [List.getElem?_map]
  cases l[i]? <;> simp
theorem qL_split (t : Nat) {P : Program} {g : Nat} {ds : List (Option Tmp)} {fz : Nat → Bool} {wr av : Nat → Nat → Prop} {K : St → Prop} {r : List Oper} {i : Nat} {σ : St} {b : Bool} (hb : σ.s t = .d (.bool b))
    (h1 : b = true → qL P g ds fz wr av K r i ⟨upd σ.s t (.d (.bool true)), σ.C⟩) (h2 : b = false → qL P g ds fz wr av K r i ⟨upd σ.s t (.d (.bool false)), σ.C⟩) : qL P g ds fz wr av K r i σ :=
  St.split t (F := qL P g ds fz wr av K r i) hb h1 h2
theorem vw_d {τ : Nat → Nat} {V : Nat → Bool} {s : Nat → X} {t : Nat} {y : D} {l : List (Nat × X)} (h : s t = .d y) (hl : vwL τ V s l) : vwL τ V s ((t, .d y) :: l) := ⟨.inr ⟨rfl, .inl h⟩, hl⟩
theorem vw_x {τ : Nat → Nat} {V : Nat → Bool} {s : Nat → X} {t : Nat} {y : X} {l : List (Nat × X)} (h : s t = y.ren τ) (ho : y.on V = true) (hl : vwL τ V s l) : vwL τ V s ((t, y) :: l) := ⟨.inr ⟨ho, .inl h⟩, hl⟩
theorem ret_fun {Γ : Ctx} {t : Tmp} {y : X} {g : Nat} {σ : St} (h : σ.s t = y) (hy : ∀ V, y.on V = true) : ERet Γ [.tmp t] [] 0 (fun x δ => x = y ∧ δ = []) .ret g σ :=
  ⟨g, σ, Vw.refl _ _ _, [], [y], fun n hn => by simp at hn, ⟨h.symm, trivial⟩, by simp [X.onL, hy], rfl, rfl⟩
theorem ret_cell {Γ : Ctx} {a : Tmp} {t : TypeId} {y : X} {g : Nat} {σ : St} (h : match tsz Γ.P t with | some (g, n) => aLoad (fun _ => False) σ.C g n (σ.s a) (fun x => x = y) | none => False) (hy : ∀ V, y.on V = true) : ERet Γ [.cell a t] [] 0 (fun x δ => x = y ∧ δ = []) .ret g σ :=
  ⟨g, σ, Vw.refl _ _ _, [], [y], fun n hn => by simp at hn, ⟨h, trivial⟩, by simp [X.onL, hy], rfl, rfl⟩
/-- How an index reads. -/
theorem toNat_cast (n : Nat) : ((n : Int)).toNat = n := Int.toNat_natCast n
theorem u8min : IntKind.u8.min = 0 := by decide
theorem u8max : IntKind.u8.max = 255 := by decide
theorem i64min : IntKind.i64.min = -9223372036854775808 := by decide
theorem i64max : IntKind.i64.max = 9223372036854775807 := by decide
theorem qL_undef (t : Nat) {P : Program} {g : Nat} {ds : List (Option Tmp)} {fz : Nat → Bool} {wr av : Nat → Nat → Prop} {K : St → Prop} {r : List Oper} {i : Nat} {σ : St} (hb : σ.s t = .undef)
    (h : qL P g ds fz wr av K r i σ) : qL P g ds fz wr av K r i σ := h
theorem by_s (l : List (Nat × X)) (cl : List (Nat × Cap)) (t : Nat) : (St.by l cl).s t = look l t := rfl
theorem by_C (l : List (Nat × X)) (cl : List (Nat × Cap)) (n : Nat) : (St.by l cl).C n = lookC cl n := rfl
theorem look_cons (a : Nat) (x : X) (l : List (Nat × X)) (t : Nat) : look ((a, x) :: l) t = if t = a then x else look l t := rfl
theorem look_nil (t : Nat) : look [] t = .junk := rfl
theorem lookC_cons (a : Nat) (c : Cap) (l : List (Nat × Cap)) (n : Nat) : lookC ((a, c) :: l) n = if n = a then some c else lookC l n := rfl
theorem lookC_nil (n : Nat) : lookC [] n = none := rfl
theorem start_s (xs : List X) (pre : List (Nat × Cap)) (t : Nat) : (St.start xs pre).s t = xs.getD t .undef := rfl
theorem start_C (xs : List X) (pre : List (Nat × Cap)) (n : Nat) : (St.start xs pre).C n = capsOf pre n := rfl
theorem bareLL_map {α : Type} (f : α → List D) : ∀ l : List α, D.bareLL (l.map f) = l.map fun x => D.bareL (f x)
  | [] => rfl
  | x :: r => by simp [D.bareLL, bareLL_map f r]
theorem bareL_cons (d : D) (r : List D) : D.bareL (d :: r) = d.bare :: D.bareL r := rfl
theorem sub_cast {i : Nat} (h : 0 < i) : ((i : Int) - 1).toNat = i - 1 := by omega
/-- n elements, and what lies behind them. -/
def spOf (n : Nat) (es : List (List D)) : D := if n = es.length then .sl es else .sp n es
theorem ret_frz {Γ : Ctx} {t : Tmp} (n k : Nat) {ty : TypeId} (es : List (List D)) {len : Nat} {y : X} {g : Nat} {σ : St} (h : σ.s t = .vec n k 0 len) (hc : σ.C n = some (.vec ty k es)) (hle : len ≤ es.length) (hy : y = .d (spOf len es)) : ERet Γ [.tmp t] [] 0 (fun x δ => x = y ∧ δ = []) .ret g σ := by
  subst hy
  refine ⟨g, σ.frz n k es, Vw.frz n k es hc, [], [.d (spOf len es)], fun n hn => by simp at hn, ⟨?_, trivial⟩, rfl, rfl, rfl⟩
  show _ = X.frz n k es (σ.s t)
  rw [h]
  unfold X.frz spOf
  by_cases hl : len = es.length
  · simp [hl]
  · simp [hl, hle]
theorem size_mk (l : List UInt8) : ByteArray.size ⟨l.toArray⟩ = l.length := by simp [ByteArray.size]
theorem top_val : top = 9223372036854775807 := rfl
theorem addNat (a b : Nat) : ((a : Int) + (b : Int)).toNat = a + b := by omega
end Go.Proofs.YtkbnkcdaiahoeaaDoor
