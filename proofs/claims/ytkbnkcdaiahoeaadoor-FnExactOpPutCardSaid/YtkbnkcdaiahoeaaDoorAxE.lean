/- Contracts that tell not all: some data; own variables lent to be changed; nil in a variable as an own row. No condition. -/
import Derived.Test.YtkbnkcdaiahoeaaDoorAxD
namespace Go.Proofs.YtkbnkcdaiahoeaaDoor
open Go Go.RowKit
set_option linter.unusedVariables false
set_option linter.unusedSimpArgs false
theorem Vw.ownB {Γ : Ctx} {g : Nat} {σ : St} (ty : TypeId) (k : Nat) (B j : Nat) {tyB : TypeId} {cs : List X} (hB : σ.C B = some (.box tyB cs)) (hj : cs[j]? = some .nil) : Vw Γ g σ (g + 1) ⟨σ.s, upd (upd σ.C B (some (.box tyB (cs.set j (.vec g k 0 0))))) g (some (.vec ty k []))⟩ := by
  intro U a w hu ⟨h1, h2, hU0, ι, L, hW, hr, he, hf, hu0⟩
  have hg : ¬ U g := fun h => by have := hu g h; omega
  have hne : ∀ n, U n → n ≠ g := fun n hn h => hg (h ▸ hn)
  have e1 : ∀ n, U n → upd ι g ⟨0, 0, true⟩ n = ι n := fun n hn => upd_other _ _ _ _ (hne n hn)
  have e2 : ∀ n, U n → U n ∨ n = g := fun n hn => .inl hn
  have hUB : U B := hW.used B (by simp [hB])
  have hBg : B ≠ g := hne B hUB
  have hcg : ∀ n, n ≠ g → n ≠ B → upd (upd σ.C B (some (.box tyB (cs.set j (.vec g k 0 0))))) g (some (.vec ty k [])) n = σ.C n := fun n hn hb => by rw [upd_other _ _ _ _ hn, upd_other _ _ _ _ hb]
  have hcB : upd (upd σ.C B (some (.box tyB (cs.set j (.vec g k 0 0))))) g (some (.vec ty k [])) B = some (.box tyB (cs.set j (.vec g k 0 0))) := by rw [upd_other _ _ _ _ hBg, upd_same]
  have hcgg : upd (upd σ.C B (some (.box tyB (cs.set j (.vec g k 0 0))))) g (some (.vec ty k [])) g = some (.vec ty k []) := upd_same _ _ _
  have hnl : ∀ n, (upd ι g ⟨0, 0, true⟩ n).nl = false → n ≠ g := by
    intro n h hn; subst hn; rw [upd_same] at h; cases h
  have hsome : ∀ n, n ≠ g → upd (upd σ.C B (some (.box tyB (cs.set j (.vec g k 0 0))))) g (some (.vec ty k [])) n ≠ none → σ.C n ≠ none := by
    intro n hng hn
    by_cases hb : n = B
    · subst hb; rw [hB]; simp
    · rwa [hcg n hng hb] at hn
  refine ⟨fun n => U n ∨ n = g, fun n hn => by rcases hn with h | h; have := hu n h; omega; omega, h1, h2, fun n hn => .inl (hU0 n hn), upd ι g ⟨0, 0, true⟩, L, ⟨fun n c hc => ?_, fun n hn hl => ?_, fun n m hn hm hl hl' hb => ?_, fun n hn => ?_, hW.glob⟩, fun t => ?_, he, ⟨hf.same, fun n hn hl => ?_⟩, fun n hn => ?_⟩
  · by_cases hng : n = g
    · subst hng
      replace hc : upd (upd σ.C B (some (.box tyB (cs.set j (.vec n k 0 0))))) n (some (.vec ty k [])) n = some c := hc
      rw [hcgg] at hc
      cases hc
      exact .inl ⟨by rw [upd_same], rfl⟩
    · by_cases hb : n = B
      · subst hb
        replace hc : upd (upd σ.C n (some (.box tyB (cs.set j (.vec g k 0 0))))) g (some (.vec ty k [])) n = some c := hc
        rw [hcB] at hc
        cases hc
        obtain ⟨h1, us, h2, h3, h4⟩ := hW.ok n _ hB
        rw [← e1 n hUB] at h1 h2
        refine ⟨h1, us, h2, by simpa using h3, fun i hi => ?_⟩
        have hi' : i < cs.length := by simpa using hi
        by_cases hij : j = i
        · subst hij
          have hx := h4 j hi'
          rw [List.getElem?_eq_getElem hi'] at hj
          have hj' : cs[j] = .nil := Option.some.inj hj
          rw [hj'] at hx
          rw [hx.nil_inv, List.getElem_set_self]
          exact Rel.vec0 (U := fun n => U n ∨ n = g) (.inr rfl) (by rw [upd_same])
        · rw [List.getElem_set_ne hij]
          exact (h4 i hi').mono e1 e2 (fun _ _ _ h => h)
      · replace hc : upd (upd σ.C B (some (.box tyB (cs.set j (.vec g k 0 0))))) g (some (.vec ty k [])) n = some c := hc
        rw [hcg n hng hb] at hc
        have hok := hW.ok n c hc
        have hun : U n := hW.used n (by simp [hc])
        cases c with
        | box ty cs =>
          obtain ⟨h1, us, h2, h3, h4⟩ := hok
          rw [← e1 n hun] at h1 h2
          exact ⟨h1, us, h2, h3, fun i hi => (h4 i hi).mono e1 e2 (fun _ _ _ h => h)⟩
        | vec ty k es =>
          unfold CapOk at hok ⊢
          rw [e1 n hun]; exact hok
  · have hng := hnl n hl
    rw [upd_other _ _ _ _ hng] at hl ⊢
    exact hW.lim n (hsome n hng hn) hl
  · have hng := hnl n hl
    have hmg := hnl m hl'
    rw [upd_other _ _ _ _ hng] at hl hb
    rw [upd_other _ _ _ _ hmg] at hl' hb
    exact hW.inj n m (hsome n hng hn) (hsome m hmg hm) hl hl' hb
  · by_cases hng : n = g
    · exact .inr hng
    · exact .inl (hW.used n (hsome n hng hn))
  · exact (hr t).mono e1 e2 (fun _ _ _ h => h)
  · have hng := hnl n hl
    rw [upd_other _ _ _ _ hng] at hl ⊢
    exact hf.orig n (hsome n hng hn) hl
  · rw [e1 n (hU0 n hn)]; exact hu0 n hn

/-- Called with data ys, f answers data of which R holds. -/
def FunE (P : Program) (f : FuncId) (ys : List X) (R : X → Prop) : Prop := ∀ m, Spec P f ys [] m fun x δ => R x ∧ δ = []
theorem FunE.of {P : Program} {f : FuncId} {ys : List X} {R : X → Prop} (h : Spec P f ys [] 0 fun x δ => R x ∧ δ = []) (hx : X.onL (fun _ => false) ys = true) (hR : ∀ x, R x → x.on (fun _ => false) = true) : FunE P f ys R :=
  fun m => h.any hx (fun x δ ⟨h1, h2⟩ => ⟨hR x h1, h2⟩) m
theorem call_ex {P : Program} {f : FuncId} {ys : List X} {R : X → Prop} (h : FunE P f ys R) (hne : ∃ x, R x) {m : Nat} {wr av : Nat → Prop} {C : Caps} {xs : List X} (ha : aArgs av C [] xs ys) {K : X → Del → Prop} (hK : ∀ x, R x → K x []) : aCall P m wr av C f xs K :=
  ⟨ys, [], _, [], ha, h m, fun p hp => by simp at hp, ⟨hne.choose, [], hne.choose_spec, rfl⟩, fun h => absurd rfl h, fun x δ ⟨h1, h2⟩ => ⟨fun hb => absurd rfl hb, fun p hp => by rw [h2] at hp; simp at hp, by rw [h2]; exact hK x h1⟩⟩
/-- A contract over an own variable of data (name 0): it may change; the answer is data. -/
def FunB (P : Program) (f : FuncId) (c : Cap) (ys : List X) (R : X → Cap → Prop) : Prop := Spec P f (.bx 0 0 :: ys) [(0, c)] 1 fun x δ => ∃ c', δ = [(0, some c')] ∧ R x c'
theorem ren_free {τ : Nat → Nat} {x : X} (h : x.on (fun _ => false) = true) : x.ren τ = x := (renL_on τ (fun _ => false) (fun _ h => by simp at h)).1 x h
theorem cap_free {τ : Nat → Nat} {c : Cap} (h : c.on (fun _ => false) = true) : c.ren τ = c := by
  cases c with
  | box ty cs => simp only [Cap.ren]; rw [(renL_on τ (fun _ => false) (fun _ h => by simp at h)).2 cs h]
  | vec ty k es => rfl
theorem cap_mono {V : Nat → Bool} {c : Cap} (h : c.on (fun _ => false) = true) : c.on V = true := by
  cases c with
  | box ty cs => exact (onL_mono (V := fun _ => false) (fun n h => by simp at h)).2 cs h
  | vec ty k es => rfl
theorem call_box {P : Program} {f : FuncId} {c : Cap} {ys : List X} {R : X → Cap → Prop} (h : FunB P f c ys R) (hc : c.on (fun _ => false) = true) (hys : X.onL (fun _ => false) ys = true) (hR : ∀ x c', R x c' → x.on (fun _ => false) = true ∧ c'.on (fun _ => false) = true) (hne : ∃ x c', R x c')
    {a m : Nat} (ham : a ≠ m) {wr av : Nat → Prop} {C : Caps} {xs : List X} (hCa : C a = some c) (hw : wr a) (hv : ¬ av a) (ha : aArgs av C [] xs (.bx a 0 :: ys)) {K : X → Del → Prop} (hK : ∀ x c', R x c' → K x [(a, some c')]) : aCall P m wr av C f xs K := by
  have h' := Spec.ren h (fun n => decide (n < 2)) (fun n => if n = 0 then a else m) (fun n k hn hk he => by
    simp at hn hk
    by_cases a1 : n = 0 <;> by_cases a2 : k = 0
    · omega
    · simp [a1, a2] at he; exact absurd he ham
    · simp [a1, a2] at he; exact absurd he.symm ham
    · omega) (by decide) (by
      simp only [X.onL, X.on, Bool.and_eq_true]
      exact ⟨by decide, (onL_mono (V := fun _ => false) (fun n h => by simp at h)).2 ys hys⟩) (by intro p hp; simp at hp; subst hp; exact ⟨by simp, cap_mono hc⟩) (fun x δ ⟨c', hδ, _⟩ p hp => by
      subst hδ; simp at hp; subst hp; exact .inr (by simp))
  have e1 : X.renL (fun n => if n = 0 then a else m) (.bx 0 0 :: ys) = .bx a 0 :: ys := by
    simp only [X.renL, X.ren, if_true]
    rw [(renL_on _ (fun _ => false) (fun n h => by simp at h)).2 ys hys]
  rw [e1] at h'
  have e2 : renPre (fun n => if n = 0 then a else m) [(0, c)] = [(a, c)] := by simp [renPre, cap_free hc]
  rw [e2] at h'
  simp only [Nat.one_ne_zero, if_false] at h'
  obtain ⟨x0, c0, h0⟩ := hne
  refine ⟨_, _, _, [], ha, h', fun p hp => by simp at hp; subst hp; exact ⟨hCa, hw, hv⟩, ⟨_, _, x0, [(0, some c0)], ⟨c0, rfl, h0⟩, rfl, rfl⟩, fun h => absurd rfl h, ?_⟩
  rintro x δ ⟨x0, δ0, ⟨c', rfl, h0⟩, rfl, rfl⟩
  obtain ⟨k1, k2⟩ := hR _ _ h0
  refine ⟨fun h => absurd rfl h, fun p hp => ?_, ?_⟩
  · simp [renDel] at hp
    subst hp
    exact .inr (by simp)
  · have := hK _ _ h0
    simpa [renDel, ren_free k1, cap_free k2] using this
theorem ret_box {Γ : Ctx} {rs : List ResultVar} {g : Nat} {σ : St} {c0 c1 : Cap} {R : X → Cap → Prop} (xs : List X) (h2 : resOk Γ.P σ rs xs) (h3 : ∀ V, X.onL V xs = true) (hC : σ.C 0 = some c1) (hc : c1.on (fun _ => false) = true) (hR : R (one xs) c1) :
    ERet Γ rs [(0, c0)] 1 (fun x δ => ∃ c', δ = [(0, some c')] ∧ R x c') .ret g σ :=
  ⟨g, σ, Vw.refl _ _ _, [(0, some c1)], xs, fun n hn => by
    simp at hn; subst hn
    refine ⟨.inr (by simp), fun c hc' => ?_⟩
    simp [app, upd] at hc'
    subst hc'
    exact ⟨hC, cap_mono hc⟩, h2, h3 _, c1, rfl, hR⟩
theorem ret_boxV {Γ : Ctx} {rs : List ResultVar} {g g' : Nat} {σ σ' : St} {c0 c1 : Cap} {R : X → Cap → Prop} (hv : Vw Γ g σ g' σ') (xs : List X) (h2 : resOk Γ.P σ' rs xs) (h3 : ∀ V, X.onL V xs = true) (hC : σ'.C 0 = some c1) (hc : c1.on (fun _ => false) = true) (hR : R (one xs) c1) :
    ERet Γ rs [(0, c0)] 1 (fun x δ => ∃ c', δ = [(0, some c')] ∧ R x c') .ret g σ := by
  obtain ⟨g2, σ2, h1, h⟩ := ret_box (Γ := Γ) (g := g') (c0 := c0) xs h2 h3 hC hc hR
  exact ⟨g2, σ2, hv.trans h1, h⟩
theorem caps1 (c : Cap) (n : Nat) : capsOf [(0, c)] n = if n = 0 then some c else none := by simp [capsOf, app, upd]
/-- A new own variable handed back. -/
def FunN (P : Program) (f : FuncId) (ys : List X) (c : Cap) : Prop := ∀ m, Spec P f ys [] m fun x δ => x = .bx m 0 ∧ δ = [(m, some c)]
theorem FunN.of {P : Program} {f : FuncId} {ys : List X} {c : Cap} (h : Spec P f ys [] 0 fun x δ => x = .bx 0 0 ∧ δ = [(0, some c)]) (hx : X.onL (fun _ => false) ys = true) (hc : c.on (fun _ => false) = true) : FunN P f ys c := by
  intro m
  have hx0 : X.onL (fun n => n == 0) ys = true := (onL_mono (V := fun _ => false) (fun n h => by simp at h)).2 ys hx
  have := h.ren (fun n => n == 0) (fun _ => m) (fun n k hn hk _ => by simp at hn hk; omega) (by simp) hx0 (by simp) (fun x δ ⟨_, hδ⟩ p hp => by subst hδ; simp at hp; left; rw [hp])
  rw [(renL_on (fun _ => m) (fun _ => false) (fun _ h => by simp at h)).2 ys hx] at this
  refine this.mono ?_
  rintro x δ ⟨x0, δ0, ⟨rfl, rfl⟩, rfl, rfl⟩
  exact ⟨rfl, by simp [renDel, cap_free hc]⟩
theorem call_new {P : Program} {f : FuncId} {ys : List X} {c : Cap} (h : FunN P f ys c) {m : Nat} {wr av : Nat → Prop} {C : Caps} {xs : List X} (ha : aArgs av C [] xs ys) {K : X → Del → Prop} (hK : K (.bx m 0) [(m, some c)]) : aCall P m wr av C f xs K :=
  ⟨ys, [], _, [], ha, h m, fun p hp => by simp at hp, ⟨_, _, rfl, rfl⟩, fun h => absurd rfl h, fun x δ ⟨h1, h2⟩ => ⟨fun hb => absurd rfl hb, fun p hp => by rw [h2] at hp; simp at hp; left; rw [hp], by rw [h1, h2]; exact hK⟩⟩
theorem ret_new {Γ : Ctx} {t : Tmp} {g : Nat} {σ : St} (b : Nat) {c : Cap} (hU : ∀ n, Γ.U0 n → n < 1 ∧ n ≠ 0) (h : σ.s t = .bx b 0) (hC : σ.C b = some c) (hc : c.on (fun _ => false) = true) : ERet Γ [.tmp t] [] 0 (fun x δ => x = .bx 0 0 ∧ δ = [(0, some c)]) .ret g σ := by
  have h2 := Vw.to (Γ := Γ) (g := g) (g' := 1) (σ := σ) [(0, b)] [(t, .bx 0 0)] [(0, c)] (fun n hn => absurd (hU n hn) (by omega))
    (vw_x (by simp [X.ren, tauL, h]) rfl trivial) ⟨⟨by omega, cap_mono hc, by simp [tauL, cap_free hc, hC]⟩, trivial⟩ (by simp [tauL])
  refine ⟨1, _, h2, [(0, some c)], [.bx 0 0], fun n hn => ?_, ⟨by simp [St.by, look], trivial⟩, rfl, rfl, rfl⟩
  simp at hn; subst hn
  refine ⟨.inl rfl, fun c' hc' => ?_⟩
  simp [app, upd] at hc'
  subst hc'
  exact ⟨by simp [St.by, lookC], cap_mono hc⟩
end Go.Proofs.YtkbnkcdaiahoeaaDoor
