/- Other views of one state: names changed, rows given up; a function from its body. No condition. -/
import Derived.Test.YtkbnkcdaiahoeaaDoorAwS
namespace Go.Proofs.YtkbnkcdaiahoeaaDoor
open Go Go.RowKit
set_option linter.unusedVariables false
set_option linter.unusedSimpArgs false

mutual
/-- All names in it are in V. -/
def X.on (V : Nat → Bool) : X → Bool
  | .ag cs => X.onL V cs
  | .bx n _ => V n
  | .ve n _ _ _ => V n
  | .vec n _ _ _ => V n
  | .clo _ cs => X.onL V cs
  | .tup xs => X.onL V xs
  | .d _ | .nil | .ptr _ | .undef | .junk => true
def X.onL (V : Nat → Bool) : List X → Bool
  | [] => true
  | x :: r => X.on V x && X.onL V r
end
mutual
def X.ren (τ : Nat → Nat) : X → X
  | .ag cs => .ag (X.renL τ cs)
  | .bx n o => .bx (τ n) o
  | .ve n k i o => .ve (τ n) k i o
  | .vec n k a l => .vec (τ n) k a l
  | .clo f cs => .clo f (X.renL τ cs)
  | .tup xs => .tup (X.renL τ xs)
  | .d x => .d x
  | .nil => .nil
  | .ptr cs => .ptr cs
  | .undef => .undef
  | .junk => .junk
def X.renL (τ : Nat → Nat) : List X → List X
  | [] => []
  | x :: r => X.ren τ x :: X.renL τ r
end
mutual
/-- Row n, whose elements are es, is data from now on. -/
def X.frz (n k : Nat) (es : List (List D)) : X → X
  | .vec n' k' a l => if n' = n then (if k' = k ∧ a = 0 ∧ l = es.length then .d (.sl es) else if k' = k ∧ a = 0 ∧ l ≤ es.length then .d (.sp l es) else if k' = k ∧ a + l ≤ es.length then .d (.sl ((es.drop a).take l)) else .junk) else .vec n' k' a l
  | .ag cs => .ag (X.frzL n k es cs)
  | .clo f cs => .clo f (X.frzL n k es cs)
  | .tup xs => .tup (X.frzL n k es xs)
  | .bx m o => .bx m o
  | .ve m k i o => .ve m k i o
  | .d x => .d x
  | .nil => .nil
  | .ptr cs => .ptr cs
  | .undef => .undef
  | .junk => .junk
def X.frzL (n k : Nat) (es : List (List D)) : List X → List X
  | [] => []
  | x :: r => X.frz n k es x :: X.frzL n k es r
end
theorem renL_length (τ : Nat → Nat) : ∀ l : List X, (X.renL τ l).length = l.length
  | [] => rfl
  | _ :: r => by simp [X.renL, renL_length τ r]
theorem frzL_length (n k : Nat) (es : List (List D)) : ∀ l : List X, (X.frzL n k es l).length = l.length
  | [] => rfl
  | _ :: r => by simp [X.frzL, frzL_length n k es r]
mutual
theorem ren_id : ∀ x : X, x.ren (fun n => n) = x
  | .ag cs => by simp [X.ren, renL_id cs]
  | .clo f cs => by simp [X.ren, renL_id cs]
  | .tup xs => by simp [X.ren, renL_id xs]
  | .bx .. | .ve .. | .vec .. | .d _ | .nil | .ptr _ | .undef | .junk => by simp [X.ren]
theorem renL_id : ∀ l : List X, X.renL (fun n => n) l = l
  | [] => rfl
  | x :: r => by simp [X.renL, ren_id x, renL_id r]
end

/-- Each of a list. -/
def RelL (ι : Nat → Gh) (U : Nat → Prop) (L : Lim) (w : World) (cs : List X) (us : List Value) : Prop := ∀ i (hi : i < cs.length), Rel ι U L w (cs[i]'hi) (us.getD i undef)
theorem RelL.head {ι : Nat → Gh} {U : Nat → Prop} {L : Lim} {w : World} {x : X} {cs : List X} {us : List Value} (h : RelL ι U L w (x :: cs) us) : Rel ι U L w x (us.getD 0 undef) := h 0 (Nat.succ_pos _)
theorem RelL.tail {ι : Nat → Gh} {U : Nat → Prop} {L : Lim} {w : World} {x : X} {cs : List X} {us : List Value} (h : RelL ι U L w (x :: cs) us) : RelL ι U L w cs us.tail := by
  intro i hi
  have := h (i + 1) (by simpa using hi)
  cases us with
  | nil => simpa using this
  | cons u us => simpa using this
theorem RelL.cons {ι : Nat → Gh} {U : Nat → Prop} {L : Lim} {w : World} {x : X} {cs : List X} {us : List Value} (h1 : Rel ι U L w x (us.getD 0 undef)) (h2 : RelL ι U L w cs us.tail) : RelL ι U L w (x :: cs) us := by
  intro i hi
  cases i with
  | zero => exact h1
  | succ i =>
    have := h2 i (by simpa using hi)
    cases us with
    | nil => simpa using this
    | cons u us => simpa using this

section
variable {ι ι' : Nat → Gh} {U U' : Nat → Prop} {L : Lim} {w : World} {τ : Nat → Nat} {V : Nat → Bool}
mutual
theorem Rel.ren (hι : ∀ n, V n = true → ι' n = ι (τ n)) (hU : ∀ n, V n = true → U (τ n) → U' n) : ∀ (x : X) (v : Value), Rel ι U L w (x.ren τ) v → x.on V = true → Rel ι' U' L w x v
  | .ag cs, v, h, hv => by
    cases h with
    | ag us hl h => exact .ag us (by rw [hl, renL_length]) (Rel.renL hι hU cs us h hv)
  | .clo f cs, v, h, hv => by
    cases h with
    | clo us hl h => exact .clo us (by rw [hl, renL_length]) (Rel.renL hι hU cs us h hv)
  | .tup cs, v, h, hv => by
    cases h with
    | tup us hl h => exact .tup us (by rw [hl, renL_length]) (Rel.renL hι hU cs us h hv)
  | .bx n o, v, h, hv => by
    cases h with
    | bx hn => rw [← hι n hv]; exact .bx (hU n hv hn)
  | .ve n k i o, v, h, hv => by
    cases h with
    | ve hn => rw [← hι n hv]; exact .ve (hU n hv hn)
  | .vec n k a l, v, h, hv => by
    simp only [X.ren] at h
    have hi := hι n hv
    cases h with
    | vec hn h1 h2 h3 => rw [← hi] at h1 h2 ⊢; exact .vec (hU n hv hn) h1 h2 h3
    | vec0 hn h1 => rw [← hi] at h1; exact .vec0 (hU n hv hn) h1
  | .d x, v, h, hv => by cases h with | d h => exact .d h
  | .nil, v, h, hv => by cases h with | nil => exact .nil
  | .ptr cs, v, h, hv => by cases h with | ptr b o us hs hd => exact .ptr b o us hs hd
  | .undef, v, h, hv => by cases h with | undef => exact .undef
  | .junk, v, h, hv => .junk v
theorem Rel.renL (hι : ∀ n, V n = true → ι' n = ι (τ n)) (hU : ∀ n, V n = true → U (τ n) → U' n) : ∀ (cs : List X) (us : List Value), RelL ι U L w (X.renL τ cs) us → X.onL V cs = true → RelL ι' U' L w cs us
  | [], us, _, _ => fun i hi => absurd hi (by simp)
  | x :: cs, us, h, hv => by
    simp only [X.onL, Bool.and_eq_true] at hv
    exact RelL.cons (Rel.ren hι hU x _ (RelL.head h) hv.1) (Rel.renL hι hU cs _ (RelL.tail h) hv.2)
end
end

def Cap.on (V : Nat → Bool) : Cap → Bool
  | .box _ cs => X.onL V cs
  | .vec .. => true
def Cap.ren (τ : Nat → Nat) : Cap → Cap
  | .box ty cs => .box ty (X.renL τ cs)
  | .vec ty k es => .vec ty k es
def Cap.frz (n k : Nat) (es : List (List D)) : Cap → Cap
  | .box ty cs => .box ty (X.frzL n k es cs)
  | .vec ty k es => .vec ty k es
theorem Cap.ren_id (c : Cap) : c.ren (fun n => n) = c := by cases c <;> simp [Cap.ren, renL_id]

theorem CapOk.ren {ι ι' : Nat → Gh} {U U' : Nat → Prop} {L : Lim} {w : World} {τ : Nat → Nat} {V : Nat → Bool} (hι : ∀ n, V n = true → ι' n = ι (τ n)) (hU : ∀ n, V n = true → U (τ n) → U' n) {n : Nat} (hn : V n = true) {c : Cap} (h : CapOk ι U L w (τ n) (c.ren τ)) (hc : c.on V = true) : CapOk ι' U' L w n c := by
  cases c with
  | box ty cs =>
    obtain ⟨h1, us, h2, h3, h4⟩ := h
    rw [← hι n hn] at h1 h2
    exact ⟨h1, us, h2, by rw [h3, renL_length], Rel.renL hι hU cs us h4 hc⟩
  | vec ty k es =>
    unfold CapOk Cap.ren at h
    unfold CapOk
    rw [hι n hn]; exact h

/-! ### Views -/
def Vw (Γ : Ctx) (g : Nat) (σ : St) (g' : Nat) (σ' : St) : Prop := ∀ U a w, (∀ n, U n → n < g) → Inv Γ U σ a w → ∃ U', (∀ n, U' n → n < g') ∧ Inv Γ U' σ' a w
theorem Vw.refl (Γ : Ctx) (g : Nat) (σ : St) : Vw Γ g σ g σ := fun U a w h hI => ⟨U, h, hI⟩
theorem Vw.trans {Γ : Ctx} {g g1 g2 : Nat} {σ σ1 σ2 : St} (h : Vw Γ g σ g1 σ1) (k : Vw Γ g1 σ1 g2 σ2) : Vw Γ g σ g2 σ2 := fun U a w hu hI =>
  let ⟨U1, h1, I1⟩ := h U a w hu hI
  k U1 a w h1 I1
theorem AW.view {Γ : Ctx} {c : Code} {g g' : Nat} {σ σ' : St} {Q : Exit → Nat → St → Prop} (h : Vw Γ g σ g' σ') (k : AW Γ c g' σ' Q) : AW Γ c g σ Q := fun U a w hu hI =>
  let ⟨U1, h1, I1⟩ := h U a w hu hI
  k U1 a w h1 I1
theorem AW.rounds {Γ : Ctx} {c : Code} {g : Nat} {σ : St} {Q : Exit → Nat → St → Prop} {α : Type} (J : α → Prop) (st : α → St) (μ : α → Nat) (G : Nat) (p0 : α) (hJ : J p0) (h0 : Vw Γ g σ G (st p0))
    (round : ∀ p, J p → AW Γ c G (st p) (EThen (fun g' σ' => ∃ p', J p' ∧ μ p' < μ p ∧ Vw Γ g' σ' G (st p')) Q)) : AW Γ (.loop c) g σ Q :=
  AW.loop J st μ G (fun U a w hu hI => ⟨p0, hJ, h0 U a w hu hI⟩) fun p hp => (round p hp).mono fun e g' σ' h => by
    cases e with
    | normal => obtain ⟨p', h1, h2, h3⟩ := h; exact fun U a w hu hI => ⟨p', h1, h2, h3 U a w hu hI⟩
    | _ => exact h

/-- One slot, looked at anew: 'y' in the new names. -/
def vwX (τ : Nat → Nat) (V : Nat → Bool) (x y : X) : Prop := y = .junk ∨ (y.on V = true ∧ (x = y.ren τ ∨ x.norm = y.ren τ))
theorem Vw.ren {Γ : Ctx} {g g' : Nat} {σ σ' : St} (τ : Nat → Nat) (h0 : ∀ n, Γ.U0 n → n < g' ∧ τ n = n) (hs : ∀ t, vwX τ (fun n => decide (n < g')) (σ.s t) (σ'.s t))
    (hC : ∀ n c, σ'.C n = some c → n < g' ∧ c.on (fun n => decide (n < g')) = true ∧ σ.C (τ n) = some (c.ren τ)) (hi : ∀ n m, σ'.C n ≠ none → σ'.C m ≠ none → τ n = τ m → n = m) : Vw Γ g σ g' σ' := by
  intro U a w hu ⟨h1, h2, hU0, ι, L, hW, hr, he, hf, hu0⟩
  have e1 : ∀ n, decide (n < g') = true → (fun n => ι (τ n)) n = ι (τ n) := fun _ _ => rfl
  have e2 : ∀ n, decide (n < g') = true → U (τ n) → (fun n => n < g' ∧ U (τ n)) n := fun n hn hn' => ⟨by simpa using hn, hn'⟩
  have hsome : ∀ n, σ'.C n ≠ none → n < g' ∧ σ.C (τ n) ≠ none := by
    intro n hn
    obtain ⟨c, hc⟩ := Option.ne_none_iff_exists'.1 hn
    obtain ⟨k1, k2, k3⟩ := hC n c hc
    exact ⟨k1, by rw [k3]; simp⟩
  refine ⟨fun n => n < g' ∧ U (τ n), fun n hn => hn.1, h1, h2, fun n hn => ⟨(h0 n hn).1, by rw [(h0 n hn).2]; exact hU0 n hn⟩, fun n => ι (τ n), L, ⟨fun n c hc => ?_, fun n hn hl => ?_, fun n m hn hm hl hl' hb => ?_, fun n hn => ?_, hW.glob⟩, fun t => ?_, he, ⟨hf.same, fun n hn hl => ?_⟩, fun n hn => ?_⟩
  · obtain ⟨k1, k2, k3⟩ := hC n c hc
    exact CapOk.ren e1 e2 (by simpa using k1) (hW.ok _ _ k3) k2
  · exact hW.lim _ (hsome n hn).2 hl
  · exact hi n m hn hm (hW.inj _ _ (hsome n hn).2 (hsome m hm).2 hl hl' hb)
  · exact ⟨(hsome n hn).1, hW.used _ (hsome n hn).2⟩
  · rcases hs t with h | ⟨h3, h | h⟩
    · rw [h]; exact .junk _
    · have := hr t; rw [h] at this; exact Rel.ren e1 e2 _ _ this h3
    · have := norm_rel (hr t); rw [h] at this; exact Rel.ren e1 e2 _ _ this h3
  · exact hf.orig _ (hsome n hn).2 hl
  · show ι (τ n) = _
    rw [(h0 n hn).2]; exact hu0 n hn

/-- A nil slice as an own row. -/
theorem Vw.own {Γ : Ctx} {g : Nat} {σ : St} (ty : TypeId) (k : Nat) (ts : List Tmp) (hts : ∀ t ∈ ts, σ.s t = .nil) : Vw Γ g σ (g + 1) ⟨fun t => if ts.contains t then .vec g k 0 0 else σ.s t, upd σ.C g (some (.vec ty k []))⟩ := by
  intro U a w hu ⟨h1, h2, hU0, ι, L, hW, hr, he, hf, hu0⟩
  have hg : ¬ U g := fun h => by have := hu g h; omega
  have hne : ∀ n, U n → n ≠ g := fun n hn h => hg (h ▸ hn)
  have e1 : ∀ n, U n → upd ι g ⟨0, 0, true⟩ n = ι n := fun n hn => upd_other _ _ _ _ (hne n hn)
  have e2 : ∀ n, U n → U n ∨ n = g := fun n hn => .inl hn
  have hcg : ∀ n, n ≠ g → upd σ.C g (some (.vec ty k [])) n = σ.C n := fun n hn => upd_other _ _ _ _ hn
  have hnl : ∀ n, (upd ι g ⟨0, 0, true⟩ n).nl = false → n ≠ g := by
    intro n h hn; subst hn; rw [upd_same] at h; cases h
  refine ⟨fun n => U n ∨ n = g, fun n hn => by rcases hn with h | h; have := hu n h; omega; omega, h1, h2, fun n hn => .inl (hU0 n hn), upd ι g ⟨0, 0, true⟩, L, ⟨fun n c hc => ?_, fun n hn hl => ?_, fun n m hn hm hl hl' hb => ?_, fun n hn => ?_, hW.glob⟩, fun t => ?_, he, ⟨hf.same, fun n hn hl => ?_⟩, fun n hn => ?_⟩
  · by_cases hng : n = g
    · subst hng
      have hc' : upd σ.C n (some (Cap.vec ty k [])) n = some c := hc
      rw [upd_same] at hc'
      cases hc'
      exact .inl ⟨by rw [upd_same], rfl⟩
    · have hc' : upd σ.C g (some (Cap.vec ty k [])) n = some c := hc
      rw [hcg n hng] at hc'
      replace hc := hc'
      have hok := hW.ok n c hc
      have hun : U n := hW.used n (by simp [hc])
      cases c with
      | box ty cs =>
        obtain ⟨h1, us, h2, h3, h4⟩ := hok
        rw [← e1 n hun] at h1 h2
        exact ⟨h1, us, h2, h3, fun i hi => (h4 i hi).mono e1 e2 (fun _ _ _ h => h)⟩
      | vec ty k es =>
        unfold CapOk at hok ⊢
        rw [e1 n hun]; exact hok
  · have hng := hnl n hl
    simp only [hcg n hng] at hn
    rw [upd_other _ _ _ _ hng] at hl ⊢
    exact hW.lim n hn hl
  · have hng := hnl n hl
    have hmg := hnl m hl'
    simp only [hcg n hng] at hn
    simp only [hcg m hmg] at hm
    rw [upd_other _ _ _ _ hng] at hl hb
    rw [upd_other _ _ _ _ hmg] at hl' hb
    exact hW.inj n m hn hm hl hl' hb
  · by_cases hng : n = g
    · exact .inr hng
    · simp only [hcg n hng] at hn
      exact .inl (hW.used n hn)
  · have hrt := hr t
    show Rel _ _ L w (if ts.contains t then _ else _) _
    split
    · rename_i ht
      rw [hts t (by simpa using ht)] at hrt
      rw [hrt.nil_inv]
      exact .vec0 (.inr rfl) (by rw [upd_same])
    · exact hrt.mono e1 e2 (fun _ _ _ h => h)
  · have hng := hnl n hl
    simp only [hcg n hng] at hn
    rw [upd_other _ _ _ _ hng] at hl ⊢
    exact hf.orig n hn hl
  · show upd ι g ⟨0, 0, true⟩ n = _
    rw [e1 n (hU0 n hn)]; exact hu0 n hn

/-! ### A row given up -/
section
variable {ι : Nat → Gh} {U : Nat → Prop} {L : Lim} {w : World} {C : Caps} {n k : Nat} {ty : TypeId} {es : List (List D)}
mutual
theorem Rel.frz (hW : WR ι U L w C) (hc : C n = some (.vec ty k es)) : ∀ (x : X) (v : Value), Rel ι U L w x v → Rel ι U (lessL ι n L) w (x.frz n k es) v
  | .ag cs, v, h => by
    cases h with
    | ag us hl h => exact .ag us (by rw [hl, frzL_length]) (Rel.frzL hW hc cs us h)
  | .clo f cs, v, h => by
    cases h with
    | clo us hl h => exact .clo us (by rw [hl, frzL_length]) (Rel.frzL hW hc cs us h)
  | .tup cs, v, h => by
    cases h with
    | tup us hl h => exact .tup us (by rw [hl, frzL_length]) (Rel.frzL hW hc cs us h)
  | .vec n' k' a l, v, h => by
    simp only [X.frz]
    split
    · rename_i hn
      subst hn
      split
      · rename_i hh
        obtain ⟨rfl, rfl, rfl⟩ := hh
        have := vec_lent hW hc h (by simp) (L1 := lessL ι n' L) (fun b h => lessL_stab b h) (fun h => lessL_at h)
        simpa using Rel.d this
      split
      · rename_i hne hh
        obtain ⟨rfl, rfl, hle⟩ := hh
        obtain ⟨hn, ⟨hnl, -, rfl, rfl⟩ | ⟨hnl, o, rfl, hle', ho⟩⟩ := h.vec_inv
        · exact .d (.sp (Nat.zero_le _) (by
            rcases hW.ok _ _ hc with ⟨h1, rfl⟩ | ⟨h1, -⟩
            · exact den_nil _ _ (Nat.zero_le _) (fun _ => rfl)
            · rw [hnl] at h1; cases h1))
        · have hcap : es.length ≤ (ι n').cap := by
            rcases hW.ok _ _ hc with ⟨h1, rfl⟩ | ⟨h1, us, h2, h3, h4, -⟩
            · simp
            · exact h4
          have h2 : Rel ι U L w (.vec n' k' 0 es.length) (.slice (some ⟨(ι n').b, o, none⟩) es.length ((ι n').cap - 0)) := .vec hn hnl (by omega) (by rcases ho with h | ⟨-, h⟩; exact .inl h; exact absurd rfl h)
          have := vec_lent hW hc h2 (by simp) (L1 := lessL ι n' L) (fun b h => lessL_stab b h) (fun h => lessL_at h)
          exact .d (.sp hle (by simpa using this))
      · split
        · rename_i hh
          obtain ⟨rfl, hle⟩ := hh
          exact .d (vec_lent hW hc h hle (L1 := lessL ι n' L) (fun b h => lessL_stab b h) (fun h => lessL_at h))
        · exact .junk v
    · exact h.mono (fun _ _ => rfl) (fun _ h => h) less_mono
  | .bx m o, v, h => h.mono (fun _ _ => rfl) (fun _ h => h) less_mono
  | .ve m k i o, v, h => h.mono (fun _ _ => rfl) (fun _ h => h) less_mono
  | .d x, v, h => h.mono (fun _ _ => rfl) (fun _ h => h) less_mono
  | .nil, v, h => h.mono (fun _ _ => rfl) (fun _ h => h) less_mono
  | .ptr cs, v, h => h.mono (fun _ _ => rfl) (fun _ h => h) less_mono
  | .undef, v, h => h.mono (fun _ _ => rfl) (fun _ h => h) less_mono
  | .junk, v, h => .junk v
theorem Rel.frzL (hW : WR ι U L w C) (hc : C n = some (.vec ty k es)) : ∀ (cs : List X) (us : List Value), RelL ι U L w cs us → RelL ι U (lessL ι n L) w (X.frzL n k es cs) us
  | [], us, _ => fun i hi => absurd hi (by simp [X.frzL])
  | x :: cs, us, h => RelL.cons (Rel.frz hW hc x _ (RelL.head h)) (Rel.frzL hW hc cs _ (RelL.tail h))
end
end
def St.frz (n k : Nat) (es : List (List D)) (σ : St) : St := ⟨fun t => (σ.s t).frz n k es, fun j => if j = n then none else (σ.C j).map (Cap.frz n k es)⟩
theorem Vw.frz {Γ : Ctx} {g : Nat} {σ : St} (n k : Nat) {ty : TypeId} (es : List (List D)) (hc : σ.C n = some (.vec ty k es)) : Vw Γ g σ g (σ.frz n k es) := by
  intro U a w hu ⟨h1, h2, hU0, ι, L, hW, hr, he, hf, hu0⟩
  have hne : σ.C n ≠ none := by rw [hc]; simp
  refine ⟨U, hu, h1, h2, hU0, ι, lessL ι n L, hW.less hne (fun j c hj => ?_), fun t => Rel.frz hW hc _ _ (hr t), ⟨he.os, he.tape, he.output, he.size, fun b hb hl => ⟨lessL_stab b (he.blk b hb hl).1, (he.blk b hb hl).2⟩⟩, ⟨fun b hb ho => ?_, fun j hj hl => ?_⟩, hu0⟩
  · simp only [St.frz] at hj
    split at hj
    · cases hj
    · rename_i hjn
      refine ⟨hjn, ?_⟩
      cases hcj : σ.C j with
      | none => rw [hcj] at hj; cases hj
      | some d =>
        rw [hcj] at hj
        simp only [Option.map_some, Option.some.injEq] at hj
        subst hj
        cases d with
        | vec ty k es => exact .inl rfl
        | box ty cs =>
          right
          refine ⟨?_, by simp⟩
          obtain ⟨k1, us, k2, k3, k4⟩ := hW.ok j _ hcj
          exact ⟨k1, us, k2, by rw [k3, frzL_length], Rel.frzL hW hc cs us k4⟩
  · obtain ⟨k1, k2⟩ := hf.same b hb ho
    refine ⟨k1, ?_⟩
    rw [lessL_ne, k2]
    intro hl hbb
    rcases hf.orig n hne hl with h | ⟨j, hj, hjl, hjb⟩
    · omega
    · exact ho j hj hjl (by rw [hjb, hbb])
  · refine hf.orig j (fun h => hj ?_) hl
    simp only [St.frz]
    split
    · rfl
    · rw [h]; rfl

/-! ### A function from its body -/
def one : List X → X
  | [x] => x
  | xs => .tup xs
def oneV : List Value → Value
  | [v] => v
  | vs => .tuple vs.toArray
/-- The results as they stand. -/
def resOk (P : Program) (σ : St) : List ResultVar → List X → Prop
  | [], [] => True
  | .tmp t :: r, x :: xs => x = σ.s t ∧ resOk P σ r xs
  | .cell a t :: r, x :: xs => (match tsz P t with | some (g, n) => aLoad (fun _ => False) σ.C g n (σ.s a) (fun y => y = x) | none => False) ∧ resOk P σ r xs
  | _, _ => False
/-- What a return leaves: the results; how the blocks of the call stand. -/
def Fin (P : Program) (rs : List ResultVar) (pre : List (Nat × Cap)) (m : Nat) (Q : X → Del → Prop) (σ : St) : Prop :=
  ∃ δ xs, (∀ n ∈ pre.map (·.1) ++ δ.map (·.1), (n = m ∨ n ∈ pre.map (·.1)) ∧ ∀ c, app δ (capsOf pre) n = some c → σ.C n = some c ∧ c.on (fun n => n == m || (pre.map (·.1)).contains n) = true) ∧
    resOk P σ rs xs ∧ X.onL (fun n => n == m || (pre.map (·.1)).contains n) xs = true ∧ Q (one xs) δ
def ERet (Γ : Ctx) (rs : List ResultVar) (pre : List (Nat × Cap)) (m : Nat) (Q : X → Del → Prop) : Exit → Nat → St → Prop
  | .normal, g, σ | .ret, g, σ => ∃ g' σ', Vw Γ g σ g' σ' ∧ Fin Γ.P rs pre m Q σ'
  | _, _, _ => False
def St.start (xs : List X) (pre : List (Nat × Cap)) : St := ⟨fun t => xs.getD t .undef, capsOf pre⟩

theorem cell_run {ι : Nat → Gh} {U : Nat → Prop} {L : Lim} {w : World} {C : Caps} (hW : WR ι U L w C) {P : Program} {t : TypeId} {g : Bool} {n : Nat} (ht : tsz P t = some (g, n)) {a x : X} {u : Value} (hr : Rel ι U L w a u) (h : aLoad (fun _ => False) C g n a (fun y => y = x)) :
    ∃ v, (do loadVar t (← asAddr u) : Sem Value).run P w = .ok v w ∧ Rel ι U L w x v := by
  obtain ⟨y, v, h1, h2, rfl⟩ := load_sound hW ht hr h
  refine ⟨v, ?_, h2⟩
  have hu : ∃ ad, u = .pointer (some ad) := by
    unfold aLoad at h
    split at h
    · cases hr; exact ⟨_, rfl⟩
    · cases hr; exact ⟨_, rfl⟩
    · cases hr; exact ⟨_, rfl⟩
    · exact h.elim
  obtain ⟨ad, rfl⟩ := hu
  rw [← h1]
  simp [Instr.loadAt, Instr.sureAddr, asAddr, go_sem]
theorem results_run {ι : Nat → Gh} {U : Nat → Prop} {L : Lim} {w : World} {P : Program} {σ : St} {tmps : Array Value} (hW : WR ι U L w σ.C) (hs : ∀ t, Rel ι U L w (σ.s t) (tmps.getD t undef)) :
    ∀ (rs : List ResultVar) (xs : List X), resOk P σ rs xs → ∃ vs : List Value, vs.length = xs.length ∧ RelL ι U L w xs vs ∧
      (rs.mapM (m := Sem) fun | .tmp t => pure (tmps.getD t undef) | .cell a t => do loadVar t (← asAddr (tmps.getD a undef))).run P w = .ok vs w
  | [], [], _ => ⟨[], rfl, fun i hi => absurd hi (by simp), by simp [go_sem]⟩
  | .tmp t :: r, x :: xs, ⟨h1, h2⟩ => by
    subst h1
    obtain ⟨vs, k1, k2, k3⟩ := results_run hW hs r xs h2
    refine ⟨tmps.getD t undef :: vs, by simp [k1], RelL.cons (hs t) k2, ?_⟩
    rw [List.mapM_cons, Sem.run_bind]
    show (Sem.run P (List.mapM _ r >>= fun bs => pure (tmps.getD t undef :: bs)) w) = _
    rw [Sem.run_bind, k3]
    rfl
  | .cell a t :: r, x :: xs, ⟨h1, h2⟩ => by
    obtain ⟨vs, k1, k2, k3⟩ := results_run hW hs r xs h2
    split at h1
    · rename_i g n ht
      obtain ⟨v, j1, j2⟩ := cell_run hW ht (hs a) h1
      refine ⟨v :: vs, by simp [k1], RelL.cons j2 k2, ?_⟩
      rw [List.mapM_cons, Sem.run_bind, j1]
      show (Sem.run P (List.mapM _ r >>= fun bs => pure (v :: bs)) w) = _
      rw [Sem.run_bind, k3]
      rfl
    · exact h1.elim
theorem results_all {fn : Func} {rs : List ResultVar} (h : fn.results = rs.toArray) {tmps : Array Value} {P : Program} {w : World} {vs : List Value}
    (hv : (rs.mapM (m := Sem) fun | .tmp t => pure (tmps.getD t undef) | .cell a t => do loadVar t (← asAddr (tmps.getD a undef))).run P w = .ok vs w) : (results fn tmps).run P w =   .ok (oneV vs) w := by
  have : results fn tmps = (do
    let vs ← rs.mapM (m := Sem) fun | .tmp t => pure (tmps.getD t undef) | .cell a t => do loadVar t (← asAddr (tmps.getD a undef))
    pure (oneV vs)) := by
    unfold results
    rw [h, List.mapM_toArray]
    simp only [map_eq_pure_bind, bind_assoc, pure_bind]
    congr 1
    funext vs
    match vs with
    | [] => rfl
    | [v] => rfl
    | v :: u :: r => simp [oneV]
  rw [this, Sem.run_bind, hv]
  rfl
theorem capsOf_mem : ∀ (pre : List (Nat × Cap)) (C : Caps) (n : Nat) (c : Cap), app (pre.map fun p => (p.1, some p.2)) C n = some c → (∃ p ∈ pre, p.1 = n ∧ p.2 = c) ∨ C n = some c
  | [], C, n, c, h => .inr h
  | p :: pre, C, n, c, h => by
    rcases capsOf_mem pre (upd C p.1 (some p.2)) n c h with ⟨q, hq, h1, h2⟩ | h
    · exact .inl ⟨q, by simp [hq], h1, h2⟩
    · by_cases hn : n = p.1
      · subst hn; rw [upd_same] at h; exact .inl ⟨p, by simp, rfl, by simpa using h⟩
      · rw [upd_other _ _ _ _ hn] at h; exact .inr h

/-- It stands for something. -/
def X.real (x : X) : Prop := ∃ ι U L w v, Rel ι U L w x v
def D.real (x : D) : Prop := ∃ L w v, Den L w x v
theorem X.real_d {x : D} (h : X.real (.d x)) : x.real := by
  obtain ⟨ι, U, L, w, v, h⟩ := h
  cases h with | d h => exact ⟨L, w, v, h⟩
theorem X.real_ag {cs : List X} (h : X.real (.ag cs)) : ∀ c ∈ cs, X.real c := by
  obtain ⟨ι, U, L, w, v, h⟩ := h
  cases h with
  | ag us hl h =>
    intro c hc
    obtain ⟨i, hi, rfl⟩ := List.mem_iff_getElem.1 hc
    exact ⟨ι, U, L, w, _, h i hi⟩
theorem D.real_len {es : List (List D)} (h : D.real (.sl es)) : es.length ≤ 9223372036854775807 := by
  obtain ⟨L, w, v, h⟩ := h
  cases h with | sl us hc hB h0 hs hd => exact Nat.le_trans hc hB
theorem D.real_str {s : ByteArray} (h : D.real (.str s)) : s.size ≤ 9223372036854775807 := by
  obtain ⟨L, w, v, h⟩ := h
  cases h with | str h => exact h
theorem D.real_int {k : IntKind} {n : Int} (h : D.real (.int k n)) : k.wrap n = n := by
  obtain ⟨L, w, v, h⟩ := h
  cases h with | int h => exact h
theorem D.real_sl {es : List (List D)} (h : D.real (.sl es)) : ∀ e ∈ es, ∀ d ∈ e, D.real d := by
  obtain ⟨L, w, v, h⟩ := h
  cases h with
  | sl us hc hB h0 hs hd =>
    intro e he d hd'
    obtain ⟨i, hi, rfl⟩ := List.mem_iff_getElem.1 he
    obtain ⟨j, hj, rfl⟩ := List.mem_iff_getElem.1 hd'
    exact ⟨L, w, _, hd i hi j hj⟩
theorem Spec.of {P : Program} {f : FuncId} {fn : Func} {c : Code} (hf : P.funcs[f]? = some fn) (hb : fn.body = some c) (hn : (fn.name == "runtime.NumGoroutine") = false) {rs : List ResultVar} (hres : fn.results = rs.toArray)
    {xs : List X} {pre : List (Nat × Cap)} {m : Nat} {Q : X → Del → Prop} (g0 : Nat) (hT : xs.length ≤ fn.ntmps) (hx : X.onL (fun n => decide (n < g0)) xs = true) (hp : ∀ p ∈ pre, p.1 < g0 ∧ p.2.on (fun n => decide (n < g0)) = true)
    (h : (∀ x ∈ xs, X.real x) → ∀ Γ : Ctx, Γ.P = P → Γ.T = fn.ntmps → (∀ n, Γ.U0 n → n < g0 ∧ n ≠ m) → AW Γ c g0 (St.start xs pre) (ERet Γ rs pre m Q)) : Spec P f xs pre m Q := by
  refine ⟨by simp [callable, hf, hb, hn], fun ι U L w us hW hm hl hr => ?_⟩
  have V1 : ∀ n, decide (n < g0) = true → ι n = ι ((fun n => n) n) := fun _ _ => rfl
  have V2 : ∀ n, decide (n < g0) = true → U ((fun n => n) n) → (fun n => U n ∧ n < g0) n := fun n h1 h2 => ⟨h2, by simpa using h1⟩
  have hpn : ∀ n c, capsOf pre n = some c → ∃ p ∈ pre, p.1 = n ∧ p.2 = c := by
    intro n c h
    rcases capsOf_mem pre _ n c h with h | h
    · exact h
    · cases h
  have hW1 : WR ι (fun n => U n ∧ n < g0) L w (capsOf pre) := ⟨fun n c hc => by
      obtain ⟨p, hp1, rfl, rfl⟩ := hpn n c hc
      refine CapOk.ren V1 V2 (by simpa using (hp p hp1).1) ?_ (hp p hp1).2
      rw [Cap.ren_id]; exact hW.ok _ _ hc, hW.lim, hW.inj, fun n hn => ⟨hW.used n hn, by
      obtain ⟨c, hc⟩ := Option.ne_none_iff_exists'.1 hn
      obtain ⟨p, hp1, rfl, rfl⟩ := hpn n c hc
      exact (hp p hp1).1⟩, hW.glob⟩
  have hr1 : RelL ι (fun n => U n ∧ n < g0) L w xs us := Rel.renL V1 V2 xs us (by rw [renL_id]; exact hr) hx
  let Γ : Ctx := ⟨P, fn.ntmps, L, w, ι, capsOf pre, fun n => U n ∧ n < g0⟩
  have hI : Inv Γ (fun n => U n ∧ n < g0) (St.start xs pre) { tmps := us.toArray ++ Array.replicate (fn.ntmps - us.toArray.size) undef, defers := [] } w := by
    refine ⟨rfl, by simp [hl, Γ]; omega, fun n hn => hn, ι, L, hW1, fun t => ?_, Evo.refl _ _, ⟨fun b hb ho => ⟨rfl, rfl⟩, fun n hn hl => .inr ⟨n, hn, hl, rfl⟩⟩, fun _ _ => rfl⟩
    by_cases ht : t < xs.length
    · have := hr1 t ht
      simp only [St.start]
      have e1 : xs.getD t .undef = xs[t] := by simp [ht]
      have e2 : (us.toArray ++ Array.replicate (fn.ntmps - us.toArray.size) undef).getD t undef = us.getD t undef := by
        simp [Array.getElem?_append, hl, ht]
      rw [e1, e2]; exact this
    · simp only [St.start]
      have e1 : xs.getD t .undef = .undef := by simp [Nat.le_of_not_lt ht]
      have e2 : (us.toArray ++ Array.replicate (fn.ntmps - us.toArray.size) undef).getD t undef = undef := by
        simp [Array.getElem?_append, hl, ht, Array.getElem?_replicate]
        split <;> rfl
      rw [e1, e2]; exact .undef
  refine calls_of_wp hf hb ?_
  refine wp_mono (h (fun x hx => by
    obtain ⟨i, hi, rfl⟩ := List.mem_iff_getElem.1 hx
    exact ⟨ι, U, L, w, _, hr i hi⟩) Γ rfl rfl (fun n hn => ⟨hn.2, fun e => hm (e ▸ hn.1)⟩) _ _ _ (fun n hn => hn.2) hI) ?_
  have fin : ∀ (e : Exit) (a : Act) (w' : World) (g : Nat) (σ : St) (U1 : Nat → Prop), (∀ n, U1 n → n < g) → Inv Γ U1 σ a w' → (∃ g' σ', Vw Γ g σ g' σ' ∧ Fin P rs pre m Q σ') → a.defers = [] ∧ ∃ v, (results fn a.tmps).run P w' = .ok v w' ∧ ∃ v', Ending.returned v = .returned v' ∧ Aft ι U L w (capsOf pre) m Q v' w' := by
    rintro - a w' g σ0 U0 hu0 hI0 ⟨g', σ, hv, δ, xs', hδ, hres', hon, hQ⟩
    obtain ⟨U1, -, hd, -, hU0, ι1, L1, hW', hs, he, hf, hu⟩ := hv U0 a w' hu0 hI0
    obtain ⟨vs, hvl, hvr, hvs⟩ := results_run hW' hs rs xs' hres'
    refine ⟨hd, _, results_all hres hvs, _, rfl, ?_⟩
    let V : Nat → Bool := fun n => n == m || (pre.map (·.1)).contains n
    let ι2 : Nat → Gh := fun n => if n = m then ι1 m else ι n
    have hpu : ∀ n, n ∈ pre.map (·.1) → U n ∧ n < g0 := by
      intro n hn
      obtain ⟨p, hp1, rfl⟩ := List.mem_map.1 hn
      have hne : capsOf pre p.1 ≠ none := by
        unfold capsOf
        intro h
        have : ∀ (pre : List (Nat × Cap)) (C : Caps), (p.1 ∈ pre.map (·.1) ∨ C p.1 ≠ none) → app (pre.map fun p => (p.1, some p.2)) C p.1 ≠ none := by
          intro pre
          induction pre with
          | nil => intro C h; simpa [app] using h
          | cons q pre ih =>
            intro C h
            refine ih (upd C q.1 (some q.2)) ?_
            by_cases hq : p.1 = q.1
            · right; rw [hq, upd_same]; simp
            · rw [upd_other _ _ _ _ hq]
              simpa [hq] using h
        exact this pre _ (.inl (List.mem_map_of_mem hp1)) h
      exact ⟨hW.used _ hne, (hp p hp1).1⟩
    have hι : ∀ n, V n = true → ι2 n = ι1 ((fun n => n) n) := by
      intro n hn
      simp only [ι2]
      split
      · rename_i h; rw [h]
      · rename_i h
        simp only [V, Bool.or_eq_true, beq_iff_eq, h, false_or, List.contains_iff_mem] at hn
        exact (hu n (hpu n hn)).symm
    have hU : ∀ n, V n = true → U1 ((fun n => n) n) → (fun n => U n ∨ n = m) n := by
      intro n hn _
      simp only [V, Bool.or_eq_true, beq_iff_eq, List.contains_iff_mem] at hn
      rcases hn with h | h
      · exact .inr h
      · exact .inl (hpu n h).1
    have hrel : RelL ι2 (fun n => U n ∨ n = m) L1 w' xs' vs := Rel.renL hι hU _ _ (by rw [renL_id]; exact hvr) hon
    have hcs : ∀ n c, app δ (capsOf pre) n = some c → V n = true ∧ σ.C n = some c ∧ c.on V = true := by
      intro n c hc
      have hmem : n ∈ pre.map (·.1) ++ δ.map (·.1) := by
        by_cases h1 : n ∈ δ.map (·.1)
        · exact List.mem_append_right _ h1
        · by_cases h2 : n ∈ pre.map (·.1)
          · exact List.mem_append_left _ h2
          · rw [app_out n δ _ h1, capsOf_out pre n h2] at hc; cases hc
      obtain ⟨h1, h2⟩ := hδ n hmem
      refine ⟨?_, h2 c hc⟩
      simp only [V, Bool.or_eq_true, beq_iff_eq, List.contains_iff_mem]
      exact h1
    have hne : ∀ n, app δ (capsOf pre) n ≠ none → V n = true ∧ σ.C n ≠ none := by
      intro n hn
      obtain ⟨c, hc⟩ := Option.ne_none_iff_exists'.1 hn
      obtain ⟨h1, h2, -⟩ := hcs n c hc
      exact ⟨h1, by rw [h2]; simp⟩
    refine ⟨_, δ, ι2, L1, hQ, ?_, ⟨fun n c hc => ?_, fun n hn hl => ?_, fun n k hn hk hl hl' hb => ?_, fun n hn => ?_, hW'.glob⟩, he, fun n hn => by simp [ι2, hn], ⟨hf.same, fun n hn hl => ?_⟩⟩
    · have tup : ∀ xs us, RelL ι2 (fun n => U n ∨ n = m) L1 w' xs us → us.length = xs.length → Rel ι2 (fun n => U n ∨ n = m) L1 w' (one xs) (oneV us) := by
        intro xs us h hl
        match xs, us, hl with
        | [], [], _ => exact .tup [] rfl h
        | [x], [u], _ => exact h 0 (by simp)
        | x :: y :: r, u :: v :: q, hl => exact .tup (u :: v :: q) hl h
      exact tup _ _ hrel hvl
    · obtain ⟨h1, h2, h3⟩ := hcs n c hc
      exact CapOk.ren hι hU h1 (by rw [Cap.ren_id]; exact hW'.ok n c h2) h3
    · obtain ⟨h1, h2⟩ := hne n hn
      rw [hι n h1] at hl ⊢
      exact hW'.lim n h2 hl
    · obtain ⟨h1, h2⟩ := hne n hn
      obtain ⟨h3, h4⟩ := hne k hk
      rw [hι n h1] at hl hb
      rw [hι k h3] at hl' hb
      exact hW'.inj n k h2 h4 hl hl' hb
    · obtain ⟨h1, h2⟩ := hne n hn
      exact hU n h1 (hW'.used n h2)
    · obtain ⟨h1, h2⟩ := hne n hn
      rw [hι n h1] at hl ⊢
      exact hf.orig n h2 hl
  rintro e a w' ⟨g, σ, U1, hq, hu1, hI1⟩
  cases e with
  | normal => exact fin .normal a w' g σ U1 hu1 hI1 hq
  | ret => exact fin .normal a w' g σ U1 hu1 hI1 hq
  | _ => exact hq.elim
end Go.Proofs.YtkbnkcdaiahoeaaDoor
