/- A region, operation by operation; in whatever order it is carried out. No condition. -/
import Derived.Test.YtkbnkcdaiahoeaaDoorAwO
namespace Go.Proofs.YtkbnkcdaiahoeaaDoor
open Go Go.RowKit
set_option linter.unusedVariables false
set_option linter.unusedSimpArgs false

/-! ### A row given up: from now on data -/
def fzX (b : Bool) (m : Nat) (x : X) (δ : Del) : X × Del :=
  match b, x with
  | true, .vec n k a len => match app δ (fun _ => none) m with
    | some (.vec _ k' es) => if n = m ∧ k' = k ∧ a = 0 ∧ len = es.length then (.d (.sl es), δ ++ [(m, none)]) else (x, δ)
    | _ => (x, δ)
  | _, _ => (x, δ)
theorem fzX_false (m : Nat) (x : X) (δ : Del) : fzX false m x δ = (x, δ) := rfl
theorem fzX_keys (b : Bool) (m : Nat) (x : X) (δ : Del) : ∀ p ∈ (fzX b m x δ).2, p.1 = m ∨ p ∈ δ := by
  intro p hp
  unfold fzX at hp
  split at hp
  · split at hp
    · split at hp
      · simp only [List.mem_append, List.mem_singleton] at hp
        rcases hp with h | h
        · exact .inr h
        · exact .inl (by rw [h])
      · exact .inr hp
    · exact .inr hp
  · exact .inr hp

open Classical in
/-- The blocks that may still change, less one. -/
noncomputable def lessL (ι : Nat → Gh) (n : Nat) (L : Lim) : Lim := fun b => if (ι n).nl = false ∧ (ι n).b = b then false else L b
theorem lessL_stab {ι : Nat → Gh} {n : Nat} {L : Lim} (b : Nat) (h : L b = false) : lessL ι n L b = false := by simp [lessL, h]
theorem lessL_at {ι : Nat → Gh} {n : Nat} {L : Lim} (h : (ι n).nl = false) : lessL ι n L (ι n).b = false := by simp [lessL, h]
theorem lessL_ne {ι : Nat → Gh} {n : Nat} {L : Lim} {b : Nat} (h : (ι n).nl = false → (ι n).b ≠ b) : lessL ι n L b = L b := by
  unfold lessL
  rw [if_neg]
  exact fun ⟨h1, h2⟩ => h h1 h2
theorem less_mono {ι : Nat → Gh} {n : Nat} {L : Lim} {w : World} (b o : Nat) (u : Value) (h : Stab L w b o u) : Stab (lessL ι n L) w b o u := ⟨lessL_stab b h.1, h.2⟩
theorem WR.less {ι : Nat → Gh} {U : Nat → Prop} {L : Lim} {w : World} {C : Caps} (hW : WR ι U L w C) {n : Nat} (hn : C n ≠ none) {C' : Caps} (hC : ∀ j c, C' j = some c → j ≠ n ∧ (C j = some c ∨ CapOk ι U (lessL ι n L) w j c ∧ C j ≠ none)) : WR ι U (lessL ι n L) w C' where
  ok j c hc := by
    rcases (hC j c hc).2 with h | h
    · have := hW.ok j c h
      cases c with
      | box ty cs =>
        obtain ⟨h1, us, h2, h3, h4⟩ := this
        exact ⟨h1, us, h2, h3, fun i hi => (h4 i hi).mono (fun _ _ => rfl) (fun _ h => h) less_mono⟩
      | vec ty k es =>
        rcases this with h | ⟨h1, us, h2, h3, h4, h5, h6⟩
        · exact .inl h
        · exact .inr ⟨h1, us, h2, h3, h4, h5, fun i hi => ⟨(h6 i hi).1, fun q hq => ((h6 i hi).2 q hq).mono less_mono⟩⟩
    · exact h.1
  lim j hj hl := by
    obtain ⟨c, hc⟩ := Option.ne_none_iff_exists'.1 hj
    obtain ⟨h1, h2⟩ := hC j c hc
    have hcj : C j ≠ none := by rcases h2 with h | h; rw [h]; simp; exact h.2
    rw [lessL_ne (fun h3 h4 => h1 (hW.inj n j hn hcj h3 hl h4).symm)]
    exact hW.lim j hcj hl
  inj i j hi hj h1 h2 h3 := by
    obtain ⟨c, hc⟩ := Option.ne_none_iff_exists'.1 hi
    obtain ⟨d, hd⟩ := Option.ne_none_iff_exists'.1 hj
    have hci : C i ≠ none := by rcases (hC i c hc).2 with h | h; rw [h]; simp; exact h.2
    have hcj : C j ≠ none := by rcases (hC j d hd).2 with h | h; rw [h]; simp; exact h.2
    exact hW.inj i j hci hcj h1 h2 h3
  used j hj := by
    obtain ⟨c, hc⟩ := Option.ne_none_iff_exists'.1 hj
    have hcj : C j ≠ none := by rcases (hC j c hc).2 with h | h; rw [h]; simp; exact h.2
    exact hW.used j hcj
  glob := hW.glob.mono less_mono

theorem Aft.fz {ι : Nat → Gh} {U : Nat → Prop} {L : Lim} {w : World} {C : Caps} (hW : WR ι U L w C) {m : Nat} (hm : ¬ U m) {b : Bool} {Q : X → Del → Prop} {v : Value} {w' : World} (h : Aft ι U L w C m (fun x δ => Q (fzX b m x δ).1 (fzX b m x δ).2) v w') : Aft ι U L w C m Q v w' := by
  obtain ⟨x, δ, ι', L', hQ, hr, hW', he, hi, hf⟩ := h
  unfold fzX at hQ
  split at hQ
  · rename_i n k a len
    split at hQ
    · rename_i ty k' es hc
      split at hQ
      · rename_i hh
        obtain ⟨rfl, rfl, rfl, rfl⟩ := hh
        have hC : C n = none := by
          cases h : C n with
          | none => rfl
          | some c => exact absurd (hW.used n (by simp [h])) hm
        have hc' : app δ C n = some (.vec ty k' es) := by rw [app_congr n δ C (fun _ => none) hC]; exact hc
        have hne : app δ C n ≠ none := by rw [hc']; simp
        refine ⟨_, _, ι', lessL ι' n L', hQ, ?_, ?_, ⟨he.os, he.tape, he.output, he.size, fun b hb hl => ⟨lessL_stab b (he.blk b hb hl).1, (he.blk b hb hl).2⟩⟩, hi, ⟨fun b hb ho => ?_, fun j hj hl => ?_⟩⟩
        · have := vec_lent hW' hc' hr (by simp) (L1 := lessL ι' n L') (fun b h => lessL_stab b h) (fun h => lessL_at h)
          simpa using Rel.d this
        · rw [app_append, app_one]
          refine hW'.less hne (fun j c hj => ?_)
          by_cases hjn : j = n
          · subst hjn; rw [upd_same] at hj; cases hj
          · rw [upd_other _ _ _ _ hjn] at hj; exact ⟨hjn, .inl hj⟩
        · obtain ⟨h1, h2⟩ := hf.same b hb ho
          refine ⟨h1, ?_⟩
          rw [lessL_ne, h2]
          intro hl hbb
          rcases hf.orig n hne hl with h | ⟨k, hk, hkl, hkb⟩
          · omega
          · exact ho k hk hkl (by rw [hkb, hbb])
        · refine hf.orig j ?_ hl
          intro h
          apply hj
          rw [app_append, app_one]
          by_cases hjn : j = n
          · subst hjn; rw [upd_same]
          · rw [upd_other _ _ _ _ hjn]; exact h
      · rename_i hh; exact ⟨_, δ, ι', L', hQ, hr, hW', he, hi, hf⟩
    · exact ⟨_, δ, ι', L', hQ, hr, hW', he, hi, hf⟩
  · exact ⟨_, δ, ι', L', hQ, hr, hW', he, hi, hf⟩

/-- What is known of a frame: its slots, the own blocks. -/
structure St where
  s : Nat → X
  C : Caps
/-- One function's run: its program, how many slots; how the world was when it began. -/
structure Ctx where
  P : Program
  T : Nat
  L0 : Lim
  w0 : World
  ι0 : Nat → Gh
  C0 : Caps
  U0 : Nat → Prop
structure Inv (Γ : Ctx) (U : Nat → Prop) (σ : St) (a : Act) (w : World) : Prop where
  defers : a.defers = []
  size : a.tmps.size = Γ.T
  u0 : ∀ n, Γ.U0 n → U n
  mem : ∃ ι L, WR ι U L w σ.C ∧ (∀ t, Rel ι U L w (σ.s t) (a.tmps.getD t undef)) ∧ Evo Γ.L0 Γ.w0 L w ∧ Fr Γ.ι0 Γ.C0 Γ.L0 Γ.w0 ι σ.C L w ∧ (∀ n, Γ.U0 n → ι n = Γ.ι0 n)

theorem Fr.trans {ι0 ι ι' : Nat → Gh} {C0 C C' : Caps} {L0 L L' : Lim} {w0 w w' : World} (h : Fr ι0 C0 L0 w0 ι C L w) (hs : w0.heap.size ≤ w.heap.size) (k : Fr ι C L w ι' C' L' w') : Fr ι0 C0 L0 w0 ι' C' L' w' where
  same b hb hn := by
    obtain ⟨h1, h2⟩ := h.same b hb hn
    obtain ⟨k1, k2⟩ := k.same b (Nat.lt_of_lt_of_le hb hs) (fun n hc hl hbb => by
      rcases h.orig n hc hl with h' | ⟨j, hj, hjl, hjb⟩
      · rw [hbb] at h'; omega
      · exact hn j hj hjl (by rw [hjb, hbb]))
    exact ⟨k1.trans h1, k2.trans h2⟩
  orig n hc hl := by
    rcases k.orig n hc hl with h' | ⟨j, hj, hjl, hjb⟩
    · exact .inl (Nat.le_trans hs h')
    · rw [← hjb]; exact h.orig j hj hjl

def putO (dst : Option Tmp) (x : X) (s : Nat → X) : Nat → X :=
  match dst with
  | some d => upd s d x
  | none => s
def putF (b : Bool) (m : Nat) (dst : Option Tmp) (x : X) (δ : Del) (σ : St) : St := ⟨putO dst (fzX b m x δ).1 σ.s, app (fzX b m x δ).2 σ.C⟩
/-- A guarded operation: carried out, or passed over. -/
def gdO (ds : List (Option Tmp)) (g : Option (Nat × Bool)) (s : Nat → X) (run skip : Prop) : Prop :=
  match g with
  | none => run
  | some (j, want) => match ds.getD j none with
    | none => False
    | some t => match s t with
      | .d (.bool b) => (b = want → run) ∧ (b = !want → skip)
      | .undef => skip
      | _ => False
def stepT (P : Program) (g : Nat) (ds : List (Option Tmp)) (fz : Nat → Bool) (wr av : Nat → Nat → Prop) (i : Nat) (o : Oper) (σ : St) (Kx : St → Prop) : Prop :=
  gdO ds o.guard σ.s (aop P (g + i) (wr i) (av i) (ev σ.s) σ.C o.op fun x δ => Kx (putF (fz i) (g + i) o.dst x δ σ)) (Kx ⟨putO o.dst .undef σ.s, σ.C⟩)
def qi (P : Program) (g : Nat) (ds : List (Option Tmp)) (fz : Nat → Bool) (wr av : Nat → Nat → Prop) (ops : List Oper) (K : St → Prop) : List Nat → St → Prop
  | [], σ => K σ
  | i :: l, σ => match ops[i]? with
    | none => qi P g ds fz wr av ops K l σ
    | some o => stepT P g ds fz wr av i o σ (qi P g ds fz wr av ops K l)
def dstOk (T : Nat) (ops : List Oper) : Bool := ops.all fun o => match o.dst with | some d => decide (d < T) | none => true

section
variable {Γ : Ctx}

theorem getD_put (a : Act) (dst : Option Tmp) (v : Value) (hd : ∀ d, dst = some d → d < a.tmps.size) (t : Nat) : (a.put dst v).tmps.getD t undef = if dst = some t then v else a.tmps.getD t undef := by
  cases dst with
  | none => simp [Act.put]
  | some d =>
    have := hd d rfl
    by_cases h : d = t
    · subst h; simp [Act.put, Array.getElem?_setIfInBounds, this]
    · simp [Act.put, Array.getElem?_setIfInBounds, h]
theorem put_rel {ι : Nat → Gh} {U : Nat → Prop} {L : Lim} {w : World} {s : Nat → X} {a : Act} {dst : Option Tmp} {x : X} {v : Value} (hd : ∀ d, dst = some d → d < a.tmps.size) (hs : ∀ t, Rel ι U L w (s t) (a.tmps.getD t undef)) (hx : Rel ι U L w x v) (t : Nat) :
    Rel ι U L w (putO dst x s t) ((a.put dst v).tmps.getD t undef) := by
  rw [getD_put a dst v hd]
  cases dst with
  | none => simpa [putO] using hs t
  | some d =>
    simp only [putO, upd, Option.some.injEq]
    by_cases h : d = t
    · subst h; simp; exact hx
    · rw [if_neg (fun h' => h h'.symm), if_neg h]; exact hs t

/-- What a step leaves. -/
theorem Inv.step {U : Nat → Prop} {σ : St} {a : Act} {w : World} {ι : Nat → Gh} {L : Lim} (h1 : a.defers = []) (h2 : a.tmps.size = Γ.T) (h0 : ∀ n, Γ.U0 n → U n) (hW : WR ι U L w σ.C) (hs : ∀ t, Rel ι U L w (σ.s t) (a.tmps.getD t undef)) (he : Evo Γ.L0 Γ.w0 L w)
    (hf : Fr Γ.ι0 Γ.C0 Γ.L0 Γ.w0 ι σ.C L w) (hu : ∀ n, Γ.U0 n → ι n = Γ.ι0 n) {m : Nat} (hm : ¬ U m) {dst : Option Tmp} (hd : ∀ d, dst = some d → d < Γ.T) {Kx : St → Prop} {v : Value} {w' : World}
    {b : Bool} (ha0 : Aft ι U L w σ.C m (fun x δ => Kx (putF b m dst x δ σ)) v w') : ∃ σ', Kx σ' ∧ Inv Γ (fun n => U n ∨ n = m) σ' (a.put dst v) w' := by
  have ha : Aft ι U L w σ.C m (fun x δ => Kx ⟨putO dst x σ.s, app δ σ.C⟩) v w' := Aft.fz (b := b) hW hm ha0
  obtain ⟨x, δ, ι', L', hK, hx, hW', he', hι, hf'⟩ := ha
  refine ⟨_, hK, ⟨?_, ?_, fun n hn => .inl (h0 n hn), ι', L', hW', fun t => ?_, he.trans he', hf.trans he.size hf', fun n hn => ?_⟩⟩
  · cases dst <;> exact h1
  · cases dst <;> simp [Act.put, h2]
  · refine put_rel (by rw [h2]; exact hd) (fun t => ?_) hx t
    exact (hs t).mono (fun n hn => hι n (fun h => hm (h ▸ hn))) (fun _ h => .inl h) he'.stab
  · rw [hι n (fun h => hm (h ▸ h0 n hn))]; exact hu n hn

theorem wanted_of {ops : Array Oper} {o : Oper} {j : Nat} {want : Bool} (hg : o.guard = some (j, want)) (y : Nat → Option Bool) : Region.wanted o y = (y j == some want) := by simp [Region.wanted, hg]

theorem stepT_sound {ops : Array Oper} {g i : Nat} {fz : Nat → Bool} {wr av : Nat → Nat → Prop} {o : Oper} (ho : ops[i]? = some o) (hd : ∀ d, o.dst = some d → d < Γ.T) {U : Nat → Prop} (hm : ¬ U (g + i)) {σ : St} {a : Act} {w : World} (hI : Inv Γ U σ a w) {Kx : St → Prop}
    (h : stepT Γ.P g (ops.toList.map (·.dst)) fz wr av i o σ Kx) {Q : Exit → Act → World → Prop} {next : Act → World → Prop} (hn : ∀ σ' a' w', Kx σ' → Inv Γ (fun n => U n ∨ n = g + i) σ' a' w' → next a' w') :
    wpOp Γ.P ops Q i next a w := by
  obtain ⟨h1, h2, h0, ι, L, hW, hs, he, hf, hu⟩ := hI
  have skip : Kx ⟨putO o.dst .undef σ.s, σ.C⟩ → next (a.put o.dst undef) w := by
    intro hk
    refine hn _ _ _ hk ⟨by cases o.dst <;> exact h1, by cases o.dst <;> simp [Act.put, h2], fun n hn => .inl (h0 n hn), ι, L, hW.grow (fun _ _ => rfl) (fun _ h => .inl h) (Evo.refl _ _) (fun n hn hl => ⟨rfl, hW.lim n hn hl⟩), fun t => ?_, he, hf, hu⟩
    exact put_rel (by rw [h2]; exact hd) (fun t => (hs t).mono (fun _ _ => rfl) (fun _ h => .inl h) (fun _ _ _ h => h)) .undef t
  have run : (aop Γ.P (g + i) (wr i) (av i) (ev σ.s) σ.C o.op fun x δ => Kx (putF (fz i) (g + i) o.dst x δ σ)) → o.wp Γ.P a w next Q := by
    intro hr
    have hout := aop_sound hW hm (ρ := a.eval) (ev_rel hW.glob hs) o hr
    unfold Oper.wp
    rcases hout with ⟨v, w', hr, ha⟩ | ⟨w', hr, ha⟩ | ⟨f, us, hr, hc⟩
    · rw [hr]
      obtain ⟨σ', hk, hI⟩ := Inv.step h1 h2 h0 hW hs he hf hu hm hd ha
      exact hn _ _ _ hk hI
    · rw [hr]
      obtain ⟨σ', hk, hI⟩ := Inv.step h1 h2 h0 hW hs he hf hu hm hd ha
      exact hn _ _ _ hk hI
    · rw [hr]
      refine hc.mono ?_
      rintro e w' ⟨v, rfl, ha⟩
      obtain ⟨σ', hk, hI⟩ := Inv.step h1 h2 h0 hW hs he hf hu hm hd ha
      exact hn _ _ _ hk hI
  unfold wpOp
  simp only [ho]
  unfold stepT gdO at h
  split at h
  · rename_i hg
    rw [if_pos (by simp [Region.wanted, hg])]
    exact .inl (run h)
  · rename_i j want hg
    rw [wanted_of (ops := ops) hg]
    have hy : yielded ops a.tmps j = match ((ops[j]?).bind (·.dst)).bind (a.tmps[·]?) with | some (.bool b) => some b | _ => none := rfl
    have hds : (ops.toList.map (·.dst)).getD j none = (ops[j]?).bind (·.dst) := by
      rw [List.getD_eq_getElem?_getD, List.getElem?_map, Array.getElem?_toList]
      cases ops[j]? <;> simp
    rw [hds] at h
    split at h
    · exact h.elim
    · rename_i t ht
      have ht' : (a.tmps[t]?).getD undef = a.tmps.getD t undef := by simp
      have hst := hs t
      split at h
      · rename_i b hb
        rw [hb] at hst
        have hv := hst.bool_inv
        have hv' : a.tmps[t]? = some (.bool b) := by
          rw [← ht'] at hv
          cases htt : a.tmps[t]? with
          | none => rw [htt] at hv; simp [undef] at hv
          | some u => rw [htt] at hv; simpa using hv
        have hyb : yielded ops a.tmps j = some b := by rw [hy, ht]; simp [hv']
        rw [hyb]
        by_cases hbw : b = want
        · rw [if_pos (by simp [hbw])]; exact .inl (run (h.1 hbw))
        · rw [if_neg (by simp [hbw])]; exact skip (h.2 (by cases b <;> cases want <;> simp_all))
      · rename_i hb
        rw [hb] at hst
        have hv : a.tmps.getD t undef = undef := by
          generalize a.tmps.getD t undef = u at hst ⊢; cases hst; rfl
        have hyb : yielded ops a.tmps j = none := by
          rw [hy, ht]
          simp only [Option.bind_some]
          rw [← ht'] at hv
          cases htt : a.tmps[t]? with
          | none => rfl
          | some u => rw [htt] at hv; simp at hv; subst hv; rfl
        rw [hyb]
        rw [if_neg (by simp)]
        exact skip h
      · exact h.elim

/-- In the text's order. -/
theorem qi_sound {ops : Array Oper} {g : Nat} {fz : Nat → Bool} {wr av : Nat → Nat → Prop} (hd : dstOk Γ.T ops.toList = true) {K : St → Prop} {Q : Exit → Act → World → Prop} : ∀ (l : List Nat) {U : Nat → Prop} (hl : l.Nodup) (hm : ∀ i ∈ l, ¬ U (g + i)) {σ : St} {a : Act} {w : World} (hI : Inv Γ U σ a w)
    (h : qi Γ.P g (ops.toList.map (·.dst)) fz wr av ops.toList K l σ) (hQ : ∀ σ' U' a' w', K σ' → (∀ n, U' n → U n ∨ ∃ i ∈ l, n = g + i) → Inv Γ U' σ' a' w' → Q .normal a' w'), wpOps Γ.P ops Q l a w
  | [], U, _, _, σ, a, w, hI, h, hQ => hQ σ U a w h (fun _ hn => .inl hn) hI
  | i :: l, U, hl, hm, σ, a, w, hI, h, hQ => by
    rw [wpOps_cons]
    obtain ⟨hil, hl'⟩ := List.nodup_cons.1 hl
    simp only [qi] at h
    have hget : ops.toList[i]? = ops[i]? := by simp
    rw [hget] at h
    cases ho : ops[i]? with
    | none =>
      rw [ho] at h
      simp only [wpOp, ho]
      exact qi_sound hd l hl' (fun j hj => hm j (by simp [hj])) hI h (fun σ' U' a' w' hk hu hI' => hQ σ' U' a' w' hk (fun n hn => (hu n hn).imp id (fun ⟨j, hj, e⟩ => ⟨j, by simp [hj], e⟩)) hI')
    | some o =>
      rw [ho] at h
      refine stepT_sound ho ?_ (hm i (by simp)) hI h (fun σ' a' w' hk hI' => ?_)
      · intro d hdd
        have := List.all_eq_true.1 hd o (by rw [Array.mem_toList_iff]; exact Array.mem_of_getElem? ho)
        rw [hdd] at this; simpa using this
      · refine qi_sound hd l hl' (fun j hj => ?_) hI' hk (fun σ'' U' a'' w'' hk hu hI'' => hQ σ'' U' a'' w'' hk (fun n hn => ?_) hI'')
        · rintro (h | h)
          · exact hm j (by simp [hj]) h
          · exact hil (by rw [show i = j from by omega]; exact hj)
        · rcases hu n hn with (h | h) | ⟨j, hj, e⟩
          · exact .inl h
          · exact .inr ⟨i, by simp, h⟩
          · exact .inr ⟨j, by simp [hj], e⟩
end
end Go.Proofs.YtkbnkcdaiahoeaaDoor
