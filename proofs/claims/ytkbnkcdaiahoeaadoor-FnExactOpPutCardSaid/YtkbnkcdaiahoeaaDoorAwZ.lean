/- Contracts under other names of own blocks. No condition. -/
import Derived.Test.YtkbnkcdaiahoeaaDoorAwY
namespace Go.Proofs.YtkbnkcdaiahoeaaDoor
open Go Go.RowKit
set_option linter.unusedVariables false
set_option linter.unusedSimpArgs false
section
variable {ι ι' : Nat → Gh} {U U' : Nat → Prop} {L : Lim} {w : World} {τ : Nat → Nat}
mutual
/-- What speaks of the names that τ gives. -/
theorem Rel.go (hι : ∀ n, U n → ι' (τ n) = ι n) (hU : ∀ n, U n → U' (τ n)) : ∀ (x : X) (v : Value), Rel ι U L w x v → Rel ι' U' L w (x.ren τ) v
  | .ag cs, v, h => by
    cases h with
    | ag us hl h => exact .ag us (by rw [hl, renL_length]) (Rel.goL hι hU cs us h)
  | .clo f cs, v, h => by
    cases h with
    | clo us hl h => exact .clo us (by rw [hl, renL_length]) (Rel.goL hι hU cs us h)
  | .tup cs, v, h => by
    cases h with
    | tup us hl h => exact .tup us (by rw [hl, renL_length]) (Rel.goL hι hU cs us h)
  | .bx n o, v, h => by
    cases h with
    | bx hn => rw [← hι n hn]; exact .bx (hU n hn)
  | .ve n k i o, v, h => by
    cases h with
    | ve hn => rw [← hι n hn]; exact .ve (hU n hn)
  | .vec n k a l, v, h => by
    cases h with
    | vec hn h1 h2 h3 => rw [← hι n hn] at h1 h2 ⊢; exact .vec (hU n hn) h1 h2 h3
    | vec0 hn h1 => rw [← hι n hn] at h1; exact .vec0 (hU n hn) h1
  | .d x, v, h => by cases h with | d h => exact .d h
  | .nil, v, h => by cases h with | nil => exact .nil
  | .ptr cs, v, h => by cases h with | ptr b o us hs hd => exact .ptr b o us hs hd
  | .undef, v, h => by cases h with | undef => exact .undef
  | .junk, v, h => .junk v
theorem Rel.goL (hι : ∀ n, U n → ι' (τ n) = ι n) (hU : ∀ n, U n → U' (τ n)) : ∀ (cs : List X) (us : List Value), (∀ i (hi : i < cs.length), Rel ι U L w (cs[i]'hi) (us.getD i Go.undef)) → ∀ i (hi : i < (X.renL τ cs).length), Rel ι' U' L w ((X.renL τ cs)[i]'hi) (us.getD i Go.undef)
  | [], us, _ => fun i hi => absurd hi (by simp [X.renL])
  | x :: cs, us, h => fun i hi => by
    cases i with
    | zero => exact Rel.go hι hU x _ (h 0 (Nat.succ_pos _))
    | succ i =>
      have h' : ∀ i (hi : i < cs.length), Rel ι U L w (cs[i]'hi) (us.tail.getD i Go.undef) := fun i hi => by
        have := h (i + 1) (by simpa using hi)
        cases us with
        | nil => simpa using this
        | cons u us => simpa using this
      have := Rel.goL hι hU cs us.tail h' i (by simpa [X.renL] using hi)
      cases us with
      | nil => simpa [X.renL] using this
      | cons u us => simpa [X.renL] using this
end
theorem CapOk.to (hι : ∀ n, U n → ι' (τ n) = ι n) (hU : ∀ n, U n → U' (τ n)) {n : Nat} (hn : U n) {c : Cap} (h : CapOk ι U L w n c) : CapOk ι' U' L w (τ n) (c.ren τ) := by
  cases c with
  | box ty cs =>
    obtain ⟨h1, us, h2, h3, h4⟩ := h
    rw [← hι n hn] at h1 h2
    exact ⟨h1, us, h2, by rw [h3, renL_length], Rel.goL hι hU cs us h4⟩
  | vec ty k es =>
    show CapOk ι' U' L w (τ n) (.vec ty k es)
    unfold CapOk at h ⊢
    rw [hι n hn]
    exact h
end
def renDel (τ : Nat → Nat) (δ : Del) : Del := δ.map fun p => (τ p.1, p.2.map (Cap.ren τ))
def renPre (τ : Nat → Nat) (pre : List (Nat × Cap)) : List (Nat × Cap) := pre.map fun p => (τ p.1, p.2.ren τ)
theorem app_ren {τ : Nat → Nat} {D : Nat → Prop} (hτ : ∀ n m, D n → D m → τ n = τ m → n = m) : ∀ (δ : Del) (C C' : Caps), (∀ p ∈ δ, D p.1) → (∀ n, D n → C' (τ n) = (C n).map (Cap.ren τ)) → ∀ n, D n → app (renDel τ δ) C' (τ n) = (app δ C n).map (Cap.ren τ)
  | [], C, C', _, h, n, hn => h n hn
  | p :: δ, C, C', hd, h, n, hn => app_ren hτ δ (upd C p.1 p.2) (upd C' (τ p.1) (p.2.map (Cap.ren τ))) (fun q hq => hd q (by simp [hq])) (fun k hk => by
      simp only [upd]
      by_cases hkp : k = p.1
      · subst hkp; simp
      · rw [if_neg hkp, if_neg (fun he => hkp (hτ _ _ hk (hd p (by simp)) he))]; exact h k hk) n hn
theorem app_ren_out {τ : Nat → Nat} {n : Nat} : ∀ (δ : Del) (C : Caps), (∀ p ∈ δ, τ p.1 ≠ n) → app (renDel τ δ) C n = C n := fun δ C h => app_out n _ C (fun hn => by
  obtain ⟨q, hq, he⟩ := List.mem_map.1 hn
  obtain ⟨p, hp, rfl⟩ := List.mem_map.1 hq
  exact h p hp he)
/-- A contract under other names: D are the contract's own names. -/
theorem Spec.ren {P : Program} {f : FuncId} {xs : List X} {pre : List (Nat × Cap)} {m : Nat} {Q : X → Del → Prop} (h : Spec P f xs pre m Q) (D : Nat → Bool) (τ : Nat → Nat) (hτ : ∀ n k, D n = true → D k = true → τ n = τ k → n = k)
    (hm : D m = true) (hxs : X.onL D xs = true) (hpre : ∀ p ∈ pre, D p.1 = true ∧ p.2.on D = true) (hQ : ∀ x δ, Q x δ → ∀ p ∈ δ, p.1 = m ∨ p.1 ∈ pre.map (·.1)) :
    Spec P f (X.renL τ xs) (renPre τ pre) (τ m) (fun x δ => ∃ x0 δ0, Q x0 δ0 ∧ x = x0.ren τ ∧ δ = renDel τ δ0) := by
  refine ⟨h.1, fun ι U L w us hW hU hl hr => ?_⟩
  let U0 : Nat → Prop := fun n => D n = true ∧ U (τ n)
  let ι0 : Nat → Gh := fun n => ι (τ n)
  have hcp : ∀ n, D n = true → capsOf (renPre τ pre) (τ n) = (capsOf pre n).map (Cap.ren τ) := by
    intro n hn
    have := app_ren (D := fun n => D n = true) hτ (pre.map fun p => (p.1, some p.2)) (fun _ => none) (fun _ => none) (fun p hp => by
      obtain ⟨q, hq, rfl⟩ := List.mem_map.1 hp
      exact (hpre q hq).1) (fun _ _ => rfl) n hn
    rw [show capsOf (renPre τ pre) = app (renDel τ (pre.map fun p => (p.1, some p.2))) fun _ => none from by simp [capsOf, renPre, renDel, List.map_map, Function.comp_def]]
    exact this
  have hcp0 : ∀ n, capsOf pre n ≠ none → D n = true := by
    intro n hn
    obtain ⟨c, hc⟩ := Option.ne_none_iff_exists'.1 hn
    rcases capsOf_mem pre _ n c hc with ⟨p, hp, rfl, rfl⟩ | h
    · exact (hpre p hp).1
    · cases h
  have hW0 : WR ι0 U0 L w (capsOf pre) := by
    refine ⟨?_, ?_, ?_, ?_, hW.glob⟩
    · intro n c hc
      have hn := hcp0 n (by simp [hc])
      have h1 := hW.ok (τ n) (c.ren τ) (by rw [hcp n hn, hc]; rfl)
      have hon : c.on D = true := by
        rcases capsOf_mem pre _ n c hc with ⟨p, hp, rfl, rfl⟩ | h
        · exact (hpre p hp).2
        · cases h
      exact CapOk.ren (V := D) (ι := ι) (ι' := ι0) (fun k hk => rfl) (fun k hk hu => ⟨hk, hu⟩) hn h1 hon
    · intro n hn hl
      exact hW.lim (τ n) (by rw [hcp n (hcp0 n hn)]; simpa using hn) hl
    · intro n k hn hk hl hl' hb
      exact hτ n k (hcp0 n hn) (hcp0 k hk) (hW.inj (τ n) (τ k) (by rw [hcp n (hcp0 n hn)]; simpa using hn) (by rw [hcp k (hcp0 k hk)]; simpa using hk) hl hl' hb)
    · intro n hn
      exact ⟨hcp0 n hn, hW.used (τ n) (by rw [hcp n (hcp0 n hn)]; simpa using hn)⟩
  have hr0 : ∀ i (hi : i < xs.length), Rel ι0 U0 L w (xs[i]'hi) (us.getD i undef) :=
    Rel.renL (V := D) (τ := τ) (ι := ι) (ι' := ι0) (fun k hk => rfl) (fun k hk hu => ⟨hk, hu⟩) xs us hr hxs
  refine (h.2 ι0 U0 L w us hW0 (fun hh => hU hh.2) (by rw [hl, renL_length]) hr0).mono ?_
  rintro e w' ⟨v, rfl, x, δ, ι1, L1, hq, hx, hW1, he, hi, hf⟩
  have hδ := hQ x δ hq
  let ι2 : Nat → Gh := fun n => if n = τ m then ι1 m else ι n
  have e1 : ∀ n, (U0 n ∨ n = m) → ι2 (τ n) = ι1 n := by
    intro n hn
    by_cases hnm : n = m
    · subst hnm; simp [ι2]
    · have hd : D n = true := (hn.resolve_right hnm).1
      have : τ n ≠ τ m := fun hh => hnm (hτ n m hd hm hh)
      simp only [ι2, if_neg this]
      exact (hi n hnm).symm
  have e2 : ∀ n, (U0 n ∨ n = m) → (U (τ n) ∨ τ n = τ m) := by
    rintro n (h | rfl)
    · exact .inl h.2
    · exact .inr rfl
  have hdD : ∀ p ∈ δ, D p.1 = true := by
    intro p hp
    rcases hδ p hp with h | h
    · rw [h]; exact hm
    · obtain ⟨q, hq, he⟩ := List.mem_map.1 h
      rw [← he]; exact (hpre q hq).1
  have hap : ∀ n, D n = true → app (renDel τ δ) (capsOf (renPre τ pre)) (τ n) = (app δ (capsOf pre) n).map (Cap.ren τ) := app_ren (D := fun n => D n = true) hτ δ _ _ hdD hcp
  -- every name with a block is one of τ's
  have hall : ∀ k, app (renDel τ δ) (capsOf (renPre τ pre)) k ≠ none → ∃ n, D n = true ∧ k = τ n ∧ app δ (capsOf pre) n ≠ none := by
    intro k hk
    have : ∃ n, D n = true ∧ k = τ n := by
      by_cases hin : ∃ p ∈ δ, τ p.1 = k
      · obtain ⟨p, hp, rfl⟩ := hin
        exact ⟨p.1, hdD p hp, rfl⟩
      · rw [app_ren_out δ _ (fun p hp he => hin ⟨p, hp, he⟩)] at hk
        obtain ⟨c, hc⟩ := Option.ne_none_iff_exists'.1 hk
        rcases capsOf_mem (renPre τ pre) _ k c hc with ⟨p, hp, rfl, rfl⟩ | h
        · obtain ⟨q, hq, rfl⟩ := List.mem_map.1 hp
          exact ⟨q.1, (hpre q hq).1, rfl⟩
        · cases h
    obtain ⟨n, hn, rfl⟩ := this
    refine ⟨n, hn, rfl, fun h => hk ?_⟩
    rw [hap n hn, h]; rfl
  have hu1 : ∀ n, app δ (capsOf pre) n ≠ none → (U0 n ∨ n = m) := fun n hn => hW1.used n hn
  refine ⟨v, rfl, x.ren τ, renDel τ δ, ι2, L1, ⟨x, δ, hq, rfl, rfl⟩, Rel.go e1 e2 x v hx, ?_, he, fun n hn => by simp [ι2, hn], ?_⟩
  · refine ⟨?_, ?_, ?_, ?_, hW1.glob⟩
    · intro k c hc
      obtain ⟨n, hn, rfl, hn2⟩ := hall k (by simp [hc])
      rw [hap n hn] at hc
      obtain ⟨c0, hc0⟩ := Option.ne_none_iff_exists'.1 hn2
      rw [hc0] at hc
      cases hc
      exact CapOk.to e1 e2 (hu1 n hn2) (hW1.ok n c0 hc0)
    · intro k hk hl
      obtain ⟨n, hn, rfl, hn2⟩ := hall k hk
      rw [e1 n (hu1 n hn2)] at hl ⊢
      exact hW1.lim n hn2 hl
    · intro k j hk hj hl hl' hb
      obtain ⟨n, hn, rfl, hn2⟩ := hall k hk
      obtain ⟨n', hn', rfl, hn2'⟩ := hall j hj
      rw [e1 n (hu1 n hn2)] at hl hb
      rw [e1 n' (hu1 n' hn2')] at hl' hb
      rw [hW1.inj n n' hn2 hn2' hl hl' hb]
    · intro k hk
      obtain ⟨n, hn, rfl, hn2⟩ := hall k hk
      exact e2 n (hu1 n hn2)
  · constructor
    · intro b hb hnb
      refine hf.same b hb (fun n hn hl => ?_)
      exact hnb (τ n) (by rw [hcp n (hcp0 n hn)]; simpa using hn) hl
    · intro k hk hl
      obtain ⟨n, hn, rfl, hn2⟩ := hall k hk
      rw [e1 n (hu1 n hn2)] at hl ⊢
      rcases hf.orig n hn2 hl with h | ⟨j, hj, hjl, hjb⟩
      · exact .inl h
      · exact .inr ⟨τ j, by rw [hcp j (hcp0 j hj)]; simpa using hj, hjl, hjb⟩
end Go.Proofs.YtkbnkcdaiahoeaaDoor
