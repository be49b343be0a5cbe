/- That a call under a contract does what 'aop' tells. No condition. -/
import Derived.Test.YtkbnkcdaiahoeaaDoorAwK
namespace Go.Proofs.YtkbnkcdaiahoeaaDoor
open Go Go.RowKit
set_option linter.unusedVariables false
set_option linter.unusedSimpArgs false
section
variable {P : Program} {ι : Nat → Gh} {U : Nat → Prop} {L : Lim} {w : World} {C : Caps} {m : Nat} {K : X → Del → Prop} {e : Operand → X} {ρ : Operand → Value} {wr av : Nat → Prop}

theorem app_congr (n : Nat) : ∀ (δ : Del) (C C2 : Caps), C n = C2 n → app δ C n = app δ C2 n
  | [], _, _, h => h
  | p :: δ, C, C2, h => app_congr n δ _ _ (by simp only [upd]; split <;> simp_all)
theorem app_out (n : Nat) : ∀ (δ : Del) (C : Caps), n ∉ δ.map (·.1) → app δ C n = C n
  | [], _, _ => rfl
  | p :: δ, C, h => by
    simp only [List.map_cons, List.mem_cons, not_or] at h
    show app δ (upd C p.1 p.2) n = C n
    rw [app_out n δ _ h.2, upd_other _ _ _ _ h.1]
theorem capsOf_in : ∀ (pre : List (Nat × Cap)) (C C0 : Caps) (n : Nat), (∀ p ∈ pre, C p.1 = some p.2) → (n ∈ pre.map (·.1) ∨ C0 n = C n) → app (pre.map fun p => (p.1, some p.2)) C0 n = C n
  | [], C, C0, n, _, h => by simpa [app] using h
  | p :: pre, C, C0, n, hp, h => by
    show app (pre.map fun p => (p.1, some p.2)) (upd C0 p.1 (some p.2)) n = C n
    refine capsOf_in pre C _ n (fun q hq => hp q (by simp [hq])) ?_
    by_cases hn : n = p.1
    · subst hn; right; rw [upd_same]; exact (hp p (by simp)).symm
    · rcases h with h | h
      · simp only [List.map_cons, List.mem_cons] at h
        exact .inl (h.resolve_left hn)
      · right; rw [upd_other _ _ _ _ hn]; exact h
theorem capsOf_out (pre : List (Nat × Cap)) (n : Nat) (h : n ∉ pre.map (·.1)) : capsOf pre n = none := by
  unfold capsOf
  rw [app_out]
  simpa using h

theorem scal_den {L' : Lim} {w' : World} {d : D} {v : Value} (hd : d.scal = true) (h : Den L w d v) : Den L' w' d v := by
  cases h <;> simp [D.scal] at hd
  · exact .int ‹_›
  · exact .bool _
  · exact .str ‹_›
mutual
theorem free_rel {L' : Lim} {w' : World} : ∀ (x : X) (v : Value), x.free = true → Rel ι U L w x v → Rel ι U L' w' x v
  | .ag cs, v, hx, h => by
    cases h with
    | ag us hl h => exact .ag us hl (freeL_rel cs us hx h)
  | .clo f cs, v, hx, h => by
    cases h with
    | clo us hl h => exact .clo us hl (freeL_rel cs us hx h)
  | .tup cs, v, hx, h => by
    cases h with
    | tup us hl h => exact .tup us hl (freeL_rel cs us hx h)
  | .bx n o, v, hx, h => by cases h with | bx hn => exact .bx hn
  | .ve n k i o, v, hx, h => by cases h with | ve hn => exact .ve hn
  | .vec n k a l, v, hx, h => by
    cases h with
    | vec hn h1 h2 h3 => exact .vec hn h1 h2 h3
    | vec0 hn h1 => exact .vec0 hn h1
  | .d x, v, hx, h => by cases h with | d h => exact .d (scal_den hx h)
  | .nil, v, hx, h => by cases h with | nil => exact .nil
  | .ptr cs, v, hx, h => by simp [X.free] at hx
  | .undef, v, hx, h => by cases h with | undef => exact .undef
  | .junk, v, hx, h => .junk v
theorem freeL_rel {L' : Lim} {w' : World} : ∀ (cs : List X) (us : List Value), X.freeL cs = true → (∀ i (hi : i < cs.length), Rel ι U L w (cs[i]'hi) (us.getD i undef)) → ∀ i (hi : i < cs.length), Rel ι U L' w' (cs[i]'hi) (us.getD i undef)
  | [], us, _, _ => fun i hi => absurd hi (by simp)
  | x :: cs, us, hx, h => fun i hi => by
    simp only [X.freeL, Bool.and_eq_true] at hx
    cases i with
    | zero => exact free_rel x _ hx.1 (h 0 hi)
    | succ i =>
      have h' : ∀ i (hi : i < cs.length), Rel ι U L w (cs[i]'hi) (us.tail.getD i undef) := fun i hi => by
        have := h (i + 1) (by simpa using hi)
        cases us with
        | nil => simpa using this
        | cons u us => simpa using this
      have := freeL_rel (L' := L') (w' := w') cs us.tail hx.2 h' i (by simpa using hi)
      cases us with
      | nil => simpa using this
      | cons u us => simpa using this
end
theorem capFree_ok {L' : Lim} {n : Nat} {c : Cap} (hc : capFree c = true) (h : CapOk ι U L w n c) : CapOk ι U L' w n c := by
  cases c with
  | box ty cs =>
    obtain ⟨h1, us, h2, h3, h4⟩ := h
    refine ⟨h1, us, h2, h3, fun j hj => free_rel _ _ (List.all_eq_true.1 hc _ (List.getElem_mem _)) (h4 j hj)⟩
  | vec ty k es =>
    rcases h with h | ⟨h1, us, h2, h3, h4, h5, h6⟩
    · exact .inl h
    · refine .inr ⟨h1, us, h2, h3, h4, h5, fun i hi => ⟨(h6 i hi).1, fun j hj => scal_den ?_ ((h6 i hi).2 j hj)⟩⟩
      have := List.all_eq_true.1 hc _ (List.getElem_mem hi)
      exact List.all_eq_true.1 this _ (List.getElem_mem hj)
theorem app_in (n : Nat) : ∀ (δ : Del) (C C2 : Caps), n ∈ δ.map (·.1) → app δ C n = app δ C2 n
  | [], _, _, h => by simp at h
  | p :: δ, C, C2, h => by
    show app δ (upd C p.1 p.2) n = app δ (upd C2 p.1 p.2) n
    by_cases hin : n ∈ δ.map (·.1)
    · exact app_in n δ _ _ hin
    · simp only [List.map_cons, List.mem_cons] at h
      have hn : n = p.1 := h.resolve_right hin
      exact app_congr n δ _ _ (by rw [hn, upd_same, upd_same])
theorem app_free (n : Nat) (c : Cap) : ∀ (δ : Del) (C : Caps), delFree δ = true → app δ C n = some c → C n = none → capFree c = true
  | [], C, _, h, h0 => by simp [app, h0] at h
  | p :: δ, C, hδ, h, h0 => by
    simp only [delFree, List.all_cons, Bool.and_eq_true] at hδ
    by_cases hn : n = p.1
    · subst hn
      by_cases hin : p.1 ∈ δ.map (·.1)
      · have : app δ (upd C p.1 p.2) p.1 = app δ C p.1 := app_in _ δ _ _ hin
        exact app_free p.1 c δ C hδ.2 (by rw [← this]; exact h) h0
      · have h' : app δ (upd C p.1 p.2) p.1 = some c := h
        rw [app_out _ _ _ hin, upd_same] at h'
        have := hδ.1
        rw [h'] at this
        exact this
    · exact app_free n c δ (upd C p.1 p.2) hδ.2 h (by rw [upd_other _ _ _ _ hn]; exact h0)

theorem norm1_rel {x : X} {v : Value} (h : Rel ι U L w x v) : Rel ι U L w x.norm1 v := by
  cases x <;> first | exact h | (rw [h.nil_inv]; exact .d (den_nil _ _ (Nat.zero_le _) (fun _ => rfl)))
theorem norm_rel {x : X} {v : Value} (h : Rel ι U L w x v) : Rel ι U L w x.norm v := by
  cases x <;> first | exact h | (rw [h.nil_inv]; exact .d (den_nil _ _ (Nat.zero_le _) (fun _ => rfl))) | skip
  cases h with
  | ag us hl hr => exact .ag us (by simpa using hl) (fun i hi => by simp only [List.getElem_map]; exact norm1_rel (hr i (by simpa using hi)))

theorem bareL_len : ∀ l : List D, (D.bareL l).length = l.length
  | [] => rfl
  | _ :: r => by simp [D.bareL, bareL_len r]
theorem bareLL_len : ∀ l : List (List D), (D.bareLL l).length = l.length
  | [] => rfl
  | _ :: r => by simp [D.bareLL, bareLL_len r]
theorem bareL_get : ∀ (l : List D) (i : Nat) (h : i < (D.bareL l).length), (D.bareL l)[i]'h = D.bare (l[i]'(by rw [bareL_len] at h; exact h))
  | d :: r, 0, _ => rfl
  | d :: r, i + 1, h => by
    simp only [D.bareL, List.getElem_cons_succ]
    exact bareL_get r i _
theorem bareLL_get : ∀ (l : List (List D)) (i : Nat) (h : i < (D.bareLL l).length), (D.bareLL l)[i]'h = D.bareL (l[i]'(by rw [bareLL_len] at h; exact h))
  | d :: r, 0, _ => rfl
  | d :: r, i + 1, h => by
    simp only [D.bareLL, List.getElem_cons_succ]
    exact bareLL_get r i _
theorem Den.less {L : Lim} {w : World} {es : List (List D)} {a : Option Addr} {c n : Nat} (hn : n ≤ es.length) (h : Den L w (.sl es) (.slice a es.length c)) : Den L w (.sl (es.take n)) (.slice a n c) := by
  cases h with
  | sl us hc hB h0 hs hd =>
    have hlen : (es.take n).length = n := by simp; omega
    have hv : Value.slice a n c = .slice a (es.take n).length c := by rw [hlen]
    rw [hv]
    have hel : ∀ i (hi : i < (es.take n).length), (es.take n)[i]'hi = es[i]'(by rw [hlen] at hi; omega) := by intro i hi; simp
    refine .sl us (by omega) hB h0 (fun hne => ?_) (fun i hi j hj => ?_)
    · obtain ⟨b, o, k, rfl, h⟩ := hs (by intro h; subst h; simp at hne)
      exact ⟨b, o, k, rfl, fun i hi => by rw [hel i hi]; exact h i (by rw [hlen] at hi; omega)⟩
    · have := hd i (by rw [hlen] at hi; omega) j (by rw [hel i hi] at hj; exact hj)
      simp only [hel i hi]; exact this
theorem Den.bare {L : Lim} {w : World} {d : D} {u : Value} (h : Den L w d u) : Den L w d.bare u := by
  induction h with
  | int h => exact .int h
  | bool b => exact .bool b
  | str h => exact .str h
  | v h => exact .v h
  | @sl es a c us hc hB h0 hs hd ih =>
    have hv : Value.slice a es.length c = .slice a (D.bareLL es).length c := by rw [bareLL_len]
    rw [hv]
    refine .sl us (by rw [bareLL_len]; exact hc) hB h0 (fun hne => ?_) (fun i hi j hj => ?_)
    · obtain ⟨b, o, k, ha, h⟩ := hs (by intro h; subst h; exact hne rfl)
      refine ⟨b, o, k, ha, fun i hi => ?_⟩
      have hi' : i < es.length := by rw [bareLL_len] at hi; exact hi
      rw [bareLL_get es i hi, bareL_len]
      exact h i hi'
    · have hi' : i < es.length := by rw [bareLL_len] at hi; exact hi
      have e1 := bareLL_get es i hi
      have hj' : j < es[i].length := by rw [e1, bareL_len] at hj; exact hj
      have := ih i hi' j hj'
      simp only [e1]
      rw [bareL_get]; exact this
  | sp hn h ih =>
    rename_i n es a c
    have ih' : Den L w (.sl (D.bareLL es)) (.slice a (D.bareLL es).length c) := by rw [bareLL_len]; exact ih
    exact ih'.less (by rw [bareLL_len]; exact hn)
theorem bare1_rel {x : X} {v : Value} (h : Rel ι U L w x v) : Rel ι U L w x.bare1 v := by
  cases x <;> first | exact h | (rw [h.nil_inv]; exact .d (den_nil _ _ (Nat.zero_le _) (fun _ => rfl))) | skip
  cases h with
  | d h => exact .d h.bare
theorem bare_rel {x : X} {v : Value} (h : Rel ι U L w x v) : Rel ι U L w x.bare v := by
  cases x <;> first | exact h | (rw [h.nil_inv]; exact .d (den_nil _ _ (Nat.zero_le _) (fun _ => rfl))) | skip
  · cases h with
    | d h => exact .d h.bare
  · cases h with
    | ag us hl hr => exact .ag us (by simpa using hl) (fun i hi => by simp only [List.getElem_map]; exact bare1_rel (hr i (by simpa using hi)))

/-- An own row, lent: data while nobody changes it. -/
theorem vec_lent {nm : Nat} (hW : WR ι U L w C) {ty : TypeId} {k a len : Nat} {es : List (List D)} (hc : C nm = some (.vec ty k es)) {v : Value} (hr : Rel ι U L w (.vec nm k a len) v) (hle : a + len ≤ es.length) {L1 : Lim} (hst : ∀ b, L b = false → L1 b = false)
    (hb : (ι nm).nl = false → L1 (ι nm).b = false) : Den L1 w (.sl ((es.drop a).take len)) v := by
  have hlen : ((es.drop a).take len).length = len := by simp; omega
  have hmono : ∀ b o u, Stab L w b o u → Stab L1 w b o u := fun b o u h => ⟨hst b h.1, h.2⟩
  rcases hW.ok nm _ hc with ⟨hnl, rfl⟩ | ⟨hnl, us, h1, h2, h3, h4, h5⟩
  · obtain ⟨hn, ⟨-, rfl, rfl, rfl⟩ | ⟨hnl', -⟩⟩ := hr.vec_inv
    · simp; exact den_nil _ _ (Nat.zero_le _) (fun _ => rfl)
    · rw [hnl] at hnl'; cases hnl'
  · obtain ⟨hn, ⟨hnl', -⟩ | ⟨-, o, rfl, hle', ho⟩⟩ := hr.vec_inv
    · rw [hnl] at hnl'; cases hnl'
    · have hv : Value.slice (some ⟨(ι nm).b, o, none⟩) len ((ι nm).cap - a) = .slice (some ⟨(ι nm).b, o, none⟩) ((es.drop a).take len).length ((ι nm).cap - a) := by rw [hlen]
      rw [hv]
      have hel : ∀ i (hi : i < ((es.drop a).take len).length), ((es.drop a).take len)[i]'hi = es[a + i]'(by rw [hlen] at hi; omega) := by intro i hi; simp
      refine .sl (fun i j => us.getD ((a + i) * k + j) undef) (by rw [hlen]; omega) (by omega) (fun h => by cases h) (fun hne => ⟨(ι nm).b, o, k, rfl, fun i hi => ?_⟩) (fun i hi j hj => ?_)
      · rw [hel i hi]
        have hi' : i < len := by rw [hlen] at hi; exact hi
        refine ⟨(h5 (a + i) (by omega)).1, fun j hj => ⟨hb hnl, ?_⟩⟩
        have ho' : o = a * k := by rcases ho with h | ⟨h, _⟩; exact h; omega
        subst ho'
        have hb : (a + i) * k + j < us.length := by
          rw [h2]
          have : (a + i + 1) * k ≤ (ι nm).cap * k := Nat.mul_le_mul_right k (by omega)
          rw [Nat.add_mul] at this; omega
        rw [show a * k + i * k + j = (a + i) * k + j from by rw [Nat.add_mul]]
        simp [World.cell?, h1, List.getElem?_eq_getElem hb]
      · have := (h5 (a + i) (by rw [hlen] at hi; omega)).2 j (by rw [hel i hi] at hj; exact hj)
        simp only [hel i hi]
        exact this.mono hmono

theorem lend_sound (hW : WR ι U L w C) {bor : List Nat} {x y : X} (h : aLend av C bor x y) {v : Value} (r0 : Rel ι U L w x v) {L1 : Lim} (hst : ∀ b, L b = false → L1 b = false)
    (hb : ∀ n ∈ bor, C n ≠ none → (ι n).nl = false → L1 (ι n).b = false) : Rel ι U L1 w y v := by
  unfold aLend at h
  split at h
  · rename_i n k a len
    obtain ⟨hn, -, h1⟩ := h
    split at h1
    · rename_i ty k' es hc
      obtain ⟨rfl, hle, h1⟩ := h1
      have hbn := hb n hn (by simp [hc])
      rcases h1 with rfl | ⟨rfl, rfl⟩
      · exact .d (vec_lent hW hc r0 hle hst hbn)
      · have hle' : len ≤ es.length := by omega
        rcases hW.ok n _ hc with ⟨hnl, rfl⟩ | ⟨hnl, us, h1, h2, h3, h4, h5⟩
        · obtain ⟨hn, ⟨-, -, rfl, rfl⟩ | ⟨hnl', -⟩⟩ := r0.vec_inv
          · exact .d (.sp (Nat.le_refl 0) (den_nil _ _ (Nat.zero_le _) (fun _ => rfl)))
          · rw [hnl] at hnl'; cases hnl'
        · obtain ⟨hU, ⟨hnl', -⟩ | ⟨-, o, rfl, hle2, ho⟩⟩ := r0.vec_inv
          · rw [hnl] at hnl'; cases hnl'
          · have ho' : o = 0 * k' := by rcases ho with h | ⟨-, h⟩; exact h; exact absurd rfl h
            have r1 : Rel ι U L w (.vec n k' 0 es.length) (.slice (some ⟨(ι n).b, o, none⟩) es.length ((ι n).cap - 0)) := .vec hU hnl (by omega) (.inl ho')
            have := vec_lent hW hc r1 (by omega) hst hbn
            simp only [List.drop_zero, List.take_length] at this
            exact .d (.sp hle' this)
    · exact h1.elim
  · exact h.elim
theorem cells_sound (hW : WR ι U L w C) {bor : List Nat} {L1 : Lim} (hst : ∀ b, L b = false → L1 b = false)
    (hb : ∀ n ∈ bor, C n ≠ none → (ι n).nl = false → L1 (ι n).b = false) : ∀ {cs ds : List X}, aCells av C bor cs ds → ∀ {us : List Value}, (∀ i (hi : i < cs.length), Rel ι U L w (cs[i]'hi) (us.getD i undef)) →
    cs.length = ds.length ∧ ∀ i (hi : i < ds.length), Rel ι U L1 w (ds[i]'hi) (us.getD i undef)
  | [], [], _, us, _ => ⟨rfl, fun i hi => absurd hi (by simp)⟩
  | x :: cs, y :: ds, h, us, hr => by
    obtain ⟨h1, h2⟩ := h
    obtain ⟨g1, g2⟩ := cells_sound hW hst hb h2 (us := us.tail) (fun i hi => by
      have := hr (i + 1) (by simpa using hi)
      cases us with
      | nil => simpa using this
      | cons u us => simpa using this)
    have hmono : ∀ b o u, Stab L w b o u → Stab L1 w b o u := fun b o u h => ⟨hst b h.1, h.2⟩
    have r0 : Rel ι U L w x (us.getD 0 undef) := hr 0 (Nat.succ_pos _)
    have r1 : Rel ι U L1 w y (us.getD 0 undef) := by
      rcases h1 with rfl | rfl | h1
      · exact (norm1_rel r0).mono (fun _ _ => rfl) (fun _ h => h) hmono
      · exact (bare1_rel r0).mono (fun _ _ => rfl) (fun _ h => h) hmono
      · exact lend_sound hW h1 r0 hst hb
    refine ⟨by simp [g1], fun i hi => ?_⟩
    cases i with
    | zero => exact r1
    | succ i =>
      have := g2 i (by simpa using hi)
      cases us with
      | nil => simpa using this
      | cons u us => simpa using this
  | [], _ :: _, h, _, _ => h.elim
  | _ :: _, [], h, _, _ => h.elim
open Classical in
theorem args_sound (hW : WR ι U L w C) {bor : List Nat} : ∀ {xs ys : List X} (h : aArgs av C bor xs ys) {us : List Value} (hl : us.length = xs.length) (hr : ∀ i (hi : i < xs.length), Rel ι U L w (xs[i]'hi) (us.getD i undef)) {L1 : Lim}
    (hst : ∀ b, L b = false → L1 b = false) (hb : ∀ n ∈ bor, C n ≠ none → (ι n).nl = false → L1 (ι n).b = false), us.length = ys.length ∧ ∀ i (hi : i < ys.length), Rel ι U L1 w (ys[i]'hi) (us.getD i undef)
  | [], [], _, us, hl, _, _, _, _ => ⟨hl, fun i hi => absurd hi (by simp)⟩
  | x :: xs, y :: ys, h, us, hl, hr, L1, hst, hb => by
    obtain ⟨h1, h2⟩ := h
    cases us with
    | nil => simp at hl
    | cons u us =>
      obtain ⟨g1, g2⟩ := args_sound hW h2 (us := us) (by simpa using hl) (fun i hi => by have := hr (i + 1) (by simpa using hi); simpa using this) hst hb
      have r0 : Rel ι U L w x u := hr 0 (Nat.succ_pos _)
      have hmono : ∀ b o u, Stab L w b o u → Stab L1 w b o u := fun b o u h => ⟨hst b h.1, h.2⟩
      have r1 : Rel ι U L1 w y u := by
        unfold aArg at h1
        split at h1
        · rename_i n k a len
          rcases h1 with rfl | h1
          · exact r0.mono (fun _ _ => rfl) (fun _ h => h) hmono
          · exact lend_sound hW h1 r0 hst hb
        · rename_i cs
          rcases h1 with rfl | rfl | ⟨ds, rfl, h1⟩
          · exact (norm_rel r0).mono (fun _ _ => rfl) (fun _ h => h) hmono
          · exact (bare_rel r0).mono (fun _ _ => rfl) (fun _ h => h) hmono
          · cases r0 with
            | ag us2 hl2 hr2 =>
              obtain ⟨k1, k2⟩ := cells_sound hW hst hb h1 hr2
              exact .ag us2 (by omega) k2
        · rcases h1 with rfl | rfl
          · exact (norm_rel r0).mono (fun _ _ => rfl) (fun _ h => h) hmono
          · exact (bare_rel r0).mono (fun _ _ => rfl) (fun _ h => h) hmono
      refine ⟨by simpa using g1, fun i hi => ?_⟩
      cases i with
      | zero => simpa using r1
      | succ i => simpa using g2 i (by simpa using hi)
  | [], _ :: _, h, _, _, _, _, _, _ => h.elim
  | _ :: _, [], h, _, _, _, _, _, _ => h.elim

open Classical in
/-- The caller's view of what a callee leaves, own rows having been lent. -/
theorem Aft.back (hW : WR ι U L w C) (hm : ¬ U m) {pre : List (Nat × Cap)} {bor : List Nat} (hpre : ∀ p ∈ pre, C p.1 = some p.2) (hbp : bor ≠ [] → pre = []) {L1 : Lim}
    (hL1 : L1 = fun b => if ∃ n, n ∈ bor ∧ C n ≠ none ∧ (ι n).nl = false ∧ (ι n).b = b then false else L b) {Q : X → Del → Prop} {v : Value} {w' : World}
    (hQ : ∀ x δ, Q x δ → (bor ≠ [] → x.free = true ∧ delFree δ = true) ∧ (∀ p ∈ δ, p.1 = m ∨ p.1 ∈ pre.map (·.1)) ∧ K x δ) (h : Aft ι U L1 w (capsOf pre) m Q v w') : Aft ι U L w C m K v w' := by
  obtain ⟨x, δ, ι', L', hq, hx, hW', he, hι, hfr⟩ := h
  obtain ⟨hsc, hδ, hK⟩ := hQ x δ hq
  have hCm : C m = none := by
    by_cases h : C m = none
    · exact h
    · exact absurd (hW.used m h) hm
  have hin : ∀ n, n ∈ pre.map (·.1) → capsOf pre n = C n := fun n hn => capsOf_in pre C _ n hpre (.inl hn)
  have hpC : ∀ n, capsOf pre n ≠ none → n ∈ pre.map (·.1) ∧ C n ≠ none := by
    intro n hn
    by_cases h : n ∈ pre.map (·.1)
    · exact ⟨h, by rwa [hin n h] at hn⟩
    · exact absurd (capsOf_out pre n h) hn
  have hmp : m ∉ pre.map (·.1) := by
    intro h
    obtain ⟨p, hp, rfl⟩ := List.mem_map.1 h
    rw [hpre p hp] at hCm; cases hCm
  have hT : ∀ n, (n = m ∨ n ∈ pre.map (·.1)) → app δ C n = app δ (capsOf pre) n := by
    intro n hn
    refine app_congr n δ _ _ ?_
    rcases hn with rfl | hn
    · rw [hCm, capsOf_out pre _ hmp]
    · rw [hin n hn]
  have hO : ∀ n, n ≠ m → n ∉ pre.map (·.1) → app δ C n = C n := by
    intro n h1 h2
    refine app_out n δ C (fun h => ?_)
    obtain ⟨p, hp, rfl⟩ := List.mem_map.1 h
    rcases hδ p hp with h | h
    · exact h1 h
    · exact h2 h
  let Bb : Nat → Prop := fun b => ∃ n, n ∈ bor ∧ C n ≠ none ∧ (ι n).nl = false ∧ (ι n).b = b
  have hL1f : ∀ b, ¬ Bb b → L1 b = L b := fun b hb => by rw [hL1]; exact if_neg hb
  have hL1t : ∀ b, Bb b → L1 b = false := fun b hb => by rw [hL1]; exact if_pos hb
  have hBL : ∀ b, Bb b → L b = true := by rintro b ⟨n, -, h2, h3, rfl⟩; exact hW.lim n h2 h3
  have hlow : ∀ b, L b = false → L1 b = false := fun b hb => by rw [hL1f b (fun h => by rw [hBL b h] at hb; cases hb)]; exact hb
  let L2 : Lim := fun b => if Bb b then true else L' b
  have h2f : ∀ b, ¬ Bb b → L2 b = L' b := fun b hb => if_neg hb
  have h2t : ∀ b, Bb b → L2 b = true := fun b hb => if_pos hb
  have hBlt : ∀ b, Bb b → b < w.heap.size := by rintro b ⟨n, -, h2, h3, rfl⟩; exact hW.lt h2 h3
  have he2 : Evo L w L2 w' := ⟨he.os, he.tape, he.output, he.size, fun b hb hl => by
    have hnb : ¬ Bb b := fun h => by rw [hBL b h] at hl; cases hl
    have := he.blk b hb (hlow b hl)
    exact ⟨by rw [h2f b hnb]; exact this.1, this.2⟩⟩
  -- an untouched own block
  have hun : ∀ n, C n ≠ none → n ∉ pre.map (·.1) → (ι n).nl = false → w'.heap[(ι n).b]? = w.heap[(ι n).b]? ∧ L2 (ι n).b = true := by
    intro n hn hnp hl
    have hs := hfr.same (ι n).b (hW.lt hn hl) (fun k hk hkl hkb => by
      obtain ⟨hkp, hkC⟩ := hpC k hk
      exact hnp (by rw [← hW.inj k n hkC hn hkl hl hkb]; exact hkp))
    refine ⟨hs.1, ?_⟩
    by_cases hb : Bb (ι n).b
    · exact h2t _ hb
    · rw [h2f _ hb, hs.2, hL1f _ hb]; exact hW.lim n hn hl
  have hnm : ∀ n, C n ≠ none → n ≠ m := fun n hn h => by subst h; exact hn hCm
  have hx2 : Rel ι' (fun n => U n ∨ n = m) L2 w' x v := by
    by_cases hb : bor = []
    · have hnb : ∀ b, ¬ Bb b := by rintro b ⟨n, hn, -⟩; rw [hb] at hn; cases hn
      have : L2 = L' := funext fun b => h2f b (hnb b)
      rw [this]; exact hx
    · exact free_rel _ _ (hsc hb).1 hx
  have hL2 : ∀ b, L' b = true → L2 b = true := fun b hb => by
    by_cases h : Bb b
    · exact h2t b h
    · rw [h2f b h, hb]
  have hT2 : ∀ n c, (n = m ∨ n ∈ pre.map (·.1)) → app δ C n = some c → CapOk ι' (fun n => U n ∨ n = m) L' w' n c → CapOk ι' (fun n => U n ∨ n = m) L2 w' n c := by
    intro n c hn hc hok
    by_cases hb : bor = []
    · have hnb : ∀ b, ¬ Bb b := by rintro b ⟨n, hn, -⟩; rw [hb] at hn; cases hn
      have : L2 = L' := funext fun b => h2f b (hnb b)
      rw [this]; exact hok
    · have hp0 := hbp hb
      subst hp0
      rcases hn with rfl | hn
      · exact capFree_ok (app_free _ c δ C (hsc hb).2 hc hCm) hok
      · simp at hn
  have cases_ : ∀ n, app δ C n ≠ none → (n = m ∨ n ∈ pre.map (·.1)) ∨ (n ≠ m ∧ n ∉ pre.map (·.1) ∧ C n ≠ none) := by
    intro n hn
    by_cases h1 : n = m
    · exact .inl (.inl h1)
    · by_cases h2 : n ∈ pre.map (·.1)
      · exact .inl (.inr h2)
      · exact .inr ⟨h1, h2, by rwa [hO n h1 h2] at hn⟩
  -- where a touched one lies
  have hto : ∀ n, (n = m ∨ n ∈ pre.map (·.1)) → app δ C n ≠ none → (ι' n).nl = false → ∀ k, C k ≠ none → k ∉ pre.map (·.1) → (ι k).nl = false → (ι k).b ≠ (ι' n).b := by
    intro n hn hc hl k hk hkp hkl hh
    rw [hT n hn] at hc
    rcases hfr.orig n hc hl with h | ⟨j, hj, hjl, hjb⟩
    · have := hW.lt hk hkl; rw [hh] at this; omega
    · obtain ⟨hjp, hjC⟩ := hpC j hj
      exact hkp (by rw [← hW.inj j k hjC hk hjl hkl (by rw [hjb, hh])]; exact hjp)
  refine ⟨x, δ, ι', L2, hK, hx2, ?_, he2, hι, ?_⟩
  · refine ⟨?_, ?_, ?_, ?_, hW.glob.mono he2.stab⟩
    · intro n c hc
      rcases cases_ n (by simp [hc]) with hn | ⟨h1, h2, h3⟩
      · refine hT2 n c hn hc ?_
        rw [hT n hn] at hc
        exact hW'.ok n c hc
      · rw [hO n h1 h2] at hc
        exact (hW.ok n c hc).grow (hW.used n h3) (fun k hk => hι k (fun h => hm (h ▸ hk))) (fun _ h => .inl h) he2.stab (fun hl => (hun n h3 h2 hl).1)
    · intro n hn hl
      rcases cases_ n hn with h | ⟨h1, h2, h3⟩
      · exact hL2 _ (hW'.lim n (by rwa [← hT n h]) hl)
      · rw [hι n h1] at hl ⊢
        exact (hun n h3 h2 hl).2
    · intro n k hn hk hl hl' hb
      rcases cases_ n hn with h | ⟨h1, h2, h3⟩
      · rcases cases_ k hk with g | ⟨g1, g2, g3⟩
        · exact hW'.inj n k (by rwa [← hT n h]) (by rwa [← hT k g]) hl hl' hb
        · rw [hι k g1] at hl' hb
          exact absurd hb.symm (hto n h hn hl k g3 g2 hl')
      · rcases cases_ k hk with g | ⟨g1, g2, g3⟩
        · rw [hι n h1] at hl hb
          exact absurd hb (hto k g hk hl' n h3 h2 hl)
        · rw [hι n h1] at hl hb; rw [hι k g1] at hl' hb
          exact hW.inj n k h3 g3 hl hl' hb
    · intro n hn
      rcases cases_ n hn with (h | h) | ⟨h1, h2, h3⟩
      · exact .inr h
      · obtain ⟨p, hp, rfl⟩ := List.mem_map.1 h
        exact .inl (hW.used _ (by rw [hpre p hp]; simp))
      · exact .inl (hW.used n h3)
  · constructor
    · intro b hb hnb
      have hs := hfr.same b hb (fun n hn hl => hnb n (hpC n hn).2 hl)
      have hBb : ¬ Bb b := by rintro ⟨n, -, h2, h3, h4⟩; exact hnb n h2 h3 h4
      exact ⟨hs.1, by rw [h2f b hBb, hs.2, hL1f b hBb]⟩
    · intro n hn hl
      rcases cases_ n hn with h | ⟨h1, h2, h3⟩
      · rcases hfr.orig n (by rwa [← hT n h]) hl with h' | ⟨j, hj, hjl, hjb⟩
        · exact .inl h'
        · exact .inr ⟨j, (hpC j hj).2, hjl, hjb⟩
      · rw [hι n h1] at hl ⊢
        exact .inr ⟨n, h3, hl, rfl⟩

open Classical in
theorem call_sound (hW : WR ι U L w C) (hm : ¬ U m) {f : FuncId} {xs : List X} {us : List Value} (hl : us.length = xs.length) (hr : ∀ i (hi : i < xs.length), Rel ι U L w (xs[i]'hi) (us.getD i undef)) (h : aCall P m wr av C f xs K) :
    callable P f = true ∧ Calls P f us.toArray w fun e w' => ∃ v, e = .returned v ∧ Aft ι U L w C m K v w' := by
  obtain ⟨ys, pre, Q, bor, ha, hs, hpre, -, hbp, hQ⟩ := h
  have hpre' : ∀ p ∈ pre, C p.1 = some p.2 := fun p hp => (hpre p hp).1
  let L1 : Lim := fun b => if ∃ n, n ∈ bor ∧ C n ≠ none ∧ (ι n).nl = false ∧ (ι n).b = b then false else L b
  have hst : ∀ b, L b = false → L1 b = false := by
    intro b hb
    show (if _ then false else L b) = false
    split
    · rfl
    · exact hb
  have hbl : ∀ n ∈ bor, C n ≠ none → (ι n).nl = false → L1 (ι n).b = false := by
    intro n hn hc hl
    show (if _ then false else L _) = false
    rw [if_pos ⟨n, hn, hc, hl, rfl⟩]
  obtain ⟨g1, g2⟩ := args_sound hW ha hl hr hst hbl
  have hmono : ∀ b o u, Stab L w b o u → Stab L1 w b o u := fun b o u h => ⟨hst b h.1, h.2⟩
  have hpC : ∀ n, capsOf pre n ≠ none → n ∈ pre.map (·.1) ∧ capsOf pre n = C n := by
    intro n hn
    by_cases h : n ∈ pre.map (·.1)
    · exact ⟨h, capsOf_in pre C _ n hpre' (.inl h)⟩
    · exact absurd (capsOf_out pre n h) hn
  have hWc : WR ι U L1 w (capsOf pre) := by
    refine ⟨?_, ?_, ?_, ?_, hW.glob.mono hmono⟩
    · intro n c hc
      have h := hpC n (by simp [hc])
      have hcc := hc; rw [h.2] at hcc
      exact (hW.ok n c hcc).grow (hW.used n (by simp [hcc])) (fun _ _ => rfl) (fun _ h => h) hmono (fun _ => rfl)
    · intro n hn hl
      have h := hpC n hn
      have hC : C n ≠ none := by rwa [← h.2]
      show (if _ then false else L _) = true
      rw [if_neg]
      · exact hW.lim n hC hl
      · rintro ⟨k, hk, -⟩
        have : pre = [] := hbp (by intro h; rw [h] at hk; cases hk)
        rw [this] at h; simp at h
    · intro n k hn hk
      have h := hpC n hn; have h' := hpC k hk
      exact hW.inj n k (by rwa [← h.2]) (by rwa [← h'.2])
    · intro n hn
      have h := hpC n hn
      exact hW.used n (by rwa [← h.2])
  refine ⟨hs.1, (hs.2 ι U L1 w us hWc hm g1 g2).mono ?_⟩
  rintro e w' ⟨v, rfl, ha⟩
  exact ⟨v, rfl, Aft.back hW hm hpre' hbp rfl hQ ha⟩
end
end Go.Proofs.YtkbnkcdaiahoeaaDoor
