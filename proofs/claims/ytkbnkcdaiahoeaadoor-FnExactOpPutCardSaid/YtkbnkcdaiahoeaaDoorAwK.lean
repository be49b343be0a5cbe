/- That 'aop' tells what append does. No condition. -/
import Derived.Test.YtkbnkcdaiahoeaaDoorAwJ
import Derived.Maps.AppendAt
namespace Go.Proofs.YtkbnkcdaiahoeaaDoor
open Go Go.RowKit
set_option linter.unusedVariables false
set_option linter.unusedSimpArgs false
section
variable {P : Program} {ι : Nat → Gh} {U : Nat → Prop} {L : Lim} {w : World} {C : Caps} {m : Nat} {K : X → Del → Prop} {e : Operand → X} {ρ : Operand → Value} {wr av : Nat → Prop}

/-- What an append reads. -/
def SrcOk (L : Lim) (w : World) (k : Nat) (es : List (List D)) (v : Value) : Prop :=
  (v = .slice none 0 0 ∧ es = []) ∨ ∃ ad c, ∃ us : Nat → Nat → Value, v = .slice (some ad) es.length c ∧
    ∀ i (hi : i < es.length), (es[i]'hi).length = k ∧ ∀ j (hj : j < (es[i]'hi).length), w.cell? (ad.add (i * k + j)) = some (us i j) ∧ Den L w ((es[i]'hi)[j]'hj) (us i j)

theorem add_lit (b o j : Nat) : (⟨b, o, none⟩ : Addr).add j = ⟨b, o + j, none⟩ := by unfold Addr.add; split <;> simp_all
theorem cap_vec {nm : Nat} (hW : WR ι U L w C) {ty : TypeId} {k a len : Nat} {es : List (List D)} (hc : C nm = some (.vec ty k es)) {v : Value} (hr : Rel ι U L w (.vec nm k a len) v) (hle : a + len ≤ es.length) : SrcOk L w k ((es.drop a).take len) v := by
  have hlen : ((es.drop a).take len).length = len := by simp; omega
  rcases hW.ok nm _ hc with ⟨hnl, rfl⟩ | ⟨hnl, us, h1, h2, h3, h4, h5⟩
  · cases hr with
    | vec hn hnl' hle' ho => rw [hnl] at hnl'; cases hnl'
    | vec0 hn hnl' => exact .inl ⟨rfl, by simp⟩
  · cases hr with
    | vec0 hn hnl' => rw [hnl] at hnl'; cases hnl'
    | @vec _ _ _ _ o hn hnl' hle' ho =>
      have hv : Value.slice (some ⟨(ι nm).b, o, none⟩) len ((ι nm).cap - a) = .slice (some ⟨(ι nm).b, o, none⟩) ((es.drop a).take len).length ((ι nm).cap - a) := by rw [hlen]
      refine .inr ⟨_, _, fun i j => us.getD ((a + i) * k + j) undef, hv, fun i hi => ?_⟩
      rw [hlen] at hi
      have hel : ((es.drop a).take len)[i]'(by rw [hlen]; exact hi) = es[a + i]'(by omega) := by simp
      obtain ⟨hk, h6⟩ := h5 (a + i) (by omega)
      have ho' : o = a * k := by rcases ho with h | ⟨h, _⟩; exact h; omega
      rw [hel]
      refine ⟨hk, fun j hj => ⟨?_, ?_⟩⟩
      · have hb : (a + i) * k + j < us.length := by
          rw [h2]
          have : (a + i + 1) * k ≤ (ι nm).cap * k := Nat.mul_le_mul_right k (by omega)
          rw [Nat.add_mul] at this; omega
        subst ho'
        rw [add_lit, show a * k + (i * k + j) = (a + i) * k + j from by rw [Nat.add_mul]; omega]
        simp [World.cell?, h1, List.getElem?_eq_getElem hb]
      · have := h6 j (by rw [← hel] at hj ⊢; exact hj)
        simpa [hel] using this

theorem src_sound (hW : WR ι U L w C) {k : Nat} {x : X} {v : Value} (hr : Rel ι U L w x v) {K' : List (List D) → Prop} (h : aSrc av C k x K') : ∃ es, SrcOk L w k es v ∧ K' es := by
  unfold aSrc at h
  split at h
  · rename_i es
    obtain ⟨hk, h⟩ := h
    refine ⟨es, ?_, h⟩
    obtain ⟨a, c, rfl, hc, hB, h0, us, hs, hd⟩ := hr.sl_inv
    by_cases he : es = []
    · subst he
      cases a with
      | none => left; simp [h0 rfl]
      | some a => exact .inr ⟨a, c, us, rfl, fun i hi => absurd hi (by simp)⟩
    · obtain ⟨b, o, k', rfl, h1⟩ := hs he
      have hk' : k' = k := by
        have hp : 0 < es.length := List.length_pos_iff.2 he
        rw [← (h1 0 hp).1]; exact hk _ (List.getElem_mem _)
      subst hk'
      refine .inr ⟨_, c, us, rfl, fun i hi => ⟨(h1 i hi).1, fun j hj => ⟨?_, hd i hi j hj⟩⟩⟩
      have := ((h1 i hi).2 j (by rw [← (h1 i hi).1]; exact hj)).2
      rw [add_lit]; rwa [Nat.add_assoc] at this
  · obtain rfl := hr.nil_inv
    exact ⟨[], .inl ⟨rfl, rfl⟩, h⟩
  · rename_i nm k' a len
    obtain ⟨-, rfl, h⟩ := h
    split at h
    · rename_i ty k'' es hc
      obtain ⟨rfl, hle, h⟩ := h
      exact ⟨_, cap_vec hW hc hr hle, h⟩
    · exact h.elim
  · exact h.elim

theorem Rel.vec_inv {nm k a len : Nat} {v : Value} (h : Rel ι U L w (.vec nm k a len) v) : U nm ∧ (((ι nm).nl = true ∧ a = 0 ∧ len = 0 ∧ v = .slice none 0 0) ∨
    ((ι nm).nl = false ∧ ∃ o, v = .slice (some ⟨(ι nm).b, o, none⟩) len ((ι nm).cap - a) ∧ a + len ≤ (ι nm).cap ∧ (o = a * k ∨ (len = 0 ∧ a ≠ 0)))) := by
  cases h with
  | vec hn hnl hle ho => exact ⟨hn, .inr ⟨hnl, _, rfl, hle, ho⟩⟩
  | vec0 hn hnl => exact ⟨hn, .inl ⟨hnl, rfl, rfl, rfl⟩⟩
theorem ownsRow_of (hW : WR ι U L w C) {nm : Nat} {el : TypeId} {k : Nat} {es : List (List D)} (hc : C nm = some (.vec el k es)) {v : Value} (hr : Rel ι U L w (.vec nm k 0 es.length) v) :
    ∃ xs, w.ownsRow 0 el k v es.length xs ∧ (v.ownBlock = none ∨ ((ι nm).nl = false ∧ v.ownBlock = some (ι nm).b)) ∧
      ∀ i (hi : i < es.length), (es[i]'hi).length = k ∧ ∀ j (hj : j < (es[i]'hi).length), Den L w ((es[i]'hi)[j]'hj) (xs.getD (i * k + j) undef) := by
  rcases hW.ok nm _ hc with ⟨hnl, rfl⟩ | ⟨hnl, us, h1, h2, h3, h4, h5⟩
  · obtain ⟨hn, ⟨-, -, -, rfl⟩ | ⟨hnl', -⟩⟩ := hr.vec_inv
    · exact ⟨[], ⟨by simp, .inl ⟨rfl, rfl⟩⟩, .inl rfl, fun i hi => absurd hi (by simp)⟩
    · rw [hnl] at hnl'; cases hnl'
  · obtain ⟨hn, ⟨hnl', -⟩ | ⟨-, o, rfl, hle', ho⟩⟩ := hr.vec_inv
    · rw [hnl] at hnl'; cases hnl'
    · obtain rfl : o = 0 := by rcases ho with h | ⟨_, h⟩; simpa using h; exact absurd rfl h
      have hle2 : es.length * k ≤ us.length := by rw [h2]; exact Nat.mul_le_mul_right k h3
      refine ⟨us.take (es.length * k), ⟨by simp; omega, .inr ⟨(ι nm).b, (ι nm).cap, us.toArray, by simp, Nat.zero_le _, h1, h3, h4, by simpa using h2, by simp⟩⟩, .inr ⟨hnl, rfl⟩, fun i hi => ⟨(h5 i hi).1, fun j hj => ?_⟩⟩
      have hb : i * k + j < es.length * k := by
        have hk := (h5 i hi).1
        have : (i + 1) * k ≤ es.length * k := Nat.mul_le_mul_right k hi
        rw [Nat.add_mul] at this; omega
      have := (h5 i hi).2 j hj
      simpa [List.getD_eq_getElem?_getD, List.getElem?_take, hb] using this

/-- What is known of the target. -/
theorem dst_sound (hW : WR ι U L w C) {el : TypeId} {k : Nat} {x : X} {v : Value} (hr : Rel ι U L w x v) {K' : List (List D) → Del → Prop} (h : aDst wr av C el k x K') :
    ∃ es δ xs, K' es δ ∧ w.ownsRow 0 el k v es.length xs ∧ (∀ i (hi : i < es.length), (es[i]'hi).length = k ∧ ∀ j (hj : j < (es[i]'hi).length), Den L w ((es[i]'hi)[j]'hj) (xs.getD (i * k + j) undef)) ∧
      ((δ = [] ∧ v.ownBlock = none) ∨ ∃ nm, δ = [(nm, none)] ∧ C nm ≠ none ∧ (v.ownBlock = none ∨ ((ι nm).nl = false ∧ v.ownBlock = some (ι nm).b))) := by
  unfold aDst at h
  split at h
  · obtain rfl := hr.nil_inv
    exact ⟨[], [], [], h, ⟨by simp, .inl ⟨rfl, rfl⟩⟩, fun i hi => absurd hi (by simp), .inl ⟨rfl, rfl⟩⟩
  · rename_i nm k' a len
    obtain ⟨-, -, rfl, rfl, h⟩ := h
    split at h
    · rename_i e' k'' es hc
      obtain ⟨rfl, rfl, rfl, h⟩ := h
      obtain ⟨xs, h1, h2, h3⟩ := ownsRow_of hW hc hr
      exact ⟨es, _, xs, h, h1, h3, .inr ⟨nm, rfl, by simp [hc], h2⟩⟩
    · exact h.elim
  · exact h.elim

theorem _root_.Go.World.grownBy.refl' (w : World) (row : Option Nat) : w.grownBy w row := ⟨rfl, rfl, rfl, Nat.le_refl _, fun _ _ _ => rfl⟩
theorem app_append (δ δ' : Del) (C : Caps) : app (δ ++ δ') C = app δ' (app δ C) := by
  induction δ generalizing C with
  | nil => rfl
  | cons p δ ih => exact ih _
theorem Aft.add (hW : WR ι U L w C) (hm : ¬ U m) {δ : Del} (hsub : ∀ n c, app δ C n = some c → C n = some c) {g : Gh} {c : Cap} {x : X} {v : Value} {w' : World} {L' : Lim} (he : Evo L w L' w')
    (hold : ∀ n, app δ C n ≠ none → (ι n).nl = false → w'.heap[(ι n).b]? = w.heap[(ι n).b]? ∧ L' (ι n).b = true ∧ (g.nl = false → (ι n).b ≠ g.b))
    (hb : g.nl = false → L' g.b = true) (hc : CapOk (upd ι m g) (fun n => U n ∨ n = m) L' w' m c) (hx : Rel (upd ι m g) (fun n => U n ∨ n = m) L' w' x v) (hK : K x (δ ++ [(m, some c)])) (hfr : Fr ι C L w (upd ι m g) (upd (app δ C) m (some c)) L' w') : Aft ι U L w C m K v w' := by
  refine ⟨x, _, upd ι m g, L', hK, hx, ?_, he, fun n hn => upd_other _ _ _ _ hn, by rw [app_append, app_one]; exact hfr⟩
  rw [app_append, app_one]
  have hne : ∀ n, n ≠ m → upd (app δ C) m (some c) n ≠ none → app δ C n ≠ none := by intro n hn h; rwa [upd_other _ _ _ _ hn] at h
  have hsub' : ∀ n, app δ C n ≠ none → C n ≠ none := by
    intro n hn
    obtain ⟨c, hc⟩ := Option.ne_none_iff_exists'.1 hn
    simp [hsub n c hc]
  refine ⟨?_, ?_, ?_, ?_, hW.glob.mono he.stab⟩
  · intro n c' hc'
    by_cases hn : n = m
    · subst hn; rw [upd_same] at hc'; cases hc'; exact hc
    · rw [upd_other _ _ _ _ hn] at hc'
      have hcc := hsub n c' hc'
      have hu := hW.used n (by simp [hcc])
      exact (hW.ok n c' hcc).grow hu (upd_U hm g) (fun _ h => .inl h) he.stab (fun hl => (hold n (by simp [hc']) hl).1)
  · intro n hn hl
    by_cases hnm : n = m
    · subst hnm; rw [upd_same] at hl ⊢; exact hb hl
    · have h0 := hne n hnm hn
      rw [upd_other _ _ _ _ hnm] at hl ⊢
      exact (hold n h0 hl).2.1
  · intro n k hn hk hl hl' hbb
    by_cases hnm : n = m
    · by_cases hkm : k = m
      · rw [hnm, hkm]
      · subst hnm
        rw [upd_same] at hl hbb; rw [upd_other _ _ _ _ hkm] at hl' hbb
        exact absurd hbb.symm ((hold k (hne k hkm hk) hl').2.2 hl)
    · by_cases hkm : k = m
      · subst hkm
        rw [upd_same] at hl' hbb; rw [upd_other _ _ _ _ hnm] at hl hbb
        exact absurd hbb ((hold n (hne n hnm hn) hl).2.2 hl')
      · rw [upd_other _ _ _ _ hnm] at hl hbb; rw [upd_other _ _ _ _ hkm] at hl' hbb
        exact hW.inj n k (hsub' _ (hne n hnm hn)) (hsub' _ (hne k hkm hk)) hl hl' hbb
  · intro n hn
    by_cases hnm : n = m
    · exact .inr hnm
    · exact .inl (hW.used n (hsub' _ (hne n hnm hn)))

/-- Behind an append: the row has the name m; the name that it had before is gone. -/
theorem Aft.appended (hW : WR ι U L w C) (hm : ¬ U m) {el : TypeId} {k : Nat} {es : List (List D)} {v v' : Value} {xs : List Value} {w' : World} {δ : Del}
    (hown : w'.ownsRow 0 el k v' es.length xs) (hg : w.grownBy w' v.ownBlock) (hat : v'.ownBlock = v.ownBlock ∨ v'.ownBlock = some w.heap.size)
    (hδ : (δ = [] ∧ v.ownBlock = none) ∨ ∃ nm, δ = [(nm, none)] ∧ C nm ≠ none ∧ (v.ownBlock = none ∨ ((ι nm).nl = false ∧ v.ownBlock = some (ι nm).b)))
    (hd : ∀ L' , Evo L w L' w' → ∀ i (hi : i < es.length), (es[i]'hi).length = k ∧ ∀ j (hj : j < (es[i]'hi).length), Den L' w' ((es[i]'hi)[j]'hj) (xs.getD (i * k + j) undef))
    (hK : K (.vec m k 0 es.length) (δ ++ [(m, some (.vec el k es))])) : Aft ι U L w C m K v' w' := by
  have hsub : ∀ n c, app δ C n = some c → C n = some c := by
    intro n c hc
    rcases hδ with ⟨rfl, -⟩ | ⟨nm, rfl, -⟩
    · exact hc
    · rw [app_one] at hc
      by_cases hn : n = nm
      · subst hn; rw [upd_same] at hc; cases hc
      · rwa [upd_other _ _ _ _ hn] at hc
  have hlive : ∀ n, app δ C n ≠ none → (ι n).nl = false → C n ≠ none ∧ some (ι n).b ≠ v.ownBlock := by
    intro n hn hl
    obtain ⟨c, hc⟩ := Option.ne_none_iff_exists'.1 hn
    have h0 := hsub n c hc
    refine ⟨by simp [h0], ?_⟩
    rcases hδ with ⟨rfl, h⟩ | ⟨nm, rfl, hnm, h | ⟨h1, h2⟩⟩
    · rw [h]; simp
    · rw [h]; simp
    · rw [h2]
      intro hh
      have := hW.inj n nm (by simp [h0]) hnm hl h1 (by simpa using hh)
      subst this
      rw [app_one, upd_same] at hc; cases hc
  have hrow : ∀ b, L b = false → some b ≠ v.ownBlock := by
    intro b hb hh
    rcases hδ with ⟨rfl, h⟩ | ⟨nm, rfl, hnm, h | ⟨h1, h2⟩⟩
    · rw [h] at hh; cases hh
    · rw [h] at hh; cases hh
    · rw [h2] at hh
      have hlim := hW.lim nm hnm h1
      have : b = (ι nm).b := by simpa using hh
      rw [this, hlim] at hb; cases hb
  have hevo : ∀ L', (∀ b, L b = false → b < w.heap.size → L' b = false) → Evo L w L' w' := fun L' hL => ⟨hg.os, hg.tape, hg.output, hg.size, fun b hb hl => ⟨hL b hl hb, hg.block b hb (hrow b hl)⟩⟩
  have hnrow : ∀ b, (∀ n, C n ≠ none → (ι n).nl = false → (ι n).b ≠ b) → some b ≠ v.ownBlock := by
    intro b hb hh
    rcases hδ with ⟨rfl, h⟩ | ⟨nm, rfl, hnm, h | ⟨h1, h2⟩⟩
    · rw [h] at hh; cases hh
    · rw [h] at hh; cases hh
    · rw [h2] at hh; exact hb nm hnm h1 (by simpa using hh.symm)
  rcases hown.2 with ⟨rfl, hn0⟩ | ⟨g, cap, cur, rfl, -, hgb, hnc, hcm, hcs, htk⟩
  · have hes : es = [] := List.eq_nil_of_length_eq_zero hn0
    subst hes
    have he := hevo L (fun b h _ => h)
    have hx : Rel (upd ι m ⟨0, 0, true⟩) (fun n => U n ∨ n = m) L w' (.vec m k 0 0) (.slice none 0 0) := .vec0 (.inr rfl) (by rw [upd_same])
    refine Aft.add hW hm hsub (g := ⟨0, 0, true⟩) (c := .vec el k []) (L' := L) he (fun n hn hl => ?_) (fun h => by cases h) (Or.inl ⟨by rw [upd_same], rfl⟩) hx hK ⟨fun b hb hne => ⟨hg.block b hb (hnrow b hne), rfl⟩, fun n hn hl => ?_⟩
    rotate_left
    · by_cases hnm : n = m
      · subst hnm; rw [upd_same] at hl; cases hl
      · rw [upd_other _ _ _ _ hnm] at hn hl ⊢; exact .inr ⟨n, (hlive n hn hl).1, hl, rfl⟩
    obtain ⟨h1, h2⟩ := hlive n hn hl
    exact ⟨hg.block _ (hW.lt h1 hl) h2, hW.lim n h1 hl, fun h => by cases h⟩
  · have hgn : ∀ b, L b = false → b < w.heap.size → b ≠ g := by
      intro b hb hlt hh
      subst hh
      rcases hat with h | h
      · exact hrow _ hb (by rw [← h]; rfl)
      · simp [Value.ownBlock] at h; omega
    have he := hevo (upd L g true) (fun b h hlt => by rw [upd_other _ _ _ _ (hgn b h hlt)]; exact h)
    have hx : Rel (upd ι m ⟨g, cap, false⟩) (fun n => U n ∨ n = m) (upd L g true) w' (.vec m k 0 es.length) (.slice (some ⟨g, 0, none⟩) es.length cap) := by
      have := Rel.vec (ι := upd ι m ⟨g, cap, false⟩) (U := fun n => U n ∨ n = m) (L := upd L g true) (w := w') (n := m) (k := k) (a := 0) (len := es.length) (o := 0) (.inr rfl) (by rw [upd_same]) (by rw [upd_same]; show 0 + es.length ≤ cap; omega) (.inl (by simp))
      rwa [upd_same] at this
    refine Aft.add hW hm hsub (g := ⟨g, cap, false⟩) (L' := upd L g true) he (fun n hn hl => ?_) (fun _ => upd_same _ _ _) ?_ hx hK ⟨fun b hb hne => ⟨hg.block b hb (hnrow b hne), upd_other _ _ _ _ (fun h => ?_)⟩, fun n hn hl => ?_⟩
    rotate_right 2
    · subst h
      rcases hat with h | h
      · exact hnrow b hne (by rw [← h]; rfl)
      · simp [Value.ownBlock] at h; omega
    · by_cases hnm : n = m
      · subst hnm; rw [upd_same] at hl ⊢
        rcases hat with h | h
        · rcases hδ with ⟨rfl, h'⟩ | ⟨nm, rfl, hnm, h' | ⟨h1, h2⟩⟩
          · rw [h'] at h; cases h
          · rw [h'] at h; cases h
          · rw [h2] at h; exact .inr ⟨nm, hnm, h1, by simpa [Value.ownBlock] using h.symm⟩
        · left; simp [Value.ownBlock] at h; simp [h]
      · rw [upd_other _ _ _ _ hnm] at hn hl ⊢; exact .inr ⟨n, (hlive n hn hl).1, hl, rfl⟩
    · obtain ⟨h1, h2⟩ := hlive n hn hl
      have hlt := hW.lt h1 hl
      have hng : (ι n).b ≠ g := by
        intro hh
        rcases hat with h | h
        · apply h2; rw [← h, hh]; rfl
        · simp [Value.ownBlock] at h; omega
      exact ⟨hg.block _ hlt h2, by rw [upd_other _ _ _ _ hng]; exact hW.lim n h1 hl, fun _ => hng⟩
    · refine .inr ⟨by rw [upd_same], cur.toList, by rw [upd_same]; simpa using hgb, by rw [upd_same]; simpa using hcs, by rw [upd_same]; exact hnc, by rw [upd_same]; exact hcm, fun i hi => ⟨(hd _ he i hi).1, fun j hj => ?_⟩⟩
      have h := (hd _ he i hi).2 j hj
      have hb : i * k + j < es.length * k := by
        have hk := (hd _ he i hi).1
        have : (i + 1) * k ≤ es.length * k := Nat.mul_le_mul_right k hi
        rw [Nat.add_mul] at this; omega
      rw [← htk] at h
      simpa [List.getD_eq_getElem?_getD, List.getElem?_take, hb] using h

theorem append_sound (hW : WR ι U L w C) (hm : ¬ U m) {t ty el : TypeId} {k by_ : Nat} (ht : telem P t = some (el, k, by_)) (hk : 0 < k) (hz : (tzero P el).map (·.length) = some k) {s x : X} {vs vx : Value} (rs : Rel ι U L w s vs) (rx : Rel ι U L w x vx)
    (h : aDst wr av C el k s fun es δ => aSrc av C k x fun es2 => (es.length + es2.length) * by_ ≤ 140737488355328 ∧ K (.vec m k 0 (es.length + es2.length)) (δ ++ [(m, some (.vec el k (es ++ es2)))])) (hby0 : 0 < by_) :
    ∃ v w', (Builtin.append_ #[t, t] ty #[vs, vx]).run P w = .ok v w' ∧ Aft ι U L w C m K v w' := by
  obtain ⟨i, hu, hi, hsz, hby, hso, -⟩ := telem_inv (w := w) ht
  obtain ⟨zs, hz1, hz2⟩ := Option.map_eq_some_iff.1 hz
  obtain ⟨z, i', hi', hz0, hz', rfl⟩ := tzero_inv (w := w) hz1
  rw [hi] at hi'; cases hi'
  have hzs : z.cells.size = k := by simpa using hz2
  obtain ⟨es, δ, xs, h, hown, hd, hδ⟩ := dst_sound hW rs h
  obtain ⟨es2, hsrc, hbytes, hK⟩ := src_sound hW rx h
  rcases hsrc with ⟨rfl, rfl⟩ | ⟨ad, c, us, rfl, hs⟩
  · have hrun := run_append_owned_none (P := P) w 0 t ty el i k hu hi vs es.length xs hown
    refine ⟨_, _, hrun, ?_⟩
    simp only [List.append_nil, List.length_nil, Nat.add_zero] at hK
    exact Aft.appended hW hm hown (World.grownBy.refl' w _) (.inl rfl) hδ (fun L' he i hi => ⟨(hd i hi).1, fun j hj => ((hd i hi).2 j hj).mono he.stab⟩) hK
  · have hnews : ∀ q, q < es2.length * k → w.cell? (ad.add q) = some (us (q / k) (q % k)) := by
      intro q hq
      have h1 : q / k < es2.length := Nat.div_lt_of_lt_mul (by rw [Nat.mul_comm]; exact hq)
      have h2 := ((hs _ h1).2 (q % k) (by rw [(hs _ h1).1]; exact Nat.mod_lt _ hk)).1
      rwa [Nat.div_add_mod'] at h2
    have hone : ∀ q, q < es2.length * k → (us (q / k) (q % k)).oneCell' = true := by
      intro q hq
      have h1 : q / k < es2.length := Nat.div_lt_of_lt_mul (by rw [Nat.mul_comm]; exact hq)
      exact ((hs _ h1).2 (q % k) (by rw [(hs _ h1).1]; exact Nat.mod_lt _ hk)).2.one
    have hsum : es.length + es2.length ≤ 140737488355328 := Nat.le_trans (Nat.le_mul_of_pos_right _ hby0) hbytes
    obtain ⟨v', w', hrun, hown', hg, -, hat⟩ := run_append_own_at (P := P) w 0 t ty el i z k by_ hu hi hz0 hsz hby hzs hk vs es.length xs hown ad es2.length c ((List.range (es2.length * k)).map fun q => us (q / k) (q % k)) (by simp)
      (fun j u hj => by
        rw [List.getElem?_map] at hj
        obtain ⟨q, hq, rfl⟩ := Option.map_eq_some_iff.1 hj
        obtain ⟨hq1, hq2⟩ := List.getElem?_eq_some_iff.1 hq
        simp at hq1 hq2; subst hq2; exact hnews _ hq1)
      (fun u hu => by
        obtain ⟨q, hq, rfl⟩ := List.mem_map.1 hu
        exact hone q (List.mem_range.1 hq))
      (by simp only [maxLen]; omega) hbytes (Nat.zero_le _)
    refine ⟨v', w', hrun, ?_⟩
    have hlen : (es ++ es2).length = es.length + es2.length := List.length_append
    rw [← hlen] at hown' hK
    refine Aft.appended hW hm hown' hg hat hδ (fun L' he i hi => ?_) hK
    have hxl : xs.length = es.length * k := hown.1
    by_cases hie : i < es.length
    · have e1 : (es ++ es2)[i]'hi = es[i]'hie := List.getElem_append_left hie
      have := hd i hie
      rw [e1]
      refine ⟨this.1, fun j hj => ?_⟩
      have hb : i * k + j < xs.length := by
        have h2 : (i + 1) * k ≤ es.length * k := Nat.mul_le_mul_right k hie
        rw [Nat.add_mul] at h2
        have := this.1
        omega
      have e2 : (xs ++ (List.range (es2.length * k)).map fun q => us (q / k) (q % k)).getD (i * k + j) undef = xs.getD (i * k + j) undef := by
        simp only [List.getD_eq_getElem?_getD, List.getElem?_append_left hb]
      rw [e2]
      exact (this.2 j hj).mono he.stab
    · have hi2 : i - es.length < es2.length := by rw [hlen] at hi; omega
      have e1 : (es ++ es2)[i]'hi = es2[i - es.length]'hi2 := List.getElem_append_right (by omega)
      have := hs _ hi2
      rw [e1]
      refine ⟨this.1, fun j hj => ?_⟩
      have hj' : j < k := by have := this.1; omega
      have e3 : i * k + j = es.length * k + ((i - es.length) * k + j) := by
        rw [← Nat.add_assoc, ← Nat.add_mul]; congr 2; omega
      have hq : (i - es.length) * k + j < es2.length * k := by
        have h2 : (i - es.length + 1) * k ≤ es2.length * k := Nat.mul_le_mul_right k hi2
        rw [Nat.add_mul] at h2; omega
      have e2 : (xs ++ (List.range (es2.length * k)).map fun q => us (q / k) (q % k)).getD (i * k + j) undef = us (i - es.length) j := by
        rw [List.getD_eq_getElem?_getD, List.getElem?_append_right (by rw [hxl, e3]; omega), hxl, e3, Nat.add_sub_cancel_left, List.getElem?_map, List.getElem?_range hq]
        simp only [Option.map_some, Option.getD_some]
        congr 1
        · rw [Nat.mul_comm, Nat.mul_add_div hk, Nat.div_eq_of_lt hj', Nat.add_zero]
        · rw [Nat.mul_comm, Nat.mul_add_mod, Nat.mod_eq_of_lt hj']
      rw [e2]
      exact (this.2 j hj).2.mono he.stab
theorem cap_us {nm : Nat} (hW : WR ι U L w C) {ty : TypeId} {k : Nat} {es : List (List D)} (hc : C nm = some (.vec ty k es)) (hne : es ≠ []) : (ι nm).nl = false ∧ ∃ us : List Value, w.heap[(ι nm).b]? = some (.cells us.toArray ty (0, 0)) ∧ us.length = (ι nm).cap * k ∧ es.length ≤ (ι nm).cap ∧ (ι nm).cap ≤ top ∧
    ∀ i (hi : i < es.length), (es[i]'hi).length = k ∧ ∀ j (hj : j < (es[i]'hi).length), Den L w ((es[i]'hi)[j]'hj) (us.getD (i * k + j) undef) := by
  rcases hW.ok nm _ hc with ⟨-, h⟩ | ⟨h1, us, h⟩
  · exact absurd h hne
  · exact ⟨h1, us, h⟩
/-- Cells put over a part of an own row. -/
theorem row_put {nm : Nat} (hW : WR ι U L w C) {ty : TypeId} {k : Nat} {es es2 : List (List D)} (hc : C nm = some (.vec ty k es)) (hl : (ι nm).nl = false) {us : List Value} (h1 : w.heap[(ι nm).b]? = some (.cells us.toArray ty (0, 0))) (h2 : us.length = (ι nm).cap * k) (h3 : es.length ≤ (ι nm).cap) (h4 : (ι nm).cap ≤ top)
    (h5 : ∀ i (hi : i < es.length), (es[i]'hi).length = k ∧ ∀ j (hj : j < (es[i]'hi).length), Den L w ((es[i]'hi)[j]'hj) (us.getD (i * k + j) undef)) (hk : 0 < k) {a : Nat} {news : List Value} (ha : a + es2.length ≤ es.length) (hn : news.length = es2.length * k)
    (hd : ∀ i (hi : i < es2.length), (es2[i]'hi).length = k ∧ ∀ j (hj : j < (es2[i]'hi).length), Den L w ((es2[i]'hi)[j]'hj) (news.getD (i * k + j) undef)) {x : X} {v : Value} (hx : ∀ L' w', Evo L w L' w' → Rel ι U L' w' x v) (hK : K x [(nm, some (.vec ty k (es.take a ++ es2 ++ es.drop (a + es2.length))))]) :
    Aft ι U L w C m K v (w.setRow (ι nm).b (us.take (a * k) ++ news ++ us.drop (a * k + news.length)).toArray) := by
  have hfit : a * k + news.length ≤ us.length := by
    rw [hn, h2, ← Nat.add_mul]
    exact Nat.mul_le_mul_right k (by omega)
  refine Aft.write hW hc hl (c' := .vec ty k (es.take a ++ es2 ++ es.drop (a + es2.length))) (fun L' w' he hh => ?_) hx hK
  have hlen : (es.take a ++ es2 ++ es.drop (a + es2.length)).length = es.length := by simp; omega
  refine .inr ⟨hl, _, by rw [hh]; exact setRow_heap w _ _ _ ty (0, 0) h1, by simp; omega, by rw [hlen]; exact h3, h4, fun i hi => ?_⟩
  rw [hlen] at hi
  have hsp : (us.take (a * k) ++ news ++ us.drop (a * k + news.length)) = splice us (a * k) news := rfl
  rw [hsp]
  by_cases c1 : i < a
  · have e : (es.take a ++ es2 ++ es.drop (a + es2.length))[i]'(by rw [hlen]; exact hi) = es[i] := by
      rw [List.getElem_append_left (by simp; omega), List.getElem_append_left (by simp; omega)]; simp
    rw [e]
    refine ⟨(h5 i hi).1, fun j hj => ?_⟩
    have hjk : j < k := by rw [(h5 i hi).1] at hj; exact hj
    have : (i + 1) * k ≤ a * k := Nat.mul_le_mul_right k c1
    rw [Nat.add_mul] at this
    rw [getD_splice _ _ _ _ hfit, if_neg (by omega)]
    exact ((h5 i hi).2 j hj).mono he.stab
  · by_cases c2 : i < a + es2.length
    · have hi2 : i - a < es2.length := by omega
      have e : (es.take a ++ es2 ++ es.drop (a + es2.length))[i]'(by rw [hlen]; exact hi) = es2[i - a] := by
        rw [List.getElem_append_left (by simp; omega), List.getElem_append_right (by simp; omega)]
        simp [Nat.min_eq_left (show a ≤ es.length by omega)]
      rw [e]
      refine ⟨(hd _ hi2).1, fun j hj => ?_⟩
      have hjk : j < k := by rw [(hd _ hi2).1] at hj; exact hj
      have h6 : (i - a + 1) * k ≤ es2.length * k := Nat.mul_le_mul_right k hi2
      rw [Nat.add_mul] at h6
      have h7 : i * k = a * k + (i - a) * k := by rw [← Nat.add_mul]; congr 1; omega
      rw [getD_splice _ _ _ _ hfit, if_pos (by omega), show i * k + j - a * k = (i - a) * k + j by omega]
      exact ((hd _ hi2).2 j hj).mono he.stab
    · have e : (es.take a ++ es2 ++ es.drop (a + es2.length))[i]'(by rw [hlen]; exact hi) = es[i] := by
        rw [List.getElem_append_right (by simp; omega)]
        simp only [List.length_append, List.length_take, List.getElem_drop]
        congr 1
        omega
      rw [e]
      refine ⟨(h5 i hi).1, fun j hj => ?_⟩
      have h6 : (a + es2.length) * k ≤ i * k := Nat.mul_le_mul_right k (by omega)
      rw [Nat.add_mul] at h6
      rw [getD_splice _ _ _ _ hfit, if_neg (by omega)]
      exact ((h5 i hi).2 j hj).mono he.stab
theorem append_in_sound (hW : WR ι U L w C) {t ty el : TypeId} {k by_ : Nat} (ht : telem P t = some (el, k, by_)) (hk : 0 < k) {s x : X} {vs vx : Value} (rs : Rel ι U L w s vs) (rx : Rel ι U L w x vx) (hp : aPart C s = true) (h : aIn wr av C el k s x K) :
    ∃ v w', (Builtin.append_ #[t, t] ty #[vs, vx]).run P w = .ok v w' ∧ Aft ι U L w C m K v w' := by
  obtain ⟨i, hu, hi, hsz, hby, hso, -⟩ := telem_inv (w := w) ht
  unfold aIn at h
  split at h
  · rename_i n k' a len
    obtain ⟨-, -, hk1, rfl, h⟩ := h
    replace hk1 := hk1.symm
    subst hk1
    split at h
    · rename_i e' k'' es hc
      obtain ⟨he1, hk1, h⟩ := h
      replace he1 := he1.symm
      replace hk1 := hk1.symm
      subst he1
      subst hk1
      have hlt : len < es.length := by simpa [aPart, hc] using hp
      have hne : es ≠ [] := by intro h; rw [h] at hlt; simp at hlt
      obtain ⟨hl, us, h1, h2, h3, h4, h5⟩ := cap_us hW hc hne
      obtain ⟨hn, ⟨hx, -⟩ | ⟨-, o, rfl, hle, ho⟩⟩ := rs.vec_inv
      · rw [hl] at hx; cases hx
      have ho : o = 0 := by omega
      subst ho
      obtain ⟨es2, hsrc, hfit, hK⟩ := src_sound hW rx h
      rcases hsrc with ⟨rfl, rfl⟩ | ⟨ad, c, us2, rfl, hs⟩
      · have hrun : (Builtin.append_ #[t, t] ty #[.slice (some ⟨(ι n).b, 0, none⟩) len ((ι n).cap - 0), .slice none 0 0]).run P w = .ok (.slice (some ⟨(ι n).b, 0, none⟩) len ((ι n).cap - 0)) w := by
          have hroom : len ≤ (ι n).cap := by omega
          simp [Builtin.append_, run_underlying hu, sizeOf, typeInfo, hi, Builtin.lenOf, hroom, Builtin.firstCells, storeCells]
        refine ⟨_, _, hrun, ?_⟩
        have e : es.take len ++ [] ++ es.drop (len + ([] : List (List D)).length) = es := by simp
        rw [e] at hK
        simp only [List.length_nil, Nat.add_zero] at hK
        have hself : w.setRow (ι n).b us.toArray = w := setRow_self w _ _ _ (0, 0) h1
        have := Aft.write (m := m) hW hc hl (us := us) (c' := .vec el k es) (v := .slice (some ⟨(ι n).b, 0, none⟩) len ((ι n).cap - 0)) (fun L' w' he hh => .inr ⟨hl, us, by rw [hh, hself]; exact h1, h2, h3, h4, fun i hi => ⟨(h5 i hi).1, fun j hj => ((h5 i hi).2 j hj).mono he.stab⟩⟩) (fun L' w' he => Rel.vec hn hl (by omega) (.inl (by simp))) hK
        rwa [hself] at this
      · have hnews : ∀ q, q < es2.length * k → w.cell? (ad.add q) = some (us2 (q / k) (q % k)) := by
          intro q hq
          have h1 : q / k < es2.length := Nat.div_lt_of_lt_mul (by rw [Nat.mul_comm]; exact hq)
          have h2 := ((hs _ h1).2 (q % k) (by rw [(hs _ h1).1]; exact Nat.mod_lt _ hk)).1
          rwa [Nat.div_add_mod'] at h2
        have hone : ∀ q, q < es2.length * k → (us2 (q / k) (q % k)).oneCell' = true := by
          intro q hq
          have h1 : q / k < es2.length := Nat.div_lt_of_lt_mul (by rw [Nat.mul_comm]; exact hq)
          exact ((hs _ h1).2 (q % k) (by rw [(hs _ h1).1]; exact Nat.mod_lt _ hk)).2.one
        have hnl : ((List.range (es2.length * k)).map fun q => us2 (q / k) (q % k)).length = es2.length * k := by simp
        have hfitc : len * i.size + ((List.range (es2.length * k)).map fun q => us2 (q / k) (q % k)).length ≤ us.toArray.size := by
          rw [hnl, hsz, List.size_toArray, h2, ← Nat.add_mul]
          exact Nat.mul_le_mul_right k (by omega)
        have hrun := run_append_room (P := P) w t ty el i hu hi (ι n).b len ((ι n).cap - 0) us.toArray h1 ad es2.length c ((List.range (es2.length * k)).map fun q => us2 (q / k) (q % k)) (by rw [hnl, hsz])
          (fun j u hj => by
            rw [List.getElem?_map] at hj
            obtain ⟨q, hq, rfl⟩ := Option.map_eq_some_iff.1 hj
            obtain ⟨hq1, hq2⟩ := List.getElem?_eq_some_iff.1 hq
            simp at hq1 hq2; subst hq2; exact hnews _ hq1)
          (fun u hu => by
            obtain ⟨q, hq, rfl⟩ := List.mem_map.1 hu
            exact hone q (List.mem_range.1 hq))
          (by omega) hfitc
        refine ⟨_, _, hrun, ?_⟩
        rw [hsz]
        refine row_put hW hc hl h1 h2 h3 h4 h5 hk hfit hnl (fun i hi => ⟨(hs i hi).1, fun j hj => ?_⟩) (fun L' w' he => Rel.vec hn hl (by omega) (.inl (by simp))) hK
        have hj' : j < k := by have := (hs i hi).1; omega
        have hq : i * k + j < es2.length * k := by
          have h2 : (i + 1) * k ≤ es2.length * k := Nat.mul_le_mul_right k hi
          rw [Nat.add_mul] at h2; omega
        rw [List.getD_eq_getElem?_getD, List.getElem?_map, List.getElem?_range hq]
        simp only [Option.map_some, Option.getD_some]
        have e1 : (i * k + j) / k = i := by rw [Nat.mul_comm, Nat.mul_add_div hk, Nat.div_eq_of_lt hj', Nat.add_zero]
        have e2 : (i * k + j) % k = j := by rw [Nat.mul_comm, Nat.mul_add_mod, Nat.mod_eq_of_lt hj']
        rw [e1, e2]
        exact ((hs i hi).2 j hj).2
    · exact h.elim
  · exact h.elim
theorem clear_sound (hW : WR ι U L w C) {t ty el : TypeId} {k by_ : Nat} (ht : telem P t = some (el, k, by_)) (hk : 0 < k) {z : List D} (hz : (tzero P el).bind datL = some z) (hzk : z.length = k) {x : X} {vx : Value} (rx : Rel ι U L w x vx) (h : aClear wr av C el k z x K) :
    ∃ v w', (Builtin.clear_ #[t] ty #[vx]).run P w = .ok v w' ∧ Aft ι U L w C m K v w' := by
  obtain ⟨i, hu, hi, hsz, hby, hso, -⟩ := telem_inv (w := w) ht
  obtain ⟨zs, hz1, hz2⟩ := Option.bind_eq_some_iff.1 hz
  obtain ⟨zv, i', hi', hz0, hz', rfl⟩ := tzero_inv (w := w) hz1
  obtain ⟨d1, d2⟩ := datL_rel (ι := ι) (U := U) (L := L) (w := w) hz2 (us := zv.cells.toList) (lits_rel _)
  have hzs : zv.cells.size = k := by simp at d1; omega
  unfold aClear at h
  split at h
  · rename_i n k' a len
    obtain ⟨-, -, hk1, h⟩ := h
    replace hk1 := hk1.symm
    subst hk1
    split at h
    · rename_i e' k'' es hc
      obtain ⟨he1, hk1, hle0, hne, hK⟩ := h
      replace he1 := he1.symm
      replace hk1 := hk1.symm
      subst he1
      subst hk1
      obtain ⟨hl, us, h1, h2, h3, h4, h5⟩ := cap_us hW hc hne
      obtain ⟨hn, ⟨hx, -⟩ | ⟨-, o, rfl, hle, ho⟩⟩ := rx.vec_inv
      · rw [hl] at hx; cases hx
      by_cases hlen : len = 0
      · subst hlen
        have hrun : (Builtin.clear_ #[t] ty #[.slice (some ⟨(ι n).b, o, none⟩) 0 ((ι n).cap - a)]).run P w = .ok (.tuple #[]) w := by
          simp [Builtin.clear_, run_underlying hu]
        refine ⟨_, _, hrun, ?_⟩
        have hself : w.setRow (ι n).b us.toArray = w := setRow_self w _ _ _ (0, 0) h1
        have e : es.take a ++ List.replicate 0 z ++ es.drop (a + 0) = es := by simp
        rw [e] at hK
        have := Aft.write (m := m) hW hc hl (us := us) (c' := .vec el k es) (v := .tuple #[]) (fun L' w' he hh => .inr ⟨hl, us, by rw [hh, hself]; exact h1, h2, h3, h4, fun i hi => ⟨(h5 i hi).1, fun j hj => ((h5 i hi).2 j hj).mono he.stab⟩⟩) (fun L' w' he => .junk _) hK
        rwa [hself] at this
      · have ho : o = a * k := by omega
        subst ho
        have hzl : (Builtin.zeroCells zv.cells len).toList = (List.range (len * k)).map fun j => zv.cells.toList.getD (j % k) undef := by
          simp only [Builtin.zeroCells, hzs, ← List.toArray_range, List.map_toArray]
          apply List.map_congr_left
          intro j _
          have hlt : j % k < zv.cells.size := by rw [hzs]; exact Nat.mod_lt _ hk
          rw [getElemBang _ _ hlt]
          simp [List.getD_eq_getElem?_getD, hlt]
        have hone : ∀ v ∈ (List.range (len * k)).map (fun j => zv.cells.toList.getD (j % k) undef), v.oneCell' = true := by
          intro v hv
          obtain ⟨j, hj, rfl⟩ := List.mem_map.1 hv
          have hlt : j % k < z.length := by rw [hzk]; exact Nat.mod_lt _ hk
          exact (d2 _ hlt).one
        have hfit : a * k + len * k ≤ us.length := by
          rw [h2, ← Nat.add_mul]; exact Nat.mul_le_mul_right k (by omega)
        have hst := run_storeCells_at P (ι n).b (a * k) el ((List.range (len * k)).map fun j => zv.cells.toList.getD (j % k) undef) 0 us.toArray w h1 (by simpa using hfit) hone
        simp only [Nat.add_zero] at hst
        have hrun : (Builtin.clear_ #[t] ty #[.slice (some ⟨(ι n).b, a * k, none⟩) len ((ι n).cap - a)]).run P w = .ok (.tuple #[]) (w.setRow (ι n).b (us.take (a * k) ++ ((List.range (len * k)).map fun j => zv.cells.toList.getD (j % k) undef) ++ us.drop (a * k + ((List.range (len * k)).map fun j => zv.cells.toList.getD (j % k) undef).length)).toArray) := by
          simp [Builtin.clear_, run_underlying hu, hlen, hz', hzl]
          simp at hst
          rw [hst]
          simp
        refine ⟨_, _, hrun, ?_⟩
        have e : (List.replicate len z).length = len := by simp
        refine row_put hW hc hl h1 h2 h3 h4 h5 hk (es2 := List.replicate len z) (by simpa using hle0) (by simp) (fun i hi => ?_) (fun L' w' he => .junk _) (by rw [e]; exact hK)
        simp only [List.length_replicate] at hi
        simp only [List.getElem_replicate]
        refine ⟨hzk, fun j hj => ?_⟩
        have hlt : i * k + j < len * k := by
          have : (i + 1) * k ≤ len * k := Nat.mul_le_mul_right k (by omega)
          rw [Nat.add_mul] at this; omega
        have := d2 j hj
        have e : ((List.range (len * k)).map fun j => zv.cells.toList.getD (j % k) undef).getD (i * k + j) undef = zv.cells.toList.getD j undef := by
          rw [List.getD_eq_getElem?_getD, List.getElem?_map, List.getElem?_range hlt]
          simp only [Option.map_some, Option.getD_some]
          congr 1
          rw [Nat.add_comm, Nat.add_mul_mod_self_right, Nat.mod_eq_of_lt (by omega)]
        rw [e]; exact this
    · exact h.elim
  · exact h.elim
end
end Go.Proofs.YtkbnkcdaiahoeaaDoor
