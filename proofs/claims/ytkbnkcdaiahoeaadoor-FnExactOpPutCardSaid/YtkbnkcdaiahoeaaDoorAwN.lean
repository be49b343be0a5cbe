/- That 'aop' tells what every operation of the model does: built-in functions, calls, and all together. No condition. -/
import Derived.Test.YtkbnkcdaiahoeaaDoorAwM
namespace Go.Proofs.YtkbnkcdaiahoeaaDoor
open Go Go.RowKit
set_option linter.unusedVariables false
set_option linter.unusedSimpArgs false
section
variable {P : Program} {ι : Nat → Gh} {U : Nat → Prop} {L : Lim} {w : World} {C : Caps} {m : Nat} {K : X → Del → Prop} {e : Operand → X} {ρ : Operand → Value} {wr av : Nat → Prop}

theorem builtin_run {b : Builtin} {args : Array Operand} {argTypes : Array TypeId} {dst : Option Tmp} {ty : TypeId} {pos : String} {after : Array Edge} {guard : Option (Nat × Bool)} :
    (execOp ρ (mkOp dst (.call { callee := .builtin b, args, argTypes }) ty pos after guard)).run P w = (builtin b argTypes ty (args.map fun | .const _ => true | _ => false) (args.map ρ)).run P w := by
  simp [execOp, resolve, invoke]
  rfl

theorem arr1 {α : Type} {a : Array α} {x : α} (h : a.toList = [x]) : a = #[x] := by apply Array.ext'; simpa using h
theorem arr2 {α : Type} {a : Array α} {x y : α} (h : a.toList = [x, y]) : a = #[x, y] := by apply Array.ext'; simpa using h
theorem map1 {α β : Type} {l : List α} {f : α → β} {x : β} (h : l.map f = [x]) : ∃ a, l = [a] ∧ f a = x := by
  cases l with
  | nil => simp at h
  | cons a l => cases l with
    | nil => exact ⟨a, rfl, by simpa using h⟩
    | cons b l => simp at h
theorem map2 {α β : Type} {l : List α} {f : α → β} {x y : β} (h : l.map f = [x, y]) : ∃ a b, l = [a, b] ∧ f a = x ∧ f b = y := by
  cases l with
  | nil => simp at h
  | cons a l => cases l with
    | nil => simp at h
    | cons b l => cases l with
      | nil => simp at h; exact ⟨a, b, rfl, h.1, h.2⟩
      | cons c l => simp at h

theorem snd_builtin {b : Builtin} {args : Array Operand} {argTypes : Array TypeId} : Snd P ι U L w C m K e ρ wr av (.call { callee := .builtin b, args, argTypes }) := by
  intro hW hm hρ dst ty pos after guard h
  rw [builtin_run]
  simp only [aop] at h
  unfold aBuiltin at h
  split at h
  · -- len
    rename_i x t hx ht
    obtain ⟨a, ha, rfl⟩ := map1 hx
    have e1 := arr1 ha; have e2 := arr1 ht
    subst e1; subst e2
    obtain ⟨hty, h⟩ := h
    obtain ⟨d, r, h1, h2, h3⟩ := len_sound (P := P) (ty := ty) (hρ a) hty h
    have := Outc.ofVal (P := P) (m := m) hW (s := Builtin.len_ #[t] ty (#[a].map ρ)) (by simpa using h1) (.d h2) h3
    exact this
  · -- append
    rename_i s x t t2 hx ht
    obtain ⟨a, b, ha, rfl, rfl⟩ := map2 hx
    have e1 := arr2 ha; have e2 := arr2 ht
    subst e1; subst e2
    split at h
    · rename_i el k by_ hte
      obtain ⟨rfl, hk, hb, hz, hT, hF⟩ := h
      by_cases hp : aPart C (e a) = true
      · obtain ⟨v, w', h1, h2⟩ := append_in_sound (K := K) (ty := ty) (m := m) hW hte hk (hρ a) (hρ b) hp (hT hp)
        have := Outc.val (P := P) (m := m) (s := Builtin.append_ #[t, t] ty (#[a, b].map ρ)) (by simpa using h1) h2
        exact this
      · have h := hF (by simpa using hp)
        obtain ⟨v, w', h1, h2⟩ := append_sound (K := K) (ty := ty) hW hm hte hk hz (hρ a) (hρ b) h hb
        have := Outc.val (P := P) (m := m) (s := Builtin.append_ #[t, t] ty (#[a, b].map ρ)) (by simpa using h1) h2
        exact this
    · exact h.elim
  · -- clear
    rename_i x t hx ht
    obtain ⟨a, ha, rfl⟩ := map1 hx
    have e1 := arr1 ha; have e2 := arr1 ht
    subst e1; subst e2
    split at h
    · rename_i el k by_ hte
      split at h
      · rename_i z hz
        obtain ⟨hk, hzk, h⟩ := h
        obtain ⟨v, w', h1, h2⟩ := clear_sound (K := K) (ty := ty) (m := m) hW hte hk hz hzk (hρ a) h
        have := Outc.val (P := P) (m := m) (s := Builtin.clear_ #[t] ty (#[a].map ρ)) (by simpa using h1) h2
        exact this
      · exact h.elim
    · exact h.elim
  · -- max
    rename_i x y ts hx
    obtain ⟨a, b, ha, rfl, rfl⟩ := map2 hx
    have e1 := arr2 ha
    subst e1
    split at h
    · rename_i k p k' q hp hq
      obtain ⟨rfl, h⟩ := h
      have r1 := hρ a; rw [hp] at r1
      have r2 := hρ b; rw [hq] at r2
      obtain ⟨v1, f1⟩ := r1.int_inv
      obtain ⟨v2, f2⟩ := r2.int_inv
      have hf : fits k (if p < q then q else p) := by split <;> assumption
      have := Outc.ofVal (P := P) (m := m) hW (s := Builtin.max_ argTypes ty (#[a, b].map ρ)) (by simp [v1, v2, Builtin.max_, Builtin.max2]) (.int _ hf) h
      exact this
    · exact h.elim
  · rename_i x y ts hx
    obtain ⟨a, b, ha, rfl, rfl⟩ := map2 hx
    have e1 := arr2 ha
    subst e1
    split at h
    · rename_i k p k' q hp hq
      obtain ⟨rfl, h⟩ := h
      have r1 := hρ a; rw [hp] at r1
      have r2 := hρ b; rw [hq] at r2
      obtain ⟨v1, f1⟩ := r1.int_inv
      obtain ⟨v2, f2⟩ := r2.int_inv
      have hf : fits k (if q < p then q else p) := by split <;> assumption
      have := Outc.ofVal (P := P) (m := m) hW (s := Builtin.min_ argTypes ty (#[a, b].map ρ)) (by simp [v1, v2, Builtin.min_, Builtin.min2]) (.int _ hf) h
      exact this
    · exact h.elim
  · exact h.elim

theorem slice2_sound (hW : WR ι U L w C) {t : TypeId} {n k a len : Nat} {u : Value} {lo hi : X} {lv hv : Value} (hx : Rel ι U L w (.vec n k a len) u) (r1 : Rel ι U L w lo lv) (r2 : Rel ι U L w hi hv) {K' : X → Prop} (h : aSl2 P av C t n k a lo hi K') :
    ∃ y v, (Instr.sliceAt t u (some lv) (some hv) none).run P w = .ok v w ∧ Rel ι U L w y v ∧ K' y := by
  obtain ⟨ht, -, rfl, h⟩ := h
  split at ht
  · rename_i el k' by_ ht'
    subst ht
    obtain ⟨i, hu, hi', hsz, -, hso, -⟩ := telem_inv (w := w) ht'
    split at h
    · rename_i ty k'' es kl l kh h' hc
      obtain ⟨rfl, ⟨h1, h2, h3⟩, hK⟩ := h
      rw [r1.int_inv.1, r2.int_inv.1]
      have key : ∀ (b : Option Addr) (nn cp : Nat), h' ≤ (cp : Int) → (Instr.sliceAt t (.slice b nn cp) (some (.int kl l)) (some (.int kh h')) none).run P w = .ok (.slice (if cp = l.toNat then b else b.map (·.add (l.toNat * k''))) (h'.toNat - l.toNat) (cp - l.toNat)) w := by
        intro b nn cp hcp
        simp only [Instr.sliceAt, Instr.slice, Instr.sliceBounds, Sem.run_bind, run_underlying hu, Result.andThen_ok, Sem.run_pure, bound_sound (P := P) (w := w) (show 0 ≤ h' by omega) hcp,
          bound_sound (P := P) (w := w) h1 (show l ≤ (h'.toNat : Int) by omega), hso, if_true]
      rcases hW.ok n _ hc with ⟨hnl, rfl⟩ | ⟨hnl, us, hb, hus, hlc, -, -⟩
      · obtain ⟨hn, ⟨-, -, rfl, rfl⟩ | ⟨hnl', -⟩⟩ := hx.vec_inv
        · simp at h3
          obtain rfl : h' = 0 := by omega
          obtain rfl : l = 0 := by omega
          exact ⟨_, _, key none 0 0 (by omega), by simpa using Rel.vec0 hn hnl, hK⟩
        · rw [hnl] at hnl'; cases hnl'
      · obtain ⟨hn, ⟨hnl', -⟩ | ⟨-, o, rfl, hle, ho⟩⟩ := hx.vec_inv
        · rw [hnl] at hnl'; cases hnl'
        obtain rfl : o = 0 := by omega
        refine ⟨_, _, key _ _ _ (by omega), ?_, hK⟩
        have add : ∀ j, (⟨(ι n).b, 0, none⟩ : Addr).add j = ⟨(ι n).b, 0 + j, none⟩ := by
          intro j; unfold Addr.add; split <;> simp_all
        have e : (if (ι n).cap - 0 = l.toNat then (some ⟨(ι n).b, 0, none⟩ : Option Addr) else (some ⟨(ι n).b, 0, none⟩ : Option Addr).map (·.add (l.toNat * k''))) = some ⟨(ι n).b, if (ι n).cap - 0 = l.toNat then 0 else l.toNat * k'', none⟩ := by
          split <;> simp [add]
        rw [e, Nat.sub_zero]
        refine .vec hn hnl (by omega) ?_
        split
        · by_cases hz : l.toNat = 0
          · left; simp [hz]
          · right; exact ⟨by omega, hz⟩
        · left; rfl
    · exact h.elim
  · exact ht.elim

theorem snd_slice2 {t : TypeId} {x lo hi : Operand} : Snd P ι U L w C m K e ρ wr av (.slice t x (some lo) (some hi) none) := by
  intro hW hm hρ dst ty pos after guard h
  simp only [aop] at h
  have r1 := hρ x
  split at h
  · rename_i n k a len hx
    rw [hx] at r1
    obtain ⟨y, v, h1, h2, h3⟩ := slice2_sound (P := P) hW r1 (hρ lo) (hρ hi) h
    have := Outc.ofVal (P := P) (m := m) hW h1 h2 h3
    exact this
  · obtain ⟨y, v, h1, h2, h3⟩ := slice_sound (P := P) hW r1 (.some (hρ lo)) (.some (hρ hi)) h
    have := Outc.ofVal (P := P) (m := m) hW h1 h2 h3
    exact this
theorem snd_slice0 {t : TypeId} {x : Operand} {lo hi : Option Operand} : Snd P ι U L w C m K e ρ wr av (.slice t x lo hi none) := by
  cases lo with
  | none =>
    intro hW hm hρ dst ty pos after guard h
    simp only [aop] at h
    obtain ⟨y, v, h1, h2, h3⟩ := slice_sound (P := P) hW (hρ x) (.none) (bd_opt hρ hi) h
    have := Outc.ofVal (P := P) (m := m) hW h1 h2 h3
    exact this
  | some lo => cases hi with
    | none =>
      intro hW hm hρ dst ty pos after guard h
      simp only [aop] at h
      obtain ⟨y, v, h1, h2, h3⟩ := slice_sound (P := P) hW (hρ x) (.some (hρ lo)) (.none) h
      have := Outc.ofVal (P := P) (m := m) hW h1 h2 h3
      exact this
    | some hi => exact snd_slice2

theorem snd_slice3 {t : TypeId} {x lo hi mx : Operand} : Snd P ι U L w C m K e ρ wr av (.slice t x (some lo) (some hi) (some mx)) := by
  intro hW hm hρ dst ty pos after guard h
  simp only [aop] at h
  split at h
  · rename_i el k by_ nm k' a len kl l kh hh kc c ht hx hl hhi hc
    obtain ⟨rfl, ⟨h1, h2, h3, h4⟩, h⟩ := h
    obtain ⟨i, hu, hi', hsz, -, hso, -⟩ := telem_inv (w := w) ht
    have rx := hρ x; rw [hx] at rx
    have r1 := hρ lo; rw [hl] at r1
    have r2 := hρ hi; rw [hhi] at r2
    have r3 := hρ mx; rw [hc] at r3
    have key : ∀ b n cp, ρ x = .slice b n cp → len ≤ cp → ∃ v, (Instr.sliceAt t (ρ x) (some (ρ lo)) (some (ρ hi)) (some (ρ mx))).run P w = .ok v w := by
      intro b n cp hb hcp
      refine ⟨.slice (if c.toNat = l.toNat then b else b.map (·.add (l.toNat * k))) (hh.toNat - l.toNat) (c.toNat - l.toNat), ?_⟩
      · rw [r1.int_inv.1, r2.int_inv.1, r3.int_inv.1, hb]
        simp only [Instr.sliceAt, Instr.slice, Instr.sliceBounds, Sem.run_bind, run_underlying hu, Result.andThen_ok, bound_sound (P := P) (w := w) (show 0 ≤ c by omega) (show c ≤ (cp : Int) by omega),
          bound_sound (P := P) (w := w) (show 0 ≤ hh by omega) (show hh ≤ (c.toNat : Int) by omega), bound_sound (P := P) (w := w) h1 (show l ≤ (hh.toNat : Int) by omega), hso, Sem.run_pure]
    have hv : ∃ v, (Instr.sliceAt t (ρ x) (some (ρ lo)) (some (ρ hi)) (some (ρ mx))).run P w = .ok v w := by
      obtain ⟨hn, ⟨-, h5⟩ | ⟨-, o, h5, hle, ho⟩⟩ := rx.vec_inv
      · exact key _ _ _ h5.2.2 (by omega)
      · exact key _ _ _ h5 (by omega)
    obtain ⟨v, hv⟩ := hv
    have := Outc.ofVal (P := P) (m := m) hW hv (.junk v) h
    exact this
  · exact h.elim

theorem snd_call {f : Operand} {args : Array Operand} {argTypes : Array TypeId} : Snd P ι U L w C m K e ρ wr av (.call { callee := .value f, args, argTypes }) := by
  intro hW hm hρ dst ty pos after guard h
  simp only [aop] at h
  split at h
  · rename_i fid cs hf
    have hx := hρ f
    rw [hf] at hx
    generalize hux : ρ f = u at hx
    cases hx with
    | clo us hl hr =>
      obtain ⟨g1, g2⟩ := rels_map hρ args.toList
      obtain ⟨hc, hcall⟩ := call_sound hW hm (us := args.toList.map ρ ++ us) (by simp [hl]) (fun i hi => by
        by_cases hlt : i < args.toList.length
        · have := g2 i (by simpa using hlt)
          simp only [List.getElem_append_left (show i < (args.toList.map e).length by simpa using hlt), List.getD_eq_getElem?_getD, List.getElem?_append_left (show i < (args.toList.map ρ).length by simpa using hlt)] at this ⊢
          exact this
        · have := hr (i - args.toList.length) (by simp at hi ⊢; simp at hlt; omega)
          rw [List.getElem_append_right (by simpa using hlt)]
          simp only [List.getD_eq_getElem?_getD] at this ⊢
          rw [List.getElem?_append_right (by simpa using hlt)]
          simpa using this) h
      refine .inr (.inr ⟨fid, args.map ρ ++ us.toArray, ?_, ?_⟩)
      · simp only [execOp, resolve, Deferred.ofValue, hux, Sem.run_bind, Sem.run_pure, Result.andThen_ok, invoke]
        simp only [Array.empty_append]
        exact callFunc_run hc _
      · have e1 : (args.map ρ ++ us.toArray) = (args.toList.map ρ ++ us).toArray := by apply Array.ext'; simp
        rw [e1]; exact hcall
  · exact h.elim

theorem aop_sound (hW : WR ι U L w C) (hm : ¬ U m) (hρ : ∀ o, Rel ι U L w (e o) (ρ o)) (o : Oper) (h : aop P m wr av e C o.op K) : Outc P ((execOp ρ o).run P w) ι U L w C m K := by
  obtain ⟨dst, op, ty, pos, after, guard⟩ := o
  simp only at h
  have no : aop P m wr av e C op K = False → Outc P ((execOp ρ ⟨dst, op, ty, pos, after, guard⟩).run P w) ι U L w C m K := fun hf => by rw [hf] at h; exact h.elim
  cases op with
  | move x => exact snd_move hW hm hρ _ _ _ _ _ h
  | assign x => exact snd_assign hW hm hρ _ _ _ _ _ h
  | pick c a b => exact snd_pick hW hm hρ _ _ _ _ _ h
  | alloc t => exact snd_alloc hW hm hρ _ _ _ _ _ h
  | box t x => exact snd_box hW hm hρ _ _ _ _ _ h
  | build t p => exact snd_build hW hm hρ _ _ _ _ _ h
  | buildSlice t n p => exact snd_buildSlice hW hm hρ _ _ _ _ _ h
  | load t a => exact snd_load hW hm hρ _ _ _ _ _ h
  | store t a x => exact snd_store hW hm hρ _ _ _ _ _ h
  | nilCheck x => exact snd_nilCheck hW hm hρ _ _ _ _ _ h
  | binOp op t x y yt => exact snd_binOp hW hm hρ _ _ _ _ _ h
  | unOp op t x => exact snd_unOp hW hm hρ _ _ _ _ _ h
  | convert s d x => exact snd_convert hW hm hρ _ _ _ _ _ h
  | makeFunc fn fi ca => cases fn with
    | func f => exact snd_makeFunc hW hm hρ _ _ _ _ _ h
    | _ => exact no rfl
  | makeSlice t l c => exact snd_makeSlice hW hm hρ _ _ _ _ _ h
  | slice t x lo hi mx => cases mx with
    | none => exact snd_slice0 hW hm hρ _ _ _ _ _ h
    | some mx => cases lo with
      | none => exact no rfl
      | some lo => cases hi with
        | none => exact no rfl
        | some hi => exact snd_slice3 hW hm hρ _ _ _ _ _ h
  | fieldAddr t x f => exact snd_fieldAddr hW hm hρ _ _ _ _ _ h
  | field t x f => exact snd_field hW hm hρ _ _ _ _ _ h
  | indexAddr t x i => exact snd_indexAddr hW hm hρ _ _ _ _ _ h
  | index t x i => exact snd_index hW hm hρ _ _ _ _ _ h
  | extract t i => exact snd_extract hW hm hρ _ _ _ _ _ h
  | call c =>
    obtain ⟨callee, args, argTypes⟩ := c
    cases callee with
    | value f => exact snd_call hW hm hρ _ _ _ _ _ h
    | invoke r n => exact no rfl
    | builtin b => exact snd_builtin hW hm hρ _ _ _ _ _ h
  | _ => exact no rfl
end
end Go.Proofs.YtkbnkcdaiahoeaaDoor
