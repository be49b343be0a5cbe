/- That 'aop' tells what every operation of the model does. No condition. -/
import Derived.Test.YtkbnkcdaiahoeaaDoorAwL
namespace Go.Proofs.YtkbnkcdaiahoeaaDoor
open Go Go.RowKit
set_option linter.unusedVariables false
set_option linter.unusedSimpArgs false
section
variable {P : Program} {ι : Nat → Gh} {U : Nat → Prop} {L : Lim} {w : World} {C : Caps} {m : Nat} {K : X → Del → Prop} {e : Operand → X} {ρ : Operand → Value} {wr av : Nat → Prop}

theorem Outc.ofVal (hW : WR ι U L w C) {s : Sem Value} {x : X} {v : Value} (hr : s.run P w = .ok v w) (hx : Rel ι U L w x v) (hK : K x []) : Outc P ((do pure (Next.value (← s)) : Sem Next).run P w) ι U L w C m K :=
  Outc.val hr (Aft.same hW hx hK)
theorem tfld_inv {t : TypeId} {f off : Nat} {ft : TypeId} (h : (tfld P t).bind (·[f]?) = some (off, ft)) : ∃ fs fd, P.underlying t = some (.struct fs) ∧ fs[f]? = some fd ∧ fd.offset = off ∧ fd.type = ft := by
  obtain ⟨l, h1, h2⟩ := Option.bind_eq_some_iff.1 h
  unfold tfld at h1
  split at h1
  · rename_i fs hu
    simp only [Option.some.injEq] at h1; subst h1
    rw [List.getElem?_map] at h2
    obtain ⟨fd, h3, h4⟩ := Option.map_eq_some_iff.1 h2
    simp only [Prod.mk.injEq] at h4
    exact ⟨fs, fd, hu, by simpa using h3, h4.1, h4.2⟩
  · simp at h1
theorem run_fieldAt {t : TypeId} {f : Nat} {fs : Array Field} {fd : Field} (hu : P.underlying t = some (.struct fs)) (hf : fs[f]? = some fd) {n : Nat} (hs : (sizeOf fd.type).run P w = .ok n w) (hn : 0 < n) (b o : Nat) :
    (Instr.fieldAt t (.pointer (some ⟨b, o, none⟩)) f).run P w = .ok (.pointer (some ⟨b, o + fd.offset, none⟩)) w := by
  simp [Instr.fieldAt, run_underlying hu, hf, Instr.sureAddr, fieldPlace, hs, Nat.ne_of_gt hn, add_lit]
theorem run_part {t : TypeId} {g : Bool} {n : Nat} (ht : tsz P t = some (g, n)) {us : List Value} {off : Nat} (hb : if g then off + n ≤ us.length else off < us.length) :
    (part t us.toArray off).run P w = .ok (if g then .agg ((us.drop off).take n).toArray else us.getD off undef) w := by
  obtain ⟨i, d, hi, hd, hsz, ha, hz⟩ := tsz_inv (w := w) ht
  cases g with
  | true =>
    simp only [part, Sem.run_bind, ha, Result.andThen_ok, if_true, hz, Sem.run_pure]
    congr 2
    apply Array.ext'
    simp [List.extract_eq_take_drop]
  | false =>
    simp only [Bool.false_eq_true, if_false] at hb ⊢
    simp [part, ha, List.getElem?_eq_getElem hb, List.getD_eq_getElem?_getD]
theorem partX_sound {t : TypeId} {g : Bool} {n : Nat} (ht : tsz P t = some (g, n)) {cs : List X} {off : Nat} {us : List Value} (hl : us.length = cs.length) (hr : ∀ j (hj : j < cs.length), Rel ι U L w (cs[j]'hj) (us.getD j undef)) {K' : X → Prop} (h : aTakeX g n (cs.drop off) K') :
    ∃ x v, (part t us.toArray off).run P w = .ok v w ∧ Rel ι U L w x v ∧ K' x := by
  unfold aTakeX at h
  cases g with
  | true =>
    obtain ⟨hn, h⟩ := h
    simp only [List.length_drop] at hn
    by_cases hn0 : n = 0
    · subst hn0
      refine ⟨.ag [], .agg #[], ?_, .ag [] rfl (fun i hi => absurd hi (by simp)), by simpa using h⟩
      obtain ⟨i, d, hi, hd, hsz, ha, hz⟩ := tsz_inv (w := w) ht
      simp [part, ha, hz]
    · refine ⟨_, _, run_part ht (by simp; omega), ?_, h⟩
      simp only [if_true]
      refine .ag _ (by simp; omega) (fun i hi => ?_)
      simp at hi
      have hi2 : i < n ∧ i < cs.length - off := by omega
      have := hr (off + i) (by omega)
      simp [List.getElem?_take, hi2.1] at this ⊢
      exact this
  | false =>
    cases hd : cs.drop off with
    | nil => rw [hd] at h; exact h.elim
    | cons c q =>
      rw [hd] at h
      have hlt : off < cs.length := by
        have : (cs.drop off).length = (c :: q).length := by rw [hd]
        simp at this; omega
      refine ⟨_, _, run_part ht (by simp; omega), ?_, h⟩
      have := hr off hlt
      have hc : cs[off]'hlt = c := by
        have h0 : (cs.drop off)[0]? = some c := by rw [hd]; rfl
        rw [List.getElem?_drop, Nat.add_zero, List.getElem?_eq_getElem hlt] at h0
        simpa using h0
      rw [hc] at this
      simpa using this

theorem indexAt_sound {t el : TypeId} {k by_ : Nat} (ht : telem P t = some (el, k, by_)) {kk : IntKind} {n : Int} {a : Option Addr} {len c : Nat} (h0 : 0 ≤ n) (h1 : n < len) {ad : Addr} (ha : a = some ad) :
    (Instr.indexAt t (.slice a len c) (.int kk n)).run P w = .ok (.pointer (some (ad.add (n.toNat * k)))) w := by
  obtain ⟨i, hu, hi, hsz, hby, hso, -⟩ := telem_inv (w := w) ht
  subst ha
  simp [Instr.indexAt, asIntOf, run_underlying hu, h0, h1, hso]

theorem indexArr_sound {t : TypeId} {len k : Nat} (ht : tarr P t = some (len, k)) {kk : IntKind} {n : Int} (h0 : 0 ≤ n) (h1 : n < len) {ad : Addr} :
    (Instr.indexAt t (.pointer (some ad)) (.int kk n)).run P w = .ok (.pointer (some (ad.add (n.toNat * k)))) w := by
  unfold tarr at ht
  split at ht
  · rename_i n' e hu
    obtain ⟨i, hi, he⟩ := Option.map_eq_some_iff.1 ht
    simp only [Prod.mk.injEq] at he
    obtain ⟨rfl, rfl⟩ := he
    have hso : (sizeOf e).run P w = .ok i.size w := by rw [run_sizeOf w hi]; simp [Program.cellsOf, hi]
    simp [Instr.indexAt, asIntOf, run_underlying hu, h0, h1, hso, Instr.sureAddr]
  · simp at ht
theorem len_sound {t : TypeId} {x : X} {v : Value} (hx : Rel ι U L w x v) {ty : TypeId} {K' : D → Prop} (hty : lenTy P t x) (h : aLen x K') :
    ∃ d r, (Builtin.len_ #[t] ty #[v]).run P w = .ok r w ∧ Den L w d r ∧ K' d := by
  have fit : ∀ n : Nat, n ≤ top → fits .i64 (n : Int) := fun n hn => fits_i64 (by omega) (by unfold top at hn; omega)
  have tel : (telem P t).isSome = true → ∃ el, P.underlying t = some (.slice el) := by
    intro h
    obtain ⟨⟨el, k, by_⟩, ht⟩ := Option.isSome_iff_exists.1 h
    obtain ⟨i, hu, -⟩ := telem_inv (w := w) ht
    exact ⟨el, hu⟩
  unfold aLen at h
  split at h
  · rename_i es
    obtain ⟨el, hu'⟩ := tel hty
    obtain ⟨a, c, rfl, hc, hB, -⟩ := hx.sl_inv
    exact ⟨_, .int .i64 es.length, by simp [Builtin.len_, run_underlying hu', goInt], .int (fit _ (Nat.le_trans hc hB)), h⟩
  · rename_i n0 es
    obtain ⟨el, hu'⟩ := tel hty
    cases hx with
    | d hx =>
      cases hx with
      | sp hn hx =>
        cases hx with
        | sl us hc hB h0 hs hd => exact ⟨_, .int .i64 n0, by simp [Builtin.len_, run_underlying hu', goInt], .int (fit _ (Nat.le_trans hn (Nat.le_trans hc hB))), h⟩
  · rename_i s
    obtain ⟨rfl, hs⟩ := hx.str_inv
    exact ⟨_, .int .i64 s.size, by simp [Builtin.len_, run_underlying hty, goInt], .int (fit _ hs), h⟩
  · rename_i nm k a len
    obtain ⟨hl, h⟩ := h
    obtain ⟨el, hu'⟩ := tel hty
    obtain ⟨-, ⟨-, -, rfl, rfl⟩ | ⟨-, o, rfl, -⟩⟩ := hx.vec_inv
    · exact ⟨_, .int .i64 0, by simp [Builtin.len_, run_underlying hu', goInt], .int (fit 0 hl), h⟩
    · exact ⟨_, .int .i64 len, by simp [Builtin.len_, run_underlying hu', goInt], .int (fit _ hl), h⟩
  · obtain ⟨el, hu'⟩ := tel hty
    obtain rfl := hx.nil_inv
    exact ⟨_, .int .i64 0, by simp [Builtin.len_, run_underlying hu', goInt], .int (fit 0 (by unfold top; omega)), h⟩
  · exact h.elim

theorem callFunc_run {f : FuncId} (hc : callable P f = true) (us : Array Value) : (callFunc f us).run P w = .ok (.enter f us) w := by
  unfold callable at hc
  split at hc
  · rename_i fn hf
    simp only [Bool.and_eq_true, Bool.not_eq_true'] at hc
    obtain ⟨h1, h2⟩ := hc
    have h3 : fn.body.isNone = false := by cases hb : fn.body <;> simp_all
    simp only [callFunc, Sem.run_bind, run_program, Result.andThen_ok, hf, h2, h3, Bool.false_eq_true, if_false, Sem.run_pure, Sem.run_ite]
  · cases hc

theorem rels_map (hρ : ∀ o, Rel ι U L w (e o) (ρ o)) (os : List Operand) : (os.map ρ).length = (os.map e).length ∧ ∀ i (hi : i < (os.map e).length), Rel ι U L w ((os.map e)[i]'hi) ((os.map ρ).getD i undef) := by
  refine ⟨by simp, fun i hi => ?_⟩
  simp at hi
  simp [List.getElem?_eq_getElem hi, hρ]
theorem parts_map (hρ : ∀ o, Rel ι U L w (e o) (ρ o)) (ps : List (Nat × Operand)) : All2 (fun p q => p.1 = q.1 ∧ Rel ι U L w p.2 q.2) (ps.map fun p => (p.1, e p.2)) (ps.map fun p => (p.1, ρ p.2)) := by
  induction ps with
  | nil => exact .nil
  | cons p ps ih => exact .cons ⟨rfl, hρ _⟩ ih
variable {dst : Option Tmp} {ty : TypeId} {pos : String} {after : Array Edge} {guard : Option (Nat × Bool)}
abbrev mkOp (dst : Option Tmp) (op : Op) (ty : TypeId) (pos : String) (after : Array Edge) (guard : Option (Nat × Bool)) : Oper := ⟨dst, op, ty, pos, after, guard⟩
/-- What is to be shown of each operation. -/
def Snd (P : Program) (ι : Nat → Gh) (U : Nat → Prop) (L : Lim) (w : World) (C : Caps) (m : Nat) (K : X → Del → Prop) (e : Operand → X) (ρ : Operand → Value) (wr av : Nat → Prop) (op : Op) : Prop :=
  WR ι U L w C → ¬ U m → (∀ o, Rel ι U L w (e o) (ρ o)) → ∀ dst ty pos after guard, aop P m wr av e C op K → Outc P ((execOp ρ (mkOp dst op ty pos after guard)).run P w) ι U L w C m K

theorem snd_move {x : Operand} : Snd P ι U L w C m K e ρ wr av (.move x) := fun hW hm hρ dst ty pos after guard h => .inl ⟨_, _, rfl, Aft.same hW (hρ _) h⟩
theorem snd_assign {x : Operand} : Snd P ι U L w C m K e ρ wr av (.assign x) := fun hW hm hρ dst ty pos after guard h => .inl ⟨_, _, rfl, Aft.same hW (hρ _) h⟩
theorem snd_pick {c a b : Operand} : Snd P ι U L w C m K e ρ wr av (.pick c a b) := by
  intro hW hm hρ dst ty pos after guard h
  simp only [aop] at h
  split at h
  · rename_i t ht
    have hc := hρ c
    rw [ht] at hc
    have hc' := hc.bool_inv
    cases t with
    | true => exact .inl ⟨ρ a, _, by simp [execOp, hc', asBool], Aft.same hW (hρ a) (h.1 rfl)⟩
    | false => exact .inl ⟨ρ b, _, by simp [execOp, hc', asBool], Aft.same hW (hρ b) (h.2 rfl)⟩
  · exact h.elim
theorem snd_binOp {bop : BinOp} {t : TypeId} {x y : Operand} {yt : TypeId} : Snd P ι U L w C m K e ρ wr av (.binOp bop t x y yt) := by
  intro hW hm hρ dst ty pos after guard h
  simp only [aop] at h
  obtain ⟨d, r, h1, h2, h3⟩ := bin_sound (P := P) (xo := x) (yo := y) (hρ x) (hρ y) h
  exact Outc.ofVal hW (s := do eqGuard bop t x y (ρ x) (ρ y); binOp bop t (ρ x) (ρ y)) h1 (.d h2) h3
theorem snd_unOp {u : UnOp} {t : TypeId} {x : Operand} : Snd P ι U L w C m K e ρ wr av (.unOp u t x) := by
  intro hW hm hρ dst ty pos after guard h
  cases u <;> simp only [aop] at h
  · split at h
    · rename_i k n hb
      have hx := hρ x
      rw [hb] at hx
      exact Outc.ofVal hW (s := Op.unary .neg (ρ x)) (v := .int k (k.wrap (0 - n))) (by rw [hx.int_inv.1]; rfl) (.int _ (wrap_fits _ _)) h
    · exact h.elim
  · split at h
    · rename_i b hb
      have hx := hρ x
      rw [hb] at hx
      exact Outc.ofVal hW (s := Op.unary .not (ρ x)) (v := .bool !b) (by rw [hx.bool_inv]; rfl) (.bool _) h
    · exact h.elim
theorem nums8_get : ∀ {es : List (List D)} {l : List Int}, nums8 es = some l → l.length = es.length ∧ ∀ i (hi : i < es.length), es[i]'hi = [.int .u8 (l.getD i 0)]
  | [], l, h => by simp [nums8] at h; subst h; exact ⟨rfl, fun i hi => absurd hi (by simp)⟩
  | e :: r, l, h => by
    unfold nums8 at h
    split at h
    · rename_i heq; exact absurd heq (by simp)
    · rename_i n r' heq
      cases heq
      simp only [Option.map_eq_some_iff] at h
      obtain ⟨l', h1, rfl⟩ := h
      obtain ⟨h2, h3⟩ := nums8_get h1
      refine ⟨by simp [h2], fun i hi => ?_⟩
      cases i with
      | zero => rfl
      | succ i => simpa using h3 i (by simpa using hi)
    · cases h
theorem snd_convert {src dst' : TypeId} {x : Operand} : Snd P ι U L w C m K e ρ wr av (.convert src dst' x) := by
  intro hW hm hρ dst ty pos after guard h
  simp only [aop] at h
  split at h
  · rename_i k0 n k hb hu
    obtain ⟨hs, h⟩ := h
    obtain ⟨ds, hs⟩ := Option.isSome_iff_exists.1 hs
    have hx := hρ x
    rw [hb] at hx
    exact Outc.ofVal hW (s := convert src dst' (ρ x)) (v := .int k (k.wrap n)) (by rw [hx.int_inv.1]; cases ds <;> simp [convert, run_underlying hs, run_underlying hu, Conv.intToInt]) (.int _ (wrap_fits _ _)) h
  · rename_i s hb hu
    obtain ⟨hs, h⟩ := h
    obtain ⟨ds, hs⟩ := Option.isSome_iff_exists.1 hs
    have hx := hρ x
    rw [hb] at hx
    obtain ⟨hx1, hx2⟩ := hx.str_inv
    exact Outc.ofVal hW (s := convert src dst' (ρ x)) (v := .string s) (by rw [hx1]; cases ds <;> simp [convert, run_underlying hs, run_underlying hu]) (.d (.str hx2)) h
  · rename_i es hb hu
    obtain ⟨hne, ht, h⟩ := h
    split at ht
    · rename_i el k by_ hte
      obtain ⟨i, hus, -⟩ := telem_inv (w := w) hte
      split at h
      · rename_i l hl
        have hx := hρ x
        rw [hb] at hx
        obtain ⟨h1, h2⟩ := nums8_get hl
        obtain ⟨a, c, hux, hc, hB, -, us, hs, hd⟩ := hx.sl_inv
        obtain ⟨b, o, k', rfl, h3⟩ := hs hne
        have hp : 0 < es.length := List.length_pos_iff.2 hne
        have hk : k' = 1 := by
          have := (h3 0 hp).1
          rw [h2 0 hp] at this
          simpa using this.symm
        subst hk
        refine Outc.ofVal hW (s := convert src dst' (ρ x)) (v := .string (strOfNums l)) ?_ (.d (.str ?_)) h
        · rw [hux]
          refine run_convert_bytes_arg w src el hus ht b o es.length c l h1 (fun i hi => ?_) dst' hu
          have := ((h3 i hi).2 0 (by omega)).2
          rw [Nat.mul_one, Nat.add_zero] at this
          rw [this]
          have hdi := hd i hi 0 (by rw [h2 i hi]; simp)
          have e : (es[i]'hi)[0]'(by rw [h2 i hi]; simp) = .int .u8 (l.getD i 0) := by simp [h2 i hi]
          rw [e] at hdi
          exact congrArg some (Rel.d (ι := ι) (U := U) hdi).int_inv.1
        · have : (strOfNums l).size = l.length := by simp [strOfNums, ByteArray.size]
          rw [this, h1]; omega
      · exact h.elim
    · exact ht.elim
  · exact h.elim
theorem snd_alloc {t : TypeId} : Snd P ι U L w C m K e ρ wr av (.alloc t) := by
  intro hW hm hρ dst ty pos after guard h
  simp only [aop] at h
  split at h
  · rename_i cs hz
    obtain ⟨hc, h⟩ := h
    obtain ⟨v, w', h1, h2⟩ := alloc_sound hW hm hz h
    exact Outc.val h1 h2
  · exact h.elim
theorem snd_box {t : TypeId} {x : Operand} : Snd P ι U L w C m K e ρ wr av (.box t x) := by
  intro hW hm hρ dst ty pos after guard h
  simp only [aop] at h
  obtain ⟨hc, h⟩ := h
  obtain ⟨v, w', h1, h2⟩ := box_sound (P := P) hW hm (hρ _) hc h
  exact Outc.val h1 h2
theorem snd_build {t : TypeId} {parts : Array (Nat × Operand)} : Snd P ι U L w C m K e ρ wr av (.build t parts) := by
  intro hW hm hρ dst ty pos after guard h
  simp only [aop] at h
  split at h
  · rename_i cs fl hz hf
    split at h
    · rename_i r hr
      obtain ⟨v, h1, h2⟩ := build_sound hW hz hf (parts_map hρ parts.toList) hr
      have e1 : (parts.map fun (i, x) => (i, ρ x)) = (parts.toList.map fun p => (p.1, ρ p.2)).toArray := by apply Array.ext'; simp
      have := Outc.ofVal (P := P) (m := m) hW (s := Instr.build t (parts.map fun (i, x) => (i, ρ x))) (by rw [e1]; exact h1) h2 h
      exact this
    · exact h.elim
  · exact h.elim
theorem snd_buildSlice {t : TypeId} {len : Nat} {parts : Array (Nat × Operand)} : Snd P ι U L w C m K e ρ wr av (.buildSlice t len parts) := by
  intro hW hm hρ dst ty pos after guard h
  simp only [aop] at h
  split at h
  · rename_i el k by_ ht
    obtain ⟨v, w', h1, h2⟩ := buildSlice_sound (K := K) hW hm ht (len := len) (parts_map hρ parts.toList) (by
      split at h
      · rename_i hl; rw [if_pos hl]
        refine ⟨?_, h.2⟩
        have : parts.toList = [] := List.eq_nil_of_length_eq_zero (by simpa using h.1)
        simp [this]
      · rename_i hl; rw [if_neg hl]
        obtain ⟨a, b, c, d, h⟩ := h
        exact ⟨a, by simpa using b, c, d, h⟩)
    have e1 : (parts.map fun (i, x) => (i, ρ x)) = (parts.toList.map fun p => (p.1, ρ p.2)).toArray := by apply Array.ext'; simp
    have := Outc.val (s := Instr.buildSlice t len (parts.map fun (i, x) => (i, ρ x))) (by rw [e1]; exact h1) h2
    exact this
  · exact h.elim
theorem snd_load {t : TypeId} {a : Operand} : Snd P ι U L w C m K e ρ wr av (.load t a) := by
  intro hW hm hρ dst ty pos after guard h
  simp only [aop] at h
  split at h
  · rename_i g n ht
    obtain ⟨x, v, h1, h2, h3⟩ := load_sound hW ht (hρ _) h
    exact Outc.ofVal hW h1 h2 h3
  · exact h.elim
theorem snd_store {t : TypeId} {a x : Operand} : Snd P ι U L w C m K e ρ wr av (.store t a x) := by
  intro hW hm hρ dst ty pos after guard h
  simp only [aop] at h
  split at h
  · rename_i g n ht
    obtain ⟨w', h1, h2⟩ := store_sound (K := K) hW ht (hρ a) (hρ x) h
    exact Outc.unit (s := Instr.storeAt t (ρ a) (ρ x)) h1 h2
  · exact h.elim
theorem snd_nilCheck {x : Operand} : Snd P ι U L w C m K e ρ wr av (.nilCheck x) := by
  intro hW hm hρ dst ty pos after guard h
  simp only [aop] at h
  have hx := hρ x
  split at h <;> rename_i he <;> (try rw [he] at hx)
  · generalize hu : ρ x = u at hx
    cases hx with | bx hn => exact .inl ⟨_, _, by simp [execOp, hu], Aft.same hW (.bx hn) h⟩
  · generalize hu : ρ x = u at hx
    cases hx with | ve hn => exact .inl ⟨_, _, by simp [execOp, hu], Aft.same hW (.ve hn) h⟩
  · generalize hu : ρ x = u at hx
    cases hx with | ptr b o us hs hd => exact .inl ⟨_, _, by simp [execOp, hu], Aft.same hW (.ptr b o us hs hd) h⟩
  · generalize hu : ρ x = u at hx
    cases hx with | clo us hl hr => exact .inl ⟨_, _, by simp [execOp, hu], Aft.same hW (.clo us hl hr) h⟩
  · exact h.elim
theorem snd_makeFunc {f : FuncId} {first captured : Array Operand} : Snd P ι U L w C m K e ρ wr av (.makeFunc (.func f) first captured) := by
  intro hW hm hρ dst ty pos after guard h
  simp only [aop] at h
  obtain ⟨h0, h⟩ := h
  have hf : first = #[] := Array.eq_empty_of_size_eq_zero h0
  subst hf
  obtain ⟨g1, g2⟩ := rels_map hρ captured.toList
  have hr : Rel ι U L w (.clo f (captured.toList.map e)) (.func (.func f) #[] (captured.toList.map ρ).toArray) := .clo _ g1 g2
  have e1 : captured.map ρ = (captured.toList.map ρ).toArray := by apply Array.ext'; simp
  have := Outc.ofVal (P := P) (m := m) hW (s := Instr.makeFunc (.func f) ((#[] : Array Operand).map ρ) (captured.map ρ)) (by rw [e1]; simp [Instr.makeFunc]) hr h
  exact this
theorem snd_makeSlice {t : TypeId} {l c : Operand} : Snd P ι U L w C m K e ρ wr av (.makeSlice t l c) := by
  intro hW hm hρ dst ty pos after guard h
  simp only [aop] at h
  split at h
  · rename_i el k by_ n c' ht hl hc
    obtain ⟨⟨h1, h2, h3, h4⟩, h⟩ := h
    split at h
    · rename_i z hz
      obtain ⟨hk, h⟩ := h
      have r1 := hρ l; rw [hl] at r1
      have r2 := hρ c; rw [hc] at r2
      obtain ⟨v, w', g1, g2⟩ := makeSlice_sound (K := K) hW hm ht h1 h2 h3 h4 hz hk h
      have := Outc.val (P := P) (m := m) (s := Instr.makeSlice t (ρ l) (ρ c)) (by rw [r1.int_inv.1, r2.int_inv.1]; exact g1) g2
      exact this
    · exact h.elim
  · exact h.elim
theorem snd_fieldAddr {t : TypeId} {x : Operand} {f : Nat} : Snd P ι U L w C m K e ρ wr av (.fieldAddr t x f) := by
  intro hW hm hρ dst ty pos after guard h
  simp only [aop] at h
  split at h
  · rename_i off ft hf
    obtain ⟨fs, fd, hu, hfd, rfl, rfl⟩ := tfld_inv hf
    obtain ⟨hn, h⟩ := h
    split at hn
    · rename_i g n ht
      obtain ⟨_, _, -, -, -, -, hz⟩ := tsz_inv (w := w) ht
      have hx := hρ x
      split at h <;> rename_i he <;> (try rw [he] at hx)
      · generalize hux : ρ x = u at hx
        cases hx with
        | bx hn' =>
          have := Outc.ofVal (P := P) (m := m) hW (s := Instr.fieldAt t (ρ x) f) (by rw [hux]; exact run_fieldAt hu hfd hz hn _ _) (.bx hn') h
          exact this
      · generalize hux : ρ x = u at hx
        cases hx with
        | ve hn' =>
          have := Outc.ofVal (P := P) (m := m) hW (s := Instr.fieldAt t (ρ x) f) (by rw [hux]; exact run_fieldAt hu hfd hz hn _ _) (by rw [Nat.add_assoc]; exact .ve hn') h
          exact this
      · rename_i cs
        obtain ⟨hle, h⟩ := h
        generalize hux : ρ x = u at hx
        cases hx with
        | ptr b o us hs hd =>
          have hr : Rel ι U L w (.ptr (cs.drop fd.offset)) (.pointer (some ⟨b, o + fd.offset, none⟩)) := .ptr b _ (fun j => us (fd.offset + j)) (fun j hj => by rw [Nat.add_assoc]; exact hs _ (by simp at hj; omega)) (fun j hj => by
            have := hd (fd.offset + j) (by simp at hj; omega); simpa using this)
          have := Outc.ofVal (P := P) (m := m) hW (s := Instr.fieldAt t (ρ x) f) (by rw [hux]; exact run_fieldAt hu hfd hz hn _ _) hr h
          exact this
      · exact h.elim
    · exact hn.elim
  · exact h.elim
theorem snd_field {t : TypeId} {x : Operand} {f : Nat} : Snd P ι U L w C m K e ρ wr av (.field t x f) := by
  intro hW hm hρ dst ty pos after guard h
  simp only [aop] at h
  split at h
  · rename_i off ft hf
    obtain ⟨fs, fd, hu, hfd, rfl, rfl⟩ := tfld_inv hf
    split at h
    · rename_i g n cs ht he
      have hx := hρ x
      rw [he] at hx
      generalize hux : ρ x = u at hx
      cases hx with
      | ag us hl hr =>
        obtain ⟨y, v, h1, h2, h3⟩ := partX_sound (P := P) ht hl hr h
        have := Outc.ofVal (P := P) (m := m) hW (s := Instr.field t (ρ x) f) (by rw [hux]; simp only [Instr.field, Sem.run_bind, run_underlying hu, Result.andThen_ok, hfd, asAgg, Sem.run_pure, h1]) h2 h3
        exact this
    · exact h.elim
  · exact h.elim
theorem snd_indexAddr {t : TypeId} {x i : Operand} : Snd P ι U L w C m K e ρ wr av (.indexAddr t x i) := by
  intro hW hm hρ dst ty pos after guard h
  simp only [aop] at h
  have hx := hρ x
  have hi := hρ i
  split at h
  · rename_i el k by_ es kk n ht hex hei
    rw [hex] at hx; rw [hei] at hi
    obtain ⟨⟨h0, h1⟩, h⟩ := h
    obtain ⟨a, c, hux, hc, hB, -, us, hs, hd⟩ := hx.sl_inv
    have hlt : n.toNat < es.length := by omega
    have hne : es ≠ [] := by intro h; rw [h] at hlt; simp at hlt
    obtain ⟨b, o, k', rfl, h2⟩ := hs hne
    obtain ⟨hk, hK2⟩ := h _ (List.getElem?_eq_getElem hlt)
    obtain ⟨hk', h3⟩ := h2 _ hlt
    have hkk : k' = k := by rw [← hk', ← hk]
    subst hkk
    have hr : Rel ι U L w (.ptr (es[n.toNat]'hlt)) (.pointer (some ((⟨b, o, none⟩ : Addr).add (n.toNat * k')))) := by
      rw [add_lit]
      exact .ptr b _ (us n.toNat) (fun j hj => h3 j (by omega)) (fun j hj => hd _ hlt j hj)
    have := Outc.ofVal (P := P) (m := m) hW (s := Instr.indexAt t (ρ x) (ρ i)) (by rw [hux, hi.int_inv.1]; exact indexAt_sound ht h0 h1 rfl) hr hK2
    exact this
  · rename_i el k by_ m' es kk n ht hex hei
    rw [hex] at hx; rw [hei] at hi
    obtain ⟨⟨h0, h1, h1'⟩, h⟩ := h
    generalize hux : ρ x = u at hx
    cases hx with
    | d hx =>
      cases hx with
      | @sp _ _ a c hn hx0 =>
        cases hx0 with
        | sl us hc hB _ hs hd =>
          have hlt : n.toNat < es.length := by omega
          have hne : es ≠ [] := by intro h; rw [h] at hlt; simp at hlt
          obtain ⟨b, o, k', rfl, h2⟩ := hs hne
          obtain ⟨hk, hK2⟩ := h _ (List.getElem?_eq_getElem hlt)
          obtain ⟨hk', h3⟩ := h2 _ hlt
          have hkk : k' = k := by rw [← hk', ← hk]
          subst hkk
          have hr : Rel ι U L w (.ptr (es[n.toNat]'hlt)) (.pointer (some ((⟨b, o, none⟩ : Addr).add (n.toNat * k')))) := by
            rw [add_lit]
            exact .ptr b _ (us n.toNat) (fun j hj => h3 j (by omega)) (fun j hj => hd _ hlt j hj)
          have := Outc.ofVal (P := P) (m := m) hW (s := Instr.indexAt t (ρ x) (ρ i)) (by rw [hux, hi.int_inv.1]; exact indexAt_sound ht h0 h1 rfl) hr hK2
          exact this
  · rename_i el k by_ nm k' a len kk n ht hex hei
    rw [hex] at hx; rw [hei] at hi
    obtain ⟨⟨h0, h1⟩, rfl, h⟩ := h
    obtain ⟨hn, ⟨-, -, hl0, -⟩ | ⟨-, o, hux, hle, ho⟩⟩ := hx.vec_inv
    · omega
    · have ho' : o = a * k := by rcases ho with h | ⟨h, _⟩; exact h; omega
      subst ho'
      have hr : Rel ι U L w (.ve nm k (a + n.toNat) 0) (.pointer (some ((⟨(ι nm).b, a * k, none⟩ : Addr).add (n.toNat * k)))) := by
        rw [add_lit, ← Nat.add_mul]
        exact .ve hn
      have := Outc.ofVal (P := P) (m := m) hW (s := Instr.indexAt t (ρ x) (ρ i)) (by rw [hux, hi.int_inv.1]; exact indexAt_sound ht h0 h1 rfl) hr h
      exact this
  · rename_i cs kk n ht hex hei
    rw [hex] at hx; rw [hei] at hi
    split at h
    · rename_i len k hta
      obtain ⟨⟨h0, h1⟩, h2, h⟩ := h
      generalize hux : ρ x = u at hx
      cases hx with
      | ptr b o us hs hd =>
        have hle : n.toNat * k + k ≤ len * k := by
          have : (n.toNat + 1) * k ≤ len * k := Nat.mul_le_mul_right k (by omega)
          rw [Nat.add_mul, Nat.one_mul] at this
          exact this
        have hr : Rel ι U L w (.ptr ((cs.drop (n.toNat * k)).take k)) (.pointer (some ((⟨b, o, none⟩ : Addr).add (n.toNat * k)))) := by
          rw [add_lit]
          refine .ptr b _ (fun j => us (n.toNat * k + j)) (fun j hj => ?_) (fun j hj => ?_)
          · have hj' : j < k := by simp at hj; omega
            have := hs (n.toNat * k + j) (by omega)
            rw [← Nat.add_assoc] at this
            exact this
          · have hj' : j < k := by simp at hj; omega
            have := hd (n.toNat * k + j) (by omega)
            simpa [List.getElem_take, List.getElem_drop] using this
        exact Outc.ofVal (P := P) (m := m) hW (s := Instr.indexAt t (ρ x) (ρ i)) (by rw [hux, hi.int_inv.1]; exact indexArr_sound hta h0 h1) hr h
    · exact h.elim
  · exact h.elim
theorem snd_index {t : TypeId} {x i : Operand} : Snd P ι U L w C m K e ρ wr av (.index t x i) := by
  intro hW hm hρ dst ty pos after guard h
  simp only [aop] at h
  have hx := hρ x
  have hi := hρ i
  split at h
  · rename_i s kk n hu hex hei
    rw [hex] at hx; rw [hei] at hi
    obtain ⟨⟨h0, h1⟩, h⟩ := h
    have hlt : n.toNat < s.data.size := by have : s.size = s.data.size := rfl; omega
    have h := h _ (Array.getElem?_eq_getElem hlt)
    have hf : fits .u8 ((s.data[n.toNat]'hlt).toNat : Int) := fits_u8 (by omega) (by have := (s.data[n.toNat]'hlt).toNat_lt; omega)
    have hs : s[n.toNat]? = some (s.data[n.toNat]'hlt) := by
      have : n.toNat < s.size := hlt
      simp [getElem?_pos, this]; rfl
    have := Outc.ofVal (P := P) (m := m) hW (s := Instr.index t (ρ x) (ρ i)) (by rw [hx.str_inv.1, hi.int_inv.1]; simp [Instr.index, asIntOf, run_underlying hu, h0, hs]) (.int _ hf) h
    exact this
  · exact h.elim
theorem snd_extract {x : Operand} {i : Nat} : Snd P ι U L w C m K e ρ wr av (.extract x i) := by
  intro hW hm hρ dst ty pos after guard h
  simp only [aop] at h
  have hx := hρ x
  split at h
  · rename_i xs hex
    rw [hex] at hx
    split at h
    · rename_i y hy
      generalize hux : ρ x = u at hx
      cases hx with
      | tup us hl hr =>
        obtain ⟨hi, rfl⟩ := List.getElem?_eq_some_iff.1 hy
        have := Outc.ofVal (P := P) (m := m) hW (s := Instr.extract (ρ x) i) (v := us.getD i Go.undef) (by rw [hux]; simp [Instr.extract, List.getElem?_eq_getElem (show i < us.length by omega), List.getD_eq_getElem?_getD]) (hr i hi) h
        exact this
    · exact h.elim
  · exact h.elim
end
end Go.Proofs.YtkbnkcdaiahoeaaDoor
