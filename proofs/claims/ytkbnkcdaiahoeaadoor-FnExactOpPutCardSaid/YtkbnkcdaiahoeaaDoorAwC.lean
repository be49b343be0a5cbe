/- That 'aop' tells what an operation of the model does: the operations that leave memory alone, loads and stores. No condition. -/
import Derived.Test.YtkbnkcdaiahoeaaDoorAwB
import Derived.ChangeKeysEq
import Derived.Laws.Entries
namespace Go.Proofs.YtkbnkcdaiahoeaaDoor
open Go Go.RowKit
set_option linter.unusedVariables false
set_option linter.unusedSimpArgs false

def Outc (P : Program) (r : Result Next) (ι : Nat → Gh) (U : Nat → Prop) (L : Lim) (w : World) (C : Caps) (m : Nat) (K : X → Del → Prop) : Prop :=
  (∃ v w', r = .ok (.value v) w' ∧ Aft ι U L w C m K v w') ∨ (∃ w', r = .ok .skip w' ∧ Aft ι U L w C m K undef w') ∨
  (∃ f us, r = .ok (.enter f us) w ∧ Calls P f us w fun e w' => ∃ v, e = .returned v ∧ Aft ι U L w C m K v w')

section
variable {P : Program} {ι : Nat → Gh} {U : Nat → Prop} {L : Lim} {w : World} {C : Caps} {m : Nat} {K : X → Del → Prop}

theorem CapOk.grow {n : Nat} {c : Cap} (h : CapOk ι U L w n c) (hu : U n) {ι' : Nat → Gh} {U' : Nat → Prop} {L' : Lim} {w' : World} (hι : ∀ n, U n → ι' n = ι n) (hU : ∀ n, U n → U' n) (hst : ∀ b o u, Stab L w b o u → Stab L' w' b o u)
    (hk : (ι n).nl = false → w'.heap[(ι n).b]? = w.heap[(ι n).b]?) : CapOk ι' U' L' w' n c := by
  cases c with
  | box ty cs =>
    obtain ⟨h0, us, h1, h2, h3⟩ := h
    exact ⟨by rw [hι n hu]; exact h0, us, by rw [hι n hu, hk h0]; exact h1, h2, fun j hj => (h3 j hj).mono hι hU hst⟩
  | vec ty k es =>
    rcases h with ⟨h0, h1⟩ | ⟨h0, us, h1, h2, h3, h4, h5⟩
    · exact .inl ⟨by rw [hι n hu]; exact h0, h1⟩
    · exact .inr ⟨by rw [hι n hu]; exact h0, us, by rw [hι n hu, hk h0]; exact h1, by rw [hι n hu]; exact h2, by rw [hι n hu]; exact h3, by rw [hι n hu]; exact h4, fun i hi => ⟨(h5 i hi).1, fun j hj => ((h5 i hi).2 j hj).mono hst⟩⟩
theorem WR.grow (h : WR ι U L w C) {ι' : Nat → Gh} {U' : Nat → Prop} {L' : Lim} {w' : World} (hι : ∀ n, U n → ι' n = ι n) (hU : ∀ n, U n → U' n) (he : Evo L w L' w')
    (hk : ∀ n, C n ≠ none → (ι n).nl = false → w'.heap[(ι n).b]? = w.heap[(ι n).b]? ∧ L' (ι n).b = true) : WR ι' U' L' w' C where
  ok n c hc := (h.ok n c hc).grow (h.used n (by simp [hc])) hι hU he.stab (fun hl => (hk n (by simp [hc]) hl).1)
  lim n hn := by rw [hι n (h.used n hn)]; exact fun hl => (hk n hn hl).2
  inj n k hn hk' := by rw [hι n (h.used n hn), hι k (h.used k hk')]; exact h.inj n k hn hk'
  used n hn := hU n (h.used n hn)
  glob := h.glob.mono he.stab

/-- Nothing is turned. -/
theorem Aft.same (hW : WR ι U L w C) {x : X} {v : Value} (hr : Rel ι U L w x v) (hK : K x []) : Aft ι U L w C m K v w :=
  ⟨x, [], ι, L, hK, hr.mono (fun _ _ => rfl) (fun _ h => .inl h) (fun _ _ _ h => h), hW.grow (fun _ _ => rfl) (fun _ h => .inl h) (Evo.refl _ _) (fun n hn hl => ⟨rfl, hW.lim n hn hl⟩), Evo.refl _ _, fun _ _ => rfl, fun _ _ _ => ⟨rfl, rfl⟩, fun n hn hl => .inr ⟨n, hn, hl, rfl⟩⟩
theorem Outc.same (hW : WR ι U L w C) {r : Result Next} {x : X} {v : Value} (hr : r = .ok (.value v) w) (hx : Rel ι U L w x v) (hK : K x []) : Outc P r ι U L w C m K :=
  .inl ⟨v, w, hr, Aft.same hW hx hK⟩

/-! ### Inversions -/
theorem Rel.int_inv {k : IntKind} {n : Int} {u : Value} (h : Rel ι U L w (.d (.int k n)) u) : u = .int k n ∧ fits k n := by
  cases h with | d h => cases h with | int h => exact ⟨rfl, h⟩
theorem Rel.bool_inv {b : Bool} {u : Value} (h : Rel ι U L w (.d (.bool b)) u) : u = .bool b := by
  cases h with | d h => cases h with | bool => rfl
theorem Rel.str_inv {s : ByteArray} {u : Value} (h : Rel ι U L w (.d (.str s)) u) : u = .string s ∧ s.size ≤ top := by
  cases h with | d h => cases h with | str h => exact ⟨rfl, h⟩
theorem Rel.nil_inv {u : Value} (h : Rel ι U L w .nil u) : u = .slice none 0 0 := by cases h; rfl
theorem Rel.sl_inv {es : List (List D)} {u : Value} (h : Rel ι U L w (.d (.sl es)) u) : ∃ a c, u = .slice a es.length c ∧ es.length ≤ c ∧ c ≤ top ∧ (a = none → c = 0) ∧ ∃ us : Nat → Nat → Value,
    (es ≠ [] → ∃ b o k, a = some ⟨b, o, none⟩ ∧ ∀ i (hi : i < es.length), (es[i]'hi).length = k ∧ ∀ j, j < k → Stab L w b (o + i * k + j) (us i j)) ∧
    (∀ i (hi : i < es.length) j (hj : j < (es[i]'hi).length), Den L w ((es[i]'hi)[j]'hj) (us i j)) := by
  cases h with | d h => cases h with | sl us hc hB h0 hs hd => exact ⟨_, _, rfl, hc, hB, h0, us, hs, hd⟩
theorem Rel.int (k : IntKind) {n : Int} (h : fits k n) : Rel ι U L w (.d (.int k n)) (.int k n) := .d (.int h)
theorem Rel.bool (b : Bool) : Rel ι U L w (.d (.bool b)) (.bool b) := .d (.bool b)

theorem min_of (k : IntKind) : k.min = match k with | .i8 => -128 | .i16 => -32768 | .i32 => -2147483648 | .i64 => -9223372036854775808 | _ => 0 := by cases k <;> rfl
theorem max_of (k : IntKind) : k.max = match k with | .i8 => 127 | .i16 => 32767 | .i32 => 2147483647 | .i64 => 9223372036854775807 | .u8 => 255 | .u16 => 65535 | .u32 => 4294967295 | .u64 => 18446744073709551615 := by cases k <;> rfl
theorem wrap_bounds (k : IntKind) (n : Int) : k.min ≤ k.wrap n ∧ k.wrap n ≤ k.max := by
  rw [min_of, max_of]
  cases k <;> simp [IntKind.wrap, IntKind.bits, IntKind.signed] <;> (try split) <;> omega
theorem fits_of {k : IntKind} {n : Int} (h : k.min ≤ n) (h2 : n ≤ k.max) : fits k n := by
  unfold fits
  rw [min_of] at h
  rw [max_of] at h2
  cases k
  · exact IntWalk.i8_in n ⟨h, h2⟩
  · exact IntWalk.i16_in n ⟨h, h2⟩
  · exact IntWalk.i32_in n ⟨h, h2⟩
  · exact IntWalk.i64_in n ⟨h, h2⟩
  · exact IntWalk.u8_in n ⟨h, h2⟩
  · exact IntWalk.u16_in n ⟨h, h2⟩
  · exact IntWalk.u32_in n ⟨h, h2⟩
  · exact IntWalk.u64_in n ⟨h, h2⟩
theorem wrap_fits (k : IntKind) (n : Int) : fits k (k.wrap n) := fits_of (wrap_bounds k n).1 (wrap_bounds k n).2
theorem fits_bounds {k : IntKind} {n : Int} (h : fits k n) : k.min ≤ n ∧ n ≤ k.max := by rw [← h]; exact wrap_bounds k n
theorem litOk_fits {k : IntKind} {n : Int} (h : litOk k n = true) : fits k n := fits_of (of_decide_eq_true h).1 (of_decide_eq_true h).2
theorem fits_i64 {n : Int} (h : -9223372036854775808 ≤ n) (h2 : n ≤ 9223372036854775807) : fits .i64 n := fits_of (by rw [min_of]; exact h) (by rw [max_of]; exact h2)
theorem fits_u8 {n : Int} (h : 0 ≤ n) (h2 : n ≤ 255) : fits .u8 n := fits_of (by rw [min_of]; exact h) (by rw [max_of]; exact h2)
theorem tmod_le {a b : Int} (ha : 0 ≤ a) (hb : 0 < b) : 0 ≤ a.tmod b ∧ a.tmod b ≤ a := by
  rw [Int.tmod_eq_emod_of_nonneg ha]
  have h1 := Int.emod_nonneg a (Int.ne_of_gt hb)
  have h2 := Int.mul_ediv_add_emod a b
  have h3 : 0 ≤ b * (a / b) := Int.mul_nonneg (Int.le_of_lt hb) (Int.ediv_nonneg ha (Int.le_of_lt hb))
  omega
theorem fits_tmod {k : IntKind} {a b : Int} (h : fits k a) (hb : 0 < b) : k.wrap (a.tmod b) = a.tmod b := by
  obtain ⟨h1, h2⟩ := fits_bounds h
  have hm : k.min ≤ 0 := by cases k <;> decide
  have hM : 0 ≤ k.max := by cases k <;> decide
  rcases Int.le_total 0 a with ha | ha
  · have := tmod_le ha hb
    exact fits_of (by omega) (by omega)
  · have hn : (-a).tmod b = -(a.tmod b) := Int.neg_tmod ..
    have := tmod_le (a := -a) (by omega) hb
    exact fits_of (by omega) (by omega)

theorem lit_rel (v : Value) : Rel ι U L w (lit v) v := by
  unfold lit
  split
  · split
    · rename_i h; exact .d (.int (litOk_fits h))
    · exact .junk _
  · exact .d (.bool _)
  · split
    · rename_i h; exact .d (.str h)
    · exact .junk _
  · exact .nil
  · exact .clo (f := _) (cs := []) [] rfl (fun i hi => absurd hi (by simp))
  · exact .junk _
  · exact .junk _
  · rename_i h1 h2
    refine .d (.v ?_)
    cases v <;> first | rfl | exact absurd rfl (h1 _) | exact absurd rfl (h2 _)
theorem ev_rel (hG : Glob L w) {a : Act} {s : Nat → X} (h : ∀ t, Rel ι U L w (s t) (a.tmps.getD t undef)) (o : Operand) : Rel ι U L w (ev s o) (a.eval o) := by
  cases o with
  | tmp t => exact h t
  | const v => exact lit_rel v
  | global g =>
    show Rel ι U L w (match known g with | some cs => .ptr cs | none => .d (.v (.pointer (some ⟨g, 0, none⟩)))) _
    cases hk : known g with
    | none => exact .d (.v rfl)
    | some cs =>
      obtain ⟨us, h1, h2⟩ := hG g cs hk
      exact .ptr g 0 us (fun j hj => by rw [Nat.zero_add]; exact h1 j hj) h2
  | func f => exact .clo (f := f) (cs := []) [] rfl (fun i hi => absurd hi (by simp))

theorem run_underlying_some {t : TypeId} {d : TypeDesc} (h : P.underlying t = some d) : (underlying t).run P w = .ok d w := run_underlying h w

theorem tsz_inv {t : TypeId} {g : Bool} {n : Nat} (h : tsz P t = some (g, n)) : ∃ i d, P.info? t = some i ∧ P.underlying t = some d ∧ i.size = n ∧ (isAgg t).run P w = .ok g w ∧ (sizeOf t).run P w = .ok n w := by
  unfold tsz at h
  cases hi : P.info? t with
  | none => simp [hi] at h
  | some i =>
    simp only [hi] at h
    cases hd : P.underlying t with
    | none => simp [hd] at h
    | some d =>
      simp only [hd] at h
      have hs : (sizeOf t).run P w = .ok i.size w := by rw [run_sizeOf w hi]; simp [Program.cellsOf, hi]
      refine ⟨i, d, rfl, rfl, ?_⟩
      cases d <;> simp only [Option.some.injEq, Prod.mk.injEq] at h <;> obtain ⟨rfl, rfl⟩ := h <;>
        exact ⟨rfl, by unfold isAgg; simp [Sem.run_bind, run_underlying hd w], hs⟩
theorem telem_inv {t e : TypeId} {k by_ : Nat} (h : telem P t = some (e, k, by_)) : ∃ i, P.underlying t = some (.slice e) ∧ P.info? e = some i ∧ i.size = k ∧ i.bytes = by_ ∧ (sizeOf e).run P w = .ok k w ∧ (typeInfo e).run P w = .ok i w := by
  unfold telem at h
  split at h
  · rename_i e' hu
    obtain ⟨i, hi, he⟩ := Option.map_eq_some_iff.1 h
    simp only [Prod.mk.injEq] at he
    obtain ⟨rfl, rfl, rfl⟩ := he
    exact ⟨i, hu, hi, rfl, rfl, by rw [run_sizeOf w hi]; simp [Program.cellsOf, hi], run_typeInfo w hi⟩
  · simp at h
end
end Go.Proofs.YtkbnkcdaiahoeaaDoor
