/- That 'aop' tells what an operation of the model does: the operations that leave memory as it is. No condition. -/
import Derived.Test.YtkbnkcdaiahoeaaDoorAwC
import Derived.Laws.Strings
import Derived.Laws.StructEq
namespace Go.Proofs.YtkbnkcdaiahoeaaDoor
open Go Go.RowKit
set_option linter.unusedVariables false
set_option linter.unusedSimpArgs false
section
variable {P : Program} {ι : Nat → Gh} {U : Nat → Prop} {L : Lim} {w : World} {C : Caps} {m : Nat} {K : X → Del → Prop} {e : Operand → X} {ρ : Operand → Value} {wr av : Nat → Prop}

theorem Outc.val {s : Sem Value} {v : Value} {w' : World} (hr : s.run P w = .ok v w') (ha : Aft ι U L w C m K v w') : Outc P ((do pure (Next.value (← s)) : Sem Next).run P w) ι U L w C m K :=
  .inl ⟨v, w', by simp [hr], ha⟩
theorem Outc.unit {s : Sem Unit} {w' : World} (hr : s.run P w = .ok () w') (ha : Aft ι U L w C m K undef w') : Outc P ((do s; pure Next.skip : Sem Next).run P w) ι U L w C m K :=
  .inr (.inl ⟨w', by simp [hr], ha⟩)

theorem toList_beq (a b : ByteArray) : (a.toList == b.toList) = decide (a = b) := by
  rw [Bool.eq_iff_iff]
  simp only [beq_iff_eq, decide_eq_true_eq]
  constructor
  · intro h
    rw [ByteArray.toList_eq, ByteArray.toList_eq] at h
    cases a; cases b; simp only [ByteArray.mk.injEq]; exact Array.toList_inj.1 h
  · intro h; rw [h]

theorem run_eqGuard_plain {op : BinOp} {t : TypeId} {x y : Operand} {a b : Value} (ha : ∀ cs, a ≠ .agg cs) (hi : a ≠ .nilIface) : (eqGuard op t x y a b).run P w = .ok () w := by
  unfold eqGuard
  cases op <;> simp <;> (split <;> simp_all)

theorem int_sound {op : BinOp} {t : TypeId} {k : IntKind} {a b : Int} {K' : D → Prop} (fa : fits k a) (fb : fits k b) (h : aInt op k a b K') :
    ∃ d v, (binOp op t (.int k a) (.int k b)).run P w = .ok v w ∧ Den L w d v ∧ K' d := by
  cases op <;> simp only [aInt] at h
  case add => exact ⟨_, _, by simp [binOp, Op.intArith], .int (wrap_fits _ _), h⟩
  case sub => exact ⟨_, _, by simp [binOp, Op.intArith], .int (wrap_fits _ _), h⟩
  case mul => exact ⟨_, _, by simp [binOp, Op.intArith], .int (wrap_fits _ _), h⟩
  case quo => exact ⟨_, _, by simp [binOp, Op.intDiv, Int.ne_of_gt h.1], .int (wrap_fits _ _), h.2⟩
  case rem =>
    rw [fits_tmod fa h.1] at h
    exact ⟨_, _, by simp [binOp, Op.intDiv, Int.ne_of_gt h.1], .int (by rw [← fits_tmod fa h.1]; exact wrap_fits _ _), h.2⟩
  case xor =>
    refine ⟨.int k (k.wrap ((BitVec.ofInt k.bits a ^^^ BitVec.ofInt k.bits b).toNat : Nat)), .int k (k.wrap ((BitVec.ofInt k.bits a ^^^ BitVec.ofInt k.bits b).toNat : Nat)), by simp only [binOp, Op.intBits, ne_eq, not_true_eq_false, if_false, ↓reduceIte, Sem.run_pure], .int (wrap_fits _ _), h _ (wrap_fits _ _) ?_⟩
    intro ha hb
    have hab : ∀ n : Int, 0 ≤ n → fits k n → n < 2 ^ k.bits ∧ (k.signed = true → n < 2 ^ (k.bits - 1)) := by
      intro n hn hf
      obtain ⟨h1, h2⟩ := fits_bounds hf
      rw [max_of] at h2
      cases k <;> dsimp only at h2 <;> simp only [IntKind.bits, IntKind.signed, Nat.reduceSub, Int.reducePow, Bool.false_eq_true, false_imp_iff, true_imp_iff, forall_const, and_true] <;> omega
    obtain ⟨a', rfl⟩ := Int.eq_ofNat_of_zero_le ha
    obtain ⟨b', rfl⟩ := Int.eq_ofNat_of_zero_le hb
    obtain ⟨ha1, ha2⟩ := hab _ ha fa
    obtain ⟨hb1, hb2⟩ := hab _ hb fb
    have ha3 : a' < 2 ^ k.bits := by exact_mod_cast ha1
    have hb3 : b' < 2 ^ k.bits := by exact_mod_cast hb1
    simp only [BitVec.ofInt_natCast, BitVec.toNat_xor, BitVec.toNat_ofNat, Nat.mod_eq_of_lt ha3, Nat.mod_eq_of_lt hb3]
    have hx : (a' ^^^ b') < 2 ^ k.bits := Nat.xor_lt_two_pow ha3 hb3
    by_cases hs : k.signed = true
    · have ha4 : a' < 2 ^ (k.bits - 1) := by exact_mod_cast ha2 hs
      have hb4 : b' < 2 ^ (k.bits - 1) := by exact_mod_cast hb2 hs
      have hx4 : (a' ^^^ b') < 2 ^ (k.bits - 1) := Nat.xor_lt_two_pow ha4 hb4
      have hf : fits k ((a' ^^^ b' : Nat) : Int) := by
        refine fits_of ?_ ?_
        · have : k.min ≤ 0 := by cases k <;> decide
          omega
        · have : ((a' ^^^ b' : Nat) : Int) < 2 ^ (k.bits - 1) := by exact_mod_cast hx4
          unfold IntKind.max; simp only [hs, if_true]; omega
      rw [hf]; omega
    · have hf : fits k ((a' ^^^ b' : Nat) : Int) := by
        refine fits_of ?_ ?_
        · have : k.min ≤ 0 := by cases k <;> decide
          omega
        · have : ((a' ^^^ b' : Nat) : Int) < 2 ^ k.bits := by exact_mod_cast hx
          unfold IntKind.max; simp only [hs]; simp; omega
      rw [hf]; omega
  all_goals exact ⟨_, _, by simp [binOp, Op.intCmp]; rfl, .bool _, by first | exact h | simpa using h⟩

theorem str_sound {op : BinOp} {t : TypeId} {a b : ByteArray} {K' : D → Prop} (h : aStr op a b K') :
    ∃ d v, (binOp op t (.string a) (.string b)).run P w = .ok v w ∧ Den L w d v ∧ K' d := by
  cases op <;> simp only [aStr] at h
  case add =>
    refine ⟨.str (a ++ b), .string (a ++ b), ?_, .str (by rw [ByteArray.size_append]; exact h.1), h.2⟩
    have : ¬ (((a.size + b.size : Nat) : Int) > IntKind.i64.max) := by rw [max_of]; have := h.1; unfold top at this; simp; omega
    simp only [binOp, Op.stringOp, this, if_false, ↓reduceIte, Sem.run_pure]
  case eql => exact ⟨_, _, by simp [binOp, Op.stringOp]; rfl, .bool _, by rw [toList_beq]; exact h⟩
  case neq => exact ⟨.bool (!(a.toList == b.toList)), .bool (!(a.toList == b.toList)), by simp only [binOp, Op.stringOp, Sem.run_pure], .bool _, by rw [toList_beq]; exact h⟩
  case lss => exact ⟨_, _, by simp [binOp, Op.stringOp]; rfl, .bool _, h⟩
  case leq => exact ⟨_, _, by simp [binOp, Op.stringOp]; rfl, .bool _, by rw [toList_beq]; exact h⟩
  case gtr => exact ⟨.bool (!(strLt a b || (a.toList == b.toList))), .bool (!(strLt a b || (a.toList == b.toList))), by simp only [binOp, Op.stringOp, Sem.run_pure, strLt], .bool _, by rw [toList_beq]; exact h⟩
  case geq => exact ⟨_, _, by simp [binOp, Op.stringOp]; rfl, .bool _, h⟩

theorem run_equalIn_sl_nil (d : Nat) {t el : TypeId} (hu : P.underlying t = some (.slice el)) (a : Option Addr) (n c : Nat) : (Op.equalIn (d + 1) t (.slice a n c) (.slice none 0 0)).run P w = .ok a.isNone w := by
  cases a <;> simp only [Op.equalIn, Sem.run_bind, run_underlying hu, Result.andThen_ok, Sem.run_pure, Option.isNone]
theorem run_equalIn_nil_sl (d : Nat) {t el : TypeId} (hu : P.underlying t = some (.slice el)) (a : Option Addr) (n c : Nat) : (Op.equalIn (d + 1) t (.slice none 0 0) (.slice a n c)).run P w = .ok a.isNone w := by
  cases a <;> simp only [Op.equalIn, Sem.run_bind, run_underlying hu, Result.andThen_ok, Sem.run_pure, Option.isNone]
theorem run_equalIn_bool (d : Nat) {t : TypeId} (hu : P.underlying t = some .bool) (a b : Bool) : (Op.equalIn (d + 1) t (.bool a) (.bool b)).run P w = .ok (a == b) w := by
  simp only [Op.equalIn, Sem.run_bind, run_underlying hu, Result.andThen_ok, Sem.run_pure]
theorem run_equalIn_int (d : Nat) {t : TypeId} {k : IntKind} (hu : P.underlying t = some (.int k)) (k' : IntKind) (a b : Int) : (Op.equalIn (d + 1) t (.int k' a) (.int k' b)).run P w = .ok (a == b) w := by
  simp only [Op.equalIn, Sem.run_bind, run_underlying hu, Result.andThen_ok, Sem.run_pure, if_true]
theorem run_equalIn_str (d : Nat) {t : TypeId} (hu : P.underlying t = some .string) (a b : ByteArray) : (Op.equalIn (d + 1) t (.string a) (.string b)).run P w = .ok (a == b) w := by
  simp only [Op.equalIn, Sem.run_bind, run_underlying hu, Result.andThen_ok, Sem.run_pure]
theorem run_equal_of {t : TypeId} {x y : Value} {b : Bool} (h : ∀ d, (Op.equalIn (d + 1) t x y).run P w = .ok b w) : (Op.equal t x y).run P w = .ok b w := h 9999

theorem run_equal_of' {t : TypeId} {x y : Value} {b : Bool} (h : ∀ d, (Op.equalIn (d + 2) t x y).run P w = .ok b w) : (Op.equal t x y).run P w = .ok b w := h 9998
theorem ba_beq (a b : ByteArray) : (a == b) = decide (a = b) := by
  rw [beq_toListBytes, toList_beq]
def aggD : TypeDesc → Bool
  | .struct _ | .array _ _ => true
  | _ => false
theorem run_isAgg {t : TypeId} {d : TypeDesc} (hu : P.underlying t = some d) : (isAgg t).run P w = .ok (aggD d) w := by
  unfold isAgg
  cases d <;> simp [run_underlying hu, aggD]
theorem run_part_one {t : TypeId} {d : TypeDesc} (hu : P.underlying t = some d) (hd : aggD d = false) {us : List Value} {i : Nat} (hi : i < us.length) : (part t us.toArray i).run P w = .ok (us.getD i undef) w := by
  simp [part, run_isAgg hu, hd, List.getElem?_eq_getElem hi, List.getD_eq_getElem?_getD]
theorem eq_step {f : Sem Bool} {b c : Bool} (h : f.run P w = .ok b w) : ((if (!c) = true then pure false else f : Sem Bool)).run P w = .ok (c && b) w := by
  cases c <;> simp [h]
theorem run_eqFields_plain (d : Nat) (us vs : List Value) : ∀ (fs : List Field) (i : Nat) (cs ds : List X) (b : Bool),
    (∀ j (f : Field), fs[j]? = some f → f.offset = i + j ∧ f.name ≠ "_") → i + cs.length ≤ us.length → i + ds.length ≤ vs.length →
    (∀ j (hj : j < cs.length), Rel ι U L w (cs[j]'hj) (us.getD (i + j) undef)) → (∀ j (hj : j < ds.length), Rel ι U L w (ds[j]'hj) (vs.getD (i + j) undef)) → eqL (fs.map fun f => tkind P f.type) cs ds = some b →
    (Op.eqFields (d + 1) us.toArray vs.toArray fs).run P w = .ok b w := by
  intro fs
  induction fs with
  | nil =>
    intro i cs ds b hf h1 h2 hr1 hr2 he
    cases cs <;> cases ds <;> simp [eqL] at he
    subst he; simp [Op.eqFields]
  | cons f fs ih =>
    intro i cs ds b hf h1 h2 hr1 hr2 he
    obtain ⟨ho, hn⟩ := hf 0 f rfl
    simp only [Nat.add_zero] at ho
    cases cs with
    | nil => simp [eqL] at he
    | cons c cs =>
      cases ds with
      | nil => simp [eqL] at he
      | cons q ds =>
        have hrest : ∀ b', eqL (fs.map fun f => tkind P f.type) cs ds = some b' → (Op.eqFields (d + 1) us.toArray vs.toArray fs).run P w = .ok b' w := fun b' hb' =>
          ih (i + 1) cs ds b' (fun j g hg => by have := hf (j + 1) g hg; exact ⟨by omega, this.2⟩) (by simp only [List.length_cons] at h1; omega) (by simp only [List.length_cons] at h2; omega)
            (fun j hj => by rw [show i + 1 + j = i + (j + 1) from by omega]; exact hr1 (j + 1) (Nat.succ_lt_succ hj)) (fun j hj => by rw [show i + 1 + j = i + (j + 1) from by omega]; exact hr2 (j + 1) (Nat.succ_lt_succ hj)) hb'
        have r1 : Rel ι U L w c (us.getD i undef) := hr1 0 (Nat.succ_pos _)
        have r2 : Rel ι U L w q (vs.getD i undef) := hr2 0 (Nat.succ_pos _)
        have hi1 : i < us.length := by simp only [List.length_cons] at h1; omega
        have hi2 : i < vs.length := by simp only [List.length_cons] at h2; omega
        simp only [Op.eqFields, hn, ne_eq, not_false_eq_true, if_true, ho]
        simp only [List.map_cons] at he
        generalize hk : tkind P f.type = kd at he
        unfold tkind at hk
        unfold eqL at he
        split at he
        · rename_i h; simp at h
        · rename_i kk a r kk' b' q' hks h1' h2'
          obtain ⟨rfl, rfl⟩ := by simpa using hks
          obtain ⟨rfl, rfl⟩ := by simpa using h1'
          obtain ⟨rfl, rfl⟩ := by simpa using h2'
          split at hk <;> simp at hk
          rename_i kt hu
          split at he
          · rename_i hkk; subst hkk
            obtain ⟨b', hb', rfl⟩ := Option.map_eq_some_iff.1 he
            simp only [Sem.run_bind, run_part_one hu rfl hi1, run_part_one hu rfl hi2, Result.andThen_ok, r1.int_inv.1, r2.int_inv.1, run_equalIn_int d hu]
            rw [eq_step (hrest b' hb')]; congr 1
          · simp at he
        · rename_i a r b' q' hks h1' h2'
          obtain ⟨rfl, rfl⟩ := by simpa using hks
          obtain ⟨rfl, rfl⟩ := by simpa using h1'
          obtain ⟨rfl, rfl⟩ := by simpa using h2'
          split at hk <;> simp at hk
          rename_i hu
          obtain ⟨b', hb', rfl⟩ := Option.map_eq_some_iff.1 he
          simp only [Sem.run_bind, run_part_one hu rfl hi1, run_part_one hu rfl hi2, Result.andThen_ok, r1.str_inv.1, r2.str_inv.1, run_equalIn_str d hu, ba_beq]
          rw [eq_step (hrest b' hb')]
        · rename_i a r b' q' hks h1' h2'
          obtain ⟨rfl, rfl⟩ := by simpa using hks
          obtain ⟨rfl, rfl⟩ := by simpa using h1'
          obtain ⟨rfl, rfl⟩ := by simpa using h2'
          split at hk <;> simp at hk
          rename_i hu
          obtain ⟨b', hb', rfl⟩ := Option.map_eq_some_iff.1 he
          simp only [Sem.run_bind, run_part_one hu rfl hi1, run_part_one hu rfl hi2, Result.andThen_ok, r1.bool_inv, r2.bool_inv, run_equalIn_bool d hu]
          rw [eq_step (hrest b' hb')]; congr 1
        · simp at he
end
end Go.Proofs.YtkbnkcdaiahoeaaDoor
