/- strings copied, one put in at its place. No condition. -/
import Derived.Test.YtkbnkcdaiahoeaaDoorE16
import Derived.Test.YtkbnkcdaiahoeaaDoorAxD
namespace Go.Proofs.YtkbnkcdaiahoeaaDoor
open Go Go.RowKit Go.Shelf
set_option maxRecDepth 100000
set_option linter.unusedSimpArgs false
set_option linter.unusedVariables false
/-- Where the search stops; whether it is there. -/
def kS (ss : List ByteArray) (x : ByteArray) : Nat := Lib.bsGo (fun t => Op.bytesLess (ss.getD t ByteArray.empty).toList x.toList) ss.length 0 ss.length
def fS (ss : List ByteArray) (x : ByteArray) : Bool := decide (kS ss x < ss.length ∧ ss.getD (kS ss x) ByteArray.empty = x)
theorem bsGo_le (less : Nat → Bool) : ∀ (f lo hi : Nat), lo ≤ hi → Lib.bsGo less f lo hi ≤ hi
  | 0, lo, hi, h => h
  | f + 1, lo, hi, h => by
    simp only [Lib.bsGo]
    split
    · split
      · exact bsGo_le less f _ _ (by omega)
      · exact Nat.le_trans (bsGo_le less f _ _ (by omega)) (by omega)
    · exact h
theorem kS_le (ss : List ByteArray) (x : ByteArray) : kS ss x ≤ ss.length := bsGo_le _ _ _ _ (Nat.zero_le _)
/-- x put in at its place among names that ascend. -/
def twS (ss : List ByteArray) (x : ByteArray) : Nat := (ss.takeWhile fun y => strLt y x).length
def putS (ss : List ByteArray) (x : ByteArray) : List ByteArray := if ss[twS ss x]? = some x then ss else insS ss (twS ss x) x
theorem mtake (ss : List ByteArray) (i : Nat) : (ss.map sS).take i = (ss.take i).map sS := by rw [List.map_take]
theorem mdrop (ss : List ByteArray) (i : Nat) : (ss.map sS).drop i = (ss.drop i).map sS := by rw [List.map_drop]
theorem row_get {ss : List ByteArray} {i : Nat} {c : List D} (h : (ss.map sS)[i]? = some c) : ∃ y, ss[i]? = some y ∧ c = sS y := by
  rw [List.getElem?_map] at h
  cases hs : ss[i]? with
  | none => rw [hs] at h; cases h
  | some y => rw [hs] at h; exact ⟨y, rfl, (Option.some.inj h).symm⟩
theorem twS_eq {ss : List ByteArray} {x : ByteArray} {i : Nat} (h1 : i ≤ ss.length) (h2 : ∀ j y, j < i → ss[j]? = some y → strLt y x = true) (h3 : ∀ y, ss[i]? = some y → strLt y x = false) : twS ss x = i := by
  unfold twS
  have e : ss = ss.take i ++ ss.drop i := (List.take_append_drop i ss).symm
  rw [e, List.takeWhile_append_of_pos]
  · have : (ss.drop i).takeWhile (fun y => strLt y x) = [] := by
      cases hd : ss.drop i with
      | nil => rfl
      | cons y r =>
        have : ss[i]? = some y := by
          have := congrArg (·[0]?) hd
          simpa using this
        simp [h3 y this]
    rw [this]; simp; omega
  · intro y hy
    obtain ⟨j, hj, hjy⟩ := List.mem_iff_getElem.1 hy
    have hji : j < i := by simp at hj; omega
    exact h2 j y hji (by rw [← hjy, List.getElem_take]; exact List.getElem?_eq_getElem _)
theorem tz9l : (tzero Tryd.prog 9).map (·.length) = some 1 := by kernel_rfl
theorem iz9 : (tzero Tryd.prog 9).isSome = true := by kernel_rfl
attribute [local go_sem] List.size_toArray Int.toNat_zero Nat.sub_zero size_mk top_val eq_self datL X.dat u8min u8max i64min i64max stepT gdO aop ev lit litOk putF fzX_false putO upd app List.contains_nil List.elem_nil aBin aInt aStr aBool aLen lenTy aBuiltin aLoad aTake aTakeX aStore splice aSlice aBd look_cons look_nil lookC_cons lookC_nil by_s by_C start_s start_C X.cells X.cell List.all_cons List.all_nil Bool.and_self Bool.not_true Bool.not_false false_implies true_implies forall_const and_true true_and and_self implies_true not_false_eq_true Nat.zero_add Nat.add_zero List.getD_cons_zero List.getD_cons_succ List.map_cons List.map_nil Option.bind_some Option.map_some Option.map_none List.getElem?_cons_zero List.getElem?_cons_succ List.length_cons List.length_nil List.drop_zero List.drop_succ_cons List.take_succ_cons List.take_zero List.cons_append List.nil_append List.append_nil D.of List.length_map all_get_map Option.isSome_some and_false false_and Nat.lt_add_one Nat.zero_lt_succ decide_true decide_false aPart Nat.lt_irrefl fzX litEs List.contains_cons List.elem_cons Bool.true_or Bool.or_true Bool.false_or Bool.or_false beq_self_eq_true
section
attribute [local go_sem] tsz9 tsz39 tel39 toNat_cast und9 tz9l iz9 aDst aSrc aNil
end
section
attribute [local go_sem] tsz9 tsz39 tel39 toNat_cast und9 tz9l iz9 aDst aSrc sS mtake mdrop List.length_take List.length_drop List.length_append
end
end Go.Proofs.YtkbnkcdaiahoeaaDoor
