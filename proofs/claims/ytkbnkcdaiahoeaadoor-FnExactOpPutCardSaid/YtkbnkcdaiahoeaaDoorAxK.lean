/- A package-level variable that reads as an array of strings holds them, cell for cell. No condition. -/
import Derived.Test.YtkbnkcdaiahoeaaDoorAwX
import Derived.Lib.LaidU8
import Derived.FnData
namespace Go.Proofs.YtkbnkcdaiahoeaaDoor
open Go Go.RowKit
set_option linter.unusedVariables false
theorem vals_of_reads {P : Program} {w : World} {n : String} {g t e len : Nat} (ss : List ByteArray) (hv : Lib.VarReads P w n (.agg (ss.map fun s => .lit (.string s.data.toList)))) (hg : P.globalNamed n = some g) (ht : (P.globals[g]?).map (·.type) = some t)
    (hu : P.underlying t = some (.array len e)) (he : P.underlying e = some .string) (hc : P.cellsOf e = 1) (hl : ss.length = len) : ∀ j (hj : j < ss.length), w.cell? ⟨g, j, none⟩ = some (.string (ss[j]'hj)) := by
  intro j hj
  obtain ⟨g', t', cs, fuel, p, h1, h2, h3, h4⟩ := hv
  obtain rfl : g = g' := Option.some.inj (hg.symm.trans h1)
  obtain rfl : t = t' := Option.some.inj (ht.symm.trans h2)
  rw [World.var?_cell hg h3 j]
  obtain ⟨fuel', d, q, h5, h6⟩ := Lib.array_elem hu h4 j (by omega)
  rw [hc] at h6
  obtain ⟨s, h7, h8, -⟩ := DataW.trod_string he h6
  have h9 : d = .lit (.string s.data.toList) := congrArg Prod.fst h8
  subst h9
  rw [List.getElem?_map, List.getElem?_eq_getElem hj] at h5
  simp only [Option.map_some, Option.some.injEq, DataW.lit.injEq, Lit.string.injEq] at h5
  have hs : ss[j] = s := by
    generalize ss[j] = a at h5
    cases a with
    | mk a => cases s with
      | mk b => simp only at h5; rw [Array.toList_inj] at h5; rw [h5]
  have h10 : cs.toList[j]? = some (.string s) := by
    have := congrArg (·[0]?) h7
    simpa [List.getElem?_take, List.getElem?_drop] using this
  rw [hs]
  simpa using h10
theorem glob_strs {W : World} {g : Nat} (ss : List ByteArray) (hv : ∀ j (hj : j < ss.length), W.cell? ⟨g, j, none⟩ = some (.string (ss[j]'hj))) (hs : ∀ s ∈ ss, s.size ≤ top) :
    ∃ us : Nat → Value, (∀ j, j < (ss.map D.str).length → Stab noLim W g j (us j)) ∧ ∀ j (hj : j < (ss.map D.str).length), Den noLim W ((ss.map D.str)[j]'hj) (us j) := by
  refine ⟨fun j => .string (ss.getD j ByteArray.empty), fun j hj => ⟨rfl, ?_⟩, fun j hj => ?_⟩
  · have hj' : j < ss.length := by simpa using hj
    rw [hv j hj']
    simp [hj']
  · have hj' : j < ss.length := by simpa using hj
    have : ss.getD j ByteArray.empty = ss[j] := by simp [hj']
    show Den noLim W _ (.string (ss.getD j ByteArray.empty))
    rw [this, List.getElem_map]
    exact .str (hs _ (List.getElem_mem _))
end Go.Proofs.YtkbnkcdaiahoeaaDoor
