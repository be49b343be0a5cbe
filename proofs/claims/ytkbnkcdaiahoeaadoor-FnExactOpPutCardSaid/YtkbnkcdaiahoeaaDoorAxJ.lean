/- strings.genSplit at a separator of one byte, as a contract over data; cuts. No condition. -/
import Derived.Test.YtkbnkcdaiahoeaaDoorAxI
import Derived.Shelf.Strings.Split
namespace Go.Proofs.YtkbnkcdaiahoeaaDoor
open Go Go.RowKit Go.Shelf
set_option linter.unusedVariables false
theorem splitB_size (sep : ByteArray) : ∀ (k : Nat) (s : ByteArray), ∀ x ∈ Lib.splitB sep 0 k s, x.size ≤ s.size
  | 0, s, x, h => by
    rw [Lib.splitB_zero] at h
    obtain rfl := List.mem_singleton.1 h
    exact Nat.le_refl _
  | k + 1, s, x, h => by
    rcases Lib.indexB_cases s sep with hix | ⟨i, hix, hroom⟩
    · rw [Lib.splitB_miss sep 0 _ s hix] at h
      obtain rfl := List.mem_singleton.1 h
      exact Nat.le_refl _
    · rw [Lib.splitB_hit sep 0 k s i hix, List.mem_cons] at h
      rcases h with rfl | h
      · rw [ByteArray.size_extract]; omega
      · have := splitB_size sep k _ x h
        rw [ByteArray.size_extract] at this
        omega
/-- Fewer cuts than pieces asked for: all are made. -/
theorem splitB_more (sep : ByteArray) (h1 : 1 ≤ sep.size) : ∀ (n : Nat) (s : ByteArray), Lib.countB s sep = n → ∀ k, n ≤ k → Lib.splitB sep 0 k s = Lib.splitB sep 0 n s
  | 0, s, hn, k, hk => by
    rcases Lib.indexB_cases s sep with hix | ⟨i, hix, _⟩
    · rw [Lib.splitB_miss sep 0 k s hix, Lib.splitB_zero]
    · have := Lib.countB_hit s sep i h1 hix; omega
  | n + 1, s, hn, k, hk => by
    obtain ⟨k, rfl⟩ : ∃ j, k = j + 1 := ⟨k - 1, by omega⟩
    rcases Lib.indexB_cases s sep with hix | ⟨i, hix, _⟩
    · rw [Lib.countB_miss s sep hix] at hn; omega
    · rw [Lib.splitB_hit sep 0 k s i hix, Lib.splitB_hit sep 0 n s i hix, splitB_more sep h1 n _ (by have := Lib.countB_hit s sep i h1 hix; omega) k (by omega)]
theorem splitB_len (sep : ByteArray) (h1 : 1 ≤ sep.size) : ∀ (k : Nat) (s : ByteArray), k ≤ Lib.countB s sep → (Lib.splitB sep 0 k s).length = k + 1
  | 0, s, _ => rfl
  | k + 1, s, hk => by
    rcases Lib.indexB_cases s sep with hix | ⟨i, hix, _⟩
    · rw [Lib.countB_miss s sep hix] at hk; omega
    · rw [Lib.splitB_hit sep 0 k s i hix, List.length_cons, splitB_len sep h1 k _ (by have := Lib.countB_hit s sep i h1 hix; omega)]
theorem genSplit_spec {P : Program} {ρ : Ren} (Ly : Lays.n221 P ρ) (hi9 : (P.info? (ρ.t 9)).map (fun i => (i.zero, i.size, i.bytes)) = some (some (.string ByteArray.empty), 1, 16)) (hc : callable P (ρ.f 221) = true)
    (s : ByteArray) (c : UInt8) (n : Int) (N : Nat) (hs : s.size < 4294967281) (hn0 : n ≠ 0) (hn63 : n ≤ 9223372036854775807) (hN : (N : Int) = min (if n < 0 then (Lib.countB s ⟨#[c]⟩ : Int) + 1 else n) ((s.size : Int) + 1)) :
    FunR P (ρ.f 221) [.d (.str s), .d (.str ⟨#[c]⟩), .d (.int .i64 0), .d (.int .i64 n)] (fun m => .vec m 1 0 (Lib.splitB ⟨#[c]⟩ 0 (N - 1) s).length) (.vec (ρ.t 9) 1 ((Lib.splitB ⟨#[c]⟩ 0 (N - 1) s).map sS')) := by
  intro m
  refine ⟨hc, fun ι U L w us hW hm hl hr => ?_⟩
  have r0 := hr 0 (by simp)
  have r1 := hr 1 (by simp)
  have r2 := hr 2 (by simp)
  have r3 := hr 3 (by simp)
  match us, hl with
  | [u0, u1, u2, u3], _ =>
  simp only [List.getElem_cons_zero, List.getElem_cons_succ, List.getD_cons_zero, List.getD_cons_succ] at r0 r1 r2 r3
  obtain ⟨rfl, -⟩ := r0.str_inv
  obtain ⟨rfl, -⟩ := r1.str_inv
  obtain ⟨rfl, -⟩ := r2.int_inv
  obtain ⟨rfl, -⟩ := r3.int_inv
  have hcall := Any.strings_genSplit_core Ly hi9 s ⟨#[c]⟩ 0 n N w hs (Nat.le_refl 1) (Nat.zero_le _)
    (fun x cc hx => (Any.strings_Index_one { Ly with } x c _).mono fun e w' ⟨he, hw⟩ => ⟨by rw [he, ← Lib.index_one], hw⟩)
    ((Any.strings_Count_one { Ly with } s c w).mono fun e w' ⟨he, hw⟩ => ⟨by
      rw [he]
      show _ = Ending.returned (Value.int .i64 ((Lib.count s.data.toList [c] : Nat) : Int))
      rw [Lib.count_one]
      rfl, hw⟩) hn0 hn63 hN
  have hNs : N ≤ s.size + 1 := by
    have : (N : Int) ≤ (s.size : Int) + 1 := by rw [hN]; exact Int.min_le_right _ _
    omega
  have hN1 : 1 ≤ N := by
    have : (1 : Int) ≤ (N : Int) := by
      rw [hN]
      refine Int.le_min.2 ⟨?_, by omega⟩
      split <;> omega
    omega
  have hlen := Lib.splitB_length_le ⟨#[c]⟩ 0 (N - 1) s
  have hsz := splitB_size ⟨#[c]⟩ (N - 1) s
  generalize hps : Lib.splitB ⟨#[c]⟩ 0 (N - 1) s = ps at hcall hlen hsz ⊢
  refine hcall.mono ?_
  rintro e w' ⟨rfl, rfl⟩
  refine ⟨_, rfl, ?_⟩
  have htop : top = 9223372036854775807 := rfl
  have a := Aft.newVec (C := capsOf []) (m := m) (K := fun x δ => x = .vec m 1 0 ps.length ∧ δ = [(m, some (.vec (ρ.t 9) 1 (ps.map sS')))]) hW hm (ty := ρ.t 9) (k := 1) (cap := N) (es := ps.map sS') (us := ps.map Value.string ++ List.replicate (N - ps.length) (Value.string ByteArray.empty)) (w' := w.alloc (.cells (Lib.cellsOf ps N) (ρ.t 9))) rfl rfl rfl rfl (by simp; omega) (by simp; omega) (by omega) (fun a ha => by
      have ha' : a < ps.length := by simpa using ha
      have e0 : (ps.map sS')[a]'ha = sS' ps[a] := by simp
      refine ⟨by rw [e0]; rfl, fun j hj => ?_⟩
      have hj0 : j = 0 := by rw [e0] at hj; simp [sS'] at hj; omega
      subst hj0
      have e2 : ((ps.map sS')[a]'ha)[0]'hj = .str ps[a] := by simp [sS']
      have e3 : (ps.map Value.string ++ List.replicate (N - ps.length) (Value.string ByteArray.empty)).getD (a * 1 + 0) undef = .string ps[a] := by
        rw [Nat.mul_one, Nat.add_zero, List.getD_eq_getElem?_getD, List.getElem?_append_left (by simpa using ha')]
        simp [ha']
      rw [e2, e3]
      exact .str (by have := hsz ps[a] (List.getElem_mem ha'); omega)) ⟨by simp, rfl⟩
  simpa using a
end Go.Proofs.YtkbnkcdaiahoeaaDoor
