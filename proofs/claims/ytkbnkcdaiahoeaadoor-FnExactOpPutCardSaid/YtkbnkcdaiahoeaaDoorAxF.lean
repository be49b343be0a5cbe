/- Answers seen otherwise: a row given up, nil as no elements. No condition. -/
import Derived.Test.YtkbnkcdaiahoeaaDoorAxE
namespace Go.Proofs.YtkbnkcdaiahoeaaDoor
open Go Go.RowKit
set_option linter.unusedVariables false
set_option linter.unusedSimpArgs false
/-- A function that hands back a row, seen as one that answers data. -/
theorem FunR.dat {P : Program} {f : FuncId} {ys : List X} {mk : Nat → X} {ty : TypeId} {k : Nat} {es : List (List D)} {y : X} (h : FunR P f ys mk (.vec ty k es)) (hys : X.onL (fun _ => false) ys = true) (hy : (mk 0).frz 0 k es = y) (hon : y.on (fun _ => false) = true) : Fun P f ys y := by
  refine Fun.of ⟨(h 0).1, fun ι U L w us hW hm hl hr => ?_⟩ hys hon
  refine ((h 0).2 ι U L w us hW hm hl hr).mono ?_
  rintro e w' ⟨v, rfl, x, δ, ι', L', ⟨rfl, rfl⟩, h2, h3, h4, h5, h6⟩
  have hc : app [(0, some (Cap.vec ty k es))] (capsOf []) 0 = some (.vec ty k es) := by simp [app, upd]
  have hne : app [(0, some (Cap.vec ty k es))] (capsOf []) 0 ≠ none := by rw [hc]; simp
  have hC : ∀ n, capsOf [] n = none := fun n => rfl
  have hnew : (ι' 0).nl = false → w.heap.size ≤ (ι' 0).b := fun hl => by
    rcases h6.orig 0 hne hl with h | ⟨j, hj, -⟩
    · exact h
    · exact absurd (hC j) hj
  refine ⟨v, rfl, y, [], ι', lessL ι' 0 L', ⟨rfl, rfl⟩, ?_, ⟨fun n c hc => (by cases hc), fun n hn => absurd rfl hn, fun n m hn => absurd rfl hn, fun n hn => absurd rfl hn, h3.glob.mono less_mono⟩, ⟨h4.os, h4.tape, h4.output, h4.size, fun b hb hl => ⟨lessL_stab b (h4.blk b hb hl).1, (h4.blk b hb hl).2⟩⟩, h5, ⟨fun b hb ho => ?_, fun n hn => absurd rfl hn⟩⟩
  · rw [← hy]
    exact Rel.frz h3 hc _ _ h2
  · have := h6.same b hb (fun n hn => absurd (hC n) hn)
    refine ⟨this.1, ?_⟩
    rw [← this.2]
    unfold lessL
    split
    · rename_i hh
      have := hnew hh.1
      omega
    · rfl
mutual
/-- nil as no elements. -/
def X.nn : X → X
  | .ag cs => .ag (X.nnL cs)
  | .clo f cs => .clo f (X.nnL cs)
  | .tup xs => .tup (X.nnL xs)
  | .nil => .d (.sl [])
  | x => x
def X.nnL : List X → List X
  | [] => []
  | x :: r => X.nn x :: X.nnL r
end
theorem nnL_length : ∀ l : List X, (X.nnL l).length = l.length
  | [] => rfl
  | _ :: r => by simp [X.nnL, nnL_length r]
section
variable {ι : Nat → Gh} {U : Nat → Prop} {L : Lim} {w : World}
mutual
theorem Rel.nn : ∀ (x : X) (v : Value), Rel ι U L w x v → Rel ι U L w x.nn v
  | .ag cs, v, h => by
    cases h with
    | ag us hl h => exact .ag us (by rw [hl, nnL_length]) (Rel.nnL cs us h)
  | .clo f cs, v, h => by
    cases h with
    | clo us hl h => exact .clo us (by rw [hl, nnL_length]) (Rel.nnL cs us h)
  | .tup cs, v, h => by
    cases h with
    | tup us hl h => exact .tup us (by rw [hl, nnL_length]) (Rel.nnL cs us h)
  | .nil, v, h => by rw [h.nil_inv]; exact .d (den_nil _ _ (Nat.zero_le _) (fun _ => rfl))
  | .bx n o, v, h => h
  | .ve n k i o, v, h => h
  | .vec n k a l, v, h => h
  | .d x, v, h => h
  | .ptr cs, v, h => h
  | .undef, v, h => h
  | .junk, v, h => h
theorem Rel.nnL : ∀ (cs : List X) (us : List Value), (∀ i (hi : i < cs.length), Rel ι U L w (cs[i]'hi) (us.getD i Go.undef)) → ∀ i (hi : i < (X.nnL cs).length), Rel ι U L w ((X.nnL cs)[i]'hi) (us.getD i Go.undef)
  | [], us, _ => fun i hi => absurd hi (by simp [X.nnL])
  | x :: cs, us, h => fun i hi => by
    cases i with
    | zero => exact Rel.nn x _ (h 0 (Nat.succ_pos _))
    | succ i =>
      have h' : ∀ i (hi : i < cs.length), Rel ι U L w (cs[i]'hi) (us.tail.getD i Go.undef) := fun i hi => by
        have := h (i + 1) (by simpa using hi)
        cases us with
        | nil => simpa using this
        | cons u us => simpa using this
      have := Rel.nnL cs us.tail h' i (by simpa [X.nnL] using hi)
      cases us with
      | nil => simpa [X.nnL] using this
      | cons u us => simpa [X.nnL] using this
end
end
theorem Fun.nn {P : Program} {f : FuncId} {ys : List X} {y y' : X} (h : Fun P f ys y) (hy : y.nn = y') : Fun P f ys y' := by
  subst hy
  intro m
  refine ⟨(h m).1, fun ι U L w us hW hm hl hr => ((h m).2 ι U L w us hW hm hl hr).mono ?_⟩
  rintro e w' ⟨v, rfl, x, δ, ι', L', ⟨rfl, rfl⟩, h2, h3⟩
  exact ⟨v, rfl, _, _, ι', L', ⟨rfl, rfl⟩, Rel.nn _ _ h2, h3⟩
end Go.Proofs.YtkbnkcdaiahoeaaDoor
