/- A variable given up: from now on cells that stay. No condition. -/
import Derived.Test.YtkbnkcdaiahoeaaDoorAwV
namespace Go.Proofs.YtkbnkcdaiahoeaaDoor
open Go Go.RowKit
set_option linter.unusedVariables false
set_option linter.unusedSimpArgs false
mutual
/-- Variable n, whose cells are ds, stays as it is from now on. -/
def X.frzB (n : Nat) (ds : List D) : X → X
  | .bx m o => if m = n then .ptr (ds.drop o) else .bx m o
  | .ag cs => .ag (X.frzBL n ds cs)
  | .clo f cs => .clo f (X.frzBL n ds cs)
  | .tup xs => .tup (X.frzBL n ds xs)
  | .vec m k a l => .vec m k a l
  | .ve m k i o => .ve m k i o
  | .d x => .d x
  | .nil => .nil
  | .ptr cs => .ptr cs
  | .undef => .undef
  | .junk => .junk
def X.frzBL (n : Nat) (ds : List D) : List X → List X
  | [] => []
  | x :: r => X.frzB n ds x :: X.frzBL n ds r
end
theorem frzBL_length (n : Nat) (ds : List D) : ∀ l : List X, (X.frzBL n ds l).length = l.length
  | [] => rfl
  | _ :: r => by simp [X.frzBL, frzBL_length n ds r]
section
variable {ι : Nat → Gh} {U : Nat → Prop} {L : Lim} {w : World} {C : Caps} {n : Nat} {ty : TypeId} {ds : List D}
mutual
theorem Rel.frzB (hW : WR ι U L w C) (hc : C n = some (.box ty (ds.map .d))) : ∀ (x : X) (v : Value), Rel ι U L w x v → Rel ι U (lessL ι n L) w (x.frzB n ds) v
  | .ag cs, v, h => by
    cases h with
    | ag us hl h => exact .ag us (by rw [hl, frzBL_length]) (Rel.frzBL hW hc cs us h)
  | .clo f cs, v, h => by
    cases h with
    | clo us hl h => exact .clo us (by rw [hl, frzBL_length]) (Rel.frzBL hW hc cs us h)
  | .tup cs, v, h => by
    cases h with
    | tup us hl h => exact .tup us (by rw [hl, frzBL_length]) (Rel.frzBL hW hc cs us h)
  | .bx m o, v, h => by
    simp only [X.frzB]
    split
    · rename_i hm
      subst hm
      cases h with
      | bx hn =>
        obtain ⟨hnl, us, h2, h3, h4⟩ := hW.ok _ _ hc
        rw [List.length_map] at h3
        refine .ptr (ι m).b o (fun j => us.getD (o + j) Go.undef) (fun j hj => ⟨lessL_at hnl, ?_⟩) (fun j hj => ?_)
        · have hlt : o + j < us.length := by simp at hj; omega
          simp [World.cell?, h2, hlt]
        · have hlt : o + j < ds.length := by simp at hj; omega
          have := h4 (o + j) (by simpa using hlt)
          rw [List.getElem_map] at this
          cases this with
          | d hd =>
            rw [List.getElem_drop]
            exact hd.mono less_mono
    · exact h.mono (fun _ _ => rfl) (fun _ h => h) less_mono
  | .vec m k a l, v, h => h.mono (fun _ _ => rfl) (fun _ h => h) less_mono
  | .ve m k i o, v, h => h.mono (fun _ _ => rfl) (fun _ h => h) less_mono
  | .d x, v, h => h.mono (fun _ _ => rfl) (fun _ h => h) less_mono
  | .nil, v, h => h.mono (fun _ _ => rfl) (fun _ h => h) less_mono
  | .ptr cs, v, h => h.mono (fun _ _ => rfl) (fun _ h => h) less_mono
  | .undef, v, h => h.mono (fun _ _ => rfl) (fun _ h => h) less_mono
  | .junk, v, h => .junk v
theorem Rel.frzBL (hW : WR ι U L w C) (hc : C n = some (.box ty (ds.map .d))) : ∀ (cs : List X) (us : List Value), RelL ι U L w cs us → RelL ι U (lessL ι n L) w (X.frzBL n ds cs) us
  | [], us, _ => fun i hi => absurd hi (by simp [X.frzBL])
  | x :: cs, us, h => RelL.cons (Rel.frzB hW hc x _ (RelL.head h)) (Rel.frzBL hW hc cs _ (RelL.tail h))
end
end
def Cap.frzB (n : Nat) (ds : List D) : Cap → Cap
  | .box ty cs => .box ty (X.frzBL n ds cs)
  | .vec ty k es => .vec ty k es
def St.frzB (n : Nat) (ds : List D) (σ : St) : St := ⟨fun t => (σ.s t).frzB n ds, fun j => if j = n then none else (σ.C j).map (Cap.frzB n ds)⟩
theorem Vw.frzB {Γ : Ctx} {g : Nat} {σ : St} (n : Nat) {ty : TypeId} (ds : List D) (hc : σ.C n = some (.box ty (ds.map .d))) : Vw Γ g σ g (σ.frzB n ds) := by
  intro U a w hu ⟨h1, h2, hU0, ι, L, hW, hr, he, hf, hu0⟩
  have hne : σ.C n ≠ none := by rw [hc]; simp
  refine ⟨U, hu, h1, h2, hU0, ι, lessL ι n L, hW.less hne (fun j c hj => ?_), fun t => Rel.frzB hW hc _ _ (hr t), ⟨he.os, he.tape, he.output, he.size, fun b hb hl => ⟨lessL_stab b (he.blk b hb hl).1, (he.blk b hb hl).2⟩⟩, ⟨fun b hb ho => ?_, fun j hj hl => ?_⟩, hu0⟩
  · simp only [St.frzB] at hj
    split at hj
    · cases hj
    · rename_i hjn
      refine ⟨hjn, ?_⟩
      cases hcj : σ.C j with
      | none => rw [hcj] at hj; cases hj
      | some d =>
        rw [hcj] at hj
        simp only [Option.map_some, Option.some.injEq] at hj
        subst hj
        cases d with
        | vec ty k es => exact .inl rfl
        | box ty cs =>
          right
          refine ⟨?_, by simp⟩
          obtain ⟨k1, us, k2, k3, k4⟩ := hW.ok j _ hcj
          exact ⟨k1, us, k2, by rw [k3, frzBL_length], Rel.frzBL hW hc cs us k4⟩
  · obtain ⟨k1, k2⟩ := hf.same b hb ho
    refine ⟨k1, ?_⟩
    rw [lessL_ne, k2]
    intro hl hbb
    rcases hf.orig n hne hl with h | ⟨j, hj, hjl, hjb⟩
    · omega
    · exact ho j hj hjl (by rw [hjb, hbb])
  · refine hf.orig j (fun h => hj ?_) hl
    simp only [St.frzB]
    split
    · rfl
    · rw [h]; rfl
end Go.Proofs.YtkbnkcdaiahoeaaDoor
