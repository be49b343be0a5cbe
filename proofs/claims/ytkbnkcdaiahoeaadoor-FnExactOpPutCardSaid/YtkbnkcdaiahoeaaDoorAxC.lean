/- slices.Insert over strings: a row of the call's own, one string put in. No condition. -/
import Derived.Test.YtkbnkcdaiahoeaaDoorAxB
namespace Go.Proofs.YtkbnkcdaiahoeaaDoor
open Go Go.RowKit Go.Shelf
set_option linter.unusedVariables false
set_option linter.unusedSimpArgs false
section
variable {ι : Nat → Gh} {U : Nat → Prop} {L : Lim} {w : World}
/-- The cells hold these strings. -/
def Ct (us : List Value) (es : List ByteArray) : Prop := es.length ≤ us.length ∧ ∀ j (hj : j < es.length), us.getD j undef = .string (es[j]'hj) ∧ (es[j]'hj).size ≤ top
theorem Ct.of {n : Nat} {ty : TypeId} {es : List ByteArray} (h : CapOk ι U L w n (.vec ty 1 (es.map sS'))) (hn : (ι n).nl = false) : ∃ us : List Value, w.heap[(ι n).b]? = some (.cells us.toArray ty (0, 0)) ∧ us.length = (ι n).cap ∧ (ι n).cap ≤ top ∧ Ct us es := by
  rcases h with ⟨h, -⟩ | ⟨-, us, h1, h2, h3, h4, h5⟩
  · rw [hn] at h; cases h
  · refine ⟨us, h1, by rw [h2, Nat.mul_one], h4, by simp at h3; omega, fun j hj => ?_⟩
    obtain ⟨g1, g2⟩ := h5 j (by simpa using hj)
    have := g2 0 (by rw [g1]; omega)
    have e2 : ((es.map sS')[j]'(by simpa using hj))[0]'(by simp [sS']) = .str es[j] := by simp [sS']
    rw [e2, Nat.mul_one, Nat.add_zero] at this
    exact (Rel.d (ι := ι) (U := U) this).str_inv
theorem Ct.ok {n : Nat} {ty : TypeId} {es : List ByteArray} {us : List Value} (hn : (ι n).nl = false) (h1 : w.heap[(ι n).b]? = some (.cells us.toArray ty (0, 0))) (h2 : us.length = (ι n).cap) (h3 : (ι n).cap ≤ top) (h : Ct us es) : CapOk ι U L w n (.vec ty 1 (es.map sS')) := by
  refine .inr ⟨hn, us, h1, by rw [h2, Nat.mul_one], by have := h.1; simp; omega, h3, fun i hi => ?_⟩
  have hi' : i < es.length := by simpa using hi
  have e0 : (es.map sS')[i]'hi = sS' es[i] := by simp
  refine ⟨by rw [e0]; rfl, fun j hj => ?_⟩
  have hj0 : j = 0 := by rw [e0] at hj; simp [sS'] at hj; omega
  subst hj0
  have e2 : ((es.map sS')[i]'hi)[0]'hj = .str es[i] := by simp [sS']
  rw [e2, Nat.mul_one, Nat.add_zero, (h.2 i hi').1]
  exact .str (h.2 i hi').2
/-- What stands there once a string was put in. -/
def insS (es : List ByteArray) (i : Nat) (s : ByteArray) : List ByteArray := es.take i ++ s :: es.drop i
theorem insS_len (es : List ByteArray) (i : Nat) (s : ByteArray) : (insS es i s).length = es.length + 1 := by simp [insS]; omega
theorem insS_get (es : List ByteArray) (i : Nat) (s : ByteArray) (hi : i ≤ es.length) (j : Nat) (hj : j < (insS es i s).length) : (insS es i s)[j]'hj = if h1 : j < i then es[j]'(by omega) else if h2 : j = i then s else es[j - 1]'(by rw [insS_len] at hj; omega) := by
  have key : (insS es i s)[j]? = some (if h1 : j < i then es[j]'(by omega) else if h2 : j = i then s else es[j - 1]'(by rw [insS_len] at hj; omega)) := by
    unfold insS
    have hl := insS_len es i s
    by_cases h1 : j < i
    · rw [List.getElem?_append_left (by simp; omega)]
      simp [h1, List.getElem?_take, show j < es.length by omega]
    · rw [List.getElem?_append_right (by simp; omega)]
      simp only [List.length_take, Nat.min_eq_left hi]
      by_cases h2 : j = i
      · subst h2; simp
      · rw [show j - i = (j - i - 1) + 1 by omega, List.getElem?_cons_succ, List.getElem?_drop]
        simp only [h1, h2, dite_false]
        rw [show i + (j - i - 1) = j - 1 by omega, List.getElem?_eq_getElem]
  rw [List.getElem?_eq_getElem hj] at key
  exact Option.some.inj key
/-- The cells, a string put in: what lies behind moved up. -/
theorem Ct.ins {us us2 : List Value} {es : List ByteArray} {s : ByteArray} {i : Nat} (h : Ct us es) (hi : i ≤ es.length) (hs : s.size ≤ top) (hl : us.length ≤ us2.length) (hr : es.length + 1 ≤ us2.length) (h1 : ∀ j, j < i → us2.getD j undef = us.getD j undef) (h2 : us2.getD i undef = .string s)
    (h3 : ∀ j, i ≤ j → j < es.length → us2.getD (j + 1) undef = us.getD j undef) : Ct us2 (insS es i s) := by
  refine ⟨by rw [insS_len]; exact hr, fun j hj => ?_⟩
  rw [insS_get es i s hi j hj]
  have hj' := hj
  rw [insS_len] at hj'
  split
  · rename_i hlt
    rw [h1 j hlt]; exact h.2 j (by omega)
  · split
    · rename_i _ he
      subst he; exact ⟨h2, hs⟩
    · rename_i ha hb
      have := h3 (j - 1) (by omega) (by omega)
      rw [show j - 1 + 1 = j by omega] at this
      rw [this]; exact h.2 (j - 1) (by omega)
end
theorem alloc_setRow (w : World) (x y : Array Value) (ty : TypeId) : (w.alloc (.cells x ty)).setRow w.heap.size y = w.alloc (.cells y ty) := by
  show ({ (w.alloc (.cells x ty)) with heap := _ } : World) = _
  have : (w.heap.push (.cells x ty)).modify w.heap.size (fun | .cells _ elem frozen => .cells y elem frozen | o => o) = w.heap.push (.cells y ty) := by
    apply Array.ext_getElem?
    intro i
    rw [Array.getElem?_modify, Array.getElem?_push, Array.getElem?_push]
    by_cases h : i = w.heap.size
    · subst h; simp
    · simp [h, Ne.symm h]
  exact congrArg (fun h => ({ w with heap := h } : World)) this
theorem alloc_at (w : World) (x : Array Value) (ty : TypeId) : (w.alloc (.cells x ty)).heap[w.heap.size]? = some (.cells x ty (0, 0)) := by
  show (w.heap.push (.cells x ty))[w.heap.size]? = _
  simp
theorem strs_vals (es : List ByteArray) (j : Nat) : (es.map Value.string).getD j undef = if h : j < es.length then .string (es[j]'h) else undef := by
  by_cases h : j < es.length
  · simp [h]
  · simp [h, List.getElem?_eq_none (Nat.le_of_not_lt h)]
theorem Insert_spec {P : Program} {ρ : Ren} (Ly : Lays2.n22 P ρ) (hc : callable P (ρ.f 22) = true) {ty2 : TypeId} (es : List ByteArray) (s : ByteArray) (i : Nat) (hi : i ≤ es.length) (hn : es.length ≤ 1000000) :
    Spec P (ρ.f 22) [.vec 0 1 0 es.length, .d (.int .i64 i), .vec 2 1 0 1] [(0, .vec (ρ.t 9) 1 (es.map sS')), (2, .vec ty2 1 ([s].map sS'))] 1 (fun x δ => x = .vec 1 1 0 (es.length + 1) ∧ δ = [(0, none), (1, some (.vec (ρ.t 9) 1 ((insS es i s).map sS')))]) := by
  refine ⟨hc, fun ι U L w us hW hm hl hr => ?_⟩
  have hC0 : capsOf [(0, Cap.vec (ρ.t 9) 1 (es.map sS')), (2, .vec ty2 1 ([s].map sS'))] 0 = some (.vec (ρ.t 9) 1 (es.map sS')) := rfl
  have hC2 : capsOf [(0, Cap.vec (ρ.t 9) 1 (es.map sS')), (2, .vec ty2 1 ([s].map sS'))] 2 = some (.vec ty2 1 ([s].map sS')) := rfl
  have hC1 : capsOf [(0, Cap.vec (ρ.t 9) 1 (es.map sS')), (2, .vec ty2 1 ([s].map sS'))] 1 = none := rfl
  have hvec : ∀ n c, capsOf [(0, Cap.vec (ρ.t 9) 1 (es.map sS')), (2, .vec ty2 1 ([s].map sS'))] n = some c → ∃ ty k es, c = Cap.vec ty k es := by
    intro n c h
    rcases capsOf_mem _ _ n c h with ⟨p, hp, rfl, rfl⟩ | h
    · simp only [List.mem_cons, List.not_mem_nil, or_false] at hp
      rcases hp with rfl | rfl <;> exact ⟨_, _, _, rfl⟩
    · cases h
  generalize capsOf [(0, Cap.vec (ρ.t 9) 1 (es.map sS')), (2, .vec ty2 1 ([s].map sS'))] = C at hW hC0 hC1 hC2 hvec ⊢
  have r0 := hr 0 (by simp)
  have r1 := hr 1 (by simp)
  have r2 := hr 2 (by simp)
  match us, hl with
  | [u0, u1, u2], _ =>
  simp only [List.getElem_cons_zero, List.getElem_cons_succ, List.getD_cons_zero, List.getD_cons_succ] at r0 r1 r2
  obtain ⟨rfl, -⟩ := r1.int_inv
  have hmax : maxLen = 9223372036854775807 := rfl
  -- the row of what is put in
  have n2 : (ι 2).nl = false := by
    rcases hW.ok 2 _ hC2 with ⟨-, h⟩ | ⟨h, -⟩
    · simp at h
    · exact h
  obtain ⟨us2, g1, g2, g3, g4⟩ := Ct.of (hW.ok 2 _ hC2) n2
  obtain ⟨-, ⟨hx, -⟩ | ⟨-, o2, rfl, hle2, ho2⟩⟩ := r2.vec_inv
  · rw [n2] at hx; cases hx
  have ho2 : o2 = 0 := by omega
  subst ho2
  have l2 : 1 ≤ us2.length := g4.1
  have v2 : ∀ j v, ([Value.string s])[j]? = some v → w.cell? ⟨(ι 2).b, 0 + j, none⟩ = some v := by
    intro j v hv
    have hj : j = 0 := by
      rcases Nat.eq_zero_or_pos j with h | h
      · exact h
      · rw [List.getElem?_eq_none (by simp; omega)] at hv; cases hv
    subst hj
    have := (g4.2 0 (by simp)).1
    simp only [List.getElem_cons_zero] at this hv
    have e : us2[0]? = some (.string s) := by
      rw [List.getD_eq_getElem?_getD, List.getElem?_eq_getElem (by omega)] at this
      rw [List.getElem?_eq_getElem (by omega)]
      exact congrArg some this
    rw [← hv]
    simp [World.cell?, g1, e]
  have hs : s.size ≤ top := (g4.2 0 (by simp)).2
  have one1 : ∀ v ∈ [Value.string s], v.oneCell' = true := by intro v hv; simp at hv; subst hv; rfl
  have one0 : ∀ v ∈ es.map Value.string, v.oneCell' = true := by
    intro v hv; obtain ⟨x, -, rfl⟩ := List.mem_map.1 hv; rfl
  -- a new row
  have fresh : ∀ (w' : World) (us' : List Value), w'.heap = w.heap.push (.cells us'.toArray (ρ.t 9)) → w'.os = w.os → w'.tape = w.tape → w'.output = w.output → us'.length ≤ top → Ct us' (insS es i s) →
      Aft ι U L w C 1 (fun x δ => x = .vec 1 1 0 (es.length + 1) ∧ δ = [(0, none), (1, some (.vec (ρ.t 9) 1 ((insS es i s).map sS')))]) (.slice (some ⟨w.heap.size, 0, none⟩) (es.length + 1) us'.length) w' := by
    intro w' us' h1 h2 h3 h4 h5 h6
    have hlen : ((insS es i s).map sS').length = es.length + 1 := by simp [insS_len]
    have a := Aft.newVec (C := C) (m := 1) (K := fun x δ => x = .vec 1 1 0 (es.length + 1) ∧ δ = [(1, some (.vec (ρ.t 9) 1 ((insS es i s).map sS')))]) hW hm (ty := ρ.t 9) (k := 1) (cap := us'.length) (es := (insS es i s).map sS') (us := us') h1 h2 h3 h4 (by simp) (by rw [List.length_map]; exact h6.1) h5 (fun a ha => by
      have ha' : a < (insS es i s).length := by simpa using ha
      have e0 : ((insS es i s).map sS')[a]'ha = sS' (insS es i s)[a] := by simp
      refine ⟨by rw [e0]; rfl, fun j hj => ?_⟩
      have hj0 : j = 0 := by rw [e0] at hj; simp [sS'] at hj; omega
      subst hj0
      have e2 : (((insS es i s).map sS')[a]'ha)[0]'hj = .str (insS es i s)[a] := by simp [sS']
      rw [e2, Nat.mul_one, Nat.add_zero, (h6.2 a ha').1]
      exact .str (h6.2 a ha').2) ⟨by rw [hlen], rfl⟩
    rw [hlen] at a
    obtain ⟨x, δ, ι', L', ⟨rfl, rfl⟩, k2, k3, k4, k5, k6⟩ := a
    have hCC : ∀ n, app [(0, none), (1, some (Cap.vec (ρ.t 9) 1 ((insS es i s).map sS')))] C n ≠ none → n ≠ 0 ∧ app [(1, some (Cap.vec (ρ.t 9) 1 ((insS es i s).map sS')))] C n = app [(0, none), (1, some (Cap.vec (ρ.t 9) 1 ((insS es i s).map sS')))] C n := by
      intro n h
      by_cases h0 : n = 0
      · subst h0; simp [app, upd] at h
      · exact ⟨h0, by simp [app, upd, h0]⟩
    refine ⟨_, _, ι', L', ⟨rfl, rfl⟩, k2, ⟨fun n c hc => ?_, fun n hn hl => ?_, fun n n' a b => ?_, fun n hn => ?_, k3.glob⟩, k4, k5, ⟨k6.same, fun n hn hl => ?_⟩⟩
    · have := (hCC n (by simp [hc])).2; exact k3.ok n c (by rw [this]; exact hc)
    · have := (hCC n hn).2; exact k3.lim n (by rw [this]; exact hn) hl
    · have h1 := (hCC n a).2; have h2 := (hCC n' b).2; exact k3.inj n n' (by rw [h1]; exact a) (by rw [h2]; exact b)
    · have := (hCC n hn).2; exact k3.used n (by rw [this]; exact hn)
    · have := (hCC n hn).2; exact k6.orig n (by rw [this]; exact hn) hl
  have freshA : ∀ (A : Array Value) (q c : Nat), A.size = c → c ≤ maxLen → Ct A.toList (insS es i s) →
      Aft ι U L w C 1 (fun x δ => x = .vec 1 1 0 (es.length + 1) ∧ δ = [(0, none), (1, some (.vec (ρ.t 9) 1 ((insS es i s).map sS')))]) (.slice (some ⟨w.heap.size, 0, none⟩) (es.length + 1) c) ((w.alloc (.cells A (ρ.t 9))).drewN q) := by
    intro A q c h1 h2 h3
    have e : A.toList.length = c := by rw [Array.length_toList]; exact h1
    have := (fresh (w.alloc (.cells A (ρ.t 9))) A.toList rfl rfl rfl rfl (by rw [e, top_val, ← hmax]; exact h2) h3).drewN (q := q)
    rw [e] at this
    exact this
  have size16 : (es.length + 1) * 16 ≤ 140737488355328 := by omega
  obtain ⟨hU0, ⟨hnl, -, hz, rfl⟩ | ⟨hnl, o, rfl, hle, ho⟩⟩ := r0.vec_inv
  · -- the nil slice
    have he : es = [] := List.length_eq_zero_iff.1 hz
    subst he
    have hi0 : i = 0 := by simpa using hi
    subst hi0
    refine (Any2.slices_Insert_string_end_grow Ly none 0 0 (ι 2).b 0 1 _ [] [.string s] w (by omega) (by omega) (by omega) (by omega) rfl rfl (fun _ => rfl) (fun a h => by cases h) v2 one1).mono ?_
    rintro e w' ⟨rfl, rfl⟩
    have hge := grownCap_ge w (0 + 1) 0 (ρ.t 9)
    have hle := grownCap_le_maxLen w (0 + 1) 0 (ρ.t 9) (by rw [hmax]; omega)
    have hsz : (([Value.string s].toArray ++ Builtin.zeroCells (Value.string ⟨#[]⟩).cells (grownCap w (0 + 1) 0 (ρ.t 9) - (0 + 1)))).size = grownCap w (0 + 1) 0 (ρ.t 9) := by
      rw [Array.size_append, size_zeroCells, show (Value.string ⟨#[]⟩).cells.size = 1 from rfl, show [Value.string s].toArray.size = 1 from rfl]; omega
    refine ⟨_, rfl, ?_⟩
    refine freshA _ 1 _ hsz hle ?_
    refine ⟨by simp [insS], fun j hj => ?_⟩
    have hj0 : j = 0 := by simp [insS] at hj; omega
    subst hj0
    refine ⟨?_, by simpa [insS] using hs⟩
    simp [insS, List.getD_eq_getElem?_getD]
  · have ho : o = 0 := by omega
    subst ho
    have hcap : ∀ n, n - 0 = n := fun n => rfl
    obtain ⟨us0, q1, q2, q3, q4⟩ := Ct.of (hW.ok 0 _ hC0) hnl
    have hle : es.length ≤ (ι 0).cap := by have := q4.1; omega
    have hb : (ι 2).b ≠ (ι 0).b := fun h => by
      have := hW.inj 2 0 (by rw [hC2]; simp) (by rw [hC0]; simp) n2 hnl h
      cases this
    have v0 : ∀ j v, (es.map Value.string)[j]? = some v → w.cell? ⟨(ι 0).b, 0 + j, none⟩ = some v := by
      intro j v hv
      obtain ⟨hj, rfl⟩ := List.getElem?_eq_some_iff.1 hv
      have hj' : j < es.length := by simpa using hj
      have := (q4.2 j hj').1
      rw [List.getD_eq_getElem?_getD, List.getElem?_eq_getElem (by have := q4.1; omega)] at this
      simp only [Option.getD_some] at this
      have e : us0[j]? = some (.string es[j]) := by rw [List.getElem?_eq_getElem (by have := q4.1; omega), this]
      simp [World.cell?, q1, e]
    have there : ∀ j, j < (ι 0).cap → (w.cell? ⟨(ι 0).b, 0 + j, none⟩).isSome = true := by
      intro j hj
      simp [World.cell?, q1, List.getElem?_eq_getElem (show j < us0.length by omega)]
    have nofz : ∀ (b : Nat) (us : List Value) (ty : TypeId) (j : Nat), w.heap[b]? = some (.cells us.toArray ty (0, 0)) → w.frozen? ⟨b, j, none⟩ = false := by
      intro b us ty j h
      simp [World.frozen?, h]
    -- in place
    have inplace : ∀ us' : List Value, us'.length = us0.length → Ct us' (insS es i s) → Aft ι U L w C 1 (fun x δ => x = .vec 1 1 0 (es.length + 1) ∧ δ = [(0, none), (1, some (.vec (ρ.t 9) 1 ((insS es i s).map sS')))]) (.slice (some ⟨(ι 0).b, 0, none⟩) (es.length + 1) ((ι 0).cap - 0)) (w.setRow (ι 0).b us'.toArray) := by
      intro us' h1 h2
      refine Aft.move hC1 hvec (by omega) (Aft.write hW hC0 hnl (us := us') (c' := .vec (ρ.t 9) 1 ((insS es i s).map sS')) (fun L' w' he hh => ?_) (fun L' w' he => ?_) ⟨rfl, rfl⟩)
      · exact Ct.ok hnl (by rw [hh]; exact setRow_heap w _ _ _ _ _ q1) (by rw [h1, q2]) q3 h2
      · have := h2.1
        rw [insS_len] at this
        exact Rel.vec hU0 hnl (by omega) (.inl (by simp))
    by_cases hroom : es.length + 1 ≤ (ι 0).cap
    · by_cases hend : i = es.length
      · subst hend
        refine (Any2.slices_Insert_string_end_room Ly (ι 0).b 0 es.length (ι 0).cap (ι 2).b 0 1 _ [.string s] w (by omega) hroom q3 rfl (fun j hj => by rw [Nat.add_assoc]; exact there _ (by omega)) (fun j hj => nofz _ _ _ _ q1) v2 one1).mono ?_
        rintro e w' ⟨rfl, rfl⟩
        refine ⟨_, rfl, ?_⟩
        rw [setCells_setRow _ _ us0 _ q1 (by simp; omega)]
        have hfit : 0 + es.length + [Value.string s].length ≤ us0.length := by simp; omega
        refine inplace _ (by simp [splice]; omega) (q4.ins (Nat.le_refl _) hs (by simp [splice]; omega) (by simp [splice]; omega) (fun j hj => ?_) ?_ (fun j h1 h2 => by omega))
        · rw [getD_splice _ _ _ _ hfit, if_neg (by omega)]
        · rw [getD_splice _ _ _ _ hfit, if_pos (by simp)]
          simp
      · have hlt : i < es.length := by omega
        refine (Any2.slices_Insert_string_shift Ly (ι 0).b 0 es.length (ι 0).cap i (ι 2).b 0 1 _ (es.map Value.string) [.string s] w hlt (by omega) hroom q3 hb (by simp) rfl v0 (fun j hj => there _ (by omega)) (fun j hj => nofz _ _ _ _ q1) v2 one0 one1 ty2 (ρ.t 9) us2.length us0.length
          (by simp [World.shape?, g1]) (by simp [World.shape?, q1]) (by omega) (nofz _ _ _ _ g1) (nofz _ _ _ _ g1)).mono ?_
        rintro e w' ⟨rfl, rfl⟩
        refine ⟨_, rfl, ?_⟩
        have f1 : 0 + (i + 1) + ((es.map Value.string).drop i).length ≤ us0.length := by simp; omega
        have q1' : w.drew.heap[(ι 0).b]? = some (.cells us0.toArray (ρ.t 9) (0, 0)) := q1
        rw [setCells_setRow _ _ us0 _ q1' f1]
        have l1 : (splice us0 (0 + (i + 1)) ((es.map Value.string).drop i)).length = us0.length := by simp [splice]; omega
        have f2 : 0 + i + [Value.string s].length ≤ (splice us0 (0 + (i + 1)) ((es.map Value.string).drop i)).length := by rw [l1]; simp; omega
        rw [setCells_setRow _ _ (splice us0 (0 + (i + 1)) ((es.map Value.string).drop i)) _ (setRow_heap _ _ _ _ _ _ q1') f2, setRow_setRow, setRow_drew]
        refine (inplace _ (by simp only [splice, List.length_append, List.length_take, List.length_drop] at l1 f2 ⊢; simp at l1 f2 ⊢; omega) (q4.ins hi hs ?_ ?_ (fun j hj => ?_) ?_ (fun j h1 h2 => ?_))).drewN (q := 1)
        · simp only [splice, List.length_append, List.length_take, List.length_drop] at l1 f2 ⊢; simp at l1 f2 ⊢; omega
        · simp only [splice, List.length_append, List.length_take, List.length_drop] at l1 f2 ⊢; simp at l1 f2 ⊢; omega
        · rw [getD_splice _ _ _ _ f2, if_neg (by omega), getD_splice _ _ _ _ f1, if_neg (by omega)]
        · rw [getD_splice _ _ _ _ f2, if_pos (by simp)]
          simp
        · rw [getD_splice _ _ _ _ f2, if_neg (by simp; omega), getD_splice _ _ _ _ f1, if_pos (by simp; omega), (q4.2 j h2).1]
          rw [List.getD_eq_getElem?_getD, List.getElem?_drop, show i + (j + 1 - (0 + (i + 1))) = j by omega]
          simp [h2]
    · have hroom' : (ι 0).cap < es.length + 1 := by omega
      have hge := grownCap_ge w (es.length + 1) (ι 0).cap (ρ.t 9)
      have hle' := grownCap_le_maxLen w (es.length + 1) (ι 0).cap (ρ.t 9) (by rw [hmax]; omega)
      by_cases hend : i = es.length
      · subst hend
        refine (Any2.slices_Insert_string_end_grow Ly (some ⟨(ι 0).b, 0, none⟩) es.length (ι 0).cap (ι 2).b 0 1 _ (es.map Value.string) [.string s] w (by omega) hle hroom' size16 (by simp) rfl (fun h => by cases h) (fun a ha j v hv => by
          cases ha; rw [add_lit]; exact v0 j v hv) v2 one1).mono ?_
        rintro e w' ⟨rfl, rfl⟩
        refine ⟨_, rfl, ?_⟩
        have hsz : ((es.map Value.string ++ [Value.string s]).toArray ++ Builtin.zeroCells (Value.string ⟨#[]⟩).cells (grownCap w (es.length + 1) (ι 0).cap (ρ.t 9) - (es.length + 1))).size = grownCap w (es.length + 1) (ι 0).cap (ρ.t 9) := by
          rw [Array.size_append, size_zeroCells]; simp [Value.cells]; omega
        refine freshA _ 1 _ hsz hle' ?_
        · have hins : insS es es.length s = es ++ [s] := by simp [insS]
          rw [hins]
          refine ⟨by simp, fun j hj => ?_⟩
          have hj' : j < es.length + 1 := by simpa using hj
          have e1 : (es ++ [s])[j] = if h : j < es.length then es[j] else s := by
            by_cases h : j < es.length
            · simp [h, List.getElem_append_left]
            · rw [List.getElem_append_right (by omega)]; simp [h]
          rw [e1]
          have e3 : ((es.map Value.string ++ [Value.string s]).toArray ++ Builtin.zeroCells (Value.string ⟨#[]⟩).cells (grownCap w (es.length + 1) (ι 0).cap (ρ.t 9) - (es.length + 1))).toList.getD j undef = ((es ++ [s]).map Value.string).getD j undef := by
            rw [Array.toList_append, List.getD_eq_getElem?_getD, List.getElem?_append_left (by simp; omega)]
            simp
          rw [e3, strs_vals, dif_pos hj, e1]
          refine ⟨rfl, ?_⟩
          split
          · rename_i h; exact (q4.2 j h).2
          · exact hs
      · have hlt : i < es.length := by omega
        refine (Any2.slices_Insert_string_grow Ly (ι 0).b 0 es.length (ι 0).cap i (ι 2).b 0 1 _ (es.map Value.string) [.string s] w hlt (by omega) hle hroom' size16 (by simp) rfl v0 v2 one0 one1).mono ?_
        rintro e w' ⟨rfl, rfl⟩
        refine ⟨_, rfl, ?_⟩
        have hsz : ((es.map Value.string).take i).toArray.size = i := by simp; omega
        generalize hA : (((es.map Value.string).take i).toArray ++ Builtin.zeroCells (Value.string ⟨#[]⟩).cells (es.length + 1 - i) ++ Builtin.zeroCells (Value.string ⟨#[]⟩).cells (grownCap w (es.length + 1) (ι 0).cap (ρ.t 9) - (es.length + 1))) = A
        have hAs : A.size = grownCap w (es.length + 1) (ι 0).cap (ρ.t 9) := by
          rw [← hA, Array.size_append, Array.size_append, size_zeroCells, size_zeroCells, hsz]; simp [Value.cells]; omega
        have hA1 : ∀ j, j < i → A.toList.getD j undef = us0.getD j undef := by
          intro j hj
          rw [← hA, Array.toList_append, Array.toList_append, List.getD_eq_getElem?_getD, List.append_assoc, List.getElem?_append_left (by simp; omega), (q4.2 j (by omega)).1]
          simp [hj, show j < es.length by omega]
        have hAl : A.toList.length = A.size := Array.length_toList
        have a1 : (w.alloc (.cells A (ρ.t 9))).drew.heap[w.heap.size]? = some (.cells A.toList.toArray (ρ.t 9) (0, 0)) := alloc_at w A _
        have f1 : i + [Value.string s].length ≤ A.toList.length := by rw [hAl, hAs]; simp; omega
        rw [setCells_setRow _ _ A.toList _ a1 f1]
        have l1 : (splice A.toList i [Value.string s]).length = A.toList.length := by simp [splice] at f1 ⊢; omega
        have a2 : ((w.alloc (.cells A (ρ.t 9))).drew.setRow w.heap.size (splice A.toList i [Value.string s]).toArray).drew.heap[w.heap.size]? = some (.cells (splice A.toList i [Value.string s]).toArray (ρ.t 9) (0, 0)) := setRow_heap _ _ _ _ _ _ a1
        have f2 : i + 1 + ((es.map Value.string).drop i).length ≤ (splice A.toList i [Value.string s]).length := by rw [l1, hAl, hAs]; simp; omega
        rw [setCells_setRow _ _ (splice A.toList i [Value.string s]) _ a2 f2, setRow_drew, setRow_drew, setRow_drew, setRow_setRow, alloc_setRow]
        have l2 : (splice (splice A.toList i [Value.string s]) (i + 1) ((es.map Value.string).drop i)).length = A.toList.length := by
          rw [← l1]; simp only [splice, List.length_append, List.length_take, List.length_drop] at f2 ⊢; simp at f2 ⊢; omega
        refine freshA _ 2 _ (by rw [List.size_toArray, l2, hAl, hAs]) hle' ?_
        refine q4.ins hi hs (by rw [l2, hAl, hAs]; omega) (by rw [l2, hAl, hAs]; omega) (fun j hj => ?_) ?_ (fun j h1 h2 => ?_)
        · rw [getD_splice _ _ _ _ f2, if_neg (by omega), getD_splice _ _ _ _ f1, if_neg (by omega)]
          exact hA1 j hj
        · rw [getD_splice _ _ _ _ f2, if_neg (by omega), getD_splice _ _ _ _ f1, if_pos (by simp)]
          simp
        · rw [getD_splice _ _ _ _ f2, if_pos (by simp; omega), (q4.2 j h2).1]
          rw [List.getD_eq_getElem?_getD, List.getElem?_drop, show i + (j + 1 - (i + 1)) = j by omega]
          simp [h2]
end Go.Proofs.YtkbnkcdaiahoeaaDoor
