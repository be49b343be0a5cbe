/- An operation that nobody can tell apart from itself: what it yields hangs on its operands and on the own blocks that it may look at, on nothing else. No condition. -/
import Derived.Test.YtkbnkcdaiahoeaaDoorAwN
namespace Go.Proofs.YtkbnkcdaiahoeaaDoor
open Go Go.RowKit
set_option linter.unusedVariables false
set_option linter.unusedSimpArgs false
section
variable {P : Program} {m : Nat} {wr av : Nat → Prop}

/-- Operations other than calls whose outcome is one. -/
def detOp (P : Program) : Op → Bool
  | .binOp op t _ _ _ => (op != .xor) && (telem P t).isNone
  | .call { callee := .builtin _, .. } => true
  | .call _ => false
  | _ => true

/-- One outcome, wherever the operands and the blocks that count are the same. -/
def OneOut (wr av : Nat → Prop) (m : Nat) (F : (Operand → X) → Caps → (X → Del → Prop) → Prop) (os : List Operand) (e : Operand → X) (C : Caps) : Prop :=
  ∃ x δ, (∀ p ∈ δ, p.1 = m ∨ (wr p.1 ∧ ¬ av p.1)) ∧ ∀ e' C', (∀ o ∈ os, e' o = e o) → (∀ n, ¬ av n → C' n = C n) → ∀ K' : X → Del → Prop, (F e' C' K' ↔ K' x δ)

theorem OneOut.pure {F : (Operand → X) → Caps → (X → Del → Prop) → Prop} {os : List Operand} {e : Operand → X} {C : Caps} (x : X) (h : ∀ e' C', (∀ o ∈ os, e' o = e o) → (∀ n, ¬ av n → C' n = C n) → ∀ K' : X → Del → Prop, (F e' C' K' ↔ K' x [])) : OneOut wr av m F os e C :=
  ⟨x, [], by simp, h⟩

theorem takeD_one {g : Bool} {n : Nat} {cs : List D} {K : X → Prop} (h : aTake g n cs K) : ∃ x, ∀ K' : X → Prop, aTake g n cs K' ↔ K' x := by
  unfold aTake at h
  cases g with
  | true => exact ⟨_, fun K' => by unfold aTake; simp [h.1]; rfl⟩
  | false => cases cs with
    | nil => exact h.elim
    | cons c cs => exact ⟨_, fun K' => Iff.rfl⟩
theorem takeX_one {g : Bool} {n : Nat} {cs : List X} {K : X → Prop} (h : aTakeX g n cs K) : ∃ x, ∀ K' : X → Prop, aTakeX g n cs K' ↔ K' x := by
  unfold aTakeX at h
  cases g with
  | true => exact ⟨_, fun K' => by unfold aTakeX; simp [h.1]; rfl⟩
  | false => cases cs with
    | nil => exact h.elim
    | cons c cs => exact ⟨_, fun K' => Iff.rfl⟩
theorem load_one {C : Caps} {g : Bool} {n : Nat} {a : X} {K : X → Prop} (h : aLoad av C g n a K) : ∃ x, ∀ C', (∀ n, ¬ av n → C' n = C n) → ∀ K' : X → Prop, aLoad av C' g n a K' ↔ K' x := by
  unfold aLoad at h
  split at h
  · obtain ⟨x, hx⟩ := takeD_one h
    exact ⟨x, fun C' _ K' => by unfold aLoad; exact hx K'⟩
  · rename_i nm off
    obtain ⟨hn, h⟩ := h
    split at h
    · rename_i ty cs hc
      obtain ⟨x, hx⟩ := takeX_one h
      refine ⟨x, fun C' hC K' => ?_⟩
      unfold aLoad
      simp only [hC nm hn, hc, hn, not_false_eq_true, true_and]
      exact hx K'
    · exact h.elim
  · rename_i nm k i off
    obtain ⟨hn, h⟩ := h
    split at h
    · rename_i ty k' es hc
      obtain ⟨hk, hi, h⟩ := h
      obtain ⟨x, hx⟩ := takeD_one (h _ (List.getElem?_eq_getElem hi))
      refine ⟨x, fun C' hC K' => ?_⟩
      unfold aLoad
      simp only [hC nm hn, hc, hn, not_false_eq_true, true_and, hk, hi]
      rw [← hx K']
      constructor
      · intro h; exact h _ (List.getElem?_eq_getElem hi)
      · intro h c hc; rw [List.getElem?_eq_getElem hi] at hc; cases hc; exact h
    · exact h.elim
  · exact h.elim
theorem store_one {C : Caps} {n : Nat} {a x : X} {K : Del → Prop} (h : aStore wr av C n a x K) : ∃ δ, (∀ p ∈ δ, wr p.1 ∧ ¬ av p.1) ∧ ∀ C', (∀ n, ¬ av n → C' n = C n) → ∀ K' : Del → Prop, aStore wr av C' n a x K' ↔ K' δ := by
  unfold aStore at h
  split at h
  · rename_i nm off
    obtain ⟨hw, hn, h⟩ := h
    split at h
    · rename_i ty cs hc
      obtain ⟨h1, h2, h3, h⟩ := h
      refine ⟨[(nm, some (.box ty (splice cs off x.cells)))], by simp [hw, hn], fun C' hC K' => ?_⟩
      unfold aStore
      simp only [hC nm hn, hc, hn, hw, not_false_eq_true, true_and, h1, h2, h3]
    · exact h.elim
  · rename_i nm k i off
    obtain ⟨hw, hn, h⟩ := h
    split at h
    · rename_i ty k' es hc
      obtain ⟨rfl, hi, h2, h3, h⟩ := h
      split at h
      · rename_i ds hds
        have hcc := List.getElem?_eq_getElem hi
        refine ⟨[(nm, some (.vec ty k (es.set i (splice (es[i]'hi) off ds))))], by simp [hw, hn], fun C' hC K' => ?_⟩
        unfold aStore
        simp only [hC nm hn, hc, hn, hw, not_false_eq_true, true_and, h2, h3, hi, hds]
        constructor
        · intro h; exact h _ hcc
        · intro h c hc; rw [hcc] at hc; cases hc; exact h
      · exact h.elim
    · exact h.elim
  · exact h.elim
theorem bd_one {len : Nat} {lo hi : Option X} {K : Nat → Nat → Prop} (h : aBd len lo hi K) : ∃ l n, ∀ K' : Nat → Nat → Prop, aBd len lo hi K' ↔ K' l n := by
  unfold aBd at h
  split at h
  · rename_i l n hl hn
    exact ⟨_, _, fun K' => by unfold aBd; simp only [hl, hn, h.1, true_and]; rfl⟩
  · exact h.elim
theorem slice_one {t : TypeId} {x : X} {lo hi : Option X} {K : X → Prop} (h : aSlice P t x lo hi K) : ∃ y, ∀ K' : X → Prop, aSlice P t x lo hi K' ↔ K' y := by
  unfold aSlice at h
  split at h
  · obtain ⟨h1, h⟩ := h
    obtain ⟨l, n, hb⟩ := bd_one h
    exact ⟨_, fun K' => by unfold aSlice; simp only [h1, true_and]; exact hb _⟩
  · obtain ⟨h1, h⟩ := h
    split at h
    · obtain ⟨l, n, hb⟩ := bd_one h
      exact ⟨_, fun K' => by unfold aSlice; simp only [h1, true_and]; exact hb _⟩
    · obtain ⟨l, n, hb⟩ := bd_one h
      exact ⟨_, fun K' => by unfold aSlice; simp only [h1, true_and]; exact hb _⟩
  · obtain ⟨h1, h⟩ := h
    obtain ⟨l, n, hb⟩ := bd_one h
    exact ⟨_, fun K' => by unfold aSlice; simp only [h1, true_and]; exact hb _⟩
  · obtain ⟨h1, h⟩ := h
    obtain ⟨l, n, hb⟩ := bd_one h
    exact ⟨_, fun K' => by unfold aSlice; simp only [h1, true_and]; exact hb _⟩
  · obtain ⟨h1, h⟩ := h
    obtain ⟨l, n, hb⟩ := bd_one h
    exact ⟨_, fun K' => by unfold aSlice; simp only [h1, true_and]; exact hb _⟩
  · exact h.elim
theorem int_one {op : BinOp} (hx : op ≠ .xor) {k : IntKind} {a b : Int} {K : D → Prop} (h : aInt op k a b K) : ∃ d, ∀ K' : D → Prop, aInt op k a b K' ↔ K' d := by
  cases op <;> simp only [aInt] at h <;> first
    | exact h.elim
    | exact absurd rfl hx
    | exact ⟨_, fun K' => Iff.rfl⟩
    | exact ⟨_, fun K' => by simp only [aInt, h.1, true_and]; rfl⟩
theorem str_one {op : BinOp} {a b : ByteArray} {K : D → Prop} (h : aStr op a b K) : ∃ d, ∀ K' : D → Prop, aStr op a b K' ↔ K' d := by
  cases op <;> simp only [aStr] at h <;> first
    | exact h.elim
    | exact ⟨_, fun K' => Iff.rfl⟩
    | exact ⟨_, fun K' => by simp only [aStr, h.1, true_and]; rfl⟩
theorem bool_one {op : BinOp} {a b : Bool} {K : D → Prop} (h : aBool op a b K) : ∃ d, ∀ K' : D → Prop, aBool op a b K' ↔ K' d := by
  cases op <;> simp only [aBool] at h <;> first
    | exact h.elim
    | exact ⟨_, fun K' => Iff.rfl⟩
theorem bin_one {op : BinOp} (hx : op ≠ .xor) {t : TypeId} (ht : telem P t = none) {x y : X} {K : D → Prop} (h : aBin P op t x y K) : ∃ d, ∀ K' : D → Prop, aBin P op t x y K' ↔ K' d := by
  unfold aBin at h
  split at h
  · obtain ⟨rfl, h⟩ := h
    obtain ⟨d, hd⟩ := int_one hx h
    exact ⟨d, fun K' => by unfold aBin; simp only [true_and]; exact hd K'⟩
  · obtain ⟨d, hd⟩ := str_one h
    exact ⟨d, fun K' => by unfold aBin; exact hd K'⟩
  · obtain ⟨hu, h⟩ := h
    obtain ⟨d, hd⟩ := bool_one h
    exact ⟨d, fun K' => by unfold aBin; simp only [hu, true_and]; exact hd K'⟩
  · rw [ht] at h; exact absurd h.1 (by simp)
  · rw [ht] at h; exact absurd h.1 (by simp)
  · rw [ht] at h; exact absurd h.1 (by simp)
  · rw [ht] at h; exact absurd h.1 (by simp)
  · split at h
    · rename_i ks hks
      split at h
      · rename_i b hb
        exact ⟨_, fun K' => by unfold aBin; simp only [hks, hb]; rfl⟩
      · rename_i b hb
        exact ⟨_, fun K' => by unfold aBin; simp only [hks, hb]; rfl⟩
      · exact h.elim
    · exact h.elim
  · exact h.elim
theorem len_one {x : X} {K : D → Prop} (h : aLen x K) : ∃ d, ∀ K' : D → Prop, aLen x K' ↔ K' d := by
  unfold aLen at h
  split at h
  · exact ⟨_, fun K' => Iff.rfl⟩
  · exact ⟨_, fun K' => Iff.rfl⟩
  · exact ⟨_, fun K' => Iff.rfl⟩
  · exact ⟨_, fun K' => by unfold aLen; simp only [h.1, true_and]; rfl⟩
  · exact ⟨_, fun K' => Iff.rfl⟩
  · exact h.elim
theorem src_one {C : Caps} {k : Nat} {x : X} {K : List (List D) → Prop} (h : aSrc av C k x K) : ∃ es, ∀ C', (∀ n, ¬ av n → C' n = C n) → ∀ K' : List (List D) → Prop, aSrc av C' k x K' ↔ K' es := by
  unfold aSrc at h
  split at h
  · exact ⟨_, fun C' _ K' => by unfold aSrc; exact ⟨fun h => h.2, fun h' => ⟨h.1, h'⟩⟩⟩
  · exact ⟨_, fun C' _ K' => Iff.rfl⟩
  · rename_i nm k' a len
    obtain ⟨hn, hk, h⟩ := h
    split at h
    · rename_i ty k'' es hc
      obtain ⟨h1, h2, h⟩ := h
      refine ⟨(es.drop a).take len, fun C' hC K' => ?_⟩
      unfold aSrc
      simp only [hC nm hn, hc, hn, not_false_eq_true, true_and, hk, h1, h2]
    · exact h.elim
  · exact h.elim
theorem dst_one {C : Caps} {e : TypeId} {k : Nat} {x : X} {K : List (List D) → Del → Prop} (h : aDst wr av C e k x K) : ∃ es δ, (∀ p ∈ δ, wr p.1 ∧ ¬ av p.1) ∧ ∀ C', (∀ n, ¬ av n → C' n = C n) → ∀ K' : List (List D) → Del → Prop, aDst wr av C' e k x K' ↔ K' es δ := by
  unfold aDst at h
  split at h
  · exact ⟨_, _, by simp, fun C' _ K' => Iff.rfl⟩
  · rename_i nm k' a len
    obtain ⟨hw, hn, hk, ha, h⟩ := h
    split at h
    · rename_i e' k'' es hc
      obtain ⟨h1, h2, h3, h⟩ := h
      refine ⟨es, [(nm, none)], by simp [hw, hn], fun C' hC K' => ?_⟩
      unfold aDst
      simp only [hC nm hn, hc, hn, hw, not_false_eq_true, true_and, hk, ha, h1, h2, h3]
    · exact h.elim
  · exact h.elim

theorem in_one {C : Caps} {e : TypeId} {k : Nat} {s x : X} {K : X → Del → Prop} (h : aIn wr av C e k s x K) : ∃ x' δ, (∀ p ∈ δ, wr p.1 ∧ ¬ av p.1) ∧ ∀ C', (∀ n, ¬ av n → C' n = C n) → aPart C' s = aPart C s ∧ ∀ K' : X → Del → Prop, aIn wr av C' e k s x K' ↔ K' x' δ := by
  unfold aIn at h
  split at h
  · rename_i nm k' a len
    obtain ⟨hw, hn, hk, ha, h⟩ := h
    split at h
    · rename_i e' k'' es hc
      obtain ⟨h1, h2, h⟩ := h
      obtain ⟨es2, hs⟩ := src_one h
      have h3 := (hs C (fun _ _ => rfl) _).1 h
      refine ⟨.vec nm k 0 (len + es2.length), [(nm, some (.vec e k (es.take len ++ es2 ++ es.drop (len + es2.length))))], by simp [hw, hn], fun C' hC => ⟨by unfold aPart; simp only [hC nm hn], fun K' => ?_⟩⟩
      unfold aIn
      simp only [hC nm hn, hc, hn, hw, not_false_eq_true, true_and, hk, ha, h1, h2]
      rw [hs C' hC]
      simp only [h3.1, true_and]
    · exact h.elim
  · exact h.elim
theorem dst_part {C : Caps} {e : TypeId} {k : Nat} {x : X} {K : List (List D) → Del → Prop} (h : aDst wr av C e k x K) (hp : aPart C x = false) : ∀ C', (∀ n, ¬ av n → C' n = C n) → aPart C' x = false := by
  unfold aDst at h
  intro C' hC
  split at h
  · rfl
  · obtain ⟨hw, hn, hk, ha, h⟩ := h
    rw [← hp]; unfold aPart; simp only [hC _ hn]
  · exact h.elim
theorem clear_one {C : Caps} {e : TypeId} {k : Nat} {z : List D} {x : X} {K : X → Del → Prop} (h : aClear wr av C e k z x K) : ∃ x' δ, (∀ p ∈ δ, wr p.1 ∧ ¬ av p.1) ∧ ∀ C', (∀ n, ¬ av n → C' n = C n) → ∀ K' : X → Del → Prop, aClear wr av C' e k z x K' ↔ K' x' δ := by
  unfold aClear at h
  split at h
  · rename_i nm k' a len
    obtain ⟨hw, hn, hk, h⟩ := h
    split at h
    · rename_i e' k'' es hc
      obtain ⟨h1, h2, h3, h4, h⟩ := h
      refine ⟨.junk, [(nm, some (.vec e k (es.take a ++ List.replicate len z ++ es.drop (a + len))))], by simp [hw, hn], fun C' hC K' => ?_⟩
      unfold aClear
      simp only [hC nm hn, hc, hn, hw, not_false_eq_true, true_and, hk, h1, h2, h3, h4, ne_eq]
    · exact h.elim
  · exact h.elim

theorem map_mem {e' e : Operand → X} {os : List Operand} (h : ∀ o ∈ os, e' o = e o) : os.map e' = os.map e := List.map_congr_left h
theorem snd_mem {e' e : Operand → X} {ps : List (Nat × Operand)} (h : ∀ o ∈ ps.map (·.2), e' o = e o) : ps.map (fun p => (p.1, e' p.2)) = ps.map (fun p => (p.1, e p.2)) :=
  List.map_congr_left fun p hp => by rw [h p.2 (List.mem_map.2 ⟨p, hp, rfl⟩)]
theorem builtin_one {C : Caps} {b : Builtin} {xs : List X} {ts : List TypeId} {K : X → Del → Prop} (h : aBuiltin P m wr av C b xs ts K) :
    ∃ x δ, (∀ p ∈ δ, p.1 = m ∨ (wr p.1 ∧ ¬ av p.1)) ∧ ∀ C', (∀ n, ¬ av n → C' n = C n) → ∀ K' : X → Del → Prop, aBuiltin P m wr av C' b xs ts K' ↔ K' x δ := by
  unfold aBuiltin at h
  split at h
  · obtain ⟨h1, h⟩ := h
    obtain ⟨d, hd⟩ := len_one h
    exact ⟨.d d, [], by simp, fun C' _ K' => by unfold aBuiltin; simp only [h1, true_and]; exact hd _⟩
  · rename_i s x t t2
    split at h
    · rename_i el k by_ ht
      obtain ⟨rfl, h2, h3, h4, hT, hF⟩ := h
      by_cases hp : aPart C s = true
      · obtain ⟨x', δ, hδ, hd⟩ := in_one (hT hp)
        refine ⟨x', δ, fun p hp => .inr (hδ p hp), fun C' hC K' => ?_⟩
        unfold aBuiltin
        simp only [ht, h2, h3, h4, true_and, (hd C' hC).1, hp, forall_const, Bool.true_eq_false, false_implies, and_true]
        exact (hd C' hC).2 _
      have hp : aPart C s = false := by simpa using hp
      replace h := hF hp
      have hpp := dst_part h hp
      obtain ⟨es, δ, hδ, hd⟩ := dst_one h
      have h := (hd C (fun _ _ => rfl) _).1 h
      obtain ⟨es2, hs⟩ := src_one h
      have h := (hs C (fun _ _ => rfl) _).1 h
      refine ⟨.vec m k 0 (es.length + es2.length), δ ++ [(m, some (.vec el k (es ++ es2)))], ?_, fun C' hC K' => ?_⟩
      · intro p hp
        rcases List.mem_append.1 hp with hp | hp
        · exact .inr (hδ p hp)
        · simp at hp; exact .inl (by rw [hp])
      · unfold aBuiltin
        simp only [ht, h2, h3, h4, true_and, hpp C' hC, forall_const, Bool.false_eq_true, false_implies]
        rw [hd C' hC, hs C' hC]
        simp only [h.1, true_and]
    · exact h.elim
  · split at h
    · rename_i el k by_ ht
      split at h
      · rename_i z hz
        obtain ⟨h1, h2, h⟩ := h
        obtain ⟨x', δ, hδ, hd⟩ := clear_one h
        refine ⟨x', δ, fun p hp => .inr (hδ p hp), fun C' hC K' => ?_⟩
        unfold aBuiltin
        simp only [ht, hz, h1, h2, true_and]
        exact hd C' hC _
      · exact h.elim
    · exact h.elim
  · split at h
    · exact ⟨_, [], by simp, fun C' _ K' => by unfold aBuiltin; simp only [h.1, true_and]; rfl⟩
    · exact h.elim
  · split at h
    · exact ⟨_, [], by simp, fun C' _ K' => by unfold aBuiltin; simp only [h.1, true_and]; rfl⟩
    · exact h.elim
  · exact h.elim

theorem aop_one {e : Operand → X} {C : Caps} {op : Op} (hdet : detOp P op = true) {K : X → Del → Prop} (h : aop P m wr av e C op K) :
    OneOut wr av m (fun e' C' K' => aop P m wr av e' C' op K') op.operands.toList e C := by
  cases op with
  | move x => exact .pure (e x) fun e' C' he hC K' => by simp only [aop, he x (by simp [Op.operands])]
  | assign x => exact .pure (e x) fun e' C' he hC K' => by simp only [aop, he x (by simp [Op.operands])]
  | pick c a b =>
    simp only [aop] at h
    split at h
    · rename_i t ht
      refine .pure (if t then e a else e b) fun e' C' he hC K' => ?_
      simp only [aop, he c (by simp [Op.operands]), he a (by simp [Op.operands]), he b (by simp [Op.operands]), ht]
      cases t <;> simp
    · exact h.elim
  | alloc t =>
    simp only [aop] at h
    split at h
    · rename_i cs hz
      exact ⟨.bx m 0, [(m, some (.box t cs))], by simp, fun e' C' he hC K' => by simp only [aop, hz, h.1, true_and]⟩
    · exact h.elim
  | box t x =>
    simp only [aop] at h
    exact ⟨.bx m 0, [(m, some (.box t (e x).cells))], by simp, fun e' C' he hC K' => by simp only [aop, he x (by simp [Op.operands]), h.1, true_and]⟩
  | build t ps =>
    simp only [aop] at h
    split at h
    · rename_i cs fl hz hf
      split at h
      · rename_i r hr
        refine .pure (.ag r) fun e' C' he hC K' => ?_
        simp only [aop, hz, hf, snd_mem (e' := e') (e := e) (ps := ps.toList) (fun o ho => he o (by simpa [Op.operands] using ho)), hr]
      · exact h.elim
    · exact h.elim
  | buildSlice t n ps =>
    simp only [aop] at h
    split at h
    · rename_i el k by_ ht
      split at h
      · rename_i hn
        exact ⟨.vec m k 0 0, [(m, some (.vec el k []))], by simp, fun e' C' he hC K' => by simp only [aop, ht, hn, if_true, h.1, true_and]⟩
      · rename_i hn
        obtain ⟨h1, h2, h3, h4, h⟩ := h
        split at h
        · rename_i es hes
          refine ⟨.vec m k 0 es.length, [(m, some (.vec el k es))], by simp, fun e' C' he hC K' => ?_⟩
          simp only [aop, ht, if_neg hn, h1, h3, h4, true_and, snd_mem (e' := e') (e := e) (ps := ps.toList) (fun o ho => he o (by simpa [Op.operands] using ho)), hes]
          exact ⟨fun h => h.2, fun h => ⟨h2, h⟩⟩
        · exact h.elim
    · exact h.elim
  | load t a =>
    simp only [aop] at h
    split at h
    · rename_i g n ht
      obtain ⟨x, hx⟩ := load_one h
      exact .pure x fun e' C' he hC K' => by simp only [aop, ht, he a (by simp [Op.operands])]; exact hx C' hC _
    · exact h.elim
  | store t a x =>
    simp only [aop] at h
    split at h
    · rename_i g n ht
      obtain ⟨δ, hδ, hx⟩ := store_one h
      exact ⟨.undef, δ, fun p hp => .inr (hδ p hp), fun e' C' he hC K' => by simp only [aop, ht, he a (by simp [Op.operands]), he x (by simp [Op.operands])]; exact hx C' hC _⟩
    · exact h.elim
  | nilCheck x =>
    simp only [aop] at h
    split at h <;> first
      | exact h.elim
      | (rename_i hx; exact .pure _ fun e' C' he hC K' => by simp only [aop, he x (by simp [Op.operands]), hx]; rfl)
  | binOp op t x y yt =>
    simp only [aop] at h
    simp only [detOp, Bool.and_eq_true, bne_iff_ne, ne_eq, Option.isNone_iff_eq_none] at hdet
    obtain ⟨d, hd⟩ := bin_one hdet.1 hdet.2 h
    exact .pure (.d d) fun e' C' he hC K' => by simp only [aop, he x (by simp [Op.operands]), he y (by simp [Op.operands])]; exact hd _
  | unOp op t x =>
    cases op <;> simp only [aop] at h <;> first
      | exact h.elim
      | (split at h <;> first
          | exact h.elim
          | (rename_i hx; exact .pure _ fun e' C' he hC K' => by simp only [aop, he x (by simp [Op.operands]), hx]; rfl))
  | convert s d x =>
    simp only [aop] at h
    split at h <;> first
      | exact h.elim
      | (rename_i hx hu; exact .pure _ fun e' C' he hC K' => by simp only [aop, he x (by simp [Op.operands]), hx, hu, h.1, true_and]; rfl)
      | (rename_i es hx hu
         obtain ⟨h1, h2, h⟩ := h
         split at h
         · rename_i l hl
           exact .pure (.d (.str (strOfNums l))) fun e' C' he hC K' => by
             simp only [aop, he x (by simp [Op.operands]), hx, hu, hl]
             exact ⟨fun h => h.2.2, fun h => ⟨h1, h2, h⟩⟩
         · exact h.elim)
  | makeFunc fn fi ca => cases fn with
    | func f =>
      simp only [aop] at h
      exact .pure (.clo f (ca.toList.map e)) fun e' C' he hC K' => by simp only [aop, h.1, true_and, map_mem (e' := e') (e := e) (os := ca.toList) (fun o ho => he o (by simp [Op.operands]; right; simpa using ho))]
    | _ => exact h.elim
  | makeSlice t l c =>
    simp only [aop] at h
    split at h
    · rename_i el k by_ n c' ht hl hc
      obtain ⟨h1, h⟩ := h
      split at h
      · rename_i z hz
        exact ⟨.vec m k 0 n.toNat, [(m, some (.vec el k (List.replicate n.toNat z)))], by simp, fun e' C' he hC K' => by simp only [aop, ht, he l (by simp [Op.operands]), he c (by simp [Op.operands]), hl, hc, h1, hz, h.1, and_self, true_and]⟩
      · exact h.elim
    · exact h.elim
  | slice t x lo hi mx => cases mx with
    | none =>
      have key : ∀ (lo hi : Option Operand), (∀ (e : Operand → X) (C : Caps) (K : X → Del → Prop), aop P m wr av e C (.slice t x lo hi none) K = aSlice P t (e x) (lo.map e) (hi.map e) fun y => K y []) → aop P m wr av e C (.slice t x lo hi none) K → OneOut wr av m (fun e' C' K' => aop P m wr av e' C' (.slice t x lo hi none) K') (Op.slice t x lo hi none).operands.toList e C := by
        intro lo hi heq h
        rw [heq] at h
        obtain ⟨y, hy⟩ := slice_one h
        refine .pure y fun e' C' he hC K' => ?_
        have e1 : lo.map e' = lo.map e := by cases lo <;> simp [he, Op.operands]
        have e2 : hi.map e' = hi.map e := by cases hi <;> simp [he, Op.operands]
        rw [heq]
        simp only [he x (by simp [Op.operands]), e1, e2]
        exact hy _
      cases lo with
      | none => exact key _ _ (fun _ _ _ => rfl) h
      | some lo => cases hi with
        | none => exact key _ _ (fun _ _ _ => rfl) h
        | some hi =>
          simp only [aop] at h
          split at h
          · rename_i n k a len hx
            obtain ⟨h1, h2, h3, h⟩ := h
            split at h
            · rename_i ty k'' es _ l _ h' hc hl hh
              obtain ⟨h4, h5, h⟩ := h
              exact .pure (.vec n k l.toNat (h'.toNat - l.toNat)) fun e' C' he hC K' => by
                simp only [aop, he x (by simp [Op.operands]), he lo (by simp [Op.operands]), he hi (by simp [Op.operands]), hx, aSl2, hC n h2, hc, hl, hh, h1, h2, h3, h4, h5, not_false_eq_true, and_self, true_and]
            · exact h.elim
          · rename_i hnv
            obtain ⟨y, hy⟩ := slice_one h
            refine .pure y fun e' C' he hC K' => ?_
            simp only [aop, he x (by simp [Op.operands]), he lo (by simp [Op.operands]), he hi (by simp [Op.operands])]
            cases hx : e x with
            | vec n k a len => exact absurd hx (hnv n k a len)
            | _ => rw [hx] at hy; exact hy _
    | some mx => cases lo with
      | none => exact h.elim
      | some lo => cases hi with
        | none => exact h.elim
        | some hi =>
          simp only [aop] at h
          split at h
          · rename_i el k by_ nm k' a len kl l kh hh kc c ht hx hl hhi hc
            obtain ⟨h1, h2, h⟩ := h
            exact .pure .junk fun e' C' he hC K' => by
              simp only [aop, he x (by simp [Op.operands]), he lo (by simp [Op.operands]), he hi (by simp [Op.operands]), he mx (by simp [Op.operands]), ht, hx, hl, hhi, hc, h1, h2, and_self, true_and]
          · exact h.elim
  | fieldAddr t x f =>
    simp only [aop] at h
    split at h
    · rename_i off ft hf
      obtain ⟨h1, h⟩ := h
      split at h <;> first
        | exact h.elim
        | (rename_i hx; exact .pure _ fun e' C' he hC K' => by simp only [aop, hf, h1, true_and, he x (by simp [Op.operands]), hx]; rfl)
        | (rename_i hx; exact .pure _ fun e' C' he hC K' => by simp only [aop, hf, h1, true_and, he x (by simp [Op.operands]), hx, h.1]; rfl)
    · exact h.elim
  | field t x f =>
    simp only [aop] at h
    split at h
    · rename_i off ft hf
      split at h
      · rename_i g n cs ht hx
        obtain ⟨y, hy⟩ := takeX_one h
        exact .pure y fun e' C' he hC K' => by simp only [aop, hf, ht, he x (by simp [Op.operands]), hx]; exact hy _
      · exact h.elim
    · exact h.elim
  | indexAddr t x i =>
    simp only [aop] at h
    split at h
    · rename_i el k by_ es kk n ht hx hi
      obtain ⟨h1, h⟩ := h
      have hlt : n.toNat < es.length := by omega
      have hc := List.getElem?_eq_getElem hlt
      have h2 := h _ hc
      refine .pure (.ptr (es[n.toNat]'hlt)) fun e' C' he hC K' => ?_
      simp only [aop, ht, he x (by simp [Op.operands]), he i (by simp [Op.operands]), hx, hi, h1, and_self, true_and]
      constructor
      · intro h; exact (h _ hc).2
      · intro h c hc'; rw [hc] at hc'; cases hc'; exact ⟨h2.1, h⟩
    · rename_i el k by_ m' es kk n ht hx hi
      obtain ⟨h1, h⟩ := h
      have hlt : n.toNat < es.length := by omega
      have hc := List.getElem?_eq_getElem hlt
      have h2 := h _ hc
      refine .pure (.ptr (es[n.toNat]'hlt)) fun e' C' he hC K' => ?_
      simp only [aop, ht, he x (by simp [Op.operands]), he i (by simp [Op.operands]), hx, hi, h1, and_self, true_and]
      constructor
      · intro h; exact (h _ hc).2
      · intro h c hc'; rw [hc] at hc'; cases hc'; exact ⟨h2.1, h⟩
    · rename_i el k by_ nm k' a len kk n ht hx hi
      exact .pure (.ve nm k (a + n.toNat) 0) fun e' C' he hC K' => by simp only [aop, ht, he x (by simp [Op.operands]), he i (by simp [Op.operands]), hx, hi, h.1, h.2.1, and_self, true_and]
    · rename_i cs kk n ht hx hi
      split at h
      · rename_i len k hta
        exact .pure (.ptr ((cs.drop (n.toNat * k)).take k)) fun e' C' he hC K' => by simp only [aop, ht, he x (by simp [Op.operands]), he i (by simp [Op.operands]), hx, hi, hta, h.1, h.2.1, and_self, true_and]
      · exact h.elim
    · exact h.elim
  | index t x i =>
    simp only [aop] at h
    split at h
    · rename_i s kk n ht hx hi
      obtain ⟨h1, h⟩ := h
      have hlt : n.toNat < s.data.size := by have : s.size = s.data.size := rfl; omega
      have hc := Array.getElem?_eq_getElem hlt
      refine .pure (.d (.int .u8 (s.data[n.toNat]'hlt).toNat)) fun e' C' he hC K' => ?_
      simp only [aop, ht, he x (by simp [Op.operands]), he i (by simp [Op.operands]), hx, hi, h1, and_self, true_and]
      constructor
      · intro h; exact h _ hc
      · intro h c hc'; rw [hc] at hc'; cases hc'; exact h
    · exact h.elim
  | extract t i =>
    simp only [aop] at h
    split at h
    · rename_i xs hx
      split at h
      · rename_i y hy
        exact .pure y fun e' C' he hC K' => by simp only [aop, he t (by simp [Op.operands]), hx, hy]
      · exact h.elim
    · exact h.elim
  | call c =>
    obtain ⟨callee, args, argTypes⟩ := c
    cases callee with
    | value f => simp [detOp] at hdet
    | invoke r n => exact h.elim
    | builtin b =>
      simp only [aop] at h
      obtain ⟨x, δ, hδ, hx⟩ := builtin_one h
      refine ⟨x, δ, hδ, fun e' C' he hC K' => ?_⟩
      simp only [aop, map_mem (e' := e') (e := e) (os := args.toList) (fun o ho => he o (by simp [Op.operands, Call.operands]; simpa using ho))]
      exact hx C' hC _
  | _ => exact h.elim
end
end Go.Proofs.YtkbnkcdaiahoeaaDoor
