/- A region in whatever order: from the text's order. No condition. -/
import Derived.Test.YtkbnkcdaiahoeaaDoorAwQ
namespace Go.Proofs.YtkbnkcdaiahoeaaDoor
open Go Go.RowKit
set_option linter.unusedVariables false
set_option linter.unusedSimpArgs false

theorem stepT_mono {P : Program} {g : Nat} {ds : List (Option Tmp)} {fz : Nat → Bool} {wr av : Nat → Nat → Prop} {i : Nat} {o : Oper} (hk : isCallO o = true ∨ detOp P o.op = true) {σ : St} {K K' : St → Prop} (hkk : ∀ σ, K σ → K' σ)
    (h : stepT P g ds fz wr av i o σ K) : stepT P g ds fz wr av i o σ K' := by
  obtain ⟨R, -, hR, hRs⟩ := any_rep hk h
  exact hRs σ ⟨fun _ _ => rfl, fun _ _ => rfl⟩ K' fun x δ hr => hkk _ (hR x δ hr).2

structure Drawn (P : Program) (F : Nat) (ops : List Oper) : Prop where
  pred : ∀ (i : Nat) (o : Oper), ops[i]? = some o → ∀ p ∈ predsO o, p < i
  kind : ∀ (i : Nat) (o : Oper), ops[i]? = some o → isCallO o = true ∨ detOp P o.op = true
  pair : ∀ (i j : Nat) (o q : Oper), ops[i]? = some o → ops[j]? = some q → j < i → j ∉ ancO ops F i → pairOk (ops.map (·.dst)) q o = true

theorem drawOk_spec {P : Program} {F : Nat} {ops : List Oper} (h : drawOk P F ops = true) : Drawn P F ops := by
  unfold drawOk at h
  rw [List.all_eq_true] at h
  have key : ∀ (i : Nat) (o : Oper), ops[i]? = some o → (((predsO o).all (fun p => decide (p < i)) && (isCallO o || detOp P o.op)) && (ops.take i).zipIdx.all fun (q, j) => (ancO ops F i).contains j || pairOk (ops.map (·.dst)) q o) = true := by
    intro i o ho
    have := h (o, i) (by rw [List.mem_zipIdx_iff_getElem?]; exact ho)
    simpa using this
  refine ⟨fun i o ho p hp => ?_, fun i o ho => ?_, fun i j o q ho hq hj hn => ?_⟩
  · have := key i o ho
    simp only [Bool.and_eq_true, List.all_eq_true] at this
    simpa using this.1.1 p hp
  · have := key i o ho
    simp only [Bool.and_eq_true, Bool.or_eq_true] at this
    exact this.1.2
  · have := key i o ho
    simp only [Bool.and_eq_true, List.all_eq_true] at this
    have := this.2 (q, j) (by rw [List.mem_zipIdx_iff_getElem?, List.getElem?_take]; simp [hj, hq])
    simpa [hn] using this

section
variable {P : Program} {F g : Nat} {ops : List Oper} {fz : Nat → Bool} {W : Nat → List Nat}

/-- What the region's operations are to each other. -/
def wrO (W : Nat → List Nat) (i n : Nat) : Prop := n ∈ W i

theorem qi_front (hD : Drawn P F ops) {K : St → Prop} {i : Nat} {oi : Oper} (hi : ops[i]? = some oi) (r : List Nat) : ∀ (l : List Nat) (hl : ∀ j ∈ l, j < i ∧ j < ops.length ∧ j ∉ ancO ops F i) {σ : St}
    (h : qi P g (ops.map (·.dst)) fz (wrO W) (avO ops F g W) ops K (l ++ i :: r) σ), qi P g (ops.map (·.dst)) fz (wrO W) (avO ops F g W) ops K (i :: (l ++ r)) σ
  | [], _, σ, h => h
  | j :: l, hl, σ, h => by
    obtain ⟨hji, hjl, hja⟩ := hl j (by simp)
    obtain ⟨oj, hj⟩ : ∃ oj, ops[j]? = some oj := ⟨ops[j], by simp [hjl]⟩
    have ki := hD.kind i oi hi
    have kj := hD.kind j oj hj
    have hp := hD.pair i j oi oj hi hj hji hja
    simp only [pairOk, Bool.and_eq_true, Bool.not_eq_true'] at hp
    simp only [List.cons_append, qi, hj, hi] at h ⊢
    have h2 := stepT_mono kj (fun σ h => qi_front hD hi r l (fun q hq => hl q (by simp [hq])) h) h
    simp only [qi, hi] at h2
    exact swapT (by omega) hp.1 ki kj hp.2 (fun n hn => ⟨j, .inl ⟨hji, hja⟩, .inr hn⟩) (fun n hn => ⟨i, .inr ⟨hji, hja⟩, .inr hn⟩) ⟨j, .inl ⟨hji, hja⟩, .inl rfl⟩ ⟨i, .inr ⟨hji, hja⟩, .inl rfl⟩ h2
end

section
variable {Γ : Ctx} {F g : Nat} {ops : Array Oper} {fz : Nat → Bool} {W : Nat → List Nat}

theorem mem_preds {o : Oper} {p : Nat} : p ∈ predsO o ↔ ∃ e ∈ o.after, Region.binds .any e = true ∧ e.on = p := by
  simp [predsO, and_assoc]

theorem any_sound (hD : Drawn Γ.P F ops.toList) (hd : dstOk Γ.T ops.toList = true) {K : St → Prop} {Q : Exit → Act → World → Prop} : ∀ (k : Nat) (listed : Array Bool) (R : List Nat) {U : Nat → Prop} {σ : St} {a : Act} {w : World}
    (hs : listed.size = ops.size) (hR : R.Pairwise (· < ·)) (hm : ∀ i, i ∈ R ↔ listed.getD i true = false) (hc : ∀ i o, ops[i]? = some o → i ∉ R → ∀ p ∈ predsO o, p ∉ R) (hu : ∀ i ∈ R, ¬ U (g + i)) (hlen : R.length ≤ k) (hI : Inv Γ U σ a w)
    (h : qi Γ.P g (ops.toList.map (·.dst)) fz (wrO W) (avO ops.toList F g W) ops.toList K R σ)
    (hQ : ∀ σ' U' a' w', K σ' → (∀ n, U' n → U n ∨ ∃ i ∈ R, n = g + i) → Inv Γ U' σ' a' w' → Q .normal a' w'), wpAny Γ.P .any ops Q k listed a w := by
  have lt_of : ∀ {listed : Array Bool} {i : Nat}, listed.getD i true = false → i < listed.size := by
    intro listed i hi
    rcases Nat.lt_or_ge i listed.size with h | h
    · exact h
    · simp [Array.getElem?_eq_none h] at hi
  have ready_of : ∀ (listed : Array Bool) (R : List Nat) (r : Nat) (rs : List Nat), listed.size = ops.size → R = r :: rs → R.Pairwise (· < ·) → (∀ i, i ∈ R ↔ listed.getD i true = false) → r ∈ Region.ready .any ops listed := by
    rintro listed R r rs hs rfl hR hm
    have hr0 := (hm r).1 (by simp)
    have hrl : r < ops.size := hs ▸ lt_of hr0
    rw [mem_ready]
    refine ⟨hr0, ops[r], by simp [hrl], fun e he hb => ?_⟩
    have hlt : e.on < r := hD.pred r ops[r] (by simp [hrl]) e.on (mem_preds.2 ⟨e, he, hb, rfl⟩)
    have hnot : e.on ∉ r :: rs := by
      intro hmem
      rcases List.mem_cons.1 hmem with h | h
      · omega
      · have := (List.pairwise_cons.1 hR).1 _ h; omega
    rw [hm] at hnot
    have hes : e.on < listed.size := by omega
    simp [hes] at hnot ⊢
    exact hnot
  intro k
  induction k with
  | zero =>
    intro listed R U σ a w hs hR hm hc hu hlen hI h hQ
    have hnil : R = [] := List.length_eq_zero_iff.1 (by omega)
    subst hnil
    refine ⟨?_, hQ σ U a w h (fun _ hn => .inl hn) hI⟩
    apply List.eq_nil_iff_forall_not_mem.2
    intro i hi
    have := (mem_ready.1 hi).1
    simpa using (hm i).2 this
  | succ k ih =>
    intro listed R U σ a w hs hR hm hc hu hlen hI h hQ
    refine ⟨fun hnil => ?_, fun i hi => ?_⟩
    · cases R with
      | nil => exact hQ σ U a w h (fun _ hn => .inl hn) hI
      | cons r rs =>
        have := ready_of listed _ r rs hs rfl hR hm
        rw [hnil] at this; simp at this
    · obtain ⟨hi0, o, ho, hall⟩ := mem_ready.1 hi
      have hiR : i ∈ R := (hm i).2 hi0
      have hil : i < listed.size := lt_of hi0
      obtain ⟨l, r, rfl⟩ := List.append_of_mem hiR
      have hoT : ops.toList[i]? = some o := by simpa using ho
      have hpre : ∀ p ∈ predsO o, p ∉ l ++ i :: r := by
        intro p hp hmem
        obtain ⟨e, he, hb, rfl⟩ := mem_preds.1 hp
        have h1 := hall e he hb
        have h2 := (hm _).1 hmem
        have hes : e.on < listed.size := lt_of h2
        simp [hes] at h1 h2
        rw [h1] at h2; cases h2
      have hanc : ∀ n (o' : Oper) (i' : Nat), ops[i']? = some o' → (∀ p ∈ predsO o', p ∉ l ++ i :: r) → ∀ j ∈ ancO ops.toList n i', j ∉ l ++ i :: r := by
        intro n
        induction n with
        | zero => intro o' i' _ _ j hj; simp [ancO] at hj
        | succ n ihn =>
          intro o' i' ho' hp j hj
          have : ops.toList[i']? = some o' := by simpa using ho'
          simp only [ancO, this, List.mem_flatMap, List.mem_cons] at hj
          obtain ⟨p, hpp, rfl | hj⟩ := hj
          · exact hp _ hpp
          · cases hop : ops[p]? with
            | none =>
              cases n with
              | zero => simp [ancO] at hj
              | succ n =>
                have : ops.toList[p]? = none := by simpa using hop
                simp only [ancO, this] at hj; simp at hj
            | some op => exact ihn op p hop (hc p op hop (hp p hpp)) j hj
      have hl : ∀ j ∈ l, j < i ∧ j < ops.toList.length ∧ j ∉ ancO ops.toList F i := by
        intro j hj
        refine ⟨(List.pairwise_append.1 hR).2.2 j hj i (by simp), ?_, fun h => hanc F o i ho hpre j h (by simp [hj])⟩
        have := lt_of ((hm j).1 (by simp [hj]))
        simpa [hs] using this
      have h2 := qi_front hD hoT r l hl h
      simp only [qi, hoT] at h2
      refine stepT_sound ho ?_ (hu i (by simp)) hI h2 (fun σ' a' w' hk hI' => ?_)
      · intro d hdd
        have := List.all_eq_true.1 hd o (by rw [Array.mem_toList_iff]; exact Array.mem_of_getElem? ho)
        rw [hdd] at this; simpa using this
      · have hR' : (l ++ r).Pairwise (· < ·) := by
          rw [List.pairwise_append] at hR ⊢
          exact ⟨hR.1, (List.pairwise_cons.1 hR.2.1).2, fun x hx y hy => hR.2.2 x hx y (by simp [hy])⟩
        have hiN : i ∉ l ++ r := by
          rw [List.pairwise_append] at hR
          intro hmem
          rcases List.mem_append.1 hmem with h | h
          · have := hR.2.2 i h i (by simp); omega
          · have := (List.pairwise_cons.1 hR.2.1).1 i h; omega
        have hmem : ∀ j, j ∈ l ++ i :: r ↔ j = i ∨ j ∈ l ++ r := by intro j; simp only [List.mem_append, List.mem_cons]; constructor <;> (rintro (h | h | h) <;> simp [h])
        refine ih _ (l ++ r) (by simpa using hs) hR' (fun j => ?_) (fun j oj hoj hj p hp hpm => ?_) (fun j hj => ?_) (by simp at hlen ⊢; omega) hI' hk (fun σ'' U' a'' w'' hk hu' hI'' => hQ σ'' U' a'' w'' hk (fun n hn => ?_) hI'')
        · by_cases hij : j = i
          · subst hij
            simp [hil]
            simpa using hiN
          · rw [getD_set_ne true (Ne.symm hij), ← hm, hmem]; simp [hij]
        · have hpm' : p ∈ l ++ i :: r := (hmem p).2 (.inr hpm)
          by_cases hij : j = i
          · subst hij; rw [ho] at hoj; cases hoj; exact hpre p hp hpm'
          · exact hc j oj hoj (by rw [hmem]; simp only [hij, false_or]; exact hj) p hp hpm'
        · rintro (h | h)
          · exact hu j ((hmem j).2 (.inr hj)) h
          · exact hiN (by rw [show i = j from by omega]; exact hj)
        · rcases hu' n hn with (h | h) | ⟨j, hj, e⟩
          · exact .inl h
          · exact .inr ⟨i, by simp, h⟩
          · exact .inr ⟨j, (hmem j).2 (.inr hj), e⟩
end
end Go.Proofs.YtkbnkcdaiahoeaaDoor
