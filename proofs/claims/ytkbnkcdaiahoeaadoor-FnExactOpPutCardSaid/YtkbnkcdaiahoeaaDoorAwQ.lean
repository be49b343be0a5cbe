/- A region whose order is open: carried out in the text's order it comes to what every order comes to. No condition. -/
import Derived.Test.YtkbnkcdaiahoeaaDoorAwP
namespace Go.Proofs.YtkbnkcdaiahoeaaDoor
open Go Go.RowKit
set_option linter.unusedVariables false
set_option linter.unusedSimpArgs false

def gModeO (ds : List (Option Tmp)) (g : Option (Nat × Bool)) (s : Nat → X) : Option Bool :=
  match g with
  | none => some true
  | some (j, want) => match ds.getD j none with
    | none => none
    | some t => match s t with
      | .d (.bool b) => some (b == want)
      | .undef => some false
      | _ => none
def isCallO (o : Oper) : Bool :=
  match o.op with
  | .call { callee := .value _, .. } => true
  | _ => false
def opTmps (op : Op) : List Tmp := op.operands.toList.filterMap fun | .tmp t => some t | _ => none
def looksO (ds : List (Option Tmp)) (o : Oper) : List Tmp := opTmps o.op ++ (match o.guard with | some (g, _) => (ds.getD g none).toList | none => [])
def apartO (ds : List (Option Tmp)) (x y : Oper) : Bool :=
  (match x.dst with | some d => !(looksO ds y).contains d && y.dst != some d | none => true) && (match y.dst with | some d => !(looksO ds x).contains d | none => true)
def predsO (o : Oper) : List Nat := (o.after.toList.filter (Region.binds .any)).map (·.on)
def ancO (ops : List Oper) : Nat → Nat → List Nat
  | 0, _ => []
  | n + 1, i => match ops[i]? with
    | none => []
    | some o => (predsO o).flatMap fun p => p :: ancO ops n p
def pairOk (ds : List (Option Tmp)) (j i : Oper) : Bool := apartO ds j i && !(isCallO j && isCallO i)
def drawOk (P : Program) (fuel : Nat) (ops : List Oper) : Bool :=
  ops.zipIdx.all fun (o, i) => (predsO o).all (fun p => decide (p < i)) && (isCallO o || detOp P o.op) && (ops.take i).zipIdx.all fun (q, j) => (ancO ops fuel i).contains j || pairOk (ops.map (·.dst)) q o
/-- Neither waits for the other. -/
def unordO (ops : List Oper) (fuel i j : Nat) : Prop := (j < i ∧ j ∉ ancO ops fuel i) ∨ (i < j ∧ i ∉ ancO ops fuel j)
/-- What operation i must not look at: blocks that an operation whose order to it is open makes or may write. -/
def avO (ops : List Oper) (fuel g : Nat) (W : Nat → List Nat) (i n : Nat) : Prop := ∃ j, unordO ops fuel i j ∧ (n = g + j ∨ n ∈ W j)
theorem avO_free {ops : List Oper} {fuel g : Nat} {W : Nat → List Nat} {i n : Nat} (hW : ∀ j, n ∉ W j) (hn : n < g) : ¬ avO ops fuel g W i n := by
  rintro ⟨j, -, h | h⟩
  · omega
  · exact hW j h

section
variable {P : Program} {g : Nat} {ds : List (Option Tmp)} {fz : Nat → Bool} {wr av : Nat → Nat → Prop}

theorem stepT_iff {i : Nat} {o : Oper} {σ : St} {Kx : St → Prop} : stepT P g ds fz wr av i o σ Kx ↔
    (gModeO ds o.guard σ.s = some true ∧ aop P (g + i) (wr i) (av i) (ev σ.s) σ.C o.op fun x δ => Kx (putF (fz i) (g + i) o.dst x δ σ)) ∨ (gModeO ds o.guard σ.s = some false ∧ Kx ⟨putO o.dst .undef σ.s, σ.C⟩) := by
  unfold stepT gdO gModeO
  cases o.guard with
  | none => simp
  | some jw =>
    obtain ⟨j, want⟩ := jw
    simp only
    cases ds.getD j none with
    | none => simp
    | some t =>
      simp only
      split
      · rename_i b hb
        cases b <;> cases want <;> simp [hb]
      · rename_i hb
        simp [hb]
      · rename_i h1 h2
        split
        · rename_i b hb; exact absurd hb (h1 b)
        · rename_i hb; exact absurd hb h2
        · simp

/-- As far as operation o can see. -/
structure Seen (ds : List (Option Tmp)) (av : Nat → Prop) (o : Oper) (σ σ' : St) : Prop where
  s : ∀ t ∈ looksO ds o, σ'.s t = σ.s t
  C : ∀ n, ¬ av n → σ'.C n = σ.C n
theorem Seen.ev {o : Oper} {σ σ' : St} {av : Nat → Prop} (h : Seen ds av o σ σ') : ∀ x ∈ o.op.operands.toList, ev σ'.s x = ev σ.s x := by
  intro x hx
  cases x with
  | tmp t => exact h.s t (by simp only [looksO, opTmps, List.mem_append, List.mem_filterMap]; exact .inl ⟨_, hx, rfl⟩)
  | _ => rfl
theorem Seen.gm {o : Oper} {σ σ' : St} {av : Nat → Prop} (h : Seen ds av o σ σ') : gModeO ds o.guard σ'.s = gModeO ds o.guard σ.s := by
  unfold gModeO
  split
  · rfl
  · rename_i j want hg
    split
    · rfl
    · rename_i t ht
      rw [h.s t (by
        unfold looksO
        rw [hg]
        simp only [ht]
        simp)]

theorem fz_keys {m : Nat} {b : Bool} {x : X} {δ : Del} {wr av : Nat → Prop} (h : ∀ p ∈ δ, p.1 = m ∨ (wr p.1 ∧ ¬ av p.1)) : ∀ p ∈ (fzX b m x δ).2, p.1 = m ∨ (wr p.1 ∧ ¬ av p.1) := by
  intro p hp
  rcases fzX_keys b m x δ p hp with h' | h'
  · exact .inl h'
  · exact h p h'
theorem det_rep {i : Nat} {o : Oper} (hd : detOp P o.op = true) {σ : St} {Kx : St → Prop} (h : stepT P g ds fz wr av i o σ Kx) :
    ∃ x δ, (∀ p ∈ δ, p.1 = g + i ∨ (wr i p.1 ∧ ¬ av i p.1)) ∧ ∀ σ', Seen ds (av i) o σ σ' → ∀ K' : St → Prop, (stepT P g ds fz wr av i o σ' K' ↔ K' ⟨putO o.dst x σ'.s, app δ σ'.C⟩) := by
  rcases stepT_iff.1 h with ⟨hm, h⟩ | ⟨hm, h⟩
  · obtain ⟨x, δ, hδ, hx⟩ := aop_one hd h
    refine ⟨(fzX (fz i) (g + i) x δ).1, (fzX (fz i) (g + i) x δ).2, fz_keys hδ, fun σ' hs K' => ?_⟩
    rw [stepT_iff, hs.gm, hm]
    simp only [true_and, Option.some.injEq, Bool.true_eq_false, false_and, or_false]
    exact hx (ev σ'.s) σ'.C hs.ev hs.C _
  · refine ⟨.undef, [], by simp, fun σ' hs K' => ?_⟩
    rw [stepT_iff, hs.gm, hm]
    simp [app]

theorem aLend_congr {av : Nat → Prop} {C C' : Caps} (hC : ∀ n, ¬ av n → C' n = C n) {bor : List Nat} {x y : X} (h : aLend av C bor x y) : aLend av C' bor x y := by
  unfold aLend at h ⊢
  split at h
  · obtain ⟨ha, hb, h⟩ := h
    exact ⟨ha, hb, by rw [hC _ hb]; exact h⟩
  · exact h
theorem aCells_congr {av : Nat → Prop} {C C' : Caps} (hC : ∀ n, ¬ av n → C' n = C n) {bor : List Nat} : ∀ {xs ys : List X}, aCells av C bor xs ys → aCells av C' bor xs ys
  | [], [], _ => trivial
  | x :: xs, y :: ys, ⟨h1, h2⟩ => ⟨h1.imp id (fun h => h.imp id (aLend_congr hC)), aCells_congr hC h2⟩
  | [], _ :: _, h => h.elim
  | _ :: _, [], h => h.elim
theorem aArgs_congr {av : Nat → Prop} {C C' : Caps} (hC : ∀ n, ¬ av n → C' n = C n) {bor : List Nat} : ∀ {xs ys : List X}, aArgs av C bor xs ys → aArgs av C' bor xs ys
  | [], [], _ => trivial
  | x :: xs, y :: ys, ⟨h1, h2⟩ => by
    refine ⟨?_, aArgs_congr hC h2⟩
    unfold aArg at h1 ⊢
    split at h1
    · rename_i n k a len
      exact h1.imp id (aLend_congr hC)
    · exact h1.imp id (fun h => h.imp id (fun ⟨ds, e, h⟩ => ⟨ds, e, aCells_congr hC h⟩))
    · exact h1
  | [], _ :: _, h => h.elim
  | _ :: _, [], h => h.elim

theorem call_rep {i : Nat} {o : Oper} (hc : isCallO o = true) {σ : St} {Kx : St → Prop} (h : stepT P g ds fz wr av i o σ Kx) :
    ∃ R : X → Del → Prop, (∃ x δ, R x δ) ∧ (∀ x δ, R x δ → (∀ p ∈ δ, p.1 = g + i ∨ (wr i p.1 ∧ ¬ av i p.1)) ∧ Kx ⟨putO o.dst x σ.s, app δ σ.C⟩) ∧
      ∀ σ', Seen ds (av i) o σ σ' → ∀ K' : St → Prop, (∀ x δ, R x δ → K' ⟨putO o.dst x σ'.s, app δ σ'.C⟩) → stepT P g ds fz wr av i o σ' K' := by
  rcases stepT_iff.1 h with ⟨hm, h⟩ | ⟨hm, h⟩
  · have hop : ∃ f args ts, o.op = .call { callee := .value f, args, argTypes := ts } := by
      unfold isCallO at hc
      split at hc
      · exact ⟨_, _, _, by assumption⟩
      · cases hc
    obtain ⟨f, args, ts, hop⟩ := hop
    rw [hop] at h
    simp only [aop] at h
    split at h
    · rename_i fid cs hf
      obtain ⟨ys, pre, Q, bor, h1, h2, h3, h4, h5, h6⟩ := h
      refine ⟨fun y ε => ∃ x δ, Q x δ ∧ y = (fzX (fz i) (g + i) x δ).1 ∧ ε = (fzX (fz i) (g + i) x δ).2, ?_, ?_, fun σ' hs K' hK => ?_⟩
      · obtain ⟨x, δ, hq⟩ := h4; exact ⟨_, _, x, δ, hq, rfl, rfl⟩
      · rintro y ε ⟨x, δ, hq, rfl, rfl⟩
        refine ⟨fz_keys (fun p hp => ?_), (h6 x δ hq).2.2⟩
        rcases (h6 x δ hq).2.1 p hp with h | h
        · exact .inl h
        · obtain ⟨q, hq', hqe⟩ := List.mem_map.1 h
          have := h3 q hq'
          rw [hqe] at this
          exact .inr ⟨this.2.1, this.2.2⟩
      · rw [stepT_iff, hs.gm, hm]
        refine .inl ⟨rfl, ?_⟩
        have he := hs.ev
        rw [hop] at he ⊢
        simp only [aop]
        rw [he f (by simp [Op.operands, Call.operands]), hf]
        simp only
        rw [map_mem (e' := ev σ'.s) (e := ev σ.s) (os := args.toList) (fun o ho => he o (by simp [Op.operands, Call.operands]; right; simpa using ho))]
        refine ⟨ys, pre, Q, bor, aArgs_congr hs.C h1, h2, fun p hp => ?_, h4, h5, fun x δ hq => ⟨(h6 x δ hq).1, (h6 x δ hq).2.1, hK _ _ ⟨x, δ, hq, rfl, rfl⟩⟩⟩
        have := h3 p hp
        exact ⟨by rw [hs.C p.1 this.2.2]; exact this.1, this.2⟩
    · exact h.elim
  · refine ⟨fun x δ => x = .undef ∧ δ = [], ⟨_, _, rfl, rfl⟩, ?_, fun σ' hs K' hK => ?_⟩
    · rintro x δ ⟨rfl, rfl⟩; exact ⟨by simp, h⟩
    · rw [stepT_iff, hs.gm, hm]
      exact .inr ⟨rfl, by simpa [app] using hK _ _ ⟨rfl, rfl⟩⟩

theorem any_rep {i : Nat} {o : Oper} (hk : isCallO o = true ∨ detOp P o.op = true) {σ : St} {Kx : St → Prop} (h : stepT P g ds fz wr av i o σ Kx) :
    ∃ R : X → Del → Prop, (∃ x δ, R x δ) ∧ (∀ x δ, R x δ → (∀ p ∈ δ, p.1 = g + i ∨ (wr i p.1 ∧ ¬ av i p.1)) ∧ Kx ⟨putO o.dst x σ.s, app δ σ.C⟩) ∧
      ∀ σ', Seen ds (av i) o σ σ' → ∀ K' : St → Prop, (∀ x δ, R x δ → K' ⟨putO o.dst x σ'.s, app δ σ'.C⟩) → stepT P g ds fz wr av i o σ' K' := by
  rcases hk with hk | hk
  · exact call_rep hk h
  · obtain ⟨x, δ, hδ, hx⟩ := det_rep hk h
    refine ⟨fun y ε => y = x ∧ ε = δ, ⟨_, _, rfl, rfl⟩, ?_, fun σ' hs K' hK => (hx σ' hs K').2 (hK _ _ ⟨rfl, rfl⟩)⟩
    rintro y ε ⟨rfl, rfl⟩
    exact ⟨hδ, (hx σ ⟨fun _ _ => rfl, fun _ _ => rfl⟩ Kx).1 h⟩

theorem putO_comm {d d' : Option Tmp} {x y : X} {s : Nat → X} (h : ∀ t, d = some t → d' ≠ some t) : putO d x (putO d' y s) = putO d' y (putO d x s) := by
  cases d with
  | none => rfl
  | some t => cases d' with
    | none => rfl
    | some t' => exact upd_comm s t' t y x (fun h' => h t rfl (by rw [h']))
theorem app_upd_comm (n : Nat) (c : Option Cap) : ∀ (δ : Del) (C : Caps), (∀ p ∈ δ, p.1 ≠ n) → app δ (upd C n c) = upd (app δ C) n c
  | [], _, _ => rfl
  | p :: δ, C, h => by
    show app δ (upd (upd C n c) p.1 p.2) = upd (app δ (upd C p.1 p.2)) n c
    rw [upd_comm _ _ _ _ _ (fun h' => h p (by simp) h'.symm), app_upd_comm n c δ _ (fun q hq => h q (by simp [hq]))]
theorem app_comm : ∀ (δ δ' : Del) (C : Caps), (∀ p ∈ δ, ∀ q ∈ δ', p.1 ≠ q.1) → app δ (app δ' C) = app δ' (app δ C)
  | [], _, _, _ => rfl
  | p :: δ, δ', C, h => by
    show app δ (upd (app δ' C) p.1 p.2) = app δ' (app δ (upd C p.1 p.2))
    rw [← app_upd_comm p.1 p.2 δ' C (fun q hq h' => h p (by simp) q hq h'.symm), app_comm δ δ' _ (fun q hq r hr => h q (by simp [hq]) r hr)]

theorem apart_inv {x y : Oper} (h : apartO ds x y = true) : (∀ d, x.dst = some d → d ∉ looksO ds y) ∧ (∀ d, x.dst = some d → y.dst ≠ some d) ∧ (∀ d, y.dst = some d → d ∉ looksO ds x) := by
  unfold apartO at h
  simp only [Bool.and_eq_true] at h
  refine ⟨fun d hd => ?_, fun d hd => ?_, fun d hd => ?_⟩
  · have h := h.1; rw [hd] at h; simp at h; exact h.1
  · have h := h.1; rw [hd] at h; simp at h; exact h.2
  · have h := h.2; rw [hd] at h; simpa using h
theorem seen_put {i : Nat} {o q : Oper} {σ : St} {x : X} {δ : Del} (h1 : ∀ d, q.dst = some d → d ∉ looksO ds o) (h2 : ∀ p ∈ δ, av i p.1) : Seen ds (av i) o σ ⟨putO q.dst x σ.s, app δ σ.C⟩ where
  s t ht := by
    cases hd : q.dst with
    | none => rfl
    | some d =>
      show upd σ.s d x t = σ.s t
      exact upd_other _ _ _ _ (fun h => h1 d hd (h ▸ ht))
  C n hn := app_out n δ σ.C (fun h => by
    obtain ⟨p, hp, rfl⟩ := List.mem_map.1 h
    exact hn (h2 p hp))

/-- Two that do not wait for each other change places. -/
theorem swapT {i j : Nat} {oi oj : Oper} (hij : i ≠ j) (hap : apartO ds oj oi = true) (ki : isCallO oi = true ∨ detOp P oi.op = true) (kj : isCallO oj = true ∨ detOp P oj.op = true) (hcc : (isCallO oj && isCallO oi) = false)
    (a1 : ∀ n, wr j n → av i n) (a2 : ∀ n, wr i n → av j n) (a3 : av i (g + j)) (a4 : av j (g + i)) {σ : St} {Kx : St → Prop}
    (h : stepT P g ds fz wr av j oj σ fun σ1 => stepT P g ds fz wr av i oi σ1 Kx) : stepT P g ds fz wr av i oi σ fun σ1 => stepT P g ds fz wr av j oj σ1 Kx := by
  obtain ⟨p1, p2, p3⟩ := apart_inv hap
  have okj : ∀ δ : Del, (∀ p ∈ δ, p.1 = g + j ∨ (wr j p.1 ∧ ¬ av j p.1)) → ∀ p ∈ δ, av i p.1 := by
    intro δ hδ p hp
    rcases hδ p hp with h | h
    · rw [h]; exact a3
    · exact a1 _ h.1
  have oki : ∀ δ : Del, (∀ p ∈ δ, p.1 = g + i ∨ (wr i p.1 ∧ ¬ av i p.1)) → ∀ p ∈ δ, av j p.1 := by
    intro δ hδ p hp
    rcases hδ p hp with h | h
    · rw [h]; exact a4
    · exact a2 _ h.1
  have comm : ∀ (xi xj : X) (δi δj : Del), (∀ p ∈ δi, p.1 = g + i ∨ (wr i p.1 ∧ ¬ av i p.1)) → (∀ p ∈ δj, p.1 = g + j ∨ (wr j p.1 ∧ ¬ av j p.1)) →
      (⟨putO oi.dst xi (putO oj.dst xj σ.s), app δi (app δj σ.C)⟩ : St) = ⟨putO oj.dst xj (putO oi.dst xi σ.s), app δj (app δi σ.C)⟩ := by
    intro xi xj δi δj h1 h2
    rw [putO_comm (fun t ht h' => p2 t h' ht), app_comm δi δj]
    intro p hp q hq hpq
    rcases h1 p hp with e1 | ⟨e1, e1'⟩
    · rcases h2 q hq with e2 | ⟨e2, e2'⟩
      · omega
      · apply e2'; rw [← hpq, e1]; exact a4
    · exact e1' (by rw [hpq]; exact okj δj h2 q hq)
  rcases ki with ki | ki
  · -- i calls: j has one outcome
    have kj' : detOp P oj.op = true := by
      rcases kj with kj | kj
      · rw [kj, ki] at hcc; cases hcc
      · exact kj
    obtain ⟨xj, δj, hδj, hj⟩ := det_rep kj' h
    have h2 := (hj σ ⟨fun _ _ => rfl, fun _ _ => rfl⟩ _).1 h
    obtain ⟨R, hne, hR, hRs⟩ := call_rep ki h2
    have sj : Seen ds (av i) oi ⟨putO oj.dst xj σ.s, app δj σ.C⟩ σ := by
      have := seen_put (ds := ds) (av := av) (i := i) (o := oi) (q := oj) (σ := σ) (x := xj) (δ := δj) p1 (okj δj hδj)
      exact ⟨fun t ht => (this.s t ht).symm, fun n hn => (this.C n hn).symm⟩
    refine hRs σ sj _ fun xi δi hr => ?_
    obtain ⟨hδi, hK⟩ := hR xi δi hr
    rw [hj _ (seen_put (ds := ds) (av := av) (i := j) p3 (oki δi hδi)), ← comm xi xj δi δj hδi hδj]
    exact hK
  · obtain ⟨R, ⟨x0, δ0, h0⟩, hR, hRs⟩ := any_rep kj h
    obtain ⟨hδ0, h1⟩ := hR x0 δ0 h0
    obtain ⟨xi, δi, hδi, hi⟩ := det_rep ki h1
    have hback : ∀ xj δj, R xj δj → Seen ds (av i) oi ⟨putO oj.dst x0 σ.s, app δ0 σ.C⟩ ⟨putO oj.dst xj σ.s, app δj σ.C⟩ := by
      intro xj δj hr
      have s0 := seen_put (ds := ds) (av := av) (i := i) (o := oi) (q := oj) (σ := σ) (x := x0) (δ := δ0) p1 (okj δ0 hδ0)
      have s1 := seen_put (ds := ds) (av := av) (i := i) (o := oi) (q := oj) (σ := σ) (x := xj) (δ := δj) p1 (okj δj (hR xj δj hr).1)
      exact ⟨fun t ht => (s1.s t ht).trans (s0.s t ht).symm, fun n hn => (s1.C n hn).trans (s0.C n hn).symm⟩
    have s0 := seen_put (ds := ds) (av := av) (i := i) (o := oi) (q := oj) (σ := σ) (x := x0) (δ := δ0) p1 (okj δ0 hδ0)
    rw [hi σ ⟨fun t ht => (s0.s t ht).symm, fun n hn => (s0.C n hn).symm⟩]
    refine hRs _ (seen_put (ds := ds) (av := av) (i := j) p3 (oki δi hδi)) _ fun xj δj hr => ?_
    obtain ⟨hδj, h2⟩ := hR xj δj hr
    have := (hi _ (hback xj δj hr) Kx).1 h2
    rw [← comm xi xj δi δj hδi hδj]
    exact this
end
end Go.Proofs.YtkbnkcdaiahoeaaDoor
