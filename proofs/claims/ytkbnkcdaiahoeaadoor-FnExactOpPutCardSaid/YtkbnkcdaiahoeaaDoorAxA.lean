/- Functions that hand back a row of their own; regions of open order that write. No condition. -/
import Derived.Test.YtkbnkcdaiahoeaaDoorAwZ
import Derived.Test.YtkbnkcdaiahoeaaDoorAwX
namespace Go.Proofs.YtkbnkcdaiahoeaaDoor
open Go Go.RowKit
set_option linter.unusedVariables false
set_option linter.unusedSimpArgs false

/-- Function f, called with data ys, hands back a new row: mk m, where m is the row's name. -/
def FunR (P : Program) (f : FuncId) (ys : List X) (mk : Nat → X) (c : Cap) : Prop := ∀ m, Spec P f ys [] m fun x δ => x = mk m ∧ δ = [(m, some c)]
theorem renL_on (τ : Nat → Nat) (V : Nat → Bool) (hV : ∀ n, V n = true → τ n = n) : (∀ x : X, x.on V = true → x.ren τ = x) ∧ ∀ l : List X, X.onL V l = true → X.renL τ l = l := by
  have key : ∀ x : X, x.on V = true → x.ren τ = x := by
    intro x
    refine X.rec (motive_1 := fun x => x.on V = true → x.ren τ = x) (motive_2 := fun l => X.onL V l = true → X.renL τ l = l) ?_ ?_ ?_ ?_ ?_ ?_ ?_ ?_ ?_ ?_ ?_ ?_ ?_ x
    · intro x _; rfl
    · intro cs ih h; simp only [X.ren, ih (by simpa [X.on] using h)]
    · intro _; rfl
    · intro n o h; simp only [X.ren, hV n (by simpa [X.on] using h)]
    · intro n k i o h; simp only [X.ren, hV n (by simpa [X.on] using h)]
    · intro n k a l h; simp only [X.ren, hV n (by simpa [X.on] using h)]
    · intro cs _; rfl
    · intro f cs ih h; simp only [X.ren, ih (by simpa [X.on] using h)]
    · intro cs ih h; simp only [X.ren, ih (by simpa [X.on] using h)]
    · intro _; rfl
    · intro _; rfl
    · intro _; rfl
    · intro x r h1 h2 h
      simp only [X.onL, Bool.and_eq_true] at h
      simp only [X.renL, h1 h.1, h2 h.2]
  refine ⟨key, fun l => ?_⟩
  induction l with
  | nil => intro _; rfl
  | cons x r ih =>
    intro h
    simp only [X.onL, Bool.and_eq_true] at h
    simp only [X.renL, key x h.1, ih h.2]
theorem onL_mono {V V' : Nat → Bool} (hV : ∀ n, V n = true → V' n = true) : (∀ x : X, x.on V = true → x.on V' = true) ∧ ∀ l : List X, X.onL V l = true → X.onL V' l = true := by
  have key : ∀ x : X, x.on V = true → x.on V' = true := by
    intro x
    refine X.rec (motive_1 := fun x => x.on V = true → x.on V' = true) (motive_2 := fun l => X.onL V l = true → X.onL V' l = true) ?_ ?_ ?_ ?_ ?_ ?_ ?_ ?_ ?_ ?_ ?_ ?_ ?_ x
    · intro x _; rfl
    · intro cs ih h; exact ih h
    · intro _; rfl
    · intro n o h; exact hV _ h
    · intro n k i o h; exact hV _ h
    · intro n k a l h; exact hV _ h
    · intro cs _; rfl
    · intro f cs ih h; exact ih h
    · intro cs ih h; exact ih h
    · intro _; rfl
    · intro _; rfl
    · intro _; rfl
    · intro x r h1 h2 h
      simp only [X.onL, Bool.and_eq_true] at h ⊢
      exact ⟨h1 h.1, h2 h.2⟩
  refine ⟨key, fun l => ?_⟩
  induction l with
  | nil => intro _; rfl
  | cons x r ih =>
    intro h
    simp only [X.onL, Bool.and_eq_true] at h ⊢
    exact ⟨key x h.1, ih h.2⟩
theorem FunR.of {P : Program} {f : FuncId} {ys : List X} {mk : Nat → X} {ty : TypeId} {k : Nat} {es : List (List D)} (h : Spec P f ys [] 0 fun x δ => x = mk 0 ∧ δ = [(0, some (.vec ty k es))]) (hx : X.onL (fun _ => false) ys = true)
    (hm : ∀ m, (mk 0).ren (fun _ => m) = mk m := by intro m; rfl) : FunR P f ys mk (.vec ty k es) := by
  intro m
  have hx0 : X.onL (fun n => n == 0) ys = true := (onL_mono (V := fun _ => false) (fun n h => by simp at h)).2 ys hx
  have := h.ren (fun n => n == 0) (fun _ => m) (fun n k hn hk _ => by simp at hn hk; omega) (by simp) hx0 (by simp) (fun x δ ⟨_, hδ⟩ p hp => by subst hδ; simp at hp; left; rw [hp])
  rw [(renL_on (fun _ => m) (fun _ => false) (fun _ h => by simp at h)).2 ys hx] at this
  refine this.mono ?_
  rintro x δ ⟨x0, δ0, ⟨rfl, rfl⟩, rfl, rfl⟩
  exact ⟨hm m, rfl⟩
theorem call_row {P : Program} {f : FuncId} {ys : List X} {mk : Nat → X} {c : Cap} (h : FunR P f ys mk c) {m : Nat} {wr av : Nat → Prop} {C : Caps} {xs : List X} (bor : List Nat) (ha : aArgs av C bor xs ys)
    (hs : bor = [] ∨ ((mk m).free = true ∧ capFree c = true)) {K : X → Del → Prop} (hK : K (mk m) [(m, some c)]) : aCall P m wr av C f xs K :=
  ⟨ys, [], _, bor, ha, h m, fun p hp => by simp at hp, ⟨_, _, rfl, rfl⟩, fun _ => rfl, fun x δ ⟨h1, h2⟩ => ⟨fun hb => by
    have := hs.resolve_left hb
    subst h1 h2
    exact ⟨this.1, by simp [delFree, this.2]⟩, fun p hp => by rw [h2] at hp; simp at hp; left; rw [hp], by rw [h1, h2]; exact hK⟩⟩
/-- A return that hands back a row of the call's own; σ': the state with the row named 0. -/
theorem ret_row {Γ : Ctx} {rs : List ResultVar} {g g' : Nat} {σ σ' : St} {ty : TypeId} {k : Nat} {es : List (List D)} {x : X} (xs : List X) (hv : Vw Γ g σ g' σ') (hC : σ'.C 0 = some (.vec ty k es)) (h2 : resOk Γ.P σ' rs xs) (h3 : X.onL (fun n => n == 0) xs = true) (hx : one xs = x) :
    ERet Γ rs [] 0 (fun x' δ => x' = x ∧ δ = [(0, some (.vec ty k es))]) .ret g σ :=
  ⟨g', σ', hv, [(0, some (.vec ty k es))], xs, fun n hn => by
    simp at hn; subst hn
    refine ⟨.inl rfl, fun c hc => ?_⟩
    simp only [app, upd_same] at hc
    cases hc
    exact ⟨hC, rfl⟩, h2, by
    have : (fun n => n == 0 || (([] : List (Nat × Cap)).map (·.1)).contains n) = fun n => n == 0 := by funext n; simp
    rw [this]; exact h3, hx, rfl⟩
/-- A return of data, of many results. -/
theorem ret_dat {Γ : Ctx} {rs : List ResultVar} {g g' : Nat} {σ σ' : St} {x : X} (xs : List X) (hv : Vw Γ g σ g' σ') (h2 : resOk Γ.P σ' rs xs) (h3 : ∀ V, X.onL V xs = true) (hx : one xs = x) :
    ERet Γ rs [] 0 (fun x' δ => x' = x ∧ δ = []) .ret g σ :=
  ⟨g', σ', hv, [], xs, fun n hn => by simp at hn, h2, h3 _, hx, rfl⟩

/-- Which blocks each operation may write, by a list. -/
def lkW (W : List (Nat × List Nat)) (i : Nat) : List Nat := (W.lookup i).getD []
def unordB (ops : List Oper) (F i j : Nat) : Bool := (decide (j < i) && !(ancO ops F i).contains j) || (decide (i < j) && !(ancO ops F j).contains i)
def avB (ops : List Oper) (F g : Nat) (W : List (Nat × List Nat)) (i n : Nat) : Bool := (List.range ops.length).any (fun j => unordB ops F i j && (n == g + j || (lkW W j).contains n)) || decide (g + ops.length ≤ n) || W.any fun p => decide (ops.length ≤ p.1)
theorem avD {ops : List Oper} {F g : Nat} {W : List (Nat × List Nat)} {av : Nat → Nat → Prop} (i n : Nat) (hav : av = avO ops F g (lkW W)) (h : avB ops F g W i n = false := by kernel_rfl) : av i n = False := by
  refine eq_false ?_
  subst hav
  rintro ⟨j, hu, hn⟩
  simp only [avB, Bool.or_eq_false_iff, List.any_eq_false, decide_eq_false_iff_not] at h
  obtain ⟨⟨h1, h2⟩, h3⟩ := h
  have hW : ∀ j, lkW W j ≠ [] → j < ops.length := by
    intro j hj
    unfold lkW at hj
    cases hl : W.lookup j with
    | none => rw [hl] at hj; exact absurd rfl hj
    | some l =>
      have : ∃ p ∈ W, p.1 = j := by
        clear h3 hn h1 hu hj
        induction W with
        | nil => simp at hl
        | cons p r ih =>
          simp only [List.lookup] at hl
          split at hl
          · rename_i hh
            exact ⟨p, by simp, by simpa using (beq_iff_eq.1 hh).symm⟩
          · obtain ⟨q, hq, he⟩ := ih hl
            exact ⟨q, by simp [hq], he⟩
      obtain ⟨p, hp, rfl⟩ := this
      have h6 := h3 p hp
      simp only [decide_eq_true_eq] at h6
      omega
  have hj : j < ops.length := by
    rcases hn with hn | hn
    · omega
    · exact hW j (List.ne_nil_of_mem hn)
  have h4 := h1 j (List.mem_range.2 hj)
  simp only [Bool.and_eq_true, not_and, Bool.not_eq_true, Bool.or_eq_false_iff, beq_eq_false_iff_ne, ne_eq] at h4
  have hu' : unordB ops F i j = true := by
    unfold unordB
    rcases hu with ⟨a, b⟩ | ⟨a, b⟩
    · simp [a, b]
    · simp [a, b]
  have h5 := h4 hu'
  rcases hn with hn | hn
  · exact h5.1 hn
  · have := h5.2
    simp at this
    exact this hn
theorem wrD {W : List (Nat × List Nat)} {wr : Nat → Nat → Prop} (i n : Nat) (hwr : wr = wrO (lkW W)) (h : (lkW W i).contains n = true := by kernel_rfl) : wr i n = True := by
  refine eq_true ?_
  subst hwr
  show n ∈ lkW W i
  simpa using h
theorem rgW {Γ : Ctx} {g : Nat} {σ : St} {Q : Exit → Nat → St → Prop} (id : Nat) {ops : List Oper} (fz : List Nat) (ds : List (Option Tmp)) (n : Nat) (F : Nat) (W : List (Nat × List Nat))
    (h : ∀ (av wr : Nat → Nat → Prop), av = avO ops F g (lkW W) → wr = wrO (lkW W) → qL Γ.P g ds (fun i => fz.contains i) wr av (Q .normal (g + n)) ops 0 σ)
    (hds : ops.map (·.dst) = ds := by exact rfl) (hn : ops.length = n := by exact rfl) (hm : Γ.P.follows .mixedOrders = true := by kernel_rfl) (hd : dstOk Γ.T ops = true := by exact rfl) (hD : drawOk Γ.P F ops = true := by kernel_rfl) : AW Γ (.region id ops.toArray true) g σ Q := by
  subst hn
  exact AW.regionAnyL fz ds hds F (lkW W) hm hd hD (h _ _ rfl rfl)
end Go.Proofs.YtkbnkcdaiahoeaaDoor
