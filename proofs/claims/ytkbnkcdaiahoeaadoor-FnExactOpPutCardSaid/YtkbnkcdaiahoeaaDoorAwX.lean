/- Data that was handed in, as data of this walk: what a type's cells hold. No condition. -/
import Derived.Test.YtkbnkcdaiahoeaaDoorAwV
import Derived.ProofKit
namespace Go.Proofs.YtkbnkcdaiahoeaaDoor
open Go Go.RowKit Go.ChangeShapes Go.WideShapes Go.ChangeAt
set_option linter.unusedVariables false
set_option linter.unusedSimpArgs false

/-- What a cell holds: a truth value, an integer, a string, a slice whose elements have these cells. -/
inductive Sh where
  | bool
  | int (k : IntKind)
  | str
  | sl (e : List Sh)
mutual
inductive Has : Sh → D → Prop
  | bool (b : Bool) : Has .bool (.bool b)
  | int (k : IntKind) (n : Int) (h : fits k n) : Has (.int k) (.int k n)
  | str (s : ByteArray) (h : s.size ≤ reachBytes) : Has .str (.str s)
  | sl {l : List Sh} {es : List (List D)} (h : ∀ e ∈ es, HasL l e) (hn : es.length ≤ reachBytes) : Has (.sl l) (.sl es)
inductive HasL : List Sh → List D → Prop
  | nil : HasL [] []
  | cons {s : Sh} {l : List Sh} {d : D} {ds : List D} (h : Has s d) (hl : HasL l ds) : HasL (s :: l) (d :: ds)
end
theorem HasL.len : ∀ {l : List Sh} {ds : List D}, HasL l ds → ds.length = l.length
  | _, _, .nil => rfl
  | _, _, .cons _ h => by simp [h.len]
theorem HasL.app : ∀ {l l' : List Sh} {ds ds' : List D}, HasL l ds → HasL l' ds' → HasL (l ++ l') (ds ++ ds')
  | _, _, _, _, .nil, h' => h'
  | _, _, _, _, .cons h hl, h' => .cons h (hl.app h')
def okOff : Nat → List (Nat × List Sh) → Bool
  | _, [] => true
  | o, (o', l) :: r => o' == o && okOff (o + l.length) r
/-- The cells of a type. -/
def shp (P : Program) : Nat → TypeId → Option (List Sh)
  | 0, _ => none
  | n + 1, t => match P.underlying t with
    | some .bool => some [.bool]
    | some (.int k) => some [.int k]
    | some .string => some [.str]
    | some (.slice e) => (shp P n e).bind fun l => if P.cellsOf e = l.length ∧ 0 < l.length ∧ 0 < P.bytesOf e then some [.sl l] else none
    | some (.struct fs) => (fs.toList.mapM fun f => (shp P n f.type).bind fun l => if P.cellsOf f.type = l.length then some (f.offset, l) else none).bind fun ls => if okOff 0 ls = true ∧ P.cellsOf t = (ls.flatMap (·.2)).length then some (ls.flatMap (·.2)) else none
    | _ => none

section
variable {H : Type} {enc : TypeId × Value → H} {P : Program} {W : World} {base : Nat} {spare : Nat → Bool} {held : Bool}
abbrev noLim : Lim := fun _ => false
/-- The cells cs stand for the data ds, whose shape is l. -/
def Opens (W : World) (l : List Sh) (cs : List Value) : Prop := cs.length = l.length ∧ ∃ ds, HasL l ds ∧ ∀ i (hi : i < ds.length), Den noLim W (ds[i]'hi) (cs.getD i undef)
theorem Opens.one {s : Sh} {v : Value} {d : D} (h : Has s d) (hd : Den noLim W d v) : Opens W [s] [v] :=
  ⟨rfl, [d], .cons h .nil, fun i hi => by
    have : i = 0 := by simp at hi; omega
    subst this; exact hd⟩
theorem fitsOf {k : IntKind} {n : Int} (h : (Lit.int k n).wf = true) : fits k n := by
  have h : k.min ≤ n ∧ n ≤ k.max := by simpa [Lit.wf] using h
  exact fits_of h.1 h.2

def Light (P : Program) (t : TypeId) (x : DataW H) : Prop := ∀ n ∈ x.weights P t, n ≤ reachBytes
theorem light_all {e : TypeId} {n : Nat} : ∀ {l : List (DataW H)} {d : DataW H}, d ∈ l → n ∈ d.weights P e → n ∈ DataW.weightsAll P e l
  | x :: r, d, hd, hn => by
    simp only [DataW.weightsAll, List.mem_append]
    rcases List.mem_cons.1 hd with rfl | hd
    · exact .inl hn
    · exact .inr (light_all hd hn)
theorem light_each {n : Nat} : ∀ {ts : List TypeId} {l : List (DataW H)} {i : Nat} {t : TypeId} {d : DataW H}, ts[i]? = some t → l[i]? = some d → n ∈ d.weights P t → n ∈ DataW.weightsEach P ts l
  | [], _, i, t, d, ht, _, _ => by simp at ht
  | _ :: _, [], i, t, d, _, hd, _ => by simp at hd
  | a :: ts, x :: l, 0, t, d, ht, hd, hn => by
    simp at ht hd; subst ht hd
    simp only [DataW.weightsEach, List.mem_append]
    exact .inl hn
  | a :: ts, x :: l, i + 1, t, d, ht, hd, hn => by
    simp only [DataW.weightsEach, List.mem_append]
    exact .inr (light_each (by simpa using ht) (by simpa using hd) hn)
theorem opens_fields {n : Nat} (ih : ∀ (m : Nat) (t : TypeId) (l : List Sh) (cs : List Value) (x : DataW H × List MemPlace), shp P n t = some l → Light P t x.1 → DataW.trod enc P W base spare held m t cs = some x → Opens W l cs)
    {m : Nat} (cs : List Value) : ∀ (fl : List Field) (ls : List (Nat × List Sh)) (o : Nat), (fl.mapM fun f => (shp P n f.type).bind fun l => if P.cellsOf f.type = l.length then some (f.offset, l) else none) = some ls → okOff o ls = true →
    (∀ f ∈ fl, ∃ y, Light P f.type y.1 ∧ DataW.trod enc P W base spare held m f.type ((cs.drop f.offset).take (P.cellsOf f.type)) = some y) → (fl = [] ∨ True) →
    ∃ ds, HasL (ls.flatMap (·.2)) ds ∧ (∀ i (hi : i < ds.length), Den noLim W (ds[i]'hi) (cs.getD (o + i) undef))
  | [], ls, o, h, _, _, _ => by
    simp at h; subst h
    exact ⟨[], .nil, fun i hi => by simp at hi⟩
  | f :: fl, ls, o, h, ho, hy, _ => by
    simp only [List.mapM_cons, Option.bind_eq_bind, Option.bind_eq_some_iff] at h
    obtain ⟨p, ⟨l, hl, hp⟩, ls', hls, hlse⟩ := h
    have hlse : p :: ls' = ls := by simpa using hlse
    subst hlse
    split at hp
    · rename_i hc
      cases hp
      simp only [okOff, Bool.and_eq_true, beq_iff_eq] at ho
      obtain ⟨rfl, ho⟩ := ho
      obtain ⟨y, hy0, hy1⟩ := hy f (by simp)
      obtain ⟨h1, ds, h2, h3⟩ := ih m f.type l _ y hl hy0 hy1
      obtain ⟨ds', k1, k2⟩ := opens_fields ih cs fl ls' _ hls ho (fun g hg => hy g (by simp [hg])) (.inr trivial)
      refine ⟨ds ++ ds', by simpa using h2.app k1, fun i hi => ?_⟩
      by_cases hlt : i < ds.length
      · rw [List.getElem_append_left hlt]
        have := h3 i hlt
        have hi2 : i < P.cellsOf f.type := by rw [hc, ← h2.len]; exact hlt
        rw [List.getD_eq_getElem?_getD, List.getElem?_take_of_lt hi2, List.getElem?_drop] at this
        rw [List.getD_eq_getElem?_getD]
        exact this
      · rw [List.getElem_append_right (by omega)]
        have hi' : i - ds.length < ds'.length := by simp at hi; omega
        have := k2 (i - ds.length) hi'
        have e : f.offset + l.length + (i - ds.length) = f.offset + i := by have := h2.len; omega
        rw [e] at this
        exact this
    · cases hp

theorem opens : ∀ (n m : Nat) (t : TypeId) (l : List Sh) (cs : List Value) (x : DataW H × List MemPlace), shp P n t = some l → Light P t x.1 → DataW.trod enc P W base spare held m t cs = some x → Opens W l cs
  | 0, _, _, _, _, _, h, _, _ => by simp [shp] at h
  | n + 1, m, t, l, cs, x, h, hlt, hx => by
    unfold shp at h
    split at h
    · rename_i ht
      cases h
      obtain ⟨b, rfl, -⟩ := DataW.trod_bool ht hx
      exact .one (.bool b) (.bool b)
    · rename_i k ht
      cases h
      obtain ⟨i, rfl, -, hw⟩ := DataW.trod_int ht hx
      exact .one (.int k i (fitsOf hw)) (.int (fitsOf hw))
    · rename_i ht
      cases h
      obtain ⟨s, rfl, rfl, hs⟩ := DataW.trod_string ht hx
      have hw : s.size ≤ reachBytes := by
        have := hlt s.data.toList.length (by unfold DataW.weights; simp)
        rw [Array.length_toList] at this
        exact this
      exact .one (.str s hw) (.str hs)
    · rename_i e ht
      simp only [Option.bind_eq_some_iff] at h
      obtain ⟨le, hle, h⟩ := h
      split at h
      · rename_i hc
        cases h
        obtain ⟨hc, hpos, hby⟩ := hc
        rcases DataW.trod_slice ht hx with ⟨rfl, -⟩ | ⟨a, len, cap, elems, rest, m', -, rfl, rfl, -, hl, hm, hlen, hel, -, -⟩
        · exact .one (.sl (es := []) (by simp) (Nat.zero_le _)) (den_nil _ _ (Nat.zero_le _) (fun _ => rfl))
        · have each : ∀ i, i < len → ∃ cs' : List Value, cs'.length = le.length ∧ (∀ j, j < le.length → W.cell? ((a.add (i * le.length)).add j) = cs'[j]?) ∧ Opens W le cs' := by
            intro i hi
            have h1 := hel i hi
            rw [List.getElem?_eq_getElem (by omega), Option.bind_eq_some_iff] at h1
            obtain ⟨cs', h2, h3⟩ := h1
            have hli : Light P e (elems[i]'(by omega)).1 := fun k hk => hlt k (by
              unfold DataW.weights
              rw [ht]
              simp only [List.mem_cons, List.mem_append]
              exact .inr (.inl (light_all (List.mem_map.2 ⟨_, List.getElem_mem _, rfl⟩) hk)))
            have ho := opens n m' e le cs' _ hle hli h3
            refine ⟨cs', ho.1, fun j hj => ?_, ho⟩
            unfold World.cells? at h2
            split at h2
            · have := mapM_some_get h2 j j (by rw [List.getElem?_range]; rw [hc]; exact hj)
              rw [← this, hc]
            · cases h2
          obtain ⟨f, hf⟩ := Classical.skolem.1 (fun i => (Classical.em (i < len)).elim (fun h => let ⟨c, hc⟩ := each i h; ⟨c, fun _ => hc⟩) (fun h => ⟨([] : List Value), fun h' => absurd h' h⟩) :
            ∀ i, ∃ cs' : List Value, i < len → cs'.length = le.length ∧ (∀ j, j < le.length → W.cell? ((a.add (i * le.length)).add j) = cs'[j]?) ∧ Opens W le cs')
          have hf1 := fun i hi => (hf i hi).1
          have hf2 := fun i hi => (hf i hi).2.1
          obtain ⟨g, hg⟩ := Classical.skolem.1 (fun i => (Classical.em (i < len)).elim (fun h => let ⟨c, hc⟩ := (hf i h).2.2.2; ⟨c, fun _ => hc⟩) (fun h => ⟨([] : List D), fun h' => absurd h' h⟩) :
            ∀ i, ∃ ds : List D, i < len → HasL le ds ∧ ∀ j (hj : j < ds.length), Den noLim W (ds[j]'hj) ((f i).getD j undef))
          have hg1 := fun i hi => (hg i hi).1
          have hg2 := fun i hi => (hg i hi).2
          let es : List (List D) := (List.range len).map g
          have hes : es.length = len := by simp [es]
          have hget : ∀ i (hi : i < es.length), es[i]'hi = g i := by intro i hi; simp [es]
          have hreach : es.length ≤ reachBytes := by
            have := hlt _ (by
              unfold DataW.weights
              rw [ht]
              exact List.mem_cons_self)
            rw [List.length_map] at this
            refine Nat.le_trans ?_ this
            rw [hes]
            exact Nat.le_trans (by omega) (Nat.le_mul_of_pos_right _ hby)
          refine .one (d := .sl es) (.sl (l := le) (es := es) ?_ hreach) ?_
          · intro x hx
            obtain ⟨i, hi, rfl⟩ := List.mem_map.1 hx
            exact hg1 i (by simpa using hi)
          · have hv : Value.slice (some a) len cap = .slice (some a) es.length cap := by rw [hes]
            rw [hv]
            refine .sl (fun i j => (f i).getD j undef) (by omega) hm (fun h => by cases h) (fun hne => ?_) (fun i hi j hj => ?_)
            · have hpl : 0 < len := by
                rcases Nat.eq_zero_or_pos len with h | h
                · exact absurd (by rw [← List.length_eq_zero_iff, hes, h]) hne
                · exact h
              have h0 := hf2 0 hpl 0 hpos
              rw [List.getElem?_eq_getElem (by rw [hf1 0 hpl]; exact hpos)] at h0
              have hsp : a.spot = none := by
                unfold Addr.add at h0
                simp only [Nat.zero_mul, if_true] at h0
                unfold World.cell? at h0
                split at h0
                · split at h0
                  · cases h0
                  · rename_i hh; simpa using hh
                · cases h0
              obtain ⟨b, o, sp⟩ := a
              simp only at hsp; subst hsp
              have add : ∀ (o j : Nat), (⟨b, o, none⟩ : Addr).add j = ⟨b, o + j, none⟩ := by
                intro o j; unfold Addr.add; split <;> simp_all
              refine ⟨b, o, le.length, rfl, fun i hi => ?_⟩
              rw [hget i hi]
              have hi' : i < len := by rw [hes] at hi; exact hi
              refine ⟨(hg1 i hi').len, fun j hj => ⟨rfl, ?_⟩⟩
              have := hf2 i hi' j hj
              rw [add, add] at this
              rw [this, List.getElem?_eq_getElem (by rw [hf1 i hi']; exact hj), List.getD_eq_getElem?_getD, List.getElem?_eq_getElem (by rw [hf1 i hi']; exact hj)]
              rfl
            · have hi' : i < len := by rw [hes] at hi; exact hi
              have := hg2 i hi' j (by rw [hget i hi] at hj; exact hj)
              simp only [hget i hi]; exact this
      · cases h
    · rename_i fs ht
      simp only [Option.bind_eq_some_iff] at h
      obtain ⟨ls, hls, h⟩ := h
      split at h
      · rename_i hoff
        cases h
        obtain ⟨xs, m', -, rfl, hcl, hxl, hx2⟩ := DataW.trod_struct ht hx
        obtain ⟨ds, h1, h2⟩ := opens_fields (fun m t l cs x h1 h2 h3 => opens n m t l cs x h1 h2 h3) cs fs.toList ls 0 hls hoff.1 (fun f hf => by
          obtain ⟨i, hi, rfl⟩ := List.mem_iff_getElem.1 hf
          have hi' : i < fs.size := by simpa using hi
          have := hx2 i fs[i] (Array.getElem?_eq_getElem hi')
          rw [List.getElem?_eq_getElem (by omega)] at this
          refine ⟨_, fun k hk => hlt k ?_, by simpa using this⟩
          unfold DataW.weights
          rw [ht]
          exact light_each (i := i) (by simp [hi']) (by simp [show i < xs.length by omega]) hk) (.inr trivial)
        exact ⟨hcl.trans hoff.2, ds, h1, fun i hi => by simpa using h2 i hi⟩
      · cases h
    · cases h

/-- How an argument is given: a struct by its cells, all else by its one cell. -/
def argSh (P : Program) (t : TypeId) : Option (Bool × List Sh) :=
  match P.underlying t, shp P 20 t with
  | some (.struct _), some l => some (true, l)
  | some (.slice _), some [s] => some (false, [s])
  | some .string, some [s] => some (false, [s])
  | some (.int _), some [s] => some (false, [s])
  | some .bool, some [s] => some (false, [s])
  | _, _ => none
inductive HasX : Bool × List Sh → X → Prop
  | ag {l : List Sh} {ds : List D} (h : HasL l ds) : HasX (true, l) (.ag (ds.map .d))
  | d {s : Sh} {d : D} (h : Has s d) : HasX (false, [s]) (.d d)
inductive HasXs : List (Bool × List Sh) → List X → Prop
  | nil : HasXs [] []
  | cons {a : Bool × List Sh} {az : List (Bool × List Sh)} {x : X} {xs : List X} (h : HasX a x) (hs : HasXs az xs) : HasXs (a :: az) (x :: xs)
theorem HasXs.len {az : List (Bool × List Sh)} {xs : List X} (h : HasXs az xs) : xs.length = az.length := by
  induction h with
  | nil => rfl
  | cons _ _ ih => simp [ih]
theorem Opens.d {s : Sh} {v : Value} (h : Opens W [s] [v]) (ι : Nat → Gh) (U : Nat → Prop) : ∃ x, HasX (false, [s]) x ∧ Rel ι U noLim W x v := by
  obtain ⟨-, ds, h1, h2⟩ := h
  cases h1 with
  | cons h hl =>
    cases hl
    exact ⟨_, .d h, .d (h2 0 (by simp))⟩
theorem open_arg {r : Reach} {b : Nat} {t : TypeId} {a : Bool × List Sh} {v : Value} {d : DataW H} {p : List MemPlace} (ha : argSh P t = some a) (hv : Value.okWide P W r b t v) (hlt : Light P t d) (h : DataW.Trod enc P W base spare held t v d p) (ι : Nat → Gh) (U : Nat → Prop) :
    ∃ x, HasX a x ∧ Rel ι U noLim W x v := by
  obtain ⟨m, h⟩ := h
  unfold argSh at ha
  split at ha
  · rename_i fs l ht hs
    cases ha
    obtain ⟨cs, rfl, -⟩ := WideShapes.okWide_struct ht hv
    obtain ⟨h1, ds, h2, h3⟩ := opens 20 m t l _ _ hs hlt h
    refine ⟨_, .ag h2, ?_⟩
    have := Rel.ag (ι := ι) (U := U) (L := noLim) (w := W) (cs := ds.map .d) cs.toList (by rw [List.length_map, h2.len]; exact h1) (fun i hi => by
      rw [List.getElem_map]
      exact .d (h3 i (by simpa using hi)))
    simpa using this
  · rename_i e s ht hs
    cases ha
    obtain ⟨a, len, cap, rfl⟩ := WideShapes.okWide_slice ht hv
    exact (opens 20 m t _ _ _ hs hlt h).d ι U
  · rename_i s ht hs
    cases ha
    obtain ⟨a, rfl⟩ := WideShapes.okWide_string ht hv
    exact (opens 20 m t _ _ _ hs hlt h).d ι U
  · rename_i k s ht hs
    cases ha
    obtain ⟨a, rfl⟩ := WideShapes.okWide_int ht hv
    exact (opens 20 m t _ _ _ hs hlt h).d ι U
  · rename_i s ht hs
    cases ha
    obtain ⟨a, rfl⟩ := WideShapes.okWide_bool ht hv
    exact (opens 20 m t _ _ _ hs hlt h).d ι U
  · cases ha
theorem open_args {r : Reach} {b : Nat} (ι : Nat → Gh) (U : Nat → Prop) : ∀ {ts : List TypeId} {az : List (Bool × List Sh)} {vs : List Value} {ds : List (DataW H)} {p : List MemPlace}, ts.mapM (argSh P) = some az → (∀ (j : Nat) t v, ts[j]? = some t → vs[j]? = some v → Value.okWide P W r b t v) → (∀ n ∈ DataW.weightsEach P ts ds, n ≤ reachBytes) →
    DataW.TrodAll enc P W base spare held ts vs ds p → ∃ xs, HasXs az xs ∧ vs.length = xs.length ∧ RelL ι U noLim W xs vs
  | [], az, vs, ds, p, ha, _, _, h => by
    simp at ha; subst ha
    obtain ⟨rfl, rfl, rfl⟩ := trodAll_nil h
    exact ⟨[], .nil, rfl, fun i hi => by simp at hi⟩
  | t :: ts, az, vs, ds, p, ha, hv, hw, h => by
    simp only [List.mapM_cons, Option.bind_eq_bind, Option.bind_eq_some_iff] at ha
    obtain ⟨a, ha1, az', ha2, hae⟩ := ha
    have hae : a :: az' = az := by simpa using hae
    subst hae
    obtain ⟨v, vs', d, ds', p1, q, rfl, rfl, rfl, h1, h2⟩ := trodAll_cons h
    obtain ⟨x, g1, g2⟩ := open_arg ha1 (hv 0 t v rfl rfl) (fun n hn => hw n (by simp only [DataW.weightsEach, List.mem_append]; exact .inl hn)) h1 ι U
    obtain ⟨xs, k1, k2, k3⟩ := open_args ι U ha2 (fun j t v h1 h2 => hv (j + 1) t v (by simpa using h1) (by simpa using h2)) (fun n hn => hw n (by simp only [DataW.weightsEach, List.mem_append]; exact .inr hn)) h2
    exact ⟨x :: xs, .cons g1 k1, by simp [k2], RelL.cons (by simpa using g2) (by simpa using k3)⟩
theorem stay_args (hl : laidOutB P = true) {W' : World} {sp' : Nat → Bool} : ∀ {ts : List TypeId} {vs : List Value} {ds : List (DataW H)} {p : List MemPlace}, (∀ t ∈ ts, P.readableRec t = true ∧ t < P.types.size) →
    DataW.TrodAll enc P W base (fun _ => true) true ts vs ds p → (∀ q ∈ p, W.sameAt W' q) → (∀ q ∈ p, sp' q.block = true) → DataW.TrodAll enc P W' base sp' true ts vs ds p
  | [], vs, ds, p, _, h, _, _ => by
    obtain ⟨rfl, rfl, rfl⟩ := trodAll_nil h
    exact h
  | t :: ts, vs, ds, p, ht, h, hs, hp => by
    obtain ⟨v, vs', d, ds', p1, q, rfl, rfl, rfl, h1, h2⟩ := trodAll_cons h
    exact ⟨_, _, WideElems.Trod_stays hl (ht t (by simp)).1 (ht t (by simp)).2 h1 (fun x hx => hs x (by simp [hx])) (fun x hx => hp x (by simp [hx])),
      stay_args hl (fun t h => ht t (by simp [h])) h2 (fun x hx => hs x (by simp [hx])) (fun x hx => hp x (by simp [hx])), rfl⟩
/-- A law that answers true for all data of its arguments' shapes: what there is to show of its call. -/
theorem law_call (hl : laidOutB P = true) {f : FuncId} {ts : List TypeId} {az : List (Bool × List Sh)} (has : ts.mapM (argSh P) = some az) (hts : ∀ t ∈ ts, P.readableRec t = true ∧ t < P.types.size)
    (law : ∀ xs, HasXs az xs → Fun P f xs (.d (.bool true))) {r : Reach} {b : Nat} {vs : List Value} {ds : List (DataW H)} {p : List MemPlace} (hv : ∀ (j : Nat) t v, ts[j]? = some t → vs[j]? = some v → Value.okWide P W r b t v)
    (hw : ∀ n ∈ DataW.weightsEach P ts ds, n ≤ reachBytes) (h : DataW.TrodAll enc P W base (fun _ => true) true ts vs ds p) (hlt : ∀ q ∈ p, q.block < W.heap.size) (hG : Glob noLim W) :
    Calls P f vs.toArray W fun e W' => e = .returned (.bool true) ∧ Below W.heap.size W W' ∧ ∀ sp' : Nat → Bool, (∀ q ∈ p, sp' q.block = true) → DataW.TrodAll enc P W' base sp' true ts vs ds p := by
  obtain ⟨xs, h1, h2, h3⟩ := open_args (fun _ => ⟨0, 0, true⟩) (fun _ => False) has hv hw h
  refine ((law xs h1 0).2 (fun _ => ⟨0, 0, true⟩) (fun _ => False) noLim W vs ⟨fun n c hc => (by cases hc), fun n hn => absurd rfl hn, fun n m hn => absurd rfl hn, fun n hn => absurd rfl hn, hG⟩ (fun h => h) h2 h3).mono fun e W' ⟨v', he, x, δ, ι', L', ⟨hx, hδ⟩, hr, _, hevo, _, _⟩ => ?_
  subst hx he
  have hv' := hr.bool_inv
  subst hv'
  have hb : Below W.heap.size W W' := hevo.below
  exact ⟨rfl, hb, fun sp' hsp => stay_args hl hts h (fun q hq => hb.same (hlt q hq)) hsp⟩
end
theorem Has.ofn {α : Type} {f : α → List D} {l : List Sh} (hf : ∀ e, HasL l e → ∃ v, e = f v) {d : D} (h : Has (.sl l) d) : ∃ vs, d = .of f vs ∧ vs.length ≤ reachBytes := by
  cases h with
  | @sl _ es h hn =>
    have : ∃ vs : List α, es = vs.map f := by
      clear hn
      induction es with
      | nil => exact ⟨[], rfl⟩
      | cons e es ih =>
        obtain ⟨v, rfl⟩ := hf e (h e (by simp))
        obtain ⟨vs, rfl⟩ := ih (fun x hx => h x (by simp [hx]))
        exact ⟨v :: vs, rfl⟩
    obtain ⟨vs, rfl⟩ := this
    exact ⟨vs, rfl, by simpa using hn⟩
theorem Has.of {α : Type} {f : α → List D} {l : List Sh} (hf : ∀ e, HasL l e → ∃ v, e = f v) {d : D} (h : Has (.sl l) d) : ∃ vs, d = .of f vs := by
  obtain ⟨vs, h, -⟩ := h.ofn hf
  exact ⟨vs, h⟩
theorem Has.s {d : D} (h : Has .str d) : ∃ s, d = .str s := by cases h; exact ⟨_, rfl⟩
theorem Has.sz {d : D} (h : Has .str d) : ∃ s : ByteArray, d = .str s ∧ s.size ≤ reachBytes := by cases h; exact ⟨_, rfl, ‹_›⟩
theorem Has.i {k : IntKind} {d : D} (h : Has (.int k) d) : ∃ n, d = .int k n ∧ fits k n := by cases h; exact ⟨_, rfl, ‹_›⟩
theorem Has.b {d : D} (h : Has .bool d) : ∃ b, d = .bool b := by cases h; exact ⟨_, rfl⟩
theorem HasL.c {s : Sh} {l : List Sh} {e : List D} (h : HasL (s :: l) e) : ∃ d ds, e = d :: ds ∧ Has s d ∧ HasL l ds := by cases h; exact ⟨_, _, rfl, ‹_›, ‹_›⟩
theorem HasL.n {e : List D} (h : HasL [] e) : e = [] := by cases h; rfl
theorem HasXs.c {a : Bool × List Sh} {az : List (Bool × List Sh)} {e : List X} (h : HasXs (a :: az) e) : ∃ d ds, e = d :: ds ∧ HasX a d ∧ HasXs az ds := by cases h; exact ⟨_, _, rfl, ‹_›, ‹_›⟩
theorem HasXs.n {e : List X} (h : HasXs [] e) : e = [] := by cases h; rfl
theorem HasX.s {s : Sh} {x : X} (h : HasX (false, [s]) x) : ∃ d, x = .d d ∧ Has s d := by cases h; exact ⟨_, rfl, ‹_›⟩
theorem HasX.a {l : List Sh} {x : X} (h : HasX (true, l) x) : ∃ ds, x = .ag (ds.map .d) ∧ HasL l ds := by cases h; exact ⟨_, rfl, ‹_›⟩
end Go.Proofs.YtkbnkcdaiahoeaaDoor
