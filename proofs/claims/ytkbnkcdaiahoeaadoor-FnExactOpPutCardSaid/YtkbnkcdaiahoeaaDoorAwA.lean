/- Words for walks over pure data: what a value in memory stands for ('Den', 'Rel'), which blocks a call may still change ('Lim', 'Cap'), and how a world may grow ('Evo'). No condition. -/
import Derived.Calls
import Derived.Laws.World
import Derived.Laws.Sem
import Derived.IntWalk
import Derived.Orders
import Derived.Below
namespace Go.Proofs.YtkbnkcdaiahoeaaDoor
open Go Go.RowKit

/-- Pure data. A slice is the list of its elements, an element the list of its cells; 'sp n es': it has n elements, behind which lie the others of es. -/
inductive D where
  | int (k : IntKind) (n : Int)
  | bool (b : Bool)
  | str (s : ByteArray)
  | v (u : Value)
  | sl (es : List (List D))
  | sp (n : Nat) (es : List (List D))

/-- The blocks that may still change ('true'). -/
abbrev Lim := Nat → Bool
def Stab (L : Lim) (w : World) (b o : Nat) (u : Value) : Prop := L b = false ∧ w.cell? ⟨b, o, none⟩ = some u
def fits (k : IntKind) (n : Int) : Prop := k.wrap n = n
/-- The greatest length that is spoken of. -/
def top : Nat := 9223372036854775807

inductive Den (L : Lim) (w : World) : D → Value → Prop
  | int {k n} (h : fits k n) : Den L w (.int k n) (.int k n)
  | bool (b) : Den L w (.bool b) (.bool b)
  | str {s} (h : s.size ≤ top) : Den L w (.str s) (.string s)
  | v {u} (h : u.oneCell' = true) : Den L w (.v u) u
  | sl {es : List (List D)} {a : Option Addr} {c : Nat} (us : Nat → Nat → Value) (hc : es.length ≤ c) (hB : c ≤ top) (h0 : a = none → c = 0)
      (hs : es ≠ [] → ∃ b o k, a = some ⟨b, o, none⟩ ∧ ∀ i (hi : i < es.length), (es[i]'hi).length = k ∧ ∀ j, j < k → Stab L w b (o + i * k + j) (us i j))
      (hd : ∀ i (hi : i < es.length) j (hj : j < (es[i]'hi).length), Den L w ((es[i]'hi)[j]'hj) (us i j)) : Den L w (.sl es) (.slice a es.length c)
  | sp {n : Nat} {es : List (List D)} {a : Option Addr} {c : Nat} (hn : n ≤ es.length) (h : Den L w (.sl es) (.slice a es.length c)) : Den L w (.sp n es) (.slice a n c)

theorem Den.mono {L L' : Lim} {w w' : World} (hst : ∀ b o u, Stab L w b o u → Stab L' w' b o u) {d : D} {u : Value} (h : Den L w d u) : Den L' w' d u := by
  induction h with
  | int h => exact .int h
  | bool b => exact .bool b
  | str h => exact .str h
  | v h => exact .v h
  | sl us hc hB h0 hs hd ih =>
    refine .sl us hc hB h0 (fun hne => ?_) ih
    obtain ⟨b, o, k, ha, h⟩ := hs hne
    exact ⟨b, o, k, ha, fun i hi => ⟨(h i hi).1, fun j hj => hst _ _ _ ((h i hi).2 j hj)⟩⟩
  | sp hn h ih => exact .sp hn ih

/-- What the package-level variables hold that are looked at: their cells. -/
def known : Nat → Option (List D) := fun g => match g with
  | 0 => some [.str ⟨#[115, 101, 116]⟩, .str ⟨#[100, 114, 111, 112]⟩, .str ⟨#[109, 111, 118, 101]⟩, .str ⟨#[102, 111, 114, 107]⟩, .str ⟨#[117, 110, 105, 116, 101]⟩, .str ⟨#[112, 105, 99, 107]⟩, .str ⟨#[98, 97, 99, 107]⟩]
  | _ => none
/-- They hold it, and go on to. -/
def Glob (L : Lim) (w : World) : Prop := ∀ g cs, known g = some cs → ∃ us : Nat → Value, (∀ j, j < cs.length → Stab L w g j (us j)) ∧ ∀ j (hj : j < cs.length), Den L w (cs[j]'hj) (us j)
theorem Glob.mono {L L' : Lim} {w w' : World} (hst : ∀ b o u, Stab L w b o u → Stab L' w' b o u) (h : Glob L w) : Glob L' w' := fun g cs hg =>
  let ⟨us, h1, h2⟩ := h g cs hg
  ⟨us, fun j hj => hst _ _ _ (h1 j hj), fun j hj => (h2 j hj).mono hst⟩
/-- What stands in a slot. 'bx n o': a pointer at cell o of the call's own block n; 've n k i o': at cell o of element i (k cells each) of block n; 'vec n k a l': a slice over block n from element a on; 'ptr cs': a pointer at cells that stay. -/
inductive X where
  | d (x : D)
  | ag (cs : List X)
  | nil
  | bx (n off : Nat)
  | ve (n k i off : Nat)
  | vec (n k a len : Nat)
  | ptr (cs : List D)
  | clo (f : FuncId) (cs : List X)
  | tup (xs : List X)
  | undef
  | junk

theorem Den.one {L : Lim} {w : World} {d : D} {u : Value} (h : Den L w d u) : u.oneCell' = true := by
  cases h <;> first | rfl | assumption

/-- Where an own block lies, and its capacity in elements; 'nl': it is not there (a nil slice). -/
structure Gh where
  b : Nat
  cap : Nat
  nl : Bool

inductive Rel (ι : Nat → Gh) (U : Nat → Prop) (L : Lim) (w : World) : X → Value → Prop
  | d {x u} (h : Den L w x u) : Rel ι U L w (.d x) u
  | ag {cs} (us : List Value) (hl : us.length = cs.length) (h : ∀ i (hi : i < cs.length), Rel ι U L w (cs[i]'hi) (us.getD i undef)) : Rel ι U L w (.ag cs) (.agg us.toArray)
  | nil : Rel ι U L w .nil (.slice none 0 0)
  | bx {n off} (hn : U n) : Rel ι U L w (.bx n off) (.pointer (some ⟨(ι n).b, off, none⟩))
  | ve {n k i off} (hn : U n) : Rel ι U L w (.ve n k i off) (.pointer (some ⟨(ι n).b, i * k + off, none⟩))
  | vec {n k a len o} (hn : U n) (hnl : (ι n).nl = false) (hle : a + len ≤ (ι n).cap) (ho : o = a * k ∨ (len = 0 ∧ a ≠ 0)) : Rel ι U L w (.vec n k a len) (.slice (some ⟨(ι n).b, o, none⟩) len ((ι n).cap - a))
  | vec0 {n k} (hn : U n) (hnl : (ι n).nl = true) : Rel ι U L w (.vec n k 0 0) (.slice none 0 0)
  | ptr {cs} (b o : Nat) (us : Nat → Value) (hs : ∀ j, j < cs.length → Stab L w b (o + j) (us j)) (hd : ∀ j (hj : j < cs.length), Den L w (cs[j]'hj) (us j)) : Rel ι U L w (.ptr cs) (.pointer (some ⟨b, o, none⟩))
  | clo {f cs} (us : List Value) (hl : us.length = cs.length) (h : ∀ i (hi : i < cs.length), Rel ι U L w (cs[i]'hi) (us.getD i undef)) : Rel ι U L w (.clo f cs) (.func (.func f) #[] us.toArray)
  | tup {xs} (us : List Value) (hl : us.length = xs.length) (h : ∀ i (hi : i < xs.length), Rel ι U L w (xs[i]'hi) (us.getD i undef)) : Rel ι U L w (.tup xs) (.tuple us.toArray)
  | undef : Rel ι U L w .undef undef
  | junk (u) : Rel ι U L w .junk u

theorem Rel.mono {ι ι' : Nat → Gh} {U U' : Nat → Prop} {L L' : Lim} {w w' : World} (hι : ∀ n, U n → ι' n = ι n) (hU : ∀ n, U n → U' n)
    (hst : ∀ b o u, Stab L w b o u → Stab L' w' b o u) {x : X} {u : Value} (h : Rel ι U L w x u) : Rel ι' U' L' w' x u := by
  induction h with
  | d h => exact .d (h.mono hst)
  | ag us hl h ih => exact .ag us hl ih
  | nil => exact .nil
  | bx hn => rw [← hι _ hn]; exact .bx (hU _ hn)
  | ve hn => rw [← hι _ hn]; exact .ve (hU _ hn)
  | vec hn hnl hle ho => rw [← hι _ hn] at hnl hle ⊢; exact .vec (hU _ hn) hnl hle ho
  | vec0 hn hnl => rw [← hι _ hn] at hnl; exact .vec0 (hU _ hn) hnl
  | ptr b o us hs hd => exact .ptr b o us (fun j hj => hst _ _ _ (hs j hj)) (fun j hj => (hd j hj).mono hst)
  | clo us hl h ih => exact .clo us hl ih
  | tup us hl h ih => exact .tup us hl ih
  | undef => exact .undef
  | junk u => exact .junk u

/-- It fits into one cell. -/
def X.cell : X → Bool
  | .d _ | .nil | .bx .. | .ve .. | .vec .. | .ptr _ | .clo .. => true
  | _ => false
theorem Rel.one {ι : Nat → Gh} {U : Nat → Prop} {L : Lim} {w : World} {x : X} {u : Value} (h : Rel ι U L w x u) (hx : x.cell = true) : u.oneCell' = true := by
  cases h <;> first | rfl | (rename_i h; exact h.one) | simp [X.cell] at hx

/-- What is known of an own block: a variable of cells; a row of elements of k cells. -/
inductive Cap where
  | box (ty : TypeId) (cs : List X)
  | vec (ty : TypeId) (k : Nat) (es : List (List D))

def CapOk (ι : Nat → Gh) (U : Nat → Prop) (L : Lim) (w : World) (n : Nat) : Cap → Prop
  | .box ty cs => (ι n).nl = false ∧ ∃ us : List Value, w.heap[(ι n).b]? = some (.cells us.toArray ty (0, 0)) ∧ us.length = cs.length ∧
      ∀ j (hj : j < cs.length), Rel ι U L w (cs[j]'hj) (us.getD j undef)
  | .vec ty k es => ((ι n).nl = true ∧ es = []) ∨ ((ι n).nl = false ∧ ∃ us : List Value, w.heap[(ι n).b]? = some (.cells us.toArray ty (0, 0)) ∧ us.length = (ι n).cap * k ∧ es.length ≤ (ι n).cap ∧ (ι n).cap ≤ top ∧
      ∀ i (hi : i < es.length), (es[i]'hi).length = k ∧ ∀ j (hj : j < (es[i]'hi).length), Den L w ((es[i]'hi)[j]'hj) (us.getD (i * k + j) undef))

abbrev Caps := Nat → Option Cap

structure WR (ι : Nat → Gh) (U : Nat → Prop) (L : Lim) (w : World) (C : Caps) : Prop where
  ok : ∀ n c, C n = some c → CapOk ι U L w n c
  lim : ∀ n, C n ≠ none → (ι n).nl = false → L (ι n).b = true
  inj : ∀ n m, C n ≠ none → C m ≠ none → (ι n).nl = false → (ι m).nl = false → (ι n).b = (ι m).b → n = m
  used : ∀ n, C n ≠ none → U n
  glob : Glob L w

theorem WR.lt {ι : Nat → Gh} {U : Nat → Prop} {L : Lim} {w : World} {C : Caps} (h : WR ι U L w C) {n : Nat} (hn : C n ≠ none) (hl : (ι n).nl = false) : (ι n).b < w.heap.size := by
  obtain ⟨c, hc⟩ := Option.ne_none_iff_exists'.1 hn
  have h1 := h.ok n c hc
  cases c with
  | box ty cs => obtain ⟨-, us, h2, -⟩ := h1; exact (Array.getElem?_eq_some_iff.1 h2).1
  | vec ty k es =>
    rcases h1 with ⟨h2, -⟩ | ⟨-, us, h2, -⟩
    · rw [hl] at h2; cases h2
    · exact (Array.getElem?_eq_some_iff.1 h2).1

/-- How a world may go on: what stays stays. -/
structure Evo (L : Lim) (w : World) (L' : Lim) (w' : World) : Prop where
  os : w'.os = w.os
  tape : w'.tape = w.tape
  output : w'.output = w.output
  size : w.heap.size ≤ w'.heap.size
  blk : ∀ b, b < w.heap.size → L b = false → L' b = false ∧ w'.heap[b]? = w.heap[b]?

theorem Evo.refl (L : Lim) (w : World) : Evo L w L w := ⟨rfl, rfl, rfl, Nat.le_refl _, fun _ _ h => ⟨h, rfl⟩⟩
theorem Evo.trans {L L1 L2 : Lim} {w w1 w2 : World} (h : Evo L w L1 w1) (k : Evo L1 w1 L2 w2) : Evo L w L2 w2 :=
  ⟨k.os.trans h.os, k.tape.trans h.tape, k.output.trans h.output, Nat.le_trans h.size k.size, fun b hb hl =>
    let ⟨h1, h2⟩ := h.blk b hb hl
    let ⟨k1, k2⟩ := k.blk b (Nat.lt_of_lt_of_le hb h.size) h1
    ⟨k1, k2.trans h2⟩⟩
theorem Evo.stab {L L' : Lim} {w w' : World} (h : Evo L w L' w') (b o : Nat) (u : Value) (hs : Stab L w b o u) : Stab L' w' b o u := by
  obtain ⟨h1, h2⟩ := hs
  have hb : b < w.heap.size := World.block_lt_of_cell? w ⟨b, o, none⟩ h2
  obtain ⟨k1, k2⟩ := h.blk b hb h1
  exact ⟨k1, by rw [← h2]; exact World.cell?_of_block k2⟩
theorem Evo.drew (L : Lim) (w : World) : Evo L w L w.drew := ⟨rfl, rfl, rfl, Nat.le_refl _, fun _ _ h => ⟨h, rfl⟩⟩
theorem Evo.below {w w' : World} {L : Lim} (h : Evo (fun _ => false) w L w') : Below w.heap.size w w' :=
  ⟨h.os, h.tape, h.output, h.size, fun k hk => (h.blk k hk rfl).2⟩

def upd {α : Type} (f : Nat → α) (n : Nat) (x : α) : Nat → α := fun m => if m = n then x else f m
theorem upd_same {α : Type} (f : Nat → α) (n : Nat) (x : α) : upd f n x n = x := by simp [upd]
theorem upd_other {α : Type} (f : Nat → α) (n m : Nat) (x : α) (h : m ≠ n) : upd f n x m = f m := by simp [upd, h]
theorem upd_comm {α : Type} (f : Nat → α) (n m : Nat) (x y : α) (h : n ≠ m) : upd (upd f n x) m y = upd (upd f m y) n x := by
  funext k
  simp only [upd]
  split <;> split <;> simp_all

end Go.Proofs.YtkbnkcdaiahoeaaDoor
