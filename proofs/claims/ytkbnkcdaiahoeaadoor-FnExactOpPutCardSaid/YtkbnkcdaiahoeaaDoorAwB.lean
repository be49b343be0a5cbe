/- What one operation does to pure data ('aop'), and what a contract says ('Spec'). No condition. -/
import Derived.Test.YtkbnkcdaiahoeaaDoorAwA
import Derived.Laws.Cells
import Derived.Laws.CopyRow
import Derived.Laws.BytesArg
namespace Go.Proofs.YtkbnkcdaiahoeaaDoor
open Go Go.RowKit

abbrev Del := List (Nat × Option Cap)
def app : Del → Caps → Caps
  | [], C => C
  | p :: r, C => app r (upd C p.1 p.2)

/-! ### The program's tables -/
/-- Is it a struct or an array; how many cells. -/
def tsz (P : Program) (t : TypeId) : Option (Bool × Nat) :=
  match P.info? t with
  | none => none
  | some i => match P.underlying t with
    | some (.struct _) | some (.array _ _) => some (true, i.size)
    | some _ => some (false, i.size)
    | none => none
/-- A slice type's element: its type, its cells, its bytes. -/
def telem (P : Program) (t : TypeId) : Option (TypeId × Nat × Nat) :=
  match P.underlying t with
  | some (.slice e) => (P.info? e).map fun i => (e, i.size, i.bytes)
  | _ => none
/-- An array type's length; its element's cells. -/
def tarr (P : Program) (t : TypeId) : Option (Nat × Nat) :=
  match P.underlying t with
  | some (.array n e) => (P.info? e).map fun i => (n, i.size)
  | _ => none
/-- A struct type's fields: where each begins, its type. -/
def tfld (P : Program) (t : TypeId) : Option (List (Nat × TypeId)) :=
  match P.underlying t with
  | some (.struct fs) => some (fs.toList.map fun f => (f.offset, f.type))
  | _ => none
def litOk (k : IntKind) (n : Int) : Bool := decide (k.min ≤ n ∧ n ≤ k.max)
def lit : Value → X
  | .int k n => if litOk k n then .d (.int k n) else .junk
  | .bool b => .d (.bool b)
  | .string s => if s.size ≤ top then .d (.str s) else .junk
  | .slice none 0 0 => .nil
  | .func (.func f) ⟨[]⟩ ⟨[]⟩ => .clo f []
  | .agg _ => .junk
  | .tuple _ => .junk
  | v => .d (.v v)
def tzero (P : Program) (t : TypeId) : Option (List X) := ((P.info? t).bind (·.zero)).map fun v => v.cells.toList.map lit

def X.dat : X → Option D
  | .d x => some x
  | .nil => some (.sl [])
  | _ => none
def datL : List X → Option (List D)
  | [] => some []
  | x :: r => match x.dat, datL r with
    | some d, some ds => some (d :: ds)
    | _, _ => none
def X.cells : X → List X
  | .ag cs => cs
  | x => [x]
mutual
/-- Without what lies behind slices. -/
def D.bare : D → D
  | .int k n => .int k n
  | .bool b => .bool b
  | .str s => .str s
  | .v u => .v u
  | .sl es => .sl (D.bareLL es)
  | .sp n es => .sl ((D.bareLL es).take n)
def D.bareL : List D → List D
  | [] => []
  | d :: r => D.bare d :: D.bareL r
def D.bareLL : List (List D) → List (List D)
  | [] => []
  | e :: r => D.bareL e :: D.bareLL r
end
def X.bare1 : X → X
  | .nil => .d (.sl [])
  | .d x => .d x.bare
  | x => x
def X.bare : X → X
  | .nil => .d (.sl [])
  | .d x => .d x.bare
  | .ag cs => .ag (cs.map X.bare1)
  | x => x
def X.norm1 : X → X
  | .nil => .d (.sl [])
  | x => x
def X.norm : X → X
  | .nil => .d (.sl [])
  | .ag cs => .ag (cs.map X.norm1)
  | x => x
def D.scal : D → Bool
  | .int .. | .bool _ | .str _ => true
  | _ => false
mutual
/-- It speaks of no block but own ones. -/
def X.free : X → Bool
  | .d x => x.scal
  | .ag cs => X.freeL cs
  | .clo _ cs => X.freeL cs
  | .tup xs => X.freeL xs
  | .nil | .bx .. | .ve .. | .vec .. | .undef | .junk => true
  | .ptr _ => false
def X.freeL : List X → Bool
  | [] => true
  | x :: r => X.free x && X.freeL r
end
def capFree : Cap → Bool
  | .box _ cs => cs.all X.free
  | .vec _ _ es => es.all fun e => e.all D.scal
def delFree (δ : Del) : Bool := δ.all fun p => match p.2 with | some c => capFree c | none => true
def X.scal1 : X → Bool
  | .d x => x.scal
  | _ => false
def X.scal : X → Bool
  | .d x => x.scal
  | .tup xs => xs.all X.scal1
  | _ => false
def splice {α : Type} (cs : List α) (off : Nat) (xs : List α) : List α := cs.take off ++ xs ++ cs.drop (off + xs.length)

def ev (s : Nat → X) : Operand → X
  | .tmp t => s t
  | .const v => lit v
  | .func f => .clo f []
  | .global g => match known g with
    | some cs => .ptr cs
    | none => .d (.v (.pointer (some ⟨g, 0, none⟩)))

/-! ### Contracts -/
/-- What is nobody's own, or somebody else's, is as it was. -/
structure Fr (ι : Nat → Gh) (C : Caps) (L : Lim) (w : World) (ι' : Nat → Gh) (C' : Caps) (L' : Lim) (w' : World) : Prop where
  same : ∀ b, b < w.heap.size → (∀ n, C n ≠ none → (ι n).nl = false → (ι n).b ≠ b) → w'.heap[b]? = w.heap[b]? ∧ L' b = L b
  orig : ∀ n, C' n ≠ none → (ι' n).nl = false → w.heap.size ≤ (ι' n).b ∨ ∃ k, C k ≠ none ∧ (ι k).nl = false ∧ (ι k).b = (ι' n).b
/-- What a step or a call leaves: a value for which 'Q' holds, a world that has gone on. -/
def Aft (ι : Nat → Gh) (U : Nat → Prop) (L : Lim) (w : World) (C : Caps) (m : Nat) (Q : X → Del → Prop) (v : Value) (w' : World) : Prop :=
  ∃ x δ ι' L', Q x δ ∧ Rel ι' (fun n => U n ∨ n = m) L' w' x v ∧ WR ι' (fun n => U n ∨ n = m) L' w' (app δ C) ∧ Evo L w L' w' ∧ (∀ n, n ≠ m → ι' n = ι n) ∧ Fr ι C L w ι' (app δ C) L' w'
/-- The own blocks of a list. -/
def capsOf (pre : List (Nat × Cap)) : Caps := app (pre.map fun p => (p.1, some p.2)) fun _ => none
def callable (P : Program) (f : FuncId) : Bool :=
  match P.funcs[f]? with
  | some fn => fn.body.isSome && !(fn.name == "runtime.NumGoroutine")
  | none => false
/-- A contract: called with what stands for 'xs', own blocks being as 'pre' says, function f returns what stands for an x with 'Q x δ'; m names a block that it may hand back. -/
def Spec (P : Program) (f : FuncId) (xs : List X) (pre : List (Nat × Cap)) (m : Nat) (Q : X → Del → Prop) : Prop :=
  callable P f = true ∧ ∀ (ι : Nat → Gh) (U : Nat → Prop) (L : Lim) (w : World) (us : List Value), WR ι U L w (capsOf pre) → ¬ U m → us.length = xs.length →
    (∀ i (hi : i < xs.length), Rel ι U L w (xs[i]'hi) (us.getD i undef)) →
    Calls P f us.toArray w fun e w' => ∃ v, e = .returned v ∧ Aft ι U L w (capsOf pre) m Q v w'
theorem Aft.mono {ι : Nat → Gh} {U : Nat → Prop} {L : Lim} {w : World} {C : Caps} {m : Nat} {Q Q' : X → Del → Prop} {v : Value} {w' : World} (h : Aft ι U L w C m Q v w') (hq : ∀ x δ, Q x δ → Q' x δ) : Aft ι U L w C m Q' v w' := by
  obtain ⟨x, δ, ι', L', h1, h2⟩ := h
  exact ⟨x, δ, ι', L', hq _ _ h1, h2⟩
theorem Spec.mono {P : Program} {f : FuncId} {xs : List X} {pre : List (Nat × Cap)} {m : Nat} {Q Q' : X → Del → Prop} (h : Spec P f xs pre m Q) (hq : ∀ x δ, Q x δ → Q' x δ) : Spec P f xs pre m Q' :=
  ⟨h.1, fun ι U L w us hW hm hl hr => (h.2 ι U L w us hW hm hl hr).mono fun _ _ ⟨v, he, ha⟩ => ⟨v, he, ha.mono hq⟩⟩

/-! ### Operations -/
def strLt (a b : ByteArray) : Bool := Op.bytesLess a.toList b.toList
def aInt (op : BinOp) (k : IntKind) (a b : Int) (K : D → Prop) : Prop :=
  match op with
  | .add => K (.int k (k.wrap (a + b)))
  | .sub => K (.int k (k.wrap (a - b)))
  | .mul => K (.int k (k.wrap (a * b)))
  | .quo => 0 < b ∧ K (.int k (k.wrap (a.tdiv b)))
  | .rem => 0 < b ∧ K (.int k (k.wrap (a.tmod b)))
  | .xor => ∀ r, fits k r → (0 ≤ a → 0 ≤ b → 0 ≤ r) → K (.int k r)
  | .eql => K (.bool (decide (a = b)))
  | .neq => K (.bool (!decide (a = b)))
  | .lss => K (.bool (decide (a < b)))
  | .leq => K (.bool (decide (a ≤ b)))
  | .gtr => K (.bool (decide (b < a)))
  | .geq => K (.bool (decide (b ≤ a)))
  | _ => False
def aStr (op : BinOp) (a b : ByteArray) (K : D → Prop) : Prop :=
  match op with
  | .add => a.size + b.size ≤ top ∧ K (.str (a ++ b))
  | .eql => K (.bool (decide (a = b)))
  | .neq => K (.bool (!decide (a = b)))
  | .lss => K (.bool (strLt a b))
  | .leq => K (.bool (strLt a b || decide (a = b)))
  | .gtr => K (.bool (!(strLt a b || decide (a = b))))
  | .geq => K (.bool (!strLt a b))
  | _ => False
def aNil (op : BinOp) (es : List (List D)) (K : D → Prop) : Prop :=
  match op with
  | .eql => ∀ b, (b = true → es = []) → K (.bool b)
  | .neq => ∀ b, (b = false → es = []) → K (.bool b)
  | _ => False
def aBool (op : BinOp) (a b : Bool) (K : D → Prop) : Prop :=
  match op with
  | .eql => K (.bool (a == b))
  | .neq => K (.bool (a != b))
  | _ => False
def tkind (P : Program) (t : TypeId) : Nat :=
  match P.underlying t with
  | some (.int _) => 1
  | some .string => 2
  | some .bool => 3
  | _ => 0
/-- A struct type whose fields are one cell each, one behind the other: their kinds. -/
def tplain (P : Program) (t : TypeId) : Option (List Nat) :=
  match P.underlying t with
  | some (.struct fs) => if !(P.eqGuardType P.depth t) && !(P.stoodInHeld t) && fs.toList.zipIdx.all (fun p => p.1.offset == p.2 && p.1.name != "_") then some (fs.toList.map fun f => tkind P f.type) else none
  | _ => none
/-- Are two structs' cells the same. -/
def eqL : List Nat → List X → List X → Option Bool
  | [], [], [] => some true
  | 1 :: ks, .d (.int k a) :: r, .d (.int k' b) :: q => if k = k' then (eqL ks r q).map (decide (a = b) && ·) else none
  | 2 :: ks, .d (.str a) :: r, .d (.str b) :: q => (eqL ks r q).map (decide (a = b) && ·)
  | 3 :: ks, .d (.bool a) :: r, .d (.bool b) :: q => (eqL ks r q).map (decide (a = b) && ·)
  | _, _, _ => none
def aBin (P : Program) (op : BinOp) (t : TypeId) (x y : X) (K : D → Prop) : Prop :=
  match x, y with
  | .d (.int k a), .d (.int k' b) => k = k' ∧ aInt op k a b K
  | .d (.str a), .d (.str b) => aStr op a b K
  | .d (.bool a), .d (.bool b) => (P.underlying t = some .bool) ∧ aBool op a b K
  | .d (.sl es), .nil | .nil, .d (.sl es) => (telem P t).isSome = true ∧ aNil op es K
  | .nil, .nil => (telem P t).isSome = true ∧ (match op with | .eql => K (.bool true) | .neq => K (.bool false) | _ => False)
  | .vec _ _ _ len, .nil => (telem P t).isSome = true ∧ (match op with | .eql => ∀ b, (b = true → len = 0) → K (.bool b) | .neq => ∀ b, (b = false → len = 0) → K (.bool b) | _ => False)
  | .ag cs, .ag ds => match tplain P t with
    | some ks => (match op, eqL ks cs ds with | .eql, some b => K (.bool b) | .neq, some b => K (.bool !b) | _, _ => False)
    | none => False
  | _, _ => False

/-- A value out of cells that stay. -/
def aTake (g : Bool) (n : Nat) (cs : List D) (K : X → Prop) : Prop :=
  match g with
  | true => n ≤ cs.length ∧ K (.ag ((cs.take n).map .d))
  | false => match cs with | c :: _ => K (.d c) | [] => False
def aTakeX (g : Bool) (n : Nat) (cs : List X) (K : X → Prop) : Prop :=
  match g with
  | true => n ≤ cs.length ∧ K (.ag (cs.take n))
  | false => match cs with | c :: _ => K c | [] => False
def aLoad (av : Nat → Prop) (C : Caps) (g : Bool) (n : Nat) (a : X) (K : X → Prop) : Prop :=
  match a with
  | .ptr cs => aTake g n cs K
  | .bx nm off => ¬ av nm ∧ (match C nm with | some (.box _ cs) => aTakeX g n (cs.drop off) K | _ => False)
  | .ve nm k i off => ¬ av nm ∧ (match C nm with | some (.vec _ k' es) => k = k' ∧ i < es.length ∧ ∀ c, es[i]? = some c → aTake g n (c.drop off) K | _ => False)
  | _ => False
def aStore (wr av : Nat → Prop) (C : Caps) (n : Nat) (a x : X) (K : Del → Prop) : Prop :=
  match a with
  | .bx nm off => wr nm ∧ ¬ av nm ∧ (match C nm with | some (.box ty cs) => x.cells.length = n ∧ off + n ≤ cs.length ∧ x.cells.all X.cell = true ∧ K [(nm, some (.box ty (splice cs off x.cells)))] | _ => False)
  | .ve nm k i off => wr nm ∧ ¬ av nm ∧ (match C nm with
      | some (.vec ty k' es) => k = k' ∧ i < es.length ∧ x.cells.length = n ∧ off + n ≤ k ∧
        (match datL x.cells with | some ds => ∀ c, es[i]? = some c → K [(nm, some (.vec ty k' (es.set i (splice c off ds))))] | none => False)
      | _ => False)
  | _ => False
def fillX (fl : List (Nat × Nat)) (cs : List X) : List (Nat × X) → Option (List X)
  | [] => some cs
  | (i, x) :: r => match fl[i]? with
    | none => none
    | some (off, sz) => if x.cells.length = sz ∧ off + sz ≤ cs.length ∧ x.cells.all X.cell = true then fillX fl (splice cs off x.cells) r else none
def tparts (P : Program) : List (Nat × TypeId) → Option (List (Nat × Nat))
  | [] => some []
  | (off, t) :: r => match tsz P t, tparts P r with
    | some (_, n), some q => some ((off, n) :: q)
    | _, _ => none
/-- A literal slice's elements, each given in its turn. -/
def litEs (k : Nat) : Nat → List (Nat × X) → Option (List (List D))
  | _, [] => some []
  | i, (j, x) :: r => if i = j then match datL x.cells, litEs k (i + 1) r with
      | some ds, some es => if ds.length = k then some (ds :: es) else none
      | _, _ => none
    else none
/-- The bytes of a slice of bytes. -/
def nums8 : List (List D) → Option (List Int)
  | [] => some []
  | [.int .u8 n] :: r => (nums8 r).map (n :: ·)
  | _ => none
def aBd (len : Nat) (lo hi : Option X) (K : Nat → Nat → Prop) : Prop :=
  match (match lo with | none => some 0 | some (.d (.int _ n)) => some n | _ => none), (match hi with | none => some (len : Int) | some (.d (.int _ n)) => some n | _ => none) with
  | some l, some h => (0 ≤ l ∧ l ≤ h ∧ h ≤ len) ∧ K l.toNat h.toNat
  | _, _ => False
def aSlice (P : Program) (t : TypeId) (x : X) (lo hi : Option X) (K : X → Prop) : Prop :=
  match x with
  | .d (.sl es) => (match telem P t with | some (_, k', _) => ∀ x ∈ es, x.length = k' | none => False) ∧ aBd es.length lo hi fun l h => K (.d (.sl ((es.take h).drop l)))
  | .d (.sp n es) => (match telem P t with | some (_, k', _) => ∀ x ∈ es, x.length = k' | none => False) ∧ (match hi with
    | some _ => aBd es.length lo hi fun l h => K (.d (.sl ((es.take h).drop l)))
    | none => aBd n lo none fun l h => K (.d (.sl ((es.take h).drop l))))
  | .nil => (telem P t).isSome = true ∧ aBd 0 lo hi fun _ _ => K .nil
  | .d (.str s) => P.underlying t = some .string ∧ aBd s.size lo hi fun l h => K (.d (.str (s.extract l h)))
  | .vec n k a len => (match telem P t with | some (_, k', _) => k = k' | none => False) ∧ aBd len lo hi fun l h => K (.vec n k (a + l) (h - l))
  | _ => False
def aLen (x : X) (K : D → Prop) : Prop :=
  match x with
  | .d (.sl es) => K (.int .i64 es.length)
  | .d (.sp n _) => K (.int .i64 n)
  | .d (.str s) => K (.int .i64 s.size)
  | .vec _ _ _ len => len ≤ top ∧ K (.int .i64 len)
  | .nil => K (.int .i64 0)
  | _ => False
/-- What a slice holds that is only read: data; a part of an own row. -/
def aSrc (av : Nat → Prop) (C : Caps) (k : Nat) (x : X) (K : List (List D) → Prop) : Prop :=
  match x with
  | .d (.sl es) => (∀ e ∈ es, e.length = k) ∧ K es
  | .nil => K []
  | .vec n k' a len => ¬ av n ∧ k' = k ∧ (match C n with | some (.vec _ k'' es) => k'' = k ∧ a + len ≤ es.length ∧ K ((es.drop a).take len) | _ => False)
  | _ => False
/-- The target of an append: nil; a whole row of the call's own. -/
def aDst (wr av : Nat → Prop) (C : Caps) (e : TypeId) (k : Nat) (x : X) (K : List (List D) → Del → Prop) : Prop :=
  match x with
  | .nil => K [] []
  | .vec n k' a len => wr n ∧ ¬ av n ∧ k' = k ∧ a = 0 ∧ (match C n with | some (.vec e' k'' es) => e' = e ∧ k'' = k ∧ len = es.length ∧ K es [(n, none)] | _ => False)
  | _ => False
/-- An argument as the contract wants it: as it is; an own row lent for reading. -/
def aLend (av : Nat → Prop) (C : Caps) (bor : List Nat) (x y : X) : Prop :=
  match x with
  | .vec n k a len => n ∈ bor ∧ ¬ av n ∧ (match C n with | some (.vec _ k' es) => k' = k ∧ a + len ≤ es.length ∧ (y = .d (.sl ((es.drop a).take len)) ∨ (a = 0 ∧ y = .d (.sp len es))) | _ => False)
  | _ => False
def aCells (av : Nat → Prop) (C : Caps) (bor : List Nat) : List X → List X → Prop
  | [], [] => True
  | x :: r, y :: q => (y = x.norm1 ∨ y = x.bare1 ∨ aLend av C bor x y) ∧ aCells av C bor r q
  | _, _ => False
def aArg (av : Nat → Prop) (C : Caps) (x y : X) (bor : List Nat) : Prop :=
  match x with
  | .vec n k a len => y = x ∨ aLend av C bor (.vec n k a len) y
  | .ag cs => y = X.norm (.ag cs) ∨ y = X.bare (.ag cs) ∨ ∃ ds, y = .ag ds ∧ aCells av C bor cs ds
  | x => y = x.norm ∨ y = x.bare
def aArgs (av : Nat → Prop) (C : Caps) (bor : List Nat) : List X → List X → Prop
  | [], [] => True
  | x :: r, y :: q => aArg av C x y bor ∧ aArgs av C bor r q
  | _, _ => False
def aCall (P : Program) (m : Nat) (wr av : Nat → Prop) (C : Caps) (f : FuncId) (xs : List X) (K : X → Del → Prop) : Prop :=
  ∃ ys pre Q bor, aArgs av C bor xs ys ∧ Spec P f ys pre m Q ∧ (∀ p ∈ pre, C p.1 = some p.2 ∧ wr p.1 ∧ ¬ av p.1) ∧ (∃ x δ, Q x δ) ∧ (bor ≠ [] → pre = []) ∧
    ∀ x δ, Q x δ → (bor ≠ [] → x.free = true ∧ delFree δ = true) ∧ (∀ p ∈ δ, p.1 = m ∨ p.1 ∈ pre.map (·.1)) ∧ K x δ

def lenTy (P : Program) (t : TypeId) (x : X) : Prop :=
  match x with
  | .d (.str _) => P.underlying t = some .string
  | _ => (telem P t).isSome = true
/-- Is it a part of an own row, behind which others lie. -/
def aPart (C : Caps) (s : X) : Bool :=
  match s with
  | .vec n _ a len => match C n with | some (.vec _ _ es) => decide (a + len < es.length) | _ => false
  | _ => false
/-- An append to the head of an own row, in place. -/
def aIn (wr av : Nat → Prop) (C : Caps) (e : TypeId) (k : Nat) (s x : X) (K : X → Del → Prop) : Prop :=
  match s with
  | .vec n k' a len => wr n ∧ ¬ av n ∧ k' = k ∧ a = 0 ∧ (match C n with
      | some (.vec e' k'' es) => e' = e ∧ k'' = k ∧ aSrc av C k x fun es2 => len + es2.length ≤ es.length ∧ K (.vec n k 0 (len + es2.length)) [(n, some (.vec e k (es.take len ++ es2 ++ es.drop (len + es2.length))))]
      | _ => False)
  | _ => False
def aClear (wr av : Nat → Prop) (C : Caps) (e : TypeId) (k : Nat) (z : List D) (x : X) (K : X → Del → Prop) : Prop :=
  match x with
  | .vec n k' a len => wr n ∧ ¬ av n ∧ k' = k ∧ (match C n with
      | some (.vec e' k'' es) => e' = e ∧ k'' = k ∧ a + len ≤ es.length ∧ es ≠ [] ∧ K .junk [(n, some (.vec e k (es.take a ++ List.replicate len z ++ es.drop (a + len))))]
      | _ => False)
  | _ => False
def aBuiltin (P : Program) (m : Nat) (wr av : Nat → Prop) (C : Caps) (b : Builtin) (xs : List X) (ts : List TypeId) (K : X → Del → Prop) : Prop :=
  match b, xs, ts with
  | .len, [x], [t] => lenTy P t x ∧ aLen x fun d => K (.d d) []
  | .append, [s, x], [t, t2] => match telem P t with
    | some (el, k, by_) => t = t2 ∧ 0 < k ∧ 0 < by_ ∧ (tzero P el).map (·.length) = some k ∧ (aPart C s = true → aIn wr av C el k s x K) ∧ (aPart C s = false → aDst wr av C el k s fun es δ => aSrc av C k x fun es2 =>
        (es.length + es2.length) * by_ ≤ 140737488355328 ∧ K (.vec m k 0 (es.length + es2.length)) (δ ++ [(m, some (.vec el k (es ++ es2)))]))
    | none => False
  | .clear, [x], [t] => match telem P t with
    | some (el, k, _) => (match (tzero P el).bind datL with
      | some z => 0 < k ∧ z.length = k ∧ aClear wr av C el k z x K
      | none => False)
    | none => False
  | .max, [x, y], _ => match x, y with
    | .d (.int k a), .d (.int k' b) => k = k' ∧ K (.d (.int k (if a < b then b else a))) []
    | _, _ => False
  | .min, [x, y], _ => match x, y with
    | .d (.int k a), .d (.int k' b) => k = k' ∧ K (.d (.int k (if b < a then b else a))) []
    | _, _ => False
  | _, _, _ => False

/-- A part of an own row, up to what lies behind the slice. -/
def aSl2 (P : Program) (av : Nat → Prop) (C : Caps) (t : TypeId) (n k a : Nat) (lo hi : X) (K : X → Prop) : Prop :=
  (match telem P t with | some (_, k', _) => k = k' | none => False) ∧ ¬ av n ∧ a = 0 ∧ (match C n, lo, hi with
    | some (.vec _ k'' es), .d (.int _ l), .d (.int _ h) => k'' = k ∧ (0 ≤ l ∧ l ≤ h ∧ h ≤ es.length) ∧ K (.vec n k l.toNat (h.toNat - l.toNat))
    | _, _, _ => False)
def aop (P : Program) (m : Nat) (wr av : Nat → Prop) (e : Operand → X) (C : Caps) (op : Op) (K : X → Del → Prop) : Prop :=
  match op with
  | .move x | .assign x => K (e x) []
  | .pick c a b => match e c with
    | .d (.bool t) => (t = true → K (e a) []) ∧ (t = false → K (e b) [])
    | _ => False
  | .binOp op t x y _ => aBin P op t (e x) (e y) fun d => K (.d d) []
  | .unOp .not _ x => match e x with
    | .d (.bool b) => K (.d (.bool !b)) []
    | _ => False
  | .unOp .neg _ x => match e x with
    | .d (.int k n) => K (.d (.int k (k.wrap (0 - n)))) []
    | _ => False
  | .convert src dst x => match e x, P.underlying dst with
    | .d (.int _ n), some (.int k) => (P.underlying src).isSome = true ∧ K (.d (.int k (k.wrap n))) []
    | .d (.str s), some .string => (P.underlying src).isSome = true ∧ K (.d (.str s)) []
    | .d (.sl es), some .string => es ≠ [] ∧ (match telem P src with | some (el, _, _) => P.underlying el = some (.int .u8) | none => False) ∧ (match nums8 es with | some l => K (.d (.str (strOfNums l))) [] | none => False)
    | _, _ => False
  | .alloc t => match tzero P t with
    | some cs => cs.all X.cell = true ∧ K (.bx m 0) [(m, some (.box t cs))]
    | none => False
  | .box t x => (e x).cells.all X.cell = true ∧ K (.bx m 0) [(m, some (.box t (e x).cells))]
  | .build t parts => match tzero P t, (tfld P t).bind (tparts P) with
    | some cs, some fl => match fillX fl cs (parts.toList.map fun p => (p.1, e p.2)) with
      | some r => K (.ag r) []
      | none => False
    | _, _ => False
  | .buildSlice t len parts => match telem P t with
    | some (el, k, _) => if len = 0 then parts.size = 0 ∧ K (.vec m k 0 0) [(m, some (.vec el k []))] else
        0 < k ∧ len = parts.size ∧ len * k ≤ 16777216 ∧ ((tzero P el).isSome = true) ∧ (match litEs k 0 (parts.toList.map fun p => (p.1, e p.2)) with
        | some es => K (.vec m k 0 es.length) [(m, some (.vec el k es))]
        | none => False)
    | none => False
  | .load t a => match tsz P t with
    | some (g, n) => aLoad av C g n (e a) fun x => K x []
    | none => False
  | .store t a x => match tsz P t with
    | some (_, n) => aStore wr av C n (e a) (e x) fun δ => K .undef δ
    | none => False
  | .nilCheck x => match e x with
    | .bx n o => K (.bx n o) []
    | .ve n k i o => K (.ve n k i o) []
    | .ptr cs => K (.ptr cs) []
    | .clo f cs => K (.clo f cs) []
    | _ => False
  | .makeFunc (.func f) first captured => first.size = 0 ∧ K (.clo f (captured.toList.map e)) []
  | .makeSlice t l c => match telem P t, e l, e c with
    | some (el, k, by_), .d (.int .i64 n), .d (.int .i64 c) => (0 ≤ n ∧ n ≤ c ∧ c * by_ ≤ 140737488355328 ∧ c ≤ 140737488355328) ∧ (match (tzero P el).bind datL with
        | some z => z.length = k ∧ K (.vec m k 0 n.toNat) [(m, some (.vec el k (List.replicate n.toNat z)))]
        | none => False)
    | _, _, _ => False
  | .slice t x (some lo) (some hi) none => match e x with
    | .vec n k a _ => aSl2 P av C t n k a (e lo) (e hi) fun y => K y []
    | y => aSlice P t y (some (e lo)) (some (e hi)) fun y => K y []
  | .slice t x none hi none => aSlice P t (e x) none (hi.map e) fun y => K y []
  | .slice t x (some lo) none none => aSlice P t (e x) (some (e lo)) none fun y => K y []
  | .slice t x (some lo) (some hi) (some mx) => match telem P t, e x, e lo, e hi, e mx with
    | some (_, k, _), .vec _ k' _ len, .d (.int _ l), .d (.int _ h), .d (.int _ c) => k = k' ∧ (0 ≤ l ∧ l ≤ h ∧ h ≤ c ∧ c ≤ len) ∧ K .junk []
    | _, _, _, _, _ => False
  | .fieldAddr t x f => match (tfld P t).bind (·[f]?) with
    | some (off, ft) => (match tsz P ft with | some (_, n) => 0 < n | none => False) ∧ (match e x with
      | .bx n o => K (.bx n (o + off)) []
      | .ve n k i o => K (.ve n k i (o + off)) []
      | .ptr cs => off ≤ cs.length ∧ K (.ptr (cs.drop off)) []
      | _ => False)
    | none => False
  | .field t x f => match (tfld P t).bind (·[f]?) with
    | some (off, ft) => match tsz P ft, e x with
      | some (g, n), .ag cs => aTakeX g n (cs.drop off) fun y => K y []
      | _, _ => False
    | none => False
  | .indexAddr t x i => match telem P t, e x, e i with
    | some (_, k, _), .d (.sl es), .d (.int _ n) => (0 ≤ n ∧ n < es.length) ∧ ∀ c, es[n.toNat]? = some c → c.length = k ∧ K (.ptr c) []
    | some (_, k, _), .d (.sp m es), .d (.int _ n) => (0 ≤ n ∧ n < m ∧ n < es.length) ∧ ∀ c, es[n.toNat]? = some c → c.length = k ∧ K (.ptr c) []
    | some (_, k, _), .vec nm k' a len, .d (.int _ n) => (0 ≤ n ∧ n < len) ∧ k = k' ∧ K (.ve nm k (a + n.toNat) 0) []
    | none, .ptr cs, .d (.int _ n) => match tarr P t with
      | some (len, k) => (0 ≤ n ∧ n < len) ∧ len * k ≤ cs.length ∧ K (.ptr ((cs.drop (n.toNat * k)).take k)) []
      | none => False
    | _, _, _ => False
  | .index t x i => match P.underlying t, e x, e i with
    | some .string, .d (.str s), .d (.int _ n) => (0 ≤ n ∧ n < s.size) ∧ ∀ c : UInt8, s.data[n.toNat]? = some c → K (.d (.int .u8 c.toNat)) []
    | _, _, _ => False
  | .extract t i => match e t with
    | .tup xs => match xs[i]? with
      | some x => K x []
      | none => False
    | _ => False
  | .call { callee := .builtin b, args, argTypes } => aBuiltin P m wr av C b (args.toList.map e) argTypes.toList K
  | .call { callee := .value f, args, .. } => match e f with
    | .clo fid cs => aCall P m wr av C fid (args.toList.map e ++ cs) K
    | _ => False
  | _ => False
end Go.Proofs.YtkbnkcdaiahoeaaDoor
