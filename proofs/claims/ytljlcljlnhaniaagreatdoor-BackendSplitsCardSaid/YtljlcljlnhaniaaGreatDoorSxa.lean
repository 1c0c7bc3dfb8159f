/- Part of the proof of the statement: an evaluator of the code at closed data, run by the kernel, and that it is sound; it has no conditions of its own. -/
import Derived.WalkKit
import Derived.WalkSpells
import Derived.WalkLawsBesides
import Derived.Lib.Strings
import Derived.Lib.Builder
set_option linter.unusedVariables false
set_option linter.unusedSimpArgs false
/- A symbolic executor over the model's code: terms, symbolic values, the executor itself (a function into Prop). -/
namespace Go.Sx

/-- Terms for integers: an atom (a plain Lean integer), a literal, an operation. -/
inductive ST where
  | a (n : Int)
  | l (n : Int)
  | bin (op : BinOp) (k : IntKind) (x y : ST)
  | cv (k : IntKind) (x : ST)
  | len (s : List UInt8)

def binDen (op : BinOp) (k : IntKind) (x y : Int) : Int :=
  match op with
  | .add => k.wrap (x + y)
  | .sub => k.wrap (x - y)
  | .mul => k.wrap (x * y)
  | .quo => k.wrap (x.tdiv y)
  | .rem => x.tmod y
  | .and => k.wrap (BitVec.ofInt k.bits x &&& BitVec.ofInt k.bits y).toNat
  | .or => k.wrap (BitVec.ofInt k.bits x ||| BitVec.ofInt k.bits y).toNat
  | .xor => k.wrap (BitVec.ofInt k.bits x ^^^ BitVec.ofInt k.bits y).toNat
  | .andNot => k.wrap (BitVec.ofInt k.bits x &&& ~~~BitVec.ofInt k.bits y).toNat
  | .shl => k.wrap (x * 2 ^ (min y.toNat k.bits))
  | .shr => x.fdiv (2 ^ (min y.toNat k.bits))
  | _ => 0

def ST.den : ST → Int
  | .a n => n
  | .l n => n
  | .bin op k x y => binDen op k x.den y.den
  | .cv k x => k.wrap x.den
  | .len s => s.length

def cmpDen (op : BinOp) (x y : Int) : Bool :=
  match op with
  | .eql => x == y
  | .neq => x != y
  | .lss => decide (x < y)
  | .leq => decide (x ≤ y)
  | .gtr => decide (y < x)
  | .geq => decide (y ≤ x)
  | _ => false

/-- Terms for truth values. -/
inductive BT where
  | a (b : Bool)
  | l (b : Bool)
  | cmp (op : BinOp) (x y : ST)
  | not (x : BT)
  | and (x y : BT)
  | or (x y : BT)
  | beq (x y : BT)
  | seq (s t : List UInt8)

def BT.den : BT → Bool
  | .a b => b
  | .l b => b
  | .cmp op x y => cmpDen op x.den y.den
  | .not x => !x.den
  | .and x y => x.den && y.den
  | .or x y => x.den || y.den
  | .beq x y => x.den == y.den
  | .seq s t => s == t

/-- Symbolic values. -/
inductive SV where
  | int (k : IntKind) (t : ST)
  | bool (b : BT)
  | str (s : List UInt8)
  | nilp
  | raw (v : Value)
  | fn (f : FuncId)
  | sl (nl : BT) (n : ST) (sz : Nat) (f : Nat → List SV)
  | rptr (cs : List SV)
  | rarr (n sz : Nat) (f : Nat → List SV)
  | agg (cs : List SV)
  | tup (vs : List SV)
  | clo (f : FuncId) (cs : List SV)
  | ptr (h off : Nat)
  | gsl (nl : BT) (n : ST) (sz : Nat) (f : Nat → List SV) (h : Nat)
  | mrow (h : Nat)
  | mptr (h j off : Nat)
  | osl (nl : BT) (n : ST) (h : Nat)
  | optr (n : ST) (h j off : Nat)

/-- What a heaplet holds. -/
inductive Hl where
  | fresh
  | gone
  | blk (ty : TypeId) (cs : List SV)
  | tail (ty : TypeId) (n : ST) (sz : Nat)
  | row (ty : TypeId) (n : ST) (sz : Nat) (f : Nat → List SV)
  | own (ty : TypeId) (n : ST) (sz : Nat) (gr : Bool) (f : Nat → List SV)
  | bld (T e : TypeId) (s : List UInt8)

/-- A slot: under which guards it is known; the guards that stand for its being true or false; its value. -/
structure G where
  tg : List Nat
  gt : Option Nat
  gf : Option Nat
  v : SV

structure Sy where
  fr : List (Option G)
  hp : List Hl
  gm : List BT

/-- Readings of terms, as one variable: so that evaluation leaves them alone. -/
structure Dn where
  i : ST → Int
  b : BT → Bool

def dn : Dn := ⟨ST.den, BT.den⟩

inductive TK where
  | int (k : IntKind)
  | bool
  | string
  | pointer (e : TypeId)
  | slice (e : TypeId)
  | struct (fs : List (Nat × TypeId))
  | array (n : Nat) (e : TypeId)
  | other

structure TI where
  k : TK
  size : Nat
  bytes : Nat
  zero : List SV

/-- What a called function does: its arguments, the blocks that they point to, what is asked of the result. -/
abbrev FSpec := Dn → List SV → List Hl → (SV → List Hl → Prop) → Prop

/-- Steps of the proof alone, at a region's end: a row is read from then on, no more written; a nil slice gets a hold on its tail. -/
inductive Gh where
  | freeze (s : Nat)
  | attach (s : Nat) (e : TypeId)
  | hold (s k e : Nat)
  | own (s e : Nat)
  | share (s : Nat)
  | bld (s e : Nat)
  | tot (s : Nat)

structure Cx where
  D : Dn
  tt : List (Nat × TI)
  tab : List (Nat × FSpec)
  gl : List (Nat × SV)
  eqs : List TypeId
  gh : List (Nat × List Gh)

def look {α : Type} (k : Nat) : List (Nat × α) → Option α
  | [] => none
  | (j, x) :: l => if j == k then some x else look k l

def getO {α : Type} : List (Option α) → Nat → Option α
  | [], _ => none
  | x :: _, 0 => x
  | _ :: l, n + 1 => getO l n

def nth {α : Type} : List α → Nat → Option α
  | [], _ => none
  | x :: _, 0 => some x
  | _ :: l, n + 1 => nth l n

def setN {α : Type} : List α → Nat → α → List α
  | [], _, _ => []
  | _ :: l, 0, v => v :: l
  | x :: l, n + 1, v => x :: setN l n v

def takeN {α : Type} : Nat → List α → List α
  | 0, _ => []
  | _ + 1, [] => []
  | n + 1, x :: l => x :: takeN n l

def dropN {α : Type} : Nat → List α → List α
  | 0, l => l
  | _ + 1, [] => []
  | n + 1, _ :: l => dropN n l

def lenN {α : Type} : List α → Nat
  | [] => 0
  | _ :: l => lenN l + 1

/-- Writes a run of cells. -/
def putN {α : Type} : List α → Nat → List α → List α
  | l, _, [] => l
  | l, off, v :: vs => putN (setN l off v) (off + 1) vs

def hasN (x : Nat) : List Nat → Bool
  | [] => false
  | y :: l => y == x || hasN x l

def subN : List Nat → List Nat → Bool
  | [], _ => true
  | x :: l, t => hasN x t && subN l t

def SV.cells : SV → List SV
  | .agg cs => cs
  | v => [v]

/-- One cell. -/
def oneB : SV → Bool
  | .agg _ | .tup _ | .clo .. => false
  | .raw v => v.oneCell'
  | _ => true
def onesB : List SV → Bool
  | [] => true
  | c :: cs => oneB c && onesB cs

def ofConst : Value → Option SV
  | .int k n => some (.int k (.l n))
  | .bool b => some (.bool (.l b))
  | .string s => some (.str s.data.toList)
  | .pointer none => some .nilp
  | .slice none 0 0 => some (.sl (.l true) (.l 0) 0 fun _ => [])
  | .nilIface => some (.raw .nilIface)
  | .nilFunc => some (.raw .nilFunc)
  | .tuple vs => if vs.size == 0 then some (.tup []) else none
  | _ => none

def rd (cx : Cx) (σ : Sy) (T : List Nat) : Operand → Option SV
  | .tmp s =>
    match getO σ.fr s with
    | some g => if subN g.tg T then some g.v else none
    | none => none
  | .const v => ofConst v
  | .global g => look g cx.gl
  | .func f => some (.fn f)

/-! ### what the executor asks, each as a thing of its own (so that evaluation leaves it alone) -/

structure InB (i n : Int) : Prop where
  lo : 0 ≤ i
  hi : i < n
structure LtB (j : Nat) (n : Int) : Prop where
  h : (j : Int) < n
structure IsJ (j : Nat) (i : Int) : Prop where
  h : (j : Int) = i
structure NZ (i : Int) : Prop where
  h : i ≠ 0
structure NN (i : Int) : Prop where
  h : 0 ≤ i
structure StrFit (a b : List UInt8) : Prop where
  h : (a.length : Int) + b.length ≤ 9223372036854775807
structure MkFit (c : Int) (bytes : Nat) : Prop where
  lo : 0 ≤ c
  mem : c * bytes ≤ 140737488355328
  hi : c ≤ 9223372036854775807
structure AppNew (m : Int) (bytes : Nat) : Prop where
  mem : m * bytes ≤ 140737488355328
  hi : m ≤ 9223372036854775807
structure AppFit (n n0 m : Int) (bytes : Nat) : Prop where
  eq : n = n0
  mem : (n + m) * bytes ≤ 140737488355328
  hi : n + m ≤ 9223372036854775807
structure SubB (a b n : Int) : Prop where
  lo : 0 ≤ a
  le : a ≤ b
  hi : b ≤ n
structure SubS (a b : Int) (s : List UInt8) : Prop where
  lo : 0 ≤ a
  le : a ≤ b
  hi : b ≤ s.length
structure InS (i : Int) (s : List UInt8) : Prop where
  lo : 0 ≤ i
  hi : i < s.length
structure CatOf (r a b : List UInt8) : Prop where
  h : r = a ++ b
structure SubOf (r s : List UInt8) (a b : Int) : Prop where
  h : r = (s.drop a.toNat).take (b.toNat - a.toNat)
structure ByteOf (c : Int) (s : List UInt8) (i : Int) : Prop where
  h : c = ((s.getD i.toNat 0).toNat : Int)
structure EqN (n n0 : Int) : Prop where
  h : n = n0
structure MaxOf (r a b : Int) : Prop where
  h : r = max a b
structure MinOf (r a b : Int) : Prop where
  h : r = min a b
structure Copied (f' : Nat → List SV) (r m n : Int) (g f : Nat → List SV) : Prop where
  len : r = min m n
  lo : ∀ i : Nat, (i : Int) < r → f' i = g i
  hi : ∀ i : Nat, r ≤ (i : Int) → (i : Int) < n → f' i = f i
structure SubRow (f' : Nat → List SV) (n' : Int) (f : Nat → List SV) (a b : Int) : Prop where
  len : n' = b - a
  row : ∀ i j : Nat, (j : Int) = i + a → f' i = f j
structure SetAt (f' f : Nat → List SV) (j : Nat) (cs : List SV) : Prop where
  at_ : f' j = cs
  other : ∀ i : Nat, i ≠ j → f' i = f i
structure NewRow (f' : Nat → List SV) (n' m : Int) (g : Nat → List SV) : Prop where
  len : n' = m
  row : ∀ j : Nat, (j : Int) < m → f' j = g j
structure MoreRow (f' : Nat → List SV) (n' n m : Int) (f g : Nat → List SV) : Prop where
  len : n' = n + m
  lo : ∀ i : Nat, (i : Int) < n → f' i = f i
  hi : ∀ i j : Nat, (i : Int) = n + j → (j : Int) < m → f' i = g j
/-- The same row as far as it goes. -/
structure RowAs (n : Int) (f2 f : Nat → List SV) : Prop where
  h : ∀ i : Nat, (i : Int) < n → f2 i = f i
structure Built (f : Nat → List SV) (rows : List (List SV)) : Prop where
  h : ∀ (i : Nat) (r : List SV), rows[i]? = some r → f i = r
def allCat (a b : List UInt8) (K : List UInt8 → Prop) : Prop := ∀ r, CatOf r a b → K r
def allSubS (s : List UInt8) (a b : Int) (K : List UInt8 → Prop) : Prop := ∀ r, SubOf r s a b → K r
def allByte (s : List UInt8) (i : Int) (K : Int → Prop) : Prop := ∀ c, ByteOf c s i → K c
def allMax (a b : Int) (K : Int → Prop) : Prop := ∀ r, MaxOf r a b → K r
def allMin (a b : Int) (K : Int → Prop) : Prop := ∀ r, MinOf r a b → K r
def allCopy (m n : Int) (g f : Nat → List SV) (K : (Nat → List SV) → Int → Prop) : Prop := ∀ f' r, Copied f' r m n g f → K f' r
def allSub (f : Nat → List SV) (a b : Int) (K : (Nat → List SV) → Int → Prop) : Prop := ∀ f' n', SubRow f' n' f a b → K f' n'
def allSet (f : Nat → List SV) (j : Nat) (cs : List SV) (K : (Nat → List SV) → Prop) : Prop := ∀ f', SetAt f' f j cs → K f'
def allNew (m : Int) (g : Nat → List SV) (K : (Nat → List SV) → Int → Prop) : Prop := ∀ f' n', NewRow f' n' m g → K f' n'
def allMore (n m : Int) (f g : Nat → List SV) (K : (Nat → List SV) → Int → Prop) : Prop := ∀ f' n', MoreRow f' n' n m f g → K f' n'
def allBuilt (rows : List (List SV)) (K : (Nat → List SV) → Prop) : Prop := ∀ f, Built f rows → K f

/-- The rows of a string's bytes. -/
def byteRow (s : List UInt8) (i : Nat) : List SV := [.int .u8 (.a ((s.getD i 0).toNat : Int))]

/-- A row of bytes. -/
structure ByteRow (n : Int) (f : Nat → List SV) : Prop where
  nn : 0 ≤ n
  h : ∀ i : Nat, (i : Int) < n → ∃ t : ST, f i = [.int .u8 t] ∧ 0 ≤ t.den ∧ t.den < 256
/-- The string of a row of bytes. -/
structure StrRow (r : List UInt8) (n : Int) (f : Nat → List SV) : Prop where
  len : (r.length : Int) = n
  row : ∀ (i : Nat) (t : ST), (i : Int) < n → f i = [.int .u8 t] → ((r.getD i 0).toNat : Int) = t.den

structure SFit (s : List UInt8) : Prop where
  h : s.length ≤ 9223372036854775807
structure BytesOf (f : Nat → List SV) (s : List UInt8) : Prop where
  h : f = byteRow s
def allBytes (s : List UInt8) (K : (Nat → List SV) → Prop) : Prop := ∀ f, BytesOf f s → K f
def allStr (n : Int) (f : Nat → List SV) (K : List UInt8 → Prop) : Prop := ∀ r, StrRow r n f → K r

/-- An obligation under guards. -/
def Ob (D : Dn) (gm : List BT) : List Nat → Prop → Prop
  | [], A => A
  | i :: T, A => match nth gm i with
    | some b => D.b b = true → Ob D gm T A
    | none => Ob D gm T A

def allJ (D : Dn) (gm : List BT) (T : List Nat) (i : Int) (K : Nat → Prop) : Prop :=
  match T with
  | [] => ∀ j, IsJ j i → K j
  | T => ∀ j, Ob D gm T (IsJ j i) → K j

/-- Changes of the heap. -/
inductive Ef where
  | set (h off : Nat) (vs : List SV)
  | put (h : Nat) (hl : Hl)

def putH (hp : List Hl) (h : Nat) (hl : Hl) : List Hl :=
  if h == lenN hp then hp ++ [hl] else setN hp h hl

def efH (hp : List Hl) : Ef → List Hl
  | .set h off vs =>
    match nth hp h with
    | some (.blk ty cs) => setN hp h (.blk ty (putN cs off vs))
    | _ => hp
  | .put h hl => putH hp h hl

def efsH (hp : List Hl) : List Ef → List Hl
  | [] => hp
  | e :: es => efsH (efH hp e) es

structure Out where
  v : SV
  efs : List Ef
  rds : List Nat     -- heaplets read whole
  rdc : List (Nat × Nat × Nat)   -- cells read: heaplet, from, how many

def size? (cx : Cx) (t : TypeId) : Option Nat := (look t cx.tt).map (·.size)

def isAgg? (cx : Cx) (t : TypeId) : Bool :=
  match look t cx.tt with
  | some ⟨.struct _, _, _, _⟩ | some ⟨.array _ _, _, _, _⟩ => true
  | _ => false

/-- A value of so many cells. -/
def pack (agg : Bool) (cs : List SV) : Option SV :=
  if agg then some (.agg cs) else match cs with
    | [c] => some c
    | _ => none

def field? (cx : Cx) (t : TypeId) (i : Nat) : Option (Nat × TypeId) :=
  match look t cx.tt with
  | some ⟨.struct fs, _, _, _⟩ => nth fs i
  | _ => none

def fillP (cx : Cx) (t : TypeId) (cs : List SV) : List (Nat × SV) → Option (List SV)
  | [] => some cs
  | (i, v) :: ps =>
    match look t cx.tt with
    | some ⟨.struct fs, _, _, _⟩ =>
      match nth fs i with
      | some (off, ft) => match size? cx ft with
        | some n => if lenN v.cells == n && Nat.ble (off + n) (lenN cs) then fillP cx t (putN cs off v.cells) ps else none
        | none => none
      | none => none
    | some ⟨.array _ e, _, _, _⟩ =>
      match size? cx e with
      | some n => if lenN v.cells == n && Nat.ble (i * n + n) (lenN cs) then fillP cx t (putN cs (i * n) v.cells) ps else none
      | none => none
    | _ => none

def rdParts (cx : Cx) (σ : Sy) (T : List Nat) : List (Nat × Operand) → Option (List (Nat × SV))
  | [] => some []
  | (i, x) :: ps => match rd cx σ T x, rdParts cx σ T ps with
    | some v, some vs => some ((i, v) :: vs)
    | _, _ => none

/-- A nil slice of a type: with the size of its elements. -/
def nilSz (cx : Cx) (t : TypeId) : SV → SV
  | .sl (.l true) (.l 0) 0 f => match look t cx.tt with
    | some ⟨.slice e, _, _, _⟩ => match size? cx e with
      | some n => .sl (.l true) (.l 0) n fun _ => []
      | none => .sl (.l true) (.l 0) 0 f
    | _ => .sl (.l true) (.l 0) 0 f
  | v => v

def rdT (cx : Cx) (σ : Sy) (T : List Nat) (t : TypeId) (x : Operand) : Option SV :=
  match rd cx σ T x with
  | some v => some (nilSz cx t v)
  | none => none

def rdAll (cx : Cx) (σ : Sy) (T : List Nat) : List Operand → List TypeId → Option (List SV)
  | [], _ => some []
  | x :: xs, t :: ts => match rdT cx σ T t x, rdAll cx σ T xs ts with
    | some v, some vs => some (v :: vs)
    | _, _ => none
  | x :: xs, [] => match rd cx σ T x, rdAll cx σ T xs [] with
    | some v, some vs => some (v :: vs)
    | _, _ => none

/-- Integers and truth values as atoms. -/
def norm (D : Dn) : SV → SV
  | .int k t => .int k (.a (D.i t))
  | .bool b => .bool (.a (D.b b))
  | .sl nl n sz f => .sl (.a (D.b nl)) (.a (D.i n)) sz f
  | .gsl nl n sz f h => .gsl (.a (D.b nl)) (.a (D.i n)) sz f h
  | .osl nl n h => .osl (.a (D.b nl)) (.a (D.i n)) h
  | .optr n h j off => .optr (.a (D.i n)) h j off
  | .agg cs => .agg (normL D cs)
  | .tup vs => .tup (normL D vs)
  | .clo f vs => .clo f (normL D vs)
  | v => v
 where normL (D : Dn) : List SV → List SV
  | [] => []
  | c :: cs => norm D c :: normL D cs

/-- Without the hold on the tail of a growing slice. -/
def loose : SV → SV
  | .gsl nl n sz f _ => .sl nl n sz f
  | .agg cs => .agg (looseL cs)
  | .tup vs => .tup (looseL vs)
  | .clo f vs => .clo f (looseL vs)
  | v => v
 where looseL : List SV → List SV
  | [] => []
  | c :: cs => loose c :: looseL cs

end Go.Sx
/- The executor: one operation, a region, a body. -/
namespace Go.Sx

def out (K : Out → Prop) (v : SV) : Prop := K ⟨v, [], [], []⟩
def outO (K : Out → Prop) : Option SV → Prop
  | some v => K ⟨v, [], [], []⟩
  | none => False

def arith : BinOp → Bool
  | .add | .sub | .mul | .and | .or | .xor | .andNot => true
  | _ => false
def isCmp : BinOp → Bool
  | .eql | .neq | .lss | .leq | .gtr | .geq => true
  | _ => false

def cmpT (op : BinOp) : ST → ST → BT
  | .l m, .l n => .l (cmpDen op m n)
  | x, y => .cmp op x y

def notT : BT → BT
  | .l b => .l (!b)
  | x => .not x

def binT (op : BinOp) (k : IntKind) : ST → ST → ST
  | .l m, .l n => .l (binDen op k m n)
  | x, y => .bin op k x y

def andT : BT → BT → BT
  | .l true, y => y
  | x, .l true => x
  | x, y => .and x y

def eqFs (cx : Cx) (g : TypeId → List SV → List SV → Option BT) (xs ys : List SV) : List (Nat × TypeId) → Option BT
  | [] => some (.l true)
  | (fo, ft) :: fs =>
    match size? cx ft with
    | some m => match g ft (takeN m (dropN fo xs)) (takeN m (dropN fo ys)), eqFs cx g xs ys fs with
      | some a, some b => some (andT a b)
      | _, _ => none
    | none => none

/-- Equality of two rows of cells of a type, as one term. -/
def eqBT (cx : Cx) : Nat → TypeId → List SV → List SV → Option BT
  | 0, _, _, _ => none
  | n + 1, t, xs, ys =>
    match look t cx.tt with
    | some ⟨.int _, _, _, _⟩ => match xs, ys with
      | [.int k a], [.int k' b] => if k = k' then some (cmpT .eql a b) else none
      | _, _ => none
    | some ⟨.bool, _, _, _⟩ => match xs, ys with
      | [.bool a], [.bool b] => some (.beq a b)
      | _, _ => none
    | some ⟨.string, _, _, _⟩ => match xs, ys with
      | [.str a], [.str b] => some (.seq a b)
      | _, _ => none
    | some ⟨.struct fs, _, _, _⟩ => if hasN t cx.eqs then eqFs cx (eqBT cx n) xs ys fs else none
    | _ => none

/-- Two strings are equal; of literals, where a function's ghosts ask for it, reckoned at once. -/
def seqS (cx : Cx) (a b : List UInt8) : BT :=
  match look 999984 cx.gh with
  | some _ => .l (a == b)
  | none => .seq a b

def stepBin (cx : Cx) (gm : List BT) (T : List Nat) (op : BinOp) (t : TypeId) (x y : SV) (K : Out → Prop) : Prop :=
  match x, y with
  | .int k a, .int k' b =>
    if arith op then (if k = k' then out K (.int k (binT op k a b)) else False)
    else if isCmp op then (if k = k' then out K (.bool (cmpT op a b)) else False)
    else match op with
      | .quo | .rem => if k = k' then Ob cx.D gm T (NZ (cx.D.i b)) ∧ out K (.int k (.bin op k a b)) else False
      | .shl | .shr => Ob cx.D gm T (NN (cx.D.i b)) ∧ out K (.int k (.bin op k a b))
      | _ => False
  | .bool a, .bool b =>
    match op, look t cx.tt with
    | .eql, some ⟨.bool, _, _, _⟩ => out K (.bool (.beq a b))
    | .neq, some ⟨.bool, _, _, _⟩ => out K (.bool (.not (.beq a b)))
    | _, _ => False
  | .str a, .str b =>
    match op with
    | .add => Ob cx.D gm T (StrFit a b) ∧ allCat a b fun r => out K (.str r)
    | .eql => out K (.bool (seqS cx a b))
    | .neq => out K (.bool (notT (seqS cx a b)))
    | _ => False
  | .agg a, .agg b =>
    match op, hasN t cx.eqs && isAgg? cx t, eqBT cx 8 t a b with
    | .eql, true, some c => out K (.bool c)
    | .neq, true, some c => out K (.bool (notT c))
    | _, _, _ => False
  | _, _ => False

/-- No pointer to a heaplet, nor a hold on a tail, among these cells. -/
def plainV : SV → Bool
  | .ptr .. | .gsl .. | .mrow .. | .mptr .. | .clo .. | .osl .. | .optr .. => false
  | .agg cs => plainL cs
  | .tup cs => plainL cs
  | _ => true
 where plainL : List SV → Bool
  | [] => true
  | c :: cs => plainV c && plainL cs

/-- What may be passed by a pointer. -/
def passP : Hl → Bool
  | .blk .. | .bld .. => true
  | _ => false
/-- What may be passed by an owned slice. -/
def passO : Hl → Bool
  | .own .. => true
  | _ => false

/-- The arguments of a call for its contract: pointers numbered in order, what they point to; no hold on tails. -/
def capsOf (hp : List Hl) : List SV → Nat → Option (List SV × List Nat × List Hl)
  | [], _ => some ([], [], [])
  | .ptr h off :: vs, n => match nth hp h, capsOf hp vs (n + 1) with
    | some l, some (as, hs, ls) => if passP l && !hasN h hs then some (.ptr n off :: as, h :: hs, l :: ls) else none
    | _, _ => none
  | v :: vs, n => match plainV v, capsOf hp vs n with
    | true, some (as, hs, ls) => some (v :: as, hs, ls)
    | _, _ => none

def apartN : List Nat → List Nat → Bool
  | [], _ => true
  | x :: l, t => !hasN x t && apartN l t

/-- So of a function value too: what it has captured is passed on; of owned slices too. -/
def argsOf (hp : List Hl) : List SV → Nat → Option (List SV × List Nat × List Hl)
  | [], _ => some ([], [], [])
  | .ptr h off :: vs, n => match nth hp h, argsOf hp vs (n + 1) with
    | some l, some (as, hs, ls) => if passP l && !hasN h hs then some (.ptr n off :: as, h :: hs, l :: ls) else none
    | _, _ => none
  | .osl nl m h :: vs, n => match nth hp h, argsOf hp vs (n + 1) with
    | some l, some (as, hs, ls) => if passO l && !hasN h hs then some (.osl nl m n :: as, h :: hs, l :: ls) else none
    | _, _ => none
  | .clo f cs :: vs, n => match capsOf hp cs n with
    | some (as1, hs1, ls1) => match argsOf hp vs (n + lenN hs1) with
      | some (as, hs, ls) => if apartN hs1 hs then some (.clo f as1 :: as, hs1 ++ hs, ls1 ++ ls) else none
      | none => none
    | none => none
  | v :: vs, n => match plainV v, argsOf hp vs n with
    | true, some (as, hs, ls) => some (v :: as, hs, ls)
    | _, _ => none

def backEfs : List Nat → List Hl → List Ef
  | h :: hs, l :: ls => .put h l :: backEfs hs ls
  | _, _ => []

def plainH : List Hl → Bool
  | [] => true
  | .blk _ cs :: ls => plainV (.agg cs) && plainH ls
  | .own .. :: ls => plainH ls
  | .bld .. :: ls => plainH ls
  | .gone :: ls => plainH ls
  | _ :: _ => false

def normH (D : Dn) : List Hl → List Hl
  | [] => []
  | .blk ty cs :: ls => .blk ty (looseL (norm.normL D cs)) :: normH D ls
  | .own ty n sz gr f :: ls => .own ty (.a (D.i n)) sz gr f :: normH D ls
  | l :: ls => l :: normH D ls
 where looseL := loose.looseL

/-- What is handed back: plain, but for owned slices of heaplets from m on. -/
def resV (m m' : Nat) : SV → Bool
  | .osl _ _ h => Nat.ble m h && Nat.blt h m'
  | .tup vs => resL m m' vs
  | v => plainV v
 where resL (m m' : Nat) : List SV → Bool
  | [] => true
  | c :: cs => resV m m' c && resL m m' cs

/-- Renumbered: from m on to a on. -/
def reV (m a : Nat) : SV → SV
  | .osl nl n h => .osl nl n (h - m + a)
  | .tup vs => .tup (reL m a vs)
  | v => v
 where reL (m a : Nat) : List SV → List SV
  | [] => []
  | c :: cs => reV m a c :: reL m a cs

def newEfs : Nat → List Hl → List Ef
  | _, [] => []
  | a, l :: ls => .put a l :: newEfs (a + 1) ls

/-- A row of bytes as a string. -/
def stepStr (cx : Cx) (σ : Sy) (T : List Nat) (e : TypeId) (n : ST) (f : Nat → List SV) (K : Out → Prop) : Prop :=
  match T, look e cx.tt with
  | [], some ⟨.int .u8, _, _, _⟩ => ByteRow (cx.D.i n) f ∧ allStr (cx.D.i n) f fun r => out K (.str r)
  | _, _ => False

def stepCall (cx : Cx) (σ : Sy) (T : List Nat) (f : FuncId) (vs : List SV) (K : Out → Prop) : Prop :=
  match look f cx.tab, argsOf σ.hp (loose.looseL (norm.normL cx.D vs)) 0 with
  | some sp, some (as, hs, ls) =>
    if plainH (normH cx.D ls) && (hs.isEmpty || T.isEmpty) then
      sp cx.D as (normH cx.D ls) fun r ls' => resV (lenN ls) (lenN ls') r = true ∧ plainH ls' = true ∧ Nat.ble (lenN ls) (lenN ls') = true ∧
        K ⟨reV (lenN ls) (lenN σ.hp) r, backEfs hs (takeN (lenN ls) ls') ++ newEfs (lenN σ.hp) (dropN (lenN ls) ls'), hs, []⟩
    else False
  | _, _ => False

def onesP : List (Nat × SV) → Bool
  | [] => true
  | p :: ps => onesB p.2.cells && onesP ps

def stepMove (cx : Cx) (σ : Sy) (T : List Nat) (ty : TypeId) (x : Operand) (K : Out → Prop) : Prop :=
  match x with
  | .const (.slice none 0 0) =>
    match look ty cx.tt with
    | some ⟨.slice e, _, _, _⟩ => match size? cx e with
      | some n => out K (.sl (.l true) (.l 0) n fun _ => [])
      | none => False
    | _ => False
  | x => outO K (rd cx σ T x)

def rowOf (sz : Nat) : SV → Option (ST × (Nat → List SV))
  | .sl _ m sz' g => if sz' == sz then some (m, g) else none
  | .gsl _ m sz' g _ => if sz' == sz then some (m, g) else none
  | _ => none

/-- A slice that grows: from nothing, or by the hold on its tail. -/
def appendTo (cx : Cx) (σ : Sy) (base src : SV) (e sz bytes : Nat) (K : Out → Prop) : Prop :=
  match rowOf sz src with
  | some (m, g) =>
    match base with
    | .sl (.l true) (.l 0) _ _ =>
      AppNew (cx.D.i m) bytes ∧ allNew (cx.D.i m) g fun f' n' =>
        K ⟨.gsl (cmpT .eql m (.l 0)) (.a n') sz f' (lenN σ.hp), [.put (lenN σ.hp) (.tail e (.a n') sz)], [], []⟩
    | .gsl nl n sz' f h =>
      match nth σ.hp h with
      | some (.tail e' n0 sz'') =>
        if sz' == sz && sz'' == sz && e' == e then
          AppFit (cx.D.i n) (cx.D.i n0) (cx.D.i m) bytes ∧ allMore (cx.D.i n) (cx.D.i m) f g fun f' n' => K ⟨.gsl (andT nl (cmpT .eql m (.l 0))) (.a n') sz f' h, [.put h (.tail e (.a n') sz)], [h], []⟩
        else False
      | _ => False
    | .osl nl n h =>
      match nth σ.hp h with
      | some (.own e' n0 sz'' true f) =>
        if sz'' == sz && e' == e then
          AppFit (cx.D.i n) (cx.D.i n0) (cx.D.i m) bytes ∧ allMore (cx.D.i n) (cx.D.i m) f g fun f' n' => K ⟨.osl (andT nl (cmpT .eql m (.l 0))) (.a n') h, [.put h (.own e (.a n') sz true f')], [h], []⟩
        else False
      | _ => False
    | _ => False
  | none => False

def chunks (sz : Nat) : Nat → List SV → List (List SV)
  | 0, _ => []
  | n + 1, cs => takeN sz cs :: chunks sz n (dropN sz cs)

def stepBuildSlice (cx : Cx) (σ : Sy) (T : List Nat) (t : TypeId) (len : Nat) (ps : List (Nat × Operand)) (K : Out → Prop) : Prop :=
  match T, look t cx.tt, rdParts cx σ T ps with
  | [], some ⟨.slice e, _, _, _⟩, some vs =>
    match look e cx.tt with
    | some te =>
      match onesP vs, fillS te.size (repN len te.zero) vs with
      | true, some cs =>
        if plainV (.agg (loose.looseL (norm.normL cx.D cs))) && Nat.blt 0 te.size && Nat.ble (len * te.size) 16777216 then
          allBuilt (chunks te.size len (loose.looseL (norm.normL cx.D cs))) fun f => K ⟨.gsl (.l false) (.l len) te.size f (lenN σ.hp), [.put (lenN σ.hp) (.tail e (.l len) te.size)], [], []⟩
        else False
      | _, _ => False
    | none => False
  | _, _, _ => False
 where
  repN : Nat → List SV → List SV
    | 0, _ => []
    | n + 1, z => z ++ repN n z
  fillS (sz : Nat) (cs : List SV) : List (Nat × SV) → Option (List SV)
    | [] => some cs
    | (i, v) :: ps => if lenN v.cells == sz && Nat.ble (i * sz + sz) (lenN cs) then fillS sz (putN cs (i * sz) v.cells) ps else none

def sameOp : Operand → Operand → Bool
  | .tmp i, .tmp j => i == j
  | _, _ => false

def stepMake (cx : Cx) (σ : Sy) (T : List Nat) (t : TypeId) (len cap : SV) (same : Bool) (K : Out → Prop) : Prop :=
  match T, look t cx.tt with
  | [], some ⟨.slice e, _, _, _⟩ =>
    match look e cx.tt, len, cap with
    | some te, .int .i64 (.l 0), .int _ c =>
      if Nat.blt 0 te.size then
        MkFit (cx.D.i c) te.bytes ∧ K ⟨.gsl (.l false) (.l 0) te.size (fun _ => []) (lenN σ.hp), [.put (lenN σ.hp) (.tail e (.l 0) te.size)], [], []⟩
      else False
    | some te, .int _ n, .int _ _ =>
      if same && Nat.blt 0 te.size then
        MkFit (cx.D.i n) te.bytes ∧ K ⟨.mrow (lenN σ.hp), [.put (lenN σ.hp) (.row e (.a (cx.D.i n)) te.size fun _ => te.zero)], [], []⟩
      else False
    | _, _, _ => False
  | _, _ => False

def stepCopy (cx : Cx) (σ : Sy) (T : List Nat) (t : TypeId) (dst src : SV) (K : Out → Prop) : Prop :=
  match T, look t cx.tt, dst with
  | [], some ⟨.slice e, _, _, _⟩, .mrow h =>
    match nth σ.hp h, size? cx e with
    | some (.row ty n sz f), some sz'' =>
      match rowOf sz src, sz'' == sz with
      | some (m, g), true =>
        allCopy (cx.D.i m) (cx.D.i n) g f fun f' r =>
          K ⟨.int .i64 (.a r), [.put h (.row ty n sz f')], [h], []⟩
      | _, _ => False
    | _, _ => False
  | _, _, _ => False

def optRd (cx : Cx) (σ : Sy) (T : List Nat) : Option Operand → Option (Option SV)
  | none => some none
  | some x => match rd cx σ T x with
    | some v => some (some v)
    | none => none

def boundOr (d : ST) : Option SV → Option ST
  | none => some d
  | some (.int _ a) => some a
  | _ => none

/-- A part of a slice or a string. -/
def stepSlice (cx : Cx) (σ : Sy) (T : List Nat) (t : TypeId) (x : SV) (lo hi : Option SV) (K : Out → Prop) : Prop :=
  match boundOr (.l 0) lo with
  | some a =>
    match x, look t cx.tt with
    | .sl nl n sz f, some ⟨.slice e, _, _, _⟩ => onRow nl n sz f e a
    | .gsl nl n sz f _, some ⟨.slice e, _, _, _⟩ => onRow nl n sz f e a
    | .str s, some ⟨.string, _, _, _⟩ =>
      match boundOr (.len s) hi with
      | some b => Ob cx.D σ.gm T (SubS (cx.D.i a) (cx.D.i b) s) ∧ allSubS s (cx.D.i a) (cx.D.i b) fun r => out K (.str r)
      | none => False
    | _, _ => False
  | none => False
 where onRow (nl : BT) (n : ST) (sz : Nat) (f : Nat → List SV) (e : TypeId) (a : ST) : Prop :=
  match boundOr n hi with
  | some b =>
    if size? cx e = some sz then
      Ob cx.D σ.gm T (SubB (cx.D.i a) (cx.D.i b) (cx.D.i n)) ∧ allSub f (cx.D.i a) (cx.D.i b) fun f' n' => out K (.sl nl (.a n') sz f')
    else False
  | none => False

def splitJ (i : Int) (F : Nat → Prop) : Nat → Nat → Prop
  | 0, _ => True
  | n + 1, j => (IsJ j i → F j) ∧ splitJ i F n (j + 1)

/-- An element of an array in a block. -/
def stepIxArr (cx : Cx) (T : List Nat) (h off n sz : Nat) (i : ST) (K : Out → Prop) : Prop :=
  match i with
  | .l (.ofNat k) => if Nat.blt k n then out K (.ptr h (off + k * sz)) else False
  | i => match T with
    | [] => InB (cx.D.i i) n ∧ splitJ (cx.D.i i) (fun j => out K (.ptr h (off + j * sz))) n 0
    | _ => False

def stepOp (cx : Cx) (σ : Sy) (T : List Nat) (o : Oper) (K : Out → Prop) : Prop :=
  match o.op with
  | .move x | .assign x => stepMove cx σ T o.type x K
  | .alloc e =>
    match T, look e cx.tt with
    | [], some ti => K ⟨.ptr (lenN σ.hp) 0, [.put (lenN σ.hp) (.blk e ti.zero)], [], []⟩
    | _, _ => False
  | .box e x =>
    match T, look e cx.tt, rd cx σ T x with
    | [], some ti, some v => if lenN v.cells == ti.size && onesB v.cells then K ⟨.ptr (lenN σ.hp) 0, [.put (lenN σ.hp) (.blk e v.cells)], [], []⟩ else False
    | _, _, _ => False
  | .build t ps =>
    match look t cx.tt, rdParts cx σ T ps.toList with
    | some ti, some vs => match onesP vs, fillP cx t ti.zero vs, ti.k with
      | true, some cs, .struct _ => out K (.agg cs)
      | true, some cs, .array _ e => match size? cx e with
        | some _ => out K (.agg cs)
        | none => False
      | _, _, _ => False
    | _, _ => False
  | .load t a =>
    match rd cx σ T a, size? cx t with
    | some (.ptr h off), some n =>
      match nth σ.hp h with
      | some (.blk _ cs) => if Nat.ble (off + n) (lenN cs) then
          match pack (isAgg? cx t) (takeN n (dropN off cs)) with
          | some v => K ⟨v, [], [], [(h, off, n)]⟩
          | none => False
        else False
      | _ => False
    | some (.rptr cs), some n => if Nat.ble n (lenN cs) then outO K (pack (isAgg? cx t) (takeN n cs)) else False
    | some (.mptr h j off), some n =>
      match nth σ.hp h with
      | some (.row _ m sz f) => Ob cx.D σ.gm T (LtB j (cx.D.i m)) ∧
        if Nat.ble (off + n) (lenN (f j)) then
          match pack (isAgg? cx t) (takeN n (dropN off (f j))) with
          | some v => K ⟨v, [], [h], []⟩
          | none => False
        else False
      | _ => False
    | some (.optr m' h j off), some n =>
      match nth σ.hp h with
      | some (.own _ m sz _ f) => Ob cx.D σ.gm T (EqN (cx.D.i m') (cx.D.i m)) ∧ Ob cx.D σ.gm T (LtB j (cx.D.i m)) ∧
        if Nat.ble (off + n) (lenN (f j)) then
          match pack (isAgg? cx t) (takeN n (dropN off (f j))) with
          | some v => K ⟨v, [], [h], []⟩
          | none => False
        else False
      | _ => False
    | _, _ => False
  | .store t a x =>
    match T, rd cx σ T a, rdT cx σ T t x, size? cx t with
    | [], some (.ptr h off), some v, some n =>
      match nth σ.hp h with
      | some (.blk _ cs) => if lenN v.cells == n && Nat.ble (off + n) (lenN cs) && onesB v.cells then K ⟨.tup [], [.set h off v.cells], [], []⟩ else False
      | _ => False
    | [], some (.mptr h j off), some v, some n =>
      match nth σ.hp h with
      | some (.row ty m sz f) => LtB j (cx.D.i m) ∧
        if lenN v.cells == n && Nat.ble (off + n) (lenN (f j)) && onesB v.cells && plainV (.agg (loose.looseL (norm.normL cx.D v.cells))) then
          allSet f j (putN (f j) off (loose.looseL (norm.normL cx.D v.cells))) fun f' => K ⟨.tup [], [.put h (.row ty m sz f')], [h], []⟩
        else False
      | _ => False
    | [], some (.optr m' h j off), some v, some n =>
      match nth σ.hp h with
      | some (.own ty m sz gr f) => EqN (cx.D.i m') (cx.D.i m) ∧ LtB j (cx.D.i m) ∧
        if lenN v.cells == n && Nat.ble (off + n) (lenN (f j)) && onesB v.cells && plainV (.agg (loose.looseL (norm.normL cx.D v.cells))) then
          allSet f j (putN (f j) off (loose.looseL (norm.normL cx.D v.cells))) fun f' => K ⟨.tup [], [.put h (.own ty m sz gr f')], [h], []⟩
        else False
      | _ => False
    | _, _, _, _ => False
  | .fieldAddr t x i =>
    match rd cx σ T x, field? cx t i with
    | some (.ptr h off), some (fo, ft) => match size? cx ft with
      | some (_ + 1) => out K (.ptr h (off + fo))
      | _ => False
    | some (.rptr cs), some (fo, ft) => match size? cx ft with
      | some (m + 1) => if Nat.ble (fo + (m + 1)) (lenN cs) then out K (.rptr (takeN (m + 1) (dropN fo cs))) else False
      | _ => False
    | some (.mptr h j off), some (fo, ft) => match size? cx ft with
      | some (_ + 1) => out K (.mptr h j (off + fo))
      | _ => False
    | some (.optr n h j off), some (fo, ft) => match size? cx ft with
      | some (_ + 1) => out K (.optr n h j (off + fo))
      | _ => False
    | _, _ => False
  | .nilCheck x =>
    match rd cx σ T x with
    | some (.ptr h off) => out K (.ptr h off)
    | some (.rptr cs) => out K (.rptr cs)
    | some (.mptr h j off) => out K (.mptr h j off)
    | some (.optr n h j off) => out K (.optr n h j off)
    | some (.rarr n sz f) => out K (.rarr n sz f)
    | _ => False
  | .field t x i =>
    match rd cx σ T x, field? cx t i with
    | some (.agg cs), some (fo, ft) => match size? cx ft with
      | some m => if Nat.ble (fo + m) (lenN cs) then outO K (pack (isAgg? cx ft) (takeN m (dropN fo cs))) else False
      | _ => False
    | _, _ => False
  | .indexAddr t x ix =>
    match rd cx σ T x, rd cx σ T ix, look t cx.tt with
    | some (.sl _ n sz f), some (.int _ i), some ⟨.slice e, _, _, _⟩ =>
      if size? cx e = some sz then
        Ob cx.D σ.gm T (InB (cx.D.i i) (cx.D.i n)) ∧ allJ cx.D σ.gm T (cx.D.i i) fun j => out K (.rptr (f j))
      else False
    | some (.gsl _ n sz f _), some (.int _ i), some ⟨.slice e, _, _, _⟩ =>
      if size? cx e = some sz then
        Ob cx.D σ.gm T (InB (cx.D.i i) (cx.D.i n)) ∧ allJ cx.D σ.gm T (cx.D.i i) fun j => out K (.rptr (f j))
      else False
    | some (.mrow h), some (.int _ i), some ⟨.slice e, _, _, _⟩ =>
      match nth σ.hp h with
      | some (.row _ n sz _) =>
        if size? cx e = some sz then
          Ob cx.D σ.gm T (InB (cx.D.i i) (cx.D.i n)) ∧ allJ cx.D σ.gm T (cx.D.i i) fun j => K ⟨.mptr h j 0, [], [h], []⟩
        else False
      | _ => False
    | some (.osl _ m h), some (.int _ i), some ⟨.slice e, _, _, _⟩ =>
      match nth σ.hp h with
      | some (.own _ n sz _ _) =>
        if size? cx e = some sz then
          Ob cx.D σ.gm T (EqN (cx.D.i m) (cx.D.i n)) ∧ Ob cx.D σ.gm T (InB (cx.D.i i) (cx.D.i n)) ∧ allJ cx.D σ.gm T (cx.D.i i) fun j => K ⟨.optr m h j 0, [], [h], []⟩
        else False
      | _ => False
    | some (.ptr h off), some (.int _ i), some ⟨.array n e, _, _, _⟩ =>
      match size? cx e with
      | some sz => stepIxArr cx T h off n sz i K
      | none => False
    | some (.rarr n sz f), some (.int _ i), some ⟨.array n' e, _, _, _⟩ =>
      if size? cx e = some sz ∧ n = n' then
        Ob cx.D σ.gm T (InB (cx.D.i i) n) ∧ allJ cx.D σ.gm T (cx.D.i i) fun j => out K (.rptr (f j))
      else False
    | _, _, _ => False
  | .makeFunc (.func f) fi cs =>
    match fi.toList, rdAll cx σ T cs.toList [] with
    | [], some vs => out K (.clo f vs)
    | _, _ => False
  | .buildSlice t len ps => stepBuildSlice cx σ T t len ps.toList K
  | .makeSlice t l c =>
    match rd cx σ T l, rd cx σ T c with
    | some a, some b => stepMake cx σ T t a b (sameOp l c) K
    | _, _ => False
  | .slice t x lo hi none =>
    match rd cx σ T x, optRd cx σ T lo, optRd cx σ T hi with
    | some v, some a, some b => stepSlice cx σ T t v a b K
    | _, _, _ => False
  | .index t x ix =>
    match rd cx σ T x, rd cx σ T ix, look t cx.tt with
    | some (.str s), some (.int _ i), some ⟨.string, _, _, _⟩ =>
      Ob cx.D σ.gm T (InS (cx.D.i i) s) ∧ allByte s (cx.D.i i) fun c => out K (.int .u8 (.a c))
    | _, _, _ => False
  | .extract x i =>
    match rd cx σ T x with
    | some (.tup vs) => outO K (nth vs i)
    | _ => False
  | .unOp op _ x =>
    match op, rd cx σ T x with
    | .not, some (.bool b) => out K (.bool (notT b))
    | .neg, some (.int k n) => out K (.int k (binT .sub k (.l 0) n))
    | _, _ => False
  | .binOp op t x y _ =>
    match rd cx σ T x, rd cx σ T y with
    | some a, some b => stepBin cx σ.gm T op t a b K
    | _, _ => False
  | .convert src dst x =>
    match rd cx σ T x, look dst cx.tt, look src cx.tt with
    | some (.int _ n), some ⟨.int k, _, _, _⟩, some _ => out K (.int k (.cv k n))
    | some (.str s), some ⟨.slice e, _, _, _⟩, some ⟨.string, _, _, _⟩ =>
      match look e cx.tt with
      | some ⟨.int .u8, _, _, _⟩ => match look 999983 cx.gh with
        | some _ => match T with
          | [] => SFit s ∧ allBytes s fun f => K ⟨.osl (.l false) (.len s) (lenN σ.hp), [.put (lenN σ.hp) (.own e (.len s) 1 false f)], [], []⟩
          | _ => False
        | none => Ob cx.D σ.gm T (SFit s) ∧ allBytes s fun f => out K (.sl (.l false) (.len s) 1 f)
      | _ => False
    | some (.sl _ n 1 f), some ⟨.string, _, _, _⟩, some ⟨.slice e, _, _, _⟩ => stepStr cx σ T e n f K
    | some (.gsl _ n 1 f _), some ⟨.string, _, _, _⟩, some ⟨.slice e, _, _, _⟩ => stepStr cx σ T e n f K
    | some (.osl _ n h), some ⟨.string, _, _, _⟩, some ⟨.slice e, _, _, _⟩ =>
      match T, look e cx.tt, nth σ.hp h with
      | [], some ⟨.int .u8, _, _, _⟩, some (.own _ n0 1 _ f) => EqN (cx.D.i n) (cx.D.i n0) ∧ ByteRow (cx.D.i n0) f ∧ allStr (cx.D.i n0) f fun r => K ⟨.str r, [], [h], []⟩
      | _, _, _ => False
    | _, _, _ => False
  | .call c =>
    match c.callee with
    | .builtin .len =>
      match c.args.toList, c.argTypes.toList with
      | [x], [t] =>
        match rd cx σ T x, look t cx.tt with
        | some (.sl _ n _ _), some ⟨.slice _, _, _, _⟩ => out K (.int .i64 n)
        | some (.gsl _ n _ _ _), some ⟨.slice _, _, _, _⟩ => out K (.int .i64 n)
        | some (.osl _ n _), some ⟨.slice _, _, _, _⟩ => out K (.int .i64 n)
        | some (.str s), some ⟨.string, _, _, _⟩ => out K (.int .i64 (.len s))
        | some (.mrow h), some ⟨.slice _, _, _, _⟩ => match nth σ.hp h with
          | some (.row _ n _ _) => K ⟨.int .i64 n, [], [h], []⟩
          | _ => False
        | _, _ => False
      | _, _ => False
    | .builtin .append =>
      match T, c.args.toList, c.argTypes.toList with
      | [], [x, y], [t, t'] =>
        match rd cx σ T x, rd cx σ T y, look t cx.tt with
        | some b, some s, some ⟨.slice e, _, _, _⟩ =>
          match look e cx.tt with
          | some te => if t == t' && Nat.blt 0 te.size then appendTo cx σ b s e te.size te.bytes K else False
          | none => False
        | _, _, _ => False
      | _, _, _ => False
    | .builtin .copy =>
      match c.args.toList, c.argTypes.toList with
      | [x, y], [t, _] =>
        match rd cx σ T x, rd cx σ T y with
        | some d, some s => stepCopy cx σ T t d s K
        | _, _ => False
      | _, _ => False
    | .builtin .max =>
      match c.args.toList with
      | [x, y] =>
        match rd cx σ T x, rd cx σ T y with
        | some (.int k a), some (.int k' b) => if k = k' then allMax (cx.D.i a) (cx.D.i b) fun r => out K (.int k (.a r)) else False
        | _, _ => False
      | _ => False
    | .builtin .min =>
      match c.args.toList with
      | [x, y] =>
        match rd cx σ T x, rd cx σ T y with
        | some (.int k a), some (.int k' b) => if k = k' then allMin (cx.D.i a) (cx.D.i b) fun r => out K (.int k (.a r)) else False
        | _, _ => False
      | _ => False
    | .value (.func f) =>
      match rdAll cx σ T c.args.toList c.argTypes.toList with
      | some vs => stepCall cx σ T f vs K
      | none => False
    | .value (.tmp s) =>
      match rdAll cx σ T c.args.toList c.argTypes.toList, rd cx σ T (.tmp s) with
      | some vs, some (.fn f) => stepCall cx σ T f vs K
      | some vs, some (.clo f cs) => stepCall cx σ T f (vs ++ cs) K
      | _, _ => False
    | _ => False
  | _ => False

/-- The pick of '&&' and '||', by slots. -/
def stepPick (cx : Cx) (σ : Sy) (T : List Nat) (c a b : Operand) (K : Out → Prop) : Prop :=
  match c with
  | .tmp s =>
    match getO σ.fr s with
    | some ⟨tg, _, _, .bool (.l true)⟩ => if subN tg T then outO K (rd cx σ T a) else False
    | some ⟨tg, _, _, .bool (.l false)⟩ => if subN tg T then outO K (rd cx σ T b) else False
    | some ⟨tg, gt, gf, .bool ct⟩ =>
      if subN tg T then
        match rd cx σ (gt.toList ++ T) a, rd cx σ (gf.toList ++ T) b with
        | some (.bool x), some (.bool (.l false)) => out K (.bool (.and ct x))
        | some (.bool (.l true)), some (.bool y) => out K (.bool (.or ct y))
        | _, _ => False
      else False
    | _ => False
  | _ => False

/-- Under which guards an operation runs: none: it does not run. -/
def guardOf (ops : List Oper) (σ : Sy) : Option (Nat × Bool) → Option (Option (Sy × List Nat))
  | none => some (some (σ, []))
  | some (j, want) =>
    match nth ops j with
    | some oj => match oj.dst with
      | some s => match getO σ.fr s with
        | some ⟨tg, _, _, .bool (.l b)⟩ => if b == want then some (some (σ, tg)) else some none
        | some ⟨tg, gt, gf, .bool c⟩ =>
          if want then
            match gt with
            | some i => some (some (σ, i :: tg))
            | none => some (some (⟨setN σ.fr s (some ⟨tg, some (lenN σ.gm), gf, .bool c⟩), σ.hp, σ.gm ++ [c]⟩, lenN σ.gm :: tg))
          else
            match gf with
            | some i => some (some (σ, i :: tg))
            | none => some (some (⟨setN σ.fr s (some ⟨tg, gt, some (lenN σ.gm), .bool c⟩), σ.hp, σ.gm ++ [.not c]⟩, lenN σ.gm :: tg))
        | _ => none
      | none => none
    | none => none

def okEfs (hp : List Hl) : List Ef → Bool
  | [] => true
  | .set h off vs :: es => okEfs (efH hp (.set h off vs)) es
  | .put h hl :: es => Nat.ble h (lenN hp) && okEfs (efH hp (.put h hl)) es

def setD (fr : List (Option G)) (d : Option Nat) (g : Option G) : List (Option G) :=
  match d with
  | some s => setN fr s g
  | none => fr

def stepAny (cx : Cx) (σ : Sy) (T : List Nat) (o : Oper) (K : Out → Prop) : Prop :=
  match o.op with
  | .pick c a b => stepPick cx σ T c a b K
  | _ => stepOp cx σ T o K

/-- What an operation has read and written of the heap. -/
structure FP where
  rds : List Nat
  rdc : List (Nat × Nat × Nat)
  wr : List (Nat × Option (Nat × Nat))

def efW : List Ef → List (Nat × Option (Nat × Nat))
  | [] => []
  | .set h off vs :: es => (h, some (off, lenN vs)) :: efW es
  | .put h _ :: es => (h, none) :: efW es

def fpOf (r : Out) : FP := ⟨r.rds, r.rdc, efW r.efs⟩

/-- Operations in the order of the text. 'fs': what each has read and written (of the heap), for regions that draw. -/
def stepOps (cx : Cx) (all : List Oper) : List Oper → List FP → Sy → (List FP → Sy → Prop) → Prop
  | [], fs, σ, K => K fs σ
  | o :: os, fs, σ, K =>
    match guardOf all σ o.guard with
    | none => False
    | some none => stepOps cx all os (fs ++ [⟨[], [], []⟩]) ⟨setD σ.fr o.dst none, σ.hp, σ.gm⟩ K
    | some (some (σ, T)) =>
      stepAny cx σ T o fun r => if okEfs σ.hp r.efs && (T.isEmpty || r.efs.isEmpty) then stepOps cx all os (fs ++ [fpOf r]) ⟨setD σ.fr o.dst (some ⟨T, none, none, r.v⟩), efsH σ.hp r.efs, σ.gm⟩ K else False

/-! ### regions that draw their order -/

def opSlot : Operand → List Nat
  | .tmp s => [s]
  | _ => []

def slotsL : List Operand → List Nat
  | [] => []
  | x :: xs => opSlot x ++ slotsL xs

def guardSlot (all : List Oper) : Option (Nat × Bool) → List Nat
  | none => []
  | some (j, _) => match nth all j with
    | some oj => match oj.dst with
      | some s => [s]
      | none => []
    | none => []

/-- The slots that an operation looks at. -/
def looks (all : List Oper) (o : Oper) : List Nat := slotsL o.op.operands.toList ++ guardSlot all o.guard

def meetsN : List Nat → List Nat → Bool
  | [], _ => false
  | x :: l, t => hasN x t || meetsN l t

def optL : Option Nat → List Nat
  | some x => [x]
  | none => []

def meetsR : Nat × Option (Nat × Nat) → Nat × Option (Nat × Nat) → Bool
  | (h, a), (k, b) => h == k && match a, b with
    | some (x, m), some (y, n) => Nat.blt x (y + n) && Nat.blt y (x + m)
    | _, _ => true

def anyR (x : Nat × Option (Nat × Nat)) : List (Nat × Option (Nat × Nat)) → Bool
  | [] => false
  | y :: l => meetsR x y || anyR x l

def meetsW : List (Nat × Option (Nat × Nat)) → List (Nat × Option (Nat × Nat)) → Bool
  | [], _ => false
  | x :: l, t => anyR x t || meetsW l t

def rdR (f : FP) : List (Nat × Option (Nat × Nat)) := (f.rds.map fun h => (h, none)) ++ f.rdc.map fun x => (x.1, some (x.2.1, x.2.2))

/-- Do two operations get in each other's way? -/
def clash (all : List Oper) (o : Oper) (f : FP) (o' : Oper) (f' : FP) : Bool :=
  meetsN (optL o.dst) (looks all o') || meetsN (optL o.dst) (optL o'.dst) || meetsN (optL o'.dst) (looks all o) || meetsW f.wr (rdR f') || meetsW f.wr f'.wr || meetsW f'.wr (rdR f)

def addN (x : Nat) (l : List Nat) : List Nat := if hasN x l then l else x :: l
def unionN : List Nat → List Nat → List Nat
  | [], t => t
  | x :: l, t => unionN l (addN x t)

def edgesL : List Edge → List Nat
  | [] => []
  | e :: es => (match e.ground with | .textOnly _ | .gcOnly _ => [] | _ => [e.on]) ++ edgesL es

def backed (acc : List (List Nat)) : List Nat → List Nat
  | [] => []
  | i :: l => unionN (addN i ((nth acc i).getD [])) (backed acc l)

/-- For each operation: those that come before it, whatever order is drawn. -/
def befores : List Oper → List (List Nat) → List (List Nat)
  | [], acc => acc
  | o :: os, acc => befores os (acc ++ [backed acc (edgesL o.after.toList)])

def lowAll (n : Nat) : List Nat → Bool
  | [] => true
  | x :: l => Nat.blt x n && lowAll n l

/-- Edges lead back. -/
def edgesOk : List Oper → Nat → Bool
  | [], _ => true
  | o :: os, n => lowAll n (edgesL o.after.toList) && edgesOk os (n + 1)

/-- Against all that come later in the text. -/
def apartFrom (all : List Oper) (bs : List (List Nat)) (i : Nat) (o : Oper) (f : FP) : List Oper → List FP → Nat → Bool
  | o' :: os, f' :: fs, j => (!(clash all o f o' f') || hasN i ((nth bs j).getD [])) && apartFrom all bs i o f os fs (j + 1)
  | _, _, _ => true

def indep (all : List Oper) (bs : List (List Nat)) : List Oper → List FP → Nat → Bool
  | o :: os, f :: fs, i => apartFrom all bs i o f os fs (i + 1) && indep all bs os fs (i + 1)
  | _, _, _ => true

/-- Of great regions: asked as a thing of its own. -/
structure IndepOk (ops : List Oper) (fs : List FP) : Prop where
  h : (edgesOk ops 0 && indep ops (befores ops []) ops fs 0) = true

/-- At a region's end: what is known under guards alone is forgotten. -/
def tidy : List (Option G) → List (Option G)
  | [] => []
  | some ⟨[], _, _, v⟩ :: l => some ⟨[], none, none, v⟩ :: tidy l
  | _ :: l => none :: tidy l

/-! ### steps of the proof alone -/

def thaw (h : Nat) (x : SV) : SV → SV
  | .mrow k => if k == h then x else .mrow k
  | .agg cs => .agg (thawL h x cs)
  | .tup cs => .tup (thawL h x cs)
  | .clo f cs => .clo f (thawL h x cs)
  | v => v
 where thawL (h : Nat) (x : SV) : List SV → List SV
  | [] => []
  | c :: cs => thaw h x c :: thawL h x cs

def thawFr (h : Nat) (x : SV) : List (Option G) → List (Option G)
  | [] => []
  | some ⟨tg, gt, gf, v⟩ :: l => some ⟨tg, gt, gf, thaw h x v⟩ :: thawFr h x l
  | none :: l => none :: thawFr h x l

def thawH (h : Nat) (x : SV) : List Hl → List Hl
  | [] => []
  | .blk ty cs :: ls => .blk ty (thaw.thawL h x cs) :: thawH h x ls
  | l :: ls => l :: thawH h x ls

def looseFr : List (Option G) → List (Option G)
  | [] => []
  | some ⟨tg, gt, gf, v⟩ :: l => some ⟨tg, gt, gf, loose v⟩ :: looseFr l
  | none :: l => none :: looseFr l

def looseHl : Hl → Hl
  | .blk ty cs => .blk ty (loose.looseL cs)
  | l => l

def looseHp : List Hl → List Hl
  | [] => []
  | l :: ls => looseHl l :: looseHp ls

def ghost (cx : Cx) (σ : Sy) : Gh → Option Sy
  | .hold s k e => match getO σ.fr s with
    | some ⟨[], _, _, .ptr h 0⟩ => match nth σ.hp h with
      | some (.blk T cs) => match nth cs k, size? cx e with
        | some (.sl (.l true) (.l 0) sz f), some sz' => if sz' == sz then some ⟨σ.fr, setN σ.hp h (.blk T (setN cs k (.gsl (.l true) (.l 0) sz f (lenN σ.hp)))) ++ [.tail e (.l 0) sz], σ.gm⟩ else none
        | _, _ => none
      | _ => none
    | _ => none
  | .freeze s => match getO σ.fr s with
    | some ⟨[], _, _, .mrow h⟩ => match nth σ.hp h with
      | some (.row _ n sz f) => some ⟨thawFr h (.sl (.l false) n sz f) σ.fr, setN (thawH h (.sl (.l false) n sz f) σ.hp) h .gone, σ.gm⟩
      | _ => none
    | _ => none
  | .attach s e => match getO σ.fr s with
    | some ⟨[], _, _, .sl (.l true) (.l 0) sz f⟩ => match size? cx e with
      | some sz' => if sz' == sz then some ⟨setN σ.fr s (some ⟨[], none, none, .gsl (.l true) (.l 0) sz f (lenN σ.hp)⟩), σ.hp ++ [.tail e (.l 0) sz], σ.gm⟩ else none
      | none => none
    | _ => none
  | .own s e => match getO σ.fr s with
    | some ⟨[], _, _, .sl (.l true) (.l 0) sz f⟩ => match size? cx e with
      | some sz' => if sz' == sz then some ⟨setN σ.fr s (some ⟨[], none, none, .osl (.l true) (.l 0) (lenN σ.hp)⟩), σ.hp ++ [.own e (.l 0) sz true f], σ.gm⟩ else none
      | none => none
    | _ => none
  | .share s => match getO σ.fr s with
    | some ⟨[], _, _, .osl nl n h⟩ => match nth σ.hp h with
      | some (.own _ _ sz _ f) => some ⟨setN σ.fr s (some ⟨[], none, none, .sl nl n sz f⟩), setN σ.hp h .gone, σ.gm⟩
      | _ => none
    | _ => none
  | .bld s e => match getO σ.fr s with
    | some ⟨[], _, _, .ptr h 0⟩ => match nth σ.hp h with
      | some (.blk T [.nilp, .sl (.l true) (.l 0) 1 _]) => some ⟨σ.fr, setN σ.hp h (.bld T e []), σ.gm⟩
      | _ => none
    | _ => none
  | .tot _ => none
/-- A slice whose row is given anew, as far as it goes. -/
def totOf (σ : Sy) (s : Nat) : Option (BT × ST × Nat × (Nat → List SV)) :=
  match getO σ.fr s with
  | some ⟨[], _, _, .sl nl n sz f⟩ => some (nl, n, sz, f)
  | some ⟨[], _, _, .gsl nl n sz f _⟩ => some (nl, n, sz, f)
  | _ => none

/-- What a step of the proof alone asks. -/
def ghostP (cx : Cx) (σ : Sy) : Gh → Prop
  | .share s => match getO σ.fr s with
    | some ⟨[], _, _, .osl _ n h⟩ => match nth σ.hp h with
      | some (.own _ n0 _ _ _) => EqN (cx.D.i n) (cx.D.i n0)
      | _ => False
    | _ => False
  | _ => True

def ghosts (cx : Cx) : List Gh → Sy → (Sy → Prop) → Prop
  | [], σ, K => K σ
  | g :: gs, σ, K => match g with
    | .tot s => match totOf σ s with
      | some (nl, n, sz, f) => ∃ f2, RowAs (cx.D.i n) f2 f ∧ ghosts cx gs ⟨setN σ.fr s (some ⟨[], none, none, .sl nl n sz f2⟩), σ.hp, σ.gm⟩ K
      | none => False
    | g => ghostP cx σ g ∧ match ghost cx σ g with
      | some σ => ghosts cx gs σ K
      | none => False

def ghostK (cx : Cx) (id : Nat) (σ : Sy) (K : Sy → Prop) : Prop :=
  match look id cx.gh with
  | none => K σ
  | some l => ghosts cx l σ K

inductive Ex where
  | normal
  | exit (id : Nat)
  | goto (l : Nat)
  | ret

def mkfr : List (Nat × Option SV) → List (Option G) → List (Option G)
  | [], fr => fr
  | (i, v) :: l, fr => mkfr l (setN fr i (v.map fun v => ⟨[], none, none, v⟩))

def blank {α : Type} : List α → List (Option G)
  | [] => []
  | _ :: l => none :: blank l

/-- Heaplets below a number alone. -/
def belowV (n : Nat) : SV → Bool
  | .ptr h _ => Nat.blt h n
  | .gsl _ _ _ _ h => Nat.blt h n
  | .mrow h => Nat.blt h n
  | .mptr h _ _ => Nat.blt h n
  | .osl _ _ h => Nat.blt h n
  | .optr _ h _ _ => Nat.blt h n
  | .agg cs => belowL n cs
  | .tup cs => belowL n cs
  | .clo _ cs => belowL n cs
  | _ => true
 where belowL (n : Nat) : List SV → Bool
  | [] => true
  | c :: cs => belowV n c && belowL n cs

def belowH (n : Nat) : List Hl → Bool
  | [] => true
  | .blk _ cs :: ls => belowV n (.agg cs) && belowH n ls
  | _ :: ls => belowH n ls

def keepV (D : Dn) (n : Nat) (fr : List (Option G)) : List Nat → List (Option SV)
  | [] => []
  | i :: l => (match getO fr i with | some ⟨[], _, _, v⟩ => (if belowV n v then some (norm D v) else none) | _ => none) :: keepV D n fr l

/-- The heap at a loop's head. -/
def headH (D : Dn) : List Hl → List Hl
  | [] => []
  | .blk ty cs :: ls => .blk ty (norm.normL D cs) :: headH D ls
  | .tail ty n sz :: ls => .tail ty (.a (D.i n)) sz :: headH D ls
  | .row ty n sz f :: ls => .row ty (.a (D.i n)) sz f :: headH D ls
  | .own ty n sz gr f :: ls => .own ty (.a (D.i n)) sz gr f :: headH D ls
  | l :: ls => l :: headH D ls

def zipN {α : Type} : List Nat → List (Option α) → List (Nat × Option α)
  | i :: l, v :: vs => (i, v) :: zipN l vs
  | _, _ => []

/-- A test's outcome is known from then on. -/
def know (σ : Sy) (c : Operand) (b : Bool) : Sy :=
  match c with
  | .tmp s => ⟨setN σ.fr s (some ⟨[], none, none, .bool (.l b)⟩), σ.hp, σ.gm⟩
  | _ => σ

def exec (cx : Cx) : Code → Sy → (Ex → Sy → Prop) → Prop
  | .skip, σ, K => K .normal σ
  | .region id ops draw, σ, K =>
    stepOps cx ops.toList ops.toList [] σ fun fs σ =>
      if draw then (if Nat.blt 40 (lenN ops.toList) then IndepOk ops.toList fs ∧ ghostK cx id ⟨tidy σ.fr, σ.hp, []⟩ (K .normal)
        else if edgesOk ops.toList 0 && indep ops.toList (befores ops.toList []) ops.toList fs 0 then ghostK cx id ⟨tidy σ.fr, σ.hp, []⟩ (K .normal) else False)
      else ghostK cx id ⟨tidy σ.fr, σ.hp, []⟩ (K .normal)
  | .seq a b, σ, K => exec cx a σ fun e σ => match e with
    | .normal => exec cx b σ K
    | e => K e σ
  | .cond c t e, σ, K =>
    match rd cx σ [] c with
    | some (.bool (.l true)) => exec cx t σ K
    | some (.bool (.l false)) => exec cx e σ K
    | some (.bool b) => (cx.D.b b = true → exec cx t (know σ c true) K) ∧ (cx.D.b b = false → exec cx e (know σ c false) K)
    | _ => False
  | .block id b, σ, K => exec cx b σ fun e σ => match e with
    | .exit i => if i == id then K .normal σ else K (.exit i) σ
    | e => K e σ
  | .loop b, σ, K =>
    ∃ (keep : List Nat) (J : Nat → List (Option SV) → List Hl → Prop),
      (belowH (lenN σ.hp) σ.hp = true ∧ ∃ m, J m (keepV cx.D (lenN σ.hp) σ.fr keep) (headH cx.D σ.hp)) ∧
      ∀ m vs hp, J m vs hp → exec cx b ⟨mkfr (zipN keep vs) (blank σ.fr), hp, []⟩ fun e σ' => match e with
        | .normal => belowH (lenN σ.hp) (takeN (lenN σ.hp) σ'.hp) = true ∧ ∃ m', m' < m ∧ J m' (keepV cx.D (lenN σ.hp) σ'.fr keep) (headH cx.D (takeN (lenN σ.hp) σ'.hp))
        | e => K e σ'
  | .exit id, σ, K => K (.exit id) σ
  | .ret, σ, K => K .ret σ
  | .label _, σ, K => K .normal σ
  | .goto l, σ, K => K (.goto l) σ
  | .scope c, σ, K => exec cx c σ fun e σ => match e with
    | .goto _ => False
    | e => K e σ
  | _, _, _ => False

def resVs (cx : Cx) (σ : Sy) : List ResultVar → Option (List SV)
  | [] => some []
  | .tmp t :: rs => match rd cx σ [] (.tmp t), resVs cx σ rs with
    | some v, some vs => some (v :: vs)
    | _, _ => none
  | .cell a t :: rs => match rd cx σ [] (.tmp a), size? cx t, resVs cx σ rs with
    | some (.ptr h off), some n, some vs =>
      match nth σ.hp h with
      | some (.blk _ cs) => if Nat.ble (off + n) (lenN cs) then
          match pack (isAgg? cx t) (takeN n (dropN off cs)) with
          | some v => some (v :: vs)
          | none => none
        else none
      | _ => none
    | _, _, _ => none

def pack1 : List SV → SV
  | [v] => v
  | vs => .tup vs

def startFr (ntmps : Nat) (args : List SV) : List (Option G) :=
  (args.map fun v => some ⟨[], none, none, v⟩) ++ List.replicate (ntmps - lenN args) none

/-- The first owned slice among what is handed back. -/
def ownRes : List SV → Option Nat
  | [] => none
  | .osl _ _ h :: _ => some h
  | _ :: vs => ownRes vs

/-- With the number of its heaplet turned. -/
def ownTo (h k : Nat) : List SV → List SV
  | [] => []
  | .osl nl n _ :: vs => .osl nl n k :: ownTo h k vs
  | v :: vs => v :: ownTo h k vs

/-- What is handed back beside an owned slice is plain. -/
def ownOk (h : Nat) : List SV → Bool
  | [] => true
  | .osl _ _ h' :: vs => h' == h && ownOk h vs
  | v :: vs => plainV v && ownOk h vs

/-- A body's end: an owned slice that is handed back brings its heaplet. -/
def endK (cx : Cx) (m : Nat) (vs : List SV) (σ : Sy) (K : SV → List Hl → Prop) : Prop :=
  match ownRes vs with
  | none => K (loose (norm cx.D (pack1 vs))) (normH cx.D (takeN m σ.hp))
  | some h => match Nat.ble m h && ownOk h vs && plainH (normH cx.D (takeN m σ.hp)), nth σ.hp h with
    | true, some (.own ty n sz gr f) => K (loose (norm cx.D (pack1 (ownTo h m vs)))) (normH cx.D (takeN m σ.hp ++ [.own ty n sz gr f]))
    | _, _ => False

/-- A function's body, run at arguments 'args' over the blocks 'hp'. A body that is a scope may jump back to one label. -/
def body (cx : Cx) (fn : Func) (args : List SV) (hp : List Hl) (K : SV → List Hl → Prop) : Prop :=
  match fn.body with
  | some c => exec cx c ⟨startFr fn.ntmps args, hp, []⟩ fun e σ => match e with
    | .normal | .ret => match resVs cx σ fn.results.toList with
      | some vs => endK cx (lenN hp) vs σ K
      | none => False
    | _ => False
  | none => False

/-- A body that is a scope in which the run jumps back to one label. -/
def bodyJ (cx : Cx) (fn : Func) (pre c : Code) (l : Nat) (rest : Code) (args : List SV) (hp : List Hl) (K : SV → List Hl → Prop) : Prop :=
  ∃ (keep : List Nat) (J : Nat → List (Option SV) → List Hl → Prop),
    (exec cx pre ⟨startFr fn.ntmps args, hp, []⟩ fun e σ => match e with
      | .normal => exec cx c σ fun e σ => match e with
        | .normal | .ret => match resVs cx σ fn.results.toList with
          | some vs => endK cx (lenN hp) vs σ K
          | none => False
        | .goto l' => l' = l ∧ belowH (lenN hp) (takeN (lenN hp) σ.hp) = true ∧ ∃ m, J m (keepV cx.D (lenN hp) σ.fr keep) (headH cx.D (takeN (lenN hp) σ.hp))
        | _ => False
      | _ => False) ∧
    ∀ m vs hp', J m vs hp' → exec cx rest ⟨mkfr (zipN keep vs) (blank (startFr fn.ntmps args)), hp', []⟩ fun e σ => match e with
      | .normal | .ret => match resVs cx σ fn.results.toList with
        | some vs => endK cx (lenN hp) vs σ K
        | none => False
      | .goto l' => l' = l ∧ belowH (lenN hp) (takeN (lenN hp) σ.hp) = true ∧ ∃ m', m' < m ∧ J m' (keepV cx.D (lenN hp) σ.fr keep) (headH cx.D (takeN (lenN hp) σ.hp))
      | _ => False

end Go.Sx
/- What symbolic values mean in a world. -/
namespace Go.Sx
open Go

structure Env where
  β : Nat → Option Nat
  τ : Nat → Option Value
  O : Nat → Option Nat
  κ : Nat → Option Nat
  ζ : Nat → Option Nat
  I : Nat → Nat → Prop

def bytes (l : List UInt8) : ByteArray := ⟨⟨l⟩⟩

inductive RO (I : Nat → Nat → Prop) (w : World) : SV → Value → Prop where
  | int {k : IntKind} {t : ST} {n : Int} (h : t.den = n) : RO I w (.int k t) (.int k n)
  | bool {t : BT} {b : Bool} (h : t.den = b) : RO I w (.bool t) (.bool b)
  | str {s : List UInt8} {v : Value} (h : v = .string (bytes s)) : RO I w (.str s) v
  | nilp : RO I w .nilp (.pointer none)
  | raw {v v' : Value} (h : v' = v) : RO I w (.raw v) v'
  | fn {f : FuncId} {v : Value} (h : v = .func (.func f) #[] #[]) : RO I w (.fn f) v
  | slnil {nl : BT} {n : ST} {sz : Nat} {f : Nat → List SV} (h : nl.den = true) (hn : n.den = 0) : RO I w (.sl nl n sz f) (.slice none 0 0)
  | sl {nl : BT} {n : ST} {sz : Nat} {f : Nat → List SV} {a : Addr} {m cap : Nat} (g : Nat → Nat → Value) (h : nl.den = false) (hn : n.den = (m : Int)) (hc : m ≤ cap) (hcm : cap ≤ maxLen)
      (hs : 0 < m → a.spot = none)
      (hl : ∀ i, i < m → (f i).length = sz) (h1 : ∀ i j, i < m → j < sz → (g i j).oneCell' = true)
      (hcell : ∀ i j, i < m → j < sz → w.cell? ⟨a.block, a.off + (i * sz + j), none⟩ = some (g i j) ∧ I a.block (a.off + (i * sz + j)))
      (hrel : ∀ (i j : Nat) (s : SV), i < m → (f i)[j]? = some s → RO I w s (g i j)) : RO I w (.sl nl n sz f) (.slice (some a) m cap)
  | rptr {cs : List SV} {a : Addr} (g : Nat → Value) (hs : a.spot = none) (h1 : ∀ j, j < cs.length → (g j).oneCell' = true) (hcell : ∀ j, j < cs.length → w.cell? ⟨a.block, a.off + j, none⟩ = some (g j) ∧ I a.block (a.off + j))
      (hrel : ∀ (j : Nat) (s : SV), cs[j]? = some s → RO I w s (g j)) : RO I w (.rptr cs) (.pointer (some a))
  | rarr {n sz : Nat} {f : Nat → List SV} {a : Addr} (g : Nat → Nat → Value) (hs : a.spot = none) (hl : ∀ i, i < n → (f i).length = sz) (h1 : ∀ i j, i < n → j < sz → (g i j).oneCell' = true)
      (hcell : ∀ i j, i < n → j < sz → w.cell? ⟨a.block, a.off + (i * sz + j), none⟩ = some (g i j) ∧ I a.block (a.off + (i * sz + j)))
      (hrel : ∀ (i j : Nat) (s : SV), i < n → (f i)[j]? = some s → RO I w s (g i j)) : RO I w (.rarr n sz f) (.pointer (some a))
  | agg {cs : List SV} {vs : List Value} (hl : cs.length = vs.length) (h : ∀ (i : Nat) (s : SV) (v : Value), cs[i]? = some s → vs[i]? = some v → RO I w s v) : RO I w (.agg cs) (.agg ⟨vs⟩)

theorem RO.mono {I I' : Nat → Nat → Prop} {w w' : World} {s : SV} {v : Value} (h : RO I w s v)
    (hI : ∀ b o, I b o → I' b o) (hw : ∀ b o, I b o → w'.cell? ⟨b, o, none⟩ = w.cell? ⟨b, o, none⟩) : RO I' w' s v := by
  induction h with
  | int h => exact .int h
  | bool h => exact .bool h
  | str h => exact .str h
  | nilp => exact .nilp
  | raw h => exact .raw h
  | fn h => exact .fn h
  | slnil h hn => exact .slnil h hn
  | sl g h hn hc hcm hs hl h1 hcell hrel ih =>
    exact .sl g h hn hc hcm hs hl h1 (fun i j hi hj => ⟨by rw [hw _ _ (hcell i j hi hj).2]; exact (hcell i j hi hj).1, hI _ _ (hcell i j hi hj).2⟩) ih
  | rptr g hs h1 hcell hrel ih =>
    exact .rptr g hs h1 (fun j hj => ⟨by rw [hw _ _ (hcell j hj).2]; exact (hcell j hj).1, hI _ _ (hcell j hj).2⟩) ih
  | rarr g hs hl h1 hcell hrel ih =>
    exact .rarr g hs hl h1 (fun i j hi hj => ⟨by rw [hw _ _ (hcell i j hi hj).2]; exact (hcell i j hi hj).1, hI _ _ (hcell i j hi hj).2⟩) ih
  | agg hl h ih => exact .agg hl ih

/-- The hold on a tail. -/
def tokOk (E : Env) (h : Nat) (n : Int) (v : Value) : Prop :=
  ∃ a m c, E.τ h = some (.slice a m c) ∧ n ≤ (m : Int) ∧ (n = (m : Int) → v = .slice a m c)

/-- An element of an owned row. -/
def optrOk (E : Env) (h j off : Nat) (n : Int) (v : Value) : Prop :=
  ∃ a m c sz, E.τ h = some (.slice a m c) ∧ E.ζ h = some sz ∧ n ≤ (m : Int) ∧ (n = (m : Int) → ∃ b, a = some ⟨b, 0, none⟩ ∧ v = .pointer (some ⟨b, j * sz + off, none⟩))

inductive Rel (E : Env) (w : World) : SV → Value → Prop where
  | ro {s : SV} {v : Value} (h : RO E.I w s v) : Rel E w s v
  | ptr {h off b : Nat} {v : Value} (hb : E.β h = some b) (hv : v = .pointer (some ⟨b, off, none⟩)) : Rel E w (.ptr h off) v
  | gsl {nl : BT} {n : ST} {sz : Nat} {f : Nat → List SV} {h : Nat} {v : Value} (hr : RO E.I w (.sl nl n sz f) v) (ht : tokOk E h n.den v) : Rel E w (.gsl nl n sz f h) v
  | mrow {h b m : Nat} {v : Value} (hb : E.β h = some b) (hm : E.κ h = some m) (hv : v = .slice (some ⟨b, 0, none⟩) m m) : Rel E w (.mrow h) v
  | mptr {h j off b : Nat} {sz : Nat} {v : Value} (hb : E.β h = some b) (hz : E.ζ h = some sz) (hv : v = .pointer (some ⟨b, j * sz + off, none⟩)) : Rel E w (.mptr h j off) v
  | osl {nl : BT} {n : ST} {h : Nat} {v : Value} (ht : ∃ a m c, v = .slice a m c ∧ n.den = (m : Int) ∧ (nl.den = true ↔ a = none)) (hk : tokOk E h n.den v) : Rel E w (.osl nl n h) v
  | optr {n : ST} {h j off : Nat} {v : Value} (hv : ∃ b o, v = .pointer (some ⟨b, o, none⟩)) (ho : optrOk E h j off n.den v) : Rel E w (.optr n h j off) v
  | agg {cs : List SV} {vs : List Value} (hl : cs.length = vs.length) (h : ∀ (i : Nat) (s : SV) (v : Value), cs[i]? = some s → vs[i]? = some v → Rel E w s v) : Rel E w (.agg cs) (.agg ⟨vs⟩)
  | tup {cs : List SV} {vs : List Value} (hl : cs.length = vs.length) (h : ∀ (i : Nat) (s : SV) (v : Value), cs[i]? = some s → vs[i]? = some v → Rel E w s v) : Rel E w (.tup cs) (.tuple ⟨vs⟩)
  | clo {f : FuncId} {cs : List SV} {vs : List Value} (hl : cs.length = vs.length) (h : ∀ (i : Nat) (s : SV) (v : Value), cs[i]? = some s → vs[i]? = some v → Rel E w s v) : Rel E w (.clo f cs) (.func (.func f) #[] ⟨vs⟩)

/-- One state behind another. -/
structure Ext (E : Env) (w : World) (E' : Env) (w' : World) : Prop where
  β : ∀ h b, E.β h = some b → E'.β h = some b
  τ : ∀ h v, E.τ h = some v → E'.τ h = some v ∨ ∃ a m c a' m' c', v = .slice a m c ∧ E'.τ h = some (.slice a' m' c') ∧ m < m'
  κ : ∀ h m, E.κ h = some m → E'.κ h = some m
  ζ : ∀ h m, E.ζ h = some m → E'.ζ h = some m
  I : ∀ b o, E.I b o → E'.I b o
  cell : ∀ b o, E.I b o → w'.cell? ⟨b, o, none⟩ = w.cell? ⟨b, o, none⟩

theorem Ext.refl (E : Env) (w : World) : Ext E w E w := ⟨fun _ _ h => h, fun _ _ h => .inl h, fun _ _ h => h, fun _ _ h => h, fun _ _ h => h, fun _ _ _ => rfl⟩

theorem tokOk.mono {E E' : Env} {w w' : World} {h : Nat} {n : Int} {v : Value} (x : Ext E w E' w') (ht : tokOk E h n v) : tokOk E' h n v := by
  obtain ⟨a, m, c, h1, h2, h3⟩ := ht
  rcases x.τ h _ h1 with h4 | ⟨a0, m0, c0, a', m', c', e, h5, hlt⟩
  · exact ⟨a, m, c, h4, h2, h3⟩
  · cases e
    exact ⟨a', m', c', h5, by omega, fun e => by omega⟩

theorem optrOk.mono {E E' : Env} {w w' : World} {h j off : Nat} {n : Int} {v : Value} (x : Ext E w E' w') (ht : optrOk E h j off n v) : optrOk E' h j off n v := by
  obtain ⟨a, m, c, sz, h1, h0, h2, h3⟩ := ht
  rcases x.τ h _ h1 with h4 | ⟨a0, m0, c0, a', m', c', e, h5, hlt⟩
  · exact ⟨a, m, c, sz, h4, x.ζ _ _ h0, h2, h3⟩
  · cases e
    exact ⟨a', m', c', sz, h5, x.ζ _ _ h0, by omega, fun e => by omega⟩

theorem Rel.mono {E E' : Env} {w w' : World} {s : SV} {v : Value} (x : Ext E w E' w') (h : Rel E w s v) : Rel E' w' s v := by
  induction h with
  | ro h => exact .ro (h.mono x.I x.cell)
  | ptr hb hv => exact .ptr (x.β _ _ hb) hv
  | gsl hr ht => exact .gsl (hr.mono x.I x.cell) (ht.mono x)
  | mrow hb hm hv => exact .mrow (x.β _ _ hb) (x.κ _ _ hm) hv
  | mptr hb hz hv => exact .mptr (x.β _ _ hb) (x.ζ _ _ hz) hv
  | osl ht hk => exact .osl ht (hk.mono x)
  | optr hv ho => exact .optr hv (ho.mono x)
  | agg hl _ ih => exact .agg hl ih
  | tup hl _ ih => exact .tup hl ih
  | clo hl _ ih => exact .clo hl ih

/-- What stays fixed through one body: the world in which it began, the blocks that it may write, what was not to be written. -/
structure Bs where
  w0 : World
  X : Nat → Prop
  I0 : Nat → Nat → Prop
  β0 : Nat → Option Nat
  τ0 : Nat → Option Value
  ζ0 : Nat → Option Nat

/-- A slice as it was, or grown. -/
def TauLe (v : Value) (o : Option Value) : Prop := o = some v ∨ ∃ a m c a' m' c', v = .slice a m c ∧ o = some (.slice a' m' c') ∧ m < m'

theorem TauLe.trans {u v : Value} {o : Option Value} (h1 : TauLe u (some v)) (h2 : TauLe v o) : TauLe u o := by
  rcases h1 with h1 | ⟨a, m, c, a', m', c', e, h1, hlt⟩
  · cases h1; exact h2
  · cases h1
    rcases h2 with h2 | ⟨a1, m1, c1, a2, m2, c2, e2, h2, hlt2⟩
    · exact .inr ⟨a, m, c, a', m', c', e, h2, hlt⟩
    · cases e2
      exact .inr ⟨a, m, c, a2, m2, c2, e, h2, by omega⟩

/-- What was there of holds and headers is there still, or has grown. -/
structure Since (B : Bs) (E : Env) : Prop where
  β : ∀ h b, B.β0 h = some b → E.β h = some b
  τ : ∀ h v, B.τ0 h = some v → TauLe v (E.τ h)
  ζ : ∀ h n, B.ζ0 h = some n → E.ζ h = some n

theorem Since.ext {B : Bs} {E E' : Env} {w w' : World} (x : Ext E w E' w') (h : Since B E) : Since B E' := by
  refine ⟨fun k b hk => x.β k b (h.β k b hk), fun k v hk => ?_, fun k n hk => x.ζ k n (h.ζ k n hk)⟩
  have h1 := h.τ k v hk
  cases he : E.τ k with
  | none => rw [he] at h1; rcases h1 with h1 | ⟨_, _, _, _, _, _, _, h1, _⟩ <;> cases h1
  | some u =>
    rw [he] at h1
    exact h1.trans (x.τ k u he)

structure Base (B : Bs) (E : Env) (w : World) : Prop where
  os : w.os = B.w0.os
  tape : w.tape = B.w0.tape
  output : w.output = B.w0.output
  size : B.w0.heap.size ≤ w.heap.size
  old : ∀ b, b < B.w0.heap.size → ¬ B.X b → w.heap[b]? = B.w0.heap[b]?
  I0 : ∀ b o, B.I0 b o → E.I b o ∧ w.cell? ⟨b, o, none⟩ = B.w0.cell? ⟨b, o, none⟩
  Ibd : ∀ b o, E.I b o → b < w.heap.size
  Inew : ∀ b o, E.I b o → B.I0 b o ∨ B.w0.heap.size ≤ b ∨ B.X b
  Obd : ∀ b h, E.O b = some h → b < w.heap.size ∧ (B.w0.heap.size ≤ b ∨ B.X b)
  β0 : Since B E

/-- The cells of a row. -/
def rowIs (E : Env) (w : World) (f : Nat → List SV) (m sz : Nat) (C : Array Value) : Prop :=
  C.size = m * sz ∧ (∀ i, i < m → (f i).length = sz) ∧ (∀ (i j : Nat) (s : SV) (v : Value), i < m → (f i)[j]? = some s → C[i * sz + j]? = some v → RO E.I w s v) ∧ ∀ v, v ∈ C → v.oneCell' = true

/-- A row of one's own: grown by append, or made out of a string's bytes (whose mark lies behind its cells). -/
def ownsW (w : World) (gr : Bool) (e : TypeId) (sz : Nat) (v : Value) (m : Nat) (xs : List Value) : Prop :=
  xs.length = m * sz ∧ ((v = .slice none 0 0 ∧ m = 0) ∨ ∃ g cap cur fr, v = .slice (some ⟨g, 0, none⟩) m cap ∧ w.heap[g]? = some (.cells cur e fr) ∧ (fr = (0, 0) ∨ gr = false ∧ fr = (cur.size, cur.size + 1)) ∧ m ≤ cap ∧ cap ≤ maxLen ∧ cur.size = cap * sz ∧ cur.toList.take (m * sz) = xs)

theorem ownsW_row {w : World} {e : TypeId} {sz m : Nat} {v : Value} {xs : List Value} (gr : Bool) (h : w.ownsRow 0 e sz v m xs) : ownsW w gr e sz v m xs := by
  refine ⟨h.1, ?_⟩
  rcases h.2 with h | ⟨g, cap, cur, h1, _, h2, h3⟩
  · exact .inl h
  · exact .inr ⟨g, cap, cur, (0, 0), h1, h2, .inl rfl, h3⟩
theorem ownsW.row {w : World} {e : TypeId} {sz m : Nat} {v : Value} {xs : List Value} (h : ownsW w true e sz v m xs) : w.ownsRow 0 e sz v m xs := by
  refine ⟨h.1, ?_⟩
  rcases h.2 with h | ⟨g, cap, cur, fr, h1, h2, h3, h4⟩
  · exact .inl h
  · rcases h3 with rfl | ⟨h3, _⟩
    · exact .inr ⟨g, cap, cur, h1, Nat.zero_le _, h2, h4⟩
    · cases h3
theorem ownsW.shape {w : World} {gr : Bool} {e : TypeId} {sz m : Nat} {v : Value} {xs : List Value} (h : ownsW w gr e sz v m xs) : ∃ a c, v = .slice a m c := by
  rcases h.2 with ⟨h, h2⟩ | ⟨g, cap, cur, fr, h1, h2⟩
  · exact ⟨none, 0, by rw [h, h2]⟩
  · exact ⟨_, _, h1⟩
theorem ownsW.keep {w w' : World} {gr : Bool} {e : TypeId} {sz m : Nat} {v : Value} {xs : List Value} (h : ownsW w gr e sz v m xs) (hb : ∀ b, v.ownBlock = some b → w'.heap[b]? = w.heap[b]?) : ownsW w' gr e sz v m xs := by
  refine ⟨h.1, ?_⟩
  rcases h.2 with h | ⟨g, cap, cur, fr, rfl, h2⟩
  · exact .inl h
  · exact .inr ⟨g, cap, cur, fr, rfl, by rw [hb g rfl]; exact h2⟩

/-- The cells of an owned row. -/
def rowIn (E : Env) (w : World) (f : Nat → List SV) (m sz : Nat) (xs : List Value) : Prop :=
  (∀ i, i < m → (f i).length = sz) ∧ ∀ (i j : Nat) (s : SV) (u : Value), i < m → (f i)[j]? = some s → xs[i * sz + j]? = some u → RO E.I w s u

theorem rowIn.mono {E E' : Env} {w w' : World} {f : Nat → List SV} {m sz : Nat} {xs : List Value} (x : Ext E w E' w') (h : rowIn E w f m sz xs) : rowIn E' w' f m sz xs :=
  ⟨h.1, fun i j s u hi hs hu => (h.2 i j s u hi hs hu).mono x.I x.cell⟩

/-- What a heaplet says. -/
def HOk (E : Env) (w : World) (h : Nat) : Hl → Prop
  | .fresh => E.β h = none ∧ E.τ h = none ∧ E.κ h = none ∧ E.ζ h = none
  | .gone => True
  | .blk ty cs => ∃ b C, E.β h = some b ∧ E.O b = some h ∧ w.heap[b]? = some (.cells C ty (0, 0)) ∧ C.size = cs.length ∧
      (∀ (i : Nat) (s : SV) (v : Value), cs[i]? = some s → C[i]? = some v → Rel E w s v) ∧ (∀ v, v ∈ C → v.oneCell' = true) ∧ ∀ o, ¬ E.I b o
  | .tail ty n sz => ∃ v m xs, E.τ h = some v ∧ w.ownsRow 0 ty sz v m xs ∧ n.den = (m : Int) ∧ (∀ v, v ∈ xs → v.oneCell' = true) ∧
      ∀ b, v.ownBlock = some b → E.O b = some h ∧ ∀ o, m * sz ≤ o → ¬ E.I b o
  | .row ty n sz f => ∃ b C m, E.β h = some b ∧ E.κ h = some m ∧ E.ζ h = some sz ∧ E.O b = some h ∧ w.heap[b]? = some (.cells C ty (0, 0)) ∧ n.den = (m : Int) ∧ m ≤ maxLen ∧ rowIs E w f m sz C ∧ ∀ o, ¬ E.I b o
  | .own ty n sz gr f => ∃ v m xs, E.τ h = some v ∧ E.ζ h = some sz ∧ ownsW w gr ty sz v m xs ∧ n.den = (m : Int) ∧ (∀ u, u ∈ xs → u.oneCell' = true) ∧ rowIn E w f m sz xs ∧ ∀ b, v.ownBlock = some b → E.O b = some h ∧ ∀ o, ¬ E.I b o
  | .bld T e s => ∃ b p v, E.β h = some b ∧ E.O b = some h ∧ (p = .pointer none ∨ p = .pointer (some ⟨b, 0, none⟩)) ∧ w.heap[b]? = some (.cells #[p, v] T (0, 0)) ∧ w.ownsRow 0 e 1 v s.length (Lib.byteCells s) ∧ v.ownBlock ≠ some b ∧
      (∀ o, ¬ E.I b o) ∧ ∀ g, v.ownBlock = some g → E.O g = some h ∧ ∀ o, ¬ E.I g o

def allT : List BT → Prop
  | [] => True
  | b :: l => b.den = true ∧ allT l

/-- A slot as it is meant: under which conditions, what. -/
abbrev SG := Option (List BT × SV)

def SlotOk (E : Env) (w : World) (a : Act) (s : Nat) : SG → Prop
  | none => True
  | some (cs, v) => s < a.tmps.size ∧ (allT cs → Rel E w v (a.tmps.getD s undef)) ∧ (¬ allT cs → a.tmps.getD s undef = undef)

/-- The state that the executor's lists speak of, as functions. -/
structure St (B : Bs) (N : Nat) (E : Env) (a : Act) (w : World) (ff : Nat → SG) (hf : Nat → Hl) : Prop where
  base : Base B E w
  heap : ∀ h, HOk E w h (hf h)
  slot : ∀ s, SlotOk E w a s (ff s)
  size : a.tmps.size = N
  defers : a.defers = []

/-- The world and what holds of it turn, no slot does. -/
theorem St.step {B : Bs} {N : Nat} {E E' : Env} {a : Act} {w w' : World} {ff : Nat → SG} {hf hf' : Nat → Hl} (h : St B N E a w ff hf) (x : Ext E w E' w') (hb : Base B E' w')
    (hh : ∀ k, HOk E' w' k (hf' k)) : St B N E' a w' ff hf' where
  base := hb
  heap := hh
  slot := fun s => by
    have := h.slot s
    cases hs : ff s with
    | none => trivial
    | some p =>
      rw [hs] at this
      exact ⟨this.1, fun ha => (this.2.1 ha).mono x, this.2.2⟩
  size := h.size
  defers := h.defers

def upd {α : Type} (f : Nat → α) (k : Nat) (x : α) : Nat → α := fun j => if j = k then x else f j
def updO {α : Type} (f : Nat → α) (k : Option Nat) (x : α) : Nat → α := match k with
  | some k => upd f k x
  | none => f

theorem getD_put {a : Act} {d s : Nat} {v : Value} (h : s < a.tmps.size) : (a.put (some d) v).tmps.getD s undef = if s = d then v else a.tmps.getD s undef := by
  simp only [Act.put, Array.getD_eq_getD_getElem?]
  by_cases e : s = d
  · subst e; simp [h]
  · rw [if_neg e, Array.getElem?_setIfInBounds_ne (fun e' => e e'.symm)]

/-- A slot is written. -/
theorem St.put {B : Bs} {N : Nat} {E : Env} {a : Act} {w : World} {ff : Nat → SG} {hf : Nat → Hl} (h : St B N E a w ff hf) (d : Option Nat) (v : Value) (g : SG)
    (hg : ∀ cs s, g = some (cs, s) → (allT cs → Rel E w s v) ∧ (¬ allT cs → v = undef)) (hd : ∀ k, d = some k → k < N) : St B N E (a.put d v) w (updO ff d g) hf := by
  cases d with
  | none => exact h
  | some k =>
    refine ⟨h.base, h.heap, fun s => ?_, by simp [Act.put, h.size], h.defers⟩
    have hk := hd k rfl
    by_cases e : s = k
    · subst e
      simp only [updO, upd, if_pos]
      cases g with
      | none => trivial
      | some p =>
        obtain ⟨cs, x⟩ := p
        obtain ⟨h1, h2⟩ := hg cs x rfl
        have hs : s < a.tmps.size := by rw [h.size]; exact hk
        refine ⟨by simp [Act.put]; exact hs, fun ha => ?_, fun ha => ?_⟩
        · rw [getD_put hs, if_pos rfl]; exact h1 ha
        · rw [getD_put hs, if_pos rfl]; exact h2 ha
    · have := h.slot s
      simp only [updO, upd, if_neg e]
      cases hs : ff s with
      | none => trivial
      | some p =>
        rw [hs] at this
        obtain ⟨h1, h2, h3⟩ := this
        refine ⟨by simp [Act.put]; exact h1, ?_, ?_⟩
        · rw [getD_put h1, if_neg e]; exact h2
        · rw [getD_put h1, if_neg e]; exact h3

end Go.Sx
/- Small laws: lists, tables, readings of operands. -/
namespace Go.Sx
open Go

theorem nth_eq {α : Type} : ∀ (l : List α) (n : Nat), nth l n = l[n]?
  | [], _ => by simp [nth]
  | _ :: _, 0 => by simp [nth]
  | _ :: l, n + 1 => by simp [nth, nth_eq l n]
theorem getO_eq {α : Type} : ∀ (l : List (Option α)) (n : Nat), getO l n = (l[n]?).getD none
  | [], _ => by simp [getO]
  | _ :: _, 0 => by simp [getO]
  | _ :: l, n + 1 => by simp [getO, getO_eq l n]
theorem setN_eq {α : Type} : ∀ (l : List α) (n : Nat) (v : α), setN l n v = l.set n v
  | [], _, _ => by simp [setN]
  | _ :: _, 0, _ => by simp [setN]
  | _ :: l, n + 1, v => by simp [setN, setN_eq l n v]
theorem takeN_eq {α : Type} : ∀ (n : Nat) (l : List α), takeN n l = l.take n
  | 0, _ => by simp [takeN]
  | _ + 1, [] => by simp [takeN]
  | n + 1, _ :: l => by simp [takeN, takeN_eq n l]
theorem dropN_eq {α : Type} : ∀ (n : Nat) (l : List α), dropN n l = l.drop n
  | 0, _ => by simp [dropN]
  | _ + 1, [] => by simp [dropN]
  | n + 1, _ :: l => by simp [dropN, dropN_eq n l]
theorem lenN_eq {α : Type} : ∀ (l : List α), lenN l = l.length
  | [] => rfl
  | _ :: l => by simp [lenN, lenN_eq l]
theorem len_putN {α : Type} : ∀ (vs l : List α) (off : Nat), (putN l off vs).length = l.length
  | [], _, _ => rfl
  | v :: vs, l, off => by simp [putN, len_putN vs, setN_eq]
theorem get_putN {α : Type} : ∀ (vs l : List α) (off i : Nat), off + vs.length ≤ l.length → (putN l off vs)[i]? = if off ≤ i ∧ i < off + vs.length then vs[i - off]? else l[i]?
  | [], l, off, i, _ => by rw [putN, if_neg (by simp only [List.length_nil]; omega)]
  | v :: vs, l, off, i, h => by
    simp only [List.length_cons] at h
    rw [putN, get_putN vs _ (off + 1) i (by simp [setN_eq]; omega), setN_eq]
    by_cases e : i = off
    · subst e
      rw [if_neg (by omega), if_pos (by simp)]
      rw [List.getElem?_set_self (by omega)]
      simp
    · by_cases e2 : off + 1 ≤ i ∧ i < off + 1 + vs.length
      · rw [if_pos e2, if_pos (by simp; omega)]
        obtain ⟨k, hk⟩ : ∃ k, i - off = k + 1 := ⟨i - off - 1, by omega⟩
        rw [hk, show i - (off + 1) = k by omega]
        simp
      · rw [if_neg e2, if_neg (by simp; omega), List.getElem?_set_ne (by omega)]
theorem hasN_iff (x : Nat) : ∀ l, hasN x l = true ↔ x ∈ l
  | [] => by simp [hasN]
  | y :: l => by
    simp only [hasN, Bool.or_eq_true, beq_iff_eq, hasN_iff x l, List.mem_cons]
    constructor
    · rintro (h | h)
      · exact .inl h.symm
      · exact .inr h
    · rintro (h | h)
      · exact .inl h.symm
      · exact .inr h
theorem subN_iff : ∀ (l t : List Nat), subN l t = true ↔ ∀ x ∈ l, x ∈ t
  | [], t => by simp [subN]
  | x :: l, t => by simp [subN, hasN_iff, subN_iff l t]

def condsOf (gm : List BT) (T : List Nat) : List BT := T.filterMap (nth gm)

theorem allT_iff : ∀ (l : List BT), allT l ↔ ∀ b ∈ l, b.den = true
  | [] => by simp [allT]
  | b :: l => by simp [allT, allT_iff l]

theorem allT_sub {gm : List BT} {t T : List Nat} (h : subN t T = true) (hT : allT (condsOf gm T)) : allT (condsOf gm t) := by
  rw [allT_iff] at *
  intro b hb
  rw [condsOf, List.mem_filterMap] at hb
  obtain ⟨i, hi, hb⟩ := hb
  exact hT b (by rw [condsOf, List.mem_filterMap]; exact ⟨i, (subN_iff _ _).1 h i hi, hb⟩)

theorem Ob_iff (gm : List BT) (A : Prop) : ∀ (T : List Nat), Ob dn gm T A ↔ (allT (condsOf gm T) → A)
  | [] => by simp [Ob, condsOf, allT]
  | i :: T => by
    have ih := Ob_iff gm A T
    simp only [Ob, condsOf, List.filterMap_cons]
    cases h : nth gm i with
    | none => simpa [condsOf] using ih
    | some b =>
      simp only [allT]
      rw [ih]
      constructor
      · intro h1 ⟨h2, h3⟩; exact h1 h2 h3
      · intro h1 h2 h3; exact h1 ⟨h2, h3⟩

/-! ### The table of types -/

def kindB (P : Program) : TK → TypeDesc → Bool
  | .int k, .int k' => k == k'
  | .bool, .bool => true
  | .string, .string => true
  | .pointer e, .pointer e' => e == e'
  | .slice e, .slice e' => e == e'
  | .struct fs, .struct fields => (fields.toList.map fun f => (f.offset, f.type)) == fs && fields.toList.all fun f => (P.info? f.type).isSome
  | .array n e, .array n' e' => n == n' && e == e'
  | .other, .struct _ => false
  | .other, .array .. => false
  | .other, _ => true
  | _, _ => false

def zB : SV → Value → Bool
  | .int k (.l n), .int k' n' => k == k' && n == n'
  | .bool (.l b), .bool b' => b == b'
  | .str s, .string s' => s == s'.data.toList
  | .nilp, .pointer none => true
  | .sl (.l true) (.l 0) _ _, .slice none 0 0 => true
  | .raw .nilIface, .nilIface => true
  | .raw .nilFunc, .nilFunc => true
  | _, _ => false

def zsB : List SV → List Value → Bool
  | [], [] => true
  | s :: ss, v :: vs => zB s v && zsB ss vs
  | _, _ => false

def tiB (P : Program) (t : TypeId) (ti : TI) : Bool :=
  match P.underlying t, P.info? t with
  | some d, some i => ti.zero.length == ti.size && kindB P ti.k d && i.size == ti.size && i.bytes == ti.bytes && (match i.zero with | some z => zsB ti.zero z.cells.toList | none => false)
  | _, _ => false

def ttB (P : Program) : List (Nat × TI) → Bool
  | [] => true
  | (t, ti) :: l => tiB P t ti && ttB P l

theorem ttB_look {P : Program} : ∀ {tt : List (Nat × TI)} {t : Nat} {ti : TI}, ttB P tt = true → look t tt = some ti → tiB P t ti = true
  | [], _, _, _, h => by simp [look] at h
  | (u, ui) :: l, t, ti, hB, h => by
    simp only [ttB, Bool.and_eq_true] at hB
    simp only [look] at h
    split at h
    · rename_i e
      have e : u = t := by simpa using e
      subst e
      simp only [Option.some.injEq] at h
      subst h
      exact hB.1
    · exact ttB_look hB.2 h

theorem zB_RO {I : Nat → Nat → Prop} {w : World} {s : SV} {v : Value} (h : zB s v = true) : RO I w s v := by
  unfold zB at h
  split at h <;> simp at h
  · obtain ⟨rfl, rfl⟩ := h; exact .int rfl
  · subst h; exact .bool rfl
  · subst h; exact .str rfl
  · exact .nilp
  · exact .slnil rfl rfl
  · exact .raw rfl
  · exact .raw rfl

theorem zsB_get {I : Nat → Nat → Prop} {w : World} : ∀ {ss : List SV} {vs : List Value}, zsB ss vs = true → ss.length = vs.length ∧ ∀ (i : Nat) (s : SV) (v : Value), ss[i]? = some s → vs[i]? = some v → RO I w s v
  | [], [], _ => by simp
  | s :: ss, v :: vs, h => by
    simp only [zsB, Bool.and_eq_true] at h
    obtain ⟨h1, h2⟩ := zsB_get (I := I) (w := w) h.2
    refine ⟨by simp [h1], fun i s' v' hs hv => ?_⟩
    cases i with
    | zero => simp at hs hv; subst hs; subst hv; exact zB_RO h.1
    | succ i => simp at hs hv; exact h2 i s' v' hs hv
  | [], _ :: _, h => by simp [zsB] at h
  | _ :: _, [], h => by simp [zsB] at h

theorem zB_one {s : SV} {v : Value} (h : zB s v = true) : v.oneCell' = true := by
  unfold zB at h
  split at h <;> first | rfl | simp at h

structure TIok (P : Program) (t : TypeId) (ti : TI) : Prop where
  zlen : ti.zero.length = ti.size
  und : ∃ d, P.underlying t = some d ∧ kindB P ti.k d = true
  info : ∃ i z, P.info? t = some i ∧ i.size = ti.size ∧ i.bytes = ti.bytes ∧ i.zero = some z ∧ zsB ti.zero z.cells.toList = true

theorem tiB_ok {P : Program} {t : TypeId} {ti : TI} (h : tiB P t ti = true) : TIok P t ti := by
  unfold tiB at h
  split at h
  · rename_i d i hd hi
    simp only [Bool.and_eq_true, beq_iff_eq] at h
    obtain ⟨⟨⟨⟨h0, h1⟩, h2⟩, h3⟩, h4⟩ := h
    split at h4
    · rename_i z hz
      exact ⟨h0, ⟨d, hd, h1⟩, ⟨i, z, hi, h2, h3, hz, h4⟩⟩
    · simp at h4
  · simp at h

theorem ofConst_RO {I : Nat → Nat → Prop} {w : World} {v : Value} {s : SV} (h : ofConst v = some s) : (∃ vs, s = .tup [] ∧ v = .tuple vs ∧ vs = #[]) ∨ RO I w s v := by
  unfold ofConst at h
  split at h
  · cases h; exact .inr (.int rfl)
  · cases h; exact .inr (.bool rfl)
  · cases h; exact .inr (.str rfl)
  · cases h; exact .inr .nilp
  · cases h; exact .inr (.slnil rfl rfl)
  · cases h; exact .inr (.raw rfl)
  · cases h; exact .inr (.raw rfl)
  · rename_i vs
    split at h
    · rename_i e
      cases h
      exact .inl ⟨vs, rfl, rfl, by simpa using e⟩
    · cases h
  · cases h

theorem ofConst_Rel {E : Env} {w : World} {v : Value} {s : SV} (h : ofConst v = some s) : Rel E w s v := by
  rcases ofConst_RO (I := E.I) (w := w) h with ⟨vs, rfl, rfl, rfl⟩ | h
  · exact .tup rfl (by simp)
  · exact .ro h

/-- Globals that are read. -/
def glBlk (w : World) (g : Nat) (s : SV) : Prop := match s with
  | .rarr n sz _ => ∃ (C : Array Value) (t : TypeId) (fr : Nat × Nat), w.heap[g]? = some (.cells C t fr) ∧ C.size = n * sz
  | _ => True
theorem glBlk.same {w w' : World} {g : Nat} {s : SV} (h : glBlk w g s) (e : w'.heap[g]? = w.heap[g]?) : glBlk w' g s := by
  unfold glBlk at h ⊢
  split at h
  · obtain ⟨C, t, fr, h1, h2⟩ := h
    exact ⟨C, t, fr, e.trans h1, h2⟩
  · trivial
def glOk (B : Bs) (gl : List (Nat × SV)) : Prop := ∀ g s, look g gl = some s → RO B.I0 B.w0 s (.pointer (some ⟨g, 0, none⟩)) ∧ g < B.w0.heap.size ∧ ¬ B.X g ∧ glBlk B.w0 g s

/-- What the lists say, as functions. -/
def ffOf (σ : Sy) : Nat → SG := fun s => (getO σ.fr s).map fun g => (condsOf σ.gm g.tg, g.v)
def hfOf (hp : List Hl) : Nat → Hl := fun h => (nth hp h).getD .fresh

def opSlots (x : Operand) : List Nat := match x with
  | .tmp s => [s]
  | _ => []

theorem rd_sound {B : Bs} {N : Nat} {E : Env} {a : Act} {w : World} {ff : Nat → SG} {hf : Nat → Hl} {cx : Cx} {σ : Sy} {T : List Nat} {x : Operand} {v : SV}
    (h : rd cx σ T x = some v) (hg : glOk B cx.gl) (st : St B N E a w ff hf) (ag : ∀ s ∈ opSlots x, ff s = ffOf σ s) (hT : allT (condsOf σ.gm T)) : Rel E w v (a.eval x) := by
  cases x with
  | tmp s =>
    simp only [rd] at h
    split at h
    · rename_i g hgo
      split at h
      · rename_i hs
        cases h
        have h1 := st.slot s
        rw [ag s (by simp [opSlots]), ffOf, hgo] at h1
        simp only [Option.map_some, SlotOk] at h1
        exact h1.2.1 (allT_sub hs hT)
      · cases h
    · cases h
  | const v' => exact ofConst_Rel h
  | global g =>
    have h1 := (hg g v h).1
    exact .ro (h1.mono (fun b o hb => (st.base.I0 b o hb).1) (fun b o hb => (st.base.I0 b o hb).2))
  | func f =>
    cases h
    exact .ro (.fn rfl)

theorem nilSz_rel {E : Env} {w : World} {cx : Cx} {t : TypeId} {v : SV} {u : Value} (h : Rel E w v u) : Rel E w (nilSz cx t v) u := by
  unfold nilSz
  split
  · rename_i f
    have hn : ∀ (n : Nat) (g : Nat → List SV), Rel E w (.sl (.l true) (.l 0) n g) u := by
      intro n g
      cases h with
      | ro h => cases h with
        | slnil h hn => exact .ro (.slnil rfl rfl)
        | sl g h => simp [BT.den] at h
    split
    · split
      · exact hn _ _
      · exact hn _ _
    · exact hn _ _
  · exact h

theorem rdT_sound {B : Bs} {N : Nat} {E : Env} {a : Act} {w : World} {ff : Nat → SG} {hf : Nat → Hl} {cx : Cx} {σ : Sy} {T : List Nat} {t : TypeId} {x : Operand} {v : SV}
    (h : rdT cx σ T t x = some v) (hg : glOk B cx.gl) (st : St B N E a w ff hf) (ag : ∀ s ∈ opSlots x, ff s = ffOf σ s) (hT : allT (condsOf σ.gm T)) : Rel E w v (a.eval x) := by
  unfold rdT at h
  split at h
  · rename_i v0 h0
    cases h
    exact nilSz_rel (rd_sound h0 hg st ag hT)
  · cases h

end Go.Sx
