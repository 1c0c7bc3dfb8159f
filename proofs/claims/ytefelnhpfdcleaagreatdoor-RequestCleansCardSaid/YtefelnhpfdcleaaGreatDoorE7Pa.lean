/- Part of the proofs of the statements about requests (layer 7): a symbolic executor over the code, that it is sound, and contracts of functions; it has no conditions of its own. -/
import Derived.WalkKit
import Derived.WalkSpells
import Derived.WalkLawsBesides
import Derived.Lib.Strings
import Derived.Lib.Builder
import Derived.CallsIn
namespace Go.Sx
inductive ST where
 | a (n : Int)
 | l (n : Int)
 | bin (op : BinOp) (k : IntKind) (x y : ST)
 | cv (k : IntKind) (x : ST)
 | len (s : List UInt8)
def binDen (op : BinOp) (k : IntKind) (x y : Int) : Int :=
 match op with
 | .add=>k.wrap (x + y)
 | .sub=>k.wrap (x - y)
 | .mul=>k.wrap (x * y)
 | .quo=>k.wrap (x.tdiv y)
 | .rem=>x.tmod y
 | .and=>k.wrap (BitVec.ofInt k.bits x &&& BitVec.ofInt k.bits y).toNat
 | .or=>k.wrap (BitVec.ofInt k.bits x ||| BitVec.ofInt k.bits y).toNat
 | .xor=>k.wrap (BitVec.ofInt k.bits x ^^^ BitVec.ofInt k.bits y).toNat
 | .andNot=>k.wrap (BitVec.ofInt k.bits x &&& ~~~BitVec.ofInt k.bits y).toNat
 | .shl=>k.wrap (x * 2 ^ (min y.toNat k.bits))
 | .shr=>x.fdiv (2 ^ (min y.toNat k.bits))
 | _=>0
def ST.den : ST→Int
 | .a n=>n
 | .l n=>n
 | .bin op k x y=>binDen op k x.den y.den
 | .cv k x=>k.wrap x.den
 | .len s=>s.length
def cmpDen (op : BinOp) (x y : Int) : Bool :=
 match op with
 | .eql=>x == y
 | .neq=>x != y
 | .lss=>decide (x < y)
 | .leq=>decide (x≤y)
 | .gtr=>decide (y < x)
 | .geq=>decide (y≤x)
 | _=>false
inductive BT where
 | a (b : Bool)
 | l (b : Bool)
 | cmp (op : BinOp) (x y : ST)
 | not (x : BT)
 | and (x y : BT)
 | or (x y : BT)
 | beq (x y : BT)
 | seq (s t : List UInt8)
def BT.den : BT→Bool
 | .a b=>b
 | .l b=>b
 | .cmp op x y=>cmpDen op x.den y.den
 | .not x=>!x.den
 | .and x y=>x.den && y.den
 | .or x y=>x.den || y.den
 | .beq x y=>x.den == y.den
 | .seq s t=>s == t
inductive SV where
 | int (k : IntKind) (t : ST)
 | bool (b : BT)
 | str (s : List UInt8)
 | nilp
 | raw (v : Value)
 | fn (f : FuncId)
 | sl (nl : BT) (n : ST) (sz : Nat) (f : Nat→List SV)
 | rptr (cs : List SV)
 | rarr (n sz : Nat) (f : Nat→List SV)
 | agg (cs : List SV)
 | tup (vs : List SV)
 | clo (f : FuncId) (cs : List SV)
 | ptr (h off : Nat)
 | gsl (nl : BT) (n : ST) (sz : Nat) (f : Nat→List SV) (h : Nat)
 | mrow (h : Nat)
 | mptr (h j off : Nat)
 | osl (nl : BT) (n : ST) (h : Nat)
 | optr (n : ST) (h j off : Nat)
 | mapv (h : Nat)
 | yv (h : Nat)
 | vsl (nl : BT) (n g : ST) (h : Nat)
 | tsl (n a : ST) (h : Nat)
 | ifc (b : BT)
structure LC where
 fn : FuncId
 ps : Array Tmp
 assign : Code
 body : Code
 n : Nat
inductive Jp where
 | ret
 | exit (id : Nat)
 | goto (l : Nat)
def Jp.code : Jp→Code
 | .ret=>.ret
 | .exit id=>.exit id
 | .goto l=>.goto l
inductive Hl where
 | fresh
 | gone
 | blk (ty : TypeId) (cs : List SV)
 | tail (ty : TypeId) (n : ST) (sz : Nat)
 | row (ty : TypeId) (n : ST) (sz : Nat) (f : Nat→List SV)
 | own (ty : TypeId) (n : ST) (sz : Nat) (gr : Bool) (f : Nat→List SV)
 | bld (T e : TypeId) (s : List UInt8)
 | mset (F : List UInt8→Bool)
 | vec (ty : TypeId) (n g : ST) (sz : Nat) (f : Nat→List SV)
 | lrec (c : LC) (fr : List (Nat×Option SV)) (st : Nat) (pd : Option Jp)
structure G where
 tg : List Nat
 gt : Option Nat
 gf : Option Nat
 v : SV
structure Sy where
 fr : List (Option G)
 hp : List Hl
 gm : List BT
structure Dn where
 i : ST→Int
 b : BT→Bool
def dn : Dn:=⟨ST.den,BT.den⟩
inductive TK where
 | int (k : IntKind)
 | bool
 | string
 | pointer (e : TypeId)
 | slice (e : TypeId)
 | struct (fs : List (Nat×TypeId))
 | array (n : Nat) (e : TypeId)
 | map (k e : TypeId)
 | iface
 | other
structure TI where
 k : TK
 size : Nat
 bytes : Nat
 zero : List SV
abbrev FSpec:=Dn→List SV→List Hl→(SV→List Hl→Prop)→Prop
inductive Gh where
 | freeze (s : Nat)
 | attach (s : Nat) (e : TypeId)
 | hold (s k e : Nat)
 | own (s e : Nat)
 | share (s : Nat)
 | bld (s e : Nat)
 | tot (s : Nat)
 | vec (s e : Nat)
 | vecb (s k e : Nat)
 | vshare (s : Nat)
 | vshareb (s k : Nat)
 | frz (s : Nat)
 | unrow (s : Nat)
structure Cx where
 D : Dn
 tt : List (Nat×TI)
 tab : List (Nat×FSpec)
 gl : List (Nat×SV)
 eqs : List TypeId
 gh : List (Nat×List Gh)
 its : List (Nat×(FSpec→FSpec)):=[]
 yl : List FSpec:=[]
def look {α : Type} (k : Nat) : List (Nat×α)→Option α
 | []=>none
 | (j,x) :: l=>if j == k then some x else look k l
def getO {α : Type} : List (Option α)→Nat→Option α
 | [],_=>none
 | x :: _,0=>x
 | _ :: l,n + 1=>getO l n
def nth {α : Type} : List α→Nat→Option α
 | [],_=>none
 | x :: _,0=>some x
 | _ :: l,n + 1=>nth l n
def setN {α : Type} : List α→Nat→α→List α
 | [],_,_=>[]
 | _ :: l,0,v=>v :: l
 | x :: l,n + 1,v=>x :: setN l n v
def takeN {α : Type} : Nat→List α→List α
 | 0,_=>[]
 | _ + 1,[]=>[]
 | n + 1,x :: l=>x :: takeN n l
def dropN {α : Type} : Nat→List α→List α
 | 0,l=>l
 | _ + 1,[]=>[]
 | n + 1,_ :: l=>dropN n l
def lenN {α : Type} : List α→Nat
 | []=>0
 | _ :: l=>lenN l + 1
def putN {α : Type} : List α→Nat→List α→List α
 | l,_,[]=>l
 | l,off,v :: vs=>putN (setN l off v) (off + 1) vs
def hasN (x : Nat) : List Nat→Bool
 | []=>false
 | y :: l=>y == x || hasN x l
def subN : List Nat→List Nat→Bool
 | [],_=>true
 | x :: l,t=>hasN x t && subN l t
def SV.cells : SV→List SV
 | .agg cs=>cs
 | v=>[v]
def oneB : SV→Bool
 | .agg _ | .tup _=>false
 | .raw v=>v.oneCell'
 | _=>true
def onesB : List SV→Bool
 | []=>true
 | c :: cs=>oneB c && onesB cs
def ofConst : Value→Option SV
 | .int k n=>some (.int k (.l n))
 | .bool b=>some (.bool (.l b))
 | .string s=>some (.str s.data.toList)
 | .pointer none=>some .nilp
 | .slice none 0 0=>some (.sl (.l true) (.l 0) 0 fun _=>[])
 | .nilIface=>some (.raw .nilIface)
 | .nilFunc=>some (.raw .nilFunc)
 | .map none=>some (.raw (.map none))
 | .tuple vs=>if vs.size == 0 then some (.tup []) else none
 | _=>none
def rd (cx : Cx) (σ : Sy) (T : List Nat) : Operand→Option SV
 | .tmp s =>
  match getO σ.fr s with
  | some g=>if subN g.tg T then some g.v else none
  | none=>none
 | .const v=>ofConst v
 | .global g=>look g cx.gl
 | .func f=>some (.fn f)
structure InB (i n : Int) : Prop where
 lo : 0≤i
 hi : i < n
structure LtB (j : Nat) (n : Int) : Prop where
 h : (j : Int) < n
structure IsJ (j : Nat) (i : Int) : Prop where
 h : (j : Int) = i
structure NZ (i : Int) : Prop where
 h : i≠0
structure NN (i : Int) : Prop where
 h : 0≤i
structure StrFit (a b : List UInt8) : Prop where
 h : (a.length : Int) + b.length≤9223372036854775807
structure MkFit (c : Int) (bytes : Nat) : Prop where
 lo : 0≤c
 mem : c * bytes≤140737488355328
 hi : c≤9223372036854775807
structure AppNew (m : Int) (bytes : Nat) : Prop where
 mem : m * bytes≤140737488355328
 hi : m≤9223372036854775807
structure AppFit (n n0 m : Int) (bytes : Nat) : Prop where
 eq : n = n0
 mem : (n + m) * bytes≤140737488355328
 hi : n + m≤9223372036854775807
structure SubB (a b n : Int) : Prop where
 lo : 0≤a
 le : a≤b
 hi : b≤n
structure SubS (a b : Int) (s : List UInt8) : Prop where
 lo : 0≤a
 le : a≤b
 hi : b≤s.length
structure InS (i : Int) (s : List UInt8) : Prop where
 lo : 0≤i
 hi : i < s.length
structure CatOf (r a b : List UInt8) : Prop where
 h : r = a ++ b
structure SubOf (r s : List UInt8) (a b : Int) : Prop where
 h : r = (s.drop a.toNat).take (b.toNat - a.toNat)
structure ByteOf (c : Int) (s : List UInt8) (i : Int) : Prop where
 h : c = ((s.getD i.toNat 0).toNat : Int)
structure EqN (n n0 : Int) : Prop where
 h : n = n0
structure MaxOf (r a b : Int) : Prop where
 h : r = max a b
structure MinOf (r a b : Int) : Prop where
 h : r = min a b
structure MapOf (F' F : List UInt8→Bool) (s : List UInt8) (b : Bool) : Prop where
 h : ∀ k,F' k = if k = s then b else F k
structure Copied (f' : Nat→List SV) (r m n : Int) (g f : Nat→List SV) : Prop where
 len : r = min m n
 lo : ∀ i : Nat,(i : Int) < r→f' i = g i
 hi : ∀ i : Nat,r≤(i : Int)→(i : Int) < n→f' i = f i
structure SubRow (f' : Nat→List SV) (n' : Int) (f : Nat→List SV) (a b : Int) : Prop where
 len : n' = b - a
 row : ∀ i j : Nat,(j : Int) = i + a→f' i = f j
structure SetAt (f' f : Nat→List SV) (j : Nat) (cs : List SV) : Prop where
 at_ : f' j = cs
 other : ∀ i : Nat,i≠j→f' i = f i
structure NewRow (f' : Nat→List SV) (n' m : Int) (g : Nat→List SV) : Prop where
 len : n' = m
 row : ∀ j : Nat,(j : Int) < m→f' j = g j
structure MoreRow (f' : Nat→List SV) (n' n m : Int) (f g : Nat→List SV) : Prop where
 len : n' = n + m
 lo : ∀ i : Nat,(i : Int) < n→f' i = f i
 hi : ∀ i j : Nat,(i : Int) = n + j→(j : Int) < m→f' i = g j
structure RowAs (n : Int) (f2 f : Nat→List SV) : Prop where
 h : ∀ i : Nat,(i : Int) < n→f2 i = f i
structure Flat (f : Nat→List SV) (n : Int) (sz : Nat) (cs : List SV) : Prop where
 len : (cs.length : Int) = n * sz
 h : ∀ i : Nat,(i : Int) < n→f i = (cs.drop (i * sz)).take sz
structure Built (f : Nat→List SV) (rows : List (List SV)) : Prop where
 h : ∀ (i : Nat) (r : List SV),rows[i]? = some r→f i = r
def allCat (a b : List UInt8) (K : List UInt8→Prop) : Prop:=∀ r,CatOf r a b→K r
def allSubS (s : List UInt8) (a b : Int) (K : List UInt8→Prop) : Prop:=∀ r,SubOf r s a b→K r
def allByte (s : List UInt8) (i : Int) (K : Int→Prop) : Prop:=∀ c,ByteOf c s i→K c
def allMax (a b : Int) (K : Int→Prop) : Prop:=∀ r,MaxOf r a b→K r
def allMap (F : List UInt8→Bool) (s : List UInt8) (b : Bool) (K : (List UInt8→Bool)→Prop) : Prop:=∀ F',MapOf F' F s b→K F'
def allMin (a b : Int) (K : Int→Prop) : Prop:=∀ r,MinOf r a b→K r
def allCopy (m n : Int) (g f : Nat→List SV) (K : (Nat→List SV)→Int→Prop) : Prop:=∀ f' r,Copied f' r m n g f→K f' r
def allSub (f : Nat→List SV) (a b : Int) (K : (Nat→List SV)→Int→Prop) : Prop:=∀ f' n',SubRow f' n' f a b→K f' n'
def allSet (f : Nat→List SV) (j : Nat) (cs : List SV) (K : (Nat→List SV)→Prop) : Prop:=∀ f',SetAt f' f j cs→K f'
def allNew (m : Int) (g : Nat→List SV) (K : (Nat→List SV)→Int→Prop) : Prop:=∀ f' n',NewRow f' n' m g→K f' n'
def allMore (n m : Int) (f g : Nat→List SV) (K : (Nat→List SV)→Int→Prop) : Prop:=∀ f' n',MoreRow f' n' n m f g→K f' n'
structure ClrRow (f' f : Nat→List SV) (a : Int) (z : List SV) : Prop where
 lo : ∀ i : Nat,(i : Int) < a→f' i = f i
 hi : ∀ i : Nat,a≤(i : Int)→f' i = z
def allClr (f : Nat→List SV) (a : Int) (z : List SV) (K : (Nat→List SV)→Prop) : Prop:=∀ f',ClrRow f' f a z→K f'
structure NextG (g' g : Int) : Prop where
 h : g' = g + 1
def allGen (g : Int) (K : Int→Prop) : Prop:=∀ g',NextG g' g→K g'
def allBuilt (rows : List (List SV)) (K : (Nat→List SV)→Prop) : Prop:=∀ f,Built f rows→K f
def byteRow (s : List UInt8) (i : Nat) : List SV:=[.int .u8 (.a ((s.getD i 0).toNat : Int))]
structure ByteRow (n : Int) (f : Nat→List SV) : Prop where
 nn : 0≤n
 h : ∀ i : Nat,(i : Int) < n→∃ t : ST,f i = [.int .u8 t]∧0≤t.den∧t.den < 256
structure StrRow (r : List UInt8) (n : Int) (f : Nat→List SV) : Prop where
 len : (r.length : Int) = n
 row : ∀ (i : Nat) (t : ST),(i : Int) < n→f i = [.int .u8 t]→((r.getD i 0).toNat : Int) = t.den
structure SFit (s : List UInt8) : Prop where
 h : s.length≤9223372036854775807
structure BytesOf (f : Nat→List SV) (s : List UInt8) : Prop where
 h : f = byteRow s
def allBytes (s : List UInt8) (K : (Nat→List SV)→Prop) : Prop:=∀ f,BytesOf f s→K f
def allStr (n : Int) (f : Nat→List SV) (K : List UInt8→Prop) : Prop:=∀ r,StrRow r n f→K r
def Ob (D : Dn) (gm : List BT) : List Nat→Prop→Prop
 | [],A=>A
 | i :: T,A=>match nth gm i with
  | some b=>D.b b = true→Ob D gm T A
  | none=>Ob D gm T A
def allJ (D : Dn) (gm : List BT) (T : List Nat) (i : Int) (K : Nat→Prop) : Prop :=
 match T with
 | []=>∀ j,IsJ j i→K j
 | T=>∀ j,Ob D gm T (IsJ j i)→K j
inductive Ef where
 | set (h off : Nat) (vs : List SV)
 | put (h : Nat) (hl : Hl)
def putH (hp : List Hl) (h : Nat) (hl : Hl) : List Hl :=
 if h == lenN hp then hp ++ [hl] else setN hp h hl
def efH (hp : List Hl) : Ef→List Hl
 | .set h off vs =>
  match nth hp h with
  | some (.blk ty cs)=>setN hp h (.blk ty (putN cs off vs))
  | _=>hp
 | .put h hl=>putH hp h hl
def efsH (hp : List Hl) : List Ef→List Hl
 | []=>hp
 | e :: es=>efsH (efH hp e) es
structure Out where
 v : SV
 efs : List Ef
 rds : List Nat     -- heaplets read whole
 rdc : List (Nat×Nat×Nat)   -- cells read: heaplet,from,how many
def size? (cx : Cx) (t : TypeId) : Option Nat:=(look t cx.tt).map (·.size)
def isAgg? (cx : Cx) (t : TypeId) : Bool :=
 match look t cx.tt with
 | some ⟨.struct _,_,_,_⟩ | some ⟨.array _ _,_,_,_⟩=>true
 | _=>false
def pack (agg : Bool) (cs : List SV) : Option SV :=
 if agg then some (.agg cs) else match cs with
  | [c]=>some c
  | _=>none
def field? (cx : Cx) (t : TypeId) (i : Nat) : Option (Nat×TypeId) :=
 match look t cx.tt with
 | some ⟨.struct fs,_,_,_⟩=>nth fs i
 | _=>none
def fillP (cx : Cx) (t : TypeId) (cs : List SV) : List (Nat×SV)→Option (List SV)
 | []=>some cs
 | (i,v) :: ps =>
  match look t cx.tt with
  | some ⟨.struct fs,_,_,_⟩ =>
   match nth fs i with
   | some (off,ft)=>match size? cx ft with
    | some n=>if lenN v.cells == n && Nat.ble (off + n) (lenN cs) then fillP cx t (putN cs off v.cells) ps else none
    | none=>none
   | none=>none
  | some ⟨.array _ e,_,_,_⟩ =>
   match size? cx e with
   | some n=>if lenN v.cells == n && Nat.ble (i * n + n) (lenN cs) then fillP cx t (putN cs (i * n) v.cells) ps else none
   | none=>none
  | _=>none
def rdParts (cx : Cx) (σ : Sy) (T : List Nat) : List (Nat×Operand)→Option (List (Nat×SV))
 | []=>some []
 | (i,x) :: ps=>match rd cx σ T x,rdParts cx σ T ps with
  | some v,some vs=>some ((i,v) :: vs)
  | _,_=>none
def nilSz (cx : Cx) (t : TypeId) : SV→SV
 | .sl (.l true) (.l 0) 0 f=>match look t cx.tt with
  | some ⟨.slice e,_,_,_⟩=>match size? cx e with
   | some n=>.sl (.l true) (.l 0) n fun _=>[]
   | none=>.sl (.l true) (.l 0) 0 f
  | _=>.sl (.l true) (.l 0) 0 f
 | v=>v
def rdT (cx : Cx) (σ : Sy) (T : List Nat) (t : TypeId) (x : Operand) : Option SV :=
 match rd cx σ T x with
 | some v=>some (nilSz cx t v)
 | none=>none
def rdAll (cx : Cx) (σ : Sy) (T : List Nat) : List Operand→List TypeId→Option (List SV)
 | [],_=>some []
 | x :: xs,t :: ts=>match rdT cx σ T t x,rdAll cx σ T xs ts with
  | some v,some vs=>some (v :: vs)
  | _,_=>none
 | x :: xs,[]=>match rd cx σ T x,rdAll cx σ T xs [] with
  | some v,some vs=>some (v :: vs)
  | _,_=>none
def norm (D : Dn) : SV→SV
 | .int k t=>.int k (.a (D.i t))
 | .bool b=>.bool (.a (D.b b))
 | .sl nl n sz f=>.sl (.a (D.b nl)) (.a (D.i n)) sz f
 | .gsl nl n sz f h=>.gsl (.a (D.b nl)) (.a (D.i n)) sz f h
 | .osl nl n h=>.osl (.a (D.b nl)) (.a (D.i n)) h
 | .optr n h j off=>.optr (.a (D.i n)) h j off
 | .ifc b=>.ifc (.a (D.b b))
 | .vsl nl n g h=>.vsl (.a (D.b nl)) (.a (D.i n)) (.a (D.i g)) h
 | .agg cs=>.agg (normL D cs)
 | .tup vs=>.tup (normL D vs)
 | .clo f vs=>.clo f (normL D vs)
 | v=>v
 where normL (D : Dn) : List SV→List SV
 | []=>[]
 | c :: cs=>norm D c :: normL D cs
def loose : SV→SV
 | .gsl nl n sz f _=>.sl nl n sz f
 | .agg cs=>.agg (looseL cs)
 | .tup vs=>.tup (looseL vs)
 | .clo f vs=>.clo f (looseL vs)
 | v=>v
 where looseL : List SV→List SV
 | []=>[]
 | c :: cs=>loose c :: looseL cs
end Go.Sx
namespace Go.Sx
def out (K : Out→Prop) (v : SV) : Prop:=K ⟨v,[],[],[]⟩
def outO (K : Out→Prop) : Option SV→Prop
 | some v=>K ⟨v,[],[],[]⟩
 | none=>False
def arith : BinOp→Bool
 | .add | .sub | .mul | .and | .or | .xor | .andNot=>true
 | _=>false
def isCmp : BinOp→Bool
 | .eql | .neq | .lss | .leq | .gtr | .geq=>true
 | _=>false
def cmpT (op : BinOp) : ST→ST→BT
 | .l m,.l n=>.l (cmpDen op m n)
 | x,y=>.cmp op x y
def notT : BT→BT
 | .l b=>.l (!b)
 | x=>.not x
def binT (op : BinOp) (k : IntKind) : ST→ST→ST
 | .l m,.l n=>.l (binDen op k m n)
 | x,y=>.bin op k x y
def andT : BT→BT→BT
 | .l true,y=>y
 | x,.l true=>x
 | x,y=>.and x y
def eqFs (cx : Cx) (g : TypeId→List SV→List SV→Option BT) (xs ys : List SV) : List (Nat×TypeId)→Option BT
 | []=>some (.l true)
 | (fo,ft) :: fs =>
  match size? cx ft with
  | some m=>match g ft (takeN m (dropN fo xs)) (takeN m (dropN fo ys)),eqFs cx g xs ys fs with
   | some a,some b=>some (andT a b)
   | _,_=>none
  | none=>none
def eqBT (cx : Cx) : Nat→TypeId→List SV→List SV→Option BT
 | 0,_,_,_=>none
 | n + 1,t,xs,ys =>
  match look t cx.tt with
  | some ⟨.int _,_,_,_⟩=>match xs,ys with
   | [.int k a],[.int k' b]=>if k = k' then some (cmpT .eql a b) else none
   | _,_=>none
  | some ⟨.bool,_,_,_⟩=>match xs,ys with
   | [.bool a],[.bool b]=>some (.beq a b)
   | _,_=>none
  | some ⟨.string,_,_,_⟩=>match xs,ys with
   | [.str a],[.str b]=>some (.seq a b)
   | _,_=>none
  | some ⟨.struct fs,_,_,_⟩=>if hasN t cx.eqs then eqFs cx (eqBT cx n) xs ys fs else none
  | _=>none
def seqS (cx : Cx) (a b : List UInt8) : BT :=
 match look 999984 cx.gh with
 | some _=>.l (a == b)
 | none=>.seq a b
def nlOf : SV→Option BT
 | .sl nl _ _ _=>some nl
 | .gsl nl _ _ _ _=>some nl
 | .osl nl _ _=>some nl
 | .vsl nl _ _ _=>some nl
 | _=>none
def nilQ (op : BinOp) (b : BT) (K : Out→Prop) : Prop :=
 match op with
 | .eql=>out K (.bool b)
 | .neq=>out K (.bool (notT b))
 | _=>False
def ifcOf : SV→Option BT
 | .ifc b=>some b
 | .raw .nilIface=>some (.l true)
 | _=>none
def stepNil (cx : Cx) (op : BinOp) (t : TypeId) (x : SV) (y : Operand) (K : Out→Prop) : Prop :=
 match y,ifcOf x,look t cx.tt with
 | .const .nilIface,some b,some ⟨.iface,_,_,_⟩=>nilQ op b K
 | _,_,_=>False
def stepBin (cx : Cx) (gm : List BT) (T : List Nat) (op : BinOp) (t : TypeId) (x y : SV) (K : Out→Prop) : Prop :=
 match x,y with
 | .int k a,.int k' b =>
  if arith op then (if k = k' then out K (.int k (binT op k a b)) else False)
  else if isCmp op then (if k = k' then out K (.bool (cmpT op a b)) else False)
  else match op with
   | .quo | .rem=>if k = k' then Ob cx.D gm T (NZ (cx.D.i b))∧out K (.int k (.bin op k a b)) else False
   | .shl | .shr=>Ob cx.D gm T (NN (cx.D.i b))∧out K (.int k (.bin op k a b))
   | _=>False
 | .bool a,.bool b =>
  match op,look t cx.tt with
  | .eql,some ⟨.bool,_,_,_⟩=>out K (.bool (.beq a b))
  | .neq,some ⟨.bool,_,_,_⟩=>out K (.bool (.not (.beq a b)))
  | _,_=>False
 | .str a,.str b =>
  match op with
  | .add=>Ob cx.D gm T (StrFit a b)∧allCat a b fun r=>out K (.str r)
  | .eql=>out K (.bool (seqS cx a b))
  | .neq=>out K (.bool (notT (seqS cx a b)))
  | _=>False
 | .agg a,.agg b =>
  match op,hasN t cx.eqs && isAgg? cx t,eqBT cx 8 t a b with
  | .eql,true,some c=>out K (.bool c)
  | .neq,true,some c=>out K (.bool (notT c))
  | _,_,_=>False
 | x,.sl (.l true) (.l 0) 0 _ =>
  match nlOf x,look t cx.tt with
  | some nl,some ⟨.slice _,_,_,_⟩=>nilQ op nl K
  | _,_=>False
 | _,_=>False
def plainV : SV→Bool
 | .ptr .. | .gsl .. | .mrow .. | .mptr .. | .clo .. | .osl .. | .optr .. | .mapv .. | .yv .. | .vsl .. | .tsl ..=>false
 | .agg cs=>plainL cs
 | .tup cs=>plainL cs
 | _=>true
 where plainL : List SV→Bool
 | []=>true
 | c :: cs=>plainV c && plainL cs
def passP : Hl→Bool
 | .blk .. | .bld ..=>true
 | _=>false
def passO : Hl→Bool
 | .own ..=>true
 | _=>false
def capsOf (hp : List Hl) : List SV→Nat→Option (List SV×List Nat×List Hl)
 | [],_=>some ([],[],[])
 | .ptr h off :: vs,n=>match nth hp h,capsOf hp vs (n + 1) with
  | some l,some (as,hs,ls)=>if passP l && !hasN h hs then some (.ptr n off :: as,h :: hs,l :: ls) else none
  | _,_=>none
 | v :: vs,n=>match plainV v,capsOf hp vs n with
  | true,some (as,hs,ls)=>some (v :: as,hs,ls)
  | _,_=>none
def apartN : List Nat→List Nat→Bool
 | [],_=>true
 | x :: l,t=>!hasN x t && apartN l t
def argsOf (hp : List Hl) : List SV→Nat→Option (List SV×List Nat×List Hl)
 | [],_=>some ([],[],[])
 | .ptr h off :: vs,n=>match nth hp h,argsOf hp vs (n + 1) with
  | some l,some (as,hs,ls)=>if passP l && !hasN h hs then some (.ptr n off :: as,h :: hs,l :: ls) else none
  | _,_=>none
 | .osl nl m h :: vs,n=>match nth hp h,argsOf hp vs (n + 1) with
  | some l,some (as,hs,ls)=>if passO l && !hasN h hs then some (.osl nl m n :: as,h :: hs,l :: ls) else none
  | _,_=>none
 | .clo f cs :: vs,n=>match capsOf hp cs n with
  | some (as1,hs1,ls1)=>match argsOf hp vs (n + lenN hs1) with
   | some (as,hs,ls)=>if apartN hs1 hs then some (.clo f as1 :: as,hs1 ++ hs,ls1 ++ ls) else none
   | none=>none
  | none=>none
 | v :: vs,n=>match plainV v,argsOf hp vs n with
  | true,some (as,hs,ls)=>some (v :: as,hs,ls)
  | _,_=>none
def backEfs : List Nat→List Hl→List Ef
 | h :: hs,l :: ls=>.put h l :: backEfs hs ls
 | _,_=>[]
def plainH : List Hl→Bool
 | []=>true
 | .blk _ cs :: ls=>plainV (.agg cs) && plainH ls
 | .own .. :: ls=>plainH ls
 | .bld .. :: ls=>plainH ls
 | .gone :: ls=>plainH ls
 | _ :: _=>false
def normH (D : Dn) : List Hl→List Hl
 | []=>[]
 | .blk ty cs :: ls=>.blk ty (looseL (norm.normL D cs)) :: normH D ls
 | .own ty n sz gr f :: ls=>.own ty (.a (D.i n)) sz gr f :: normH D ls
 | l :: ls=>l :: normH D ls
 where looseL:=loose.looseL
def resV (m m' : Nat) : SV→Bool
 | .osl _ _ h=>Nat.ble m h && Nat.blt h m'
 | .tup vs=>resL m m' vs
 | v=>plainV v
 where resL (m m' : Nat) : List SV→Bool
 | []=>true
 | c :: cs=>resV m m' c && resL m m' cs
def reV (m a : Nat) : SV→SV
 | .osl nl n h=>.osl nl n (h - m + a)
 | .tup vs=>.tup (reL m a vs)
 | v=>v
 where reL (m a : Nat) : List SV→List SV
 | []=>[]
 | c :: cs=>reV m a c :: reL m a cs
def newEfs : Nat→List Hl→List Ef
 | _,[]=>[]
 | a,l :: ls=>.put a l :: newEfs (a + 1) ls
structure SLe (r : List UInt8) (n : Int) : Prop where
 h : (r.length : Int)≤n∨r = []
def stepStr (cx : Cx) (σ : Sy) (T : List Nat) (e : TypeId) (n : ST) (f : Nat→List SV) (K : Out→Prop) : Prop :=
 match T,look e cx.tt with
 | [],some ⟨.int .u8,_,_,_⟩=>ByteRow (cx.D.i n) f∧allStr (cx.D.i n) f fun r=>out K (.str r)
 | T,some ⟨.int .u8,_,_,_⟩=>Ob cx.D σ.gm T (ByteRow (cx.D.i n) f)∧∀ r,SLe r (cx.D.i n)→Ob cx.D σ.gm T (StrRow r (cx.D.i n) f)→out K (.str r)
 | _,_=>False
def hsV : SV→List Nat
 | .ptr h _=>[h]
 | .gsl _ _ _ _ h=>[h]
 | .osl _ _ h=>[h]
 | .optr _ h _ _=>[h]
 | .mapv h=>[h]
 | .vsl _ _ _ h=>[h]
 | .tsl _ _ h=>[h]
 | .yv h=>[h]
 | .agg cs=>hsL cs
 | .tup cs=>hsL cs
 | .clo _ cs=>hsL cs
 | _=>[]
 where hsL : List SV→List Nat
 | []=>[]
 | c :: cs=>hsV c ++ hsL cs
def hsF : List (Nat×Option SV)→List Nat
 | []=>[]
 | (_,some v) :: l=>hsV v ++ hsF l
 | (_,none) :: l=>hsF l
def hsH : Hl→List Nat
 | .blk _ cs=>hsV.hsL cs
 | .lrec _ fr _ _=>hsF fr
 | _=>[]
def rnV (ρ : Nat→Nat) : SV→SV
 | .ptr h o=>.ptr (ρ h) o
 | .gsl nl n sz f h=>.gsl nl n sz f (ρ h)
 | .osl nl n h=>.osl nl n (ρ h)
 | .optr n h j o=>.optr n (ρ h) j o
 | .mapv h=>.mapv (ρ h)
 | .vsl nl n g h=>.vsl nl n g (ρ h)
 | .tsl n a h=>.tsl n a (ρ h)
 | .yv h=>.yv (ρ h)
 | .agg cs=>.agg (rnL ρ cs)
 | .tup cs=>.tup (rnL ρ cs)
 | .clo f cs=>.clo f (rnL ρ cs)
 | v=>v
 where rnL (ρ : Nat→Nat) : List SV→List SV
 | []=>[]
 | c :: cs=>rnV ρ c :: rnL ρ cs
def rnF (ρ : Nat→Nat) : List (Nat×Option SV)→List (Nat×Option SV)
 | []=>[]
 | (s,some v) :: l=>(s,some (rnV ρ v)) :: rnF ρ l
 | (s,none) :: l=>(s,none) :: rnF ρ l
def rnH (ρ : Nat→Nat) : Hl→Hl
 | .blk ty cs=>.blk ty (rnV.rnL ρ cs)
 | .lrec c fr st pd=>.lrec c (rnF ρ fr) st pd
 | l=>l
def rowless : SV→Bool
 | .mrow _=>false
 | .mptr ..=>false
 | .agg cs=>rowlessL cs
 | .tup cs=>rowlessL cs
 | .clo _ cs=>rowlessL cs
 | _=>true
 where rowlessL : List SV→Bool
 | []=>true
 | c :: cs=>rowless c && rowlessL cs
def rowlessF : List (Nat×Option SV)→Bool
 | []=>true
 | (_,some v) :: l=>rowless v && rowlessF l
 | (_,none) :: l=>rowlessF l
def rowlessH : Hl→Bool
 | .blk _ cs=>rowless.rowlessL cs
 | .lrec _ fr _ _=>rowlessF fr
 | .tail ..=>true
 | .own ..=>true
 | .bld ..=>true
 | .mset ..=>true
 | .vec ..=>true
 | .gone=>true
 | _=>false
def normG (D : Dn) : Hl→Hl
 | .blk ty cs=>.blk ty (norm.normL D cs)
 | .tail ty n sz=>.tail ty (.a (D.i n)) sz
 | .own ty n sz gr f=>.own ty (.a (D.i n)) sz gr f
 | .vec ty n g sz f=>.vec ty (.a (D.i n)) (.a (D.i g)) sz f
 | l=>l
def addNew : List Nat→List Nat→List Nat
 | acc,[]=>acc
 | acc,h :: t=>addNew (if hasN h acc then acc else acc ++ [h]) t
def growG (hp : List Hl) (acc : List Nat) : List Nat→List Nat
 | []=>acc
 | h :: t=>growG hp (match nth hp h with | some l=>addNew acc (hsH l) | none=>acc) t
def reach (hp : List Hl) : List Hl→List Nat→List Nat
 | [],acc=>acc
 | _ :: t,acc=>reach hp t (growG hp acc acc)
def ixOf : List Nat→Nat→Nat
 | [],_=>0
 | x :: l,h=>if x == h then 0 else ixOf l h + 1
def allIn (t : List Nat) : List Nat→Bool
 | []=>true
 | x :: l=>hasN x t && allIn t l
def nodupN : List Nat→Bool
 | []=>true
 | x :: l=>!hasN x l && nodupN l
def lowN (n : Nat) : List Nat→Bool
 | []=>true
 | x :: l=>Nat.blt x n && lowN n l
def getG (D : Dn) (hp : List Hl) : List Nat→List Hl
 | []=>[]
 | h :: t=>(match nth hp h with | some l=>normG D l | none=>.gone) :: getG D hp t
def mapH (g : Hl→Hl) : List Hl→List Hl
 | []=>[]
 | l :: ls=>g l :: mapH g ls
def closedG (hs : List Nat) : List Hl→Bool
 | []=>true
 | l :: ls=>rowlessH l && allIn hs (hsH l) && closedG hs ls
def okGL (n : Nat) : List Hl→Bool
 | []=>true
 | l :: ls=>rowlessH l && lowN n (hsH l) && okGL n ls
def backR (hs : List Nat) (m M i : Nat) : Nat:=if Nat.blt i m then (match nth hs i with | some k=>k | none=>0) else M + (i - m)
def stepCallG (cx : Cx) (σ : Sy) (T : List Nat) (vs0 : List SV) (sp : FSpec) (K : Out→Prop) : Prop :=
 match loose.looseL (norm.normL cx.D vs0) with
 | vs =>
  match reach σ.hp σ.hp (addNew [] (hsV.hsL vs)) with
  | hs =>
   match getG cx.D σ.hp hs with
   | ls =>
    if nodupN hs && allIn hs (hsV.hsL vs) && rowless.rowlessL vs && lowN (lenN σ.hp) hs && closedG hs ls && (hs.isEmpty || T.isEmpty) then
     sp cx.D (rnV.rnL (ixOf hs) vs) (mapH (rnH (ixOf hs)) ls) fun r ls' =>
      (Nat.ble (lenN hs) (lenN ls') && rowless r && lowN (lenN ls') (hsV r) && okGL (lenN ls') ls') = true∧
      K ⟨rnV (backR hs (lenN hs) (lenN σ.hp)) r,backEfs hs (mapH (rnH (backR hs (lenN hs) (lenN σ.hp))) (takeN (lenN hs) ls')) ++ newEfs (lenN σ.hp) (mapH (rnH (backR hs (lenN hs) (lenN σ.hp))) (dropN (lenN hs) ls')),hs,[]⟩
    else False
def stepCall (cx : Cx) (σ : Sy) (T : List Nat) (f : FuncId) (vs : List SV) (K : Out→Prop) : Prop :=
 match look (f + 1000000) cx.tab with
 | some sp=>stepCallG cx σ T vs sp K
 | none =>
 match look f cx.tab,argsOf σ.hp (loose.looseL (norm.normL cx.D vs)) 0 with
 | some sp,some (as,hs,ls) =>
  if plainH (normH cx.D ls) && (hs.isEmpty || T.isEmpty) && Nat.blt f 1000000 then
   sp cx.D as (normH cx.D ls) fun r ls'=>resV (lenN ls) (lenN ls') r = true∧plainH ls' = true∧Nat.ble (lenN ls) (lenN ls') = true∧
    K ⟨reV (lenN ls) (lenN σ.hp) r,backEfs hs (takeN (lenN ls) ls') ++ newEfs (lenN σ.hp) (dropN (lenN ls) ls'),hs,[]⟩
  else False
 | _,_=>False
def onesP : List (Nat×SV)→Bool
 | []=>true
 | p :: ps=>onesB p.2.cells && onesP ps
def stepMove (cx : Cx) (σ : Sy) (T : List Nat) (ty : TypeId) (x : Operand) (K : Out→Prop) : Prop :=
 match x with
 | .const (.slice none 0 0) =>
  match look ty cx.tt with
  | some ⟨.slice e,_,_,_⟩=>match size? cx e with
   | some n=>out K (.sl (.l true) (.l 0) n fun _=>[])
   | none=>False
  | _=>False
 | x=>outO K (rd cx σ T x)
def rowOf (sz : Nat) : SV→Option (ST×(Nat→List SV))
 | .sl _ m sz' g=>if sz' == sz then some (m,g) else none
 | .gsl _ m sz' g _=>if sz' == sz then some (m,g) else none
 | _=>none
def appendTo (cx : Cx) (σ : Sy) (base src : SV) (e sz bytes : Nat) (K : Out→Prop) : Prop :=
 match rowOf sz src with
 | some (m,g) =>
  match base with
  | .sl (.l true) (.l 0) _ _ =>
   AppNew (cx.D.i m) bytes∧allNew (cx.D.i m) g fun f' n' =>
    K ⟨.gsl (cmpT .eql m (.l 0)) (.a n') sz f' (lenN σ.hp),[.put (lenN σ.hp) (.tail e (.a n') sz)],[],[]⟩
  | .gsl nl n sz' f h =>
   match nth σ.hp h with
   | some (.tail e' n0 sz'') =>
    if sz' == sz && sz'' == sz && e' == e then
     AppFit (cx.D.i n) (cx.D.i n0) (cx.D.i m) bytes∧allMore (cx.D.i n) (cx.D.i m) f g fun f' n'=>K ⟨.gsl (andT nl (cmpT .eql m (.l 0))) (.a n') sz f' h,[.put h (.tail e (.a n') sz)],[h],[]⟩
    else False
   | _=>False
  | .osl nl n h =>
   match nth σ.hp h with
   | some (.own e' n0 sz'' gr f) =>
    if sz'' == sz && e' == e then
     AppFit (cx.D.i n) (cx.D.i n0) (cx.D.i m) bytes∧allMore (cx.D.i n) (cx.D.i m) f g fun f' n'=>K ⟨.osl (andT nl (cmpT .eql m (.l 0))) (.a n') h,[.put h (.own e (.a n') sz gr f')],[h],[]⟩
    else False
   | _=>False
  | .vsl nl n g0 h =>
   match nth σ.hp h with
   | some (.vec e' n0 g1 sz'' f) =>
    if sz'' == sz && e' == e then
     AppFit (cx.D.i n) (cx.D.i n0) (cx.D.i m) bytes∧EqN (cx.D.i g0) (cx.D.i g1)∧allMore (cx.D.i n) (cx.D.i m) f g fun f' n'=>allGen (cx.D.i g0) fun g'=>K ⟨.vsl (andT nl (cmpT .eql m (.l 0))) (.a n') (.a g') h,[.put h (.vec e (.a n') (.a g') sz f')],[h],[]⟩
    else False
   | _=>False
  | _=>False
 | none=>False
def chunks (sz : Nat) : Nat→List SV→List (List SV)
 | 0,_=>[]
 | n + 1,cs=>takeN sz cs :: chunks sz n (dropN sz cs)
structure PlainC (cs : List SV) : Prop where
 ones : onesB cs = true
 plain : plainV.plainL cs = true
structure ZRow (f : Nat→List SV) (n sz : Nat) (cs : List SV) : Prop where
 h : Built f (chunks sz n cs)
def stepBuildSlice (cx : Cx) (σ : Sy) (T : List Nat) (t : TypeId) (len : Nat) (ps : List (Nat×Operand)) (K : Out→Prop) : Prop :=
 match look t cx.tt,rdParts cx σ T ps with
 | some ⟨.slice e,_,_,_⟩,some vs =>
  match look e cx.tt with
  | some te =>
   match onesP vs,fillS te.size (repN len te.zero) vs with
   | true,some cs =>
    if plainV (.agg (loose.looseL (norm.normL cx.D cs))) && Nat.blt 0 te.size && Nat.ble (len * te.size) 16777216 then
     allBuilt (chunks te.size len (loose.looseL (norm.normL cx.D cs))) fun f=>match look 999985 cx.gh with
      | some _=>K ⟨.osl (.l false) (.l len) (lenN σ.hp),[.put (lenN σ.hp) (.own e (.l len) te.size true f)],[],[]⟩
      | none=>K ⟨.gsl (.l false) (.l len) te.size f (lenN σ.hp),[.put (lenN σ.hp) (.tail e (.l len) te.size)],[],[]⟩
    else False
   | _,_=>False
  | none=>False
 | _,_=>False
 where
 repN : Nat→List SV→List SV
  | 0,_=>[]
  | n + 1,z=>z ++ repN n z
 fillS (sz : Nat) (cs : List SV) : List (Nat×SV)→Option (List SV)
  | []=>some cs
  | (i,v) :: ps=>if lenN v.cells == sz && Nat.ble (i * sz + sz) (lenN cs) then fillS sz (putN cs (i * sz) v.cells) ps else none
def sameOp : Operand→Operand→Bool
 | .tmp i,.tmp j=>i == j
 | _,_=>false
def stepMake (cx : Cx) (σ : Sy) (T : List Nat) (t : TypeId) (len cap : SV) (same : Bool) (K : Out→Prop) : Prop :=
 match T,look t cx.tt with
 | [],some ⟨.slice e,_,_,_⟩ =>
  match look e cx.tt,len,cap with
  | some te,.int .i64 (.l 0),.int _ c =>
   if Nat.blt 0 te.size then
    MkFit (cx.D.i c) te.bytes∧K ⟨.gsl (.l false) (.l 0) te.size (fun _=>[]) (lenN σ.hp),[.put (lenN σ.hp) (.tail e (.l 0) te.size)],[],[]⟩
   else False
  | some te,.int _ n,.int _ _ =>
   if same && Nat.blt 0 te.size then
    MkFit (cx.D.i n) te.bytes∧K ⟨.mrow (lenN σ.hp),[.put (lenN σ.hp) (.row e (.a (cx.D.i n)) te.size fun _=>te.zero)],[],[]⟩
   else False
  | _,_,_=>False
 | _,_=>False
def stepCopy (cx : Cx) (σ : Sy) (T : List Nat) (t : TypeId) (dst src : SV) (K : Out→Prop) : Prop :=
 match T,look t cx.tt,dst with
 | [],some ⟨.slice e,_,_,_⟩,.mrow h =>
  match nth σ.hp h,size? cx e with
  | some (.row ty n sz f),some sz'' =>
   match rowOf sz src,sz'' == sz with
   | some (m,g),true =>
    allCopy (cx.D.i m) (cx.D.i n) g f fun f' r =>
     K ⟨.int .i64 (.a r),[.put h (.row ty n sz f')],[h],[]⟩
   | _,_=>False
  | _,_=>False
 | _,_,_=>False
def optRd (cx : Cx) (σ : Sy) (T : List Nat) : Option Operand→Option (Option SV)
 | none=>some none
 | some x=>match rd cx σ T x with
  | some v=>some (some v)
  | none=>none
def boundOr (d : ST) : Option SV→Option ST
 | none=>some d
 | some (.int _ a)=>some a
 | _=>none
def stepSlice (cx : Cx) (σ : Sy) (T : List Nat) (t : TypeId) (x : SV) (lo hi : Option SV) (K : Out→Prop) : Prop :=
 match boundOr (.l 0) lo with
 | some a =>
  match x,look t cx.tt with
  | .sl nl n sz f,some ⟨.slice e,_,_,_⟩=>onRow nl n sz f e a
  | .gsl nl n sz f _,some ⟨.slice e,_,_,_⟩=>onRow nl n sz f e a
  | .osl nl n h,some ⟨.slice e,_,_,_⟩ =>
   match T,nth σ.hp h,lo,hi with
   | [],some (.own e' n0 sz _ f),none,some (.int _ b) =>
    if e' == e && (look e cx.tt).isSome then
     EqN (cx.D.i n) (cx.D.i n0)∧SubB 0 (cx.D.i b) (cx.D.i n)∧K ⟨.sl nl (.a (cx.D.i b)) sz f,[.put h .gone],[h],[]⟩
    else False
   | [],some (.own _ n0 sz _ _),some (.int _ b),none =>
    if size? cx e = some sz then
     EqN (cx.D.i n) (cx.D.i n0)∧SubB (cx.D.i b) (cx.D.i n) (cx.D.i n)∧K ⟨.tsl n b h,[],[h],[]⟩
    else False
   | _,_,_,_=>False
  | .vsl nl n g0 h,some ⟨.slice e,_,_,_⟩ =>
   match T,nth σ.hp h,lo,hi with
   | [],some (.vec e' n0 g1 sz f),none,some (.int _ b) =>
    if e' == e && (look e cx.tt).isSome then
     EqN (cx.D.i n) (cx.D.i n0)∧EqN (cx.D.i g0) (cx.D.i g1)∧SubB 0 (cx.D.i b) (cx.D.i n)∧allGen (cx.D.i g0) fun g'=>K ⟨.vsl nl (.a (cx.D.i b)) (.a g') h,[.put h (.vec e (.a (cx.D.i b)) (.a g') sz f)],[h],[]⟩
    else False
   | _,_,_,_=>False
  | .str s,some ⟨.string,_,_,_⟩ =>
   match boundOr (.len s) hi with
   | some b=>Ob cx.D σ.gm T (SubS (cx.D.i a) (cx.D.i b) s)∧allSubS s (cx.D.i a) (cx.D.i b) fun r=>out K (.str r)
   | none=>False
  | _,_=>False
 | none=>False
 where onRow (nl : BT) (n : ST) (sz : Nat) (f : Nat→List SV) (e : TypeId) (a : ST) : Prop :=
 match boundOr n hi with
 | some b =>
  if size? cx e = some sz then
   Ob cx.D σ.gm T (SubB (cx.D.i a) (cx.D.i b) (cx.D.i n))∧allSub f (cx.D.i a) (cx.D.i b) fun f' n'=>out K (.sl nl (.a n') sz f')
  else False
 | none=>False
def splitJ (i : Int) (F : Nat→Prop) : Nat→Nat→Prop
 | 0,_=>True
 | n + 1,j=>(IsJ j i→F j)∧splitJ i F n (j + 1)
def ixT (cx : Cx) (i : ST) : ST :=
 match look 999989 cx.gh with
 | some _=>(match i with
  | .a n=>.l n
  | .cv k (.a n)=>.l (k.wrap n)
  | i=>i)
 | none=>i
def stepIxArr (cx : Cx) (T : List Nat) (h off n sz : Nat) (i : ST) (K : Out→Prop) : Prop :=
 match ixT cx i with
 | .l (.ofNat k)=>if Nat.blt k n then out K (.ptr h (off + k * sz)) else False
 | _=>match T with
  | []=>InB (cx.D.i i) n∧splitJ (cx.D.i i) (fun j=>out K (.ptr h (off + j * sz))) n 0
  | _=>False
def stepOp (cx : Cx) (σ : Sy) (T : List Nat) (o : Oper) (K : Out→Prop) : Prop :=
 match o.op with
 | .move x | .assign x=>stepMove cx σ T o.type x K
 | .alloc e =>
  match T,look e cx.tt with
  | [],some ti=>match look (3000000 + o.dst.getD 0) cx.gh with
   | some _=>match ti.k with
    | .array n el=>match size? cx el with
     | some (sz' + 1)=>if (n * (sz' + 1)) == ti.size && Nat.ble n 1000000 then ∃ f,ZRow f n (sz' + 1) ti.zero∧K ⟨.ptr (lenN σ.hp) 0,[.put (lenN σ.hp) (.row e (.l n) (sz' + 1) f)],[],[]⟩ else False
     | _=>False
    | _=>False
   | none=>K ⟨.ptr (lenN σ.hp) 0,[.put (lenN σ.hp) (.blk e ti.zero)],[],[]⟩
  | _,_=>False
 | .box e x =>
  match T,look e cx.tt,rd cx σ T x with
  | [],some ti,some v=>if lenN v.cells == ti.size && onesB v.cells then K ⟨.ptr (lenN σ.hp) 0,[.put (lenN σ.hp) (.blk e v.cells)],[],[]⟩ else False
  | _,_,_=>False
 | .build t ps =>
  match look t cx.tt,rdParts cx σ T ps.toList with
  | some ti,some vs=>match onesP vs,fillP cx t ti.zero vs,ti.k with
   | true,some cs,.struct _=>out K (.agg cs)
   | true,some cs,.array _ e=>match size? cx e with
    | some _=>out K (.agg cs)
    | none=>False
   | _,_,_=>False
  | _,_=>False
 | .load t a =>
  match rd cx σ T a,size? cx t with
  | some (.ptr h off),some n =>
   match nth σ.hp h with
   | some (.blk _ cs)=>if Nat.ble (off + n) (lenN cs) then
     match pack (isAgg? cx t) (takeN n (dropN off cs)) with
     | some v=>K ⟨v,[],[],[(h,off,n)]⟩
     | none=>False
    else False
   | some (.row _ m sz f)=>match T,off,look t cx.tt with
    | [],0,some ⟨.array n' el,sz',_,_⟩=>if size? cx el = some sz∧n' * sz = sz' then EqN (cx.D.i m) n'∧∃ cs,Flat f (cx.D.i m) sz cs∧K ⟨.agg cs,[],[h],[]⟩ else False
    | _,_,_=>False
   | _=>False
  | some (.rptr cs),some n=>if Nat.ble n (lenN cs) then outO K (pack (isAgg? cx t) (takeN n cs)) else False
  | some (.mptr h j off),some n =>
   match nth σ.hp h with
   | some (.row _ m sz f)=>Ob cx.D σ.gm T (LtB j (cx.D.i m))∧
    if Nat.ble (off + n) (lenN (f j)) then
     match pack (isAgg? cx t) (takeN n (dropN off (f j))) with
     | some v=>K ⟨v,[],[h],[]⟩
     | none=>False
    else False
   | _=>False
  | some (.optr m' h j off),some n =>
   match nth σ.hp h with
   | some (.own _ m sz _ f)=>Ob cx.D σ.gm T (EqN (cx.D.i m') (cx.D.i m))∧Ob cx.D σ.gm T (LtB j (cx.D.i m))∧
    if Nat.ble (off + n) (lenN (f j)) then
     match pack (isAgg? cx t) (takeN n (dropN off (f j))) with
     | some v=>K ⟨v,[],[h],[]⟩
     | none=>False
    else False
   | _=>False
  | _,_=>False
 | .store t a x =>
  match T,rd cx σ T a,rdT cx σ T t x,size? cx t with
  | [],some (.ptr h off),some v,some n =>
   match nth σ.hp h with
   | some (.blk _ cs)=>if lenN v.cells == n && Nat.ble (off + n) (lenN cs) && onesB v.cells then K ⟨.tup [],[.set h off v.cells],[],[]⟩ else False
   | some (.row ty m sz _)=>match off,v,look t cx.tt with
    | 0,.agg cs,some ⟨.array n' el,sz',_,_⟩=>if size? cx el = some sz∧n' * sz = sz' then EqN (cx.D.i m) n'∧PlainC cs∧∃ f',Flat f' (cx.D.i m) sz cs∧K ⟨.tup [],[.put h (.row ty m sz f')],[h],[]⟩ else False
    | _,_,_=>False
   | _=>False
  | [],some (.mptr h j off),some v,some n =>
   match nth σ.hp h with
   | some (.row ty m sz f)=>LtB j (cx.D.i m)∧
    if lenN v.cells == n && Nat.ble (off + n) (lenN (f j)) && onesB v.cells && plainV (.agg (loose.looseL (norm.normL cx.D v.cells))) then
     allSet f j (putN (f j) off (loose.looseL (norm.normL cx.D v.cells))) fun f'=>K ⟨.tup [],[.put h (.row ty m sz f')],[h],[]⟩
    else False
   | _=>False
  | [],some (.optr m' h j off),some v,some n =>
   match nth σ.hp h with
   | some (.own ty m sz gr f)=>EqN (cx.D.i m') (cx.D.i m)∧LtB j (cx.D.i m)∧
    if lenN v.cells == n && Nat.ble (off + n) (lenN (f j)) && onesB v.cells && plainV (.agg (loose.looseL (norm.normL cx.D v.cells))) then
     allSet f j (putN (f j) off (loose.looseL (norm.normL cx.D v.cells))) fun f'=>K ⟨.tup [],[.put h (.own ty m sz gr f')],[h],[]⟩
    else False
   | _=>False
  | _,_,_,_=>False
 | .fieldAddr t x i =>
  match rd cx σ T x,field? cx t i with
  | some (.ptr h off),some (fo,ft)=>match size? cx ft with
   | some (_ + 1)=>out K (.ptr h (off + fo))
   | _=>False
  | some (.rptr cs),some (fo,ft)=>match size? cx ft with
   | some (m + 1)=>if Nat.ble (fo + (m + 1)) (lenN cs) then out K (.rptr (takeN (m + 1) (dropN fo cs))) else False
   | _=>False
  | some (.mptr h j off),some (fo,ft)=>match size? cx ft with
   | some (_ + 1)=>out K (.mptr h j (off + fo))
   | _=>False
  | some (.optr n h j off),some (fo,ft)=>match size? cx ft with
   | some (_ + 1)=>out K (.optr n h j (off + fo))
   | _=>False
  | _,_=>False
 | .nilCheck x =>
  match rd cx σ T x with
  | some (.ptr h off)=>out K (.ptr h off)
  | some (.rptr cs)=>out K (.rptr cs)
  | some (.mptr h j off)=>out K (.mptr h j off)
  | some (.optr n h j off)=>out K (.optr n h j off)
  | some (.rarr n sz f)=>out K (.rarr n sz f)
  | _=>False
 | .field t x i =>
  match rd cx σ T x,field? cx t i with
  | some (.agg cs),some (fo,ft)=>match size? cx ft with
   | some m=>if Nat.ble (fo + m) (lenN cs) then outO K (pack (isAgg? cx ft) (takeN m (dropN fo cs))) else False
   | _=>False
  | _,_=>False
 | .indexAddr t x ix =>
  match rd cx σ T x,rd cx σ T ix,look t cx.tt with
  | some (.sl _ n sz f),some (.int _ i),some ⟨.slice e,_,_,_⟩ =>
   if size? cx e = some sz then
    Ob cx.D σ.gm T (InB (cx.D.i i) (cx.D.i n))∧allJ cx.D σ.gm T (cx.D.i i) fun j=>out K (.rptr (f j))
   else False
  | some (.gsl _ n sz f _),some (.int _ i),some ⟨.slice e,_,_,_⟩ =>
   if size? cx e = some sz then
    Ob cx.D σ.gm T (InB (cx.D.i i) (cx.D.i n))∧allJ cx.D σ.gm T (cx.D.i i) fun j=>out K (.rptr (f j))
   else False
  | some (.mrow h),some (.int _ i),some ⟨.slice e,_,_,_⟩ =>
   match nth σ.hp h with
   | some (.row _ n sz _) =>
    if size? cx e = some sz then
     Ob cx.D σ.gm T (InB (cx.D.i i) (cx.D.i n))∧allJ cx.D σ.gm T (cx.D.i i) fun j=>K ⟨.mptr h j 0,[],[h],[]⟩
    else False
   | _=>False
  | some (.osl _ m h),some (.int _ i),some ⟨.slice e,_,_,_⟩ =>
   match nth σ.hp h with
   | some (.own _ n sz _ _) =>
    if size? cx e = some sz then
     Ob cx.D σ.gm T (EqN (cx.D.i m) (cx.D.i n))∧Ob cx.D σ.gm T (InB (cx.D.i i) (cx.D.i n))∧allJ cx.D σ.gm T (cx.D.i i) fun j=>K ⟨.optr m h j 0,[],[h],[]⟩
    else False
   | _=>False
  | some (.ptr h off),some (.int _ i),some ⟨.array n e,_,_,_⟩ =>
   match size? cx e with
   | some sz=>match T,off,nth σ.hp h with
    | [],0,some (.row _ _ sz' _)=>if sz' == sz then InB (cx.D.i i) n∧allJ cx.D σ.gm [] (cx.D.i i) fun j=>K ⟨.mptr h j 0,[],[h],[]⟩ else False
    | _,_,_=>stepIxArr cx T h off n sz i K
   | none=>False
  | some (.rarr n sz f),some (.int _ i),some ⟨.array n' e,_,_,_⟩ =>
   if size? cx e = some sz∧n = n' then
    Ob cx.D σ.gm T (InB (cx.D.i i) n)∧allJ cx.D σ.gm T (cx.D.i i) fun j=>out K (.rptr (f j))
   else False
  | _,_,_=>False
 | .makeFunc (.func f) fi cs =>
  match fi.toList,rdAll cx σ T cs.toList [] with
  | [],some vs=>out K (.clo f vs)
  | _,_=>False
 | .buildSlice t len ps=>stepBuildSlice cx σ T t len ps.toList K
 | .makeSlice t l c =>
  match rd cx σ T l,rd cx σ T c with
  | some a,some b=>stepMake cx σ T t a b (sameOp l c) K
  | _,_=>False
 | .slice t x lo hi none =>
  match rd cx σ T x,optRd cx σ T lo,optRd cx σ T hi with
  | some v,some a,some b=>stepSlice cx σ T t v a b K
  | _,_,_=>False
 | .index t x ix =>
  match rd cx σ T x,rd cx σ T ix,look t cx.tt with
  | some (.str s),some (.int _ i),some ⟨.string,_,_,_⟩ =>
   Ob cx.D σ.gm T (InS (cx.D.i i) s)∧allByte s (cx.D.i i) fun c=>out K (.int .u8 (.a c))
  | some (.agg cs),some (.int _ (.l (.ofNat k))),some ⟨.array n e,_,_,_⟩ =>
   match size? cx e with
   | some sz=>if Nat.blt k n && Nat.ble (k * sz + sz) (lenN cs) then outO K (pack (isAgg? cx e) (takeN sz (dropN (k * sz) cs))) else False
   | none=>False
  | _,_,_=>False
 | .makeMap t none =>
  match T,look t cx.tt with
  | [],some ⟨.map _ _,_,_,_⟩=>K ⟨.mapv (lenN σ.hp),[.put (lenN σ.hp) (.mset fun _=>false)],[],[]⟩
  | _,_=>False
 | .mapUpdate t m k x | .insert t m k x =>
  match T,look t cx.tt,rd cx σ T m,rd cx σ T k,rd cx σ T x with
  | [],some ⟨.map kt vt,_,_,_⟩,some (.mapv h),some (.str s),some (.bool b) =>
   match look kt cx.tt,look vt cx.tt,nth σ.hp h with
   | some ⟨.string,_,_,_⟩,some ⟨.bool,_,_,_⟩,some (.mset F)=>allMap F s (cx.D.b b) fun F'=>K ⟨.tup [],[.put h (.mset F')],[h],[]⟩
   | _,_,_=>False
  | _,_,_,_,_=>False
 | .lookup t m k false =>
  match look t cx.tt,rd cx σ T m,rd cx σ T k with
  | some ⟨.map kt vt,_,_,_⟩,some (.mapv h),some (.str s) =>
   match look kt cx.tt,look vt cx.tt,nth σ.hp h with
   | some ⟨.string,_,_,_⟩,some ⟨.bool,_,_,[.bool (.l false)]⟩,some (.mset F)=>K ⟨.bool (.a (F s)),[],[h],[]⟩
   | _,_,_=>False
  | _,_,_=>False
 | .extract x i =>
  match rd cx σ T x with
  | some (.tup vs)=>outO K (nth vs i)
  | _=>False
 | .unOp op _ x =>
  match op,rd cx σ T x with
  | .not,some (.bool b)=>out K (.bool (notT b))
  | .neg,some (.int k n)=>out K (.int k (binT .sub k (.l 0) n))
  | _,_=>False
 | .binOp op t x y _ =>
  match rd cx σ T x,rd cx σ T y with
  | some a,some (.raw _)=>stepNil cx op t a y K
  | some a,some b=>stepBin cx σ.gm T op t a b K
  | _,_=>False
 | .convert src dst x =>
  match rd cx σ T x,look dst cx.tt,look src cx.tt with
  | some (.int _ n),some ⟨.int k,_,_,_⟩,some _=>out K (.int k (.cv k n))
  | some (.str s),some ⟨.slice e,_,_,_⟩,some ⟨.string,_,_,_⟩ =>
   match look e cx.tt with
   | some ⟨.int .u8,_,_,_⟩=>match look 999983 cx.gh with
    | some _=>match T with
     | []=>SFit s∧allBytes s fun f=>K ⟨.osl (.l false) (.len s) (lenN σ.hp),[.put (lenN σ.hp) (.own e (.len s) 1 false f)],[],[]⟩
     | _=>False
    | none=>Ob cx.D σ.gm T (SFit s)∧allBytes s fun f=>out K (.sl (.l false) (.len s) 1 f)
   | _=>False
  | some (.sl _ n 1 f),some ⟨.string,_,_,_⟩,some ⟨.slice e,_,_,_⟩=>stepStr cx σ T e n f K
  | some (.gsl _ n 1 f _),some ⟨.string,_,_,_⟩,some ⟨.slice e,_,_,_⟩=>stepStr cx σ T e n f K
  | some (.osl (.l false) n h),some ⟨.slice e,_,_,_⟩,some ⟨.slice e',_,_,_⟩ =>
   match T,look e cx.tt,nth σ.hp h with
   | [],some ⟨.int .u8,_,_,_⟩,some (.own ty n0 1 true f)=>if e' == e && src == dst && ty == e then
     EqN (cx.D.i n) (cx.D.i n0)∧K ⟨.osl (.l false) n h,[.put h (.own e n0 1 false f)],[h],[]⟩ else False
   | _,_,_=>False
  | some (.osl _ n h),some ⟨.string,_,_,_⟩,some ⟨.slice e,_,_,_⟩ =>
   match T,look e cx.tt,nth σ.hp h with
   | [],some ⟨.int .u8,_,_,_⟩,some (.own _ n0 1 _ f)=>EqN (cx.D.i n) (cx.D.i n0)∧ByteRow (cx.D.i n0) f∧allStr (cx.D.i n0) f fun r=>K ⟨.str r,[],[h],[]⟩
   | _,_,_=>False
  | _,_,_=>False
 | .call c =>
  match c.callee with
  | .builtin .len =>
   match c.args.toList,c.argTypes.toList with
   | [x],[t] =>
    match rd cx σ T x,look t cx.tt with
    | some (.sl _ n _ _),some ⟨.slice _,_,_,_⟩=>out K (.int .i64 n)
    | some (.gsl _ n _ _ _),some ⟨.slice _,_,_,_⟩=>out K (.int .i64 n)
    | some (.osl _ n _),some ⟨.slice _,_,_,_⟩=>out K (.int .i64 n)
    | some (.vsl _ n _ _),some ⟨.slice _,_,_,_⟩=>out K (.int .i64 n)
    | some (.str s),some ⟨.string,_,_,_⟩=>out K (.int .i64 (.len s))
    | some (.mrow h),some ⟨.slice _,_,_,_⟩=>match nth σ.hp h with
     | some (.row _ n _ _)=>K ⟨.int .i64 n,[],[h],[]⟩
     | _=>False
    | _,_=>False
   | _,_=>False
  | .builtin .append =>
   match T,c.args.toList,c.argTypes.toList with
   | [],[x,y],[t,t'] =>
    match rd cx σ T x,rd cx σ T y,look t cx.tt with
    | some b,some s,some ⟨.slice e,_,_,_⟩ =>
     match look e cx.tt with
     | some te=>if t == t' && Nat.blt 0 te.size then appendTo cx σ b s e te.size te.bytes K else False
     | none=>False
    | _,_,_=>False
   | _,_,_=>False
  | .builtin .clear =>
   match T,c.args.toList,c.argTypes.toList with
   | [],[x],[t] =>
    match rd cx σ T x,look t cx.tt with
    | some (.tsl n a h),some ⟨.slice e,_,_,_⟩ =>
     match nth σ.hp h,look e cx.tt with
     | some (.own e' n0 sz gr f),some te =>
      if e' == e && te.size == sz && plainV (.agg te.zero) then
       EqN (cx.D.i n) (cx.D.i n0)∧allClr f (cx.D.i a) te.zero fun f'=>K ⟨.tup [],[.put h (.own e n0 sz gr f')],[h],[]⟩
      else False
     | _,_=>False
    | _,_=>False
   | _,_,_=>False
  | .builtin .copy =>
   match c.args.toList,c.argTypes.toList with
   | [x,y],[t,_] =>
    match rd cx σ T x,rd cx σ T y with
    | some d,some s=>stepCopy cx σ T t d s K
    | _,_=>False
   | _,_=>False
  | .builtin .max =>
   match c.args.toList with
   | [x,y] =>
    match rd cx σ T x,rd cx σ T y with
    | some (.int k a),some (.int k' b)=>if k = k' then allMax (cx.D.i a) (cx.D.i b) fun r=>out K (.int k (.a r)) else False
    | _,_=>False
   | _=>False
  | .builtin .min =>
   match c.args.toList with
   | [x,y] =>
    match rd cx σ T x,rd cx σ T y with
    | some (.int k a),some (.int k' b)=>if k = k' then allMin (cx.D.i a) (cx.D.i b) fun r=>out K (.int k (.a r)) else False
    | _,_=>False
   | _=>False
  | .value (.func f) =>
   match rdAll cx σ T c.args.toList c.argTypes.toList with
   | some vs=>stepCall cx σ T f vs K
   | none=>False
  | .value (.tmp s) =>
   match rdAll cx σ T c.args.toList c.argTypes.toList,rd cx σ T (.tmp s) with
   | some vs,some (.fn f)=>stepCall cx σ T f vs K
   | some vs,some (.clo f cs)=>stepCall cx σ T f (vs ++ cs) K
   | _,_=>False
  | _=>False
 | _=>False
def stepPick (cx : Cx) (σ : Sy) (T : List Nat) (c a b : Operand) (K : Out→Prop) : Prop :=
 match c with
 | .tmp s =>
  match getO σ.fr s with
  | some ⟨tg,_,_,.bool (.l true)⟩=>if subN tg T then outO K (rd cx σ T a) else False
  | some ⟨tg,_,_,.bool (.l false)⟩=>if subN tg T then outO K (rd cx σ T b) else False
  | some ⟨tg,gt,gf,.bool ct⟩ =>
   if subN tg T then
    match rd cx σ (gt.toList ++ T) a,rd cx σ (gf.toList ++ T) b with
    | some (.bool x),some (.bool (.l false))=>out K (.bool (.and ct x))
    | some (.bool (.l true)),some (.bool y)=>out K (.bool (.or ct y))
    | _,_=>False
   else False
  | _=>False
 | _=>False
def guardOf (ops : List Oper) (σ : Sy) : Option (Nat×Bool)→Option (Option (Sy×List Nat))
 | none=>some (some (σ,[]))
 | some (j,want) =>
  match nth ops j with
  | some oj=>match oj.dst with
   | some s=>match getO σ.fr s with
    | some ⟨tg,_,_,.bool (.l b)⟩=>if b == want then some (some (σ,tg)) else some none
    | some ⟨tg,gt,gf,.bool c⟩ =>
     if want then
      match gt with
      | some i=>some (some (σ,i :: tg))
      | none=>some (some (⟨setN σ.fr s (some ⟨tg,some (lenN σ.gm),gf,.bool c⟩),σ.hp,σ.gm ++ [c]⟩,lenN σ.gm :: tg))
     else
      match gf with
      | some i=>some (some (σ,i :: tg))
      | none=>some (some (⟨setN σ.fr s (some ⟨tg,gt,some (lenN σ.gm),.bool c⟩),σ.hp,σ.gm ++ [.not c]⟩,lenN σ.gm :: tg))
    | _=>none
   | none=>none
  | none=>none
def okEfs (hp : List Hl) : List Ef→Bool
 | []=>true
 | .set h off vs :: es=>okEfs (efH hp (.set h off vs)) es
 | .put h hl :: es=>Nat.ble h (lenN hp) && okEfs (efH hp (.put h hl)) es
def setD (fr : List (Option G)) (d : Option Nat) (g : Option G) : List (Option G) :=
 match d with
 | some s=>setN fr s g
 | none=>fr
def yieldOf (cx : Cx) (σ : Sy) (T : List Nat) (op : Op) : Option (Nat×Call) :=
 match op with
 | .call c=>match c.callee with
  | .value (.tmp s)=>match rd cx σ T (.tmp s) with
   | some (.yv h)=>some (h,c)
   | _=>none
  | _=>none
 | _=>none
def stepYield (cx : Cx) (σ : Sy) (T : List Nat) (h : Nat) (c : Call) (K : Out→Prop) : Prop :=
 match rdAll cx σ T c.args.toList c.argTypes.toList,cx.yl with
 | some vs,[Y]=>stepCallG cx σ [] (.yv h :: vs) Y K
 | _,_=>False
def stepAny (cx : Cx) (σ : Sy) (T : List Nat) (o : Oper) (K : Out→Prop) : Prop :=
 match o.op with
 | .pick c a b=>stepPick cx σ T c a b K
 | _=>match yieldOf cx σ T o.op with
  | some (h,c)=>stepYield cx σ T h c K
  | none=>stepOp cx σ T o K
structure FP where
 rds : List Nat
 rdc : List (Nat×Nat×Nat)
 wr : List (Nat×Option (Nat×Nat))
def efW : List Ef→List (Nat×Option (Nat×Nat))
 | []=>[]
 | .set h off vs :: es=>(h,some (off,lenN vs)) :: efW es
 | .put h _ :: es=>(h,none) :: efW es
def fpOf (r : Out) : FP:=⟨r.rds,r.rdc,efW r.efs⟩
def notDefer (o : Oper) : Bool:=match o.op with
 | .defer _=>false
 | _=>true
def buildOf (cx : Cx) (op : Op) : Option SV:=match op with
 | .buildSlice t _ _=>match look t cx.tt with
  | some ⟨.slice e,_,_,_⟩=>match look e cx.tt with
   | some te=>some (.sl (.l true) (.l 0) te.size fun _=>[])
   | none=>none
  | _=>none
 | _=>none
def stepOps (cx : Cx) (all : List Oper) : List Oper→List FP→Sy→(List FP→Sy→Prop)→Prop
 | [],fs,σ,K=>K fs σ
 | o :: os,fs,σ,K =>
  match guardOf all σ o.guard with
  | none=>False
  | some none=>stepOps cx all os (fs ++ [⟨[],[],[]⟩]) ⟨setD σ.fr o.dst none,σ.hp,σ.gm⟩ K
  | some (some (σ,T)) =>
   match yieldOf cx σ T o.op,T with
   | some (h,c),[i]=>match nth σ.gm i with
    | some b=>(cx.D.b b = true→stepYield cx σ [i] h c fun r=>if okEfs σ.hp r.efs then stepOps cx all os (fs ++ [fpOf r]) ⟨setD σ.fr o.dst (some ⟨[i],none,none,r.v⟩),efsH σ.hp r.efs,σ.gm⟩ K else False)∧
      (cx.D.b b = false→stepOps cx all os (fs ++ [fpOf ⟨.bool (.l true),[],[],[]⟩]) ⟨setD σ.fr o.dst (some ⟨[i],none,none,.bool (.l true)⟩),σ.hp,σ.gm⟩ K)
    | none=>False
   | _,_=>match buildOf cx o.op,T with
    | some d,[i]=>match nth σ.gm i with
     | some b=>(cx.D.b b = true→stepAny cx σ [i] o fun r=>if okEfs σ.hp r.efs then stepOps cx all os (fs ++ [fpOf r]) ⟨setD σ.fr o.dst (some ⟨[i],none,none,r.v⟩),efsH σ.hp r.efs,σ.gm⟩ K else False)∧
       (cx.D.b b = false→stepOps cx all os (fs ++ [fpOf ⟨d,[],[],[]⟩]) ⟨setD σ.fr o.dst (some ⟨[i],none,none,d⟩),σ.hp,σ.gm⟩ K)
     | none=>False
    | _,_=>stepAny cx σ T o fun r=>if okEfs σ.hp r.efs && (T.isEmpty || r.efs.isEmpty) && notDefer o then stepOps cx all os (fs ++ [fpOf r]) ⟨setD σ.fr o.dst (some ⟨T,none,none,r.v⟩),efsH σ.hp r.efs,σ.gm⟩ K else False
def opSlot : Operand→List Nat
 | .tmp s=>[s]
 | _=>[]
def slotsL : List Operand→List Nat
 | []=>[]
 | x :: xs=>opSlot x ++ slotsL xs
def guardSlot (all : List Oper) : Option (Nat×Bool)→List Nat
 | none=>[]
 | some (j,_)=>match nth all j with
  | some oj=>match oj.dst with
   | some s=>[s]
   | none=>[]
  | none=>[]
def looks (all : List Oper) (o : Oper) : List Nat:=slotsL o.op.operands.toList ++ guardSlot all o.guard
def meetsN : List Nat→List Nat→Bool
 | [],_=>false
 | x :: l,t=>hasN x t || meetsN l t
def optL : Option Nat→List Nat
 | some x=>[x]
 | none=>[]
def meetsR : Nat×Option (Nat×Nat)→Nat×Option (Nat×Nat)→Bool
 | (h,a),(k,b)=>h == k && match a,b with
  | some (x,m),some (y,n)=>Nat.blt x (y + n) && Nat.blt y (x + m)
  | _,_=>true
def anyR (x : Nat×Option (Nat×Nat)) : List (Nat×Option (Nat×Nat))→Bool
 | []=>false
 | y :: l=>meetsR x y || anyR x l
def meetsW : List (Nat×Option (Nat×Nat))→List (Nat×Option (Nat×Nat))→Bool
 | [],_=>false
 | x :: l,t=>anyR x t || meetsW l t
def rdR (f : FP) : List (Nat×Option (Nat×Nat)):=(f.rds.map fun h=>(h,none)) ++ f.rdc.map fun x=>(x.1,some (x.2.1,x.2.2))
def clash (all : List Oper) (o : Oper) (f : FP) (o' : Oper) (f' : FP) : Bool :=
 meetsN (optL o.dst) (looks all o') || meetsN (optL o.dst) (optL o'.dst) || meetsN (optL o'.dst) (looks all o) || meetsW f.wr (rdR f') || meetsW f.wr f'.wr || meetsW f'.wr (rdR f)
def addN (x : Nat) (l : List Nat) : List Nat:=if hasN x l then l else x :: l
def unionN : List Nat→List Nat→List Nat
 | [],t=>t
 | x :: l,t=>unionN l (addN x t)
def edgesL : List Edge→List Nat
 | []=>[]
 | e :: es=>(match e.ground with | .textOnly _ | .gcOnly _=>[] | _=>[e.on]) ++ edgesL es
def backed (acc : List (List Nat)) : List Nat→List Nat
 | []=>[]
 | i :: l=>unionN (addN i ((nth acc i).getD [])) (backed acc l)
def befores : List Oper→List (List Nat)→List (List Nat)
 | [],acc=>acc
 | o :: os,acc=>befores os (acc ++ [backed acc (edgesL o.after.toList)])
def lowAll (n : Nat) : List Nat→Bool
 | []=>true
 | x :: l=>Nat.blt x n && lowAll n l
def edgesOk : List Oper→Nat→Bool
 | [],_=>true
 | o :: os,n=>lowAll n (edgesL o.after.toList) && edgesOk os (n + 1)
def apartFrom (all : List Oper) (bs : List (List Nat)) (i : Nat) (o : Oper) (f : FP) : List Oper→List FP→Nat→Bool
 | o' :: os,f' :: fs,j=>(!(clash all o f o' f') || hasN i ((nth bs j).getD [])) && apartFrom all bs i o f os fs (j + 1)
 | _,_,_=>true
def indep (all : List Oper) (bs : List (List Nat)) : List Oper→List FP→Nat→Bool
 | o :: os,f :: fs,i=>apartFrom all bs i o f os fs (i + 1) && indep all bs os fs (i + 1)
 | _,_,_=>true
structure IndepOk (ops : List Oper) (fs : List FP) : Prop where
 h : (edgesOk ops 0 && indep ops (befores ops []) ops fs 0) = true
def tidy : List (Option G)→List (Option G)
 | []=>[]
 | some ⟨[],_,_,v⟩ :: l=>some ⟨[],none,none,v⟩ :: tidy l
 | _ :: l=>none :: tidy l
def thaw (h : Nat) (x : SV) : SV→SV
 | .mrow k=>if k == h then x else .mrow k
 | .agg cs=>.agg (thawL h x cs)
 | .tup cs=>.tup (thawL h x cs)
 | .clo f cs=>.clo f (thawL h x cs)
 | v=>v
 where thawL (h : Nat) (x : SV) : List SV→List SV
 | []=>[]
 | c :: cs=>thaw h x c :: thawL h x cs
def thawFr (h : Nat) (x : SV) : List (Option G)→List (Option G)
 | []=>[]
 | some ⟨tg,gt,gf,v⟩ :: l=>some ⟨tg,gt,gf,thaw h x v⟩ :: thawFr h x l
 | none :: l=>none :: thawFr h x l
def thawH (h : Nat) (x : SV) : List Hl→List Hl
 | []=>[]
 | .blk ty cs :: ls=>.blk ty (thaw.thawL h x cs) :: thawH h x ls
 | l :: ls=>l :: thawH h x ls
def ghost (cx : Cx) (σ : Sy) : Gh→Option Sy
 | .hold s k e=>match getO σ.fr s with
  | some ⟨[],_,_,.ptr h 0⟩=>match nth σ.hp h with
   | some (.blk T cs)=>match nth cs k,size? cx e with
    | some (.sl (.l true) (.l 0) sz f),some sz'=>if sz' == sz then some ⟨σ.fr,setN σ.hp h (.blk T (setN cs k (.gsl (.l true) (.l 0) sz f (lenN σ.hp)))) ++ [.tail e (.l 0) sz],σ.gm⟩ else none
    | _,_=>none
   | _=>none
  | _=>none
 | .freeze s=>match getO σ.fr s with
  | some ⟨[],_,_,.mrow h⟩=>match nth σ.hp h with
   | some (.row _ n sz f)=>some ⟨thawFr h (.sl (.l false) n sz f) σ.fr,setN (thawH h (.sl (.l false) n sz f) σ.hp) h .gone,σ.gm⟩
   | _=>none
  | _=>none
 | .attach s e=>match getO σ.fr s with
  | some ⟨[],_,_,.sl (.l true) (.l 0) sz f⟩=>match size? cx e with
   | some sz'=>if sz' == sz then some ⟨setN σ.fr s (some ⟨[],none,none,.gsl (.l true) (.l 0) sz f (lenN σ.hp)⟩),σ.hp ++ [.tail e (.l 0) sz],σ.gm⟩ else none
   | none=>none
  | _=>none
 | .own s e=>match getO σ.fr s with
  | some ⟨[],_,_,.sl (.l true) (.l 0) sz f⟩=>match size? cx e with
   | some sz'=>if sz' == sz then some ⟨setN σ.fr s (some ⟨[],none,none,.osl (.l true) (.l 0) (lenN σ.hp)⟩),σ.hp ++ [.own e (.l 0) sz true f],σ.gm⟩ else none
   | none=>none
  | _=>none
 | .share s=>match getO σ.fr s with
  | some ⟨[],_,_,.osl nl n h⟩=>match nth σ.hp h with
   | some (.own _ _ sz _ f)=>some ⟨setN σ.fr s (some ⟨[],none,none,.sl nl n sz f⟩),setN σ.hp h .gone,σ.gm⟩
   | _=>none
  | _=>none
 | .bld s e=>match getO σ.fr s with
  | some ⟨[],_,_,.ptr h 0⟩=>match nth σ.hp h with
   | some (.blk T [.nilp,.sl (.l true) (.l 0) 1 _])=>some ⟨σ.fr,setN σ.hp h (.bld T e []),σ.gm⟩
   | _=>none
  | _=>none
 | .tot _=>none
 | .frz _=>none
 | .unrow _=>none
 | .vec s e=>match getO σ.fr s with
  | some ⟨[],_,_,.sl (.l true) (.l 0) sz f⟩=>match size? cx e with
   | some sz'=>if sz' == sz then some ⟨setN σ.fr s (some ⟨[],none,none,.vsl (.l true) (.l 0) (.l 0) (lenN σ.hp)⟩),σ.hp ++ [.vec e (.l 0) (.l 0) sz f],σ.gm⟩ else none
   | none=>none
  | _=>none
 | .vecb s k e=>match getO σ.fr s with
  | some ⟨[],_,_,.ptr h 0⟩=>match nth σ.hp h with
   | some (.blk T cs)=>match nth cs k,size? cx e with
    | some (.sl (.l true) (.l 0) sz f),some sz'=>if sz' == sz then some ⟨σ.fr,setN σ.hp h (.blk T (setN cs k (.vsl (.l true) (.l 0) (.l 0) (lenN σ.hp)))) ++ [.vec e (.l 0) (.l 0) sz f],σ.gm⟩ else none
    | _,_=>none
   | _=>none
  | _=>none
 | .vshare s=>match getO σ.fr s with
  | some ⟨[],_,_,.vsl nl n _ h⟩=>match nth σ.hp h with
   | some (.vec _ _ _ sz f)=>some ⟨setN σ.fr s (some ⟨[],none,none,.sl nl n sz f⟩),setN σ.hp h .gone,σ.gm⟩
   | _=>none
  | _=>none
 | .vshareb s k=>match getO σ.fr s with
  | some ⟨[],_,_,.ptr hb 0⟩=>match nth σ.hp hb with
   | some (.blk T cs)=>match nth cs k with
    | some (.vsl nl n _ h)=>match nth σ.hp h with
     | some (.vec _ _ _ sz f)=>some ⟨σ.fr,setN (setN σ.hp hb (.blk T (setN cs k (.sl nl n sz f)))) h .gone,σ.gm⟩
     | _=>none
    | _=>none
   | _=>none
  | _=>none
def totOf (σ : Sy) (s : Nat) : Option (BT×ST×Nat×(Nat→List SV)) :=
 match getO σ.fr s with
 | some ⟨[],_,_,.sl nl n sz f⟩=>some (nl,n,sz,f)
 | some ⟨[],_,_,.gsl nl n sz f _⟩=>some (nl,n,sz,f)
 | _=>none
def frzOf (cx : Cx) (σ : Sy) (s : Nat) : Option (Nat×Nat×List (List SV)×Nat) :=
 match getO σ.fr s with
 | some ⟨[],_,_,.ptr h 0⟩=>match nth σ.hp h with
  | some (.blk T cs)=>match look T cx.tt with
   | some ⟨.array n e,_,_,_⟩=>match size? cx e with
    | some sz=>if lenN cs == n * sz && plainV.plainL cs then some (n,sz,chunks sz n cs,h) else none
    | none=>none
   | _=>none
  | _=>none
 | _=>none
def unrowOf (σ : Sy) (s : Nat) : Option (TypeId×ST×Nat×(Nat→List SV)×Nat) :=
 match getO σ.fr s with
 | some ⟨[],_,_,.ptr h 0⟩=>match nth σ.hp h with
  | some (.row ty n sz f)=>some (ty,n,sz,f,h)
  | _=>none
 | _=>none
def ghostP (cx : Cx) (σ : Sy) : Gh→Prop
 | .share s=>match getO σ.fr s with
  | some ⟨[],_,_,.osl _ n h⟩=>match nth σ.hp h with
   | some (.own _ n0 _ _ _)=>EqN (cx.D.i n) (cx.D.i n0)
   | _=>False
  | _=>False
 | .vshare s=>match getO σ.fr s with
  | some ⟨[],_,_,.vsl _ n g0 h⟩=>match nth σ.hp h with
   | some (.vec _ n0 g1 _ _)=>EqN (cx.D.i n) (cx.D.i n0)∧EqN (cx.D.i g0) (cx.D.i g1)
   | _=>False
  | _=>False
 | .vshareb s k=>match getO σ.fr s with
  | some ⟨[],_,_,.ptr hb 0⟩=>match nth σ.hp hb with
   | some (.blk _ cs)=>match nth cs k with
    | some (.vsl _ n g0 h)=>match nth σ.hp h with
     | some (.vec _ n0 g1 _ _)=>EqN (cx.D.i n) (cx.D.i n0)∧EqN (cx.D.i g0) (cx.D.i g1)
     | _=>False
    | _=>False
   | _=>False
  | _=>False
 | _=>True
def ghosts (cx : Cx) : List Gh→Sy→(Sy→Prop)→Prop
 | [],σ,K=>K σ
 | g :: gs,σ,K=>match g with
  | .tot s=>match totOf σ s with
   | some (nl,n,sz,f)=>∃ f2,RowAs (cx.D.i n) f2 f∧ghosts cx gs ⟨setN σ.fr s (some ⟨[],none,none,.sl nl n sz f2⟩),σ.hp,σ.gm⟩ K
   | none=>False
  | .frz s=>match frzOf cx σ s with
   | some (n,sz,rows,h)=>∃ f,Built f rows∧ghosts cx gs ⟨setN σ.fr s (some ⟨[],none,none,.rarr n sz f⟩),setN σ.hp h .gone,σ.gm⟩ K
   | none=>False
  | .unrow s=>match unrowOf σ s with
   | some (ty,n,sz,f,h)=>∃ cs,Flat f (cx.D.i n) sz cs∧ghosts cx gs ⟨σ.fr,setN σ.hp h (.blk ty cs),σ.gm⟩ K
   | none=>False
  | g=>ghostP cx σ g∧match ghost cx σ g with
   | some σ=>ghosts cx gs σ K
   | none=>False
def ghostK (cx : Cx) (id : Nat) (σ : Sy) (K : Sy→Prop) : Prop :=
 match look id cx.gh with
 | none=>K σ
 | some l=>ghosts cx l σ K
inductive Ex where
 | normal
 | exit (id : Nat)
 | goto (l : Nat)
 | ret
def mkfr : List (Nat×Option SV)→List (Option G)→List (Option G)
 | [],fr=>fr
 | (i,v) :: l,fr=>mkfr l (setN fr i (v.map fun v=>⟨[],none,none,v⟩))
def blank {α : Type} : List α→List (Option G)
 | []=>[]
 | _ :: l=>none :: blank l
def belowV (n : Nat) : SV→Bool
 | .ptr h _=>Nat.blt h n
 | .gsl _ _ _ _ h=>Nat.blt h n
 | .mrow h=>Nat.blt h n
 | .mptr h _ _=>Nat.blt h n
 | .osl _ _ h=>Nat.blt h n
 | .optr _ h _ _=>Nat.blt h n
 | .mapv h=>Nat.blt h n
 | .vsl _ _ _ h=>Nat.blt h n
 | .tsl _ _ h=>Nat.blt h n
 | .yv h=>Nat.blt h n
 | .agg cs=>belowL n cs
 | .tup cs=>belowL n cs
 | .clo _ cs=>belowL n cs
 | _=>true
 where belowL (n : Nat) : List SV→Bool
 | []=>true
 | c :: cs=>belowV n c && belowL n cs
def belowF (n : Nat) : List (Nat×Option SV)→Bool
 | []=>true
 | (_,some v) :: l=>belowV n v && belowF n l
 | (_,none) :: l=>belowF n l
def belowH (n : Nat) : List Hl→Bool
 | []=>true
 | .blk _ cs :: ls=>belowV n (.agg cs) && belowH n ls
 | .lrec _ fr _ _ :: ls=>belowF n fr && belowH n ls
 | _ :: ls=>belowH n ls
def keepV (D : Dn) (n : Nat) (fr : List (Option G)) : List Nat→List (Option SV)
 | []=>[]
 | i :: l=>(match getO fr i with | some ⟨[],_,_,v⟩=>(if belowV n v then some (norm D v) else none) | _=>none) :: keepV D n fr l
def headH (D : Dn) : List Hl→List Hl
 | []=>[]
 | .blk ty cs :: ls=>.blk ty (norm.normL D cs) :: headH D ls
 | .tail ty n sz :: ls=>.tail ty (.a (D.i n)) sz :: headH D ls
 | .row ty n sz f :: ls=>.row ty (.a (D.i n)) sz f :: headH D ls
 | .own ty n sz gr f :: ls=>.own ty (.a (D.i n)) sz gr f :: headH D ls
 | .vec ty n g sz f :: ls=>.vec ty (.a (D.i n)) (.a (D.i g)) sz f :: headH D ls
 | l :: ls=>l :: headH D ls
def zipN {α : Type} : List Nat→List (Option α)→List (Nat×Option α)
 | i :: l,v :: vs=>(i,v) :: zipN l vs
 | _,_=>[]
def know (σ : Sy) (c : Operand) (b : Bool) : Sy :=
 match c with
 | .tmp s=>⟨setN σ.fr s (some ⟨[],none,none,.bool (.l b)⟩),σ.hp,σ.gm⟩
 | _=>σ
end Go.Sx
namespace Go.Sx
open Go
structure Env where
 β : Nat→Option Nat
 τ : Nat→Option Value
 O : Nat→Option Nat
 κ : Nat→Option Nat
 ζ : Nat→Option Nat
 I : Nat→Nat→Prop
def bytes (l : List UInt8) : ByteArray:=⟨⟨l⟩⟩
inductive RO (I : Nat→Nat→Prop) (w : World) : SV→Value→Prop where
 | int {k : IntKind} {t : ST} {n : Int} (h : t.den = n) : RO I w (.int k t) (.int k n)
 | bool {t : BT} {b : Bool} (h : t.den = b) : RO I w (.bool t) (.bool b)
 | str {s : List UInt8} {v : Value} (h : v = .string (bytes s)) : RO I w (.str s) v
 | nilp : RO I w .nilp (.pointer none)
 | raw {v v' : Value} (h : v' = v) : RO I w (.raw v) v'
 | fn {f : FuncId} {v : Value} (h : v = .func (.func f) #[] #[]) : RO I w (.fn f) v
 | ifc {b : BT} {v : Value} (h : (v = .nilIface∧b.den = true)∨((∃ t x,v = .iface t x)∧b.den = false)) : RO I w (.ifc b) v
 | slnil {nl : BT} {n : ST} {sz : Nat} {f : Nat→List SV} (h : nl.den = true) (hn : n.den = 0) : RO I w (.sl nl n sz f) (.slice none 0 0)
 | sl {nl : BT} {n : ST} {sz : Nat} {f : Nat→List SV} {a : Addr} {m cap : Nat} (g : Nat→Nat→Value) (h : nl.den = false) (hn : n.den = (m : Int)) (hc : m≤cap) (hcm : cap≤maxLen)
   (hs : 0 < m→a.spot = none)
   (hl : ∀ i,i < m→(f i).length = sz) (h1 : ∀ i j,i < m→j < sz→(g i j).oneCell' = true)
   (hcell : ∀ i j,i < m→j < sz→w.cell? ⟨a.block,a.off + (i * sz + j),none⟩ = some (g i j)∧I a.block (a.off + (i * sz + j)))
   (hrel : ∀ (i j : Nat) (s : SV),i < m→(f i)[j]? = some s→RO I w s (g i j)) : RO I w (.sl nl n sz f) (.slice (some a) m cap)
 | rptr {cs : List SV} {a : Addr} (g : Nat→Value) (hs : a.spot = none) (h1 : ∀ j,j < cs.length→(g j).oneCell' = true) (hcell : ∀ j,j < cs.length→w.cell? ⟨a.block,a.off + j,none⟩ = some (g j)∧I a.block (a.off + j))
   (hrel : ∀ (j : Nat) (s : SV),cs[j]? = some s→RO I w s (g j)) : RO I w (.rptr cs) (.pointer (some a))
 | rarr {n sz : Nat} {f : Nat→List SV} {a : Addr} (g : Nat→Nat→Value) (hs : a.spot = none) (hl : ∀ i,i < n→(f i).length = sz) (h1 : ∀ i j,i < n→j < sz→(g i j).oneCell' = true)
   (hcell : ∀ i j,i < n→j < sz→w.cell? ⟨a.block,a.off + (i * sz + j),none⟩ = some (g i j)∧I a.block (a.off + (i * sz + j)))
   (hrel : ∀ (i j : Nat) (s : SV),i < n→(f i)[j]? = some s→RO I w s (g i j)) : RO I w (.rarr n sz f) (.pointer (some a))
 | agg {cs : List SV} {vs : List Value} (hl : cs.length = vs.length) (h : ∀ (i : Nat) (s : SV) (v : Value),cs[i]? = some s→vs[i]? = some v→RO I w s v) : RO I w (.agg cs) (.agg ⟨vs⟩)
theorem RO.mono {I I' : Nat→Nat→Prop} {w w' : World} {s : SV} {v : Value} (h : RO I w s v)
  (hI : ∀ b o,I b o→I' b o) (hw : ∀ b o,I b o→w'.cell? ⟨b,o,none⟩ = w.cell? ⟨b,o,none⟩) : RO I' w' s v:=by
 induction h with
 | int h=>exact .int h
 | bool h=>exact .bool h
 | str h=>exact .str h
 | nilp=>exact .nilp
 | raw h=>exact .raw h
 | fn h=>exact .fn h
 | ifc h=>exact .ifc h
 | slnil h hn=>exact .slnil h hn
 | sl g h hn hc hcm hs hl h1 hcell hrel ih =>
  exact .sl g h hn hc hcm hs hl h1 (fun i j hi hj=>⟨by rw [hw _ _ (hcell i j hi hj).2]; exact (hcell i j hi hj).1,hI _ _ (hcell i j hi hj).2⟩) ih
 | rptr g hs h1 hcell hrel ih =>
  exact .rptr g hs h1 (fun j hj=>⟨by rw [hw _ _ (hcell j hj).2]; exact (hcell j hj).1,hI _ _ (hcell j hj).2⟩) ih
 | rarr g hs hl h1 hcell hrel ih =>
  exact .rarr g hs hl h1 (fun i j hi hj=>⟨by rw [hw _ _ (hcell i j hi hj).2]; exact (hcell i j hi hj).1,hI _ _ (hcell i j hi hj).2⟩) ih
 | agg hl h ih=>exact .agg hl ih
def tokOk (E : Env) (h : Nat) (n : Int) (v : Value) : Prop :=
 ∃ a m c,E.τ h = some (.slice a m c)∧n≤(m : Int)∧(n = (m : Int)→v = .slice a m c)
def optrOk (E : Env) (h j off : Nat) (n : Int) (v : Value) : Prop :=
 ∃ a m c sz,E.τ h = some (.slice a m c)∧E.ζ h = some sz∧n≤(m : Int)∧(n = (m : Int)→∃ b,a = some ⟨b,0,none⟩∧v = .pointer (some ⟨b,j * sz + off,none⟩))
def tailV (ad : Option Addr) (m c sz k : Nat) : Value:=.slice (if c = k then ad else ad.map (·.add (k * sz))) (m - k) (c - k)
def tslOk (E : Env) (h : Nat) (n a : Int) (v : Value) : Prop :=
 ∃ ad m c sz,E.τ h = some (.slice ad m c)∧E.ζ h = some sz∧n≤(m : Int)∧(n = (m : Int)→∃ k : Nat,a = (k : Int)∧k≤m∧v = tailV ad m c sz k)
def genOk (E : Env) (h : Nat) (n g : Int) (v : Value) : Prop :=
 ∃ a G c,E.τ h = some (.slice a G c)∧g≤(G : Int)∧(g = (G : Int)→∃ m : Nat,n = (m : Int)∧v = .slice a m c)
inductive Rel (E : Env) (w : World) : SV→Value→Prop where
 | ro {s : SV} {v : Value} (h : RO E.I w s v) : Rel E w s v
 | ptr {h off b : Nat} {v : Value} (hb : E.β h = some b) (hv : v = .pointer (some ⟨b,off,none⟩)) : Rel E w (.ptr h off) v
 | gsl {nl : BT} {n : ST} {sz : Nat} {f : Nat→List SV} {h : Nat} {v : Value} (hr : RO E.I w (.sl nl n sz f) v) (ht : tokOk E h n.den v) : Rel E w (.gsl nl n sz f h) v
 | mrow {h b m : Nat} {v : Value} (hb : E.β h = some b) (hm : E.κ h = some m) (hv : v = .slice (some ⟨b,0,none⟩) m m) : Rel E w (.mrow h) v
 | mptr {h j off b : Nat} {sz : Nat} {v : Value} (hb : E.β h = some b) (hz : E.ζ h = some sz) (hv : v = .pointer (some ⟨b,j * sz + off,none⟩)) : Rel E w (.mptr h j off) v
 | osl {nl : BT} {n : ST} {h : Nat} {v : Value} (ht : ∃ a m c,v = .slice a m c∧n.den = (m : Int)∧(nl.den = true↔a = none)) (hk : tokOk E h n.den v) : Rel E w (.osl nl n h) v
 | optr {n : ST} {h j off : Nat} {v : Value} (hv : ∃ b o,v = .pointer (some ⟨b,o,none⟩)) (ho : optrOk E h j off n.den v) : Rel E w (.optr n h j off) v
 | mapv {h b : Nat} {v : Value} (hb : E.β h = some b) (hv : v = .map (some b)) : Rel E w (.mapv h) v
 | yv {h b : Nat} {v : Value} (hb : E.β h = some b) (hv : v = .func (.yield b) #[] #[]) : Rel E w (.yv h) v
 | vsl {nl : BT} {n g : ST} {h : Nat} {v : Value} (ht : ∃ a m c,v = .slice a m c∧n.den = (m : Int)∧(nl.den = true↔a = none)) (hk : genOk E h n.den g.den v) : Rel E w (.vsl nl n g h) v
 | tsl {n a : ST} {h : Nat} {v : Value} (ht : ∃ ad m c,v = .slice ad m c) (hk : tslOk E h n.den a.den v) : Rel E w (.tsl n a h) v
 | agg {cs : List SV} {vs : List Value} (hl : cs.length = vs.length) (h : ∀ (i : Nat) (s : SV) (v : Value),cs[i]? = some s→vs[i]? = some v→Rel E w s v) : Rel E w (.agg cs) (.agg ⟨vs⟩)
 | tup {cs : List SV} {vs : List Value} (hl : cs.length = vs.length) (h : ∀ (i : Nat) (s : SV) (v : Value),cs[i]? = some s→vs[i]? = some v→Rel E w s v) : Rel E w (.tup cs) (.tuple ⟨vs⟩)
 | clo {f : FuncId} {cs : List SV} {vs : List Value} (hl : cs.length = vs.length) (h : ∀ (i : Nat) (s : SV) (v : Value),cs[i]? = some s→vs[i]? = some v→Rel E w s v) : Rel E w (.clo f cs) (.func (.func f) #[] ⟨vs⟩)
structure Ext (E : Env) (w : World) (E' : Env) (w' : World) : Prop where
 β : ∀ h b,E.β h = some b→E'.β h = some b
 τ : ∀ h v,E.τ h = some v→E'.τ h = some v∨∃ a m c a' m' c',v = .slice a m c∧E'.τ h = some (.slice a' m' c')∧m < m'
 κ : ∀ h m,E.κ h = some m→E'.κ h = some m
 ζ : ∀ h m,E.ζ h = some m→E'.ζ h = some m
 I : ∀ b o,E.I b o→E'.I b o
 cell : ∀ b o,E.I b o→w'.cell? ⟨b,o,none⟩ = w.cell? ⟨b,o,none⟩
theorem Ext.refl (E : Env) (w : World) : Ext E w E w:=⟨fun _ _ h=>h,fun _ _ h=>.inl h,fun _ _ h=>h,fun _ _ h=>h,fun _ _ h=>h,fun _ _ _=>rfl⟩
theorem tokOk.mono {E E' : Env} {w w' : World} {h : Nat} {n : Int} {v : Value} (x : Ext E w E' w') (ht : tokOk E h n v) : tokOk E' h n v:=by
 obtain ⟨a,m,c,h1,h2,h3⟩:=ht
 rcases x.τ h _ h1 with h4 | ⟨a0,m0,c0,a',m',c',e,h5,hlt⟩
 ·exact ⟨a,m,c,h4,h2,h3⟩
 ·cases e
  exact ⟨a',m',c',h5,by omega,fun e=>by omega⟩
theorem genOk.mono {E E' : Env} {w w' : World} {h : Nat} {n g : Int} {v : Value} (x : Ext E w E' w') (ht : genOk E h n g v) : genOk E' h n g v:=by
 obtain ⟨a,m,c,h1,h2,h3⟩:=ht
 rcases x.τ h _ h1 with h4 | ⟨a0,m0,c0,a',m',c',e,h5,hlt⟩
 ·exact ⟨a,m,c,h4,h2,h3⟩
 ·cases e
  exact ⟨a',m',c',h5,by omega,fun e=>by omega⟩
theorem optrOk.mono {E E' : Env} {w w' : World} {h j off : Nat} {n : Int} {v : Value} (x : Ext E w E' w') (ht : optrOk E h j off n v) : optrOk E' h j off n v:=by
 obtain ⟨a,m,c,sz,h1,h0,h2,h3⟩:=ht
 rcases x.τ h _ h1 with h4 | ⟨a0,m0,c0,a',m',c',e,h5,hlt⟩
 ·exact ⟨a,m,c,sz,h4,x.ζ _ _ h0,h2,h3⟩
 ·cases e
  exact ⟨a',m',c',sz,h5,x.ζ _ _ h0,by omega,fun e=>by omega⟩
theorem tslOk.mono {E E' : Env} {w w' : World} {h : Nat} {n a : Int} {v : Value} (x : Ext E w E' w') (ht : tslOk E h n a v) : tslOk E' h n a v:=by
 obtain ⟨ad,m,c,sz,h1,h0,h2,h3⟩:=ht
 rcases x.τ h _ h1 with h4 | ⟨a0,m0,c0,a',m',c',e,h5,hlt⟩
 ·exact ⟨ad,m,c,sz,h4,x.ζ _ _ h0,h2,h3⟩
 ·cases e
  exact ⟨a',m',c',sz,h5,x.ζ _ _ h0,by omega,fun e=>by omega⟩
theorem Rel.mono {E E' : Env} {w w' : World} {s : SV} {v : Value} (x : Ext E w E' w') (h : Rel E w s v) : Rel E' w' s v:=by
 induction h with
 | ro h=>exact .ro (h.mono x.I x.cell)
 | ptr hb hv=>exact .ptr (x.β _ _ hb) hv
 | gsl hr ht=>exact .gsl (hr.mono x.I x.cell) (ht.mono x)
 | mrow hb hm hv=>exact .mrow (x.β _ _ hb) (x.κ _ _ hm) hv
 | mptr hb hz hv=>exact .mptr (x.β _ _ hb) (x.ζ _ _ hz) hv
 | osl ht hk=>exact .osl ht (hk.mono x)
 | optr hv ho=>exact .optr hv (ho.mono x)
 | mapv hb hv=>exact .mapv (x.β _ _ hb) hv
 | yv hb hv=>exact .yv (x.β _ _ hb) hv
 | vsl ht hk=>exact .vsl ht (hk.mono x)
 | tsl ht hk=>exact .tsl ht (hk.mono x)
 | agg hl _ ih=>exact .agg hl ih
 | tup hl _ ih=>exact .tup hl ih
 | clo hl _ ih=>exact .clo hl ih
structure Bs where
 w0 : World
 X : Nat→Prop
 I0 : Nat→Nat→Prop
 β0 : Nat→Option Nat
 τ0 : Nat→Option Value
 ζ0 : Nat→Option Nat
 dl : List Nat
def TauLe (v : Value) (o : Option Value) : Prop:=o = some v∨∃ a m c a' m' c',v = .slice a m c∧o = some (.slice a' m' c')∧m < m'
theorem TauLe.trans {u v : Value} {o : Option Value} (h1 : TauLe u (some v)) (h2 : TauLe v o) : TauLe u o:=by
 rcases h1 with h1 | ⟨a,m,c,a',m',c',e,h1,hlt⟩
 ·cases h1; exact h2
 ·cases h1
  rcases h2 with h2 | ⟨a1,m1,c1,a2,m2,c2,e2,h2,hlt2⟩
  ·exact .inr ⟨a,m,c,a',m',c',e,h2,hlt⟩
  ·cases e2
   exact .inr ⟨a,m,c,a2,m2,c2,e,h2,by omega⟩
structure Since (B : Bs) (E : Env) : Prop where
 β : ∀ h b,B.β0 h = some b→E.β h = some b
 τ : ∀ h v,B.τ0 h = some v→TauLe v (E.τ h)
 ζ : ∀ h n,B.ζ0 h = some n→E.ζ h = some n
theorem Since.ext {B : Bs} {E E' : Env} {w w' : World} (x : Ext E w E' w') (h : Since B E) : Since B E':=by
 refine ⟨fun k b hk=>x.β k b (h.β k b hk),fun k v hk=>?_,fun k n hk=>x.ζ k n (h.ζ k n hk)⟩
 have h1:=h.τ k v hk
 cases he : E.τ k with
 | none=>rw [he] at h1; rcases h1 with h1 | ⟨_,_,_,_,_,_,_,h1,_⟩<;>cases h1
 | some u =>
  rw [he] at h1
  exact h1.trans (x.τ k u he)
structure Base (B : Bs) (E : Env) (w : World) : Prop where
 os : w.os = B.w0.os
 tape : w.tape = B.w0.tape
 output : w.output = B.w0.output
 size : B.w0.heap.size≤w.heap.size
 old : ∀ b,b < B.w0.heap.size→¬ B.X b→w.heap[b]? = B.w0.heap[b]?
 I0 : ∀ b o,B.I0 b o→E.I b o∧w.cell? ⟨b,o,none⟩ = B.w0.cell? ⟨b,o,none⟩
 Ibd : ∀ b o,E.I b o→b < w.heap.size
 Inew : ∀ b o,E.I b o→B.I0 b o∨B.w0.heap.size≤b∨B.X b
 Obd : ∀ b h,E.O b = some h→b < w.heap.size∧(B.w0.heap.size≤b∨B.X b)
 β0 : Since B E
def rowIs (E : Env) (w : World) (f : Nat→List SV) (m sz : Nat) (C : Array Value) : Prop :=
 C.size = m * sz∧(∀ i,i < m→(f i).length = sz)∧(∀ (i j : Nat) (s : SV) (v : Value),i < m→(f i)[j]? = some s→C[i * sz + j]? = some v→RO E.I w s v)∧∀ v,v∈C→v.oneCell' = true
def ownsW (w : World) (gr : Bool) (e : TypeId) (sz : Nat) (v : Value) (m : Nat) (xs : List Value) : Prop :=
 xs.length = m * sz∧((v = .slice none 0 0∧m = 0)∨∃ g cap cur fr,v = .slice (some ⟨g,0,none⟩) m cap∧w.heap[g]? = some (.cells cur e fr)∧(fr = (0,0)∨gr = false∧fr = (cur.size,cur.size + 1))∧m≤cap∧cap≤maxLen∧cur.size = cap * sz∧cur.toList.take (m * sz) = xs)
theorem ownsW_row {w : World} {e : TypeId} {sz m : Nat} {v : Value} {xs : List Value} (gr : Bool) (h : w.ownsRow 0 e sz v m xs) : ownsW w gr e sz v m xs:=by
 refine ⟨h.1,?_⟩
 rcases h.2 with h | ⟨g,cap,cur,h1,_,h2,h3⟩
 ·exact .inl h
 ·exact .inr ⟨g,cap,cur,(0,0),h1,h2,.inl rfl,h3⟩
theorem ownsW.row {w : World} {e : TypeId} {sz m : Nat} {v : Value} {xs : List Value} (h : ownsW w true e sz v m xs) : w.ownsRow 0 e sz v m xs:=by
 refine ⟨h.1,?_⟩
 rcases h.2 with h | ⟨g,cap,cur,fr,h1,h2,h3,h4⟩
 ·exact .inl h
 ·rcases h3 with rfl | ⟨h3,_⟩
  ·exact .inr ⟨g,cap,cur,h1,Nat.zero_le _,h2,h4⟩
  ·cases h3
theorem ownsW.shape {w : World} {gr : Bool} {e : TypeId} {sz m : Nat} {v : Value} {xs : List Value} (h : ownsW w gr e sz v m xs) : ∃ a c,v = .slice a m c:=by
 rcases h.2 with ⟨h,h2⟩ | ⟨g,cap,cur,fr,h1,h2⟩
 ·exact ⟨none,0,by rw [h,h2]⟩
 ·exact ⟨_,_,h1⟩
theorem ownsW.keep {w w' : World} {gr : Bool} {e : TypeId} {sz m : Nat} {v : Value} {xs : List Value} (h : ownsW w gr e sz v m xs) (hb : ∀ b,v.ownBlock = some b→w'.heap[b]? = w.heap[b]?) : ownsW w' gr e sz v m xs:=by
 refine ⟨h.1,?_⟩
 rcases h.2 with h | ⟨g,cap,cur,fr,rfl,h2⟩
 ·exact .inl h
 ·exact .inr ⟨g,cap,cur,fr,rfl,by rw [hb g rfl]; exact h2⟩
def rowIn (E : Env) (w : World) (f : Nat→List SV) (m sz : Nat) (xs : List Value) : Prop :=
 (∀ i,i < m→(f i).length = sz)∧∀ (i j : Nat) (s : SV) (u : Value),i < m→(f i)[j]? = some s→xs[i * sz + j]? = some u→RO E.I w s u
theorem rowIn.mono {E E' : Env} {w w' : World} {f : Nat→List SV} {m sz : Nat} {xs : List Value} (x : Ext E w E' w') (h : rowIn E w f m sz xs) : rowIn E' w' f m sz xs :=
 ⟨h.1,fun i j s u hi hs hu=>(h.2 i j s u hi hs hu).mono x.I x.cell⟩
def mgetS : List MapEntry→List UInt8→Bool
 | [],_=>false
 | e :: es,s=>match e.key with
  | .string x=>if x = bytes s then (match e.val with | .bool v=>v | _=>false) else mgetS es s
  | _=>mgetS es s
def stOf : LoopState→Nat
 | .ready=>0
 | .busy=>1
 | .done=>2
 | .exhausted=>3
structure RecIs (c : LC) (st : Nat) (pd : Option Jp) (r : Loop) : Prop where
 fn : r.fn = c.fn
 ps : r.params = c.ps
 assign : r.assign = c.assign
 body : r.body = c.body
 n : r.tmps.size = c.n
 st : stOf r.state = st
 pd : r.pending = pd.map Jp.code
def HOk (E : Env) (w : World) (h : Nat) : Hl→Prop
 | .fresh=>E.β h = none∧E.τ h = none∧E.κ h = none∧E.ζ h = none
 | .gone=>True
 | .blk ty cs=>∃ b C,E.β h = some b∧E.O b = some h∧w.heap[b]? = some (.cells C ty (0,0))∧C.size = cs.length∧
   (∀ (i : Nat) (s : SV) (v : Value),cs[i]? = some s→C[i]? = some v→Rel E w s v)∧(∀ v,v∈C→v.oneCell' = true)∧∀ o,¬ E.I b o
 | .tail ty n sz=>∃ v m xs,E.τ h = some v∧w.ownsRow 0 ty sz v m xs∧n.den = (m : Int)∧(∀ v,v∈xs→v.oneCell' = true)∧
   ∀ b,v.ownBlock = some b→E.O b = some h∧∀ o,m * sz≤o→¬ E.I b o
 | .row ty n sz f=>∃ b C m,E.β h = some b∧E.κ h = some m∧E.ζ h = some sz∧E.O b = some h∧w.heap[b]? = some (.cells C ty (0,0))∧n.den = (m : Int)∧m≤maxLen∧rowIs E w f m sz C∧∀ o,¬ E.I b o
 | .own ty n sz gr f=>∃ v m xs,E.τ h = some v∧E.ζ h = some sz∧ownsW w gr ty sz v m xs∧n.den = (m : Int)∧(∀ u,u∈xs→u.oneCell' = true)∧rowIn E w f m sz xs∧∀ b,v.ownBlock = some b→E.O b = some h∧∀ o,¬ E.I b o
 | .bld T e s=>∃ b p v,E.β h = some b∧E.O b = some h∧(p = .pointer none∨p = .pointer (some ⟨b,0,none⟩))∧w.heap[b]? = some (.cells #[p,v] T (0,0))∧w.ownsRow 0 e 1 v s.length (Lib.byteCells s)∧v.ownBlock≠some b∧
   (∀ o,¬ E.I b o)∧∀ g,v.ownBlock = some g→E.O g = some h∧∀ o,¬ E.I g o
 | .vec ty n g sz f=>∃ a c m G xs,E.τ h = some (.slice a G c)∧ownsW w true ty sz (.slice a m c) m xs∧n.den = (m : Int)∧g.den = (G : Int)∧(∀ u,u∈xs→u.oneCell' = true)∧rowIn E w f m sz xs∧∀ b,(Value.slice a m c).ownBlock = some b→E.O b = some h∧∀ o,¬ E.I b o
 | .mset F=>∃ b es clock,E.β h = some b∧E.O b = some h∧w.heap[b]? = some (.map es clock)∧(∀ e∈es.toList,∃ s v,e.key = .string (bytes s)∧e.val = .bool v)∧(∀ s,mgetS es.toList s = F s)∧∀ o,¬ E.I b o
 | .lrec c fr st pd=>∃ b r,E.β h = some b∧E.O b = some h∧w.heap[b]? = some (.loop r)∧RecIs c st pd r∧(∀ s v,(s,some v)∈fr→s < c.n∧Rel E w v (r.tmps.getD s undef))∧∀ o,¬ E.I b o
def allT : List BT→Prop
 | []=>True
 | b :: l=>b.den = true∧allT l
abbrev SG:=Option (List BT×SV)
def SlotOk (E : Env) (w : World) (a : Act) (s : Nat) : SG→Prop
 | none=>True
 | some (cs,v)=>s < a.tmps.size∧(allT cs→Rel E w v (a.tmps.getD s undef))∧(¬ allT cs→a.tmps.getD s undef = undef)
def markOf (r : Nat) : Deferred:={ target:=.collected r,args:=#[] }
structure St (B : Bs) (N : Nat) (E : Env) (a : Act) (w : World) (ff : Nat→SG) (hf : Nat→Hl) : Prop where
 base : Base B E w
 heap : ∀ h,HOk E w h (hf h)
 slot : ∀ s,SlotOk E w a s (ff s)
 size : a.tmps.size = N
 defers : a.defers = B.dl.map markOf
theorem St.step {B : Bs} {N : Nat} {E E' : Env} {a : Act} {w w' : World} {ff : Nat→SG} {hf hf' : Nat→Hl} (h : St B N E a w ff hf) (x : Ext E w E' w') (hb : Base B E' w')
  (hh : ∀ k,HOk E' w' k (hf' k)) : St B N E' a w' ff hf' where
 base:=hb
 heap:=hh
 slot:=fun s=>by
  have:=h.slot s
  cases hs : ff s with
  | none=>trivial
  | some p =>
   rw [hs] at this
   exact ⟨this.1,fun ha=>(this.2.1 ha).mono x,this.2.2⟩
 size:=h.size
 defers:=h.defers
def upd {α : Type} (f : Nat→α) (k : Nat) (x : α) : Nat→α:=fun j=>if j = k then x else f j
def updO {α : Type} (f : Nat→α) (k : Option Nat) (x : α) : Nat→α:=match k with
 | some k=>upd f k x
 | none=>f
theorem getD_put {a : Act} {d s : Nat} {v : Value} (h : s < a.tmps.size) : (a.put (some d) v).tmps.getD s undef = if s = d then v else a.tmps.getD s undef:=by
 simp only [Act.put,Array.getD_eq_getD_getElem?]
 by_cases e : s = d
 ·subst e; simp [h]
 ·rw [if_neg e,Array.getElem?_setIfInBounds_ne (fun e'=>e e'.symm)]
theorem St.put {B : Bs} {N : Nat} {E : Env} {a : Act} {w : World} {ff : Nat→SG} {hf : Nat→Hl} (h : St B N E a w ff hf) (d : Option Nat) (v : Value) (g : SG)
  (hg : ∀ cs s,g = some (cs,s)→(allT cs→Rel E w s v)∧(¬ allT cs→v = undef)) (hd : ∀ k,d = some k→k < N) : St B N E (a.put d v) w (updO ff d g) hf:=by
 cases d with
 | none=>exact h
 | some k =>
  refine ⟨h.base,h.heap,fun s=>?_,by simp [Act.put,h.size],h.defers⟩
  have hk:=hd k rfl
  by_cases e : s = k
  ·subst e
   simp only [updO,upd,if_pos]
   cases g with
   | none=>trivial
   | some p =>
    obtain ⟨cs,x⟩:=p
    obtain ⟨h1,h2⟩:=hg cs x rfl
    have hs : s < a.tmps.size:=by rw [h.size]; exact hk
    refine ⟨by simp [Act.put]; exact hs,fun ha=>?_,fun ha=>?_⟩
    ·rw [getD_put hs,if_pos rfl]; exact h1 ha
    ·rw [getD_put hs,if_pos rfl]; exact h2 ha
  ·have:=h.slot s
   simp only [updO,upd,if_neg e]
   cases hs : ff s with
   | none=>trivial
   | some p =>
    rw [hs] at this
    obtain ⟨h1,h2,h3⟩:=this
    refine ⟨by simp [Act.put]; exact h1,?_,?_⟩
    ·rw [getD_put h1,if_neg e]; exact h2
    ·rw [getD_put h1,if_neg e]; exact h3
end Go.Sx
namespace Go.Sx
open Go
def hfOf (hp : List Hl) : Nat→Hl:=fun h=>(nth hp h).getD .fresh
def LeV (s s' : SV) : Prop:=∀ (E : Env) (w : World) (v : Value),Rel E w s v→Rel E w s' v
def LeH (ls ls' : List Hl) : Prop:=∀ (h : Nat) (E : Env) (w : World),HOk E w h (hfOf ls h)→HOk E w h (hfOf ls' h)
structure Fin (r' r : SV) (ls'' ls' : List Hl) : Prop where
 v : LeV r' r
 h : LeH ls'' ls'
 len : ls'.length≤ls''.length
def pack1 : List SV→SV
 | [v]=>v
 | vs=>.tup vs
def uptoN : Nat→List Nat
 | 0=>[]
 | n + 1=>uptoN n ++ [n]
def eqNs : List Nat→List Nat→Bool
 | [],[]=>true
 | x :: l,y :: t=>x == y && eqNs l t
 | _,_=>false
def endG (cx : Cx) (m : Nat) (vs : List SV) (σ : Sy) (K : SV→List Hl→Prop) : Prop :=
 match loose (norm cx.D (pack1 vs)) with
 | r =>
  match reach σ.hp σ.hp (addNew (uptoN m) (hsV r)) with
  | hs =>
   match getG cx.D σ.hp hs with
   | ls =>
    if nodupN hs && eqNs (takeN m hs) (uptoN m) && allIn hs (hsV r) && rowless r && lowN (lenN σ.hp) hs && closedG hs ls then K (rnV (ixOf hs) r) (mapH (rnH (ixOf hs)) ls) else False
structure IsLC (c : LC) (ps : Array Tmp) (assign body : Code) (n : Nat) : Prop where
 ps : c.ps = ps
 assign : c.assign = assign
 body : c.body = body
 n : c.n = n
def setPs : List Tmp→List SV→List (Option G)→Option (List (Option G))
 | [],[],fr=>some fr
 | p :: ps,v :: vs,fr=>setPs ps vs (setN fr p (some ⟨[],none,none,v⟩))
 | _,_,_=>none
def jpOf : Ex→Nat×Option Jp×Bool
 | .normal=>(0,none,true)
 | .ret=>(2,some .ret,false)
 | .exit id=>(2,some (.exit id),false)
 | .goto l=>(2,some (.goto l),false)
def exOf : Option Jp→Ex
 | none=>.normal
 | some .ret=>.ret
 | some (.exit id)=>.exit id
 | some (.goto l)=>.goto l
def noRF : Code→Bool
 | .seq a b=>noRF a && noRF b
 | .cond _ t e=>noRF t && noRF e
 | .block _ b=>noRF b
 | .loop b=>noRF b
 | .scope b=>noRF b
 | .rangeFunc ..=>false
 | _=>true
def roundE (cx : Cx) (m : Nat) (K : SV→List Hl→Prop) (e : Ex) (σ : Sy) : Prop :=
 match nth σ.hp 0,jpOf e with
 | some (.lrec c fr 1 none),(st,pd,b)=>endG cx m [.bool (.l b)] ⟨σ.fr,setN σ.hp 0 (.lrec c fr st pd),σ.gm⟩ K
 | _,_=>False
def round0 (c : LC) (ps : Array Tmp) (n : Nat) (xs : List SV) (ls : List Hl) : Option (List (Option G)) :=
 match xs,ls with
 | .yv 0 :: vs,.lrec _ fr 0 none :: _=>setPs ps.toList vs (mkfr fr (List.replicate n none))
 | _,_=>none
def cloOf : SV→Option (FuncId×List SV)
 | .clo f cs=>some (f,cs)
 | .fn f=>some (f,[])
 | _=>none
def unroll (X : Sy→(Ex→Sy→Prop)→Prop) : Nat→Sy→(Ex→Sy→Prop)→Prop
 | 0,_,_=>False
 | n + 1,σ,K=>X σ fun e σ'=>match e with
  | .normal=>unroll X n σ' K
  | e=>K e σ'
def cntG : List Gh→Nat
 | [.freeze n]=>n
 | _=>0
def exec (cx : Cx) : Code→Sy→(Ex→Sy→Prop)→Prop
 | .skip,σ,K=>K .normal σ
 | .region id ops draw,σ,K =>
  ghostK cx (id + 2000000) σ fun σ=>stepOps cx ops.toList ops.toList [] σ fun fs σ =>
   if draw then (if Nat.blt 40 (lenN ops.toList) then IndepOk ops.toList fs∧ghostK cx id ⟨tidy σ.fr,σ.hp,[]⟩ (K .normal)
    else if edgesOk ops.toList 0 && indep ops.toList (befores ops.toList []) ops.toList fs 0 then ghostK cx id ⟨tidy σ.fr,σ.hp,[]⟩ (K .normal) else False)
   else ghostK cx id ⟨tidy σ.fr,σ.hp,[]⟩ (K .normal)
 | .seq a b,σ,K=>exec cx a σ fun e σ=>match e with
  | .normal=>exec cx b σ K
  | e=>K e σ
 | .cond c t e,σ,K =>
  match rd cx σ [] c with
  | some (.bool (.l true))=>exec cx t σ K
  | some (.bool (.l false))=>exec cx e σ K
  | some (.bool b)=>(cx.D.b b = true→exec cx t (know σ c true) K)∧(cx.D.b b = false→exec cx e (know σ c false) K)
  | _=>False
 | .block id b,σ,K=>exec cx b σ fun e σ=>match e with
  | .exit i=>if i == id then K .normal σ else K (.exit i) σ
  | e=>K e σ
 | .loop b,σ,K=>match look 999986 cx.gh with
  | some l=>unroll (exec cx b) (cntG l) σ K
  | none =>
  ∃ (keep : List Nat) (J : Nat→List (Option SV)→List Hl→Prop),
   (belowH (lenN σ.hp) σ.hp = true∧∃ m,J m (keepV cx.D (lenN σ.hp) σ.fr keep) (headH cx.D σ.hp))∧
   ∀ m vs hp,J m vs hp→exec cx b ⟨mkfr (zipN keep vs) (blank σ.fr),hp,[]⟩ fun e σ'=>match e with
    | .normal=>belowH (lenN σ.hp) (takeN (lenN σ.hp) σ'.hp) = true∧∃ m',m' < m∧J m' (keepV cx.D (lenN σ.hp) σ'.fr keep) (headH cx.D (takeN (lenN σ.hp) σ'.hp))
    | e=>K e σ'
 | .exit id,σ,K=>K (.exit id) σ
 | .ret,σ,K=>K .ret σ
 | .label _,σ,K=>K .normal σ
 | .goto l,σ,K=>K (.goto l) σ
 | .scope c,σ,K=>exec cx c σ fun e σ=>match e with
  | .goto _=>False
  | e=>K e σ
 | .rangeFunc g ps assign bd,σ,K =>
  match (rd cx σ [] g).bind cloOf with
  | some (f,caps) =>
   match look f cx.its with
   | some it =>
    (noRF assign && noRF bd) = true∧∀ c : LC,IsLC c ps assign bd (lenN σ.fr)→∃ (keep : List Nat) (Y : FSpec),
     (∀ xs ls K',Y cx.D xs ls K'→(∃ fr,ls.head? = some (.lrec c fr 0 none))∧∃ r ls',K' r ls'∧match round0 c ps (lenN σ.fr) xs ls with
      | some fr0=>exec cx assign ⟨fr0,ls,[]⟩ fun e σ1=>match e,nth σ1.hp 0 with
       | .normal,some (.lrec c1 fr1 0 none)=>exec cx bd ⟨σ1.fr,setN σ1.hp 0 (.lrec c1 fr1 1 none),σ1.gm⟩ (roundE cx (lenN ls) fun r' ls''=>Fin r' r ls'' ls')
       | _,_=>False
      | none=>False)∧
     stepCallG cx ⟨σ.fr,σ.hp ++ [.lrec c (zipN keep (keepV cx.D (lenN σ.hp) σ.fr keep)) 0 none],σ.gm⟩ [] (.yv (lenN σ.hp) :: caps) (it Y) fun o =>
      match efsH (σ.hp ++ [.lrec c (zipN keep (keepV cx.D (lenN σ.hp) σ.fr keep)) 0 none]) o.efs with
      | hp'=>okEfs (σ.hp ++ [.lrec c (zipN keep (keepV cx.D (lenN σ.hp) σ.fr keep)) 0 none]) o.efs = true∧match nth hp' (lenN σ.hp) with
       | some (.lrec _ _ st pd)=>Nat.beq st 1 = false∧K (exOf pd) ⟨σ.fr,setN hp' (lenN σ.hp) .gone,σ.gm⟩
       | _=>False
   | none=>False
  | none=>False
 | _,_,_=>False
def resVs (cx : Cx) (σ : Sy) : List ResultVar→Option (List SV)
 | []=>some []
 | .tmp t :: rs=>match rd cx σ [] (.tmp t),resVs cx σ rs with
  | some v,some vs=>some (v :: vs)
  | _,_=>none
 | .cell a t :: rs=>match rd cx σ [] (.tmp a),size? cx t,resVs cx σ rs with
  | some (.ptr h off),some n,some vs =>
   match nth σ.hp h with
   | some (.blk _ cs)=>if Nat.ble (off + n) (lenN cs) then
     match pack (isAgg? cx t) (takeN n (dropN off cs)) with
     | some v=>some (v :: vs)
     | none=>none
    else none
   | _=>none
  | _,_,_=>none
def startFr (ntmps : Nat) (args : List SV) : List (Option G) :=
 (args.map fun v=>some ⟨[],none,none,v⟩) ++ List.replicate (ntmps - lenN args) none
def ownRes : List SV→Option Nat
 | []=>none
 | .osl _ _ h :: _=>some h
 | _ :: vs=>ownRes vs
def ownTo (h k : Nat) : List SV→List SV
 | []=>[]
 | .osl nl n _ :: vs=>.osl nl n k :: ownTo h k vs
 | v :: vs=>v :: ownTo h k vs
def ownOk (h : Nat) : List SV→Bool
 | []=>true
 | .osl _ _ h' :: vs=>h' == h && ownOk h vs
 | v :: vs=>plainV v && ownOk h vs
def endK (cx : Cx) (m : Nat) (vs : List SV) (σ : Sy) (K : SV→List Hl→Prop) : Prop :=
 match ownRes vs with
 | none=>K (loose (norm cx.D (pack1 vs))) (normH cx.D (takeN m σ.hp))
 | some h=>match Nat.ble m h && ownOk h vs && plainH (normH cx.D (takeN m σ.hp)),nth σ.hp h with
  | true,some (.own ty n sz gr f)=>K (loose (norm cx.D (pack1 (ownTo h m vs)))) (normH cx.D (takeN m σ.hp ++ [.own ty n sz gr f]))
  | _,_=>False
def bodyG (cx : Cx) (fn : Func) (args : List SV) (hp : List Hl) (K : SV→List Hl→Prop) : Prop :=
 match fn.body with
 | some c=>exec cx c ⟨startFr fn.ntmps args,hp,[]⟩ fun e σ=>match e with
  | .normal | .ret=>match resVs cx σ fn.results.toList with
   | some vs=>endG cx (lenN hp) vs σ K
   | none=>False
  | _=>False
 | none=>False
def body (cx : Cx) (fn : Func) (args : List SV) (hp : List Hl) (K : SV→List Hl→Prop) : Prop :=
 match fn.body with
 | some c=>exec cx c ⟨startFr fn.ntmps args,hp,[]⟩ fun e σ=>match e with
  | .normal | .ret=>match resVs cx σ fn.results.toList with
   | some vs=>endK cx (lenN hp) vs σ K
   | none=>False
  | _=>False
 | none=>False
def bodyJ (cx : Cx) (fn : Func) (pre c : Code) (l : Nat) (rest : Code) (args : List SV) (hp : List Hl) (K : SV→List Hl→Prop) : Prop :=
 ∃ (keep : List Nat) (J : Nat→List (Option SV)→List Hl→Prop),
  (exec cx pre ⟨startFr fn.ntmps args,hp,[]⟩ fun e σ=>match e with
   | .normal=>exec cx c σ fun e σ=>match e with
    | .normal | .ret=>match resVs cx σ fn.results.toList with
     | some vs=>endK cx (lenN hp) vs σ K
     | none=>False
    | .goto l'=>l' = l∧belowH (lenN hp) (takeN (lenN hp) σ.hp) = true∧∃ m,J m (keepV cx.D (lenN hp) σ.fr keep) (headH cx.D (takeN (lenN hp) σ.hp))
    | _=>False
   | _=>False)∧
  ∀ m vs hp',J m vs hp'→exec cx rest ⟨mkfr (zipN keep vs) (blank (startFr fn.ntmps args)),hp',[]⟩ fun e σ=>match e with
   | .normal | .ret=>match resVs cx σ fn.results.toList with
    | some vs=>endK cx (lenN hp) vs σ K
    | none=>False
   | .goto l'=>l' = l∧belowH (lenN hp) (takeN (lenN hp) σ.hp) = true∧∃ m',m' < m∧J m' (keepV cx.D (lenN hp) σ.fr keep) (headH cx.D (takeN (lenN hp) σ.hp))
   | _=>False
end Go.Sx
namespace Go.Sx
open Go
theorem nth_eq {α : Type} : ∀ (l : List α) (n : Nat),nth l n = l[n]?
 | [],_=>by simp [nth]
 | _ :: _,0=>by simp [nth]
 | _ :: l,n + 1=>by simp [nth,nth_eq l n]
theorem getO_eq {α : Type} : ∀ (l : List (Option α)) (n : Nat),getO l n = (l[n]?).getD none
 | [],_=>by simp [getO]
 | _ :: _,0=>by simp [getO]
 | _ :: l,n + 1=>by simp [getO,getO_eq l n]
theorem setN_eq {α : Type} : ∀ (l : List α) (n : Nat) (v : α),setN l n v = l.set n v
 | [],_,_=>by simp [setN]
 | _ :: _,0,_=>by simp [setN]
 | _ :: l,n + 1,v=>by simp [setN,setN_eq l n v]
theorem takeN_eq {α : Type} : ∀ (n : Nat) (l : List α),takeN n l = l.take n
 | 0,_=>by simp [takeN]
 | _ + 1,[]=>by simp [takeN]
 | n + 1,_ :: l=>by simp [takeN,takeN_eq n l]
theorem dropN_eq {α : Type} : ∀ (n : Nat) (l : List α),dropN n l = l.drop n
 | 0,_=>by simp [dropN]
 | _ + 1,[]=>by simp [dropN]
 | n + 1,_ :: l=>by simp [dropN,dropN_eq n l]
theorem lenN_eq {α : Type} : ∀ (l : List α),lenN l = l.length
 | []=>rfl
 | _ :: l=>by simp [lenN,lenN_eq l]
theorem len_putN {α : Type} : ∀ (vs l : List α) (off : Nat),(putN l off vs).length = l.length
 | [],_,_=>rfl
 | v :: vs,l,off=>by simp [putN,len_putN vs,setN_eq]
theorem get_putN {α : Type} : ∀ (vs l : List α) (off i : Nat),off + vs.length≤l.length→(putN l off vs)[i]? = if off≤i∧i < off + vs.length then vs[i - off]? else l[i]?
 | [],l,off,i,_=>by rw [putN,if_neg (by simp only [List.length_nil]; omega)]
 | v :: vs,l,off,i,h=>by
  simp only [List.length_cons] at h
  rw [putN,get_putN vs _ (off + 1) i (by simp [setN_eq]; omega),setN_eq]
  by_cases e : i = off
  ·subst e
   rw [if_neg (by omega),if_pos (by simp)]
   rw [List.getElem?_set_self (by omega)]
   simp
  ·by_cases e2 : off + 1≤i∧i < off + 1 + vs.length
   ·rw [if_pos e2,if_pos (by simp; omega)]
    obtain ⟨k,hk⟩ : ∃ k,i - off = k + 1:=⟨i - off - 1,by omega⟩
    rw [hk,show i - (off + 1) = k by omega]
    simp
   ·rw [if_neg e2,if_neg (by simp; omega),List.getElem?_set_ne (by omega)]
theorem hasN_iff (x : Nat) : ∀ l,hasN x l = true↔x∈l
 | []=>by simp [hasN]
 | y :: l=>by
  simp only [hasN,Bool.or_eq_true,beq_iff_eq,hasN_iff x l,List.mem_cons]
  constructor
  ·rintro (h | h)
   ·exact .inl h.symm
   ·exact .inr h
  ·rintro (h | h)
   ·exact .inl h.symm
   ·exact .inr h
theorem subN_iff : ∀ (l t : List Nat),subN l t = true↔∀ x∈l,x∈t
 | [],t=>by simp [subN]
 | x :: l,t=>by simp [subN,hasN_iff,subN_iff l t]
def condsOf (gm : List BT) (T : List Nat) : List BT:=T.filterMap (nth gm)
theorem allT_iff : ∀ (l : List BT),allT l↔∀ b∈l,b.den = true
 | []=>by simp [allT]
 | b :: l=>by simp [allT,allT_iff l]
theorem allT_sub {gm : List BT} {t T : List Nat} (h : subN t T = true) (hT : allT (condsOf gm T)) : allT (condsOf gm t):=by
 rw [allT_iff] at *
 intro b hb
 rw [condsOf,List.mem_filterMap] at hb
 obtain ⟨i,hi,hb⟩:=hb
 exact hT b (by rw [condsOf,List.mem_filterMap]; exact ⟨i,(subN_iff _ _).1 h i hi,hb⟩)
theorem Ob_iff (gm : List BT) (A : Prop) : ∀ (T : List Nat),Ob dn gm T A↔(allT (condsOf gm T)→A)
 | []=>by simp [Ob,condsOf,allT]
 | i :: T=>by
  have ih:=Ob_iff gm A T
  simp only [Ob,condsOf,List.filterMap_cons]
  cases h : nth gm i with
  | none=>simpa [condsOf] using ih
  | some b =>
   simp only [allT]
   rw [ih]
   constructor
   ·intro h1 ⟨h2,h3⟩; exact h1 h2 h3
   ·intro h1 h2 h3; exact h1 ⟨h2,h3⟩
def kindB (P : Program) : TK→TypeDesc→Bool
 | .int k,.int k'=>k == k'
 | .bool,.bool=>true
 | .string,.string=>true
 | .pointer e,.pointer e'=>e == e'
 | .slice e,.slice e'=>e == e'
 | .struct fs,.struct fields=>(fields.toList.map fun f=>(f.offset,f.type)) == fs && fields.toList.all fun f=>(P.info? f.type).isSome
 | .array n e,.array n' e'=>n == n' && e == e'
 | .map k e,.map k' e'=>k == k' && e == e'
 | .iface,.interface _=>true
 | .other,.struct _=>false
 | .other,.array ..=>false
 | .other,_=>true
 | _,_=>false
def zB : SV→Value→Bool
 | .int k (.l n),.int k' n'=>k == k' && n == n'
 | .bool (.l b),.bool b'=>b == b'
 | .str s,.string s'=>s == s'.data.toList
 | .nilp,.pointer none=>true
 | .sl (.l true) (.l 0) _ _,.slice none 0 0=>true
 | .raw .nilIface,.nilIface=>true
 | .raw .nilFunc,.nilFunc=>true
 | .raw (.map none),.map none=>true
 | _,_=>false
def zsB : List SV→List Value→Bool
 | [],[]=>true
 | s :: ss,v :: vs=>zB s v && zsB ss vs
 | _,_=>false
def naggB (k : TK) (z : Value) : Bool:=match z with
 | .agg _=>(match k with | .struct _=>true | .array _ _=>true | _=>false)
 | _=>true
def tiB (P : Program) (t : TypeId) (ti : TI) : Bool :=
 match P.underlying t,P.info? t with
 | some d,some i=>ti.zero.length == ti.size && kindB P ti.k d && i.size == ti.size && i.bytes == ti.bytes && (match i.zero with | some z=>zsB ti.zero z.cells.toList && naggB ti.k z | none=>false)
 | _,_=>false
def ttB (P : Program) : List (Nat×TI)→Bool
 | []=>true
 | (t,ti) :: l=>tiB P t ti && ttB P l
theorem ttB_look {P : Program} : ∀ {tt : List (Nat×TI)} {t : Nat} {ti : TI},ttB P tt = true→look t tt = some ti→tiB P t ti = true
 | [],_,_,_,h=>by simp [look] at h
 | (u,ui) :: l,t,ti,hB,h=>by
  simp only [ttB,Bool.and_eq_true] at hB
  simp only [look] at h
  split at h
  ·rename_i e
   have e : u = t:=by simpa using e
   subst e
   simp only [Option.some.injEq] at h
   subst h
   exact hB.1
  ·exact ttB_look hB.2 h
theorem zB_RO {I : Nat→Nat→Prop} {w : World} {s : SV} {v : Value} (h : zB s v = true) : RO I w s v:=by
 unfold zB at h
 split at h<;>simp at h
 ·obtain ⟨rfl,rfl⟩:=h; exact .int rfl
 ·subst h; exact .bool rfl
 ·subst h; exact .str rfl
 ·exact .nilp
 ·exact .slnil rfl rfl
 ·exact .raw rfl
 ·exact .raw rfl
 ·exact .raw rfl
theorem zsB_get {I : Nat→Nat→Prop} {w : World} : ∀ {ss : List SV} {vs : List Value},zsB ss vs = true→ss.length = vs.length∧∀ (i : Nat) (s : SV) (v : Value),ss[i]? = some s→vs[i]? = some v→RO I w s v
 | [],[],_=>by simp
 | s :: ss,v :: vs,h=>by
  simp only [zsB,Bool.and_eq_true] at h
  obtain ⟨h1,h2⟩:=zsB_get (I:=I) (w:=w) h.2
  refine ⟨by simp [h1],fun i s' v' hs hv=>?_⟩
  cases i with
  | zero=>simp at hs hv; subst hs; subst hv; exact zB_RO h.1
  | succ i=>simp at hs hv; exact h2 i s' v' hs hv
 | [],_ :: _,h=>by simp [zsB] at h
 | _ :: _,[],h=>by simp [zsB] at h
theorem zB_one {s : SV} {v : Value} (h : zB s v = true) : v.oneCell' = true:=by
 unfold zB at h
 split at h<;>first | rfl | simp at h
structure TIok (P : Program) (t : TypeId) (ti : TI) : Prop where
 zlen : ti.zero.length = ti.size
 und : ∃ d,P.underlying t = some d∧kindB P ti.k d = true
 info : ∃ i z,P.info? t = some i∧i.size = ti.size∧i.bytes = ti.bytes∧i.zero = some z∧zsB ti.zero z.cells.toList = true∧naggB ti.k z = true
theorem tiB_ok {P : Program} {t : TypeId} {ti : TI} (h : tiB P t ti = true) : TIok P t ti:=by
 unfold tiB at h
 split at h
 ·rename_i d i hd hi
  simp only [Bool.and_eq_true,beq_iff_eq] at h
  obtain ⟨⟨⟨⟨h0,h1⟩,h2⟩,h3⟩,h4⟩:=h
  split at h4
  ·rename_i z hz
   simp only [Bool.and_eq_true] at h4
   exact ⟨h0,⟨d,hd,h1⟩,⟨i,z,hi,h2,h3,hz,h4⟩⟩
  ·simp at h4
 ·simp at h
theorem ofConst_RO {I : Nat→Nat→Prop} {w : World} {v : Value} {s : SV} (h : ofConst v = some s) : (∃ vs,s = .tup []∧v = .tuple vs∧vs = #[])∨RO I w s v:=by
 unfold ofConst at h
 split at h
 ·cases h; exact .inr (.int rfl)
 ·cases h; exact .inr (.bool rfl)
 ·cases h; exact .inr (.str rfl)
 ·cases h; exact .inr .nilp
 ·cases h; exact .inr (.slnil rfl rfl)
 ·cases h; exact .inr (.raw rfl)
 ·cases h; exact .inr (.raw rfl)
 ·cases h; exact .inr (.raw rfl)
 ·rename_i vs
  split at h
  ·rename_i e
   cases h
   exact .inl ⟨vs,rfl,rfl,by simpa using e⟩
  ·cases h
 ·cases h
theorem ofConst_Rel {E : Env} {w : World} {v : Value} {s : SV} (h : ofConst v = some s) : Rel E w s v:=by
 rcases ofConst_RO (I:=E.I) (w:=w) h with ⟨vs,rfl,rfl,rfl⟩ | h
 ·exact .tup rfl (by simp)
 ·exact .ro h
def glBlk (w : World) (g : Nat) (s : SV) : Prop:=match s with
 | .rarr n sz _=>∃ (C : Array Value) (t : TypeId) (fr : Nat×Nat),w.heap[g]? = some (.cells C t fr)∧C.size = n * sz
 | _=>True
theorem glBlk.same {w w' : World} {g : Nat} {s : SV} (h : glBlk w g s) (e : w'.heap[g]? = w.heap[g]?) : glBlk w' g s:=by
 unfold glBlk at h ⊢
 split at h
 ·obtain ⟨C,t,fr,h1,h2⟩:=h
  exact ⟨C,t,fr,e.trans h1,h2⟩
 ·trivial
def glOk (B : Bs) (gl : List (Nat×SV)) : Prop:=∀ g s,look g gl = some s→RO B.I0 B.w0 s (.pointer (some ⟨g,0,none⟩))∧g < B.w0.heap.size∧¬ B.X g∧glBlk B.w0 g s
def ffOf (σ : Sy) : Nat→SG:=fun s=>(getO σ.fr s).map fun g=>(condsOf σ.gm g.tg,g.v)
def opSlots (x : Operand) : List Nat:=match x with
 | .tmp s=>[s]
 | _=>[]
theorem rd_sound {B : Bs} {N : Nat} {E : Env} {a : Act} {w : World} {ff : Nat→SG} {hf : Nat→Hl} {cx : Cx} {σ : Sy} {T : List Nat} {x : Operand} {v : SV}
  (h : rd cx σ T x = some v) (hg : glOk B cx.gl) (st : St B N E a w ff hf) (ag : ∀ s∈opSlots x,ff s = ffOf σ s) (hT : allT (condsOf σ.gm T)) : Rel E w v (a.eval x):=by
 cases x with
 | tmp s =>
  simp only [rd] at h
  split at h
  ·rename_i g hgo
   split at h
   ·rename_i hs
    cases h
    have h1:=st.slot s
    rw [ag s (by simp [opSlots]),ffOf,hgo] at h1
    simp only [Option.map_some,SlotOk] at h1
    exact h1.2.1 (allT_sub hs hT)
   ·cases h
  ·cases h
 | const v'=>exact ofConst_Rel h
 | global g =>
  have h1:=(hg g v h).1
  exact .ro (h1.mono (fun b o hb=>(st.base.I0 b o hb).1) (fun b o hb=>(st.base.I0 b o hb).2))
 | func f =>
  cases h
  exact .ro (.fn rfl)
theorem nilSz_rel {E : Env} {w : World} {cx : Cx} {t : TypeId} {v : SV} {u : Value} (h : Rel E w v u) : Rel E w (nilSz cx t v) u:=by
 unfold nilSz
 split
 ·rename_i f
  have hn : ∀ (n : Nat) (g : Nat→List SV),Rel E w (.sl (.l true) (.l 0) n g) u:=by
   intro n g
   cases h with
   | ro h=>cases h with
    | slnil h hn=>exact .ro (.slnil rfl rfl)
    | sl g h=>simp [BT.den] at h
  split
  ·split
   ·exact hn _ _
   ·exact hn _ _
  ·exact hn _ _
 ·exact h
theorem rdT_sound {B : Bs} {N : Nat} {E : Env} {a : Act} {w : World} {ff : Nat→SG} {hf : Nat→Hl} {cx : Cx} {σ : Sy} {T : List Nat} {t : TypeId} {x : Operand} {v : SV}
  (h : rdT cx σ T t x = some v) (hg : glOk B cx.gl) (st : St B N E a w ff hf) (ag : ∀ s∈opSlots x,ff s = ffOf σ s) (hT : allT (condsOf σ.gm T)) : Rel E w v (a.eval x):=by
 unfold rdT at h
 split at h
 ·rename_i v0 h0
  cases h
  exact nilSz_rel (rd_sound h0 hg st ag hT)
 ·cases h
end Go.Sx
namespace Go.Sx
open Go
def RelL (E : Env) (w : World) (cs : List SV) (vs : List Value) : Prop :=
 cs.length = vs.length∧∀ (i : Nat) (s : SV) (v : Value),cs[i]? = some s→vs[i]? = some v→Rel E w s v
theorem RelL.mono {E E' : Env} {w w' : World} {cs : List SV} {vs : List Value} (x : Ext E w E' w') (h : RelL E w cs vs) : RelL E' w' cs vs :=
 ⟨h.1,fun i s v a b=>(h.2 i s v a b).mono x⟩
theorem RelL.agg {E : Env} {w : World} {cs : List SV} {vs : List Value} (h : RelL E w cs vs) : Rel E w (.agg cs) (.agg ⟨vs⟩):=.agg h.1 h.2
theorem RelL.nil {E : Env} {w : World} : RelL E w [] []:=⟨rfl,by simp⟩
theorem RelL.cons {E : Env} {w : World} {s : SV} {v : Value} {cs : List SV} {vs : List Value} (h : Rel E w s v) (hs : RelL E w cs vs) : RelL E w (s :: cs) (v :: vs) :=
 ⟨by simp [hs.1],fun i s' v' h1 h2=>by
  cases i with
  | zero=>simp at h1 h2; subst h1; subst h2; exact h
  | succ i=>simp at h1 h2; exact hs.2 i s' v' h1 h2⟩
theorem RelL.take {E : Env} {w : World} {cs : List SV} {vs : List Value} (n : Nat) (h : RelL E w cs vs) : RelL E w (cs.take n) (vs.take n) :=
 ⟨by simp [h.1],fun i s v h1 h2=>by
  rw [List.getElem?_take] at h1 h2
  split at h1
  ·rename_i e; rw [if_pos e] at h2; exact h.2 i s v h1 h2
  ·cases h1⟩
theorem RelL.drop {E : Env} {w : World} {cs : List SV} {vs : List Value} (n : Nat) (h : RelL E w cs vs) : RelL E w (cs.drop n) (vs.drop n) :=
 ⟨by simp [h.1],fun i s v h1 h2=>by
  rw [List.getElem?_drop] at h1 h2
  exact h.2 _ s v h1 h2⟩
theorem Rel.agg_inv {E : Env} {w : World} {cs : List SV} {v : Value} (h : Rel E w (.agg cs) v) : ∃ vs,v = .agg ⟨vs⟩∧RelL E w cs vs:=by
 cases h with
 | ro h=>cases h with
  | agg hl h=>exact ⟨_,rfl,hl,fun i s v a b=>.ro (h i s v a b)⟩
 | agg hl h=>exact ⟨_,rfl,hl,h⟩
theorem Rel.tup_inv {E : Env} {w : World} {cs : List SV} {v : Value} (h : Rel E w (.tup cs) v) : ∃ vs,v = .tuple ⟨vs⟩∧RelL E w cs vs:=by
 cases h with
 | ro h=>cases h
 | tup hl h=>exact ⟨_,rfl,hl,h⟩
theorem Rel.clo_inv {E : Env} {w : World} {f : FuncId} {cs : List SV} {v : Value} (h : Rel E w (.clo f cs) v) : ∃ vs,v = .func (.func f) #[] ⟨vs⟩∧RelL E w cs vs:=by
 cases h with
 | ro h=>cases h
 | clo hl h=>exact ⟨_,rfl,hl,h⟩
theorem Rel.fn_inv {E : Env} {w : World} {f : FuncId} {v : Value} (h : Rel E w (.fn f) v) : v = .func (.func f) #[] #[]:=by
 cases h with
 | ro h=>cases h with
  | fn h=>exact h
theorem Rel.int_inv {E : Env} {w : World} {k : IntKind} {t : ST} {v : Value} (h : Rel E w (.int k t) v) : v = .int k t.den:=by
 cases h with
 | ro h=>cases h with
  | int h=>rw [h]
theorem Rel.bool_inv {E : Env} {w : World} {t : BT} {v : Value} (h : Rel E w (.bool t) v) : v = .bool t.den:=by
 cases h with
 | ro h=>cases h with
  | bool h=>rw [h]
theorem Rel.str_inv {E : Env} {w : World} {s : List UInt8} {v : Value} (h : Rel E w (.str s) v) : v = .string (bytes s):=by
 cases h with
 | ro h=>cases h with
  | str h=>exact h
theorem Rel.ptr_inv {E : Env} {w : World} {h off : Nat} {v : Value} (hr : Rel E w (.ptr h off) v) : ∃ b,E.β h = some b∧v = .pointer (some ⟨b,off,none⟩):=by
 cases hr with
 | ro h=>cases h
 | ptr hb hv=>exact ⟨_,hb,hv⟩
theorem Rel.osl_inv {E : Env} {w : World} {nl : BT} {n : ST} {h : Nat} {v : Value} (hr : Rel E w (.osl nl n h) v) : (∃ a m c,v = .slice a m c∧n.den = (m : Int)∧(nl.den = true↔a = none))∧tokOk E h n.den v:=by
 cases hr with
 | ro h=>cases h
 | osl ht hk=>exact ⟨ht,hk⟩
theorem Rel.vsl_inv {E : Env} {w : World} {nl : BT} {n g : ST} {h : Nat} {v : Value} (hr : Rel E w (.vsl nl n g h) v) : (∃ a m c,v = .slice a m c∧n.den = (m : Int)∧(nl.den = true↔a = none))∧genOk E h n.den g.den v:=by
 cases hr with
 | ro h=>cases h
 | vsl ht hk=>exact ⟨ht,hk⟩
theorem Rel.tsl_inv {E : Env} {w : World} {n a : ST} {h : Nat} {v : Value} (hr : Rel E w (.tsl n a h) v) : (∃ ad m c,v = .slice ad m c)∧tslOk E h n.den a.den v:=by
 cases hr with
 | ro h=>cases h
 | tsl ht hk=>exact ⟨ht,hk⟩
theorem Rel.optr_inv {E : Env} {w : World} {n : ST} {h j off : Nat} {v : Value} (hr : Rel E w (.optr n h j off) v) : (∃ b o,v = .pointer (some ⟨b,o,none⟩))∧optrOk E h j off n.den v:=by
 cases hr with
 | ro h=>cases h
 | optr hv ho=>exact ⟨hv,ho⟩
theorem Rel.int {E : Env} {w : World} {k : IntKind} {t : ST} {n : Int} (h : t.den = n) : Rel E w (.int k t) (.int k n):=.ro (.int h)
theorem Rel.bool {E : Env} {w : World} {t : BT} {b : Bool} (h : t.den = b) : Rel E w (.bool t) (.bool b):=.ro (.bool h)
theorem one_of {E : Env} {w : World} {s : SV} {v : Value} (h : oneB s = true) (hr : Rel E w s v) : v.oneCell' = true:=by
 cases hr with
 | ro hr =>
  cases hr<;>first | rfl | (simp [oneB] at h; done) | skip
  ·rename_i h'; rw [h']; rfl
  ·rename_i h'; subst h'; exact h
  ·rename_i h'; rw [h']; rfl
  ·rename_i h'; rcases h' with ⟨rfl,_⟩ | ⟨⟨_,_,rfl⟩,_⟩<;>rfl
 | ptr hb hv=>rw [hv]; rfl
 | gsl hr ht=>cases hr<;>rfl
 | mrow hb hm hv=>rw [hv]; rfl
 | mptr hb hz hv=>rw [hv]; rfl
 | osl ht hk=>obtain ⟨a,m,c,rfl,_⟩:=ht; rfl
 | optr hv ho=>obtain ⟨b,o,rfl⟩:=hv; rfl
 | mapv hb hv=>rw [hv]; rfl
 | yv hb hv=>rw [hv]; rfl
 | vsl ht hk=>obtain ⟨a,m,c,rfl,_⟩:=ht; rfl
 | tsl ht hk=>obtain ⟨a,m,c,rfl⟩:=ht; rfl
 | agg hl _=>simp [oneB] at h
 | tup hl _=>simp [oneB] at h
 | clo hl _=>rfl
theorem onesB_get : ∀ {cs : List SV} (_ : onesB cs = true) {i : Nat} {s : SV},cs[i]? = some s→oneB s = true
 | [],_,i,s,hs=>by simp at hs
 | c :: cs,h,i,s,hs=>by
  simp only [onesB,Bool.and_eq_true] at h
  cases i with
  | zero=>simp at hs; subst hs; exact h.1
  | succ i=>simp at hs; exact onesB_get h.2 hs
theorem ones_of {E : Env} {w : World} {cs : List SV} {vs : List Value} (h : onesB cs = true) (hr : RelL E w cs vs) : ∀ v∈vs,v.oneCell' = true:=by
 intro v hv
 obtain ⟨i,hi⟩:=List.mem_iff_getElem?.1 hv
 have hlt : i < cs.length:=by rw [hr.1]; exact (List.getElem?_eq_some_iff.1 hi).1
 exact one_of (onesB_get h (List.getElem?_eq_getElem hlt)) (hr.2 i _ v (List.getElem?_eq_getElem hlt) hi)
theorem cells_of {E : Env} {w : World} {s : SV} {v : Value} (h : onesB s.cells = true) (hr : Rel E w s v) : RelL E w s.cells v.cells.toList:=by
 by_cases ha : ∃ cs,s = .agg cs
 ·obtain ⟨cs,rfl⟩:=ha
  obtain ⟨vs,rfl,hl⟩:=hr.agg_inv
  exact hl
 ·have hs : s.cells = [s]:=by
   cases s<;>first | rfl | exact (ha ⟨_,rfl⟩).elim
  rw [hs] at h ⊢
  simp only [onesB,Bool.and_true] at h
  have h1:=one_of h hr
  have hv : v.cells = #[v]:=by cases v<;>first | rfl | simp [Value.oneCell'] at h1
  rw [hv]
  exact .cons hr .nil
def slotsOf (op : Op) : List Nat:=op.operands.toList.flatMap opSlots
def AgS (σ : Sy) (ff : Nat→SG) (o : Oper) : Prop:=∀ s∈slotsOf o.op,ff s = ffOf σ s
def AgC (hp : List Hl) (hf : Nat→Hl) (x : Nat×Nat×Nat) : Prop :=
 ∀ ty cs,hfOf hp x.1 = .blk ty cs→∃ cs',hf x.1 = .blk ty cs'∧cs'.length = cs.length∧∀ j,x.2.1≤j→j < x.2.1 + x.2.2→cs'[j]? = cs[j]?
def AgE (hp : List Hl) (hf : Nat→Hl) : Ef→Prop
 | .set h _ _=>∀ ty cs,hfOf hp h = .blk ty cs→∃ cs',hf h = .blk ty cs'∧cs'.length = cs.length
 | .put h _=>hf h = hfOf hp h
structure AgH (hp : List Hl) (hf : Nat→Hl) (r : Out) : Prop where
 rds : ∀ h∈r.rds,hf h = hfOf hp h
 rdc : ∀ x∈r.rdc,AgC hp hf x
 efs : ∀ e∈r.efs,AgE hp hf e
def efF (hf : Nat→Hl) : Ef→Nat→Hl
 | .set h off vs=>match hf h with
  | .blk ty cs=>upd hf h (.blk ty (putN cs off vs))
  | _=>hf
 | .put h hl=>upd hf h hl
def efsF (hf : Nat→Hl) : List Ef→Nat→Hl
 | []=>hf
 | e :: es=>efsF (efF hf e) es
def Yields (P : Program) (o : Oper) (r : Out) (B : Bs) (E : Env) (a : Act) (w : World) (hf : Nat→Hl) : Prop :=
 ∀ (K' : Act→World→Prop) (Q : Exit→Act→World→Prop),
  (∀ v w' E',Ext E w E' w'→Base B E' w'→(∀ h,HOk E' w' h (efsF hf r.efs h))→Rel E' w' r.v v→K' (a.put o.dst v) w')→o.wp P a w K' Q
def Local (P : Program) (gl : List (Nat×SV)) (σ : Sy) (T : List Nat) (o : Oper) (r : Out) : Prop :=
 ∀ (B : Bs) (N : Nat) (E : Env) (a : Act) (w : World) (ff : Nat→SG) (hf : Nat→Hl),glOk B gl→St B N E a w ff hf→AgS σ ff o→AgH σ.hp hf r→allT (condsOf σ.gm T)→Yields P o r B E a w hf
theorem yields_value {P : Program} {o : Oper} {r : Out} {B : Bs} {N : Nat} {E : Env} {a : Act} {w : World} {ff : Nat→SG} {hf : Nat→Hl} (st : St B N E a w ff hf) {v : Value}
  (hr : (execOp a.eval o).run P w = .ok (.value v) w) (he : r.efs = []) (hv : Rel E w r.v v) : Yields P o r B E a w hf:=by
 intro K' Q h
 unfold Oper.wp
 rw [hr]
 exact h v w E (Ext.refl E w) st.base (by rw [he]; exact st.heap) hv
end Go.Sx
namespace Go.Sx
open Go
structure CxOk (P : Program) (cx : Cx) : Prop where
 D : cx.D = dn
 tt : ttB P cx.tt = true
 eqs : ∀ t∈cx.eqs,P.stoodInHeld t = false∧P.eqGuardType P.depth t = false∧∀ f∈(P.fieldsOf t).toList,(f.name≠"_")
section
variable {P : Program} {cx : Cx} {σ : Sy} {T : List Nat} {o : Oper} {K : Out→Prop}
theorem CxOk.ti (h : CxOk P cx) {t : Nat} {ti : TI} (hl : look t cx.tt = some ti) : TIok P t ti:=tiB_ok (ttB_look h.tt hl)
theorem size?_ti {t n : Nat} (h : size? cx t = some n) : ∃ ti,look t cx.tt = some ti∧ti.size = n:=by
 unfold size? at h
 cases hl : look t cx.tt with
 | none=>rw [hl] at h; cases h
 | some ti=>rw [hl] at h; simp at h; exact ⟨ti,rfl,h⟩
theorem TIok.sizeOf {t : Nat} {ti : TI} (h : TIok P t ti) (w : World) : (sizeOf t).run P w = .ok ti.size w:=by
 obtain ⟨i,z,hi,h1,_⟩:=h.info
 simp [Go.sizeOf,typeInfo,hi,h1]
theorem TIok.cellsOf {t : Nat} {ti : TI} (h : TIok P t ti) : P.cellsOf t = ti.size:=by
 obtain ⟨i,z,hi,h1,_⟩:=h.info
 simp [Program.cellsOf,hi,h1]
def aggK : TK→Bool
 | .struct _ | .array _ _=>true
 | _=>false
theorem isAgg?_eq {t : Nat} {ti : TI} (hl : look t cx.tt = some ti) : isAgg? cx t = aggK ti.k:=by
 obtain ⟨k,a,b,c⟩:=ti
 unfold isAgg?
 rw [hl]
 cases k<;>rfl
theorem TIok.isAgg {t : Nat} {ti : TI} (h : TIok P t ti) (w : World) : (isAgg t).run P w = .ok (aggK ti.k) w:=by
 obtain ⟨d,hd,hk⟩:=h.und
 unfold Go.isAgg
 simp only [Sem.run_bind,run_underlying hd,Result.andThen_ok]
 cases hti : ti.k<;>rw [hti] at hk<;>cases d<;>first | rfl | simp [kindB] at hk
theorem TIok.zero {t : Nat} {ti : TI} (h : TIok P t ti) (E : Env) (w : World) : ∃ z,(zeroValue t).run P w = .ok z w∧RelL E w ti.zero z.cells.toList∧(∀ v∈z.cells.toList,v.oneCell' = true):=by
 obtain ⟨i,z,hi,h1,h2,h3,h4,_⟩:=h.info
 refine ⟨z,by simp [zeroValue,typeInfo,hi,h3],?_,?_⟩
 ·obtain ⟨a,b⟩:=zsB_get (I:=E.I) (w:=w) h4
  exact ⟨a,fun i s v h1 h2=>.ro (b i s v h1 h2)⟩
 ·generalize z.cells.toList = vs at h4
  generalize ti.zero = ss at h4
  induction ss generalizing vs with
  | nil=>cases vs with
   | nil=>simp
   | cons v vs=>simp [zsB] at h4
  | cons s ss ih=>cases vs with
   | nil=>simp [zsB] at h4
   | cons v vs =>
    simp only [zsB,Bool.and_eq_true] at h4
    intro u hu
    rcases List.mem_cons.1 hu with rfl | hu
    ·exact zB_one h4.1
    ·exact ih vs h4.2 u hu
theorem ag_of {σ : Sy} {ff : Nat→SG} {o : Oper} (h : AgS σ ff o) {x : Operand} (hx : x∈o.op.operands.toList) : ∀ s∈opSlots x,ff s = ffOf σ s :=
 fun s hs=>h s (by unfold slotsOf; exact List.mem_flatMap.2 ⟨x,hx,hs⟩)
theorem fields_get {fs : List (Nat×TypeId)} {fields : Array Field} (h : (fields.toList.map fun f=>(f.offset,f.type)) = fs) {i fo ft : Nat} (hi : nth fs i = some (fo,ft)) :
  ∃ f,fields[i]? = some f∧f.offset = fo∧f.type = ft:=by
 rw [nth_eq,←h,List.getElem?_map] at hi
 cases hf : fields.toList[i]? with
 | none=>rw [hf] at hi; cases hi
 | some f =>
  rw [hf] at hi
  simp only [Option.map_some,Option.some.injEq,Prod.mk.injEq] at hi
  exact ⟨f,by rw [←Array.getElem?_toList]; exact hf,hi.1,hi.2⟩
theorem TIok.struct {t : Nat} {ti : TI} (h : TIok P t ti) {fs : List (Nat×TypeId)} (hk : ti.k = .struct fs) :
  ∃ fields,P.underlying t = some (.struct fields)∧(fields.toList.map fun f=>(f.offset,f.type)) = fs∧∀ f∈fields.toList,∃ i,P.info? f.type = some i:=by
 obtain ⟨d,hd,hb⟩:=h.und
 rw [hk] at hb
 cases d<;>simp only [kindB,Bool.false_eq_true] at hb
 rename_i fields
 simp only [Bool.and_eq_true,beq_iff_eq,List.all_eq_true,Option.isSome_iff_exists] at hb
 exact ⟨fields,hd,hb.1,hb.2⟩
theorem TIok.slice {t : Nat} {ti : TI} (h : TIok P t ti) {e : TypeId} (hk : ti.k = .slice e) : P.underlying t = some (.slice e):=by
 obtain ⟨d,hd,hb⟩:=h.und
 rw [hk] at hb
 cases d<;>simp only [kindB,Bool.false_eq_true,beq_iff_eq] at hb
 rw [hd,hb]
theorem TIok.array {t : Nat} {ti : TI} (h : TIok P t ti) {n e : Nat} (hk : ti.k = .array n e) : P.underlying t = some (.array n e):=by
 obtain ⟨d,hd,hb⟩:=h.und
 rw [hk] at hb
 cases d<;>simp only [kindB,Bool.false_eq_true,beq_iff_eq,Bool.and_eq_true] at hb
 rw [hd,hb.1,hb.2]
theorem TIok.int {t : Nat} {ti : TI} (h : TIok P t ti) {k : IntKind} (hk : ti.k = .int k) : P.underlying t = some (.int k):=by
 obtain ⟨d,hd,hb⟩:=h.und
 rw [hk] at hb
 cases d<;>simp only [kindB,Bool.false_eq_true,beq_iff_eq] at hb
 rw [hd,hb]
theorem outO_some {s : Option SV} (h : outO K s) : ∃ v,s = some v∧K ⟨v,[],[],[]⟩:=by
 cases s with
 | none=>exact h.elim
 | some v=>exact ⟨v,rfl,h⟩
theorem local_move {x : Operand} (ho : o.op = .move x∨o.op = .assign x) {v : SV} (hv : rd cx σ T x = some v) : Local P cx.gl σ T o ⟨v,[],[],[]⟩:=by
 intro B N E a w ff hf hg st ag _ hT
 have hx : x∈o.op.operands.toList:=by rcases ho with ho | ho<;>simp [ho,Op.operands]
 have:=rd_sound hv hg st (ag_of ag hx) hT
 refine yields_value st (v:=a.eval x) ?_ rfl this
 rcases ho with ho | ho<;>simp [execOp,ho]
theorem local_nil {n : Nat} (ho : o.op = .move (.const (.slice none 0 0))∨o.op = .assign (.const (.slice none 0 0))) : Local P cx.gl σ T o ⟨.sl (.l true) (.l 0) n fun _=>[],[],[],[]⟩:=by
 intro B N E a w ff hf _ st _ _ _
 refine yields_value st (v:=.slice none 0 0) ?_ rfl (.ro (.slnil rfl rfl))
 rcases ho with ho | ho<;>simp [execOp,ho,Act.eval]
theorem cell_alloc_old {w : World} {o : Obj} {b i : Nat} (h : b < w.heap.size) : (w.alloc o).cell? ⟨b,i,none⟩ = w.cell? ⟨b,i,none⟩:=by
 simp only [World.cell?]
 rw [heap_alloc_old w o h]
theorem heap_alloc_ne {w : World} {o : Obj} {b : Nat} (h : b < w.heap.size) : (w.alloc o).heap[b]? = w.heap[b]?:=heap_alloc_old w o h
theorem owned_lt {B : Bs} {E : Env} {w : World} (hb : Base B E w) {b h : Nat} (ho : E.O b = some h) : b < w.heap.size:=(hb.Obd b h ho).1
theorem HOk.keep {E E' : Env} {w w' : World} {h : Nat} {hl : Hl} (x : Ext E w E' w') (hk : HOk E w h hl) (hβ : E'.β h = E.β h) (hτ : E'.τ h = E.τ h) (hκ : E'.κ h = E.κ h) (hζ : E'.ζ h = E.ζ h)
  (hO : ∀ b,E.O b = some h→E'.O b = some h∧w'.heap[b]? = w.heap[b]?∧∀ o,E'.I b o→E.I b o) : HOk E' w' h hl:=by
 cases hl with
 | fresh=>exact ⟨by rw [hβ]; exact hk.1,by rw [hτ]; exact hk.2.1,by rw [hκ]; exact hk.2.2.1,by rw [hζ]; exact hk.2.2.2⟩
 | gone=>trivial
 | blk ty cs =>
  obtain ⟨b,C,h1,h2,h3,h4,h5,h6,h7⟩:=hk
  obtain ⟨h8,h9,h10⟩:=hO b h2
  exact ⟨b,C,by rw [hβ]; exact h1,h8,by rw [h9]; exact h3,h4,fun i s v a b=>(h5 i s v a b).mono x,h6,fun o ho=>h7 o (h10 o ho)⟩
 | tail ty n sz =>
  obtain ⟨v,m,xs,h1,h2,h3,h4,h5⟩:=hk
  refine ⟨v,m,xs,by rw [hτ]; exact h1,?_,h3,h4,fun b hb=>?_⟩
  ·refine ⟨h2.1,?_⟩
   rcases h2.2 with hn | ⟨g,cap,cur,rfl,hb,hg,rest⟩
   ·exact .inl hn
   ·obtain ⟨_,h9,_⟩:=hO g (h5 g rfl).1
    exact .inr ⟨g,cap,cur,rfl,hb,by rw [h9]; exact hg,rest⟩
  ·obtain ⟨h6,h7⟩:=h5 b hb
   obtain ⟨h8,_,h10⟩:=hO b h6
   exact ⟨h8,fun o ho hi=>h7 o ho (h10 o hi)⟩
 | row ty n sz f =>
  obtain ⟨b,C,m,h1,h2,hz,h3,h4,h5,h6,h7,h8⟩:=hk
  obtain ⟨h9,h10,h11⟩:=hO b h3
  exact ⟨b,C,m,by rw [hβ]; exact h1,by rw [hκ]; exact h2,by rw [hζ]; exact hz,h9,by rw [h10]; exact h4,h5,h6,⟨h7.1,h7.2.1,fun i j s v a b c=>(h7.2.2.1 i j s v a b c).mono x.I x.cell,h7.2.2.2⟩,fun o ho=>h8 o (h11 o ho)⟩
 | own ty n sz gr f =>
  obtain ⟨v,m,xs,h1,h2,h3,h4,h5,h6,h7⟩:=hk
  refine ⟨v,m,xs,by rw [hτ]; exact h1,by rw [hζ]; exact h2,h3.keep fun b hb=>(hO b (h7 b hb).1).2.1,h4,h5,h6.mono x,fun b hb=>?_⟩
  obtain ⟨q1,_,q3⟩:=hO b (h7 b hb).1
  exact ⟨q1,fun o ho=>(h7 b hb).2 o (q3 o ho)⟩
 | bld T e s =>
  obtain ⟨b,p,v,h1,h2,h3,h4,h5,h6,h7,h8⟩:=hk
  obtain ⟨q1,q2,q3⟩:=hO b h2
  refine ⟨b,p,v,by rw [hβ]; exact h1,q1,h3,by rw [q2]; exact h4,?_,h6,fun o ho=>h7 o (q3 o ho),fun g hg=>?_⟩
  ·refine ⟨h5.1,?_⟩
   rcases h5.2 with hn | ⟨g,cap,cur,rfl,hb,hg,rest⟩
   ·exact .inl hn
   ·exact .inr ⟨g,cap,cur,rfl,hb,by rw [(hO g (h8 g rfl).1).2.1]; exact hg,rest⟩
  ·obtain ⟨r1,_,r3⟩:=hO g (h8 g hg).1
   exact ⟨r1,fun o ho=>(h8 g hg).2 o (r3 o ho)⟩
 | vec ty n g sz f =>
  obtain ⟨a,c,m,G,xs,h1,h3,h4,h5,h6,h7,h8⟩:=hk
  refine ⟨a,c,m,G,xs,by rw [hτ]; exact h1,h3.keep fun b hb=>(hO b (h8 b hb).1).2.1,h4,h5,h6,h7.mono x,fun b hb=>?_⟩
  obtain ⟨q1,_,q3⟩:=hO b (h8 b hb).1
  exact ⟨q1,fun o ho=>(h8 b hb).2 o (q3 o ho)⟩
 | mset F =>
  obtain ⟨b,es,clock,h1,h2,h3,h4,h5,h6⟩:=hk
  obtain ⟨q1,q2,q3⟩:=hO b h2
  exact ⟨b,es,clock,by rw [hβ]; exact h1,q1,by rw [q2]; exact h3,h4,h5,fun o ho=>h6 o (q3 o ho)⟩
 | lrec c fr s pd =>
  obtain ⟨b,r,h1,h2,h3,h4,h5,h6⟩:=hk
  obtain ⟨q1,q2,q3⟩:=hO b h2
  exact ⟨b,r,by rw [hβ]; exact h1,q1,by rw [q2]; exact h3,h4,fun i v hm=>⟨(h5 i v hm).1,(h5 i v hm).2.mono x⟩,fun o ho=>h6 o (q3 o ho)⟩
theorem new_blk {B : Bs} {N : Nat} {E : Env} {a : Act} {w : World} {ff : Nat→SG} {hf : Nat→Hl} (st : St B N E a w ff hf) {h : Nat} (hfresh : hf h = .fresh) {ty : TypeId} {cs : List SV} {C : Array Value}
  (hr : RelL E w cs C.toList) (h1 : ∀ v∈C.toList,v.oneCell' = true) :
  ∃ E',Ext E w E' (w.alloc (.cells C ty))∧Base B E' (w.alloc (.cells C ty))∧(∀ k,HOk E' (w.alloc (.cells C ty)) k (upd hf h (.blk ty cs) k))∧E'.β h = some w.heap.size:=by
 have hb:=st.base
 have hfr:=st.heap h
 rw [hfresh] at hfr
 obtain ⟨f1,f2,_,_⟩:=hfr
 let E' : Env:=⟨upd E.β h (some w.heap.size),E.τ,upd E.O w.heap.size (some h),E.κ,E.ζ,E.I⟩
 have hx : Ext E w E' (w.alloc (.cells C ty)):=by
  refine ⟨fun k b hk=>?_,fun _ _ h=>.inl h,fun _ _ h=>h,fun _ _ h=>h,fun _ _ h=>h,fun b o hi=>cell_alloc_old (hb.Ibd b o hi)⟩
  show upd E.β h (some w.heap.size) k = some b
  unfold upd
  by_cases e : k = h
  ·subst e; rw [f1] at hk; cases hk
  ·rw [if_neg e]; exact hk
 refine ⟨E',hx,⟨hb.os,hb.tape,hb.output,?_,?_,?_,?_,?_,?_,hb.β0.ext hx⟩,fun k=>?_,by simp [E',upd]⟩
 ·have:=hb.size; simp; omega
 ·intro b hlt hX; rw [heap_alloc_ne (by have:=hb.size; omega)]; exact hb.old b hlt hX
 ·intro b o hi
  obtain ⟨i1,i2⟩:=hb.I0 b o hi
  exact ⟨i1,by rw [cell_alloc_old (hb.Ibd b o i1)]; exact i2⟩
 ·intro b o hi; have:=hb.Ibd b o hi; simp; omega
 ·exact hb.Inew
 ·intro b k hO
  have hO : upd E.O w.heap.size (some h) b = some k:=hO
  unfold upd at hO
  split at hO
  ·rename_i e; subst e; have:=hb.size; simp; exact .inl this
  ·obtain ⟨o1,o2⟩:=hb.Obd b k hO; simp; exact ⟨by omega,o2⟩
 ·by_cases e : k = h
  ·subst e
   simp only [upd,if_pos]
   refine ⟨w.heap.size,C,by simp [E',upd],by simp [E',upd],heap_alloc_new w _,by rw [hr.1]; simp,fun i s v p q=>(hr.2 i s v p (by simpa using q)).mono hx,fun v hv=>h1 v (by simpa using hv),fun o hi=>?_⟩
   have:=hb.Ibd _ _ hi
   omega
  ·simp only [upd,if_neg e]
   refine HOk.keep hx (st.heap k) (by simp [E',upd,e]) rfl rfl rfl fun b hO=>?_
   have hlt:=owned_lt hb hO
   exact ⟨by simp [E',upd,Nat.ne_of_lt hlt]; exact hO,heap_alloc_ne hlt,fun _ h=>h⟩
theorem local_alloc {e : TypeId} {ti : TI} (hc : CxOk P cx) (ho : o.op = .alloc e) (hl : look e cx.tt = some ti) :
  Local P cx.gl σ T o ⟨.ptr (lenN σ.hp) 0,[.put (lenN σ.hp) (.blk e ti.zero)],[],[]⟩:=by
 intro B N E a w ff hf _ st _ agh _ K' Q hK
 obtain ⟨z,hz,hr,h1⟩:=(hc.ti hl).zero E w
 have hfresh : hf (lenN σ.hp) = .fresh:=by
  have:=agh.efs _ (List.mem_singleton.2 rfl)
  simp only [AgE,hfOf,nth_eq,lenN_eq] at this
  rw [lenN_eq,this]; simp
 obtain ⟨E',hx,hb,hh,hβ⟩:=new_blk st hfresh (ty:=e) hr h1
 unfold Oper.wp
 have : (execOp a.eval o).run P w = .ok (.value (.pointer (some ⟨w.heap.size,0,none⟩))) (w.alloc (.cells z.cells e)):=by
  simp [execOp,ho,Instr.alloc,hz,newVar,newRow,newObj,Sem.run]
 rw [this]
 exact hK _ _ E' hx hb hh (.ptr hβ rfl)
theorem local_box {e : TypeId} {x : Operand} {v : SV} (ho : o.op = .box e x) (hv : rd cx σ T x = some v) (h1 : onesB v.cells = true) :
  Local P cx.gl σ T o ⟨.ptr (lenN σ.hp) 0,[.put (lenN σ.hp) (.blk e v.cells)],[],[]⟩:=by
 intro B N E a w ff hf hg st ag agh hT K' Q hK
 have hr:=rd_sound hv hg st (ag_of ag (by simp [ho,Op.operands])) hT
 have hc:=cells_of h1 hr
 have hfresh : hf (lenN σ.hp) = .fresh:=by
  have:=agh.efs _ (List.mem_singleton.2 rfl)
  simp only [AgE,hfOf,nth_eq,lenN_eq] at this
  rw [lenN_eq,this]; simp
 obtain ⟨E',hx,hb,hh,hβ⟩:=new_blk st hfresh (ty:=e) hc (ones_of h1 hc)
 unfold Oper.wp
 have : (execOp a.eval o).run P w = .ok (.value (.pointer (some ⟨w.heap.size,0,none⟩))) (w.alloc (.cells (a.eval x).cells e)):=by
  simp [execOp,ho,Instr.box,newVar,newRow,newObj,Sem.run]
 rw [this]
 exact hK _ _ E' hx hb hh (.ptr hβ rfl)
end
end Go.Sx
namespace Go.Sx
open Go
section
variable {P : Program} {cx : Cx} {σ : Sy} {T : List Nat} {o : Oper} {K : Out→Prop}
theorem add_lit (b off j : Nat) : (⟨b,off,none⟩ : Addr).add j = ⟨b,off + j,none⟩:=by
 unfold Addr.add; split<;>simp_all
theorem run_loadAt {t : Nat} {ti : TI} (h : TIok P t ti) {w : World} {b off : Nat} {vs : List Value} (hc : ∀ (j : Nat) (v : Value),vs[j]? = some v→w.cell? ⟨b,off + j,none⟩ = some v) (hn : vs.length = ti.size)
  {agg : Bool} (ha : agg = aggK ti.k) (h1 : agg = false→vs.length = 1) :
  (Instr.loadAt t (.pointer (some ⟨b,off,none⟩))).run P w = .ok (if agg then .agg ⟨vs⟩ else vs.headD undef) w:=by
 have hI:=h.isAgg w
 have hS:=h.sizeOf w
 subst ha
 simp only [Instr.loadAt,Instr.sureAddr,loadVar,Sem.run_bind,Sem.run_pure,Result.andThen_ok,hI]
 cases hk : aggK ti.k with
 | true =>
  rw [←hn] at hS
  have:=run_loadCells_list (P:=P) w ⟨b,off,none⟩ vs (fun j v hj=>by rw [add_lit]; exact hc j v hj)
  simp [hS,this]
 | false =>
  rw [hk] at h1
  match vs,h1 rfl,hc with
  | [v],_,hc =>
   have:=hc 0 v rfl
   simp only [Nat.add_zero] at this
   simp [run_load,this]
theorem pack_rel {E : Env} {w : World} {agg : Bool} {cs : List SV} {s : SV} {vs : List Value} (h : pack agg cs = some s) (hr : RelL E w cs vs) : (agg = false→vs.length = 1)∧Rel E w s (if agg then .agg ⟨vs⟩ else vs.headD undef):=by
 unfold pack at h
 cases agg with
 | true=>simp only [if_true,Option.some.injEq] at h; subst h; exact ⟨(fun e=>by cases e),hr.agg⟩
 | false =>
  simp only [Bool.false_eq_true,if_false] at h
  split at h
  ·rename_i c
   cases h
   match vs,hr with
   | [v],hr=>exact ⟨fun _=>rfl,hr.2 0 s v rfl rfl⟩
   | [],hr=>exact absurd hr.1 (by simp)
   | _ :: _ :: _,hr=>exact absurd hr.1 (by simp)
  ·cases h
theorem nth_hf {hp : List Hl} {h : Nat} {hl : Hl} (e : nth hp h = some hl) : hfOf hp h = hl:=by simp [hfOf,e]
theorem sub_RelL {E : Env} {w : World} {cs cs' : List SV} {C : List Value} {off n : Nat} (hr : RelL E w cs' C) (hl : cs'.length = cs.length) (hag : ∀ j,off≤j→j < off + n→cs'[j]? = cs[j]?) :
  RelL E w ((cs.drop off).take n) ((C.drop off).take n):=by
 refine ⟨by simp [←hr.1,hl],fun i s v h1 h2=>?_⟩
 rw [List.getElem?_take] at h1 h2
 split at h1
 ·rename_i hi
  rw [if_pos hi] at h2
  rw [List.getElem?_drop] at h1 h2
  exact hr.2 (off + i) s v (by rw [hag _ (by omega) (by omega)]; exact h1) h2
 ·cases h1
theorem HOk.blk_inv {E : Env} {w : World} {h : Nat} {ty : TypeId} {cs : List SV} (hk : HOk E w h (.blk ty cs)) : ∃ b C,E.β h = some b∧E.O b = some h∧w.heap[b]? = some (.cells C ty (0,0))∧RelL E w cs C.toList∧(∀ v∈C.toList,v.oneCell' = true)∧∀ o,¬ E.I b o:=by
 obtain ⟨b,C,h1,h2,h3,h4,h5,h6,h7⟩:=hk
 exact ⟨b,C,h1,h2,h3,⟨by simp [h4],fun i s v p q=>h5 i s v p (by simpa using q)⟩,fun v hv=>h6 v (by simpa using hv),h7⟩
theorem local_load_ptr (hc : CxOk P cx) {t : Nat} {x : Operand} (ho : o.op = .load t x) {h off n : Nat} {ty : TypeId} {cs : List SV} {s : SV} (hv : rd cx σ T x = some (.ptr h off)) (hn : size? cx t = some n)
  (hh : nth σ.hp h = some (.blk ty cs)) (hle : off + n≤cs.length) (hp : pack (isAgg? cx t) ((cs.drop off).take n) = some s) : Local P cx.gl σ T o ⟨s,[],[],[(h,off,n)]⟩:=by
 intro B N E a w ff hf hg st ag agh hT
 have hr:=rd_sound hv hg st (ag_of ag (by simp [ho,Op.operands])) hT
 obtain ⟨b,hb,hx⟩:=hr.ptr_inv
 obtain ⟨cs',e2,e3,e4⟩:=agh.rdc _ (List.mem_singleton.2 rfl) ty cs (nth_hf hh)
 have hk:=st.heap h
 rw [e2] at hk
 obtain ⟨b',C,k1,_,k3,k4,_,_⟩:=hk.blk_inv
 obtain rfl : b = b':=Option.some.inj (hb.symm.trans k1)
 obtain ⟨ti,hti,hsz⟩:=size?_ti hn
 have hsub:=sub_RelL (off:=off) (n:=n) k4 e3 e4
 obtain ⟨p1,p2⟩:=pack_rel hp hsub
 have hlen : ((C.toList.drop off).take n).length = n:=by rw [←hsub.1]; simp; omega
 have hrun:=run_loadAt (hc.ti hti) (w:=w) (b:=b) (off:=off) (vs:=(C.toList.drop off).take n) (fun j v hj=>by
  rw [List.getElem?_take] at hj
  split at hj
  ·rw [List.getElem?_drop] at hj
   rw [cell_of_row w b (off + j) C ty (0,0) k3]
   simpa using hj
  ·cases hj) (by rw [hlen,hsz]) (isAgg?_eq hti) p1
 exact yields_value st (by simp [execOp,ho,hx,hrun]) rfl p2
theorem RO.rptr_inv {I : Nat→Nat→Prop} {w : World} {cs : List SV} {v : Value} (h : RO I w (.rptr cs) v) : ∃ a,v = .pointer (some a)∧a.spot = none∧∃ g : Nat→Value,(∀ j,j < cs.length→(g j).oneCell' = true∧w.cell? ⟨a.block,a.off + j,none⟩ = some (g j)∧I a.block (a.off + j))∧
  ∀ (j : Nat) (s : SV),cs[j]? = some s→RO I w s (g j):=by
 cases h with
 | rptr g hs h1 hcell hrel=>exact ⟨_,rfl,hs,g,fun j hj=>⟨h1 j hj,hcell j hj⟩,hrel⟩
theorem Rel.rptr_inv {E : Env} {w : World} {cs : List SV} {v : Value} (h : Rel E w (.rptr cs) v) : RO E.I w (.rptr cs) v:=by
 cases h with
 | ro h=>exact h
theorem RelL_range {E : Env} {w : World} {cs : List SV} {n : Nat} {g : Nat→Value} (hle : n≤cs.length) (h : ∀ (j : Nat) (s : SV),cs[j]? = some s→RO E.I w s (g j)) : RelL E w (cs.take n) ((List.range n).map g):=by
 refine ⟨by simp; omega,fun i s v h1 h2=>?_⟩
 rw [List.getElem?_take] at h1
 split at h1
 ·rename_i hi
  have : v = g i:=by simp [hi] at h2; exact h2.symm
  subst this
  exact .ro (h i s h1)
 ·cases h1
theorem local_load_rptr (hc : CxOk P cx) {t : Nat} {x : Operand} (ho : o.op = .load t x) {n : Nat} {cs : List SV} {s : SV} (hv : rd cx σ T x = some (.rptr cs)) (hn : size? cx t = some n)
  (hle : n≤cs.length) (hp : pack (isAgg? cx t) (cs.take n) = some s) : Local P cx.gl σ T o ⟨s,[],[],[]⟩:=by
 intro B N E a w ff hf hg st ag agh hT
 have hr:=rd_sound hv hg st (ag_of ag (by simp [ho,Op.operands])) hT
 obtain ⟨ad,hx,hs,g,hcell,hrel⟩:=hr.rptr_inv.rptr_inv
 obtain ⟨b,off,sp⟩:=ad
 simp only at hs hcell
 subst hs
 obtain ⟨ti,hti,hsz⟩:=size?_ti hn
 have hsub:=RelL_range (E:=E) hle hrel
 obtain ⟨p1,p2⟩:=pack_rel hp hsub
 have hrun:=run_loadAt (hc.ti hti) (w:=w) (b:=b) (off:=off) (vs:=(List.range n).map g) (fun j v hj=>by
  by_cases hjn : j < n
  ·simp [hjn] at hj
   rw [(hcell j (by omega)).2.1,hj]
  ·simp [hjn] at hj) (by simp [hsz]) (isAgg?_eq hti) p1
 exact yields_value st (by simp [execOp,ho,hx,hrun]) rfl p2
theorem set_blk {B : Bs} {N : Nat} {E : Env} {a : Act} {w : World} {ff : Nat→SG} {hf : Nat→Hl} (st : St B N E a w ff hf) {h off b : Nat} {ty : TypeId} {cs vs : List SV} {C : Array Value} {us : List Value}
  (hh : hf h = .blk ty cs) (hβ : E.β h = some b) (hC : w.heap[b]? = some (.cells C ty (0,0))) (hr : RelL E w vs us) (h1 : ∀ v∈us,v.oneCell' = true) (hle : off + us.length≤C.size) {C' : Array Value} (hC' : C' = (C.toList.take off ++ us ++ C.toList.drop (off + us.length)).toArray) :
  Ext E w E (w.setRow b C')∧Base B E (w.setRow b C')∧(∀ k,HOk E (w.setRow b C') k (efF hf (.set h off vs) k)):=by
 have hb:=st.base
 have hk:=st.heap h
 rw [hh] at hk
 obtain ⟨b',C1,k1,k2,k3,k4,k5,k6⟩:=hk.blk_inv
 obtain rfl : b = b':=Option.some.inj (hβ.symm.trans k1)
 obtain ⟨rfl⟩ : C = C1:=by rw [hC] at k3; simpa using k3
 have hx : Ext E w E (w.setRow b C'):=⟨fun _ _ h=>h,fun _ _ h=>.inl h,fun _ _ h=>h,fun _ _ h=>h,fun _ _ h=>h,fun b2 o hi=>cell_setRow_other w b C' ⟨b2,o,none⟩ (fun e=>by subst e; exact k6 o hi)⟩
 have hX:=(hb.Obd b h k2).2
 refine ⟨hx,⟨hb.os,hb.tape,hb.output,by simpa using hb.size,?_,?_,?_,hb.Inew,?_,hb.β0⟩,fun k=>?_⟩
 ·intro b2 hlt hnX
  by_cases e : b2 = b
  ·subst e; rcases hX with hX | hX
   ·omega
   ·exact absurd hX hnX
  ·rw [setRow_other w b b2 C' e]; exact hb.old b2 hlt hnX
 ·intro b2 o hi
  obtain ⟨i1,i2⟩:=hb.I0 b2 o hi
  exact ⟨i1,by rw [hx.cell b2 o i1]; exact i2⟩
 ·intro b2 o hi; have:=hb.Ibd b2 o hi; simpa using this
 ·intro b2 k hO; have:=hb.Obd b2 k hO; simpa using this
 ·simp only [efF,hh]
  by_cases e : k = h
  ·subst e
   simp only [upd,if_pos]
   have hlen : C'.size = C.size:=by subst hC'; simp; omega
   have hul:=hr.1
   refine ⟨b,C',hβ,k2,setRow_heap w b C C' ty (0,0) hC,by rw [hlen,len_putN]; have:=k4.1; simp at this; omega,fun i s v p q=>?_,fun v hv=>?_,k6⟩
   ·have hcl : cs.length = C.size:=by have:=k4.1; simpa using this
    rw [get_putN vs cs off i (by omega)] at p
    have q : (C.toList.take off ++ us ++ C.toList.drop (off + us.length))[i]? = some v:=by subst hC'; simpa using q
    split at p
    ·rename_i e
     rw [List.append_assoc,List.getElem?_append_right (by simp; omega),List.getElem?_append_left (by simp; omega)] at q
     simp at q
     refine (hr.2 (i - off) s v p ?_).mono hx
     rw [←q]; congr 1; omega
    ·rename_i e
     have hq : C.toList[i]? = some v:=by
      by_cases hi : i < off
      ·rw [List.append_assoc,List.getElem?_append_left (by simp; omega),List.getElem?_take,if_pos hi] at q; exact q
      ·rw [List.getElem?_append_right (by simp; omega),List.getElem?_drop] at q
       rw [←q]; congr 1; simp; omega
     exact (k4.2 i s v p hq).mono hx
   ·have hv : v∈(C.toList.take off ++ us ++ C.toList.drop (off + us.length)):=by subst hC'; simpa using hv
    rw [List.mem_append,List.mem_append] at hv
    rcases hv with (hv | hv) | hv
    ·exact k5 v (List.mem_of_mem_take hv)
    ·exact h1 v hv
    ·exact k5 v (List.mem_of_mem_drop hv)
  ·simp only [upd,if_neg e]
   refine HOk.keep hx (st.heap k) rfl rfl rfl rfl fun b2 hO=>⟨hO,?_,fun _ h=>h⟩
   refine setRow_other w b b2 C' (fun e2=>?_)
   subst e2
   rw [k2] at hO
   exact e (Option.some.inj hO).symm
theorem local_store (hc : CxOk P cx) {t : Nat} {x y : Operand} (ho : o.op = .store t x y) {h off n : Nat} {ty : TypeId} {cs : List SV} {s : SV} (hv : rd cx σ T x = some (.ptr h off)) (hs : rdT cx σ T t y = some s) (hn : size? cx t = some n)
  (hh : nth σ.hp h = some (.blk ty cs)) (hl : s.cells.length = n) (hle : off + n≤cs.length) (h1 : onesB s.cells = true) : Local P cx.gl σ T o ⟨.tup [],[.set h off s.cells],[],[]⟩:=by
 intro B N E a w ff hf hg st ag agh hT K' Q hK
 have hr:=rd_sound hv hg st (ag_of ag (by simp [ho,Op.operands])) hT
 have hr2:=rdT_sound hs hg st (ag_of ag (by simp [ho,Op.operands])) hT
 obtain ⟨b,hb,hx⟩:=hr.ptr_inv
 obtain ⟨cs',e2,e3⟩:=agh.efs _ (List.mem_singleton.2 rfl) ty cs (nth_hf hh)
 have hk:=st.heap h
 rw [e2] at hk
 obtain ⟨b',C,k1,_,k3,k4,_,_⟩:=hk.blk_inv
 obtain rfl : b = b':=Option.some.inj (hb.symm.trans k1)
 obtain ⟨ti,hti,hsz⟩:=size?_ti hn
 have hcs:=cells_of h1 hr2
 have hone:=ones_of h1 hcs
 have hul : (a.eval y).cells.toList.length = n:=by rw [←hcs.1]; exact hl
 have hCs : cs'.length = C.size:=by have:=k4.1; simpa using this
 have hle' : off + (a.eval y).cells.toList.length≤C.size:=by rw [hul]; omega
 obtain ⟨x1,x2,x3⟩:=set_blk (h:=h) (off:=off) st e2 hb k3 hcs hone hle' rfl
 have hrun : (Instr.storeAt t (.pointer (some ⟨b,off,none⟩)) (a.eval y)).run P w = .ok () (w.setRow b (C.toList.take off ++ (a.eval y).cells.toList ++ C.toList.drop (off + (a.eval y).cells.toList.length)).toArray):=by
  have hS:=(hc.ti hti).sizeOf w
  have hsc:=run_storeCells_at P b off ty (a.eval y).cells.toList 0 C w k3 (by simpa using hle') hone
  have hne : ((a.eval y).cells.size≠ti.size) = False:=by
   have : (a.eval y).cells.size = ti.size:=by rw [hsz]; simpa using hul
   simp [this]
  simp only [Nat.add_zero] at hsc
  simp only [Instr.storeAt,Instr.sureAddr,storeVar,Sem.run_bind,Sem.run_pure,Result.andThen_ok,hS,hne,if_false,hsc]
 unfold Oper.wp
 have : (execOp a.eval o).run P w = .ok .skip (w.setRow b (C.toList.take off ++ (a.eval y).cells.toList ++ C.toList.drop (off + (a.eval y).cells.toList.length)).toArray):=by
  simp only [execOp,ho,hx,Sem.run_bind,hrun,Result.andThen_ok,Sem.run_pure]
 rw [this]
 exact hK undef _ E x1 x2 x3 (.tup rfl (by simp))
end
end Go.Sx
namespace Go.Sx
open Go
section
variable {P : Program} {cx : Cx} {σ : Sy} {T : List Nat} {o : Oper} {K : Out→Prop}
theorem field?_inv {t i fo ft : Nat} (h : field? cx t i = some (fo,ft)) : ∃ ti fs,look t cx.tt = some ti∧ti.k = .struct fs∧nth fs i = some (fo,ft):=by
 unfold field? at h
 split at h
 ·rename_i fs a b c hl; exact ⟨_,fs,hl,rfl,h⟩
 ·cases h
theorem run_fieldAt (hc : CxOk P cx) {t i fo ft m : Nat} (hf : field? cx t i = some (fo,ft)) (hn : size? cx ft = some (m + 1)) (w : World) (ad : Addr) :
  (Instr.fieldAt t (.pointer (some ad)) i).run P w = .ok (.pointer (some (ad.add fo))) w:=by
 obtain ⟨ti,fs,hl,hk,hi⟩:=field?_inv hf
 obtain ⟨fields,hu,he,_⟩:=(hc.ti hl).struct hk
 obtain ⟨f,hf1,hf2,hf3⟩:=fields_get he hi
 obtain ⟨fi,hfi,hsz⟩:=size?_ti hn
 have hS:=(hc.ti hfi).sizeOf w
 subst hf2 hf3
 simp [Instr.fieldAt,run_underlying hu,hf1,Instr.sureAddr,fieldPlace,hS,hsz]
theorem local_fieldAddr_ptr (hc : CxOk P cx) {t i fo ft m h off : Nat} {x : Operand} (ho : o.op = .fieldAddr t x i) (hv : rd cx σ T x = some (.ptr h off)) (hf : field? cx t i = some (fo,ft)) (hn : size? cx ft = some (m + 1)) :
  Local P cx.gl σ T o ⟨.ptr h (off + fo),[],[],[]⟩:=by
 intro B N E a w ff hf' hg st ag agh hT
 have hr:=rd_sound hv hg st (ag_of ag (by simp [ho,Op.operands])) hT
 obtain ⟨b,hb,hx⟩:=hr.ptr_inv
 refine yields_value st (v:=.pointer (some ⟨b,off + fo,none⟩)) ?_ rfl (.ptr hb rfl)
 simp [execOp,ho,hx,run_fieldAt hc hf hn,add_lit]
theorem add_block (ad : Addr) (n : Nat) : (ad.add n).block = ad.block:=by unfold Addr.add; split<;>rfl
theorem add_off (ad : Addr) (n : Nat) : (ad.add n).off = ad.off + n:=by unfold Addr.add; split<;>simp_all
theorem add_spot (ad : Addr) (n : Nat) (h : ad.spot = none) : (ad.add n).spot = none:=by unfold Addr.add; split<;>simp_all
theorem rptr_sub {I : Nat→Nat→Prop} {w : World} {cs : List SV} {ad : Addr} (h : RO I w (.rptr cs) (.pointer (some ad))) (fo m : Nat) : RO I w (.rptr ((cs.drop fo).take m)) (.pointer (some (ad.add fo))):=by
 obtain ⟨ad',e,hs,g,hcell,hrel⟩:=h.rptr_inv
 cases e
 refine .rptr (fun j=>g (fo + j)) (add_spot _ _ hs) (fun j hj=>?_) (fun j hj=>?_) (fun j s hj=>?_)
 ·simp at hj; exact (hcell (fo + j) (by omega)).1
 ·rw [add_block,add_off]
  simp at hj
  have:=(hcell (fo + j) (by omega)).2
  rw [Nat.add_assoc]
  exact this
 ·rw [List.getElem?_take] at hj
  split at hj
  ·rw [List.getElem?_drop] at hj; exact hrel (fo + j) s hj
  ·cases hj
theorem local_fieldAddr_rptr (hc : CxOk P cx) {t i fo ft m : Nat} {cs : List SV} {x : Operand} (ho : o.op = .fieldAddr t x i) (hv : rd cx σ T x = some (.rptr cs)) (hf : field? cx t i = some (fo,ft)) (hn : size? cx ft = some (m + 1)) :
  Local P cx.gl σ T o ⟨.rptr ((cs.drop fo).take (m + 1)),[],[],[]⟩:=by
 intro B N E a w ff hf' hg st ag agh hT
 have hr:=(rd_sound hv hg st (ag_of ag (by simp [ho,Op.operands])) hT).rptr_inv
 obtain ⟨ad,hx,_⟩:=hr.rptr_inv
 rw [hx] at hr
 refine yields_value st (v:=.pointer (some (ad.add fo))) ?_ rfl (.ro (rptr_sub hr fo (m + 1)))
 simp [execOp,ho,hx,run_fieldAt hc hf hn]
theorem run_part {t m fo : Nat} {ti : TI} (h : TIok P t ti) (hsz : ti.size = m) {w : World} {vs : List Value} (p1 : aggK ti.k = false→((vs.drop fo).take m).length = 1) :
  (part t ⟨vs⟩ fo).run P w = .ok (if aggK ti.k then .agg ⟨(vs.drop fo).take m⟩ else ((vs.drop fo).take m).headD undef) w:=by
 have hS:=h.sizeOf w
 have hA:=h.isAgg w
 simp only [part,Sem.run_bind,hA,Result.andThen_ok]
 cases hk2 : aggK ti.k with
 | true =>
  simp only [if_true,Sem.run_bind,hS,Result.andThen_ok,Sem.run_pure,hsz]
  congr 2
  apply Array.ext'
  simp
 | false =>
  have h1:=p1 hk2
  have hm : vs[fo]? = some (((vs.drop fo).take m).headD undef):=by
   match h3 : (vs.drop fo).take m,h1 with
   | [v],_ =>
    have : ((vs.drop fo).take m)[0]? = some v:=by rw [h3]; rfl
    rw [List.getElem?_take] at this
    split at this
    ·rw [List.getElem?_drop] at this; simpa using this
    ·cases this
  simp [hm]
theorem local_field (hc : CxOk P cx) {t i fo ft m : Nat} {cs : List SV} {x : Operand} {s : SV} (ho : o.op = .field t x i) (hv : rd cx σ T x = some (.agg cs)) (hf : field? cx t i = some (fo,ft)) (hn : size? cx ft = some m)
  (hle : fo + m≤cs.length) (hp : pack (isAgg? cx ft) ((cs.drop fo).take m) = some s) : Local P cx.gl σ T o ⟨s,[],[],[]⟩:=by
 intro B N E a w ff hf' hg st ag agh hT
 have hr:=rd_sound hv hg st (ag_of ag (by simp [ho,Op.operands])) hT
 obtain ⟨vs,hx,hl⟩:=hr.agg_inv
 obtain ⟨ti,fs,hti,hk,hi⟩:=field?_inv hf
 obtain ⟨fields,hu,he,_⟩:=(hc.ti hti).struct hk
 obtain ⟨f,hf1,hf2,hf3⟩:=fields_get he hi
 obtain ⟨fi,hfi,hsz⟩:=size?_ti hn
 have hsub:=(hl.drop fo).take m
 obtain ⟨p1,p2⟩:=pack_rel hp hsub
 rw [isAgg?_eq hfi] at p1 p2
 refine yields_value st ?_ rfl p2
 subst hf2 hf3
 have hpart:=run_part (hc.ti hfi) hsz (w:=w) (vs:=vs) (fo:=f.offset) p1
 simp [execOp,ho,hx,Instr.field,run_underlying hu,hf1,asAgg,hpart]
theorem RO.sl_inv {I : Nat→Nat→Prop} {w : World} {nl : BT} {n : ST} {sz : Nat} {f : Nat→List SV} {v : Value} (h : RO I w (.sl nl n sz f) v) :
  (v = .slice none 0 0∧n.den = 0∧nl.den = true)∨∃ (a : Addr) (m cap : Nat) (g : Nat→Nat→Value),v = .slice (some a) m cap∧nl.den = false∧n.den = (m : Int)∧m≤cap∧cap≤maxLen∧(0 < m→a.spot = none)∧
   (∀ i,i < m→(f i).length = sz)∧(∀ i j,i < m→j < sz→(g i j).oneCell' = true)∧(∀ i j,i < m→j < sz→w.cell? ⟨a.block,a.off + (i * sz + j),none⟩ = some (g i j)∧I a.block (a.off + (i * sz + j)))∧(∀ (i j : Nat) (s : SV),i < m→(f i)[j]? = some s→RO I w s (g i j)):=by
 cases h with
 | slnil h hn=>exact .inl ⟨rfl,hn,h⟩
 | sl g h hn hc hcm hs hl h1 hcell hrel=>exact .inr ⟨_,_,_,g,rfl,h,hn,hc,hcm,hs,hl,h1,hcell,hrel⟩
theorem Rel.sl_inv {E : Env} {w : World} {nl : BT} {n : ST} {sz : Nat} {f : Nat→List SV} {v : Value} (h : Rel E w (.sl nl n sz f) v) : RO E.I w (.sl nl n sz f) v:=by
 cases h with
 | ro h=>exact h
theorem Rel.gsl_inv {E : Env} {w : World} {nl : BT} {n : ST} {sz : Nat} {f : Nat→List SV} {h : Nat} {v : Value} (hr : Rel E w (.gsl nl n sz f h) v) : RO E.I w (.sl nl n sz f) v∧tokOk E h n.den v:=by
 cases hr with
 | ro h=>cases h
 | gsl hr ht=>exact ⟨hr,ht⟩
theorem run_indexAt_sl (hc : CxOk P cx) {t e sz : Nat} {ti : TI} (hl : look t cx.tt = some ti) (hk : ti.k = .slice e) (hn : size? cx e = some sz) {w : World} {a : Addr} {m cap : Nat} {k : IntKind} {i : Int} (h0 : 0≤i) (h1 : i < m) :
  (Instr.indexAt t (.slice (some a) m cap) (.int k i)).run P w = .ok (.pointer (some (a.add (i.toNat * sz)))) w:=by
 have hu:=(hc.ti hl).slice hk
 obtain ⟨te,hte,hsz⟩:=size?_ti hn
 have hS:=(hc.ti hte).sizeOf w
 simp [Instr.indexAt,run_underlying hu,asIntOf,h0,h1,hS,hsz]
theorem sl_elem {I : Nat→Nat→Prop} {w : World} {f : Nat→List SV} {sz m : Nat} {a : Addr} {g : Nat→Nat→Value} (hs : 0 < m→a.spot = none) (hl : ∀ i,i < m→(f i).length = sz) (h1 : ∀ i j,i < m→j < sz→(g i j).oneCell' = true)
  (hcell : ∀ i j,i < m→j < sz→w.cell? ⟨a.block,a.off + (i * sz + j),none⟩ = some (g i j)∧I a.block (a.off + (i * sz + j))) (hrel : ∀ (i j : Nat) (s : SV),i < m→(f i)[j]? = some s→RO I w s (g i j)) {j : Nat} (hj : j < m) :
  RO I w (.rptr (f j)) (.pointer (some (a.add (j * sz)))):=by
 refine .rptr (g j) (add_spot _ _ (hs (by omega))) (fun q hq=>h1 j q hj (by rw [hl j hj] at hq; exact hq)) (fun q hq=>?_) (fun q s hq=>hrel j q s hj hq)
 rw [add_block,add_off,Nat.add_assoc]
 exact hcell j q hj (by rw [hl j hj] at hq; exact hq)
theorem local_index_sl (hc : CxOk P cx) {t e sz : Nat} {ti : TI} (hl : look t cx.tt = some ti) (hk : ti.k = .slice e) (hn : size? cx e = some sz) {x y : Operand} (ho : o.op = .indexAddr t x y) {nl : BT} {n : ST} {f : Nat→List SV} {k : IntKind} {i : ST}
  (hv : rd cx σ T x = some (.sl nl n sz f)∨∃ h,rd cx σ T x = some (.gsl nl n sz f h)) (hi : rd cx σ T y = some (.int k i)) (h1 : allT (condsOf σ.gm T)→0≤i.den∧i.den < n.den) : Local P cx.gl σ T o ⟨.rptr (f i.den.toNat),[],[],[]⟩:=by
 intro B N E a w ff hf' hg st ag agh hT
 have hx : RO E.I w (.sl nl n sz f) (a.eval x):=by
  rcases hv with hv | ⟨h,hv⟩
  ·exact (rd_sound hv hg st (ag_of ag (by simp [ho,Op.operands])) hT).sl_inv
  ·exact (rd_sound hv hg st (ag_of ag (by simp [ho,Op.operands])) hT).gsl_inv.1
 have hy:=(rd_sound hi hg st (ag_of ag (by simp [ho,Op.operands])) hT).int_inv
 obtain ⟨b1,b2⟩:=h1 hT
 rcases hx.sl_inv with ⟨_,e0,_⟩ | ⟨ad,m,cap,g,e0,_,e2,_,_,e4,e5,e5',e6,e7⟩
 ·omega
 ·have hj : i.den.toNat < m:=by omega
  refine yields_value st (v:=.pointer (some (ad.add (i.den.toNat * sz)))) ?_ rfl (.ro (sl_elem e4 e5 e5' e6 e7 hj))
  have hrun:=run_indexAt_sl hc hl hk hn (w:=w) (a:=ad) (m:=m) (cap:=cap) (k:=k) b1 (show i.den < (m : Int) by omega)
  simp [execOp,ho,e0,hy,hrun]
theorem local_index_arr (hc : CxOk P cx) {t e sz n : Nat} {ti : TI} (hl : look t cx.tt = some ti) (hk : ti.k = .array n e) (hn : size? cx e = some sz) {x y : Operand} (ho : o.op = .indexAddr t x y) {f : Nat→List SV} {k : IntKind} {i : ST}
  (hv : rd cx σ T x = some (.rarr n sz f)) (hi : rd cx σ T y = some (.int k i)) (h1 : allT (condsOf σ.gm T)→0≤i.den∧i.den < n) : Local P cx.gl σ T o ⟨.rptr (f i.den.toNat),[],[],[]⟩:=by
 intro B N E a w ff hf' hg st ag agh hT
 have hx:=rd_sound hv hg st (ag_of ag (by simp [ho,Op.operands])) hT
 have hy:=(rd_sound hi hg st (ag_of ag (by simp [ho,Op.operands])) hT).int_inv
 obtain ⟨b1,b2⟩:=h1 hT
 have hx : RO E.I w (.rarr n sz f) (a.eval x):=by cases hx with | ro h=>exact h
 generalize hev : a.eval x = ev at hx
 cases hx with
 | rarr g hs hl2 h1' hcell hrel =>
  rename_i ad
  refine yields_value st (v:=.pointer (some (ad.add (i.den.toNat * sz)))) ?_ rfl (.ro (sl_elem (fun _=>hs) hl2 h1' hcell hrel (by omega)))
  have hu:=(hc.ti hl).array hk
  obtain ⟨te,hte,hsz⟩:=size?_ti hn
  have hS:=(hc.ti hte).sizeOf w
  simp [execOp,ho,hev,hy,Instr.indexAt,run_underlying hu,asIntOf,b1,b2,hS,hsz,Instr.sureAddr]
theorem local_extract {x : Operand} {i : Nat} (ho : o.op = .extract x i) {vs : List SV} {s : SV} (hv : rd cx σ T x = some (.tup vs)) (hs : nth vs i = some s) : Local P cx.gl σ T o ⟨s,[],[],[]⟩:=by
 intro B N E a w ff hf' hg st ag agh hT
 obtain ⟨us,hx,hl⟩:=(rd_sound hv hg st (ag_of ag (by simp [ho,Op.operands])) hT).tup_inv
 rw [nth_eq] at hs
 have hlt : i < us.length:=by rw [←hl.1]; exact (List.getElem?_eq_some_iff.1 hs).1
 refine yields_value st (v:=us[i]) ?_ rfl (hl.2 i s _ hs (List.getElem?_eq_getElem hlt))
 simp [execOp,ho,hx,Instr.extract,hlt]
theorem notT_den (b : BT) : (notT b).den = !b.den:=by unfold notT; split<;>rfl
theorem cmpT_den (op : BinOp) (x y : ST) : (cmpT op x y).den = cmpDen op x.den y.den:=by unfold cmpT; split<;>rfl
theorem binT_den (op : BinOp) (k : IntKind) (x y : ST) : (binT op k x y).den = binDen op k x.den y.den:=by unfold binT; split<;>rfl
theorem local_not {t : Nat} {x : Operand} (ho : o.op = .unOp .not t x) {b : BT} (hv : rd cx σ T x = some (.bool b)) : Local P cx.gl σ T o ⟨.bool (notT b),[],[],[]⟩:=by
 intro B N E a w ff hf' hg st ag agh hT
 have hx:=(rd_sound hv hg st (ag_of ag (by simp [ho,Op.operands])) hT).bool_inv
 refine yields_value st (v:=.bool (!b.den)) ?_ rfl (.bool (notT_den b))
 simp [execOp,ho,hx,Op.unary]
theorem local_neg {t : Nat} {x : Operand} (ho : o.op = .unOp .neg t x) {k : IntKind} {n : ST} (hv : rd cx σ T x = some (.int k n)) : Local P cx.gl σ T o ⟨.int k (binT .sub k (.l 0) n),[],[],[]⟩:=by
 intro B N E a w ff hf' hg st ag agh hT
 have hx:=(rd_sound hv hg st (ag_of ag (by simp [ho,Op.operands])) hT).int_inv
 refine yields_value st (v:=.int k (k.wrap (0 - n.den))) ?_ rfl (.int (binT_den _ _ _ _))
 simp [execOp,ho,hx,Op.unary,Op.intArith]
theorem run_len_any {t : Nat} {ti : TI} (hc : CxOk P cx) (hl : look t cx.tt = some ti) {e : TypeId} (hk : ti.k = .slice e) {w : World} {a : Option Addr} {m c : Nat} {ty : TypeId} :
  (Builtin.len_ #[t] ty #[.slice a m c]).run P w = .ok (.int .i64 m) w:=by
 have hu:=(hc.ti hl).slice hk
 simp [Builtin.len_,run_underlying hu,goInt]
theorem run_len_str {t : Nat} {ti : TI} (hc : CxOk P cx) (hl : look t cx.tt = some ti) (hk : ti.k = .string) {w : World} {s : ByteArray} {ty : TypeId} :
  (Builtin.len_ #[t] ty #[.string s]).run P w = .ok (.int .i64 s.size) w:=by
 obtain ⟨d,hd,hb⟩:=(hc.ti hl).und
 rw [hk] at hb
 cases d<;>simp only [kindB,Bool.false_eq_true] at hb
 simp [Builtin.len_,run_underlying hd,goInt]
theorem local_len_sl (hc : CxOk P cx) {c : Call} (ho : o.op = .call c) (hcal : c.callee = .builtin .len) {x : Operand} {t : Nat} {ti : TI} (hx : c.args.toList = [x]) (ht : c.argTypes.toList = [t]) (hl : look t cx.tt = some ti) {e : TypeId} (hk : ti.k = .slice e)
  {nl : BT} {n : ST} {sz : Nat} {f : Nat→List SV} (hv : rd cx σ T x = some (.sl nl n sz f)∨∃ h,rd cx σ T x = some (.gsl nl n sz f h)) : Local P cx.gl σ T o ⟨.int .i64 n,[],[],[]⟩:=by
 intro B N E a w ff hf' hg st ag agh hT
 have hmem : x∈o.op.operands.toList:=by simp [ho,Op.operands,Call.operands,hcal,hx]
 have hx' : RO E.I w (.sl nl n sz f) (a.eval x):=by
  rcases hv with hv | ⟨h,hv⟩
  ·exact (rd_sound hv hg st (ag_of ag hmem) hT).sl_inv
  ·exact (rd_sound hv hg st (ag_of ag hmem) hT).gsl_inv.1
 have e1 : c.args = #[x]:=Array.ext' (by simpa using hx)
 have e2 : c.argTypes = #[t]:=Array.ext' (by simpa using ht)
 have : ∃ a0 m c0,a.eval x = .slice a0 m c0∧n.den = (m : Int):=by
  rcases hx'.sl_inv with ⟨e0,e3,_⟩ | ⟨ad,m,cap,g,e0,_,e3,_⟩
  ·exact ⟨none,0,0,e0,by simpa using e3⟩
  ·exact ⟨_,m,cap,e0,e3⟩
 obtain ⟨a0,m,c0,e3,e4⟩:=this
 have hrun:=run_len_any hc hl hk (w:=w) (a:=a0) (m:=m) (c:=c0) (ty:=o.type)
 refine yields_value st (v:=.int .i64 m) ?_ rfl (.int e4)
 simp [execOp,ho,resolve,hcal,e1,e2,invoke,builtin,e3,hrun]
theorem local_len_str (hc : CxOk P cx) {c : Call} (ho : o.op = .call c) (hcal : c.callee = .builtin .len) {x : Operand} {t : Nat} {ti : TI} (hx : c.args.toList = [x]) (ht : c.argTypes.toList = [t]) (hl : look t cx.tt = some ti) (hk : ti.k = .string)
  {s : List UInt8} (hv : rd cx σ T x = some (.str s)) : Local P cx.gl σ T o ⟨.int .i64 (.len s),[],[],[]⟩:=by
 intro B N E a w ff hf' hg st ag agh hT
 have hmem : x∈o.op.operands.toList:=by simp [ho,Op.operands,Call.operands,hcal,hx]
 have hx':=(rd_sound hv hg st (ag_of ag hmem) hT).str_inv
 have e1 : c.args = #[x]:=Array.ext' (by simpa using hx)
 have e2 : c.argTypes = #[t]:=Array.ext' (by simpa using ht)
 have hrun:=run_len_str hc hl hk (w:=w) (s:=bytes s) (ty:=o.type)
 refine yields_value st (v:=.int .i64 s.length) ?_ rfl (.int rfl)
 have : (bytes s).size = s.length:=rfl
 simp [execOp,ho,resolve,hcal,e1,e2,invoke,builtin,hx',hrun,this]
theorem local_conv (hc : CxOk P cx) {src dst : Nat} {x : Operand} (ho : o.op = .convert src dst x) {ti tj : TI} (hl : look dst cx.tt = some ti) (hl' : look src cx.tt = some tj) {k k' : IntKind} (hk : ti.k = .int k) {n : ST} (hv : rd cx σ T x = some (.int k' n)) :
  Local P cx.gl σ T o ⟨.int k (.cv k n),[],[],[]⟩:=by
 intro B N E a w ff hf' hg st ag agh hT
 have hx:=(rd_sound hv hg st (ag_of ag (by simp [ho,Op.operands])) hT).int_inv
 have hu:=(hc.ti hl).int hk
 obtain ⟨d,hd,_⟩:=(hc.ti hl').und
 refine yields_value st (v:=.int k (k.wrap n.den)) ?_ rfl (.int rfl)
 simp [execOp,ho,hx,convert,run_underlying hu,run_underlying hd,Conv.intToInt]
theorem run_eqGuard_int {op : BinOp} {t : TypeId} {x y : Operand} {k k' : IntKind} {m n : Int} {w : World} : (eqGuard op t x y (.int k m) (.int k' n)).run P w = .ok () w:=by
 unfold eqGuard; cases op<;>rfl
theorem run_eqGuard_bool {op : BinOp} {t : TypeId} {x y : Operand} {m n : Bool} {w : World} : (eqGuard op t x y (.bool m) (.bool n)).run P w = .ok () w:=by
 unfold eqGuard; cases op<;>rfl
theorem run_eqGuard_str {op : BinOp} {t : TypeId} {x y : Operand} {m n : ByteArray} {w : World} : (eqGuard op t x y (.string m) (.string n)).run P w = .ok () w:=by
 unfold eqGuard; cases op<;>rfl
theorem local_bin {op : BinOp} {t u : TypeId} {x y : Operand} (ho : o.op = .binOp op t x y u) {sx sy s : SV} (hx : rd cx σ T x = some sx) (hy : rd cx σ T y = some sy)
  (hrun : ∀ (E : Env) (w : World) (vx vy : Value),allT (condsOf σ.gm T)→Rel E w sx vx→Rel E w sy vy→∃ v,(eqGuard op t x y vx vy).run P w = .ok () w∧(binOp op t vx vy).run P w = .ok v w∧Rel E w s v) : Local P cx.gl σ T o ⟨s,[],[],[]⟩:=by
 intro B N E a w ff hf' hg st ag agh hT
 have h1:=rd_sound hx hg st (ag_of ag (by simp [ho,Op.operands])) hT
 have h2:=rd_sound hy hg st (ag_of ag (by simp [ho,Op.operands])) hT
 obtain ⟨v,r1,r2,r3⟩:=hrun E w _ _ hT h1 h2
 refine yields_value st (v:=v) ?_ rfl r3
 simp [execOp,ho,r1,r2]
theorem str_eq {s t : List UInt8} : ((bytes s).toList == (bytes t).toList) = (s == t):=by
 have h : ∀ l : List UInt8,(bytes l).toList = l:=fun l=>by rw [Go.Lib.toList_data]; rfl
 rw [h,h]
end
end Go.Sx
namespace Go.Sx
open Go
section
variable {P : Program} {cx : Cx} {σ : Sy} {T : List Nat} {o : Oper} {K : Out→Prop}
theorem bin_int_arith {op : BinOp} (ha : arith op = true) {t : TypeId} {k : IntKind} {m n : Int} {w : World} : (binOp op t (.int k m) (.int k n)).run P w = .ok (.int k (binDen op k m n)) w:=by
 cases op<;>first | (simp [arith] at ha; done) | simp [binOp,Op.intArith,Op.intBits,binDen]
theorem bin_int_cmp {op : BinOp} (ha : isCmp op = true) {t : TypeId} {k : IntKind} {m n : Int} {w : World} : (binOp op t (.int k m) (.int k n)).run P w = .ok (.bool (cmpDen op m n)) w:=by
 cases op<;>first | (simp [isCmp] at ha; done) | simp [binOp,Op.intCmp,cmpDen]
theorem andT_den (x y : BT) : (andT x y).den = (x.den && y.den):=by
 unfold andT
 split
 ·simp [BT.den]
 ·simp [BT.den]
 ·rfl
def packV (agg : Bool) (vs : List Value) : Value:=if agg then .agg ⟨vs⟩ else vs.headD undef
theorem TIok.bool {t : Nat} {ti : TI} (h : TIok P t ti) (hk : ti.k = .bool) : P.underlying t = some .bool:=by
 obtain ⟨d,hd,hb⟩:=h.und
 rw [hk] at hb
 cases d<;>simp only [kindB,Bool.false_eq_true] at hb
 exact hd
theorem TIok.string {t : Nat} {ti : TI} (h : TIok P t ti) (hk : ti.k = .string) : P.underlying t = some .string:=by
 obtain ⟨d,hd,hb⟩:=h.und
 rw [hk] at hb
 cases d<;>simp only [kindB,Bool.false_eq_true] at hb
 exact hd
theorem RelL.one {E : Env} {w : World} {s : SV} {vs : List Value} (h : RelL E w [s] vs) : ∃ v,vs = [v]∧Rel E w s v:=by
 match vs,h with
 | [v],h=>exact ⟨v,rfl,h.2 0 s v rfl rfl⟩
 | [],h=>exact absurd h.1 (by simp)
 | _ :: _ :: _,h=>exact absurd h.1 (by simp)
theorem eqFs_run (hc : CxOk P cx) {g : TypeId→List SV→List SV→Option BT} {d : Nat} {E : Env} {w : World}
  (hg : ∀ (t : TypeId) (ti : TI) (xs ys : List SV) (b : BT) (X Y : List Value),look t cx.tt = some ti→g t xs ys = some b→RelL E w xs X→RelL E w ys Y→
   (aggK ti.k = false→X.length = 1∧Y.length = 1)∧(Op.equalIn d t (packV (aggK ti.k) X) (packV (aggK ti.k) Y)).run P w = .ok b.den w) {xs ys : List SV} {X Y : List Value} (hX : RelL E w xs X) (hY : RelL E w ys Y) :
  ∀ (fields : List Field) (b : BT),(∀ f∈fields,f.name≠"_")→eqFs cx g xs ys (fields.map fun f=>(f.offset,f.type)) = some b→(Op.eqFields d ⟨X⟩ ⟨Y⟩ fields).run P w = .ok b.den w
 | [],b,_,h=>by simp [eqFs] at h; subst h; rfl
 | f :: fields,b,hn,h=>by
  simp only [List.map_cons,eqFs] at h
  split at h
  ·rename_i m hm
   split at h
   ·rename_i b1 b2 h1 h2
    cases h
    obtain ⟨ti,hti,hsz⟩:=size?_ti hm
    rw [takeN_eq,dropN_eq,takeN_eq,dropN_eq] at h1
    have hX':=(hX.drop f.offset).take m
    have hY':=(hY.drop f.offset).take m
    obtain ⟨k1,k2⟩:=hg f.type ti _ _ b1 _ _ hti h1 hX' hY'
    have r1:=run_part (hc.ti hti) hsz (w:=w) (vs:=X) (fo:=f.offset) (fun e=>(k1 e).1)
    have r2:=run_part (hc.ti hti) hsz (w:=w) (vs:=Y) (fo:=f.offset) (fun e=>(k1 e).2)
    have ih:=eqFs_run hc hg hX hY fields b2 (fun f hf=>hn f (List.mem_cons_of_mem _ hf)) h2
    unfold packV at k2
    simp only [Op.eqFields,ne_eq,hn f (List.mem_cons_self ..),not_false_eq_true,if_true,Sem.run_bind,r1,r2,k2,Result.andThen_ok]
    rw [andT_den]
    cases b1.den<;>simp [ih]
   ·cases h
  ·cases h
theorem eqBT_run (hc : CxOk P cx) {E : Env} {w : World} : ∀ (n d : Nat),n≤d→∀ (t : TypeId) (ti : TI) (xs ys : List SV) (b : BT) (X Y : List Value),look t cx.tt = some ti→eqBT cx n t xs ys = some b→RelL E w xs X→RelL E w ys Y→
   (aggK ti.k = false→X.length = 1∧Y.length = 1)∧(Op.equalIn d t (packV (aggK ti.k) X) (packV (aggK ti.k) Y)).run P w = .ok b.den w
 | 0,_,_,_,_,_,_,_,_,_,_,h,_,_=>by simp [eqBT] at h
 | n + 1,0,hd,_,_,_,_,_,_,_,_,_,_,_=>by omega
 | n + 1,d + 1,hd,t,ti,xs,ys,b,X,Y,hl,h,hX,hY=>by
  simp only [eqBT,hl] at h
  split at h
  ·rename_i k a1 a2 a3 e
   cases e
   have hu:=(hc.ti hl).int rfl
   split at h
   ·split at h
    ·cases h
     obtain ⟨u,rfl,hu1⟩:=hX.one
     obtain ⟨v,rfl,hv1⟩:=hY.one
     refine ⟨fun _=>⟨rfl,rfl⟩,?_⟩
     rename_i e2
     subst e2
     rw [hu1.int_inv,hv1.int_inv]
     simp only [packV,aggK,cmpT_den,cmpDen]
     exact run_equalIn_int w d t _ k _ _ hu
    ·cases h
   ·cases h
  ·rename_i a1 a2 a3 e
   cases e
   have hu:=(hc.ti hl).bool rfl
   split at h
   ·cases h
    obtain ⟨u,rfl,hu1⟩:=hX.one
    obtain ⟨v,rfl,hv1⟩:=hY.one
    refine ⟨fun _=>⟨rfl,rfl⟩,?_⟩
    rw [hu1.bool_inv,hv1.bool_inv]
    simp only [packV,aggK]
    exact run_equalIn_bool' w d t _ _ hu
   ·cases h
  ·rename_i a1 a2 a3 e
   cases e
   have hu:=(hc.ti hl).string rfl
   split at h
   ·cases h
    obtain ⟨u,rfl,hu1⟩:=hX.one
    obtain ⟨v,rfl,hv1⟩:=hY.one
    refine ⟨fun _=>⟨rfl,rfl⟩,?_⟩
    rw [hu1.str_inv,hv1.str_inv]
    simp only [packV,aggK]
    refine (run_equalIn_string w d t _ _ hu).trans ?_
    rw [str_eq]
    rfl
   ·cases h
  ·rename_i fs a1 a2 a3 e
   cases e
   split at h
   ·rename_i hmem
    obtain ⟨e1,e2,e3⟩:=hc.eqs t ((hasN_iff _ _).1 hmem)
    obtain ⟨fields,hu,he,_⟩:=(hc.ti hl).struct rfl
    have hfo : P.fieldsOf t = fields:=by simp [Program.fieldsOf,hu]
    refine ⟨fun e=>by simp [aggK] at e,?_⟩
    simp only [packV,aggK,if_true]
    rw [run_equalIn_agg w d t ⟨X⟩ ⟨Y⟩ (by rw [hfo]; exact hu) e1]
    rw [hfo] at e3 ⊢
    rw [←he] at h
    exact eqFs_run hc (fun t ti xs ys b X Y a1 a2 a3 a4=>eqBT_run hc n d (by omega) t ti xs ys b X Y a1 a2 a3 a4) hX hY fields.toList b e3 h
   ·cases h
  ·cases h
theorem seqS_den (cx : Cx) (a b : List UInt8) : (seqS cx a b).den = (a == b):=by
 unfold seqS
 split<;>rfl
theorem nlOf_rel {E : Env} {w : World} {s : SV} {nl : BT} {v : Value} (h : nlOf s = some nl) (hr : Rel E w s v) : ∃ a m c,v = .slice a m c∧(nl.den = a.isNone):=by
 have key : ∀ (a : Option Addr),(nl.den = true↔a = none)→nl.den = a.isNone:=by
  intro a ha
  cases a with
  | none=>simpa using ha
  | some x=>simpa using ha
 have hsl : ∀ {n : ST} {sz : Nat} {f : Nat→List SV},RO E.I w (.sl nl n sz f) v→∃ a m c,v = .slice a m c∧(nl.den = a.isNone):=by
  intro n sz f hr
  cases hr with
  | slnil h hn=>exact ⟨none,0,0,rfl,h⟩
  | sl g h hn hc hcm hs hl h1 hcell hrel=>exact ⟨_,_,_,rfl,h⟩
 unfold nlOf at h
 split at h<;>simp only [Option.some.injEq,reduceCtorEq] at h
 ·subst h
  cases hr with
  | ro h=>exact hsl h
 ·subst h
  cases hr with
  | ro h=>cases h
  | gsl h _=>exact hsl h
 ·subst h
  obtain ⟨⟨a,m,c,e1,_,e2⟩,_⟩:=hr.osl_inv
  exact ⟨a,m,c,e1,key a e2⟩
 ·subst h
  obtain ⟨⟨a,m,c,e1,_,e2⟩,_⟩:=hr.vsl_inv
  exact ⟨a,m,c,e1,key a e2⟩
theorem run_eql_slice_nil {w : World} {t e : TypeId} (a : Option Addr) (n c : Nat) (h : P.underlying t = some (.slice e)) :
  (binOp .eql t (.slice a n c) (.slice none 0 0)).run P w = .ok (.bool a.isNone) w:=by
 have h : ∀ d : Nat,(Op.equalIn (d + 1) t (.slice a n c) (.slice none 0 0)).run P w = .ok a.isNone w:=fun d=>by
  cases a<;>simp [Op.equalIn,run_underlying h]
 simp only [binOp]
 simp [Op.equal,Op.maxDepth,h 9999]
theorem run_neq_slice_nil' {w : World} {t e : TypeId} (a : Option Addr) (n c : Nat) (h : P.underlying t = some (.slice e)) :
  (binOp .neq t (.slice a n c) (.slice none 0 0)).run P w = .ok (.bool (!a.isNone)) w:=by
 have h : ∀ d : Nat,(Op.equalIn (d + 1) t (.slice a n c) (.slice none 0 0)).run P w = .ok a.isNone w:=fun d=>by
  cases a<;>simp [Op.equalIn,run_underlying h]
 simp only [binOp]
 simp [Op.equal,Op.maxDepth,h 9999]
theorem run_eqGuard_slice {op : BinOp} {t : TypeId} {x y : Operand} {a : Option Addr} {n c n' c' : Nat} {w : World} : (eqGuard op t x y (.slice a n c) (.slice none n' c')).run P w = .ok () w:=by
 unfold eqGuard; cases op<;>rfl
theorem nilQ_sound (hc : CxOk P cx) {op : BinOp} {t u : TypeId} {x y : Operand} (ho : o.op = .binOp op t x y u) {sx : SV} {f : Nat→List SV} (hx : rd cx σ T x = some sx) (hy : rd cx σ T y = some (.sl (.l true) (.l 0) 0 f))
  {e : TypeId} {a1 a2 : Nat} {a3 : List SV} (hl : look t cx.tt = some ⟨.slice e,a1,a2,a3⟩) {nl : BT} (hn : nlOf sx = some nl) (h : nilQ op nl K) : ∃ r,K r∧Local P cx.gl σ T o r:=by
 have hu:=(hc.ti hl).slice rfl
 have hy0 : ∀ {E : Env} {w : World} {v : Value},Rel E w (.sl (.l true) (.l 0) 0 f) v→v = .slice none 0 0:=by
  intro E w v hr
  cases hr with
  | ro h=>cases h with
   | slnil=>rfl
   | sl g h=>cases h
 unfold nilQ at h
 split at h
 ·refine ⟨_,h,local_bin ho hx hy fun E w vx vy _ h1 h2=>?_⟩
  obtain ⟨a,m,c,rfl,e1⟩:=nlOf_rel hn h1
  rw [hy0 h2]
  exact ⟨_,run_eqGuard_slice,run_eql_slice_nil a m c hu,.bool e1⟩
 ·refine ⟨_,h,local_bin ho hx hy fun E w vx vy _ h1 h2=>?_⟩
  obtain ⟨a,m,c,rfl,e1⟩:=nlOf_rel hn h1
  rw [hy0 h2]
  exact ⟨_,run_eqGuard_slice,run_neq_slice_nil' a m c hu,.bool (by rw [notT_den,e1])⟩
 ·exact h.elim
theorem ifcOf_rel {E : Env} {w : World} {s : SV} {b : BT} {v : Value} (h : ifcOf s = some b) (hr : Rel E w s v) : (v = .nilIface∧b.den = true)∨((∃ t x,v = .iface t x)∧b.den = false):=by
 unfold ifcOf at h
 split at h<;>simp only [Option.some.injEq,reduceCtorEq] at h
 ·subst h
  cases hr with
  | ro h=>cases h with
   | ifc h=>exact h
 ·subst h
  cases hr with
  | ro h=>cases h with
   | raw h=>exact .inl ⟨h,rfl⟩
theorem TIok.iface {t : Nat} {ti : TI} (h : TIok P t ti) (hk : ti.k = .iface) : ∃ ms,P.underlying t = some (.interface ms):=by
 obtain ⟨d,hd,hb⟩:=h.und
 rw [hk] at hb
 cases d<;>simp only [kindB,Bool.false_eq_true] at hb
 exact ⟨_,hd⟩
theorem run_ifc_nil {w : World} {t : TypeId} {ms} {v : Value} {b : Bool} (h : P.underlying t = some (.interface ms)) (hv : (v = .nilIface∧b = true)∨((∃ t x,v = .iface t x)∧b = false)) (d : Nat) : (Op.equalIn (d + 1) t v .nilIface).run P w = .ok b w:=by
 rcases hv with ⟨rfl,rfl⟩ | ⟨⟨_,_,rfl⟩,rfl⟩<;>simp [Op.equalIn,run_underlying h]
theorem run_eqGuard_ifc {op : BinOp} {t : TypeId} {x : Operand} {c v : Value} {w : World} : (eqGuard op t x (.const c) v .nilIface).run P w = .ok () w:=by
 unfold eqGuard
 cases op<;>first | rfl | (cases v<;>simp)
theorem stepNil_sound (hc : CxOk P cx) {op : BinOp} {t u : TypeId} {x y : Operand} (ho : o.op = .binOp op t x y u) {sx sy : SV} (hx : rd cx σ T x = some sx) (hy : rd cx σ T y = some sy) (h : stepNil cx op t sx y K) : ∃ r,K r∧Local P cx.gl σ T o r:=by
 unfold stepNil at h
 split at h
 ·rename_i b a1 a2 a3 hb hl
  obtain ⟨ms,hu⟩:=(hc.ti hl).iface rfl
  have hy0 : ∀ {E : Env} {w : World} {v : Value},Rel E w sy v→v = .nilIface:=by
   intro E w v hr
   simp only [rd,ofConst,Option.some.injEq] at hy
   subst hy
   cases hr with
   | ro h=>cases h with
    | raw h=>exact h
  unfold nilQ at h
  split at h
  ·refine ⟨_,h,local_bin ho hx hy fun E w vx vy _ h1 h2=>?_⟩
   have hv:=ifcOf_rel hb h1
   rw [hy0 h2]
   refine ⟨.bool b.den,run_eqGuard_ifc,?_,.bool rfl⟩
   simp only [binOp]
   simp [Op.equal,Op.maxDepth,run_ifc_nil hu hv 9999]
  ·refine ⟨_,h,local_bin ho hx hy fun E w vx vy _ h1 h2=>?_⟩
   have hv:=ifcOf_rel hb h1
   rw [hy0 h2]
   refine ⟨.bool (!b.den),run_eqGuard_ifc,?_,.bool (notT_den b)⟩
   simp only [binOp]
   simp [Op.equal,Op.maxDepth,run_ifc_nil hu hv 9999]
  ·exact h.elim
 ·exact h.elim
theorem stepBin_sound (hc : CxOk P cx) {op : BinOp} {t u : TypeId} {x y : Operand} (ho : o.op = .binOp op t x y u) {sx sy : SV} (hx : rd cx σ T x = some sx) (hy : rd cx σ T y = some sy) (h : stepBin cx σ.gm T op t sx sy K) :
  ∃ r,K r∧Local P cx.gl σ T o r:=by
 unfold stepBin at h
 split at h
 ·rename_i k a k' b
  split at h
  ·rename_i har
   split at h
   ·rename_i hk
    subst hk
    refine ⟨_,h,local_bin ho hx hy fun E w vx vy _ h1 h2=>?_⟩
    rw [h1.int_inv,h2.int_inv]
    exact ⟨_,run_eqGuard_int,bin_int_arith har,.int (binT_den _ _ _ _)⟩
   ·exact h.elim
  ·split at h
   ·rename_i hcm
    split at h
    ·rename_i hk
     subst hk
     refine ⟨_,h,local_bin ho hx hy fun E w vx vy _ h1 h2=>?_⟩
     rw [h1.int_inv,h2.int_inv]
     exact ⟨_,run_eqGuard_int,bin_int_cmp hcm,.bool (cmpT_den _ _ _)⟩
    ·exact h.elim
   ·have hquo : ∀ (op' : BinOp),(op' = .quo∨op' = .rem)→op = op'→(if k = k' then Ob cx.D σ.gm T (NZ (cx.D.i b))∧out K (.int k (.bin op k a b)) else False)→∃ r,K r∧Local P cx.gl σ T o r:=by
     intro op' hop e hh
     split at hh
     ·rename_i hk
      subst hk
      obtain ⟨hob,hh⟩:=hh
      rw [hc.D,Ob_iff] at hob
      refine ⟨_,hh,local_bin ho hx hy fun E w vx vy hT h1 h2=>?_⟩
      rw [h1.int_inv,h2.int_inv]
      have hb : b.den≠0:=(hob hT).h
      refine ⟨.int k (binDen op k a.den b.den),run_eqGuard_int,?_,.int rfl⟩
      subst e
      rcases hop with rfl | rfl<;>simp [binOp,Op.intDiv,binDen,hb]
     ·exact hh.elim
    have hsh : ∀ (op' : BinOp),(op' = .shl∨op' = .shr)→op = op'→(Ob cx.D σ.gm T (NN (cx.D.i b))∧out K (.int k (.bin op k a b)))→∃ r,K r∧Local P cx.gl σ T o r:=by
     intro op' hop e hh
     obtain ⟨hob,hh⟩:=hh
     rw [hc.D,Ob_iff] at hob
     refine ⟨_,hh,local_bin ho hx hy fun E w vx vy hT h1 h2=>?_⟩
     rw [h1.int_inv,h2.int_inv]
     have hb : 0≤b.den:=(hob hT).h
     refine ⟨.int k (binDen op k a.den b.den),run_eqGuard_int,?_,.int rfl⟩
     have hb' : ¬ b.den < 0:=by omega
     subst e
     rcases hop with rfl | rfl<;>simp [binOp,Op.shift,binDen,hb']
    split at h
    ·exact hquo _ (.inl rfl) rfl h
    ·exact hquo _ (.inr rfl) rfl h
    ·exact hsh _ (.inl rfl) rfl h
    ·exact hsh _ (.inr rfl) rfl h
    ·exact h.elim
 ·rename_i a b
  split at h
  ·rename_i a1 a2 a3 hl
   have hu:=(hc.ti hl).bool rfl
   refine ⟨_,h,local_bin ho hx hy fun E w vx vy _ h1 h2=>?_⟩
   rw [h1.bool_inv,h2.bool_inv]
   refine ⟨.bool (a.den == b.den),run_eqGuard_bool,?_,.bool rfl⟩
   simp only [binOp,Op.equal,Op.maxDepth,Sem.run_bind,run_equalIn_bool' w 9999 t _ _ hu,Result.andThen_ok,Sem.run_pure]
  ·rename_i a1 a2 a3 hl
   have hu:=(hc.ti hl).bool rfl
   refine ⟨_,h,local_bin ho hx hy fun E w vx vy _ h1 h2=>?_⟩
   rw [h1.bool_inv,h2.bool_inv]
   refine ⟨.bool (!(a.den == b.den)),run_eqGuard_bool,?_,.bool rfl⟩
   simp only [binOp,Op.equal,Op.maxDepth,Sem.run_bind,run_equalIn_bool' w 9999 t _ _ hu,Result.andThen_ok,Sem.run_pure]
  ·exact h.elim
 ·rename_i a b
  split at h
  ·obtain ⟨hob,h⟩:=h
   rw [hc.D,Ob_iff] at hob
   refine ⟨_,h _ ⟨rfl⟩,local_bin ho hx hy fun E w vx vy hT h1 h2=>?_⟩
   rw [h1.str_inv,h2.str_inv]
   have hle:=(hob hT).h
   refine ⟨.string (bytes (a ++ b)),run_eqGuard_str,?_,.ro (.str rfl)⟩
   have hs : ∀ l : List UInt8,(bytes l).size = l.length:=fun _=>rfl
   have hmax : ¬ (IntKind.i64.max < ((a.length + b.length : Nat) : Int)):=by
    have : IntKind.i64.max = 9223372036854775807:=by decide
    omega
   have happ : bytes a ++ bytes b = bytes (a ++ b):=by
    apply ByteArray.ext
    rw [ByteArray.data_append]
    simp [bytes]
   simp only [binOp,Op.stringOp,hs,gt_iff_lt,hmax,if_false,happ,Sem.run_pure]
  ·refine ⟨_,h,local_bin ho hx hy fun E w vx vy _ h1 h2=>?_⟩
   rw [h1.str_inv,h2.str_inv]
   exact ⟨.bool (a == b),run_eqGuard_str,by simp only [binOp,Op.stringOp,str_eq,Sem.run_pure],.bool (seqS_den cx a b)⟩
  ·refine ⟨_,h,local_bin ho hx hy fun E w vx vy _ h1 h2=>?_⟩
   rw [h1.str_inv,h2.str_inv]
   exact ⟨.bool (!(a == b)),run_eqGuard_str,by simp only [binOp,Op.stringOp,str_eq,Sem.run_pure],.bool (by rw [notT_den,seqS_den])⟩
  ·exact h.elim
 ·rename_i a b
  have key : ∀ c,(hasN t cx.eqs && isAgg? cx t) = true→eqBT cx 8 t a b = some c→∀ (E : Env) (w : World) (vx vy : Value),Rel E w (.agg a) vx→Rel E w (.agg b) vy→
    ∃ X Y,vx = .agg ⟨X⟩∧vy = .agg ⟨Y⟩∧∀ (x y : Operand),(eqGuard op t x y vx vy).run P w = .ok () w∧(Op.equalIn 10000 t vx vy).run P w = .ok c.den w:=by
   intro c hag he E w vx vy h1 h2
   simp only [Bool.and_eq_true] at hag
   have : ∃ ti,look t cx.tt = some ti:=by
    cases hl : look t cx.tt with
    | none=>simp [eqBT,hl] at he
    | some ti=>exact ⟨ti,rfl⟩
   obtain ⟨ti,hl⟩:=this
   obtain ⟨X,rfl,hX⟩:=h1.agg_inv
   obtain ⟨Y,rfl,hY⟩:=h2.agg_inv
   obtain ⟨k1,k2⟩:=eqBT_run hc 8 10000 (by decide) t ti a b c X Y hl he hX hY
   rw [isAgg?_eq hl] at hag
   rw [hag.2] at k2
   exact ⟨X,Y,rfl,rfl,fun x y=>⟨run_eqGuard_agg w op t x y _ _ (hc.eqs t ((hasN_iff _ _).1 hag.1)).2.1,k2⟩⟩
  split at h
  ·rename_i c hag he
   refine ⟨_,h,local_bin ho hx hy fun E w vx vy _ h1 h2=>?_⟩
   obtain ⟨X,Y,rfl,rfl,hk⟩:=key c hag he E w vx vy h1 h2
   obtain ⟨g1,g2⟩:=hk x y
   refine ⟨.bool c.den,g1,?_,.bool rfl⟩
   rw [run_eql_struct,g2]; rfl
  ·rename_i c hag he
   refine ⟨_,h,local_bin ho hx hy fun E w vx vy _ h1 h2=>?_⟩
   obtain ⟨X,Y,rfl,rfl,hk⟩:=key c hag he E w vx vy h1 h2
   obtain ⟨g1,g2⟩:=hk x y
   refine ⟨.bool (!c.den),g1,?_,.bool (notT_den c)⟩
   rw [run_neq_struct,g2]; rfl
  ·exact h.elim
 ·skip
  split at h
  ·rename_i nl e a1 a2 a3 hn hl
   exact nilQ_sound hc ho hx hy hl hn h
  ·exact h.elim
 ·exact h.elim
end
end Go.Sx
namespace Go.Sx
open Go
section
variable {P : Program} {cx : Cx} {σ : Sy} {T : List Nat} {o : Oper} {K : Out→Prop}
theorem rdParts_sound {B : Bs} {N : Nat} {E : Env} {a : Act} {w : World} {ff : Nat→SG} {hf : Nat→Hl} (hg : glOk B cx.gl) (st : St B N E a w ff hf) (hT : allT (condsOf σ.gm T)) :
  ∀ (ps : List (Nat×Operand)) (vs : List (Nat×SV)),(∀ p∈ps,∀ s∈opSlots p.2,ff s = ffOf σ s)→rdParts cx σ T ps = some vs→vs.length = ps.length∧∀ (i : Nat) (p : Nat×SV) (q : Nat×Operand),vs[i]? = some p→ps[i]? = some q→p.1 = q.1∧Rel E w p.2 (a.eval q.2)
 | [],vs,_,h=>by simp [rdParts] at h; subst h; simp
 | (i,x) :: ps,vs,ag,h=>by
  simp only [rdParts] at h
  split at h
  ·rename_i v us hv hus
   cases h
   obtain ⟨h1,h2⟩:=rdParts_sound hg st hT ps us (fun p hp=>ag p (List.mem_cons_of_mem _ hp)) hus
   refine ⟨by simp [h1],fun j p q hp hq=>?_⟩
   cases j with
   | zero =>
    simp at hp hq
    subst hp hq
    exact ⟨rfl,rd_sound hv hg st (ag _ (List.mem_cons_self ..)) hT⟩
   | succ j=>simp at hp hq; exact h2 j p q hp hq
  ·cases h
theorem putRel {E : Env} {w : World} {cs vs : List SV} {C us : List Value} (h : RelL E w cs C) (hv : RelL E w vs us) (off : Nat) (hle : off + vs.length≤cs.length) : RelL E w (putN cs off vs) (putN C off us):=by
 refine ⟨by rw [len_putN,len_putN,h.1],fun i s v h1 h2=>?_⟩
 rw [get_putN _ _ _ _ hle] at h1
 rw [get_putN _ _ _ _ (by rw [←hv.1,←h.1]; exact hle)] at h2
 rw [←hv.1] at h2
 split at h1
 ·rename_i e
  rw [if_pos e] at h2
  exact hv.2 _ s v h1 h2
 ·rename_i e
  rw [if_neg e] at h2
  exact h.2 i s v h1 h2
theorem foldl_put : ∀ (us : List Value) (C : List Value) (off k : Nat),(us.zipIdx k).foldl (fun (cs : Array Value) (c : Value×Nat)=>cs.setIfInBounds (off + c.2) c.1) ⟨C⟩ = ⟨putN C (off + k) us⟩
 | [],C,off,k=>rfl
 | u :: us,C,off,k=>by
  simp only [List.zipIdx_cons,List.foldl_cons]
  have : (⟨C⟩ : Array Value).setIfInBounds (off + k) u = ⟨setN C (off + k) u⟩:=by rw [setN_eq]; simp
  rw [this,foldl_put us _ off (k + 1),putN]
  congr 1
theorem fill_step {place : Nat→Option (Nat×Nat)} {C : List Value} {i off n : Nat} {v : Value} {ps : List (Nat×Value)} (hp : place i = some (off,n)) (hn : v.cells.size = n) (hle : off + n≤C.length) :
  Instr.fill place ⟨C⟩ ((i,v) :: ps) = Instr.fill place ⟨putN C off v.cells.toList⟩ ps:=by
 have hf:=foldl_put v.cells.toList C off 0
 simp only [Nat.add_zero] at hf
 have hz : v.cells.zipIdx.foldl (fun (cs : Array Value) (c : Value×Nat)=>cs.setIfInBounds (off + c.2) c.1) ⟨C⟩ = ⟨putN C off v.cells.toList⟩:=by
  rw [←hf,←Array.foldl_toList]
  congr 1
  simp
 simp only [Instr.fill,hp]
 rw [if_neg (by simp; omega)]
 rw [←hz]
theorem fillP_sound (hc : CxOk P cx) {E : Env} {w : World} {t : Nat} {ti : TI} (hl : look t cx.tt = some ti) {place : Nat→Option (Nat×Nat)}
  (hplace : ∀ (i off n : Nat),(∃ fs ft,ti.k = .struct fs∧nth fs i = some (off,ft)∧size? cx ft = some n)∨(∃ m e,ti.k = .array m e∧size? cx e = some n∧off = i * n)→place i = some (off,n)) :
  ∀ (vs : List (Nat×SV)) (us : List (Nat×Value)) (cs cs' : List SV) (C : List Value),vs.length = us.length→(∀ (i : Nat) (p : Nat×SV) (q : Nat×Value),vs[i]? = some p→us[i]? = some q→p.1 = q.1∧Rel E w p.2 q.2)→(∀ p∈vs,onesB p.2.cells = true)→RelL E w cs C→
   fillP cx t cs vs = some cs'→∃ C',Instr.fill place ⟨C⟩ us = some ⟨C'⟩∧RelL E w cs' C'
 | [],us,cs,cs',C,hlen,_,_,hr,h=>by
  have : us = []:=List.eq_nil_of_length_eq_zero (by simpa using hlen.symm)
  subst this
  simp [fillP] at h
  subst h
  exact ⟨C,rfl,hr⟩
 | (i,v) :: vs,us,cs,cs',C,hlen,hrel,h1,hr,h=>by
  match us,hlen,hrel with
  | (i',u) :: us,hlen,hrel =>
   obtain ⟨e0,hvu⟩:=hrel 0 (i,v) (i',u) rfl rfl
   simp only at e0
   subst e0
   have hcells:=cells_of (h1 _ (List.mem_cons_self ..)) hvu
   simp only [fillP,hl] at h
   have fin : ∀ (off n : Nat),place i = some (off,n)→(lenN v.cells == n && Nat.ble (off + n) (lenN cs)) = true→fillP cx t (putN cs off v.cells) vs = some cs'→∃ C',Instr.fill place ⟨C⟩ ((i,u) :: us) = some ⟨C'⟩∧RelL E w cs' C':=by
    intro off n hp hb h
    simp only [Bool.and_eq_true,beq_iff_eq,Nat.ble_eq,lenN_eq] at hb
    obtain ⟨b1,b2⟩:=hb
    have hsz : u.cells.size = n:=by rw [←b1,hcells.1]; simp
    rw [fill_step hp hsz (by rw [←hr.1]; exact b2)]
    exact fillP_sound hc hl hplace vs us _ cs' _ (by simpa using hlen) (fun j p q a b=>hrel (j + 1) p q (by simpa using a) (by simpa using b)) (fun p hp=>h1 p (List.mem_cons_of_mem _ hp)) (putRel hr hcells off (by show off + v.cells.length≤cs.length; omega)) h
   split at h
   ·rename_i fs a1 a2 a3 e
    cases e
    split at h
    ·rename_i off ft hn
     split at h
     ·rename_i n hsz
      split at h
      ·rename_i hb
       exact fin off n (hplace i off n (.inl ⟨fs,ft,rfl,hn,hsz⟩)) hb h
      ·cases h
     ·cases h
    ·cases h
   ·rename_i m e a1 a2 a3 e2
    cases e2
    split at h
    ·rename_i n hsz
     split at h
     ·rename_i hb
      exact fin (i * n) n (hplace i _ n (.inr ⟨m,e,rfl,hsz,rfl⟩)) hb h
     ·cases h
    ·cases h
   ·cases h
theorem mapM_places {Q : Program} : ∀ (fs : List Field),(∀ f∈fs,∃ i,Q.info? f.type = some i)→∃ places : List (Nat×Nat),fs.mapM (fun (f : Field)=>(Q.info? f.type).map fun i=>(f.offset,i.size)) = some places∧∀ i : Nat,places[i]? = (fs[i]?).bind fun (f : Field)=>(Q.info? f.type).map fun j=>(f.offset,j.size)
 | [],_=>⟨[],by simp,by simp⟩
 | f :: fs,h=>by
  obtain ⟨i,hi⟩:=h f (List.mem_cons_self ..)
  obtain ⟨ps,h1,h2⟩:=mapM_places (Q:=Q) fs (fun f hf=>h f (List.mem_cons_of_mem _ hf))
  refine ⟨(f.offset,i.size) :: ps,by simp [List.mapM_cons,hi,h1],fun j=>?_⟩
  cases j with
  | zero=>simp [hi]
  | succ j=>simp [h2]
theorem onesP_get : ∀ {ps : List (Nat×SV)},onesP ps = true→∀ p∈ps,onesB p.2.cells = true
 | [],_,p,hp=>by cases hp
 | q :: ps,h,p,hp=>by
  simp only [onesP,Bool.and_eq_true] at h
  rcases List.mem_cons.1 hp with rfl | hp
  ·exact h.1
  ·exact onesP_get h.2 p hp
theorem local_build (hc : CxOk P cx) {t : Nat} {ps : Array (Nat×Operand)} (ho : o.op = .build t ps) {ti : TI} (hl : look t cx.tt = some ti) {vs : List (Nat×SV)} (hv : rdParts cx σ T ps.toList = some vs) (h1 : onesP vs = true) {cs : List SV}
  (hf : fillP cx t ti.zero vs = some cs) (hk : (∃ fs,ti.k = .struct fs)∨∃ n e,ti.k = .array n e) (hsz : ∀ e n,ti.k = .array n e→∃ m,size? cx e = some m) : Local P cx.gl σ T o ⟨.agg cs,[],[],[]⟩:=by
 intro B N E a w ff hf' hg st ag agh hT
 have hag : ∀ p∈ps.toList,∀ s∈opSlots p.2,ff s = ffOf σ s:=fun p hp=>ag_of ag (by simp only [ho,Op.operands]; simp; exact ⟨p.1,by simpa using hp⟩)
 obtain ⟨h2,h3⟩:=rdParts_sound hg st hT ps.toList vs hag hv
 obtain ⟨z,hz,hzr,_⟩:=(hc.ti hl).zero E w
 obtain ⟨i,z',hi,hsz1,_,hz',_⟩:=(hc.ti hl).info
 have hzz : z' = z:=by
  have : (zeroValue t).run P w = .ok z' w:=by simp [zeroValue,typeInfo,hi,hz']
  rw [hz] at this
  simpa using this.symm
 subst hzz
 have hus : ∀ (j : Nat) (p : Nat×SV) (q : Nat×Value),vs[j]? = some p→((ps.map fun (x : Nat×Operand)=>(x.1,a.eval x.2)).toList)[j]? = some q→p.1 = q.1∧Rel E w p.2 q.2:=by
  intro j p q hp hq
  rw [Array.toList_map,List.getElem?_map] at hq
  cases hpj : ps.toList[j]? with
  | none=>rw [hpj] at hq; cases hq
  | some x =>
   rw [hpj] at hq
   simp only [Option.map_some,Option.some.injEq] at hq
   subst hq
   exact h3 j p x hp hpj
 have fin : ∀ (place : Nat→Option (Nat×Nat)),(∀ (i off n : Nat),(∃ fs ft,ti.k = .struct fs∧nth fs i = some (off,ft)∧size? cx ft = some n)∨(∃ m e,ti.k = .array m e∧size? cx e = some n∧off = i * n)→place i = some (off,n))→
   (∀ us,P.built t us = Instr.fill place z'.cells us)→Yields P o ⟨.agg cs,[],[],[]⟩ B E a w hf':=by
  intro place hpl hb
  obtain ⟨C',c1,c2⟩:=fillP_sound hc hl hpl vs (ps.map fun (x : Nat×Operand)=>(x.1,a.eval x.2)).toList ti.zero cs z'.cells.toList (by simp [h2]) hus (onesP_get h1) hzr hf
  have hrun:=run_build (P:=P) w t (ps.map fun (x : Nat×Operand)=>(x.1,a.eval x.2)) ⟨C'⟩ (by rw [hb]; exact c1)
  refine yields_value st (v:=.agg ⟨C'⟩) ?_ rfl c2.agg
  simp only [execOp,ho,Sem.run_bind]
  rw [hrun]
  rfl
 rcases hk with ⟨fs,hk⟩ | ⟨n,e,hk⟩
 ·obtain ⟨fields,hu,he,hin⟩:=(hc.ti hl).struct hk
  obtain ⟨places,p1,p2⟩:=mapM_places (Q:=P) fields.toList hin
  refine fin (places.toArray[·]?) ?_ ?_
  ·rintro i off n (⟨fs',ft,k1,k2,k3⟩ | ⟨m,e,k1,_⟩)
   ·rw [hk] at k1
    cases k1
    obtain ⟨f,f1,f2,f3⟩:=fields_get he k2
    obtain ⟨fi,hfi,hs⟩:=size?_ti k3
    obtain ⟨ii,zz,hii,hs2,_⟩:=(hc.ti hfi).info
    simp only [List.getElem?_toArray]
    rw [p2 i,Array.getElem?_toList,f1]
    subst f3
    simp [hii,f2,hs2,hs]
   ·rw [hk] at k1; cases k1
  ·intro us
   simp only [Program.built,hi,hu,hz',p1]
 ·have hu:=(hc.ti hl).array hk
  obtain ⟨m,hm⟩:=hsz e n hk
  obtain ⟨te,hte,hs⟩:=size?_ti hm
  obtain ⟨ie,ze,hie,hs2,_⟩:=(hc.ti hte).info
  refine fin (fun i=>some (i * ie.size,ie.size)) ?_ ?_
  ·rintro i off n' (⟨fs',ft,k1,_⟩ | ⟨m',e',k1,k2,k3⟩)
   ·rw [hk] at k1; cases k1
   ·rw [hk] at k1
    cases k1
    rw [hm] at k2
    cases k2
    simp [k3,hs2,hs]
  ·intro us
   simp only [Program.built,hi,hu,hz',hie]
end
end Go.Sx
namespace Go.Sx
open Go
def FnGood (P : Program) (f : FuncId) : Prop:=∃ fn c,P.funcs[f]? = some fn∧fn.body = some c∧(fn.name == "runtime.NumGoroutine") = false
def CallsTo (P : Program) (gl : List (Nat×SV)) (f : FuncId) (as : List SV) (ls : List Hl) (r : SV) (ls' : List Hl) : Prop :=
 ∀ (B : Bs) (E : Env) (w : World) (vals : List Value),B.w0 = w→(∀ b o,E.I b o→B.I0 b o)→(∀ h,B.β0 h≠none∨B.τ0 h≠none∨B.ζ0 h≠none→h < ls.length)→Base B E w→glOk B gl→(∀ h,HOk E w h (hfOf ls h))→RelL E w as vals→
  Calls P f ⟨vals⟩ w fun e w'=>∃ v E',e = .returned v∧Base B E' w'∧(∀ h,h < ls'.length→HOk E' w' h (hfOf ls' h))∧Rel E' w' r v
def GoesTo (G : List Value→World→(Ending→World→Prop)→Prop) (gl : List (Nat×SV)) (as : List SV) (ls : List Hl) (r : SV) (ls' : List Hl) : Prop :=
 ∀ (B : Bs) (E : Env) (w : World) (vals : List Value),B.w0 = w→(∀ b o,E.I b o→B.I0 b o)→(∀ h,B.β0 h≠none∨B.τ0 h≠none∨B.ζ0 h≠none→h < ls.length)→Base B E w→glOk B gl→(∀ h,HOk E w h (hfOf ls h))→RelL E w as vals→
  G vals w fun e w'=>∃ v E',e = .returned v∧Base B E' w'∧(∀ h,h < ls'.length→HOk E' w' h (hfOf ls' h))∧Rel E' w' r v
def Fr (ro : Option Nat) : Fence:={ Fence.wide with round:=ro }
def YG (P : Program) (vals : List Value) (w : World) (R : Ending→World→Prop) : Prop :=
 ∃ l args r,vals = .func (.yield l) #[] #[] :: args∧w.heap[l]? = some (.loop r)∧args.length = r.params.size∧
  ∀ ro nn,RoundIn (Fr ro) nn P l r.fn ((r.params.zip (⟨args⟩ : Array Value)).foldl (fun tmps (t,a)=>tmps.setIfInBounds t a) r.tmps) r.assign r.body w R
def YOk (P : Program) (gl : List (Nat×SV)) (Y : FSpec) : Prop :=
 ∀ (as : List SV) (ls : List Hl) (K : SV→List Hl→Prop),Y dn as ls K→∃ r ls',K r ls'∧GoesTo (YG P) gl as ls r ls'
def FnOk (P : Program) (gl : List (Nat×SV)) (f : FuncId) (sp : FSpec) : Prop :=
 FnGood P f∧∀ (as : List SV) (ls : List Hl) (K : SV→List Hl→Prop),sp dn as ls K→∃ r ls',K r ls'∧CallsTo P gl f as ls r ls'
def fnOf (f : Nat) : Nat:=if Nat.blt f 1000000 then f else f - 1000000
def TabOk (P : Program) (gl : List (Nat×SV)) (tab : List (Nat×FSpec)) : Prop:=∀ x∈tab,FnOk P gl (fnOf x.1) x.2
structure RgOk (P : Program) (cx : Cx) : Prop where
 its : ∀ x∈cx.its,∀ Y,YOk P cx.gl Y→FnOk P cx.gl x.1 (x.2 Y)
 yl : ∀ Y∈cx.yl,YOk P cx.gl Y
theorem TabOk.look {P : Program} {gl : List (Nat×SV)} : ∀ {tab : List (Nat×FSpec)} {f : Nat} {sp : FSpec},TabOk P gl tab→Sx.look f tab = some sp→FnOk P gl (fnOf f) sp
 | [],_,_,_,h=>by simp [Sx.look] at h
 | (g,sq) :: tab,f,sp,ht,h=>by
  simp only [Sx.look] at h
  split at h
  ·rename_i e
   have e : g = f:=by simpa using e
   subst e
   simp only [Option.some.injEq] at h
   subst h
   exact ht _ (List.mem_cons_self ..)
  ·exact TabOk.look (fun x hx=>ht x (List.mem_cons_of_mem _ hx)) h
theorem plainL_iff : ∀ (cs : List SV),plainV.plainL cs = true↔∀ c∈cs,plainV c = true
 | []=>by simp [plainV.plainL]
 | c :: cs=>by simp [plainV.plainL,plainL_iff cs]
theorem Rel.plain {E E' : Env} {w : World} {s : SV} {v : Value} (h : Rel E w s v) (hI : E'.I = E.I) (hp : plainV s = true) : Rel E' w s v:=by
 induction h with
 | ro h=>exact .ro (by rw [hI]; exact h)
 | ptr hb hv=>simp [plainV] at hp
 | gsl hr ht=>simp [plainV] at hp
 | mrow hb hm hv=>simp [plainV] at hp
 | mptr hb hz hv=>simp [plainV] at hp
 | osl ht hk=>simp [plainV] at hp
 | optr hv ho=>simp [plainV] at hp
 | mapv hb hv=>simp [plainV] at hp
 | yv hb hv=>simp [plainV] at hp
 | vsl ht hk=>simp [plainV] at hp
 | tsl ht hk=>simp [plainV] at hp
 | agg hl _ ih =>
  refine .agg hl fun i s v h1 h2=>ih i s v h1 h2 ?_
  simp only [plainV] at hp
  exact (plainL_iff _).1 hp s (List.mem_of_getElem? h1)
 | tup hl _ ih =>
  refine .tup hl fun i s v h1 h2=>ih i s v h1 h2 ?_
  simp only [plainV] at hp
  exact (plainL_iff _).1 hp s (List.mem_of_getElem? h1)
 | clo hl _=>simp [plainV] at hp
theorem normL_eq (D : Dn) : ∀ (cs : List SV),norm.normL D cs = cs.map (norm D)
 | []=>rfl
 | c :: cs=>by simp [norm.normL,normL_eq D cs]
theorem looseL_eq : ∀ (cs : List SV),loose.looseL cs = cs.map loose
 | []=>rfl
 | c :: cs=>by simp [loose.looseL,looseL_eq cs]
theorem RO.norm {I : Nat→Nat→Prop} {w : World} {s : SV} {v : Value} (h : RO I w s v) : RO I w (norm dn s) v:=by
 induction h with
 | int h=>exact .int h
 | bool h=>exact .bool h
 | str h=>exact .str h
 | nilp=>exact .nilp
 | raw h=>exact .raw h
 | fn h=>exact .fn h
 | ifc h=>exact .ifc h
 | slnil h hn=>exact .slnil h hn
 | sl g h hn hc hcm hs hl h1 hcell hrel _=>exact .sl g h hn hc hcm hs hl h1 hcell hrel
 | rptr g hs h1 hcell hrel _=>exact .rptr g hs h1 hcell hrel
 | rarr g hs hl h1 hcell hrel _=>exact .rarr g hs hl h1 hcell hrel
 | agg hl h ih =>
  simp only [Sx.norm,normL_eq]
  refine .agg (by simp [hl]) fun i s v h1 h2=>?_
  rw [List.getElem?_map] at h1
  cases e : (‹List SV›)[i]? with
  | none=>rw [e] at h1; cases h1
  | some s'=>rw [e] at h1; cases h1; exact ih i s' v e h2
theorem Rel.norm {E : Env} {w : World} {s : SV} {v : Value} (h : Rel E w s v) : Rel E w (norm dn s) v:=by
 induction h with
 | ro h=>exact .ro h.norm
 | ptr hb hv=>exact .ptr hb hv
 | gsl hr ht=>exact .gsl hr.norm ht
 | mrow hb hm hv=>exact .mrow hb hm hv
 | mptr hb hz hv=>exact .mptr hb hz hv
 | osl ht hk=>exact .osl ht hk
 | optr hv ho=>exact .optr hv ho
 | mapv hb hv=>exact .mapv hb hv
 | yv hb hv=>exact .yv hb hv
 | vsl ht hk=>exact .vsl ht hk
 | tsl ht hk=>exact .tsl ht hk
 | agg hl _ ih =>
  simp only [Sx.norm,normL_eq]
  refine .agg (by simp [hl]) fun i s v h1 h2=>?_
  rw [List.getElem?_map] at h1
  cases e : (‹List SV›)[i]? with
  | none=>rw [e] at h1; cases h1
  | some s'=>rw [e] at h1; cases h1; exact ih i s' v e h2
 | tup hl _ ih =>
  simp only [Sx.norm,normL_eq]
  refine .tup (by simp [hl]) fun i s v h1 h2=>?_
  rw [List.getElem?_map] at h1
  cases e : (‹List SV›)[i]? with
  | none=>rw [e] at h1; cases h1
  | some s'=>rw [e] at h1; cases h1; exact ih i s' v e h2
 | clo hl _ ih =>
  simp only [Sx.norm,normL_eq]
  refine .clo (by simp [hl]) fun i s v h1 h2=>?_
  rw [List.getElem?_map] at h1
  cases e : (‹List SV›)[i]? with
  | none=>rw [e] at h1; cases h1
  | some s'=>rw [e] at h1; cases h1; exact ih i s' v e h2
theorem RO.loose {I : Nat→Nat→Prop} {w : World} {s : SV} {v : Value} (h : RO I w s v) : RO I w (loose s) v:=by
 induction h with
 | int h=>exact .int h
 | bool h=>exact .bool h
 | str h=>exact .str h
 | nilp=>exact .nilp
 | raw h=>exact .raw h
 | fn h=>exact .fn h
 | ifc h=>exact .ifc h
 | slnil h hn=>exact .slnil h hn
 | sl g h hn hc hcm hs hl h1 hcell hrel _=>exact .sl g h hn hc hcm hs hl h1 hcell hrel
 | rptr g hs h1 hcell hrel _=>exact .rptr g hs h1 hcell hrel
 | rarr g hs hl h1 hcell hrel _=>exact .rarr g hs hl h1 hcell hrel
 | agg hl h ih =>
  simp only [Sx.loose,looseL_eq]
  refine .agg (by simp [hl]) fun i s v h1 h2=>?_
  rw [List.getElem?_map] at h1
  cases e : (‹List SV›)[i]? with
  | none=>rw [e] at h1; cases h1
  | some s'=>rw [e] at h1; cases h1; exact ih i s' v e h2
theorem Rel.loose {E : Env} {w : World} {s : SV} {v : Value} (h : Rel E w s v) : Rel E w (loose s) v:=by
 induction h with
 | ro h=>exact .ro h.loose
 | ptr hb hv=>exact .ptr hb hv
 | gsl hr ht=>exact .ro hr
 | mrow hb hm hv=>exact .mrow hb hm hv
 | mptr hb hz hv=>exact .mptr hb hz hv
 | osl ht hk=>exact .osl ht hk
 | optr hv ho=>exact .optr hv ho
 | mapv hb hv=>exact .mapv hb hv
 | yv hb hv=>exact .yv hb hv
 | vsl ht hk=>exact .vsl ht hk
 | tsl ht hk=>exact .tsl ht hk
 | agg hl _ ih =>
  simp only [Sx.loose,looseL_eq]
  refine .agg (by simp [hl]) fun i s v h1 h2=>?_
  rw [List.getElem?_map] at h1
  cases e : (‹List SV›)[i]? with
  | none=>rw [e] at h1; cases h1
  | some s'=>rw [e] at h1; cases h1; exact ih i s' v e h2
 | tup hl _ ih =>
  simp only [Sx.loose,looseL_eq]
  refine .tup (by simp [hl]) fun i s v h1 h2=>?_
  rw [List.getElem?_map] at h1
  cases e : (‹List SV›)[i]? with
  | none=>rw [e] at h1; cases h1
  | some s'=>rw [e] at h1; cases h1; exact ih i s' v e h2
 | clo hl _ ih =>
  simp only [Sx.loose,looseL_eq]
  refine .clo (by simp [hl]) fun i s v h1 h2=>?_
  rw [List.getElem?_map] at h1
  cases e : (‹List SV›)[i]? with
  | none=>rw [e] at h1; cases h1
  | some s'=>rw [e] at h1; cases h1; exact ih i s' v e h2
theorem RelL.map {E E' : Env} {w : World} {cs : List SV} {vs : List Value} (h : RelL E w cs vs) (g : SV→SV) (hg : ∀ s v,s∈cs→Rel E w s v→Rel E' w (g s) v) : RelL E' w (cs.map g) vs:=by
 refine ⟨by simp [h.1],fun i s v h1 h2=>?_⟩
 rw [List.getElem?_map] at h1
 cases e : cs[i]? with
 | none=>rw [e] at h1; cases h1
 | some s'=>rw [e] at h1; cases h1; exact hg s' v (List.mem_of_getElem? e) (h.2 i s' v e h2)
section
variable {P : Program} {cx : Cx} {σ : Sy} {T : List Nat} {o : Oper} {K : Out→Prop}
theorem capsOf_other (hp : List Hl) {v : SV} (hv : ∀ a b,v≠.ptr a b) {vs : List SV} {n : Nat} : capsOf hp (v :: vs) n = match plainV v,capsOf hp vs n with
  | true,some (as,hs,ls)=>some (v :: as,hs,ls)
  | _,_=>none:=by
 cases v<;>first | rfl | exact absurd rfl (hv _ _)
theorem capsOf_spec (hp : List Hl) : ∀ (vs : List SV) (n : Nat) (as : List SV) (hs : List Nat) (ls : List Hl),capsOf hp vs n = some (as,hs,ls)→
  hs.Nodup∧ls.length = hs.length∧(∀ (i h : Nat),hs[i]? = some h→∃ l,nth hp h = some l∧ls[i]? = some l∧(passP l || passO l) = true)∧
  ∀ (E E' : Env) (w : World) (us : List Value),E'.I = E.I→(∀ (i h : Nat),hs[i]? = some h→E'.β (n + i) = E.β h∧E'.τ (n + i) = E.τ h)→RelL E w vs us→RelL E' w as us
 | [],n,as,hs,ls,h=>by
  simp only [capsOf,Option.some.injEq,Prod.mk.injEq] at h
  obtain ⟨rfl,rfl,rfl⟩:=h
  exact ⟨List.nodup_nil,rfl,by simp,fun E E' w us _ _ hr=>⟨hr.1,by simp⟩⟩
 | v :: vs,n,as,hs,ls,h=>by
  have plainCase : ∀ as' ,plainV v = true→capsOf hp vs n = some (as',hs,ls)→as = v :: as'→hs.Nodup∧ls.length = hs.length∧(∀ (i h : Nat),hs[i]? = some h→∃ l,nth hp h = some l∧ls[i]? = some l∧(passP l || passO l) = true)∧
    ∀ (E E' : Env) (w : World) (us : List Value),E'.I = E.I→(∀ (i h : Nat),hs[i]? = some h→E'.β (n + i) = E.β h∧E'.τ (n + i) = E.τ h)→RelL E w (v :: vs) us→RelL E' w as us:=by
   intro as' hpl h e
   obtain ⟨h1,h2,h3,h4⟩:=capsOf_spec hp vs n as' hs ls h
   refine ⟨h1,h2,h3,fun E E' w us hI hβ hr=>?_⟩
   match us,hr with
   | u :: us,hr =>
    subst e
    exact .cons ((hr.2 0 v u rfl rfl).plain hI hpl) (h4 E E' w us hI hβ ⟨by have:=hr.1; simpa using this,fun i s v a b=>hr.2 (i + 1) s v a b⟩)
   | [],hr=>exact absurd hr.1 (by simp)
  by_cases hv : ∃ hd off,v = .ptr hd off
  ·obtain ⟨hd,off,rfl⟩:=hv
   simp only [capsOf] at h
   split at h
   ·rename_i l0 as' hs' ls' e1 e2
    split at h
    case isFalse=>cases h
    ·rename_i hn
     simp only [Bool.and_eq_true,Bool.not_eq_true'] at hn
     obtain ⟨hpp,hn⟩:=hn
     simp only [Option.some.injEq,Prod.mk.injEq] at h
     obtain ⟨rfl,rfl,rfl⟩:=h
     obtain ⟨h1,h2,h3,h4⟩:=capsOf_spec hp _ (n + 1) as' hs' ls' e2
     have hnm : hd ∉ hs':=fun hm=>by rw [(hasN_iff _ _).2 hm] at hn; cases hn
     refine ⟨List.nodup_cons.2 ⟨hnm,h1⟩,by simp [h2],fun i k hk=>?_,fun E E' w us hI hβ hr=>?_⟩
     ·cases i with
      | zero=>simp at hk; subst hk; exact ⟨l0,e1,rfl,by simp [hpp]⟩
      | succ i=>simp at hk; simpa using h3 i k hk
     ·match us,hr with
      | u :: us,hr =>
       obtain ⟨b,hb,hu⟩:=(hr.2 0 _ u rfl rfl).ptr_inv
       refine .cons (.ptr ?_ hu) (h4 E E' w us hI (fun i k hk=>?_) ⟨by have:=hr.1; simpa using this,fun i s v a b=>hr.2 (i + 1) s v a b⟩)
       ·have:=(hβ 0 hd rfl).1
        simp only [Nat.add_zero] at this
        rw [this]; exact hb
       ·have:=hβ (i + 1) k (by simpa using hk)
        rw [show n + 1 + i = n + (i + 1) by omega]; exact this
      | [],hr=>exact absurd hr.1 (by simp)
   ·cases h
  ·rw [capsOf_other hp (fun a b e=>hv ⟨a,b,e⟩)] at h
   split at h
   ·rename_i as' hs' ls' e1 e2
    simp only [Option.some.injEq,Prod.mk.injEq] at h
    obtain ⟨rfl,rfl,rfl⟩:=h
    exact plainCase as' e1 e2 rfl
   ·cases h
theorem apartN_iff : ∀ {l t : List Nat},apartN l t = true→∀ x∈l,x ∉ t
 | [],_,_,x,hx=>by simp at hx
 | y :: l,t,h,x,hx=>by
  simp only [apartN,Bool.and_eq_true,Bool.not_eq_true'] at h
  rcases List.mem_cons.1 hx with rfl | hx
  ·exact fun hm=>by rw [(hasN_iff _ _).2 hm] at h; exact absurd h.1 (by simp)
  ·exact apartN_iff h.2 x hx
theorem argsOf_other (hp : List Hl) {v : SV} (hv : ∀ a b,v≠.ptr a b) (hc : ∀ f cs,v≠.clo f cs) (ho : ∀ a b c,v≠.osl a b c) {vs : List SV} {n : Nat} : argsOf hp (v :: vs) n = match plainV v,argsOf hp vs n with
  | true,some (as,hs,ls)=>some (v :: as,hs,ls)
  | _,_=>none:=by
 cases v<;>first | rfl | exact absurd rfl (hv _ _) | exact absurd rfl (hc _ _) | exact absurd rfl (ho _ _ _)
theorem argsOf_spec (hp : List Hl) : ∀ (vs : List SV) (n : Nat) (as : List SV) (hs : List Nat) (ls : List Hl),argsOf hp vs n = some (as,hs,ls)→
  hs.Nodup∧ls.length = hs.length∧(∀ (i h : Nat),hs[i]? = some h→∃ l,nth hp h = some l∧ls[i]? = some l∧(passP l || passO l) = true)∧
  ∀ (E E' : Env) (w : World) (us : List Value),E'.I = E.I→(∀ (i h : Nat),hs[i]? = some h→E'.β (n + i) = E.β h∧E'.τ (n + i) = E.τ h)→RelL E w vs us→RelL E' w as us
 | [],n,as,hs,ls,h=>by
  simp only [argsOf,Option.some.injEq,Prod.mk.injEq] at h
  obtain ⟨rfl,rfl,rfl⟩:=h
  exact ⟨List.nodup_nil,rfl,by simp,fun E E' w us _ _ hr=>⟨hr.1,by simp⟩⟩
 | v :: vs,n,as,hs,ls,h=>by
  have plainCase : ∀ as' ,plainV v = true→argsOf hp vs n = some (as',hs,ls)→as = v :: as'→hs.Nodup∧ls.length = hs.length∧(∀ (i h : Nat),hs[i]? = some h→∃ l,nth hp h = some l∧ls[i]? = some l∧(passP l || passO l) = true)∧
    ∀ (E E' : Env) (w : World) (us : List Value),E'.I = E.I→(∀ (i h : Nat),hs[i]? = some h→E'.β (n + i) = E.β h∧E'.τ (n + i) = E.τ h)→RelL E w (v :: vs) us→RelL E' w as us:=by
   intro as' hpl h e
   obtain ⟨h1,h2,h3,h4⟩:=argsOf_spec hp vs n as' hs ls h
   refine ⟨h1,h2,h3,fun E E' w us hI hβ hr=>?_⟩
   match us,hr with
   | u :: us,hr =>
    subst e
    exact .cons ((hr.2 0 v u rfl rfl).plain hI hpl) (h4 E E' w us hI hβ ⟨by have:=hr.1; simpa using this,fun i s v a b=>hr.2 (i + 1) s v a b⟩)
   | [],hr=>exact absurd hr.1 (by simp)
  by_cases hv : ∃ hd off,v = .ptr hd off
  ·obtain ⟨hd,off,rfl⟩:=hv
   simp only [argsOf] at h
   split at h
   ·rename_i l0 as' hs' ls' e1 e2
    split at h
    case isFalse=>cases h
    ·rename_i hn
     simp only [Bool.and_eq_true,Bool.not_eq_true'] at hn
     obtain ⟨hpp,hn⟩:=hn
     simp only [Option.some.injEq,Prod.mk.injEq] at h
     obtain ⟨rfl,rfl,rfl⟩:=h
     obtain ⟨h1,h2,h3,h4⟩:=argsOf_spec hp _ (n + 1) as' hs' ls' e2
     have hnm : hd ∉ hs':=fun hm=>by rw [(hasN_iff _ _).2 hm] at hn; cases hn
     refine ⟨List.nodup_cons.2 ⟨hnm,h1⟩,by simp [h2],fun i k hk=>?_,fun E E' w us hI hβ hr=>?_⟩
     ·cases i with
      | zero=>simp at hk; subst hk; exact ⟨l0,e1,rfl,by simp [hpp]⟩
      | succ i=>simp at hk; simpa using h3 i k hk
     ·match us,hr with
      | u :: us,hr =>
       obtain ⟨b,hb,hu⟩:=(hr.2 0 _ u rfl rfl).ptr_inv
       refine .cons (.ptr ?_ hu) (h4 E E' w us hI (fun i k hk=>?_) ⟨by have:=hr.1; simpa using this,fun i s v a b=>hr.2 (i + 1) s v a b⟩)
       ·have:=(hβ 0 hd rfl).1
        simp only [Nat.add_zero] at this
        rw [this]; exact hb
       ·have:=hβ (i + 1) k (by simpa using hk)
        rw [show n + 1 + i = n + (i + 1) by omega]; exact this
      | [],hr=>exact absurd hr.1 (by simp)
   ·cases h
  ·by_cases hc : ∃ f cs,v = .clo f cs
   ·obtain ⟨f,cs,rfl⟩:=hc
    simp only [argsOf] at h
    split at h
    ·rename_i as1 hs1 ls1 e1
     split at h
     ·rename_i as' hs' ls' e2
      split at h
      ·rename_i hap
       simp only [Option.some.injEq,Prod.mk.injEq] at h
       obtain ⟨rfl,rfl,rfl⟩:=h
       rw [lenN_eq] at e2
       obtain ⟨c1,c2,c3,c4⟩:=capsOf_spec hp cs n as1 hs1 ls1 e1
       obtain ⟨h1,h2,h3,h4⟩:=argsOf_spec hp _ (n + hs1.length) as' hs' ls' e2
       refine ⟨List.nodup_append.2 ⟨c1,h1,fun a ha b hb e=>apartN_iff hap a ha (e ▸ hb)⟩,by simp [h2,c2],fun i k hk=>?_,fun E E' w us hI hβ hr=>?_⟩
       ·by_cases hlt : i < hs1.length
        ·rw [List.getElem?_append_left hlt] at hk
         rw [List.getElem?_append_left (by omega)]
         exact c3 i k hk
        ·rw [List.getElem?_append_right (by omega)] at hk
         rw [List.getElem?_append_right (by omega),c2]
         exact h3 _ k hk
       ·match us,hr with
        | u :: us,hr =>
         obtain ⟨cv,rfl,hcv⟩:=(hr.2 0 _ u rfl rfl).clo_inv
         have hcv':=c4 E E' w cv hI (fun i k hk=>hβ i k (by rw [List.getElem?_append_left (List.getElem?_eq_some_iff.1 hk).1]; exact hk)) hcv
         refine .cons (.clo hcv'.1 hcv'.2) (h4 E E' w us hI (fun i k hk=>?_) ⟨by have:=hr.1; simpa using this,fun i s v a b=>hr.2 (i + 1) s v a b⟩)
         have:=hβ (hs1.length + i) k (by rw [List.getElem?_append_right (by omega)]; simpa using hk)
         rw [show n + hs1.length + i = n + (hs1.length + i) by omega]; exact this
        | [],hr=>exact absurd hr.1 (by simp)
      ·cases h
     ·cases h
    ·cases h
   by_cases ho : ∃ nl m hd,v = .osl nl m hd
   ·obtain ⟨nl,m,hd,rfl⟩:=ho
    simp only [argsOf] at h
    split at h
    ·rename_i l0 as' hs' ls' e1 e2
     split at h
     case isFalse=>cases h
     ·rename_i hn
      simp only [Bool.and_eq_true,Bool.not_eq_true'] at hn
      obtain ⟨hpp,hn⟩:=hn
      simp only [Option.some.injEq,Prod.mk.injEq] at h
      obtain ⟨rfl,rfl,rfl⟩:=h
      obtain ⟨h1,h2,h3,h4⟩:=argsOf_spec hp _ (n + 1) as' hs' ls' e2
      have hnm : hd ∉ hs':=fun hm=>by rw [(hasN_iff _ _).2 hm] at hn; cases hn
      refine ⟨List.nodup_cons.2 ⟨hnm,h1⟩,by simp [h2],fun i k hk=>?_,fun E E' w us hI hβ hr=>?_⟩
      ·cases i with
       | zero=>simp at hk; subst hk; exact ⟨l0,e1,rfl,by simp [hpp]⟩
       | succ i=>simp at hk; simpa using h3 i k hk
      ·match us,hr with
       | u :: us,hr =>
        obtain ⟨ht,a0,m0,c0,t1,t2⟩:=(hr.2 0 _ u rfl rfl).osl_inv
        refine .cons (.osl ht ⟨a0,m0,c0,?_,t2⟩) (h4 E E' w us hI (fun i k hk=>?_) ⟨by have:=hr.1; simpa using this,fun i s v a b=>hr.2 (i + 1) s v a b⟩)
        ·have:=(hβ 0 hd rfl).2
         simp only [Nat.add_zero] at this
         rw [this]; exact t1
        ·have:=hβ (i + 1) k (by simpa using hk)
         rw [show n + 1 + i = n + (i + 1) by omega]; exact this
       | [],hr=>exact absurd hr.1 (by simp)
    ·cases h
   rw [argsOf_other hp (fun a b e=>hv ⟨a,b,e⟩) (fun f cs e=>hc ⟨f,cs,e⟩) (fun a b c e=>ho ⟨a,b,c,e⟩)] at h
   split at h
   ·rename_i as' hs' ls' e1 e2
    simp only [Option.some.injEq,Prod.mk.injEq] at h
    obtain ⟨rfl,rfl,rfl⟩:=h
    exact plainCase as' e1 e2 rfl
   ·cases h
end
end Go.Sx
