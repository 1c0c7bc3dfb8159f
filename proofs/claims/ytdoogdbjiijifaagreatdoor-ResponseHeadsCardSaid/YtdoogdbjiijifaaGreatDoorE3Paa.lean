/- Part of the proofs of the statements about responses and messages (layers 9 and 10): a symbolic executor over the code, that it is sound, and contracts of functions; it has no conditions of its own. -/
import Derived.WalkKit
import Derived.WalkSpells
import Derived.WalkLawsBesides
import Derived.Lib.Strings
namespace Go.Sx
inductive ST where
 |a (n:Int)
 |l (n:Int)
 |bin (op:BinOp) (k:IntKind) (x y:ST)
 |cv (k:IntKind) (x:ST)
 |len (s:List UInt8)
def Et(op:BinOp)(k:IntKind)(x y:Int):Int :=
 match op with
 |.add=>k.wrap (x+y)
 |.sub=>k.wrap (x-y)
 |.mul=>k.wrap (x * y)
 |.quo=>k.wrap (x.tdiv y)
 |.rem=>x.tmod y
 |.and=>k.wrap (BitVec.ofInt k.bits x &&& BitVec.ofInt k.bits y).toNat
 |.or=>k.wrap (BitVec.ofInt k.bits x ||| BitVec.ofInt k.bits y).toNat
 |.xor=>k.wrap (BitVec.ofInt k.bits x ^^^ BitVec.ofInt k.bits y).toNat
 |.andNot=>k.wrap (BitVec.ofInt k.bits x &&& ~~~BitVec.ofInt k.bits y).toNat
 |.shl=>k.wrap (x * 2 ^ (min y.toNat k.bits))
 |.shr=>x.fdiv (2 ^ (min y.toNat k.bits))
 |_=>0
def ST.den:ST->Int
 |.a n=>n
 |.l n=>n
 |.bin op k x y=>Et op k x.den y.den
 |.cv k x=>k.wrap x.den
 |.len s=>s.length
def B9(op:BinOp)(x y:Int):Bool :=
 match op with
 |.eql=>x==y
 |.neq=>x != y
 |.lss=>decide (x<y)
 |.leq=>decide (x<=y)
 |.gtr=>decide (y<x)
 |.geq=>decide (y<=x)
 |_=>false
inductive BT where
 |a (b:Bool)
 |l (b:Bool)
 |cmp (op:BinOp) (x y:ST)
 |not (x:BT)
 |and (x y:BT)
 |or (x y:BT)
 |beq (x y:BT)
 |seq (s t:List UInt8)
def BT.den:BT->Bool
 |.a b=>b
 |.l b=>b
 |.cmp op x y=>B9 op x.den y.den
 |.not x=>!x.den
 |.and x y=>x.den&&y.den
 |.or x y=>x.den||y.den
 |.beq x y=>x.den==y.den
 |.seq s t=>s==t
inductive SV where
 |int (k:IntKind) (t:ST)
 |bool (b:BT)
 |str (s:List UInt8)
 |nilp
 |raw (v:Value)
 |fn (f:FuncId)
 |sl (nl:BT) (n:ST) (sz:Nat) (f:Nat->List SV)
 |rptr (cs:List SV)
 |rarr (n sz:Nat) (f:Nat->List SV)
 |agg (cs:List SV)
 |tup (vs:List SV)
 |clo (f:FuncId) (cs:List SV)
 |bnd (f:FuncId) (us:List SV)
 |ptr (h off:Nat)
 |gsl (nl:BT) (n:ST) (sz:Nat) (f:Nat->List SV) (h:Nat)
 |mrow (h:Nat)
 |mptr (h j off:Nat)
 |osl (nl:BT) (n:ST) (h:Nat)
 |optr (n:ST) (h j off:Nat)
 |mapv (h:Nat)
 |bsl (n h:Nat)
 |yv (h:Nat)
 |vsl (nl:BT) (n g:ST) (h:Nat)
 |tsl (n a:ST) (h:Nat)
 |ifc (b:BT)
structure LC where
 fn:FuncId
 ps:Array Tmp
 assign:Code
 body:Code
 n:Nat
inductive Jp where
 |ret
 |exit (id:Nat)
 |goto (l:Nat)
def Jp.code:Jp->Code
 |.ret=>.ret
 |.exit id=>.exit id
 |.goto l=>.goto l
inductive Hl where
 |fresh
 |gone
 |blk (ty:TypeId) (cs:List SV)
 |tail (ty:TypeId) (n:ST) (sz:Nat)
 |row (ty:TypeId) (n:ST) (sz:Nat) (f:Nat->List SV)
 |own (ty:TypeId) (n:ST) (sz:Nat) (gr:Bool) (f:Nat->List SV)
 |bld (T e:TypeId) (s:List UInt8)
 |mset (F:List UInt8->Bool)
 |mint (es:List (Int×SV))
 |vec (ty:TypeId) (n g:ST) (sz:Nat) (f:Nat->List SV)
 |lrec (c:LC) (fr:List (Nat×Option SV)) (st:Nat) (pd:Option Jp)
structure G where
 tg:List Nat
 gt:Option Nat
 gf:Option Nat
 v:SV
structure Sy where
 fr:List (Option G)
 hp:List Hl
 gm:List BT
structure Dn where
 i:ST->Int
 b:BT->Bool
def dn:Dn:=⟨ST.den,BT.den⟩
inductive TK where
 |int (k:IntKind)
 |bool
 |string
 |pointer (e:TypeId)
 |slice (e:TypeId)
 |struct (fs:List (Nat×TypeId))
 |array (n:Nat) (e:TypeId)
 |map (k e:TypeId)
 |iface
 |other
structure TI where
 k:TK
 size:Nat
 bytes:Nat
 zero:List SV
abbrev FSpec:=Dn->List SV->List Hl->(SV->List Hl->Prop)->Prop
inductive Gh where
 |freeze (s:Nat)
 |attach (s:Nat) (e:TypeId)
 |hold (s k e:Nat)
 |own (s e:Nat)
 |share (s:Nat)
 |bld (s e:Nat)
 |tot (s:Nat)
 |vec (s e:Nat)
 |vecb (s k e:Nat)
 |vshare (s:Nat)
 |vshareb (s k:Nat)
 |frz (s:Nat)
 |unrow (s:Nat)
 |vnil (s k h:Nat)
 |vmov (s k h:Nat)
 |blit (s:Nat)
 |ilit (s:Nat)
structure Cx where
 D:Dn
 tt:List (Nat×TI)
 tab:List (Nat×FSpec)
 gl:List (Nat×SV)
 eqs:List TypeId
 gh:List (Nat×List Gh)
 its:List (Nat×(FSpec->FSpec)):=[]
 yl:List FSpec:=[]
def look{α:Type}(k:Nat):List (Nat×α)->Option α
 | []=>none
 |(j,x) :: l=>if j==k then some x else look k l
def Au{α:Type}:List (Option α)->Nat->Option α
 | [],_=>none
 |x :: _,0=>x
 |_ :: l,n+1=>Au l n
def nth{α:Type}:List α->Nat->Option α
 | [],_=>none
 |x :: _,0=>some x
 |_ :: l,n+1=>nth l n
def Ax{α:Type}:List α->Nat->α->List α
 | [],_,_=>[]
 |_ :: l,0,v=>v :: l
 |x :: l,n+1,v=>x :: Ax l n v
def Bf{α:Type}:Nat->List α->List α
 |0,_=>[]
 |_+1,[]=>[]
 |n+1,x :: l=>x :: Bf n l
def C3{α:Type}:Nat->List α->List α
 |0,l=>l
 |_+1,[]=>[]
 |n+1,_ :: l=>C3 n l
def Af{α:Type}:List α->Nat
 | []=>0
 |_ :: l=>Af l+1
def C7{α:Type}:List α->Nat->List α->List α
 |l,_,[]=>l
 |l,off,v :: vs=>C7 (Ax l off v) (off+1) vs
def Kr(x:Nat):List Nat->Bool
 | []=>false
 |y :: l=>y==x||Kr x l
def Vj:List Nat->List Nat->Bool
 | [],_=>true
 |x :: l,t=>Kr x t&&Vj l t
def SV.cells:SV->List SV
 |.agg cs=>cs
 |v=>[v]
def Ahx:SV->Bool
 |.agg _|.tup _=>false
 |.raw v=>v.oneCell'
 |_=>true
def Ed:List SV->Bool
 | []=>true
 |c :: cs=>Ahx c&&Ed cs
def Oa:Value->Option SV
 |.int k n=>some (.int k (.l n))
 |.bool b=>some (.bool (.l b))
 |.string s=>some (.str s.data.toList)
 |.pointer none=>some .nilp
 |.slice none 0 0=>some (.sl (.l true) (.l 0) 0 λ_=>[])
 |.nilIface=>some (.raw .nilIface)
 |.nilFunc=>some (.raw .nilFunc)
 |.map none=>some (.raw (.map none))
 |.tuple vs=>if vs.size==0 then some (.tup []) else none
 |_=>none
def rd(cx:Cx)(σ:Sy)(T:List Nat):Operand->Option SV
 |.tmp s =>
  match Au σ.fr s with
  |some g=>if Vj g.tg T then some g.v else none
  |none=>none
 |.const v=>Oa v
 |.global g=>look g cx.gl
 |.func f=>some (.fn f)
structure InB(i n:Int):Prop where
 lo:0<=i
 hi:i<n
structure LtB(j:Nat)(n:Int):Prop where
 h:(j:Int)<n
structure IsJ(j:Nat)(i:Int):Prop where
 h:(j:Int)=i
structure NZ(i:Int):Prop where
 h:i≠0
structure NN(i:Int):Prop where
 h:0<=i
structure StrFit(a b:List UInt8):Prop where
 h:(a.length:Int)+b.length<=9223372036854775807
structure MkFit(c:Int)(bytes:Nat):Prop where
 lo:0<=c
 mem:c * bytes<=140737488355328
 hi:c<=9223372036854775807
structure AppNew(m:Int)(bytes:Nat):Prop where
 mem:m * bytes<=140737488355328
 hi:m<=9223372036854775807
structure Zo(n n0 m:Int)(bytes:Nat):Prop where
 eq:n=n0
 mem:(n+m) * bytes<=140737488355328
 hi:n+m<=9223372036854775807
structure SubB(a b n:Int):Prop where
 lo:0<=a
 le:a<=b
 hi:b<=n
structure SubS(a b:Int)(s:List UInt8):Prop where
 lo:0<=a
 le:a<=b
 hi:b<=s.length
structure InS(i:Int)(s:List UInt8):Prop where
 lo:0<=i
 hi:i<s.length
structure CatOf(r a b:List UInt8):Prop where
 h:r=a++b
structure Am6(r s:List UInt8)(a b:Int):Prop where
 h:r=(s.drop a.toNat).take (b.toNat-a.toNat)
structure Ae4(c:Int)(s:List UInt8)(i:Int):Prop where
 h:c=((s.getD i.toNat 0).toNat:Int)
structure EqN(n n0:Int):Prop where
 h:n=n0
structure MaxOf(r a b:Int):Prop where
 h:r=max a b
structure MinOf(r a b:Int):Prop where
 h:r=min a b
structure Ag1(F' F:List UInt8->Bool)(s:List UInt8)(b:Bool):Prop where
 h:∀k,F' k=if k=s then b else F k
structure Copied(f':Nat->List SV)(r m n:Int)(g f:Nat->List SV):Prop where
 len:r=min m n
 lo:∀i:Nat,(i:Int)<r->f' i=g i
 hi:∀i:Nat,r<=(i:Int)->(i:Int)<n->f' i=f i
structure Aey(f':Nat->List SV)(n':Int)(f:Nat->List SV)(a b:Int):Prop where
 len:n'=b-a
 row:∀i j:Nat,(j:Int)=i+a->f' i=f j
structure SetAt(f' f:Nat->List SV)(j:Nat)(cs:List SV):Prop where
 at_:f' j=cs
 other:∀i:Nat,i≠j->f' i=f i
structure NewRow(f':Nat->List SV)(n' m:Int)(g:Nat->List SV):Prop where
 len:n'=m
 row:∀j:Nat,(j:Int)<m->f' j=g j
structure G8(f':Nat->List SV)(n' n m:Int)(f g:Nat->List SV):Prop where
 len:n'=n+m
 lo:∀i:Nat,(i:Int)<n->f' i=f i
 hi:∀i j:Nat,(i:Int)=n+j->(j:Int)<m->f' i=g j
structure RowAs(n:Int)(f2 f:Nat->List SV):Prop where
 h:∀i:Nat,(i:Int)<n->f2 i=f i
structure Ajl(f:Nat->List SV)(n:Int)(sz:Nat)(cs:List SV):Prop where
 len:(cs.length:Int)=n * sz
 h:∀i:Nat,(i:Int)<n->f i=(cs.drop (i * sz)).take sz
structure Vh(f:Nat->List SV)(rows:List (List SV)):Prop where
 h:∀(i:Nat) (r:List SV),rows[i]?=some r->f i=r
def allCat(a b:List UInt8)(K:List UInt8->Prop):Prop:=∀r,CatOf r a b->K r
def allSubS(s:List UInt8)(a b:Int)(K:List UInt8->Prop):Prop:=∀r,Am6 r s a b->K r
def allByte(s:List UInt8)(i:Int)(K:Int->Prop):Prop:=∀c,Ae4 c s i->K c
def allMax(a b:Int)(K:Int->Prop):Prop:=∀r,MaxOf r a b->K r
def allMap(F:List UInt8->Bool)(s:List UInt8)(b:Bool)(K:(List UInt8->Bool)->Prop):Prop:=∀F',Ag1 F' F s b->K F'
def allMin(a b:Int)(K:Int->Prop):Prop:=∀r,MinOf r a b->K r
def allCopy(m n:Int)(g f:Nat->List SV)(K:(Nat->List SV)->Int->Prop):Prop:=∀f' r,Copied f' r m n g f->K f' r
def allSub(f:Nat->List SV)(a b:Int)(K:(Nat->List SV)->Int->Prop):Prop:=∀f' n',Aey f' n' f a b->K f' n'
def Zj(f:Nat->List SV)(j:Nat)(cs:List SV)(K:(Nat->List SV)->Prop):Prop:=∀f',SetAt f' f j cs->K f'
def allNew(m:Int)(g:Nat->List SV)(K:(Nat->List SV)->Int->Prop):Prop:=∀f' n',NewRow f' n' m g->K f' n'
def Sj(n m:Int)(f g:Nat->List SV)(K:(Nat->List SV)->Int->Prop):Prop:=∀f' n',G8 f' n' n m f g->K f' n'
structure ClrRow(f' f:Nat->List SV)(a:Int)(z:List SV):Prop where
 lo:∀i:Nat,(i:Int)<a->f' i=f i
 hi:∀i:Nat,a<=(i:Int)->f' i=z
def allClr(f:Nat->List SV)(a:Int)(z:List SV)(K:(Nat->List SV)->Prop):Prop:=∀f',ClrRow f' f a z->K f'
structure Ag0(g' g:Int):Prop where
 h:g'=g+1
def Zk(g:Int)(K:Int->Prop):Prop:=∀g',Ag0 g' g->K g'
def Am4(rows:List (List SV))(K:(Nat->List SV)->Prop):Prop:=∀f,Vh f rows->K f
def byteRow(s:List UInt8)(i:Nat):List SV:=[.int .u8 (.a ((s.getD i 0).toNat:Int))]
structure Fi(n:Int)(f:Nat->List SV):Prop where
 nn:0<=n
 h:∀i:Nat,(i:Int)<n->∃t:ST,f i=[.int .u8 t]/\0<=t.den/\t.den<256
structure Iw(r:List UInt8)(n:Int)(f:Nat->List SV):Prop where
 len:(r.length:Int)=n
 row:∀(i:Nat) (t:ST),(i:Int)<n->f i=[.int .u8 t]->((r.getD i 0).toNat:Int)=t.den
structure SFit(s:List UInt8):Prop where
 h:s.length<=9223372036854775807
structure Ag3(f:Nat->List SV)(s:List UInt8):Prop where
 h:f=byteRow s
def Aco(s:List UInt8)(K:(Nat->List SV)->Prop):Prop:=∀f,Ag3 f s->K f
def Aev(n:Int)(f:Nat->List SV)(K:List UInt8->Prop):Prop:=∀r,Iw r n f->K r
def Ob(D:Dn)(gm:List BT):List Nat->Prop->Prop
 | [],A=>A
 |i :: T,A=>match nth gm i with
  |some b=>D.b b=true->Ob D gm T A
  |none=>Ob D gm T A
def allJ(D:Dn)(gm:List BT)(T:List Nat)(i:Int)(K:Nat->Prop):Prop :=
 match T with
 | []=>∀j,IsJ j i->K j
 |T=>∀j,Ob D gm T (IsJ j i)->K j
inductive Ef where
 |set (h off:Nat) (vs:List SV)
 |put (h:Nat) (hl:Hl)
def Ahs(hp:List Hl)(h:Nat)(hl:Hl):List Hl :=
 if h==Af hp then hp++[hl] else Ax hp h hl
def efH(hp:List Hl):Ef->List Hl
 |.set h off vs =>
  match nth hp h with
  |some (.blk ty cs)=>Ax hp h (.blk ty (C7 cs off vs))
  |_=>hp
 |.put h hl=>Ahs hp h hl
def Ll(hp:List Hl):List Ef->List Hl
 | []=>hp
 |e :: es=>Ll (efH hp e) es
structure Out where
 v:SV
 efs:List Ef
 rds:List Nat     -- heaplets read whole
 rdc:List (Nat×Nat×Nat)   -- cells read: heaplet,from,how many
def size?(cx:Cx)(t:TypeId):Option Nat:=(look t cx.tt).map (·.size)
def isAgg?(cx:Cx)(t:TypeId):Bool :=
 match look t cx.tt with
 |some ⟨.struct _,_,_,_⟩|some ⟨.array _ _,_,_,_⟩=>true
 |_=>false
def Kp(agg:Bool)(cs:List SV):Option SV :=
 if agg then some (.agg cs) else match cs with
  | [c]=>some c
  |_=>none
def field?(cx:Cx)(t:TypeId)(i:Nat):Option (Nat×TypeId) :=
 match look t cx.tt with
 |some ⟨.struct fs,_,_,_⟩=>nth fs i
 |_=>none
def Rc(cx:Cx)(t:TypeId)(cs:List SV):List (Nat×SV)->Option (List SV)
 | []=>some cs
 |(i,v) :: ps =>
  match look t cx.tt with
  |some ⟨.struct fs,_,_,_⟩ =>
   match nth fs i with
   |some (off,ft)=>match size? cx ft with
    |some n=>if Af v.cells==n&&Nat.ble (off+n) (Af cs) then Rc cx t (C7 cs off v.cells) ps else none
    |none=>none
   |none=>none
  |some ⟨.array _ e,_,_,_⟩ =>
   match size? cx e with
   |some n=>if Af v.cells==n&&Nat.ble (i * n+n) (Af cs) then Rc cx t (C7 cs (i * n) v.cells) ps else none
   |none=>none
  |_=>none
def F1(cx:Cx)(σ:Sy)(T:List Nat):List (Nat×Operand)->Option (List (Nat×SV))
 | []=>some []
 |(i,x) :: ps=>match rd cx σ T x,F1 cx σ T ps with
  |some v,some vs=>some ((i,v) :: vs)
  |_,_=>none
def Ak9(cx:Cx)(t:TypeId):SV->SV
 |.sl (.l true) (.l 0) 0 f=>match look t cx.tt with
  |some ⟨.slice e,_,_,_⟩=>match size? cx e with
   |some n=>.sl (.l true) (.l 0) n λ_=>[]
   |none=>.sl (.l true) (.l 0) 0 f
  |_=>.sl (.l true) (.l 0) 0 f
 |v=>v
def rdT(cx:Cx)(σ:Sy)(T:List Nat)(t:TypeId)(x:Operand):Option SV :=
 match rd cx σ T x with
 |some v=>some (Ak9 cx t v)
 |none=>none
def F7(cx:Cx)(σ:Sy)(T:List Nat):List Operand->List TypeId->Option (List SV)
 | [],_=>some []
 |x :: xs,t :: ts=>match rdT cx σ T t x,F7 cx σ T xs ts with
  |some v,some vs=>some (v :: vs)
  |_,_=>none
 |x :: xs,[]=>match rd cx σ T x,F7 cx σ T xs [] with
  |some v,some vs=>some (v :: vs)
  |_,_=>none
def norm(D:Dn):SV->SV
 |.int k t=>.int k (.a (D.i t))
 |.bool b=>.bool (.a (D.b b))
 |.sl nl n sz f=>.sl (.a (D.b nl)) (.a (D.i n)) sz f
 |.gsl nl n sz f h=>.gsl (.a (D.b nl)) (.a (D.i n)) sz f h
 |.osl nl n h=>.osl (.a (D.b nl)) (.a (D.i n)) h
 |.optr n h j off=>.optr (.a (D.i n)) h j off
 |.ifc b=>.ifc (.a (D.b b))
 |.vsl nl n g h=>.vsl (.a (D.b nl)) (.a (D.i n)) (.a (D.i g)) h
 |.agg cs=>.agg (normL D cs)
 |.tup vs=>.tup (normL D vs)
 |.clo f vs=>.clo f (normL D vs)
 |.bnd f vs=>.bnd f (normL D vs)
 |v=>v
 where normL (D:Dn):List SV->List SV
 | []=>[]
 |c :: cs=>norm D c :: normL D cs
def loose:SV->SV
 |.gsl nl n sz f _=>.sl nl n sz f
 |.agg cs=>.agg (looseL cs)
 |.tup vs=>.tup (looseL vs)
 |.clo f vs=>.clo f (looseL vs)
 |.bnd f vs=>.bnd f (looseL vs)
 |v=>v
 where looseL:List SV->List SV
 | []=>[]
 |c :: cs=>loose c :: looseL cs
end Go.Sx
