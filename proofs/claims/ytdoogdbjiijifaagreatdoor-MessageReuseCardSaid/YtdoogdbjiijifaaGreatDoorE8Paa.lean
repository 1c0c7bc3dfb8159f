/- A part of the proof: contracts of functions, or the executor and its soundness. No conditions. -/
import Derived.WalkKit
import Derived.WalkSpells
import Derived.WalkLawsBesides
import Derived.Lib.Strings
namespace Go
theorem QA:type_of%@if_neg:=@if_neg
theorem QB:type_of%@if_pos:=@if_pos
theorem QC:type_of%@List.getElem?_eq_getElem:=@List.getElem?_eq_getElem
theorem QD:type_of%@List.getD_eq_getElem?_getD:=@List.getD_eq_getElem?_getD
theorem QE:type_of%@Bool.and_eq_true:=@Bool.and_eq_true
theorem QF:type_of%@List.length_append:=@List.length_append
theorem QG:type_of%@List.length_cons:=@List.length_cons
theorem QH:type_of%@Nat.le_refl:=@Nat.le_refl
theorem QJ:type_of%@decide_eq_true_eq:=@decide_eq_true_eq
theorem QK:type_of%@List.mem_of_getElem?:=@List.mem_of_getElem?
theorem QL:type_of%@decide_eq_false_iff_not:=@decide_eq_false_iff_not
theorem QM:type_of%@List.getElem?_append_left:=@List.getElem?_append_left
theorem QN:type_of%@List.getElem?_take:=@List.getElem?_take
theorem QO:type_of%@List.getElem?_append_right:=@List.getElem?_append_right
theorem QP:type_of%@Option.map_some:=@Option.map_some
theorem QQ:type_of%@Nat.mul_le_mul_right:=@Nat.mul_le_mul_right
theorem QR:type_of%@List.getElem?_map:=@List.getElem?_map
theorem QS:type_of%@beq_iff_eq:=@beq_iff_eq
theorem QT:type_of%@of_decide_eq_true:=@of_decide_eq_true
theorem QU:type_of%@List.length_nil:=@List.length_nil
theorem QV:type_of%@List.getElem?_eq_none:=@List.getElem?_eq_none
theorem QW:type_of%@of_decide_eq_false:=@of_decide_eq_false
theorem QX:type_of%@Array.getElem?_toList:=@Array.getElem?_toList
theorem QY:type_of%@List.length_drop:=@List.length_drop
theorem QZ:type_of%@List.length_take:=@List.length_take
theorem XA:type_of%@List.mem_cons_self:=@List.mem_cons_self
theorem XB:type_of%@List.mem_cons_of_mem:=@List.mem_cons_of_mem
theorem XC:type_of%@Bool.or_eq_false_iff:=@Bool.or_eq_false_iff
theorem XD:type_of%@Bool.false_eq_true:=@Bool.false_eq_true
theorem XE:type_of%@Nat.zero_add:=@Nat.zero_add
theorem XF:type_of%@List.getElem?_drop:=@List.getElem?_drop
theorem XG:type_of%@Option.getD_some:=@Option.getD_some
theorem XH:type_of%@Array.getD_eq_getD_getElem?:=@Array.getD_eq_getD_getElem?
theorem XI:type_of%@List.take_of_length_le:=@List.take_of_length_le
theorem XJ:type_of%@Nat.le_of_ble_eq_true:=@Nat.le_of_ble_eq_true
theorem XK:type_of%@Nat.add_mul:=@Nat.add_mul
theorem XL:type_of%@List.getElem_mem:=@List.getElem_mem
theorem XM:type_of%@List.length_set:=@List.length_set
theorem XN:type_of%@List.eq_nil_of_length_eq_zero:=@List.eq_nil_of_length_eq_zero
theorem XO:type_of%@Bool.not_eq_true':=@Bool.not_eq_true'
theorem XP:type_of%@Nat.lt_of_lt_of_le:=@Nat.lt_of_lt_of_le
theorem XQ:type_of%@List.drop_length:=@List.drop_length
theorem XR:type_of%@Bool.or_eq_true:=@Bool.or_eq_true
theorem XS:type_of%@List.mem_cons:=@List.mem_cons
theorem XT:type_of%@List.getElem?_set_ne:=@List.getElem?_set_ne
theorem XU:type_of%@Array.ext':=@Array.ext'
theorem XV:type_of%@Nat.le_trans:=@Nat.le_trans
theorem XW:type_of%@List.length_map:=@List.length_map
theorem XX:type_of%@Bool.eq_iff_iff:=@Bool.eq_iff_iff
theorem XY:type_of%@Nat.add_zero:=@Nat.add_zero
theorem XZ:type_of%@List.filterMap_nil:=@List.filterMap_nil
theorem ZA:type_of%@List.drop_drop:=@List.drop_drop
theorem ZB:type_of%@Nat.zero_le:=@Nat.zero_le
theorem ZC:type_of%@Int.le_refl:=@Int.le_refl
theorem ZD:type_of%@List.getElem?_set:=@List.getElem?_set
theorem ZE:type_of%@Nat.blt_eq:=@Nat.blt_eq
theorem ZF:type_of%@List.getElem?_set_self:=@List.getElem?_set_self
theorem ZG:type_of%@Int.ofNat_eq_natCast:=@Int.ofNat_eq_natCast
theorem ZH:type_of%@List.append_assoc:=@List.append_assoc
theorem ZI:type_of%@Bool.and_eq_false_iff:=@Bool.and_eq_false_iff
theorem ZJ:type_of%@Nat.lt_or_ge:=@Nat.lt_or_ge
theorem ZK:type_of%@Nat.add_sub_cancel_left:=@Nat.add_sub_cancel_left
theorem ZL:type_of%@Array.toList_map:=@Array.toList_map
theorem ZM:type_of%@Bool.and_false:=@Bool.and_false
theorem ZN:type_of%@decide_eq_true:=@decide_eq_true
theorem ZO:type_of%@Bool.not_eq_false':=@Bool.not_eq_false'
theorem ZP:type_of%@Array.getElem?_setIfInBounds_ne:=@Array.getElem?_setIfInBounds_ne
theorem ZQ:type_of%@List.dropWhile_cons_of_neg:=@List.dropWhile_cons_of_neg
theorem ZR:type_of%@Array.getElem?_eq_getElem:=@Array.getElem?_eq_getElem
theorem ZS:type_of%@Option.bind_some:=@Option.bind_some
theorem ZT:type_of%@Option.getD_none:=@Option.getD_none
theorem ZU:type_of%@List.filterMap_cons:=@List.filterMap_cons
theorem ZV:type_of%@Int.toNat_natCast:=@Int.toNat_natCast
theorem ZW:type_of%@Array.getElem?_setIfInBounds_self_of_lt:=@Array.getElem?_setIfInBounds_self_of_lt
theorem ZX:type_of%@List.idxOf?_eq_some_iff:=@List.idxOf?_eq_some_iff
theorem ZY:type_of%@List.drop_zero:=@List.drop_zero
theorem ZZ:type_of%@List.mem_append:=@List.mem_append
theorem YA:type_of%@List.mem_nil_iff:=@List.mem_nil_iff
theorem YB:type_of%@List.drop_eq_nil_of_le:=@List.drop_eq_nil_of_le
theorem YC:type_of%@List.drop_eq_getElem_cons:=@List.drop_eq_getElem_cons
theorem YD:type_of%@Nat.mod_lt:=@Nat.mod_lt
theorem YE:type_of%@List.take_succ_cons:=@List.take_succ_cons
theorem YF:type_of%@Prod.ext:=@Prod.ext
theorem YH:type_of%@Bool.not_true:=@Bool.not_true
theorem YI:type_of%@decide_eq_false:=@decide_eq_false
theorem YJ:type_of%@Array.mem_of_getElem?:=@Array.mem_of_getElem?
theorem YK:type_of%@List.take_append_drop:=@List.take_append_drop
theorem YL:type_of%@Array.getElem?_modify:=@Array.getElem?_modify
theorem YM:type_of%@List.zip_cons_cons:=@List.zip_cons_cons
theorem YN:type_of%@Nat.eq_zero_or_pos:=@Nat.eq_zero_or_pos
theorem YO:type_of%@Nat.lt_succ_self:=@Nat.lt_succ_self
theorem YP:type_of%@List.mem_singleton:=@List.mem_singleton
theorem YQ:type_of%@List.take_length:=@List.take_length
theorem YR:type_of%@List.getElem?_append:=@List.getElem?_append
theorem YS:type_of%@List.getElem?_cons_zero:=@List.getElem?_cons_zero
theorem YT:type_of%@List.append_nil:=@List.append_nil
theorem YU:type_of%@Bool.false_or:=@Bool.false_or
theorem YV:type_of%@decide_eq_decide:=@decide_eq_decide
theorem YW:type_of%@List.dropWhile_cons_of_pos:=@List.dropWhile_cons_of_pos
theorem YX:type_of%@List.length_filter_le:=@List.length_filter_le
theorem YY:type_of%@Option.map_none:=@Option.map_none
theorem YZ:type_of%@Int.natCast_mul:=@Int.natCast_mul
theorem UA:type_of%@Nat.ne_of_lt:=@Nat.ne_of_lt
theorem UB:type_of%@List.map_congr_left:=@List.map_congr_left
theorem UC:type_of%@List.mem_flatMap:=@List.mem_flatMap
theorem UD:type_of%@Array.getElem!_eq_getD:=@Array.getElem!_eq_getD
theorem UE:type_of%@Nat.sub_self:=@Nat.sub_self
theorem UF:type_of%@Nat.add_assoc:=@Nat.add_assoc
theorem UG:type_of%@Bool.true_and:=@Bool.true_and
theorem UH:type_of%@Nat.div_lt_iff_lt_mul:=@Nat.div_lt_iff_lt_mul
theorem UI:type_of%@List.size_toArray:=@List.size_toArray
theorem UJ:type_of%@Nat.lt_trichotomy:=@Nat.lt_trichotomy
theorem UK:type_of%@List.take_add_one:=@List.take_add_one
theorem UL:type_of%@List.mem_of_mem_take:=@List.mem_of_mem_take
theorem UM:type_of%@List.cons_append:=@List.cons_append
theorem UN:type_of%@List.filter_cons:=@List.filter_cons
theorem UO:type_of%@List.drop_succ_cons:=@List.drop_succ_cons
theorem UP:type_of%@Int.natCast_add:=@Int.natCast_add
theorem UQ:type_of%@Nat.min_eq_left:=@Nat.min_eq_left
theorem UR:type_of%@Nat.mul_comm:=@Nat.mul_comm
theorem US:type_of%@List.take_left:=@List.take_left
theorem UT:type_of%@List.take_take:=@List.take_take
theorem UU:type_of%@Nat.ne_of_gt:=@Nat.ne_of_gt
theorem UV:type_of%@List.map_cons:=@List.map_cons
end Go
namespace Go.Sx
inductive ST where
 |a (n:Int)
 |l (n:Int)
 |bin (op:BinOp) (k:IntKind) (x y:ST)
 |cv (k:IntKind) (x:ST)
 |len (s:List UInt8)
def Eg(op:BinOp)(k:IntKind)(x y:Int):Int :=
 match op with
 |.add=>k.wrap (x+y)
 |.sub=>k.wrap (x-y)
 |.mul=>k.wrap (x * y)
 |.quo=>k.wrap (x.tdiv y)
 |.rem=>x.tmod y
 |.and=>k.wrap (BitVec.ofInt k.bits x &&& BitVec.ofInt k.bits y).toNat
 |.or=>k.wrap (BitVec.ofInt k.bits x ||| BitVec.ofInt k.bits y).toNat
 |.xor=>k.wrap (BitVec.ofInt k.bits x ^^^ BitVec.ofInt k.bits y).toNat
 |.andNot=>k.wrap (BitVec.ofInt k.bits x &&& ~~~BitVec.ofInt k.bits y).toNat
 |.shl=>k.wrap (x * 2 ^ (min y.toNat k.bits))
 |.shr=>x.fdiv (2 ^ (min y.toNat k.bits))
 |_=>0
def ST.den:ST->Int
 |.a n=>n
 |.l n=>n
 |.bin op k x y=>Eg op k x.den y.den
 |.cv k x=>k.wrap x.den
 |.len s=>s.length
def Bz(op:BinOp)(x y:Int):Bool :=
 match op with
 |.eql=>x==y
 |.neq=>x != y
 |.lss=>decide (x<y)
 |.leq=>decide (x<=y)
 |.gtr=>decide (y<x)
 |.geq=>decide (y<=x)
 |_=>false
inductive BT where
 |a (b:Bool)
 |l (b:Bool)
 |cmp (op:BinOp) (x y:ST)
 |not (x:BT)
 |and (x y:BT)
 |or (x y:BT)
 |beq (x y:BT)
 |seq (s t:List UInt8)
def BT.den:BT->Bool
 |.a b=>b
 |.l b=>b
 |.cmp op x y=>Bz op x.den y.den
 |.not x=>!x.den
 |.and x y=>x.den&&y.den
 |.or x y=>x.den||y.den
 |.beq x y=>x.den==y.den
 |.seq s t=>s==t
inductive SV where
 |int (k:IntKind) (t:ST)
 |bool (b:BT)
 |str (s:List UInt8)
 |fC
 |raw (v:Value)
 |fn (f:FuncId)
 |sl (nl:BT) (n:ST) (sz:Nat) (f:Nat->List SV)
 |dK (cs:List SV)
 |dT (n sz:Nat) (f:Nat->List SV)
 |agg (cs:List SV)
 |aJ (vs:List SV)
 |eZ (f:FuncId) (cs:List SV)
 |gI (f:FuncId) (us:List SV)
 |ptr (h off:Nat)
 |dQ (nl:BT) (n:ST) (sz:Nat) (f:Nat->List SV) (h:Nat)
 |dG (h:Nat)
 |cS (h j off:Nat)
 |bV (nl:BT) (n:ST) (h:Nat)
 |cK (n:ST) (h j off:Nat)
 |bP (h:Nat)
 |iZ (n h:Nat)
 |yv (h:Nat)
 |cP (nl:BT) (n g:ST) (h:Nat)
 |jP (n a:ST) (h:Nat)
 |rU (b:BT)
structure LC where
 fn:FuncId
 ps:Array Tmp
 assign:Code
 body:Code
 n:Nat
inductive Jp where
 |ret
 |exit (id:Nat)
 |goto (l:Nat)
def Jp.code:Jp->Code
 |.ret=>.ret
 |.exit id=>.exit id
 |.goto l=>.goto l
inductive Hl where
 |fresh
 |gone
 |aG (ty:TypeId) (cs:List SV)
 |tail (ty:TypeId) (n:ST) (sz:Nat)
 |row (ty:TypeId) (n:ST) (sz:Nat) (f:Nat->List SV)
 |own (ty:TypeId) (n:ST) (sz:Nat) (gr:Bool) (f:Nat->List SV)
 |mN (T e:TypeId) (s:List UInt8)
 |cZ (F:List UInt8->Bool)
 |iF (es:List (Int×SV))
 |vec (ty:TypeId) (n g:ST) (sz:Nat) (f:Nat->List SV)
 |bO (c:LC) (fr:List (Nat×Option SV)) (st:Nat) (pd:Option Jp)
structure G where
 tg:List Nat
 gt:Option Nat
 gf:Option Nat
 v:SV
structure Sy where
 fr:List (Option G)
 hp:List Hl
 gm:List BT
structure Dn where
 i:ST->Int
 b:BT->Bool
def dn:Dn:=⟨ST.den,BT.den⟩
inductive TK where
 |int (k:IntKind)
 |bool
 |string
 |pointer (e:TypeId)
 |slice (e:TypeId)
 |struct (fs:List (Nat×TypeId))
 |array (n:Nat) (e:TypeId)
 |map (k e:TypeId)
 |iface
 |other
structure TI where
 k:TK
 size:Nat
 bytes:Nat
 zero:List SV
abbrev aB:=Dn->List SV->List Hl->(SV->List Hl->Prop)->Prop
inductive Gh where
 |freeze (s:Nat)
 |attach (s:Nat) (e:TypeId)
 |hold (s k e:Nat)
 |own (s e:Nat)
 |share (s:Nat)
 |mN (s e:Nat)
 |fw (s:Nat)
 |vec (s e:Nat)
 |qY (s k e:Nat)
 |jF (s:Nat)
 |fP (s k:Nat)
 |JD (s:Nat)
 |oU (s:Nat)
 |oI (s k h:Nat)
 |qX (s k h:Nat)
 |xO (s:Nat)
 |zV (s:Nat)
structure Cx where
 D:Dn
 tt:List (Nat×TI)
 eD:List (Nat×aB)
 gl:List (Nat×SV)
 eqs:List TypeId
 gh:List (Nat×List Gh)
 its:List (Nat×(aB->aB)):=[]
 yl:List aB:=[]
def look{α:Type}(k:Nat):List (Nat×α)->Option α
 | []=>none
 |(j,x) :: l=>if j==k then some x else look k l
def Au{α:Type}:List (Option α)->Nat->Option α
 | [],_=>none
 |x :: _,0=>x
 |_ :: l,n+1=>Au l n
def nth{α:Type}:List α->Nat->Option α
 | [],_=>none
 |x :: _,0=>some x
 |_ :: l,n+1=>nth l n
def Ax{α:Type}:List α->Nat->α->List α
 | [],_,_=>[]
 |_ :: l,0,v=>v :: l
 |x :: l,n+1,v=>x :: Ax l n v
def takeN{α:Type}:Nat->List α->List α
 |0,_=>[]
 |_+1,[]=>[]
 |n+1,x :: l=>x :: takeN n l
def C4{α:Type}:Nat->List α->List α
 |0,l=>l
 |_+1,[]=>[]
 |n+1,_ :: l=>C4 n l
def Ah{α:Type}:List α->Nat
 | []=>0
 |_ :: l=>Ah l+1
def C9{α:Type}:List α->Nat->List α->List α
 |l,_,[]=>l
 |l,off,v :: vs=>C9 (Ax l off v) (off+1) vs
def K6(x:Nat):List Nat->Bool
 | []=>false
 |y :: l=>y==x||K6 x l
def V4:List Nat->List Nat->Bool
 | [],_=>true
 |x :: l,t=>K6 x t&&V4 l t
def SV.cells:SV->List SV
 |.agg cs=>cs
 |v=>[v]
def DE:SV->Bool
 |.agg _|.aJ _=>false
 |.raw v=>v.oneCell'
 |_=>true
def Ej:List SV->Bool
 | []=>true
 |c :: cs=>DE c&&Ej cs
def ofConst:Value->Option SV
 |.int k n=>some (.int k (.l n))
 |.bool b=>some (.bool (.l b))
 |.string s=>some (.str s.data.toList)
 |.pointer none=>some .fC
 |.slice none 0 0=>some (.sl (.l true) (.l 0) 0 λ_=>[])
 |.nilIface=>some (.raw .nilIface)
 |.nilFunc=>some (.raw .nilFunc)
 |.map none=>some (.raw (.map none))
 |.tuple vs=>if vs.size==0 then some (.aJ []) else none
 |_=>none
def rd(cx:Cx)(σ:Sy)(T:List Nat):Operand->Option SV
 |.tmp s =>
  match Au σ.fr s with
  |some g=>if V4 g.tg T then some g.v else none
  |none=>none
 |.const v=>ofConst v
 |.global g=>look g cx.gl
 |.func f=>some (.fn f)
structure fc(i n:Int):Prop where
 lo:0<=i
 hi:i<n
structure tq(j:Nat)(n:Int):Prop where
 h:(j:Int)<n
structure AI(j:Nat)(i:Int):Prop where
 h:(j:Int)=i
structure NZ(i:Int):Prop where
 h:i≠0
structure NN(i:Int):Prop where
 h:0<=i
structure AD(a b:List UInt8):Prop where
 h:(a.length:Int)+b.length<=9223372036854775807
structure tp(c:Int)(bytes:Nat):Prop where
 lo:0<=c
 mem:c * bytes<=140737488355328
 hi:c<=9223372036854775807
structure AR(m:Int)(bytes:Nat):Prop where
 mem:m * bytes<=140737488355328
 hi:m<=9223372036854775807
structure Z4(n n0 m:Int)(bytes:Nat):Prop where
 eq:n=n0
 mem:(n+m) * bytes<=140737488355328
 hi:n+m<=9223372036854775807
structure oo(a b n:Int):Prop where
 lo:0<=a
 le:a<=b
 hi:b<=n
structure KN(a b:Int)(s:List UInt8):Prop where
 lo:0<=a
 le:a<=b
 hi:b<=s.length
structure CX(i:Int)(s:List UInt8):Prop where
 lo:0<=i
 hi:i<s.length
structure LJ(r a b:List UInt8):Prop where
 h:r=a++b
structure su(r s:List UInt8)(a b:Int):Prop where
 h:r=(s.drop a.toNat).take (b.toNat-a.toNat)
structure Afu(c:Int)(s:List UInt8)(i:Int):Prop where
 h:c=((s.getD i.toNat 0).toNat:Int)
structure nW(n n0:Int):Prop where
 h:n=n0
structure KX(r a b:Int):Prop where
 h:r=max a b
structure KW(r a b:Int):Prop where
 h:r=min a b
structure K4(F' F:List UInt8->Bool)(s:List UInt8)(b:Bool):Prop where
 h:∀k,F' k=if k=s then b else F k
structure AO(f':Nat->List SV)(r m n:Int)(g f:Nat->List SV):Prop where
 len:r=min m n
 lo:∀i:Nat,(i:Int)<r->f' i=g i
 hi:∀i:Nat,r<=(i:Int)->(i:Int)<n->f' i=f i
structure Ane(f':Nat->List SV)(n':Int)(f:Nat->List SV)(a b:Int):Prop where
 len:n'=b-a
 row:∀i j:Nat,(j:Int)=i+a->f' i=f j
structure Ang(f' f:Nat->List SV)(j:Nat)(cs:List SV):Prop where
 at_:f' j=cs
 other:∀i:Nat,i≠j->f' i=f i
structure AF(f':Nat->List SV)(n' m:Int)(g:Nat->List SV):Prop where
 len:n'=m
 row:∀j:Nat,(j:Int)<m->f' j=g j
structure Mn(f':Nat->List SV)(n' n m:Int)(f g:Nat->List SV):Prop where
 len:n'=n+m
 lo:∀i:Nat,(i:Int)<n->f' i=f i
 hi:∀i j:Nat,(i:Int)=n+j->(j:Int)<m->f' i=g j
structure tc(n:Int)(f2 f:Nat->List SV):Prop where
 h:∀i:Nat,(i:Int)<n->f2 i=f i
structure Flat(f:Nat->List SV)(n:Int)(sz:Nat)(cs:List SV):Prop where
 len:(cs.length:Int)=n * sz
 h:∀i:Nat,(i:Int)<n->f i=(cs.drop (i * sz)).take sz
structure Rx(f:Nat->List SV)(rows:List (List SV)):Prop where
 h:∀(i:Nat) (r:List SV),rows[i]?=some r->f i=r
def z8(a b:List UInt8)(K:List UInt8->Prop):Prop:=∀r,LJ r a b->K r
def og(s:List UInt8)(a b:Int)(K:List UInt8->Prop):Prop:=∀r,su r s a b->K r
def om(s:List UInt8)(i:Int)(K:Int->Prop):Prop:=∀c,Afu c s i->K c
def z1(a b:Int)(K:Int->Prop):Prop:=∀r,KX r a b->K r
def z6(F:List UInt8->Bool)(s:List UInt8)(b:Bool)(K:(List UInt8->Bool)->Prop):Prop:=∀F',K4 F' F s b->K F'
def zy(a b:Int)(K:Int->Prop):Prop:=∀r,KW r a b->K r
def oh(m n:Int)(g f:Nat->List SV)(K:(Nat->List SV)->Int->Prop):Prop:=∀f' r,AO f' r m n g f->K f' r
def zw(f:Nat->List SV)(a b:Int)(K:(Nat->List SV)->Int->Prop):Prop:=∀f' n',Ane f' n' f a b->K f' n'
def Z0(f:Nat->List SV)(j:Nat)(cs:List SV)(K:(Nat->List SV)->Prop):Prop:=∀f',Ang f' f j cs->K f'
def zx(m:Int)(g:Nat->List SV)(K:(Nat->List SV)->Int->Prop):Prop:=∀f' n',AF f' n' m g->K f' n'
def S2(n m:Int)(f g:Nat->List SV)(K:(Nat->List SV)->Int->Prop):Prop:=∀f' n',Mn f' n' n m f g->K f' n'
structure AP(f' f:Nat->List SV)(a:Int)(z:List SV):Prop where
 lo:∀i:Nat,(i:Int)<a->f' i=f i
 hi:∀i:Nat,a<=(i:Int)->f' i=z
def z7(f:Nat->List SV)(a:Int)(z:List SV)(K:(Nat->List SV)->Prop):Prop:=∀f',AP f' f a z->K f'
structure OF(g' g:Int):Prop where
 h:g'=g+1
def Z1(g:Int)(K:Int->Prop):Prop:=∀g',OF g' g->K g'
def Am9(rows:List (List SV))(K:(Nat->List SV)->Prop):Prop:=∀f,Rx f rows->K f
def aU(s:List UInt8)(i:Nat):List SV:=[.int .u8 (.a ((s.getD i 0).toNat:Int))]
structure Fv(n:Int)(f:Nat->List SV):Prop where
 nn:0<=n
 h:∀i:Nat,(i:Int)<n->∃t:ST,f i=[.int .u8 t]/\0<=t.den/\t.den<256
structure Kr(r:List UInt8)(n:Int)(f:Nat->List SV):Prop where
 len:(r.length:Int)=n
 row:∀(i:Nat) (t:ST),(i:Int)<n->f i=[.int .u8 t]->((r.getD i 0).toNat:Int)=t.den
structure KP(s:List UInt8):Prop where
 h:s.length<=9223372036854775807
structure Ahj(f:Nat->List SV)(s:List UInt8):Prop where
 h:f=aU s
def Adk(s:List UInt8)(K:(Nat->List SV)->Prop):Prop:=∀f,Ahj f s->K f
def Afp(n:Int)(f:Nat->List SV)(K:List UInt8->Prop):Prop:=∀r,Kr r n f->K r
def Ob(D:Dn)(gm:List BT):List Nat->Prop->Prop
 | [],A=>A
 |i :: T,A=>match nth gm i with
  |some b=>D.b b=true->Ob D gm T A
  |none=>Ob D gm T A
def qJ(D:Dn)(gm:List BT)(T:List Nat)(i:Int)(K:Nat->Prop):Prop :=
 match T with
 | []=>∀j,AI j i->K j
 |T=>∀j,Ob D gm T (AI j i)->K j
inductive Ef where
 |set (h off:Nat) (vs:List SV)
 |put (h:Nat) (hl:Hl)
def DG(hp:List Hl)(h:Nat)(hl:Hl):List Hl :=
 if h==Ah hp then hp++[hl] else Ax hp h hl
def fa(hp:List Hl):Ef->List Hl
 |.set h off vs =>
  match nth hp h with
  |some (.aG ty cs)=>Ax hp h (.aG ty (C9 cs off vs))
  |_=>hp
 |.put h hl=>DG hp h hl
def Lw(hp:List Hl):List Ef->List Hl
 | []=>hp
 |e :: es=>Lw (fa hp e) es
structure Out where
 v:SV
 fK:List Ef
 tJ:List Nat     -- IF read whole
 BH:List (Nat×Nat×Nat)   -- cells read: NJ,from,how many
def size?(cx:Cx)(t:TypeId):Option Nat:=(look t cx.tt).map (·.size)
def cH(cx:Cx)(t:TypeId):Bool :=
 match look t cx.tt with
 |some ⟨.struct _,_,_,_⟩|some ⟨.array _ _,_,_,_⟩=>true
 |_=>false
def pack(agg:Bool)(cs:List SV):Option SV :=
 if agg then some (.agg cs) else match cs with
  | [c]=>some c
  |_=>none
def fZ(cx:Cx)(t:TypeId)(i:Nat):Option (Nat×TypeId) :=
 match look t cx.tt with
 |some ⟨.struct fs,_,_,_⟩=>nth fs i
 |_=>none
def Rm(cx:Cx)(t:TypeId)(cs:List SV):List (Nat×SV)->Option (List SV)
 | []=>some cs
 |(i,v) :: ps =>
  match look t cx.tt with
  |some ⟨.struct fs,_,_,_⟩ =>
   match nth fs i with
   |some (off,ft)=>match size? cx ft with
    |some n=>if Ah v.cells==n&&Nat.ble (off+n) (Ah cs) then Rm cx t (C9 cs off v.cells) ps else none
    |none=>none
   |none=>none
  |some ⟨.array _ e,_,_,_⟩ =>
   match size? cx e with
   |some n=>if Ah v.cells==n&&Nat.ble (i * n+n) (Ah cs) then Rm cx t (C9 cs (i * n) v.cells) ps else none
   |none=>none
  |_=>none
def Gk(cx:Cx)(σ:Sy)(T:List Nat):List (Nat×Operand)->Option (List (Nat×SV))
 | []=>some []
 |(i,x) :: ps=>match rd cx σ T x,Gk cx σ T ps with
  |some v,some vs=>some ((i,v) :: vs)
  |_,_=>none
def Alk(cx:Cx)(t:TypeId):SV->SV
 |.sl (.l true) (.l 0) 0 f=>match look t cx.tt with
  |some ⟨.slice e,_,_,_⟩=>match size? cx e with
   |some n=>.sl (.l true) (.l 0) n λ_=>[]
   |none=>.sl (.l true) (.l 0) 0 f
  |_=>.sl (.l true) (.l 0) 0 f
 |v=>v
def dx(cx:Cx)(σ:Sy)(T:List Nat)(t:TypeId)(x:Operand):Option SV :=
 match rd cx σ T x with
 |some v=>some (Alk cx t v)
 |none=>none
def Gt(cx:Cx)(σ:Sy)(T:List Nat):List Operand->List TypeId->Option (List SV)
 | [],_=>some []
 |x :: xs,t :: ts=>match dx cx σ T t x,Gt cx σ T xs ts with
  |some v,some vs=>some (v :: vs)
  |_,_=>none
 |x :: xs,[]=>match rd cx σ T x,Gt cx σ T xs [] with
  |some v,some vs=>some (v :: vs)
  |_,_=>none
def norm(D:Dn):SV->SV
 |.int k t=>.int k (.a (D.i t))
 |.bool b=>.bool (.a (D.b b))
 |.sl nl n sz f=>.sl (.a (D.b nl)) (.a (D.i n)) sz f
 |.dQ nl n sz f h=>.dQ (.a (D.b nl)) (.a (D.i n)) sz f h
 |.bV nl n h=>.bV (.a (D.b nl)) (.a (D.i n)) h
 |.cK n h j off=>.cK (.a (D.i n)) h j off
 |.rU b=>.rU (.a (D.b b))
 |.cP nl n g h=>.cP (.a (D.b nl)) (.a (D.i n)) (.a (D.i g)) h
 |.agg cs=>.agg (aM D cs)
 |.aJ vs=>.aJ (aM D vs)
 |.eZ f vs=>.eZ f (aM D vs)
 |.gI f vs=>.gI f (aM D vs)
 |v=>v
 where aM (D:Dn):List SV->List SV
 | []=>[]
 |c :: cs=>norm D c :: aM D cs
def loose:SV->SV
 |.dQ nl n sz f _=>.sl nl n sz f
 |.agg cs=>.agg (aH cs)
 |.aJ vs=>.aJ (aH vs)
 |.eZ f vs=>.eZ f (aH vs)
 |.gI f vs=>.gI f (aH vs)
 |v=>v
 where aH:List SV->List SV
 | []=>[]
 |c :: cs=>loose c :: aH cs
end Go.Sx
