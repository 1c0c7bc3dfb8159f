/- Lemmas of the proof; no conditions. -/
import Derived.WalkSpells
import Derived.WalkLawsBesides
import Derived.Lib.Strings
namespace Go
theorem QA:type_of%@if_neg:=@if_neg
theorem QB:type_of%@List.getElem?_eq_getElem:=@List.getElem?_eq_getElem
theorem QC:type_of%@if_pos:=@if_pos
theorem QD:type_of%@List.getD_eq_getElem?_getD:=@List.getD_eq_getElem?_getD
theorem QE:type_of%@Bool.and_eq_true:=@Bool.and_eq_true
theorem QF:type_of%@List.length_append:=@List.length_append
theorem QG:type_of%@decide_eq_true_eq:=@decide_eq_true_eq
theorem QH:type_of%@List.length_cons:=@List.length_cons
theorem QJ:type_of%@decide_eq_false_iff_not:=@decide_eq_false_iff_not
theorem QK:type_of%@Nat.le_refl:=@Nat.le_refl
theorem QL:type_of%@List.mem_of_getElem?:=@List.mem_of_getElem?
theorem QM:type_of%@List.getElem?_append_left:=@List.getElem?_append_left
theorem QN:type_of%@List.getElem?_take:=@List.getElem?_take
theorem QO:type_of%@beq_iff_eq:=@beq_iff_eq
theorem QP:type_of%@List.getElem?_append_right:=@List.getElem?_append_right
theorem QQ:type_of%@Option.map_some:=@Option.map_some
theorem QR:type_of%@Nat.mul_le_mul_right:=@Nat.mul_le_mul_right
theorem QS:type_of%@List.getElem?_map:=@List.getElem?_map
theorem QT:type_of%@of_decide_eq_true:=@of_decide_eq_true
theorem QU:type_of%@Bool.or_eq_false_iff:=@Bool.or_eq_false_iff
theorem QV:type_of%@List.length_nil:=@List.length_nil
theorem QW:type_of%@List.length_take:=@List.length_take
theorem QX:type_of%@List.length_drop:=@List.length_drop
theorem QY:type_of%@List.getElem?_eq_none:=@List.getElem?_eq_none
theorem QZ:type_of%@Array.getElem?_toList:=@Array.getElem?_toList
theorem XA:type_of%@of_decide_eq_false:=@of_decide_eq_false
theorem XB:type_of%@List.mem_cons_self:=@List.mem_cons_self
theorem XC:type_of%@List.mem_cons_of_mem:=@List.mem_cons_of_mem
theorem XD:type_of%@Option.getD_some:=@Option.getD_some
theorem XE:type_of%@Bool.false_eq_true:=@Bool.false_eq_true
theorem XF:type_of%@Nat.zero_add:=@Nat.zero_add
theorem XG:type_of%@List.getElem?_drop:=@List.getElem?_drop
theorem XH:type_of%@List.eq_nil_of_length_eq_zero:=@List.eq_nil_of_length_eq_zero
theorem XI:type_of%@Array.getD_eq_getD_getElem?:=@Array.getD_eq_getD_getElem?
theorem XJ:type_of%@List.take_of_length_le:=@List.take_of_length_le
theorem XK:type_of%@Nat.le_of_ble_eq_true:=@Nat.le_of_ble_eq_true
theorem XL:type_of%@Bool.not_eq_true':=@Bool.not_eq_true'
theorem XM:type_of%@Nat.add_mul:=@Nat.add_mul
theorem XN:type_of%@List.length_set:=@List.length_set
theorem XO:type_of%@List.getElem_mem:=@List.getElem_mem
theorem XP:type_of%@Nat.le_trans:=@Nat.le_trans
theorem XQ:type_of%@Nat.lt_of_lt_of_le:=@Nat.lt_of_lt_of_le
theorem XR:type_of%@List.drop_length:=@List.drop_length
theorem XS:type_of%@Bool.or_eq_true:=@Bool.or_eq_true
theorem XT:type_of%@List.mem_cons:=@List.mem_cons
theorem XU:type_of%@List.getElem?_set_ne:=@List.getElem?_set_ne
theorem XV:type_of%@Array.ext':=@Array.ext'
theorem XW:type_of%@List.length_map:=@List.length_map
theorem XX:type_of%@Nat.zero_le:=@Nat.zero_le
theorem XY:type_of%@Bool.eq_iff_iff:=@Bool.eq_iff_iff
theorem XZ:type_of%@Bool.not_eq_false':=@Bool.not_eq_false'
theorem ZA:type_of%@Bool.and_eq_false_iff:=@Bool.and_eq_false_iff
theorem ZB:type_of%@Nat.add_zero:=@Nat.add_zero
theorem ZC:type_of%@List.filterMap_nil:=@List.filterMap_nil
theorem ZD:type_of%@List.drop_drop:=@List.drop_drop
theorem ZE:type_of%@Int.le_refl:=@Int.le_refl
theorem ZF:type_of%@List.getElem?_set:=@List.getElem?_set
theorem ZG:type_of%@Nat.blt_eq:=@Nat.blt_eq
theorem ZH:type_of%@List.getElem?_set_self:=@List.getElem?_set_self
theorem ZI:type_of%@Int.ofNat_eq_natCast:=@Int.ofNat_eq_natCast
theorem ZJ:type_of%@List.append_assoc:=@List.append_assoc
theorem ZK:type_of%@Nat.lt_or_ge:=@Nat.lt_or_ge
theorem ZL:type_of%@Nat.add_sub_cancel_left:=@Nat.add_sub_cancel_left
theorem ZM:type_of%@Array.toList_map:=@Array.toList_map
theorem ZN:type_of%@List.drop_eq_nil_of_le:=@List.drop_eq_nil_of_le
theorem ZO:type_of%@Bool.and_false:=@Bool.and_false
theorem ZP:type_of%@Array.getElem?_setIfInBounds_ne:=@Array.getElem?_setIfInBounds_ne
theorem ZQ:type_of%@List.dropWhile_cons_of_neg:=@List.dropWhile_cons_of_neg
theorem ZR:type_of%@Array.getElem?_eq_getElem:=@Array.getElem?_eq_getElem
theorem ZS:type_of%@List.drop_eq_getElem_cons:=@List.drop_eq_getElem_cons
theorem ZT:type_of%@List.drop_zero:=@List.drop_zero
theorem ZU:type_of%@List.mem_nil_iff:=@List.mem_nil_iff
theorem ZV:type_of%@Option.bind_some:=@Option.bind_some
theorem ZW:type_of%@Option.getD_none:=@Option.getD_none
theorem ZX:type_of%@List.filterMap_cons:=@List.filterMap_cons
theorem ZY:type_of%@Int.toNat_natCast:=@Int.toNat_natCast
theorem ZZ:type_of%@Array.getElem?_setIfInBounds_self_of_lt:=@Array.getElem?_setIfInBounds_self_of_lt
theorem YA:type_of%@List.idxOf?_eq_some_iff:=@List.idxOf?_eq_some_iff
theorem YB:type_of%@List.mem_append:=@List.mem_append
theorem YC:type_of%@List.take_length:=@List.take_length
theorem YD:type_of%@Nat.mod_lt:=@Nat.mod_lt
theorem YE:type_of%@List.take_succ_cons:=@List.take_succ_cons
theorem YF:type_of%@List.take_append_drop:=@List.take_append_drop
theorem YH:type_of%@Bool.eq_false_or_eq_true:=@Bool.eq_false_or_eq_true
theorem YI:type_of%@decide_eq_true:=@decide_eq_true
theorem YJ:type_of%@Prod.ext:=@Prod.ext
theorem YK:type_of%@Bool.not_true:=@Bool.not_true
theorem YL:type_of%@Array.mem_of_getElem?:=@Array.mem_of_getElem?
theorem YM:type_of%@Array.getElem?_modify:=@Array.getElem?_modify
theorem YN:type_of%@List.zip_cons_cons:=@List.zip_cons_cons
theorem YO:type_of%@Nat.eq_zero_or_pos:=@Nat.eq_zero_or_pos
theorem YP:type_of%@Nat.lt_succ_self:=@Nat.lt_succ_self
theorem YQ:type_of%@List.mem_singleton:=@List.mem_singleton
theorem YR:type_of%@List.getElem?_append:=@List.getElem?_append
theorem YS:type_of%@List.getElem?_cons_zero:=@List.getElem?_cons_zero
theorem YT:type_of%@List.append_nil:=@List.append_nil
theorem YU:type_of%@List.dropWhile_cons_of_pos:=@List.dropWhile_cons_of_pos
theorem YV:type_of%@List.length_filter_le:=@List.length_filter_le
theorem YW:type_of%@Option.map_none:=@Option.map_none
theorem YX:type_of%@Int.natCast_mul:=@Int.natCast_mul
theorem YY:type_of%@Nat.ne_of_lt:=@Nat.ne_of_lt
theorem YZ:type_of%@Nat.lt_trichotomy:=@Nat.lt_trichotomy
theorem UA:type_of%@List.take_add_one:=@List.take_add_one
theorem UB:type_of%@Bool.false_or:=@Bool.false_or
theorem UC:type_of%@List.map_congr_left:=@List.map_congr_left
theorem UD:type_of%@List.mem_flatMap:=@List.mem_flatMap
theorem UE:type_of%@List.cons_append:=@List.cons_append
theorem UF:type_of%@decide_eq_decide:=@decide_eq_decide
theorem UG:type_of%@Array.getElem!_eq_getD:=@Array.getElem!_eq_getD
theorem UH:type_of%@Nat.sub_self:=@Nat.sub_self
theorem UI:type_of%@List.nil_append:=@List.nil_append
theorem UJ:type_of%@Nat.min_eq_left:=@Nat.min_eq_left
theorem UK:type_of%@Nat.not_lt_zero:=@Nat.not_lt_zero
theorem UL:type_of%@decide_eq_false:=@decide_eq_false
theorem UM:type_of%@Nat.add_assoc:=@Nat.add_assoc
theorem UN:type_of%@Nat.div_lt_iff_lt_mul:=@Nat.div_lt_iff_lt_mul
theorem UO:type_of%@List.size_toArray:=@List.size_toArray
theorem UP:type_of%@List.mem_of_mem_take:=@List.mem_of_mem_take
theorem UQ:type_of%@List.filter_cons:=@List.filter_cons
theorem UR:type_of%@List.drop_succ_cons:=@List.drop_succ_cons
theorem US:type_of%@Bool.true_and:=@Bool.true_and
theorem UT:type_of%@Int.natCast_add:=@Int.natCast_add
theorem UU:type_of%@Nat.mul_comm:=@Nat.mul_comm
theorem UV:type_of%@List.take_left:=@List.take_left
theorem UW:type_of%@List.take_take:=@List.take_take
theorem UX:type_of%@Nat.ne_of_gt:=@Nat.ne_of_gt
theorem UY:type_of%@List.map_cons:=@List.map_cons
end Go
namespace Go.Sx
inductive ST where
 |a (n:Int)
 |l (n:Int)
 |bin (op:BinOp) (k:IntKind) (x y:ST)
 |cv (k:IntKind) (x:ST)
 |len (s:List UInt8)
def En(op:BinOp)(k:IntKind)(x y:Int):Int :=
 match op with
 |.add=>k.wrap (x+y)
 |.sub=>k.wrap (x-y)
 |.mul=>k.wrap (x * y)
 |.quo=>k.wrap (x.tdiv y)
 |.rem=>x.tmod y
 |.and=>k.wrap (BitVec.ofInt k.bits x &&& BitVec.ofInt k.bits y).toNat
 |.or=>k.wrap (BitVec.ofInt k.bits x ||| BitVec.ofInt k.bits y).toNat
 |.xor=>k.wrap (BitVec.ofInt k.bits x ^^^ BitVec.ofInt k.bits y).toNat
 |.andNot=>k.wrap (BitVec.ofInt k.bits x &&& ~~~BitVec.ofInt k.bits y).toNat
 |.shl=>k.wrap (x * 2 ^ (min y.toNat k.bits))
 |.shr=>x.fdiv (2 ^ (min y.toNat k.bits))
 |_=>0
def ST.den:ST->Int
 |.a n=>n
 |.l n=>n
 |.bin op k x y=>En op k x.den y.den
 |.cv k x=>k.wrap x.den
 |.len s=>s.length
def B6(op:BinOp)(x y:Int):Bool :=
 match op with
 |.eql=>x==y
 |.neq=>x != y
 |.lss=>decide (x<y)
 |.leq=>decide (x<=y)
 |.gtr=>decide (y<x)
 |.geq=>decide (y<=x)
 |_=>false
inductive BT where
 |a (b:Bool)
 |l (b:Bool)
 |cmp (op:BinOp) (x y:ST)
 |not (x:BT)
 |and (x y:BT)
 |or (x y:BT)
 |beq (x y:BT)
 |seq (s t:List UInt8)
def BT.den:BT->Bool
 |.a b=>b
 |.l b=>b
 |.cmp op x y=>B6 op x.den y.den
 |.not x=>!x.den
 |.and x y=>x.den&&y.den
 |.or x y=>x.den||y.den
 |.beq x y=>x.den==y.den
 |.seq s t=>s==t
inductive SV where
 |int (k:IntKind) (t:ST)
 |bool (b:BT)
 |str (s:List UInt8)
 |eX
 |raw (v:Value)
 |fn (f:FuncId)
 |sl (nl:BT) (n:ST) (sz:Nat) (f:Nat->List SV)
 |dK (cs:List SV)
 |dR (n sz:Nat) (f:Nat->List SV)
 |agg (cs:List SV)
 |aI (vs:List SV)
 |fJ (f:FuncId) (cs:List SV)
 |gS (f:FuncId) (us:List SV)
 |ptr (h off:Nat)
 |dO (nl:BT) (n:ST) (sz:Nat) (f:Nat->List SV) (h:Nat)
 |dH (h:Nat)
 |cT (h j off:Nat)
 |bV (nl:BT) (n:ST) (h:Nat)
 |cN (n:ST) (h j off:Nat)
 |bQ (h:Nat)
 |jI (n h:Nat)
 |yv (h:Nat)
 |cR (nl:BT) (n g:ST) (h:Nat)
 |kD (n a:ST) (h:Nat)
 |sL (b:BT)
structure LC where
 fn:FuncId
 ps:Array Tmp
 assign:Code
 body:Code
 n:Nat
inductive Jp where
 |ret
 |exit (id:Nat)
 |goto (l:Nat)
def Jp.code:Jp->Code
 |.ret=>.ret
 |.exit id=>.exit id
 |.goto l=>.goto l
inductive Hl where
 |fresh
 |gone
 |aF (ty:TypeId) (cs:List SV)
 |tail (ty:TypeId) (n:ST) (sz:Nat)
 |row (ty:TypeId) (n:ST) (sz:Nat) (f:Nat->List SV)
 |own (ty:TypeId) (n:ST) (sz:Nat) (gr:Bool) (f:Nat->List SV)
 |nC (T e:TypeId) (s:List UInt8)
 |dB (F:List UInt8->Bool)
 |iP (es:List (Int×SV))
 |vec (ty:TypeId) (n g:ST) (sz:Nat) (f:Nat->List SV)
 |bO (c:LC) (fr:List (Nat×Option SV)) (st:Nat) (pd:Option Jp)
structure G where
 tg:List Nat
 gt:Option Nat
 gf:Option Nat
 v:SV
structure Sy where
 fr:List (Option G)
 hp:List Hl
 gm:List BT
structure Dn where
 i:ST->Int
 b:BT->Bool
def dn:Dn:=⟨ST.den,BT.den⟩
inductive TK where
 |int (k:IntKind)
 |bool
 |string
 |pointer (e:TypeId)
 |slice (e:TypeId)
 |struct (fs:List (Nat×TypeId))
 |array (n:Nat) (e:TypeId)
 |map (k e:TypeId)
 |iface
 |other
structure TI where
 k:TK
 size:Nat
 bytes:Nat
 zero:List SV
abbrev aB:=Dn->List SV->List Hl->(SV->List Hl->Prop)->Prop
inductive Gh where
 |freeze (s:Nat)
 |attach (s:Nat) (e:TypeId)
 |hold (s k e:Nat)
 |own (s e:Nat)
 |share (s:Nat)
 |nC (s e:Nat)
 |iu (s:Nat)
 |vec (s e:Nat)
 |rN (s k e:Nat)
 |jT (s:Nat)
 |fX (s k:Nat)
 |KJ (s:Nat)
 |pL (s:Nat)
 |pA (s k h:Nat)
 |rM (s k h:Nat)
 |yL (s:Nat)
 |bn (s:Nat)
structure Cx where
 D:Dn
 tt:List (Nat×TI)
 eG:List (Nat×aB)
 gl:List (Nat×SV)
 eqs:List TypeId
 gh:List (Nat×List Gh)
 its:List (Nat×(aB->aB)):=[]
 yl:List aB:=[]
def look{α:Type}(k:Nat):List (Nat×α)->Option α
 | []=>none
 |(j,x) :: l=>if j==k then some x else look k l
def Ax{α:Type}:List (Option α)->Nat->Option α
 | [],_=>none
 |x :: _,0=>x
 |_ :: l,n+1=>Ax l n
def nth{α:Type}:List α->Nat->Option α
 | [],_=>none
 |x :: _,0=>some x
 |_ :: l,n+1=>nth l n
def Ay{α:Type}:List α->Nat->α->List α
 | [],_,_=>[]
 |_ :: l,0,v=>v :: l
 |x :: l,n+1,v=>x :: Ay l n v
def takeN{α:Type}:Nat->List α->List α
 |0,_=>[]
 |_+1,[]=>[]
 |n+1,x :: l=>x :: takeN n l
def Db{α:Type}:Nat->List α->List α
 |0,l=>l
 |_+1,[]=>[]
 |n+1,_ :: l=>Db n l
def Ai{α:Type}:List α->Nat
 | []=>0
 |_ :: l=>Ai l+1
def Dd{α:Type}:List α->Nat->List α->List α
 |l,_,[]=>l
 |l,off,v :: vs=>Dd (Ay l off v) (off+1) vs
def Le(x:Nat):List Nat->Bool
 | []=>false
 |y :: l=>y==x||Le x l
def Wr:List Nat->List Nat->Bool
 | [],_=>true
 |x :: l,t=>Le x t&&Wr l t
def SV.cells:SV->List SV
 |.agg cs=>cs
 |v=>[v]
def EC:SV->Bool
 |.agg _|.aI _=>false
 |.raw v=>v.oneCell'
 |_=>true
def Es:List SV->Bool
 | []=>true
 |c :: cs=>EC c&&Es cs
def ofConst:Value->Option SV
 |.int k n=>some (.int k (.l n))
 |.bool b=>some (.bool (.l b))
 |.string s=>some (.str s.data.toList)
 |.pointer none=>some .eX
 |.slice none 0 0=>some (.sl (.l true) (.l 0) 0 λ_=>[])
 |.nilIface=>some (.raw .nilIface)
 |.nilFunc=>some (.raw .nilFunc)
 |.map none=>some (.raw (.map none))
 |.tuple vs=>if vs.size==0 then some (.aI []) else none
 |_=>none
def rd(cx:Cx)(σ:Sy)(T:List Nat):Operand->Option SV
 |.tmp s =>
  match Ax σ.fr s with
  |some g=>if Wr g.tg T then some g.v else none
  |none=>none
 |.const v=>ofConst v
 |.global g=>look g cx.gl
 |.func f=>some (.fn f)
structure fv(i n:Int):Prop where
 lo:0<=i
 hi:i<n
structure u6(j:Nat)(n:Int):Prop where
 h:(j:Int)<n
structure DU(j:Nat)(i:Int):Prop where
 h:(j:Int)=i
structure NZ(i:Int):Prop where
 h:i≠0
structure NN(i:Int):Prop where
 h:0<=i
structure BI(a b:List UInt8):Prop where
 h:(a.length:Int)+b.length<=9223372036854775807
structure u4(c:Int)(bytes:Nat):Prop where
 lo:0<=c
 mem:c * bytes<=140737488355328
 hi:c<=9223372036854775807
structure BV(m:Int)(bytes:Nat):Prop where
 mem:m * bytes<=140737488355328
 hi:m<=9223372036854775807
structure RW(n n0 m:Int)(bytes:Nat):Prop where
 eq:n=n0
 mem:(n+m) * bytes<=140737488355328
 hi:n+m<=9223372036854775807
structure pr(a b n:Int):Prop where
 lo:0<=a
 le:a<=b
 hi:b<=n
structure LW(a b:Int)(s:List UInt8):Prop where
 lo:0<=a
 le:a<=b
 hi:b<=s.length
structure DV(i:Int)(s:List UInt8):Prop where
 lo:0<=i
 hi:i<s.length
structure MQ(r a b:List UInt8):Prop where
 h:r=a++b
structure uy(r s:List UInt8)(a b:Int):Prop where
 h:r=(s.drop a.toNat).take (b.toNat-a.toNat)
structure Ags(c:Int)(s:List UInt8)(i:Int):Prop where
 h:c=((s.getD i.toNat 0).toNat:Int)
structure oM(n n0:Int):Prop where
 h:n=n0
structure MG(r a b:Int):Prop where
 h:r=max a b
structure MF(r a b:Int):Prop where
 h:r=min a b
structure Lc(F' F:List UInt8->Bool)(s:List UInt8)(b:Bool):Prop where
 h:∀k,F' k=if k=s then b else F k
structure BS(f':Nat->List SV)(r m n:Int)(g f:Nat->List SV):Prop where
 len:r=min m n
 lo:∀i:Nat,(i:Int)<r->f' i=g i
 hi:∀i:Nat,r<=(i:Int)->(i:Int)<n->f' i=f i
structure Aoo(f':Nat->List SV)(n':Int)(f:Nat->List SV)(a b:Int):Prop where
 len:n'=b-a
 row:∀i j:Nat,(j:Int)=i+a->f' i=f j
structure Aoq(f' f:Nat->List SV)(j:Nat)(cs:List SV):Prop where
 at_:f' j=cs
 other:∀i:Nat,i≠j->f' i=f i
structure BL(f':Nat->List SV)(n' m:Int)(g:Nat->List SV):Prop where
 len:n'=m
 row:∀j:Nat,(j:Int)<m->f' j=g j
structure Mw(f':Nat->List SV)(n' n m:Int)(f g:Nat->List SV):Prop where
 len:n'=n+m
 lo:∀i:Nat,(i:Int)<n->f' i=f i
 hi:∀i j:Nat,(i:Int)=n+j->(j:Int)<m->f' i=g j
structure uz(n:Int)(f2 f:Nat->List SV):Prop where
 h:∀i:Nat,(i:Int)<n->f2 i=f i
structure Flat(f:Nat->List SV)(n:Int)(sz:Nat)(cs:List SV):Prop where
 len:(cs.length:Int)=n * sz
 h:∀i:Nat,(i:Int)<n->f i=(cs.drop (i * sz)).take sz
structure Sj(f:Nat->List SV)(rows:List (List SV)):Prop where
 h:∀(i:Nat) (r:List SV),rows[i]?=some r->f i=r
def BG(a b:List UInt8)(K:List UInt8->Prop):Prop:=∀r,MQ r a b->K r
def pn(s:List UInt8)(a b:Int)(K:List UInt8->Prop):Prop:=∀r,uy r s a b->K r
def pq(s:List UInt8)(i:Int)(K:Int->Prop):Prop:=∀c,Ags c s i->K c
def BD(a b:Int)(K:Int->Prop):Prop:=∀r,MG r a b->K r
def BE(F:List UInt8->Bool)(s:List UInt8)(b:Bool)(K:(List UInt8->Bool)->Prop):Prop:=∀F',Lc F' F s b->K F'
def BC(a b:Int)(K:Int->Prop):Prop:=∀r,MF r a b->K r
def po(m n:Int)(g f:Nat->List SV)(K:(Nat->List SV)->Int->Prop):Prop:=∀f' r,BS f' r m n g f->K f' r
def BA(f:Nat->List SV)(a b:Int)(K:(Nat->List SV)->Int->Prop):Prop:=∀f' n',Aoo f' n' f a b->K f' n'
def RY(f:Nat->List SV)(j:Nat)(cs:List SV)(K:(Nat->List SV)->Prop):Prop:=∀f',Aoq f' f j cs->K f'
def BB(m:Int)(g:Nat->List SV)(K:(Nat->List SV)->Int->Prop):Prop:=∀f' n',BL f' n' m g->K f' n'
def Tg(n m:Int)(f g:Nat->List SV)(K:(Nat->List SV)->Int->Prop):Prop:=∀f' n',Mw f' n' n m f g->K f' n'
structure BU(f' f:Nat->List SV)(a:Int)(z:List SV):Prop where
 lo:∀i:Nat,(i:Int)<a->f' i=f i
 hi:∀i:Nat,a<=(i:Int)->f' i=z
def BF(f:Nat->List SV)(a:Int)(z:List SV)(K:(Nat->List SV)->Prop):Prop:=∀f',BU f' f a z->K f'
structure PV(g' g:Int):Prop where
 h:g'=g+1
def RX(g:Int)(K:Int->Prop):Prop:=∀g',PV g' g->K g'
def Aol(rows:List (List SV))(K:(Nat->List SV)->Prop):Prop:=∀f,Sj f rows->K f
def aQ(s:List UInt8)(i:Nat):List SV:=[.int .u8 (.a ((s.getD i 0).toNat:Int))]
structure Fz(n:Int)(f:Nat->List SV):Prop where
 nn:0<=n
 h:∀i:Nat,(i:Int)<n->∃t:ST,f i=[.int .u8 t]/\0<=t.den/\t.den<256
structure Ky(r:List UInt8)(n:Int)(f:Nat->List SV):Prop where
 len:(r.length:Int)=n
 row:∀(i:Nat) (t:ST),(i:Int)<n->f i=[.int .u8 t]->((r.getD i 0).toNat:Int)=t.den
structure LY(s:List UInt8):Prop where
 h:s.length<=9223372036854775807
structure Aij(f:Nat->List SV)(s:List UInt8):Prop where
 h:f=aQ s
def Aea(s:List UInt8)(K:(Nat->List SV)->Prop):Prop:=∀f,Aij f s->K f
def Agm(n:Int)(f:Nat->List SV)(K:List UInt8->Prop):Prop:=∀r,Ky r n f->K r
def Ob(D:Dn)(gm:List BT):List Nat->Prop->Prop
 | [],A=>A
 |i :: T,A=>match nth gm i with
  |some b=>D.b b=true->Ob D gm T A
  |none=>Ob D gm T A
def rA(D:Dn)(gm:List BT)(T:List Nat)(i:Int)(K:Nat->Prop):Prop :=
 match T with
 | []=>∀j,DU j i->K j
 |T=>∀j,Ob D gm T (DU j i)->K j
inductive Ef where
 |set (h off:Nat) (vs:List SV)
 |put (h:Nat) (hl:Hl)
def EE(hp:List Hl)(h:Nat)(hl:Hl):List Hl :=
 if h==Ai hp then hp++[hl] else Ay hp h hl
def gx(hp:List Hl):Ef->List Hl
 |.set h off vs =>
  match nth hp h with
  |some (.aF ty cs)=>Ay hp h (.aF ty (Dd cs off vs))
  |_=>hp
 |.put h hl=>EE hp h hl
def L7(hp:List Hl):List Ef->List Hl
 | []=>hp
 |e :: es=>L7 (gx hp e) es
structure Out where
 v:SV
 fR:List Ef
 tX:List Nat     -- JM read whole
 CJ:List (Nat×Nat×Nat)   -- cells read: OU,from,how many
def size?(cx:Cx)(t:TypeId):Option Nat:=(look t cx.tt).map (·.size)
def cK(cx:Cx)(t:TypeId):Bool :=
 match look t cx.tt with
 |some ⟨.struct _,_,_,_⟩|some ⟨.array _ _,_,_,_⟩=>true
 |_=>false
def pack(agg:Bool)(cs:List SV):Option SV :=
 if agg then some (.agg cs) else match cs with
  | [c]=>some c
  |_=>none
def gJ(cx:Cx)(t:TypeId)(i:Nat):Option (Nat×TypeId) :=
 match look t cx.tt with
 |some ⟨.struct fs,_,_,_⟩=>nth fs i
 |_=>none
def Sa(cx:Cx)(t:TypeId)(cs:List SV):List (Nat×SV)->Option (List SV)
 | []=>some cs
 |(i,v) :: ps =>
  match look t cx.tt with
  |some ⟨.struct fs,_,_,_⟩ =>
   match nth fs i with
   |some (off,ft)=>match size? cx ft with
    |some n=>if Ai v.cells==n&&Nat.ble (off+n) (Ai cs) then Sa cx t (Dd cs off v.cells) ps else none
    |none=>none
   |none=>none
  |some ⟨.array _ e,_,_,_⟩ =>
   match size? cx e with
   |some n=>if Ai v.cells==n&&Nat.ble (i * n+n) (Ai cs) then Sa cx t (Dd cs (i * n) v.cells) ps else none
   |none=>none
  |_=>none
def Gr(cx:Cx)(σ:Sy)(T:List Nat):List (Nat×Operand)->Option (List (Nat×SV))
 | []=>some []
 |(i,x) :: ps=>match rd cx σ T x,Gr cx σ T ps with
  |some v,some vs=>some ((i,v) :: vs)
  |_,_=>none
def Amr(cx:Cx)(t:TypeId):SV->SV
 |.sl (.l true) (.l 0) 0 f=>match look t cx.tt with
  |some ⟨.slice e,_,_,_⟩=>match size? cx e with
   |some n=>.sl (.l true) (.l 0) n λ_=>[]
   |none=>.sl (.l true) (.l 0) 0 f
  |_=>.sl (.l true) (.l 0) 0 f
 |v=>v
def gb(cx:Cx)(σ:Sy)(T:List Nat)(t:TypeId)(x:Operand):Option SV :=
 match rd cx σ T x with
 |some v=>some (Amr cx t v)
 |none=>none
def Gw(cx:Cx)(σ:Sy)(T:List Nat):List Operand->List TypeId->Option (List SV)
 | [],_=>some []
 |x :: xs,t :: ts=>match gb cx σ T t x,Gw cx σ T xs ts with
  |some v,some vs=>some (v :: vs)
  |_,_=>none
 |x :: xs,[]=>match rd cx σ T x,Gw cx σ T xs [] with
  |some v,some vs=>some (v :: vs)
  |_,_=>none
def norm(D:Dn):SV->SV
 |.int k t=>.int k (.a (D.i t))
 |.bool b=>.bool (.a (D.b b))
 |.sl nl n sz f=>.sl (.a (D.b nl)) (.a (D.i n)) sz f
 |.dO nl n sz f h=>.dO (.a (D.b nl)) (.a (D.i n)) sz f h
 |.bV nl n h=>.bV (.a (D.b nl)) (.a (D.i n)) h
 |.cN n h j off=>.cN (.a (D.i n)) h j off
 |.sL b=>.sL (.a (D.b b))
 |.cR nl n g h=>.cR (.a (D.b nl)) (.a (D.i n)) (.a (D.i g)) h
 |.agg cs=>.agg (aO D cs)
 |.aI vs=>.aI (aO D vs)
 |.fJ f vs=>.fJ f (aO D vs)
 |.gS f vs=>.gS f (aO D vs)
 |v=>v
 where aO (D:Dn):List SV->List SV
 | []=>[]
 |c :: cs=>norm D c :: aO D cs
def loose:SV->SV
 |.dO nl n sz f _=>.sl nl n sz f
 |.agg cs=>.agg (aH cs)
 |.aI vs=>.aI (aH vs)
 |.fJ f vs=>.fJ f (aH vs)
 |.gS f vs=>.gS f (aH vs)
 |v=>v
 where aH:List SV->List SV
 | []=>[]
 |c :: cs=>loose c :: aH cs
end Go.Sx
