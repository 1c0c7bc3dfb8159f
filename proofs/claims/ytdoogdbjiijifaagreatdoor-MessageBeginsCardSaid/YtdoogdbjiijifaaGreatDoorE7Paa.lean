/- A part of the proof: contracts of functions, or the executor and its soundness. No conditions. -/
import Derived.WalkKit
import Derived.WalkSpells
import Derived.WalkLawsBesides
import Derived.Lib.Strings
namespace Go
theorem QA:type_of%@List.getElem?_eq_getElem:=@List.getElem?_eq_getElem
theorem QB:type_of%@Bool.and_eq_true:=@Bool.and_eq_true
theorem QC:type_of%@List.getD_eq_getElem?_getD:=@List.getD_eq_getElem?_getD
theorem QD:type_of%@if_neg:=@if_neg
theorem QE:type_of%@if_pos:=@if_pos
theorem QF:type_of%@List.mem_of_getElem?:=@List.mem_of_getElem?
theorem QG:type_of%@Array.getElem?_toList:=@Array.getElem?_toList
theorem QH:type_of%@Nat.mul_le_mul_right:=@Nat.mul_le_mul_right
theorem QJ:type_of%@List.getElem?_append_left:=@List.getElem?_append_left
theorem QK:type_of%@Nat.le_refl:=@Nat.le_refl
theorem QL:type_of%@List.getElem?_take:=@List.getElem?_take
theorem QM:type_of%@Array.getD_eq_getD_getElem?:=@Array.getD_eq_getD_getElem?
theorem QN:type_of%@decide_eq_true_eq:=@decide_eq_true_eq
theorem QO:type_of%@Option.map_some:=@Option.map_some
theorem QP:type_of%@List.getElem?_map:=@List.getElem?_map
theorem QQ:type_of%@List.eq_nil_of_length_eq_zero:=@List.eq_nil_of_length_eq_zero
theorem QR:type_of%@Bool.false_eq_true:=@Bool.false_eq_true
theorem QS:type_of%@of_decide_eq_true:=@of_decide_eq_true
theorem QT:type_of%@List.length_cons:=@List.length_cons
theorem QU:type_of%@List.getElem?_append_right:=@List.getElem?_append_right
theorem QV:type_of%@List.getElem?_eq_none:=@List.getElem?_eq_none
theorem QW:type_of%@List.length_append:=@List.length_append
theorem QX:type_of%@List.mem_cons_of_mem:=@List.mem_cons_of_mem
theorem QY:type_of%@List.mem_cons_self:=@List.mem_cons_self
theorem QZ:type_of%@of_decide_eq_false:=@of_decide_eq_false
theorem XA:type_of%@Nat.le_of_ble_eq_true:=@Nat.le_of_ble_eq_true
theorem XB:type_of%@Option.getD_some:=@Option.getD_some
theorem XD:type_of%@Nat.zero_add:=@Nat.zero_add
theorem XG:type_of%@decide_eq_false_iff_not:=@decide_eq_false_iff_not
theorem XI:type_of%@beq_iff_eq:=@beq_iff_eq
theorem XJ:type_of%@Nat.add_mul:=@Nat.add_mul
theorem XK:type_of%@Bool.not_eq_true':=@Bool.not_eq_true'
theorem XL:type_of%@List.getElem?_drop:=@List.getElem?_drop
theorem XM:type_of%@List.drop_eq_nil_of_le:=@List.drop_eq_nil_of_le
theorem XN:type_of%@Array.ext':=@Array.ext'
theorem XO:type_of%@Nat.le_trans:=@Nat.le_trans
theorem XP:type_of%@Array.getElem?_eq_getElem:=@Array.getElem?_eq_getElem
theorem XQ:type_of%@List.getElem_mem:=@List.getElem_mem
theorem XR:type_of%@Nat.lt_of_lt_of_le:=@Nat.lt_of_lt_of_le
theorem XS:type_of%@List.length_set:=@List.length_set
theorem XU:type_of%@Bool.or_eq_false_iff:=@Bool.or_eq_false_iff
theorem XV:type_of%@List.length_nil:=@List.length_nil
theorem XW:type_of%@List.length_map:=@List.length_map
theorem XX:type_of%@Array.getElem?_setIfInBounds_ne:=@Array.getElem?_setIfInBounds_ne
theorem XY:type_of%@List.drop_eq_getElem_cons:=@List.drop_eq_getElem_cons
theorem XZ:type_of%@Array.getElem?_modify:=@Array.getElem?_modify
theorem ZA:type_of%@Nat.add_zero:=@Nat.add_zero
theorem ZB:type_of%@Bool.or_eq_true:=@Bool.or_eq_true
theorem ZC:type_of%@Bool.eq_iff_iff:=@Bool.eq_iff_iff
theorem ZD:type_of%@Nat.zero_le:=@Nat.zero_le
theorem ZE:type_of%@List.append_assoc:=@List.append_assoc
theorem ZF:type_of%@List.length_take:=@List.length_take
theorem ZG:type_of%@List.getElem?_set_ne:=@List.getElem?_set_ne
theorem ZH:type_of%@List.dropWhile_cons_of_neg:=@List.dropWhile_cons_of_neg
theorem ZI:type_of%@Nat.add_sub_cancel_left:=@Nat.add_sub_cancel_left
theorem ZJ:type_of%@List.getElem?_cons_succ:=@List.getElem?_cons_succ
theorem ZK:type_of%@List.getElem?_set:=@List.getElem?_set
theorem ZL:type_of%@List.getElem?_cons_zero:=@List.getElem?_cons_zero
theorem ZM:type_of%@Nat.blt_eq:=@Nat.blt_eq
theorem ZN:type_of%@List.filterMap_nil:=@List.filterMap_nil
theorem ZO:type_of%@List.mem_cons:=@List.mem_cons
theorem ZP:type_of%@Int.toNat_natCast:=@Int.toNat_natCast
theorem ZQ:type_of%@List.length_drop:=@List.length_drop
theorem ZR:type_of%@List.drop_length:=@List.drop_length
theorem ZS:type_of%@Nat.lt_or_ge:=@Nat.lt_or_ge
theorem ZT:type_of%@List.take_of_length_le:=@List.take_of_length_le
theorem ZU:type_of%@Array.toList_map:=@Array.toList_map
theorem ZV:type_of%@Option.getD_none:=@Option.getD_none
theorem ZW:type_of%@List.getElem?_toArray:=@List.getElem?_toArray
theorem ZX:type_of%@List.length_filter_le:=@List.length_filter_le
theorem ZY:type_of%@Array.getElem?_setIfInBounds_self_of_lt:=@Array.getElem?_setIfInBounds_self_of_lt
theorem ZZ:type_of%@List.idxOf?_eq_some_iff:=@List.idxOf?_eq_some_iff
theorem YA:type_of%@Nat.le_mul_of_pos_right:=@Nat.le_mul_of_pos_right
theorem YB:type_of%@Array.getElem?_append_left:=@Array.getElem?_append_left
theorem YC:type_of%@List.getElem?_append:=@List.getElem?_append
theorem YD:type_of%@Option.bind_some:=@Option.bind_some
theorem YE:type_of%@List.filterMap_cons:=@List.filterMap_cons
theorem YF:type_of%@Nat.mod_lt:=@Nat.mod_lt
theorem YH:type_of%@List.mem_append:=@List.mem_append
theorem YI:type_of%@Nat.mul_comm:=@Nat.mul_comm
theorem YJ:type_of%@Bool.not_eq_false':=@Bool.not_eq_false'
theorem YK:type_of%@Int.le_refl:=@Int.le_refl
theorem YL:type_of%@List.filter_cons:=@List.filter_cons
theorem YM:type_of%@Nat.le_add_right:=@Nat.le_add_right
theorem YN:type_of%@Bool.not_true:=@Bool.not_true
theorem YO:type_of%@List.getElem?_set_self:=@List.getElem?_set_self
theorem YP:type_of%@Array.all_eq_true_iff_forall_mem:=@Array.all_eq_true_iff_forall_mem
theorem YQ:type_of%@List.dropWhile_cons_of_pos:=@List.dropWhile_cons_of_pos
theorem YR:type_of%@Int.natCast_mul:=@Int.natCast_mul
theorem YS:type_of%@List.append_nil:=@List.append_nil
theorem YT:type_of%@Array.mem_of_getElem?:=@Array.mem_of_getElem?
theorem YU:type_of%@List.singleton_append:=@List.singleton_append
theorem YV:type_of%@Bool.and_eq_false_iff:=@Bool.and_eq_false_iff
theorem YW:type_of%@List.length_singleton:=@List.length_singleton
theorem YX:type_of%@Nat.eq_zero_or_pos:=@Nat.eq_zero_or_pos
theorem YY:type_of%@Nat.pos_of_ne_zero:=@Nat.pos_of_ne_zero
theorem YZ:type_of%@Nat.pow_succ:=@Nat.pow_succ
theorem UA:type_of%@List.foldl_cons:=@List.foldl_cons
theorem UB:type_of%@List.take_succ_cons:=@List.take_succ_cons
theorem UC:type_of%@Nat.sub_self:=@Nat.sub_self
theorem UD:type_of%@Nat.add_assoc:=@Nat.add_assoc
theorem UE:type_of%@List.map_cons:=@List.map_cons
theorem UF:type_of%@Nat.le_of_not_lt:=@Nat.le_of_not_lt
theorem UG:type_of%@List.zip_cons_cons:=@List.zip_cons_cons
theorem UH:type_of%@List.mem_singleton:=@List.mem_singleton
theorem UI:type_of%@Option.map_none:=@Option.map_none
theorem UJ:type_of%@Nat.ne_of_lt:=@Nat.ne_of_lt
theorem UK:type_of%@List.size_toArray:=@List.size_toArray
theorem UL:type_of%@Nat.lt_trichotomy:=@Nat.lt_trichotomy
theorem UM:type_of%@Bool.false_or:=@Bool.false_or
theorem UN:type_of%@Array.length_toList:=@Array.length_toList
theorem UO:type_of%@List.getElem?_range:=@List.getElem?_range
theorem UP:type_of%@List.replicate_succ:=@List.replicate_succ
theorem UQ:type_of%@Array.getElem?_push:=@Array.getElem?_push
theorem UR:type_of%@List.drop_drop:=@List.drop_drop
theorem US:type_of%@Nat.lt_succ_self:=@Nat.lt_succ_self
theorem UT:type_of%@UInt8.toNat_ofNat':=@UInt8.toNat_ofNat'
theorem UU:type_of%@Nat.div_add_mod:=@Nat.div_add_mod
theorem UW:type_of%@decide_eq_false:=@decide_eq_false
theorem UX:type_of%@Nat.div_lt_iff_lt_mul:=@Nat.div_lt_iff_lt_mul
theorem UY:type_of%@List.take_append_drop:=@List.take_append_drop
theorem UZ:type_of%@List.ext_getElem?:=@List.ext_getElem?
theorem VA:type_of%@List.flatten_cons:=@List.flatten_cons
theorem VC:type_of%@List.mem_of_mem_take:=@List.mem_of_mem_take
theorem VD:type_of%@List.all_eq_true:=@List.all_eq_true
theorem VE:type_of%@List.mem_flatMap:=@List.mem_flatMap
theorem VF:type_of%@Nat.zero_mul:=@Nat.zero_mul
theorem VG:type_of%@Nat.mod_eq_of_lt:=@Nat.mod_eq_of_lt
theorem VH:type_of%@Nat.succ_pos:=@Nat.succ_pos
theorem VJ:type_of%@List.map_congr_left:=@List.map_congr_left
theorem VK:type_of%@Bool.true_and:=@Bool.true_and
theorem VL:type_of%@Bool.or_assoc:=@Bool.or_assoc
theorem VM:type_of%@List.mapM_cons:=@List.mapM_cons
theorem VN:type_of%@Array.size_map:=@Array.size_map
theorem VO:type_of%@Nat.ne_of_gt:=@Nat.ne_of_gt
theorem VP:type_of%@Bool.true_or:=@Bool.true_or
theorem VQ:type_of%@Bool.or_false:=@Bool.or_false
theorem VS:type_of%@Nat.mul_one:=@Nat.mul_one
end Go
namespace Go.Sx
inductive ST where
 |a (n:Int)
 |l (n:Int)
 |bin (op:BinOp) (k:IntKind) (x y:ST)
 |cv (k:IntKind) (x:ST)
 |len (s:List UInt8)
def Cp(op:BinOp)(k:IntKind)(x y:Int):Int :=
 match op with
 |.add=>k.wrap (x+y)
 |.sub=>k.wrap (x-y)
 |.mul=>k.wrap (x * y)
 |.quo=>k.wrap (x.tdiv y)
 |.rem=>x.tmod y
 |.and=>k.wrap (BitVec.ofInt k.bits x &&& BitVec.ofInt k.bits y).toNat
 |.or=>k.wrap (BitVec.ofInt k.bits x ||| BitVec.ofInt k.bits y).toNat
 |.xor=>k.wrap (BitVec.ofInt k.bits x ^^^ BitVec.ofInt k.bits y).toNat
 |.andNot=>k.wrap (BitVec.ofInt k.bits x &&& ~~~BitVec.ofInt k.bits y).toNat
 |.shl=>k.wrap (x * 2 ^ (min y.toNat k.bits))
 |.shr=>x.fdiv (2 ^ (min y.toNat k.bits))
 |_=>0
def ST.den:ST->Int
 |.a n=>n
 |.l n=>n
 |.bin op k x y=>Cp op k x.den y.den
 |.cv k x=>k.wrap x.den
 |.len s=>s.length
def Bl(op:BinOp)(x y:Int):Bool :=
 match op with
 |.eql=>x==y
 |.neq=>x != y
 |.lss=>decide (x<y)
 |.leq=>decide (x<=y)
 |.gtr=>decide (y<x)
 |.geq=>decide (y<=x)
 |_=>false
inductive BT where
 |a (b:Bool)
 |l (b:Bool)
 |cmp (op:BinOp) (x y:ST)
 |not (x:BT)
 |and (x y:BT)
 |or (x y:BT)
 |beq (x y:BT)
 |seq (s t:List UInt8)
def BT.den:BT->Bool
 |.a b=>b
 |.l b=>b
 |.cmp op x y=>Bl op x.den y.den
 |.not x=>!x.den
 |.and x y=>x.den&&y.den
 |.or x y=>x.den||y.den
 |.beq x y=>x.den==y.den
 |.seq s t=>s==t
inductive SV where
 |int (k:IntKind) (t:ST)
 |bool (b:BT)
 |str (s:List UInt8)
 |iC
 |raw (v:Value)
 |fn (f:FuncId)
 |sl (nl:BT) (n:ST) (sz:Nat) (f:Nat->List SV)
 |dB (cs:List SV)
 |dP (n sz:Nat) (f:Nat->List SV)
 |agg (cs:List SV)
 |tup (vs:List SV)
 |fI (f:FuncId) (cs:List SV)
 |ptr (h off:Nat)
 |eD (nl:BT) (n:ST) (sz:Nat) (f:Nat->List SV) (h:Nat)
 |dM (h:Nat)
 |cU (h j off:Nat)
 |bY (nl:BT) (n:ST) (h:Nat)
 |cK (n:ST) (h j off:Nat)
 |bP (h:Nat)
 |yv (h:Nat)
 |fB (nl:BT) (n g:ST) (h:Nat)
 |jS (n a:ST) (h:Nat)
 |ifc (b:BT)
structure LC where
 fn:FuncId
 ps:Array Tmp
 assign:Code
 body:Code
 n:Nat
inductive Jp where
 |ret
 |exit (id:Nat)
 |goto (l:Nat)
def Jp.code:Jp->Code
 |.ret=>.ret
 |.exit id=>.exit id
 |.goto l=>.goto l
inductive Hl where
 |fresh
 |gone
 |aE (ty:TypeId) (cs:List SV)
 |tail (ty:TypeId) (n:ST) (sz:Nat)
 |row (ty:TypeId) (n:ST) (sz:Nat) (f:Nat->List SV)
 |own (ty:TypeId) (n:ST) (sz:Nat) (gr:Bool) (f:Nat->List SV)
 |lZ (T e:TypeId) (s:List UInt8)
 |dC (F:List UInt8->Bool)
 |vec (ty:TypeId) (n g:ST) (sz:Nat) (f:Nat->List SV)
 |bK (c:LC) (fr:List (Nat×Option SV)) (st:Nat) (pd:Option Jp)
structure G where
 tg:List Nat
 gt:Option Nat
 gf:Option Nat
 v:SV
structure Sy where
 fr:List (Option G)
 hp:List Hl
 gm:List BT
structure Dn where
 i:ST->Int
 b:BT->Bool
def dn:Dn:=⟨ST.den,BT.den⟩
inductive TK where
 |int (k:IntKind)
 |bool
 |string
 |pointer (e:TypeId)
 |slice (e:TypeId)
 |struct (fs:List (Nat×TypeId))
 |array (n:Nat) (e:TypeId)
 |map (k e:TypeId)
 |iface
 |other
structure TI where
 k:TK
 size:Nat
 bytes:Nat
 zero:List SV
abbrev aD:=Dn->List SV->List Hl->(SV->List Hl->Prop)->Prop
inductive Gh where
 |freeze (s:Nat)
 |attach (s:Nat) (e:TypeId)
 |hold (s k e:Nat)
 |own (s e:Nat)
 |share (s:Nat)
 |lZ (s e:Nat)
 |rX (s:Nat)
 |vec (s e:Nat)
 |wC (s k e:Nat)
 |jE (s:Nat)
 |gS (s k:Nat)
 |JX (s:Nat)
 |oD (s:Nat)
structure Cx where
 D:Dn
 tt:List (Nat×TI)
 fC:List (Nat×aD)
 gl:List (Nat×SV)
 eqs:List TypeId
 gh:List (Nat×List Gh)
 its:List (Nat×(aD->aD)):=[]
 yl:List aD:=[]
def look{α:Type}(k:Nat):List (Nat×α)->Option α
 | []=>none
 |(j,x) :: l=>if j==k then some x else look k l
def Au{α:Type}:List (Option α)->Nat->Option α
 | [],_=>none
 |x :: _,0=>x
 |_ :: l,n+1=>Au l n
def nth{α:Type}:List α->Nat->Option α
 | [],_=>none
 |x :: _,0=>some x
 |_ :: l,n+1=>nth l n
def A0{α:Type}:List α->Nat->α->List α
 | [],_,_=>[]
 |_ :: l,0,v=>v :: l
 |x :: l,n+1,v=>x :: A0 l n v
def takeN{α:Type}:Nat->List α->List α
 |0,_=>[]
 |_+1,[]=>[]
 |n+1,x :: l=>x :: takeN n l
def By{α:Type}:Nat->List α->List α
 |0,l=>l
 |_+1,[]=>[]
 |n+1,_ :: l=>By n l
def Ag{α:Type}:List α->Nat
 | []=>0
 |_ :: l=>Ag l+1
def B9{α:Type}:List α->Nat->List α->List α
 |l,_,[]=>l
 |l,off,v :: vs=>B9 (A0 l off v) (off+1) vs
def Dx(x:Nat):List Nat->Bool
 | []=>false
 |y :: l=>y==x||Dx x l
def W5:List Nat->List Nat->Bool
 | [],_=>true
 |x :: l,t=>Dx x t&&W5 l t
def SV.cells:SV->List SV
 |.agg cs=>cs
 |v=>[v]
def DG:SV->Bool
 |.agg _|.tup _=>false
 |.raw v=>v.oneCell'
 |_=>true
def D8:List SV->Bool
 | []=>true
 |c :: cs=>DG c&&D8 cs
def ofConst:Value->Option SV
 |.int k n=>some (.int k (.l n))
 |.bool b=>some (.bool (.l b))
 |.string s=>some (.str s.data.toList)
 |.pointer none=>some .iC
 |.slice none 0 0=>some (.sl (.l true) (.l 0) 0 λ_=>[])
 |.nilIface=>some (.raw .nilIface)
 |.nilFunc=>some (.raw .nilFunc)
 |.map none=>some (.raw (.map none))
 |.tuple vs=>if vs.size==0 then some (.tup []) else none
 |_=>none
def rd(cx:Cx)(σ:Sy)(T:List Nat):Operand->Option SV
 |.tmp s =>
  match Au σ.fr s with
  |some g=>if W5 g.tg T then some g.v else none
  |none=>none
 |.const v=>ofConst v
 |.global g=>look g cx.gl
 |.func f=>some (.fn f)
structure zX(i n:Int):Prop where
 lo:0<=i
 hi:i<n
structure rp(j:Nat)(n:Int):Prop where
 h:(j:Int)<n
structure CU(j:Nat)(i:Int):Prop where
 h:(j:Int)=i
structure NZ(i:Int):Prop where
 h:i≠0
structure NN(i:Int):Prop where
 h:0<=i
structure z7(a b:List UInt8):Prop where
 h:(a.length:Int)+b.length<=9223372036854775807
structure rm(c:Int)(bytes:Nat):Prop where
 lo:0<=c
 mem:c * bytes<=140737488355328
 hi:c<=9223372036854775807
structure AJ(m:Int)(bytes:Nat):Prop where
 mem:m * bytes<=140737488355328
 hi:m<=9223372036854775807
structure Ahi(n n0 m:Int)(bytes:Nat):Prop where
 eq:n=n0
 mem:(n+m) * bytes<=140737488355328
 hi:n+m<=9223372036854775807
structure l8(a b n:Int):Prop where
 lo:0<=a
 le:a<=b
 hi:b<=n
structure LO(a b:Int)(s:List UInt8):Prop where
 lo:0<=a
 le:a<=b
 hi:b<=s.length
structure InS(i:Int)(s:List UInt8):Prop where
 lo:0<=i
 hi:i<s.length
structure MC(r a b:List UInt8):Prop where
 h:r=a++b
structure Ap1(r s:List UInt8)(a b:Int):Prop where
 h:r=(s.drop a.toNat).take (b.toNat-a.toNat)
structure Ahh(c:Int)(s:List UInt8)(i:Int):Prop where
 h:c=((s.getD i.toNat 0).toNat:Int)
structure oW(n n0:Int):Prop where
 h:n=n0
structure LZ(r a b:Int):Prop where
 h:r=max a b
structure LY(r a b:Int):Prop where
 h:r=min a b
structure Ko(F' F:List UInt8->Bool)(s:List UInt8)(b:Bool):Prop where
 h:∀k,F' k=if k=s then b else F k
structure AH(f':Nat->List SV)(r m n:Int)(g f:Nat->List SV):Prop where
 len:r=min m n
 lo:∀i:Nat,(i:Int)<r->f' i=g i
 hi:∀i:Nat,r<=(i:Int)->(i:Int)<n->f' i=f i
structure z6(f':Nat->List SV)(n':Int)(f:Nat->List SV)(a b:Int):Prop where
 len:n'=b-a
 row:∀i j:Nat,(j:Int)=i+a->f' i=f j
structure Ap3(f' f:Nat->List SV)(j:Nat)(cs:List SV):Prop where
 at_:f' j=cs
 other:∀i:Nat,i≠j->f' i=f i
structure AE(f':Nat->List SV)(n' m:Int)(g:Nat->List SV):Prop where
 len:n'=m
 row:∀j:Nat,(j:Int)<m->f' j=g j
structure Ts(f':Nat->List SV)(n' n m:Int)(f g:Nat->List SV):Prop where
 len:n'=n+m
 lo:∀i:Nat,(i:Int)<n->f' i=f i
 hi:∀i j:Nat,(i:Int)=n+j->(j:Int)<m->f' i=g j
structure ri(n:Int)(f2 f:Nat->List SV):Prop where
 h:∀i:Nat,(i:Int)<n->f2 i=f i
structure Flat(f:Nat->List SV)(n:Int)(sz:Nat)(cs:List SV):Prop where
 len:(cs.length:Int)=n * sz
 h:∀i:Nat,(i:Int)<n->f i=(cs.drop (i * sz)).take sz
structure Zk(f:Nat->List SV)(rows:List (List SV)):Prop where
 h:∀(i:Nat) (r:List SV),rows[i]?=some r->f i=r
def zt(a b:List UInt8)(K:List UInt8->Prop):Prop:=∀r,MC r a b->K r
def lv(s:List UInt8)(a b:Int)(K:List UInt8->Prop):Prop:=∀r,Ap1 r s a b->K r
def ly(s:List UInt8)(i:Int)(K:Int->Prop):Prop:=∀c,Ahh c s i->K c
def zo(a b:Int)(K:Int->Prop):Prop:=∀r,LZ r a b->K r
def zp(F:List UInt8->Bool)(s:List UInt8)(b:Bool)(K:(List UInt8->Bool)->Prop):Prop:=∀F',Ko F' F s b->K F'
def zn(a b:Int)(K:Int->Prop):Prop:=∀r,LY r a b->K r
def lx(m n:Int)(g f:Nat->List SV)(K:(Nat->List SV)->Int->Prop):Prop:=∀f' r,AH f' r m n g f->K f' r
def zl(f:Nat->List SV)(a b:Int)(K:(Nat->List SV)->Int->Prop):Prop:=∀f' n',z6 f' n' f a b->K f' n'
def PW(f:Nat->List SV)(j:Nat)(cs:List SV)(K:(Nat->List SV)->Prop):Prop:=∀f',Ap3 f' f j cs->K f'
def zm(m:Int)(g:Nat->List SV)(K:(Nat->List SV)->Int->Prop):Prop:=∀f' n',AE f' n' m g->K f' n'
def Abe(n m:Int)(f g:Nat->List SV)(K:(Nat->List SV)->Int->Prop):Prop:=∀f' n',Ts f' n' n m f g->K f' n'
structure AI(f' f:Nat->List SV)(a:Int)(z:List SV):Prop where
 lo:∀i:Nat,(i:Int)<a->f' i=f i
 hi:∀i:Nat,a<=(i:Int)->f' i=z
def zq(f:Nat->List SV)(a:Int)(z:List SV)(K:(Nat->List SV)->Prop):Prop:=∀f',AI f' f a z->K f'
structure LX(g' g:Int):Prop where
 h:g'=g+1
def Apw(g:Int)(K:Int->Prop):Prop:=∀g',LX g' g->K g'
def Apx(rows:List (List SV))(K:(Nat->List SV)->Prop):Prop:=∀f,Zk f rows->K f
def dY(s:List UInt8)(i:Nat):List SV:=[.int .u8 (.a ((s.getD i 0).toNat:Int))]
structure Hc(n:Int)(f:Nat->List SV):Prop where
 nn:0<=n
 h:∀i:Nat,(i:Int)<n->∃t:ST,f i=[.int .u8 t]/\0<=t.den/\t.den<256
structure Lw(r:List UInt8)(n:Int)(f:Nat->List SV):Prop where
 len:(r.length:Int)=n
 row:∀(i:Nat) (t:ST),(i:Int)<n->f i=[.int .u8 t]->((r.getD i 0).toNat:Int)=t.den
structure LP(s:List UInt8):Prop where
 h:s.length<=9223372036854775807
structure mf(f:Nat->List SV)(s:List UInt8):Prop where
 h:f=dY s
def Ae5(s:List UInt8)(K:(Nat->List SV)->Prop):Prop:=∀f,mf f s->K f
def Apu(n:Int)(f:Nat->List SV)(K:List UInt8->Prop):Prop:=∀r,Lw r n f->K r
def Ob(D:Dn)(gm:List BT):List Nat->Prop->Prop
 | [],A=>A
 |i :: T,A=>match nth gm i with
  |some b=>D.b b=true->Ob D gm T A
  |none=>Ob D gm T A
def pO(D:Dn)(gm:List BT)(T:List Nat)(i:Int)(K:Nat->Prop):Prop :=
 match T with
 | []=>∀j,CU j i->K j
 |T=>∀j,Ob D gm T (CU j i)->K j
inductive Ef where
 |set (h off:Nat) (vs:List SV)
 |put (h:Nat) (hl:Hl)
def DH(hp:List Hl)(h:Nat)(hl:Hl):List Hl :=
 if h==Ag hp then hp++[hl] else A0 hp h hl
def zV(hp:List Hl):Ef->List Hl
 |.set h off vs =>
  match nth hp h with
  |some (.aE ty cs)=>A0 hp h (.aE ty (B9 cs off vs))
  |_=>hp
 |.put h hl=>DH hp h hl
def Mp(hp:List Hl):List Ef->List Hl
 | []=>hp
 |e :: es=>Mp (zV hp e) es
structure Out where
 v:SV
 gF:List Ef
 uT:List Nat     -- IS read whole
 AX:List (Nat×Nat×Nat)   -- cells read: OL,from,OD many
def size?(cx:Cx)(t:TypeId):Option Nat:=(look t cx.tt).map (·.size)
def cG(cx:Cx)(t:TypeId):Bool :=
 match look t cx.tt with
 |some ⟨.struct _,_,_,_⟩|some ⟨.array _ _,_,_,_⟩=>true
 |_=>false
def pack(agg:Bool)(cs:List SV):Option SV :=
 if agg then some (.agg cs) else match cs with
  | [c]=>some c
  |_=>none
def gE(cx:Cx)(t:TypeId)(i:Nat):Option (Nat×TypeId) :=
 match look t cx.tt with
 |some ⟨.struct fs,_,_,_⟩=>nth fs i
 |_=>none
def Sc(cx:Cx)(t:TypeId)(cs:List SV):List (Nat×SV)->Option (List SV)
 | []=>some cs
 |(i,v) :: ps =>
  match look t cx.tt with
  |some ⟨.struct fs,_,_,_⟩ =>
   match nth fs i with
   |some (off,ft)=>match size? cx ft with
    |some n=>if Ag v.cells==n&&Nat.ble (off+n) (Ag cs) then Sc cx t (B9 cs off v.cells) ps else none
    |none=>none
   |none=>none
  |some ⟨.array _ e,_,_,_⟩ =>
   match size? cx e with
   |some n=>if Ag v.cells==n&&Nat.ble (i * n+n) (Ag cs) then Sc cx t (B9 cs (i * n) v.cells) ps else none
   |none=>none
  |_=>none
def G4(cx:Cx)(σ:Sy)(T:List Nat):List (Nat×Operand)->Option (List (Nat×SV))
 | []=>some []
 |(i,x) :: ps=>match rd cx σ T x,G4 cx σ T ps with
  |some v,some vs=>some ((i,v) :: vs)
  |_,_=>none
def Am2(cx:Cx)(t:TypeId):SV->SV
 |.sl (.l true) (.l 0) 0 f=>match look t cx.tt with
  |some ⟨.slice e,_,_,_⟩=>match size? cx e with
   |some n=>.sl (.l true) (.l 0) n λ_=>[]
   |none=>.sl (.l true) (.l 0) 0 f
  |_=>.sl (.l true) (.l 0) 0 f
 |v=>v
def zM(cx:Cx)(σ:Sy)(T:List Nat)(t:TypeId)(x:Operand):Option SV :=
 match rd cx σ T x with
 |some v=>some (Am2 cx t v)
 |none=>none
def I7(cx:Cx)(σ:Sy)(T:List Nat):List Operand->List TypeId->Option (List SV)
 | [],_=>some []
 |x :: xs,t :: ts=>match zM cx σ T t x,I7 cx σ T xs ts with
  |some v,some vs=>some (v :: vs)
  |_,_=>none
 |x :: xs,[]=>match rd cx σ T x,I7 cx σ T xs [] with
  |some v,some vs=>some (v :: vs)
  |_,_=>none
def norm(D:Dn):SV->SV
 |.int k t=>.int k (.a (D.i t))
 |.bool b=>.bool (.a (D.b b))
 |.sl nl n sz f=>.sl (.a (D.b nl)) (.a (D.i n)) sz f
 |.eD nl n sz f h=>.eD (.a (D.b nl)) (.a (D.i n)) sz f h
 |.bY nl n h=>.bY (.a (D.b nl)) (.a (D.i n)) h
 |.cK n h j off=>.cK (.a (D.i n)) h j off
 |.ifc b=>.ifc (.a (D.b b))
 |.fB nl n g h=>.fB (.a (D.b nl)) (.a (D.i n)) (.a (D.i g)) h
 |.agg cs=>.agg (aN D cs)
 |.tup vs=>.tup (aN D vs)
 |.fI f vs=>.fI f (aN D vs)
 |v=>v
 where aN (D:Dn):List SV->List SV
 | []=>[]
 |c :: cs=>norm D c :: aN D cs
def loose:SV->SV
 |.eD nl n sz f _=>.sl nl n sz f
 |.agg cs=>.agg (aF cs)
 |.tup vs=>.tup (aF vs)
 |.fI f vs=>.fI f (aF vs)
 |v=>v
 where aF:List SV->List SV
 | []=>[]
 |c :: cs=>loose c :: aF cs
def out(K:Out->Prop)(v:SV):Prop:=K ⟨v,[],[],[]⟩
def r8(K:Out->Prop):Option SV->Prop
 |some v=>K ⟨v,[],[],[]⟩
 |none=>False
def arith:BinOp->Bool
 |.add|.sub|.mul|.and|.or|.xor|.andNot=>true
 |_=>false
def Ans:BinOp->Bool
 |.eql|.neq|.lss|.leq|.gtr|.geq=>true
 |_=>false
def S8(op:BinOp):ST->ST->BT
 |.l m,.l n=>.l (Bl op m n)
 |x,y=>.cmp op x y
def AU:BT->BT
 |.l b=>.l (!b)
 |x=>.not x
def MF(op:BinOp)(k:IntKind):ST->ST->ST
 |.l m,.l n=>.l (Cp op k m n)
 |x,y=>.bin op k x y
def mj:BT->BT->BT
 |.l true,y=>y
 |x,.l true=>x
 |x,y=>.and x y
def ry(cx:Cx)(g:TypeId->List SV->List SV->Option BT)(xs ys:List SV):List (Nat×TypeId)->Option BT
 | []=>some (.l true)
 |(fo,ft) :: fs =>
  match size? cx ft with
  |some m=>match g ft (takeN m (By fo xs)) (takeN m (By fo ys)),ry cx g xs ys fs with
   |some a,some b=>some (mj a b)
   |_,_=>none
  |none=>none
def AK(cx:Cx):Nat->TypeId->List SV->List SV->Option BT
 |0,_,_,_=>none
 |n+1,t,xs,ys =>
  match look t cx.tt with
  |some ⟨.int _,_,_,_⟩=>match xs,ys with
   | [.int k a],[.int k' b]=>if k=k' then some (S8 .eql a b) else none
   |_,_=>none
  |some ⟨.bool,_,_,_⟩=>match xs,ys with
   | [.bool a],[.bool b]=>some (.beq a b)
   |_,_=>none
  |some ⟨.string,_,_,_⟩=>match xs,ys with
   | [.str a],[.str b]=>some (.seq a b)
   |_,_=>none
  |some ⟨.struct fs,_,_,_⟩=>if Dx t cx.eqs then ry cx (AK cx n) xs ys fs else none
  |_=>none
def bf(cx:Cx)(a b:List UInt8):BT :=
 match look 999984 cx.gh with
 |some _=>.l (a==b)
 |none=>.seq a b
def cu:SV->Option BT
 |.sl nl _ _ _=>some nl
 |.eD nl _ _ _ _=>some nl
 |.bY nl _ _=>some nl
 |.fB nl _ _ _=>some nl
 |_=>none
def MP(op:BinOp)(b:BT)(K:Out->Prop):Prop :=
 match op with
 |.eql=>out K (.bool b)
 |.neq=>out K (.bool (AU b))
 |_=>False
def Anw:SV->Option BT
 |.ifc b=>some b
 |.raw .nilIface=>some (.l true)
 |_=>none
def Zp(cx:Cx)(op:BinOp)(t:TypeId)(x:SV)(y:Operand)(K:Out->Prop):Prop :=
 match y,Anw x,look t cx.tt with
 |.const .nilIface,some b,some ⟨.iface,_,_,_⟩=>MP op b K
 |_,_,_=>False
def Zq(cx:Cx)(gm:List BT)(T:List Nat)(op:BinOp)(t:TypeId)(x y:SV)(K:Out->Prop):Prop :=
 match x,y with
 |.int k a,.int k' b =>
  if arith op then (if k=k' then out K (.int k (MF op k a b)) else False)
  else if Ans op then (if k=k' then out K (.bool (S8 op a b)) else False)
  else match op with
   |.quo|.rem=>if k=k' then Ob cx.D gm T (NZ (cx.D.i b))/\out K (.int k (.bin op k a b)) else False
   |.shl|.shr=>Ob cx.D gm T (NN (cx.D.i b))/\out K (.int k (.bin op k a b))
   |_=>False
 |.bool a,.bool b =>
  match op,look t cx.tt with
  |.eql,some ⟨.bool,_,_,_⟩=>out K (.bool (.beq a b))
  |.neq,some ⟨.bool,_,_,_⟩=>out K (.bool (.not (.beq a b)))
  |_,_=>False
 |.str a,.str b =>
  match op with
  |.add=>Ob cx.D gm T (z7 a b)/\zt a b λr=>out K (.str r)
  |.eql=>out K (.bool (bf cx a b))
  |.neq=>out K (.bool (AU (bf cx a b)))
  |_=>False
 |.agg a,.agg b =>
  match op,Dx t cx.eqs&&cG cx t,AK cx 8 t a b with
  |.eql,true,some c=>out K (.bool c)
  |.neq,true,some c=>out K (.bool (AU c))
  |_,_,_=>False
 |x,.sl (.l true) (.l 0) 0 _ =>
  match cu x,look t cx.tt with
  |some nl,some ⟨.slice _,_,_,_⟩=>MP op nl K
  |_,_=>False
 |_,_=>False
def Ak:SV->Bool
 |.ptr .. | .eD .. | .dM .. | .cU .. | .fI .. | .bY .. | .cK .. | .bP .. | .yv .. | .fB .. | .jS ..=>false
 |.agg cs=>gU cs
 |.tup cs=>gU cs
 |_=>true
 where gU:List SV->Bool
 | []=>true
 |c :: cs=>Ak c&&gU cs
def Yc:Hl->Bool
 |.aE .. | .lZ ..=>true
 |_=>false
def ND:Hl->Bool
 |.own ..=>true
 |_=>false
def Ka(hp:List Hl):List SV->Nat->Option (List SV×List Nat×List Hl)
 | [],_=>some ([],[],[])
 |.ptr h off :: vs,n=>match nth hp h,Ka hp vs (n+1) with
  |some l,some (as,hs,ls)=>if Yc l&&!Dx h hs then some (.ptr n off :: as,h :: hs,l :: ls) else none
  |_,_=>none
 |v :: vs,n=>match Ak v,Ka hp vs n with
  |true,some (as,hs,ls)=>some (v :: as,hs,ls)
  |_,_=>none
def PX:List Nat->List Nat->Bool
 | [],_=>true
 |x :: l,t=>!Dx x t&&PX l t
def Fd(hp:List Hl):List SV->Nat->Option (List SV×List Nat×List Hl)
 | [],_=>some ([],[],[])
 |.ptr h off :: vs,n=>match nth hp h,Fd hp vs (n+1) with
  |some l,some (as,hs,ls)=>if Yc l&&!Dx h hs then some (.ptr n off :: as,h :: hs,l :: ls) else none
  |_,_=>none
 |.bY nl m h :: vs,n=>match nth hp h,Fd hp vs (n+1) with
  |some l,some (as,hs,ls)=>if ND l&&!Dx h hs then some (.bY nl m n :: as,h :: hs,l :: ls) else none
  |_,_=>none
 |.fI f cs :: vs,n=>match Ka hp cs n with
  |some (as1,cC,BA)=>match Fd hp vs (n+Ag cC) with
   |some (as,hs,ls)=>if PX cC hs then some (.fI f as1 :: as,cC++hs,BA++ls) else none
   |none=>none
  |none=>none
 |v :: vs,n=>match Ak v,Fd hp vs n with
  |true,some (as,hs,ls)=>some (v :: as,hs,ls)
  |_,_=>none
def Dv:List Nat->List Hl->List Ef
 |h :: hs,l :: ls=>.put h l :: Dv hs ls
 |_,_=>[]
def Gr:List Hl->Bool
 | []=>true
 |.aE _ cs :: ls=>Ak (.agg cs)&&Gr ls
 |.own .. :: ls=>Gr ls
 |.lZ .. :: ls=>Gr ls
 |.gone :: ls=>Gr ls
 |_ :: _=>false
def cO(D:Dn):List Hl->List Hl
 | []=>[]
 |.aE ty cs :: ls=>.aE ty (aF (norm.aN D cs)) :: cO D ls
 |.own ty n sz gr f :: ls=>.own ty (.a (D.i n)) sz gr f :: cO D ls
 |l :: ls=>l :: cO D ls
 where aF:=loose.aF
def Hp(m m':Nat):SV->Bool
 |.bY _ _ h=>Nat.ble m h&&Nat.blt h m'
 |.tup vs=>wW m m' vs
 |v=>Ak v
 where wW (m m':Nat):List SV->Bool
 | []=>true
 |c :: cs=>Hp m m' c&&wW m m' cs
def bw(m a:Nat):SV->SV
 |.bY nl n h=>.bY nl n (h-m+a)
 |.tup vs=>.tup (NR m a vs)
 |v=>v
 where NR (m a:Nat):List SV->List SV
 | []=>[]
 |c :: cs=>bw m a c :: NR m a cs
def Eo:Nat->List Hl->List Ef
 |_,[]=>[]
 |a,l :: ls=>.put a l :: Eo (a+1) ls
structure SLe(r:List UInt8)(n:Int):Prop where
 h:(r.length:Int)<=n\/r=[]
def Te(cx:Cx)(σ:Sy)(T:List Nat)(e:TypeId)(n:ST)(f:Nat->List SV)(K:Out->Prop):Prop :=
 match T,look e cx.tt with
 | [],some ⟨.int .u8,_,_,_⟩=>Hc (cx.D.i n) f/\Apu (cx.D.i n) f λr=>out K (.str r)
 |T,some ⟨.int .u8,_,_,_⟩=>Ob cx.D σ.gm T (Hc (cx.D.i n) f)/\∀r,SLe r (cx.D.i n)->Ob cx.D σ.gm T (Lw r (cx.D.i n) f)->out K (.str r)
 |_,_=>False
def iQ:SV->List Nat
 |.ptr h _=>[h]
 |.eD _ _ _ _ h=>[h]
 |.bY _ _ h=>[h]
 |.cK _ h _ _=>[h]
 |.bP h=>[h]
 |.fB _ _ _ h=>[h]
 |.jS _ _ h=>[h]
 |.yv h=>[h]
 |.agg cs=>uA cs
 |.tup cs=>uA cs
 |.fI _ cs=>uA cs
 |_=>[]
 where uA:List SV->List Nat
 | []=>[]
 |c :: cs=>iQ c++uA cs
def BK:List (Nat×Option SV)->List Nat
 | []=>[]
 |(_,some v) :: l=>iQ v++BK l
 |(_,none) :: l=>BK l
def xL:Hl->List Nat
 |.aE _ cs=>iQ.uA cs
 |.bK _ fr _ _=>BK fr
 |_=>[]
def nI(ρ:Nat->Nat):SV->SV
 |.ptr h o=>.ptr (ρ h) o
 |.eD nl n sz f h=>.eD nl n sz f (ρ h)
 |.bY nl n h=>.bY nl n (ρ h)
 |.cK n h j o=>.cK n (ρ h) j o
 |.bP h=>.bP (ρ h)
 |.fB nl n g h=>.fB nl n g (ρ h)
 |.jS n a h=>.jS n a (ρ h)
 |.yv h=>.yv (ρ h)
 |.agg cs=>.agg (wV ρ cs)
 |.tup cs=>.tup (wV ρ cs)
 |.fI f cs=>.fI f (wV ρ cs)
 |v=>v
 where wV (ρ:Nat->Nat):List SV->List SV
 | []=>[]
 |c :: cs=>nI ρ c :: wV ρ cs
def ue(ρ:Nat->Nat):List (Nat×Option SV)->List (Nat×Option SV)
 | []=>[]
 |(s,some v) :: l=>(s,some (nI ρ v)) :: ue ρ l
 |(s,none) :: l=>(s,none) :: ue ρ l
def lT(ρ:Nat->Nat):Hl->Hl
 |.aE ty cs=>.aE ty (nI.wV ρ cs)
 |.bK c fr st pd=>.bK c (ue ρ fr) st pd
 |l=>l
def Bw:SV->Bool
 |.dM _=>false
 |.cU ..=>false
 |.agg cs=>dR cs
 |.tup cs=>dR cs
 |.fI _ cs=>dR cs
 |_=>true
 where dR:List SV->Bool
 | []=>true
 |c :: cs=>Bw c&&dR cs
def I1:List (Nat×Option SV)->Bool
 | []=>true
 |(_,some v) :: l=>Bw v&&I1 l
 |(_,none) :: l=>I1 l
def Db:Hl->Bool
 |.aE _ cs=>Bw.dR cs
 |.bK _ fr _ _=>I1 fr
 |.tail ..=>true
 |.own ..=>true
 |.lZ ..=>true
 |.dC ..=>true
 |.vec ..=>true
 |.gone=>true
 |_=>false
def oH(D:Dn):Hl->Hl
 |.aE ty cs=>.aE ty (norm.aN D cs)
 |.tail ty n sz=>.tail ty (.a (D.i n)) sz
 |.own ty n sz gr f=>.own ty (.a (D.i n)) sz gr f
 |.vec ty n g sz f=>.vec ty (.a (D.i n)) (.a (D.i g)) sz f
 |l=>l
def Lu:List Nat->List Nat->List Nat
 |acc,[]=>acc
 |acc,h :: t=>Lu (if Dx h acc then acc else acc++[h]) t
def pz(hp:List Hl)(acc:List Nat):List Nat->List Nat
 | []=>acc
 |h :: t=>pz hp (match nth hp h with|some l=>Lu acc (xL l)|none=>acc) t
def reach(hp:List Hl):List Hl->List Nat->List Nat
 | [],acc=>acc
 |_ :: t,acc=>reach hp t (pz hp acc acc)
def H4:List Nat->Nat->Nat
 | [],_=>0
 |x :: l,h=>if x==h then 0 else H4 l h+1
def Wy(t:List Nat):List Nat->Bool
 | []=>true
 |x :: l=>Dx x t&&Wy t l
def Qd:List Nat->Bool
 | []=>true
 |x :: l=>!Dx x l&&Qd l
def sc(n:Nat):List Nat->Bool
 | []=>true
 |x :: l=>Nat.blt x n&&sc n l
def Vv(D:Dn)(hp:List Hl):List Nat->List Hl
 | []=>[]
 |h :: t=>(match nth hp h with|some l=>oH D l|none=>.gone) :: Vv D hp t
def Xi(g:Hl->Hl):List Hl->List Hl
 | []=>[]
 |l :: ls=>g l :: Xi g ls
def Mi(hs:List Nat):List Hl->Bool
 | []=>true
 |l :: ls=>Db l&&Wy hs (xL l)&&Mi hs ls
def MQ(n:Nat):List Hl->Bool
 | []=>true
 |l :: ls=>Db l&&sc n (xL l)&&MQ n ls
def Cb(hs:List Nat)(m M i:Nat):Nat:=if Nat.blt i m then (match nth hs i with|some k=>k|none=>0) else M+(i-m)
def Fl(cx:Cx)(σ:Sy)(T:List Nat)(ae:List SV)(sp:aD)(K:Out->Prop):Prop :=
 match loose.aF (norm.aN cx.D ae) with
 |vs =>
  match reach σ.hp σ.hp (Lu [] (iQ.uA vs)) with
  |hs =>
   match Vv cx.D σ.hp hs with
   |ls =>
    if Qd hs&&Wy hs (iQ.uA vs)&&Bw.dR vs&&sc (Ag σ.hp) hs&&Mi hs ls&&(hs.isEmpty||T.isEmpty) then
     sp cx.D (nI.wV (H4 hs) vs) (Xi (lT (H4 hs)) ls) λr aI =>
      (Nat.ble (Ag hs) (Ag aI)&&Bw r&&sc (Ag aI) (iQ r)&&MQ (Ag aI) aI)=true/\
      K ⟨nI (Cb hs (Ag hs) (Ag σ.hp)) r,Dv hs (Xi (lT (Cb hs (Ag hs) (Ag σ.hp))) (takeN (Ag hs) aI))++Eo (Ag σ.hp) (Xi (lT (Cb hs (Ag hs) (Ag σ.hp))) (By (Ag hs) aI)),hs,[]⟩
    else False
def Kt(cx:Cx)(σ:Sy)(T:List Nat)(f:FuncId)(vs:List SV)(K:Out->Prop):Prop :=
 match look (f+1000000) cx.fC with
 |some sp=>Fl cx σ T vs sp K
 |none =>
 match look f cx.fC,Fd σ.hp (loose.aF (norm.aN cx.D vs)) 0 with
 |some sp,some (as,hs,ls) =>
  if Gr (cO cx.D ls)&&(hs.isEmpty||T.isEmpty)&&Nat.blt f 1000000 then
   sp cx.D as (cO cx.D ls) λr aI=>Hp (Ag ls) (Ag aI) r=true/\Gr aI=true/\Nat.ble (Ag ls) (Ag aI)=true/\
    K ⟨bw (Ag ls) (Ag σ.hp) r,Dv hs (takeN (Ag ls) aI)++Eo (Ag σ.hp) (By (Ag ls) aI),hs,[]⟩
  else False
 |_,_=>False
def Rp:List (Nat×SV)->Bool
 | []=>true
 |p :: ps=>D8 p.2.cells&&Rp ps
def T8(cx:Cx)(σ:Sy)(T:List Nat)(ty:TypeId)(x:Operand)(K:Out->Prop):Prop :=
 match x with
 |.const (.slice none 0 0) =>
  match look ty cx.tt with
  |some ⟨.slice e,_,_,_⟩=>match size? cx e with
   |some n=>out K (.sl (.l true) (.l 0) n λ_=>[])
   |none=>False
  |_=>False
 |x=>r8 K (rd cx σ T x)
def rowOf(sz:Nat):SV->Option (ST×(Nat->List SV))
 |.sl _ m cN g=>if cN==sz then some (m,g) else none
 |.eD _ m cN g _=>if cN==sz then some (m,g) else none
 |_=>none
def Ws(cx:Cx)(σ:Sy)(base src:SV)(e sz bytes:Nat)(K:Out->Prop):Prop :=
 match rowOf sz src with
 |some (m,g) =>
  match base with
  |.sl (.l true) (.l 0) _ _ =>
   AJ (cx.D.i m) bytes/\zm (cx.D.i m) g λf' n' =>
    K ⟨.eD (S8 .eql m (.l 0)) (.a n') sz f' (Ag σ.hp),[.put (Ag σ.hp) (.tail e (.a n') sz)],[],[]⟩
  |.eD nl n cN f h =>
   match nth σ.hp h with
   |some (.tail e' n0 lO) =>
    if cN==sz&&lO==sz&&e'==e then
     Ahi (cx.D.i n) (cx.D.i n0) (cx.D.i m) bytes/\Abe (cx.D.i n) (cx.D.i m) f g λf' n'=>K ⟨.eD (mj nl (S8 .eql m (.l 0))) (.a n') sz f' h,[.put h (.tail e (.a n') sz)],[h],[]⟩
    else False
   |_=>False
  |.bY nl n h =>
   match nth σ.hp h with
   |some (.own e' n0 lO gr f) =>
    if lO==sz&&e'==e then
     Ahi (cx.D.i n) (cx.D.i n0) (cx.D.i m) bytes/\Abe (cx.D.i n) (cx.D.i m) f g λf' n'=>K ⟨.bY (mj nl (S8 .eql m (.l 0))) (.a n') h,[.put h (.own e (.a n') sz gr f')],[h],[]⟩
    else False
   |_=>False
  |.fB nl n g0 h =>
   match nth σ.hp h with
   |some (.vec e' n0 g1 lO f) =>
    if lO==sz&&e'==e then
     Ahi (cx.D.i n) (cx.D.i n0) (cx.D.i m) bytes/\oW (cx.D.i g0) (cx.D.i g1)/\Abe (cx.D.i n) (cx.D.i m) f g λf' n'=>Apw (cx.D.i g0) λg'=>K ⟨.fB (mj nl (S8 .eql m (.l 0))) (.a n') (.a g') h,[.put h (.vec e (.a n') (.a g') sz f')],[h],[]⟩
    else False
   |_=>False
  |_=>False
 |none=>False
def chunks(sz:Nat):Nat->List SV->List (List SV)
 |0,_=>[]
 |n+1,cs=>takeN sz cs :: chunks sz n (By sz cs)
structure Ahf(cs:List SV):Prop where
 SW:D8 cs=true
 plain:Ak.gU cs=true
structure zx(f:Nat->List SV)(n sz:Nat)(cs:List SV):Prop where
 h:Zk f (chunks sz n cs)
def Ao(cx:Cx)(σ:Sy)(T:List Nat)(t:TypeId)(len:Nat)(ps:List (Nat×Operand))(K:Out->Prop):Prop :=
 match look t cx.tt,G4 cx σ T ps with
 |some ⟨.slice e,_,_,_⟩,some vs =>
  match look e cx.tt with
  |some te =>
   match Rp vs,dI te.size (mL len te.zero) vs with
   |true,some cs =>
    if Ak (.agg (loose.aF (norm.aN cx.D cs)))&&Nat.blt 0 te.size&&Nat.ble (len * te.size) 16777216 then
     Apx (chunks te.size len (loose.aF (norm.aN cx.D cs))) λf=>match look 999985 cx.gh with
      |some _=>K ⟨.bY (.l false) (.l len) (Ag σ.hp),[.put (Ag σ.hp) (.own e (.l len) te.size true f)],[],[]⟩
      |none=>K ⟨.eD (.l false) (.l len) te.size f (Ag σ.hp),[.put (Ag σ.hp) (.tail e (.l len) te.size)],[],[]⟩
    else False
   |_,_=>False
  |none=>False
 |_,_=>False
 where
 mL:Nat->List SV->List SV
  |0,_=>[]
  |n+1,z=>z++mL n z
 dI (sz:Nat) (cs:List SV):List (Nat×SV)->Option (List SV)
  | []=>some cs
  |(i,v) :: ps=>if Ag v.cells==sz&&Nat.ble (i * sz+sz) (Ag cs) then dI sz (B9 cs (i * sz) v.cells) ps else none
def Ik:Operand->Operand->Bool
 |.tmp i,.tmp j=>i==j
 |_,_=>false
def T9(cx:Cx)(σ:Sy)(T:List Nat)(t:TypeId)(len cap:SV)(same:Bool)(K:Out->Prop):Prop :=
 match T,look t cx.tt with
 | [],some ⟨.slice e,_,_,_⟩ =>
  match look e cx.tt,len,cap with
  |some te,.int .i64 (.l 0),.int _ c =>
   if Nat.blt 0 te.size then
    rm (cx.D.i c) te.bytes/\K ⟨.eD (.l false) (.l 0) te.size (λ_=>[]) (Ag σ.hp),[.put (Ag σ.hp) (.tail e (.l 0) te.size)],[],[]⟩
   else False
  |some te,.int _ n,.int _ _ =>
   if same&&Nat.blt 0 te.size then
    rm (cx.D.i n) te.bytes/\K ⟨.dM (Ag σ.hp),[.put (Ag σ.hp) (.row e (.a (cx.D.i n)) te.size λ_=>te.zero)],[],[]⟩
   else False
  |_,_,_=>False
 |_,_=>False
def Ua(cx:Cx)(σ:Sy)(T:List Nat)(t:TypeId)(dst src:SV)(K:Out->Prop):Prop :=
 match T,look t cx.tt,dst with
 | [],some ⟨.slice e,_,_,_⟩,.dM h =>
  match nth σ.hp h,size? cx e with
  |some (.row ty n sz f),some lO =>
   match rowOf sz src,lO==sz with
   |some (m,g),true =>
    lx (cx.D.i m) (cx.D.i n) g f λf' r =>
     K ⟨.int .i64 (.a r),[.put h (.row ty n sz f')],[h],[]⟩
   |_,_=>False
  |_,_=>False
 |_,_,_=>False
def D7(cx:Cx)(σ:Sy)(T:List Nat):Option Operand->Option (Option SV)
 |none=>some none
 |some x=>match rd cx σ T x with
  |some v=>some (some v)
  |none=>none
def Hb(d:ST):Option SV->Option ST
 |none=>some d
 |some (.int _ a)=>some a
 |_=>none
def Iw(cx:Cx)(σ:Sy)(T:List Nat)(t:TypeId)(x:SV)(lo hi:Option SV)(K:Out->Prop):Prop :=
 match Hb (.l 0) lo with
 |some a =>
  match x,look t cx.tt with
  |.sl nl n sz f,some ⟨.slice e,_,_,_⟩=>tU nl n sz f e a
  |.eD nl n sz f _,some ⟨.slice e,_,_,_⟩=>tU nl n sz f e a
  |.bY nl n h,some ⟨.slice e,_,_,_⟩ =>
   match T,nth σ.hp h,lo,hi with
   | [],some (.own e' n0 sz _ f),none,some (.int _ b) =>
    if e'==e&&(look e cx.tt).isSome then
     oW (cx.D.i n) (cx.D.i n0)/\l8 0 (cx.D.i b) (cx.D.i n)/\K ⟨.sl nl (.a (cx.D.i b)) sz f,[.put h .gone],[h],[]⟩
    else False
   | [],some (.own _ n0 sz _ _),some (.int _ b),none =>
    if size? cx e=some sz then
     oW (cx.D.i n) (cx.D.i n0)/\l8 (cx.D.i b) (cx.D.i n) (cx.D.i n)/\K ⟨.jS n b h,[],[h],[]⟩
    else False
   |_,_,_,_=>False
  |.fB nl n g0 h,some ⟨.slice e,_,_,_⟩ =>
   match T,nth σ.hp h,lo,hi with
   | [],some (.vec e' n0 g1 sz f),none,some (.int _ b) =>
    if e'==e&&(look e cx.tt).isSome then
     oW (cx.D.i n) (cx.D.i n0)/\oW (cx.D.i g0) (cx.D.i g1)/\l8 0 (cx.D.i b) (cx.D.i n)/\Apw (cx.D.i g0) λg'=>K ⟨.fB nl (.a (cx.D.i b)) (.a g') h,[.put h (.vec e (.a (cx.D.i b)) (.a g') sz f)],[h],[]⟩
    else False
   |_,_,_,_=>False
  |.str s,some ⟨.string,_,_,_⟩ =>
   match Hb (.len s) hi with
   |some b=>Ob cx.D σ.gm T (LO (cx.D.i a) (cx.D.i b) s)/\lv s (cx.D.i a) (cx.D.i b) λr=>out K (.str r)
   |none=>False
  |_,_=>False
 |none=>False
 where tU (nl:BT) (n:ST) (sz:Nat) (f:Nat->List SV) (e:TypeId) (a:ST):Prop :=
 match Hb n hi with
 |some b =>
  if size? cx e=some sz then
   Ob cx.D σ.gm T (l8 (cx.D.i a) (cx.D.i b) (cx.D.i n))/\zl f (cx.D.i a) (cx.D.i b) λf' n'=>out K (.sl nl (.a n') sz f')
  else False
 |none=>False
def Afp(i:Int)(F:Nat->Prop):Nat->Nat->Prop
 |0,_=>True
 |n+1,j=>(CU j i->F j)/\Afp i F n (j+1)
def TF(cx:Cx)(i:ST):ST :=
 match look 999989 cx.gh with
 |some _=>(match i with
  |.a n=>.l n
  |.cv k (.a n)=>.l (k.wrap n)
  |i=>i)
 |none=>i
def P3(cx:Cx)(T:List Nat)(h off n sz:Nat)(i:ST)(K:Out->Prop):Prop :=
 match TF cx i with
 |.l (.ofNat k)=>if Nat.blt k n then out K (.ptr h (off+k * sz)) else False
 |_=>match T with
  | []=>zX (cx.D.i i) n/\Afp (cx.D.i i) (λj=>out K (.ptr h (off+j * sz))) n 0
  |_=>False
def Afn(cx:Cx)(σ:Sy)(T:List Nat)(o:Oper)(K:Out->Prop):Prop :=
 match o.op with
 |.move x|.assign x=>T8 cx σ T o.type x K
 |.alloc e =>
  match T,look e cx.tt with
  | [],some ti=>match look (3000000+o.dst.getD 0) cx.gh with
   |some _=>match ti.k with
    |.array n el=>match size? cx el with
     |some (cN+1)=>if (n * (cN+1))==ti.size&&Nat.ble n 1000000 then ∃f,zx f n (cN+1) ti.zero/\K ⟨.ptr (Ag σ.hp) 0,[.put (Ag σ.hp) (.row e (.l n) (cN+1) f)],[],[]⟩ else False
     |_=>False
    |_=>False
   |none=>K ⟨.ptr (Ag σ.hp) 0,[.put (Ag σ.hp) (.aE e ti.zero)],[],[]⟩
  |_,_=>False
 |.box e x =>
  match T,look e cx.tt,rd cx σ T x with
  | [],some ti,some v=>if Ag v.cells==ti.size&&D8 v.cells then K ⟨.ptr (Ag σ.hp) 0,[.put (Ag σ.hp) (.aE e v.cells)],[],[]⟩ else False
  |_,_,_=>False
 |.build t ps =>
  match look t cx.tt,G4 cx σ T ps.toList with
  |some ti,some vs=>match Rp vs,Sc cx t ti.zero vs,ti.k with
   |true,some cs,.struct _=>out K (.agg cs)
   |true,some cs,.array _ e=>match size? cx e with
    |some _=>out K (.agg cs)
    |none=>False
   |_,_,_=>False
  |_,_=>False
 |.load t a =>
  match rd cx σ T a,size? cx t with
  |some (.ptr h off),some n =>
   match nth σ.hp h with
   |some (.aE _ cs)=>if Nat.ble (off+n) (Ag cs) then
     match pack (cG cx t) (takeN n (By off cs)) with
     |some v=>K ⟨v,[],[],[(h,off,n)]⟩
     |none=>False
    else False
   |some (.row _ m sz f)=>match T,off,look t cx.tt with
    | [],0,some ⟨.array n' el,cN,_,_⟩=>if size? cx el=some sz/\n' * sz=cN then oW (cx.D.i m) n'/\∃cs,Flat f (cx.D.i m) sz cs/\K ⟨.agg cs,[],[h],[]⟩ else False
    |_,_,_=>False
   |_=>False
  |some (.dB cs),some n=>if Nat.ble n (Ag cs) then r8 K (pack (cG cx t) (takeN n cs)) else False
  |some (.cU h j off),some n =>
   match nth σ.hp h with
   |some (.row _ m _sz f)=>Ob cx.D σ.gm T (rp j (cx.D.i m))/\
    if Nat.ble (off+n) (Ag (f j)) then
     match pack (cG cx t) (takeN n (By off (f j))) with
     |some v=>K ⟨v,[],[h],[]⟩
     |none=>False
    else False
   |_=>False
  |some (.cK m' h j off),some n =>
   match nth σ.hp h with
   |some (.own _ m _sz _ f)=>Ob cx.D σ.gm T (oW (cx.D.i m') (cx.D.i m))/\Ob cx.D σ.gm T (rp j (cx.D.i m))/\
    if Nat.ble (off+n) (Ag (f j)) then
     match pack (cG cx t) (takeN n (By off (f j))) with
     |some v=>K ⟨v,[],[h],[]⟩
     |none=>False
    else False
   |_=>False
  |_,_=>False
 |.store t a x =>
  match T,rd cx σ T a,zM cx σ T t x,size? cx t with
  | [],some (.ptr h off),some v,some n =>
   match nth σ.hp h with
   |some (.aE _ cs)=>if Ag v.cells==n&&Nat.ble (off+n) (Ag cs)&&D8 v.cells then K ⟨.tup [],[.set h off v.cells],[],[]⟩ else False
   |some (.row ty m sz _)=>match off,v,look t cx.tt with
    |0,.agg cs,some ⟨.array n' el,cN,_,_⟩=>if size? cx el=some sz/\n' * sz=cN then oW (cx.D.i m) n'/\Ahf cs/\∃f',Flat f' (cx.D.i m) sz cs/\K ⟨.tup [],[.put h (.row ty m sz f')],[h],[]⟩ else False
    |_,_,_=>False
   |_=>False
  | [],some (.cU h j off),some v,some n =>
   match nth σ.hp h with
   |some (.row ty m sz f)=>rp j (cx.D.i m)/\
    if Ag v.cells==n&&Nat.ble (off+n) (Ag (f j))&&D8 v.cells&&Ak (.agg (loose.aF (norm.aN cx.D v.cells))) then
     PW f j (B9 (f j) off (loose.aF (norm.aN cx.D v.cells))) λf'=>K ⟨.tup [],[.put h (.row ty m sz f')],[h],[]⟩
    else False
   |_=>False
  | [],some (.cK m' h j off),some v,some n =>
   match nth σ.hp h with
   |some (.own ty m sz gr f)=>oW (cx.D.i m') (cx.D.i m)/\rp j (cx.D.i m)/\
    if Ag v.cells==n&&Nat.ble (off+n) (Ag (f j))&&D8 v.cells&&Ak (.agg (loose.aF (norm.aN cx.D v.cells))) then
     PW f j (B9 (f j) off (loose.aF (norm.aN cx.D v.cells))) λf'=>K ⟨.tup [],[.put h (.own ty m sz gr f')],[h],[]⟩
    else False
   |_=>False
  |_,_,_,_=>False
 |.fieldAddr t x i =>
  match rd cx σ T x,gE cx t i with
  |some (.ptr h off),some (fo,ft)=>match size? cx ft with
   |some (_+1)=>out K (.ptr h (off+fo))
   |_=>False
  |some (.dB cs),some (fo,ft)=>match size? cx ft with
   |some (m+1)=>if Nat.ble (fo+(m+1)) (Ag cs) then out K (.dB (takeN (m+1) (By fo cs))) else False
   |_=>False
  |some (.cU h j off),some (fo,ft)=>match size? cx ft with
   |some (_+1)=>out K (.cU h j (off+fo))
   |_=>False
  |some (.cK n h j off),some (fo,ft)=>match size? cx ft with
   |some (_+1)=>out K (.cK n h j (off+fo))
   |_=>False
  |_,_=>False
 |.nilCheck x =>
  match rd cx σ T x with
  |some (.ptr h off)=>out K (.ptr h off)
  |some (.dB cs)=>out K (.dB cs)
  |some (.cU h j off)=>out K (.cU h j off)
  |some (.cK n h j off)=>out K (.cK n h j off)
  |some (.dP n sz f)=>out K (.dP n sz f)
  |_=>False
 |.field t x i =>
  match rd cx σ T x,gE cx t i with
  |some (.agg cs),some (fo,ft)=>match size? cx ft with
   |some m=>if Nat.ble (fo+m) (Ag cs) then r8 K (pack (cG cx ft) (takeN m (By fo cs))) else False
   |_=>False
  |_,_=>False
 |.indexAddr t x ix =>
  match rd cx σ T x,rd cx σ T ix,look t cx.tt with
  |some (.sl _ n sz f),some (.int _ i),some ⟨.slice e,_,_,_⟩ =>
   if size? cx e=some sz then
    Ob cx.D σ.gm T (zX (cx.D.i i) (cx.D.i n))/\pO cx.D σ.gm T (cx.D.i i) λj=>out K (.dB (f j))
   else False
  |some (.eD _ n sz f _),some (.int _ i),some ⟨.slice e,_,_,_⟩ =>
   if size? cx e=some sz then
    Ob cx.D σ.gm T (zX (cx.D.i i) (cx.D.i n))/\pO cx.D σ.gm T (cx.D.i i) λj=>out K (.dB (f j))
   else False
  |some (.dM h),some (.int _ i),some ⟨.slice e,_,_,_⟩ =>
   match nth σ.hp h with
   |some (.row _ n sz _) =>
    if size? cx e=some sz then
     Ob cx.D σ.gm T (zX (cx.D.i i) (cx.D.i n))/\pO cx.D σ.gm T (cx.D.i i) λj=>K ⟨.cU h j 0,[],[h],[]⟩
    else False
   |_=>False
  |some (.bY _ m h),some (.int _ i),some ⟨.slice e,_,_,_⟩ =>
   match nth σ.hp h with
   |some (.own _ n sz _ _) =>
    if size? cx e=some sz then
     Ob cx.D σ.gm T (oW (cx.D.i m) (cx.D.i n))/\Ob cx.D σ.gm T (zX (cx.D.i i) (cx.D.i n))/\pO cx.D σ.gm T (cx.D.i i) λj=>K ⟨.cK m h j 0,[],[h],[]⟩
    else False
   |_=>False
  |some (.ptr h off),some (.int _ i),some ⟨.array n e,_,_,_⟩ =>
   match size? cx e with
   |some sz=>match T,off,nth σ.hp h with
    | [],0,some (.row _ _ cN _)=>if cN==sz then zX (cx.D.i i) n/\pO cx.D σ.gm [] (cx.D.i i) λj=>K ⟨.cU h j 0,[],[h],[]⟩ else False
    |_,_,_=>P3 cx T h off n sz i K
   |none=>False
  |some (.dP n sz f),some (.int _ i),some ⟨.array n' e,_,_,_⟩ =>
   if size? cx e=some sz/\n=n' then
    Ob cx.D σ.gm T (zX (cx.D.i i) n)/\pO cx.D σ.gm T (cx.D.i i) λj=>out K (.dB (f j))
   else False
  |_,_,_=>False
 |.makeFunc (.func f) fi cs =>
  match fi.toList,I7 cx σ T cs.toList [] with
  | [],some vs=>out K (.fI f vs)
  |_,_=>False
 |.buildSlice t len ps=>Ao cx σ T t len ps.toList K
 |.makeSlice t l c =>
  match rd cx σ T l,rd cx σ T c with
  |some a,some b=>T9 cx σ T t a b (Ik l c) K
  |_,_=>False
 |.slice t x lo hi none =>
  match rd cx σ T x,D7 cx σ T lo,D7 cx σ T hi with
  |some v,some a,some b=>Iw cx σ T t v a b K
  |_,_,_=>False
 |.index t x ix =>
  match rd cx σ T x,rd cx σ T ix,look t cx.tt with
  |some (.str s),some (.int _ i),some ⟨.string,_,_,_⟩ =>
   Ob cx.D σ.gm T (InS (cx.D.i i) s)/\ly s (cx.D.i i) λc=>out K (.int .u8 (.a c))
  |some (.agg cs),some (.int _ (.l (.ofNat k))),some ⟨.array n e,_,_,_⟩ =>
   match size? cx e with
   |some sz=>if Nat.blt k n&&Nat.ble (k * sz+sz) (Ag cs) then r8 K (pack (cG cx e) (takeN sz (By (k * sz) cs))) else False
   |none=>False
  |_,_,_=>False
 |.makeMap t none =>
  match T,look t cx.tt with
  | [],some ⟨.map _ _,_,_,_⟩=>K ⟨.bP (Ag σ.hp),[.put (Ag σ.hp) (.dC λ_=>false)],[],[]⟩
  |_,_=>False
 |.mapUpdate t m k x|.insert t m k x =>
  match T,look t cx.tt,rd cx σ T m,rd cx σ T k,rd cx σ T x with
  | [],some ⟨.map kt vt,_,_,_⟩,some (.bP h),some (.str s),some (.bool b) =>
   match look kt cx.tt,look vt cx.tt,nth σ.hp h with
   |some ⟨.string,_,_,_⟩,some ⟨.bool,_,_,_⟩,some (.dC F)=>zp F s (cx.D.b b) λF'=>K ⟨.tup [],[.put h (.dC F')],[h],[]⟩
   |_,_,_=>False
  |_,_,_,_,_=>False
 |.lookup t m k false =>
  match look t cx.tt,rd cx σ T m,rd cx σ T k with
  |some ⟨.map kt vt,_,_,_⟩,some (.bP h),some (.str s) =>
   match look kt cx.tt,look vt cx.tt,nth σ.hp h with
   |some ⟨.string,_,_,_⟩,some ⟨.bool,_,_,[.bool (.l false)]⟩,some (.dC F)=>K ⟨.bool (.a (F s)),[],[h],[]⟩
   |_,_,_=>False
  |_,_,_=>False
 |.extract x i =>
  match rd cx σ T x with
  |some (.tup vs)=>r8 K (nth vs i)
  |_=>False
 |.unOp op _ x =>
  match op,rd cx σ T x with
  |.not,some (.bool b)=>out K (.bool (AU b))
  |.neg,some (.int k n)=>out K (.int k (MF .sub k (.l 0) n))
  |_,_=>False
 |.binOp op t x y _ =>
  match rd cx σ T x,rd cx σ T y with
  |some a,some (.raw _)=>Zp cx op t a y K
  |some a,some b=>Zq cx σ.gm T op t a b K
  |_,_=>False
 |.convert src dst x =>
  match rd cx σ T x,look dst cx.tt,look src cx.tt with
  |some (.int _ n),some ⟨.int k,_,_,_⟩,some _=>out K (.int k (.cv k n))
  |some (.str s),some ⟨.slice e,_,_,_⟩,some ⟨.string,_,_,_⟩ =>
   match look e cx.tt with
   |some ⟨.int .u8,_,_,_⟩=>match look 999983 cx.gh with
    |some _=>match T with
     | []=>LP s/\Ae5 s λf=>K ⟨.bY (.l false) (.len s) (Ag σ.hp),[.put (Ag σ.hp) (.own e (.len s) 1 false f)],[],[]⟩
     |_=>False
    |none=>Ob cx.D σ.gm T (LP s)/\Ae5 s λf=>out K (.sl (.l false) (.len s) 1 f)
   |_=>False
  |some (.sl _ n 1 f),some ⟨.string,_,_,_⟩,some ⟨.slice e,_,_,_⟩=>Te cx σ T e n f K
  |some (.eD _ n 1 f _),some ⟨.string,_,_,_⟩,some ⟨.slice e,_,_,_⟩=>Te cx σ T e n f K
  |some (.bY (.l false) n h),some ⟨.slice e,_,_,_⟩,some ⟨.slice e',_,_,_⟩ =>
   match T,look e cx.tt,nth σ.hp h with
   | [],some ⟨.int .u8,_,_,_⟩,some (.own ty n0 1 true f)=>if e'==e&&src==dst&&ty==e then
     oW (cx.D.i n) (cx.D.i n0)/\K ⟨.bY (.l false) n h,[.put h (.own e n0 1 false f)],[h],[]⟩ else False
   |_,_,_=>False
  |some (.bY _ n h),some ⟨.string,_,_,_⟩,some ⟨.slice e,_,_,_⟩ =>
   match T,look e cx.tt,nth σ.hp h with
   | [],some ⟨.int .u8,_,_,_⟩,some (.own _ n0 1 _ f)=>oW (cx.D.i n) (cx.D.i n0)/\Hc (cx.D.i n0) f/\Apu (cx.D.i n0) f λr=>K ⟨.str r,[],[h],[]⟩
   |_,_,_=>False
  |_,_,_=>False
 |.call c =>
  match c.callee with
  |.builtin .len =>
   match c.args.toList,c.argTypes.toList with
   | [x],[t] =>
    match rd cx σ T x,look t cx.tt with
    |some (.sl _ n _ _),some ⟨.slice _,_,_,_⟩=>out K (.int .i64 n)
    |some (.eD _ n _ _ _),some ⟨.slice _,_,_,_⟩=>out K (.int .i64 n)
    |some (.bY _ n _),some ⟨.slice _,_,_,_⟩=>out K (.int .i64 n)
    |some (.fB _ n _ _),some ⟨.slice _,_,_,_⟩=>out K (.int .i64 n)
    |some (.str s),some ⟨.string,_,_,_⟩=>out K (.int .i64 (.len s))
    |some (.dM h),some ⟨.slice _,_,_,_⟩=>match nth σ.hp h with
     |some (.row _ n _ _)=>K ⟨.int .i64 n,[],[h],[]⟩
     |_=>False
    |_,_=>False
   |_,_=>False
  |.builtin .append =>
   match T,c.args.toList,c.argTypes.toList with
   | [],[x,y],[t,t'] =>
    match rd cx σ T x,rd cx σ T y,look t cx.tt with
    |some b,some s,some ⟨.slice e,_,_,_⟩ =>
     match look e cx.tt with
     |some te=>if t==t'&&Nat.blt 0 te.size then Ws cx σ b s e te.size te.bytes K else False
     |none=>False
    |_,_,_=>False
   |_,_,_=>False
  |.builtin .clear =>
   match T,c.args.toList,c.argTypes.toList with
   | [],[x],[t] =>
    match rd cx σ T x,look t cx.tt with
    |some (.jS n a h),some ⟨.slice e,_,_,_⟩ =>
     match nth σ.hp h,look e cx.tt with
     |some (.own e' n0 sz gr f),some te =>
      if e'==e&&te.size==sz&&Ak (.agg te.zero) then
       oW (cx.D.i n) (cx.D.i n0)/\zq f (cx.D.i a) te.zero λf'=>K ⟨.tup [],[.put h (.own e n0 sz gr f')],[h],[]⟩
      else False
     |_,_=>False
    |_,_=>False
   |_,_,_=>False
  |.builtin .copy =>
   match c.args.toList,c.argTypes.toList with
   | [x,y],[t,_] =>
    match rd cx σ T x,rd cx σ T y with
    |some d,some s=>Ua cx σ T t d s K
    |_,_=>False
   |_,_=>False
  |.builtin .max =>
   match c.args.toList with
   | [x,y] =>
    match rd cx σ T x,rd cx σ T y with
    |some (.int k a),some (.int k' b)=>if k=k' then zo (cx.D.i a) (cx.D.i b) λr=>out K (.int k (.a r)) else False
    |_,_=>False
   |_=>False
  |.builtin .min =>
   match c.args.toList with
   | [x,y] =>
    match rd cx σ T x,rd cx σ T y with
    |some (.int k a),some (.int k' b)=>if k=k' then zn (cx.D.i a) (cx.D.i b) λr=>out K (.int k (.a r)) else False
    |_,_=>False
   |_=>False
  |.value (.func f) =>
   match I7 cx σ T c.args.toList c.argTypes.toList with
   |some vs=>Kt cx σ T f vs K
   |none=>False
  |.value (.tmp s) =>
   match I7 cx σ T c.args.toList c.argTypes.toList,rd cx σ T (.tmp s) with
   |some vs,some (.fn f)=>Kt cx σ T f vs K
   |some vs,some (.fI f cs)=>Kt cx σ T f (vs++cs) K
   |_,_=>False
  |_=>False
 |_=>False
def T7(cx:Cx)(σ:Sy)(T:List Nat)(c a b:Operand)(K:Out->Prop):Prop :=
 match c with
 |.tmp s =>
  match Au σ.fr s with
  |some ⟨tg,_,_,.bool (.l true)⟩=>if W5 tg T then r8 K (rd cx σ T a) else False
  |some ⟨tg,_,_,.bool (.l false)⟩=>if W5 tg T then r8 K (rd cx σ T b) else False
  |some ⟨tg,gt,gf,.bool ct⟩ =>
   if W5 tg T then
    match rd cx σ (gt.toList++T) a,rd cx σ (gf.toList++T) b with
    |some (.bool x),some (.bool (.l false))=>out K (.bool (.and ct x))
    |some (.bool (.l true)),some (.bool y)=>out K (.bool (.or ct y))
    |_,_=>False
   else False
  |_=>False
 |_=>False
def guardOf(ops:List Oper)(σ:Sy):Option (Nat×Bool)->Option (Option (Sy×List Nat))
 |none=>some (some (σ,[]))
 |some (j,want) =>
  match nth ops j with
  |some oj=>match oj.dst with
   |some s=>match Au σ.fr s with
    |some ⟨tg,_,_,.bool (.l b)⟩=>if b==want then some (some (σ,tg)) else some none
    |some ⟨tg,gt,gf,.bool c⟩ =>
     if want then
      match gt with
      |some i=>some (some (σ,i :: tg))
      |none=>some (some (⟨A0 σ.fr s (some ⟨tg,some (Ag σ.gm),gf,.bool c⟩),σ.hp,σ.gm++[c]⟩,Ag σ.gm :: tg))
     else
      match gf with
      |some i=>some (some (σ,i :: tg))
      |none=>some (some (⟨A0 σ.fr s (some ⟨tg,gt,some (Ag σ.gm),.bool c⟩),σ.hp,σ.gm++[.not c]⟩,Ag σ.gm :: tg))
    |_=>none
   |none=>none
  |none=>none
def Kj(hp:List Hl):List Ef->Bool
 | []=>true
 |.set h off vs :: es=>Kj (zV hp (.set h off vs)) es
 |.put h hl :: es=>Nat.ble h (Ag hp)&&Kj (zV hp (.put h hl)) es
def dA(fr:List (Option G))(d:Option Nat)(g:Option G):List (Option G) :=
 match d with
 |some s=>A0 fr s g
 |none=>fr
def yieldOf(cx:Cx)(σ:Sy)(T:List Nat)(op:Op):Option (Nat×Call) :=
 match op with
 |.call c=>match c.callee with
  |.value (.tmp s)=>match rd cx σ T (.tmp s) with
   |some (.yv h)=>some (h,c)
   |_=>none
  |_=>none
 |_=>none
def L5(cx:Cx)(σ:Sy)(T:List Nat)(h:Nat)(c:Call)(K:Out->Prop):Prop :=
 match I7 cx σ T c.args.toList c.argTypes.toList,cx.yl with
 |some vs,[Y]=>Fl cx σ [] (.yv h :: vs) Y K
 |_,_=>False
def Tf(cx:Cx)(σ:Sy)(T:List Nat)(o:Oper)(K:Out->Prop):Prop :=
 match o.op with
 |.pick c a b=>T7 cx σ T c a b K
 |_=>match yieldOf cx σ T o.op with
  |some (h,c)=>L5 cx σ T h c K
  |none=>Afn cx σ T o K
structure FP where
 uT:List Nat
 AX:List (Nat×Nat×Nat)
 wr:List (Nat×Option (Nat×Nat))
def iG:List Ef->List (Nat×Option (Nat×Nat))
 | []=>[]
 |.set h off vs :: es=>(h,some (off,Ag vs)) :: iG es
 |.put h _ :: es=>(h,none) :: iG es
def rv(r:Out):FP:=⟨r.uT,r.AX,iG r.gF⟩
def Acy(o:Oper):Bool:=match o.op with
 |.defer _=>false
 |_=>true
def Ai3(cx:Cx)(op:Op):Option SV:=match op with
 |.buildSlice t _ _=>match look t cx.tt with
  |some ⟨.slice e,_,_,_⟩=>match look e cx.tt with
   |some te=>some (.sl (.l true) (.l 0) te.size λ_=>[])
   |none=>none
  |_=>none
 |_=>none
def Fz(cx:Cx)(all:List Oper):List Oper->List FP->Sy->(List FP->Sy->Prop)->Prop
 | [],fs,σ,K=>K fs σ
 |o :: os,fs,σ,K =>
  match guardOf all σ o.guard with
  |none=>False
  |some none=>Fz cx all os (fs++[⟨[],[],[]⟩]) ⟨dA σ.fr o.dst none,σ.hp,σ.gm⟩ K
  |some (some (σ,T)) =>
   match yieldOf cx σ T o.op,T with
   |some (h,c),[i]=>match nth σ.gm i with
    |some b=>(cx.D.b b=true->L5 cx σ [i] h c λr=>if Kj σ.hp r.gF then Fz cx all os (fs++[rv r]) ⟨dA σ.fr o.dst (some ⟨[i],none,none,r.v⟩),Mp σ.hp r.gF,σ.gm⟩ K else False)/\
      (cx.D.b b=false->Fz cx all os (fs++[rv ⟨.bool (.l true),[],[],[]⟩]) ⟨dA σ.fr o.dst (some ⟨[i],none,none,.bool (.l true)⟩),σ.hp,σ.gm⟩ K)
    |none=>False
   |_,_=>match Ai3 cx o.op,T with
    |some d,[i]=>match nth σ.gm i with
     |some b=>(cx.D.b b=true->Tf cx σ [i] o λr=>if Kj σ.hp r.gF then Fz cx all os (fs++[rv r]) ⟨dA σ.fr o.dst (some ⟨[i],none,none,r.v⟩),Mp σ.hp r.gF,σ.gm⟩ K else False)/\
       (cx.D.b b=false->Fz cx all os (fs++[rv ⟨d,[],[],[]⟩]) ⟨dA σ.fr o.dst (some ⟨[i],none,none,d⟩),σ.hp,σ.gm⟩ K)
     |none=>False
    |_,_=>Tf cx σ T o λr=>if Kj σ.hp r.gF&&(T.isEmpty||r.gF.isEmpty)&&Acy o then Fz cx all os (fs++[rv r]) ⟨dA σ.fr o.dst (some ⟨T,none,none,r.v⟩),Mp σ.hp r.gF,σ.gm⟩ K else False
def Am0:Operand->List Nat
 |.tmp s=>[s]
 |_=>[]
def Zr:List Operand->List Nat
 | []=>[]
 |x :: xs=>Am0 x++Zr xs
def Qu(all:List Oper):Option (Nat×Bool)->List Nat
 |none=>[]
 |some (j,_)=>match nth all j with
  |some oj=>match oj.dst with
   |some s=>[s]
   |none=>[]
  |none=>[]
def looks(all:List Oper)(o:Oper):List Nat:=Zr o.op.operands.toList++Qu all o.guard
def Qf:List Nat->List Nat->Bool
 | [],_=>false
 |x :: l,t=>Dx x t||Qf l t
def Xf:Option Nat->List Nat
 |some x=>[x]
 |none=>[]
def Cm:Nat×Option (Nat×Nat)->Nat×Option (Nat×Nat)->Bool
 |(h,a),(k,b)=>h==k&&match a,b with
  |some (x,m),some (y,n)=>Nat.blt x (y+n)&&Nat.blt y (x+m)
  |_,_=>true
def lu(x:Nat×Option (Nat×Nat)):List (Nat×Option (Nat×Nat))->Bool
 | []=>false
 |y :: l=>Cm x y||lu x l
def Qe:List (Nat×Option (Nat×Nat))->List (Nat×Option (Nat×Nat))->Bool
 | [],_=>false
 |x :: l,t=>lu x t||Qe l t
def AY(f:FP):List (Nat×Option (Nat×Nat)):=(f.uT.map λh=>(h,none))++f.AX.map λx=>(x.1,some (x.2.1,x.2.2))
def MR(all:List Oper)(o:Oper)(f:FP)(o':Oper)(f':FP):Bool :=
 Qf (Xf o.dst) (looks all o')||Qf (Xf o.dst) (Xf o'.dst)||Qf (Xf o'.dst) (looks all o)||Qe f.wr (AY f')||Qe f.wr f'.wr||Qe f'.wr (AY f)
def MI(x:Nat)(l:List Nat):List Nat:=if Dx x l then l else x :: l
def Afc:List Nat->List Nat->List Nat
 | [],t=>t
 |x :: l,t=>Afc l (MI x t)
def C5:List Edge->List Nat
 | []=>[]
 |e :: es=>(match e.ground with|.textOnly _|.gcOnly _=>[]|_=>[e.on])++C5 es
def Q9(acc:List (List Nat)):List Nat->List Nat
 | []=>[]
 |i :: l=>Afc (MI i ((nth acc i).getD [])) (Q9 acc l)
def If:List Oper->List (List Nat)->List (List Nat)
 | [],acc=>acc
 |o :: os,acc=>If os (acc++[Q9 acc (C5 o.after.toList)])
def RM(n:Nat):List Nat->Bool
 | []=>true
 |x :: l=>Nat.blt x n&&RM n l
def G7:List Oper->Nat->Bool
 | [],_=>true
 |o :: os,n=>RM n (C5 o.after.toList)&&G7 os (n+1)
def Mk(all:List Oper)(bs:List (List Nat))(i:Nat)(o:Oper)(f:FP):List Oper->List FP->Nat->Bool
 |o' :: os,f' :: fs,j=>(!(MR all o f o' f')||Dx i ((nth bs j).getD []))&&Mk all bs i o f os fs (j+1)
 |_,_,_=>true
def indep(all:List Oper)(bs:List (List Nat)):List Oper->List FP->Nat->Bool
 |o :: os,f :: fs,i=>Mk all bs i o f os fs (i+1)&&indep all bs os fs (i+1)
 |_,_,_=>true
structure ma(ops:List Oper)(fs:List FP):Prop where
 h:(G7 ops 0&&indep ops (If ops []) ops fs 0)=true
def tidy:List (Option G)->List (Option G)
 | []=>[]
 |some ⟨[],_,_,v⟩ :: l=>some ⟨[],none,none,v⟩ :: tidy l
 |_ :: l=>none :: tidy l
def fZ(h:Nat)(x:SV):SV->SV
 |.dM k=>if k==h then x else .dM k
 |.agg cs=>.agg (mI h x cs)
 |.tup cs=>.tup (mI h x cs)
 |.fI f cs=>.fI f (mI h x cs)
 |v=>v
 where mI (h:Nat) (x:SV):List SV->List SV
 | []=>[]
 |c :: cs=>fZ h x c :: mI h x cs
def Ew(h:Nat)(x:SV):List (Option G)->List (Option G)
 | []=>[]
 |some ⟨tg,gt,gf,v⟩ :: l=>some ⟨tg,gt,gf,fZ h x v⟩ :: Ew h x l
 |none :: l=>none :: Ew h x l
def NH(h:Nat)(x:SV):List Hl->List Hl
 | []=>[]
 |.aE ty cs :: ls=>.aE ty (fZ.mI h x cs) :: NH h x ls
 |l :: ls=>l :: NH h x ls
def ghost(cx:Cx)(σ:Sy):Gh->Option Sy
 |.hold s k e=>match Au σ.fr s with
  |some ⟨[],_,_,.ptr h 0⟩=>match nth σ.hp h with
   |some (.aE T cs)=>match nth cs k,size? cx e with
    |some (.sl (.l true) (.l 0) sz f),some cN=>if cN==sz then some ⟨σ.fr,A0 σ.hp h (.aE T (A0 cs k (.eD (.l true) (.l 0) sz f (Ag σ.hp))))++[.tail e (.l 0) sz],σ.gm⟩ else none
    |_,_=>none
   |_=>none
  |_=>none
 |.freeze s=>match Au σ.fr s with
  |some ⟨[],_,_,.dM h⟩=>match nth σ.hp h with
   |some (.row _ n sz f)=>some ⟨Ew h (.sl (.l false) n sz f) σ.fr,A0 (NH h (.sl (.l false) n sz f) σ.hp) h .gone,σ.gm⟩
   |_=>none
  |_=>none
 |.attach s e=>match Au σ.fr s with
  |some ⟨[],_,_,.sl (.l true) (.l 0) sz f⟩=>match size? cx e with
   |some cN=>if cN==sz then some ⟨A0 σ.fr s (some ⟨[],none,none,.eD (.l true) (.l 0) sz f (Ag σ.hp)⟩),σ.hp++[.tail e (.l 0) sz],σ.gm⟩ else none
   |none=>none
  |_=>none
 |.own s e=>match Au σ.fr s with
  |some ⟨[],_,_,.sl (.l true) (.l 0) sz f⟩=>match size? cx e with
   |some cN=>if cN==sz then some ⟨A0 σ.fr s (some ⟨[],none,none,.bY (.l true) (.l 0) (Ag σ.hp)⟩),σ.hp++[.own e (.l 0) sz true f],σ.gm⟩ else none
   |none=>none
  |_=>none
 |.share s=>match Au σ.fr s with
  |some ⟨[],_,_,.bY nl n h⟩=>match nth σ.hp h with
   |some (.own _ _ sz _ f)=>some ⟨A0 σ.fr s (some ⟨[],none,none,.sl nl n sz f⟩),A0 σ.hp h .gone,σ.gm⟩
   |_=>none
  |_=>none
 |.lZ s e=>match Au σ.fr s with
  |some ⟨[],_,_,.ptr h 0⟩=>match nth σ.hp h with
   |some (.aE T [.iC,.sl (.l true) (.l 0) 1 _])=>some ⟨σ.fr,A0 σ.hp h (.lZ T e []),σ.gm⟩
   |_=>none
  |_=>none
 |.rX _=>none
 |.JX _=>none
 |.oD _=>none
 |.vec s e=>match Au σ.fr s with
  |some ⟨[],_,_,.sl (.l true) (.l 0) sz f⟩=>match size? cx e with
   |some cN=>if cN==sz then some ⟨A0 σ.fr s (some ⟨[],none,none,.fB (.l true) (.l 0) (.l 0) (Ag σ.hp)⟩),σ.hp++[.vec e (.l 0) (.l 0) sz f],σ.gm⟩ else none
   |none=>none
  |_=>none
 |.wC s k e=>match Au σ.fr s with
  |some ⟨[],_,_,.ptr h 0⟩=>match nth σ.hp h with
   |some (.aE T cs)=>match nth cs k,size? cx e with
    |some (.sl (.l true) (.l 0) sz f),some cN=>if cN==sz then some ⟨σ.fr,A0 σ.hp h (.aE T (A0 cs k (.fB (.l true) (.l 0) (.l 0) (Ag σ.hp))))++[.vec e (.l 0) (.l 0) sz f],σ.gm⟩ else none
    |_,_=>none
   |_=>none
  |_=>none
 |.jE s=>match Au σ.fr s with
  |some ⟨[],_,_,.fB nl n _ h⟩=>match nth σ.hp h with
   |some (.vec _ _ _ sz f)=>some ⟨A0 σ.fr s (some ⟨[],none,none,.sl nl n sz f⟩),A0 σ.hp h .gone,σ.gm⟩
   |_=>none
  |_=>none
 |.gS s k=>match Au σ.fr s with
  |some ⟨[],_,_,.ptr hb 0⟩=>match nth σ.hp hb with
   |some (.aE T cs)=>match nth cs k with
    |some (.fB nl n _ h)=>match nth σ.hp h with
     |some (.vec _ _ _ sz f)=>some ⟨σ.fr,A0 (A0 σ.hp hb (.aE T (A0 cs k (.sl nl n sz f)))) h .gone,σ.gm⟩
     |_=>none
    |_=>none
   |_=>none
  |_=>none
def Al2(σ:Sy)(s:Nat):Option (BT×ST×Nat×(Nat->List SV)) :=
 match Au σ.fr s with
 |some ⟨[],_,_,.sl nl n sz f⟩=>some (nl,n,sz,f)
 |some ⟨[],_,_,.eD nl n sz f _⟩=>some (nl,n,sz,f)
 |_=>none
def An2(cx:Cx)(σ:Sy)(s:Nat):Option (Nat×Nat×List (List SV)×Nat) :=
 match Au σ.fr s with
 |some ⟨[],_,_,.ptr h 0⟩=>match nth σ.hp h with
  |some (.aE T cs)=>match look T cx.tt with
   |some ⟨.array n e,_,_,_⟩=>match size? cx e with
    |some sz=>if Ag cs==n * sz&&Ak.gU cs then some (n,sz,chunks sz n cs,h) else none
    |none=>none
   |_=>none
  |_=>none
 |_=>none
def Zm(σ:Sy)(s:Nat):Option (TypeId×ST×Nat×(Nat->List SV)×Nat) :=
 match Au σ.fr s with
 |some ⟨[],_,_,.ptr h 0⟩=>match nth σ.hp h with
  |some (.row ty n sz f)=>some (ty,n,sz,f,h)
  |_=>none
 |_=>none
def Nr(cx:Cx)(σ:Sy):Gh->Prop
 |.share s=>match Au σ.fr s with
  |some ⟨[],_,_,.bY _ n h⟩=>match nth σ.hp h with
   |some (.own _ n0 _ _ _)=>oW (cx.D.i n) (cx.D.i n0)
   |_=>False
  |_=>False
 |.jE s=>match Au σ.fr s with
  |some ⟨[],_,_,.fB _ n g0 h⟩=>match nth σ.hp h with
   |some (.vec _ n0 g1 _ _)=>oW (cx.D.i n) (cx.D.i n0)/\oW (cx.D.i g0) (cx.D.i g1)
   |_=>False
  |_=>False
 |.gS s k=>match Au σ.fr s with
  |some ⟨[],_,_,.ptr hb 0⟩=>match nth σ.hp hb with
   |some (.aE _ cs)=>match nth cs k with
    |some (.fB _ n g0 h)=>match nth σ.hp h with
     |some (.vec _ n0 g1 _ _)=>oW (cx.D.i n) (cx.D.i n0)/\oW (cx.D.i g0) (cx.D.i g1)
     |_=>False
    |_=>False
   |_=>False
  |_=>False
 |_=>True
def bC(cx:Cx):List Gh->Sy->(Sy->Prop)->Prop
 | [],σ,K=>K σ
 |g :: gs,σ,K=>match g with
  |.rX s=>match Al2 σ s with
   |some (nl,n,sz,f)=>∃f2,ri (cx.D.i n) f2 f/\bC cx gs ⟨A0 σ.fr s (some ⟨[],none,none,.sl nl n sz f2⟩),σ.hp,σ.gm⟩ K
   |none=>False
  |.JX s=>match An2 cx σ s with
   |some (n,sz,rows,h)=>∃f,Zk f rows/\bC cx gs ⟨A0 σ.fr s (some ⟨[],none,none,.dP n sz f⟩),A0 σ.hp h .gone,σ.gm⟩ K
   |none=>False
  |.oD s=>match Zm σ s with
   |some (ty,n,sz,f,h)=>∃cs,Flat f (cx.D.i n) sz cs/\bC cx gs ⟨σ.fr,A0 σ.hp h (.aE ty cs),σ.gm⟩ K
   |none=>False
  |g=>Nr cx σ g/\match ghost cx σ g with
   |some σ=>bC cx gs σ K
   |none=>False
def gD(cx:Cx)(id:Nat)(σ:Sy)(K:Sy->Prop):Prop :=
 match look id cx.gh with
 |none=>K σ
 |some l=>bC cx l σ K
inductive Ex where
 |normal
 |exit (id:Nat)
 |goto (l:Nat)
 |ret
def Ou:List (Nat×Option SV)->List (Option G)->List (Option G)
 | [],fr=>fr
 |(i,v) :: l,fr=>Ou l (A0 fr i (v.map λv=>⟨[],none,none,v⟩))
def blank{α:Type}:List α->List (Option G)
 | []=>[]
 |_ :: l=>none :: blank l
def Bu(n:Nat):SV->Bool
 |.ptr h _=>Nat.blt h n
 |.eD _ _ _ _ h=>Nat.blt h n
 |.dM h=>Nat.blt h n
 |.cU h _ _=>Nat.blt h n
 |.bY _ _ h=>Nat.blt h n
 |.cK _ h _ _=>Nat.blt h n
 |.bP h=>Nat.blt h n
 |.fB _ _ _ h=>Nat.blt h n
 |.jS _ _ h=>Nat.blt h n
 |.yv h=>Nat.blt h n
 |.agg cs=>jR n cs
 |.tup cs=>jR n cs
 |.fI _ cs=>jR n cs
 |_=>true
 where jR (n:Nat):List SV->Bool
 | []=>true
 |c :: cs=>Bu n c&&jR n cs
def N2(n:Nat):List (Nat×Option SV)->Bool
 | []=>true
 |(_,some v) :: l=>Bu n v&&N2 n l
 |(_,none) :: l=>N2 n l
def Fc(n:Nat):List Hl->Bool
 | []=>true
 |.aE _ cs :: ls=>Bu n (.agg cs)&&Fc n ls
 |.bK _ fr _ _ :: ls=>N2 n fr&&Fc n ls
 |_ :: ls=>Fc n ls
def Ge(D:Dn)(n:Nat)(fr:List (Option G)):List Nat->List (Option SV)
 | []=>[]
 |i :: l=>(match Au fr i with|some ⟨[],_,_,v⟩=>(if Bu n v then some (norm D v) else none)|_=>none) :: Ge D n fr l
def Gf(D:Dn):List Hl->List Hl
 | []=>[]
 |.aE ty cs :: ls=>.aE ty (norm.aN D cs) :: Gf D ls
 |.tail ty n sz :: ls=>.tail ty (.a (D.i n)) sz :: Gf D ls
 |.row ty n sz f :: ls=>.row ty (.a (D.i n)) sz f :: Gf D ls
 |.own ty n sz gr f :: ls=>.own ty (.a (D.i n)) sz gr f :: Gf D ls
 |.vec ty n g sz f :: ls=>.vec ty (.a (D.i n)) (.a (D.i g)) sz f :: Gf D ls
 |l :: ls=>l :: Gf D ls
def Kq{α:Type}:List Nat->List (Option α)->List (Nat×Option α)
 |i :: l,v :: vs=>(i,v) :: Kq l vs
 |_,_=>[]
def sE(σ:Sy)(c:Operand)(b:Bool):Sy :=
 match c with
 |.tmp s=>⟨A0 σ.fr s (some ⟨[],none,none,.bool (.l b)⟩),σ.hp,σ.gm⟩
 |_=>σ
end Go.Sx
