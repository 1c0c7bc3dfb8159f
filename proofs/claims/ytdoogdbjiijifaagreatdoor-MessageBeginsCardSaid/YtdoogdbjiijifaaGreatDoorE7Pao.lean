/- A part of the proof: contracts of functions, or the executor and its soundness. No conditions. -/
import Derived.Test.YtdoogdbjiijifaaGreatDoorE7Paa
import Derived.WalkKit
import Derived.WalkSpells
import Derived.WalkLawsBesides
import Derived.Lib.Strings
namespace Go.Cv
noncomputable section
open Go
inductive CV where
 |bot
 |u
 |b (t:Bool)
 |i (k:IntKind) (n:Int)
 |s (len num:Nat)
 |np
 |p (r g off:Nat)
 |ns
 |sl (r g off len sz cap:Nat)
 |nm
 |m (r:Nat)
 |nf
 |f (fn:Nat) (first captured:List CV)
 |yl (l:Nat)
 |ni
 |ifc (t:Nat) (v:CV)
 |agg (cs:List CV)
 |tup (vs:List CV)
inductive Tr(α:Type) where
 |e
 |n (v:Option α) (l r:Tr α)
inductive Pa where
 |h
 |l (p:Pa)
 |r (p:Pa)
def Ga(f:Nat):Nat->Pa :=
 @Nat.rec (λ_=>Nat->Pa) (λ_=>.h) (λ_ ih k=>@Nat.rec (λ_=>Pa) .h (λm _=>@Bool.rec (λ_=>Pa) (.r (ih (Nat.div m 2))) (.l (ih (Nat.div m 2))) (Nat.beq (Nat.mod m 2) 0)) k) f
def aH:Nat:=1099511627775
def path(k:Nat):Pa:=Ga 40 k
def Tr.oA{α:Type}(t:Tr α):Pa->Option α :=
 @Tr.rec α (λ_=>Pa->Option α) (λ_=>none) (λv _ _ gl gr p=>@Pa.rec (λ_=>Option α) v (λp _=>gl p) (λp _=>gr p) p) t
def Tr.get{α:Type}(t:Tr α)(k:Nat):Option α:=t.oA (path k)
def Tr.bc{α:Type}(a:α)(p:Pa):Tr α->Tr α :=
 @Pa.rec (λ_=>Tr α->Tr α) (λt=>@Tr.rec α (λ_=>Tr α) (.n (some a) .e .e) (λ_ l r _ _=>.n (some a) l r) t)
  (λ_ ih t=>@Tr.rec α (λ_=>Tr α) (.n none (ih .e) .e) (λv l r _ _=>.n v (ih l) r) t)
  (λ_ ih t=>@Tr.rec α (λ_=>Tr α) (.n none .e (ih .e)) (λv l r _ _=>.n v l (ih r)) t) p
def Tr.set{α:Type}(t:Tr α)(k:Nat)(a:α):Tr α:=Tr.bc a (path k) t
def Tr.nr{α R:Type}(a:α)(p:Pa):Tr α->(Tr α->R)->R :=
 @Pa.rec (λ_=>Tr α->(Tr α->R)->R) (λt K=>@Tr.rec α (λ_=>R) (K (.n (some a) .e .e)) (λ_ l r _ _=>K (.n (some a) l r)) t)
  (λ_ ih t K=>@Tr.rec α (λ_=>R) (ih .e λx=>K (.n none x .e)) (λv l r _ _=>ih l λx=>K (.n v x r)) t)
  (λ_ ih t K=>@Tr.rec α (λ_=>R) (ih .e λx=>K (.n none .e x)) (λv l r _ _=>ih r λx=>K (.n v l x)) t) p
def Tr.dL{α R:Type}(t:Tr α)(k:Nat)(a:α)(K:Tr α->R):R:=Tr.nr a (path k) t K
def Gg{R:Type}(n:Nat)(K:Nat->R):R:=@Nat.rec (λ_=>R) (K 0) (λm _=>K (Nat.succ m)) n
def JZ{R:Type}(n:Int)(K:Int->R):R:=@Int.rec (λ_=>R) (λm=>Gg m λm=>K (.ofNat m)) (λm=>Gg m λm=>K (.negSucc m)) n
def rS{R:Type}(v:CV)(K:CV->R):R:=match v with
 |.i k n=>JZ n λn=>K (.i k n)
 |.b t=>@Bool.rec (λ_=>R) (K (.b false)) (K (.b true)) t
 |.s l n=>Gg l λl=>Gg n λn=>K (.s l n)
 |.p r g off=>Gg r λr=>Gg g λg=>Gg off λoff=>K (.p r g off)
 |.sl r g off len sz cap=>Gg r λr=>Gg g λg=>Gg off λoff=>Gg len λlen=>Gg cap λcap=>K (.sl r g off len sz cap)
 |v=>K v
def nth{α:Type}(l:List α):Nat->Option α :=
 @List.rec α (λ_=>Nat->Option α) (λ_=>none) (λx _ ih n=>@Nat.rec (λ_=>Option α) (some x) (λm _=>ih m) n) l
def len{α:Type}(l:List α):Nat:=@List.rec α (λ_=>Nat) 0 (λ_ _ n=>Nat.succ n) l
def app{α:Type}(l t:List α):List α:=@List.rec α (λ_=>List α) t (λx _ ih=>x :: ih) l
def By{α:Type}(n:Nat):List α->List α :=
 @Nat.rec (λ_=>List α->List α) (λl=>l) (λ_ ih l=>@List.rec α (λ_=>List α) [] (λ_ t _=>ih t) l) n
def takeN{α:Type}(n:Nat):List α->List α :=
 @Nat.rec (λ_=>List α->List α) (λ_=>[]) (λ_ ih l=>@List.rec α (λ_=>List α) [] (λx t _=>x :: ih t) l) n
def B9(l vs:List CV)(n:Nat):List CV:=app (takeN n l) (app vs (By (Nat.add n (len vs)) l))
def sd{α β:Type}(g:α->Option β)(l:List α):Option (List β) :=
 @List.rec α (λ_=>Option (List β)) (some []) (λx _ ih=>match g x with|none=>none|some y=>match ih with|none=>none|some ys=>some (y :: ys)) l
def Cg{α:Type}(g:α->Bool)(l:List α):Bool:=@List.rec α (λ_=>Bool) true (λx _ ih=>bif g x then ih else false) l
def Dx(x:Nat)(l:List Nat):Bool:=@List.rec Nat (λ_=>Bool) false (λy _ ih=>bif Nat.beq y x then true else ih) l
inductive TK where
 |int (k:IntKind)
 |bool
 |string
 |ptr (e:TypeId)
 |slice (e:TypeId)
 |struct (fs:List (Nat×TypeId))
 |array (n:Nat) (e:TypeId)
 |map (k e:TypeId)
 |iface
 |func
 |pU
 |other
structure TI where
 k:TK
 size:Nat
 bytes:Nat
 zero:List CV
structure FI where
 ntmps:Nat
 results:List ResultVar
 body:Code
structure En where
 T:Nat->Option TI
 F:Nat->Option FI
 G:Nat->Option Nat
 X:Nat->Option Nat
 M:Nat->List (List CV×CV)
def Xh:IntKind->Nat
 |.i8=>127|.i16=>32767|.i32=>2147483647|.i64=>9223372036854775807
 |.u8=>255|.u16=>65535|.u32=>4294967295|.u64=>18446744073709551615
def zu(k:IntKind):Int->Int->Int
 |.ofNat a,.ofNat c=>bif Nat.ble (Nat.add a c) (Xh k) then .ofNat (Nat.add a c) else k.wrap (.ofNat (Nat.add a c))
 |x,y=>k.wrap (x+y)
def an(k:IntKind):Int->Int->Int
 |.ofNat a,.ofNat c=>bif Nat.ble c a&&Nat.ble a (Xh k) then .ofNat (Nat.sub a c) else k.wrap (.ofNat a-.ofNat c)
 |x,y=>k.wrap (x-y)
def ur(k:IntKind):Int->Int->Int
 |.ofNat a,.ofNat c=>bif Nat.ble (Nat.mul a c) (Xh k) then .ofNat (Nat.mul a c) else k.wrap (.ofNat (Nat.mul a c))
 |x,y=>k.wrap (x * y)
def cvI(k:IntKind):Int->Int
 |.ofNat a=>bif Nat.ble a (Xh k) then .ofNat a else k.wrap (.ofNat a)
 |x=>k.wrap x
def vP:Int->Int->Bool
 |.ofNat a,.ofNat c=>Nat.beq a c
 |.negSucc a,.negSucc c=>Nat.beq a c
 |_,_=>false
def tW:Int->Int->Bool
 |.ofNat a,.ofNat c=>Nat.ble a c
 |.negSucc a,.negSucc c=>Nat.ble c a
 |.negSucc _,.ofNat _=>true
 |.ofNat _,.negSucc _=>false
def isNeg:Int->Bool
 |.ofNat _=>false
 |.negSucc _=>true
def u6:Int->Bool
 |.ofNat a=>Nat.beq a 0
 |.negSucc _=>false
def FQ:Int->Option Nat
 |.ofNat a=>some a
 |.negSucc _=>none
def Aoz(op:BinOp)(k:IntKind)(x y:Int):Option CV:=match op with
 |.quo=>bif u6 y then none else some (.i k (k.wrap (x.tdiv y)))
 |.rem=>bif u6 y then none else some (.i k (x.tmod y))
 |.and=>some (.i k (k.wrap (BitVec.ofInt k.bits x &&& BitVec.ofInt k.bits y).toNat))
 |.or=>some (.i k (k.wrap (BitVec.ofInt k.bits x ||| BitVec.ofInt k.bits y).toNat))
 |.xor=>some (.i k (k.wrap (BitVec.ofInt k.bits x ^^^ BitVec.ofInt k.bits y).toNat))
 |.andNot=>some (.i k (k.wrap (BitVec.ofInt k.bits x &&& ~~~BitVec.ofInt k.bits y).toNat))
 |_=>none
def Anv(op:BinOp)(k:IntKind)(x y:Int):Option CV:=match op with
 |.add=>some (.i k (zu k x y))
 |.sub=>some (.i k (an k x y))
 |.mul=>some (.i k (ur k x y))
 |.eql=>some (.b (vP x y))
 |.neq=>some (.b (!vP x y))
 |.lss=>some (.b (!tW y x))
 |.leq=>some (.b (tW x y))
 |.gtr=>some (.b (!tW x y))
 |.geq=>some (.b (tW y x))
 |.shl|.shr=>none
 |op=>Aoz op k x y
def az(op:BinOp)(k:IntKind)(x y:Int):Option CV:=bif isNeg y then none else match op with
 |.shl=>some (.i k (k.wrap (x * 2 ^ (min y.toNat k.bits))))
 |.shr=>some (.i k (x.fdiv (2 ^ (min y.toNat k.bits))))
 |_=>none
def ad8(l n l' n':Nat):CV:=.s (Nat.add l l') (Nat.add n (Nat.mul n' (Nat.pow 256 l)))
def SC(n a c:Nat):CV:=.s (Nat.sub c a) (Nat.mod (Nat.div n (Nat.pow 256 a)) (Nat.pow 256 (Nat.sub c a)))
def Ea(n i:Nat):Nat:=Nat.mod (Nat.div n (Nat.pow 256 i)) 256
def vO(l n l' n':Nat):Bool:=Nat.beq l l'&&Nat.beq n n'
def Kr(l:List Nat):Nat:=@List.rec Nat (λ_=>Nat) 0 (λx _ ih=>Nat.add x (Nat.mul 256 ih)) l
def ofBytes(s:ByteArray):Nat×Nat:=(s.data.toList.length,s.data.toList.foldr (λx a=>Nat.add x.toNat (Nat.mul 256 a)) 0)
def H2(n:Nat)(l:Nat):Nat->List CV :=
 @Nat.rec (λ_=>Nat->List CV) (λ_=>[]) (λ_ ih i=>.i .u8 (.ofNat (Ea n i)) :: ih (Nat.succ i)) l
def V7(n c:Nat)(l:Nat):Nat->Option Nat :=
 @Nat.rec (λ_=>Nat->Option Nat) (λ_=>none) (λ_ ih i=>bif Nat.beq (Ea n i) c then some i else ih (Nat.succ i)) l
def DF:Value->CV
 |.bool t=>.b t
 |.int k n=>.i k n
 |.string s=>.s (ofBytes s).1 (ofBytes s).2
 |.pointer none=>.np
 |.slice none 0 0=>.ns
 |.map none=>.nm
 |.nilFunc=>.nf
 |.nilIface=>.ni
 |_=>.bot
def SY:Value->CV
 |.agg cs=>.agg (cs.toList.map DF)
 |.tuple vs=>.tup (vs.toList.map DF)
 |v=>DF v
def aX(fr:Tr CV)(t:Nat):CV:=match fr.get t with
 |some v=>v
 |none=>.bot
def ev(en:En)(fr:Tr CV)(x:Operand):CV:=match x with
 |.tmp t=>aX fr t
 |.const v=>SY v
 |.global g=>match en.G g with|some r=>.p r 0 0|none=>.bot
 |.func f=>.f f [] []
structure CW where
 v:CV
 w:Nat
inductive CO where
 |c (ty:Nat) (t:Tr CW) (n g fz:Nat) (ro mk:Bool)
 |mp (es:List (CV×CV))
 |lp (st:Nat) (pd:Option Code) (fn:Nat) (fr:Tr CV) (ps:List Nat) (dQ body:Code) (df:Nat)
 |it (len num pos:Nat)
 |df
 |dead
def cellAt(t:Tr CW)(g i:Nat):Option CV:=match t.get i with
 |some c=>bif Nat.ble c.w g then some c.v else none
 |none=>none
def Ha(t:Tr CW)(g:Nat)(n:Nat):Nat->Option (List CV) :=
 @Nat.rec (λ_=>Nat->Option (List CV)) (λ_=>some []) (λ_ ih i=>match cellAt t g i with
  |none=>none
  |some v=>match ih (Nat.succ i) with|none=>none|some vs=>some (v :: vs)) n
def oZ(l:List CV):Nat->Tr CW :=
 @List.rec CV (λ_=>Nat->Tr CW) (λ_=>.e) (λv _ ih i=>Tr.set (ih (Nat.succ i)) i ⟨v,0⟩) l
def DL{R:Type}(w:Nat)(l:List CV):Tr CW->Nat->(Tr CW->R)->R :=
 @List.rec CV (λ_=>Tr CW->Nat->(Tr CW->R)->R) (λt _ K=>K t) (λv _ ih t i K=>rS v λv=>Tr.dL t i ⟨v,w⟩ λt=>ih t (Nat.succ i) K) l
def there(t:Tr CW)(n:Nat):Nat->Bool :=
 @Nat.rec (λ_=>Nat->Bool) (λ_=>true) (λ_ ih i=>match t.get i with|some _=>ih (Nat.succ i)|none=>false) n
def Nm:CV->Bool
 |.agg _|.tup _|.bot|.u=>false
 |_=>true
def CV.cells:CV->List CV
 |.agg cs=>cs
 |v=>[v]
def isAgg(en:En)(t:Nat):Option (Bool×Nat):=match en.T t with
 |some ⟨.struct _,n,_,_⟩|some ⟨.array _ _,n,_,_⟩=>some (true,n)
 |some ⟨_,n,_,_⟩=>some (false,n)
 |none=>none
def Ez(en:En)(t:Nat):Option Nat:=match en.T t with|some ti=>some ti.size|none=>none
def Ang(en:En)(t:Nat)(tr:Tr CW)(g off:Nat):Option CV:=match isAgg en t with
 |some (true,n)=>match Ha tr g n off with|some l=>some (.agg l)|none=>none
 |some (false,_)=>cellAt tr g off
 |none=>none
def Rn(en:En)(t:Nat)(cs:List CV)(off:Nat):Option CV:=match isAgg en t with
 |some (true,n)=>bif Nat.ble (Nat.add off n) (len cs) then some (.agg (takeN n (By off cs))) else none
 |some (false,_)=>nth cs off
 |none=>none
def u4:IntKind->Nat
 |.i8=>0|.i16=>1|.i32=>2|.i64=>3|.u8=>4|.u16=>5|.u32=>6|.u64=>7
def pT(a c:IntKind):Bool:=Nat.beq (u4 a) (u4 c)
def jn(d:Nat):CV->CV->Option Bool :=
 @Nat.rec (λ_=>CV->CV->Option Bool) (λ_ _=>none) (λ_ ih x y=>match x,y with
  |.b s,.b t=>some (bif s then t else !t)
  |.i j a,.i k c=>bif pT j k then some (vP a c) else none
  |.s l n,.s l' n'=>some (vO l n l' n')
  |.np,.np=>some true
  |.np,.p _ _ _=>some false
  |.p _ _ _,.np=>some false
  |.ns,.ns=>some true
  |.ns,.sl _ _ _ _ _ _=>some false
  |.sl _ _ _ _ _ _,.ns=>some false
  |.nm,.nm=>some true
  |.ni,.ni=>some true
  |.agg xs,.agg ys=>@List.rec CV (λ_=>List CV->Option Bool) (λys=>match ys with | []=>some true|_=>none)
    (λx _ rec ys=>match ys with | []=>none|y :: ys=>match ih x y with|some true=>rec ys|some false=>some false|none=>none) xs ys
  |_,_=>none) d
def KL(xs ys:List CV):Bool :=
 @List.rec CV (λ_=>List CV->Bool) (λys=>match ys with | []=>true|_=>false)
  (λx _ rec ys=>match ys with | []=>false|y :: ys=>match jn 6 x y with|some true=>rec ys|_=>false) xs ys
def Uq(args:List CV)(l:List (List CV×CV)):Option CV :=
 @List.rec (List CV×CV) (λ_=>Option CV) none (λe _ ih=>bif KL e.1 args then some e.2 else ih) l
def GA(op:BinOp)(k:IntKind)(a:Int)(k':IntKind)(c:Int):Option CV:=bif pT k k' then Anv op k a c else none
def za(op:BinOp)(k:IntKind)(a:Int)(y:CV):Option CV:=match y with
 |.i k' c=>match op with
  |.shl=>az .shl k a c
  |.shr=>az .shr k a c
  |op=>GA op k a k' c
 |_=>none
def y9(op:BinOp)(l n:Nat)(y:CV):Option CV:=match y with
 |.s l' n'=>match op with
  |.add=>bif Nat.ble (Nat.add l l') 1000000000 then some (ad8 l n l' n') else none
  |.eql=>some (.b (vO l n l' n'))
  |.neq=>some (.b (!vO l n l' n'))
  |_=>none
 |_=>none
def Aop(x y:CV):Option Bool:=match x,y with
 |.b s,.b t=>some (bif s then t else !t)
 |_,_=>none
def qx(x y:CV):Option Bool:=match x,y with
 |.i j a,.i k c=>bif pT j k then some (vP a c) else none
 |_,_=>none
def eqStr(x y:CV):Option Bool:=match x,y with
 |.s l n,.s l' n'=>some (vO l n l' n')
 |_,_=>none
def qw(x y:CV):Option Bool:=match x with
 |.np=>match y with|.np=>some true|.p _ _ _=>some false|_=>none
 |.p r g o=>match y with
  |.np=>some false
  |.p r' g' o'=>bif Nat.beq r r'&&Nat.beq g g' then some (Nat.beq o o') else none
  |_=>none
 |_=>none
def KH(x y:CV):Option Bool:=match x with
 |.ns=>match y with|.ns=>some true|.sl _ _ _ _ _ _=>some false|_=>none
 |.sl _ _ _ _ _ _=>match y with|.ns=>some false|_=>none
 |_=>none
def KI(x y:CV):Option Bool:=match x with
 |.nm=>match y with|.nm=>some true|.m _=>some false|_=>none
 |.m _=>match y with|.nm=>some false|_=>none
 |_=>none
def KK(x y:CV):Option Bool:=match x with
 |.nf=>match y with|.nf=>some true|.f _ _ _=>some false|_=>none
 |.f _ _ _=>match y with|.nf=>some false|_=>none
 |_=>none
def KJ(x y:CV):Option Bool:=match x with
 |.ni=>match y with|.ni=>some true|.ifc _ _=>some false|_=>none
 |.ifc _ _=>match y with|.ni=>some false|_=>none
 |_=>none
def ry(en:En)(ih:Nat->CV->CV->Option Bool)(xs ys:List CV)(fs:List (Nat×TypeId)):Option Bool :=
 @List.rec (Nat×TypeId) (λ_=>Option Bool) (some true) (λf _ rest=>match Rn en f.2 xs f.1,Rn en f.2 ys f.1 with
  |some a,some c=>match ih f.2 a c with
   |some true=>rest
   |some false=>some false
   |none=>none
  |_,_=>none) fs
def yj(en:En)(ih:Nat->CV->CV->Option Bool)(t:Nat)(fs:List (Nat×TypeId))(x y:CV):Option Bool:=match x,y with
 |.agg xs,.agg ys=>match en.X (Nat.add 1000000 t) with
  |some _=>ry en ih xs ys fs
  |none=>none
 |_,_=>none
def rz(en:En)(ih:Nat->CV->CV->Option Bool)(t:Nat)(k:TK)(x y:CV):Option Bool:=match k with
 |.bool=>Aop x y
 |.int _=>qx x y
 |.string=>eqStr x y
 |.ptr e=>match Ez en e with
  |some (_+1)=>qw x y
  |_=>none
 |.slice _=>KH x y
 |.map _ _=>KI x y
 |.func=>KK x y
 |.iface=>KJ x y
 |.struct fs=>yj en ih t fs x y
 |_=>none
def uN(en:En)(d:Nat):Nat->CV->CV->Option Bool :=
 @Nat.rec (λ_=>Nat->CV->CV->Option Bool) (λ_ _ _=>none) (λ_ ih t x y=>match en.T t with
  |some ti=>rz en ih t ti.k x y
  |none=>none) d
def KV(en:En)(op:BinOp)(t:Nat)(x y:CV):Option CV:=match op with
 |.eql=>match uN en 10 t x y with|some t=>some (.b t)|none=>none
 |.neq=>match uN en 10 t x y with|some t=>some (.b (!t))|none=>none
 |_=>none
def Aaj(c:Bool)(x y:CV):Bool:=match x with
 |.ni=>match y with|.ni=>c|_=>true
 |_=>true
def zb(en:En)(c:Bool)(op:BinOp)(t:Nat)(x y:CV):Option CV:=match x with
 |.i k a=>za op k a y
 |.s l n=>y9 op l n y
 |x=>bif Aaj c x y then KV en op t x y else none
def FN(x:CV):Option CV:=match x with
 |.b t=>some (.b (!t))
 |_=>none
def FO(x:CV):Option CV:=match x with
 |.i k n=>some (.i k (an k 0 n))
 |_=>none
def RX(op:UnOp)(x:CV):Option CV:=match op with
 |.not=>FN x
 |.neg=>FO x
 |_=>none
def So(x:CV):Option Nat:=match x with
 |.i _ n=>FQ n
 |_=>none
def Hs(en:En)(fr:Tr CV)(d:Nat)(x:Option Operand):Option Nat:=match x with
 |none=>some d
 |some x=>So (ev en fr x)
def ny(l n h a:Nat):Option CV:=bif Nat.ble h l&&Nat.ble a h then some (SC n a h) else none
def nz(h a:Nat):Option CV:=bif Nat.beq h 0&&Nat.beq a 0 then some .ns else none
def Ho(hp:Tr CO)(r g off sz:Nat):Nat:=match hp.get r with
 |some (.c _ _ n G _ _ _)=>bif Nat.beq g G then Nat.div (Nat.sub n off) sz else 0
 |_=>0
def Yd(hp:Tr CO)(r g off l sz cap h a:Nat):Option CV:=bif Nat.beq cap 0 then (bif (bif Nat.ble h l then true else Nat.ble h (Ho hp r g off sz))&&Nat.ble a h then some (.sl r g (Nat.add off (Nat.mul a sz)) (Nat.sub h a) sz 0) else none)
 else bif Nat.ble h (Nat.sub cap 1)&&Nat.ble a h then some (.sl r g (Nat.add off (Nat.mul a sz)) (Nat.sub h a) sz (Nat.sub cap a)) else none
def n9(r g off l sz cap h a m:Nat):Option CV :=
 bif Nat.ble m (bif Nat.beq cap 0 then l else Nat.sub cap 1)&&Nat.ble h m&&Nat.ble a h then some (.sl r g (Nat.add off (Nat.mul a sz)) (Nat.sub h a) sz (Nat.succ (Nat.sub m a))) else none
def PL(r g off n sz h a:Nat):Option CV:=bif Nat.ble h n&&Nat.ble a h then some (.sl r g (Nat.add off (Nat.mul a sz)) (Nat.sub h a) sz (Nat.succ (Nat.sub n a))) else none
def NM(en:En)(l n:Nat)(lo hi mx:Option Operand)(fr:Tr CV):Option CV:=match mx,Hs en fr l hi,Hs en fr 0 lo with
 |none,some h,some a=>ny l n h a
 |_,_,_=>none
def NO(en:En)(lo hi mx:Option Operand)(fr:Tr CV):Option CV:=match mx,Hs en fr 0 hi,Hs en fr 0 lo with
 |none,some h,some a=>nz h a
 |_,_,_=>none
def tz(en:En)(hp:Tr CO)(r g off l sz cap:Nat)(lo hi mx:Option Operand)(fr:Tr CV):Option CV:=match Hs en fr l hi,Hs en fr 0 lo with
 |some h,some a=>match mx with
  |some m=>match So (ev en fr m),hi with
   |some m,some _=>n9 r g off l sz cap h a m
   |_,_=>none
  |none=>Yd hp r g off l sz cap h a
 |_,_=>none
def EZ(en:En)(hp:Tr CO)(n e r g off:Nat)(lo hi mx:Option Operand)(fr:Tr CV):Option CV:=match mx,Ez en e,Hs en fr n hi,Hs en fr 0 lo with
 |none,some (sz+1),some h,some a=>bif Nat.ble n (Ho hp r g off (Nat.succ sz))&&Nat.ble 1 n then PL r g off n (Nat.succ sz) h a else none
 |_,_,_,_=>none
def AS(en:En)(e sz:Nat):Bool:=match Ez en e with
 |some n=>Nat.beq sz n
 |none=>false
def EY(en:En)(hp:Tr CO)(e:Nat)(x:CV)(lo hi mx:Option Operand)(fr:Tr CV):Option CV:=match x with
 |.ns=>match Ez en e with
  |some _=>NO en lo hi mx fr
  |none=>none
 |.sl r g off l sz cap=>bif AS en e sz then tz en hp r g off l sz cap lo hi mx fr else none
 |_=>none
def rZ(en:En)(hp:Tr CO)(t:Nat)(x:CV)(lo hi mx:Option Operand)(fr:Tr CV):Option CV:=match en.T t with
 |some ⟨.string,_,_,_⟩=>match x with
  |.s l n=>NM en l n lo hi mx fr
  |_=>none
 |some ⟨.slice e,_,_,_⟩=>EY en hp e x lo hi mx fr
 |some ⟨.array n e,_,_,_⟩=>match x with
  |.p r g off=>EZ en hp n e r g off lo hi mx fr
  |_=>none
 |_=>none
def q9(n:Int):Option Nat:=match n with
 |.ofNat m=>bif Nat.ble m 255 then some m else none
 |_=>none
def Wo(c:CV):Option Nat:=match c with
 |.i .u8 n=>q9 n
 |_=>none
def Xb(hp:Tr CO)(r g off l:Nat):Option Nat:=match hp.get r with
 |some (.c _ tr _ _ _ _ _)=>match Ha tr g l off with
  |some cs=>match sd Wo cs with
   |some ns=>some (Kr ns)
   |none=>none
  |none=>none
 |_=>none
def MS(hp:Tr CO)(x:CV):Option CV:=match x with
 |.ns=>some (.s 0 0)
 |.sl r g off l _ _=>match Xb hp r g off l with|some n=>some (.s l n)|none=>none
 |_=>none
def Ao6(en:En)(src:Nat)(k:IntKind)(x:CV):Option CV:=match x with
 |.i _ n=>match en.T src with|some _=>some (.i k (cvI k n))|none=>none
 |_=>none
def PG(en:En)(hp:Tr CO)(src:Nat)(x:CV):Option CV:=match en.T src with
 |some ⟨.string,_,_,_⟩=>match x with
  |.s l n=>some (.s l n)
  |_=>none
 |some ⟨.slice e,_,_,_⟩=>match en.T e with
  |some ⟨.int .u8,_,_,_⟩=>MS hp x
  |_=>none
 |_=>none
def PD(en:En)(hp:Tr CO)(src:Nat)(x:CV):Option CV:=match en.T src with
 |some ⟨.ptr t,_,_,_⟩=>match x with
  |.np=>some .np
  |.p r g off=>match Ez en t,hp.get r with
   |some (_+1),some (.c _ tr _ _ _ _ _)=>match cellAt tr g off with|some _=>some (.p r g off)|none=>none
   |_,_=>none
  |_=>none
 |_=>none
def PF(en:En)(hp:Tr CO)(src u:Nat)(x:CV):Option CV:=match en.T src with
 |some ⟨.pU,_,_,_⟩=>match x with
  |.np=>some .np
  |.p r g off=>match Ez en u,hp.get r with
   |some (sz+1),some (.c ty tr _ _ _ _ _)=>match cellAt tr g sz with|some _=>bif Nat.beq off 0&&Nat.beq ty u then some (.p r g off) else none|none=>none
   |_,_=>none
  |_=>none
 |_=>none
def Po(en:En)(hp:Tr CO)(src dst:Nat)(x:CV):Option CV:=match en.T dst with
 |some ⟨.int k,_,_,_⟩=>Ao6 en src k x
 |some ⟨.string,_,_,_⟩=>PG en hp src x
 |some ⟨.pU,_,_,_⟩=>PD en hp src x
 |some ⟨.ptr u,_,_,_⟩=>PF en hp src u x
 |_=>none
def Ane(k:CV)(es:List (CV×CV)):Option (Option CV) :=
 @List.rec (CV×CV) (λ_=>Option (Option CV)) (some none) (λe _ ih=>match jn 6 k e.1 with
  |some true=>some (some e.2)
  |some false=>ih
  |none=>none) es
def AO(k:TK)(x:CV):Bool:=match x with
 |.i _ _=>match k with|.int _=>true|_=>false
 |.s _ _=>match k with|.string=>true|_=>false
 |.b _=>match k with|.bool=>true|_=>false
 |_=>false
def Vo(en:En)(t:Nat)(x:CV):Bool:=match en.T t with
 |some ti=>AO ti.k x
 |none=>false
def Alw(en:En)(t:Nat):Option CV:=match en.T t with
 |some ⟨.struct _,_,_,z⟩|some ⟨.array _ _,_,_,z⟩=>some (.agg z)
 |some ⟨_,_,_,[v]⟩=>some v
 |_=>none
def Ant(x:CV):Bool:=match x with
 |.bot=>true
 |_=>false
def M4(cs:List CV)(x:CV)(off n:Nat)(ih:List CV->Option (List CV)):Option (List CV):=bif !Ant x&&Nat.beq (len x.cells) n&&Nat.ble (Nat.add off n) (len cs) then ih (B9 cs x.cells off) else none
def dI(en:En)(fs:List (Nat×Nat))(fr:Tr CV)(ps:List (Nat×Operand)):List CV->Option (List CV) :=
 @List.rec (Nat×Operand) (λ_=>List CV->Option (List CV)) (λcs=>some cs) (λp _ ih cs=>match nth fs p.1 with
  |none=>none
  |some (off,ft)=>match Ez en ft with
   |none=>none
   |some n=>M4 cs (ev en fr p.2) off n ih) ps
def Hy(en:En)(sz:Nat)(fr:Tr CV)(ps:List (Nat×Operand)):List CV->Option (List CV) :=
 @List.rec (Nat×Operand) (λ_=>List CV->Option (List CV)) (λcs=>some cs) (λp _ ih cs=>M4 cs (ev en fr p.2) (Nat.mul p.1 sz) sz ih) ps
def Nd(z:List CV)(n:Nat):List CV:=@Nat.rec (λ_=>List CV) [] (λ_ ih=>app z ih) n
def Vy(mx:Bool)(xs:List CV):CV->Option CV :=
 @List.rec CV (λ_=>CV->Option CV) (λv=>some v) (λy _ ih v=>match v,y with
  |.i k a,.i k' c=>bif pT k k' then ih (.i k (bif (bif mx then tW c a else tW a c) then a else c)) else none
  |_,_=>none) xs
def PI(en:En)(c a d:Operand)(fr:Tr CV):Option CV:=match ev en fr c with
 |.b t=>some (bif t then ev en fr a else ev en fr d)
 |_=>none
def Rw(en:En)(t:Nat)(hp:Tr CO)(r g off:Nat):Option CV:=match hp.get r with
 |some (.c _ tr _ _ _ _ _)=>Ang en t tr g off
 |_=>none
def NA(en:En)(t:Nat)(a:Operand)(hp:Tr CO)(fr:Tr CV):Option CV:=match ev en fr a with
 |.p r g off=>Rw en t hp r g off
 |_=>none
def RG(en:En)(t f:Nat):Option (Nat×Nat):=match en.T t with
 |some ⟨.struct fs,_,_,_⟩=>nth fs f
 |_=>none
def Aof(en:En)(t f:Nat):Option Nat:=match RG en t f with
 |some (fo,ft)=>match Ez en ft with
  |some (_+1)=>some fo
  |_=>none
 |none=>none
def To(en:En)(t:Nat)(x:Operand)(f:Nat)(fr:Tr CV):Option CV:=match Aof en t f with
 |some fo=>match ev en fr x with
  |.p r g off=>some (.p r g (Nat.add off fo))
  |_=>none
 |none=>none
def RD(en:En)(t:Nat)(x:Operand)(f:Nat)(fr:Tr CV):Option CV:=match RG en t f with
 |some (fo,ft)=>match ev en fr x with
  |.agg cs=>Rn en ft cs fo
  |_=>none
 |none=>none
def FY(r g off l sz i:Nat):Option CV:=bif Nat.ble (Nat.succ i) l then some (.p r g (Nat.add off (Nat.mul i sz))) else none
def ot(en:En)(r g off n e i:Nat):Option CV:=match Ez en e with
 |some (sz+1)=>bif Nat.ble (Nat.succ i) n then some (.p r g (Nat.add off (Nat.mul i (Nat.succ sz)))) else none
 |_=>none
def Tn(en:En)(t:Nat)(x y:Operand)(fr:Tr CV):Option CV:=match So (ev en fr y) with
 |none=>none
 |some i=>match en.T t with
  |some ⟨.slice e,_,_,_⟩=>match ev en fr x with
   |.sl r g off l sz _=>bif AS en e sz then FY r g off l sz i else none
   |_=>none
  |some ⟨.array n e,_,_,_⟩=>match ev en fr x with
   |.p r g off=>ot en r g off n e i
   |_=>none
  |_=>none
def oq(l n i:Nat):Option CV:=bif Nat.ble (Nat.succ i) l then some (.i .u8 (.ofNat (Ea n i))) else none
def ou(en:En)(cs:List CV)(n e i:Nat):Option CV:=match Ez en e with
 |some sz=>bif Nat.ble (Nat.succ i) n then Rn en e cs (Nat.mul i sz) else none
 |none=>none
def RF(en:En)(t:Nat)(x y:Operand)(fr:Tr CV):Option CV:=match So (ev en fr y) with
 |none=>none
 |some i=>match en.T t with
  |some ⟨.string,_,_,_⟩=>match ev en fr x with
   |.s l n=>oq l n i
   |_=>none
  |some ⟨.array n e,_,_,_⟩=>match ev en fr x with
   |.agg cs=>ou en cs n e i
   |_=>none
  |_=>none
def Pl(en:En)(x:Operand)(i:Nat)(fr:Tr CV):Option CV:=match ev en fr x with
 |.tup vs=>nth vs i
 |_=>none
def jd(en:En)(x:Operand)(fr:Tr CV):Option CV:=match ev en fr x with
 |.p r g off=>some (.p r g off)
 |.f f a c=>some (.f f a c)
 |_=>none
def RE(en:En)(t:Nat)(x:Operand)(fr:Tr CV):Option CV:=match en.T t with
 |some ⟨.iface,_,_,_⟩=>none
 |some _=>some (.ifc t (ev en fr x))
 |none=>none
def PH(en:En)(f:Fn)(a c:Array Operand)(fr:Tr CV):Option CV:=match f with
 |.func f=>some (.f f (a.toList.map (ev en fr)) (c.toList.map (ev en fr)))
 |_=>none
def lz(l:Option (List CV)):Option CV:=match l with|some cs=>some (.agg cs)|none=>none
def RC(en:En)(t:Nat)(ps:List (Nat×Operand))(fr:Tr CV):Option CV:=match en.T t with
 |some ⟨.struct fs,_,_,z⟩=>lz (dI en fs fr ps z)
 |some ⟨.array _ e,_,_,z⟩=>match Ez en e with
  |some sz=>lz (Hy en sz fr ps z)
  |none=>none
 |_=>none
def NU(ok:Bool)(v:CV)(is:Bool):CV:=bif ok then .tup [v,.b is] else v
def NG(hp:Tr CO)(x k z:CV)(ok:Bool):Option CV:=match x with
 |.nm=>some (NU ok z false)
 |.m r=>match hp.get r with
  |some (.mp es)=>match Ane k es with
   |some (some v)=>some (NU ok v true)
   |some none=>some (NU ok z false)
   |none=>none
  |_=>none
 |_=>none
def NB(en:En)(t:Nat)(x y:Operand)(ok:Bool)(hp:Tr CO)(fr:Tr CV):Option CV:=match en.T t with
 |some ⟨.map kt e,_,_,_⟩=>match Alw en e with
  |some z=>bif Vo en kt (ev en fr y) then NG hp (ev en fr x) (ev en fr y) z ok else none
  |none=>none
 |_=>none
def MM(k:TK)(hp:Tr CO)(x:CV):Option CV:=match k with
 |.string=>match x with|.s l _=>some (.i .i64 (.ofNat l))|_=>none
 |.slice _=>match x with|.ns=>some (.i .i64 (.ofNat 0))|.sl _ _ _ l _ _=>some (.i .i64 (.ofNat l))|_=>none
 |.map _ _=>match x with
  |.nm=>some (.i .i64 (.ofNat 0))
  |.m r=>match hp.get r with|some (.mp es)=>some (.i .i64 (.ofNat (len es)))|_=>none
  |_=>none
 |.array n _=>some (.i .i64 (.ofNat n))
 |_=>none
def ML(en:En)(xs:List Operand)(ts:List TypeId)(hp:Tr CO)(fr:Tr CV):Option CV:=match xs,ts with
 | [x],[t]=>match en.T t with
  |some ti=>MM ti.k hp (ev en fr x)
  |none=>none
 |_,_=>none
def je(en:En)(xs:List Operand)(ts:List TypeId)(fr:Tr CV):Option CV:=match xs,ts with
 | [x],[t]=>match en.T t with
  |some ⟨.slice _,_,_,_⟩=>match ev en fr x with
   |.ns=>some (.i .i64 (.ofNat 0))
   |.sl _ _ _ _ _ (c+1)=>some (.i .i64 (.ofNat c))
   |_=>none
  |_=>none
 |_,_=>none
def CF(en:En)(mx:Bool)(xs:List Operand)(fr:Tr CV):Option CV:=match xs with
 |x :: xs=>Vy mx (xs.map (ev en fr)) (ev en fr x)
 | []=>none
def jc(en:En)(xs:List Operand)(fr:Tr CV):Option CV:=match xs with
 | [x]=>match ev en fr x with
  |.ns=>some .np
  |.sl r g off l _ _=>bif Nat.beq l 0 then none else some (.p r g off)
  |_=>none
 |_=>none
structure XF where
 f:Tr CO->Tr CV->Option CV
def MN(en:En)(b:Builtin)(xs:List Operand)(ts:List TypeId):XF:=match b with
 |.len=>⟨λhp fr=>ML en xs ts hp fr⟩
 |.cap=>⟨λ_ fr=>je en xs ts fr⟩
 |.min=>⟨λ_ fr=>CF en false xs fr⟩
 |.max=>⟨λ_ fr=>CF en true xs fr⟩
 |.unsafeSliceData=>⟨λ_ fr=>jc en xs fr⟩
 |_=>⟨λ_ _=>none⟩
def ru(en:En)(op:Op):XF:=match op with
 |.move x=>⟨λ_ fr=>some (ev en fr x)⟩
 |.assign x=>⟨λ_ fr=>some (ev en fr x)⟩
 |.pick c a d=>⟨λ_ fr=>PI en c a d fr⟩
 |.binOp op t x y _=>⟨λ_ fr=>zb en (Region.isConst x||Region.isConst y) op t (ev en fr x) (ev en fr y)⟩
 |.unOp op _ x=>⟨λ_ fr=>RX op (ev en fr x)⟩
 |.load t a=>⟨λhp fr=>NA en t a hp fr⟩
 |.fieldAddr t x f=>⟨λ_ fr=>To en t x f fr⟩
 |.field t x f=>⟨λ_ fr=>RD en t x f fr⟩
 |.indexAddr t x y=>⟨λ_ fr=>Tn en t x y fr⟩
 |.index t x y=>⟨λ_ fr=>RF en t x y fr⟩
 |.extract x i=>⟨λ_ fr=>Pl en x i fr⟩
 |.nilCheck x=>⟨λ_ fr=>jd en x fr⟩
 |.slice t x lo hi mx=>⟨λhp fr=>rZ en hp t (ev en fr x) lo hi mx fr⟩
 |.convert s d x=>⟨λhp fr=>Po en hp s d (ev en fr x)⟩
 |.makeInterface t x=>⟨λ_ fr=>RE en t x fr⟩
 |.makeFunc f a c=>⟨λ_ fr=>PH en f a c fr⟩
 |.build t ps=>⟨λ_ fr=>RC en t ps.toList fr⟩
 |.lookup t x y ok=>⟨λhp fr=>NB en t x y ok hp fr⟩
 |.call c=>match c.callee with
  |.builtin b=>MN en b c.args.toList c.argTypes.toList
  |_=>⟨λ_ _=>none⟩
 |_=>⟨λ_ _=>none⟩
def oU(en:En)(hp:Tr CO)(fr:Tr CV)(o:Oper):Option CV:=(ru en o.op).f hp fr
structure PE where
 j:Nat
 o:Oper
 re:List Oper
inductive TD where
 |nil
 |rt
 |code (c:Code) (k:TD)
 |aE (id:Nat) (k:TD)
 |loop (c:Code) (k:TD)
 |scope (c:Code) (k:TD)
 |rl (ops:Array Oper) (l:List Oper) (k:TD)
 |rd (ops:Array Oper) (l:List PE) (k:TD)
 |rf (l:Nat) (k:TD)
 |vN (l:Nat) (k:TD)
 |br (k:TD)
inductive gJ where
 |nil
 |cons (fn:Nat) (fr:Tr CV) (td:TD) (ds:List Nat) (ro:Option Nat) (k:gJ)
inductive AM where
 |run (fn:Nat) (fr:Tr CV) (td:TD) (ds:List Nat) (ro:Option Nat) (k:gJ) (hp:Tr CO) (nx:Nat)
 |fin (v:CV) (hp:Tr CO) (nx:Nat)
 |bad (why:Nat)
abbrev KA:=CV->Tr CO->Nat->AM
def zK(w:Nat)(cs:List CV)(hp:Tr CO)(r off ty:Nat)(tr:Tr CW)(n G fz:Nat)(mk:Bool)(K:Tr CO->AM):AM:=DL w cs tr off λtr=>Tr.dL hp r (.c ty tr n G fz false mk) K
def zL(z:AM)(cs:List CV)(hp:Tr CO)(r g off:Nat)(K:Tr CO->AM):AM:=match hp.get r with
 |some (.c ty tr n G fz ro mk)=>bif Nat.beq g G&&Nat.ble fz off&&!ro&&there tr (len cs) off&&Cg Nm cs then zK g cs hp r off ty tr n G fz mk K else z
 |_=>z
def Ot(z:AM)(o:CO)(hp:Tr CO)(nx:Nat)(K:Tr CO->Nat->AM):AM :=
 bif Nat.ble (Nat.succ (Nat.succ nx)) aH then Gg (Nat.succ nx) λgN=>Tr.dL hp nx o λhp=>K hp gN else z
def Rs(z:AM)(e:Nat)(cs:List CV)(n:Nat)(mk:Bool)(hp:Tr CO)(nx:Nat)(K:Tr CO->Nat->AM):AM:=bif Nat.ble (len cs) 10000000 then Ot z (.c e (oZ cs 0) n 0 0 false mk) hp nx K else z
def Ag4(hp:Tr CO)(sz r g off l:Nat):Option (List CV×Nat):=match hp.get r with
 |some (.c _ tr _ _ _ _ _)=>match Ha tr g (Nat.mul l sz) off with
  |some cs=>some (cs,l)
  |none=>none
 |_=>none
def PZ(hp:Tr CO)(sz:Nat)(x:CV):Option (List CV×Nat):=match x with
 |.ns=>some ([],0)
 |.sl r g off l cN _=>bif Nat.beq sz cN then Ag4 hp sz r g off l else none
 |.s l n=>bif Nat.beq sz 1 then some (H2 n l 0,l) else none
 |_=>none
def newRow(z:AM)(e sz m:Nat)(cs:List CV)(hp:Tr CO)(nx:Nat)(K:KA):AM:=Rs z e cs (Nat.mul m sz) false hp nx λhp gN=>K (.sl nx 0 0 m sz 0) hp gN
def Zg(z:AM)(cs:List CV)(hp:Tr CO)(nx r at_ ty:Nat)(tr:Tr CW)(n G fz:Nat)(mk:Bool)(v:CV)(K:KA):AM :=
 bif there tr (len cs) at_ then zK G cs hp r at_ ty tr n G fz mk λhp=>K v hp nx else z
def PM(z:AM)(e:Nat)(cs:List CV)(hp:Tr CO)(nx r off l sz at_ ty:Nat)(tr:Tr CW)(top G fz:Nat)(mk:Bool)(K:KA):AM :=
 bif Nat.beq ty e then Gg (Nat.succ G) λG'=>Gg top λtop=>DL G' cs tr at_ λtr=>Tr.dL hp r (.c ty tr top G' fz false mk) λhp=>K (.sl r G' off l sz 0) hp nx else z
def Apr(z:AM)(e sz m:Nat)(cs:List CV)(r g off l cap:Nat)(hp:Tr CO)(nx:Nat)(K:KA)(at_ top:Nat)(ty:Nat)(tr:Tr CW)(n G fz:Nat)(mk:Bool):AM :=
 bif Nat.beq cap 0 then
  bif Nat.ble top n then Zg z cs hp nx r at_ ty tr n G fz mk (.sl r g off (Nat.add l m) sz 0) K
  else PM z e cs hp nx r off (Nat.add l m) sz at_ ty tr top G fz mk K
 else bif Nat.ble (Nat.succ (Nat.add l m)) cap then Zg z cs hp nx r at_ ty tr n G fz mk (.sl r g off (Nat.add l m) sz cap) K
 else match Ha tr g (Nat.mul l sz) off with
  |some old=>newRow z e sz (Nat.add l m) (app old cs) hp nx K
  |none=>z
def C8(z:AM)(e sz m:Nat)(cs:List CV)(r g off l cap:Nat)(hp:Tr CO)(nx:Nat)(K:KA)(at_ top:Nat):AM:=match hp.get r with
 |some (.c ty tr n G fz ro mk)=>bif Nat.beq g G&&Nat.ble fz at_&&!ro&&Nat.ble (Nat.add l m) 1000000000&&Nat.ble top aH then Apr z e sz m cs r g off l cap hp nx K at_ top ty tr n G fz mk else z
 |_=>z
def zj(z:AM)(e sz m:Nat)(cs:List CV)(base:CV)(hp:Tr CO)(nx:Nat)(K:KA):AM:=match base with
 |.ns=>bif Nat.beq m 0 then K .ns hp nx else newRow z e sz m cs hp nx K
 |.sl r g off l cN cap=>bif Nat.beq sz cN then bif Nat.beq m 0 then K (.sl r g off l sz cap) hp nx else C8 z e sz m cs r g off l cap hp nx K (Nat.add off (Nat.mul l sz)) (Nat.add off (Nat.mul (Nat.add l m) sz)) else z
 |_=>z
def Z9(k v:CV)(es:List (CV×CV)):Option (List (CV×CV)) :=
 @List.rec (CV×CV) (λ_=>Option (List (CV×CV))) (some [(k,v)]) (λe t ih=>match jn 6 k e.1 with
  |some true=>some ((k,v) :: t)
  |some false=>match ih with|some t=>some (e :: t)|none=>none
  |none=>none) es
def Wm(en:En)(t:Nat)(z:AM)(hp:Tr CO)(nx:Nat)(K:KA):AM:=match en.T t with
 |some ⟨_,_+1,_,zr⟩=>Rs z t zr (len zr) false hp nx λhp gN=>K (.p nx 0 0) hp gN
 |_=>z
def KU(t n:Nat)(cs:List CV)(z:AM)(hp:Tr CO)(nx:Nat)(K:KA):AM :=
 bif Cg Nm cs&&Nat.beq (len cs) (Nat.succ n) then Rs z t cs (len cs) false hp nx λhp gN=>K (.p nx 0 0) hp gN else z
def kx(en:En)(t:Nat)(x:Operand)(z:AM)(hp:Tr CO)(nx:Nat)(fr:Tr CV)(K:KA):AM:=match en.T t with
 |some ⟨_,n+1,_,_⟩=>KU t n (ev en fr x).cells z hp nx K
 |_=>z
def uu(e n sz:Nat)(cs:Option (List CV))(z:AM)(hp:Tr CO)(nx:Nat)(K:KA):AM:=match cs with
 |some cs=>bif Cg Nm cs then Rs z e cs (len cs) false hp nx λhp gN=>K (.sl nx 0 0 n sz (Nat.succ n)) hp gN else z
 |none=>z
def Hk(en:En)(t:Nat):Option Nat:=match en.T t with
 |some ⟨.slice e,_,_,_⟩=>some e
 |_=>none
def Tq(en:En)(t n:Nat)(ps:List (Nat×Operand))(z:AM)(hp:Tr CO)(nx:Nat)(fr:Tr CV)(K:KA):AM:=match Hk en t with
 |some e=>match en.T e with
  |some ⟨_,sz+1,_,zr⟩=>bif Nat.ble (Nat.mul n (Nat.succ sz)) 10000 then uu e n (Nat.succ sz) (Hy en (Nat.succ sz) fr ps (Nd zr n)) z hp nx K else z
  |_=>z
 |none=>z
def FT(e l c sz b:Nat)(zr:List CV)(z:AM)(hp:Tr CO)(nx:Nat)(K:KA):AM :=
 bif Nat.ble l c&&Nat.ble (Nat.mul c sz) 100000&&Nat.ble (Nat.mul c b) 1000000000 then Rs z e (Nd zr c) (Nat.mul c sz) false hp nx λhp gN=>K (.sl nx 0 0 l sz (Nat.succ c)) hp gN else z
def RP(en:En)(t:Nat)(l c:Operand)(z:AM)(hp:Tr CO)(nx:Nat)(fr:Tr CV)(K:KA):AM:=match Hk en t,So (ev en fr l),So (ev en fr c) with
 |some e,some l,some c=>match en.T e with
  |some ⟨_,sz+1,b,zr⟩=>FT e l c (Nat.succ sz) b zr z hp nx K
  |_=>z
 |_,_,_=>z
def Al6(cs:List CV)(n r g off:Nat)(z:AM)(hp:Tr CO)(nx:Nat)(K:KA):AM:=bif Nat.beq (len cs) n then zL z cs hp r g off λhp=>K .u hp nx else z
def RT(en:En)(t:Nat)(a x:Operand)(z:AM)(hp:Tr CO)(nx:Nat)(fr:Tr CV)(K:KA):AM:=match Ez en t with
 |some n=>match ev en fr a with
  |.p r g off=>Al6 (ev en fr x).cells n r g off z hp nx K
  |_=>z
 |none=>z
def ar(e l n:Nat)(z:AM)(hp:Tr CO)(nx:Nat)(K:KA):AM:=bif Nat.ble l 1000000000 then Rs z e (H2 n l 0) l true hp nx λhp gN=>K (.sl nx 0 0 l 1 0) hp gN else z
def Ana(same:Bool)(r g off l sz cap:Nat)(z:AM)(hp:Tr CO)(nx:Nat)(K:KA):AM:=match hp.get r with
 |some (.c ty tr n G fz ro _)=>bif same&&Nat.beq g G&&Nat.beq fz 0&&!ro&&Nat.ble 1 l then Tr.dL hp r (.c ty tr n G 0 false true) λhp=>K (.sl r g off l sz cap) hp nx else z
 |_=>z
def ak(en:En)(s d e:Nat)(x:CV)(z:AM)(hp:Tr CO)(nx:Nat)(K:KA):AM:=match en.T s,en.T e with
 |some ⟨.string,_,_,_⟩,some ⟨.int .u8,_,_,_⟩=>match x with
  |.s l n=>ar e l n z hp nx K
  |_=>z
 |some ⟨.slice _,_,_,_⟩,some ⟨.int .u8,_,_,_⟩=>match x with
  |.sl r g off l sz cap=>Ana (Nat.beq s d) r g off l sz cap z hp nx K
  |_=>z
 |_,_=>z
def Si(en:En)(s d:Nat)(x:Operand)(z:AM)(hp:Tr CO)(nx:Nat)(fr:Tr CV)(K:KA):AM:=match Hk en d with
 |some e=>ak en s d e (ev en fr x) z hp nx K
 |none=>match Po en hp s d (ev en fr x) with
  |some v=>K v hp nx
  |none=>z
def Anb(ok:Bool)(k v:CV)(r:Nat)(z:AM)(hp:Tr CO)(nx:Nat)(K:KA):AM:=match hp.get r with
 |some (.mp es)=>bif ok then match Z9 k v es with
  |some es=>Tr.dL hp r (.mp es) λhp=>K .u hp nx
  |none=>z else z
 |_=>z
def Q2(en:En)(t:Nat)(m k x:Operand)(z:AM)(hp:Tr CO)(nx:Nat)(fr:Tr CV)(K:KA):AM:=match en.T t with
 |some ⟨.map kt _,_,_,_⟩=>match ev en fr m with
  |.m r=>Anb (Vo en kt (ev en fr k)) (ev en fr k) (ev en fr x) r z hp nx K
  |_=>z
 |_=>z
def RQ(en:En)(t:Nat)(x:Operand)(z:AM)(hp:Tr CO)(nx:Nat)(fr:Tr CV)(K:KA):AM:=match en.T t with
 |some ⟨.string,_,_,_⟩=>match ev en fr x with
  |.s l n=>Ot z (.it l n 0) hp nx λhp gN=>K (.p nx 0 0) hp gN
  |_=>z
 |_=>z
def PK(r l n i:Nat)(z:AM)(hp:Tr CO)(nx:Nat)(K:KA):AM:=bif Nat.ble (Nat.succ i) l then
  bif Nat.ble (Ea n i) 127 then Gg (Nat.succ i) λi'=>Tr.dL hp r (.it l n i') λhp=>K (.tup [.b true,.i .i64 (.ofNat i),.i .i32 (.ofNat (Ea n i))]) hp nx else z
 else K (.tup [.b false]) hp nx
def PQ(en:En)(x:Operand)(s:Bool)(z:AM)(hp:Tr CO)(nx:Nat)(fr:Tr CV)(K:KA):AM:=bif s then match ev en fr x with
 |.p r _ off=>match hp.get r with
  |some (.it l n i)=>bif Nat.beq off 0 then PK r l n i z hp nx K else z
  |_=>z
 |_=>z else z
def OP(en:En)(t:Nat):Option (Nat×Nat):=match Hk en t with
 |some e=>match en.T e with
  |some ⟨_,sz+1,b,_⟩=>bif Nat.ble b 100000 then some (e,Nat.succ sz) else none
  |_=>none
 |none=>none
def LM(e sz:Nat)(xs:Option (List CV×Nat))(s:CV)(z:AM)(hp:Tr CO)(nx:Nat)(K:KA):AM:=match xs with
 |some (cs,m)=>bif Cg Nm cs then zj z e sz m cs s hp nx K else z
 |none=>z
def Aou(en:En)(e sz:Nat)(x:CV):Option (List CV×Nat):=match en.T e,So x with
 |some ti,some n=>bif Nat.ble (Nat.mul n sz) 100000 then some (Nd ti.zero n,n) else none
 |_,_=>none
def Ag3(en:En)(hp:Tr CO)(u e sz:Nat)(x:CV):Option (List CV×Nat):=match en.T u with
 |some ⟨.int _,_,_,_⟩=>Aou en e sz x
 |some ⟨.other,_,_,_⟩=>none
 |some _=>PZ hp sz x
 |none=>none
def Mj(en:En)(xs:List Operand)(ts:List TypeId)(z:AM)(hp:Tr CO)(nx:Nat)(fr:Tr CV)(K:KA):AM:=match xs,ts with
 | [s,x],[t,u]=>match OP en t with
  |some (e,sz)=>LM e sz (Ag3 en hp u e sz (ev en fr x)) (ev en fr s) z hp nx K
  |none=>z
 |_,_=>z
def Ao1(cs:List CV)(n sz r g off:Nat)(z:AM)(hp:Tr CO)(nx:Nat)(K:KA):AM :=
 bif Nat.beq n 0 then K (.i .i64 (.ofNat 0)) hp nx else zL z (takeN (Nat.mul n sz) cs) hp r g off λhp=>K (.i .i64 (.ofNat n)) hp nx
def copyV(sz:Nat)(d:CV)(xs:Option (List CV×Nat))(z:AM)(hp:Tr CO)(nx:Nat)(K:KA):AM:=match d,xs with
 |.sl r g off l cN _,some (cs,m)=>bif Nat.beq sz cN then Ao1 cs (bif Nat.ble m l then m else l) sz r g off z hp nx K else z
 |_,_=>z
def Zd(en:En)(xs:List Operand)(ts:List TypeId)(z:AM)(hp:Tr CO)(nx:Nat)(fr:Tr CV)(K:KA):AM:=match xs,ts with
 | [s,x],[t,_]=>match OP en t with
  |some (_,sz)=>copyV sz (ev en fr s) (PZ hp sz (ev en fr x)) z hp nx K
  |none=>z
 |_,_=>z
def Ao9(zr:List CV)(x:CV)(z:AM)(hp:Tr CO)(nx:Nat)(K:KA):AM:=match x with
 |.ns=>K (.tup []) hp nx
 |.sl r g off l sz _=>bif Nat.beq l 0 then K (.tup []) hp nx else bif Nat.beq (len zr) sz then zL z (Nd zr l) hp r g off λhp=>K (.tup []) hp nx else z
 |_=>z
def Q3(en:En)(xs:List Operand)(ts:List TypeId)(z:AM)(hp:Tr CO)(nx:Nat)(fr:Tr CV)(K:KA):AM:=match xs,ts with
 | [x],[t]=>match Hk en t with
  |some e=>match en.T e with
   |some ⟨_,_+1,_,zr⟩=>Ao9 zr (ev en fr x) z hp nx K
   |_=>z
  |none=>z
 |_,_=>z
def PU(e r g n:Nat)(z:AM)(hp:Tr CO)(nx:Nat)(K:KA):AM:=match hp.get r with
 |some (.c ty tr m G fz ro mk)=>bif Nat.beq g G&&Nat.beq ty e&&!ro&&!mk then match Xb hp r g 0 n with
  |some v=>Gg (bif Nat.ble fz n then n else fz) λfz=>Tr.dL hp r (.c ty tr m G fz false false) λhp=>K (.s n v) hp nx
  |none=>z else z
 |_=>z
def mw(e:Nat)(p:CV)(n:Nat)(z:AM)(hp:Tr CO)(nx:Nat)(K:KA):AM:=match p with
 |.np=>bif Nat.beq n 0 then K (.s 0 0) hp nx else z
 |.p r g off=>bif Nat.beq n 0 then K (.s 0 0) hp nx else bif Nat.beq off 0 then PU e r g n z hp nx K else z
 |_=>z
def ed(x:CV):Option Nat:=match x with
 |.i .i64 n=>FQ n
 |_=>none
def Zc(en:En)(xs:List Operand)(ts:List TypeId)(z:AM)(hp:Tr CO)(nx:Nat)(fr:Tr CV)(K:KA):AM:=match xs,ts with
 | [x,y],[t,_]=>match en.T t,ed (ev en fr y) with
  |some ⟨.ptr e,_,_,_⟩,some n=>match en.T e with
   |some ⟨.int .u8,1,_,_⟩=>mw e (ev en fr x) n z hp nx K
   |_=>z
  |_,_=>z
 |_,_=>z
structure XH where
 f:AM->Tr CO->Nat->Tr CV->KA->AM
def sf(x:XF):XH:=⟨λz hp nx fr K=>match x.f hp fr with
 |some v=>K v hp nx
 |none=>z⟩
def MG(en:En)(b:Builtin)(xs:List Operand)(ts:List TypeId):XH:=match b with
 |.append=>⟨λz hp nx fr K=>Mj en xs ts z hp nx fr K⟩
 |.copy=>⟨λz hp nx fr K=>Zd en xs ts z hp nx fr K⟩
 |.clear=>⟨λz hp nx fr K=>Q3 en xs ts z hp nx fr K⟩
 |.unsafeString=>⟨λz hp nx fr K=>Zc en xs ts z hp nx fr K⟩
 |b=>sf (MN en b xs ts)
def MH(en:En)(op:Op):XH:=match op with
 |.alloc t=>⟨λz hp nx _ K=>Wm en t z hp nx K⟩
 |.box t x=>⟨λz hp nx fr K=>kx en t x z hp nx fr K⟩
 |.buildSlice t n ps=>⟨λz hp nx fr K=>Tq en t n ps.toList z hp nx fr K⟩
 |.makeSlice t l c=>⟨λz hp nx fr K=>RP en t l c z hp nx fr K⟩
 |.store t a x=>⟨λz hp nx fr K=>RT en t a x z hp nx fr K⟩
 |.convert s d x=>⟨λz hp nx fr K=>Si en s d x z hp nx fr K⟩
 |.makeMap _ r=>match r with
  |none=>⟨λz hp nx _ K=>Ot z (.mp []) hp nx λhp gN=>K (.m nx) hp gN⟩
  |some _=>⟨λz _ _ _ _=>z⟩
 |.mapUpdate t m k x=>⟨λz hp nx fr K=>Q2 en t m k x z hp nx fr K⟩
 |.insert t m k x=>⟨λz hp nx fr K=>Q2 en t m k x z hp nx fr K⟩
 |.range t x=>⟨λz hp nx fr K=>RQ en t x z hp nx fr K⟩
 |.next x s=>⟨λz hp nx fr K=>PQ en x s z hp nx fr K⟩
 |.call c=>match c.callee with
  |.builtin b=>MG en b c.args.toList c.argTypes.toList
  |_=>⟨λz _ _ _ _=>z⟩
 |op=>sf (ru en op)
def yZ(z:AM)(en:En)(hp:Tr CO)(nx:Nat)(fr:Tr CV)(o:Oper)(K:KA):AM:=(MH en o.op).f z hp nx fr K
def Y5(id:Nat)(td:TD):Option TD :=
 @TD.rec (λ_=>Option TD) none none (λ_ _ ih=>ih) (λj k ih=>bif Nat.beq j id then some k else ih) (λ_ _ ih=>ih) (λ_ _ ih=>ih) (λ_ _ _ ih=>ih) (λ_ _ _ ih=>ih) (λ_ _ ih=>ih) (λ_ _ ih=>ih) (λ_ ih=>ih) td
def Yw(l:Nat)(td:TD):Option TD :=
 @TD.rec (λ_=>Option TD) none none (λ_ _ ih=>ih) (λ_ _ ih=>ih) (λ_ _ ih=>ih)
  (λc k ih=>match findLabel c l with|some rest=>some (.code rest (.scope c k))|none=>ih)
  (λ_ _ _ ih=>ih) (λ_ _ _ ih=>ih) (λ_ _ ih=>ih) (λ_ _ ih=>ih) (λ_ ih=>ih) td
def RI(b:Builtin):Nat:=match b with
 |.len=>1|.cap=>1|.min=>1|.max=>1
 |_=>0
def Lc(en:En)(s d:Nat):Nat:=match Hk en d with
 |none=>1
 |some _=>match en.T s with
  |some ⟨.string,_,_,_⟩=>2
  |_=>0
def Bq(en:En)(op:Op):Nat:=match op with
 |.move _|.pick .. | .binOp .. | .unOp .. | .load .. | .fieldAddr .. | .field .. | .indexAddr .. | .index .. | .extract .. | .nilCheck _|.slice .. | .makeInterface .. | .makeFunc .. | .build .. | .lookup ..=>1
 |.convert s d _=>Lc en s d
 |.alloc _=>2
 |.call c=>match c.callee with
  |.builtin b=>RI b
  |_=>0
 |_=>0
structure An where
 j:Nat
 o:Oper
 dm:Nat
 tm:Nat
 kd:Nat
def bit(m j:Nat):Bool:=Nat.beq (Nat.land (Nat.shiftRight m j) 1) 1
def Lm(l:List Edge):Nat:=@List.rec Edge (λ_=>Nat) 0 (λe _ ih=>bif Region.binds .any e then Nat.lor (Nat.shiftLeft 1 e.on) ih else ih) l
def S6(t:Tr Nat)(l:List Edge):Nat:=@List.rec Edge (λ_=>Nat) 0 (λe _ ih=>bif Region.binds .any e then Nat.lor (Nat.lor (Nat.shiftLeft 1 e.on) (match t.get e.on with|some m=>m|none=>0)) ih else ih) l
def B5(en:En)(l:List Oper):Tr Nat->Nat->List An :=
 @List.rec Oper (λ_=>Tr Nat->Nat->List An) (λ_ _=>[]) (λo _ ih t j=>Gg (S6 t o.after.toList) λm=>⟨j,o,Lm o.after.toList,m,Bq en o.op⟩ :: ih (t.set j m) (Nat.succ j)) l
def tmpsOf(l:List Operand):List Nat:=@List.rec Operand (λ_=>List Nat) [] (λx _ ih=>match x with|.tmp t=>t :: ih|_=>ih) l
def Dp(ops:List Oper)(g:Nat):Option Nat:=match nth ops g with|some o=>o.dst|none=>none
def reads(ops:List Oper)(o:Oper):List Nat:=match o.guard with
 |none=>tmpsOf o.op.operands.toList
 |some (g,_)=>match Dp ops g with
  |some t=>t :: tmpsOf o.op.operands.toList
  |none=>tmpsOf o.op.operands.toList
def R8(x y:An)(t:Nat)(rs:List Nat):Bool:=bif Nat.beq y.kd 0 then (bif Nat.beq x.kd 2&&Dx t rs then bit x.tm y.j||bit y.tm x.j else true)
 else (bif Dx t rs then bit x.tm y.j else true)&&(match x.o.dst with|some t'=>!Nat.beq t t'|none=>true)
def Gu(ops:List Oper)(bL:List An)(x:An):Bool :=
 (λrs=>Cg (λ(y:An)=>match y.o.dst with
  |none=>true
  |some t=>bif Nat.beq y.j x.j then (bif Nat.beq x.kd 0 then true else !Dx t rs) else R8 x y t rs) bL) (reads ops x.o)
def Rm(mask:Nat)(l:List An):Option An :=
 @List.rec An (λ_=>Option An) none (λa _ ih=>bif !Nat.beq a.kd 0&&Nat.beq (Nat.land a.dm mask) a.dm&&!bit mask a.j then some a else ih) l
def Fq(mask:Nat)(l:List An):List An :=
 @List.rec An (λ_=>List An) [] (λa _ ih=>bif Nat.beq a.kd 0&&Nat.beq (Nat.land a.dm mask) a.dm&&!bit mask a.j then a :: ih else ih) l
def later(dm:Nat)(l:List An):List Oper :=
 @List.rec An (λ_=>List Oper) [] (λa _ ih=>bif bit dm a.j||Nat.beq a.kd 2 then ih else a.o :: ih) l
def Yb(bL:List An)(n:Nat):Nat->List An->Option (List PE) :=
 @Nat.rec (λ_=>Nat->List An->Option (List PE)) (λmask _=>bif Cg (λ(a:An)=>bit mask a.j) bL then some [] else none) (λ_ ih mask vY=>match Rm mask bL with
  |some a=>match ih (Nat.lor mask (Nat.shiftLeft 1 a.j)) (a :: vY) with
   |some l=>some (⟨a.j,a.o,[]⟩ :: l)
   |none=>none
  |none=>match Fq mask bL with
   | [a]=>match ih (Nat.lor mask (Nat.shiftLeft 1 a.j)) vY with
    |some l=>some (⟨a.j,a.o,later a.tm vY⟩ :: l)
    |none=>none
   |_=>none) n
def pB(en:En)(ops:List Oper):Option (List PE) :=
 (λbL=>bif Nat.ble (len ops) aH&&Cg (Gu ops bL) bL then Yb bL (len ops) 0 [] else none) (B5 en ops .e 0)
def Mt(ih:CV->CV->Bool)(xs:List CV):List CV->Bool :=
 @List.rec CV (λ_=>List CV->Bool) (λys=>match ys with | []=>true|_=>false)
  (λx _ rec ys=>match ys with | []=>false|y :: ys=>bif ih x y then rec ys else false) xs
def Ug(r g o r' g' o':Nat):Bool:=Nat.beq r r'&&Nat.beq g g'&&Nat.beq o o'
def Ri(d:Nat):CV->CV->Bool :=
 @Nat.rec (λ_=>CV->CV->Bool) (λ_ _=>false) (λ_ ih x y=>match x with
  |.u=>match y with|.u=>true|_=>false
  |.b s=>match y with|.b t=>bif s then t else !t|_=>false
  |.i j a=>match y with|.i k c=>bif pT j k then vP a c else false|_=>false
  |.s l n=>match y with|.s l' n'=>vO l n l' n'|_=>false
  |.np=>match y with|.np=>true|_=>false
  |.p r g o=>match y with|.p r' g' o'=>Ug r g o r' g' o'|_=>false
  |.ns=>match y with|.ns=>true|_=>false
  |.sl r g o l z c=>match y with|.sl r' g' o' l' z' c'=>Ug r g o r' g' o'&&Ug l z c l' z' c'|_=>false
  |.nm=>match y with|.nm=>true|_=>false
  |.m r=>match y with|.m r'=>Nat.beq r r'|_=>false
  |.nf=>match y with|.nf=>true|_=>false
  |.ni=>match y with|.ni=>true|_=>false
  |.agg xs=>match y with|.agg ys=>Mt ih xs ys|_=>false
  |.tup xs=>match y with|.tup ys=>Mt ih xs ys|_=>false
  |.f f xs zs=>match y with|.f f' ys us=>bif Nat.beq f f' then Mt ih xs ys&&Mt ih zs us else false|_=>false
  |.yl l=>match y with|.yl l'=>Nat.beq l l'|_=>false
  |.ifc t x=>match y with|.ifc t' y=>bif Nat.beq t t' then ih x y else false|_=>false
  |_=>false) d
def Fh(w:Bool)(v:CV):Option Bool:=match v with
 |.b s=>some (bif w then s else !s)
 |.u=>some false
 |_=>none
def want(fr:Tr CV)(ops:List Oper)(o:Oper):Option Bool:=match o.guard with
 |none=>some true
 |some (g,w)=>match Dp ops g with
  |none=>none
  |some t=>Fh w (aX fr t)
def isU(v:CV):Bool:=match v with|.u=>true|_=>false
def Apz(en:En)(hp:Tr CO)(fr:Tr CV)(o:Oper):Bool:=match oU en hp fr o with
 |none=>false
 |some v=>match o.dst with
  |none=>true
  |some t=>Ri 6 v (aX fr t)
def again(en:En)(hp:Tr CO)(fr:Tr CV)(ops:List Oper)(o:Oper):Bool:=match want fr ops o with
 |none=>false
 |some false=>match o.dst with|none=>true|some t=>isU (aX fr t)
 |some true=>Apz en hp fr o
def MO(z:AM)(nt:Nat)(fr:Tr CV)(d:Option Nat)(v:CV)(K:Tr CV->AM):AM:=match d with
 |none=>K fr
 |some t=>bif Nat.ble (Nat.succ t) nt&&Nat.ble (Nat.succ t) aH then rS v λv=>Tr.dL fr t v K else z
def Qc(en:En)(fn:Nat):Nat:=match en.F fn with|some fi=>fi.ntmps|none=>0
def KC(en:En)(d:Option Nat)(v:CV)(fn:Nat)(fr:Tr CV)(td:TD)(ds:List Nat)(ro:Option Nat)(k:gJ)(hp:Tr CO)(nx:Nat):AM :=
 MO (.bad 1) (Qc en fn) fr d v λfr=>.run fn fr td ds ro k hp nx
def AN(en:En)(d:Option Nat)(ops re:List Oper)(v:CV)(fn:Nat)(fr:Tr CV)(td:TD)(ds:List Nat)(ro:Option Nat)(k:gJ)(hp:Tr CO)(nx:Nat):AM :=
 MO (.bad 2) (Qc en fn) fr d v λfr=>bif Cg (again en hp fr ops) re then .run fn fr td ds ro k hp nx else .bad 3
def finish(en:En)(v:CV)(fn:Nat)(fr:Tr CV)(td:TD)(ds:List Nat)(ro:Option Nat)(k:gJ)(hp:Tr CO)(nx:Nat):AM:=match td with
 |.rl ops l t=>match l with
  |o :: l=>KC en o.dst v fn fr (.rl ops l t) ds ro k hp nx
  | []=>.bad 4
 |.rd ops l t=>match l with
  |e :: l=>AN en e.o.dst ops.toList e.re v fn fr (.rd ops l t) ds ro k hp nx
  | []=>.bad 4
 |.rf l t=>.run fn fr (.vN l t) ds ro k hp nx
 |_=>.bad 4
def setArgs(args:List CV):Tr CV->Nat->(Tr CV->AM)->AM :=
 @List.rec CV (λ_=>Tr CV->Nat->(Tr CV->AM)->AM) (λfr _ K=>K fr) (λv _ ih fr i K=>rS v λv=>Tr.dL fr i v λfr=>ih fr (Nat.succ i) K) args
def D6(b:Nat)(ps:List Nat):List CV->Tr CV->(Tr CV->AM)->AM->AM :=
 @List.rec Nat (λ_=>List CV->Tr CV->(Tr CV->AM)->AM->AM) (λvs fr K z=>match vs with | []=>K fr|_=>z) (λp _ ih vs fr K z=>match vs with
  | []=>z
  |v :: vs=>bif Nat.ble (Nat.succ p) aH&&Nat.ble (Nat.succ p) b then rS v λv=>Tr.dL fr p v λfr=>ih vs fr K z else z) ps
def TG(i:Option Nat):CV:=match i with
 |some i=>.i .i64 (.ofNat i)
 |none=>.i .i64 (.negSucc 0)
def jf(l n:Nat)(c:CV):Option CV:=match Wo c with
 |some c=>some (TG (V7 n c l 0))
 |none=>none
def KE(hp:Tr CO)(x c:CV):Option CV:=match x with
 |.ns=>match Wo c with|some _=>some (TG none)|none=>none
 |.sl r g off l _ _=>match Xb hp r g off l with
  |some n=>jf l n c
  |none=>none
 |_=>none
def jh(hp:Tr CO)(code:Nat)(args:List CV):Option CV:=match code with
 |1=>match args with
  | [x,c]=>match x with
   |.s l n=>jf l n c
   |_=>none
  |_=>none
 |2=>match args with
  | [x,c]=>KE hp x c
  |_=>none
 |3=>match args with
  | [x]=>some x
  |_=>none
 |_=>none
def Agy(fi:FI)(f:Nat)(args:List CV)(fn:Nat)(fr:Tr CV)(td:TD)(ds:List Nat)(ro:Option Nat)(k:gJ)(hp:Tr CO)(nx:Nat):AM :=
 bif Nat.ble (len args) fi.ntmps&&Nat.ble (len args) 1000000 then setArgs args .e 0 λaO=>.run f aO (.code fi.body .nil) [] none (.cons fn fr td ds ro k) hp nx else .bad 6
def Am8(en:En)(f:Nat)(args:List CV)(fn:Nat)(fr:Tr CV)(td:TD)(ds:List Nat)(ro:Option Nat)(k:gJ)(hp:Tr CO)(nx:Nat):AM:=match args,en.X (Nat.add 3000000 f) with
 | [x],some e=>match ed x with
  |some n=>bif Nat.ble n 1000000000 then Ot (.bad 5) (.c e .e 0 0 0 false false) hp nx λhp gN=>finish en (.sl nx 0 0 n 1 0) fn fr td ds ro k hp gN else .bad 5
  |none=>.bad 5
 |_,_=>.bad 5
def AL(en:En)(f code:Nat)(args:List CV)(fn:Nat)(fr:Tr CV)(td:TD)(ds:List Nat)(ro:Option Nat)(k:gJ)(hp:Tr CO)(nx:Nat):AM :=
 bif Nat.beq code 4 then Am8 en f args fn fr td ds ro k hp nx else
 match jh hp code args with
 |some v=>finish en v fn fr td ds ro k hp nx
 |none=>.bad 5
def Zb(en:En)(f:Nat)(args:List CV)(fn:Nat)(fr:Tr CV)(td:TD)(ds:List Nat)(ro:Option Nat)(k:gJ)(hp:Tr CO)(nx:Nat):AM :=
 match Uq args (en.M f) with
 |some v=>finish en v fn fr td ds ro k hp nx
 |none=>match en.X f with
  |some code=>bif Nat.ble 1000000 f then .bad 31 else AL en f code args fn fr td ds ro k hp nx
  |none=>match en.F f with
   |some fi=>Agy fi f args fn fr td ds ro k hp nx
   |none=>.bad 7
def Apg(en:En)(l:Nat)(args:List CV)(fn:Nat)(fr:Tr CV)(td:TD)(ds:List Nat)(ro:Option Nat)(k:gJ)(hp:Tr CO)(nx:Nat):AM:=match hp.get l with
 |some (.lp st _ gL aO ps dQ body _)=>bif Nat.beq st 0 then D6 (Qc en gL) ps args aO (λaO=>.run gL aO (.code dQ (.br (.code body .nil))) [] (some l) (.cons fn fr td ds ro k) hp nx) (.bad 8) else .bad 9
 |_=>.bad 9
def PR(en:En)(x:CV)(args:List CV)(fn:Nat)(fr:Tr CV)(td:TD)(ds:List Nat)(ro:Option Nat)(k:gJ)(hp:Tr CO)(nx:Nat):AM:=match x with
 |.f f a c=>Zb en f (app a (app args c)) fn fr td ds ro k hp nx
 |.yl l=>Apg en l args fn fr td ds ro k hp nx
 |_=>.bad 10
structure XE where
 f:KA->Nat->Tr CV->TD->List Nat->Option Nat->gJ->Tr CO->Nat->AM
def KR(x:XH):XE:=⟨λfin fn fr _ _ _ _ hp nx=>x.f (.bad (Nat.add 1000 fn)) hp nx fr fin⟩
def KG(en:En)(c:Call):XE:=match c.callee with
 |.value x=>⟨λ_ fn fr td ds ro k hp nx=>PR en (ev en fr x) (c.args.toList.map (ev en fr)) fn fr td ds ro k hp nx⟩
 |.builtin b=>KR (MG en b c.args.toList c.argTypes.toList)
 |_=>⟨λ_ _ _ _ _ _ _ _ _=>.bad 11⟩
def vM(en:En)(op:Op):XE:=match op with
 |.call c=>KG en c
 |op=>KR (MH en op)
def um(en:En)(ops:List Oper)(o:Oper):XE:=match o.guard with
 |none=>vM en o.op
 |some (g,w)=>match Dp ops g with
  |none=>⟨λ_ _ _ _ _ _ _ _ _=>.bad 23⟩
  |some t=>⟨λfin fn fr td ds ro k hp nx=>match Fh w (aX fr t) with
   |some true=>(vM en o.op).f fin fn fr td ds ro k hp nx
   |some false=>fin .u hp nx
   |none=>.bad 24⟩
def Agj(en:En)(l:Nat)(jump:Option Code)(k:gJ)(hp:Tr CO)(nx:Nat):AM:=match hp.get l with
 |some (.lp _ _ gL aO ps dQ body df)=>match k with
  |.cons CE p9 AV CH AW k2 =>
   Tr.dL hp l (.lp (match jump with|none=>0|some _=>2) jump gL aO ps dQ body df) λhp =>
    finish en (.b (match jump with|none=>true|some _=>false)) CE p9 AV CH AW k2 hp nx
  |_=>.bad 13
 |_=>.bad 13
def leave(en:En)(jump:Option Code)(fn:Nat)(fr:Tr CV)(ds:List Nat)(ro:Option Nat)(k:gJ)(hp:Tr CO)(nx:Nat):AM:=match ro with
 |none=>match jump with
  |none=>.run fn fr .rt ds ro k hp nx
  |some .ret=>.run fn fr .rt ds ro k hp nx
  |_=>.bad 12
 |some l=>Agj en l jump k hp nx
def Hp(en:En)(fr:Tr CV)(hp:Tr CO)(r:ResultVar):Option CV:=match r with
 |.tmp t=>some (aX fr t)
 |.cell a t=>match aX fr a with
  |.p r g off=>Rw en t hp r g off
  |_=>none
def FM(vs:List CV):CV:=match vs with
 | [v]=>v
 |_=>.tup vs
def back(en:En)(v:CV)(k:gJ)(hp:Tr CO)(nx:Nat):AM:=match k with
 |.nil=>.fin v hp nx
 |.cons CE p9 AV CH AW k2=>finish en v CE p9 AV CH AW k2 hp nx
def uf(en:En)(fn:Nat)(fr:Tr CV)(k:gJ)(hp:Tr CO)(nx:Nat):AM:=match en.F fn with
 |none=>.bad 15
 |some fi=>match sd (Hp en fr hp) fi.results with
  |none=>.bad 16
  |some vs=>back en (FM vs) k hp nx
def unw(en:En)(fn:Nat)(fr:Tr CV)(ds:List Nat)(ro:Option Nat)(k:gJ)(hp:Tr CO)(nx:Nat):AM:=match ds with
 |r :: ds=>match hp.get r with
  |some .df=>Tr.dL hp r .dead λhp=>.run fn fr .rt ds ro k hp nx
  |_=>.bad 14
 | []=>uf en fn fr k hp nx
def Ng(en:En)(f:Nat)(a c:List CV)(ps:List Nat)(dQ body:Code)(t:TD)(df:Nat)(fn:Nat)(fr:Tr CV)(ds:List Nat)(ro:Option Nat)(k:gJ)(hp:Tr CO)(nx:Nat):AM :=
 Ot (.bad 19) (.lp 0 none fn fr ps dQ body df) hp nx λhp gN=>match en.X f with|some _=>.bad 30|none=>Zb en f (app a (app [.yl nx] c)) fn fr (.rf nx t) ds ro k hp gN
def Z3(en:En)(x:CV)(ps:List Nat)(dQ body:Code)(t:TD)(fn:Nat)(fr:Tr CV)(ds:List Nat)(ro:Option Nat)(k:gJ)(hp:Tr CO)(nx:Nat):AM:=match x with
 |.f f a c=>match ro with
  |none=>Ot (.bad 19) .df hp nx λhp gN=>Ng en f a c ps dQ body t nx fn fr (nx :: ds) ro k hp gN
  |some l=>match hp.get l with
   |some (.lp _ _ _ _ _ _ _ df)=>Ng en f a c ps dQ body t df fn fr ds ro k hp nx
   |_=>.bad 20
 |_=>.bad 21
structure XC where
 f:Nat->Tr CV->TD->List Nat->Option Nat->gJ->Tr CO->Nat->AM
def dq(t:Option TD)(z:AM)(K:TD->AM):AM:=match t with
 |some t=>K t
 |none=>z
def MU(en:En)(ops:Array Oper):XC:=match pB en ops.toList with
 |some l=>⟨λfn fr t ds ro k hp nx=>.run fn fr (.rd ops l t) ds ro k hp nx⟩
 |none=>⟨λ_ _ _ _ _ _ _ _=>.bad 18⟩
def KP(en:En)(c:Code):XC:=match c with
 |.skip=>⟨λfn fr t ds ro k hp nx=>.run fn fr t ds ro k hp nx⟩
 |.label _=>⟨λfn fr t ds ro k hp nx=>.run fn fr t ds ro k hp nx⟩
 |.seq a b=>⟨λfn fr t ds ro k hp nx=>.run fn fr (.code a (.code b t)) ds ro k hp nx⟩
 |.cond x a b=>⟨λfn fr t ds ro k hp nx=>match ev en fr x with
  |.b s=>.run fn fr (.code (bif s then a else b) t) ds ro k hp nx
  |_=>.bad 17⟩
 |.block id c=>⟨λfn fr t ds ro k hp nx=>.run fn fr (.code c (.aE id t)) ds ro k hp nx⟩
 |.loop c=>⟨λfn fr t ds ro k hp nx=>.run fn fr (.code c (.loop c t)) ds ro k hp nx⟩
 |.scope c=>⟨λfn fr t ds ro k hp nx=>.run fn fr (.code c (.scope c t)) ds ro k hp nx⟩
 |.exit id=>⟨λfn fr t ds ro k hp nx=>dq (Y5 id t) (leave en (some (.exit id)) fn fr ds ro k hp nx) λt=>.run fn fr t ds ro k hp nx⟩
 |.goto l=>⟨λfn fr t ds ro k hp nx=>dq (Yw l t) (leave en (some (.goto l)) fn fr ds ro k hp nx) λt=>.run fn fr t ds ro k hp nx⟩
 |.ret=>⟨λfn fr _ ds ro k hp nx=>leave en (some .ret) fn fr ds ro k hp nx⟩
 |.region _ ops draw=>bif draw then MU en ops else⟨λfn fr t ds ro k hp nx=>.run fn fr (.rl ops ops.toList t) ds ro k hp nx⟩
 |.rangeFunc x ps dQ body=>⟨λfn fr t ds ro k hp nx=>Z3 en (ev en fr x) ps.toList dQ body t fn fr ds ro k hp nx⟩
 |.refuse _=>⟨λ_ _ _ _ _ _ _ _=>.bad 22⟩
def yn(l:Nat)(t:TD)(fn:Nat)(fr:Tr CV)(ds:List Nat)(ro:Option Nat)(k:gJ)(hp:Tr CO)(nx:Nat):AM:=match hp.get l with
 |some (.lp st pd gL aO ps dQ body df)=>bif Nat.beq st 1 then .bad 26 else Tr.dL hp l (.lp 3 pd gL aO ps dQ body df) λhp=>match pd with
  |none=>.run fn fr t ds ro k hp nx
  |some c=>.run fn fr (.code c t) ds ro k hp nx
 |_=>.bad 27
def zd(t:TD)(fn:Nat)(fr:Tr CV)(ds:List Nat)(ro:Option Nat)(k:gJ)(hp:Tr CO)(nx:Nat):AM:=match ro with
 |some l=>match hp.get l with
  |some (.lp st pd gL aO ps dQ body df)=>bif Nat.beq st 0 then Tr.dL hp l (.lp 1 pd gL aO ps dQ body df) λhp=>.run fn fr t ds ro k hp nx else .bad 28
  |_=>.bad 28
 |none=>.bad 29
def Al7(en:En)(ops:Array Oper)(l:List Oper)(t:TD)(fn:Nat)(fr:Tr CV)(ds:List Nat)(ro:Option Nat)(k:gJ)(hp:Tr CO)(nx:Nat):AM:=match l with
 | []=>.run fn fr t ds ro k hp nx
 |o :: l=>(um en ops.toList o).f (λv hp nx=>KC en o.dst v fn fr (.rl ops l t) ds ro k hp nx) fn fr (.rl ops (o :: l) t) ds ro k hp nx
def T5(en:En)(ops:Array Oper)(l:List PE)(t:TD)(fn:Nat)(fr:Tr CV)(ds:List Nat)(ro:Option Nat)(k:gJ)(hp:Tr CO)(nx:Nat):AM:=match l with
 | []=>.run fn fr t ds ro k hp nx
 |e :: l=>(um en ops.toList e.o).f (λv hp nx=>AN en e.o.dst ops.toList e.re v fn fr (.rd ops l t) ds ro k hp nx) fn fr (.rd ops (e :: l) t) ds ro k hp nx
def step1(en:En)(fn:Nat)(fr:Tr CV)(td:TD)(ds:List Nat)(ro:Option Nat)(k:gJ)(hp:Tr CO)(nx:Nat):AM:=match td with
 |.nil=>leave en none fn fr ds ro k hp nx
 |.rt=>unw en fn fr ds ro k hp nx
 |.code c t=>(KP en c).f fn fr t ds ro k hp nx
 |.aE _ t=>.run fn fr t ds ro k hp nx
 |.scope _ t=>.run fn fr t ds ro k hp nx
 |.loop c t=>.run fn fr (.code c (.loop c t)) ds ro k hp nx
 |.rl ops l t=>Al7 en ops l t fn fr ds ro k hp nx
 |.rd ops l t=>T5 en ops l t fn fr ds ro k hp nx
 |.rf _ _=>.bad 25
 |.vN l t=>yn l t fn fr ds ro k hp nx
 |.br t=>zd t fn fr ds ro k hp nx
def step(en:En)(m:AM):AM:=match m with
 |.run fn fr td ds ro k hp nx=>step1 en fn fr td ds ro k hp nx
 |m=>m
def runs(en:En)(n:Nat):AM->AM :=
 @Nat.rec (λ_=>AM->AM) (λm=>m) (λ_ ih m=>match m with
  |.run fn fr td ds ro k hp nx=>ih (step1 en fn fr td ds ro k hp nx)
  |m=>m) n
end
end Go.Cv
