/- Lemmas of the proof; no conditions. -/
import Derived.Test.YtdoogdbjiijifaaGreatDoorE9Paa
namespace Go.Sx
def out(K:Out->Prop)(v:SV):Prop:=K ⟨v,[],[],[]⟩
def ve(K:Out->Prop):Option SV->Prop
 |some v=>K ⟨v,[],[],[]⟩
 |none=>False
def arith:BinOp->Bool
 |.add|.sub|.mul|.and|.or|.xor|.andNot=>true
 |_=>false
def Ane:BinOp->Bool
 |.eql|.neq|.lss|.leq|.gtr|.geq=>true
 |_=>false
def Pk(op:BinOp):ST->ST->BT
 |.l m,.l n=>.l (B6 op m n)
 |x,y=>.cmp op x y
def CC:BT->BT
 |.l b=>.l (!b)
 |x=>.not x
def MU(op:BinOp)(k:IntKind):ST->ST->ST
 |.l m,.l n=>.l (En op k m n)
 |x,y=>.bin op k x y
def Wi:BT->BT->BT
 |.l true,y=>y
 |x,.l true=>x
 |x,y=>.and x y
def MV(cx:Cx)(g:TypeId->List SV->List SV->Option BT)(xs ys:List SV):List (Nat×TypeId)->Option BT
 | []=>some (.l true)
 |(fo,ft) :: fs =>
  match size? cx ft with
  |some m=>match g ft (takeN m (Db fo xs)) (takeN m (Db fo ys)),MV cx g xs ys fs with
   |some a,some b=>some (Wi a b)
   |_,_=>none
  |none=>none
def CA(cx:Cx):Nat->TypeId->List SV->List SV->Option BT
 |0,_,_,_=>none
 |n+1,t,xs,ys =>
  match look t cx.tt with
  |some ⟨.int _,_,_,_⟩=>match xs,ys with
   | [.int k a],[.int k' b]=>if k=k' then some (Pk .eql a b) else none
   |_,_=>none
  |some ⟨.bool,_,_,_⟩=>match xs,ys with
   | [.bool a],[.bool b]=>some (.beq a b)
   |_,_=>none
  |some ⟨.string,_,_,_⟩=>match xs,ys with
   | [.str a],[.str b]=>some (.seq a b)
   |_,_=>none
  |some ⟨.struct fs,_,_,_⟩=>if Le t cx.eqs then MV cx (CA cx n) xs ys fs else none
  |_=>none
def ji(cx:Cx)(a b:List UInt8):BT :=
 match look 999984 cx.gh with
 |some _=>.l (a==b)
 |none=>.seq a b
def ky:SV->Option BT
 |.sl nl _ _ _=>some nl
 |.dO nl _ _ _ _=>some nl
 |.bV nl _ _=>some nl
 |.cR nl _ _ _=>some nl
 |_=>none
def MZ(op:BinOp)(b:BT)(K:Out->Prop):Prop :=
 match op with
 |.eql=>out K (.bool b)
 |.neq=>out K (.bool (CC b))
 |_=>False
def Ani:SV->Option BT
 |.sL b=>some b
 |.raw .nilIface=>some (.l true)
 |_=>none
def Zd(cx:Cx)(op:BinOp)(t:TypeId)(x:SV)(y:Operand)(K:Out->Prop):Prop :=
 match y,Ani x,look t cx.tt with
 |.const .nilIface,some b,some ⟨.iface,_,_,_⟩=>MZ op b K
 |_,_,_=>False
def Ze(cx:Cx)(gm:List BT)(T:List Nat)(op:BinOp)(t:TypeId)(x y:SV)(K:Out->Prop):Prop :=
 match x,y with
 |.int k a,.int k' b =>
  if arith op then (if k=k' then out K (.int k (MU op k a b)) else False)
  else if Ane op then (if k=k' then out K (.bool (Pk op a b)) else False)
  else match op with
   |.quo|.rem=>if k=k' then Ob cx.D gm T (NZ (cx.D.i b))/\out K (.int k (.bin op k a b)) else False
   |.shl|.shr=>Ob cx.D gm T (NN (cx.D.i b))/\out K (.int k (.bin op k a b))
   |_=>False
 |.bool a,.bool b =>
  match op,look t cx.tt with
  |.eql,some ⟨.bool,_,_,_⟩=>out K (.bool (.beq a b))
  |.neq,some ⟨.bool,_,_,_⟩=>out K (.bool (.not (.beq a b)))
  |_,_=>False
 |.str a,.str b =>
  match op with
  |.add=>Ob cx.D gm T (BI a b)/\BG a b λr=>out K (.str r)
  |.eql=>out K (.bool (ji cx a b))
  |.neq=>out K (.bool (CC (ji cx a b)))
  |_=>False
 |.agg a,.agg b =>
  match op,Le t cx.eqs&&cK cx t,CA cx 8 t a b with
  |.eql,true,some c=>out K (.bool c)
  |.neq,true,some c=>out K (.bool (CC c))
  |_,_,_=>False
 |x,.sl (.l true) (.l 0) 0 _ =>
  match ky x,look t cx.tt with
  |some nl,some ⟨.slice _,_,_,_⟩=>MZ op nl K
  |_,_=>False
 |_,_=>False
def An:SV->Bool
 |.ptr .. | .dO .. | .dH .. | .cT .. | .fJ .. | .gS .. | .bV .. | .cN .. | .bQ .. | .jI .. | .yv .. | .cR .. | .kD ..=>false
 |.agg cs=>gX cs
 |.aI cs=>gX cs
 |_=>true
 where gX:List SV->Bool
 | []=>true
 |c :: cs=>An c&&gX cs
def Xz:Hl->Bool
 |.aF .. | .nC ..=>true
 |_=>false
def OB:Hl->Bool
 |.own ..=>true
 |_=>false
def Kx(hp:List Hl):List SV->Nat->Option (List SV×List Nat×List Hl)
 | [],_=>some ([],[],[])
 |.ptr h off :: vs,n=>match nth hp h,Kx hp vs (n+1) with
  |some l,some (as,hs,ls)=>if Xz l&&!Le h hs then some (.ptr n off :: as,h :: hs,l :: ls) else none
  |_,_=>none
 |v :: vs,n=>match An v,Kx hp vs n with
  |true,some (as,hs,ls)=>some (v :: as,hs,ls)
  |_,_=>none
def RZ:List Nat->List Nat->Bool
 | [],_=>true
 |x :: l,t=>!Le x t&&RZ l t
def Fy(hp:List Hl):List SV->Nat->Option (List SV×List Nat×List Hl)
 | [],_=>some ([],[],[])
 |.ptr h off :: vs,n=>match nth hp h,Fy hp vs (n+1) with
  |some l,some (as,hs,ls)=>if Xz l&&!Le h hs then some (.ptr n off :: as,h :: hs,l :: ls) else none
  |_,_=>none
 |.bV nl m h :: vs,n=>match nth hp h,Fy hp vs (n+1) with
  |some l,some (as,hs,ls)=>if OB l&&!Le h hs then some (.bV nl m n :: as,h :: hs,l :: ls) else none
  |_,_=>none
 |.fJ f cs :: vs,n=>match Kx hp cs n with
  |some (as1,cC,CM)=>match Fy hp vs (n+Ai cC) with
   |some (as,hs,ls)=>if RZ cC hs then some (.fJ f as1 :: as,cC++hs,CM++ls) else none
   |none=>none
  |none=>none
 |v :: vs,n=>match An v,Fy hp vs n with
  |true,some (as,hs,ls)=>some (v :: as,hs,ls)
  |_,_=>none
def Ei:List Nat->List Hl->List Ef
 |h :: hs,l :: ls=>.put h l :: Ei hs ls
 |_,_=>[]
def He:List Hl->Bool
 | []=>true
 |.aF _ cs :: ls=>An (.agg cs)&&He ls
 |.own .. :: ls=>He ls
 |.nC .. :: ls=>He ls
 |.gone :: ls=>He ls
 |_ :: _=>false
def cQ(D:Dn):List Hl->List Hl
 | []=>[]
 |.aF ty cs :: ls=>.aF ty (aH (norm.aO D cs)) :: cQ D ls
 |.own ty n sz gr f :: ls=>.own ty (.a (D.i n)) sz gr f :: cQ D ls
 |l :: ls=>l :: cQ D ls
 where aH:=loose.aH
def Ig(m m':Nat):SV->Bool
 |.bV _ _ h=>Nat.ble m h&&Nat.blt h m'
 |.aI vs=>bg m m' vs
 |v=>An v
 where bg (m m':Nat):List SV->Bool
 | []=>true
 |c :: cs=>Ig m m' c&&bg m m' cs
def jw(m a:Nat):SV->SV
 |.bV nl n h=>.bV nl n (h-m+a)
 |.aI vs=>.aI (OH m a vs)
 |v=>v
 where OH (m a:Nat):List SV->List SV
 | []=>[]
 |c :: cs=>jw m a c :: OH m a cs
def Fd:Nat->List Hl->List Ef
 |_,[]=>[]
 |a,l :: ls=>.put a l :: Fd (a+1) ls
structure SLe(r:List UInt8)(n:Int):Prop where
 h:(r.length:Int)<=n\/r=[]
def S8(cx:Cx)(σ:Sy)(T:List Nat)(e:TypeId)(n:ST)(f:Nat->List SV)(K:Out->Prop):Prop :=
 match T,look e cx.tt with
 | [],some ⟨.int .u8,_,_,_⟩=>Fz (cx.D.i n) f/\Agm (cx.D.i n) f λr=>out K (.str r)
 |T,some ⟨.int .u8,_,_,_⟩=>Ob cx.D σ.gm T (Fz (cx.D.i n) f)/\∀r,SLe r (cx.D.i n)->Ob cx.D σ.gm T (Ky r (cx.D.i n) f)->out K (.str r)
 |_,_=>False
def iJ:SV->List Nat
 |.ptr h _=>[h]
 |.dO _ _ _ _ h=>[h]
 |.bV _ _ h=>[h]
 |.cN _ h _ _=>[h]
 |.bQ h=>[h]
 |.jI _ h=>[h]
 |.cR _ _ _ h=>[h]
 |.kD _ _ h=>[h]
 |.yv h=>[h]
 |.agg cs=>uI cs
 |.aI cs=>uI cs
 |.fJ _ cs=>uI cs
 |.gS _ cs=>uI cs
 |_=>[]
 where uI:List SV->List Nat
 | []=>[]
 |c :: cs=>iJ c++uI cs
def CS:List (Nat×Option SV)->List Nat
 | []=>[]
 |(_,some v) :: l=>iJ v++CS l
 |(_,none) :: l=>CS l
def cr:Hl->List Nat
 |.aF _ cs=>iJ.uI cs
 |.bO _ fr _ _=>CS fr
 |_=>[]
def nW(ρ:Nat->Nat):SV->SV
 |.ptr h o=>.ptr (ρ h) o
 |.dO nl n sz f h=>.dO nl n sz f (ρ h)
 |.bV nl n h=>.bV nl n (ρ h)
 |.cN n h j o=>.cN n (ρ h) j o
 |.bQ h=>.bQ (ρ h)
 |.jI n h=>.jI n (ρ h)
 |.cR nl n g h=>.cR nl n g (ρ h)
 |.kD n a h=>.kD n a (ρ h)
 |.yv h=>.yv (ρ h)
 |.agg cs=>.agg (yP ρ cs)
 |.aI cs=>.aI (yP ρ cs)
 |.fJ f cs=>.fJ f (yP ρ cs)
 |.gS f cs=>.gS f (yP ρ cs)
 |v=>v
 where yP (ρ:Nat->Nat):List SV->List SV
 | []=>[]
 |c :: cs=>nW ρ c :: yP ρ cs
def wo(ρ:Nat->Nat):List (Nat×Option SV)->List (Nat×Option SV)
 | []=>[]
 |(s,some v) :: l=>(s,some (nW ρ v)) :: wo ρ l
 |(s,none) :: l=>(s,none) :: wo ρ l
def mP(ρ:Nat->Nat):Hl->Hl
 |.aF ty cs=>.aF ty (nW.yP ρ cs)
 |.bO c fr st pd=>.bO c (wo ρ fr) st pd
 |l=>l
def Cf:SV->Bool
 |.dH _=>false
 |.cT ..=>false
 |.agg cs=>dD cs
 |.aI cs=>dD cs
 |.fJ _ cs=>dD cs
 |.gS _ cs=>dD cs
 |_=>true
 where dD:List SV->Bool
 | []=>true
 |c :: cs=>Cf c&&dD cs
def Jl:List (Nat×Option SV)->Bool
 | []=>true
 |(_,some v) :: l=>Cf v&&Jl l
 |(_,none) :: l=>Jl l
def Df:Hl->Bool
 |.aF _ cs=>Cf.dD cs
 |.bO _ fr _ _=>Jl fr
 |.tail ..=>true
 |.own ..=>true
 |.nC ..=>true
 |.dB ..=>true
 |.vec ..=>true
 |.gone=>true
 |_=>false
def pS(D:Dn):Hl->Hl
 |.aF ty cs=>.aF ty (norm.aO D cs)
 |.tail ty n sz=>.tail ty (.a (D.i n)) sz
 |.own ty n sz gr f=>.own ty (.a (D.i n)) sz gr f
 |.vec ty n g sz f=>.vec ty (.a (D.i n)) (.a (D.i g)) sz f
 |l=>l
def Mg:List Nat->List Nat->List Nat
 |acc,[]=>acc
 |acc,h :: t=>Mg (if Le h acc then acc else acc++[h]) t
def ub(hp:List Hl)(acc:List Nat):List Nat->List Nat
 | []=>acc
 |h :: t=>ub hp (match nth hp h with|some l=>Mg acc (cr l)|none=>acc) t
def reach(hp:List Hl):List Hl->List Nat->List Nat
 | [],acc=>acc
 |_ :: t,acc=>reach hp t (ub hp acc acc)
def Ih:List Nat->Nat->Nat
 | [],_=>0
 |x :: l,h=>if x==h then 0 else Ih l h+1
def Wj(t:List Nat):List Nat->Bool
 | []=>true
 |x :: l=>Le x t&&Wj t l
def Qa:List Nat->Bool
 | []=>true
 |x :: l=>!Le x l&&Qa l
def vb(n:Nat):List Nat->Bool
 | []=>true
 |x :: l=>Nat.blt x n&&vb n l
def Vg(D:Dn)(hp:List Hl):List Nat->List Hl
 | []=>[]
 |h :: t=>(match nth hp h with|some l=>pS D l|none=>.gone) :: Vg D hp t
def W0(g:Hl->Hl):List Hl->List Hl
 | []=>[]
 |l :: ls=>g l :: W0 g ls
def Mr(hs:List Nat):List Hl->Bool
 | []=>true
 |l :: ls=>Df l&&Wj hs (cr l)&&Mr hs ls
def NA(n:Nat):List Hl->Bool
 | []=>true
 |l :: ls=>Df l&&vb n (cr l)&&NA n ls
def Cv(hs:List Nat)(m M i:Nat):Nat:=if Nat.blt i m then (match nth hs i with|some k=>k|none=>0) else M+(i-m)
def Gd(cx:Cx)(σ:Sy)(_T:List Nat)(vh:List SV)(sp:aB)(K:Out->Prop):Prop :=
 match loose.aH (norm.aO cx.D vh) with
 |vs =>
  match reach σ.hp σ.hp (Mg [] (iJ.uI vs)) with
  |hs =>
   match Vg cx.D σ.hp hs with
   |ls =>
    if Qa hs&&Wj hs (iJ.uI vs)&&Cf.dD vs&&vb (Ai σ.hp) hs&&Mr hs ls then
     sp cx.D (nW.yP (Ih hs) vs) (W0 (mP (Ih hs)) ls) λr aK =>
      (Nat.ble (Ai hs) (Ai aK)&&Cf r&&vb (Ai aK) (iJ r)&&NA (Ai aK) aK)=true/\
      K ⟨nW (Cv hs (Ai hs) (Ai σ.hp)) r,Ei hs (W0 (mP (Cv hs (Ai hs) (Ai σ.hp))) (takeN (Ai hs) aK))++Fd (Ai σ.hp) (W0 (mP (Cv hs (Ai hs) (Ai σ.hp))) (Db (Ai hs) aK)),hs,[]⟩
    else False
def Jf(cx:Cx)(σ:Sy)(T:List Nat)(f:FuncId)(vs:List SV)(K:Out->Prop):Prop :=
 match look (f+1000000) cx.eG with
 |some sp=>Gd cx σ T vs sp K
 |none =>
 match look f cx.eG,Fy σ.hp (loose.aH (norm.aO cx.D vs)) 0 with
 |some sp,some (as,hs,ls) =>
  if He (cQ cx.D ls)&&Nat.blt f 1000000 then
   sp cx.D as (cQ cx.D ls) λr aK=>Ig (Ai ls) (Ai aK) r=true/\He aK=true/\Nat.ble (Ai ls) (Ai aK)=true/\
    K ⟨jw (Ai ls) (Ai σ.hp) r,Ei hs (takeN (Ai ls) aK)++Fd (Ai σ.hp) (Db (Ai ls) aK),hs,[]⟩
  else False
 |_,_=>False
def Ov:List (Nat×SV)->Bool
 | []=>true
 |p :: ps=>Es p.2.cells&&Ov ps
def Tv(cx:Cx)(σ:Sy)(T:List Nat)(ty:TypeId)(x:Operand)(K:Out->Prop):Prop :=
 match x with
 |.const (.slice none 0 0) =>
  match look ty cx.tt with
  |some ⟨.slice e,_,_,_⟩=>match size? cx e with
   |some n=>out K (.sl (.l true) (.l 0) n λ_=>[])
   |none=>False
  |_=>False
 |x=>ve K (rd cx σ T x)
def rowOf(sz:Nat):SV->Option (ST×(Nat->List SV))
 |.sl _ m cH g=>if cH==sz then some (m,g) else none
 |.dO _ m cH g _=>if cH==sz then some (m,g) else none
 |_=>none
def Wf(cx:Cx)(σ:Sy)(base src:SV)(e sz bytes:Nat)(K:Out->Prop):Prop :=
 match rowOf sz src with
 |some (m,g) =>
  match base with
  |.sl (.l true) (.l 0) _ _ =>
   BV (cx.D.i m) bytes/\BB (cx.D.i m) g λf' n' =>
    K ⟨.dO (Pk .eql m (.l 0)) (.a n') sz f' (Ai σ.hp),[.put (Ai σ.hp) (.tail e (.a n') sz)],[],[]⟩
  |.dO nl n cH f h =>
   match nth σ.hp h with
   |some (.tail e' n0 mJ) =>
    if cH==sz&&mJ==sz&&e'==e then
     RW (cx.D.i n) (cx.D.i n0) (cx.D.i m) bytes/\Tg (cx.D.i n) (cx.D.i m) f g λf' n'=>K ⟨.dO (Wi nl (Pk .eql m (.l 0))) (.a n') sz f' h,[.put h (.tail e (.a n') sz)],[h],[]⟩
    else False
   |_=>False
  |.bV nl n h =>
   match nth σ.hp h with
   |some (.own e' n0 mJ gr f) =>
    if mJ==sz&&e'==e then
     RW (cx.D.i n) (cx.D.i n0) (cx.D.i m) bytes/\Tg (cx.D.i n) (cx.D.i m) f g λf' n'=>K ⟨.bV (Wi nl (Pk .eql m (.l 0))) (.a n') h,[.put h (.own e (.a n') sz gr f')],[h],[]⟩
    else False
   |_=>False
  |.cR nl n g0 h =>
   match nth σ.hp h with
   |some (.vec e' n0 g1 mJ f) =>
    if mJ==sz&&e'==e then
     RW (cx.D.i n) (cx.D.i n0) (cx.D.i m) bytes/\oM (cx.D.i g0) (cx.D.i g1)/\Tg (cx.D.i n) (cx.D.i m) f g λf' n'=>RX (cx.D.i g0) λg'=>K ⟨.cR (Wi nl (Pk .eql m (.l 0))) (.a n') (.a g') h,[.put h (.vec e (.a n') (.a g') sz f')],[h],[]⟩
    else False
   |_=>False
  |_=>False
 |none=>False
def Ra(cx:Cx)(σ:Sy)(b s:SV)(t' e:Nat)(te:TI)(K:Out->Prop):Prop :=
 match b,s,look t' cx.tt with
 |.bV nl n h,.str x,some ⟨.string,_,_,_⟩ =>
  match nth σ.hp h with
  |some (.own e' n0 sz gr f)=>if e'==e&&te.size==1&&sz==1 then
    RW (cx.D.i n) (cx.D.i n0) (cx.D.i (.len x)) te.bytes/\Tg (cx.D.i n) (cx.D.i (.len x)) f (aQ x) λf' n'=>K ⟨.bV (Wi nl (Pk .eql (.len x) (.l 0))) (.a n') h,[.put h (.own e (.a n') 1 gr f')],[h],[]⟩
   else False
  |_=>False
 |_,_,_=>False
def chunks(sz:Nat):Nat->List SV->List (List SV)
 |0,_=>[]
 |n+1,cs=>takeN sz cs :: chunks sz n (Db sz cs)
structure Agp(cs:List SV):Prop where
 TB:Es cs=true
 plain:An.gX cs=true
structure BH(f:Nat->List SV)(n sz:Nat)(cs:List SV):Prop where
 h:Sj f (chunks sz n cs)
def Am(cx:Cx)(σ:Sy)(T:List Nat)(t:TypeId)(len:Nat)(ps:List (Nat×Operand))(K:Out->Prop):Prop :=
 match look t cx.tt,Gr cx σ T ps with
 |some ⟨.slice e,_,_,_⟩,some vs =>
  match look e cx.tt with
  |some te =>
   match Ov vs,eT te.size (lM len te.zero) vs with
   |true,some cs =>
    if (look 999984 cx.gh).isSome&&Nat.blt 0 te.size&&Nat.ble (len * te.size) 16777216 then
     K ⟨.jI len (Ai σ.hp),[.put (Ai σ.hp) (.aF e (loose.aH (norm.aO cx.D cs)))],[],[]⟩
    else if An (.agg (loose.aH (norm.aO cx.D cs)))&&Nat.blt 0 te.size&&Nat.ble (len * te.size) 16777216 then
     Aol (chunks te.size len (loose.aH (norm.aO cx.D cs))) λf=>match (if (look (7000000+e) cx.gh).isSome then none else look 999985 cx.gh) with
      |some _=>K ⟨.bV (.l false) (.l len) (Ai σ.hp),[.put (Ai σ.hp) (.own e (.l len) te.size true f)],[],[]⟩
      |none=>K ⟨.dO (.l false) (.l len) te.size f (Ai σ.hp),[.put (Ai σ.hp) (.tail e (.l len) te.size)],[],[]⟩
    else False
   |_,_=>False
  |none=>False
 |_,_=>False
 where
 lM:Nat->List SV->List SV
  |0,_=>[]
  |n+1,z=>z++lM n z
 eT (sz:Nat) (cs:List SV):List (Nat×SV)->Option (List SV)
  | []=>some cs
  |(i,v) :: ps=>if Ai v.cells==sz&&Nat.ble (i * sz+sz) (Ai cs) then eT sz (Dd cs (i * sz) v.cells) ps else none
def I7:Operand->Operand->Bool
 |.tmp i,.tmp j=>i==j
 |_,_=>false
def Tw(cx:Cx)(σ:Sy)(T:List Nat)(t:TypeId)(len cap:SV)(same:Bool)(K:Out->Prop):Prop :=
 match T,look t cx.tt with
 | [],some ⟨.slice e,_,_,_⟩ =>
  match look e cx.tt,len,cap with
  |some te,.int .i64 (.l 0),.int _ c =>
   if Nat.blt 0 te.size then
    u4 (cx.D.i c) te.bytes/\K ⟨.dO (.l false) (.l 0) te.size (λ_=>[]) (Ai σ.hp),[.put (Ai σ.hp) (.tail e (.l 0) te.size)],[],[]⟩
   else False
  |some te,.int _ n,.int _ _ =>
   if same&&Nat.blt 0 te.size then
    u4 (cx.D.i n) te.bytes/\K ⟨.dH (Ai σ.hp),[.put (Ai σ.hp) (.row e (.a (cx.D.i n)) te.size λ_=>te.zero)],[],[]⟩
   else False
  |_,_,_=>False
 |_,_=>False
def Tx(cx:Cx)(σ:Sy)(T:List Nat)(t:TypeId)(dst src:SV)(K:Out->Prop):Prop :=
 match T,look t cx.tt,dst with
 | [],some ⟨.slice e,_,_,_⟩,.dH h =>
  match nth σ.hp h,size? cx e with
  |some (.row ty n sz f),some mJ =>
   match rowOf sz src,mJ==sz with
   |some (m,g),true =>
    po (cx.D.i m) (cx.D.i n) g f λf' r =>
     K ⟨.int .i64 (.a r),[.put h (.row ty n sz f')],[h],[]⟩
   |_,_=>False
  |_,_=>False
 |_,_,_=>False
def Er(cx:Cx)(σ:Sy)(T:List Nat):Option Operand->Option (Option SV)
 |none=>some none
 |some x=>match rd cx σ T x with
  |some v=>some (some v)
  |none=>none
def Hq(d:ST):Option SV->Option ST
 |none=>some d
 |some (.int _ a)=>some a
 |_=>none
def Je(cx:Cx)(σ:Sy)(T:List Nat)(t:TypeId)(x:SV)(lo hi:Option SV)(K:Out->Prop):Prop :=
 match Hq (.l 0) lo with
 |some a =>
  match x,look t cx.tt with
  |.sl nl n sz f,some ⟨.slice e,_,_,_⟩=>wV nl n sz f e a
  |.dO nl n sz f _,some ⟨.slice e,_,_,_⟩=>wV nl n sz f e a
  |.bV nl n h,some ⟨.slice e,_,_,_⟩ =>
   match T,nth σ.hp h,lo,hi with
   | [],some (.own e' n0 sz _ f),none,some (.int _ b) =>
    if e'==e&&(look e cx.tt).isSome then
     oM (cx.D.i n) (cx.D.i n0)/\pr 0 (cx.D.i b) (cx.D.i n)/\K ⟨.sl nl (.a (cx.D.i b)) sz f,[.put h .gone],[h],[]⟩
    else False
   | [],some (.own _ n0 sz _ _),some (.int _ b),none =>
    if size? cx e=some sz then
     oM (cx.D.i n) (cx.D.i n0)/\pr (cx.D.i b) (cx.D.i n) (cx.D.i n)/\K ⟨.kD n b h,[],[h],[]⟩
    else False
   |_,_,_,_=>False
  |.cR nl n g0 h,some ⟨.slice e,_,_,_⟩ =>
   match T,nth σ.hp h,lo,hi with
   | [],some (.vec e' n0 g1 sz f),none,some (.int _ b) =>
    if e'==e&&(look e cx.tt).isSome then
     oM (cx.D.i n) (cx.D.i n0)/\oM (cx.D.i g0) (cx.D.i g1)/\pr 0 (cx.D.i b) (cx.D.i n)/\RX (cx.D.i g0) λg'=>K ⟨.cR nl (.a (cx.D.i b)) (.a g') h,[.put h (.vec e (.a (cx.D.i b)) (.a g') sz f)],[h],[]⟩
    else False
   |_,_,_,_=>False
  |.str s,some ⟨.string,_,_,_⟩ =>
   match Hq (.len s) hi with
   |some b=>Ob cx.D σ.gm T (LW (cx.D.i a) (cx.D.i b) s)/\pn s (cx.D.i a) (cx.D.i b) λr=>out K (.str r)
   |none=>False
  |_,_=>False
 |none=>False
 where wV (nl:BT) (n:ST) (sz:Nat) (f:Nat->List SV) (e:TypeId) (a:ST):Prop :=
 match Hq n hi with
 |some b =>
  if size? cx e=some sz then
   Ob cx.D σ.gm T (pr (cx.D.i a) (cx.D.i b) (cx.D.i n))/\BA f (cx.D.i a) (cx.D.i b) λf' n'=>out K (.sl nl (.a n') sz f')
  else False
 |none=>False
def Aer(i:Int)(F:Nat->Prop):Nat->Nat->Prop
 |0,_=>True
 |n+1,j=>(DU j i->F j)/\Aer i F n (j+1)
def TQ(cx:Cx)(i:ST):ST :=
 match look 999989 cx.gh with
 |some _=>(match i with
  |.a n=>.l n
  |.cv k (.a n)=>.l (k.wrap n)
  |i=>i)
 |none=>i
def Hs(cx:Cx)(T:List Nat)(h off n sz:Nat)(i:ST)(K:Out->Prop):Prop :=
 match TQ cx i with
 |.l (.ofNat k)=>if Nat.blt k n then out K (.ptr h (off+k * sz)) else False
 |_=>match T with
  | []=>fv (cx.D.i i) n/\Aer (cx.D.i i) (λj=>out K (.ptr h (off+j * sz))) n 0
  |_=>False
def NP(n:Int):List (Int×SV)->Bool
 | []=>true
 |(k,_) :: es=>!(k==n)&&NP n es
def U7:List (Int×SV)->List Int
 | []=>[]
 |(k,_) :: es=>k :: U7 es
structure PU(i:Int)(ks:List Int):Prop where
 h:i∈ks
structure IsK(k i:Int):Prop where
 h:i=k
def Zf(i:Int)(F:SV->Prop):List (Int×SV)->Prop
 | []=>True
 |(k,v) :: es=>(IsK k i->F v)/\Zf i F es
def Afp:Option Operand->Bool
 |none=>true
 |some (.const (.int .i64 _))=>true
 |_=>false
def Aeo(cx:Cx)(σ:Sy)(T:List Nat)(o:Oper)(K:Out->Prop):Prop :=
 match o.op with
 |.move x|.assign x=>Tv cx σ T o.type x K
 |.alloc e =>
  match T,look e cx.tt with
  | [],some ti=>match look (3000000+o.dst.getD 0) cx.gh with
   |some _=>match ti.k with
    |.array n el=>match size? cx el with
     |some (cH+1)=>if (n * (cH+1))==ti.size&&Nat.ble n 1000000 then ∃f,BH f n (cH+1) ti.zero/\K ⟨.ptr (Ai σ.hp) 0,[.put (Ai σ.hp) (.row e (.l n) (cH+1) f)],[],[]⟩ else False
     |_=>False
    |_=>False
   |none=>K ⟨.ptr (Ai σ.hp) 0,[.put (Ai σ.hp) (.aF e ti.zero)],[],[]⟩
  |_,_=>False
 |.box e x =>
  match T,look e cx.tt,rd cx σ T x with
  | [],some ti,some v=>if Ai v.cells==ti.size&&Es v.cells then K ⟨.ptr (Ai σ.hp) 0,[.put (Ai σ.hp) (.aF e v.cells)],[],[]⟩ else False
  |_,_,_=>False
 |.build t ps =>
  match look t cx.tt,Gr cx σ T ps.toList with
  |some ti,some vs=>match Ov vs,Sa cx t ti.zero vs,ti.k with
   |true,some cs,.struct _=>out K (.agg cs)
   |true,some cs,.array _ e=>match size? cx e with
    |some _=>out K (.agg cs)
    |none=>False
   |_,_,_=>False
  |_,_=>False
 |.load t a =>
  match rd cx σ T a,size? cx t with
  |some (.ptr h off),some n =>
   match nth σ.hp h with
   |some (.aF _ cs)=>if Nat.ble (off+n) (Ai cs) then
     match pack (cK cx t) (takeN n (Db off cs)) with
     |some v=>K ⟨v,[],[],[(h,off,n)]⟩
     |none=>False
    else False
   |some (.row _ m sz f)=>match T,off,look t cx.tt with
    | [],0,some ⟨.array n' el,cH,_,_⟩=>if size? cx el=some sz/\n' * sz=cH then oM (cx.D.i m) n'/\∃cs,Flat f (cx.D.i m) sz cs/\K ⟨.agg cs,[],[h],[]⟩ else False
    |_,_,_=>False
   |_=>False
  |some (.dK cs),some n=>if Nat.ble n (Ai cs) then ve K (pack (cK cx t) (takeN n cs)) else False
  |some (.cT h j off),some n =>
   match nth σ.hp h with
   |some (.row _ m _sz f)=>Ob cx.D σ.gm T (u6 j (cx.D.i m))/\
    if Nat.ble (off+n) (Ai (f j)) then
     match pack (cK cx t) (takeN n (Db off (f j))) with
     |some v=>K ⟨v,[],[h],[]⟩
     |none=>False
    else False
   |_=>False
  |some (.cN m' h j off),some n =>
   match nth σ.hp h with
   |some (.own _ m _sz _ f)=>Ob cx.D σ.gm T (oM (cx.D.i m') (cx.D.i m))/\Ob cx.D σ.gm T (u6 j (cx.D.i m))/\
    if Nat.ble (off+n) (Ai (f j)) then
     match pack (cK cx t) (takeN n (Db off (f j))) with
     |some v=>K ⟨v,[],[h],[]⟩
     |none=>False
    else False
   |_=>False
  |_,_=>False
 |.store t a x =>
  match T,rd cx σ T a,gb cx σ T t x,size? cx t with
  | [],some (.ptr h off),some v,some n =>
   match nth σ.hp h with
   |some (.aF _ cs)=>if Ai v.cells==n&&Nat.ble (off+n) (Ai cs)&&Es v.cells then K ⟨.aI [],[.set h off v.cells],[],[]⟩ else False
   |some (.row ty m sz _)=>match off,v,look t cx.tt with
    |0,.agg cs,some ⟨.array n' el,cH,_,_⟩=>if size? cx el=some sz/\n' * sz=cH then oM (cx.D.i m) n'/\Agp cs/\∃f',Flat f' (cx.D.i m) sz cs/\K ⟨.aI [],[.put h (.row ty m sz f')],[h],[]⟩ else False
    |_,_,_=>False
   |_=>False
  | [],some (.cT h j off),some v,some n =>
   match nth σ.hp h with
   |some (.row ty m sz f)=>u6 j (cx.D.i m)/\
    if Ai v.cells==n&&Nat.ble (off+n) (Ai (f j))&&Es v.cells&&An (.agg (loose.aH (norm.aO cx.D v.cells))) then
     RY f j (Dd (f j) off (loose.aH (norm.aO cx.D v.cells))) λf'=>K ⟨.aI [],[.put h (.row ty m sz f')],[h],[]⟩
    else False
   |_=>False
  | [],some (.cN m' h j off),some v,some n =>
   match nth σ.hp h with
   |some (.own ty m sz gr f)=>oM (cx.D.i m') (cx.D.i m)/\u6 j (cx.D.i m)/\
    if Ai v.cells==n&&Nat.ble (off+n) (Ai (f j))&&Es v.cells&&An (.agg (loose.aH (norm.aO cx.D v.cells))) then
     RY f j (Dd (f j) off (loose.aH (norm.aO cx.D v.cells))) λf'=>K ⟨.aI [],[.put h (.own ty m sz gr f')],[h],[]⟩
    else False
   |_=>False
  |_,_,_,_=>False
 |.fieldAddr t x i =>
  match rd cx σ T x,gJ cx t i with
  |some (.ptr h off),some (fo,ft)=>match size? cx ft with
   |some (_+1)=>out K (.ptr h (off+fo))
   |_=>False
  |some (.dK cs),some (fo,ft)=>match size? cx ft with
   |some (m+1)=>if Nat.ble (fo+(m+1)) (Ai cs) then out K (.dK (takeN (m+1) (Db fo cs))) else False
   |_=>False
  |some (.cT h j off),some (fo,ft)=>match size? cx ft with
   |some (_+1)=>out K (.cT h j (off+fo))
   |_=>False
  |some (.cN n h j off),some (fo,ft)=>match size? cx ft with
   |some (_+1)=>out K (.cN n h j (off+fo))
   |_=>False
  |_,_=>False
 |.nilCheck x =>
  match rd cx σ T x with
  |some (.ptr h off)=>out K (.ptr h off)
  |some (.dK cs)=>out K (.dK cs)
  |some (.cT h j off)=>out K (.cT h j off)
  |some (.cN n h j off)=>out K (.cN n h j off)
  |some (.dR n sz f)=>out K (.dR n sz f)
  |_=>False
 |.field t x i =>
  match rd cx σ T x,gJ cx t i with
  |some (.agg cs),some (fo,ft)=>match size? cx ft with
   |some m=>if Nat.ble (fo+m) (Ai cs) then ve K (pack (cK cx ft) (takeN m (Db fo cs))) else False
   |_=>False
  |_,_=>False
 |.indexAddr t x ix =>
  match rd cx σ T x,rd cx σ T ix,look t cx.tt with
  |some (.sl _ n sz f),some (.int _ i),some ⟨.slice e,_,_,_⟩ =>
   if size? cx e=some sz then
    Ob cx.D σ.gm T (fv (cx.D.i i) (cx.D.i n))/\rA cx.D σ.gm T (cx.D.i i) λj=>out K (.dK (f j))
   else False
  |some (.dO _ n sz f _),some (.int _ i),some ⟨.slice e,_,_,_⟩ =>
   if size? cx e=some sz then
    Ob cx.D σ.gm T (fv (cx.D.i i) (cx.D.i n))/\rA cx.D σ.gm T (cx.D.i i) λj=>out K (.dK (f j))
   else False
  |some (.dH h),some (.int _ i),some ⟨.slice e,_,_,_⟩ =>
   match nth σ.hp h with
   |some (.row _ n sz _) =>
    if size? cx e=some sz then
     Ob cx.D σ.gm T (fv (cx.D.i i) (cx.D.i n))/\rA cx.D σ.gm T (cx.D.i i) λj=>K ⟨.cT h j 0,[],[h],[]⟩
    else False
   |_=>False
  |some (.bV _ m h),some (.int _ i),some ⟨.slice e,_,_,_⟩ =>
   match nth σ.hp h with
   |some (.own _ n sz _ _) =>
    if size? cx e=some sz then
     Ob cx.D σ.gm T (oM (cx.D.i m) (cx.D.i n))/\Ob cx.D σ.gm T (fv (cx.D.i i) (cx.D.i n))/\rA cx.D σ.gm T (cx.D.i i) λj=>K ⟨.cN m h j 0,[],[h],[]⟩
    else False
   |_=>False
  |some (.jI m h),some (.int _ i),some ⟨.slice e,_,_,_⟩ =>
   match size? cx e with
   |some sz=>Hs cx T h 0 m sz i K
   |none=>False
  |some (.ptr h off),some (.int _ i),some ⟨.array n e,_,_,_⟩ =>
   match size? cx e with
   |some sz=>match T,off,nth σ.hp h with
    | [],0,some (.row _ _ cH _)=>if cH==sz then fv (cx.D.i i) n/\rA cx.D σ.gm [] (cx.D.i i) λj=>K ⟨.cT h j 0,[],[h],[]⟩ else False
    |_,_,_=>Hs cx T h off n sz i K
   |none=>False
  |some (.dR n sz f),some (.int _ i),some ⟨.array n' e,_,_,_⟩ =>
   if size? cx e=some sz/\n=n' then
    Ob cx.D σ.gm T (fv (cx.D.i i) n)/\rA cx.D σ.gm T (cx.D.i i) λj=>out K (.dK (f j))
   else False
  |_,_,_=>False
 |.makeFunc (.func f) fi cs =>
  match fi.toList,Gw cx σ T cs.toList [] with
  | [],some vs=>out K (.fJ f vs)
  |fs,some []=>match Gw cx σ T fs [] with
   |some us=>out K (.gS f us)
   |none=>False
  |_,_=>False
 |.buildSlice t len ps=>Am cx σ T t len ps.toList K
 |.makeSlice t l c =>
  match rd cx σ T l,rd cx σ T c with
  |some a,some b=>Tw cx σ T t a b (I7 l c) K
  |_,_=>False
 |.slice t x lo hi none =>
  match rd cx σ T x,Er cx σ T lo,Er cx σ T hi with
  |some v,some a,some b=>Je cx σ T t v a b K
  |_,_,_=>False
 |.index t x ix =>
  match rd cx σ T x,rd cx σ T ix,look t cx.tt with
  |some (.str s),some (.int _ i),some ⟨.string,_,_,_⟩ =>
   Ob cx.D σ.gm T (DV (cx.D.i i) s)/\pq s (cx.D.i i) λc=>out K (.int .u8 (.a c))
  |some (.agg cs),some (.int _ (.l (.ofNat k))),some ⟨.array n e,_,_,_⟩ =>
   match size? cx e with
   |some sz=>if Nat.blt k n&&Nat.ble (k * sz+sz) (Ai cs) then ve K (pack (cK cx e) (takeN sz (Db (k * sz) cs))) else False
   |none=>False
  |_,_,_=>False
 |.makeMap t r =>
  match T,look t cx.tt,Afp r with
  | [],some ⟨.map kt _,_,_,_⟩,true=>match look kt cx.tt with
   |some ⟨.string,_,_,_⟩=>K ⟨.bQ (Ai σ.hp),[.put (Ai σ.hp) (.dB λ_=>false)],[],[]⟩
   |some ⟨.int .i64,_,_,_⟩=>K ⟨.bQ (Ai σ.hp),[.put (Ai σ.hp) (.iP [])],[],[]⟩
   |_=>False
  |_,_,_=>False
 |.mapUpdate t m k x|.insert t m k x =>
  match T,look t cx.tt,rd cx σ T m,rd cx σ T k,rd cx σ T x with
  | [],some ⟨.map kt vt,_,_,_⟩,some (.bQ h),some (.str s),some (.bool b) =>
   match look kt cx.tt,look vt cx.tt,nth σ.hp h with
   |some ⟨.string,_,_,_⟩,some ⟨.bool,_,_,_⟩,some (.dB F)=>BE F s (cx.D.b b) λF'=>K ⟨.aI [],[.put h (.dB F')],[h],[]⟩
   |_,_,_=>False
  | [],some ⟨.map kt _,_,_,_⟩,some (.bQ h),some (.int .i64 (.l n)),some v =>
   match look kt cx.tt,nth σ.hp h with
   |some ⟨.int .i64,_,_,_⟩,some (.iP es)=>if NP n es then K ⟨.aI [],[.put h (.iP (es++[(n,v)]))],[h],[]⟩ else False
   |_,_=>False
  |_,_,_,_,_=>False
 |.lookup t m k false =>
  match look t cx.tt,rd cx σ T m,rd cx σ T k with
  |some ⟨.map kt vt,_,_,_⟩,some (.bQ h),some (.str s) =>
   match look kt cx.tt,look vt cx.tt,nth σ.hp h with
   |some ⟨.string,_,_,_⟩,some ⟨.bool,_,_,[.bool (.l false)]⟩,some (.dB F)=>K ⟨.bool (.a (F s)),[],[h],[]⟩
   |_,_,_=>False
  |some ⟨.map kt _,_,_,_⟩,some (.bQ h),some (.int .i64 n) =>
   match T,look kt cx.tt,nth σ.hp h with
   | [],some ⟨.int .i64,_,_,_⟩,some (.iP es)=>PU (cx.D.i n) (U7 es)/\Zf (cx.D.i n) (λv=>K ⟨v,[],[h],[]⟩) es
   |_,_,_=>False
  |_,_,_=>False
 |.extract x i =>
  match rd cx σ T x with
  |some (.aI vs)=>ve K (nth vs i)
  |_=>False
 |.unOp op _ x =>
  match op,rd cx σ T x with
  |.not,some (.bool b)=>out K (.bool (CC b))
  |.neg,some (.int k n)=>out K (.int k (MU .sub k (.l 0) n))
  |_,_=>False
 |.binOp op t x y _ =>
  match rd cx σ T x,rd cx σ T y with
  |some a,some (.raw _)=>Zd cx op t a y K
  |some a,some b=>Ze cx σ.gm T op t a b K
  |_,_=>False
 |.convert src dst x =>
  match rd cx σ T x,look dst cx.tt,look src cx.tt with
  |some (.int _ n),some ⟨.int k,_,_,_⟩,some _=>out K (.int k (.cv k n))
  |some (.str s),some ⟨.slice e,_,_,_⟩,some ⟨.string,_,_,_⟩ =>
   match look e cx.tt with
   |some ⟨.int .u8,_,_,_⟩=>match look 999983 cx.gh with
    |some _=>match T with
     | []=>LY s/\Aea s λf=>K ⟨.bV (.l false) (.len s) (Ai σ.hp),[.put (Ai σ.hp) (.own e (.len s) 1 false f)],[],[]⟩
     |_=>False
    |none=>Ob cx.D σ.gm T (LY s)/\Aea s λf=>out K (.sl (.l false) (.len s) 1 f)
   |_=>False
  |some (.sl _ n 1 f),some ⟨.string,_,_,_⟩,some ⟨.slice e,_,_,_⟩=>S8 cx σ T e n f K
  |some (.dO _ n 1 f _),some ⟨.string,_,_,_⟩,some ⟨.slice e,_,_,_⟩=>S8 cx σ T e n f K
  |some (.bV (.l false) n h),some ⟨.slice e,_,_,_⟩,some ⟨.slice e',_,_,_⟩ =>
   match T,look e cx.tt,nth σ.hp h with
   | [],some ⟨.int .u8,_,_,_⟩,some (.own ty n0 1 true f)=>if e'==e&&src==dst&&ty==e then
     oM (cx.D.i n) (cx.D.i n0)/\K ⟨.bV (.l false) n h,[.put h (.own e n0 1 false f)],[h],[]⟩ else False
   |_,_,_=>False
  |some (.bV _ n h),some ⟨.string,_,_,_⟩,some ⟨.slice e,_,_,_⟩ =>
   match T,look e cx.tt,nth σ.hp h with
   | [],some ⟨.int .u8,_,_,_⟩,some (.own _ n0 1 _ f)=>oM (cx.D.i n) (cx.D.i n0)/\Fz (cx.D.i n0) f/\Agm (cx.D.i n0) f λr=>K ⟨.str r,[],[h],[]⟩
   |_,_,_=>False
  |some (.cR _ n g h),some ⟨.string,_,_,_⟩,some ⟨.slice e,_,_,_⟩ =>
   match T,look e cx.tt,nth σ.hp h with
   | [],some ⟨.int .u8,_,_,_⟩,some (.vec _ n0 g0 1 f)=>oM (cx.D.i n) (cx.D.i n0)/\oM (cx.D.i g) (cx.D.i g0)/\Fz (cx.D.i n0) f/\Agm (cx.D.i n0) f λr=>K ⟨.str r,[],[h],[]⟩
   |_,_,_=>False
  |_,_,_=>False
 |.call c =>
  match c.callee with
  |.builtin .len =>
   match c.args.toList,c.argTypes.toList with
   | [x],[t] =>
    match rd cx σ T x,look t cx.tt with
    |some (.sl _ n _ _),some ⟨.slice _,_,_,_⟩=>out K (.int .i64 n)
    |some (.dO _ n _ _ _),some ⟨.slice _,_,_,_⟩=>out K (.int .i64 n)
    |some (.bV _ n _),some ⟨.slice _,_,_,_⟩=>out K (.int .i64 n)
    |some (.cR _ n _ _),some ⟨.slice _,_,_,_⟩=>out K (.int .i64 n)
    |some (.jI n _),some ⟨.slice _,_,_,_⟩=>out K (.int .i64 (.l n))
    |some (.str s),some ⟨.string,_,_,_⟩=>out K (.int .i64 (.len s))
    |some (.dH h),some ⟨.slice _,_,_,_⟩=>match nth σ.hp h with
     |some (.row _ n _ _)=>K ⟨.int .i64 n,[],[h],[]⟩
     |_=>False
    |_,_=>False
   |_,_=>False
  |.builtin .append =>
   match T,c.args.toList,c.argTypes.toList with
   | [],[x,y],[t,t'] =>
    match rd cx σ T x,rd cx σ T y,look t cx.tt with
    |some b,some s,some ⟨.slice e,_,_,_⟩ =>
     match look e cx.tt with
     |some te=>if t==t'&&Nat.blt 0 te.size then Wf cx σ b s e te.size te.bytes K else Ra cx σ b s t' e te K
     |none=>False
    |_,_,_=>False
   |_,_,_=>False
  |.builtin .clear =>
   match T,c.args.toList,c.argTypes.toList with
   | [],[x],[t] =>
    match rd cx σ T x,look t cx.tt with
    |some (.kD n a h),some ⟨.slice e,_,_,_⟩ =>
     match nth σ.hp h,look e cx.tt with
     |some (.own e' n0 sz gr f),some te =>
      if e'==e&&te.size==sz&&An (.agg te.zero) then
       oM (cx.D.i n) (cx.D.i n0)/\BF f (cx.D.i a) te.zero λf'=>K ⟨.aI [],[.put h (.own e n0 sz gr f')],[h],[]⟩
      else False
     |_,_=>False
    |_,_=>False
   |_,_,_=>False
  |.builtin .copy =>
   match c.args.toList,c.argTypes.toList with
   | [x,y],[t,_] =>
    match rd cx σ T x,rd cx σ T y with
    |some d,some s=>Tx cx σ T t d s K
    |_,_=>False
   |_,_=>False
  |.builtin .max =>
   match c.args.toList with
   | [x,y] =>
    match rd cx σ T x,rd cx σ T y with
    |some (.int k a),some (.int k' b)=>if k=k' then BD (cx.D.i a) (cx.D.i b) λr=>out K (.int k (.a r)) else False
    |_,_=>False
   |_=>False
  |.builtin .min =>
   match c.args.toList with
   | [x,y] =>
    match rd cx σ T x,rd cx σ T y with
    |some (.int k a),some (.int k' b)=>if k=k' then BC (cx.D.i a) (cx.D.i b) λr=>out K (.int k (.a r)) else False
    |_,_=>False
   |_=>False
  |.value (.func f) =>
   match Gw cx σ T c.args.toList c.argTypes.toList with
   |some vs=>Jf cx σ T f vs K
   |none=>False
  |.value (.tmp s) =>
   match Gw cx σ T c.args.toList c.argTypes.toList,rd cx σ T (.tmp s) with
   |some vs,some (.fn f)=>Jf cx σ T f vs K
   |some vs,some (.fJ f cs)=>Jf cx σ T f (vs++cs) K
   |some vs,some (.gS f us)=>Jf cx σ T f (us++vs) K
   |_,_=>False
  |_=>False
 |_=>False
def Tu(cx:Cx)(σ:Sy)(T:List Nat)(c a b:Operand)(K:Out->Prop):Prop :=
 match c with
 |.tmp s =>
  match Ax σ.fr s with
  |some ⟨tg,_,_,.bool (.l true)⟩=>if Wr tg T then ve K (rd cx σ T a) else False
  |some ⟨tg,_,_,.bool (.l false)⟩=>if Wr tg T then ve K (rd cx σ T b) else False
  |some ⟨tg,gt,gf,.bool ct⟩ =>
   if Wr tg T then
    match rd cx σ (gt.toList++T) a,rd cx σ (gf.toList++T) b with
    |some (.bool x),some (.bool (.l false))=>out K (.bool (.and ct x))
    |some (.bool (.l true)),some (.bool y)=>out K (.bool (.or ct y))
    |_,_=>False
   else False
  |_=>False
 |_=>False
def guardOf(ops:List Oper)(σ:Sy):Option (Nat×Bool)->Option (Option (Sy×List Nat))
 |none=>some (some (σ,[]))
 |some (j,want) =>
  match nth ops j with
  |some oj=>match oj.dst with
   |some s=>match Ax σ.fr s with
    |some ⟨tg,_,_,.bool (.l b)⟩=>if b==want then some (some (σ,tg)) else some none
    |some ⟨tg,gt,gf,.bool c⟩ =>
     if want then
      match gt with
      |some i=>some (some (σ,i :: tg))
      |none=>some (some (⟨Ay σ.fr s (some ⟨tg,some (Ai σ.gm),gf,.bool c⟩),σ.hp,σ.gm++[c]⟩,Ai σ.gm :: tg))
     else
      match gf with
      |some i=>some (some (σ,i :: tg))
      |none=>some (some (⟨Ay σ.fr s (some ⟨tg,gt,some (Ai σ.gm),.bool c⟩),σ.hp,σ.gm++[.not c]⟩,Ai σ.gm :: tg))
    |_=>none
   |none=>none
  |none=>none
def Jr(hp:List Hl):List Ef->Bool
 | []=>true
 |.set h off vs :: es=>Jr (gx hp (.set h off vs)) es
 |.put h hl :: es=>Nat.ble h (Ai hp)&&Jr (gx hp (.put h hl)) es
def cP(fr:List (Option G))(d:Option Nat)(g:Option G):List (Option G) :=
 match d with
 |some s=>Ay fr s g
 |none=>fr
def yieldOf(cx:Cx)(σ:Sy)(T:List Nat)(op:Op):Option (Nat×Call) :=
 match op with
 |.call c=>match c.callee with
  |.value (.tmp s)=>match rd cx σ T (.tmp s) with
   |some (.yv h)=>some (h,c)
   |_=>none
  |_=>none
 |_=>none
def Mj(cx:Cx)(σ:Sy)(T:List Nat)(h:Nat)(c:Call)(K:Out->Prop):Prop :=
 match Gw cx σ T c.args.toList c.argTypes.toList,cx.yl with
 |some vs,[Y]=>Gd cx σ [] (.yv h :: vs) Y K
 |_,_=>False
def Of(cx:Cx)(σ:Sy)(T:List Nat)(o:Oper)(K:Out->Prop):Prop :=
 match o.op with
 |.pick c a b=>Tu cx σ T c a b K
 |_=>match yieldOf cx σ T o.op with
  |some (h,c)=>Mj cx σ T h c K
  |none=>Aeo cx σ T o K
structure FP where
 tX:List Nat
 CJ:List (Nat×Nat×Nat)
 wr:List (Nat×Option (Nat×Nat))
def iH:List Ef->List (Nat×Option (Nat×Nat))
 | []=>[]
 |.set h off vs :: es=>(h,some (off,Ai vs)) :: iH es
 |.put h _ :: es=>(h,none) :: iH es
def Xe(r:Out):FP:=⟨r.tX,r.CJ,iH r.fR⟩
def Aca(o:Oper):Bool:=match o.op with
 |.defer _=>false
 |_=>true
def Aan(cx:Cx)(op:Op):Option SV:=match op with
 |.buildSlice t _ _=>match look t cx.tt with
  |some ⟨.slice e,_,_,_⟩=>match look e cx.tt with
   |some te=>some (.sl (.l true) (.l 0) te.size λ_=>[])
   |none=>none
  |_=>none
 |.call c=>match c.callee with
  |.value (.func f)=>if (look (8000000+f) cx.gh).isSome then some (.bool (.l true)) else none
  |_=>none
 |_=>none
def E9(cx:Cx)(all:List Oper):List Oper->List FP->Sy->(List FP->Sy->Prop)->Prop
 | [],fs,σ,K=>K fs σ
 |o :: os,fs,σ,K =>
  match guardOf all σ o.guard with
  |none=>False
  |some none=>E9 cx all os (fs++[⟨[],[],[]⟩]) ⟨cP σ.fr o.dst none,σ.hp,σ.gm⟩ K
  |some (some (σ,T)) =>
   match yieldOf cx σ T o.op,T with
   |some (h,c),[i]=>match nth σ.gm i with
    |some b=>(cx.D.b b=true->Mj cx σ [i] h c λr=>if Jr σ.hp r.fR then E9 cx all os (fs++[Xe r]) ⟨cP σ.fr o.dst (some ⟨[i],none,none,r.v⟩),L7 σ.hp r.fR,σ.gm⟩ K else False)/\
      (cx.D.b b=false->E9 cx all os (fs++[Xe ⟨.bool (.l true),[],[],[]⟩]) ⟨cP σ.fr o.dst (some ⟨[i],none,none,.bool (.l true)⟩),σ.hp,σ.gm⟩ K)
    |none=>False
   |_,_=>match Aan cx o.op,T with
    |some d,[i]=>match nth σ.gm i with
     |some b=>(cx.D.b b=true->Of cx σ [i] o λr=>if Jr σ.hp r.fR then E9 cx all os (fs++[Xe r]) ⟨cP σ.fr o.dst (some ⟨[i],none,none,r.v⟩),L7 σ.hp r.fR,σ.gm⟩ K else False)/\
       (cx.D.b b=false->E9 cx all os (fs++[Xe ⟨d,[],[],[]⟩]) ⟨cP σ.fr o.dst (some ⟨[i],none,none,d⟩),σ.hp,σ.gm⟩ K)
     |none=>False
    |some d,[i,j]=>match nth σ.gm i,nth σ.gm j with
     |some b,some c=>((cx.D.b b&&cx.D.b c)=true->Of cx σ [i,j] o λr=>if Jr σ.hp r.fR then E9 cx all os (fs++[Xe r]) ⟨cP σ.fr o.dst (some ⟨[i,j],none,none,r.v⟩),L7 σ.hp r.fR,σ.gm⟩ K else False)/\
       ((cx.D.b b&&cx.D.b c)=false->E9 cx all os (fs++[Xe ⟨d,[],[],[]⟩]) ⟨cP σ.fr o.dst (some ⟨[i,j],none,none,d⟩),σ.hp,σ.gm⟩ K)
     |_,_=>False
    |_,_=>Of cx σ T o λr=>if Jr σ.hp r.fR&&(T.isEmpty||r.fR.isEmpty)&&Aca o then E9 cx all os (fs++[Xe r]) ⟨cP σ.fr o.dst (some ⟨T,none,none,r.v⟩),L7 σ.hp r.fR,σ.gm⟩ K else False
def Aml:Operand->List Nat
 |.tmp s=>[s]
 |_=>[]
def Zg:List Operand->List Nat
 | []=>[]
 |x :: xs=>Aml x++Zg xs
def Qs(all:List Oper):Option (Nat×Bool)->List Nat
 |none=>[]
 |some (j,_)=>match nth all j with
  |some oj=>match oj.dst with
   |some s=>[s]
   |none=>[]
  |none=>[]
def looks(all:List Oper)(o:Oper):List Nat:=Zg o.op.operands.toList++Qs all o.guard
def Qc:List Nat->List Nat->Bool
 | [],_=>false
 |x :: l,t=>Le x t||Qc l t
def Wy:Option Nat->List Nat
 |some x=>[x]
 |none=>[]
def C9:Nat×Option (Nat×Nat)->Nat×Option (Nat×Nat)->Bool
 |(h,a),(k,b)=>h==k&&match a,b with
  |some (x,m),some (y,n)=>Nat.blt x (y+n)&&Nat.blt y (x+m)
  |_,_=>true
def pk(x:Nat×Option (Nat×Nat)):List (Nat×Option (Nat×Nat))->Bool
 | []=>false
 |y :: l=>C9 x y||pk x l
def Qb:List (Nat×Option (Nat×Nat))->List (Nat×Option (Nat×Nat))->Bool
 | [],_=>false
 |x :: l,t=>pk x t||Qb l t
def CK(f:FP):List (Nat×Option (Nat×Nat)):=(f.tX.map λh=>(h,none))++f.CJ.map λx=>(x.1,some (x.2.1,x.2.2))
def NI(all:List Oper)(o:Oper)(f:FP)(o':Oper)(f':FP):Bool :=
 Qc (Wy o.dst) (looks all o')||Qc (Wy o.dst) (Wy o'.dst)||Qc (Wy o'.dst) (looks all o)||Qb f.wr (CK f')||Qb f.wr f'.wr||Qb f'.wr (CK f)
def MS(x:Nat)(l:List Nat):List Nat:=if Le x l then l else x :: l
def Aei:List Nat->List Nat->List Nat
 | [],t=>t
 |x :: l,t=>Aei l (MS x t)
def Dk:List Edge->List Nat
 | []=>[]
 |e :: es=>(match e.ground with|.textOnly _|.gcOnly _=>[]|_=>[e.on])++Dk es
def Q9(acc:List (List Nat)):List Nat->List Nat
 | []=>[]
 |i :: l=>Aei (MS i ((nth acc i).getD [])) (Q9 acc l)
def Ix:List Oper->List (List Nat)->List (List Nat)
 | [],acc=>acc
 |o :: os,acc=>Ix os (acc++[Q9 acc (Dk o.after.toList)])
def Zr(n:Nat):List Nat->Bool
 | []=>true
 |x :: l=>Nat.blt x n&&Zr n l
def Ho:List Oper->Nat->Bool
 | [],_=>true
 |o :: os,n=>Zr n (Dk o.after.toList)&&Ho os (n+1)
def Mv(all:List Oper)(bs:List (List Nat))(i:Nat)(o:Oper)(f:FP):List Oper->List FP->Nat->Bool
 |o' :: os,f' :: fs,j=>(!(NI all o f o' f')||Le i ((nth bs j).getD []))&&Mv all bs i o f os fs (j+1)
 |_,_,_=>true
def indep(all:List Oper)(bs:List (List Nat)):List Oper->List FP->Nat->Bool
 |o :: os,f :: fs,i=>Mv all bs i o f os fs (i+1)&&indep all bs os fs (i+1)
 |_,_,_=>true
structure qa(ops:List Oper)(fs:List FP):Prop where
 h:(Ho ops 0&&indep ops (Ix ops []) ops fs 0)=true
def tidy:List (Option G)->List (Option G)
 | []=>[]
 |some ⟨[],_,_,v⟩ :: l=>some ⟨[],none,none,v⟩ :: tidy l
 |_ :: l=>none :: tidy l
def fS(h:Nat)(x:SV):SV->SV
 |.dH k=>if k==h then x else .dH k
 |.agg cs=>.agg (lX h x cs)
 |.aI cs=>.aI (lX h x cs)
 |.fJ f cs=>.fJ f (lX h x cs)
 |.gS f cs=>.gS f (lX h x cs)
 |v=>v
 where lX (h:Nat) (x:SV):List SV->List SV
 | []=>[]
 |c :: cs=>fS h x c :: lX h x cs
def Fp(h:Nat)(x:SV):List (Option G)->List (Option G)
 | []=>[]
 |some ⟨tg,gt,gf,v⟩ :: l=>some ⟨tg,gt,gf,fS h x v⟩ :: Fp h x l
 |none :: l=>none :: Fp h x l
def OC(h:Nat)(x:SV):List Hl->List Hl
 | []=>[]
 |.aF ty cs :: ls=>.aF ty (fS.lX h x cs) :: OC h x ls
 |l :: ls=>l :: OC h x ls
def ghost(cx:Cx)(σ:Sy):Gh->Option Sy
 |.hold s k e=>match Ax σ.fr s with
  |some ⟨[],_,_,.ptr h 0⟩=>match nth σ.hp h with
   |some (.aF T cs)=>match nth cs k,size? cx e with
    |some (.sl (.l true) (.l 0) sz f),some cH=>if cH==sz then some ⟨σ.fr,Ay σ.hp h (.aF T (Ay cs k (.dO (.l true) (.l 0) sz f (Ai σ.hp))))++[.tail e (.l 0) sz],σ.gm⟩ else none
    |_,_=>none
   |_=>none
  |_=>none
 |.freeze s=>match Ax σ.fr s with
  |some ⟨[],_,_,.dH h⟩=>match nth σ.hp h with
   |some (.row _ n sz f)=>some ⟨Fp h (.sl (.l false) n sz f) σ.fr,Ay (OC h (.sl (.l false) n sz f) σ.hp) h .gone,σ.gm⟩
   |_=>none
  |_=>none
 |.attach s e=>match Ax σ.fr s with
  |some ⟨[],_,_,.sl (.l true) (.l 0) sz f⟩=>match size? cx e with
   |some cH=>if cH==sz then some ⟨Ay σ.fr s (some ⟨[],none,none,.dO (.l true) (.l 0) sz f (Ai σ.hp)⟩),σ.hp++[.tail e (.l 0) sz],σ.gm⟩ else none
   |none=>none
  |_=>none
 |.own s e=>match Ax σ.fr s with
  |some ⟨[],_,_,.sl (.l true) (.l 0) sz f⟩=>match size? cx e with
   |some cH=>if cH==sz then some ⟨Ay σ.fr s (some ⟨[],none,none,.bV (.l true) (.l 0) (Ai σ.hp)⟩),σ.hp++[.own e (.l 0) sz true f],σ.gm⟩ else none
   |none=>none
  |_=>none
 |.share s=>match Ax σ.fr s with
  |some ⟨[],_,_,.bV nl n h⟩=>match nth σ.hp h with
   |some (.own _ _ sz _ f)=>some ⟨Ay σ.fr s (some ⟨[],none,none,.sl nl n sz f⟩),Ay σ.hp h .gone,σ.gm⟩
   |_=>none
  |_=>none
 |.nC s e=>match Ax σ.fr s with
  |some ⟨[],_,_,.ptr h 0⟩=>match nth σ.hp h with
   |some (.aF T [.eX,.sl (.l true) (.l 0) 1 _])=>some ⟨σ.fr,Ay σ.hp h (.nC T e []),σ.gm⟩
   |_=>none
  |_=>none
 |.iu _=>none
 |.KJ _=>none
 |.pL _=>none
 |.pA ..=>none
 |.rM ..=>none
 |.yL _=>none
 |.bn _=>none
 |.vec s e=>match Ax σ.fr s with
  |some ⟨[],_,_,.sl (.l true) (.l 0) sz f⟩=>match size? cx e with
   |some cH=>if cH==sz then some ⟨Ay σ.fr s (some ⟨[],none,none,.cR (.l true) (.l 0) (.l 0) (Ai σ.hp)⟩),σ.hp++[.vec e (.l 0) (.l 0) sz f],σ.gm⟩ else none
   |none=>none
  |_=>none
 |.rN s k e=>match Ax σ.fr s with
  |some ⟨[],_,_,.ptr h 0⟩=>match nth σ.hp h with
   |some (.aF T cs)=>match nth cs k,size? cx e with
    |some (.sl (.l true) (.l 0) sz f),some cH=>if cH==sz then some ⟨σ.fr,Ay σ.hp h (.aF T (Ay cs k (.cR (.l true) (.l 0) (.l 0) (Ai σ.hp))))++[.vec e (.l 0) (.l 0) sz f],σ.gm⟩ else none
    |_,_=>none
   |_=>none
  |_=>none
 |.jT s=>match Ax σ.fr s with
  |some ⟨[],_,_,.cR nl n _ h⟩=>match nth σ.hp h with
   |some (.vec _ _ _ sz f)=>some ⟨Ay σ.fr s (some ⟨[],none,none,.sl nl n sz f⟩),Ay σ.hp h .gone,σ.gm⟩
   |_=>none
  |_=>none
 |.fX s k=>match Ax σ.fr s with
  |some ⟨[],_,_,.ptr hb 0⟩=>match nth σ.hp hb with
   |some (.aF T cs)=>match nth cs k with
    |some (.cR nl n _ h)=>match nth σ.hp h with
     |some (.vec _ _ _ sz f)=>some ⟨σ.fr,Ay (Ay σ.hp hb (.aF T (Ay cs k (.sl nl n sz f)))) h .gone,σ.gm⟩
     |_=>none
    |_=>none
   |_=>none
  |_=>none
def Ak8(σ:Sy)(s:Nat):Option (BT×ST×Nat×(Nat->List SV)) :=
 match Ax σ.fr s with
 |some ⟨[],_,_,.sl nl n sz f⟩=>some (nl,n,sz,f)
 |some ⟨[],_,_,.dO nl n sz f _⟩=>some (nl,n,sz,f)
 |_=>none
def Anm(cx:Cx)(σ:Sy)(s:Nat):Option (Nat×Nat×List (List SV)×Nat) :=
 match Ax σ.fr s with
 |some ⟨[],_,_,.ptr h 0⟩=>match nth σ.hp h with
  |some (.aF T cs)=>match look T cx.tt with
   |some ⟨.array n e,_,_,_⟩=>match size? cx e with
    |some sz=>if Ai cs==n * sz&&An.gX cs then some (n,sz,chunks sz n cs,h) else none
    |none=>none
   |_=>none
  |_=>none
 |_=>none
def Za(σ:Sy)(s:Nat):Option (TypeId×ST×Nat×(Nat->List SV)×Nat) :=
 match Ax σ.fr s with
 |some ⟨[],_,_,.ptr h 0⟩=>match nth σ.hp h with
  |some (.row ty n sz f)=>some (ty,n,sz,f,h)
  |_=>none
 |_=>none
structure BIs(x b:Bool):Prop where
 h:x=b
structure IIs(x n:Int):Prop where
 h:x=n
def Agi(σ:Sy)(s:Nat):Option BT :=
 match Ax σ.fr s with
 |some ⟨[],_,_,.bool c⟩=>some c
 |_=>none
def Afu(σ:Sy)(s:Nat):Option (IntKind×ST) :=
 match Ax σ.fr s with
 |some ⟨[],_,_,.int k c⟩=>some (k,c)
 |_=>none
def Aee(σ:Sy)(s k h:Nat):Option (Nat×TypeId×List SV×TypeId×ST×Nat×(Nat->List SV)) :=
 match Ax σ.fr s with
 |some ⟨[],_,_,.ptr hb 0⟩=>match nth σ.hp hb,nth σ.hp h with
  |some (.aF T cs),some (.vec e _ g sz _)=>match nth cs k with
   |some (.sl (.l true) (.l 0) cH f)=>if cH==sz then some (hb,T,cs,e,g,sz,f) else none
   |_=>none
  |_,_=>none
 |_=>none
def Aef(σ:Sy)(s k h:Nat):Option (Nat×TypeId×List SV×Nat×BT×ST×ST×TypeId×ST×Nat×(Nat->List SV)) :=
 match Ax σ.fr s with
 |some ⟨[],_,_,.ptr hb 0⟩=>match nth σ.hp hb,nth σ.hp h with
  |some (.aF T cs),some (.vec e _ g sz _)=>match nth cs k with
   |some (.bV nl n h2)=>match nth σ.hp h2 with
    |some (.own e' n0 cH _ f)=>if cH==sz&&e'==e then some (hb,T,cs,h2,nl,n,n0,e,g,sz,f) else none
    |_=>none
   |_=>none
  |_,_=>none
 |_=>none
def Ns(cx:Cx)(σ:Sy):Gh->Prop
 |.share s=>match Ax σ.fr s with
  |some ⟨[],_,_,.bV _ n h⟩=>match nth σ.hp h with
   |some (.own _ n0 _ _ _)=>oM (cx.D.i n) (cx.D.i n0)
   |_=>False
  |_=>False
 |.jT s=>match Ax σ.fr s with
  |some ⟨[],_,_,.cR _ n g0 h⟩=>match nth σ.hp h with
   |some (.vec _ n0 g1 _ _)=>oM (cx.D.i n) (cx.D.i n0)/\oM (cx.D.i g0) (cx.D.i g1)
   |_=>False
  |_=>False
 |.fX s k=>match Ax σ.fr s with
  |some ⟨[],_,_,.ptr hb 0⟩=>match nth σ.hp hb with
   |some (.aF _ cs)=>match nth cs k with
    |some (.cR _ n g0 h)=>match nth σ.hp h with
     |some (.vec _ n0 g1 _ _)=>oM (cx.D.i n) (cx.D.i n0)/\oM (cx.D.i g0) (cx.D.i g1)
     |_=>False
    |_=>False
   |_=>False
  |_=>False
 |_=>True
def aV(cx:Cx):List Gh->Sy->(Sy->Prop)->Prop
 | [],σ,K=>K σ
 |g :: gs,σ,K=>match g with
  |.iu s=>match Ak8 σ s with
   |some (nl,n,sz,f)=>∃f2,uz (cx.D.i n) f2 f/\aV cx gs ⟨Ay σ.fr s (some ⟨[],none,none,.sl nl n sz f2⟩),σ.hp,σ.gm⟩ K
   |none=>False
  |.KJ s=>match Anm cx σ s with
   |some (n,sz,rows,h)=>∃f,Sj f rows/\aV cx gs ⟨Ay σ.fr s (some ⟨[],none,none,.dR n sz f⟩),Ay σ.hp h .gone,σ.gm⟩ K
   |none=>False
  |.pL s=>match Za σ s with
   |some (ty,n,sz,f,h)=>∃cs,Flat f (cx.D.i n) sz cs/\aV cx gs ⟨σ.fr,Ay σ.hp h (.aF ty cs),σ.gm⟩ K
   |none=>False
  |.yL s=>match Agi σ s with
   |some c=>∃b,BIs (cx.D.b c) b/\aV cx gs ⟨Ay σ.fr s (some ⟨[],none,none,.bool (.l b)⟩),σ.hp,σ.gm⟩ K
   |none=>False
  |.bn s=>match Afu σ s with
   |some (k,c)=>∃n,IIs (cx.D.i c) n/\aV cx gs ⟨Ay σ.fr s (some ⟨[],none,none,.int k (.l n)⟩),σ.hp,σ.gm⟩ K
   |none=>False
  |.pA s k h=>match Aee σ s k h with
   |some (hb,T,cs,e,g,sz,f)=>RX (cx.D.i g) λg'=>aV cx gs ⟨σ.fr,Ay (Ay σ.hp hb (.aF T (Ay cs k (.cR (.l true) (.l 0) (.a g') h)))) h (.vec e (.l 0) (.a g') sz f),σ.gm⟩ K
   |none=>False
  |.rM s k h=>match Aef σ s k h with
   |some (hb,T,cs,h2,nl,n,n0,e,g,sz,f)=>oM (cx.D.i n) (cx.D.i n0)/\RX (cx.D.i g) λg'=>aV cx gs ⟨σ.fr,Ay (Ay (Ay σ.hp hb (.aF T (Ay cs k (.cR nl n (.a g') h)))) h (.vec e n0 (.a g') sz f)) h2 .gone,σ.gm⟩ K
   |none=>False
  |g=>Ns cx σ g/\match ghost cx σ g with
   |some σ=>aV cx gs σ K
   |none=>False
def gI(cx:Cx)(id:Nat)(σ:Sy)(K:Sy->Prop):Prop :=
 match look id cx.gh with
 |none=>K σ
 |some l=>aV cx l σ K
inductive Ex where
 |normal
 |exit (id:Nat)
 |goto (l:Nat)
 |ret
def Oy:List (Nat×Option SV)->List (Option G)->List (Option G)
 | [],fr=>fr
 |(i,v) :: l,fr=>Oy l (Ay fr i (v.map λv=>⟨[],none,none,v⟩))
def blank{α:Type}:List α->List (Option G)
 | []=>[]
 |_ :: l=>none :: blank l
def Bz(n:Nat):SV->Bool
 |.ptr h _=>Nat.blt h n
 |.dO _ _ _ _ h=>Nat.blt h n
 |.dH h=>Nat.blt h n
 |.cT h _ _=>Nat.blt h n
 |.bV _ _ h=>Nat.blt h n
 |.cN _ h _ _=>Nat.blt h n
 |.bQ h=>Nat.blt h n
 |.jI _ h=>Nat.blt h n
 |.cR _ _ _ h=>Nat.blt h n
 |.kD _ _ h=>Nat.blt h n
 |.yv h=>Nat.blt h n
 |.agg cs=>iW n cs
 |.aI cs=>iW n cs
 |.fJ _ cs=>iW n cs
 |.gS _ cs=>iW n cs
 |_=>true
 where iW (n:Nat):List SV->Bool
 | []=>true
 |c :: cs=>Bz n c&&iW n cs
def N7(n:Nat):List (Nat×Option SV)->Bool
 | []=>true
 |(_,some v) :: l=>Bz n v&&N7 n l
 |(_,none) :: l=>N7 n l
def SA(n:Nat):List (Int×SV)->Bool
 | []=>true
 |(_,v) :: l=>Bz n v&&SA n l
def Ee(n:Nat):List Hl->Bool
 | []=>true
 |.aF _ cs :: ls=>Bz n (.agg cs)&&Ee n ls
 |.bO _ fr _ _ :: ls=>N7 n fr&&Ee n ls
 |.iP es :: ls=>SA n es&&Ee n ls
 |_ :: ls=>Ee n ls
def Gz(D:Dn)(n:Nat)(fr:List (Option G)):List Nat->List (Option SV)
 | []=>[]
 |i :: l=>(match Ax fr i with|some ⟨[],_,_,v⟩=>(if Bz n v then some (norm D v) else none)|_=>none) :: Gz D n fr l
def G3(D:Dn):List Hl->List Hl
 | []=>[]
 |.aF ty cs :: ls=>.aF ty (norm.aO D cs) :: G3 D ls
 |.tail ty n sz :: ls=>.tail ty (.a (D.i n)) sz :: G3 D ls
 |.row ty n sz f :: ls=>.row ty (.a (D.i n)) sz f :: G3 D ls
 |.own ty n sz gr f :: ls=>.own ty (.a (D.i n)) sz gr f :: G3 D ls
 |.vec ty n g sz f :: ls=>.vec ty (.a (D.i n)) (.a (D.i g)) sz f :: G3 D ls
 |l :: ls=>l :: G3 D ls
def Ld{α:Type}:List Nat->List (Option α)->List (Nat×Option α)
 |i :: l,v :: vs=>(i,v) :: Ld l vs
 |_,_=>[]
def uB(σ:Sy)(c:Operand)(b:Bool):Sy :=
 match c with
 |.tmp s=>⟨Ay σ.fr s (some ⟨[],none,none,.bool (.l b)⟩),σ.hp,σ.gm⟩
 |_=>σ
end Go.Sx
