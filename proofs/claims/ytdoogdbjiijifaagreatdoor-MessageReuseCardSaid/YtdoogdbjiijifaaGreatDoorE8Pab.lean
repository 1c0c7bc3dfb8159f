/- A part of the proof: contracts of functions, or the executor and its soundness. No conditions. -/
import Derived.Test.YtdoogdbjiijifaaGreatDoorE8Paa
namespace Go.Sx
def out(K:Out->Prop)(v:SV):Prop:=K ⟨v,[],[],[]⟩
def ua(K:Out->Prop):Option SV->Prop
 |some v=>K ⟨v,[],[],[]⟩
 |none=>False
def arith:BinOp->Bool
 |.add|.sub|.mul|.and|.or|.xor|.andNot=>true
 |_=>false
def Al7:BinOp->Bool
 |.eql|.neq|.lss|.leq|.gtr|.geq=>true
 |_=>false
def Pg(op:BinOp):ST->ST->BT
 |.l m,.l n=>.l (Bz op m n)
 |x,y=>.cmp op x y
def AZ:BT->BT
 |.l b=>.l (!b)
 |x=>.not x
def LR(op:BinOp)(k:IntKind):ST->ST->ST
 |.l m,.l n=>.l (Eg op k m n)
 |x,y=>.bin op k x y
def Vs:BT->BT->BT
 |.l true,y=>y
 |x,.l true=>x
 |x,y=>.and x y
def LO(cx:Cx)(g:TypeId->List SV->List SV->Option BT)(xs ys:List SV):List (Nat×TypeId)->Option BT
 | []=>some (.l true)
 |(fo,ft) :: fs =>
  match size? cx ft with
  |some m=>match g ft (takeN m (C4 fo xs)) (takeN m (C4 fo ys)),LO cx g xs ys fs with
   |some a,some b=>some (Vs a b)
   |_,_=>none
  |none=>none
def AY(cx:Cx):Nat->TypeId->List SV->List SV->Option BT
 |0,_,_,_=>none
 |n+1,t,xs,ys =>
  match look t cx.tt with
  |some ⟨.int _,_,_,_⟩=>match xs,ys with
   | [.int k a],[.int k' b]=>if k=k' then some (Pg .eql a b) else none
   |_,_=>none
  |some ⟨.bool,_,_,_⟩=>match xs,ys with
   | [.bool a],[.bool b]=>some (.beq a b)
   |_,_=>none
  |some ⟨.string,_,_,_⟩=>match xs,ys with
   | [.str a],[.str b]=>some (.seq a b)
   |_,_=>none
  |some ⟨.struct fs,_,_,_⟩=>if K6 t cx.eqs then LO cx (AY cx n) xs ys fs else none
  |_=>none
def gj(cx:Cx)(a b:List UInt8):BT :=
 match look 999984 cx.gh with
 |some _=>.l (a==b)
 |none=>.seq a b
def jd:SV->Option BT
 |.sl nl _ _ _=>some nl
 |.dQ nl _ _ _ _=>some nl
 |.bV nl _ _=>some nl
 |.cP nl _ _ _=>some nl
 |_=>none
def LS(op:BinOp)(b:BT)(K:Out->Prop):Prop :=
 match op with
 |.eql=>out K (.bool b)
 |.neq=>out K (.bool (AZ b))
 |_=>False
def Amb:SV->Option BT
 |.rU b=>some b
 |.raw .nilIface=>some (.l true)
 |_=>none
def Ym(cx:Cx)(op:BinOp)(t:TypeId)(x:SV)(y:Operand)(K:Out->Prop):Prop :=
 match y,Amb x,look t cx.tt with
 |.const .nilIface,some b,some ⟨.iface,_,_,_⟩=>LS op b K
 |_,_,_=>False
def Yn(cx:Cx)(gm:List BT)(T:List Nat)(op:BinOp)(t:TypeId)(x y:SV)(K:Out->Prop):Prop :=
 match x,y with
 |.int k a,.int k' b =>
  if arith op then (if k=k' then out K (.int k (LR op k a b)) else False)
  else if Al7 op then (if k=k' then out K (.bool (Pg op a b)) else False)
  else match op with
   |.quo|.rem=>if k=k' then Ob cx.D gm T (NZ (cx.D.i b))/\out K (.int k (.bin op k a b)) else False
   |.shl|.shr=>Ob cx.D gm T (NN (cx.D.i b))/\out K (.int k (.bin op k a b))
   |_=>False
 |.bool a,.bool b =>
  match op,look t cx.tt with
  |.eql,some ⟨.bool,_,_,_⟩=>out K (.bool (.beq a b))
  |.neq,some ⟨.bool,_,_,_⟩=>out K (.bool (.not (.beq a b)))
  |_,_=>False
 |.str a,.str b =>
  match op with
  |.add=>Ob cx.D gm T (AD a b)/\z8 a b λr=>out K (.str r)
  |.eql=>out K (.bool (gj cx a b))
  |.neq=>out K (.bool (AZ (gj cx a b)))
  |_=>False
 |.agg a,.agg b =>
  match op,K6 t cx.eqs&&cH cx t,AY cx 8 t a b with
  |.eql,true,some c=>out K (.bool c)
  |.neq,true,some c=>out K (.bool (AZ c))
  |_,_,_=>False
 |x,.sl (.l true) (.l 0) 0 _ =>
  match jd x,look t cx.tt with
  |some nl,some ⟨.slice _,_,_,_⟩=>LS op nl K
  |_,_=>False
 |_,_=>False
def An:SV->Bool
 |.ptr .. | .dQ .. | .dG .. | .cS .. | .eZ .. | .gI .. | .bV .. | .cK .. | .bP .. | .iZ .. | .yv .. | .cP .. | .jP ..=>false
 |.agg cs=>gL cs
 |.aJ cs=>gL cs
 |_=>true
 where gL:List SV->Bool
 | []=>true
 |c :: cs=>An c&&gL cs
def Xd:Hl->Bool
 |.aG .. | .mN ..=>true
 |_=>false
def MN:Hl->Bool
 |.own ..=>true
 |_=>false
def Kp(hp:List Hl):List SV->Nat->Option (List SV×List Nat×List Hl)
 | [],_=>some ([],[],[])
 |.ptr h off :: vs,n=>match nth hp h,Kp hp vs (n+1) with
  |some l,some (as,hs,ls)=>if Xd l&&!K6 h hs then some (.ptr n off :: as,h :: hs,l :: ls) else none
  |_,_=>none
 |v :: vs,n=>match An v,Kp hp vs n with
  |true,some (as,hs,ls)=>some (v :: as,hs,ls)
  |_,_=>none
def Zz:List Nat->List Nat->Bool
 | [],_=>true
 |x :: l,t=>!K6 x t&&Zz l t
def Fu(hp:List Hl):List SV->Nat->Option (List SV×List Nat×List Hl)
 | [],_=>some ([],[],[])
 |.ptr h off :: vs,n=>match nth hp h,Fu hp vs (n+1) with
  |some l,some (as,hs,ls)=>if Xd l&&!K6 h hs then some (.ptr n off :: as,h :: hs,l :: ls) else none
  |_,_=>none
 |.bV nl m h :: vs,n=>match nth hp h,Fu hp vs (n+1) with
  |some l,some (as,hs,ls)=>if MN l&&!K6 h hs then some (.bV nl m n :: as,h :: hs,l :: ls) else none
  |_,_=>none
 |.eZ f cs :: vs,n=>match Kp hp cs n with
  |some (as1,cA,BN)=>match Fu hp vs (n+Ah cA) with
   |some (as,hs,ls)=>if Zz cA hs then some (.eZ f as1 :: as,cA++hs,BN++ls) else none
   |none=>none
  |none=>none
 |v :: vs,n=>match An v,Fu hp vs n with
  |true,some (as,hs,ls)=>some (v :: as,hs,ls)
  |_,_=>none
def D8:List Nat->List Hl->List Ef
 |h :: hs,l :: ls=>.put h l :: D8 hs ls
 |_,_=>[]
def G9:List Hl->Bool
 | []=>true
 |.aG _ cs :: ls=>An (.agg cs)&&G9 ls
 |.own .. :: ls=>G9 ls
 |.mN .. :: ls=>G9 ls
 |.gone :: ls=>G9 ls
 |_ :: _=>false
def cN(D:Dn):List Hl->List Hl
 | []=>[]
 |.aG ty cs :: ls=>.aG ty (aH (norm.aM D cs)) :: cN D ls
 |.own ty n sz gr f :: ls=>.own ty (.a (D.i n)) sz gr f :: cN D ls
 |l :: ls=>l :: cN D ls
 where aH:=loose.aH
def H6(m m':Nat):SV->Bool
 |.bV _ _ h=>Nat.ble m h&&Nat.blt h m'
 |.aJ vs=>zT m m' vs
 |v=>An v
 where zT (m m':Nat):List SV->Bool
 | []=>true
 |c :: cs=>H6 m m' c&&zT m m' cs
def ik(m a:Nat):SV->SV
 |.bV nl n h=>.bV nl n (h-m+a)
 |.aJ vs=>.aJ (MW m a vs)
 |v=>v
 where MW (m a:Nat):List SV->List SV
 | []=>[]
 |c :: cs=>ik m a c :: MW m a cs
def E7:Nat->List Hl->List Ef
 |_,[]=>[]
 |a,l :: ls=>.put a l :: E7 (a+1) ls
structure SLe(r:List UInt8)(n:Int):Prop where
 h:(r.length:Int)<=n\/r=[]
def Sq(cx:Cx)(σ:Sy)(T:List Nat)(e:TypeId)(n:ST)(f:Nat->List SV)(K:Out->Prop):Prop :=
 match T,look e cx.tt with
 | [],some ⟨.int .u8,_,_,_⟩=>Fv (cx.D.i n) f/\Afp (cx.D.i n) f λr=>out K (.str r)
 |T,some ⟨.int .u8,_,_,_⟩=>Ob cx.D σ.gm T (Fv (cx.D.i n) f)/\∀r,SLe r (cx.D.i n)->Ob cx.D σ.gm T (Kr r (cx.D.i n) f)->out K (.str r)
 |_,_=>False
def iA:SV->List Nat
 |.ptr h _=>[h]
 |.dQ _ _ _ _ h=>[h]
 |.bV _ _ h=>[h]
 |.cK _ h _ _=>[h]
 |.bP h=>[h]
 |.iZ _ h=>[h]
 |.cP _ _ _ h=>[h]
 |.jP _ _ h=>[h]
 |.yv h=>[h]
 |.agg cs=>tS cs
 |.aJ cs=>tS cs
 |.eZ _ cs=>tS cs
 |.gI _ cs=>tS cs
 |_=>[]
 where tS:List SV->List Nat
 | []=>[]
 |c :: cs=>iA c++tS cs
def BW:List (Nat×Option SV)->List Nat
 | []=>[]
 |(_,some v) :: l=>iA v++BW l
 |(_,none) :: l=>BW l
def ax:Hl->List Nat
 |.aG _ cs=>iA.tS cs
 |.bO _ fr _ _=>BW fr
 |_=>[]
def nE(ρ:Nat->Nat):SV->SV
 |.ptr h o=>.ptr (ρ h) o
 |.dQ nl n sz f h=>.dQ nl n sz f (ρ h)
 |.bV nl n h=>.bV nl n (ρ h)
 |.cK n h j o=>.cK n (ρ h) j o
 |.bP h=>.bP (ρ h)
 |.iZ n h=>.iZ n (ρ h)
 |.cP nl n g h=>.cP nl n g (ρ h)
 |.jP n a h=>.jP n a (ρ h)
 |.yv h=>.yv (ρ h)
 |.agg cs=>.agg (xQ ρ cs)
 |.aJ cs=>.aJ (xQ ρ cs)
 |.eZ f cs=>.eZ f (xQ ρ cs)
 |.gI f cs=>.gI f (xQ ρ cs)
 |v=>v
 where xQ (ρ:Nat->Nat):List SV->List SV
 | []=>[]
 |c :: cs=>nE ρ c :: xQ ρ cs
def vb(ρ:Nat->Nat):List (Nat×Option SV)->List (Nat×Option SV)
 | []=>[]
 |(s,some v) :: l=>(s,some (nE ρ v)) :: vb ρ l
 |(s,none) :: l=>(s,none) :: vb ρ l
def mA(ρ:Nat->Nat):Hl->Hl
 |.aG ty cs=>.aG ty (nE.xQ ρ cs)
 |.bO c fr st pd=>.bO c (vb ρ fr) st pd
 |l=>l
def Cb:SV->Bool
 |.dG _=>false
 |.cS ..=>false
 |.agg cs=>dC cs
 |.aJ cs=>dC cs
 |.eZ _ cs=>dC cs
 |.gI _ cs=>dC cs
 |_=>true
 where dC:List SV->Bool
 | []=>true
 |c :: cs=>Cb c&&dC cs
def Jc:List (Nat×Option SV)->Bool
 | []=>true
 |(_,some v) :: l=>Cb v&&Jc l
 |(_,none) :: l=>Jc l
def Dc:Hl->Bool
 |.aG _ cs=>Cb.dC cs
 |.bO _ fr _ _=>Jc fr
 |.tail ..=>true
 |.own ..=>true
 |.mN ..=>true
 |.cZ ..=>true
 |.vec ..=>true
 |.gone=>true
 |_=>false
def pC(D:Dn):Hl->Hl
 |.aG ty cs=>.aG ty (norm.aM D cs)
 |.tail ty n sz=>.tail ty (.a (D.i n)) sz
 |.own ty n sz gr f=>.own ty (.a (D.i n)) sz gr f
 |.vec ty n g sz f=>.vec ty (.a (D.i n)) (.a (D.i g)) sz f
 |l=>l
def L9:List Nat->List Nat->List Nat
 |acc,[]=>acc
 |acc,h :: t=>L9 (if K6 h acc then acc else acc++[h]) t
def rl(hp:List Hl)(acc:List Nat):List Nat->List Nat
 | []=>acc
 |h :: t=>rl hp (match nth hp h with|some l=>L9 acc (ax l)|none=>acc) t
def reach(hp:List Hl):List Hl->List Nat->List Nat
 | [],acc=>acc
 |_ :: t,acc=>reach hp t (rl hp acc acc)
def H7:List Nat->Nat->Nat
 | [],_=>0
 |x :: l,h=>if x==h then 0 else H7 l h+1
def Vt(t:List Nat):List Nat->Bool
 | []=>true
 |x :: l=>K6 x t&&Vt t l
def P0:List Nat->Bool
 | []=>true
 |x :: l=>!K6 x l&&P0 l
def tx(n:Nat):List Nat->Bool
 | []=>true
 |x :: l=>Nat.blt x n&&tx n l
def Ux(D:Dn)(hp:List Hl):List Nat->List Hl
 | []=>[]
 |h :: t=>(match nth hp h with|some l=>pC D l|none=>.gone) :: Ux D hp t
def We(g:Hl->Hl):List Hl->List Hl
 | []=>[]
 |l :: ls=>g l :: We g ls
def Mk(hs:List Nat):List Hl->Bool
 | []=>true
 |l :: ls=>Dc l&&Vt hs (ax l)&&Mk hs ls
def LU(n:Nat):List Hl->Bool
 | []=>true
 |l :: ls=>Dc l&&tx n (ax l)&&LU n ls
def Cp(hs:List Nat)(m M i:Nat):Nat:=if Nat.blt i m then (match nth hs i with|some k=>k|none=>0) else M+(i-m)
def F9(cx:Cx)(σ:Sy)(_T:List Nat)(ue:List SV)(sp:aB)(K:Out->Prop):Prop :=
 match loose.aH (norm.aM cx.D ue) with
 |vs =>
  match reach σ.hp σ.hp (L9 [] (iA.tS vs)) with
  |hs =>
   match Ux cx.D σ.hp hs with
   |ls =>
    if P0 hs&&Vt hs (iA.tS vs)&&Cb.dC vs&&tx (Ah σ.hp) hs&&Mk hs ls then
     sp cx.D (nE.xQ (H7 hs) vs) (We (mA (H7 hs)) ls) λr aK =>
      (Nat.ble (Ah hs) (Ah aK)&&Cb r&&tx (Ah aK) (iA r)&&LU (Ah aK) aK)=true/\
      K ⟨nE (Cp hs (Ah hs) (Ah σ.hp)) r,D8 hs (We (mA (Cp hs (Ah hs) (Ah σ.hp))) (takeN (Ah hs) aK))++E7 (Ah σ.hp) (We (mA (Cp hs (Ah hs) (Ah σ.hp))) (C4 (Ah hs) aK)),hs,[]⟩
    else False
def I6(cx:Cx)(σ:Sy)(T:List Nat)(f:FuncId)(vs:List SV)(K:Out->Prop):Prop :=
 match look (f+1000000) cx.eD with
 |some sp=>F9 cx σ T vs sp K
 |none =>
 match look f cx.eD,Fu σ.hp (loose.aH (norm.aM cx.D vs)) 0 with
 |some sp,some (as,hs,ls) =>
  if G9 (cN cx.D ls)&&Nat.blt f 1000000 then
   sp cx.D as (cN cx.D ls) λr aK=>H6 (Ah ls) (Ah aK) r=true/\G9 aK=true/\Nat.ble (Ah ls) (Ah aK)=true/\
    K ⟨ik (Ah ls) (Ah σ.hp) r,D8 hs (takeN (Ah ls) aK)++E7 (Ah σ.hp) (C4 (Ah ls) aK),hs,[]⟩
  else False
 |_,_=>False
def Om:List (Nat×SV)->Bool
 | []=>true
 |p :: ps=>Ej p.2.cells&&Om ps
def Tg(cx:Cx)(σ:Sy)(T:List Nat)(ty:TypeId)(x:Operand)(K:Out->Prop):Prop :=
 match x with
 |.const (.slice none 0 0) =>
  match look ty cx.tt with
  |some ⟨.slice e,_,_,_⟩=>match size? cx e with
   |some n=>out K (.sl (.l true) (.l 0) n λ_=>[])
   |none=>False
  |_=>False
 |x=>ua K (rd cx σ T x)
def rowOf(sz:Nat):SV->Option (ST×(Nat->List SV))
 |.sl _ m cD g=>if cD==sz then some (m,g) else none
 |.dQ _ m cD g _=>if cD==sz then some (m,g) else none
 |_=>none
def Vp(cx:Cx)(σ:Sy)(base src:SV)(e sz bytes:Nat)(K:Out->Prop):Prop :=
 match rowOf sz src with
 |some (m,g) =>
  match base with
  |.sl (.l true) (.l 0) _ _ =>
   AR (cx.D.i m) bytes/\zx (cx.D.i m) g λf' n' =>
    K ⟨.dQ (Pg .eql m (.l 0)) (.a n') sz f' (Ah σ.hp),[.put (Ah σ.hp) (.tail e (.a n') sz)],[],[]⟩
  |.dQ nl n cD f h =>
   match nth σ.hp h with
   |some (.tail e' n0 lT) =>
    if cD==sz&&lT==sz&&e'==e then
     Z4 (cx.D.i n) (cx.D.i n0) (cx.D.i m) bytes/\S2 (cx.D.i n) (cx.D.i m) f g λf' n'=>K ⟨.dQ (Vs nl (Pg .eql m (.l 0))) (.a n') sz f' h,[.put h (.tail e (.a n') sz)],[h],[]⟩
    else False
   |_=>False
  |.bV nl n h =>
   match nth σ.hp h with
   |some (.own e' n0 lT gr f) =>
    if lT==sz&&e'==e then
     Z4 (cx.D.i n) (cx.D.i n0) (cx.D.i m) bytes/\S2 (cx.D.i n) (cx.D.i m) f g λf' n'=>K ⟨.bV (Vs nl (Pg .eql m (.l 0))) (.a n') h,[.put h (.own e (.a n') sz gr f')],[h],[]⟩
    else False
   |_=>False
  |.cP nl n g0 h =>
   match nth σ.hp h with
   |some (.vec e' n0 g1 lT f) =>
    if lT==sz&&e'==e then
     Z4 (cx.D.i n) (cx.D.i n0) (cx.D.i m) bytes/\nW (cx.D.i g0) (cx.D.i g1)/\S2 (cx.D.i n) (cx.D.i m) f g λf' n'=>Z1 (cx.D.i g0) λg'=>K ⟨.cP (Vs nl (Pg .eql m (.l 0))) (.a n') (.a g') h,[.put h (.vec e (.a n') (.a g') sz f')],[h],[]⟩
    else False
   |_=>False
  |_=>False
 |none=>False
def Qw(cx:Cx)(σ:Sy)(b s:SV)(t' e:Nat)(te:TI)(K:Out->Prop):Prop :=
 match b,s,look t' cx.tt with
 |.bV nl n h,.str x,some ⟨.string,_,_,_⟩ =>
  match nth σ.hp h with
  |some (.own e' n0 sz gr f)=>if e'==e&&te.size==1&&sz==1 then
    Z4 (cx.D.i n) (cx.D.i n0) (cx.D.i (.len x)) te.bytes/\S2 (cx.D.i n) (cx.D.i (.len x)) f (aU x) λf' n'=>K ⟨.bV (Vs nl (Pg .eql (.len x) (.l 0))) (.a n') h,[.put h (.own e (.a n') 1 gr f')],[h],[]⟩
   else False
  |_=>False
 |_,_,_=>False
def chunks(sz:Nat):Nat->List SV->List (List SV)
 |0,_=>[]
 |n+1,cs=>takeN sz cs :: chunks sz n (C4 sz cs)
structure Afr(cs:List SV):Prop where
 PT:Ej cs=true
 plain:An.gL cs=true
structure AA(f:Nat->List SV)(n sz:Nat)(cs:List SV):Prop where
 h:Rx f (chunks sz n cs)
def Am(cx:Cx)(σ:Sy)(T:List Nat)(t:TypeId)(len:Nat)(ps:List (Nat×Operand))(K:Out->Prop):Prop :=
 match look t cx.tt,Gk cx σ T ps with
 |some ⟨.slice e,_,_,_⟩,some vs =>
  match look e cx.tt with
  |some te =>
   match Om vs,eM te.size (kR len te.zero) vs with
   |true,some cs =>
    if (look 999984 cx.gh).isSome&&Nat.blt 0 te.size&&Nat.ble (len * te.size) 16777216 then
     K ⟨.iZ len (Ah σ.hp),[.put (Ah σ.hp) (.aG e (loose.aH (norm.aM cx.D cs)))],[],[]⟩
    else if An (.agg (loose.aH (norm.aM cx.D cs)))&&Nat.blt 0 te.size&&Nat.ble (len * te.size) 16777216 then
     Am9 (chunks te.size len (loose.aH (norm.aM cx.D cs))) λf=>match (if (look (7000000+e) cx.gh).isSome then none else look 999985 cx.gh) with
      |some _=>K ⟨.bV (.l false) (.l len) (Ah σ.hp),[.put (Ah σ.hp) (.own e (.l len) te.size true f)],[],[]⟩
      |none=>K ⟨.dQ (.l false) (.l len) te.size f (Ah σ.hp),[.put (Ah σ.hp) (.tail e (.l len) te.size)],[],[]⟩
    else False
   |_,_=>False
  |none=>False
 |_,_=>False
 where
 kR:Nat->List SV->List SV
  |0,_=>[]
  |n+1,z=>z++kR n z
 eM (sz:Nat) (cs:List SV):List (Nat×SV)->Option (List SV)
  | []=>some cs
  |(i,v) :: ps=>if Ah v.cells==sz&&Nat.ble (i * sz+sz) (Ah cs) then eM sz (C9 cs (i * sz) v.cells) ps else none
def It:Operand->Operand->Bool
 |.tmp i,.tmp j=>i==j
 |_,_=>false
def Th(cx:Cx)(σ:Sy)(T:List Nat)(t:TypeId)(len cap:SV)(same:Bool)(K:Out->Prop):Prop :=
 match T,look t cx.tt with
 | [],some ⟨.slice e,_,_,_⟩ =>
  match look e cx.tt,len,cap with
  |some te,.int .i64 (.l 0),.int _ c =>
   if Nat.blt 0 te.size then
    tp (cx.D.i c) te.bytes/\K ⟨.dQ (.l false) (.l 0) te.size (λ_=>[]) (Ah σ.hp),[.put (Ah σ.hp) (.tail e (.l 0) te.size)],[],[]⟩
   else False
  |some te,.int _ n,.int _ _ =>
   if same&&Nat.blt 0 te.size then
    tp (cx.D.i n) te.bytes/\K ⟨.dG (Ah σ.hp),[.put (Ah σ.hp) (.row e (.a (cx.D.i n)) te.size λ_=>te.zero)],[],[]⟩
   else False
  |_,_,_=>False
 |_,_=>False
def Ti(cx:Cx)(σ:Sy)(T:List Nat)(t:TypeId)(dst src:SV)(K:Out->Prop):Prop :=
 match T,look t cx.tt,dst with
 | [],some ⟨.slice e,_,_,_⟩,.dG h =>
  match nth σ.hp h,size? cx e with
  |some (.row ty n sz f),some lT =>
   match rowOf sz src,lT==sz with
   |some (m,g),true =>
    oh (cx.D.i m) (cx.D.i n) g f λf' r =>
     K ⟨.int .i64 (.a r),[.put h (.row ty n sz f')],[h],[]⟩
   |_,_=>False
  |_,_=>False
 |_,_,_=>False
def Ei(cx:Cx)(σ:Sy)(T:List Nat):Option Operand->Option (Option SV)
 |none=>some none
 |some x=>match rd cx σ T x with
  |some v=>some (some v)
  |none=>none
def Hj(d:ST):Option SV->Option ST
 |none=>some d
 |some (.int _ a)=>some a
 |_=>none
def I5(cx:Cx)(σ:Sy)(T:List Nat)(t:TypeId)(x:SV)(lo hi:Option SV)(K:Out->Prop):Prop :=
 match Hj (.l 0) lo with
 |some a =>
  match x,look t cx.tt with
  |.sl nl n sz f,some ⟨.slice e,_,_,_⟩=>wE nl n sz f e a
  |.dQ nl n sz f _,some ⟨.slice e,_,_,_⟩=>wE nl n sz f e a
  |.bV nl n h,some ⟨.slice e,_,_,_⟩ =>
   match T,nth σ.hp h,lo,hi with
   | [],some (.own e' n0 sz _ f),none,some (.int _ b) =>
    if e'==e&&(look e cx.tt).isSome then
     nW (cx.D.i n) (cx.D.i n0)/\oo 0 (cx.D.i b) (cx.D.i n)/\K ⟨.sl nl (.a (cx.D.i b)) sz f,[.put h .gone],[h],[]⟩
    else False
   | [],some (.own _ n0 sz _ _),some (.int _ b),none =>
    if size? cx e=some sz then
     nW (cx.D.i n) (cx.D.i n0)/\oo (cx.D.i b) (cx.D.i n) (cx.D.i n)/\K ⟨.jP n b h,[],[h],[]⟩
    else False
   |_,_,_,_=>False
  |.cP nl n g0 h,some ⟨.slice e,_,_,_⟩ =>
   match T,nth σ.hp h,lo,hi with
   | [],some (.vec e' n0 g1 sz f),none,some (.int _ b) =>
    if e'==e&&(look e cx.tt).isSome then
     nW (cx.D.i n) (cx.D.i n0)/\nW (cx.D.i g0) (cx.D.i g1)/\oo 0 (cx.D.i b) (cx.D.i n)/\Z1 (cx.D.i g0) λg'=>K ⟨.cP nl (.a (cx.D.i b)) (.a g') h,[.put h (.vec e (.a (cx.D.i b)) (.a g') sz f)],[h],[]⟩
    else False
   |_,_,_,_=>False
  |.str s,some ⟨.string,_,_,_⟩ =>
   match Hj (.len s) hi with
   |some b=>Ob cx.D σ.gm T (KN (cx.D.i a) (cx.D.i b) s)/\og s (cx.D.i a) (cx.D.i b) λr=>out K (.str r)
   |none=>False
  |_,_=>False
 |none=>False
 where wE (nl:BT) (n:ST) (sz:Nat) (f:Nat->List SV) (e:TypeId) (a:ST):Prop :=
 match Hj n hi with
 |some b =>
  if size? cx e=some sz then
   Ob cx.D σ.gm T (oo (cx.D.i a) (cx.D.i b) (cx.D.i n))/\zw f (cx.D.i a) (cx.D.i b) λf' n'=>out K (.sl nl (.a n') sz f')
  else False
 |none=>False
def Ad1(i:Int)(F:Nat->Prop):Nat->Nat->Prop
 |0,_=>True
 |n+1,j=>(AI j i->F j)/\Ad1 i F n (j+1)
def RG(cx:Cx)(i:ST):ST :=
 match look 999989 cx.gh with
 |some _=>(match i with
  |.a n=>.l n
  |.cv k (.a n)=>.l (k.wrap n)
  |i=>i)
 |none=>i
def Hk(cx:Cx)(T:List Nat)(h off n sz:Nat)(i:ST)(K:Out->Prop):Prop :=
 match RG cx i with
 |.l (.ofNat k)=>if Nat.blt k n then out K (.ptr h (off+k * sz)) else False
 |_=>match T with
  | []=>fc (cx.D.i i) n/\Ad1 (cx.D.i i) (λj=>out K (.ptr h (off+j * sz))) n 0
  |_=>False
def ML(n:Int):List (Int×SV)->Bool
 | []=>true
 |(k,_) :: es=>!(k==n)&&ML n es
def Uo:List (Int×SV)->List Int
 | []=>[]
 |(k,_) :: es=>k :: Uo es
structure OE(i:Int)(ks:List Int):Prop where
 h:i∈ks
structure IsK(k i:Int):Prop where
 h:i=k
def Yo(i:Int)(F:SV->Prop):List (Int×SV)->Prop
 | []=>True
 |(k,v) :: es=>(IsK k i->F v)/\Yo i F es
def Aew:Option Operand->Bool
 |none=>true
 |some (.const (.int .i64 _))=>true
 |_=>false
def Ady(cx:Cx)(σ:Sy)(T:List Nat)(o:Oper)(K:Out->Prop):Prop :=
 match o.op with
 |.move x|.assign x=>Tg cx σ T o.type x K
 |.alloc e =>
  match T,look e cx.tt with
  | [],some ti=>match look (3000000+o.dst.getD 0) cx.gh with
   |some _=>match ti.k with
    |.array n el=>match size? cx el with
     |some (cD+1)=>if (n * (cD+1))==ti.size&&Nat.ble n 1000000 then ∃f,AA f n (cD+1) ti.zero/\K ⟨.ptr (Ah σ.hp) 0,[.put (Ah σ.hp) (.row e (.l n) (cD+1) f)],[],[]⟩ else False
     |_=>False
    |_=>False
   |none=>K ⟨.ptr (Ah σ.hp) 0,[.put (Ah σ.hp) (.aG e ti.zero)],[],[]⟩
  |_,_=>False
 |.box e x =>
  match T,look e cx.tt,rd cx σ T x with
  | [],some ti,some v=>if Ah v.cells==ti.size&&Ej v.cells then K ⟨.ptr (Ah σ.hp) 0,[.put (Ah σ.hp) (.aG e v.cells)],[],[]⟩ else False
  |_,_,_=>False
 |.build t ps =>
  match look t cx.tt,Gk cx σ T ps.toList with
  |some ti,some vs=>match Om vs,Rm cx t ti.zero vs,ti.k with
   |true,some cs,.struct _=>out K (.agg cs)
   |true,some cs,.array _ e=>match size? cx e with
    |some _=>out K (.agg cs)
    |none=>False
   |_,_,_=>False
  |_,_=>False
 |.load t a =>
  match rd cx σ T a,size? cx t with
  |some (.ptr h off),some n =>
   match nth σ.hp h with
   |some (.aG _ cs)=>if Nat.ble (off+n) (Ah cs) then
     match pack (cH cx t) (takeN n (C4 off cs)) with
     |some v=>K ⟨v,[],[],[(h,off,n)]⟩
     |none=>False
    else False
   |some (.row _ m sz f)=>match T,off,look t cx.tt with
    | [],0,some ⟨.array n' el,cD,_,_⟩=>if size? cx el=some sz/\n' * sz=cD then nW (cx.D.i m) n'/\∃cs,Flat f (cx.D.i m) sz cs/\K ⟨.agg cs,[],[h],[]⟩ else False
    |_,_,_=>False
   |_=>False
  |some (.dK cs),some n=>if Nat.ble n (Ah cs) then ua K (pack (cH cx t) (takeN n cs)) else False
  |some (.cS h j off),some n =>
   match nth σ.hp h with
   |some (.row _ m _sz f)=>Ob cx.D σ.gm T (tq j (cx.D.i m))/\
    if Nat.ble (off+n) (Ah (f j)) then
     match pack (cH cx t) (takeN n (C4 off (f j))) with
     |some v=>K ⟨v,[],[h],[]⟩
     |none=>False
    else False
   |_=>False
  |some (.cK m' h j off),some n =>
   match nth σ.hp h with
   |some (.own _ m _sz _ f)=>Ob cx.D σ.gm T (nW (cx.D.i m') (cx.D.i m))/\Ob cx.D σ.gm T (tq j (cx.D.i m))/\
    if Nat.ble (off+n) (Ah (f j)) then
     match pack (cH cx t) (takeN n (C4 off (f j))) with
     |some v=>K ⟨v,[],[h],[]⟩
     |none=>False
    else False
   |_=>False
  |_,_=>False
 |.store t a x =>
  match T,rd cx σ T a,dx cx σ T t x,size? cx t with
  | [],some (.ptr h off),some v,some n =>
   match nth σ.hp h with
   |some (.aG _ cs)=>if Ah v.cells==n&&Nat.ble (off+n) (Ah cs)&&Ej v.cells then K ⟨.aJ [],[.set h off v.cells],[],[]⟩ else False
   |some (.row ty m sz _)=>match off,v,look t cx.tt with
    |0,.agg cs,some ⟨.array n' el,cD,_,_⟩=>if size? cx el=some sz/\n' * sz=cD then nW (cx.D.i m) n'/\Afr cs/\∃f',Flat f' (cx.D.i m) sz cs/\K ⟨.aJ [],[.put h (.row ty m sz f')],[h],[]⟩ else False
    |_,_,_=>False
   |_=>False
  | [],some (.cS h j off),some v,some n =>
   match nth σ.hp h with
   |some (.row ty m sz f)=>tq j (cx.D.i m)/\
    if Ah v.cells==n&&Nat.ble (off+n) (Ah (f j))&&Ej v.cells&&An (.agg (loose.aH (norm.aM cx.D v.cells))) then
     Z0 f j (C9 (f j) off (loose.aH (norm.aM cx.D v.cells))) λf'=>K ⟨.aJ [],[.put h (.row ty m sz f')],[h],[]⟩
    else False
   |_=>False
  | [],some (.cK m' h j off),some v,some n =>
   match nth σ.hp h with
   |some (.own ty m sz gr f)=>nW (cx.D.i m') (cx.D.i m)/\tq j (cx.D.i m)/\
    if Ah v.cells==n&&Nat.ble (off+n) (Ah (f j))&&Ej v.cells&&An (.agg (loose.aH (norm.aM cx.D v.cells))) then
     Z0 f j (C9 (f j) off (loose.aH (norm.aM cx.D v.cells))) λf'=>K ⟨.aJ [],[.put h (.own ty m sz gr f')],[h],[]⟩
    else False
   |_=>False
  |_,_,_,_=>False
 |.fieldAddr t x i =>
  match rd cx σ T x,fZ cx t i with
  |some (.ptr h off),some (fo,ft)=>match size? cx ft with
   |some (_+1)=>out K (.ptr h (off+fo))
   |_=>False
  |some (.dK cs),some (fo,ft)=>match size? cx ft with
   |some (m+1)=>if Nat.ble (fo+(m+1)) (Ah cs) then out K (.dK (takeN (m+1) (C4 fo cs))) else False
   |_=>False
  |some (.cS h j off),some (fo,ft)=>match size? cx ft with
   |some (_+1)=>out K (.cS h j (off+fo))
   |_=>False
  |some (.cK n h j off),some (fo,ft)=>match size? cx ft with
   |some (_+1)=>out K (.cK n h j (off+fo))
   |_=>False
  |_,_=>False
 |.nilCheck x =>
  match rd cx σ T x with
  |some (.ptr h off)=>out K (.ptr h off)
  |some (.dK cs)=>out K (.dK cs)
  |some (.cS h j off)=>out K (.cS h j off)
  |some (.cK n h j off)=>out K (.cK n h j off)
  |some (.dT n sz f)=>out K (.dT n sz f)
  |_=>False
 |.field t x i =>
  match rd cx σ T x,fZ cx t i with
  |some (.agg cs),some (fo,ft)=>match size? cx ft with
   |some m=>if Nat.ble (fo+m) (Ah cs) then ua K (pack (cH cx ft) (takeN m (C4 fo cs))) else False
   |_=>False
  |_,_=>False
 |.indexAddr t x ix =>
  match rd cx σ T x,rd cx σ T ix,look t cx.tt with
  |some (.sl _ n sz f),some (.int _ i),some ⟨.slice e,_,_,_⟩ =>
   if size? cx e=some sz then
    Ob cx.D σ.gm T (fc (cx.D.i i) (cx.D.i n))/\qJ cx.D σ.gm T (cx.D.i i) λj=>out K (.dK (f j))
   else False
  |some (.dQ _ n sz f _),some (.int _ i),some ⟨.slice e,_,_,_⟩ =>
   if size? cx e=some sz then
    Ob cx.D σ.gm T (fc (cx.D.i i) (cx.D.i n))/\qJ cx.D σ.gm T (cx.D.i i) λj=>out K (.dK (f j))
   else False
  |some (.dG h),some (.int _ i),some ⟨.slice e,_,_,_⟩ =>
   match nth σ.hp h with
   |some (.row _ n sz _) =>
    if size? cx e=some sz then
     Ob cx.D σ.gm T (fc (cx.D.i i) (cx.D.i n))/\qJ cx.D σ.gm T (cx.D.i i) λj=>K ⟨.cS h j 0,[],[h],[]⟩
    else False
   |_=>False
  |some (.bV _ m h),some (.int _ i),some ⟨.slice e,_,_,_⟩ =>
   match nth σ.hp h with
   |some (.own _ n sz _ _) =>
    if size? cx e=some sz then
     Ob cx.D σ.gm T (nW (cx.D.i m) (cx.D.i n))/\Ob cx.D σ.gm T (fc (cx.D.i i) (cx.D.i n))/\qJ cx.D σ.gm T (cx.D.i i) λj=>K ⟨.cK m h j 0,[],[h],[]⟩
    else False
   |_=>False
  |some (.iZ m h),some (.int _ i),some ⟨.slice e,_,_,_⟩ =>
   match size? cx e with
   |some sz=>Hk cx T h 0 m sz i K
   |none=>False
  |some (.ptr h off),some (.int _ i),some ⟨.array n e,_,_,_⟩ =>
   match size? cx e with
   |some sz=>match T,off,nth σ.hp h with
    | [],0,some (.row _ _ cD _)=>if cD==sz then fc (cx.D.i i) n/\qJ cx.D σ.gm [] (cx.D.i i) λj=>K ⟨.cS h j 0,[],[h],[]⟩ else False
    |_,_,_=>Hk cx T h off n sz i K
   |none=>False
  |some (.dT n sz f),some (.int _ i),some ⟨.array n' e,_,_,_⟩ =>
   if size? cx e=some sz/\n=n' then
    Ob cx.D σ.gm T (fc (cx.D.i i) n)/\qJ cx.D σ.gm T (cx.D.i i) λj=>out K (.dK (f j))
   else False
  |_,_,_=>False
 |.makeFunc (.func f) fi cs =>
  match fi.toList,Gt cx σ T cs.toList [] with
  | [],some vs=>out K (.eZ f vs)
  |fs,some []=>match Gt cx σ T fs [] with
   |some us=>out K (.gI f us)
   |none=>False
  |_,_=>False
 |.buildSlice t len ps=>Am cx σ T t len ps.toList K
 |.makeSlice t l c =>
  match rd cx σ T l,rd cx σ T c with
  |some a,some b=>Th cx σ T t a b (It l c) K
  |_,_=>False
 |.slice t x lo hi none =>
  match rd cx σ T x,Ei cx σ T lo,Ei cx σ T hi with
  |some v,some a,some b=>I5 cx σ T t v a b K
  |_,_,_=>False
 |.index t x ix =>
  match rd cx σ T x,rd cx σ T ix,look t cx.tt with
  |some (.str s),some (.int _ i),some ⟨.string,_,_,_⟩ =>
   Ob cx.D σ.gm T (CX (cx.D.i i) s)/\om s (cx.D.i i) λc=>out K (.int .u8 (.a c))
  |some (.agg cs),some (.int _ (.l (.ofNat k))),some ⟨.array n e,_,_,_⟩ =>
   match size? cx e with
   |some sz=>if Nat.blt k n&&Nat.ble (k * sz+sz) (Ah cs) then ua K (pack (cH cx e) (takeN sz (C4 (k * sz) cs))) else False
   |none=>False
  |_,_,_=>False
 |.makeMap t r =>
  match T,look t cx.tt,Aew r with
  | [],some ⟨.map kt _,_,_,_⟩,true=>match look kt cx.tt with
   |some ⟨.string,_,_,_⟩=>K ⟨.bP (Ah σ.hp),[.put (Ah σ.hp) (.cZ λ_=>false)],[],[]⟩
   |some ⟨.int .i64,_,_,_⟩=>K ⟨.bP (Ah σ.hp),[.put (Ah σ.hp) (.iF [])],[],[]⟩
   |_=>False
  |_,_,_=>False
 |.mapUpdate t m k x|.insert t m k x =>
  match T,look t cx.tt,rd cx σ T m,rd cx σ T k,rd cx σ T x with
  | [],some ⟨.map kt vt,_,_,_⟩,some (.bP h),some (.str s),some (.bool b) =>
   match look kt cx.tt,look vt cx.tt,nth σ.hp h with
   |some ⟨.string,_,_,_⟩,some ⟨.bool,_,_,_⟩,some (.cZ F)=>z6 F s (cx.D.b b) λF'=>K ⟨.aJ [],[.put h (.cZ F')],[h],[]⟩
   |_,_,_=>False
  | [],some ⟨.map kt _,_,_,_⟩,some (.bP h),some (.int .i64 (.l n)),some v =>
   match look kt cx.tt,nth σ.hp h with
   |some ⟨.int .i64,_,_,_⟩,some (.iF es)=>if ML n es then K ⟨.aJ [],[.put h (.iF (es++[(n,v)]))],[h],[]⟩ else False
   |_,_=>False
  |_,_,_,_,_=>False
 |.lookup t m k false =>
  match look t cx.tt,rd cx σ T m,rd cx σ T k with
  |some ⟨.map kt vt,_,_,_⟩,some (.bP h),some (.str s) =>
   match look kt cx.tt,look vt cx.tt,nth σ.hp h with
   |some ⟨.string,_,_,_⟩,some ⟨.bool,_,_,[.bool (.l false)]⟩,some (.cZ F)=>K ⟨.bool (.a (F s)),[],[h],[]⟩
   |_,_,_=>False
  |some ⟨.map kt _,_,_,_⟩,some (.bP h),some (.int .i64 n) =>
   match T,look kt cx.tt,nth σ.hp h with
   | [],some ⟨.int .i64,_,_,_⟩,some (.iF es)=>OE (cx.D.i n) (Uo es)/\Yo (cx.D.i n) (λv=>K ⟨v,[],[h],[]⟩) es
   |_,_,_=>False
  |_,_,_=>False
 |.extract x i =>
  match rd cx σ T x with
  |some (.aJ vs)=>ua K (nth vs i)
  |_=>False
 |.unOp op _ x =>
  match op,rd cx σ T x with
  |.not,some (.bool b)=>out K (.bool (AZ b))
  |.neg,some (.int k n)=>out K (.int k (LR .sub k (.l 0) n))
  |_,_=>False
 |.binOp op t x y _ =>
  match rd cx σ T x,rd cx σ T y with
  |some a,some (.raw _)=>Ym cx op t a y K
  |some a,some b=>Yn cx σ.gm T op t a b K
  |_,_=>False
 |.convert src dst x =>
  match rd cx σ T x,look dst cx.tt,look src cx.tt with
  |some (.int _ n),some ⟨.int k,_,_,_⟩,some _=>out K (.int k (.cv k n))
  |some (.str s),some ⟨.slice e,_,_,_⟩,some ⟨.string,_,_,_⟩ =>
   match look e cx.tt with
   |some ⟨.int .u8,_,_,_⟩=>match look 999983 cx.gh with
    |some _=>match T with
     | []=>KP s/\Adk s λf=>K ⟨.bV (.l false) (.len s) (Ah σ.hp),[.put (Ah σ.hp) (.own e (.len s) 1 false f)],[],[]⟩
     |_=>False
    |none=>Ob cx.D σ.gm T (KP s)/\Adk s λf=>out K (.sl (.l false) (.len s) 1 f)
   |_=>False
  |some (.sl _ n 1 f),some ⟨.string,_,_,_⟩,some ⟨.slice e,_,_,_⟩=>Sq cx σ T e n f K
  |some (.dQ _ n 1 f _),some ⟨.string,_,_,_⟩,some ⟨.slice e,_,_,_⟩=>Sq cx σ T e n f K
  |some (.bV (.l false) n h),some ⟨.slice e,_,_,_⟩,some ⟨.slice e',_,_,_⟩ =>
   match T,look e cx.tt,nth σ.hp h with
   | [],some ⟨.int .u8,_,_,_⟩,some (.own ty n0 1 true f)=>if e'==e&&src==dst&&ty==e then
     nW (cx.D.i n) (cx.D.i n0)/\K ⟨.bV (.l false) n h,[.put h (.own e n0 1 false f)],[h],[]⟩ else False
   |_,_,_=>False
  |some (.bV _ n h),some ⟨.string,_,_,_⟩,some ⟨.slice e,_,_,_⟩ =>
   match T,look e cx.tt,nth σ.hp h with
   | [],some ⟨.int .u8,_,_,_⟩,some (.own _ n0 1 _ f)=>nW (cx.D.i n) (cx.D.i n0)/\Fv (cx.D.i n0) f/\Afp (cx.D.i n0) f λr=>K ⟨.str r,[],[h],[]⟩
   |_,_,_=>False
  |some (.cP _ n g h),some ⟨.string,_,_,_⟩,some ⟨.slice e,_,_,_⟩ =>
   match T,look e cx.tt,nth σ.hp h with
   | [],some ⟨.int .u8,_,_,_⟩,some (.vec _ n0 g0 1 f)=>nW (cx.D.i n) (cx.D.i n0)/\nW (cx.D.i g) (cx.D.i g0)/\Fv (cx.D.i n0) f/\Afp (cx.D.i n0) f λr=>K ⟨.str r,[],[h],[]⟩
   |_,_,_=>False
  |_,_,_=>False
 |.call c =>
  match c.callee with
  |.builtin .len =>
   match c.args.toList,c.argTypes.toList with
   | [x],[t] =>
    match rd cx σ T x,look t cx.tt with
    |some (.sl _ n _ _),some ⟨.slice _,_,_,_⟩=>out K (.int .i64 n)
    |some (.dQ _ n _ _ _),some ⟨.slice _,_,_,_⟩=>out K (.int .i64 n)
    |some (.bV _ n _),some ⟨.slice _,_,_,_⟩=>out K (.int .i64 n)
    |some (.cP _ n _ _),some ⟨.slice _,_,_,_⟩=>out K (.int .i64 n)
    |some (.iZ n _),some ⟨.slice _,_,_,_⟩=>out K (.int .i64 (.l n))
    |some (.str s),some ⟨.string,_,_,_⟩=>out K (.int .i64 (.len s))
    |some (.dG h),some ⟨.slice _,_,_,_⟩=>match nth σ.hp h with
     |some (.row _ n _ _)=>K ⟨.int .i64 n,[],[h],[]⟩
     |_=>False
    |_,_=>False
   |_,_=>False
  |.builtin .append =>
   match T,c.args.toList,c.argTypes.toList with
   | [],[x,y],[t,t'] =>
    match rd cx σ T x,rd cx σ T y,look t cx.tt with
    |some b,some s,some ⟨.slice e,_,_,_⟩ =>
     match look e cx.tt with
     |some te=>if t==t'&&Nat.blt 0 te.size then Vp cx σ b s e te.size te.bytes K else Qw cx σ b s t' e te K
     |none=>False
    |_,_,_=>False
   |_,_,_=>False
  |.builtin .clear =>
   match T,c.args.toList,c.argTypes.toList with
   | [],[x],[t] =>
    match rd cx σ T x,look t cx.tt with
    |some (.jP n a h),some ⟨.slice e,_,_,_⟩ =>
     match nth σ.hp h,look e cx.tt with
     |some (.own e' n0 sz gr f),some te =>
      if e'==e&&te.size==sz&&An (.agg te.zero) then
       nW (cx.D.i n) (cx.D.i n0)/\z7 f (cx.D.i a) te.zero λf'=>K ⟨.aJ [],[.put h (.own e n0 sz gr f')],[h],[]⟩
      else False
     |_,_=>False
    |_,_=>False
   |_,_,_=>False
  |.builtin .copy =>
   match c.args.toList,c.argTypes.toList with
   | [x,y],[t,_] =>
    match rd cx σ T x,rd cx σ T y with
    |some d,some s=>Ti cx σ T t d s K
    |_,_=>False
   |_,_=>False
  |.builtin .max =>
   match c.args.toList with
   | [x,y] =>
    match rd cx σ T x,rd cx σ T y with
    |some (.int k a),some (.int k' b)=>if k=k' then z1 (cx.D.i a) (cx.D.i b) λr=>out K (.int k (.a r)) else False
    |_,_=>False
   |_=>False
  |.builtin .min =>
   match c.args.toList with
   | [x,y] =>
    match rd cx σ T x,rd cx σ T y with
    |some (.int k a),some (.int k' b)=>if k=k' then zy (cx.D.i a) (cx.D.i b) λr=>out K (.int k (.a r)) else False
    |_,_=>False
   |_=>False
  |.value (.func f) =>
   match Gt cx σ T c.args.toList c.argTypes.toList with
   |some vs=>I6 cx σ T f vs K
   |none=>False
  |.value (.tmp s) =>
   match Gt cx σ T c.args.toList c.argTypes.toList,rd cx σ T (.tmp s) with
   |some vs,some (.fn f)=>I6 cx σ T f vs K
   |some vs,some (.eZ f cs)=>I6 cx σ T f (vs++cs) K
   |some vs,some (.gI f us)=>I6 cx σ T f (us++vs) K
   |_,_=>False
  |_=>False
 |_=>False
def Tf(cx:Cx)(σ:Sy)(T:List Nat)(c a b:Operand)(K:Out->Prop):Prop :=
 match c with
 |.tmp s =>
  match Au σ.fr s with
  |some ⟨tg,_,_,.bool (.l true)⟩=>if V4 tg T then ua K (rd cx σ T a) else False
  |some ⟨tg,_,_,.bool (.l false)⟩=>if V4 tg T then ua K (rd cx σ T b) else False
  |some ⟨tg,gt,gf,.bool ct⟩ =>
   if V4 tg T then
    match rd cx σ (gt.toList++T) a,rd cx σ (gf.toList++T) b with
    |some (.bool x),some (.bool (.l false))=>out K (.bool (.and ct x))
    |some (.bool (.l true)),some (.bool y)=>out K (.bool (.or ct y))
    |_,_=>False
   else False
  |_=>False
 |_=>False
def guardOf(ops:List Oper)(σ:Sy):Option (Nat×Bool)->Option (Option (Sy×List Nat))
 |none=>some (some (σ,[]))
 |some (j,want) =>
  match nth ops j with
  |some oj=>match oj.dst with
   |some s=>match Au σ.fr s with
    |some ⟨tg,_,_,.bool (.l b)⟩=>if b==want then some (some (σ,tg)) else some none
    |some ⟨tg,gt,gf,.bool c⟩ =>
     if want then
      match gt with
      |some i=>some (some (σ,i :: tg))
      |none=>some (some (⟨Ax σ.fr s (some ⟨tg,some (Ah σ.gm),gf,.bool c⟩),σ.hp,σ.gm++[c]⟩,Ah σ.gm :: tg))
     else
      match gf with
      |some i=>some (some (σ,i :: tg))
      |none=>some (some (⟨Ax σ.fr s (some ⟨tg,gt,some (Ah σ.gm),.bool c⟩),σ.hp,σ.gm++[.not c]⟩,Ah σ.gm :: tg))
    |_=>none
   |none=>none
  |none=>none
def Jh(hp:List Hl):List Ef->Bool
 | []=>true
 |.set h off vs :: es=>Jh (fa hp (.set h off vs)) es
 |.put h hl :: es=>Nat.ble h (Ah hp)&&Jh (fa hp (.put h hl)) es
def cM(fr:List (Option G))(d:Option Nat)(g:Option G):List (Option G) :=
 match d with
 |some s=>Ax fr s g
 |none=>fr
def yieldOf(cx:Cx)(σ:Sy)(T:List Nat)(op:Op):Option (Nat×Call) :=
 match op with
 |.call c=>match c.callee with
  |.value (.tmp s)=>match rd cx σ T (.tmp s) with
   |some (.yv h)=>some (h,c)
   |_=>none
  |_=>none
 |_=>none
def Mc(cx:Cx)(σ:Sy)(T:List Nat)(h:Nat)(c:Call)(K:Out->Prop):Prop :=
 match Gt cx σ T c.args.toList c.argTypes.toList,cx.yl with
 |some vs,[Y]=>F9 cx σ [] (.yv h :: vs) Y K
 |_,_=>False
def N7(cx:Cx)(σ:Sy)(T:List Nat)(o:Oper)(K:Out->Prop):Prop :=
 match o.op with
 |.pick c a b=>Tf cx σ T c a b K
 |_=>match yieldOf cx σ T o.op with
  |some (h,c)=>Mc cx σ T h c K
  |none=>Ady cx σ T o K
structure FP where
 tJ:List Nat
 BH:List (Nat×Nat×Nat)
 wr:List (Nat×Option (Nat×Nat))
def gZ:List Ef->List (Nat×Option (Nat×Nat))
 | []=>[]
 |.set h off vs :: es=>(h,some (off,Ah vs)) :: gZ es
 |.put h _ :: es=>(h,none) :: gZ es
def Ws(r:Out):FP:=⟨r.tJ,r.BH,gZ r.fK⟩
def Abh(o:Oper):Bool:=match o.op with
 |.defer _=>false
 |_=>true
def Zu(cx:Cx)(op:Op):Option SV:=match op with
 |.buildSlice t _ _=>match look t cx.tt with
  |some ⟨.slice e,_,_,_⟩=>match look e cx.tt with
   |some te=>some (.sl (.l true) (.l 0) te.size λ_=>[])
   |none=>none
  |_=>none
 |.call c=>match c.callee with
  |.value (.func f)=>if (look (8000000+f) cx.gh).isSome then some (.bool (.l true)) else none
  |_=>none
 |_=>none
def Ey(cx:Cx)(all:List Oper):List Oper->List FP->Sy->(List FP->Sy->Prop)->Prop
 | [],fs,σ,K=>K fs σ
 |o :: os,fs,σ,K =>
  match guardOf all σ o.guard with
  |none=>False
  |some none=>Ey cx all os (fs++[⟨[],[],[]⟩]) ⟨cM σ.fr o.dst none,σ.hp,σ.gm⟩ K
  |some (some (σ,T)) =>
   match yieldOf cx σ T o.op,T with
   |some (h,c),[i]=>match nth σ.gm i with
    |some b=>(cx.D.b b=true->Mc cx σ [i] h c λr=>if Jh σ.hp r.fK then Ey cx all os (fs++[Ws r]) ⟨cM σ.fr o.dst (some ⟨[i],none,none,r.v⟩),Lw σ.hp r.fK,σ.gm⟩ K else False)/\
      (cx.D.b b=false->Ey cx all os (fs++[Ws ⟨.bool (.l true),[],[],[]⟩]) ⟨cM σ.fr o.dst (some ⟨[i],none,none,.bool (.l true)⟩),σ.hp,σ.gm⟩ K)
    |none=>False
   |_,_=>match Zu cx o.op,T with
    |some d,[i]=>match nth σ.gm i with
     |some b=>(cx.D.b b=true->N7 cx σ [i] o λr=>if Jh σ.hp r.fK then Ey cx all os (fs++[Ws r]) ⟨cM σ.fr o.dst (some ⟨[i],none,none,r.v⟩),Lw σ.hp r.fK,σ.gm⟩ K else False)/\
       (cx.D.b b=false->Ey cx all os (fs++[Ws ⟨d,[],[],[]⟩]) ⟨cM σ.fr o.dst (some ⟨[i],none,none,d⟩),σ.hp,σ.gm⟩ K)
     |none=>False
    |some d,[i,j]=>match nth σ.gm i,nth σ.gm j with
     |some b,some c=>((cx.D.b b&&cx.D.b c)=true->N7 cx σ [i,j] o λr=>if Jh σ.hp r.fK then Ey cx all os (fs++[Ws r]) ⟨cM σ.fr o.dst (some ⟨[i,j],none,none,r.v⟩),Lw σ.hp r.fK,σ.gm⟩ K else False)/\
       ((cx.D.b b&&cx.D.b c)=false->Ey cx all os (fs++[Ws ⟨d,[],[],[]⟩]) ⟨cM σ.fr o.dst (some ⟨[i,j],none,none,d⟩),σ.hp,σ.gm⟩ K)
     |_,_=>False
    |_,_=>N7 cx σ T o λr=>if Jh σ.hp r.fK&&(T.isEmpty||r.fK.isEmpty)&&Abh o then Ey cx all os (fs++[Ws r]) ⟨cM σ.fr o.dst (some ⟨T,none,none,r.v⟩),Lw σ.hp r.fK,σ.gm⟩ K else False
def Ale:Operand->List Nat
 |.tmp s=>[s]
 |_=>[]
def Yp:List Operand->List Nat
 | []=>[]
 |x :: xs=>Ale x++Yp xs
def Qi(all:List Oper):Option (Nat×Bool)->List Nat
 |none=>[]
 |some (j,_)=>match nth all j with
  |some oj=>match oj.dst with
   |some s=>[s]
   |none=>[]
  |none=>[]
def looks(all:List Oper)(o:Oper):List Nat:=Yp o.op.operands.toList++Qi all o.guard
def P2:List Nat->List Nat->Bool
 | [],_=>false
 |x :: l,t=>K6 x t||P2 l t
def Wc:Option Nat->List Nat
 |some x=>[x]
 |none=>[]
def Cy:Nat×Option (Nat×Nat)->Nat×Option (Nat×Nat)->Bool
 |(h,a),(k,b)=>h==k&&match a,b with
  |some (x,m),some (y,n)=>Nat.blt x (y+n)&&Nat.blt y (x+m)
  |_,_=>true
def od(x:Nat×Option (Nat×Nat)):List (Nat×Option (Nat×Nat))->Bool
 | []=>false
 |y :: l=>Cy x y||od x l
def P1:List (Nat×Option (Nat×Nat))->List (Nat×Option (Nat×Nat))->Bool
 | [],_=>false
 |x :: l,t=>od x t||P1 l t
def BI(f:FP):List (Nat×Option (Nat×Nat)):=(f.tJ.map λh=>(h,none))++f.BH.map λx=>(x.1,some (x.2.1,x.2.2))
def MI(all:List Oper)(o:Oper)(f:FP)(o':Oper)(f':FP):Bool :=
 P2 (Wc o.dst) (looks all o')||P2 (Wc o.dst) (Wc o'.dst)||P2 (Wc o'.dst) (looks all o)||P1 f.wr (BI f')||P1 f.wr f'.wr||P1 f'.wr (BI f)
def LL(x:Nat)(l:List Nat):List Nat:=if K6 x l then l else x :: l
def Ads:List Nat->List Nat->List Nat
 | [],t=>t
 |x :: l,t=>Ads l (LL x t)
def Dh:List Edge->List Nat
 | []=>[]
 |e :: es=>(match e.ground with|.textOnly _|.gcOnly _=>[]|_=>[e.on])++Dh es
def Qv(acc:List (List Nat)):List Nat->List Nat
 | []=>[]
 |i :: l=>Ads (LL i ((nth acc i).getD [])) (Qv acc l)
def Il:List Oper->List (List Nat)->List (List Nat)
 | [],acc=>acc
 |o :: os,acc=>Il os (acc++[Qv acc (Dh o.after.toList)])
def Y0(n:Nat):List Nat->Bool
 | []=>true
 |x :: l=>Nat.blt x n&&Y0 n l
def Hh:List Oper->Nat->Bool
 | [],_=>true
 |o :: os,n=>Y0 n (Dh o.after.toList)&&Hh os (n+1)
def Mm(all:List Oper)(bs:List (List Nat))(i:Nat)(o:Oper)(f:FP):List Oper->List FP->Nat->Bool
 |o' :: os,f' :: fs,j=>(!(MI all o f o' f')||K6 i ((nth bs j).getD []))&&Mm all bs i o f os fs (j+1)
 |_,_,_=>true
def indep(all:List Oper)(bs:List (List Nat)):List Oper->List FP->Nat->Bool
 |o :: os,f :: fs,i=>Mm all bs i o f os fs (i+1)&&indep all bs os fs (i+1)
 |_,_,_=>true
structure ow(ops:List Oper)(fs:List FP):Prop where
 h:(Hh ops 0&&indep ops (Il ops []) ops fs 0)=true
def tidy:List (Option G)->List (Option G)
 | []=>[]
 |some ⟨[],_,_,v⟩ :: l=>some ⟨[],none,none,v⟩ :: tidy l
 |_ :: l=>none :: tidy l
def fL(h:Nat)(x:SV):SV->SV
 |.dG k=>if k==h then x else .dG k
 |.agg cs=>.agg (lJ h x cs)
 |.aJ cs=>.aJ (lJ h x cs)
 |.eZ f cs=>.eZ f (lJ h x cs)
 |.gI f cs=>.gI f (lJ h x cs)
 |v=>v
 where lJ (h:Nat) (x:SV):List SV->List SV
 | []=>[]
 |c :: cs=>fL h x c :: lJ h x cs
def Fj(h:Nat)(x:SV):List (Option G)->List (Option G)
 | []=>[]
 |some ⟨tg,gt,gf,v⟩ :: l=>some ⟨tg,gt,gf,fL h x v⟩ :: Fj h x l
 |none :: l=>none :: Fj h x l
def MQ(h:Nat)(x:SV):List Hl->List Hl
 | []=>[]
 |.aG ty cs :: ls=>.aG ty (fL.lJ h x cs) :: MQ h x ls
 |l :: ls=>l :: MQ h x ls
def ghost(cx:Cx)(σ:Sy):Gh->Option Sy
 |.hold s k e=>match Au σ.fr s with
  |some ⟨[],_,_,.ptr h 0⟩=>match nth σ.hp h with
   |some (.aG T cs)=>match nth cs k,size? cx e with
    |some (.sl (.l true) (.l 0) sz f),some cD=>if cD==sz then some ⟨σ.fr,Ax σ.hp h (.aG T (Ax cs k (.dQ (.l true) (.l 0) sz f (Ah σ.hp))))++[.tail e (.l 0) sz],σ.gm⟩ else none
    |_,_=>none
   |_=>none
  |_=>none
 |.freeze s=>match Au σ.fr s with
  |some ⟨[],_,_,.dG h⟩=>match nth σ.hp h with
   |some (.row _ n sz f)=>some ⟨Fj h (.sl (.l false) n sz f) σ.fr,Ax (MQ h (.sl (.l false) n sz f) σ.hp) h .gone,σ.gm⟩
   |_=>none
  |_=>none
 |.attach s e=>match Au σ.fr s with
  |some ⟨[],_,_,.sl (.l true) (.l 0) sz f⟩=>match size? cx e with
   |some cD=>if cD==sz then some ⟨Ax σ.fr s (some ⟨[],none,none,.dQ (.l true) (.l 0) sz f (Ah σ.hp)⟩),σ.hp++[.tail e (.l 0) sz],σ.gm⟩ else none
   |none=>none
  |_=>none
 |.own s e=>match Au σ.fr s with
  |some ⟨[],_,_,.sl (.l true) (.l 0) sz f⟩=>match size? cx e with
   |some cD=>if cD==sz then some ⟨Ax σ.fr s (some ⟨[],none,none,.bV (.l true) (.l 0) (Ah σ.hp)⟩),σ.hp++[.own e (.l 0) sz true f],σ.gm⟩ else none
   |none=>none
  |_=>none
 |.share s=>match Au σ.fr s with
  |some ⟨[],_,_,.bV nl n h⟩=>match nth σ.hp h with
   |some (.own _ _ sz _ f)=>some ⟨Ax σ.fr s (some ⟨[],none,none,.sl nl n sz f⟩),Ax σ.hp h .gone,σ.gm⟩
   |_=>none
  |_=>none
 |.mN s e=>match Au σ.fr s with
  |some ⟨[],_,_,.ptr h 0⟩=>match nth σ.hp h with
   |some (.aG T [.fC,.sl (.l true) (.l 0) 1 _])=>some ⟨σ.fr,Ax σ.hp h (.mN T e []),σ.gm⟩
   |_=>none
  |_=>none
 |.fw _=>none
 |.JD _=>none
 |.oU _=>none
 |.oI ..=>none
 |.qX ..=>none
 |.xO _=>none
 |.zV _=>none
 |.vec s e=>match Au σ.fr s with
  |some ⟨[],_,_,.sl (.l true) (.l 0) sz f⟩=>match size? cx e with
   |some cD=>if cD==sz then some ⟨Ax σ.fr s (some ⟨[],none,none,.cP (.l true) (.l 0) (.l 0) (Ah σ.hp)⟩),σ.hp++[.vec e (.l 0) (.l 0) sz f],σ.gm⟩ else none
   |none=>none
  |_=>none
 |.qY s k e=>match Au σ.fr s with
  |some ⟨[],_,_,.ptr h 0⟩=>match nth σ.hp h with
   |some (.aG T cs)=>match nth cs k,size? cx e with
    |some (.sl (.l true) (.l 0) sz f),some cD=>if cD==sz then some ⟨σ.fr,Ax σ.hp h (.aG T (Ax cs k (.cP (.l true) (.l 0) (.l 0) (Ah σ.hp))))++[.vec e (.l 0) (.l 0) sz f],σ.gm⟩ else none
    |_,_=>none
   |_=>none
  |_=>none
 |.jF s=>match Au σ.fr s with
  |some ⟨[],_,_,.cP nl n _ h⟩=>match nth σ.hp h with
   |some (.vec _ _ _ sz f)=>some ⟨Ax σ.fr s (some ⟨[],none,none,.sl nl n sz f⟩),Ax σ.hp h .gone,σ.gm⟩
   |_=>none
  |_=>none
 |.fP s k=>match Au σ.fr s with
  |some ⟨[],_,_,.ptr hb 0⟩=>match nth σ.hp hb with
   |some (.aG T cs)=>match nth cs k with
    |some (.cP nl n _ h)=>match nth σ.hp h with
     |some (.vec _ _ _ sz f)=>some ⟨σ.fr,Ax (Ax σ.hp hb (.aG T (Ax cs k (.sl nl n sz f)))) h .gone,σ.gm⟩
     |_=>none
    |_=>none
   |_=>none
  |_=>none
def Aj4(σ:Sy)(s:Nat):Option (BT×ST×Nat×(Nat->List SV)) :=
 match Au σ.fr s with
 |some ⟨[],_,_,.sl nl n sz f⟩=>some (nl,n,sz,f)
 |some ⟨[],_,_,.dQ nl n sz f _⟩=>some (nl,n,sz,f)
 |_=>none
def Amf(cx:Cx)(σ:Sy)(s:Nat):Option (Nat×Nat×List (List SV)×Nat) :=
 match Au σ.fr s with
 |some ⟨[],_,_,.ptr h 0⟩=>match nth σ.hp h with
  |some (.aG T cs)=>match look T cx.tt with
   |some ⟨.array n e,_,_,_⟩=>match size? cx e with
    |some sz=>if Ah cs==n * sz&&An.gL cs then some (n,sz,chunks sz n cs,h) else none
    |none=>none
   |_=>none
  |_=>none
 |_=>none
def Yk(σ:Sy)(s:Nat):Option (TypeId×ST×Nat×(Nat->List SV)×Nat) :=
 match Au σ.fr s with
 |some ⟨[],_,_,.ptr h 0⟩=>match nth σ.hp h with
  |some (.row ty n sz f)=>some (ty,n,sz,f,h)
  |_=>none
 |_=>none
structure BIs(x b:Bool):Prop where
 h:x=b
structure IIs(x n:Int):Prop where
 h:x=n
def Afm(σ:Sy)(s:Nat):Option BT :=
 match Au σ.fr s with
 |some ⟨[],_,_,.bool c⟩=>some c
 |_=>none
def Aez(σ:Sy)(s:Nat):Option (IntKind×ST) :=
 match Au σ.fr s with
 |some ⟨[],_,_,.int k c⟩=>some (k,c)
 |_=>none
def Ado(σ:Sy)(s k h:Nat):Option (Nat×TypeId×List SV×TypeId×ST×Nat×(Nat->List SV)) :=
 match Au σ.fr s with
 |some ⟨[],_,_,.ptr hb 0⟩=>match nth σ.hp hb,nth σ.hp h with
  |some (.aG T cs),some (.vec e _ g sz _)=>match nth cs k with
   |some (.sl (.l true) (.l 0) cD f)=>if cD==sz then some (hb,T,cs,e,g,sz,f) else none
   |_=>none
  |_,_=>none
 |_=>none
def Adp(σ:Sy)(s k h:Nat):Option (Nat×TypeId×List SV×Nat×BT×ST×ST×TypeId×ST×Nat×(Nat->List SV)) :=
 match Au σ.fr s with
 |some ⟨[],_,_,.ptr hb 0⟩=>match nth σ.hp hb,nth σ.hp h with
  |some (.aG T cs),some (.vec e _ g sz _)=>match nth cs k with
   |some (.bV nl n h2)=>match nth σ.hp h2 with
    |some (.own e' n0 cD _ f)=>if cD==sz&&e'==e then some (hb,T,cs,h2,nl,n,n0,e,g,sz,f) else none
    |_=>none
   |_=>none
  |_,_=>none
 |_=>none
def Nk(cx:Cx)(σ:Sy):Gh->Prop
 |.share s=>match Au σ.fr s with
  |some ⟨[],_,_,.bV _ n h⟩=>match nth σ.hp h with
   |some (.own _ n0 _ _ _)=>nW (cx.D.i n) (cx.D.i n0)
   |_=>False
  |_=>False
 |.jF s=>match Au σ.fr s with
  |some ⟨[],_,_,.cP _ n g0 h⟩=>match nth σ.hp h with
   |some (.vec _ n0 g1 _ _)=>nW (cx.D.i n) (cx.D.i n0)/\nW (cx.D.i g0) (cx.D.i g1)
   |_=>False
  |_=>False
 |.fP s k=>match Au σ.fr s with
  |some ⟨[],_,_,.ptr hb 0⟩=>match nth σ.hp hb with
   |some (.aG _ cs)=>match nth cs k with
    |some (.cP _ n g0 h)=>match nth σ.hp h with
     |some (.vec _ n0 g1 _ _)=>nW (cx.D.i n) (cx.D.i n0)/\nW (cx.D.i g0) (cx.D.i g1)
     |_=>False
    |_=>False
   |_=>False
  |_=>False
 |_=>True
def aT(cx:Cx):List Gh->Sy->(Sy->Prop)->Prop
 | [],σ,K=>K σ
 |g :: gs,σ,K=>match g with
  |.fw s=>match Aj4 σ s with
   |some (nl,n,sz,f)=>∃f2,tc (cx.D.i n) f2 f/\aT cx gs ⟨Ax σ.fr s (some ⟨[],none,none,.sl nl n sz f2⟩),σ.hp,σ.gm⟩ K
   |none=>False
  |.JD s=>match Amf cx σ s with
   |some (n,sz,rows,h)=>∃f,Rx f rows/\aT cx gs ⟨Ax σ.fr s (some ⟨[],none,none,.dT n sz f⟩),Ax σ.hp h .gone,σ.gm⟩ K
   |none=>False
  |.oU s=>match Yk σ s with
   |some (ty,n,sz,f,h)=>∃cs,Flat f (cx.D.i n) sz cs/\aT cx gs ⟨σ.fr,Ax σ.hp h (.aG ty cs),σ.gm⟩ K
   |none=>False
  |.xO s=>match Afm σ s with
   |some c=>∃b,BIs (cx.D.b c) b/\aT cx gs ⟨Ax σ.fr s (some ⟨[],none,none,.bool (.l b)⟩),σ.hp,σ.gm⟩ K
   |none=>False
  |.zV s=>match Aez σ s with
   |some (k,c)=>∃n,IIs (cx.D.i c) n/\aT cx gs ⟨Ax σ.fr s (some ⟨[],none,none,.int k (.l n)⟩),σ.hp,σ.gm⟩ K
   |none=>False
  |.oI s k h=>match Ado σ s k h with
   |some (hb,T,cs,e,g,sz,f)=>Z1 (cx.D.i g) λg'=>aT cx gs ⟨σ.fr,Ax (Ax σ.hp hb (.aG T (Ax cs k (.cP (.l true) (.l 0) (.a g') h)))) h (.vec e (.l 0) (.a g') sz f),σ.gm⟩ K
   |none=>False
  |.qX s k h=>match Adp σ s k h with
   |some (hb,T,cs,h2,nl,n,n0,e,g,sz,f)=>nW (cx.D.i n) (cx.D.i n0)/\Z1 (cx.D.i g) λg'=>aT cx gs ⟨σ.fr,Ax (Ax (Ax σ.hp hb (.aG T (Ax cs k (.cP nl n (.a g') h)))) h (.vec e n0 (.a g') sz f)) h2 .gone,σ.gm⟩ K
   |none=>False
  |g=>Nk cx σ g/\match ghost cx σ g with
   |some σ=>aT cx gs σ K
   |none=>False
def fY(cx:Cx)(id:Nat)(σ:Sy)(K:Sy->Prop):Prop :=
 match look id cx.gh with
 |none=>K σ
 |some l=>aT cx l σ K
inductive Ex where
 |normal
 |exit (id:Nat)
 |goto (l:Nat)
 |ret
def Oo:List (Nat×Option SV)->List (Option G)->List (Option G)
 | [],fr=>fr
 |(i,v) :: l,fr=>Oo l (Ax fr i (v.map λv=>⟨[],none,none,v⟩))
def blank{α:Type}:List α->List (Option G)
 | []=>[]
 |_ :: l=>none :: blank l
def Bu(n:Nat):SV->Bool
 |.ptr h _=>Nat.blt h n
 |.dQ _ _ _ _ h=>Nat.blt h n
 |.dG h=>Nat.blt h n
 |.cS h _ _=>Nat.blt h n
 |.bV _ _ h=>Nat.blt h n
 |.cK _ h _ _=>Nat.blt h n
 |.bP h=>Nat.blt h n
 |.iZ _ h=>Nat.blt h n
 |.cP _ _ _ h=>Nat.blt h n
 |.jP _ _ h=>Nat.blt h n
 |.yv h=>Nat.blt h n
 |.agg cs=>iL n cs
 |.aJ cs=>iL n cs
 |.eZ _ cs=>iL n cs
 |.gI _ cs=>iL n cs
 |_=>true
 where iL (n:Nat):List SV->Bool
 | []=>true
 |c :: cs=>Bu n c&&iL n cs
def Nx(n:Nat):List (Nat×Option SV)->Bool
 | []=>true
 |(_,some v) :: l=>Bu n v&&Nx n l
 |(_,none) :: l=>Nx n l
def Zv(n:Nat):List (Int×SV)->Bool
 | []=>true
 |(_,v) :: l=>Bu n v&&Zv n l
def D5(n:Nat):List Hl->Bool
 | []=>true
 |.aG _ cs :: ls=>Bu n (.agg cs)&&D5 n ls
 |.bO _ fr _ _ :: ls=>Nx n fr&&D5 n ls
 |.iF es :: ls=>Zv n es&&D5 n ls
 |_ :: ls=>D5 n ls
def Gw(D:Dn)(n:Nat)(fr:List (Option G)):List Nat->List (Option SV)
 | []=>[]
 |i :: l=>(match Au fr i with|some ⟨[],_,_,v⟩=>(if Bu n v then some (norm D v) else none)|_=>none) :: Gw D n fr l
def Gx(D:Dn):List Hl->List Hl
 | []=>[]
 |.aG ty cs :: ls=>.aG ty (norm.aM D cs) :: Gx D ls
 |.tail ty n sz :: ls=>.tail ty (.a (D.i n)) sz :: Gx D ls
 |.row ty n sz f :: ls=>.row ty (.a (D.i n)) sz f :: Gx D ls
 |.own ty n sz gr f :: ls=>.own ty (.a (D.i n)) sz gr f :: Gx D ls
 |.vec ty n g sz f :: ls=>.vec ty (.a (D.i n)) (.a (D.i g)) sz f :: Gx D ls
 |l :: ls=>l :: Gx D ls
def K5{α:Type}:List Nat->List (Option α)->List (Nat×Option α)
 |i :: l,v :: vs=>(i,v) :: K5 l vs
 |_,_=>[]
def tN(σ:Sy)(c:Operand)(b:Bool):Sy :=
 match c with
 |.tmp s=>⟨Ax σ.fr s (some ⟨[],none,none,.bool (.l b)⟩),σ.hp,σ.gm⟩
 |_=>σ
end Go.Sx
