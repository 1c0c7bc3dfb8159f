/- Part of the proofs of the statements about responses and messages (layers 9 and 10): a symbolic executor over the code, that it is sound, and contracts of functions; it has no conditions of its own. -/
import Derived.Test.YtdoogdbjiijifaaGreatDoorE3Paa
namespace Go.Sx
def out(K:Out->Prop)(v:SV):Prop:=K ⟨v,[],[],[]⟩
def Aal(K:Out->Prop):Option SV->Prop
 |some v=>K ⟨v,[],[],[]⟩
 |none=>False
def Am0:BinOp->Bool
 |.add|.sub|.mul|.and|.or|.xor|.andNot=>true
 |_=>false
def Alp:BinOp->Bool
 |.eql|.neq|.lss|.leq|.gtr|.geq=>true
 |_=>false
def O7(op:BinOp):ST->ST->BT
 |.l m,.l n=>.l (B9 op m n)
 |x,y=>.cmp op x y
def Adr:BT->BT
 |.l b=>.l (!b)
 |x=>.not x
def Amv(op:BinOp)(k:IntKind):ST->ST->ST
 |.l m,.l n=>.l (Et op k m n)
 |x,y=>.bin op k x y
def U9:BT->BT->BT
 |.l true,y=>y
 |x,.l true=>x
 |x,y=>.and x y
def Amj(cx:Cx)(g:TypeId->List SV->List SV->Option BT)(xs ys:List SV):List (Nat×TypeId)->Option BT
 | []=>some (.l true)
 |(fo,ft) :: fs =>
  match size? cx ft with
  |some m=>match g ft (Bf m (C3 fo xs)) (Bf m (C3 fo ys)),Amj cx g xs ys fs with
   |some a,some b=>some (U9 a b)
   |_,_=>none
  |none=>none
def Aei(cx:Cx):Nat->TypeId->List SV->List SV->Option BT
 |0,_,_,_=>none
 |n+1,t,xs,ys =>
  match look t cx.tt with
  |some ⟨.int _,_,_,_⟩=>match xs,ys with
   | [.int k a],[.int k' b]=>if k=k' then some (O7 .eql a b) else none
   |_,_=>none
  |some ⟨.bool,_,_,_⟩=>match xs,ys with
   | [.bool a],[.bool b]=>some (.beq a b)
   |_,_=>none
  |some ⟨.string,_,_,_⟩=>match xs,ys with
   | [.str a],[.str b]=>some (.seq a b)
   |_,_=>none
  |some ⟨.struct fs,_,_,_⟩=>if Kr t cx.eqs then Amj cx (Aei cx n) xs ys fs else none
  |_=>none
def seqS(cx:Cx)(a b:List UInt8):BT :=
 match look 999984 cx.gh with
 |some _=>.l (a==b)
 |none=>.seq a b
def nlOf:SV->Option BT
 |.sl nl _ _ _=>some nl
 |.gsl nl _ _ _ _=>some nl
 |.osl nl _ _=>some nl
 |.vsl nl _ _ _=>some nl
 |_=>none
def Ala(op:BinOp)(b:BT)(K:Out->Prop):Prop :=
 match op with
 |.eql=>out K (.bool b)
 |.neq=>out K (.bool (Adr b))
 |_=>False
def Als:SV->Option BT
 |.ifc b=>some b
 |.raw .nilIface=>some (.l true)
 |_=>none
def X4(cx:Cx)(op:BinOp)(t:TypeId)(x:SV)(y:Operand)(K:Out->Prop):Prop :=
 match y,Als x,look t cx.tt with
 |.const .nilIface,some b,some ⟨.iface,_,_,_⟩=>Ala op b K
 |_,_,_=>False
def X5(cx:Cx)(gm:List BT)(T:List Nat)(op:BinOp)(t:TypeId)(x y:SV)(K:Out->Prop):Prop :=
 match x,y with
 |.int k a,.int k' b =>
  if Am0 op then (if k=k' then out K (.int k (Amv op k a b)) else False)
  else if Alp op then (if k=k' then out K (.bool (O7 op a b)) else False)
  else match op with
   |.quo|.rem=>if k=k' then Ob cx.D gm T (NZ (cx.D.i b))/\out K (.int k (.bin op k a b)) else False
   |.shl|.shr=>Ob cx.D gm T (NN (cx.D.i b))/\out K (.int k (.bin op k a b))
   |_=>False
 |.bool a,.bool b =>
  match op,look t cx.tt with
  |.eql,some ⟨.bool,_,_,_⟩=>out K (.bool (.beq a b))
  |.neq,some ⟨.bool,_,_,_⟩=>out K (.bool (.not (.beq a b)))
  |_,_=>False
 |.str a,.str b =>
  match op with
  |.add=>Ob cx.D gm T (StrFit a b)/\allCat a b λr=>out K (.str r)
  |.eql=>out K (.bool (seqS cx a b))
  |.neq=>out K (.bool (Adr (seqS cx a b)))
  |_=>False
 |.agg a,.agg b =>
  match op,Kr t cx.eqs&&isAgg? cx t,Aei cx 8 t a b with
  |.eql,true,some c=>out K (.bool c)
  |.neq,true,some c=>out K (.bool (Adr c))
  |_,_,_=>False
 |x,.sl (.l true) (.l 0) 0 _ =>
  match nlOf x,look t cx.tt with
  |some nl,some ⟨.slice _,_,_,_⟩=>Ala op nl K
  |_,_=>False
 |_,_=>False
def Al:SV->Bool
 |.ptr .. | .gsl .. | .mrow .. | .mptr .. | .clo .. | .bnd .. | .osl .. | .optr .. | .mapv .. | .bsl .. | .yv .. | .vsl .. | .tsl ..=>false
 |.agg cs=>plainL cs
 |.tup cs=>plainL cs
 |_=>true
 where plainL:List SV->Bool
 | []=>true
 |c :: cs=>Al c&&plainL cs
def Wu:Hl->Bool
 |.blk .. | .bld ..=>true
 |_=>false
def Aai:Hl->Bool
 |.own ..=>true
 |_=>false
def Kd(hp:List Hl):List SV->Nat->Option (List SV×List Nat×List Hl)
 | [],_=>some ([],[],[])
 |.ptr h off :: vs,n=>match nth hp h,Kd hp vs (n+1) with
  |some l,some (as,hs,ls)=>if Wu l&&!Kr h hs then some (.ptr n off :: as,h :: hs,l :: ls) else none
  |_,_=>none
 |v :: vs,n=>match Al v,Kd hp vs n with
  |true,some (as,hs,ls)=>some (v :: as,hs,ls)
  |_,_=>none
def Zi:List Nat->List Nat->Bool
 | [],_=>true
 |x :: l,t=>!Kr x t&&Zi l t
def Fg(hp:List Hl):List SV->Nat->Option (List SV×List Nat×List Hl)
 | [],_=>some ([],[],[])
 |.ptr h off :: vs,n=>match nth hp h,Fg hp vs (n+1) with
  |some l,some (as,hs,ls)=>if Wu l&&!Kr h hs then some (.ptr n off :: as,h :: hs,l :: ls) else none
  |_,_=>none
 |.osl nl m h :: vs,n=>match nth hp h,Fg hp vs (n+1) with
  |some l,some (as,hs,ls)=>if Aai l&&!Kr h hs then some (.osl nl m n :: as,h :: hs,l :: ls) else none
  |_,_=>none
 |.clo f cs :: vs,n=>match Kd hp cs n with
  |some (as1,hs1,ls1)=>match Fg hp vs (n+Af hs1) with
   |some (as,hs,ls)=>if Zi hs1 hs then some (.clo f as1 :: as,hs1++hs,ls1++ls) else none
   |none=>none
  |none=>none
 |v :: vs,n=>match Al v,Fg hp vs n with
  |true,some (as,hs,ls)=>some (v :: as,hs,ls)
  |_,_=>none
def D0:List Nat->List Hl->List Ef
 |h :: hs,l :: ls=>.put h l :: D0 hs ls
 |_,_=>[]
def Gi:List Hl->Bool
 | []=>true
 |.blk _ cs :: ls=>Al (.agg cs)&&Gi ls
 |.own .. :: ls=>Gi ls
 |.bld .. :: ls=>Gi ls
 |.gone :: ls=>Gi ls
 |_ :: _=>false
def normH(D:Dn):List Hl->List Hl
 | []=>[]
 |.blk ty cs :: ls=>.blk ty (looseL (norm.normL D cs)) :: normH D ls
 |.own ty n sz gr f :: ls=>.own ty (.a (D.i n)) sz gr f :: normH D ls
 |l :: ls=>l :: normH D ls
 where looseL:=loose.looseL
def H3(m m':Nat):SV->Bool
 |.osl _ _ h=>Nat.ble m h&&Nat.blt h m'
 |.tup vs=>resL m m' vs
 |v=>Al v
 where resL (m m':Nat):List SV->Bool
 | []=>true
 |c :: cs=>H3 m m' c&&resL m m' cs
def reV(m a:Nat):SV->SV
 |.osl nl n h=>.osl nl n (h-m+a)
 |.tup vs=>.tup (reL m a vs)
 |v=>v
 where reL (m a:Nat):List SV->List SV
 | []=>[]
 |c :: cs=>reV m a c :: reL m a cs
def Es:Nat->List Hl->List Ef
 |_,[]=>[]
 |a,l :: ls=>.put a l :: Es (a+1) ls
structure SLe(r:List UInt8)(n:Int):Prop where
 h:(r.length:Int)<=n\/r=[]
def R9(cx:Cx)(σ:Sy)(T:List Nat)(e:TypeId)(n:ST)(f:Nat->List SV)(K:Out->Prop):Prop :=
 match T,look e cx.tt with
 | [],some ⟨.int .u8,_,_,_⟩=>Fi (cx.D.i n) f/\Aev (cx.D.i n) f λr=>out K (.str r)
 |T,some ⟨.int .u8,_,_,_⟩=>Ob cx.D σ.gm T (Fi (cx.D.i n) f)/\∀r,SLe r (cx.D.i n)->Ob cx.D σ.gm T (Iw r (cx.D.i n) f)->out K (.str r)
 |_,_=>False
def hsV:SV->List Nat
 |.ptr h _=>[h]
 |.gsl _ _ _ _ h=>[h]
 |.osl _ _ h=>[h]
 |.optr _ h _ _=>[h]
 |.mapv h=>[h]
 |.bsl _ h=>[h]
 |.vsl _ _ _ h=>[h]
 |.tsl _ _ h=>[h]
 |.yv h=>[h]
 |.agg cs=>hsL cs
 |.tup cs=>hsL cs
 |.clo _ cs=>hsL cs
 |.bnd _ cs=>hsL cs
 |_=>[]
 where hsL:List SV->List Nat
 | []=>[]
 |c :: cs=>hsV c++hsL cs
def hsF:List (Nat×Option SV)->List Nat
 | []=>[]
 |(_,some v) :: l=>hsV v++hsF l
 |(_,none) :: l=>hsF l
def hsH:Hl->List Nat
 |.blk _ cs=>hsV.hsL cs
 |.lrec _ fr _ _=>hsF fr
 |_=>[]
def rnV(ρ:Nat->Nat):SV->SV
 |.ptr h o=>.ptr (ρ h) o
 |.gsl nl n sz f h=>.gsl nl n sz f (ρ h)
 |.osl nl n h=>.osl nl n (ρ h)
 |.optr n h j o=>.optr n (ρ h) j o
 |.mapv h=>.mapv (ρ h)
 |.bsl n h=>.bsl n (ρ h)
 |.vsl nl n g h=>.vsl nl n g (ρ h)
 |.tsl n a h=>.tsl n a (ρ h)
 |.yv h=>.yv (ρ h)
 |.agg cs=>.agg (rnL ρ cs)
 |.tup cs=>.tup (rnL ρ cs)
 |.clo f cs=>.clo f (rnL ρ cs)
 |.bnd f cs=>.bnd f (rnL ρ cs)
 |v=>v
 where rnL (ρ:Nat->Nat):List SV->List SV
 | []=>[]
 |c :: cs=>rnV ρ c :: rnL ρ cs
def rnF(ρ:Nat->Nat):List (Nat×Option SV)->List (Nat×Option SV)
 | []=>[]
 |(s,some v) :: l=>(s,some (rnV ρ v)) :: rnF ρ l
 |(s,none) :: l=>(s,none) :: rnF ρ l
def rnH(ρ:Nat->Nat):Hl->Hl
 |.blk ty cs=>.blk ty (rnV.rnL ρ cs)
 |.lrec c fr st pd=>.lrec c (rnF ρ fr) st pd
 |l=>l
def Cb:SV->Bool
 |.mrow _=>false
 |.mptr ..=>false
 |.agg cs=>rowlessL cs
 |.tup cs=>rowlessL cs
 |.clo _ cs=>rowlessL cs
 |.bnd _ cs=>rowlessL cs
 |_=>true
 where rowlessL:List SV->Bool
 | []=>true
 |c :: cs=>Cb c&&rowlessL cs
def I9:List (Nat×Option SV)->Bool
 | []=>true
 |(_,some v) :: l=>Cb v&&I9 l
 |(_,none) :: l=>I9 l
def Da:Hl->Bool
 |.blk _ cs=>Cb.rowlessL cs
 |.lrec _ fr _ _=>I9 fr
 |.tail ..=>true
 |.own ..=>true
 |.bld ..=>true
 |.mset ..=>true
 |.vec ..=>true
 |.gone=>true
 |_=>false
def normG(D:Dn):Hl->Hl
 |.blk ty cs=>.blk ty (norm.normL D cs)
 |.tail ty n sz=>.tail ty (.a (D.i n)) sz
 |.own ty n sz gr f=>.own ty (.a (D.i n)) sz gr f
 |.vec ty n g sz f=>.vec ty (.a (D.i n)) (.a (D.i g)) sz f
 |l=>l
def Lt:List Nat->List Nat->List Nat
 |acc,[]=>acc
 |acc,h :: t=>Lt (if Kr h acc then acc else acc++[h]) t
def growG(hp:List Hl)(acc:List Nat):List Nat->List Nat
 | []=>acc
 |h :: t=>growG hp (match nth hp h with|some l=>Lt acc (hsH l)|none=>acc) t
def Tk(hp:List Hl):List Hl->List Nat->List Nat
 | [],acc=>acc
 |_ :: t,acc=>Tk hp t (growG hp acc acc)
def H4:List Nat->Nat->Nat
 | [],_=>0
 |x :: l,h=>if x==h then 0 else H4 l h+1
def Va(t:List Nat):List Nat->Bool
 | []=>true
 |x :: l=>Kr x t&&Va t l
def Po:List Nat->Bool
 | []=>true
 |x :: l=>!Kr x l&&Po l
def Aay(n:Nat):List Nat->Bool
 | []=>true
 |x :: l=>Nat.blt x n&&Aay n l
def Uj(D:Dn)(hp:List Hl):List Nat->List Hl
 | []=>[]
 |h :: t=>(match nth hp h with|some l=>normG D l|none=>.gone) :: Uj D hp t
def Vr(g:Hl->Hl):List Hl->List Hl
 | []=>[]
 |l :: ls=>g l :: Vr g ls
def L6(hs:List Nat):List Hl->Bool
 | []=>true
 |l :: ls=>Da l&&Va hs (hsH l)&&L6 hs ls
def Ak4(n:Nat):List Hl->Bool
 | []=>true
 |l :: ls=>Da l&&Aay n (hsH l)&&Ak4 n ls
def Cq(hs:List Nat)(m M i:Nat):Nat:=if Nat.blt i m then (match nth hs i with|some k=>k|none=>0) else M+(i-m)
def Fp(cx:Cx)(σ:Sy)(T:List Nat)(vs0:List SV)(sp:FSpec)(K:Out->Prop):Prop :=
 match loose.looseL (norm.normL cx.D vs0) with
 |vs =>
  match Tk σ.hp σ.hp (Lt [] (hsV.hsL vs)) with
  |hs =>
   match Uj cx.D σ.hp hs with
   |ls =>
    if Po hs&&Va hs (hsV.hsL vs)&&Cb.rowlessL vs&&Aay (Af σ.hp) hs&&L6 hs ls&&(hs.isEmpty||T.isEmpty) then
     sp cx.D (rnV.rnL (H4 hs) vs) (Vr (rnH (H4 hs)) ls) λr ls' =>
      (Nat.ble (Af hs) (Af ls')&&Cb r&&Aay (Af ls') (hsV r)&&Ak4 (Af ls') ls')=true/\
      K ⟨rnV (Cq hs (Af hs) (Af σ.hp)) r,D0 hs (Vr (rnH (Cq hs (Af hs) (Af σ.hp))) (Bf (Af hs) ls'))++Es (Af σ.hp) (Vr (rnH (Cq hs (Af hs) (Af σ.hp))) (C3 (Af hs) ls')),hs,[]⟩
    else False
def I4(cx:Cx)(σ:Sy)(T:List Nat)(f:FuncId)(vs:List SV)(K:Out->Prop):Prop :=
 match look (f+1000000) cx.tab with
 |some sp=>Fp cx σ T vs sp K
 |none =>
 match look f cx.tab,Fg σ.hp (loose.looseL (norm.normL cx.D vs)) 0 with
 |some sp,some (as,hs,ls) =>
  if Gi (normH cx.D ls)&&(hs.isEmpty||T.isEmpty)&&Nat.blt f 1000000 then
   sp cx.D as (normH cx.D ls) λr ls'=>H3 (Af ls) (Af ls') r=true/\Gi ls'=true/\Nat.ble (Af ls) (Af ls')=true/\
    K ⟨reV (Af ls) (Af σ.hp) r,D0 hs (Bf (Af ls) ls')++Es (Af σ.hp) (C3 (Af ls) ls'),hs,[]⟩
  else False
 |_,_=>False
def N8:List (Nat×SV)->Bool
 | []=>true
 |p :: ps=>Ed p.2.cells&&N8 ps
def S1(cx:Cx)(σ:Sy)(T:List Nat)(ty:TypeId)(x:Operand)(K:Out->Prop):Prop :=
 match x with
 |.const (.slice none 0 0) =>
  match look ty cx.tt with
  |some ⟨.slice e,_,_,_⟩=>match size? cx e with
   |some n=>out K (.sl (.l true) (.l 0) n λ_=>[])
   |none=>False
  |_=>False
 |x=>Aal K (rd cx σ T x)
def Mk(sz:Nat):SV->Option (ST×(Nat->List SV))
 |.sl _ m sz' g=>if sz'==sz then some (m,g) else none
 |.gsl _ m sz' g _=>if sz'==sz then some (m,g) else none
 |_=>none
def U5(cx:Cx)(σ:Sy)(base src:SV)(e sz bytes:Nat)(K:Out->Prop):Prop :=
 match Mk sz src with
 |some (m,g) =>
  match base with
  |.sl (.l true) (.l 0) _ _ =>
   AppNew (cx.D.i m) bytes/\allNew (cx.D.i m) g λf' n' =>
    K ⟨.gsl (O7 .eql m (.l 0)) (.a n') sz f' (Af σ.hp),[.put (Af σ.hp) (.tail e (.a n') sz)],[],[]⟩
  |.gsl nl n sz' f h =>
   match nth σ.hp h with
   |some (.tail e' n0 sz'') =>
    if sz'==sz&&sz''==sz&&e'==e then
     Zo (cx.D.i n) (cx.D.i n0) (cx.D.i m) bytes/\Sj (cx.D.i n) (cx.D.i m) f g λf' n'=>K ⟨.gsl (U9 nl (O7 .eql m (.l 0))) (.a n') sz f' h,[.put h (.tail e (.a n') sz)],[h],[]⟩
    else False
   |_=>False
  |.osl nl n h =>
   match nth σ.hp h with
   |some (.own e' n0 sz'' gr f) =>
    if sz''==sz&&e'==e then
     Zo (cx.D.i n) (cx.D.i n0) (cx.D.i m) bytes/\Sj (cx.D.i n) (cx.D.i m) f g λf' n'=>K ⟨.osl (U9 nl (O7 .eql m (.l 0))) (.a n') h,[.put h (.own e (.a n') sz gr f')],[h],[]⟩
    else False
   |_=>False
  |.vsl nl n g0 h =>
   match nth σ.hp h with
   |some (.vec e' n0 g1 sz'' f) =>
    if sz''==sz&&e'==e then
     Zo (cx.D.i n) (cx.D.i n0) (cx.D.i m) bytes/\EqN (cx.D.i g0) (cx.D.i g1)/\Sj (cx.D.i n) (cx.D.i m) f g λf' n'=>Zk (cx.D.i g0) λg'=>K ⟨.vsl (U9 nl (O7 .eql m (.l 0))) (.a n') (.a g') h,[.put h (.vec e (.a n') (.a g') sz f')],[h],[]⟩
    else False
   |_=>False
  |_=>False
 |none=>False
def Qn(cx:Cx)(σ:Sy)(b s:SV)(t' e:Nat)(te:TI)(K:Out->Prop):Prop :=
 match b,s,look t' cx.tt with
 |.osl nl n h,.str x,some ⟨.string,_,_,_⟩ =>
  match nth σ.hp h with
  |some (.own e' n0 sz gr f)=>if e'==e&&te.size==1&&sz==1 then
    Zo (cx.D.i n) (cx.D.i n0) (cx.D.i (.len x)) te.bytes/\Sj (cx.D.i n) (cx.D.i (.len x)) f (byteRow x) λf' n'=>K ⟨.osl (U9 nl (O7 .eql (.len x) (.l 0))) (.a n') h,[.put h (.own e (.a n') 1 gr f')],[h],[]⟩
   else False
  |_=>False
 |_,_,_=>False
def chunks(sz:Nat):Nat->List SV->List (List SV)
 |0,_=>[]
 |n+1,cs=>Bf sz cs :: chunks sz n (C3 sz cs)
structure PlainC(cs:List SV):Prop where
 ones:Ed cs=true
 plain:Al.plainL cs=true
structure ZRow(f:Nat->List SV)(n sz:Nat)(cs:List SV):Prop where
 h:Vh f (chunks sz n cs)
def Aj(cx:Cx)(σ:Sy)(T:List Nat)(t:TypeId)(len:Nat)(ps:List (Nat×Operand))(K:Out->Prop):Prop :=
 match look t cx.tt,F1 cx σ T ps with
 |some ⟨.slice e,_,_,_⟩,some vs =>
  match look e cx.tt with
  |some te =>
   match N8 vs,fillS te.size (repN len te.zero) vs with
   |true,some cs =>
    if (look 999984 cx.gh).isSome&&Nat.blt 0 te.size&&Nat.ble (len * te.size) 16777216 then
     K ⟨.bsl len (Af σ.hp),[.put (Af σ.hp) (.blk e (loose.looseL (norm.normL cx.D cs)))],[],[]⟩
    else if Al (.agg (loose.looseL (norm.normL cx.D cs)))&&Nat.blt 0 te.size&&Nat.ble (len * te.size) 16777216 then
     Am4 (chunks te.size len (loose.looseL (norm.normL cx.D cs))) λf=>match (if (look (7000000+e) cx.gh).isSome then none else look 999985 cx.gh) with
      |some _=>K ⟨.osl (.l false) (.l len) (Af σ.hp),[.put (Af σ.hp) (.own e (.l len) te.size true f)],[],[]⟩
      |none=>K ⟨.gsl (.l false) (.l len) te.size f (Af σ.hp),[.put (Af σ.hp) (.tail e (.l len) te.size)],[],[]⟩
    else False
   |_,_=>False
  |none=>False
 |_,_=>False
 where
 repN:Nat->List SV->List SV
  |0,_=>[]
  |n+1,z=>z++repN n z
 fillS (sz:Nat) (cs:List SV):List (Nat×SV)->Option (List SV)
  | []=>some cs
  |(i,v) :: ps=>if Af v.cells==sz&&Nat.ble (i * sz+sz) (Af cs) then fillS sz (C7 cs (i * sz) v.cells) ps else none
def In:Operand->Operand->Bool
 |.tmp i,.tmp j=>i==j
 |_,_=>false
def S2(cx:Cx)(σ:Sy)(T:List Nat)(t:TypeId)(len cap:SV)(same:Bool)(K:Out->Prop):Prop :=
 match T,look t cx.tt with
 | [],some ⟨.slice e,_,_,_⟩ =>
  match look e cx.tt,len,cap with
  |some te,.int .i64 (.l 0),.int _ c =>
   if Nat.blt 0 te.size then
    MkFit (cx.D.i c) te.bytes/\K ⟨.gsl (.l false) (.l 0) te.size (λ_=>[]) (Af σ.hp),[.put (Af σ.hp) (.tail e (.l 0) te.size)],[],[]⟩
   else False
  |some te,.int _ n,.int _ _ =>
   if same&&Nat.blt 0 te.size then
    MkFit (cx.D.i n) te.bytes/\K ⟨.mrow (Af σ.hp),[.put (Af σ.hp) (.row e (.a (cx.D.i n)) te.size λ_=>te.zero)],[],[]⟩
   else False
  |_,_,_=>False
 |_,_=>False
def S3(cx:Cx)(σ:Sy)(T:List Nat)(t:TypeId)(dst src:SV)(K:Out->Prop):Prop :=
 match T,look t cx.tt,dst with
 | [],some ⟨.slice e,_,_,_⟩,.mrow h =>
  match nth σ.hp h,size? cx e with
  |some (.row ty n sz f),some sz'' =>
   match Mk sz src,sz''==sz with
   |some (m,g),true =>
    allCopy (cx.D.i m) (cx.D.i n) g f λf' r =>
     K ⟨.int .i64 (.a r),[.put h (.row ty n sz f')],[h],[]⟩
   |_,_=>False
  |_,_=>False
 |_,_,_=>False
def Eb(cx:Cx)(σ:Sy)(T:List Nat):Option Operand->Option (Option SV)
 |none=>some none
 |some x=>match rd cx σ T x with
  |some v=>some (some v)
  |none=>none
def G7(d:ST):Option SV->Option ST
 |none=>some d
 |some (.int _ a)=>some a
 |_=>none
def I3(cx:Cx)(σ:Sy)(T:List Nat)(t:TypeId)(x:SV)(lo hi:Option SV)(K:Out->Prop):Prop :=
 match G7 (.l 0) lo with
 |some a =>
  match x,look t cx.tt with
  |.sl nl n sz f,some ⟨.slice e,_,_,_⟩=>onRow nl n sz f e a
  |.gsl nl n sz f _,some ⟨.slice e,_,_,_⟩=>onRow nl n sz f e a
  |.osl nl n h,some ⟨.slice e,_,_,_⟩ =>
   match T,nth σ.hp h,lo,hi with
   | [],some (.own e' n0 sz _ f),none,some (.int _ b) =>
    if e'==e&&(look e cx.tt).isSome then
     EqN (cx.D.i n) (cx.D.i n0)/\SubB 0 (cx.D.i b) (cx.D.i n)/\K ⟨.sl nl (.a (cx.D.i b)) sz f,[.put h .gone],[h],[]⟩
    else False
   | [],some (.own _ n0 sz _ _),some (.int _ b),none =>
    if size? cx e=some sz then
     EqN (cx.D.i n) (cx.D.i n0)/\SubB (cx.D.i b) (cx.D.i n) (cx.D.i n)/\K ⟨.tsl n b h,[],[h],[]⟩
    else False
   |_,_,_,_=>False
  |.vsl nl n g0 h,some ⟨.slice e,_,_,_⟩ =>
   match T,nth σ.hp h,lo,hi with
   | [],some (.vec e' n0 g1 sz f),none,some (.int _ b) =>
    if e'==e&&(look e cx.tt).isSome then
     EqN (cx.D.i n) (cx.D.i n0)/\EqN (cx.D.i g0) (cx.D.i g1)/\SubB 0 (cx.D.i b) (cx.D.i n)/\Zk (cx.D.i g0) λg'=>K ⟨.vsl nl (.a (cx.D.i b)) (.a g') h,[.put h (.vec e (.a (cx.D.i b)) (.a g') sz f)],[h],[]⟩
    else False
   |_,_,_,_=>False
  |.str s,some ⟨.string,_,_,_⟩ =>
   match G7 (.len s) hi with
   |some b=>Ob cx.D σ.gm T (SubS (cx.D.i a) (cx.D.i b) s)/\allSubS s (cx.D.i a) (cx.D.i b) λr=>out K (.str r)
   |none=>False
  |_,_=>False
 |none=>False
 where onRow (nl:BT) (n:ST) (sz:Nat) (f:Nat->List SV) (e:TypeId) (a:ST):Prop :=
 match G7 n hi with
 |some b =>
  if size? cx e=some sz then
   Ob cx.D σ.gm T (SubB (cx.D.i a) (cx.D.i b) (cx.D.i n))/\allSub f (cx.D.i a) (cx.D.i b) λf' n'=>out K (.sl nl (.a n') sz f')
  else False
 |none=>False
def Ac3(i:Int)(F:Nat->Prop):Nat->Nat->Prop
 |0,_=>True
 |n+1,j=>(IsJ j i->F j)/\Ac3 i F n (j+1)
def ixT(cx:Cx)(i:ST):ST :=
 match look 999989 cx.gh with
 |some _=>(match i with
  |.a n=>.l n
  |.cv k (.a n)=>.l (k.wrap n)
  |i=>i)
 |none=>i
def G9(cx:Cx)(T:List Nat)(h off n sz:Nat)(i:ST)(K:Out->Prop):Prop :=
 match ixT cx i with
 |.l (.ofNat k)=>if Nat.blt k n then out K (.ptr h (off+k * sz)) else False
 |_=>match T with
  | []=>InB (cx.D.i i) n/\Ac3 (cx.D.i i) (λj=>out K (.ptr h (off+j * sz))) n 0
  |_=>False
def Aar(n:Int):List (Int×SV)->Bool
 | []=>true
 |(k,_) :: es=>!(k==n)&&Aar n es
def Ud:List (Int×SV)->List Int
 | []=>[]
 |(k,_) :: es=>k :: Ud es
structure Ag2(i:Int)(ks:List Int):Prop where
 h:i∈ks
structure IsK(k i:Int):Prop where
 h:i=k
def X6(i:Int)(F:SV->Prop):List (Int×SV)->Prop
 | []=>True
 |(k,v) :: es=>(IsK k i->F v)/\X6 i F es
def Ad0:Option Operand->Bool
 |none=>true
 |some (.const (.int .i64 _))=>true
 |_=>false
def Acz(cx:Cx)(σ:Sy)(T:List Nat)(o:Oper)(K:Out->Prop):Prop :=
 match o.op with
 |.move x|.assign x=>S1 cx σ T o.type x K
 |.alloc e =>
  match T,look e cx.tt with
  | [],some ti=>match look (3000000+o.dst.getD 0) cx.gh with
   |some _=>match ti.k with
    |.array n el=>match size? cx el with
     |some (sz'+1)=>if (n * (sz'+1))==ti.size&&Nat.ble n 1000000 then ∃f,ZRow f n (sz'+1) ti.zero/\K ⟨.ptr (Af σ.hp) 0,[.put (Af σ.hp) (.row e (.l n) (sz'+1) f)],[],[]⟩ else False
     |_=>False
    |_=>False
   |none=>K ⟨.ptr (Af σ.hp) 0,[.put (Af σ.hp) (.blk e ti.zero)],[],[]⟩
  |_,_=>False
 |.box e x =>
  match T,look e cx.tt,rd cx σ T x with
  | [],some ti,some v=>if Af v.cells==ti.size&&Ed v.cells then K ⟨.ptr (Af σ.hp) 0,[.put (Af σ.hp) (.blk e v.cells)],[],[]⟩ else False
  |_,_,_=>False
 |.build t ps =>
  match look t cx.tt,F1 cx σ T ps.toList with
  |some ti,some vs=>match N8 vs,Rc cx t ti.zero vs,ti.k with
   |true,some cs,.struct _=>out K (.agg cs)
   |true,some cs,.array _ e=>match size? cx e with
    |some _=>out K (.agg cs)
    |none=>False
   |_,_,_=>False
  |_,_=>False
 |.load t a =>
  match rd cx σ T a,size? cx t with
  |some (.ptr h off),some n =>
   match nth σ.hp h with
   |some (.blk _ cs)=>if Nat.ble (off+n) (Af cs) then
     match Kp (isAgg? cx t) (Bf n (C3 off cs)) with
     |some v=>K ⟨v,[],[],[(h,off,n)]⟩
     |none=>False
    else False
   |some (.row _ m sz f)=>match T,off,look t cx.tt with
    | [],0,some ⟨.array n' el,sz',_,_⟩=>if size? cx el=some sz/\n' * sz=sz' then EqN (cx.D.i m) n'/\∃cs,Ajl f (cx.D.i m) sz cs/\K ⟨.agg cs,[],[h],[]⟩ else False
    |_,_,_=>False
   |_=>False
  |some (.rptr cs),some n=>if Nat.ble n (Af cs) then Aal K (Kp (isAgg? cx t) (Bf n cs)) else False
  |some (.mptr h j off),some n =>
   match nth σ.hp h with
   |some (.row _ m _sz f)=>Ob cx.D σ.gm T (LtB j (cx.D.i m))/\
    if Nat.ble (off+n) (Af (f j)) then
     match Kp (isAgg? cx t) (Bf n (C3 off (f j))) with
     |some v=>K ⟨v,[],[h],[]⟩
     |none=>False
    else False
   |_=>False
  |some (.optr m' h j off),some n =>
   match nth σ.hp h with
   |some (.own _ m _sz _ f)=>Ob cx.D σ.gm T (EqN (cx.D.i m') (cx.D.i m))/\Ob cx.D σ.gm T (LtB j (cx.D.i m))/\
    if Nat.ble (off+n) (Af (f j)) then
     match Kp (isAgg? cx t) (Bf n (C3 off (f j))) with
     |some v=>K ⟨v,[],[h],[]⟩
     |none=>False
    else False
   |_=>False
  |_,_=>False
 |.store t a x =>
  match T,rd cx σ T a,rdT cx σ T t x,size? cx t with
  | [],some (.ptr h off),some v,some n =>
   match nth σ.hp h with
   |some (.blk _ cs)=>if Af v.cells==n&&Nat.ble (off+n) (Af cs)&&Ed v.cells then K ⟨.tup [],[.set h off v.cells],[],[]⟩ else False
   |some (.row ty m sz _)=>match off,v,look t cx.tt with
    |0,.agg cs,some ⟨.array n' el,sz',_,_⟩=>if size? cx el=some sz/\n' * sz=sz' then EqN (cx.D.i m) n'/\PlainC cs/\∃f',Ajl f' (cx.D.i m) sz cs/\K ⟨.tup [],[.put h (.row ty m sz f')],[h],[]⟩ else False
    |_,_,_=>False
   |_=>False
  | [],some (.mptr h j off),some v,some n =>
   match nth σ.hp h with
   |some (.row ty m sz f)=>LtB j (cx.D.i m)/\
    if Af v.cells==n&&Nat.ble (off+n) (Af (f j))&&Ed v.cells&&Al (.agg (loose.looseL (norm.normL cx.D v.cells))) then
     Zj f j (C7 (f j) off (loose.looseL (norm.normL cx.D v.cells))) λf'=>K ⟨.tup [],[.put h (.row ty m sz f')],[h],[]⟩
    else False
   |_=>False
  | [],some (.optr m' h j off),some v,some n =>
   match nth σ.hp h with
   |some (.own ty m sz gr f)=>EqN (cx.D.i m') (cx.D.i m)/\LtB j (cx.D.i m)/\
    if Af v.cells==n&&Nat.ble (off+n) (Af (f j))&&Ed v.cells&&Al (.agg (loose.looseL (norm.normL cx.D v.cells))) then
     Zj f j (C7 (f j) off (loose.looseL (norm.normL cx.D v.cells))) λf'=>K ⟨.tup [],[.put h (.own ty m sz gr f')],[h],[]⟩
    else False
   |_=>False
  |_,_,_,_=>False
 |.fieldAddr t x i =>
  match rd cx σ T x,field? cx t i with
  |some (.ptr h off),some (fo,ft)=>match size? cx ft with
   |some (_+1)=>out K (.ptr h (off+fo))
   |_=>False
  |some (.rptr cs),some (fo,ft)=>match size? cx ft with
   |some (m+1)=>if Nat.ble (fo+(m+1)) (Af cs) then out K (.rptr (Bf (m+1) (C3 fo cs))) else False
   |_=>False
  |some (.mptr h j off),some (fo,ft)=>match size? cx ft with
   |some (_+1)=>out K (.mptr h j (off+fo))
   |_=>False
  |some (.optr n h j off),some (fo,ft)=>match size? cx ft with
   |some (_+1)=>out K (.optr n h j (off+fo))
   |_=>False
  |_,_=>False
 |.nilCheck x =>
  match rd cx σ T x with
  |some (.ptr h off)=>out K (.ptr h off)
  |some (.rptr cs)=>out K (.rptr cs)
  |some (.mptr h j off)=>out K (.mptr h j off)
  |some (.optr n h j off)=>out K (.optr n h j off)
  |some (.rarr n sz f)=>out K (.rarr n sz f)
  |_=>False
 |.field t x i =>
  match rd cx σ T x,field? cx t i with
  |some (.agg cs),some (fo,ft)=>match size? cx ft with
   |some m=>if Nat.ble (fo+m) (Af cs) then Aal K (Kp (isAgg? cx ft) (Bf m (C3 fo cs))) else False
   |_=>False
  |_,_=>False
 |.indexAddr t x ix =>
  match rd cx σ T x,rd cx σ T ix,look t cx.tt with
  |some (.sl _ n sz f),some (.int _ i),some ⟨.slice e,_,_,_⟩ =>
   if size? cx e=some sz then
    Ob cx.D σ.gm T (InB (cx.D.i i) (cx.D.i n))/\allJ cx.D σ.gm T (cx.D.i i) λj=>out K (.rptr (f j))
   else False
  |some (.gsl _ n sz f _),some (.int _ i),some ⟨.slice e,_,_,_⟩ =>
   if size? cx e=some sz then
    Ob cx.D σ.gm T (InB (cx.D.i i) (cx.D.i n))/\allJ cx.D σ.gm T (cx.D.i i) λj=>out K (.rptr (f j))
   else False
  |some (.mrow h),some (.int _ i),some ⟨.slice e,_,_,_⟩ =>
   match nth σ.hp h with
   |some (.row _ n sz _) =>
    if size? cx e=some sz then
     Ob cx.D σ.gm T (InB (cx.D.i i) (cx.D.i n))/\allJ cx.D σ.gm T (cx.D.i i) λj=>K ⟨.mptr h j 0,[],[h],[]⟩
    else False
   |_=>False
  |some (.osl _ m h),some (.int _ i),some ⟨.slice e,_,_,_⟩ =>
   match nth σ.hp h with
   |some (.own _ n sz _ _) =>
    if size? cx e=some sz then
     Ob cx.D σ.gm T (EqN (cx.D.i m) (cx.D.i n))/\Ob cx.D σ.gm T (InB (cx.D.i i) (cx.D.i n))/\allJ cx.D σ.gm T (cx.D.i i) λj=>K ⟨.optr m h j 0,[],[h],[]⟩
    else False
   |_=>False
  |some (.bsl m h),some (.int _ i),some ⟨.slice e,_,_,_⟩ =>
   match size? cx e with
   |some sz=>G9 cx T h 0 m sz i K
   |none=>False
  |some (.ptr h off),some (.int _ i),some ⟨.array n e,_,_,_⟩ =>
   match size? cx e with
   |some sz=>match T,off,nth σ.hp h with
    | [],0,some (.row _ _ sz' _)=>if sz'==sz then InB (cx.D.i i) n/\allJ cx.D σ.gm [] (cx.D.i i) λj=>K ⟨.mptr h j 0,[],[h],[]⟩ else False
    |_,_,_=>G9 cx T h off n sz i K
   |none=>False
  |some (.rarr n sz f),some (.int _ i),some ⟨.array n' e,_,_,_⟩ =>
   if size? cx e=some sz/\n=n' then
    Ob cx.D σ.gm T (InB (cx.D.i i) n)/\allJ cx.D σ.gm T (cx.D.i i) λj=>out K (.rptr (f j))
   else False
  |_,_,_=>False
 |.makeFunc (.func f) fi cs =>
  match fi.toList,F7 cx σ T cs.toList [] with
  | [],some vs=>out K (.clo f vs)
  |fs,some []=>match F7 cx σ T fs [] with
   |some us=>out K (.bnd f us)
   |none=>False
  |_,_=>False
 |.buildSlice t len ps=>Aj cx σ T t len ps.toList K
 |.makeSlice t l c =>
  match rd cx σ T l,rd cx σ T c with
  |some a,some b=>S2 cx σ T t a b (In l c) K
  |_,_=>False
 |.slice t x lo hi none =>
  match rd cx σ T x,Eb cx σ T lo,Eb cx σ T hi with
  |some v,some a,some b=>I3 cx σ T t v a b K
  |_,_,_=>False
 |.index t x ix =>
  match rd cx σ T x,rd cx σ T ix,look t cx.tt with
  |some (.str s),some (.int _ i),some ⟨.string,_,_,_⟩ =>
   Ob cx.D σ.gm T (InS (cx.D.i i) s)/\allByte s (cx.D.i i) λc=>out K (.int .u8 (.a c))
  |some (.agg cs),some (.int _ (.l (.ofNat k))),some ⟨.array n e,_,_,_⟩ =>
   match size? cx e with
   |some sz=>if Nat.blt k n&&Nat.ble (k * sz+sz) (Af cs) then Aal K (Kp (isAgg? cx e) (Bf sz (C3 (k * sz) cs))) else False
   |none=>False
  |_,_,_=>False
 |.makeMap t r =>
  match T,look t cx.tt,Ad0 r with
  | [],some ⟨.map kt _,_,_,_⟩,true=>match look kt cx.tt with
   |some ⟨.string,_,_,_⟩=>K ⟨.mapv (Af σ.hp),[.put (Af σ.hp) (.mset λ_=>false)],[],[]⟩
   |some ⟨.int .i64,_,_,_⟩=>K ⟨.mapv (Af σ.hp),[.put (Af σ.hp) (.mint [])],[],[]⟩
   |_=>False
  |_,_,_=>False
 |.mapUpdate t m k x|.insert t m k x =>
  match T,look t cx.tt,rd cx σ T m,rd cx σ T k,rd cx σ T x with
  | [],some ⟨.map kt vt,_,_,_⟩,some (.mapv h),some (.str s),some (.bool b) =>
   match look kt cx.tt,look vt cx.tt,nth σ.hp h with
   |some ⟨.string,_,_,_⟩,some ⟨.bool,_,_,_⟩,some (.mset F)=>allMap F s (cx.D.b b) λF'=>K ⟨.tup [],[.put h (.mset F')],[h],[]⟩
   |_,_,_=>False
  | [],some ⟨.map kt _,_,_,_⟩,some (.mapv h),some (.int .i64 (.l n)),some v =>
   match look kt cx.tt,nth σ.hp h with
   |some ⟨.int .i64,_,_,_⟩,some (.mint es)=>if Aar n es then K ⟨.tup [],[.put h (.mint (es++[(n,v)]))],[h],[]⟩ else False
   |_,_=>False
  |_,_,_,_,_=>False
 |.lookup t m k false =>
  match look t cx.tt,rd cx σ T m,rd cx σ T k with
  |some ⟨.map kt vt,_,_,_⟩,some (.mapv h),some (.str s) =>
   match look kt cx.tt,look vt cx.tt,nth σ.hp h with
   |some ⟨.string,_,_,_⟩,some ⟨.bool,_,_,[.bool (.l false)]⟩,some (.mset F)=>K ⟨.bool (.a (F s)),[],[h],[]⟩
   |_,_,_=>False
  |some ⟨.map kt _,_,_,_⟩,some (.mapv h),some (.int .i64 n) =>
   match T,look kt cx.tt,nth σ.hp h with
   | [],some ⟨.int .i64,_,_,_⟩,some (.mint es)=>Ag2 (cx.D.i n) (Ud es)/\X6 (cx.D.i n) (λv=>K ⟨v,[],[h],[]⟩) es
   |_,_,_=>False
  |_,_,_=>False
 |.extract x i =>
  match rd cx σ T x with
  |some (.tup vs)=>Aal K (nth vs i)
  |_=>False
 |.unOp op _ x =>
  match op,rd cx σ T x with
  |.not,some (.bool b)=>out K (.bool (Adr b))
  |.neg,some (.int k n)=>out K (.int k (Amv .sub k (.l 0) n))
  |_,_=>False
 |.binOp op t x y _ =>
  match rd cx σ T x,rd cx σ T y with
  |some a,some (.raw _)=>X4 cx op t a y K
  |some a,some b=>X5 cx σ.gm T op t a b K
  |_,_=>False
 |.convert src dst x =>
  match rd cx σ T x,look dst cx.tt,look src cx.tt with
  |some (.int _ n),some ⟨.int k,_,_,_⟩,some _=>out K (.int k (.cv k n))
  |some (.str s),some ⟨.slice e,_,_,_⟩,some ⟨.string,_,_,_⟩ =>
   match look e cx.tt with
   |some ⟨.int .u8,_,_,_⟩=>match look 999983 cx.gh with
    |some _=>match T with
     | []=>SFit s/\Aco s λf=>K ⟨.osl (.l false) (.len s) (Af σ.hp),[.put (Af σ.hp) (.own e (.len s) 1 false f)],[],[]⟩
     |_=>False
    |none=>Ob cx.D σ.gm T (SFit s)/\Aco s λf=>out K (.sl (.l false) (.len s) 1 f)
   |_=>False
  |some (.sl _ n 1 f),some ⟨.string,_,_,_⟩,some ⟨.slice e,_,_,_⟩=>R9 cx σ T e n f K
  |some (.gsl _ n 1 f _),some ⟨.string,_,_,_⟩,some ⟨.slice e,_,_,_⟩=>R9 cx σ T e n f K
  |some (.osl (.l false) n h),some ⟨.slice e,_,_,_⟩,some ⟨.slice e',_,_,_⟩ =>
   match T,look e cx.tt,nth σ.hp h with
   | [],some ⟨.int .u8,_,_,_⟩,some (.own ty n0 1 true f)=>if e'==e&&src==dst&&ty==e then
     EqN (cx.D.i n) (cx.D.i n0)/\K ⟨.osl (.l false) n h,[.put h (.own e n0 1 false f)],[h],[]⟩ else False
   |_,_,_=>False
  |some (.osl _ n h),some ⟨.string,_,_,_⟩,some ⟨.slice e,_,_,_⟩ =>
   match T,look e cx.tt,nth σ.hp h with
   | [],some ⟨.int .u8,_,_,_⟩,some (.own _ n0 1 _ f)=>EqN (cx.D.i n) (cx.D.i n0)/\Fi (cx.D.i n0) f/\Aev (cx.D.i n0) f λr=>K ⟨.str r,[],[h],[]⟩
   |_,_,_=>False
  |some (.vsl _ n g h),some ⟨.string,_,_,_⟩,some ⟨.slice e,_,_,_⟩ =>
   match T,look e cx.tt,nth σ.hp h with
   | [],some ⟨.int .u8,_,_,_⟩,some (.vec _ n0 g0 1 f)=>EqN (cx.D.i n) (cx.D.i n0)/\EqN (cx.D.i g) (cx.D.i g0)/\Fi (cx.D.i n0) f/\Aev (cx.D.i n0) f λr=>K ⟨.str r,[],[h],[]⟩
   |_,_,_=>False
  |_,_,_=>False
 |.call c =>
  match c.callee with
  |.builtin .len =>
   match c.args.toList,c.argTypes.toList with
   | [x],[t] =>
    match rd cx σ T x,look t cx.tt with
    |some (.sl _ n _ _),some ⟨.slice _,_,_,_⟩=>out K (.int .i64 n)
    |some (.gsl _ n _ _ _),some ⟨.slice _,_,_,_⟩=>out K (.int .i64 n)
    |some (.osl _ n _),some ⟨.slice _,_,_,_⟩=>out K (.int .i64 n)
    |some (.vsl _ n _ _),some ⟨.slice _,_,_,_⟩=>out K (.int .i64 n)
    |some (.bsl n _),some ⟨.slice _,_,_,_⟩=>out K (.int .i64 (.l n))
    |some (.str s),some ⟨.string,_,_,_⟩=>out K (.int .i64 (.len s))
    |some (.mrow h),some ⟨.slice _,_,_,_⟩=>match nth σ.hp h with
     |some (.row _ n _ _)=>K ⟨.int .i64 n,[],[h],[]⟩
     |_=>False
    |_,_=>False
   |_,_=>False
  |.builtin .append =>
   match T,c.args.toList,c.argTypes.toList with
   | [],[x,y],[t,t'] =>
    match rd cx σ T x,rd cx σ T y,look t cx.tt with
    |some b,some s,some ⟨.slice e,_,_,_⟩ =>
     match look e cx.tt with
     |some te=>if t==t'&&Nat.blt 0 te.size then U5 cx σ b s e te.size te.bytes K else Qn cx σ b s t' e te K
     |none=>False
    |_,_,_=>False
   |_,_,_=>False
  |.builtin .clear =>
   match T,c.args.toList,c.argTypes.toList with
   | [],[x],[t] =>
    match rd cx σ T x,look t cx.tt with
    |some (.tsl n a h),some ⟨.slice e,_,_,_⟩ =>
     match nth σ.hp h,look e cx.tt with
     |some (.own e' n0 sz gr f),some te =>
      if e'==e&&te.size==sz&&Al (.agg te.zero) then
       EqN (cx.D.i n) (cx.D.i n0)/\allClr f (cx.D.i a) te.zero λf'=>K ⟨.tup [],[.put h (.own e n0 sz gr f')],[h],[]⟩
      else False
     |_,_=>False
    |_,_=>False
   |_,_,_=>False
  |.builtin .copy =>
   match c.args.toList,c.argTypes.toList with
   | [x,y],[t,_] =>
    match rd cx σ T x,rd cx σ T y with
    |some d,some s=>S3 cx σ T t d s K
    |_,_=>False
   |_,_=>False
  |.builtin .max =>
   match c.args.toList with
   | [x,y] =>
    match rd cx σ T x,rd cx σ T y with
    |some (.int k a),some (.int k' b)=>if k=k' then allMax (cx.D.i a) (cx.D.i b) λr=>out K (.int k (.a r)) else False
    |_,_=>False
   |_=>False
  |.builtin .min =>
   match c.args.toList with
   | [x,y] =>
    match rd cx σ T x,rd cx σ T y with
    |some (.int k a),some (.int k' b)=>if k=k' then allMin (cx.D.i a) (cx.D.i b) λr=>out K (.int k (.a r)) else False
    |_,_=>False
   |_=>False
  |.value (.func f) =>
   match F7 cx σ T c.args.toList c.argTypes.toList with
   |some vs=>I4 cx σ T f vs K
   |none=>False
  |.value (.tmp s) =>
   match F7 cx σ T c.args.toList c.argTypes.toList,rd cx σ T (.tmp s) with
   |some vs,some (.fn f)=>I4 cx σ T f vs K
   |some vs,some (.clo f cs)=>I4 cx σ T f (vs++cs) K
   |some vs,some (.bnd f us)=>I4 cx σ T f (us++vs) K
   |_,_=>False
  |_=>False
 |_=>False
def S0(cx:Cx)(σ:Sy)(T:List Nat)(c a b:Operand)(K:Out->Prop):Prop :=
 match c with
 |.tmp s =>
  match Au σ.fr s with
  |some ⟨tg,_,_,.bool (.l true)⟩=>if Vj tg T then Aal K (rd cx σ T a) else False
  |some ⟨tg,_,_,.bool (.l false)⟩=>if Vj tg T then Aal K (rd cx σ T b) else False
  |some ⟨tg,gt,gf,.bool ct⟩ =>
   if Vj tg T then
    match rd cx σ (gt.toList++T) a,rd cx σ (gf.toList++T) b with
    |some (.bool x),some (.bool (.l false))=>out K (.bool (.and ct x))
    |some (.bool (.l true)),some (.bool y)=>out K (.bool (.or ct y))
    |_,_=>False
   else False
  |_=>False
 |_=>False
def Gy(ops:List Oper)(σ:Sy):Option (Nat×Bool)->Option (Option (Sy×List Nat))
 |none=>some (some (σ,[]))
 |some (j,want) =>
  match nth ops j with
  |some oj=>match oj.dst with
   |some s=>match Au σ.fr s with
    |some ⟨tg,_,_,.bool (.l b)⟩=>if b==want then some (some (σ,tg)) else some none
    |some ⟨tg,gt,gf,.bool c⟩ =>
     if want then
      match gt with
      |some i=>some (some (σ,i :: tg))
      |none=>some (some (⟨Ax σ.fr s (some ⟨tg,some (Af σ.gm),gf,.bool c⟩),σ.hp,σ.gm++[c]⟩,Af σ.gm :: tg))
     else
      match gf with
      |some i=>some (some (σ,i :: tg))
      |none=>some (some (⟨Ax σ.fr s (some ⟨tg,gt,some (Af σ.gm),.bool c⟩),σ.hp,σ.gm++[.not c]⟩,Af σ.gm :: tg))
    |_=>none
   |none=>none
  |none=>none
def Jf(hp:List Hl):List Ef->Bool
 | []=>true
 |.set h off vs :: es=>Jf (efH hp (.set h off vs)) es
 |.put h hl :: es=>Nat.ble h (Af hp)&&Jf (efH hp (.put h hl)) es
def setD(fr:List (Option G))(d:Option Nat)(g:Option G):List (Option G) :=
 match d with
 |some s=>Ax fr s g
 |none=>fr
def Nn(cx:Cx)(σ:Sy)(T:List Nat)(op:Op):Option (Nat×Call) :=
 match op with
 |.call c=>match c.callee with
  |.value (.tmp s)=>match rd cx σ T (.tmp s) with
   |some (.yv h)=>some (h,c)
   |_=>none
  |_=>none
 |_=>none
def Lx(cx:Cx)(σ:Sy)(T:List Nat)(h:Nat)(c:Call)(K:Out->Prop):Prop :=
 match F7 cx σ T c.args.toList c.argTypes.toList,cx.yl with
 |some vs,[Y]=>Fp cx σ [] (.yv h :: vs) Y K
 |_,_=>False
def Ns(cx:Cx)(σ:Sy)(T:List Nat)(o:Oper)(K:Out->Prop):Prop :=
 match o.op with
 |.pick c a b=>S0 cx σ T c a b K
 |_=>match Nn cx σ T o.op with
  |some (h,c)=>Lx cx σ T h c K
  |none=>Acz cx σ T o K
structure FP where
 rds:List Nat
 rdc:List (Nat×Nat×Nat)
 wr:List (Nat×Option (Nat×Nat))
def efW:List Ef->List (Nat×Option (Nat×Nat))
 | []=>[]
 |.set h off vs :: es=>(h,some (off,Af vs)) :: efW es
 |.put h _ :: es=>(h,none) :: efW es
def Wa(r:Out):FP:=⟨r.rds,r.rdc,efW r.efs⟩
def Aap(o:Oper):Bool:=match o.op with
 |.defer _=>false
 |_=>true
def Ze(cx:Cx)(op:Op):Option SV:=match op with
 |.buildSlice t _ _=>match look t cx.tt with
  |some ⟨.slice e,_,_,_⟩=>match look e cx.tt with
   |some te=>some (.sl (.l true) (.l 0) te.size λ_=>[])
   |none=>none
  |_=>none
 |_=>none
def Eo(cx:Cx)(all:List Oper):List Oper->List FP->Sy->(List FP->Sy->Prop)->Prop
 | [],fs,σ,K=>K fs σ
 |o :: os,fs,σ,K =>
  match Gy all σ o.guard with
  |none=>False
  |some none=>Eo cx all os (fs++[⟨[],[],[]⟩]) ⟨setD σ.fr o.dst none,σ.hp,σ.gm⟩ K
  |some (some (σ,T)) =>
   match Nn cx σ T o.op,T with
   |some (h,c),[i]=>match nth σ.gm i with
    |some b=>(cx.D.b b=true->Lx cx σ [i] h c λr=>if Jf σ.hp r.efs then Eo cx all os (fs++[Wa r]) ⟨setD σ.fr o.dst (some ⟨[i],none,none,r.v⟩),Ll σ.hp r.efs,σ.gm⟩ K else False)/\
      (cx.D.b b=false->Eo cx all os (fs++[Wa ⟨.bool (.l true),[],[],[]⟩]) ⟨setD σ.fr o.dst (some ⟨[i],none,none,.bool (.l true)⟩),σ.hp,σ.gm⟩ K)
    |none=>False
   |_,_=>match Ze cx o.op,T with
    |some d,[i]=>match nth σ.gm i with
     |some b=>(cx.D.b b=true->Ns cx σ [i] o λr=>if Jf σ.hp r.efs then Eo cx all os (fs++[Wa r]) ⟨setD σ.fr o.dst (some ⟨[i],none,none,r.v⟩),Ll σ.hp r.efs,σ.gm⟩ K else False)/\
       (cx.D.b b=false->Eo cx all os (fs++[Wa ⟨d,[],[],[]⟩]) ⟨setD σ.fr o.dst (some ⟨[i],none,none,d⟩),σ.hp,σ.gm⟩ K)
     |none=>False
    |some d,[i,j]=>match nth σ.gm i,nth σ.gm j with
     |some b,some c=>((cx.D.b b&&cx.D.b c)=true->Ns cx σ [i,j] o λr=>if Jf σ.hp r.efs then Eo cx all os (fs++[Wa r]) ⟨setD σ.fr o.dst (some ⟨[i,j],none,none,r.v⟩),Ll σ.hp r.efs,σ.gm⟩ K else False)/\
       ((cx.D.b b&&cx.D.b c)=false->Eo cx all os (fs++[Wa ⟨d,[],[],[]⟩]) ⟨setD σ.fr o.dst (some ⟨[i,j],none,none,d⟩),σ.hp,σ.gm⟩ K)
     |_,_=>False
    |_,_=>Ns cx σ T o λr=>if Jf σ.hp r.efs&&(T.isEmpty||r.efs.isEmpty)&&Aap o then Eo cx all os (fs++[Wa r]) ⟨setD σ.fr o.dst (some ⟨T,none,none,r.v⟩),Ll σ.hp r.efs,σ.gm⟩ K else False
def Ak2:Operand->List Nat
 |.tmp s=>[s]
 |_=>[]
def X7:List Operand->List Nat
 | []=>[]
 |x :: xs=>Ak2 x++X7 xs
def P8(all:List Oper):Option (Nat×Bool)->List Nat
 |none=>[]
 |some (j,_)=>match nth all j with
  |some oj=>match oj.dst with
   |some s=>[s]
   |none=>[]
  |none=>[]
def looks(all:List Oper)(o:Oper):List Nat:=X7 o.op.operands.toList++P8 all o.guard
def Pt:List Nat->List Nat->Bool
 | [],_=>false
 |x :: l,t=>Kr x t||Pt l t
def Vq:Option Nat->List Nat
 |some x=>[x]
 |none=>[]
def Cy:Nat×Option (Nat×Nat)->Nat×Option (Nat×Nat)->Bool
 |(h,a),(k,b)=>h==k&&match a,b with
  |some (x,m),some (y,n)=>Nat.blt x (y+n)&&Nat.blt y (x+m)
  |_,_=>true
def anyR(x:Nat×Option (Nat×Nat)):List (Nat×Option (Nat×Nat))->Bool
 | []=>false
 |y :: l=>Cy x y||anyR x l
def Ps:List (Nat×Option (Nat×Nat))->List (Nat×Option (Nat×Nat))->Bool
 | [],_=>false
 |x :: l,t=>anyR x t||Ps l t
def rdR(f:FP):List (Nat×Option (Nat×Nat)):=(f.rds.map λh=>(h,none))++f.rdc.map λx=>(x.1,some (x.2.1,x.2.2))
def Ab9(all:List Oper)(o:Oper)(f:FP)(o':Oper)(f':FP):Bool :=
 Pt (Vq o.dst) (looks all o')||Pt (Vq o.dst) (Vq o'.dst)||Pt (Vq o'.dst) (looks all o)||Ps f.wr (rdR f')||Ps f.wr f'.wr||Ps f'.wr (rdR f)
def Am5(x:Nat)(l:List Nat):List Nat:=if Kr x l then l else x :: l
def Acv:List Nat->List Nat->List Nat
 | [],t=>t
 |x :: l,t=>Acv l (Am5 x t)
def Df:List Edge->List Nat
 | []=>[]
 |e :: es=>(match e.ground with|.textOnly _|.gcOnly _=>[]|_=>[e.on])++Df es
def Qm(acc:List (List Nat)):List Nat->List Nat
 | []=>[]
 |i :: l=>Acv (Am5 i ((nth acc i).getD [])) (Qm acc l)
def Ie:List Oper->List (List Nat)->List (List Nat)
 | [],acc=>acc
 |o :: os,acc=>Ie os (acc++[Qm acc (Df o.after.toList)])
def Yj(n:Nat):List Nat->Bool
 | []=>true
 |x :: l=>Nat.blt x n&&Yj n l
def G3:List Oper->Nat->Bool
 | [],_=>true
 |o :: os,n=>Yj n (Df o.after.toList)&&G3 os (n+1)
def L8(all:List Oper)(bs:List (List Nat))(i:Nat)(o:Oper)(f:FP):List Oper->List FP->Nat->Bool
 |o' :: os,f' :: fs,j=>(!(Ab9 all o f o' f')||Kr i ((nth bs j).getD []))&&L8 all bs i o f os fs (j+1)
 |_,_,_=>true
def Ue(all:List Oper)(bs:List (List Nat)):List Oper->List FP->Nat->Bool
 |o :: os,f :: fs,i=>L8 all bs i o f os fs (i+1)&&Ue all bs os fs (i+1)
 |_,_,_=>true
structure IndepOk(ops:List Oper)(fs:List FP):Prop where
 h:(G3 ops 0&&Ue ops (Ie ops []) ops fs 0)=true
def tidy:List (Option G)->List (Option G)
 | []=>[]
 |some ⟨[],_,_,v⟩ :: l=>some ⟨[],none,none,v⟩ :: tidy l
 |_ :: l=>none :: tidy l
def thaw(h:Nat)(x:SV):SV->SV
 |.mrow k=>if k==h then x else .mrow k
 |.agg cs=>.agg (thawL h x cs)
 |.tup cs=>.tup (thawL h x cs)
 |.clo f cs=>.clo f (thawL h x cs)
 |.bnd f cs=>.bnd f (thawL h x cs)
 |v=>v
 where thawL (h:Nat) (x:SV):List SV->List SV
 | []=>[]
 |c :: cs=>thaw h x c :: thawL h x cs
def E8(h:Nat)(x:SV):List (Option G)->List (Option G)
 | []=>[]
 |some ⟨tg,gt,gf,v⟩ :: l=>some ⟨tg,gt,gf,thaw h x v⟩ :: E8 h x l
 |none :: l=>none :: E8 h x l
def Zv(h:Nat)(x:SV):List Hl->List Hl
 | []=>[]
 |.blk ty cs :: ls=>.blk ty (thaw.thawL h x cs) :: Zv h x ls
 |l :: ls=>l :: Zv h x ls
def Ej(cx:Cx)(σ:Sy):Gh->Option Sy
 |.hold s k e=>match Au σ.fr s with
  |some ⟨[],_,_,.ptr h 0⟩=>match nth σ.hp h with
   |some (.blk T cs)=>match nth cs k,size? cx e with
    |some (.sl (.l true) (.l 0) sz f),some sz'=>if sz'==sz then some ⟨σ.fr,Ax σ.hp h (.blk T (Ax cs k (.gsl (.l true) (.l 0) sz f (Af σ.hp))))++[.tail e (.l 0) sz],σ.gm⟩ else none
    |_,_=>none
   |_=>none
  |_=>none
 |.freeze s=>match Au σ.fr s with
  |some ⟨[],_,_,.mrow h⟩=>match nth σ.hp h with
   |some (.row _ n sz f)=>some ⟨E8 h (.sl (.l false) n sz f) σ.fr,Ax (Zv h (.sl (.l false) n sz f) σ.hp) h .gone,σ.gm⟩
   |_=>none
  |_=>none
 |.attach s e=>match Au σ.fr s with
  |some ⟨[],_,_,.sl (.l true) (.l 0) sz f⟩=>match size? cx e with
   |some sz'=>if sz'==sz then some ⟨Ax σ.fr s (some ⟨[],none,none,.gsl (.l true) (.l 0) sz f (Af σ.hp)⟩),σ.hp++[.tail e (.l 0) sz],σ.gm⟩ else none
   |none=>none
  |_=>none
 |.own s e=>match Au σ.fr s with
  |some ⟨[],_,_,.sl (.l true) (.l 0) sz f⟩=>match size? cx e with
   |some sz'=>if sz'==sz then some ⟨Ax σ.fr s (some ⟨[],none,none,.osl (.l true) (.l 0) (Af σ.hp)⟩),σ.hp++[.own e (.l 0) sz true f],σ.gm⟩ else none
   |none=>none
  |_=>none
 |.share s=>match Au σ.fr s with
  |some ⟨[],_,_,.osl nl n h⟩=>match nth σ.hp h with
   |some (.own _ _ sz _ f)=>some ⟨Ax σ.fr s (some ⟨[],none,none,.sl nl n sz f⟩),Ax σ.hp h .gone,σ.gm⟩
   |_=>none
  |_=>none
 |.bld s e=>match Au σ.fr s with
  |some ⟨[],_,_,.ptr h 0⟩=>match nth σ.hp h with
   |some (.blk T [.nilp,.sl (.l true) (.l 0) 1 _])=>some ⟨σ.fr,Ax σ.hp h (.bld T e []),σ.gm⟩
   |_=>none
  |_=>none
 |.tot _=>none
 |.frz _=>none
 |.unrow _=>none
 |.vnil ..=>none
 |.vmov ..=>none
 |.blit _=>none
 |.ilit _=>none
 |.vec s e=>match Au σ.fr s with
  |some ⟨[],_,_,.sl (.l true) (.l 0) sz f⟩=>match size? cx e with
   |some sz'=>if sz'==sz then some ⟨Ax σ.fr s (some ⟨[],none,none,.vsl (.l true) (.l 0) (.l 0) (Af σ.hp)⟩),σ.hp++[.vec e (.l 0) (.l 0) sz f],σ.gm⟩ else none
   |none=>none
  |_=>none
 |.vecb s k e=>match Au σ.fr s with
  |some ⟨[],_,_,.ptr h 0⟩=>match nth σ.hp h with
   |some (.blk T cs)=>match nth cs k,size? cx e with
    |some (.sl (.l true) (.l 0) sz f),some sz'=>if sz'==sz then some ⟨σ.fr,Ax σ.hp h (.blk T (Ax cs k (.vsl (.l true) (.l 0) (.l 0) (Af σ.hp))))++[.vec e (.l 0) (.l 0) sz f],σ.gm⟩ else none
    |_,_=>none
   |_=>none
  |_=>none
 |.vshare s=>match Au σ.fr s with
  |some ⟨[],_,_,.vsl nl n _ h⟩=>match nth σ.hp h with
   |some (.vec _ _ _ sz f)=>some ⟨Ax σ.fr s (some ⟨[],none,none,.sl nl n sz f⟩),Ax σ.hp h .gone,σ.gm⟩
   |_=>none
  |_=>none
 |.vshareb s k=>match Au σ.fr s with
  |some ⟨[],_,_,.ptr hb 0⟩=>match nth σ.hp hb with
   |some (.blk T cs)=>match nth cs k with
    |some (.vsl nl n _ h)=>match nth σ.hp h with
     |some (.vec _ _ _ sz f)=>some ⟨σ.fr,Ax (Ax σ.hp hb (.blk T (Ax cs k (.sl nl n sz f)))) h .gone,σ.gm⟩
     |_=>none
    |_=>none
   |_=>none
  |_=>none
def Ajo(σ:Sy)(s:Nat):Option (BT×ST×Nat×(Nat->List SV)) :=
 match Au σ.fr s with
 |some ⟨[],_,_,.sl nl n sz f⟩=>some (nl,n,sz,f)
 |some ⟨[],_,_,.gsl nl n sz f _⟩=>some (nl,n,sz,f)
 |_=>none
def Al0(cx:Cx)(σ:Sy)(s:Nat):Option (Nat×Nat×List (List SV)×Nat) :=
 match Au σ.fr s with
 |some ⟨[],_,_,.ptr h 0⟩=>match nth σ.hp h with
  |some (.blk T cs)=>match look T cx.tt with
   |some ⟨.array n e,_,_,_⟩=>match size? cx e with
    |some sz=>if Af cs==n * sz&&Al.plainL cs then some (n,sz,chunks sz n cs,h) else none
    |none=>none
   |_=>none
  |_=>none
 |_=>none
def X2(σ:Sy)(s:Nat):Option (TypeId×ST×Nat×(Nat->List SV)×Nat) :=
 match Au σ.fr s with
 |some ⟨[],_,_,.ptr h 0⟩=>match nth σ.hp h with
  |some (.row ty n sz f)=>some (ty,n,sz,f,h)
  |_=>none
 |_=>none
structure BIs(x b:Bool):Prop where
 h:x=b
structure IIs(x n:Int):Prop where
 h:x=n
def Aer(σ:Sy)(s:Nat):Option BT :=
 match Au σ.fr s with
 |some ⟨[],_,_,.bool c⟩=>some c
 |_=>none
def Ad4(σ:Sy)(s:Nat):Option (IntKind×ST) :=
 match Au σ.fr s with
 |some ⟨[],_,_,.int k c⟩=>some (k,c)
 |_=>none
def Acq(σ:Sy)(s k h:Nat):Option (Nat×TypeId×List SV×TypeId×ST×Nat×(Nat->List SV)) :=
 match Au σ.fr s with
 |some ⟨[],_,_,.ptr hb 0⟩=>match nth σ.hp hb,nth σ.hp h with
  |some (.blk T cs),some (.vec e _ g sz _)=>match nth cs k with
   |some (.sl (.l true) (.l 0) sz' f)=>if sz'==sz then some (hb,T,cs,e,g,sz,f) else none
   |_=>none
  |_,_=>none
 |_=>none
def Acr(σ:Sy)(s k h:Nat):Option (Nat×TypeId×List SV×Nat×BT×ST×ST×TypeId×ST×Nat×(Nat->List SV)) :=
 match Au σ.fr s with
 |some ⟨[],_,_,.ptr hb 0⟩=>match nth σ.hp hb,nth σ.hp h with
  |some (.blk T cs),some (.vec e _ g sz _)=>match nth cs k with
   |some (.osl nl n h2)=>match nth σ.hp h2 with
    |some (.own e' n0 sz' _ f)=>if sz'==sz&&e'==e then some (hb,T,cs,h2,nl,n,n0,e,g,sz,f) else none
    |_=>none
   |_=>none
  |_,_=>none
 |_=>none
def M6(cx:Cx)(σ:Sy):Gh->Prop
 |.share s=>match Au σ.fr s with
  |some ⟨[],_,_,.osl _ n h⟩=>match nth σ.hp h with
   |some (.own _ n0 _ _ _)=>EqN (cx.D.i n) (cx.D.i n0)
   |_=>False
  |_=>False
 |.vshare s=>match Au σ.fr s with
  |some ⟨[],_,_,.vsl _ n g0 h⟩=>match nth σ.hp h with
   |some (.vec _ n0 g1 _ _)=>EqN (cx.D.i n) (cx.D.i n0)/\EqN (cx.D.i g0) (cx.D.i g1)
   |_=>False
  |_=>False
 |.vshareb s k=>match Au σ.fr s with
  |some ⟨[],_,_,.ptr hb 0⟩=>match nth σ.hp hb with
   |some (.blk _ cs)=>match nth cs k with
    |some (.vsl _ n g0 h)=>match nth σ.hp h with
     |some (.vec _ n0 g1 _ _)=>EqN (cx.D.i n) (cx.D.i n0)/\EqN (cx.D.i g0) (cx.D.i g1)
     |_=>False
    |_=>False
   |_=>False
  |_=>False
 |_=>True
def ghosts(cx:Cx):List Gh->Sy->(Sy->Prop)->Prop
 | [],σ,K=>K σ
 |g :: gs,σ,K=>match g with
  |.tot s=>match Ajo σ s with
   |some (nl,n,sz,f)=>∃f2,RowAs (cx.D.i n) f2 f/\ghosts cx gs ⟨Ax σ.fr s (some ⟨[],none,none,.sl nl n sz f2⟩),σ.hp,σ.gm⟩ K
   |none=>False
  |.frz s=>match Al0 cx σ s with
   |some (n,sz,rows,h)=>∃f,Vh f rows/\ghosts cx gs ⟨Ax σ.fr s (some ⟨[],none,none,.rarr n sz f⟩),Ax σ.hp h .gone,σ.gm⟩ K
   |none=>False
  |.unrow s=>match X2 σ s with
   |some (ty,n,sz,f,h)=>∃cs,Ajl f (cx.D.i n) sz cs/\ghosts cx gs ⟨σ.fr,Ax σ.hp h (.blk ty cs),σ.gm⟩ K
   |none=>False
  |.blit s=>match Aer σ s with
   |some c=>∃b,BIs (cx.D.b c) b/\ghosts cx gs ⟨Ax σ.fr s (some ⟨[],none,none,.bool (.l b)⟩),σ.hp,σ.gm⟩ K
   |none=>False
  |.ilit s=>match Ad4 σ s with
   |some (k,c)=>∃n,IIs (cx.D.i c) n/\ghosts cx gs ⟨Ax σ.fr s (some ⟨[],none,none,.int k (.l n)⟩),σ.hp,σ.gm⟩ K
   |none=>False
  |.vnil s k h=>match Acq σ s k h with
   |some (hb,T,cs,e,g,sz,f)=>Zk (cx.D.i g) λg'=>ghosts cx gs ⟨σ.fr,Ax (Ax σ.hp hb (.blk T (Ax cs k (.vsl (.l true) (.l 0) (.a g') h)))) h (.vec e (.l 0) (.a g') sz f),σ.gm⟩ K
   |none=>False
  |.vmov s k h=>match Acr σ s k h with
   |some (hb,T,cs,h2,nl,n,n0,e,g,sz,f)=>EqN (cx.D.i n) (cx.D.i n0)/\Zk (cx.D.i g) λg'=>ghosts cx gs ⟨σ.fr,Ax (Ax (Ax σ.hp hb (.blk T (Ax cs k (.vsl nl n (.a g') h)))) h (.vec e n0 (.a g') sz f)) h2 .gone,σ.gm⟩ K
   |none=>False
  |g=>M6 cx σ g/\match Ej cx σ g with
   |some σ=>ghosts cx gs σ K
   |none=>False
def ghostK(cx:Cx)(id:Nat)(σ:Sy)(K:Sy->Prop):Prop :=
 match look id cx.gh with
 |none=>K σ
 |some l=>ghosts cx l σ K
inductive Ex where
 |normal
 |exit (id:Nat)
 |goto (l:Nat)
 |ret
def Oc:List (Nat×Option SV)->List (Option G)->List (Option G)
 | [],fr=>fr
 |(i,v) :: l,fr=>Oc l (Ax fr i (v.map λv=>⟨[],none,none,v⟩))
def Lp{α:Type}:List α->List (Option G)
 | []=>[]
 |_ :: l=>none :: Lp l
def By(n:Nat):SV->Bool
 |.ptr h _=>Nat.blt h n
 |.gsl _ _ _ _ h=>Nat.blt h n
 |.mrow h=>Nat.blt h n
 |.mptr h _ _=>Nat.blt h n
 |.osl _ _ h=>Nat.blt h n
 |.optr _ h _ _=>Nat.blt h n
 |.mapv h=>Nat.blt h n
 |.bsl _ h=>Nat.blt h n
 |.vsl _ _ _ h=>Nat.blt h n
 |.tsl _ _ h=>Nat.blt h n
 |.yv h=>Nat.blt h n
 |.agg cs=>belowL n cs
 |.tup cs=>belowL n cs
 |.clo _ cs=>belowL n cs
 |.bnd _ cs=>belowL n cs
 |_=>true
 where belowL (n:Nat):List SV->Bool
 | []=>true
 |c :: cs=>By n c&&belowL n cs
def Nj(n:Nat):List (Nat×Option SV)->Bool
 | []=>true
 |(_,some v) :: l=>By n v&&Nj n l
 |(_,none) :: l=>Nj n l
def Zf(n:Nat):List (Int×SV)->Bool
 | []=>true
 |(_,v) :: l=>By n v&&Zf n l
def Dx(n:Nat):List Hl->Bool
 | []=>true
 |.blk _ cs :: ls=>By n (.agg cs)&&Dx n ls
 |.lrec _ fr _ _ :: ls=>Nj n fr&&Dx n ls
 |.mint es :: ls=>Zf n es&&Dx n ls
 |_ :: ls=>Dx n ls
def Ga(D:Dn)(n:Nat)(fr:List (Option G)):List Nat->List (Option SV)
 | []=>[]
 |i :: l=>(match Au fr i with|some ⟨[],_,_,v⟩=>(if By n v then some (norm D v) else none)|_=>none) :: Ga D n fr l
def Gb(D:Dn):List Hl->List Hl
 | []=>[]
 |.blk ty cs :: ls=>.blk ty (norm.normL D cs) :: Gb D ls
 |.tail ty n sz :: ls=>.tail ty (.a (D.i n)) sz :: Gb D ls
 |.row ty n sz f :: ls=>.row ty (.a (D.i n)) sz f :: Gb D ls
 |.own ty n sz gr f :: ls=>.own ty (.a (D.i n)) sz gr f :: Gb D ls
 |.vec ty n g sz f :: ls=>.vec ty (.a (D.i n)) (.a (D.i g)) sz f :: Gb D ls
 |l :: ls=>l :: Gb D ls
def Ko{α:Type}:List Nat->List (Option α)->List (Nat×Option α)
 |i :: l,v :: vs=>(i,v) :: Ko l vs
 |_,_=>[]
def know(σ:Sy)(c:Operand)(b:Bool):Sy :=
 match c with
 |.tmp s=>⟨Ax σ.fr s (some ⟨[],none,none,.bool (.l b)⟩),σ.hp,σ.gm⟩
 |_=>σ
end Go.Sx
