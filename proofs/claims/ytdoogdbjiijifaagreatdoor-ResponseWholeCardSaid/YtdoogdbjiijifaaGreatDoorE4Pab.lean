/- Part of the proofs of the statements about responses and messages (layers 9 and 10): a symbolic executor over the code, that it is sound, and contracts of functions; it has no conditions of its own. -/
import Derived.Test.YtdoogdbjiijifaaGreatDoorE4Paa
namespace Go.Sx
def out (K : Out->Prop) (v : SV) : Prop:=K ⟨v,[],[],[]⟩
def Zg (K : Out->Prop) : Option SV->Prop
 | some v=>K ⟨v,[],[],[]⟩
 | none=>False
def Aks : BinOp->Bool
 | .add | .sub | .mul | .and | .or | .xor | .andNot=>true
 | _=>false
def Ajo : BinOp->Bool
 | .eql | .neq | .lss | .leq | .gtr | .geq=>true
 | _=>false
def N6 (op : BinOp) : ST->ST->BT
 | .l m,.l n=>.l (Bw op m n)
 | x,y=>.cmp op x y
def Acc : BT->BT
 | .l b=>.l (!b)
 | x=>.not x
def Akn (op : BinOp) (k : IntKind) : ST->ST->ST
 | .l m,.l n=>.l (Eh op k m n)
 | x,y=>.bin op k x y
def Uc : BT->BT->BT
 | .l true,y=>y
 | x,.l true=>x
 | x,y=>.and x y
def Akd (cx : Cx) (g : TypeId->List SV->List SV->Option BT) (xs ys : List SV) : List (Nat×TypeId)->Option BT
 | []=>some (.l true)
 | (fo,ft) :: fs =>
  match size? cx ft with
  | some m=>match g ft (Ba m (Cr fo xs)) (Ba m (Cr fo ys)),Akd cx g xs ys fs with
   | some a,some b=>some (Uc a b)
   | _,_=>none
  | none=>none
def Ac1 (cx : Cx) : Nat->TypeId->List SV->List SV->Option BT
 | 0,_,_,_=>none
 | n + 1,t,xs,ys =>
  match look t cx.tt with
  | some ⟨.int _,_,_,_⟩=>match xs,ys with
   | [.int k a],[.int k' b]=>if k = k' then some (N6 .eql a b) else none
   | _,_=>none
  | some ⟨.bool,_,_,_⟩=>match xs,ys with
   | [.bool a],[.bool b]=>some (.beq a b)
   | _,_=>none
  | some ⟨.string,_,_,_⟩=>match xs,ys with
   | [.str a],[.str b]=>some (.seq a b)
   | _,_=>none
  | some ⟨.struct fs,_,_,_⟩=>if J3 t cx.eqs then Akd cx (Ac1 cx n) xs ys fs else none
  | _=>none
def seqS (cx : Cx) (a b : List UInt8) : BT :=
 match look 999984 cx.gh with
 | some _=>.l (a == b)
 | none=>.seq a b
def nlOf : SV->Option BT
 | .sl nl _ _ _=>some nl
 | .gsl nl _ _ _ _=>some nl
 | .osl nl _ _=>some nl
 | .vsl nl _ _ _=>some nl
 | _=>none
def Ai6 (op : BinOp) (b : BT) (K : Out->Prop) : Prop :=
 match op with
 | .eql=>out K (.bool b)
 | .neq=>out K (.bool (Acc b))
 | _=>False
def Ajr : SV->Option BT
 | .ifc b=>some b
 | .raw .nilIface=>some (.l true)
 | _=>none
def Wz (cx : Cx) (op : BinOp) (t : TypeId) (x : SV) (y : Operand) (K : Out->Prop) : Prop :=
 match y,Ajr x,look t cx.tt with
 | .const .nilIface,some b,some ⟨.iface,_,_,_⟩=>Ai6 op b K
 | _,_,_=>False
def W0 (cx : Cx) (gm : List BT) (T : List Nat) (op : BinOp) (t : TypeId) (x y : SV) (K : Out->Prop) : Prop :=
 match x,y with
 | .int k a,.int k' b =>
  if Aks op then (if k = k' then out K (.int k (Akn op k a b)) else False)
  else if Ajo op then (if k = k' then out K (.bool (N6 op a b)) else False)
  else match op with
   | .quo | .rem=>if k = k' then Ob cx.D gm T (NZ (cx.D.i b))/\out K (.int k (.bin op k a b)) else False
   | .shl | .shr=>Ob cx.D gm T (NN (cx.D.i b))/\out K (.int k (.bin op k a b))
   | _=>False
 | .bool a,.bool b =>
  match op,look t cx.tt with
  | .eql,some ⟨.bool,_,_,_⟩=>out K (.bool (.beq a b))
  | .neq,some ⟨.bool,_,_,_⟩=>out K (.bool (.not (.beq a b)))
  | _,_=>False
 | .str a,.str b =>
  match op with
  | .add=>Ob cx.D gm T (StrFit a b)/\allCat a b fun r=>out K (.str r)
  | .eql=>out K (.bool (seqS cx a b))
  | .neq=>out K (.bool (Acc (seqS cx a b)))
  | _=>False
 | .agg a,.agg b =>
  match op,J3 t cx.eqs && isAgg? cx t,Ac1 cx 8 t a b with
  | .eql,true,some c=>out K (.bool c)
  | .neq,true,some c=>out K (.bool (Acc c))
  | _,_,_=>False
 | x,.sl (.l true) (.l 0) 0 _ =>
  match nlOf x,look t cx.tt with
  | some nl,some ⟨.slice _,_,_,_⟩=>Ai6 op nl K
  | _,_=>False
 | _,_=>False
def Ak : SV->Bool
 | .ptr .. | .gsl .. | .mrow .. | .mptr .. | .clo .. | .bnd .. | .osl .. | .optr .. | .mapv .. | .bsl .. | .yv .. | .vsl .. | .tsl ..=>false
 | .agg cs=>plainL cs
 | .tup cs=>plainL cs
 | _=>true
 where plainL : List SV->Bool
 | []=>true
 | c :: cs=>Ak c && plainL cs
def Vp : Hl->Bool
 | .blk .. | .bld ..=>true
 | _=>false
def Ze : Hl->Bool
 | .own ..=>true
 | _=>false
def Jl (hp : List Hl) : List SV->Nat->Option (List SV×List Nat×List Hl)
 | [],_=>some ([],[],[])
 | .ptr h off :: vs,n=>match nth hp h,Jl hp vs (n + 1) with
  | some l,some (as,hs,ls)=>if Vp l && !J3 h hs then some (.ptr n off :: as,h :: hs,l :: ls) else none
  | _,_=>none
 | v :: vs,n=>match Ak v,Jl hp vs n with
  | true,some (as,hs,ls)=>some (v :: as,hs,ls)
  | _,_=>none
def X9 : List Nat->List Nat->Bool
 | [],_=>true
 | x :: l,t=>!J3 x t && X9 l t
def Ey (hp : List Hl) : List SV->Nat->Option (List SV×List Nat×List Hl)
 | [],_=>some ([],[],[])
 | .ptr h off :: vs,n=>match nth hp h,Ey hp vs (n + 1) with
  | some l,some (as,hs,ls)=>if Vp l && !J3 h hs then some (.ptr n off :: as,h :: hs,l :: ls) else none
  | _,_=>none
 | .osl nl m h :: vs,n=>match nth hp h,Ey hp vs (n + 1) with
  | some l,some (as,hs,ls)=>if Ze l && !J3 h hs then some (.osl nl m n :: as,h :: hs,l :: ls) else none
  | _,_=>none
 | .clo f cs :: vs,n=>match Jl hp cs n with
  | some (as1,hs1,ls1)=>match Ey hp vs (n + Ae hs1) with
   | some (as,hs,ls)=>if X9 hs1 hs then some (.clo f as1 :: as,hs1 ++ hs,ls1 ++ ls) else none
   | none=>none
  | none=>none
 | v :: vs,n=>match Ak v,Ey hp vs n with
  | true,some (as,hs,ls)=>some (v :: as,hs,ls)
  | _,_=>none
def Do : List Nat->List Hl->List Ef
 | h :: hs,l :: ls=>.put h l :: Do hs ls
 | _,_=>[]
def F6 : List Hl->Bool
 | []=>true
 | .blk _ cs :: ls=>Ak (.agg cs) && F6 ls
 | .own .. :: ls=>F6 ls
 | .bld .. :: ls=>F6 ls
 | .gone :: ls=>F6 ls
 | _ :: _=>false
def normH (D : Dn) : List Hl->List Hl
 | []=>[]
 | .blk ty cs :: ls=>.blk ty (looseL (norm.normL D cs)) :: normH D ls
 | .own ty n sz gr f :: ls=>.own ty (.a (D.i n)) sz gr f :: normH D ls
 | l :: ls=>l :: normH D ls
 where looseL:=loose.looseL
def Hf (m m' : Nat) : SV->Bool
 | .osl _ _ h=>Nat.ble m h && Nat.blt h m'
 | .tup vs=>resL m m' vs
 | v=>Ak v
 where resL (m m' : Nat) : List SV->Bool
 | []=>true
 | c :: cs=>Hf m m' c && resL m m' cs
def reV (m a : Nat) : SV->SV
 | .osl nl n h=>.osl nl n (h - m + a)
 | .tup vs=>.tup (reL m a vs)
 | v=>v
 where reL (m a : Nat) : List SV->List SV
 | []=>[]
 | c :: cs=>reV m a c :: reL m a cs
def Eg : Nat->List Hl->List Ef
 | _,[]=>[]
 | a,l :: ls=>.put a l :: Eg (a + 1) ls
structure SLe (r : List UInt8) (n : Int) : Prop where
 h : (r.length : Int)<=n\/r = []
def Q6 (cx : Cx) (σ : Sy) (T : List Nat) (e : TypeId) (n : ST) (f : Nat->List SV) (K : Out->Prop) : Prop :=
 match T,look e cx.tt with
 | [],some ⟨.int .u8,_,_,_⟩=>Ez (cx.D.i n) f/\Add (cx.D.i n) f fun r=>out K (.str r)
 | T,some ⟨.int .u8,_,_,_⟩=>Ob cx.D σ.gm T (Ez (cx.D.i n) f)/\∀ r,SLe r (cx.D.i n)->Ob cx.D σ.gm T (Jn r (cx.D.i n) f)->out K (.str r)
 | _,_=>False
def hsV : SV->List Nat
 | .ptr h _=>[h]
 | .gsl _ _ _ _ h=>[h]
 | .osl _ _ h=>[h]
 | .optr _ h _ _=>[h]
 | .mapv h=>[h]
 | .bsl _ h=>[h]
 | .vsl _ _ _ h=>[h]
 | .tsl _ _ h=>[h]
 | .yv h=>[h]
 | .agg cs=>hsL cs
 | .tup cs=>hsL cs
 | .clo _ cs=>hsL cs
 | .bnd _ cs=>hsL cs
 | _=>[]
 where hsL : List SV->List Nat
 | []=>[]
 | c :: cs=>hsV c ++ hsL cs
def hsF : List (Nat×Option SV)->List Nat
 | []=>[]
 | (_,some v) :: l=>hsV v ++ hsF l
 | (_,none) :: l=>hsF l
def hsH : Hl->List Nat
 | .blk _ cs=>hsV.hsL cs
 | .lrec _ fr _ _=>hsF fr
 | _=>[]
def rnV (ρ : Nat->Nat) : SV->SV
 | .ptr h o=>.ptr (ρ h) o
 | .gsl nl n sz f h=>.gsl nl n sz f (ρ h)
 | .osl nl n h=>.osl nl n (ρ h)
 | .optr n h j o=>.optr n (ρ h) j o
 | .mapv h=>.mapv (ρ h)
 | .bsl n h=>.bsl n (ρ h)
 | .vsl nl n g h=>.vsl nl n g (ρ h)
 | .tsl n a h=>.tsl n a (ρ h)
 | .yv h=>.yv (ρ h)
 | .agg cs=>.agg (rnL ρ cs)
 | .tup cs=>.tup (rnL ρ cs)
 | .clo f cs=>.clo f (rnL ρ cs)
 | .bnd f cs=>.bnd f (rnL ρ cs)
 | v=>v
 where rnL (ρ : Nat->Nat) : List SV->List SV
 | []=>[]
 | c :: cs=>rnV ρ c :: rnL ρ cs
def rnF (ρ : Nat->Nat) : List (Nat×Option SV)->List (Nat×Option SV)
 | []=>[]
 | (s,some v) :: l=>(s,some (rnV ρ v)) :: rnF ρ l
 | (s,none) :: l=>(s,none) :: rnF ρ l
def rnH (ρ : Nat->Nat) : Hl->Hl
 | .blk ty cs=>.blk ty (rnV.rnL ρ cs)
 | .lrec c fr st pd=>.lrec c (rnF ρ fr) st pd
 | l=>l
def Bz : SV->Bool
 | .mrow _=>false
 | .mptr ..=>false
 | .agg cs=>rowlessL cs
 | .tup cs=>rowlessL cs
 | .clo _ cs=>rowlessL cs
 | .bnd _ cs=>rowlessL cs
 | _=>true
 where rowlessL : List SV->Bool
 | []=>true
 | c :: cs=>Bz c && rowlessL cs
def Ii : List (Nat×Option SV)->Bool
 | []=>true
 | (_,some v) :: l=>Bz v && Ii l
 | (_,none) :: l=>Ii l
def Cz : Hl->Bool
 | .blk _ cs=>Bz.rowlessL cs
 | .lrec _ fr _ _=>Ii fr
 | .tail ..=>true
 | .own ..=>true
 | .bld ..=>true
 | .mset ..=>true
 | .vec ..=>true
 | .gone=>true
 | _=>false
def normG (D : Dn) : Hl->Hl
 | .blk ty cs=>.blk ty (norm.normL D cs)
 | .tail ty n sz=>.tail ty (.a (D.i n)) sz
 | .own ty n sz gr f=>.own ty (.a (D.i n)) sz gr f
 | .vec ty n g sz f=>.vec ty (.a (D.i n)) (.a (D.i g)) sz f
 | l=>l
def K3 : List Nat->List Nat->List Nat
 | acc,[]=>acc
 | acc,h :: t=>K3 (if J3 h acc then acc else acc ++ [h]) t
def growG (hp : List Hl) (acc : List Nat) : List Nat->List Nat
 | []=>acc
 | h :: t=>growG hp (match nth hp h with | some l=>K3 acc (hsH l) | none=>acc) t
def So (hp : List Hl) : List Hl->List Nat->List Nat
 | [],acc=>acc
 | _ :: t,acc=>So hp t (growG hp acc acc)
def Hg : List Nat->Nat->Nat
 | [],_=>0
 | x :: l,h=>if x == h then 0 else Hg l h + 1
def Ud (t : List Nat) : List Nat->Bool
 | []=>true
 | x :: l=>J3 x t && Ud t l
def On : List Nat->Bool
 | []=>true
 | x :: l=>!J3 x l && On l
def Zs (n : Nat) : List Nat->Bool
 | []=>true
 | x :: l=>Nat.blt x n && Zs n l
def To (D : Dn) (hp : List Hl) : List Nat->List Hl
 | []=>[]
 | h :: t=>(match nth hp h with | some l=>normG D l | none=>.gone) :: To D hp t
def Uv (g : Hl->Hl) : List Hl->List Hl
 | []=>[]
 | l :: ls=>g l :: Uv g ls
def Le (hs : List Nat) : List Hl->Bool
 | []=>true
 | l :: ls=>Cz l && Ud hs (hsH l) && Le hs ls
def Ai1 (n : Nat) : List Hl->Bool
 | []=>true
 | l :: ls=>Cz l && Zs n (hsH l) && Ai1 n ls
def Cf (hs : List Nat) (m M i : Nat) : Nat:=if Nat.blt i m then (match nth hs i with | some k=>k | none=>0) else M + (i - m)
def Fb (cx : Cx) (σ : Sy) (T : List Nat) (vs0 : List SV) (sp : FSpec) (K : Out->Prop) : Prop :=
 match loose.looseL (norm.normL cx.D vs0) with
 | vs =>
  match So σ.hp σ.hp (K3 [] (hsV.hsL vs)) with
  | hs =>
   match To cx.D σ.hp hs with
   | ls =>
    if On hs && Ud hs (hsV.hsL vs) && Bz.rowlessL vs && Zs (Ae σ.hp) hs && Le hs ls && (hs.isEmpty || T.isEmpty) then
     sp cx.D (rnV.rnL (Hg hs) vs) (Uv (rnH (Hg hs)) ls) fun r ls' =>
      (Nat.ble (Ae hs) (Ae ls') && Bz r && Zs (Ae ls') (hsV r) && Ai1 (Ae ls') ls') = true/\
      K ⟨rnV (Cf hs (Ae hs) (Ae σ.hp)) r,Do hs (Uv (rnH (Cf hs (Ae hs) (Ae σ.hp))) (Ba (Ae hs) ls')) ++ Eg (Ae σ.hp) (Uv (rnH (Cf hs (Ae hs) (Ae σ.hp))) (Cr (Ae hs) ls')),hs,[]⟩
    else False
def Id (cx : Cx) (σ : Sy) (T : List Nat) (f : FuncId) (vs : List SV) (K : Out->Prop) : Prop :=
 match look (f + 1000000) cx.tab with
 | some sp=>Fb cx σ T vs sp K
 | none =>
 match look f cx.tab,Ey σ.hp (loose.looseL (norm.normL cx.D vs)) 0 with
 | some sp,some (as,hs,ls) =>
  if F6 (normH cx.D ls) && (hs.isEmpty || T.isEmpty) && Nat.blt f 1000000 then
   sp cx.D as (normH cx.D ls) fun r ls'=>Hf (Ae ls) (Ae ls') r = true/\F6 ls' = true/\Nat.ble (Ae ls) (Ae ls') = true/\
    K ⟨reV (Ae ls) (Ae σ.hp) r,Do hs (Ba (Ae ls) ls') ++ Eg (Ae σ.hp) (Cr (Ae ls) ls'),hs,[]⟩
  else False
 | _,_=>False
def M8 : List (Nat×SV)->Bool
 | []=>true
 | p :: ps=>D0 p.2.cells && M8 ps
def Rx (cx : Cx) (σ : Sy) (T : List Nat) (ty : TypeId) (x : Operand) (K : Out->Prop) : Prop :=
 match x with
 | .const (.slice none 0 0) =>
  match look ty cx.tt with
  | some ⟨.slice e,_,_,_⟩=>match size? cx e with
   | some n=>out K (.sl (.l true) (.l 0) n fun _=>[])
   | none=>False
  | _=>False
 | x=>Zg K (rd cx σ T x)
def Lp (sz : Nat) : SV->Option (ST×(Nat->List SV))
 | .sl _ m sz' g=>if sz' == sz then some (m,g) else none
 | .gsl _ m sz' g _=>if sz' == sz then some (m,g) else none
 | _=>none
def T9 (cx : Cx) (σ : Sy) (base src : SV) (e sz bytes : Nat) (K : Out->Prop) : Prop :=
 match Lp sz src with
 | some (m,g) =>
  match base with
  | .sl (.l true) (.l 0) _ _ =>
   AppNew (cx.D.i m) bytes/\allNew (cx.D.i m) g fun f' n' =>
    K ⟨.gsl (N6 .eql m (.l 0)) (.a n') sz f' (Ae σ.hp),[.put (Ae σ.hp) (.tail e (.a n') sz)],[],[]⟩
  | .gsl nl n sz' f h =>
   match nth σ.hp h with
   | some (.tail e' n0 sz'') =>
    if sz' == sz && sz'' == sz && e' == e then
     Ye (cx.D.i n) (cx.D.i n0) (cx.D.i m) bytes/\Ri (cx.D.i n) (cx.D.i m) f g fun f' n'=>K ⟨.gsl (Uc nl (N6 .eql m (.l 0))) (.a n') sz f' h,[.put h (.tail e (.a n') sz)],[h],[]⟩
    else False
   | _=>False
  | .osl nl n h =>
   match nth σ.hp h with
   | some (.own e' n0 sz'' gr f) =>
    if sz'' == sz && e' == e then
     Ye (cx.D.i n) (cx.D.i n0) (cx.D.i m) bytes/\Ri (cx.D.i n) (cx.D.i m) f g fun f' n'=>K ⟨.osl (Uc nl (N6 .eql m (.l 0))) (.a n') h,[.put h (.own e (.a n') sz gr f')],[h],[]⟩
    else False
   | _=>False
  | .vsl nl n g0 h =>
   match nth σ.hp h with
   | some (.vec e' n0 g1 sz'' f) =>
    if sz'' == sz && e' == e then
     Ye (cx.D.i n) (cx.D.i n0) (cx.D.i m) bytes/\EqN (cx.D.i g0) (cx.D.i g1)/\Ri (cx.D.i n) (cx.D.i m) f g fun f' n'=>Yb (cx.D.i g0) fun g'=>K ⟨.vsl (Uc nl (N6 .eql m (.l 0))) (.a n') (.a g') h,[.put h (.vec e (.a n') (.a g') sz f')],[h],[]⟩
    else False
   | _=>False
  | _=>False
 | none=>False
def Pn (cx : Cx) (σ : Sy) (b s : SV) (t' e : Nat) (te : TI) (K : Out->Prop) : Prop :=
 match b,s,look t' cx.tt with
 | .osl nl n h,.str x,some ⟨.string,_,_,_⟩ =>
  match nth σ.hp h with
  | some (.own e' n0 sz gr f)=>if e' == e && te.size == 1 && sz == 1 then
    Ye (cx.D.i n) (cx.D.i n0) (cx.D.i (.len x)) te.bytes/\Ri (cx.D.i n) (cx.D.i (.len x)) f (byteRow x) fun f' n'=>K ⟨.osl (Uc nl (N6 .eql (.len x) (.l 0))) (.a n') h,[.put h (.own e (.a n') 1 gr f')],[h],[]⟩
   else False
  | _=>False
 | _,_,_=>False
def chunks (sz : Nat) : Nat->List SV->List (List SV)
 | 0,_=>[]
 | n + 1,cs=>Ba sz cs :: chunks sz n (Cr sz cs)
structure PlainC (cs : List SV) : Prop where
 ones : D0 cs = true
 plain : Ak.plainL cs = true
structure ZRow (f : Nat->List SV) (n sz : Nat) (cs : List SV) : Prop where
 h : Uk f (chunks sz n cs)
def Aj (cx : Cx) (σ : Sy) (T : List Nat) (t : TypeId) (len : Nat) (ps : List (Nat×Operand)) (K : Out->Prop) : Prop :=
 match look t cx.tt,Fo cx σ T ps with
 | some ⟨.slice e,_,_,_⟩,some vs =>
  match look e cx.tt with
  | some te =>
   match M8 vs,fillS te.size (repN len te.zero) vs with
   | true,some cs =>
    if (look 999984 cx.gh).isSome && Nat.blt 0 te.size && Nat.ble (len * te.size) 16777216 then
     K ⟨.bsl len (Ae σ.hp),[.put (Ae σ.hp) (.blk e (loose.looseL (norm.normL cx.D cs)))],[],[]⟩
    else if Ak (.agg (loose.looseL (norm.normL cx.D cs))) && Nat.blt 0 te.size && Nat.ble (len * te.size) 16777216 then
     Akt (chunks te.size len (loose.looseL (norm.normL cx.D cs))) fun f=>match (if (look (7000000 + e) cx.gh).isSome then none else look 999985 cx.gh) with
      | some _=>K ⟨.osl (.l false) (.l len) (Ae σ.hp),[.put (Ae σ.hp) (.own e (.l len) te.size true f)],[],[]⟩
      | none=>K ⟨.gsl (.l false) (.l len) te.size f (Ae σ.hp),[.put (Ae σ.hp) (.tail e (.l len) te.size)],[],[]⟩
    else False
   | _,_=>False
  | none=>False
 | _,_=>False
 where
 repN : Nat->List SV->List SV
  | 0,_=>[]
  | n + 1,z=>z ++ repN n z
 fillS (sz : Nat) (cs : List SV) : List (Nat×SV)->Option (List SV)
  | []=>some cs
  | (i,v) :: ps=>if Ae v.cells == sz && Nat.ble (i * sz + sz) (Ae cs) then fillS sz (Cu cs (i * sz) v.cells) ps else none
def H0 : Operand->Operand->Bool
 | .tmp i,.tmp j=>i == j
 | _,_=>false
def Ry (cx : Cx) (σ : Sy) (T : List Nat) (t : TypeId) (len cap : SV) (same : Bool) (K : Out->Prop) : Prop :=
 match T,look t cx.tt with
 | [],some ⟨.slice e,_,_,_⟩ =>
  match look e cx.tt,len,cap with
  | some te,.int .i64 (.l 0),.int _ c =>
   if Nat.blt 0 te.size then
    MkFit (cx.D.i c) te.bytes/\K ⟨.gsl (.l false) (.l 0) te.size (fun _=>[]) (Ae σ.hp),[.put (Ae σ.hp) (.tail e (.l 0) te.size)],[],[]⟩
   else False
  | some te,.int _ n,.int _ _ =>
   if same && Nat.blt 0 te.size then
    MkFit (cx.D.i n) te.bytes/\K ⟨.mrow (Ae σ.hp),[.put (Ae σ.hp) (.row e (.a (cx.D.i n)) te.size fun _=>te.zero)],[],[]⟩
   else False
  | _,_,_=>False
 | _,_=>False
def Rz (cx : Cx) (σ : Sy) (T : List Nat) (t : TypeId) (dst src : SV) (K : Out->Prop) : Prop :=
 match T,look t cx.tt,dst with
 | [],some ⟨.slice e,_,_,_⟩,.mrow h =>
  match nth σ.hp h,size? cx e with
  | some (.row ty n sz f),some sz'' =>
   match Lp sz src,sz'' == sz with
   | some (m,g),true =>
    allCopy (cx.D.i m) (cx.D.i n) g f fun f' r =>
     K ⟨.int .i64 (.a r),[.put h (.row ty n sz f')],[h],[]⟩
   | _,_=>False
  | _,_=>False
 | _,_,_=>False
def Dz (cx : Cx) (σ : Sy) (T : List Nat) : Option Operand->Option (Option SV)
 | none=>some none
 | some x=>match rd cx σ T x with
  | some v=>some (some v)
  | none=>none
def Gl (d : ST) : Option SV->Option ST
 | none=>some d
 | some (.int _ a)=>some a
 | _=>none
def Ic (cx : Cx) (σ : Sy) (T : List Nat) (t : TypeId) (x : SV) (lo hi : Option SV) (K : Out->Prop) : Prop :=
 match Gl (.l 0) lo with
 | some a =>
  match x,look t cx.tt with
  | .sl nl n sz f,some ⟨.slice e,_,_,_⟩=>onRow nl n sz f e a
  | .gsl nl n sz f _,some ⟨.slice e,_,_,_⟩=>onRow nl n sz f e a
  | .osl nl n h,some ⟨.slice e,_,_,_⟩ =>
   match T,nth σ.hp h,lo,hi with
   | [],some (.own e' n0 sz _ f),none,some (.int _ b) =>
    if e' == e && (look e cx.tt).isSome then
     EqN (cx.D.i n) (cx.D.i n0)/\SubB 0 (cx.D.i b) (cx.D.i n)/\K ⟨.sl nl (.a (cx.D.i b)) sz f,[.put h .gone],[h],[]⟩
    else False
   | [],some (.own _ n0 sz _ _),some (.int _ b),none =>
    if size? cx e = some sz then
     EqN (cx.D.i n) (cx.D.i n0)/\SubB (cx.D.i b) (cx.D.i n) (cx.D.i n)/\K ⟨.tsl n b h,[],[h],[]⟩
    else False
   | _,_,_,_=>False
  | .vsl nl n g0 h,some ⟨.slice e,_,_,_⟩ =>
   match T,nth σ.hp h,lo,hi with
   | [],some (.vec e' n0 g1 sz f),none,some (.int _ b) =>
    if e' == e && (look e cx.tt).isSome then
     EqN (cx.D.i n) (cx.D.i n0)/\EqN (cx.D.i g0) (cx.D.i g1)/\SubB 0 (cx.D.i b) (cx.D.i n)/\Yb (cx.D.i g0) fun g'=>K ⟨.vsl nl (.a (cx.D.i b)) (.a g') h,[.put h (.vec e (.a (cx.D.i b)) (.a g') sz f)],[h],[]⟩
    else False
   | _,_,_,_=>False
  | .str s,some ⟨.string,_,_,_⟩ =>
   match Gl (.len s) hi with
   | some b=>Ob cx.D σ.gm T (SubS (cx.D.i a) (cx.D.i b) s)/\allSubS s (cx.D.i a) (cx.D.i b) fun r=>out K (.str r)
   | none=>False
  | _,_=>False
 | none=>False
 where onRow (nl : BT) (n : ST) (sz : Nat) (f : Nat->List SV) (e : TypeId) (a : ST) : Prop :=
 match Gl n hi with
 | some b =>
  if size? cx e = some sz then
   Ob cx.D σ.gm T (SubB (cx.D.i a) (cx.D.i b) (cx.D.i n))/\allSub f (cx.D.i a) (cx.D.i b) fun f' n'=>out K (.sl nl (.a n') sz f')
  else False
 | none=>False
def Abs (i : Int) (F : Nat->Prop) : Nat->Nat->Prop
 | 0,_=>True
 | n + 1,j=>(IsJ j i->F j)/\Abs i F n (j + 1)
def ixT (cx : Cx) (i : ST) : ST :=
 match look 999989 cx.gh with
 | some _=>(match i with
  | .a n=>.l n
  | .cv k (.a n)=>.l (k.wrap n)
  | i=>i)
 | none=>i
def Gq (cx : Cx) (T : List Nat) (h off n sz : Nat) (i : ST) (K : Out->Prop) : Prop :=
 match ixT cx i with
 | .l (.ofNat k)=>if Nat.blt k n then out K (.ptr h (off + k * sz)) else False
 | _=>match T with
  | []=>InB (cx.D.i i) n/\Abs (cx.D.i i) (fun j=>out K (.ptr h (off + j * sz))) n 0
  | _=>False
def Zl (n : Int) : List (Int×SV)->Bool
 | []=>true
 | (k,_) :: es=>!(k == n) && Zl n es
def Tj : List (Int×SV)->List Int
 | []=>[]
 | (k,_) :: es=>k :: Tj es
structure Afa (i : Int) (ks : List Int) : Prop where
 h : i∈ks
structure IsK (k i : Int) : Prop where
 h : i = k
def W2 (i : Int) (F : SV->Prop) : List (Int×SV)->Prop
 | []=>True
 | (k,v) :: es=>(IsK k i->F v)/\W2 i F es
def Acl : Option Operand->Bool
 | none=>true
 | some (.const (.int .i64 _))=>true
 | _=>false
def Abp (cx : Cx) (σ : Sy) (T : List Nat) (o : Oper) (K : Out->Prop) : Prop :=
 match o.op with
 | .move x | .assign x=>Rx cx σ T o.type x K
 | .alloc e =>
  match T,look e cx.tt with
  | [],some ti=>match look (3000000 + o.dst.getD 0) cx.gh with
   | some _=>match ti.k with
    | .array n el=>match size? cx el with
     | some (sz' + 1)=>if (n * (sz' + 1)) == ti.size && Nat.ble n 1000000 then ∃ f,ZRow f n (sz' + 1) ti.zero/\K ⟨.ptr (Ae σ.hp) 0,[.put (Ae σ.hp) (.row e (.l n) (sz' + 1) f)],[],[]⟩ else False
     | _=>False
    | _=>False
   | none=>K ⟨.ptr (Ae σ.hp) 0,[.put (Ae σ.hp) (.blk e ti.zero)],[],[]⟩
  | _,_=>False
 | .box e x =>
  match T,look e cx.tt,rd cx σ T x with
  | [],some ti,some v=>if Ae v.cells == ti.size && D0 v.cells then K ⟨.ptr (Ae σ.hp) 0,[.put (Ae σ.hp) (.blk e v.cells)],[],[]⟩ else False
  | _,_,_=>False
 | .build t ps =>
  match look t cx.tt,Fo cx σ T ps.toList with
  | some ti,some vs=>match M8 vs,Qh cx t ti.zero vs,ti.k with
   | true,some cs,.struct _=>out K (.agg cs)
   | true,some cs,.array _ e=>match size? cx e with
    | some _=>out K (.agg cs)
    | none=>False
   | _,_,_=>False
  | _,_=>False
 | .load t a =>
  match rd cx σ T a,size? cx t with
  | some (.ptr h off),some n =>
   match nth σ.hp h with
   | some (.blk _ cs)=>if Nat.ble (off + n) (Ae cs) then
     match J0 (isAgg? cx t) (Ba n (Cr off cs)) with
     | some v=>K ⟨v,[],[],[(h,off,n)]⟩
     | none=>False
    else False
   | some (.row _ m sz f)=>match T,off,look t cx.tt with
    | [],0,some ⟨.array n' el,sz',_,_⟩=>if size? cx el = some sz/\n' * sz = sz' then EqN (cx.D.i m) n'/\∃ cs,Ahn f (cx.D.i m) sz cs/\K ⟨.agg cs,[],[h],[]⟩ else False
    | _,_,_=>False
   | _=>False
  | some (.rptr cs),some n=>if Nat.ble n (Ae cs) then Zg K (J0 (isAgg? cx t) (Ba n cs)) else False
  | some (.mptr h j off),some n =>
   match nth σ.hp h with
   | some (.row _ m _sz f)=>Ob cx.D σ.gm T (LtB j (cx.D.i m))/\
    if Nat.ble (off + n) (Ae (f j)) then
     match J0 (isAgg? cx t) (Ba n (Cr off (f j))) with
     | some v=>K ⟨v,[],[h],[]⟩
     | none=>False
    else False
   | _=>False
  | some (.optr m' h j off),some n =>
   match nth σ.hp h with
   | some (.own _ m _sz _ f)=>Ob cx.D σ.gm T (EqN (cx.D.i m') (cx.D.i m))/\Ob cx.D σ.gm T (LtB j (cx.D.i m))/\
    if Nat.ble (off + n) (Ae (f j)) then
     match J0 (isAgg? cx t) (Ba n (Cr off (f j))) with
     | some v=>K ⟨v,[],[h],[]⟩
     | none=>False
    else False
   | _=>False
  | _,_=>False
 | .store t a x =>
  match T,rd cx σ T a,rdT cx σ T t x,size? cx t with
  | [],some (.ptr h off),some v,some n =>
   match nth σ.hp h with
   | some (.blk _ cs)=>if Ae v.cells == n && Nat.ble (off + n) (Ae cs) && D0 v.cells then K ⟨.tup [],[.set h off v.cells],[],[]⟩ else False
   | some (.row ty m sz _)=>match off,v,look t cx.tt with
    | 0,.agg cs,some ⟨.array n' el,sz',_,_⟩=>if size? cx el = some sz/\n' * sz = sz' then EqN (cx.D.i m) n'/\PlainC cs/\∃ f',Ahn f' (cx.D.i m) sz cs/\K ⟨.tup [],[.put h (.row ty m sz f')],[h],[]⟩ else False
    | _,_,_=>False
   | _=>False
  | [],some (.mptr h j off),some v,some n =>
   match nth σ.hp h with
   | some (.row ty m sz f)=>LtB j (cx.D.i m)/\
    if Ae v.cells == n && Nat.ble (off + n) (Ae (f j)) && D0 v.cells && Ak (.agg (loose.looseL (norm.normL cx.D v.cells))) then
     Ya f j (Cu (f j) off (loose.looseL (norm.normL cx.D v.cells))) fun f'=>K ⟨.tup [],[.put h (.row ty m sz f')],[h],[]⟩
    else False
   | _=>False
  | [],some (.optr m' h j off),some v,some n =>
   match nth σ.hp h with
   | some (.own ty m sz gr f)=>EqN (cx.D.i m') (cx.D.i m)/\LtB j (cx.D.i m)/\
    if Ae v.cells == n && Nat.ble (off + n) (Ae (f j)) && D0 v.cells && Ak (.agg (loose.looseL (norm.normL cx.D v.cells))) then
     Ya f j (Cu (f j) off (loose.looseL (norm.normL cx.D v.cells))) fun f'=>K ⟨.tup [],[.put h (.own ty m sz gr f')],[h],[]⟩
    else False
   | _=>False
  | _,_,_,_=>False
 | .fieldAddr t x i =>
  match rd cx σ T x,field? cx t i with
  | some (.ptr h off),some (fo,ft)=>match size? cx ft with
   | some (_ + 1)=>out K (.ptr h (off + fo))
   | _=>False
  | some (.rptr cs),some (fo,ft)=>match size? cx ft with
   | some (m + 1)=>if Nat.ble (fo + (m + 1)) (Ae cs) then out K (.rptr (Ba (m + 1) (Cr fo cs))) else False
   | _=>False
  | some (.mptr h j off),some (fo,ft)=>match size? cx ft with
   | some (_ + 1)=>out K (.mptr h j (off + fo))
   | _=>False
  | some (.optr n h j off),some (fo,ft)=>match size? cx ft with
   | some (_ + 1)=>out K (.optr n h j (off + fo))
   | _=>False
  | _,_=>False
 | .nilCheck x =>
  match rd cx σ T x with
  | some (.ptr h off)=>out K (.ptr h off)
  | some (.rptr cs)=>out K (.rptr cs)
  | some (.mptr h j off)=>out K (.mptr h j off)
  | some (.optr n h j off)=>out K (.optr n h j off)
  | some (.rarr n sz f)=>out K (.rarr n sz f)
  | _=>False
 | .field t x i =>
  match rd cx σ T x,field? cx t i with
  | some (.agg cs),some (fo,ft)=>match size? cx ft with
   | some m=>if Nat.ble (fo + m) (Ae cs) then Zg K (J0 (isAgg? cx ft) (Ba m (Cr fo cs))) else False
   | _=>False
  | _,_=>False
 | .indexAddr t x ix =>
  match rd cx σ T x,rd cx σ T ix,look t cx.tt with
  | some (.sl _ n sz f),some (.int _ i),some ⟨.slice e,_,_,_⟩ =>
   if size? cx e = some sz then
    Ob cx.D σ.gm T (InB (cx.D.i i) (cx.D.i n))/\allJ cx.D σ.gm T (cx.D.i i) fun j=>out K (.rptr (f j))
   else False
  | some (.gsl _ n sz f _),some (.int _ i),some ⟨.slice e,_,_,_⟩ =>
   if size? cx e = some sz then
    Ob cx.D σ.gm T (InB (cx.D.i i) (cx.D.i n))/\allJ cx.D σ.gm T (cx.D.i i) fun j=>out K (.rptr (f j))
   else False
  | some (.mrow h),some (.int _ i),some ⟨.slice e,_,_,_⟩ =>
   match nth σ.hp h with
   | some (.row _ n sz _) =>
    if size? cx e = some sz then
     Ob cx.D σ.gm T (InB (cx.D.i i) (cx.D.i n))/\allJ cx.D σ.gm T (cx.D.i i) fun j=>K ⟨.mptr h j 0,[],[h],[]⟩
    else False
   | _=>False
  | some (.osl _ m h),some (.int _ i),some ⟨.slice e,_,_,_⟩ =>
   match nth σ.hp h with
   | some (.own _ n sz _ _) =>
    if size? cx e = some sz then
     Ob cx.D σ.gm T (EqN (cx.D.i m) (cx.D.i n))/\Ob cx.D σ.gm T (InB (cx.D.i i) (cx.D.i n))/\allJ cx.D σ.gm T (cx.D.i i) fun j=>K ⟨.optr m h j 0,[],[h],[]⟩
    else False
   | _=>False
  | some (.bsl m h),some (.int _ i),some ⟨.slice e,_,_,_⟩ =>
   match size? cx e with
   | some sz=>Gq cx T h 0 m sz i K
   | none=>False
  | some (.ptr h off),some (.int _ i),some ⟨.array n e,_,_,_⟩ =>
   match size? cx e with
   | some sz=>match T,off,nth σ.hp h with
    | [],0,some (.row _ _ sz' _)=>if sz' == sz then InB (cx.D.i i) n/\allJ cx.D σ.gm [] (cx.D.i i) fun j=>K ⟨.mptr h j 0,[],[h],[]⟩ else False
    | _,_,_=>Gq cx T h off n sz i K
   | none=>False
  | some (.rarr n sz f),some (.int _ i),some ⟨.array n' e,_,_,_⟩ =>
   if size? cx e = some sz/\n = n' then
    Ob cx.D σ.gm T (InB (cx.D.i i) n)/\allJ cx.D σ.gm T (cx.D.i i) fun j=>out K (.rptr (f j))
   else False
  | _,_,_=>False
 | .makeFunc (.func f) fi cs =>
  match fi.toList,Fv cx σ T cs.toList [] with
  | [],some vs=>out K (.clo f vs)
  | fs,some []=>match Fv cx σ T fs [] with
   | some us=>out K (.bnd f us)
   | none=>False
  | _,_=>False
 | .buildSlice t len ps=>Aj cx σ T t len ps.toList K
 | .makeSlice t l c =>
  match rd cx σ T l,rd cx σ T c with
  | some a,some b=>Ry cx σ T t a b (H0 l c) K
  | _,_=>False
 | .slice t x lo hi none =>
  match rd cx σ T x,Dz cx σ T lo,Dz cx σ T hi with
  | some v,some a,some b=>Ic cx σ T t v a b K
  | _,_,_=>False
 | .index t x ix =>
  match rd cx σ T x,rd cx σ T ix,look t cx.tt with
  | some (.str s),some (.int _ i),some ⟨.string,_,_,_⟩ =>
   Ob cx.D σ.gm T (InS (cx.D.i i) s)/\allByte s (cx.D.i i) fun c=>out K (.int .u8 (.a c))
  | some (.agg cs),some (.int _ (.l (.ofNat k))),some ⟨.array n e,_,_,_⟩ =>
   match size? cx e with
   | some sz=>if Nat.blt k n && Nat.ble (k * sz + sz) (Ae cs) then Zg K (J0 (isAgg? cx e) (Ba sz (Cr (k * sz) cs))) else False
   | none=>False
  | _,_,_=>False
 | .makeMap t r =>
  match T,look t cx.tt,Acl r with
  | [],some ⟨.map kt _,_,_,_⟩,true=>match look kt cx.tt with
   | some ⟨.string,_,_,_⟩=>K ⟨.mapv (Ae σ.hp),[.put (Ae σ.hp) (.mset fun _=>false)],[],[]⟩
   | some ⟨.int .i64,_,_,_⟩=>K ⟨.mapv (Ae σ.hp),[.put (Ae σ.hp) (.mint [])],[],[]⟩
   | _=>False
  | _,_,_=>False
 | .mapUpdate t m k x | .insert t m k x =>
  match T,look t cx.tt,rd cx σ T m,rd cx σ T k,rd cx σ T x with
  | [],some ⟨.map kt vt,_,_,_⟩,some (.mapv h),some (.str s),some (.bool b) =>
   match look kt cx.tt,look vt cx.tt,nth σ.hp h with
   | some ⟨.string,_,_,_⟩,some ⟨.bool,_,_,_⟩,some (.mset F)=>allMap F s (cx.D.b b) fun F'=>K ⟨.tup [],[.put h (.mset F')],[h],[]⟩
   | _,_,_=>False
  | [],some ⟨.map kt _,_,_,_⟩,some (.mapv h),some (.int .i64 (.l n)),some v =>
   match look kt cx.tt,nth σ.hp h with
   | some ⟨.int .i64,_,_,_⟩,some (.mint es)=>if Zl n es then K ⟨.tup [],[.put h (.mint (es ++ [(n,v)]))],[h],[]⟩ else False
   | _,_=>False
  | _,_,_,_,_=>False
 | .lookup t m k false =>
  match look t cx.tt,rd cx σ T m,rd cx σ T k with
  | some ⟨.map kt vt,_,_,_⟩,some (.mapv h),some (.str s) =>
   match look kt cx.tt,look vt cx.tt,nth σ.hp h with
   | some ⟨.string,_,_,_⟩,some ⟨.bool,_,_,[.bool (.l false)]⟩,some (.mset F)=>K ⟨.bool (.a (F s)),[],[h],[]⟩
   | _,_,_=>False
  | some ⟨.map kt _,_,_,_⟩,some (.mapv h),some (.int .i64 n) =>
   match T,look kt cx.tt,nth σ.hp h with
   | [],some ⟨.int .i64,_,_,_⟩,some (.mint es)=>Afa (cx.D.i n) (Tj es)/\W2 (cx.D.i n) (fun v=>K ⟨v,[],[h],[]⟩) es
   | _,_,_=>False
  | _,_,_=>False
 | .extract x i =>
  match rd cx σ T x with
  | some (.tup vs)=>Zg K (nth vs i)
  | _=>False
 | .unOp op _ x =>
  match op,rd cx σ T x with
  | .not,some (.bool b)=>out K (.bool (Acc b))
  | .neg,some (.int k n)=>out K (.int k (Akn .sub k (.l 0) n))
  | _,_=>False
 | .binOp op t x y _ =>
  match rd cx σ T x,rd cx σ T y with
  | some a,some (.raw _)=>Wz cx op t a y K
  | some a,some b=>W0 cx σ.gm T op t a b K
  | _,_=>False
 | .convert src dst x =>
  match rd cx σ T x,look dst cx.tt,look src cx.tt with
  | some (.int _ n),some ⟨.int k,_,_,_⟩,some _=>out K (.int k (.cv k n))
  | some (.str s),some ⟨.slice e,_,_,_⟩,some ⟨.string,_,_,_⟩ =>
   match look e cx.tt with
   | some ⟨.int .u8,_,_,_⟩=>match look 999983 cx.gh with
    | some _=>match T with
     | []=>SFit s/\Abe s fun f=>K ⟨.osl (.l false) (.len s) (Ae σ.hp),[.put (Ae σ.hp) (.own e (.len s) 1 false f)],[],[]⟩
     | _=>False
    | none=>Ob cx.D σ.gm T (SFit s)/\Abe s fun f=>out K (.sl (.l false) (.len s) 1 f)
   | _=>False
  | some (.sl _ n 1 f),some ⟨.string,_,_,_⟩,some ⟨.slice e,_,_,_⟩=>Q6 cx σ T e n f K
  | some (.gsl _ n 1 f _),some ⟨.string,_,_,_⟩,some ⟨.slice e,_,_,_⟩=>Q6 cx σ T e n f K
  | some (.osl (.l false) n h),some ⟨.slice e,_,_,_⟩,some ⟨.slice e',_,_,_⟩ =>
   match T,look e cx.tt,nth σ.hp h with
   | [],some ⟨.int .u8,_,_,_⟩,some (.own ty n0 1 true f)=>if e' == e && src == dst && ty == e then
     EqN (cx.D.i n) (cx.D.i n0)/\K ⟨.osl (.l false) n h,[.put h (.own e n0 1 false f)],[h],[]⟩ else False
   | _,_,_=>False
  | some (.osl _ n h),some ⟨.string,_,_,_⟩,some ⟨.slice e,_,_,_⟩ =>
   match T,look e cx.tt,nth σ.hp h with
   | [],some ⟨.int .u8,_,_,_⟩,some (.own _ n0 1 _ f)=>EqN (cx.D.i n) (cx.D.i n0)/\Ez (cx.D.i n0) f/\Add (cx.D.i n0) f fun r=>K ⟨.str r,[],[h],[]⟩
   | _,_,_=>False
  | some (.vsl _ n g h),some ⟨.string,_,_,_⟩,some ⟨.slice e,_,_,_⟩ =>
   match T,look e cx.tt,nth σ.hp h with
   | [],some ⟨.int .u8,_,_,_⟩,some (.vec _ n0 g0 1 f)=>EqN (cx.D.i n) (cx.D.i n0)/\EqN (cx.D.i g) (cx.D.i g0)/\Ez (cx.D.i n0) f/\Add (cx.D.i n0) f fun r=>K ⟨.str r,[],[h],[]⟩
   | _,_,_=>False
  | _,_,_=>False
 | .call c =>
  match c.callee with
  | .builtin .len =>
   match c.args.toList,c.argTypes.toList with
   | [x],[t] =>
    match rd cx σ T x,look t cx.tt with
    | some (.sl _ n _ _),some ⟨.slice _,_,_,_⟩=>out K (.int .i64 n)
    | some (.gsl _ n _ _ _),some ⟨.slice _,_,_,_⟩=>out K (.int .i64 n)
    | some (.osl _ n _),some ⟨.slice _,_,_,_⟩=>out K (.int .i64 n)
    | some (.vsl _ n _ _),some ⟨.slice _,_,_,_⟩=>out K (.int .i64 n)
    | some (.bsl n _),some ⟨.slice _,_,_,_⟩=>out K (.int .i64 (.l n))
    | some (.str s),some ⟨.string,_,_,_⟩=>out K (.int .i64 (.len s))
    | some (.mrow h),some ⟨.slice _,_,_,_⟩=>match nth σ.hp h with
     | some (.row _ n _ _)=>K ⟨.int .i64 n,[],[h],[]⟩
     | _=>False
    | _,_=>False
   | _,_=>False
  | .builtin .append =>
   match T,c.args.toList,c.argTypes.toList with
   | [],[x,y],[t,t'] =>
    match rd cx σ T x,rd cx σ T y,look t cx.tt with
    | some b,some s,some ⟨.slice e,_,_,_⟩ =>
     match look e cx.tt with
     | some te=>if t == t' && Nat.blt 0 te.size then T9 cx σ b s e te.size te.bytes K else Pn cx σ b s t' e te K
     | none=>False
    | _,_,_=>False
   | _,_,_=>False
  | .builtin .clear =>
   match T,c.args.toList,c.argTypes.toList with
   | [],[x],[t] =>
    match rd cx σ T x,look t cx.tt with
    | some (.tsl n a h),some ⟨.slice e,_,_,_⟩ =>
     match nth σ.hp h,look e cx.tt with
     | some (.own e' n0 sz gr f),some te =>
      if e' == e && te.size == sz && Ak (.agg te.zero) then
       EqN (cx.D.i n) (cx.D.i n0)/\allClr f (cx.D.i a) te.zero fun f'=>K ⟨.tup [],[.put h (.own e n0 sz gr f')],[h],[]⟩
      else False
     | _,_=>False
    | _,_=>False
   | _,_,_=>False
  | .builtin .copy =>
   match c.args.toList,c.argTypes.toList with
   | [x,y],[t,_] =>
    match rd cx σ T x,rd cx σ T y with
    | some d,some s=>Rz cx σ T t d s K
    | _,_=>False
   | _,_=>False
  | .builtin .max =>
   match c.args.toList with
   | [x,y] =>
    match rd cx σ T x,rd cx σ T y with
    | some (.int k a),some (.int k' b)=>if k = k' then allMax (cx.D.i a) (cx.D.i b) fun r=>out K (.int k (.a r)) else False
    | _,_=>False
   | _=>False
  | .builtin .min =>
   match c.args.toList with
   | [x,y] =>
    match rd cx σ T x,rd cx σ T y with
    | some (.int k a),some (.int k' b)=>if k = k' then allMin (cx.D.i a) (cx.D.i b) fun r=>out K (.int k (.a r)) else False
    | _,_=>False
   | _=>False
  | .value (.func f) =>
   match Fv cx σ T c.args.toList c.argTypes.toList with
   | some vs=>Id cx σ T f vs K
   | none=>False
  | .value (.tmp s) =>
   match Fv cx σ T c.args.toList c.argTypes.toList,rd cx σ T (.tmp s) with
   | some vs,some (.fn f)=>Id cx σ T f vs K
   | some vs,some (.clo f cs)=>Id cx σ T f (vs ++ cs) K
   | some vs,some (.bnd f us)=>Id cx σ T f (us ++ vs) K
   | _,_=>False
  | _=>False
 | _=>False
def Rw (cx : Cx) (σ : Sy) (T : List Nat) (c a b : Operand) (K : Out->Prop) : Prop :=
 match c with
 | .tmp s =>
  match As σ.fr s with
  | some ⟨tg,_,_,.bool (.l true)⟩=>if Um tg T then Zg K (rd cx σ T a) else False
  | some ⟨tg,_,_,.bool (.l false)⟩=>if Um tg T then Zg K (rd cx σ T b) else False
  | some ⟨tg,gt,gf,.bool ct⟩ =>
   if Um tg T then
    match rd cx σ (gt.toList ++ T) a,rd cx σ (gf.toList ++ T) b with
    | some (.bool x),some (.bool (.l false))=>out K (.bool (.and ct x))
    | some (.bool (.l true)),some (.bool y)=>out K (.bool (.or ct y))
    | _,_=>False
   else False
  | _=>False
 | _=>False
def Gf (ops : List Oper) (σ : Sy) : Option (Nat×Bool)->Option (Option (Sy×List Nat))
 | none=>some (some (σ,[]))
 | some (j,want) =>
  match nth ops j with
  | some oj=>match oj.dst with
   | some s=>match As σ.fr s with
    | some ⟨tg,_,_,.bool (.l b)⟩=>if b == want then some (some (σ,tg)) else some none
    | some ⟨tg,gt,gf,.bool c⟩ =>
     if want then
      match gt with
      | some i=>some (some (σ,i :: tg))
      | none=>some (some (⟨Aw σ.fr s (some ⟨tg,some (Ae σ.gm),gf,.bool c⟩),σ.hp,σ.gm ++ [c]⟩,Ae σ.gm :: tg))
     else
      match gf with
      | some i=>some (some (σ,i :: tg))
      | none=>some (some (⟨Aw σ.fr s (some ⟨tg,gt,some (Ae σ.gm),.bool c⟩),σ.hp,σ.gm ++ [.not c]⟩,Ae σ.gm :: tg))
    | _=>none
   | none=>none
  | none=>none
def In (hp : List Hl) : List Ef->Bool
 | []=>true
 | .set h off vs :: es=>In (efH hp (.set h off vs)) es
 | .put h hl :: es=>Nat.ble h (Ae hp) && In (efH hp (.put h hl)) es
def setD (fr : List (Option G)) (d : Option Nat) (g : Option G) : List (Option G) :=
 match d with
 | some s=>Aw fr s g
 | none=>fr
def Mt (cx : Cx) (σ : Sy) (T : List Nat) (op : Op) : Option (Nat×Call) :=
 match op with
 | .call c=>match c.callee with
  | .value (.tmp s)=>match rd cx σ T (.tmp s) with
   | some (.yv h)=>some (h,c)
   | _=>none
  | _=>none
 | _=>none
def K7 (cx : Cx) (σ : Sy) (T : List Nat) (h : Nat) (c : Call) (K : Out->Prop) : Prop :=
 match Fv cx σ T c.args.toList c.argTypes.toList,cx.yl with
 | some vs,[Y]=>Fb cx σ [] (.yv h :: vs) Y K
 | _,_=>False
def Mx (cx : Cx) (σ : Sy) (T : List Nat) (o : Oper) (K : Out->Prop) : Prop :=
 match o.op with
 | .pick c a b=>Rw cx σ T c a b K
 | _=>match Mt cx σ T o.op with
  | some (h,c)=>K7 cx σ T h c K
  | none=>Abp cx σ T o K
structure FP where
 rds : List Nat
 rdc : List (Nat×Nat×Nat)
 wr : List (Nat×Option (Nat×Nat))
def efW : List Ef->List (Nat×Option (Nat×Nat))
 | []=>[]
 | .set h off vs :: es=>(h,some (off,Ae vs)) :: efW es
 | .put h _ :: es=>(h,none) :: efW es
def U7 (r : Out) : FP:=⟨r.rds,r.rdc,efW r.efs⟩
def Zk (o : Oper) : Bool:=match o.op with
 | .defer _=>false
 | _=>true
def X5 (cx : Cx) (op : Op) : Option SV:=match op with
 | .buildSlice t _ _=>match look t cx.tt with
  | some ⟨.slice e,_,_,_⟩=>match look e cx.tt with
   | some te=>some (.sl (.l true) (.l 0) te.size fun _=>[])
   | none=>none
  | _=>none
 | _=>none
def Eb (cx : Cx) (all : List Oper) : List Oper->List FP->Sy->(List FP->Sy->Prop)->Prop
 | [],fs,σ,K=>K fs σ
 | o :: os,fs,σ,K =>
  match Gf all σ o.guard with
  | none=>False
  | some none=>Eb cx all os (fs ++ [⟨[],[],[]⟩]) ⟨setD σ.fr o.dst none,σ.hp,σ.gm⟩ K
  | some (some (σ,T)) =>
   match Mt cx σ T o.op,T with
   | some (h,c),[i]=>match nth σ.gm i with
    | some b=>(cx.D.b b = true->K7 cx σ [i] h c fun r=>if In σ.hp r.efs then Eb cx all os (fs ++ [U7 r]) ⟨setD σ.fr o.dst (some ⟨[i],none,none,r.v⟩),Kt σ.hp r.efs,σ.gm⟩ K else False)/\
      (cx.D.b b = false->Eb cx all os (fs ++ [U7 ⟨.bool (.l true),[],[],[]⟩]) ⟨setD σ.fr o.dst (some ⟨[i],none,none,.bool (.l true)⟩),σ.hp,σ.gm⟩ K)
    | none=>False
   | _,_=>match X5 cx o.op,T with
    | some d,[i]=>match nth σ.gm i with
     | some b=>(cx.D.b b = true->Mx cx σ [i] o fun r=>if In σ.hp r.efs then Eb cx all os (fs ++ [U7 r]) ⟨setD σ.fr o.dst (some ⟨[i],none,none,r.v⟩),Kt σ.hp r.efs,σ.gm⟩ K else False)/\
       (cx.D.b b = false->Eb cx all os (fs ++ [U7 ⟨d,[],[],[]⟩]) ⟨setD σ.fr o.dst (some ⟨[i],none,none,d⟩),σ.hp,σ.gm⟩ K)
     | none=>False
    | some d,[i,j]=>match nth σ.gm i,nth σ.gm j with
     | some b,some c=>((cx.D.b b && cx.D.b c) = true->Mx cx σ [i,j] o fun r=>if In σ.hp r.efs then Eb cx all os (fs ++ [U7 r]) ⟨setD σ.fr o.dst (some ⟨[i,j],none,none,r.v⟩),Kt σ.hp r.efs,σ.gm⟩ K else False)/\
       ((cx.D.b b && cx.D.b c) = false->Eb cx all os (fs ++ [U7 ⟨d,[],[],[]⟩]) ⟨setD σ.fr o.dst (some ⟨[i,j],none,none,d⟩),σ.hp,σ.gm⟩ K)
     | _,_=>False
    | _,_=>Mx cx σ T o fun r=>if In σ.hp r.efs && (T.isEmpty || r.efs.isEmpty) && Zk o then Eb cx all os (fs ++ [U7 r]) ⟨setD σ.fr o.dst (some ⟨T,none,none,r.v⟩),Kt σ.hp r.efs,σ.gm⟩ K else False
def Aiz : Operand->List Nat
 | .tmp s=>[s]
 | _=>[]
def W3 : List Operand->List Nat
 | []=>[]
 | x :: xs=>Aiz x ++ W3 xs
def Pa (all : List Oper) : Option (Nat×Bool)->List Nat
 | none=>[]
 | some (j,_)=>match nth all j with
  | some oj=>match oj.dst with
   | some s=>[s]
   | none=>[]
  | none=>[]
def looks (all : List Oper) (o : Oper) : List Nat:=W3 o.op.operands.toList ++ Pa all o.guard
def Ot : List Nat->List Nat->Bool
 | [],_=>false
 | x :: l,t=>J3 x t || Ot l t
def Uu : Option Nat->List Nat
 | some x=>[x]
 | none=>[]
def Co : Nat×Option (Nat×Nat)->Nat×Option (Nat×Nat)->Bool
 | (h,a),(k,b)=>h == k && match a,b with
  | some (x,m),some (y,n)=>Nat.blt x (y + n) && Nat.blt y (x + m)
  | _,_=>true
def anyR (x : Nat×Option (Nat×Nat)) : List (Nat×Option (Nat×Nat))->Bool
 | []=>false
 | y :: l=>Co x y || anyR x l
def Oq : List (Nat×Option (Nat×Nat))->List (Nat×Option (Nat×Nat))->Bool
 | [],_=>false
 | x :: l,t=>anyR x t || Oq l t
def rdR (f : FP) : List (Nat×Option (Nat×Nat)):=(f.rds.map fun h=>(h,none)) ++ f.rdc.map fun x=>(x.1,some (x.2.1,x.2.2))
def Aa0 (all : List Oper) (o : Oper) (f : FP) (o' : Oper) (f' : FP) : Bool :=
 Ot (Uu o.dst) (looks all o') || Ot (Uu o.dst) (Uu o'.dst) || Ot (Uu o'.dst) (looks all o) || Oq f.wr (rdR f') || Oq f.wr f'.wr || Oq f'.wr (rdR f)
def Aku (x : Nat) (l : List Nat) : List Nat:=if J3 x l then l else x :: l
def Abk : List Nat->List Nat->List Nat
 | [],t=>t
 | x :: l,t=>Abk l (Aku x t)
def C6 : List Edge->List Nat
 | []=>[]
 | e :: es=>(match e.ground with | .textOnly _ | .gcOnly _=>[] | _=>[e.on]) ++ C6 es
def Pm (acc : List (List Nat)) : List Nat->List Nat
 | []=>[]
 | i :: l=>Abk (Aku i ((nth acc i).getD [])) (Pm acc l)
def Hq : List Oper->List (List Nat)->List (List Nat)
 | [],acc=>acc
 | o :: os,acc=>Hq os (acc ++ [Pm acc (C6 o.after.toList)])
def Xc (n : Nat) : List Nat->Bool
 | []=>true
 | x :: l=>Nat.blt x n && Xc n l
def Gj : List Oper->Nat->Bool
 | [],_=>true
 | o :: os,n=>Xc n (C6 o.after.toList) && Gj os (n + 1)
def Lg (all : List Oper) (bs : List (List Nat)) (i : Nat) (o : Oper) (f : FP) : List Oper->List FP->Nat->Bool
 | o' :: os,f' :: fs,j=>(!(Aa0 all o f o' f') || J3 i ((nth bs j).getD [])) && Lg all bs i o f os fs (j + 1)
 | _,_,_=>true
def Tk (all : List Oper) (bs : List (List Nat)) : List Oper->List FP->Nat->Bool
 | o :: os,f :: fs,i=>Lg all bs i o f os fs (i + 1) && Tk all bs os fs (i + 1)
 | _,_,_=>true
structure IndepOk (ops : List Oper) (fs : List FP) : Prop where
 h : (Gj ops 0 && Tk ops (Hq ops []) ops fs 0) = true
def tidy : List (Option G)->List (Option G)
 | []=>[]
 | some ⟨[],_,_,v⟩ :: l=>some ⟨[],none,none,v⟩ :: tidy l
 | _ :: l=>none :: tidy l
def thaw (h : Nat) (x : SV) : SV->SV
 | .mrow k=>if k == h then x else .mrow k
 | .agg cs=>.agg (thawL h x cs)
 | .tup cs=>.tup (thawL h x cs)
 | .clo f cs=>.clo f (thawL h x cs)
 | .bnd f cs=>.bnd f (thawL h x cs)
 | v=>v
 where thawL (h : Nat) (x : SV) : List SV->List SV
 | []=>[]
 | c :: cs=>thaw h x c :: thawL h x cs
def Eo (h : Nat) (x : SV) : List (Option G)->List (Option G)
 | []=>[]
 | some ⟨tg,gt,gf,v⟩ :: l=>some ⟨tg,gt,gf,thaw h x v⟩ :: Eo h x l
 | none :: l=>none :: Eo h x l
def Ym (h : Nat) (x : SV) : List Hl->List Hl
 | []=>[]
 | .blk ty cs :: ls=>.blk ty (thaw.thawL h x cs) :: Ym h x ls
 | l :: ls=>l :: Ym h x ls
def D6 (cx : Cx) (σ : Sy) : Gh->Option Sy
 | .hold s k e=>match As σ.fr s with
  | some ⟨[],_,_,.ptr h 0⟩=>match nth σ.hp h with
   | some (.blk T cs)=>match nth cs k,size? cx e with
    | some (.sl (.l true) (.l 0) sz f),some sz'=>if sz' == sz then some ⟨σ.fr,Aw σ.hp h (.blk T (Aw cs k (.gsl (.l true) (.l 0) sz f (Ae σ.hp)))) ++ [.tail e (.l 0) sz],σ.gm⟩ else none
    | _,_=>none
   | _=>none
  | _=>none
 | .freeze s=>match As σ.fr s with
  | some ⟨[],_,_,.mrow h⟩=>match nth σ.hp h with
   | some (.row _ n sz f)=>some ⟨Eo h (.sl (.l false) n sz f) σ.fr,Aw (Ym h (.sl (.l false) n sz f) σ.hp) h .gone,σ.gm⟩
   | _=>none
  | _=>none
 | .attach s e=>match As σ.fr s with
  | some ⟨[],_,_,.sl (.l true) (.l 0) sz f⟩=>match size? cx e with
   | some sz'=>if sz' == sz then some ⟨Aw σ.fr s (some ⟨[],none,none,.gsl (.l true) (.l 0) sz f (Ae σ.hp)⟩),σ.hp ++ [.tail e (.l 0) sz],σ.gm⟩ else none
   | none=>none
  | _=>none
 | .own s e=>match As σ.fr s with
  | some ⟨[],_,_,.sl (.l true) (.l 0) sz f⟩=>match size? cx e with
   | some sz'=>if sz' == sz then some ⟨Aw σ.fr s (some ⟨[],none,none,.osl (.l true) (.l 0) (Ae σ.hp)⟩),σ.hp ++ [.own e (.l 0) sz true f],σ.gm⟩ else none
   | none=>none
  | _=>none
 | .share s=>match As σ.fr s with
  | some ⟨[],_,_,.osl nl n h⟩=>match nth σ.hp h with
   | some (.own _ _ sz _ f)=>some ⟨Aw σ.fr s (some ⟨[],none,none,.sl nl n sz f⟩),Aw σ.hp h .gone,σ.gm⟩
   | _=>none
  | _=>none
 | .bld s e=>match As σ.fr s with
  | some ⟨[],_,_,.ptr h 0⟩=>match nth σ.hp h with
   | some (.blk T [.nilp,.sl (.l true) (.l 0) 1 _])=>some ⟨σ.fr,Aw σ.hp h (.bld T e []),σ.gm⟩
   | _=>none
  | _=>none
 | .tot _=>none
 | .frz _=>none
 | .unrow _=>none
 | .vnil ..=>none
 | .vmov ..=>none
 | .blit _=>none
 | .ilit _=>none
 | .vec s e=>match As σ.fr s with
  | some ⟨[],_,_,.sl (.l true) (.l 0) sz f⟩=>match size? cx e with
   | some sz'=>if sz' == sz then some ⟨Aw σ.fr s (some ⟨[],none,none,.vsl (.l true) (.l 0) (.l 0) (Ae σ.hp)⟩),σ.hp ++ [.vec e (.l 0) (.l 0) sz f],σ.gm⟩ else none
   | none=>none
  | _=>none
 | .vecb s k e=>match As σ.fr s with
  | some ⟨[],_,_,.ptr h 0⟩=>match nth σ.hp h with
   | some (.blk T cs)=>match nth cs k,size? cx e with
    | some (.sl (.l true) (.l 0) sz f),some sz'=>if sz' == sz then some ⟨σ.fr,Aw σ.hp h (.blk T (Aw cs k (.vsl (.l true) (.l 0) (.l 0) (Ae σ.hp)))) ++ [.vec e (.l 0) (.l 0) sz f],σ.gm⟩ else none
    | _,_=>none
   | _=>none
  | _=>none
 | .vshare s=>match As σ.fr s with
  | some ⟨[],_,_,.vsl nl n _ h⟩=>match nth σ.hp h with
   | some (.vec _ _ _ sz f)=>some ⟨Aw σ.fr s (some ⟨[],none,none,.sl nl n sz f⟩),Aw σ.hp h .gone,σ.gm⟩
   | _=>none
  | _=>none
 | .vshareb s k=>match As σ.fr s with
  | some ⟨[],_,_,.ptr hb 0⟩=>match nth σ.hp hb with
   | some (.blk T cs)=>match nth cs k with
    | some (.vsl nl n _ h)=>match nth σ.hp h with
     | some (.vec _ _ _ sz f)=>some ⟨σ.fr,Aw (Aw σ.hp hb (.blk T (Aw cs k (.sl nl n sz f)))) h .gone,σ.gm⟩
     | _=>none
    | _=>none
   | _=>none
  | _=>none
def Ahq (σ : Sy) (s : Nat) : Option (BT×ST×Nat×(Nat->List SV)) :=
 match As σ.fr s with
 | some ⟨[],_,_,.sl nl n sz f⟩=>some (nl,n,sz,f)
 | some ⟨[],_,_,.gsl nl n sz f _⟩=>some (nl,n,sz,f)
 | _=>none
def Ajx (cx : Cx) (σ : Sy) (s : Nat) : Option (Nat×Nat×List (List SV)×Nat) :=
 match As σ.fr s with
 | some ⟨[],_,_,.ptr h 0⟩=>match nth σ.hp h with
  | some (.blk T cs)=>match look T cx.tt with
   | some ⟨.array n e,_,_,_⟩=>match size? cx e with
    | some sz=>if Ae cs == n * sz && Ak.plainL cs then some (n,sz,chunks sz n cs,h) else none
    | none=>none
   | _=>none
  | _=>none
 | _=>none
def Wx (σ : Sy) (s : Nat) : Option (TypeId×ST×Nat×(Nat->List SV)×Nat) :=
 match As σ.fr s with
 | some ⟨[],_,_,.ptr h 0⟩=>match nth σ.hp h with
  | some (.row ty n sz f)=>some (ty,n,sz,f,h)
  | _=>none
 | _=>none
structure BIs (x b : Bool) : Prop where
 h : x = b
structure IIs (x n : Int) : Prop where
 h : x = n
def Ac9 (σ : Sy) (s : Nat) : Option BT :=
 match As σ.fr s with
 | some ⟨[],_,_,.bool c⟩=>some c
 | _=>none
def Acn (σ : Sy) (s : Nat) : Option (IntKind×ST) :=
 match As σ.fr s with
 | some ⟨[],_,_,.int k c⟩=>some (k,c)
 | _=>none
def Abg (σ : Sy) (s k h : Nat) : Option (Nat×TypeId×List SV×TypeId×ST×Nat×(Nat->List SV)) :=
 match As σ.fr s with
 | some ⟨[],_,_,.ptr hb 0⟩=>match nth σ.hp hb,nth σ.hp h with
  | some (.blk T cs),some (.vec e _ g sz _)=>match nth cs k with
   | some (.sl (.l true) (.l 0) sz' f)=>if sz' == sz then some (hb,T,cs,e,g,sz,f) else none
   | _=>none
  | _,_=>none
 | _=>none
def Abh (σ : Sy) (s k h : Nat) : Option (Nat×TypeId×List SV×Nat×BT×ST×ST×TypeId×ST×Nat×(Nat->List SV)) :=
 match As σ.fr s with
 | some ⟨[],_,_,.ptr hb 0⟩=>match nth σ.hp hb,nth σ.hp h with
  | some (.blk T cs),some (.vec e _ g sz _)=>match nth cs k with
   | some (.osl nl n h2)=>match nth σ.hp h2 with
    | some (.own e' n0 sz' _ f)=>if sz' == sz && e' == e then some (hb,T,cs,h2,nl,n,n0,e,g,sz,f) else none
    | _=>none
   | _=>none
  | _,_=>none
 | _=>none
def Mc (cx : Cx) (σ : Sy) : Gh->Prop
 | .share s=>match As σ.fr s with
  | some ⟨[],_,_,.osl _ n h⟩=>match nth σ.hp h with
   | some (.own _ n0 _ _ _)=>EqN (cx.D.i n) (cx.D.i n0)
   | _=>False
  | _=>False
 | .vshare s=>match As σ.fr s with
  | some ⟨[],_,_,.vsl _ n g0 h⟩=>match nth σ.hp h with
   | some (.vec _ n0 g1 _ _)=>EqN (cx.D.i n) (cx.D.i n0)/\EqN (cx.D.i g0) (cx.D.i g1)
   | _=>False
  | _=>False
 | .vshareb s k=>match As σ.fr s with
  | some ⟨[],_,_,.ptr hb 0⟩=>match nth σ.hp hb with
   | some (.blk _ cs)=>match nth cs k with
    | some (.vsl _ n g0 h)=>match nth σ.hp h with
     | some (.vec _ n0 g1 _ _)=>EqN (cx.D.i n) (cx.D.i n0)/\EqN (cx.D.i g0) (cx.D.i g1)
     | _=>False
    | _=>False
   | _=>False
  | _=>False
 | _=>True
def ghosts (cx : Cx) : List Gh->Sy->(Sy->Prop)->Prop
 | [],σ,K=>K σ
 | g :: gs,σ,K=>match g with
  | .tot s=>match Ahq σ s with
   | some (nl,n,sz,f)=>∃ f2,RowAs (cx.D.i n) f2 f/\ghosts cx gs ⟨Aw σ.fr s (some ⟨[],none,none,.sl nl n sz f2⟩),σ.hp,σ.gm⟩ K
   | none=>False
  | .frz s=>match Ajx cx σ s with
   | some (n,sz,rows,h)=>∃ f,Uk f rows/\ghosts cx gs ⟨Aw σ.fr s (some ⟨[],none,none,.rarr n sz f⟩),Aw σ.hp h .gone,σ.gm⟩ K
   | none=>False
  | .unrow s=>match Wx σ s with
   | some (ty,n,sz,f,h)=>∃ cs,Ahn f (cx.D.i n) sz cs/\ghosts cx gs ⟨σ.fr,Aw σ.hp h (.blk ty cs),σ.gm⟩ K
   | none=>False
  | .blit s=>match Ac9 σ s with
   | some c=>∃ b,BIs (cx.D.b c) b/\ghosts cx gs ⟨Aw σ.fr s (some ⟨[],none,none,.bool (.l b)⟩),σ.hp,σ.gm⟩ K
   | none=>False
  | .ilit s=>match Acn σ s with
   | some (k,c)=>∃ n,IIs (cx.D.i c) n/\ghosts cx gs ⟨Aw σ.fr s (some ⟨[],none,none,.int k (.l n)⟩),σ.hp,σ.gm⟩ K
   | none=>False
  | .vnil s k h=>match Abg σ s k h with
   | some (hb,T,cs,e,g,sz,f)=>Yb (cx.D.i g) fun g'=>ghosts cx gs ⟨σ.fr,Aw (Aw σ.hp hb (.blk T (Aw cs k (.vsl (.l true) (.l 0) (.a g') h)))) h (.vec e (.l 0) (.a g') sz f),σ.gm⟩ K
   | none=>False
  | .vmov s k h=>match Abh σ s k h with
   | some (hb,T,cs,h2,nl,n,n0,e,g,sz,f)=>EqN (cx.D.i n) (cx.D.i n0)/\Yb (cx.D.i g) fun g'=>ghosts cx gs ⟨σ.fr,Aw (Aw (Aw σ.hp hb (.blk T (Aw cs k (.vsl nl n (.a g') h)))) h (.vec e n0 (.a g') sz f)) h2 .gone,σ.gm⟩ K
   | none=>False
  | g=>Mc cx σ g/\match D6 cx σ g with
   | some σ=>ghosts cx gs σ K
   | none=>False
def ghostK (cx : Cx) (id : Nat) (σ : Sy) (K : Sy->Prop) : Prop :=
 match look id cx.gh with
 | none=>K σ
 | some l=>ghosts cx l σ K
inductive Ex where
 | normal
 | exit (id : Nat)
 | goto (l : Nat)
 | ret
def Nb : List (Nat×Option SV)->List (Option G)->List (Option G)
 | [],fr=>fr
 | (i,v) :: l,fr=>Nb l (Aw fr i (v.map fun v=>⟨[],none,none,v⟩))
def Kz {α : Type} : List α->List (Option G)
 | []=>[]
 | _ :: l=>none :: Kz l
def Bo (n : Nat) : SV->Bool
 | .ptr h _=>Nat.blt h n
 | .gsl _ _ _ _ h=>Nat.blt h n
 | .mrow h=>Nat.blt h n
 | .mptr h _ _=>Nat.blt h n
 | .osl _ _ h=>Nat.blt h n
 | .optr _ h _ _=>Nat.blt h n
 | .mapv h=>Nat.blt h n
 | .bsl _ h=>Nat.blt h n
 | .vsl _ _ _ h=>Nat.blt h n
 | .tsl _ _ h=>Nat.blt h n
 | .yv h=>Nat.blt h n
 | .agg cs=>belowL n cs
 | .tup cs=>belowL n cs
 | .clo _ cs=>belowL n cs
 | .bnd _ cs=>belowL n cs
 | _=>true
 where belowL (n : Nat) : List SV->Bool
 | []=>true
 | c :: cs=>Bo n c && belowL n cs
def Mp (n : Nat) : List (Nat×Option SV)->Bool
 | []=>true
 | (_,some v) :: l=>Bo n v && Mp n l
 | (_,none) :: l=>Mp n l
def X6 (n : Nat) : List (Int×SV)->Bool
 | []=>true
 | (_,v) :: l=>Bo n v && X6 n l
def Dk (n : Nat) : List Hl->Bool
 | []=>true
 | .blk _ cs :: ls=>Bo n (.agg cs) && Dk n ls
 | .lrec _ fr _ _ :: ls=>Mp n fr && Dk n ls
 | .mint es :: ls=>X6 n es && Dk n ls
 | _ :: ls=>Dk n ls
def Fy (D : Dn) (n : Nat) (fr : List (Option G)) : List Nat->List (Option SV)
 | []=>[]
 | i :: l=>(match As fr i with | some ⟨[],_,_,v⟩=>(if Bo n v then some (norm D v) else none) | _=>none) :: Fy D n fr l
def Fz (D : Dn) : List Hl->List Hl
 | []=>[]
 | .blk ty cs :: ls=>.blk ty (norm.normL D cs) :: Fz D ls
 | .tail ty n sz :: ls=>.tail ty (.a (D.i n)) sz :: Fz D ls
 | .row ty n sz f :: ls=>.row ty (.a (D.i n)) sz f :: Fz D ls
 | .own ty n sz gr f :: ls=>.own ty (.a (D.i n)) sz gr f :: Fz D ls
 | .vec ty n g sz f :: ls=>.vec ty (.a (D.i n)) (.a (D.i g)) sz f :: Fz D ls
 | l :: ls=>l :: Fz D ls
def Jz {α : Type} : List Nat->List (Option α)->List (Nat×Option α)
 | i :: l,v :: vs=>(i,v) :: Jz l vs
 | _,_=>[]
def know (σ : Sy) (c : Operand) (b : Bool) : Sy :=
 match c with
 | .tmp s=>⟨Aw σ.fr s (some ⟨[],none,none,.bool (.l b)⟩),σ.hp,σ.gm⟩
 | _=>σ
end Go.Sx
