/- Part of the proofs of the statements about requests (layer 7): a symbolic executor over the code, that it is sound, and contracts of functions; it has no conditions of its own. -/
import Derived.Test.YtefelnhpfdcleaaGreatDoorSzPaa
namespace Go.Sx
def out (K : Out→Prop) (v : SV) : Prop:=K ⟨v,[],[],[]⟩
def Acu (K : Out→Prop) : Option SV→Prop
 | some v=>K ⟨v,[],[],[]⟩
 | none=>False
def Am2 : BinOp→Bool
 | .add | .sub | .mul | .and | .or | .xor | .andNot=>true
 | _=>false
def Al4 : BinOp→Bool
 | .eql | .neq | .lss | .leq | .gtr | .geq=>true
 | _=>false
def Ua (op : BinOp) : ST→ST→BT
 | .l m,.l n=>.l (B8 op m n)
 | x,y=>.cmp op x y
def Afs : BT→BT
 | .l b=>.l (!b)
 | x=>.not x
def Amy (op : BinOp) (k : IntKind) : ST→ST→ST
 | .l m,.l n=>.l (Bg op k m n)
 | x,y=>.bin op k x y
def Abq : BT→BT→BT
 | .l true,y=>y
 | x,.l true=>x
 | x,y=>.and x y
def Amm (cx : Cx) (g : TypeId→List SV→List SV→Option BT) (xs ys : List SV) : List (Nat×TypeId)→Option BT
 | []=>some (.l true)
 | (fo,ft) :: fs =>
  match size? cx ft with
  | some m=>match g ft (Bh m (C2 fo xs)) (Bh m (C2 fo ys)),Amm cx g xs ys fs with
   | some a,some b=>some (Abq a b)
   | _,_=>none
  | none=>none
def Age (cx : Cx) : Nat→TypeId→List SV→List SV→Option BT
 | 0,_,_,_=>none
 | n + 1,t,xs,ys =>
  match look t cx.tt with
  | some ⟨.int _,_,_,_⟩=>match xs,ys with
   | [.int k a],[.int k' b]=>if k = k' then some (Ua .eql a b) else none
   | _,_=>none
  | some ⟨.bool,_,_,_⟩=>match xs,ys with
   | [.bool a],[.bool b]=>some (.beq a b)
   | _,_=>none
  | some ⟨.string,_,_,_⟩=>match xs,ys with
   | [.str a],[.str b]=>some (.seq a b)
   | _,_=>none
  | some ⟨.struct fs,_,_,_⟩=>if Ly t cx.eqs then Amm cx (Age cx n) xs ys fs else none
  | _=>none
def seqS (cx : Cx) (a b : List UInt8) : BT :=
 match look 999984 cx.gh with
 | some _=>.l (a == b)
 | none=>.seq a b
def nlOf : SV→Option BT
 | .sl nl _ _ _=>some nl
 | .gsl nl _ _ _ _=>some nl
 | .osl nl _ _=>some nl
 | .vsl nl _ _ _=>some nl
 | _=>none
def Alo (op : BinOp) (b : BT) (K : Out→Prop) : Prop :=
 match op with
 | .eql=>out K (.bool b)
 | .neq=>out K (.bool (Afs b))
 | _=>False
def Al6 : SV→Option BT
 | .ifc b=>some b
 | .raw .nilIface=>some (.l true)
 | _=>none
def Aaj (cx : Cx) (op : BinOp) (t : TypeId) (x : SV) (y : Operand) (K : Out→Prop) : Prop :=
 match y,Al6 x,look t cx.tt with
 | .const .nilIface,some b,some ⟨.iface,_,_,_⟩=>Alo op b K
 | _,_,_=>False
def Aak (cx : Cx) (gm : List BT) (T : List Nat) (op : BinOp) (t : TypeId) (x y : SV) (K : Out→Prop) : Prop :=
 match x,y with
 | .int k a,.int k' b =>
  if Am2 op then (if k = k' then out K (.int k (Amy op k a b)) else False)
  else if Al4 op then (if k = k' then out K (.bool (Ua op a b)) else False)
  else match op with
   | .quo | .rem=>if k = k' then Ob cx.D gm T (NZ (cx.D.i b))∧out K (.int k (.bin op k a b)) else False
   | .shl | .shr=>Ob cx.D gm T (NN (cx.D.i b))∧out K (.int k (.bin op k a b))
   | _=>False
 | .bool a,.bool b =>
  match op,look t cx.tt with
  | .eql,some ⟨.bool,_,_,_⟩=>out K (.bool (.beq a b))
  | .neq,some ⟨.bool,_,_,_⟩=>out K (.bool (.not (.beq a b)))
  | _,_=>False
 | .str a,.str b =>
  match op with
  | .add=>Ob cx.D gm T (StrFit a b)∧allCat a b fun r=>out K (.str r)
  | .eql=>out K (.bool (seqS cx a b))
  | .neq=>out K (.bool (Afs (seqS cx a b)))
  | _=>False
 | .agg a,.agg b =>
  match op,Ly t cx.eqs && isAgg? cx t,Age cx 8 t a b with
  | .eql,true,some c=>out K (.bool c)
  | .neq,true,some c=>out K (.bool (Afs c))
  | _,_,_=>False
 | x,.sl (.l true) (.l 0) 0 _ =>
  match nlOf x,look t cx.tt with
  | some nl,some ⟨.slice _,_,_,_⟩=>Alo op nl K
  | _,_=>False
 | _,_=>False
def Ap : SV→Bool
 | .ptr .. | .gsl .. | .mrow .. | .mptr .. | .clo .. | .osl .. | .optr .. | .mapv .. | .yv .. | .vsl .. | .tsl ..=>false
 | .agg cs=>plainL cs
 | .tup cs=>plainL cs
 | _=>true
 where plainL : List SV→Bool
 | []=>true
 | c :: cs=>Ap c && plainL cs
def Y1 : Hl→Bool
 | .blk .. | .bld ..=>true
 | _=>false
def Acq : Hl→Bool
 | .own ..=>true
 | _=>false
def Lg (hp : List Hl) : List SV→Nat→Option (List SV×List Nat×List Hl)
 | [],_=>some ([],[],[])
 | .ptr h off :: vs,n=>match nth hp h,Lg hp vs (n + 1) with
  | some l,some (as,hs,ls)=>if Y1 l && !Ly h hs then some (.ptr n off :: as,h :: hs,l :: ls) else none
  | _,_=>none
 | v :: vs,n=>match Ap v,Lg hp vs n with
  | true,some (as,hs,ls)=>some (v :: as,hs,ls)
  | _,_=>none
def Abp : List Nat→List Nat→Bool
 | [],_=>true
 | x :: l,t=>!Ly x t && Abp l t
def Gb (hp : List Hl) : List SV→Nat→Option (List SV×List Nat×List Hl)
 | [],_=>some ([],[],[])
 | .ptr h off :: vs,n=>match nth hp h,Gb hp vs (n + 1) with
  | some l,some (as,hs,ls)=>if Y1 l && !Ly h hs then some (.ptr n off :: as,h :: hs,l :: ls) else none
  | _,_=>none
 | .osl nl m h :: vs,n=>match nth hp h,Gb hp vs (n + 1) with
  | some l,some (as,hs,ls)=>if Acq l && !Ly h hs then some (.osl nl m n :: as,h :: hs,l :: ls) else none
  | _,_=>none
 | .clo f cs :: vs,n=>match Lg hp cs n with
  | some (as1,hs1,ls1)=>match Gb hp vs (n + Ag hs1) with
   | some (as,hs,ls)=>if Abp hs1 hs then some (.clo f as1 :: as,hs1 ++ hs,ls1 ++ ls) else none
   | none=>none
  | none=>none
 | v :: vs,n=>match Ap v,Gb hp vs n with
  | true,some (as,hs,ls)=>some (v :: as,hs,ls)
  | _,_=>none
def Ej : List Nat→List Hl→List Ef
 | h :: hs,l :: ls=>.put h l :: Ej hs ls
 | _,_=>[]
def Hp : List Hl→Bool
 | []=>true
 | .blk _ cs :: ls=>Ap (.agg cs) && Hp ls
 | .own .. :: ls=>Hp ls
 | .bld .. :: ls=>Hp ls
 | .gone :: ls=>Hp ls
 | _ :: _=>false
def normH (D : Dn) : List Hl→List Hl
 | []=>[]
 | .blk ty cs :: ls=>.blk ty (looseL (norm.normL D cs)) :: normH D ls
 | .own ty n sz gr f :: ls=>.own ty (.a (D.i n)) sz gr f :: normH D ls
 | l :: ls=>l :: normH D ls
 where looseL:=loose.looseL
def J5 (m m' : Nat) : SV→Bool
 | .osl _ _ h=>Nat.ble m h && Nat.blt h m'
 | .tup vs=>resL m m' vs
 | v=>Ap v
 where resL (m m' : Nat) : List SV→Bool
 | []=>true
 | c :: cs=>J5 m m' c && resL m m' cs
def reV (m a : Nat) : SV→SV
 | .osl nl n h=>.osl nl n (h - m + a)
 | .tup vs=>.tup (reL m a vs)
 | v=>v
 where reL (m a : Nat) : List SV→List SV
 | []=>[]
 | c :: cs=>reV m a c :: reL m a cs
def Fc : Nat→List Hl→List Ef
 | _,[]=>[]
 | a,l :: ls=>.put a l :: Fc (a + 1) ls
structure SLe (r : List UInt8) (n : Int) : Prop where
 h : (r.length : Int)≤n∨r = []
def Uf (cx : Cx) (σ : Sy) (T : List Nat) (e : TypeId) (n : ST) (f : Nat→List SV) (K : Out→Prop) : Prop :=
 match T,look e cx.tt with
 | [],some ⟨.int .u8,_,_,_⟩=>H6 (cx.D.i n) f∧Am5 (cx.D.i n) f fun r=>out K (.str r)
 | T,some ⟨.int .u8,_,_,_⟩=>Ob cx.D σ.gm T (H6 (cx.D.i n) f)∧∀ r,SLe r (cx.D.i n)→Ob cx.D σ.gm T (Li r (cx.D.i n) f)→out K (.str r)
 | _,_=>False
def hsV : SV→List Nat
 | .ptr h _=>[h]
 | .gsl _ _ _ _ h=>[h]
 | .osl _ _ h=>[h]
 | .optr _ h _ _=>[h]
 | .mapv h=>[h]
 | .vsl _ _ _ h=>[h]
 | .tsl _ _ h=>[h]
 | .yv h=>[h]
 | .agg cs=>hsL cs
 | .tup cs=>hsL cs
 | .clo _ cs=>hsL cs
 | _=>[]
 where hsL : List SV→List Nat
 | []=>[]
 | c :: cs=>hsV c ++ hsL cs
def hsF : List (Nat×Option SV)→List Nat
 | []=>[]
 | (_,some v) :: l=>hsV v ++ hsF l
 | (_,none) :: l=>hsF l
def hsH : Hl→List Nat
 | .blk _ cs=>hsV.hsL cs
 | .lrec _ fr _ _=>hsF fr
 | _=>[]
def rnV (ρ : Nat→Nat) : SV→SV
 | .ptr h o=>.ptr (ρ h) o
 | .gsl nl n sz f h=>.gsl nl n sz f (ρ h)
 | .osl nl n h=>.osl nl n (ρ h)
 | .optr n h j o=>.optr n (ρ h) j o
 | .mapv h=>.mapv (ρ h)
 | .vsl nl n g h=>.vsl nl n g (ρ h)
 | .tsl n a h=>.tsl n a (ρ h)
 | .yv h=>.yv (ρ h)
 | .agg cs=>.agg (rnL ρ cs)
 | .tup cs=>.tup (rnL ρ cs)
 | .clo f cs=>.clo f (rnL ρ cs)
 | v=>v
 where rnL (ρ : Nat→Nat) : List SV→List SV
 | []=>[]
 | c :: cs=>rnV ρ c :: rnL ρ cs
def rnF (ρ : Nat→Nat) : List (Nat×Option SV)→List (Nat×Option SV)
 | []=>[]
 | (s,some v) :: l=>(s,some (rnV ρ v)) :: rnF ρ l
 | (s,none) :: l=>(s,none) :: rnF ρ l
def rnH (ρ : Nat→Nat) : Hl→Hl
 | .blk ty cs=>.blk ty (rnV.rnL ρ cs)
 | .lrec c fr st pd=>.lrec c (rnF ρ fr) st pd
 | l=>l
def Ch : SV→Bool
 | .mrow _=>false
 | .mptr ..=>false
 | .agg cs=>rowlessL cs
 | .tup cs=>rowlessL cs
 | .clo _ cs=>rowlessL cs
 | _=>true
 where rowlessL : List SV→Bool
 | []=>true
 | c :: cs=>Ch c && rowlessL cs
def J1 : List (Nat×Option SV)→Bool
 | []=>true
 | (_,some v) :: l=>Ch v && J1 l
 | (_,none) :: l=>J1 l
def Dm : Hl→Bool
 | .blk _ cs=>Ch.rowlessL cs
 | .lrec _ fr _ _=>J1 fr
 | .tail ..=>true
 | .own ..=>true
 | .bld ..=>true
 | .mset ..=>true
 | .vec ..=>true
 | .gone=>true
 | _=>false
def normG (D : Dn) : Hl→Hl
 | .blk ty cs=>.blk ty (norm.normL D cs)
 | .tail ty n sz=>.tail ty (.a (D.i n)) sz
 | .own ty n sz gr f=>.own ty (.a (D.i n)) sz gr f
 | .vec ty n g sz f=>.vec ty (.a (D.i n)) (.a (D.i g)) sz f
 | l=>l
def Nb : List Nat→List Nat→List Nat
 | acc,[]=>acc
 | acc,h :: t=>Nb (if Ly h acc then acc else acc ++ [h]) t
def growG (hp : List Hl) (acc : List Nat) : List Nat→List Nat
 | []=>acc
 | h :: t=>growG hp (match nth hp h with | some l=>Nb acc (hsH l) | none=>acc) t
def Vm (hp : List Hl) : List Hl→List Nat→List Nat
 | [],acc=>acc
 | _ :: t,acc=>Vm hp t (growG hp acc acc)
def I6 : List Nat→Nat→Nat
 | [],_=>0
 | x :: l,h=>if x == h then 0 else I6 l h + 1
def Xn (t : List Nat) : List Nat→Bool
 | []=>true
 | x :: l=>Ly x t && Xn t l
def Rj : List Nat→Bool
 | []=>true
 | x :: l=>!Ly x l && Rj l
def Ac2 (n : Nat) : List Nat→Bool
 | []=>true
 | x :: l=>Nat.blt x n && Ac2 n l
def Wu (D : Dn) (hp : List Hl) : List Nat→List Hl
 | []=>[]
 | h :: t=>(match nth hp h with | some l=>normG D l | none=>.gone) :: Wu D hp t
def X7 (g : Hl→Hl) : List Hl→List Hl
 | []=>[]
 | l :: ls=>g l :: X7 g ls
def Nr (hs : List Nat) : List Hl→Bool
 | []=>true
 | l :: ls=>Dm l && Xn hs (hsH l) && Nr hs ls
def Alm (n : Nat) : List Hl→Bool
 | []=>true
 | l :: ls=>Dm l && Ac2 n (hsH l) && Alm n ls
def Cp (hs : List Nat) (m M i : Nat) : Nat:=if Nat.blt i m then (match nth hs i with | some k=>k | none=>0) else M + (i - m)
def Gg (cx : Cx) (σ : Sy) (T : List Nat) (vs0 : List SV) (sp : FSpec) (K : Out→Prop) : Prop :=
 match loose.looseL (norm.normL cx.D vs0) with
 | vs =>
  match Vm σ.hp σ.hp (Nb [] (hsV.hsL vs)) with
  | hs =>
   match Wu cx.D σ.hp hs with
   | ls =>
    if Rj hs && Xn hs (hsV.hsL vs) && Ch.rowlessL vs && Ac2 (Ag σ.hp) hs && Nr hs ls && (hs.isEmpty || T.isEmpty) then
     sp cx.D (rnV.rnL (I6 hs) vs) (X7 (rnH (I6 hs)) ls) fun r ls' =>
      (Nat.ble (Ag hs) (Ag ls') && Ch r && Ac2 (Ag ls') (hsV r) && Alm (Ag ls') ls') = true∧
      K ⟨rnV (Cp hs (Ag hs) (Ag σ.hp)) r,Ej hs (X7 (rnH (Cp hs (Ag hs) (Ag σ.hp))) (Bh (Ag hs) ls')) ++ Fc (Ag σ.hp) (X7 (rnH (Cp hs (Ag hs) (Ag σ.hp))) (C2 (Ag hs) ls')),hs,[]⟩
    else False
def L6 (cx : Cx) (σ : Sy) (T : List Nat) (f : FuncId) (vs : List SV) (K : Out→Prop) : Prop :=
 match look (f + 1000000) cx.tab with
 | some sp=>Gg cx σ T vs sp K
 | none =>
 match look f cx.tab,Gb σ.hp (loose.looseL (norm.normL cx.D vs)) 0 with
 | some sp,some (as,hs,ls) =>
  if Hp (normH cx.D ls) && (hs.isEmpty || T.isEmpty) && Nat.blt f 1000000 then
   sp cx.D as (normH cx.D ls) fun r ls'=>J5 (Ag ls) (Ag ls') r = true∧Hp ls' = true∧Nat.ble (Ag ls) (Ag ls') = true∧
    K ⟨reV (Ag ls) (Ag σ.hp) r,Ej hs (Bh (Ag ls) ls') ++ Fc (Ag σ.hp) (C2 (Ag ls) ls'),hs,[]⟩
  else False
 | _,_=>False
def S9 : List (Nat×SV)→Bool
 | []=>true
 | p :: ps=>Ez p.2.cells && S9 ps
def U5 (cx : Cx) (σ : Sy) (T : List Nat) (ty : TypeId) (x : Operand) (K : Out→Prop) : Prop :=
 match x with
 | .const (.slice none 0 0) =>
  match look ty cx.tt with
  | some ⟨.slice e,_,_,_⟩=>match size? cx e with
   | some n=>out K (.sl (.l true) (.l 0) n fun _=>[])
   | none=>False
  | _=>False
 | x=>Acu K (rd cx σ T x)
def Hr (sz : Nat) : SV→Option (ST×(Nat→List SV))
 | .sl _ m sz' g=>if sz' == sz then some (m,g) else none
 | .gsl _ m sz' g _=>if sz' == sz then some (m,g) else none
 | _=>none
def Xk (cx : Cx) (σ : Sy) (base src : SV) (e sz bytes : Nat) (K : Out→Prop) : Prop :=
 match Hr sz src with
 | some (m,g) =>
  match base with
  | .sl (.l true) (.l 0) _ _ =>
   AppNew (cx.D.i m) bytes∧allNew (cx.D.i m) g fun f' n' =>
    K ⟨.gsl (Ua .eql m (.l 0)) (.a n') sz f' (Ag σ.hp),[.put (Ag σ.hp) (.tail e (.a n') sz)],[],[]⟩
  | .gsl nl n sz' f h =>
   match nth σ.hp h with
   | some (.tail e' n0 sz'') =>
    if sz' == sz && sz'' == sz && e' == e then
     Agt (cx.D.i n) (cx.D.i n0) (cx.D.i m) bytes∧Abs (cx.D.i n) (cx.D.i m) f g fun f' n'=>K ⟨.gsl (Abq nl (Ua .eql m (.l 0))) (.a n') sz f' h,[.put h (.tail e (.a n') sz)],[h],[]⟩
    else False
   | _=>False
  | .osl nl n h =>
   match nth σ.hp h with
   | some (.own e' n0 sz'' gr f) =>
    if sz'' == sz && e' == e then
     Agt (cx.D.i n) (cx.D.i n0) (cx.D.i m) bytes∧Abs (cx.D.i n) (cx.D.i m) f g fun f' n'=>K ⟨.osl (Abq nl (Ua .eql m (.l 0))) (.a n') h,[.put h (.own e (.a n') sz gr f')],[h],[]⟩
    else False
   | _=>False
  | .vsl nl n g0 h =>
   match nth σ.hp h with
   | some (.vec e' n0 g1 sz'' f) =>
    if sz'' == sz && e' == e then
     Agt (cx.D.i n) (cx.D.i n0) (cx.D.i m) bytes∧EqN (cx.D.i g0) (cx.D.i g1)∧Abs (cx.D.i n) (cx.D.i m) f g fun f' n'=>Am7 (cx.D.i g0) fun g'=>K ⟨.vsl (Abq nl (Ua .eql m (.l 0))) (.a n') (.a g') h,[.put h (.vec e (.a n') (.a g') sz f')],[h],[]⟩
    else False
   | _=>False
  | _=>False
 | none=>False
def F9 (sz : Nat) : Nat→List SV→List (List SV)
 | 0,_=>[]
 | n + 1,cs=>Bh sz cs :: F9 sz n (C2 sz cs)
structure Agp (cs : List SV) : Prop where
 ones : Ez cs = true
 plain : Ap.plainL cs = true
structure ZRow (f : Nat→List SV) (n sz : Nat) (cs : List SV) : Prop where
 h : Xs f (F9 sz n cs)
def Au (cx : Cx) (σ : Sy) (T : List Nat) (t : TypeId) (len : Nat) (ps : List (Nat×Operand)) (K : Out→Prop) : Prop :=
 match look t cx.tt,Hw cx σ T ps with
 | some ⟨.slice e,_,_,_⟩,some vs =>
  match look e cx.tt with
  | some te =>
   match S9 vs,fillS te.size (repN len te.zero) vs with
   | true,some cs =>
    if Ap (.agg (loose.looseL (norm.normL cx.D cs))) && Nat.blt 0 te.size && Nat.ble (len * te.size) 16777216 then
     Am8 (F9 te.size len (loose.looseL (norm.normL cx.D cs))) fun f=>match look 999985 cx.gh with
      | some _=>K ⟨.osl (.l false) (.l len) (Ag σ.hp),[.put (Ag σ.hp) (.own e (.l len) te.size true f)],[],[]⟩
      | none=>K ⟨.gsl (.l false) (.l len) te.size f (Ag σ.hp),[.put (Ag σ.hp) (.tail e (.l len) te.size)],[],[]⟩
    else False
   | _,_=>False
  | none=>False
 | _,_=>False
 where
 repN : Nat→List SV→List SV
  | 0,_=>[]
  | n + 1,z=>z ++ repN n z
 fillS (sz : Nat) (cs : List SV) : List (Nat×SV)→Option (List SV)
  | []=>some cs
  | (i,v) :: ps=>if Ag v.cells == sz && Nat.ble (i * sz + sz) (Ag cs) then fillS sz (C7 cs (i * sz) v.cells) ps else none
def Jk : Operand→Operand→Bool
 | .tmp i,.tmp j=>i == j
 | _,_=>false
def U6 (cx : Cx) (σ : Sy) (T : List Nat) (t : TypeId) (len cap : SV) (same : Bool) (K : Out→Prop) : Prop :=
 match T,look t cx.tt with
 | [],some ⟨.slice e,_,_,_⟩ =>
  match look e cx.tt,len,cap with
  | some te,.int .i64 (.l 0),.int _ c =>
   if Nat.blt 0 te.size then
    MkFit (cx.D.i c) te.bytes∧K ⟨.gsl (.l false) (.l 0) te.size (fun _=>[]) (Ag σ.hp),[.put (Ag σ.hp) (.tail e (.l 0) te.size)],[],[]⟩
   else False
  | some te,.int _ n,.int _ _ =>
   if same && Nat.blt 0 te.size then
    MkFit (cx.D.i n) te.bytes∧K ⟨.mrow (Ag σ.hp),[.put (Ag σ.hp) (.row e (.a (cx.D.i n)) te.size fun _=>te.zero)],[],[]⟩
   else False
  | _,_,_=>False
 | _,_=>False
def U7 (cx : Cx) (σ : Sy) (T : List Nat) (t : TypeId) (dst src : SV) (K : Out→Prop) : Prop :=
 match T,look t cx.tt,dst with
 | [],some ⟨.slice e,_,_,_⟩,.mrow h =>
  match nth σ.hp h,size? cx e with
  | some (.row ty n sz f),some sz'' =>
   match Hr sz src,sz'' == sz with
   | some (m,g),true =>
    allCopy (cx.D.i m) (cx.D.i n) g f fun f' r =>
     K ⟨.int .i64 (.a r),[.put h (.row ty n sz f')],[h],[]⟩
   | _,_=>False
  | _,_=>False
 | _,_,_=>False
def Ey (cx : Cx) (σ : Sy) (T : List Nat) : Option Operand→Option (Option SV)
 | none=>some none
 | some x=>match rd cx σ T x with
  | some v=>some (some v)
  | none=>none
def H3 (d : ST) : Option SV→Option ST
 | none=>some d
 | some (.int _ a)=>some a
 | _=>none
def Jw (cx : Cx) (σ : Sy) (T : List Nat) (t : TypeId) (x : SV) (lo hi : Option SV) (K : Out→Prop) : Prop :=
 match H3 (.l 0) lo with
 | some a =>
  match x,look t cx.tt with
  | .sl nl n sz f,some ⟨.slice e,_,_,_⟩=>onRow nl n sz f e a
  | .gsl nl n sz f _,some ⟨.slice e,_,_,_⟩=>onRow nl n sz f e a
  | .osl nl n h,some ⟨.slice e,_,_,_⟩ =>
   match T,nth σ.hp h,lo,hi with
   | [],some (.own e' n0 sz _ f),none,some (.int _ b) =>
    if e' == e && (look e cx.tt).isSome then
     EqN (cx.D.i n) (cx.D.i n0)∧SubB 0 (cx.D.i b) (cx.D.i n)∧K ⟨.sl nl (.a (cx.D.i b)) sz f,[.put h .gone],[h],[]⟩
    else False
   | [],some (.own _ n0 sz _ _),some (.int _ b),none =>
    if size? cx e = some sz then
     EqN (cx.D.i n) (cx.D.i n0)∧SubB (cx.D.i b) (cx.D.i n) (cx.D.i n)∧K ⟨.tsl n b h,[],[h],[]⟩
    else False
   | _,_,_,_=>False
  | .vsl nl n g0 h,some ⟨.slice e,_,_,_⟩ =>
   match T,nth σ.hp h,lo,hi with
   | [],some (.vec e' n0 g1 sz f),none,some (.int _ b) =>
    if e' == e && (look e cx.tt).isSome then
     EqN (cx.D.i n) (cx.D.i n0)∧EqN (cx.D.i g0) (cx.D.i g1)∧SubB 0 (cx.D.i b) (cx.D.i n)∧Am7 (cx.D.i g0) fun g'=>K ⟨.vsl nl (.a (cx.D.i b)) (.a g') h,[.put h (.vec e (.a (cx.D.i b)) (.a g') sz f)],[h],[]⟩
    else False
   | _,_,_,_=>False
  | .str s,some ⟨.string,_,_,_⟩ =>
   match H3 (.len s) hi with
   | some b=>Ob cx.D σ.gm T (SubS (cx.D.i a) (cx.D.i b) s)∧allSubS s (cx.D.i a) (cx.D.i b) fun r=>out K (.str r)
   | none=>False
  | _,_=>False
 | none=>False
 where onRow (nl : BT) (n : ST) (sz : Nat) (f : Nat→List SV) (e : TypeId) (a : ST) : Prop :=
 match H3 n hi with
 | some b =>
  if size? cx e = some sz then
   Ob cx.D σ.gm T (SubB (cx.D.i a) (cx.D.i b) (cx.D.i n))∧allSub f (cx.D.i a) (cx.D.i b) fun f' n'=>out K (.sl nl (.a n') sz f')
  else False
 | none=>False
def Aey (i : Int) (F : Nat→Prop) : Nat→Nat→Prop
 | 0,_=>True
 | n + 1,j=>(IsJ j i→F j)∧Aey i F n (j + 1)
def ixT (cx : Cx) (i : ST) : ST :=
 match look 999989 cx.gh with
 | some _=>(match i with
  | .a n=>.l n
  | .cv k (.a n)=>.l (k.wrap n)
  | i=>i)
 | none=>i
def Q7 (cx : Cx) (T : List Nat) (h off n sz : Nat) (i : ST) (K : Out→Prop) : Prop :=
 match ixT cx i with
 | .l (.ofNat k)=>if Nat.blt k n then out K (.ptr h (off + k * sz)) else False
 | _=>match T with
  | []=>InB (cx.D.i i) n∧Aey (cx.D.i i) (fun j=>out K (.ptr h (off + j * sz))) n 0
  | _=>False
def Aew (cx : Cx) (σ : Sy) (T : List Nat) (o : Oper) (K : Out→Prop) : Prop :=
 match o.op with
 | .move x | .assign x=>U5 cx σ T o.type x K
 | .alloc e =>
  match T,look e cx.tt with
  | [],some ti=>match look (3000000 + o.dst.getD 0) cx.gh with
   | some _=>match ti.k with
    | .array n el=>match size? cx el with
     | some (sz' + 1)=>if (n * (sz' + 1)) == ti.size && Nat.ble n 1000000 then ∃ f,ZRow f n (sz' + 1) ti.zero∧K ⟨.ptr (Ag σ.hp) 0,[.put (Ag σ.hp) (.row e (.l n) (sz' + 1) f)],[],[]⟩ else False
     | _=>False
    | _=>False
   | none=>K ⟨.ptr (Ag σ.hp) 0,[.put (Ag σ.hp) (.blk e ti.zero)],[],[]⟩
  | _,_=>False
 | .box e x =>
  match T,look e cx.tt,rd cx σ T x with
  | [],some ti,some v=>if Ag v.cells == ti.size && Ez v.cells then K ⟨.ptr (Ag σ.hp) 0,[.put (Ag σ.hp) (.blk e v.cells)],[],[]⟩ else False
  | _,_,_=>False
 | .build t ps =>
  match look t cx.tt,Hw cx σ T ps.toList with
  | some ti,some vs=>match S9 vs,Tk cx t ti.zero vs,ti.k with
   | true,some cs,.struct _=>out K (.agg cs)
   | true,some cs,.array _ e=>match size? cx e with
    | some _=>out K (.agg cs)
    | none=>False
   | _,_,_=>False
  | _,_=>False
 | .load t a =>
  match rd cx σ T a,size? cx t with
  | some (.ptr h off),some n =>
   match nth σ.hp h with
   | some (.blk _ cs)=>if Nat.ble (off + n) (Ag cs) then
     match Lw (isAgg? cx t) (Bh n (C2 off cs)) with
     | some v=>K ⟨v,[],[],[(h,off,n)]⟩
     | none=>False
    else False
   | some (.row _ m sz f)=>match T,off,look t cx.tt with
    | [],0,some ⟨.array n' el,sz',_,_⟩=>if size? cx el = some sz∧n' * sz = sz' then EqN (cx.D.i m) n'∧∃ cs,Ael f (cx.D.i m) sz cs∧K ⟨.agg cs,[],[h],[]⟩ else False
    | _,_,_=>False
   | _=>False
  | some (.rptr cs),some n=>if Nat.ble n (Ag cs) then Acu K (Lw (isAgg? cx t) (Bh n cs)) else False
  | some (.mptr h j off),some n =>
   match nth σ.hp h with
   | some (.row _ m _sz f)=>Ob cx.D σ.gm T (LtB j (cx.D.i m))∧
    if Nat.ble (off + n) (Ag (f j)) then
     match Lw (isAgg? cx t) (Bh n (C2 off (f j))) with
     | some v=>K ⟨v,[],[h],[]⟩
     | none=>False
    else False
   | _=>False
  | some (.optr m' h j off),some n =>
   match nth σ.hp h with
   | some (.own _ m _sz _ f)=>Ob cx.D σ.gm T (EqN (cx.D.i m') (cx.D.i m))∧Ob cx.D σ.gm T (LtB j (cx.D.i m))∧
    if Nat.ble (off + n) (Ag (f j)) then
     match Lw (isAgg? cx t) (Bh n (C2 off (f j))) with
     | some v=>K ⟨v,[],[h],[]⟩
     | none=>False
    else False
   | _=>False
  | _,_=>False
 | .store t a x =>
  match T,rd cx σ T a,rdT cx σ T t x,size? cx t with
  | [],some (.ptr h off),some v,some n =>
   match nth σ.hp h with
   | some (.blk _ cs)=>if Ag v.cells == n && Nat.ble (off + n) (Ag cs) && Ez v.cells then K ⟨.tup [],[.set h off v.cells],[],[]⟩ else False
   | some (.row ty m sz _)=>match off,v,look t cx.tt with
    | 0,.agg cs,some ⟨.array n' el,sz',_,_⟩=>if size? cx el = some sz∧n' * sz = sz' then EqN (cx.D.i m) n'∧Agp cs∧∃ f',Ael f' (cx.D.i m) sz cs∧K ⟨.tup [],[.put h (.row ty m sz f')],[h],[]⟩ else False
    | _,_,_=>False
   | _=>False
  | [],some (.mptr h j off),some v,some n =>
   match nth σ.hp h with
   | some (.row ty m sz f)=>LtB j (cx.D.i m)∧
    if Ag v.cells == n && Nat.ble (off + n) (Ag (f j)) && Ez v.cells && Ap (.agg (loose.looseL (norm.normL cx.D v.cells))) then
     Abr f j (C7 (f j) off (loose.looseL (norm.normL cx.D v.cells))) fun f'=>K ⟨.tup [],[.put h (.row ty m sz f')],[h],[]⟩
    else False
   | _=>False
  | [],some (.optr m' h j off),some v,some n =>
   match nth σ.hp h with
   | some (.own ty m sz gr f)=>EqN (cx.D.i m') (cx.D.i m)∧LtB j (cx.D.i m)∧
    if Ag v.cells == n && Nat.ble (off + n) (Ag (f j)) && Ez v.cells && Ap (.agg (loose.looseL (norm.normL cx.D v.cells))) then
     Abr f j (C7 (f j) off (loose.looseL (norm.normL cx.D v.cells))) fun f'=>K ⟨.tup [],[.put h (.own ty m sz gr f')],[h],[]⟩
    else False
   | _=>False
  | _,_,_,_=>False
 | .fieldAddr t x i =>
  match rd cx σ T x,field? cx t i with
  | some (.ptr h off),some (fo,ft)=>match size? cx ft with
   | some (_ + 1)=>out K (.ptr h (off + fo))
   | _=>False
  | some (.rptr cs),some (fo,ft)=>match size? cx ft with
   | some (m + 1)=>if Nat.ble (fo + (m + 1)) (Ag cs) then out K (.rptr (Bh (m + 1) (C2 fo cs))) else False
   | _=>False
  | some (.mptr h j off),some (fo,ft)=>match size? cx ft with
   | some (_ + 1)=>out K (.mptr h j (off + fo))
   | _=>False
  | some (.optr n h j off),some (fo,ft)=>match size? cx ft with
   | some (_ + 1)=>out K (.optr n h j (off + fo))
   | _=>False
  | _,_=>False
 | .nilCheck x =>
  match rd cx σ T x with
  | some (.ptr h off)=>out K (.ptr h off)
  | some (.rptr cs)=>out K (.rptr cs)
  | some (.mptr h j off)=>out K (.mptr h j off)
  | some (.optr n h j off)=>out K (.optr n h j off)
  | some (.rarr n sz f)=>out K (.rarr n sz f)
  | _=>False
 | .field t x i =>
  match rd cx σ T x,field? cx t i with
  | some (.agg cs),some (fo,ft)=>match size? cx ft with
   | some m=>if Nat.ble (fo + m) (Ag cs) then Acu K (Lw (isAgg? cx ft) (Bh m (C2 fo cs))) else False
   | _=>False
  | _,_=>False
 | .indexAddr t x ix =>
  match rd cx σ T x,rd cx σ T ix,look t cx.tt with
  | some (.sl _ n sz f),some (.int _ i),some ⟨.slice e,_,_,_⟩ =>
   if size? cx e = some sz then
    Ob cx.D σ.gm T (InB (cx.D.i i) (cx.D.i n))∧allJ cx.D σ.gm T (cx.D.i i) fun j=>out K (.rptr (f j))
   else False
  | some (.gsl _ n sz f _),some (.int _ i),some ⟨.slice e,_,_,_⟩ =>
   if size? cx e = some sz then
    Ob cx.D σ.gm T (InB (cx.D.i i) (cx.D.i n))∧allJ cx.D σ.gm T (cx.D.i i) fun j=>out K (.rptr (f j))
   else False
  | some (.mrow h),some (.int _ i),some ⟨.slice e,_,_,_⟩ =>
   match nth σ.hp h with
   | some (.row _ n sz _) =>
    if size? cx e = some sz then
     Ob cx.D σ.gm T (InB (cx.D.i i) (cx.D.i n))∧allJ cx.D σ.gm T (cx.D.i i) fun j=>K ⟨.mptr h j 0,[],[h],[]⟩
    else False
   | _=>False
  | some (.osl _ m h),some (.int _ i),some ⟨.slice e,_,_,_⟩ =>
   match nth σ.hp h with
   | some (.own _ n sz _ _) =>
    if size? cx e = some sz then
     Ob cx.D σ.gm T (EqN (cx.D.i m) (cx.D.i n))∧Ob cx.D σ.gm T (InB (cx.D.i i) (cx.D.i n))∧allJ cx.D σ.gm T (cx.D.i i) fun j=>K ⟨.optr m h j 0,[],[h],[]⟩
    else False
   | _=>False
  | some (.ptr h off),some (.int _ i),some ⟨.array n e,_,_,_⟩ =>
   match size? cx e with
   | some sz=>match T,off,nth σ.hp h with
    | [],0,some (.row _ _ sz' _)=>if sz' == sz then InB (cx.D.i i) n∧allJ cx.D σ.gm [] (cx.D.i i) fun j=>K ⟨.mptr h j 0,[],[h],[]⟩ else False
    | _,_,_=>Q7 cx T h off n sz i K
   | none=>False
  | some (.rarr n sz f),some (.int _ i),some ⟨.array n' e,_,_,_⟩ =>
   if size? cx e = some sz∧n = n' then
    Ob cx.D σ.gm T (InB (cx.D.i i) n)∧allJ cx.D σ.gm T (cx.D.i i) fun j=>out K (.rptr (f j))
   else False
  | _,_,_=>False
 | .makeFunc (.func f) fi cs =>
  match fi.toList,J8 cx σ T cs.toList [] with
  | [],some vs=>out K (.clo f vs)
  | _,_=>False
 | .buildSlice t len ps=>Au cx σ T t len ps.toList K
 | .makeSlice t l c =>
  match rd cx σ T l,rd cx σ T c with
  | some a,some b=>U6 cx σ T t a b (Jk l c) K
  | _,_=>False
 | .slice t x lo hi none =>
  match rd cx σ T x,Ey cx σ T lo,Ey cx σ T hi with
  | some v,some a,some b=>Jw cx σ T t v a b K
  | _,_,_=>False
 | .index t x ix =>
  match rd cx σ T x,rd cx σ T ix,look t cx.tt with
  | some (.str s),some (.int _ i),some ⟨.string,_,_,_⟩ =>
   Ob cx.D σ.gm T (InS (cx.D.i i) s)∧allByte s (cx.D.i i) fun c=>out K (.int .u8 (.a c))
  | some (.agg cs),some (.int _ (.l (.ofNat k))),some ⟨.array n e,_,_,_⟩ =>
   match size? cx e with
   | some sz=>if Nat.blt k n && Nat.ble (k * sz + sz) (Ag cs) then Acu K (Lw (isAgg? cx e) (Bh sz (C2 (k * sz) cs))) else False
   | none=>False
  | _,_,_=>False
 | .makeMap t none =>
  match T,look t cx.tt with
  | [],some ⟨.map _ _,_,_,_⟩=>K ⟨.mapv (Ag σ.hp),[.put (Ag σ.hp) (.mset fun _=>false)],[],[]⟩
  | _,_=>False
 | .mapUpdate t m k x | .insert t m k x =>
  match T,look t cx.tt,rd cx σ T m,rd cx σ T k,rd cx σ T x with
  | [],some ⟨.map kt vt,_,_,_⟩,some (.mapv h),some (.str s),some (.bool b) =>
   match look kt cx.tt,look vt cx.tt,nth σ.hp h with
   | some ⟨.string,_,_,_⟩,some ⟨.bool,_,_,_⟩,some (.mset F)=>allMap F s (cx.D.b b) fun F'=>K ⟨.tup [],[.put h (.mset F')],[h],[]⟩
   | _,_,_=>False
  | _,_,_,_,_=>False
 | .lookup t m k false =>
  match look t cx.tt,rd cx σ T m,rd cx σ T k with
  | some ⟨.map kt vt,_,_,_⟩,some (.mapv h),some (.str s) =>
   match look kt cx.tt,look vt cx.tt,nth σ.hp h with
   | some ⟨.string,_,_,_⟩,some ⟨.bool,_,_,[.bool (.l false)]⟩,some (.mset F)=>K ⟨.bool (.a (F s)),[],[h],[]⟩
   | _,_,_=>False
  | _,_,_=>False
 | .extract x i =>
  match rd cx σ T x with
  | some (.tup vs)=>Acu K (nth vs i)
  | _=>False
 | .unOp op _ x =>
  match op,rd cx σ T x with
  | .not,some (.bool b)=>out K (.bool (Afs b))
  | .neg,some (.int k n)=>out K (.int k (Amy .sub k (.l 0) n))
  | _,_=>False
 | .binOp op t x y _ =>
  match rd cx σ T x,rd cx σ T y with
  | some a,some (.raw _)=>Aaj cx op t a y K
  | some a,some b=>Aak cx σ.gm T op t a b K
  | _,_=>False
 | .convert src dst x =>
  match rd cx σ T x,look dst cx.tt,look src cx.tt with
  | some (.int _ n),some ⟨.int k,_,_,_⟩,some _=>out K (.int k (.cv k n))
  | some (.str s),some ⟨.slice e,_,_,_⟩,some ⟨.string,_,_,_⟩ =>
   match look e cx.tt with
   | some ⟨.int .u8,_,_,_⟩=>match look 999983 cx.gh with
    | some _=>match T with
     | []=>SFit s∧Aei s fun f=>K ⟨.osl (.l false) (.len s) (Ag σ.hp),[.put (Ag σ.hp) (.own e (.len s) 1 false f)],[],[]⟩
     | _=>False
    | none=>Ob cx.D σ.gm T (SFit s)∧Aei s fun f=>out K (.sl (.l false) (.len s) 1 f)
   | _=>False
  | some (.sl _ n 1 f),some ⟨.string,_,_,_⟩,some ⟨.slice e,_,_,_⟩=>Uf cx σ T e n f K
  | some (.gsl _ n 1 f _),some ⟨.string,_,_,_⟩,some ⟨.slice e,_,_,_⟩=>Uf cx σ T e n f K
  | some (.osl (.l false) n h),some ⟨.slice e,_,_,_⟩,some ⟨.slice e',_,_,_⟩ =>
   match T,look e cx.tt,nth σ.hp h with
   | [],some ⟨.int .u8,_,_,_⟩,some (.own ty n0 1 true f)=>if e' == e && src == dst && ty == e then
     EqN (cx.D.i n) (cx.D.i n0)∧K ⟨.osl (.l false) n h,[.put h (.own e n0 1 false f)],[h],[]⟩ else False
   | _,_,_=>False
  | some (.osl _ n h),some ⟨.string,_,_,_⟩,some ⟨.slice e,_,_,_⟩ =>
   match T,look e cx.tt,nth σ.hp h with
   | [],some ⟨.int .u8,_,_,_⟩,some (.own _ n0 1 _ f)=>EqN (cx.D.i n) (cx.D.i n0)∧H6 (cx.D.i n0) f∧Am5 (cx.D.i n0) f fun r=>K ⟨.str r,[],[h],[]⟩
   | _,_,_=>False
  | _,_,_=>False
 | .call c =>
  match c.callee with
  | .builtin .len =>
   match c.args.toList,c.argTypes.toList with
   | [x],[t] =>
    match rd cx σ T x,look t cx.tt with
    | some (.sl _ n _ _),some ⟨.slice _,_,_,_⟩=>out K (.int .i64 n)
    | some (.gsl _ n _ _ _),some ⟨.slice _,_,_,_⟩=>out K (.int .i64 n)
    | some (.osl _ n _),some ⟨.slice _,_,_,_⟩=>out K (.int .i64 n)
    | some (.vsl _ n _ _),some ⟨.slice _,_,_,_⟩=>out K (.int .i64 n)
    | some (.str s),some ⟨.string,_,_,_⟩=>out K (.int .i64 (.len s))
    | some (.mrow h),some ⟨.slice _,_,_,_⟩=>match nth σ.hp h with
     | some (.row _ n _ _)=>K ⟨.int .i64 n,[],[h],[]⟩
     | _=>False
    | _,_=>False
   | _,_=>False
  | .builtin .append =>
   match T,c.args.toList,c.argTypes.toList with
   | [],[x,y],[t,t'] =>
    match rd cx σ T x,rd cx σ T y,look t cx.tt with
    | some b,some s,some ⟨.slice e,_,_,_⟩ =>
     match look e cx.tt with
     | some te=>if t == t' && Nat.blt 0 te.size then Xk cx σ b s e te.size te.bytes K else False
     | none=>False
    | _,_,_=>False
   | _,_,_=>False
  | .builtin .clear =>
   match T,c.args.toList,c.argTypes.toList with
   | [],[x],[t] =>
    match rd cx σ T x,look t cx.tt with
    | some (.tsl n a h),some ⟨.slice e,_,_,_⟩ =>
     match nth σ.hp h,look e cx.tt with
     | some (.own e' n0 sz gr f),some te =>
      if e' == e && te.size == sz && Ap (.agg te.zero) then
       EqN (cx.D.i n) (cx.D.i n0)∧allClr f (cx.D.i a) te.zero fun f'=>K ⟨.tup [],[.put h (.own e n0 sz gr f')],[h],[]⟩
      else False
     | _,_=>False
    | _,_=>False
   | _,_,_=>False
  | .builtin .copy =>
   match c.args.toList,c.argTypes.toList with
   | [x,y],[t,_] =>
    match rd cx σ T x,rd cx σ T y with
    | some d,some s=>U7 cx σ T t d s K
    | _,_=>False
   | _,_=>False
  | .builtin .max =>
   match c.args.toList with
   | [x,y] =>
    match rd cx σ T x,rd cx σ T y with
    | some (.int k a),some (.int k' b)=>if k = k' then allMax (cx.D.i a) (cx.D.i b) fun r=>out K (.int k (.a r)) else False
    | _,_=>False
   | _=>False
  | .builtin .min =>
   match c.args.toList with
   | [x,y] =>
    match rd cx σ T x,rd cx σ T y with
    | some (.int k a),some (.int k' b)=>if k = k' then allMin (cx.D.i a) (cx.D.i b) fun r=>out K (.int k (.a r)) else False
    | _,_=>False
   | _=>False
  | .value (.func f) =>
   match J8 cx σ T c.args.toList c.argTypes.toList with
   | some vs=>L6 cx σ T f vs K
   | none=>False
  | .value (.tmp s) =>
   match J8 cx σ T c.args.toList c.argTypes.toList,rd cx σ T (.tmp s) with
   | some vs,some (.fn f)=>L6 cx σ T f vs K
   | some vs,some (.clo f cs)=>L6 cx σ T f (vs ++ cs) K
   | _,_=>False
  | _=>False
 | _=>False
def U4 (cx : Cx) (σ : Sy) (T : List Nat) (c a b : Operand) (K : Out→Prop) : Prop :=
 match c with
 | .tmp s =>
  match Az σ.fr s with
  | some ⟨tg,_,_,.bool (.l true)⟩=>if Xv tg T then Acu K (rd cx σ T a) else False
  | some ⟨tg,_,_,.bool (.l false)⟩=>if Xv tg T then Acu K (rd cx σ T b) else False
  | some ⟨tg,gt,gf,.bool ct⟩ =>
   if Xv tg T then
    match rd cx σ (gt.toList ++ T) a,rd cx σ (gf.toList ++ T) b with
    | some (.bool x),some (.bool (.l false))=>out K (.bool (.and ct x))
    | some (.bool (.l true)),some (.bool y)=>out K (.bool (.or ct y))
    | _,_=>False
   else False
  | _=>False
 | _=>False
def Hz (ops : List Oper) (σ : Sy) : Option (Nat×Bool)→Option (Option (Sy×List Nat))
 | none=>some (some (σ,[]))
 | some (j,want) =>
  match nth ops j with
  | some oj=>match oj.dst with
   | some s=>match Az σ.fr s with
    | some ⟨tg,_,_,.bool (.l b)⟩=>if b == want then some (some (σ,tg)) else some none
    | some ⟨tg,gt,gf,.bool c⟩ =>
     if want then
      match gt with
      | some i=>some (some (σ,i :: tg))
      | none=>some (some (⟨A3 σ.fr s (some ⟨tg,some (Ag σ.gm),gf,.bool c⟩),σ.hp,σ.gm ++ [c]⟩,Ag σ.gm :: tg))
     else
      match gf with
      | some i=>some (some (σ,i :: tg))
      | none=>some (some (⟨A3 σ.fr s (some ⟨tg,gt,some (Ag σ.gm),.bool c⟩),σ.hp,σ.gm ++ [.not c]⟩,Ag σ.gm :: tg))
    | _=>none
   | none=>none
  | none=>none
def Ln (hp : List Hl) : List Ef→Bool
 | []=>true
 | .set h off vs :: es=>Ln (efH hp (.set h off vs)) es
 | .put h hl :: es=>Nat.ble h (Ag hp) && Ln (efH hp (.put h hl)) es
def setD (fr : List (Option G)) (d : Option Nat) (g : Option G) : List (Option G) :=
 match d with
 | some s=>A3 fr s g
 | none=>fr
def Pm (cx : Cx) (σ : Sy) (T : List Nat) (op : Op) : Option (Nat×Call) :=
 match op with
 | .call c=>match c.callee with
  | .value (.tmp s)=>match rd cx σ T (.tmp s) with
   | some (.yv h)=>some (h,c)
   | _=>none
  | _=>none
 | _=>none
def Nh (cx : Cx) (σ : Sy) (T : List Nat) (h : Nat) (c : Call) (K : Out→Prop) : Prop :=
 match J8 cx σ T c.args.toList c.argTypes.toList,cx.yl with
 | some vs,[Y]=>Gg cx σ [] (.yv h :: vs) Y K
 | _,_=>False
def Ug (cx : Cx) (σ : Sy) (T : List Nat) (o : Oper) (K : Out→Prop) : Prop :=
 match o.op with
 | .pick c a b=>U4 cx σ T c a b K
 | _=>match Pm cx σ T o.op with
  | some (h,c)=>Nh cx σ T h c K
  | none=>Aew cx σ T o K
structure FP where
 rds : List Nat
 rdc : List (Nat×Nat×Nat)
 wr : List (Nat×Option (Nat×Nat))
def efW : List Ef→List (Nat×Option (Nat×Nat))
 | []=>[]
 | .set h off vs :: es=>(h,some (off,Ag vs)) :: efW es
 | .put h _ :: es=>(h,none) :: efW es
def Adm (r : Out) : FP:=⟨r.rds,r.rdc,efW r.efs⟩
def Ac0 (o : Oper) : Bool:=match o.op with
 | .defer _=>false
 | _=>true
def Ah1 (cx : Cx) (op : Op) : Option SV:=match op with
 | .buildSlice t _ _=>match look t cx.tt with
  | some ⟨.slice e,_,_,_⟩=>match look e cx.tt with
   | some te=>some (.sl (.l true) (.l 0) te.size fun _=>[])
   | none=>none
  | _=>none
 | _=>none
def Gy (cx : Cx) (all : List Oper) : List Oper→List FP→Sy→(List FP→Sy→Prop)→Prop
 | [],fs,σ,K=>K fs σ
 | o :: os,fs,σ,K =>
  match Hz all σ o.guard with
  | none=>False
  | some none=>Gy cx all os (fs ++ [⟨[],[],[]⟩]) ⟨setD σ.fr o.dst none,σ.hp,σ.gm⟩ K
  | some (some (σ,T)) =>
   match Pm cx σ T o.op,T with
   | some (h,c),[i]=>match nth σ.gm i with
    | some b=>(cx.D.b b = true→Nh cx σ [i] h c fun r=>if Ln σ.hp r.efs then Gy cx all os (fs ++ [Adm r]) ⟨setD σ.fr o.dst (some ⟨[i],none,none,r.v⟩),Ny σ.hp r.efs,σ.gm⟩ K else False)∧
      (cx.D.b b = false→Gy cx all os (fs ++ [Adm ⟨.bool (.l true),[],[],[]⟩]) ⟨setD σ.fr o.dst (some ⟨[i],none,none,.bool (.l true)⟩),σ.hp,σ.gm⟩ K)
    | none=>False
   | _,_=>match Ah1 cx o.op,T with
    | some d,[i]=>match nth σ.gm i with
     | some b=>(cx.D.b b = true→Ug cx σ [i] o fun r=>if Ln σ.hp r.efs then Gy cx all os (fs ++ [Adm r]) ⟨setD σ.fr o.dst (some ⟨[i],none,none,r.v⟩),Ny σ.hp r.efs,σ.gm⟩ K else False)∧
       (cx.D.b b = false→Gy cx all os (fs ++ [Adm ⟨d,[],[],[]⟩]) ⟨setD σ.fr o.dst (some ⟨[i],none,none,d⟩),σ.hp,σ.gm⟩ K)
     | none=>False
    | _,_=>Ug cx σ T o fun r=>if Ln σ.hp r.efs && (T.isEmpty || r.efs.isEmpty) && Ac0 o then Gy cx all os (fs ++ [Adm r]) ⟨setD σ.fr o.dst (some ⟨T,none,none,r.v⟩),Ny σ.hp r.efs,σ.gm⟩ K else False
def Alk : Operand→List Nat
 | .tmp s=>[s]
 | _=>[]
def Aal : List Operand→List Nat
 | []=>[]
 | x :: xs=>Alk x ++ Aal xs
def Sb (all : List Oper) : Option (Nat×Bool)→List Nat
 | none=>[]
 | some (j,_)=>match nth all j with
  | some oj=>match oj.dst with
   | some s=>[s]
   | none=>[]
  | none=>[]
def Wa (all : List Oper) (o : Oper) : List Nat:=Aal o.op.operands.toList ++ Sb all o.guard
def Rm : List Nat→List Nat→Bool
 | [],_=>false
 | x :: l,t=>Ly x t || Rm l t
def X5 : Option Nat→List Nat
 | some x=>[x]
 | none=>[]
def Cz : Nat×Option (Nat×Nat)→Nat×Option (Nat×Nat)→Bool
 | (h,a),(k,b)=>h == k && match a,b with
  | some (x,m),some (y,n)=>Nat.blt x (y + n) && Nat.blt y (x + m)
  | _,_=>true
def anyR (x : Nat×Option (Nat×Nat)) : List (Nat×Option (Nat×Nat))→Bool
 | []=>false
 | y :: l=>Cz x y || anyR x l
def Rl : List (Nat×Option (Nat×Nat))→List (Nat×Option (Nat×Nat))→Bool
 | [],_=>false
 | x :: l,t=>anyR x t || Rl l t
def rdR (f : FP) : List (Nat×Option (Nat×Nat)):=(f.rds.map fun h=>(h,none)) ++ f.rdc.map fun x=>(x.1,some (x.2.1,x.2.2))
def Ad7 (all : List Oper) (o : Oper) (f : FP) (o' : Oper) (f' : FP) : Bool :=
 Rm (X5 o.dst) (Wa all o') || Rm (X5 o.dst) (X5 o'.dst) || Rm (X5 o'.dst) (Wa all o) || Rl f.wr (rdR f') || Rl f.wr f'.wr || Rl f'.wr (rdR f)
def Am9 (x : Nat) (l : List Nat) : List Nat:=if Ly x l then l else x :: l
def Aeq : List Nat→List Nat→List Nat
 | [],t=>t
 | x :: l,t=>Aeq l (Am9 x t)
def Dg : List Edge→List Nat
 | []=>[]
 | e :: es=>(match e.ground with | .textOnly _ | .gcOnly _=>[] | _=>[e.on]) ++ Dg es
def Sr (acc : List (List Nat)) : List Nat→List Nat
 | []=>[]
 | i :: l=>Aeq (Am9 i ((nth acc i).getD [])) (Sr acc l)
def Jf : List Oper→List (List Nat)→List (List Nat)
 | [],acc=>acc
 | o :: os,acc=>Jf os (acc ++ [Sr acc (Dg o.after.toList)])
def Aa2 (n : Nat) : List Nat→Bool
 | []=>true
 | x :: l=>Nat.blt x n && Aa2 n l
def H0 : List Oper→Nat→Bool
 | [],_=>true
 | o :: os,n=>Aa2 n (Dg o.after.toList) && H0 os (n + 1)
def Ns (all : List Oper) (bs : List (List Nat)) (i : Nat) (o : Oper) (f : FP) : List Oper→List FP→Nat→Bool
 | o' :: os,f' :: fs,j=>(!(Ad7 all o f o' f') || Ly i ((nth bs j).getD [])) && Ns all bs i o f os fs (j + 1)
 | _,_,_=>true
def Wp (all : List Oper) (bs : List (List Nat)) : List Oper→List FP→Nat→Bool
 | o :: os,f :: fs,i=>Ns all bs i o f os fs (i + 1) && Wp all bs os fs (i + 1)
 | _,_,_=>true
structure IndepOk (ops : List Oper) (fs : List FP) : Prop where
 h : (H0 ops 0 && Wp ops (Jf ops []) ops fs 0) = true
def tidy : List (Option G)→List (Option G)
 | []=>[]
 | some ⟨[],_,_,v⟩ :: l=>some ⟨[],none,none,v⟩ :: tidy l
 | _ :: l=>none :: tidy l
def thaw (h : Nat) (x : SV) : SV→SV
 | .mrow k=>if k == h then x else .mrow k
 | .agg cs=>.agg (thawL h x cs)
 | .tup cs=>.tup (thawL h x cs)
 | .clo f cs=>.clo f (thawL h x cs)
 | v=>v
 where thawL (h : Nat) (x : SV) : List SV→List SV
 | []=>[]
 | c :: cs=>thaw h x c :: thawL h x cs
def Ft (h : Nat) (x : SV) : List (Option G)→List (Option G)
 | []=>[]
 | some ⟨tg,gt,gf,v⟩ :: l=>some ⟨tg,gt,gf,thaw h x v⟩ :: Ft h x l
 | none :: l=>none :: Ft h x l
def Ab3 (h : Nat) (x : SV) : List Hl→List Hl
 | []=>[]
 | .blk ty cs :: ls=>.blk ty (thaw.thawL h x cs) :: Ab3 h x ls
 | l :: ls=>l :: Ab3 h x ls
def E8 (cx : Cx) (σ : Sy) : Gh→Option Sy
 | .hold s k e=>match Az σ.fr s with
  | some ⟨[],_,_,.ptr h 0⟩=>match nth σ.hp h with
   | some (.blk T cs)=>match nth cs k,size? cx e with
    | some (.sl (.l true) (.l 0) sz f),some sz'=>if sz' == sz then some ⟨σ.fr,A3 σ.hp h (.blk T (A3 cs k (.gsl (.l true) (.l 0) sz f (Ag σ.hp)))) ++ [.tail e (.l 0) sz],σ.gm⟩ else none
    | _,_=>none
   | _=>none
  | _=>none
 | .freeze s=>match Az σ.fr s with
  | some ⟨[],_,_,.mrow h⟩=>match nth σ.hp h with
   | some (.row _ n sz f)=>some ⟨Ft h (.sl (.l false) n sz f) σ.fr,A3 (Ab3 h (.sl (.l false) n sz f) σ.hp) h .gone,σ.gm⟩
   | _=>none
  | _=>none
 | .attach s e=>match Az σ.fr s with
  | some ⟨[],_,_,.sl (.l true) (.l 0) sz f⟩=>match size? cx e with
   | some sz'=>if sz' == sz then some ⟨A3 σ.fr s (some ⟨[],none,none,.gsl (.l true) (.l 0) sz f (Ag σ.hp)⟩),σ.hp ++ [.tail e (.l 0) sz],σ.gm⟩ else none
   | none=>none
  | _=>none
 | .own s e=>match Az σ.fr s with
  | some ⟨[],_,_,.sl (.l true) (.l 0) sz f⟩=>match size? cx e with
   | some sz'=>if sz' == sz then some ⟨A3 σ.fr s (some ⟨[],none,none,.osl (.l true) (.l 0) (Ag σ.hp)⟩),σ.hp ++ [.own e (.l 0) sz true f],σ.gm⟩ else none
   | none=>none
  | _=>none
 | .share s=>match Az σ.fr s with
  | some ⟨[],_,_,.osl nl n h⟩=>match nth σ.hp h with
   | some (.own _ _ sz _ f)=>some ⟨A3 σ.fr s (some ⟨[],none,none,.sl nl n sz f⟩),A3 σ.hp h .gone,σ.gm⟩
   | _=>none
  | _=>none
 | .bld s e=>match Az σ.fr s with
  | some ⟨[],_,_,.ptr h 0⟩=>match nth σ.hp h with
   | some (.blk T [.nilp,.sl (.l true) (.l 0) 1 _])=>some ⟨σ.fr,A3 σ.hp h (.bld T e []),σ.gm⟩
   | _=>none
  | _=>none
 | .tot _=>none
 | .frz _=>none
 | .unrow _=>none
 | .vec s e=>match Az σ.fr s with
  | some ⟨[],_,_,.sl (.l true) (.l 0) sz f⟩=>match size? cx e with
   | some sz'=>if sz' == sz then some ⟨A3 σ.fr s (some ⟨[],none,none,.vsl (.l true) (.l 0) (.l 0) (Ag σ.hp)⟩),σ.hp ++ [.vec e (.l 0) (.l 0) sz f],σ.gm⟩ else none
   | none=>none
  | _=>none
 | .vecb s k e=>match Az σ.fr s with
  | some ⟨[],_,_,.ptr h 0⟩=>match nth σ.hp h with
   | some (.blk T cs)=>match nth cs k,size? cx e with
    | some (.sl (.l true) (.l 0) sz f),some sz'=>if sz' == sz then some ⟨σ.fr,A3 σ.hp h (.blk T (A3 cs k (.vsl (.l true) (.l 0) (.l 0) (Ag σ.hp)))) ++ [.vec e (.l 0) (.l 0) sz f],σ.gm⟩ else none
    | _,_=>none
   | _=>none
  | _=>none
 | .vshare s=>match Az σ.fr s with
  | some ⟨[],_,_,.vsl nl n _ h⟩=>match nth σ.hp h with
   | some (.vec _ _ _ sz f)=>some ⟨A3 σ.fr s (some ⟨[],none,none,.sl nl n sz f⟩),A3 σ.hp h .gone,σ.gm⟩
   | _=>none
  | _=>none
 | .vshareb s k=>match Az σ.fr s with
  | some ⟨[],_,_,.ptr hb 0⟩=>match nth σ.hp hb with
   | some (.blk T cs)=>match nth cs k with
    | some (.vsl nl n _ h)=>match nth σ.hp h with
     | some (.vec _ _ _ sz f)=>some ⟨σ.fr,A3 (A3 σ.hp hb (.blk T (A3 cs k (.sl nl n sz f)))) h .gone,σ.gm⟩
     | _=>none
    | _=>none
   | _=>none
  | _=>none
def Akk (σ : Sy) (s : Nat) : Option (BT×ST×Nat×(Nat→List SV)) :=
 match Az σ.fr s with
 | some ⟨[],_,_,.sl nl n sz f⟩=>some (nl,n,sz,f)
 | some ⟨[],_,_,.gsl nl n sz f _⟩=>some (nl,n,sz,f)
 | _=>none
def Al8 (cx : Cx) (σ : Sy) (s : Nat) : Option (Nat×Nat×List (List SV)×Nat) :=
 match Az σ.fr s with
 | some ⟨[],_,_,.ptr h 0⟩=>match nth σ.hp h with
  | some (.blk T cs)=>match look T cx.tt with
   | some ⟨.array n e,_,_,_⟩=>match size? cx e with
    | some sz=>if Ag cs == n * sz && Ap.plainL cs then some (n,sz,F9 sz n cs,h) else none
    | none=>none
   | _=>none
  | _=>none
 | _=>none
def Aaf (σ : Sy) (s : Nat) : Option (TypeId×ST×Nat×(Nat→List SV)×Nat) :=
 match Az σ.fr s with
 | some ⟨[],_,_,.ptr h 0⟩=>match nth σ.hp h with
  | some (.row ty n sz f)=>some (ty,n,sz,f,h)
  | _=>none
 | _=>none
def O4 (cx : Cx) (σ : Sy) : Gh→Prop
 | .share s=>match Az σ.fr s with
  | some ⟨[],_,_,.osl _ n h⟩=>match nth σ.hp h with
   | some (.own _ n0 _ _ _)=>EqN (cx.D.i n) (cx.D.i n0)
   | _=>False
  | _=>False
 | .vshare s=>match Az σ.fr s with
  | some ⟨[],_,_,.vsl _ n g0 h⟩=>match nth σ.hp h with
   | some (.vec _ n0 g1 _ _)=>EqN (cx.D.i n) (cx.D.i n0)∧EqN (cx.D.i g0) (cx.D.i g1)
   | _=>False
  | _=>False
 | .vshareb s k=>match Az σ.fr s with
  | some ⟨[],_,_,.ptr hb 0⟩=>match nth σ.hp hb with
   | some (.blk _ cs)=>match nth cs k with
    | some (.vsl _ n g0 h)=>match nth σ.hp h with
     | some (.vec _ n0 g1 _ _)=>EqN (cx.D.i n) (cx.D.i n0)∧EqN (cx.D.i g0) (cx.D.i g1)
     | _=>False
    | _=>False
   | _=>False
  | _=>False
 | _=>True
def ghosts (cx : Cx) : List Gh→Sy→(Sy→Prop)→Prop
 | [],σ,K=>K σ
 | g :: gs,σ,K=>match g with
  | .tot s=>match Akk σ s with
   | some (nl,n,sz,f)=>∃ f2,RowAs (cx.D.i n) f2 f∧ghosts cx gs ⟨A3 σ.fr s (some ⟨[],none,none,.sl nl n sz f2⟩),σ.hp,σ.gm⟩ K
   | none=>False
  | .frz s=>match Al8 cx σ s with
   | some (n,sz,rows,h)=>∃ f,Xs f rows∧ghosts cx gs ⟨A3 σ.fr s (some ⟨[],none,none,.rarr n sz f⟩),A3 σ.hp h .gone,σ.gm⟩ K
   | none=>False
  | .unrow s=>match Aaf σ s with
   | some (ty,n,sz,f,h)=>∃ cs,Ael f (cx.D.i n) sz cs∧ghosts cx gs ⟨σ.fr,A3 σ.hp h (.blk ty cs),σ.gm⟩ K
   | none=>False
  | g=>O4 cx σ g∧match E8 cx σ g with
   | some σ=>ghosts cx gs σ K
   | none=>False
def ghostK (cx : Cx) (id : Nat) (σ : Sy) (K : Sy→Prop) : Prop :=
 match look id cx.gh with
 | none=>K σ
 | some l=>ghosts cx l σ K
inductive Ex where
 | normal
 | exit (id : Nat)
 | goto (l : Nat)
 | ret
def P6 : List (Nat×Option SV)→List (Option G)→List (Option G)
 | [],fr=>fr
 | (i,v) :: l,fr=>P6 l (A3 fr i (v.map fun v=>⟨[],none,none,v⟩))
def M9 {α : Type} : List α→List (Option G)
 | []=>[]
 | _ :: l=>none :: M9 l
def Cg (n : Nat) : SV→Bool
 | .ptr h _=>Nat.blt h n
 | .gsl _ _ _ _ h=>Nat.blt h n
 | .mrow h=>Nat.blt h n
 | .mptr h _ _=>Nat.blt h n
 | .osl _ _ h=>Nat.blt h n
 | .optr _ h _ _=>Nat.blt h n
 | .mapv h=>Nat.blt h n
 | .vsl _ _ _ h=>Nat.blt h n
 | .tsl _ _ h=>Nat.blt h n
 | .yv h=>Nat.blt h n
 | .agg cs=>belowL n cs
 | .tup cs=>belowL n cs
 | .clo _ cs=>belowL n cs
 | _=>true
 where belowL (n : Nat) : List SV→Bool
 | []=>true
 | c :: cs=>Cg n c && belowL n cs
def Pj (n : Nat) : List (Nat×Option SV)→Bool
 | []=>true
 | (_,some v) :: l=>Cg n v && Pj n l
 | (_,none) :: l=>Pj n l
def Ga (n : Nat) : List Hl→Bool
 | []=>true
 | .blk _ cs :: ls=>Cg n (.agg cs) && Ga n ls
 | .lrec _ fr _ _ :: ls=>Pj n fr && Ga n ls
 | _ :: ls=>Ga n ls
def Hg (D : Dn) (n : Nat) (fr : List (Option G)) : List Nat→List (Option SV)
 | []=>[]
 | i :: l=>(match Az fr i with | some ⟨[],_,_,v⟩=>(if Cg n v then some (norm D v) else none) | _=>none) :: Hg D n fr l
def Hh (D : Dn) : List Hl→List Hl
 | []=>[]
 | .blk ty cs :: ls=>.blk ty (norm.normL D cs) :: Hh D ls
 | .tail ty n sz :: ls=>.tail ty (.a (D.i n)) sz :: Hh D ls
 | .row ty n sz f :: ls=>.row ty (.a (D.i n)) sz f :: Hh D ls
 | .own ty n sz gr f :: ls=>.own ty (.a (D.i n)) sz gr f :: Hh D ls
 | .vec ty n g sz f :: ls=>.vec ty (.a (D.i n)) (.a (D.i g)) sz f :: Hh D ls
 | l :: ls=>l :: Hh D ls
def Lv {α : Type} : List Nat→List (Option α)→List (Nat×Option α)
 | i :: l,v :: vs=>(i,v) :: Lv l vs
 | _,_=>[]
def know (σ : Sy) (c : Operand) (b : Bool) : Sy :=
 match c with
 | .tmp s=>⟨A3 σ.fr s (some ⟨[],none,none,.bool (.l b)⟩),σ.hp,σ.gm⟩
 | _=>σ
end Go.Sx
