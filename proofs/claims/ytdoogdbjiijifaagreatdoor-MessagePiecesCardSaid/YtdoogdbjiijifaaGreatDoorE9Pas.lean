/- Lemmas of the proof; no conditions. -/
import Derived.Test.YtdoogdbjiijifaaGreatDoorCards
import Derived.LaidMore
import Derived.Lay
import Derived.Stop.LaidErr
import Derived.Lib.SmallJoins
import Derived.Test.YtdoogdbjiijifaaGreatDoorE9Par
import Derived.Test.YtdoogdbjiijifaaGreatDoorE9MvT
namespace Go.Sx
open Go Go.ChangeShapes Go.WideShapes Go.RowKit
def Lr(W:World):Nat->Nat->Prop:=λb _=>b<W.heap.size
def tT(I:Nat->Nat->Prop)(w:World)(cs:List SV)(vs:List Value):Prop:=cs.length=vs.length/\(∀(i:Nat) (s:SV) (v:Value),cs[i]?=some s->vs[i]?=some v->RO I w s v)/\∀v∈vs,v.oneCell'=true
theorem tT.one{I:Nat->Nat->Prop}{w:World}{s:SV}{v:Value}(h:RO I w s v)(h1:v.oneCell'=true):tT I w [s] [v] :=
 ⟨rfl,λi s' v' a b=>by cases i with|zero=>simp at a b;subst a b;exact h|succ i=>simp at a,by simpa using h1⟩
theorem tT.nil{I:Nat->Nat->Prop}{w:World}:tT I w [] []:=⟨rfl,by simp,by simp⟩
theorem tT.app{I:Nat->Nat->Prop}{w:World}{cs dI:List SV}{vs CF:List Value}(h:tT I w cs vs)(h':tT I w dI CF):tT I w (cs++dI) (vs++CF):=by
 refine⟨by simp[h.1,h'.1],λi s v a b=>?_,λv hv=>?_⟩
 .rw[YR]at a b
  rw[h.1]at a
  split at a
  .rename_i hi
   rw[QC hi]at b;exact h.2.1 i s v a b
  .rename_i hi
   rw[QA hi]at b;exact h'.2.1 _ s v a b
 .rcases List.mem_append.1 hv with hv|hv
  .exact h.2.2 v hv
  .exact h'.2.2 v hv
section
variable {P:Program}
def Do(P:Program)(t:TypeId){α:Type}(enc:α->List SV):Prop :=
 ∀(H:Type) (tok:TypeId×Value->H) (W:World) (spare:Nat->Bool) (held:Bool) (fuel:Nat) (cs:List Value) (x:DataW H×List MemPlace),DataW.trod tok P W 0 spare held fuel t cs=some x->∃a,tT (Lr W) W (enc a) cs
theorem Do.int{t:TypeId}{k:IntKind}(ht:P.underlying t=some (.int k)):Do P t (λn:Int=>[.int k (.a n)]):=by
 intro H tok W spare held fuel cs x h;obtain⟨n,rfl,_,_⟩:=DataW.trod_int ht h;exact⟨n,.one (.int rfl) rfl⟩
theorem Do.GR{t:TypeId}{k:IntKind}(ht:P.underlying t=some (.int k)):Do P t (λn:{n:Int // (Lit.int k n).wf=true}=>[.int k (.a n.1)]):=by
 intro H tok W spare held fuel cs x h;obtain⟨n,rfl,_,hw⟩:=DataW.trod_int ht h;exact⟨⟨n,hw⟩,.one (.int rfl) rfl⟩
theorem Do.bool{t:TypeId}(ht:P.underlying t=some .bool):Do P t (λb:Bool=>[.bool (.a b)]):=by
 intro H tok W spare held fuel cs x h;obtain⟨n,rfl,_⟩:=DataW.trod_bool ht h;exact⟨n,.one (.bool rfl) rfl⟩
theorem Do.str{t:TypeId}(ht:P.underlying t=some .string):Do P t (λs:{s:List UInt8 // s.length<=maxLen}=>[.str s.1]):=by
 intro H tok W spare held fuel cs x h;obtain⟨s,rfl,_,hs⟩:=DataW.trod_string ht h;exact⟨⟨s.data.toList,by simpa using hs⟩,.one (.str (by simp[bytes])) rfl⟩
theorem Akq{W:World}{base:Nat}{a:Addr}{n:Nat}{cs:List Value}(h:W.cells? base a n=some cs):cs.length=n/\∀i,i<n->W.cell? (a.add i)=cs[i]?:=by
 unfold World.cells? at h
 split at h
 .have h2:=mapM_some_get h
  have h1:cs.length=n:=by simpa using mapM_some_length h
  refine⟨h1,λi hi=>?_⟩;exact h2 i i (by simp[hi])
 .cases h
theorem Ah9{W:World}{b o:Nat}{sp:Option Nat}{v:Value}(h:W.cell? ⟨b,o,sp⟩=some v):b<W.heap.size/\sp=none:=by
 unfold World.cell? at h
 split at h
 .rename_i c _ _ hc
  split at h
  .cases h
  .rename_i hs
   exact⟨(Array.getElem?_eq_some_iff.1 hc).1,by cases sp<;>simp at hs ⊢⟩
 .cases h
def Hd{α:Type}(enc:α->List SV)(l:List α)(i:Nat):List SV:=match l[i]? with
 |some a=>enc a
 |none=>[]
def CI{α:Type}(sz:Nat)(enc:α->List SV)(x:Bool×List α):List SV:=[.sl (.a x.1) (.a x.2.length) sz (Hd enc x.2)]
def Bt(P:Program)(fs:List (Nat×TypeId))(o len:Nat){α:Type}(enc:α->List SV):Prop :=
 ∀(H:Type) (tok:TypeId×Value->H) (W:World) (spare:Nat->Bool) (held:Bool) (cs:List Value),cs.length=o+len->(∀p∈fs,∃fuel x,DataW.trod tok P W 0 spare held fuel p.2 ((cs.drop p.1).take (P.cellsOf p.2))=some x)->∃a,tT (Lr W) W (enc a) (cs.drop o)
theorem Bt.nil{o:Nat}:Bt P [] o 0 (λ_:Unit=>[]):=by
 intro H tok W spare held cs hl _;rw[List.drop_of_length_le (by omega)];exact⟨(),.nil⟩
theorem Bt.cons{fs:List (Nat×TypeId)}(o n len:Nat){t:TypeId}{α β:Type}{enc:α->List SV}{KR:β->List SV}(hn:P.cellsOf t=n)(h:Do P t enc)(hs:Bt P fs (o+n) len KR):Bt P ((o,t) :: fs) o (n+len) (λx:α×β=>enc x.1++KR x.2):=by
 intro H tok W spare held cs hl hx;obtain⟨fuel,x,h1⟩:=hx (o,t) (XB ..);simp only[hn]at h1;obtain⟨a,ha⟩:=h H tok W _ _ _ _ _ h1;obtain⟨b,hb⟩:=hs H tok W spare held cs (by omega) λp hp=>hx p (XC _ hp);refine⟨(a,b),?_⟩;have e:cs.drop o=(cs.drop o).take n++cs.drop (o+n):=by rw[<-ZD,YF]
 rw[e];exact ha.app hb
theorem Do.struct{t:TypeId}{fields:Array Field}{fs:List (Nat×TypeId)}{len:Nat}{α:Type}{enc:α->List SV}(ht:P.underlying t=some (.struct fields))(hfs:(fields.toList.map λf=>(f.offset,f.type))=fs)(hlen:P.cellsOf t=len)(h:Bt P fs 0 len enc):Do P t enc:=by
 intro H tok W spare held fuel cs x hx;obtain⟨xs,n,_,_,hl,mQ,hf⟩:=DataW.trod_struct ht hx;have:=h H tok W spare held cs (by omega) λp hp=>?_
 .simpa using this
 .rw[<-hfs,List.mem_map]at hp
  obtain⟨f,fV,rfl⟩:=hp;obtain⟨i,hi,oF⟩:=List.mem_iff_getElem.1 fV;have xB:i<fields.size:=by simpa using hi
  have:=hf i f (by rw[<-oF];simp[xB]);rw[QB (by omega)]at this;exact⟨n,_,this⟩
theorem lu{gl:List (Nat×SV)}{f:FuncId}{SF:List SV}{W:World}{args:List Value}(h:Fb P gl f SF [] (.bool (.a true)) [])
  (gp:∀g s,look g gl=some s->RO (Lr W) W s (.pointer (some ⟨g,0,none⟩))/\g<W.heap.size/\Ry W g s) (hl:SF.length=args.length) (hr:∀(i:Nat) (s:SV) (v:Value),SF[i]?=some s->args[i]?=some v->RO (Lr W) W s v):
  Calls P f ⟨args⟩ W λe W'=>e=.returned (.bool true)/\Below W.heap.size W W':=by
 refine (h ⟨W,λ_=>False,Lr W,λ_=>none,λ_=>none,λ_=>none,[]⟩ ⟨λ_=>none,λ_=>none,λ_=>none,λ_=>none,λ_=>none,Lr W⟩ W args rfl (λ_ _ h=>h) (λ_ h=>absurd h (by simp)) ⟨rfl,rfl,rfl,QK _,λ_ _ _=>rfl,λ_ _ h=>⟨h,rfl⟩,λ_ _ h=>h,λ_ _ h=>.inl h,λ_ _ h=>(by cases h),⟨λ_ _ h=>(by cases h),λ_ _ h=>(by cases h),λ_ _ h=>(by cases h)⟩⟩ (λg s h=>⟨(gp g s h).1,(gp g s h).2.1,λh=>h,(gp g s h).2.2⟩) (λh=>?_) ⟨hl,λi s v a b=>.ro (hr i s v a b)⟩).mono λe W' hq=>?_
 .simp only[Aq,nth]
  exact⟨rfl,rfl,rfl,rfl⟩
 .obtain⟨v,E',rfl,hb,_,hv⟩:=hq
  rw[hv.bJ];exact⟨rfl,⟨hb.os,hb.tape,hb.output,hb.size,λk hk=>hb.dY k hk (λh=>h)⟩⟩
section
variable {H:Type} {enc:TypeId×Value->H}
theorem Wx{f:Func}{s:ChangeSpec}{apart fresh handsOn again:Bool}{W W':World}{args:Array Value}{v:Value}{ds gs:List (DataW H)}{before pa pv:List MemPlace}
  (hW:DataW.Whole enc P f.params.toList s.vars apart W args.toList ds gs before)
  (pC:∀(b:Nat) (sp:Nat->Bool) (hd:Bool),DataW.TrodAll enc P W' b sp hd f.resultTypes.toList (v.resultList f.resultTypes.size) (s.fn H (ds++gs)).results [])
  (xF:∀sp:Nat->Bool,(∀p∈before,sp p.block=true)->DataW.TrodAll enc P W' 0 sp true f.params.toList args.toList (s.fn H (ds++gs)).args pa)
  (sj:∀sp:Nat->Bool,(∀p∈before,sp p.block=true)->DataW.TrodVars enc P W' sp s.vars (s.fn H (ds++gs)).vars pv)
  (ym:before=pa++pv) (hb:Below W.heap.size W W')
  (gE:∀(j:Nat) (t:TypeId) (r:Value),f.resultTypes[j]?=some t->(v.resultList f.resultTypes.size)[j]?=some r->Value.okWide P W' .any 0 t r):
  s.post enc P f apart fresh handsOn again W args v W':=by
 have aC:∀p∈before,p.block<W.heap.size:=λp hp=>hW.lt p hp;have hold:∀p∈before,(λb=>decide (b<W.heap.size)) p.block=true:=λp hp=>by simpa using aC p hp
 refine⟨ds,gs,before,[],pa,pv,hW,pC _ _ _,xF _ hold,sj _ hold,World.keptBut_mono (λp hp=>⟨hp,?_⟩) (hb.frame (·∈before)),λ_=>?_⟩
 .rw[ym,YB]at hp
  exact Or.inr hp
 .obtain⟨_,_,_,_,_,hz,hn⟩:=hW
  refine⟨gE,_,_,([]++pa)++pv,⟨[]++pa,pv,trodAll_append (xF _ (λ_ _=>rfl)) (pC _ _ _),sj _ (λ_ _=>rfl),rfl,?_,?_⟩,?_⟩
  .intro b off hp
   have fA:MemPlace.cell b off∈before:=by rw[ym];simpa using hp
   rw[hb.frozen (aC _ fA)];exact hz b off fA
  .intro ha
   have:=hn ha;rw[ym]at this;simpa using this
  .intro p hp _
   rw[ym];simpa using hp
theorem M2(hl:laidOutB P=true){W W':World}{sp:Nat->Bool}(hb:Below W.heap.size W W'):∀ {ts:List TypeId} {vs:List Value} {ds:List (DataW H)} {ps:List MemPlace},(∀t∈ts,P.readableRec t=true/\t<P.types.size)->
  DataW.TrodAll enc P W 0 (λ_=>true) true ts vs ds ps->(∀p∈ps,p.block<W.heap.size)->(∀p∈ps,sp p.block=true)->DataW.TrodAll enc P W' 0 sp true ts vs ds ps
 | [],[],[],_,_,h,_,_=>h
 |t :: ts,v :: vs,d :: ds,ps,ht,h,aC,hs=>by
  obtain⟨p,q,h1,h2,rfl⟩:=h;refine⟨p,q,WideElems.Trod_stays hl (ht t (XB ..)).1 (ht t (XB ..)).2 h1 (λx hx=>hb.same (aC x (List.mem_append_left _ hx))) (λx hx=>hs x (List.mem_append_left _ hx)),?_,rfl⟩;exact M2 hl hb (λt h=>ht t (XC _ h)) h2 (λx hx=>aC x (List.mem_append_right _ hx)) (λx hx=>hs x (List.mem_append_right _ hx))
 | [],_ :: _,_,_,_,h,_,_=>h.elim
 | [],[],_ :: _,_,_,h,_,_=>h.elim
 |_ :: _,[],_,_,_,h,_,_=>h.elim
 |_ :: _,_ :: _,[],_,_,h,_,_=>h.elim
theorem Am4(hl:laidOutB P=true){fn:Func}{s:ChangeSpec}{apart fresh handsOn again:Bool}{W W':World}{args:Array Value}{ds gs:List (DataW H)}{before:List MemPlace}{tb:TypeId}
  (VG:∀t∈fn.params.toList,P.readableRec t=true/\t<P.types.size) (hv:s.vars=[]) (pC:fn.resultTypes=#[tb]) (htb:P.underlying tb=some .bool)
  (hW:DataW.Whole enc P fn.params.toList s.vars apart W args.toList ds gs before) (uT:(s.fn H (ds++gs))={ results:=[.lit (.bool true)],args:=ds }) (hb:Below W.heap.size W W'):
  s.post enc P fn apart fresh handsOn again W args (.bool true) W':=by
 have hW':=hW;obtain⟨p,q,hA,hV,rfl,hz,hn⟩:=hW;have aC:∀x∈p++q,x.block<W.heap.size:=λx hx=>hW'.lt x hx;have hq:gs=[]/\q=[]:=by rw[hv]at hV;exact trodVars_none hV
 obtain⟨rfl,rfl⟩:=hq;refine Wx (pa:=p) (pv:=[]) hW' (λb sp hd=>?_) (λsp hs=>?_) (λsp hs=>?_) (by simp) hb (ok_one pC rfl (okWide_bool_mk htb _))
 .rw[uT,pC]
  exact trodAll_mk1 (shut_bool htb true)
 .rw[uT]
  exact M2 hl hb VG hA (λx hx=>aC x (by simp[hx])) (λx hx=>hs x (by simp[hx]))
 .rw[uT,hv]
  rfl
end
theorem Aid{I:Nat->Nat->Prop}{W:World}{s:SV}{v:Value}(hn:∀a,v≠.agg a)(h:tT I W [s] v.cells.toList):RO I W s v:=by
 cases v with
 |agg a=>exact absurd rfl (hn a)
 |_=>exact h.2.1 0 s _ rfl (by simp[Value.cells])
theorem Aky{I:Nat->Nat->Prop}{W:World}{r:Reach}{base:Nat}{t e:TypeId}{s:SV}{v:Value}(ht:P.underlying t=some (.slice e))(hv:Value.okWide P W r base t v)(h:tT I W [s] v.cells.toList):RO I W s v:=by
 obtain⟨a,len,cap,rfl⟩:=okWide_slice ht hv;exact Aid (λ_ h=>by cases h) h
theorem Agk{I:Nat->Nat->Prop}{W:World}{r:Reach}{base:Nat}{t:TypeId}{s:SV}{v:Value}(ht:P.underlying t=some .string)(hv:Value.okWide P W r base t v)(h:tT I W [s] v.cells.toList):RO I W s v:=by
 obtain⟨n,rfl⟩:=okWide_string ht hv;exact Aid (λ_ h=>by cases h) h
theorem Agj{I:Nat->Nat->Prop}{W:World}{r:Reach}{base:Nat}{t:TypeId}{fs:Array Field}{cs:List SV}{v:Value}(ht:P.underlying t=some (.struct fs))(hv:Value.okWide P W r base t v)(h:tT I W cs v.cells.toList):RO I W (.agg cs) v:=by
 obtain⟨a,rfl,_⟩:=okWide_struct ht hv;exact .agg (vs:=a.toList) h.1 h.2.1
end
end Go.Sx
namespace Go.Proofs.YtdoogdbjiijifaaGreatDoor
open Go Go.Sx Go.RowKit Go.Sort
set_option maxRecDepth 100000
set_option maxHeartbeats 2000000
theorem Ahq:Ap Tryz.prog [] 239 vw:=by
 refine⟨⟨Tryz.f239,_,Tryz.func239,rfl,by kernel_rfl⟩,λxs ls K h=>?_⟩;obtain⟨s,c,rfl,rfl,hc,h⟩:=h;refine⟨_,_,h _ rfl,Bi λE B w aX _ _ _ hr=>?_⟩;obtain⟨v,u,rfl,hv,hu⟩:=D8 hr;rw[Cy hv,Om hu];refine (Lj ⟨s.toArray⟩ c w).mono ?_;rintro e w' ⟨rfl,rfl⟩;exact⟨_,rfl,λE=>.ro (.int rfl),Below.refl _ _⟩
def zZ:aB:=λ_ xs ls K=>∃(s p:List UInt8),xs=[.str s,.str p]/\ls=[]/\∀r,r=Lib.hasPrefix s p->K (.bool (.a r)) []
theorem Aj8:Ap Tryz.prog gl 252 zZ:=by
 refine⟨⟨Tryz.f252,_,Tryz.func252,rfl,by kernel_rfl⟩,λxs ls K h=>?_⟩;obtain⟨s,p,rfl,rfl,h⟩:=h;refine⟨_,_,h _ rfl,Bi λE B w aX _ _ _ hr=>?_⟩;obtain⟨v,u,rfl,hv,hu⟩:=D8 hr;rw[Cy hv,Cy hu];refine (Lk ⟨s.toArray⟩ ⟨p.toArray⟩ w).mono ?_;rintro e w' ⟨rfl,rfl⟩;exact⟨_,rfl,λE=>.ro (.bool rfl),Below.refl _ _⟩
def ax:aB:=λ_ xs ls K=>∃(s p:List UInt8),xs=[.str s,.str p]/\ls=[]/\s.length<=9223372036854775807/\∀r b,r=Lib.trimSuffix s p->b=Lib.hasSuffix s p->K (.aI [.str r,.bool (.a b)]) []
theorem Yy:Ap Tryz.prog gl 54 ax:=by
 refine⟨⟨Tryz.f54,_,Tryz.func54,rfl,by kernel_rfl⟩,λxs ls K h=>?_⟩;obtain⟨s,p,rfl,rfl,hs,h⟩:=h;refine⟨_,_,h _ _ rfl rfl,Bi λE B w aX _ _ _ hr=>?_⟩;obtain⟨v,u,rfl,hv,hu⟩:=D8 hr;rw[Cy hv,Cy hu];refine (Ll ⟨s.toArray⟩ ⟨p.toArray⟩ w (by simpa[ByteArray.size] using hs)).mono ?_;rintro e w' ⟨rfl,rfl⟩;refine⟨_,rfl,λE=>?_,Below.refl _ _⟩;refine .aI rfl λi x y a b=>?_
 match i,a,b with
 |0,a,b=>cases a;cases b;exact .ro (.str rfl)
 |1,a,b=>cases a;cases b;exact .ro (.bool rfl)
def je:aB:=λ_ xs ls K=>∃(s:List UInt8) (c:UInt8),xs=[.str s,.str [c]]/\ls=[]/\∀r,r=decide (0<=Lib.indexByte s c)->K (.bool (.a r)) []
theorem An9:Ap Tryz.prog gl 118 je:=by
 refine⟨⟨Tryz.f118,_,Tryz.func118,rfl,by kernel_rfl⟩,λxs ls K h=>?_⟩;obtain⟨s,c,rfl,rfl,h⟩:=h;refine⟨_,_,h _ rfl,Bi λE B w aX _ _ _ hr=>?_⟩;obtain⟨v,u,rfl,hv,hu⟩:=D8 hr;rw[Cy hv,Cy hu];refine (Jg ⟨s.toArray⟩ c w).mono ?_;rintro e w' ⟨rfl,rfl⟩;exact⟨_,rfl,λE=>.ro (.bool rfl),Below.refl _ _⟩
theorem lx:Tryz.prog.globalNamed "internal/strconv.uint64pow10"=some 4:=by kernel_rfl
theorem sd:Tryz.prog.globalNamed "strconv.ErrRange"=some 3:=by kernel_rfl
theorem Alb{B:Bs}(hg:Fm B gl):Lib.TabIs Tryz.prog B.w0 "internal/strconv.uint64pow10" .u64 Lib.pow10Tab:=by
 obtain⟨h1,h2,h3,C,t,fr,h4,h5⟩:=hg 4 (.dR 20 1 Zm) rfl;unfold Lib.TabIs World.var?;rw[lx];simp only[ZV,h4,Option.some.injEq]
 generalize hp:Value.pointer (some ⟨4,0,none⟩)=p at h1
 cases h1 with
 |dR g hs hl h1 aP bG =>
  cases hp;refine Array.ext (by rw[h5];simp[Lib.pow10Tab_length]) λi hi xB=>?_;rw[h5]at hi;have hc:=(aP i 0 (by omega) (by omega)).1;have hr:=bG i 0 (.int .u64 (.a (Lib.pow10Tab.getD i 0))) (by omega) rfl;have e:C[i]?=some (g i 0):=by
   rw[<-hc];simp[World.cell?,h4]
  rw[ZR (by omega)]at e;have e2:g i 0=.int .u64 (Lib.pow10Tab.getD i 0):=by
   generalize g i 0=v at hr
   cases hr with
   |int h=>rw[<-h];rfl
  rw[e2]at e;rw[Option.some.inj e];have ab3:i<Lib.pow10Tab.length:=by rw[Lib.pow10Tab_length];omega
  simp[QB ab3]
def vu:aB:=λ_ xs ls K=>∃(n:Int),xs=[.int .i64 (.a n)]/\ls=[]/\-9223372036854775808<=n/\n<=9223372036854775807/\∀r,r=Lib.itoa n->K (.str r) []
theorem V7{w:World}{k:Nat}{os:Array Obj}:Below w.heap.size w (grow (w.drewN k) os):=by
 refine⟨rfl,rfl,rfl,?_,λj hj=>?_⟩
 .simp[grow,World.drewN]
 .show (w.heap++os)[j]?=w.heap[j]?
  rw[Array.getElem?_append_left hj]
theorem lz:Ap Tryz.prog gl 83 vu:=by
 refine⟨⟨Tryz.f83,_,Tryz.func83,rfl,by kernel_rfl⟩,λxs ls K h=>?_⟩;obtain⟨n,rfl,rfl,h0,h1,h⟩:=h;refine⟨_,_,h _ rfl,Bi λE B w aX hg hb hw hr=>?_⟩;obtain⟨v,rfl,hv⟩:=On hr;rw[Om hv];refine (Sl n h0 h1 w (by rw[<-hw];exact Alb hg)).mono ?_;rintro e w' ⟨rfl,k,os,rfl⟩;exact⟨_,rfl,λE=>.ro (.str rfl),V7⟩
def FA:aB:=λ_ xs ls K=>∃(n b:Int),xs=[.int .i64 (.a n),.int .i64 (.a b)]/\ls=[]/\-9223372036854775808<=n/\n<=9223372036854775807/\b=10/\∀r,r=Lib.itoa n->K (.str r) []
theorem z6:Ap Tryz.prog gl 289 FA:=by
 refine⟨⟨Tryz.f289,_,Tryz.func289,rfl,by kernel_rfl⟩,λxs ls K h=>?_⟩;obtain⟨n,b,rfl,rfl,h0,h1,rfl,h⟩:=h;refine⟨_,_,h _ rfl,Bi λE B w aX hg hb hw hr=>?_⟩;obtain⟨v,u,rfl,hv,hu⟩:=D8 hr;rw[Om hv,Om hu];refine (Jh n h0 h1 w (by rw[<-hw];exact Alb hg)).mono ?_;rintro e w' ⟨rfl,k,os,rfl⟩;exact⟨_,rfl,λE=>.ro (.str rfl),V7⟩
end Go.Proofs.YtdoogdbjiijifaaGreatDoor
namespace Go.Sx
open Go Go.ChangeShapes Go.WideShapes Go.RowKit
section
variable {P:Program}
end
end Go.Sx
namespace Go.Proofs.YtdoogdbjiijifaaGreatDoor
open Go Go.Sx Go.ChangeShapes Go.WideShapes Go.RowKit
set_option maxRecDepth 100000
theorem TN:ownKnob Tryz.prog.godebug=none:=by kernel_rfl
theorem Am9:laidOutB Tryz.prog=true:=by kernel_rfl
theorem Akh(os:Os):(World.holding Tryz.prog os ⟨#[],#[],[]⟩).layFits Tryz.prog K9 []=true:=by kernel_rfl
theorem Ado(os:Os):(World.holding Tryz.prog os ⟨#[],#[],[]⟩).layIfaces Tryz.prog K9 (World.laidAll Tryz.prog os K9)=true:=by kernel_rfl
theorem An2(os:Os)(args:Array Value):laidMetH Tryz.prog K9 ((World.laidAll Tryz.prog os K9).forCall (λ_ _=>0) ⟨#[],args,[]⟩).memory:=by
 rw[MakeChecks.laidMetH_plain _ _ _ (by kernel_rfl)];exact laidMet_laidAll _ (Akh os) (Ado os)
theorem GF:(Tryz.prog.globals[4]?).map (·.type)=some 284:=by kernel_rfl
theorem GD:Tryz.prog.underlying 284=some (.array 20 249):=by kernel_rfl
theorem GG:Tryz.prog.underlying 249=some (.int .u64):=by kernel_rfl
theorem GI:Tryz.prog.cellsOf 249=1:=by kernel_rfl
theorem GH:Tryz.prog.cellsOf 284=20:=by kernel_rfl
theorem GK:Tryz.prog.globalNamed "spillway/request.methods"=some 1:=by kernel_rfl
theorem GJ:(Tryz.prog.globals[1]?).map (·.type)=some 266:=by kernel_rfl
theorem GN:Tryz.prog.cellsOf 266=24:=by kernel_rfl
theorem sf:Tryz.prog.cellsOf 265=4:=by kernel_rfl
theorem TO:Tryz.prog.cellsOf 4=1:=by kernel_rfl
theorem kC9:Tryz.prog.cellsOf 9=1:=by kernel_rfl
theorem Ana:(match Tryz.prog.underlying 265 with|some (.struct fs)=>fs.toList.map (λf=>(f.offset,f.type))|_=>[])=[(0,9),(1,4),(2,4),(3,4)]:=by kernel_rfl
theorem GL:(Tryz.prog.globals[3]?).map (·.type)=some 157:=by kernel_rfl
theorem GM:Tryz.prog.cellsOf 305=1:=by kernel_rfl
theorem sc:"*"++"errors.errorString"="*errors.errorString":=by decide
theorem lv(u:TypeId)(h:Tryz.prog.typeName? 3 u=some "*errors.errorString"):u=303 :=
 typeName_ptr_named (nm:="errors.errorString") (by rw[sc];kernel_rfl) (by kernel_rfl) (by decide) u (by rw[sc];exact h)
variable {W:World}
theorem TJ{H:Type}{tok:TypeId×Value->H}{base:Nat}{spare:Nat->Bool}{held:Bool}{fuel:Nat}{cs:List Value}{s:List UInt8}{a b c:Bool}{ps:List MemPlace}(h:DataW.trod tok Tryz.prog W base spare held fuel 265 cs=some (.agg [.lit (.string s),.lit (.bool a),.lit (.bool b),.lit (.bool c)],ps)):cs=[.string (Sx.bytes s),.bool a,.bool b,.bool c]:=by
 cases hu:Tryz.prog.underlying 265 with
 |none=>have:=Ana;rw[hu]at this;cases this
 |some d =>
  cases d with
  |struct fs =>
   have hf:=Ana;rw[hu]at hf;simp only at hf;obtain⟨xs,n,_,hx,hl,mQ,uW⟩:=DataW.trod_struct hu h;rw[sf]at hl;have hs:fs.size=4:=by have:=congrArg List.length hf;simpa using this
   match cs,hl with
   | [c0,c1,c2,c3],_ =>
    have fk:∀(k o t:Nat),[(0,9),(1,4),(2,4),(3,4)][k]?=some (o,t)->∃fd,fs[k]?=some fd/\fd.offset=o/\fd.type=t:=by
     intro k o t hk;rw[<-hf,QS]at hk;cases hfd:fs.toList[k]? with
     |none=>rw[hfd]at hk;cases hk
     |some fd =>
      rw[hfd]at hk;simp only[QQ,Option.some.injEq,Prod.mk.injEq]at hk;exact⟨fd,by rw[<-hfd,QZ],hk.1,hk.2⟩
    obtain⟨d0,g0,o0,t0⟩:=fk 0 0 9 rfl;obtain⟨d1,g1,o1,t1⟩:=fk 1 1 4 rfl;obtain⟨d2,g2,o2,t2⟩:=fk 2 2 4 rfl;obtain⟨d3,g3,o3,t3⟩:=fk 3 3 4 rfl;have e0:=uW 0 _ g0;have e1:=uW 1 _ g1;have e2:=uW 2 _ g2;have e3:=uW 3 _ g3;rw[o0,t0,kC9]at e0;rw[o1,t1,TO]at e1;rw[o2,t2,TO]at e2;rw[o3,t3,TO]at e3;rw[hs]at mQ
    match xs,mQ,hx,e0,e1,e2,e3 with
    | [x0,x1,x2,x3],_,hx,e0,e1,e2,e3 =>
     simp only[Prod.mk.injEq,DataW.agg.injEq,UY,List.map_nil,List.cons.injEq]at hx;simp at e0 e1 e2 e3;obtain⟨b0,q0,r0,_⟩:=DataW.trod_string Tryz.underlying9 e0;obtain⟨b1,q1,r1⟩:=DataW.trod_bool Tryz.underlying4 e1;obtain⟨b2,q2,r2⟩:=DataW.trod_bool Tryz.underlying4 e2;obtain⟨b3,q3,r3⟩:=DataW.trod_bool Tryz.underlying4 e3;simp at q0 q1 q2 q3;subst q0 q1 q2 q3 r0 r1 r2 r3;simp at hx;rw[hx.1.1,hx.1.2.1,hx.1.2.2.1,hx.1.2.2.2];rfl
  |_=>have:=Ana;rw[hu]at this;cases this
def gY:List Value:=[.string (Sx.bytes [71,69,84]),.bool true,.bool true,.bool true,.string (Sx.bytes [72,69,65,68]),.bool true,.bool true,.bool true,.string (Sx.bytes [79,80,84,73,79,78,83]),.bool true,.bool true,.bool false,.string (Sx.bytes [84,82,65,67,69]),.bool true,.bool true,.bool true,.string (Sx.bytes [80,85,84]),.bool false,.bool true,.bool false,.string (Sx.bytes [68,69,76,69,84,69]),.bool false,.bool true,.bool false]
theorem Ajn(h:laidMet Tryz.prog (K9.drop 6) W):∃(cs:Array Value) (t:TypeId) (fr:Nat×Nat),W.heap[1]?=some (.cells cs t fr)/\cs.toList=gY:=by
 obtain⟨ps,⟨g0,t0,KW,f0,p0,q0,oE,ht0,gi,hd0,_,_⟩,_,_⟩:=h;obtain rfl:=Option.some.inj (GK.symm.trans oE);obtain rfl:=Option.some.inj (GJ.symm.trans ht0);obtain⟨xs,m1,rfl,mg,hlen,IX,uW⟩:=DataW.trod_array Tryz.underlying266 hd0;rw[sf]at uW;rw[GN]at hlen;simp only[Prod.mk.injEq,Rows.laid_spillway_request_methods,DataW.agg.injEq]at mg;have aJ:∀(i:Nat) s a b c,i<6->[DataW.agg [.lit (.string [71,69,84]),.lit (.bool true),.lit (.bool true),.lit (.bool true)],.agg [.lit (.string [72,69,65,68]),.lit (.bool true),.lit (.bool true),.lit (.bool true)],.agg [.lit (.string [79,80,84,73,79,78,83]),.lit (.bool true),.lit (.bool true),.lit (.bool false)],.agg [.lit (.string [84,82,65,67,69]),.lit (.bool true),.lit (.bool true),.lit (.bool true)],.agg [.lit (.string [80,85,84]),.lit (.bool false),.lit (.bool true),.lit (.bool false)],.agg [.lit (.string [68,69,76,69,84,69]),.lit (.bool false),.lit (.bool true),.lit (.bool false)]][i]?=some (DataW.agg (H:=Unit) [.lit (.string s),.lit (.bool a),.lit (.bool b),.lit (.bool c)])->(KW.toList.drop (i * 4)).take 4=[.string (Sx.bytes s),.bool a,.bool b,.bool c]:=by
  intro i s a b c hi hd;rw[mg.1,QS]at hd;have:=uW i hi;cases HS:xs[i]? with
  |none=>rw[HS]at hd;cases hd
  |some x =>
   rw[HS]at hd this;obtain⟨x1,x2⟩:=x;simp only[QQ,Option.some.injEq]at hd;subst hd;exact TJ this
 have h0:=aJ 0 _ _ _ _ (by omega) rfl;have h1:=aJ 1 _ _ _ _ (by omega) rfl;have h2:=aJ 2 _ _ _ _ (by omega) rfl;have h3:=aJ 3 _ _ _ _ (by omega) rfl;have h4:=aJ 4 _ _ _ _ (by omega) rfl;have h5:=aJ 5 _ _ _ _ (by omega) rfl;have step:∀(k:Nat) (v:List Value),(KW.toList.drop k).take 4=v->KW.toList.drop k=v++KW.toList.drop (k+4):=by
  intro k v hv;rw[<-hv,<-ZD,YF]
 have kB:KW.toList=gY:=by
  have e0:=step 0 _ h0;rw[ZT]at e0;rw[e0,step 4 _ h1,step 8 _ h2,step 12 _ h3,step 16 _ h4,step 20 _ h5,ZN (by omega)];rfl
 unfold World.var? at gi;rw[GK]at gi;simp only[ZV]at gi
 split at gi
 .rename_i cs t fr hc
  cases gi;exact⟨_,t,fr,hc,kB⟩
 .cases gi
theorem lh:∀v,v∈gY->v.oneCell'=true:=by decide +kernel
theorem Zp{I:Nat->Nat->Prop}:∀(j:Nat) (s:SV),Fi[j]?=some s->∃v,gY[j]?=some v/\RO I W s v:=by
 have key:∀(l:List SV) (m:List Value),(∀(x:SV×Value),x∈l.zip m->(∃t,x=(.str t,.string (Sx.bytes t)))\/∃b,x=(.bool (.l b),.bool b))->l.length=m.length->∀(j:Nat) (s:SV),l[j]?=some s->∃v,m[j]?=some v/\RO I W s v:=by
  intro l m h hl j s hj;obtain⟨hjl,e⟩:=List.getElem?_eq_some_iff.1 hj;have hm:m[j]?=some (m[j]'(by omega)):=QB (by omega);refine⟨_,hm,?_⟩;have hz:(s,m[j]'(by omega))∈l.zip m:=by
   apply List.mem_iff_getElem?.2;exact⟨j,by rw[List.getElem?_zip_eq_some];exact⟨hj,hm⟩⟩
  rcases h _ hz with⟨t,e⟩|⟨b,e⟩
  .obtain⟨e1,e2⟩:=Prod.mk.inj e
   rw[e1,e2];exact .str rfl
  .obtain⟨e1,e2⟩:=Prod.mk.inj e
   rw[e1,e2];exact .bool rfl
 refine key Fi gY ?_ rfl;intro x hx;simp only[Fi,gY,YN,List.zip_nil_left,XT,List.not_mem_nil,or_false]at hx;rcases hx with rfl|rfl|rfl|rfl|rfl|rfl|rfl|rfl|rfl|rfl|rfl|rfl|rfl|rfl|rfl|rfl|rfl|rfl|rfl|rfl|rfl|rfl|rfl|rfl
 all_goals first
  |exact .inl ⟨_,rfl⟩
  |exact .inr ⟨_,rfl⟩
theorem KG(h:laidMetH Tryz.prog K9 W):∀g s,Sx.look g pI=some s->RO (Lr W) W s (.pointer (some ⟨g,0,none⟩))/\g<W.heap.size/\Ry W g s:=by
 rw[MakeChecks.laidMetH_plain _ _ _ (by kernel_rfl)]at h;have ht:Lib.TabIs Tryz.prog W "internal/strconv.uint64pow10" .u64 Lib.pow10Tab :=
  Lib.tabIs_of_head lx GF GD GG GI GH (h.tail.tail)
 obtain⟨mc,mt,mf,sw,WX⟩:=Ajn h.tail.tail.tail.tail.tail.tail;obtain⟨ea,es,tN,_,_,_⟩:=laid_sentinel h.tail.tail.tail.tail sd GL Tryz.underlying157 lv Tryz.underlying303 Tryz.underlying305 rfl rfl Tryz.underlying9 GM kC9;intro g s hs;simp only[Sx.look,pI]at hs
 split at hs
 .rename_i e
  have e:1=g:=by simpa using e
  subst e;cases hs;have aC:1<W.heap.size:=(Array.getElem?_eq_some_iff.1 sw).1;refine⟨.dK (λj=>gY.getD j undef) rfl (λj hj=>?_) (λj hj=>⟨?_,aC⟩) (λj s hs=>?_),aC,trivial⟩
  .obtain⟨s,hs⟩:∃s,Fi[j]?=some s:=⟨_,QB hj⟩
   obtain⟨v,hv,_⟩:=Zp (I:=Lr W) (W:=W) j s hs;rw[QD,hv];exact lh _ (QL hv)
  .obtain⟨s,hs⟩:∃s,Fi[j]?=some s:=⟨_,QB hj⟩
   obtain⟨v,hv,_⟩:=Zp (I:=Lr W) (W:=W) j s hs;rw[QD,hv];rw[<-WX,QZ]at hv;simp[World.cell?,sw,hv]
  .obtain⟨v,hv,hr⟩:=Zp (I:=Lr W) (W:=W) j s hs
   rw[QD,hv];exact hr
 split at hs
 .rename_i e
  have e:3=g:=by simpa using e
  subst e;cases hs;unfold World.var? at tN;rw[sd]at tN;simp only[ZV]at tN
  split at tN
  .rename_i cs t fr hc
   have cY:=Option.some.inj tN;subst cY;have aC:3<W.heap.size:=(Array.getElem?_eq_some_iff.1 hc).1;refine⟨.dR (λ_ _=>.iface 303 (.pointer (some ea))) rfl (λi _=>rfl) (λi j _ _=>rfl) (λi j hi hj=>⟨?_,aC⟩) (λi j s hi hs=>?_),aC,_,t,fr,hc,rfl⟩
   .obtain rfl:i=0:=by omega
    obtain rfl:j=0:=by omega
    simp[World.cell?,hc]
   .match j,hs with
    |0,hs =>
     have hs:some (SV.sL (.l false))=some s:=hs;cases hs;exact .sL (.inr ⟨⟨_,_,rfl⟩,rfl⟩)
    |_+1,hs=>simp[Af9]at hs
  .cases tN
 split at hs
 .rename_i e
  have e:4=g:=by simpa using e
  subst e;cases hs;have lZ:=ht;unfold Lib.TabIs World.var? at lZ;rw[lx]at lZ;simp only[ZV]at lZ
  split at lZ
  .rename_i cs t fr hc
   have aC:4<W.heap.size:=(Array.getElem?_eq_some_iff.1 hc).1;have bC:cs.size=20 * 1:=by
    rw[Option.some.inj lZ];simp[Lib.pow10Tab_length]
   refine⟨.dR (λi _=>.int .u64 (Lib.pow10Tab.getD i 0)) rfl (λi _=>rfl) (λi j _ _=>rfl) (λi j hi hj=>⟨?_,aC⟩) (λi j s hi hs=>?_),aC,cs,t,fr,hc,bC⟩
   .have:=ht.cell lx i (by rw[Lib.pow10Tab_length];exact hi)
    have e:0+(i * 1+j)=i:=by omega
    show W.cell? ⟨4,0+(i * 1+j),none⟩=_;rw[e];exact this
   .match j,hs with
    |0,hs =>
     have hs:some (SV.int .u64 (.a (Lib.pow10Tab.getD i 0)))=some s:=hs;cases hs;exact .int rfl
    |_+1,hs=>simp[Zm]at hs
  .cases lZ
 .cases hs
end Go.Proofs.YtdoogdbjiijifaaGreatDoor
namespace Go.Sx
open Go Go.ChangeShapes Go.WideShapes Go.RowKit
section
variable {P:Program}
theorem Do.bf{t e:TypeId}{α:Type}{sz:Nat}{enc:α->List SV}(ht:P.underlying t=some (.slice e))(hz:P.cellsOf e=sz)(h0:0<sz)(he:Do P e enc):Do P t (λx:{x:Bool×List α // x.2.length<=maxLen/\(x.1=true->x.2=[])}=>CI sz enc x.1):=by
 intro H tok W spare held fuel cs x h;rcases DataW.trod_slice ht h with⟨rfl,_⟩|⟨a,len,cap,elems,rest,n,_,rfl,_,_,hle,jG,hlen,uW,_,_⟩
 .exact⟨⟨(true,[]),XX _,λ_=>rfl⟩,.one (.slnil rfl rfl) rfl⟩
 .rw[hz]at uW
  have key:∀i,i<len->∃(al:α) (vs:List Value),tT (Lr W) W (enc al) vs/\vs.length=sz/\∀j,j<sz->W.cell? ((a.add (i * sz)).add j)=vs[j]?:=by
   intro i hi;have h1:=uW i hi;rw[QB (by omega)]at h1;cases hc:W.cells? 0 (a.add (i * sz)) sz with
   |none=>rw[hc]at h1;cases h1
   |some vs =>
    rw[hc]at h1;obtain⟨al,oW⟩:=he H tok W _ _ _ vs _ h1;have hg:=Akq hc;exact⟨al,vs,oW,hg.1,hg.2⟩
  have gen:∀len:Nat,(∀i,i<len->∃(al:α) (vs:List Value),tT (Lr W) W (enc al) vs/\vs.length=sz/\∀j,j<sz->W.cell? ((a.add (i * sz)).add j)=vs[j]?)->∃(l:List α) (g:Nat->Nat->Value),l.length=len/\∀i al,l[i]?=some al->(enc al).length=sz/\(∀j,j<sz->W.cell? ((a.add (i * sz)).add j)=some (g i j)/\(g i j).oneCell'=true)/\∀j s,(enc al)[j]?=some s->RO (Lr W) W s (g i j):=by
   clear key uW hlen jG hle h;intro len key
   induction len with
   |zero=>exact⟨[],λ_ _=>undef,rfl,by simp⟩
   |succ len ih =>
    obtain⟨l,g,hl,hg⟩:=ih (λi hi=>key i (by omega));obtain⟨al,vs,k1,k2,k3⟩:=key len (by omega);refine⟨l++[al],λi j=>if i=len then vs.getD j undef else g i j,by simp[hl],λi al' hi=>?_⟩;rw[YR]at hi
    split at hi
    .rename_i aC
     have bA:i≠len:=by omega
     obtain⟨g1,g2,g3⟩:=hg i al' hi;exact⟨g1,λj hj=>by simpa only[QA bA] using g2 j hj,λj s hs=>by simpa only[QA bA] using g3 j s hs⟩
    .rename_i aC
     have OQ:i=len:=by
      have:=(List.getElem?_eq_some_iff.1 hi).1;simp at this;omega
     subst OQ;have h00:i-l.length=0:=by omega
     rw[h00]at hi;simp at hi;subst hi;refine⟨by rw[k1.1,k2],λj hj=>?_,λj s hs=>?_⟩
     .simp only[QC]
      have JG:vs[j]?=some vs[j]:=QB (by omega);rw[k3 j hj,JG];simp only[QD,JG,XD,true_and];exact k1.2.2 _ (XO _)
     .simp only[QC]
      have hjl:j<vs.length:=by rw[<-k1.1];exact (List.getElem?_eq_some_iff.1 hs).1
      have JG:vs[j]?=some vs[j]:=QB hjl;simp only[QD,JG,XD];exact k1.2.1 j s _ hs JG
  obtain⟨l,g,hl,hg⟩:=gen len key;have sQ:0<len->a.spot=none:=λyC=>by
   obtain⟨al,oW⟩:∃al,l[0]?=some al:=⟨_,QB (by omega)⟩;obtain⟨_,g2,_⟩:=hg 0 al oW;have:=(g2 0 h0).1;obtain⟨b,o,sp⟩:=a;simp only[Nat.zero_mul,Addr.add,QC]at this;exact (Ah9 this).2
  refine⟨⟨(false,l),by simp only[hl];omega,λh=>by cases h⟩,.one (.sl g rfl (by simp[ST.den,hl]) hle jG sQ (λi hi=>?_) (λi j hi hj=>?_) (λi j hi hj=>?_) (λi j s hi hs=>?_)) rfl⟩
  .obtain⟨al,oW⟩:∃al,l[i]?=some al:=⟨_,QB (by omega)⟩
   simp only[Hd,oW];exact (hg i al oW).1
  .obtain⟨al,oW⟩:∃al,l[i]?=some al:=⟨_,QB (by omega)⟩
   exact ((hg i al oW).2.1 j hj).2
  .obtain⟨al,oW⟩:∃al,l[i]?=some al:=⟨_,QB (by omega)⟩
   have hc:=((hg i al oW).2.1 j hj).1;have e:(a.add (i * sz)).add j=⟨a.block,a.off+(i * sz+j),none⟩:=by
    have hs:=sQ (by omega);obtain⟨b,o,sp⟩:=a;simp only at hs;subst hs;simp only[add_lit];congr 1;omega
   rw[e]at hc;exact⟨hc,(Ah9 hc).1⟩
  .obtain⟨al,oW⟩:∃al,l[i]?=some al:=⟨_,QB (by omega)⟩
   simp only[Hd,oW]at hs;exact (hg i al oW).2.2 j s hs
end
end Go.Sx
namespace Go.Proofs.YtdoogdbjiijifaaGreatDoor
open Go Go.Sx
set_option maxRecDepth 100000
set_option maxHeartbeats 8000000
def Gj(s:List UInt8):Bool:=decide (s.length<=16)&&Cb s
def Il(p:List UInt8->Bool):aB:=λ_ xs ls K=>∃(s:List UInt8),xs=[.str s]/\ls=[]/\s.length<=9223372036854775807/\∀r,r=p s->K (.bool (.a r)) []
theorem Acx:Ap Tryz.prog gl 197 (Il Gj):=by
 refine Bq (gh:=[]) mixed Ck (Aa Gt Ae) Tryz.func197 (by kernel_rfl) (by kernel_rfl) ?_;intro xs ls K h;unfold Il at h;obtain⟨s,rfl,rfl,hs,h⟩:=h;obtain⟨k,hk⟩:∃k,k=Gj s:=⟨_,rfl⟩;refine⟨_,_,h k hk,λD hD=>?_⟩;clear h;cbv;refine⟨s,rfl,rfl,hs,λt ht=>?_⟩;cbv;refine Ar hD ?_;rw[hk,Gj,<-ht];have:decide ((s.length:Int)<=16)=decide (s.length<=16):=by rw[UF];omega
 rw[<-this];rfl
def NC(t:List UInt8):Bool:=t==[104,111,115,116]||(t==[120,45,114,101,113,117,101,115,116,45,105,100]||(t==[99,111,110,116,101,110,116,45,108,101,110,103,116,104]||t==[116,114,97,110,115,102,101,114,45,101,110,99,111,100,105,110,103]))
theorem Anc:Ap Tryz.prog gl 255 (Il λs=>NC (bH s)):=by
 refine Bq (gh:=[]) mixed Ck (Aa Kp Ae) Tryz.func255 (by kernel_rfl) (by kernel_rfl) ?_;intro xs ls K h;unfold Il at h;obtain⟨s,rfl,rfl,hs,h⟩:=h;obtain⟨k,hk⟩:∃k,k=NC (bH s):=⟨_,rfl⟩;refine⟨_,_,h k hk,λD hD=>?_⟩;clear h;cbv;refine⟨s,rfl,rfl,hs,λt ht=>?_⟩;have ht:t=bH s:=ht;rw[<-ht]at hk;clear ht;unfold NC at hk;cbv;refine br hD (λh=>?_) (λh=>?_)<;>cbv
 .have h1:(t==[104,111,115,116])=true:=h
  refine Ar hD ?_;rw[hk,h1];simp
 have h1:(t==[104,111,115,116])=false:=h;rw[h1,UB]at hk;clear h h1;refine br hD (λh=>?_) (λh=>?_)<;>cbv
 .have h1:(t==[120,45,114,101,113,117,101,115,116,45,105,100])=true:=h
  refine Ar hD ?_;rw[hk,h1];simp
 have h1:(t==[120,45,114,101,113,117,101,115,116,45,105,100])=false:=h;rw[h1,UB]at hk;clear h h1;refine br hD (λh=>?_) (λh=>?_)<;>cbv
 .have h1:(t==[99,111,110,116,101,110,116,45,108,101,110,103,116,104])=true:=h
  refine Ar hD ?_;rw[hk,h1];simp
 have h1:(t==[99,111,110,116,101,110,116,45,108,101,110,103,116,104])=false:=h;rw[h1,UB]at hk;clear h h1;refine br hD (λh=>?_) (λh=>?_)<;>cbv
 .have h1:(t==[116,114,97,110,115,102,101,114,45,101,110,99,111,100,105,110,103])=true:=h
  refine Ar hD ?_;rw[hk,h1];simp
 have h1:(t==[116,114,97,110,115,102,101,114,45,101,110,99,111,100,105,110,103])=false:=h;rw[h1]at hk;clear h h1;refine Ar hD ?_;rw[hk];rfl
def Aht:List UInt8:=[97,98,99,100,101,102,103,104,105,106,107,108,109,110,111,112,113,114,115,116,117,118,119,120,121,122,48,49,50,51,52,53,54,55,56,57,45,46,58]
def NU(s:List UInt8):Bool:=s != []&&(decide (s.length<=100)&&(Lib.trimS s Aht==[]))
theorem Ajz:Ap Tryz.prog gl 199 (Il NU):=by
 refine Bq (gh:=[]) mixed Ck (Aa Jd Ae) Tryz.func199 (by kernel_rfl) (by kernel_rfl) ?_;intro xs ls K h;unfold Il at h;obtain⟨s,rfl,rfl,hs,h⟩:=h;obtain⟨k,hk⟩:∃k,k=NU s:=⟨_,rfl⟩;refine⟨_,_,h k hk,λD hD=>?_⟩;clear h;cbv;refine⟨s,Aht,rfl,rfl,hs,by decide,by decide,λt ht=>?_⟩;cbv;refine Ar hD ?_;rw[hk,NU,<-ht];have:decide ((s.length:Int)<=100)=decide (s.length<=100):=by rw[UF];omega
 rw[<-this,<-Bool.and_assoc];rfl
def ttM:List (Nat×TI):=[
 (3,⟨.int .i64,1,8,[.int .i64 (.l 0)]⟩),
 (4,⟨.bool,1,1,[.bool (.l false)]⟩),
 (9,⟨.string,1,16,[.str []]⟩),
 (28,⟨.int .i64,1,8,[.int .i64 (.l 0)]⟩),
 (265,⟨.struct [(0,9),(1,4),(2,4),(3,4)],4,24,[.str [],.bool (.l false),.bool (.l false),.bool (.l false)]⟩),
 (266,⟨.array 6 265,24,144,[.str [],.bool (.l false),.bool (.l false),.bool (.l false),.str [],.bool (.l false),.bool (.l false),.bool (.l false),.str [],.bool (.l false),.bool (.l false),.bool (.l false),.str [],.bool (.l false),.bool (.l false),.bool (.l false),.str [],.bool (.l false),.bool (.l false),.bool (.l false),.str [],.bool (.l false),.bool (.l false),.bool (.l false)]⟩)]
theorem vl:Sx.yN Tryz.prog ttM=true:=by kernel_rfl
theorem KU{eG:List (Nat×aB)}{gl:List (Nat×SV)}{gh:List (Nat×List Gh)}{its:List (Nat×(aB->aB))}{yl:List aB}:A4 Tryz.prog ⟨dn,ttM,eG,gl,[],gh,its,yl⟩:=⟨rfl,vl,λ_ h=>(by cases h)⟩
def PX(s:List UInt8):Bool:=if s=[71,69,84] then true else if s=[72,69,65,68] then true else if s=[79,80,84,73,79,78,83] then false else if s=[84,82,65,67,69] then true else if s=[80,85,84] then false else if s=[68,69,76,69,84,69] then false else false
theorem Aj0:Ap Tryz.prog pI 201 (Il PX):=by
 refine Bq (gh:=[(999986,[.freeze 10])]) mixed KU Ae Tryz.func201 (by kernel_rfl) (by kernel_rfl) ?_;intro xs ls K h;unfold Il at h;obtain⟨s,rfl,rfl,hs,h⟩:=h;obtain⟨k,hk⟩:∃k,k=PX s:=⟨_,rfl⟩;refine⟨_,_,h k hk,λD hD=>?_⟩;clear h;unfold PX at hk;cbv;refine br hD (λh=>?_) (λh=>?_)<;>cbv
 .have h1:s=[71,69,84]:=by have h:([71,69,84]==s)=true:=h;exact (eq_of_beq h).symm
  refine Ar hD ?_;rw[hk,QC h1];rfl
 have h1:¬s=[71,69,84]:=by have h:([71,69,84]==s)=false:=h;intro e;rw[e]at h;simp at h
 rw[QA h1]at hk;clear h h1;refine br hD (λh=>?_) (λh=>?_)<;>cbv
 .have h1:s=[72,69,65,68]:=by have h:([72,69,65,68]==s)=true:=h;exact (eq_of_beq h).symm
  refine Ar hD ?_;rw[hk,QC h1];rfl
 have h1:¬s=[72,69,65,68]:=by have h:([72,69,65,68]==s)=false:=h;intro e;rw[e]at h;simp at h
 rw[QA h1]at hk;clear h h1;refine br hD (λh=>?_) (λh=>?_)<;>cbv
 .have h1:s=[79,80,84,73,79,78,83]:=by have h:([79,80,84,73,79,78,83]==s)=true:=h;exact (eq_of_beq h).symm
  refine Ar hD ?_;rw[hk,QC h1];rfl
 have h1:¬s=[79,80,84,73,79,78,83]:=by have h:([79,80,84,73,79,78,83]==s)=false:=h;intro e;rw[e]at h;simp at h
 rw[QA h1]at hk;clear h h1;refine br hD (λh=>?_) (λh=>?_)<;>cbv
 .have h1:s=[84,82,65,67,69]:=by have h:([84,82,65,67,69]==s)=true:=h;exact (eq_of_beq h).symm
  refine Ar hD ?_;rw[hk,QC h1];rfl
 have h1:¬s=[84,82,65,67,69]:=by have h:([84,82,65,67,69]==s)=false:=h;intro e;rw[e]at h;simp at h
 rw[QA h1]at hk;clear h h1;refine br hD (λh=>?_) (λh=>?_)<;>cbv
 .have h1:s=[80,85,84]:=by have h:([80,85,84]==s)=true:=h;exact (eq_of_beq h).symm
  refine Ar hD ?_;rw[hk,QC h1];rfl
 have h1:¬s=[80,85,84]:=by have h:([80,85,84]==s)=false:=h;intro e;rw[e]at h;simp at h
 rw[QA h1]at hk;clear h h1;refine br hD (λh=>?_) (λh=>?_)<;>cbv
 .have h1:s=[68,69,76,69,84,69]:=by have h:([68,69,76,69,84,69]==s)=true:=h;exact (eq_of_beq h).symm
  refine Ar hD ?_;rw[hk,QC h1];rfl
 have h1:¬s=[68,69,76,69,84,69]:=by have h:([68,69,76,69,84,69]==s)=false:=h;intro e;rw[e]at h;simp at h
 rw[QA h1]at hk;clear h h1;refine Ar hD ?_;rw[hk];rfl
open Go Go.Sx Go.RowKit
set_option maxHeartbeats 2000000
theorem Xt{P:Program}{b:Bool}{gl:List (Nat×SV)}{f:FuncId}{xs:List SV}{W:World}{args:List Value}(h:Fb P gl f xs [] (.bool (.a b)) [])
  (gp:∀g s,Sx.look g gl=some s->RO (Lr W) W s (.pointer (some ⟨g,0,none⟩))/\g<W.heap.size/\Ry W g s) (hl:xs.length=args.length) (hr:∀(i:Nat) (s:SV) (v:Value),xs[i]?=some s->args[i]?=some v->RO (Lr W) W s v):
  Calls P f ⟨args⟩ W λe W'=>e=.returned (.bool b)/\Below W.heap.size W W':=by
 refine (h ⟨W,λ_=>False,Lr W,λ_=>none,λ_=>none,λ_=>none,[]⟩ ⟨λ_=>none,λ_=>none,λ_=>none,λ_=>none,λ_=>none,Lr W⟩ W args rfl (λ_ _ h=>h) (λ_ h=>absurd h (by simp)) ⟨rfl,rfl,rfl,QK _,λ_ _ _=>rfl,λ_ _ h=>⟨h,rfl⟩,λ_ _ h=>h,λ_ _ h=>.inl h,λ_ _ h=>(by cases h),⟨λ_ _ h=>(by cases h),λ_ _ h=>(by cases h),λ_ _ h=>(by cases h)⟩⟩ (λg s h=>⟨(gp g s h).1,(gp g s h).2.1,λh=>h,(gp g s h).2.2⟩) (λh=>?_) ⟨hl,λi s v a b=>.ro (hr i s v a b)⟩).mono λe W' hq=>?_
 .simp only[Aq,nth]
  exact⟨rfl,rfl,rfl,rfl⟩
 .obtain⟨v,E',rfl,hb,_,hv⟩:=hq
  rw[hv.bJ];exact⟨rfl,⟨hb.os,hb.tape,hb.output,hb.size,λk hk=>hb.dY k hk (λh=>h)⟩⟩
def Ie(x:Nat):Bool:=decide (x≠9)&&(decide (x<32)||decide (126<x))
def okB(c:UInt8):Bool:=decide (c.toNat=9)||(decide (32<=c.toNat)&&decide (c.toNat<=126))
def Ds(s:List UInt8):Bool:=s.all okB
def qI:aB:=λ_ xs ls K=>∃(x:Nat),xs=[.int .i32 (.a (x:Int))]/\ls=[]/\∀r,r=Ie x->K (.bool (.a r)) []
theorem jn:Ap Tryz.prog [] 171 qI:=by
 refine Bq (gh:=[]) mixed Ck Ae Tryz.func171 (by kernel_rfl) (by kernel_rfl) ?_;intro xs ls K h;unfold qI at h;obtain⟨x,rfl,rfl,h⟩:=h;obtain⟨k,hk⟩:∃k,k=Ie x:=⟨_,rfl⟩;refine⟨_,_,h k hk,λD hD=>?_⟩;clear h;cbv;refine Ar hD ?_;rw[hk];have e1:((x:Int)=9)↔x=9:=by omega
 have e2:((x:Int)<32)↔x<32:=by omega
 have e3:((126:Int)<x)↔126<x:=by omega
 simp only[BT.den,B6,ST.den,Ie];rw[XY];simp only[QE,XS,bne_iff_ne,QG,ZI];constructor
 .rintro⟨h1,h2⟩
  exact⟨λe=>h1 (e1.2 e),h2.imp (λe=>e2.1 (by first|exact e|exact QT e)) (λe=>e3.1 (by first|exact e|exact QT e))⟩
 .rintro⟨h1,h2⟩
  exact⟨λe=>h1 (e1.1 e),h2.imp (λe=>by first|exact e2.2 e|exact YI (e2.2 e)) (λe=>by first|exact e3.2 e|exact YI (e3.2 e))⟩
theorem Ahd(c:UInt8):okB c=!Ie c.toNat:=by
 unfold okB Ie
 by_cases h1:c.toNat=9<;>by_cases h2:c.toNat<32<;>by_cases h3:126<c.toNat<;>simp[h1,h2,h3]<;>omega
theorem Vb(s:ByteArray):∀(f pos:Nat),s.size<=pos+f->decide (0<=Lib.idxFuncFrom Ie true s f pos)=!((s.data.toList.drop pos).all okB)
 |0,pos,h=>by
  have:s.data.toList.drop pos=[]:=ZN (show s.data.toList.length<=pos from h);rw[this];rfl
 |f+1,pos,h=>by
  unfold Lib.idxFuncFrom
  by_cases hp:pos<s.size
  .have mA:pos<s.data.toList.length:=hp
   have hd:s.data.toList.drop pos=s[pos]'hp :: s.data.toList.drop (pos+1):=by
    rw[ZS mA];rfl
   rw[QC hp,hd,List.all_cons]
   by_cases ha:(s[pos]'hp).toNat<128
   .rw[decode_ascii s pos hp ha]
    have ih:=Vb s f (pos+1) (by omega);have hb:=Ahd (s[pos]'hp)
    by_cases hr:Ie (s[pos]'hp).toNat=true
    .rw[QC hr,hb,hr];simp
    .rw[QA hr,hb,ih]
     simp only[Bool.not_eq_true]at hr;rw[hr];simp
   .obtain⟨d1,_⟩:=decode_high s pos hp (by omega)
    have hr:Ie (Utf8.decode s pos).1=true:=by
     unfold Ie;simp;omega
    have hb:okB (s[pos]'hp)=false:=by
     rw[Ahd];simp only[Ie];simp;omega
    rw[QC hr,hb];simp
  .rw[QA hp]
   have:s.data.toList.drop pos=[]:=ZN (show s.data.toList.length<=pos from Nat.not_lt.1 hp);rw[this];rfl
def kK:aB:=λ_ xs ls K=>∃(s:List UInt8),xs=[.str s]/\ls=[]/\∀r,r=Ds s->K (.bool (.a r)) []
def v7:aB:=λ_ xs ls K=>∃(s:List UInt8),xs=[.str s,.fn 171]/\ls=[]/\∀r,r=!Ds s->K (.bool (.a r)) []
theorem Akw:∀args w,(callFunc 171 args).run Tryz.prog w=.ok (.enter 171 args) w:=enters_of Tryz.func171 (by kernel_rfl) rfl
theorem Ae2(w:World):PredGrows Tryz.prog 171 #[] Ie w:=by
 intro W x _ _;obtain⟨r,aK,⟨hr,hl⟩,hc⟩:=jn.2 [.int .i32 (.a (x:Int))] [] (λr aK=>r=.bool (.a (Ie x))/\aK=[]) ⟨x,rfl,rfl,λr hr=>by rw[hr];exact⟨rfl,rfl⟩⟩;subst hr hl;refine Xt (gl:=[]) hc (λg s h=>by simp[Sx.look]at h) (by simp[encR]) λi s v a b=>?_;cases i with
 |zero=>simp[encR]at a b;subst a b;exact .int rfl
 |succ i=>simp at a
theorem nv:Ap Tryz.prog gl 170 v7:=by
 refine⟨⟨Tryz.f170,_,Tryz.func170,rfl,by kernel_rfl⟩,λxs ls K h=>?_⟩;obtain⟨s,rfl,rfl,h⟩:=h;refine⟨_,_,h _ rfl,Bi λE B w aX _ _ _ hr=>?_⟩;obtain⟨v,g,rfl,hu,zc⟩:=D8 hr;rw[Cy hu,zc.qW];refine (Gu 171 #[] Akw Ie (Sx.bytes s) w (Ae2 w)).mono ?_;rintro e w' ⟨rfl,hB⟩;refine⟨_,rfl,λE=>.ro (.bool ?_),hB⟩;have:=Vb (Sx.bytes s) (Sx.bytes s).size 0 (by omega);show (!Ds s)=_;rw[Lib.idxFunc,this];rfl
theorem Yi:Ap Tryz.prog gl 120 kK:=by
 refine Bq (gh:=[]) mixed Ck (Aa nv Ae) Tryz.func120 (by kernel_rfl) (by kernel_rfl) ?_;intro xs ls K h;unfold kK at h;obtain⟨s,rfl,rfl,h⟩:=h;obtain⟨k,hk⟩:∃k,k=Ds s:=⟨_,rfl⟩;refine⟨_,_,h k hk,λD hD=>?_⟩;clear h;cbv;refine⟨s,rfl,rfl,λr hr=>?_⟩;cbv;refine Ar hD ?_;rw[hk,<-Bool.not_not (Ds s),<-hr];simp[BT.den]
open Go.Sx
set_option maxHeartbeats 8000000
structure HF where
 name:List UInt8
 value:List UInt8
 deriving Inhabited
def D3(x:HF):List SV:=[.str x.name,.str x.value]
def HF.small(x:HF):Prop:=x.name.length<=9223372036854775807/\x.value.length<=9223372036854775807
structure A0(f:Nat->List SV)(n:Int)(l:List HF):Prop where
 n:n=l.length
 f:∀i,i<l.length->f i=D3 (l.getD i default)
 len:l.length<=9223372036854775807
 small:∀i,i<l.length->(l.getD i default).small
def NY(x:HF):Int:=x.name.length+x.value.length+4
structure BJ(a b:List UInt8):Prop where
 a:a.length<=1000000000000
 b:b.length<=1000000000000
def zO:aB:=λ_ xs ls K=>∃(a b:List UInt8),xs=[.agg [.str a,.str b]]/\ls=[]/\BJ a b/\∀r,r=NY ⟨a,b⟩->K (.int .i64 (.a r)) []
theorem jf:Ap Tryz.prog gl 175 zO:=by
 refine Bq (gh:=[]) mixed Ck Ae Tryz.func175 (by kernel_rfl) (by kernel_rfl) ?_;intro xs ls K h;unfold zO at h;obtain⟨a,b,rfl,rfl,hs,h⟩:=h;obtain⟨k,hk⟩:∃k,k=NY ⟨a,b⟩:=⟨_,rfl⟩;refine⟨_,_,h k hk,λD hD=>?_⟩;clear h;cbv;refine Bj hD ?_;have h1:=hs.a;have h2:=hs.b;rw[hk];show IntKind.i64.wrap (IntKind.i64.wrap ((a.length:Int)+b.length)+4)=_;rw[wrap64 (n:=(a.length:Int)+b.length) (by omega) (by omega),wrap64 (by omega) (by omega)];rfl
def qd(x:HF):Bool:=!Cb x.name||(!Ds x.value||trimF x.value != x.value)
def Fx:List HF->Int->Int
 | [],n=>if 8192<n then 3 else 0
 |x :: l,n=>if qd x then 6 else if 2000<x.value.length then 3 else Fx l (n+NY x)
def A9(l:List HF):Int:=if 100<l.length then 3 else Fx l 2
def wT:aB:=λ_ xs ls K=>∃(l:List HF) (nl:Bool) (n:Int) (f:Nat->List SV),xs=[.sl (.a nl) (.a n) 2 f]/\ls=[]/\A0 f n l/\∀r,r=A9 l->K (.int .i64 (.a r)) []
structure ChJ(k:Int)(l:List HF)(i:Nat)(I N:Int)(m:Nat):Prop where
 at_:AtR l i I m
 lo:0<=N
 hi:N<=3000 * (i+1)
 k:k=Fx (l.drop i) N
def chJ(k:Int)(l:List HF)(nl:Bool)(n:Int)(f:Nat->List SV)(m:Nat)(vs:List (Option SV))(hp:List Hl):Prop :=
 ∃(i:Nat) (I N:Int),vs=[some (.int .i64 (.a N)),some (.sl (.a nl) (.a n) 2 f),some (.int .i64 (.a n)),some (.int .i64 (.a I))]/\hp=[]/\ChJ k l i I N m
theorem Ia:Ap Tryz.prog gl 125 wT:=by
 refine Bq (gh:=[]) mixed Ck (Aa Gt (Aa Yi (Aa Jd (Aa jf Ae)))) Tryz.func125 (by kernel_rfl) (by kernel_rfl) ?_;intro xs ls K h;unfold wT at h;obtain⟨l,nl,n,f,rfl,rfl,R,h⟩:=h;obtain⟨k,hk⟩:∃k,k=A9 l:=⟨_,rfl⟩;refine⟨_,_,h k hk,λD hD=>?_⟩;clear h;obtain⟨J,hJ⟩:∃J,J=chJ k l nl n f:=⟨_,rfl⟩;cbv;refine br hD (λh=>?_) (λh=>?_)<;>cbv
 .refine Bj hD ?_
  have h2:100<n:=QT (p:=(100:Int)<n) h;rw[hk,A9,QC (by have:=R.n;omega)];rfl
 have h2:n<=100:=by
  have:=XA (p:=(100:Int)<n) h;omega
 clear h;refine⟨[3,9,10,11],J,⟨rfl,l.length,?_⟩,?_⟩
 .rw[hJ]
  subst hD;refine⟨0,0,2,rfl,rfl,AtR.zero R.len,by omega,by omega,?_⟩;rw[hk,A9,QA (by have:=R.n;omega)];rfl
 intro m vs hp hj;rw[hJ]at hj;obtain⟨i,I,N,rfl,rfl,V⟩:=hj;clear hk;cbv;refine br hD (λh=>?_) (λh=>?_)<;>cbv
 .have aC:=V.at_.lt R.n (QT (p:=I<n) h)
  clear h;refine⟨V.at_.lY hD R.n aC,λj hj=>?_⟩;obtain rfl:=V.at_.j hD hj;clear hj;have e1:=R.f j aC;have eC:=R.small j aC;have aY:=V.k;rw[Hg (d:=default) aC]at aY;obtain⟨x,hx⟩:∃x,x=l.getD j default:=⟨_,rfl⟩;rw[<-hx]at e1 aY eC;obtain⟨a,b⟩:=x;cbv;rw[e1];cbv;refine⟨a,rfl,rfl,eC.1,λt ht=>?_⟩;cbv;refine⟨b,rfl,rfl,λp hp=>?_⟩;cbv;refine⟨b,_,rfl,rfl,eC.2,?_,?_,λq hq=>?_⟩
  .decide
  .decide
  cbv;have zo:∀v:Bool,(((!t||!p)||!(q==b))=v)->qd ⟨a,b⟩=v:=by
   intro v hv;rw[<-hv,ht,hp,hq,Tn,Bool.or_assoc];rfl
  clear ht hp hq;refine br hD (λh=>?_) (λh=>?_)<;>cbv
  .have h3:=zo true (by simpa[BT.den] using h)
   refine Bj hD ?_;rw[aY,Fx,QC h3];rfl
  have h3:=zo false (by simpa[BT.den] using h);clear h zo;refine br hD (λh=>?_) (λh=>?_)<;>cbv
  .have h4:(2000:Int)<b.length:=QT (p:=(2000:Int)<b.length) h
   refine Bj hD ?_;rw[aY,Fx,h3,QA (by simp),QC (by show 2000<b.length;omega)];rfl
  have h4:b.length<=2000:=by
   have:=XA (p:=(2000:Int)<b.length) h;omega
  clear h;have ha:a.length<=64:=by
   unfold qd at h3;simp only[QU,XZ]at h3;have:=h3.1;unfold Cb at this;simp only[QE,QG]at this;exact this.2.2
  refine⟨a,b,rfl,rfl,⟨by omega,by omega⟩,λz hz=>?_⟩;cbv;obtain⟨g1,g2⟩:=V.at_.step hD aC;refine⟨_,g1,?_⟩;rw[hJ];have h5:z=a.length+b.length+4:=hz;have h6:=V.lo;have h7:=V.hi;have h8:=V.at_.le;have h9:IntKind.i64.wrap (N+z)=N+z:=wrap64 (by omega) (by have:=R.n;omega);subst hD;refine⟨j+1,_,_,rfl,rfl,g2,?_,?_,?_⟩
  .show 0<=IntKind.i64.wrap (N+z);omega
  .show IntKind.i64.wrap (N+z)<=_;omega
  .show k=Fx _ (IntKind.i64.wrap (N+z))
   rw[h9,aY,Fx,h3,QA (by simp),QA (by show ¬2000<b.length;omega),h5];rfl
 .have hi:=V.at_.eq R.n (XA (p:=I<n) h)
  have aY:=V.k;rw[hi,XR]at aY;clear h;refine br hD (λh=>?_) (λh=>?_)<;>cbv
  .refine Bj hD ?_
   have h2:8192<N:=QT (p:=(8192:Int)<N) h;rw[aY,Fx,QC h2];rfl
  .refine Bj hD ?_
   have h2:¬8192<N:=XA (p:=(8192:Int)<N) h;rw[aY,Fx,QA h2];rfl
def wL:aB:=λ_ xs ls K=>∃(nl:Bool) (n:Int) (f:Nat->List SV) (s:List UInt8),xs=[.sl (.a nl) (.a n) 2 f,.str s]/\ls=[]/\s.length<=9223372036854775807/\
 ∀t,t=bH s->K (.fJ 230 [.ptr 0 0,.ptr 1 0]) [.aF 23 [.sl (.a nl) (.a n) 2 f],.aF 9 [.str t]]
theorem Ace:Ap Tryz.prog gl 177 wL:=by
 refine Bu (gh:=[]) mixed Ck (Aa Kp Ae) Tryz.func177 (by kernel_rfl) (by kernel_rfl) ?_;intro xs ls K h;unfold wL at h;obtain⟨nl,n,f,s,rfl,rfl,hs,h⟩:=h;obtain⟨k,hk⟩:∃k,k=bH s:=⟨_,rfl⟩;refine⟨_,_,h k hk,λD hD=>?_⟩;clear h;cbv;refine⟨s,rfl,rfl,hs,λt ht=>?_⟩;rw[<-hk]at ht;subst ht;cbv;subst hD;exact By rfl rfl
def T1(F:List UInt8->Bool)(s:List UInt8):List UInt8->Bool:=λk=>if k=s then true else F k
def Mh(F:List UInt8->Bool)(kG:List (List UInt8)):List UInt8->Bool:=kG.foldl (λF s=>if Cb s then T1 F (bH s) else F) F
def La(t:List UInt8):List HF->(List UInt8->Bool)->(List UInt8->Bool)×Bool
 | [],F=>(F,true)
 |x :: l,F=>if bH x.name=t then (if (A5 x.value).2=0 then La t l (Mh F (A5 x.value).1) else (F,false)) else La t l F
def K4(a b c:Nat):List (Nat×Option SV):=[(2,some (.ptr a 0)),(3,some (.ptr b 0)),(5,some (.ptr c 0))]
def su(c:LC):aB:=λ_ xs ls K=>∃(i:Int) (v:List UInt8) (F:List UInt8->Bool),
 xs=[.yv 0,.int .i64 (.a i),.str v]/\ls=[.bO c (K4 1 2 3) 0 none,.aF 314 [.raw (.map none)],.aF 28 [.int .i64 (.a 0)],.aF 314 [.bQ 4],.dB F]/\v.length<=9223372036854775807/\
 ((A5 v).2=0->∀F',F'=Mh F (A5 v).1->K (.bool (.a true)) [.bO c (K4 1 2 3) 0 none,.aF 314 [.raw (.map none)],.aF 28 [.int .i64 (.a 0)],.aF 314 [.bQ 4],.dB F'])/\
 ((A5 v).2≠0->K (.bool (.a false)) [.bO c (K4 1 2 3) 2 (some .ret),.aF 314 [.raw (.map none)],.aF 28 [.int .i64 (.a 6)],.aF 314 [.bQ 4],.dB F])
def Afs(Y:aB):aB:=λ_ xs ls K=>∃(c:LC) (l:List HF) (nl:Bool) (n:Int) (f:Nat->List SV) (t:List UInt8) (F:List UInt8->Bool),Y=su c/\
 xs=[.yv 0,.ptr 1 0,.ptr 2 0]/\ls=[.bO c (K4 3 4 5) 0 none,.aF 23 [.sl (.a nl) (.a n) 2 f],.aF 9 [.str t],.aF 314 [.raw (.map none)],.aF 28 [.int .i64 (.a 0)],.aF 314 [.bQ 6],.dB F]/\A0 f n l/\
 (∀F',La t l F=(F',true)->K (.aI []) [.bO c (K4 3 4 5) 0 none,.aF 23 [.sl (.a nl) (.a n) 2 f],.aF 9 [.str t],.aF 314 [.raw (.map none)],.aF 28 [.int .i64 (.a 0)],.aF 314 [.bQ 6],.dB F'])/\
 (∀F',La t l F=(F',false)->K (.aI []) [.bO c (K4 3 4 5) 2 (some .ret),.aF 23 [.sl (.a nl) (.a n) 2 f],.aF 9 [.str t],.aF 314 [.raw (.map none)],.aF 28 [.int .i64 (.a 6)],.aF 314 [.bQ 6],.dB F'])
structure NmJ(t:List UInt8)(k:(List UInt8->Bool)×Bool)(l:List HF)(F:List UInt8->Bool)(i:Nat)(I:Int)(m:Nat):Prop where
 cG:AtR l i I m
 k:k=La t (l.drop i) F
def TD(c:LC)(t:List UInt8)(k:(List UInt8->Bool)×Bool)(l:List HF)(nl:Bool)(n:Int)(f:Nat->List SV)(m:Nat)(vs:List (Option SV))(hp:List Hl):Prop :=
 ∃(i:Nat) (I:Int) (F:List UInt8->Bool),vs=[some (.yv 0),some (.ptr 2 0),some (.sl (.a nl) (.a n) 2 f),some (.int .i64 (.a n)),some (.int .i64 (.a I))]/\
  hp=[.bO c (K4 3 4 5) 0 none,.aF 23 [.sl (.a nl) (.a n) 2 f],.aF 9 [.str t],.aF 314 [.raw (.map none)],.aF 28 [.int .i64 (.a 0)],.aF 314 [.bQ 6],.dB F]/\NmJ t k l F i I m
theorem Ajl(Y:aB)(hY:DS Tryz.prog gl Y):Ap Tryz.prog gl 230 (Afs Y):=by
 refine RC (gh:=[]) (its:=[]) (yl:=[Y]) mixed Ck (Aa Kp Ae) ⟨λ_ h=>(by cases h),λZ h=>by rw[YQ]at h;subst h;exact hY⟩ Tryz.func230 (by kernel_rfl) (by kernel_rfl) ?_;intro xs ls K h;unfold Afs at h;obtain⟨c,l,nl,n,f,t,F,rfl,rfl,rfl,R,h1,h2⟩:=h;obtain⟨k,hk⟩:∃k,k=La t l F:=⟨_,rfl⟩;obtain⟨r,aK,hK,hr,kT⟩:∃r aK,K r aK/\r=SV.aI []/\aK=(if k.2 then [.bO c (K4 3 4 5) 0 none,.aF 23 [.sl (.a nl) (.a n) 2 f],.aF 9 [.str t],.aF 314 [.raw (.map none)],.aF 28 [.int .i64 (.a 0)],.aF 314 [.bQ 6],.dB k.1] else [.bO c (K4 3 4 5) 2 (some .ret),.aF 23 [.sl (.a nl) (.a n) 2 f],.aF 9 [.str t],.aF 314 [.raw (.map none)],.aF 28 [.int .i64 (.a 6)],.aF 314 [.bQ 6],.dB k.1]):=by
  obtain⟨F',b⟩:=k;cases b
  .exact⟨_,_,h2 F' hk.symm,rfl,rfl⟩
  .exact⟨_,_,h1 F' hk.symm,rfl,rfl⟩
 refine⟨r,aK,hK,λD hD=>?_⟩;clear hK h1 h2;subst hr;obtain⟨J,hJ⟩:∃J,J=TD c t k l nl n f:=⟨_,rfl⟩;cbv;refine⟨[0,2,6,7,8],J,⟨rfl,l.length,?_⟩,?_⟩
 .rw[hJ]
  subst hD;exact⟨0,0,F,rfl,rfl,AtR.zero R.len,hk⟩
 intro m vs hp hj;rw[hJ]at hj;obtain⟨i,I,F,rfl,rfl,V⟩:=hj;clear hk;cbv;refine br hD (λh=>?_) (λh=>?_)<;>cbv
 .have aC:=V.cG.lt R.n (QT (p:=I<n) h)
  clear h;refine⟨V.cG.lY hD R.n aC,λj hj=>?_⟩;obtain rfl:=V.cG.j hD hj;clear hj;have e1:=R.f j aC;have eC:=R.small j aC;have aY:=V.k;rw[Hg (d:=default) aC]at aY;obtain⟨x,hx⟩:∃x,x=l.getD j default:=⟨_,rfl⟩;rw[<-hx]at e1 aY eC;obtain⟨a,b⟩:=x;cbv;rw[e1];cbv;refine⟨a,rfl,rfl,eC.1,λz hz=>?_⟩;cbv;refine br hD (λh=>?_) (λh=>?_)<;>cbv
  .have h3:bH a=t:=by rw[<-hz];simpa using h
   clear h;refine⟨I,b,F,?_,?_,eC.2,λhe F' hF'=>?_,λhe=>?_⟩
   .subst hD;rfl
   .subst hD;rfl
   .cbv
    refine br hD (λh=>?_) (λh=>?_)
    .cbv
     exact absurd h (by simp[BT.den])
    cbv;obtain⟨g1,g2⟩:=V.cG.step hD aC
    generalize l.length-(j+1)=m' at g1 g2
    have e5:k=La t (l.drop (j+1)) F':=by rw[aY,La,QC h3,QC he,hF']
    refine⟨m',g1,?_⟩;rw[hJ];unfold TD;cbv;subst hD;exact⟨j+1,_,F',rfl,rfl,g2,e5⟩
   .cbv
    refine br hD (λh=>?_) (λh=>?_)
    .cbv
     have e5:k=(F,false):=by rw[aY,La,QC h3,QA he]
     rw[kT,e5];subst hD;exact By rfl rfl
    .cbv
     exact absurd h (by rw[hz];simp[BT.den,h3])
  .have h3:bH a≠t:=by rw[<-hz];simpa using h
   clear h;refine br hD (λh=>?_) (λh=>?_)
   .cbv
    exact absurd h (by rw[hz];simp[BT.den])
   cbv;obtain⟨g1,g2⟩:=V.cG.step hD aC
   generalize l.length-(j+1)=m' at g1 g2
   have e5:k=La t (l.drop (j+1)) F:=by rw[aY,La,QA h3]
   refine⟨m',g1,?_⟩;rw[hJ];unfold TD;cbv;subst hD;exact⟨j+1,_,F,rfl,rfl,g2,e5⟩
 .have hi:=V.cG.eq R.n (XA (p:=I<n) h)
  have aY:=V.k;rw[hi,XR]at aY;clear h;rw[kT,aY];subst hD;exact By rfl rfl
def conn:List UInt8:=[99,111,110,110,101,99,116,105,111,110]
def z7:List (List UInt8):=[conn,[107,101,101,112,45,97,108,105,118,101],[112,114,111,120,121,45,99,111,110,110,101,99,116,105,111,110],[116,101],[116,114,97,105,108,101,114],[116,114,97,110,115,102,101,114,45,101,110,99,111,100,105,110,103],[117,112,103,114,97,100,101]]
def uw:List UInt8->Bool:=z7.foldl T1 λ_=>false
def Jz(l:List HF):(List UInt8->Bool)×Bool:=La conn l uw
def NT(l:List HF):SV×List Hl :=
 if A9 l≠0 then (.aI [.raw (.map none),.int .i64 (.a (A9 l))],[]) else
 if (Jz l).2 then (.aI [.bQ 0,.int .i64 (.a 0)],[.dB (Jz l).1]) else (.aI [.raw (.map none),.int .i64 (.a 6)],[])
def zX:aB:=λ_ xs ls K=>∃(l:List HF) (nl:Bool) (n:Int) (f:Nat->List SV),xs=[.sl (.a nl) (.a n) 2 f]/\ls=[]/\A0 f n l/\∀k,k=NT l->K k.1 k.2
theorem Lc.eq{F' F:List UInt8->Bool}{s:List UInt8}(h:Lc F' F s true):F'=T1 F s:=funext λk=>h.h k
structure aj2(kG:List (List UInt8))(F0 F:List UInt8->Bool)(i:Nat)(I L:Int)(m:Nat):Prop where
 cG:AtR kG i I m
 L:L=kG.length
 k:Mh F0 kG=Mh F (kG.drop i)
def yo(c:LC)(kG:List (List UInt8))(F0:List UInt8->Bool)(nb:Bool)(n:Int)(f:Nat->List SV)(m:Nat)(vs:List (Option SV))(hp:List Hl):Prop :=
 ∃(i:Nat) (I:Int) (F:List UInt8->Bool),vs=[some (.ptr 3 0),some (.sl (.a nb) (.a n) 1 f),some (.int .i64 (.a n)),some (.int .i64 (.a I))]/\
  hp=[.bO c (K4 1 2 3) 1 none,.aF 314 [.raw (.map none)],.aF 28 [.int .i64 (.a 0)],.aF 314 [.bQ 4],.dB F]/\aj2 kG F0 F i I n m
variable {v:List UInt8}{l:List (List UInt8)}
theorem Ai7(h:l=(A5 v).1):l.length<=9223372036854775807:=by
 have:=(Dr v).1;rw[<-h]at this;omega
theorem Aby(h:l=(A5 v).1)(i:Nat)(hi:i<l.length):(l.getD i []).length<=9223372036854775807:=by
 have:=(Dr v).2 (l.getD i []) (by rw[<-h,QD,QB hi];exact XO hi);omega
theorem mr:Ap Tryz.prog gl 307 zX:=by
 refine RC (gh:=[]) (its:=[(230,Afs)]) (yl:=[]) mixed Ck (Aa Ia (Al Ace (Aa Se (Aa Gt (Aa Kp Ae))))) ⟨λx h Y hY=>by rw[YQ]at h;subst h;exact Ajl Y hY,λ_ h=>(by cases h)⟩ Tryz.func307 (by kernel_rfl) (by kernel_rfl) ?_;intro xs ls K h;unfold zX at h;obtain⟨l,nl,n,f,rfl,rfl,R,h⟩:=h;obtain⟨k,hk⟩:∃k,k=NT l:=⟨_,rfl⟩;refine⟨_,_,h k hk,λD hD=>?_⟩;clear h;cbv;refine⟨l,_,_,f,rfl,rfl,by subst hD;exact R,λe he=>?_⟩;cbv;refine br hD (λh=>?_) (λh=>?_)<;>cbv
 .have h1:e≠0:=by simpa using h
  rw[he]at h1;rw[hk,NT,QC h1,<-he];subst hD;exact By rfl rfl
 have h1:A9 l=0:=by rw[<-he];simpa using h
 clear h;have aY:k=if (Jz l).2 then (.aI [.bQ 0,.int .i64 (.a 0)],[.dB (Jz l).1]) else (.aI [.raw (.map none),.int .i64 (.a 6)],[]):=by
  rw[hk,NT,QA (by simp[h1])]
 clear hk;intro F1 h1;obtain rfl:F1=T1 _ _:=Lc.eq (by subst hD;exact h1);clear h1;cbv;intro F2 h2;obtain rfl:F2=T1 _ _:=Lc.eq (by subst hD;exact h2);clear h2;cbv;intro F3 h3;obtain rfl:F3=T1 _ _:=Lc.eq (by subst hD;exact h3);clear h3;cbv;intro F4 h4;obtain rfl:F4=T1 _ _:=Lc.eq (by subst hD;exact h4);clear h4;cbv;intro F5 h5;obtain rfl:F5=T1 _ _:=Lc.eq (by subst hD;exact h5);clear h5;cbv;intro F6 h6;obtain rfl:F6=T1 _ _:=Lc.eq (by subst hD;exact h6);clear h6;cbv;intro F7 h7;obtain rfl:F7=T1 _ _:=Lc.eq (by subst hD;exact h7);clear h7;cbv;refine⟨_,_,f,conn,rfl,rfl,by decide,λt ht=>?_⟩;have ht:t=conn:=ht;subst ht;cbv;intro c hc;refine⟨[2,3,5],su c,?_,?_⟩
 .rintro xs ls K' ⟨i,v,F,rfl,rfl,hv,h1,h2⟩
  refine⟨⟨_,rfl⟩,?_⟩;obtain⟨kG,nj⟩:∃l,l=(A5 v).1:=⟨_,rfl⟩;obtain⟨ee,ec⟩:∃l,l=(A5 v).2:=⟨_,rfl⟩;obtain⟨r,aK,hK,hr,kT⟩:∃r aK,K' r aK/\r=SV.bool (.a (ee==0))/\aK=(if ee=0 then [.bO c (K4 1 2 3) 0 none,.aF 314 [.raw (.map none)],.aF 28 [.int .i64 (.a 0)],.aF 314 [.bQ 4],.dB (Mh F kG)] else [.bO c (K4 1 2 3) 2 (some .ret),.aF 314 [.raw (.map none)],.aF 28 [.int .i64 (.a 6)],.aF 314 [.bQ 4],.dB F]):=by
   by_cases he:(A5 v).2=0
   .refine⟨_,_,h1 he _ rfl,?_,?_⟩
    .rw[ec,he];rfl
    .rw[ec,he,QC rfl,nj]
   .refine⟨_,_,h2 he,?_,?_⟩
    .have:((A5 v).2==0)=false:=by simpa using he
     rw[ec,this]
    .rw[ec,QA he]
  refine⟨r,aK,hK,?_⟩;clear hK h1 h2;subst hr;cbv;refine⟨v,rfl,rfl,hv,λl e n nb hle hn iK=>?_⟩;have iU:l=kG:=by rw[nj,<-hle]
  have oT:e=ee:=by rw[ec,<-hle]
  subst iU oT;have RS:Dp (Fc l) n l:=by rw[hn];exact Dp.row (Ai7 nj)
  obtain⟨g,hg⟩:∃g,g=Fc l:=⟨_,rfl⟩;rw[<-hg]at RS ⊢;clear hle hg hn;cbv;refine br hD (λh=>?_) (λh=>?_)
  .have he:e≠0:=by simpa using h
   rw[QA he]at kT;have tq:(e==0)=false:=by simpa using he
   rw[kT,tq];cbv;subst hD;exact By rfl rfl
  .have he:e=0:=by simpa using h
   clear h;rw[QC he]at kT;rw[he];obtain⟨J,hJ⟩:∃J,J=yo c l F nb n g:=⟨_,rfl⟩;cbv;refine⟨[5,30,31,32],J,⟨rfl,l.length,?_⟩,?_⟩
   .rw[hJ]
    subst hD;exact⟨0,0,F,rfl,rfl,AtR.zero RS.len,RS.n,rfl⟩
   intro m vs hp hj;rw[hJ]at hj;obtain⟨i,I,F2,rfl,rfl,V⟩:=hj;cbv;refine br hD (λh=>?_) (λh=>?_)<;>cbv
   .have aC:=V.cG.lt RS.n (QT (p:=I<n) h)
    clear h;refine⟨V.cG.lY hD RS.n aC,λj hj=>?_⟩;obtain rfl:=V.cG.j hD hj;clear hj;have e1:=RS.f j aC;have aY:=V.k;rw[Hg (d:=[]) aC]at aY;have eC:=Aby nj j aC;obtain⟨x,hx⟩:∃x,x=l.getD j []:=⟨_,rfl⟩;rw[<-hx]at e1 aY eC;cbv;rw[e1];cbv;refine⟨x,rfl,rfl,eC,λt ht=>?_⟩;cbv;obtain⟨g1,g2⟩:=V.cG.step hD aC
    generalize l.length-(j+1)=m' at g1 g2
    refine br hD (λh=>?_) (λh=>?_)<;>cbv
    .have h3:Cb x=true:=by rw[<-ht];simpa using h
     clear h;refine⟨x,rfl,rfl,eC,λy hy=>?_⟩;have hy:y=bH x:=hy;cbv;intro F3 PB;obtain rfl:F3=T1 F2 y:=Lc.eq (by subst hD;exact PB);clear PB;cbv;refine⟨m',g1,?_⟩;rw[hJ];unfold yo;subst hD;refine⟨j+1,_,_,rfl,rfl,g2,RS.n,?_⟩;rw[aY,hy];simp only[Mh,List.foldl_cons,h3,if_true]
    .have h3:Cb x=false:=by rw[<-ht];simpa using h
     clear h;refine⟨m',g1,?_⟩;rw[hJ];unfold yo;subst hD;refine⟨j+1,_,F2,rfl,rfl,g2,RS.n,?_⟩;rw[aY];simp only[Mh,List.foldl_cons,h3,XE,if_false]
   .have hi:=V.cG.eq RS.n (XA (p:=I<n) h)
    have aY:=V.k;rw[hi,XR]at aY;clear h;have lG:Mh F l=F2:=aY;rw[kT,lG];cbv;subst hD;exact By rfl rfl
 .cbv
  refine⟨c,l,nl,n,f,conn,uw,rfl,rfl,by subst hD;rfl,R,λF' hF=>?_,λF' hF=>?_⟩
  .have e5:k=(.aI [.bQ 0,.int .i64 (.a 0)],[.dB F']):=by
    rw[aY,Jz,hF];rfl
   rw[e5];cbv;subst hD;exact By rfl rfl
  .have e5:k=(.aI [.raw (.map none),.int .i64 (.a 6)],[]):=by
    rw[aY,Jz,hF];rfl
   rw[e5];cbv;subst hD;exact By rfl rfl
end Go.Proofs.YtdoogdbjiijifaaGreatDoor
