/- A part of the proof: contracts of functions, or the executor and its soundness. No conditions. -/
import Derived.ProofKit
import Derived.Below
import Derived.Carry
import Derived.ChangeOld
import Derived.ChangeArms
import Derived.OpenShut
import Derived.MakeChecks
import Derived.Shelf.Bytes.SlIndexAt
import Derived.Test.YtdoogdbjiijifaaGreatDoorCards
import Derived.LaidLaws
import Derived.LaidHandle
import Derived.LaidMore
import Derived.Lay
import Derived.Stop.Joined
import Derived.Stop.LaidErr
import Derived.Lib.SmallJoins
import Derived.Laws.RangeString
import Derived.Laws.RangeAny
import Derived.Test.YtdoogdbjiijifaaGreatDoorE7Pan
import Derived.Test.YtdoogdbjiijifaaGreatDoorE7Pax
import Derived.Test.YtdoogdbjiijifaaGreatDoorE7Pav
import Derived.Test.YtdoogdbjiijifaaGreatDoorE7Paw
import Derived.Test.YtdoogdbjiijifaaGreatDoorE7MaT
namespace Go.Sx
open Go Go.ChangeShapes Go.WideShapes Go.RowKit
def Mn(W:World):Nat->Nat->Prop:=λb _=>b<W.heap.size
def sZ(I:Nat->Nat->Prop)(w:World)(cs:List SV)(vs:List Value):Prop:=cs.length=vs.length/\(∀(i:Nat) (s:SV) (v:Value),cs[i]?=some s->vs[i]?=some v->RO I w s v)/\∀v∈vs,v.oneCell'=true
theorem sZ.one{I:Nat->Nat->Prop}{w:World}{s:SV}{v:Value}(h:RO I w s v)(h1:v.oneCell'=true):sZ I w [s] [v] :=
 ⟨rfl,λi s' v' a b=>by cases i with|zero=>simp at a b;subst a b;exact h|succ i=>simp at a,by simpa using h1⟩
theorem sZ.nil{I:Nat->Nat->Prop}{w:World}:sZ I w [] []:=⟨rfl,by simp,by simp⟩
theorem sZ.app{I:Nat->Nat->Prop}{w:World}{cs dK:List SV}{vs af:List Value}(h:sZ I w cs vs)(h':sZ I w dK af):sZ I w (cs++dK) (vs++af):=by
 refine⟨by simp[h.1,h'.1],λi s v a b=>?_,λv hv=>?_⟩
 .rw[YC]at a b
  rw[h.1]at a
  split at a
  .rename_i hi
   rw[QE hi]at b;exact h.2.1 i s v a b
  .rename_i hi
   rw[QD hi]at b;exact h'.2.1 _ s v a b
 .rcases List.mem_append.1 hv with hv|hv
  .exact h.2.2 v hv
  .exact h'.2.2 v hv
section
variable {P:Program}
def Fk(P:Program)(t:TypeId){α:Type}(enc:α->List SV):Prop :=
 ∀(H:Type) (tok:TypeId×Value->H) (W:World) (spare:Nat->Bool) (held:Bool) (fuel:Nat) (cs:List Value) (x:DataW H×List MemPlace),DataW.trod tok P W 0 spare held fuel t cs=some x->∃a,sZ (Mn W) W (enc a) cs
theorem Fk.int{t:TypeId}{k:IntKind}(ht:P.underlying t=some (.int k)):Fk P t (λn:Int=>[.int k (.a n)]):=by
 intro H tok W spare held fuel cs x h;obtain⟨n,rfl,_,_⟩:=DataW.trod_int ht h;exact⟨n,.one (.int rfl) rfl⟩
theorem Fk.TH{t:TypeId}{k:IntKind}(ht:P.underlying t=some (.int k)):Fk P t (λn:{n:Int // (Lit.int k n).wf=true}=>[.int k (.a n.1)]):=by
 intro H tok W spare held fuel cs x h;obtain⟨n,rfl,_,hw⟩:=DataW.trod_int ht h;exact⟨⟨n,hw⟩,.one (.int rfl) rfl⟩
theorem Fk.str{t:TypeId}(ht:P.underlying t=some .string):Fk P t (λs:{s:List UInt8 // s.length<=maxLen}=>[.str s.1]):=by
 intro H tok W spare held fuel cs x h;obtain⟨s,rfl,_,hs⟩:=DataW.trod_string ht h;exact⟨⟨s.data.toList,by simpa using hs⟩,.one (.str (by simp[bytes])) rfl⟩
theorem Alj{W:World}{base:Nat}{a:Addr}{n:Nat}{cs:List Value}(h:W.cells? base a n=some cs):cs.length=n/\∀i,i<n->W.cell? (a.add i)=cs[i]?:=by
 unfold World.cells? at h
 split at h
 .have h2:=mapM_some_get h
  have h1:cs.length=n:=by simpa using mapM_some_length h
  refine⟨h1,λi hi=>?_⟩;exact h2 i i (by simp[hi])
 .cases h
theorem Aiy{W:World}{b o:Nat}{sp:Option Nat}{v:Value}(h:W.cell? ⟨b,o,sp⟩=some v):b<W.heap.size/\sp=none:=by
 unfold World.cell? at h
 split at h
 .rename_i c _ _ hc
  split at h
  .cases h
  .rename_i hs
   exact⟨(Array.getElem?_eq_some_iff.1 hc).1,by cases sp<;>simp at hs ⊢⟩
 .cases h
def P6{α:Type}(enc:α->List SV)(l:List α)(i:Nat):List SV:=match l[i]? with
 |some a=>enc a
 |none=>[]
def rZ{α:Type}(sz:Nat)(enc:α->List SV)(x:Bool×List α):List SV:=[.sl (.a x.1) (.a x.2.length) sz (P6 enc x.2)]
def Gz(P:Program)(fs:List (Nat×TypeId))(o len:Nat){α:Type}(enc:α->List SV):Prop :=
 ∀(H:Type) (tok:TypeId×Value->H) (W:World) (spare:Nat->Bool) (held:Bool) (cs:List Value),cs.length=o+len->(∀p∈fs,∃fuel x,DataW.trod tok P W 0 spare held fuel p.2 ((cs.drop p.1).take (P.cellsOf p.2))=some x)->∃a,sZ (Mn W) W (enc a) (cs.drop o)
theorem Gz.nil{o:Nat}:Gz P [] o 0 (λ_:Unit=>[]):=by
 intro H tok W spare held cs hl _;rw[List.drop_of_length_le (by omega)];exact⟨(),.nil⟩
theorem Gz.cons{fs:List (Nat×TypeId)}(o n len:Nat){t:TypeId}{α β:Type}{enc:α->List SV}{KM:β->List SV}(hn:P.cellsOf t=n)(h:Fk P t enc)(hs:Gz P fs (o+n) len KM):Gz P ((o,t) :: fs) o (n+len) (λx:α×β=>enc x.1++KM x.2):=by
 intro H tok W spare held cs hl hx;obtain⟨fuel,x,h1⟩:=hx (o,t) (QY ..);simp only[hn]at h1;obtain⟨a,ha⟩:=h H tok W _ _ _ _ _ h1;obtain⟨b,hb⟩:=hs H tok W spare held cs (by omega) λp hp=>hx p (QX _ hp);refine⟨(a,b),?_⟩;have e:cs.drop o=(cs.drop o).take n++cs.drop (o+n):=by rw[<-UR,UY]
 rw[e];exact ha.app hb
theorem Fk.struct{t:TypeId}{fields:Array Field}{fs:List (Nat×TypeId)}{len:Nat}{α:Type}{enc:α->List SV}(ht:P.underlying t=some (.struct fields))(CA:(fields.toList.map λf=>(f.offset,f.type))=fs)(hlen:P.cellsOf t=len)(h:Gz P fs 0 len enc):Fk P t enc:=by
 intro H tok W spare held fuel cs x hx;obtain⟨xs,n,_,_,hl,mQ,hf⟩:=DataW.trod_struct ht hx;have:=h H tok W spare held cs (by omega) λp hp=>?_
 .simpa using this
 .rw[<-CA,List.mem_map]at hp
  obtain⟨f,oP,rfl⟩:=hp;obtain⟨i,hi,iL⟩:=List.mem_iff_getElem.1 oP;have vW:i<fields.size:=by simpa using hi
  have:=hf i f (by rw[<-iL];simp[vW]);rw[QA (by omega)]at this;exact⟨n,_,this⟩
theorem dc{gl:List (Nat×SV)}{f:FuncId}{RV:List SV}{W:World}{args:List Value}(h:Em P gl f RV [] (.bool (.a true)) [])
  (vX:∀g s,look g gl=some s->RO (Mn W) W s (.pointer (some ⟨g,0,none⟩))/\g<W.heap.size/\Mx W g s) (hl:RV.length=args.length) (hr:∀(i:Nat) (s:SV) (v:Value),RV[i]?=some s->args[i]?=some v->RO (Mn W) W s v):
  Calls P f ⟨args⟩ W λe W'=>e=.returned (.bool true)/\Below W.heap.size W W':=by
 refine (h ⟨W,λ_=>False,Mn W,λ_=>none,λ_=>none,λ_=>none,[]⟩ ⟨λ_=>none,λ_=>none,λ_=>none,λ_=>none,λ_=>none,Mn W⟩ W args rfl (λ_ _ h=>h) (λ_ h=>absurd h (by simp)) ⟨rfl,rfl,rfl,QK _,λ_ _ _=>rfl,λ_ _ h=>⟨h,rfl⟩,λ_ _ h=>h,λ_ _ h=>.inl h,λ_ _ h=>(by cases h),⟨λ_ _ h=>(by cases h),λ_ _ h=>(by cases h),λ_ _ h=>(by cases h)⟩⟩ (λg s h=>⟨(vX g s h).1,(vX g s h).2.1,λh=>h,(vX g s h).2.2⟩) (λh=>?_) ⟨hl,λi s v a b=>.ro (hr i s v a b)⟩).mono λe W' hq=>?_
 .simp only[Ap,nth]
  exact⟨rfl,rfl,rfl,rfl⟩
 .obtain⟨v,E',rfl,hb,_,hv⟩:=hq
  rw[hv.bG];exact⟨rfl,⟨hb.os,hb.tape,hb.output,hb.size,λk hk=>hb.old k hk (λh=>h)⟩⟩
section
variable {H:Type} {enc:TypeId×Value->H}
theorem Xd{f:Func}{s:ChangeSpec}{apart fresh handsOn again:Bool}{W W':World}{args:Array Value}{v:Value}{ds gs:List (DataW H)}{before pa pv:List MemPlace}
  (hW:DataW.Whole enc P f.params.toList s.vars apart W args.toList ds gs before)
  (kU:∀(b:Nat) (sp:Nat->Bool) (hd:Bool),DataW.TrodAll enc P W' b sp hd f.resultTypes.toList (v.resultList f.resultTypes.size) (s.fn H (ds++gs)).results [])
  (eQ:∀sp:Nat->Bool,(∀p∈before,sp p.block=true)->DataW.TrodAll enc P W' 0 sp true f.params.toList args.toList (s.fn H (ds++gs)).args pa)
  (oz:∀sp:Nat->Bool,(∀p∈before,sp p.block=true)->DataW.TrodVars enc P W' sp s.vars (s.fn H (ds++gs)).vars pv)
  (ep:before=pa++pv) (hb:Below W.heap.size W W')
  (nX:∀(j:Nat) (t:TypeId) (r:Value),f.resultTypes[j]?=some t->(v.resultList f.resultTypes.size)[j]?=some r->Value.okWide P W' .any 0 t r):
  s.post enc P f apart fresh handsOn again W args v W':=by
 have aA:∀p∈before,p.block<W.heap.size:=λp hp=>hW.lt p hp;have hold:∀p∈before,(λb=>decide (b<W.heap.size)) p.block=true:=λp hp=>by simpa using aA p hp
 refine⟨ds,gs,before,[],pa,pv,hW,kU _ _ _,eQ _ hold,oz _ hold,World.keptBut_mono (λp hp=>⟨hp,?_⟩) (hb.frame (·∈before)),λ_=>?_⟩
 .rw[ep,YH]at hp
  exact Or.inr hp
 .obtain⟨_,_,_,_,_,hz,hn⟩:=hW
  refine⟨nX,_,_,([]++pa)++pv,⟨[]++pa,pv,trodAll_append (eQ _ (λ_ _=>rfl)) (kU _ _ _),oz _ (λ_ _=>rfl),rfl,?_,?_⟩,?_⟩
  .intro b off hp
   have eT:MemPlace.cell b off∈before:=by rw[ep];simpa using hp
   rw[hb.frozen (aA _ eT)];exact hz b off eT
  .intro ha
   have:=hn ha;rw[ep]at this;simpa using this
  .intro p hp _
   rw[ep];simpa using hp
theorem Mq(hl:laidOutB P=true){W W':World}{sp:Nat->Bool}(hb:Below W.heap.size W W'):∀ {ts:List TypeId} {vs:List Value} {ds:List (DataW H)} {ps:List MemPlace},(∀t∈ts,P.readableRec t=true/\t<P.types.size)->
  DataW.TrodAll enc P W 0 (λ_=>true) true ts vs ds ps->(∀p∈ps,p.block<W.heap.size)->(∀p∈ps,sp p.block=true)->DataW.TrodAll enc P W' 0 sp true ts vs ds ps
 | [],[],[],_,_,h,_,_=>h
 |t :: ts,v :: vs,d :: ds,ps,ht,h,aA,hs=>by
  obtain⟨p,q,h1,h2,rfl⟩:=h;refine⟨p,q,WideElems.Trod_stays hl (ht t (QY ..)).1 (ht t (QY ..)).2 h1 (λx hx=>hb.same (aA x (List.mem_append_left _ hx))) (λx hx=>hs x (List.mem_append_left _ hx)),?_,rfl⟩;exact Mq hl hb (λt h=>ht t (QX _ h)) h2 (λx hx=>aA x (List.mem_append_right _ hx)) (λx hx=>hs x (List.mem_append_right _ hx))
 | [],_ :: _,_,_,_,h,_,_=>h.elim
 | [],[],_ :: _,_,_,h,_,_=>h.elim
 |_ :: _,[],_,_,_,h,_,_=>h.elim
 |_ :: _,_ :: _,[],_,_,h,_,_=>h.elim
theorem Anm(hl:laidOutB P=true){fn:Func}{s:ChangeSpec}{apart fresh handsOn again:Bool}{W W':World}{args:Array Value}{ds gs:List (DataW H)}{before:List MemPlace}{tb:TypeId}
  (vq:∀t∈fn.params.toList,P.readableRec t=true/\t<P.types.size) (hv:s.vars=[]) (kU:fn.resultTypes=#[tb]) (htb:P.underlying tb=some .bool)
  (hW:DataW.Whole enc P fn.params.toList s.vars apart W args.toList ds gs before) (oO:(s.fn H (ds++gs))={ results:=[.lit (.bool true)],args:=ds }) (hb:Below W.heap.size W W'):
  s.post enc P fn apart fresh handsOn again W args (.bool true) W':=by
 have hW':=hW;obtain⟨p,q,hA,hV,rfl,hz,hn⟩:=hW;have aA:∀x∈p++q,x.block<W.heap.size:=λx hx=>hW'.lt x hx;have hq:gs=[]/\q=[]:=by rw[hv]at hV;exact trodVars_none hV
 obtain⟨rfl,rfl⟩:=hq;refine Xd (pa:=p) (pv:=[]) hW' (λb sp hd=>?_) (λsp hs=>?_) (λsp hs=>?_) (by simp) hb (ok_one kU rfl (okWide_bool_mk htb _))
 .rw[oO,kU]
  exact trodAll_mk1 (shut_bool htb true)
 .rw[oO]
  exact Mq hl hb vq hA (λx hx=>aA x (by simp[hx])) (λx hx=>hs x (by simp[hx]))
 .rw[oO,hv]
  rfl
end
theorem lr{I:Nat->Nat->Prop}{W:World}{s:SV}{v:Value}(hn:∀a,v≠.agg a)(h:sZ I W [s] v.cells.toList):RO I W s v:=by
 cases v with
 |agg a=>exact absurd rfl (hn a)
 |_=>exact h.2.1 0 s _ rfl (by simp[Value.cells])
theorem Ai8{I:Nat->Nat->Prop}{W:World}{r:Reach}{base:Nat}{t:TypeId}{k:IntKind}{s:SV}{v:Value}(ht:P.underlying t=some (.int k))(hv:Value.okWide P W r base t v)(h:sZ I W [s] v.cells.toList):RO I W s v:=by
 obtain⟨n,rfl⟩:=okWide_int ht hv;exact lr (λ_ h=>by cases h) h
theorem Ahc{I:Nat->Nat->Prop}{W:World}{r:Reach}{base:Nat}{t:TypeId}{fs:Array Field}{cs:List SV}{v:Value}(ht:P.underlying t=some (.struct fs))(hv:Value.okWide P W r base t v)(h:sZ I W cs v.cells.toList):RO I W (.agg cs) v:=by
 obtain⟨a,rfl,_⟩:=okWide_struct ht hv;exact .agg (vs:=a.toList) h.1 h.2.1
end
end Go.Sx
namespace Go.Proofs.YtdoogdbjiijifaaGreatDoor
open Go Go.Sx Go.RowKit Go.Sort
set_option maxRecDepth 100000
set_option maxHeartbeats 2000000
theorem ec:Aw Tryz.prog [] 239 tp:=by
 refine⟨⟨Tryz.f239,_,Tryz.func239,rfl,by kernel_rfl⟩,λxs ls K h=>?_⟩;obtain⟨s,c,rfl,rfl,hc,h⟩:=h;refine⟨_,_,h _ rfl,C6 λE B w bB _ _ _ hr=>?_⟩;obtain⟨v,u,rfl,hv,hu⟩:=I4 hr;rw[Jx hv,Tj hu];refine (Kv ⟨s.toArray⟩ c w).mono ?_;rintro e w' ⟨rfl,rfl⟩;exact⟨_,rfl,λE=>.ro (.int rfl),Below.refl _ _⟩
def wO:aD:=λ_ xs ls K=>∃(s p:List UInt8),xs=[.str s,.str p]/\ls=[]/\∀r,r=Lib.hasPrefix s p->K (.bool (.a r)) []
theorem Ak1:Aw Tryz.prog gl 252 wO:=by
 refine⟨⟨Tryz.f252,_,Tryz.func252,rfl,by kernel_rfl⟩,λxs ls K h=>?_⟩;obtain⟨s,p,rfl,rfl,h⟩:=h;refine⟨_,_,h _ rfl,C6 λE B w bB _ _ _ hr=>?_⟩;obtain⟨v,u,rfl,hv,hu⟩:=I4 hr;rw[Jx hv,Jx hu];refine (Kw ⟨s.toArray⟩ ⟨p.toArray⟩ w).mono ?_;rintro e w' ⟨rfl,rfl⟩;exact⟨_,rfl,λE=>.ro (.bool rfl),Below.refl _ _⟩
theorem TC:Tryz.prog.globalNamed "internal/strconv.uint64pow10"=some 4:=by kernel_rfl
theorem oo:Tryz.prog.globalNamed "strconv.ErrRange"=some 3:=by kernel_rfl
theorem Al4{B:Bs}(hg:Ep B gl):Lib.TabIs Tryz.prog B.w0 "internal/strconv.uint64pow10" .u64 Lib.pow10Tab:=by
 obtain⟨h1,h2,h3,C,t,fr,h4,h5⟩:=hg 4 (.dP 20 1 Ut) rfl;unfold Lib.TabIs World.var?;rw[TC];simp only[YD,h4,Option.some.injEq]
 generalize hp:Value.pointer (some ⟨4,0,none⟩)=p at h1
 cases h1 with
 |dP g hs hl h1 aK aY =>
  cases hp;refine Array.ext (by rw[h5];simp[Lib.pow10Tab_length]) λi hi vW=>?_;rw[h5]at hi;have hc:=(aK i 0 (by omega) (by omega)).1;have hr:=aY i 0 (.int .u64 (.a (Lib.pow10Tab.getD i 0))) (by omega) rfl;have e:C[i]?=some (g i 0):=by
   rw[<-hc];simp[World.cell?,h4]
  rw[XP (by omega)]at e;have e2:g i 0=.int .u64 (Lib.pow10Tab.getD i 0):=by
   generalize g i 0=v at hr
   cases hr with
   |int h=>rw[<-h];rfl
  rw[e2]at e;rw[Option.some.inj e];have WU:i<Lib.pow10Tab.length:=by rw[Lib.pow10Tab_length];omega
  simp[QA WU]
def tn:aD:=λ_ xs ls K=>∃(n:Int),xs=[.int .i64 (.a n)]/\ls=[]/\-9223372036854775808<=n/\n<=9223372036854775807/\∀r,r=Lib.itoa n->K (.str r) []
theorem Wp{w:World}{k:Nat}{os:Array Obj}:Below w.heap.size w (grow (w.drewN k) os):=by
 refine⟨rfl,rfl,rfl,?_,λj hj=>?_⟩
 .simp[grow,World.drewN]
 .show (w.heap++os)[j]?=w.heap[j]?
  rw[YB hj]
theorem du:Aw Tryz.prog gl 83 tn:=by
 refine⟨⟨Tryz.f83,_,Tryz.func83,rfl,by kernel_rfl⟩,λxs ls K h=>?_⟩;obtain⟨n,rfl,rfl,h0,h1,h⟩:=h;refine⟨_,_,h _ rfl,C6 λE B w bB hg hb hw hr=>?_⟩;obtain⟨v,rfl,hv⟩:=Acb hr;rw[Tj hv];refine (Sm n h0 h1 w (by rw[<-hw];exact Al4 hg)).mono ?_;rintro e w' ⟨rfl,k,os,rfl⟩;exact⟨_,rfl,λE=>.ro (.str rfl),Wp⟩
def EW:aD:=λ_ xs ls K=>∃(n b:Int),xs=[.int .i64 (.a n),.int .i64 (.a b)]/\ls=[]/\-9223372036854775808<=n/\n<=9223372036854775807/\b=10/\∀r,r=Lib.itoa n->K (.str r) []
theorem ya:Aw Tryz.prog gl 289 EW:=by
 refine⟨⟨Tryz.f289,_,Tryz.func289,rfl,by kernel_rfl⟩,λxs ls K h=>?_⟩;obtain⟨n,b,rfl,rfl,h0,h1,rfl,h⟩:=h;refine⟨_,_,h _ rfl,C6 λE B w bB hg hb hw hr=>?_⟩;obtain⟨v,u,rfl,hv,hu⟩:=I4 hr;rw[Tj hv,Tj hu];refine (Ix n h0 h1 w (by rw[<-hw];exact Al4 hg)).mono ?_;rintro e w' ⟨rfl,k,os,rfl⟩;exact⟨_,rfl,λE=>.ro (.str rfl),Wp⟩
end Go.Proofs.YtdoogdbjiijifaaGreatDoor
namespace Go.Sx
open Go Go.ChangeShapes Go.WideShapes Go.RowKit
section
variable {P:Program}
end
open Go Go.RowKit
theorem Ak5{P:Program}{gl:List (Nat×SV)}{f:FuncId}{sp:aD}(NY:∀D xs ls K,sp D xs ls K->xs=[]/\ls=[]/\K (.bool (.a true)) [])(hg:W2 P f)(h:∀B:Bs,Ep B gl->Cv.Fact P B.w0.heap.size B.w0 f [] (.b true)):Aw P gl f sp :=
 ⟨hg,λys ls K hs=>by
  obtain⟨rfl,rfl,hk⟩:=NY _ _ _ _ hs;refine⟨_,_,hk,C6 λE B w bB vX hb xG hr=>?_⟩;have hv:bB=[]:=QQ hr.1.symm;subst hv;have hf:=h B vX;rw[xG]at hf;exact (Cv.xB hf).mono λe w' hq=>⟨_,hq.1,λE=>.ro (.bool rfl),hq.2⟩⟩
open Go
def AP:SV->Value->Bool
 |.int k (.a n),.int k' m=>decide (k=k')&&decide (n=m)
 |.bool (.l b),.bool c=>b==c
 |.str s,.string t=>decide (t.data.toList=s)
 |_,_=>false
def Vj:List SV->List Value->Bool
 | [],[]=>true
 |s :: ss,v :: vs=>AP s v&&Vj ss vs
 |_,_=>false
theorem Ani{I:Nat->Nat->Prop}{w:World}{s:SV}{v u:Value}(h:RO I w s u)(hl:AP s v=true):u=v:=by
 unfold AP at hl
 split at hl
 .simp only[QB,QN]at hl
  obtain⟨rfl,rfl⟩:=hl;cases h with|int h=>rw[<-h];rfl
 .have:=eq_of_beq hl
  subst this;cases h with|bool h=>rw[<-h];rfl
 .have:=QS hl
  subst this;cases h with|str h=>exact h
 .cases hl
theorem O0:∀ {ss:List SV} {vs:List Value},Vj ss vs=true->ss.length=vs.length/\∀(i:Nat) (s:SV),ss[i]?=some s->∃v,vs[i]?=some v/\AP s v=true
 | [],[],_=>⟨rfl,by simp⟩
 | [],_ :: _,h=>by cases h
 |_ :: _,[],h=>by cases h
 |s :: ss,v :: vs,h=>by
  have h:(AP s v&&Vj ss vs)=true:=h;rw[QB]at h;obtain⟨a,b⟩:=O0 h.2;refine⟨by simp[a],λi s' hi=>?_⟩;cases i with
  |zero=>simp at hi;subst hi;exact⟨v,rfl,h.1⟩
  |succ i=>exact b i s' (by simpa using hi)
theorem My{w:World}{g:Nat}{vs:List Value}{cs:List Cv.CV}(aV:0<vs.length)(h:∀(i:Nat) (u:Value),vs[i]?=some u->w.cell? ⟨g,i,none⟩=some u)(hc:Cv.lA cs vs=true):
  ∃arr fz us,w.heap[g]?=some (.cells arr (Cv.wD w g) fz)/\Cv.cF (λ_ _=>none) cs us/\(∀u∈us,u.oneCell'=true)/\∀(i:Nat) (u:Value),us[i]?=some u->arr[i]?=some u:=by
 obtain⟨q1,q2⟩:=Cv.oV (ι:=λ_ _=>none) hc;have h0:=h 0 _ (QA aV);unfold World.cell? at h0;cases hh:w.heap[g]? with
 |none=>simp[hh]at h0
 |some b =>
  cases b with
  |cells arr ty fz =>
   refine⟨arr,fz,vs,by unfold Cv.wD;rw[hh],q1,q2,λi u hu=>?_⟩;have:=h i u hu;simpa[World.cell?,hh] using this
  |_=>simp[hh]at h0
theorem Aak{B:Bs}{gl:List (Nat×SV)}{g:Nat}{ss:List SV}{vs:List Value}{cs:List Cv.CV}(h:Ep B gl)(hl:look g gl=some (.dB ss))(hs:Vj ss vs=true)(aV:0<vs.length)(hc:Cv.lA cs vs=true):
  g<B.w0.heap.size/\∃arr fz us,B.w0.heap[g]?=some (.cells arr (Cv.wD B.w0 g) fz)/\Cv.cF (λ_ _=>none) cs us/\(∀u∈us,u.oneCell'=true)/\∀(i:Nat) (u:Value),us[i]?=some u->arr[i]?=some u:=by
 obtain⟨eW,aA,_,_⟩:=h g _ hl;refine⟨aA,My aV (λi u hu=>?_) hc⟩;obtain⟨e1,e2⟩:=O0 hs;have hi:i<ss.length:=by rw[e1];exact (List.getElem?_eq_some_iff.1 hu).1
 obtain⟨v,hv,hb⟩:=e2 i _ (QA hi);rw[hu]at hv;cases hv;cases eW with
 |dB g' cJ h1 aK aY =>
  have h5:=(aK i hi).1;have h6:=Ani (aY i _ (QA hi)) hb;rw[h6]at h5;simpa using h5
theorem Cn{f:Nat->List SV}(h1:∀i,(f i).length=1):∀m,((List.range m).flatMap f).length=m
 |0=>rfl
 |m+1=>by rw[List.range_succ,List.flatMap_append,QW,Cn h1 m];simp[h1]
theorem V4{f:Nat->List SV}(h1:∀i,(f i).length=1):∀ {m k:Nat},k<m->((List.range m).flatMap f)[k]?=(f k)[0]?
 |0,k,hk=>by omega
 |m+1,k,hk=>by
  rw[List.range_succ,List.flatMap_append]
  by_cases e:k<m
  .rw[QJ (by rw[Cn h1];exact e)];exact V4 h1 e
  .rw[QU (by rw[Cn h1];omega),Cn h1]
   obtain rfl:k=m:=by omega
   simp
theorem Aal{B:Bs}{gl:List (Nat×SV)}{g n:Nat}{f:Nat->List SV}{vs:List Value}{cs:List Cv.CV}(h:Ep B gl)(hl:look g gl=some (.dP n 1 f))(hs:Vj ((List.range n).flatMap f) vs=true)(h1:∀i,(f i).length=1)(aV:0<vs.length)(hc:Cv.lA cs vs=true):
  g<B.w0.heap.size/\∃arr fz us,B.w0.heap[g]?=some (.cells arr (Cv.wD B.w0 g) fz)/\Cv.cF (λ_ _=>none) cs us/\(∀u∈us,u.oneCell'=true)/\∀(i:Nat) (u:Value),us[i]?=some u->arr[i]?=some u:=by
 obtain⟨eW,aA,_,_⟩:=h g _ hl;refine⟨aA,My aV (λi u hu=>?_) hc⟩;obtain⟨e1,e2⟩:=O0 hs;have pJ:=λm k=>V4 h1 (m:=m) (k:=k);have hlen:=Cn h1 n;have hi:i<n:=by rw[<-hlen,e1];exact (List.getElem?_eq_some_iff.1 hu).1
 have h0:(f i)[0]?=some ((f i)[0]'(by rw[h1];omega)):=QA _;obtain⟨v,hv,hb⟩:=e2 i _ ((pJ n i hi).trans h0);rw[hu]at hv;cases hv;cases eW with
 |dP g' cJ HP h1' aK aY =>
  have h5:=(aK i 0 hi (by omega)).1;have h6:=Ani (aY i 0 _ hi h0) hb;rw[h6]at h5;simpa using h5
theorem Anh{I:Nat->Nat->Prop}{w:World}{s:SV}{v:Value}(hl:AP s v=true):RO I w s v:=by
 unfold AP at hl
 split at hl
 .simp only[QB,QN]at hl
  obtain⟨rfl,rfl⟩:=hl;exact .int rfl
 .have:=eq_of_beq hl
  subst this;exact .bool rfl
 .have:=QS hl
  subst this;exact .str rfl
 .cases hl
theorem Zw{P:Program}{nm:String}{d:DataW Unit}{r:List (String×DataW Unit)}{W:World}{g t:Nat}{vs:List Value}{ss:List SV}(h:laidMet P ((nm,d) :: r) W)(hg:P.globalNamed nm=some g)(ht:(P.globals[g]?).map (·.type)=some t)(hf:Cv.kK P 10 t d=some vs)(h1:vs.all (·.oneCell')=true)(hs:Vj ss vs=true):
  RO (Mn W) W (.dB ss) (.pointer (some ⟨g,0,none⟩))/\g<W.heap.size/\Mx W g (.dB ss):=by
 obtain⟨arr,ty,fz,hh,ha⟩:=Cv.oI h hg ht hf;have aA:g<W.heap.size:=(Array.getElem?_eq_some_iff.1 hh).1;obtain⟨e1,e2⟩:=O0 hs;have aU:∀i,i<vs.length->vs[i]?=some (vs.getD i undef):=λi hi=>by
  rw[QC,QA hi];rfl
 refine⟨.dB (λj=>vs.getD j undef) rfl (λj hj=>List.all_eq_true.1 h1 _ (QF (aU j (by omega)))) (λj hj=>⟨?_,aA⟩) (λj s hj=>?_),aA,trivial⟩
 .have:=aU j (by omega)
  rw[<-ha,QG,ha]at this;simp[World.cell?,hh,this]
 .obtain⟨v,hv,hb⟩:=e2 j s hj
  rw[QC,hv];exact Anh hb
theorem Z2{P:Program}{nm:String}{d:DataW Unit}{r:List (String×DataW Unit)}{W:World}{g t n:Nat}{vs:List Value}{f:Nat->List SV}(h:laidMet P ((nm,d) :: r) W)(hg:P.globalNamed nm=some g)(ht:(P.globals[g]?).map (·.type)=some t)(hf:Cv.kK P 10 t d=some vs)(h1:vs.all (·.oneCell')=true)(hl:∀i,(f i).length=1)(hs:Vj ((List.range n).flatMap f) vs=true):
  RO (Mn W) W (.dP n 1 f) (.pointer (some ⟨g,0,none⟩))/\g<W.heap.size/\Mx W g (.dP n 1 f):=by
 obtain⟨arr,ty,fz,hh,ha⟩:=Cv.oI h hg ht hf;have aA:g<W.heap.size:=(Array.getElem?_eq_some_iff.1 hh).1;obtain⟨e1,e2⟩:=O0 hs;rw[Cn hl]at e1;have aU:∀i,i<vs.length->vs[i]?=some (vs.getD i undef):=λi hi=>by
  rw[QC,QA hi];rfl
 refine⟨.dP (λi _=>vs.getD i undef) rfl (λi _=>hl i) (λi j hi hj=>List.all_eq_true.1 h1 _ (QF (aU i (by omega)))) (λi j hi hj=>⟨?_,aA⟩) (λi j s hi hs=>?_),aA,arr,ty,fz,hh,?_⟩
 .have e:0+(i * 1+j)=i:=by omega
  show W.cell? ⟨g,0+(i * 1+j),none⟩=_;rw[e];have:=aU i (by omega);rw[<-ha,QG,ha]at this;simp[World.cell?,hh,this]
 .have hj:j<1:=by rw[<-hl i];exact (List.getElem?_eq_some_iff.1 hs).1
  obtain rfl:j=0:=by omega
  obtain⟨v,hv,hb⟩:=e2 i s ((V4 hl hi).trans hs);rw[QC,hv];exact Anh hb
 .rw[<-UN,ha,<-e1,VS]
end Go.Sx
namespace Go.Proofs.YtdoogdbjiijifaaGreatDoor
open Go Go.Sx Go.ChangeShapes Go.WideShapes Go.RowKit
theorem TE:ownKnob Tryz.prog.godebug=none:=by kernel_rfl
theorem Anq:laidOutB Tryz.prog=true:=by kernel_rfl
theorem Alc(os:Os):(World.holding Tryz.prog os ⟨#[],#[],[]⟩).layFits Tryz.prog Lb []=true:=by kernel_rfl
theorem Aeg(os:Os):(World.holding Tryz.prog os ⟨#[],#[],[]⟩).layIfaces Tryz.prog Lb (World.laidAll Tryz.prog os Lb)=true:=by kernel_rfl
theorem Aox(os:Os)(args:Array Value):laidMetH Tryz.prog Lb ((World.laidAll Tryz.prog os Lb).forCall (λ_ _=>0) ⟨#[],args,[]⟩).memory:=by
 rw[MakeChecks.laidMetH_plain _ _ _ (by kernel_rfl)];exact laidMet_laidAll _ (Alc os) (Aeg os)
def mv:List Value:=[.string ⟨#[71,69,84]⟩,.bool true,.bool true,.bool true,.string ⟨#[72,69,65,68]⟩,.bool true,.bool true,.bool true,.string ⟨#[79,80,84,73,79,78,83]⟩,.bool true,.bool true,.bool false,
 .string ⟨#[84,82,65,67,69]⟩,.bool true,.bool true,.bool true,.string ⟨#[80,85,84]⟩,.bool false,.bool true,.bool false,.string ⟨#[68,69,76,69,84,69]⟩,.bool false,.bool true,.bool false]
def pv:List Value:=Lib.pow10Tab.map λn=>.int .u64 n
theorem kC9:Tryz.prog.cellsOf 9=1:=by kernel_rfl
theorem FV:(Tryz.prog.globals[3]?).map (·.type)=some 157:=by kernel_rfl
theorem FW:Tryz.prog.cellsOf 305=1:=by kernel_rfl
theorem om:"*"++"errors.errorString"="*errors.errorString":=by decide
theorem dj(u:TypeId)(h:Tryz.prog.typeName? 3 u=some "*errors.errorString"):u=303 :=
 typeName_ptr_named (nm:="errors.errorString") (by rw[om];kernel_rfl) (by kernel_rfl) (by decide) u (by rw[om];exact h)
theorem JP{W:World}(h:laidMetH Tryz.prog Lb W):∀g s,Sx.look g yU=some s->RO (Mn W) W s (.pointer (some ⟨g,0,none⟩))/\g<W.heap.size/\Mx W g s:=by
 rw[MakeChecks.laidMetH_plain _ _ _ (by kernel_rfl)]at h;have lm:=Zw (W:=W) (t:=266) (vs:=mv) (ss:=K5) h.tail.tail.tail.tail.tail.tail (show Tryz.prog.globalNamed "spillway/request.methods"=some 1 by kernel_rfl) (by kernel_rfl) (by kernel_rfl) (by kernel_rfl) (by kernel_rfl)
 have lp:=Z2 (W:=W) (t:=284) (n:=20) (vs:=pv) (f:=Ut) h.tail.tail (show Tryz.prog.globalNamed "internal/strconv.uint64pow10"=some 4 by kernel_rfl) (by kernel_rfl) (by kernel_rfl) (by kernel_rfl) (λ_=>rfl) (by kernel_rfl)
 obtain⟨ea,es,zT,_,_,_⟩:=laid_sentinel h.tail.tail.tail.tail oo FV Tryz.underlying157 dj Tryz.underlying303 Tryz.underlying305 rfl rfl Tryz.underlying9 FW kC9;intro g s hs;simp only[Sx.look,yU]at hs
 split at hs
 .rename_i e
  have e:1=g:=by simpa using e
  subst e;cases hs;exact lm
 split at hs
 .rename_i e
  have e:3=g:=by simpa using e
  subst e;cases hs;unfold World.var? at zT;rw[oo]at zT;simp only[YD]at zT
  split at zT
  .rename_i cs t fr hc
   have cV:=Option.some.inj zT;subst cV;have aA:3<W.heap.size:=(Array.getElem?_eq_some_iff.1 hc).1;refine⟨.dP (λ_ _=>.iface 303 (.pointer (some ea))) rfl (λi _=>rfl) (λi j _ _=>rfl) (λi j hi hj=>⟨?_,aA⟩) (λi j s hi hs=>?_),aA,_,t,fr,hc,rfl⟩
   .obtain rfl:i=0:=by omega
    obtain rfl:j=0:=by omega
    simp[World.cell?,hc]
   .match j,hs with
    |0,hs =>
     have hs:some (SV.ifc (.l false))=some s:=hs;cases hs;exact .ifc (.inr ⟨⟨_,_,rfl⟩,rfl⟩)
    |_+1,hs=>simp[Agv]at hs
  .cases zT
 split at hs
 .rename_i e
  have e:4=g:=by simpa using e
  subst e;cases hs;exact lp
 .cases hs
end Go.Proofs.YtdoogdbjiijifaaGreatDoor
namespace Go.Sx
open Go Go.ChangeShapes Go.WideShapes Go.RowKit
section
variable {P:Program}
theorem Fk.tx{t e:TypeId}{α:Type}{sz:Nat}{enc:α->List SV}(ht:P.underlying t=some (.slice e))(hz:P.cellsOf e=sz)(h0:0<sz)(he:Fk P e enc):Fk P t (λx:{x:Bool×List α // x.2.length<=maxLen/\(x.1=true->x.2=[])}=>rZ sz enc x.1):=by
 intro H tok W spare held fuel cs x h;rcases DataW.trod_slice ht h with⟨rfl,_⟩|⟨a,len,cap,elems,rest,n,_,rfl,_,_,hle,dH,hlen,vE,_,_⟩
 .exact⟨⟨(true,[]),ZD _,λ_=>rfl⟩,.one (.slnil rfl rfl) rfl⟩
 .rw[hz]at vE
  have key:∀i,i<len->∃(al:α) (vs:List Value),sZ (Mn W) W (enc al) vs/\vs.length=sz/\∀j,j<sz->W.cell? ((a.add (i * sz)).add j)=vs[j]?:=by
   intro i hi;have h1:=vE i hi;rw[QA (by omega)]at h1;cases hc:W.cells? 0 (a.add (i * sz)) sz with
   |none=>rw[hc]at h1;cases h1
   |some vs =>
    rw[hc]at h1;obtain⟨al,jB⟩:=he H tok W _ _ _ vs _ h1;have hg:=Alj hc;exact⟨al,vs,jB,hg.1,hg.2⟩
  have gen:∀len:Nat,(∀i,i<len->∃(al:α) (vs:List Value),sZ (Mn W) W (enc al) vs/\vs.length=sz/\∀j,j<sz->W.cell? ((a.add (i * sz)).add j)=vs[j]?)->∃(l:List α) (g:Nat->Nat->Value),l.length=len/\∀i al,l[i]?=some al->(enc al).length=sz/\(∀j,j<sz->W.cell? ((a.add (i * sz)).add j)=some (g i j)/\(g i j).oneCell'=true)/\∀j s,(enc al)[j]?=some s->RO (Mn W) W s (g i j):=by
   clear key vE hlen dH hle h;intro len key
   induction len with
   |zero=>exact⟨[],λ_ _=>undef,rfl,by simp⟩
   |succ len ih =>
    obtain⟨l,g,hl,hg⟩:=ih (λi hi=>key i (by omega));obtain⟨al,vs,k1,k2,k3⟩:=key len (by omega);refine⟨l++[al],λi j=>if i=len then vs.getD j undef else g i j,by simp[hl],λi al' hi=>?_⟩;rw[YC]at hi
    split at hi
    .rename_i aA
     have aV:i≠len:=by omega
     obtain⟨g1,g2,g3⟩:=hg i al' hi;exact⟨g1,λj hj=>by simpa only[QD aV] using g2 j hj,λj s hs=>by simpa only[QD aV] using g3 j s hs⟩
    .rename_i aA
     have BV:i=len:=by
      have:=(List.getElem?_eq_some_iff.1 hi).1;simp at this;omega
     subst BV;have h00:i-l.length=0:=by omega
     rw[h00]at hi;simp at hi;subst hi;refine⟨by rw[k1.1,k2],λj hj=>?_,λj s hs=>?_⟩
     .simp only[QE]
      have HX:vs[j]?=some vs[j]:=QA (by omega);rw[k3 j hj,HX];simp only[QC,HX,XB,true_and];exact k1.2.2 _ (XQ _)
     .simp only[QE]
      have hjl:j<vs.length:=by rw[<-k1.1];exact (List.getElem?_eq_some_iff.1 hs).1
      have HX:vs[j]?=some vs[j]:=QA hjl;simp only[QC,HX,XB];exact k1.2.1 j s _ hs HX
  obtain⟨l,g,hl,hg⟩:=gen len key;have qM:0<len->a.spot=none:=λmR=>by
   obtain⟨al,jB⟩:∃al,l[0]?=some al:=⟨_,QA (by omega)⟩;obtain⟨_,g2,_⟩:=hg 0 al jB;have:=(g2 0 h0).1;obtain⟨b,o,sp⟩:=a;simp only[VF,Addr.add,QE]at this;exact (Aiy this).2
  refine⟨⟨(false,l),by simp only[hl];omega,λh=>by cases h⟩,.one (.sl g rfl (by simp[ST.den,hl]) hle dH qM (λi hi=>?_) (λi j hi hj=>?_) (λi j hi hj=>?_) (λi j s hi hs=>?_)) rfl⟩
  .obtain⟨al,jB⟩:∃al,l[i]?=some al:=⟨_,QA (by omega)⟩
   simp only[P6,jB];exact (hg i al jB).1
  .obtain⟨al,jB⟩:∃al,l[i]?=some al:=⟨_,QA (by omega)⟩
   exact ((hg i al jB).2.1 j hj).2
  .obtain⟨al,jB⟩:∃al,l[i]?=some al:=⟨_,QA (by omega)⟩
   have hc:=((hg i al jB).2.1 j hj).1;have e:(a.add (i * sz)).add j=⟨a.block,a.off+(i * sz+j),none⟩:=by
    have hs:=qM (by omega);obtain⟨b,o,sp⟩:=a;simp only at hs;subst hs;simp only[add_lit];congr 1;omega
   rw[e]at hc;exact⟨hc,(Aiy hc).1⟩
  .obtain⟨al,jB⟩:∃al,l[i]?=some al:=⟨_,QA (by omega)⟩
   simp only[P6,jB]at hs;exact (hg i al jB).2.2 j s hs
end
end Go.Sx
namespace Go.Proofs.YtdoogdbjiijifaaGreatDoor
open Go Go.Sx
set_option maxHeartbeats 8000000
def Dq(s:List UInt8):Bool:=decide (s.length<=16)&&Cc s
def C9(p:List UInt8->Bool):aD:=λ_ xs ls K=>∃(s:List UInt8),xs=[.str s]/\ls=[]/\s.length<=9223372036854775807/\∀r,r=p s->K (.bool (.a r)) []
theorem Adh:Aw Tryz.prog gl 197 (C9 Dq):=by
 refine Bd (gh:=[]) mixed Be (Ab N9 Ai) Tryz.func197 (by kernel_rfl) (by kernel_rfl) ?_;intro xs ls K h;unfold C9 at h;obtain⟨s,rfl,rfl,hs,h⟩:=h;obtain⟨k,hk⟩:∃k,k=Dq s:=⟨_,rfl⟩;refine⟨_,_,h k hk,λD hD=>?_⟩;clear h;cbv;refine⟨s,rfl,rfl,hs,λt ht=>?_⟩;cbv;refine Al hD ?_;rw[hk,Dq,<-ht];have:decide ((s.length:Int)<=16)=decide (s.length<=16):=by rw[decide_eq_decide];omega
 rw[<-this];rfl
def r9(t:List UInt8):Bool:=t==[104,111,115,116]||(t==[120,45,114,101,113,117,101,115,116,45,105,100]||(t==[99,111,110,116,101,110,116,45,108,101,110,103,116,104]||t==[116,114,97,110,115,102,101,114,45,101,110,99,111,100,105,110,103]))
theorem Anr:Aw Tryz.prog gl 255 (C9 λs=>r9 (Bg s)):=by
 refine Bd (gh:=[]) mixed Be (Ab Pg Ai) Tryz.func255 (by kernel_rfl) (by kernel_rfl) ?_;intro xs ls K h;unfold C9 at h;obtain⟨s,rfl,rfl,hs,h⟩:=h;obtain⟨k,hk⟩:∃k,k=r9 (Bg s):=⟨_,rfl⟩;refine⟨_,_,h k hk,λD hD=>?_⟩;clear h;cbv;refine⟨s,rfl,rfl,hs,λt ht=>?_⟩;have ht:t=Bg s:=ht;rw[<-ht]at hk;clear ht;unfold r9 at hk;cbv;refine br hD (λh=>?_) (λh=>?_)<;>cbv
 .have h1:(t==[104,111,115,116])=true:=h
  refine Al hD ?_;rw[hk,h1];simp
 have h1:(t==[104,111,115,116])=false:=h;rw[h1,UM]at hk;clear h h1;refine br hD (λh=>?_) (λh=>?_)<;>cbv
 .have h1:(t==[120,45,114,101,113,117,101,115,116,45,105,100])=true:=h
  refine Al hD ?_;rw[hk,h1];simp
 have h1:(t==[120,45,114,101,113,117,101,115,116,45,105,100])=false:=h;rw[h1,UM]at hk;clear h h1;refine br hD (λh=>?_) (λh=>?_)<;>cbv
 .have h1:(t==[99,111,110,116,101,110,116,45,108,101,110,103,116,104])=true:=h
  refine Al hD ?_;rw[hk,h1];simp
 have h1:(t==[99,111,110,116,101,110,116,45,108,101,110,103,116,104])=false:=h;rw[h1,UM]at hk;clear h h1;refine br hD (λh=>?_) (λh=>?_)<;>cbv
 .have h1:(t==[116,114,97,110,115,102,101,114,45,101,110,99,111,100,105,110,103])=true:=h
  refine Al hD ?_;rw[hk,h1];simp
 have h1:(t==[116,114,97,110,115,102,101,114,45,101,110,99,111,100,105,110,103])=false:=h;rw[h1]at hk;clear h h1;refine Al hD ?_;rw[hk];rfl
def Md:List UInt8:=[97,98,99,100,101,102,103,104,105,106,107,108,109,110,111,112,113,114,115,116,117,118,119,120,121,122,48,49,50,51,52,53,54,55,56,57,45,46,58]
def O7(s:List UInt8):Bool:=s != []&&(decide (s.length<=100)&&(Lib.trimS s Md==[]))
theorem Aks:Aw Tryz.prog gl 199 (C9 O7):=by
 refine Bd (gh:=[]) mixed Be (Ab P0 Ai) Tryz.func199 (by kernel_rfl) (by kernel_rfl) ?_;intro xs ls K h;unfold C9 at h;obtain⟨s,rfl,rfl,hs,h⟩:=h;obtain⟨k,hk⟩:∃k,k=O7 s:=⟨_,rfl⟩;refine⟨_,_,h k hk,λD hD=>?_⟩;clear h;cbv;refine⟨s,Md,rfl,rfl,hs,by decide,by decide,λt ht=>?_⟩;cbv;refine Al hD ?_;rw[hk,O7,<-ht];have:decide ((s.length:Int)<=100)=decide (s.length<=100):=by rw[decide_eq_decide];omega
 rw[<-this,<-Bool.and_assoc];rfl
def ttM:List (Nat×TI):=[
 (3,⟨.int .i64,1,8,[.int .i64 (.l 0)]⟩),
 (4,⟨.bool,1,1,[.bool (.l false)]⟩),
 (9,⟨.string,1,16,[.str []]⟩),
 (28,⟨.int .i64,1,8,[.int .i64 (.l 0)]⟩),
 (265,⟨.struct [(0,9),(1,4),(2,4),(3,4)],4,24,[.str [],.bool (.l false),.bool (.l false),.bool (.l false)]⟩),
 (266,⟨.array 6 265,24,144,[.str [],.bool (.l false),.bool (.l false),.bool (.l false),.str [],.bool (.l false),.bool (.l false),.bool (.l false),.str [],.bool (.l false),.bool (.l false),.bool (.l false),.str [],.bool (.l false),.bool (.l false),.bool (.l false),.str [],.bool (.l false),.bool (.l false),.bool (.l false),.str [],.bool (.l false),.bool (.l false),.bool (.l false)]⟩)]
theorem tf:Sx.nc Tryz.prog ttM=true:=by kernel_rfl
theorem KO{fC:List (Nat×aD)}{gl:List (Nat×SV)}{gh:List (Nat×List Gh)}{its:List (Nat×(aD->aD))}{yl:List aD}:Az Tryz.prog ⟨dn,ttM,fC,gl,[],gh,its,yl⟩:=⟨rfl,tf,λ_ h=>(by cases h)⟩
def Sj(s:List UInt8):Bool:=if s=[71,69,84] then true else if s=[72,69,65,68] then true else if s=[79,80,84,73,79,78,83] then false else if s=[84,82,65,67,69] then true else if s=[80,85,84] then false else if s=[68,69,76,69,84,69] then false else false
theorem Akt:Aw Tryz.prog yU 201 (C9 Sj):=by
 refine Bd (gh:=[(999986,[.freeze 10])]) mixed KO Ai Tryz.func201 (by kernel_rfl) (by kernel_rfl) ?_;intro xs ls K h;unfold C9 at h;obtain⟨s,rfl,rfl,hs,h⟩:=h;obtain⟨k,hk⟩:∃k,k=Sj s:=⟨_,rfl⟩;refine⟨_,_,h k hk,λD hD=>?_⟩;clear h;unfold Sj at hk;cbv;refine br hD (λh=>?_) (λh=>?_)<;>cbv
 .have h1:s=[71,69,84]:=by have h:([71,69,84]==s)=true:=h;exact (eq_of_beq h).symm
  refine Al hD ?_;rw[hk,QE h1];rfl
 have h1:¬s=[71,69,84]:=by have h:([71,69,84]==s)=false:=h;intro e;rw[e]at h;simp at h
 rw[QD h1]at hk;clear h h1;refine br hD (λh=>?_) (λh=>?_)<;>cbv
 .have h1:s=[72,69,65,68]:=by have h:([72,69,65,68]==s)=true:=h;exact (eq_of_beq h).symm
  refine Al hD ?_;rw[hk,QE h1];rfl
 have h1:¬s=[72,69,65,68]:=by have h:([72,69,65,68]==s)=false:=h;intro e;rw[e]at h;simp at h
 rw[QD h1]at hk;clear h h1;refine br hD (λh=>?_) (λh=>?_)<;>cbv
 .have h1:s=[79,80,84,73,79,78,83]:=by have h:([79,80,84,73,79,78,83]==s)=true:=h;exact (eq_of_beq h).symm
  refine Al hD ?_;rw[hk,QE h1];rfl
 have h1:¬s=[79,80,84,73,79,78,83]:=by have h:([79,80,84,73,79,78,83]==s)=false:=h;intro e;rw[e]at h;simp at h
 rw[QD h1]at hk;clear h h1;refine br hD (λh=>?_) (λh=>?_)<;>cbv
 .have h1:s=[84,82,65,67,69]:=by have h:([84,82,65,67,69]==s)=true:=h;exact (eq_of_beq h).symm
  refine Al hD ?_;rw[hk,QE h1];rfl
 have h1:¬s=[84,82,65,67,69]:=by have h:([84,82,65,67,69]==s)=false:=h;intro e;rw[e]at h;simp at h
 rw[QD h1]at hk;clear h h1;refine br hD (λh=>?_) (λh=>?_)<;>cbv
 .have h1:s=[80,85,84]:=by have h:([80,85,84]==s)=true:=h;exact (eq_of_beq h).symm
  refine Al hD ?_;rw[hk,QE h1];rfl
 have h1:¬s=[80,85,84]:=by have h:([80,85,84]==s)=false:=h;intro e;rw[e]at h;simp at h
 rw[QD h1]at hk;clear h h1;refine br hD (λh=>?_) (λh=>?_)<;>cbv
 .have h1:s=[68,69,76,69,84,69]:=by have h:([68,69,76,69,84,69]==s)=true:=h;exact (eq_of_beq h).symm
  refine Al hD ?_;rw[hk,QE h1];rfl
 have h1:¬s=[68,69,76,69,84,69]:=by have h:([68,69,76,69,84,69]==s)=false:=h;intro e;rw[e]at h;simp at h
 rw[QD h1]at hk;clear h h1;refine Al hD ?_;rw[hk];rfl
open Go Go.Sx Go.RowKit
set_option maxHeartbeats 2000000
theorem Aju{P:Program}{b:Bool}{gl:List (Nat×SV)}{f:FuncId}{xs:List SV}{W:World}{args:List Value}(h:Em P gl f xs [] (.bool (.a b)) [])
  (vX:∀g s,Sx.look g gl=some s->RO (Mn W) W s (.pointer (some ⟨g,0,none⟩))/\g<W.heap.size/\Mx W g s) (hl:xs.length=args.length) (hr:∀(i:Nat) (s:SV) (v:Value),xs[i]?=some s->args[i]?=some v->RO (Mn W) W s v):
  Calls P f ⟨args⟩ W λe W'=>e=.returned (.bool b)/\Below W.heap.size W W':=by
 refine (h ⟨W,λ_=>False,Mn W,λ_=>none,λ_=>none,λ_=>none,[]⟩ ⟨λ_=>none,λ_=>none,λ_=>none,λ_=>none,λ_=>none,Mn W⟩ W args rfl (λ_ _ h=>h) (λ_ h=>absurd h (by simp)) ⟨rfl,rfl,rfl,QK _,λ_ _ _=>rfl,λ_ _ h=>⟨h,rfl⟩,λ_ _ h=>h,λ_ _ h=>.inl h,λ_ _ h=>(by cases h),⟨λ_ _ h=>(by cases h),λ_ _ h=>(by cases h),λ_ _ h=>(by cases h)⟩⟩ (λg s h=>⟨(vX g s h).1,(vX g s h).2.1,λh=>h,(vX g s h).2.2⟩) (λh=>?_) ⟨hl,λi s v a b=>.ro (hr i s v a b)⟩).mono λe W' hq=>?_
 .simp only[Ap,nth]
  exact⟨rfl,rfl,rfl,rfl⟩
 .obtain⟨v,E',rfl,hb,_,hv⟩:=hq
  rw[hv.bG];exact⟨rfl,⟨hb.os,hb.tape,hb.output,hb.size,λk hk=>hb.old k hk (λh=>h)⟩⟩
def Q8(x:Nat):Bool:=decide (x≠9)&&(decide (x<32)||decide (126<x))
def okB(c:UInt8):Bool:=decide (c.toNat=9)||(decide (32<=c.toNat)&&decide (c.toNat<=126))
def In(s:List UInt8):Bool:=s.all okB
def wH:aD:=λ_ xs ls K=>∃(x:Nat),xs=[.int .i32 (.a (x:Int))]/\ls=[]/\∀r,r=Q8 x->K (.bool (.a r)) []
theorem bk:Aw Tryz.prog [] 171 wH:=by
 refine Bd (gh:=[]) mixed Be Ai Tryz.func171 (by kernel_rfl) (by kernel_rfl) ?_;intro xs ls K h;unfold wH at h;obtain⟨x,rfl,rfl,h⟩:=h;obtain⟨k,hk⟩:∃k,k=Q8 x:=⟨_,rfl⟩;refine⟨_,_,h k hk,λD hD=>?_⟩;clear h;cbv;refine Al hD ?_;rw[hk];have e1:((x:Int)=9)↔x=9:=by omega
 have e2:((x:Int)<32)↔x<32:=by omega
 have e3:((126:Int)<x)↔126<x:=by omega
 simp only[BT.den,Bl,ST.den,Q8];rw[ZC];simp only[QB,ZB,bne_iff_ne,QN,Int.ofNat_eq_natCast];constructor
 .rintro⟨h1,h2⟩
  exact⟨λe=>h1 (e1.2 e),h2.imp (λe=>e2.1 (QS e)) (λe=>e3.1 (QS e))⟩
 .rintro⟨h1,h2⟩
  exact⟨λe=>h1 (e1.1 e),h2.imp (λe=>decide_eq_true (e2.2 e)) (λe=>decide_eq_true (e3.2 e))⟩
theorem Aie(c:UInt8):okB c=!Q8 c.toNat:=by
 unfold okB Q8
 by_cases h1:c.toNat=9<;>by_cases h2:c.toNat<32<;>by_cases h3:126<c.toNat<;>simp[h1,h2,h3]<;>omega
theorem Adi(s:ByteArray):∀(f pos:Nat),s.size<=pos+f->decide (0<=Lib.idxFuncFrom Q8 true s f pos)=!((s.data.toList.drop pos).all okB)
 |0,pos,h=>by
  have:s.data.toList.drop pos=[]:=XM (show s.data.toList.length<=pos from h);rw[this];rfl
 |f+1,pos,h=>by
  unfold Lib.idxFuncFrom
  by_cases hp:pos<s.size
  .have dS:pos<s.data.toList.length:=hp
   have hd:s.data.toList.drop pos=s[pos]'hp :: s.data.toList.drop (pos+1):=by
    rw[XY dS];rfl
   rw[QE hp,hd,List.all_cons]
   by_cases ha:(s[pos]'hp).toNat<128
   .rw[decode_ascii s pos hp ha]
    have ih:=Adi s f (pos+1) (by omega);have hb:=Aie (s[pos]'hp)
    by_cases hr:Q8 (s[pos]'hp).toNat=true
    .rw[QE hr,hb,hr];simp
    .rw[QD hr,hb,ih]
     simp only[Bool.not_eq_true]at hr;rw[hr];simp
   .obtain⟨d1,_⟩:=decode_high s pos hp (by omega)
    have hr:Q8 (Utf8.decode s pos).1=true:=by
     unfold Q8;simp;omega
    have hb:okB (s[pos]'hp)=false:=by
     rw[Aie];simp only[Q8];simp;omega
    rw[QE hr,hb];simp
  .rw[QD hp]
   have:s.data.toList.drop pos=[]:=XM (show s.data.toList.length<=pos from Nat.not_lt.1 hp);rw[this];rfl
def pZ:aD:=λ_ xs ls K=>∃(s:List UInt8),xs=[.str s]/\ls=[]/\∀r,r=In s->K (.bool (.a r)) []
def tq:aD:=λ_ xs ls K=>∃(s:List UInt8),xs=[.str s,.fn 171]/\ls=[]/\∀r,r=!In s->K (.bool (.a r)) []
theorem Alo:∀args w,(callFunc 171 args).run Tryz.prog w=.ok (.enter 171 args) w:=enters_of Tryz.func171 (by kernel_rfl) rfl
theorem Aft(w:World):PredGrows Tryz.prog 171 #[] Q8 w:=by
 intro W x _ _;obtain⟨r,aI,⟨hr,hl⟩,hc⟩:=bk.2 [.int .i32 (.a (x:Int))] [] (λr aI=>r=.bool (.a (Q8 x))/\aI=[]) ⟨x,rfl,rfl,λr hr=>by rw[hr];exact⟨rfl,rfl⟩⟩;subst hr hl;refine Aju (gl:=[]) hc (λg s h=>by simp[Sx.look]at h) (by simp[encR]) λi s v a b=>?_;cases i with
 |zero=>simp[encR]at a b;subst a b;exact .int rfl
 |succ i=>simp at a
theorem gk:Aw Tryz.prog gl 170 tq:=by
 refine⟨⟨Tryz.f170,_,Tryz.func170,rfl,by kernel_rfl⟩,λxs ls K h=>?_⟩;obtain⟨s,rfl,rfl,h⟩:=h;refine⟨_,_,h _ rfl,C6 λE B w bB _ _ _ hr=>?_⟩;obtain⟨v,g,rfl,hu,II⟩:=I4 hr;rw[Jx hu,II.sW];refine (F9 171 #[] Alo Q8 (Sx.bytes s) w (Aft w)).mono ?_;rintro e w' ⟨rfl,hB⟩;refine⟨_,rfl,λE=>.ro (.bool ?_),hB⟩;have:=Adi (Sx.bytes s) (Sx.bytes s).size 0 (by omega);show (!In s)=_;rw[Lib.idxFunc,this];rfl
theorem Akv:Aw Tryz.prog gl 120 pZ:=by
 refine Bd (gh:=[]) mixed Be (Ab gk Ai) Tryz.func120 (by kernel_rfl) (by kernel_rfl) ?_;intro xs ls K h;unfold pZ at h;obtain⟨s,rfl,rfl,h⟩:=h;obtain⟨k,hk⟩:∃k,k=In s:=⟨_,rfl⟩;refine⟨_,_,h k hk,λD hD=>?_⟩;clear h;cbv;refine⟨s,rfl,rfl,λr hr=>?_⟩;cbv;refine Al hD ?_;rw[hk,<-Bool.not_not (In s),<-hr];simp[BT.den]
open Go.Sx
set_option maxHeartbeats 8000000
structure HF where
 name:List UInt8
 value:List UInt8
 deriving Inhabited
def Dk(x:HF):List SV:=[.str x.name,.str x.value]
def HF.small(x:HF):Prop:=x.name.length<=9223372036854775807/\x.value.length<=9223372036854775807
structure A3(f:Nat->List SV)(n:Int)(l:List HF):Prop where
 n:n=l.length
 f:∀i,i<l.length->f i=Dk (l.getD i default)
 len:l.length<=9223372036854775807
 small:∀i,i<l.length->(l.getD i default).small
def Od(x:HF):Int:=x.name.length+x.value.length+4
structure AA(a b:List UInt8):Prop where
 a:a.length<=1000000000000
 b:b.length<=1000000000000
def wG:aD:=λ_ xs ls K=>∃(a b:List UInt8),xs=[.agg [.str a,.str b]]/\ls=[]/\AA a b/\∀r,r=Od ⟨a,b⟩->K (.int .i64 (.a r)) []
theorem ay:Aw Tryz.prog gl 175 wG:=by
 refine Bd (gh:=[]) mixed Be Ai Tryz.func175 (by kernel_rfl) (by kernel_rfl) ?_;intro xs ls K h;unfold wG at h;obtain⟨a,b,rfl,rfl,hs,h⟩:=h;obtain⟨k,hk⟩:∃k,k=Od ⟨a,b⟩:=⟨_,rfl⟩;refine⟨_,_,h k hk,λD hD=>?_⟩;clear h;cbv;refine Bj hD ?_;have h1:=hs.a;have h2:=hs.b;rw[hk];show IntKind.i64.wrap (IntKind.i64.wrap ((a.length:Int)+b.length)+4)=_;rw[wrap64 (n:=(a.length:Int)+b.length) (by omega) (by omega),wrap64 (by omega) (by omega)];rfl
def rq(x:HF):Bool:=!Cc x.name||(!In x.value||trimF x.value != x.value)
def Dz:List HF->Int->Int
 | [],n=>if 8192<n then 3 else 0
 |x :: l,n=>if rq x then 6 else if 2000<x.value.length then 3 else Dz l (n+Od x)
def Bh(l:List HF):Int:=if 100<l.length then 3 else Dz l 2
def mE:aD:=λ_ xs ls K=>∃(l:List HF) (nl:Bool) (n:Int) (f:Nat->List SV),xs=[.sl (.a nl) (.a n) 2 f]/\ls=[]/\A3 f n l/\∀r,r=Bh l->K (.int .i64 (.a r)) []
structure ChJ(k:Int)(l:List HF)(i:Nat)(I N:Int)(m:Nat):Prop where
 at_:AtR l i I m
 lo:0<=N
 hi:N<=3000 * (i+1)
 k:k=Dz (l.drop i) N
def chJ(k:Int)(l:List HF)(nl:Bool)(n:Int)(f:Nat->List SV)(m:Nat)(vs:List (Option SV))(hp:List Hl):Prop :=
 ∃(i:Nat) (I N:Int),vs=[some (.int .i64 (.a N)),some (.sl (.a nl) (.a n) 2 f),some (.int .i64 (.a n)),some (.int .i64 (.a I))]/\hp=[]/\ChJ k l i I N m
theorem Wl:Aw Tryz.prog gl 125 mE:=by
 refine Bd (gh:=[]) mixed Be (Ab N9 (Ab Akv (Ab P0 (Ab ay Ai)))) Tryz.func125 (by kernel_rfl) (by kernel_rfl) ?_;intro xs ls K h;unfold mE at h;obtain⟨l,nl,n,f,rfl,rfl,R,h⟩:=h;obtain⟨k,hk⟩:∃k,k=Bh l:=⟨_,rfl⟩;refine⟨_,_,h k hk,λD hD=>?_⟩;clear h;obtain⟨J,hJ⟩:∃J,J=chJ k l nl n f:=⟨_,rfl⟩;cbv;refine br hD (λh=>?_) (λh=>?_)<;>cbv
 .refine Bj hD ?_
  have h2:100<n:=QS (p:=(100:Int)<n) h;rw[hk,Bh,QE (by have:=R.n;omega)];rfl
 have h2:n<=100:=by
  have:=QZ (p:=(100:Int)<n) h;omega
 clear h;refine⟨[3,9,10,11],J,⟨rfl,l.length,?_⟩,?_⟩
 .rw[hJ]
  subst hD;refine⟨0,0,2,rfl,rfl,AtR.zero R.len,by omega,by omega,?_⟩;rw[hk,Bh,QD (by have:=R.n;omega)];rfl
 intro m vs hp hj;rw[hJ]at hj;obtain⟨i,I,N,rfl,rfl,V⟩:=hj;clear hk;cbv;refine br hD (λh=>?_) (λh=>?_)<;>cbv
 .have aA:=V.at_.lt R.n (QS (p:=I<n) h)
  clear h;refine⟨V.at_.mP hD R.n aA,λj hj=>?_⟩;obtain rfl:=V.at_.j hD hj;clear hj;have e1:=R.f j aA;have fF:=R.small j aA;have aR:=V.k;rw[Pn (d:=default) aA]at aR;obtain⟨x,hx⟩:∃x,x=l.getD j default:=⟨_,rfl⟩;rw[<-hx]at e1 aR fF;obtain⟨a,b⟩:=x;cbv;rw[e1];cbv;refine⟨a,rfl,rfl,fF.1,λt ht=>?_⟩;cbv;refine⟨b,rfl,rfl,λp hp=>?_⟩;cbv;refine⟨b,_,rfl,rfl,fF.2,?_,?_,λq hq=>?_⟩
  .decide
  .decide
  cbv;have vI:∀v:Bool,(((!t||!p)||!(q==b))=v)->rq ⟨a,b⟩=v:=by
   intro v hv;rw[<-hv,ht,hp,hq,Abr,VL];rfl
  clear ht hp hq;refine br hD (λh=>?_) (λh=>?_)<;>cbv
  .have h3:=vI true (by simpa[BT.den] using h)
   refine Bj hD ?_;rw[aR,Dz,QE h3];rfl
  have h3:=vI false (by simpa[BT.den] using h);clear h vI;refine br hD (λh=>?_) (λh=>?_)<;>cbv
  .have h4:(2000:Int)<b.length:=QS (p:=(2000:Int)<b.length) h
   refine Bj hD ?_;rw[aR,Dz,h3,QD (by simp),QE (by show 2000<b.length;omega)];rfl
  have h4:b.length<=2000:=by
   have:=QZ (p:=(2000:Int)<b.length) h;omega
  clear h;have ha:a.length<=64:=by
   unfold rq at h3;simp only[XU,YJ]at h3;have:=h3.1;unfold Cc at this;simp only[QB,QN]at this;exact this.2.2
  refine⟨a,b,rfl,rfl,⟨by omega,by omega⟩,λz hz=>?_⟩;cbv;obtain⟨g1,g2⟩:=V.at_.step hD aA;refine⟨_,g1,?_⟩;rw[hJ];have h5:z=a.length+b.length+4:=hz;have h6:=V.lo;have h7:=V.hi;have h8:=V.at_.le;have h9:IntKind.i64.wrap (N+z)=N+z:=wrap64 (by omega) (by have:=R.n;omega);subst hD;refine⟨j+1,_,_,rfl,rfl,g2,?_,?_,?_⟩
  .show 0<=IntKind.i64.wrap (N+z);omega
  .show IntKind.i64.wrap (N+z)<=_;omega
  .show k=Dz _ (IntKind.i64.wrap (N+z))
   rw[h9,aR,Dz,h3,QD (by simp),QD (by show ¬2000<b.length;omega),h5];rfl
 .have hi:=V.at_.eq R.n (QZ (p:=I<n) h)
  have aR:=V.k;rw[hi,ZR]at aR;clear h;refine br hD (λh=>?_) (λh=>?_)<;>cbv
  .refine Bj hD ?_
   have h2:8192<N:=QS (p:=(8192:Int)<N) h;rw[aR,Dz,QE h2];rfl
  .refine Bj hD ?_
   have h2:¬8192<N:=QZ (p:=(8192:Int)<N) h;rw[aR,Dz,QD h2];rfl
def tO:aD:=λ_ xs ls K=>∃(nl:Bool) (n:Int) (f:Nat->List SV) (s:List UInt8),xs=[.sl (.a nl) (.a n) 2 f,.str s]/\ls=[]/\s.length<=9223372036854775807/\
 ∀t,t=Bg s->K (.fI 230 [.ptr 0 0,.ptr 1 0]) [.aE 23 [.sl (.a nl) (.a n) 2 f],.aE 9 [.str t]]
theorem Am6:Aw Tryz.prog gl 177 tO:=by
 refine MW (gh:=[]) mixed Be (Ab Pg Ai) Tryz.func177 (by kernel_rfl) (by kernel_rfl) ?_;intro xs ls K h;unfold tO at h;obtain⟨nl,n,f,s,rfl,rfl,hs,h⟩:=h;obtain⟨k,hk⟩:∃k,k=Bg s:=⟨_,rfl⟩;refine⟨_,_,h k hk,λD hD=>?_⟩;clear h;cbv;refine⟨s,rfl,rfl,hs,λt ht=>?_⟩;rw[<-hk]at ht;subst ht;cbv;subst hD;exact Ce rfl rfl
def Ky(F:List UInt8->Bool)(s:List UInt8):List UInt8->Bool:=λk=>if k=s then true else F k
def Ir(F:List UInt8->Bool)(iF:List (List UInt8)):List UInt8->Bool:=iF.foldl (λF s=>if Cc s then Ky F (Bg s) else F) F
def Gy(t:List UInt8):List HF->(List UInt8->Bool)->(List UInt8->Bool)×Bool
 | [],F=>(F,true)
 |x :: l,F=>if Bg x.name=t then (if (Am x.value).2=0 then Gy t l (Ir F (Am x.value).1) else (F,false)) else Gy t l F
def Ki(a b c:Nat):List (Nat×Option SV):=[(2,some (.ptr a 0)),(3,some (.ptr b 0)),(5,some (.ptr c 0))]
def pc(c:LC):aD:=λ_ xs ls K=>∃(i:Int) (v:List UInt8) (F:List UInt8->Bool),
 xs=[.yv 0,.int .i64 (.a i),.str v]/\ls=[.bK c (Ki 1 2 3) 0 none,.aE 314 [.raw (.map none)],.aE 28 [.int .i64 (.a 0)],.aE 314 [.bP 4],.dC F]/\v.length<=9223372036854775807/\
 ((Am v).2=0->∀F',F'=Ir F (Am v).1->K (.bool (.a true)) [.bK c (Ki 1 2 3) 0 none,.aE 314 [.raw (.map none)],.aE 28 [.int .i64 (.a 0)],.aE 314 [.bP 4],.dC F'])/\
 ((Am v).2≠0->K (.bool (.a false)) [.bK c (Ki 1 2 3) 2 (some .ret),.aE 314 [.raw (.map none)],.aE 28 [.int .i64 (.a 6)],.aE 314 [.bP 4],.dC F])
def Agp(Y:aD):aD:=λ_ xs ls K=>∃(c:LC) (l:List HF) (nl:Bool) (n:Int) (f:Nat->List SV) (t:List UInt8) (F:List UInt8->Bool),Y=pc c/\
 xs=[.yv 0,.ptr 1 0,.ptr 2 0]/\ls=[.bK c (Ki 3 4 5) 0 none,.aE 23 [.sl (.a nl) (.a n) 2 f],.aE 9 [.str t],.aE 314 [.raw (.map none)],.aE 28 [.int .i64 (.a 0)],.aE 314 [.bP 6],.dC F]/\A3 f n l/\
 (∀F',Gy t l F=(F',true)->K (.tup []) [.bK c (Ki 3 4 5) 0 none,.aE 23 [.sl (.a nl) (.a n) 2 f],.aE 9 [.str t],.aE 314 [.raw (.map none)],.aE 28 [.int .i64 (.a 0)],.aE 314 [.bP 6],.dC F'])/\
 (∀F',Gy t l F=(F',false)->K (.tup []) [.bK c (Ki 3 4 5) 2 (some .ret),.aE 23 [.sl (.a nl) (.a n) 2 f],.aE 9 [.str t],.aE 314 [.raw (.map none)],.aE 28 [.int .i64 (.a 6)],.aE 314 [.bP 6],.dC F'])
structure NmJ(t:List UInt8)(k:(List UInt8->Bool)×Bool)(l:List HF)(F:List UInt8->Bool)(i:Nat)(I:Int)(m:Nat):Prop where
 aZ:AtR l i I m
 k:k=Gy t (l.drop i) F
def SZ(c:LC)(t:List UInt8)(k:(List UInt8->Bool)×Bool)(l:List HF)(nl:Bool)(n:Int)(f:Nat->List SV)(m:Nat)(vs:List (Option SV))(hp:List Hl):Prop :=
 ∃(i:Nat) (I:Int) (F:List UInt8->Bool),vs=[some (.yv 0),some (.ptr 2 0),some (.sl (.a nl) (.a n) 2 f),some (.int .i64 (.a n)),some (.int .i64 (.a I))]/\
  hp=[.bK c (Ki 3 4 5) 0 none,.aE 23 [.sl (.a nl) (.a n) 2 f],.aE 9 [.str t],.aE 314 [.raw (.map none)],.aE 28 [.int .i64 (.a 0)],.aE 314 [.bP 6],.dC F]/\NmJ t k l F i I m
theorem Aj8(Y:aD)(hY:LN Tryz.prog gl Y):Aw Tryz.prog gl 230 (Agp Y):=by
 refine qd (gh:=[]) (its:=[]) (yl:=[Y]) mixed Be (Ab Pg Ai) ⟨λ_ h=>(by cases h),λZ h=>by rw[UH]at h;subst h;exact hY⟩ Tryz.func230 (by kernel_rfl) (by kernel_rfl) ?_;intro xs ls K h;unfold Agp at h;obtain⟨c,l,nl,n,f,t,F,rfl,rfl,rfl,R,h1,h2⟩:=h;obtain⟨k,hk⟩:∃k,k=Gy t l F:=⟨_,rfl⟩;obtain⟨r,aI,hK,hr,lI⟩:∃r aI,K r aI/\r=SV.tup []/\aI=(if k.2 then [.bK c (Ki 3 4 5) 0 none,.aE 23 [.sl (.a nl) (.a n) 2 f],.aE 9 [.str t],.aE 314 [.raw (.map none)],.aE 28 [.int .i64 (.a 0)],.aE 314 [.bP 6],.dC k.1] else [.bK c (Ki 3 4 5) 2 (some .ret),.aE 23 [.sl (.a nl) (.a n) 2 f],.aE 9 [.str t],.aE 314 [.raw (.map none)],.aE 28 [.int .i64 (.a 6)],.aE 314 [.bP 6],.dC k.1]):=by
  obtain⟨F',b⟩:=k;cases b
  .exact⟨_,_,h2 F' hk.symm,rfl,rfl⟩
  .exact⟨_,_,h1 F' hk.symm,rfl,rfl⟩
 refine⟨r,aI,hK,λD hD=>?_⟩;clear hK h1 h2;subst hr;obtain⟨J,hJ⟩:∃J,J=SZ c t k l nl n f:=⟨_,rfl⟩;cbv;refine⟨[0,2,6,7,8],J,⟨rfl,l.length,?_⟩,?_⟩
 .rw[hJ]
  subst hD;exact⟨0,0,F,rfl,rfl,AtR.zero R.len,hk⟩
 intro m vs hp hj;rw[hJ]at hj;obtain⟨i,I,F,rfl,rfl,V⟩:=hj;clear hk;cbv;refine br hD (λh=>?_) (λh=>?_)<;>cbv
 .have aA:=V.aZ.lt R.n (QS (p:=I<n) h)
  clear h;refine⟨V.aZ.mP hD R.n aA,λj hj=>?_⟩;obtain rfl:=V.aZ.j hD hj;clear hj;have e1:=R.f j aA;have fF:=R.small j aA;have aR:=V.k;rw[Pn (d:=default) aA]at aR;obtain⟨x,hx⟩:∃x,x=l.getD j default:=⟨_,rfl⟩;rw[<-hx]at e1 aR fF;obtain⟨a,b⟩:=x;cbv;rw[e1];cbv;refine⟨a,rfl,rfl,fF.1,λz hz=>?_⟩;cbv;refine br hD (λh=>?_) (λh=>?_)<;>cbv
  .have h3:Bg a=t:=by rw[<-hz];simpa using h
   clear h;refine⟨I,b,F,?_,?_,fF.2,λhe F' hF'=>?_,λhe=>?_⟩
   .subst hD;rfl
   .subst hD;rfl
   .cbv
    refine br hD (λh=>?_) (λh=>?_)
    .cbv
     exact absurd h (by simp[BT.den])
    cbv;obtain⟨g1,g2⟩:=V.aZ.step hD aA
    generalize l.length-(j+1)=m' at g1 g2
    have e5:k=Gy t (l.drop (j+1)) F':=by rw[aR,Gy,QE h3,QE he,hF']
    refine⟨m',g1,?_⟩;rw[hJ];unfold SZ;cbv;subst hD;exact⟨j+1,_,F',rfl,rfl,g2,e5⟩
   .cbv
    refine br hD (λh=>?_) (λh=>?_)
    .cbv
     have e5:k=(F,false):=by rw[aR,Gy,QE h3,QD he]
     rw[lI,e5];subst hD;exact Ce rfl rfl
    .cbv
     exact absurd h (by rw[hz];simp[BT.den,h3])
  .have h3:Bg a≠t:=by rw[<-hz];simpa using h
   clear h;refine br hD (λh=>?_) (λh=>?_)
   .cbv
    exact absurd h (by rw[hz];simp[BT.den])
   cbv;obtain⟨g1,g2⟩:=V.aZ.step hD aA
   generalize l.length-(j+1)=m' at g1 g2
   have e5:k=Gy t (l.drop (j+1)) F:=by rw[aR,Gy,QD h3]
   refine⟨m',g1,?_⟩;rw[hJ];unfold SZ;cbv;subst hD;exact⟨j+1,_,F,rfl,rfl,g2,e5⟩
 .have hi:=V.aZ.eq R.n (QZ (p:=I<n) h)
  have aR:=V.k;rw[hi,ZR]at aR;clear h;rw[lI,aR];subst hD;exact Ce rfl rfl
def conn:List UInt8:=[99,111,110,110,101,99,116,105,111,110]
def dU:List (List UInt8):=[conn,[107,101,101,112,45,97,108,105,118,101],[112,114,111,120,121,45,99,111,110,110,101,99,116,105,111,110],[116,101],[116,114,97,105,108,101,114],[116,114,97,110,115,102,101,114,45,101,110,99,111,100,105,110,103],[117,112,103,114,97,100,101]]
def PN:List UInt8->Bool:=dU.foldl Ky λ_=>false
def Ie(l:List HF):(List UInt8->Bool)×Bool:=Gy conn l PN
def MY(l:List HF):SV×List Hl :=
 if Bh l≠0 then (.tup [.raw (.map none),.int .i64 (.a (Bh l))],[]) else
 if (Ie l).2 then (.tup [.bP 0,.int .i64 (.a 0)],[.dC (Ie l).1]) else (.tup [.raw (.map none),.int .i64 (.a 6)],[])
def wN:aD:=λ_ xs ls K=>∃(l:List HF) (nl:Bool) (n:Int) (f:Nat->List SV),xs=[.sl (.a nl) (.a n) 2 f]/\ls=[]/\A3 f n l/\∀k,k=MY l->K k.1 k.2
theorem Ko.eq{F' F:List UInt8->Bool}{s:List UInt8}(h:Ko F' F s true):F'=Ky F s:=funext λk=>h.h k
structure af0(iF:List (List UInt8))(F0 F:List UInt8->Bool)(i:Nat)(I L:Int)(m:Nat):Prop where
 aZ:AtR iF i I m
 L:L=iF.length
 k:Ir F0 iF=Ir F (iF.drop i)
def wm(c:LC)(iF:List (List UInt8))(F0:List UInt8->Bool)(nb:Bool)(n:Int)(f:Nat->List SV)(m:Nat)(vs:List (Option SV))(hp:List Hl):Prop :=
 ∃(i:Nat) (I:Int) (F:List UInt8->Bool),vs=[some (.ptr 3 0),some (.sl (.a nb) (.a n) 1 f),some (.int .i64 (.a n)),some (.int .i64 (.a I))]/\
  hp=[.bK c (Ki 1 2 3) 1 none,.aE 314 [.raw (.map none)],.aE 28 [.int .i64 (.a 0)],.aE 314 [.bP 4],.dC F]/\af0 iF F0 F i I n m
variable {v:List UInt8}{l:List (List UInt8)}
theorem Ajw(h:l=(Am v).1):l.length<=9223372036854775807:=by
 have:=(Dc v).1;rw[<-h]at this;omega
theorem Acg(h:l=(Am v).1)(i:Nat)(hi:i<l.length):(l.getD i []).length<=9223372036854775807:=by
 have:=(Dc v).2 (l.getD i []) (by rw[<-h,QC,QA hi];exact XQ hi);omega
theorem ey:Aw Tryz.prog gl 307 wN:=by
 refine qd (gh:=[]) (its:=[(230,Agp)]) (yl:=[]) mixed Be (Ab Wl (Hh Am6 (Ab Aea (Ab N9 (Ab Pg Ai))))) ⟨λx h Y hY=>by rw[UH]at h;subst h;exact Aj8 Y hY,λ_ h=>(by cases h)⟩ Tryz.func307 (by kernel_rfl) (by kernel_rfl) ?_;intro xs ls K h;unfold wN at h;obtain⟨l,nl,n,f,rfl,rfl,R,h⟩:=h;obtain⟨k,hk⟩:∃k,k=MY l:=⟨_,rfl⟩;refine⟨_,_,h k hk,λD hD=>?_⟩;clear h;cbv;refine⟨l,_,_,f,rfl,rfl,by subst hD;exact R,λe he=>?_⟩;cbv;refine br hD (λh=>?_) (λh=>?_)<;>cbv
 .have h1:e≠0:=by simpa using h
  rw[he]at h1;rw[hk,MY,QE h1,<-he];subst hD;exact Ce rfl rfl
 have h1:Bh l=0:=by rw[<-he];simpa using h
 clear h;have aR:k=if (Ie l).2 then (.tup [.bP 0,.int .i64 (.a 0)],[.dC (Ie l).1]) else (.tup [.raw (.map none),.int .i64 (.a 6)],[]):=by
  rw[hk,MY,QD (by simp[h1])]
 clear hk;intro F1 h1;obtain rfl:F1=Ky _ _:=Ko.eq (by subst hD;exact h1);clear h1;cbv;intro F2 h2;obtain rfl:F2=Ky _ _:=Ko.eq (by subst hD;exact h2);clear h2;cbv;intro F3 h3;obtain rfl:F3=Ky _ _:=Ko.eq (by subst hD;exact h3);clear h3;cbv;intro F4 h4;obtain rfl:F4=Ky _ _:=Ko.eq (by subst hD;exact h4);clear h4;cbv;intro F5 h5;obtain rfl:F5=Ky _ _:=Ko.eq (by subst hD;exact h5);clear h5;cbv;intro F6 h6;obtain rfl:F6=Ky _ _:=Ko.eq (by subst hD;exact h6);clear h6;cbv;intro F7 h7;obtain rfl:F7=Ky _ _:=Ko.eq (by subst hD;exact h7);clear h7;cbv;refine⟨_,_,f,conn,rfl,rfl,by decide,λt ht=>?_⟩;have ht:t=conn:=ht;subst ht;cbv;intro c hc;refine⟨[2,3,5],pc c,?_,?_⟩
 .rintro xs ls K' ⟨i,v,F,rfl,rfl,hv,h1,h2⟩
  refine⟨⟨_,rfl⟩,?_⟩;obtain⟨iF,rB⟩:∃l,l=(Am v).1:=⟨_,rfl⟩;obtain⟨ee,IQ⟩:∃l,l=(Am v).2:=⟨_,rfl⟩;obtain⟨r,aI,hK,hr,lI⟩:∃r aI,K' r aI/\r=SV.bool (.a (ee==0))/\aI=(if ee=0 then [.bK c (Ki 1 2 3) 0 none,.aE 314 [.raw (.map none)],.aE 28 [.int .i64 (.a 0)],.aE 314 [.bP 4],.dC (Ir F iF)] else [.bK c (Ki 1 2 3) 2 (some .ret),.aE 314 [.raw (.map none)],.aE 28 [.int .i64 (.a 6)],.aE 314 [.bP 4],.dC F]):=by
   by_cases he:(Am v).2=0
   .refine⟨_,_,h1 he _ rfl,?_,?_⟩
    .rw[IQ,he];rfl
    .rw[IQ,he,QE rfl,rB]
   .refine⟨_,_,h2 he,?_,?_⟩
    .have:((Am v).2==0)=false:=by simpa using he
     rw[IQ,this]
    .rw[IQ,QD he]
  refine⟨r,aI,hK,?_⟩;clear hK h1 h2;subst hr;cbv;refine⟨v,rfl,rfl,hv,λl e n nb hle hn eY=>?_⟩;have gW:l=iF:=by rw[rB,<-hle]
  have xh:e=ee:=by rw[IQ,<-hle]
  subst gW xh;have RS:Bz (Da l) n l:=by rw[hn];exact Bz.row (Ajw rB)
  obtain⟨g,hg⟩:∃g,g=Da l:=⟨_,rfl⟩;rw[<-hg]at RS ⊢;clear hle hg hn;cbv;refine br hD (λh=>?_) (λh=>?_)
  .have he:e≠0:=by simpa using h
   rw[QD he]at lI;have IT:(e==0)=false:=by simpa using he
   rw[lI,IT];cbv;subst hD;exact Ce rfl rfl
  .have he:e=0:=by simpa using h
   clear h;rw[QE he]at lI;rw[he];obtain⟨J,hJ⟩:∃J,J=wm c l F nb n g:=⟨_,rfl⟩;cbv;refine⟨[5,30,31,32],J,⟨rfl,l.length,?_⟩,?_⟩
   .rw[hJ]
    subst hD;exact⟨0,0,F,rfl,rfl,AtR.zero RS.len,RS.n,rfl⟩
   intro m vs hp hj;rw[hJ]at hj;obtain⟨i,I,F2,rfl,rfl,V⟩:=hj;cbv;refine br hD (λh=>?_) (λh=>?_)<;>cbv
   .have aA:=V.aZ.lt RS.n (QS (p:=I<n) h)
    clear h;refine⟨V.aZ.mP hD RS.n aA,λj hj=>?_⟩;obtain rfl:=V.aZ.j hD hj;clear hj;have e1:=RS.f j aA;have aR:=V.k;rw[Pn (d:=[]) aA]at aR;have fF:=Acg rB j aA;obtain⟨x,hx⟩:∃x,x=l.getD j []:=⟨_,rfl⟩;rw[<-hx]at e1 aR fF;cbv;rw[e1];cbv;refine⟨x,rfl,rfl,fF,λt ht=>?_⟩;cbv;obtain⟨g1,g2⟩:=V.aZ.step hD aA
    generalize l.length-(j+1)=m' at g1 g2
    refine br hD (λh=>?_) (λh=>?_)<;>cbv
    .have h3:Cc x=true:=by rw[<-ht];simpa using h
     clear h;refine⟨x,rfl,rfl,fF,λy hy=>?_⟩;have hy:y=Bg x:=hy;cbv;intro F3 h3';obtain rfl:F3=Ky F2 y:=Ko.eq (by subst hD;exact h3');clear h3';cbv;refine⟨m',g1,?_⟩;rw[hJ];unfold wm;subst hD;refine⟨j+1,_,_,rfl,rfl,g2,RS.n,?_⟩;rw[aR,hy];simp only[Ir,UA,h3,if_true]
    .have h3:Cc x=false:=by rw[<-ht];simpa using h
     clear h;refine⟨m',g1,?_⟩;rw[hJ];unfold wm;subst hD;refine⟨j+1,_,F2,rfl,rfl,g2,RS.n,?_⟩;rw[aR];simp only[Ir,UA,h3,QR,if_false]
   .have hi:=V.aZ.eq RS.n (QZ (p:=I<n) h)
    have aR:=V.k;rw[hi,ZR]at aR;clear h;have mH:Ir F l=F2:=aR;rw[lI,mH];cbv;subst hD;exact Ce rfl rfl
 .cbv
  refine⟨c,l,nl,n,f,conn,PN,rfl,rfl,by subst hD;rfl,R,λF' hF=>?_,λF' hF=>?_⟩
  .have e5:k=(.tup [.bP 0,.int .i64 (.a 0)],[.dC F']):=by
    rw[aR,Ie,hF];rfl
   rw[e5];cbv;subst hD;exact Ce rfl rfl
  .have e5:k=(.tup [.raw (.map none),.int .i64 (.a 6)],[]):=by
    rw[aR,Ie,hF];rfl
   rw[e5];cbv;subst hD;exact Ce rfl rfl
end Go.Proofs.YtdoogdbjiijifaaGreatDoor
