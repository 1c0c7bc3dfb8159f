/- A part of the proof: contracts of functions, or the executor and its soundness. No conditions. -/
import Derived.Laws.IdiomCopy
import Derived.RangeFuncRecord
import Derived.Lib.DecodeN
import Derived.Lib.UnsafeStr
import Derived.Test.YtdoogdbjiijifaaGreatDoorE7Paq
namespace Go.Cv
open Go Go.RowKit
theorem Ij{b:Nat}{ty:TypeId}{fz:Nat×Nat}:∀(vs:List Value) (o:Nat) (w:World) (arr:Array Value),w.heap[b]?=some (.cells arr ty fz)->o+vs.length<=arr.size->
  (∃iU,(w.setCells b o vs).heap[b]?=some (.cells iU ty fz)/\iU.size=arr.size/\∀i,iU[i]?=if o<=i/\i<o+vs.length then vs[i-o]? else arr[i]?)/\
  (∀k,k≠b->(w.setCells b o vs).heap[k]?=w.heap[k]?)/\(w.setCells b o vs).heap.size=w.heap.size/\∀base,base<=b->Below base w (w.setCells b o vs)
 | [],o,w,arr,h,_=>⟨⟨arr,h,rfl,λi=>by rw[QD (by simp only[XV];omega)]⟩,λ_ _=>rfl,rfl,λ_ _=>Below.refl _ _⟩
 |v :: vs,o,w,arr,h,hl=>by
  simp only[QT]at hl;have h1:(w.setCell ⟨b,o,none⟩ v).heap[b]?=some (.cells (arr.setIfInBounds o v) ty fz):=by
   simp[World.setCell,XZ,h]
  obtain⟨⟨iU,q1,q2,q3⟩,q4,q5,q6⟩:=Ij vs (o+1) _ _ h1 (by simp;omega);simp only[World.setCells];refine⟨⟨iU,q1,by simpa using q2,λi=>?_⟩,λk hk=>?_,?_,λbase hb=>?_⟩
  .rw[q3]
   by_cases hi:o+1<=i/\i<o+1+vs.length
   .rw[QE hi,QE (by simp only[QT];omega)]
    obtain⟨k,rfl⟩:∃k,i=o+(k+1):=⟨i-o-1,by omega⟩;rw[show o+(k+1)-(o+1)=k by omega,show o+(k+1)-o=k+1 by omega];rfl
   .rw[QD hi]
    by_cases he:i=o
    .subst he
     rw[QE (by simp only[QT];omega)];have:i<arr.size:=by omega
     simp[this]
    .rw[QD (by simp only[QT];omega),XX (Ne.symm he)]
  .rw[q4 k hk,Below.heap_setCell _ _ _ _ (by simpa using hk)]
  .rw[q5];simp[World.setCell]
  .exact (Below.refl base w).setCell (p:=⟨b,o,none⟩) hb v |>.trans (q6 base hb)
noncomputable def sn(w:Nat):List CV->Tr CW->Nat->Tr CW
 | [],t,_=>t
 |v :: l,t,i=>sn w l (t.set i ⟨v,w⟩) (i+1)
theorem Px{R:Type}(w:Nat):∀(l:List CV) (t:Tr CW) (i:Nat) (K:Tr CW->R),DL w l t i K=K (sn w l t i)
 | [],t,i,K=>rfl
 |v :: l,t,i,K=>by
  show rS v (λv=>Tr.dL t i ⟨v,w⟩ λt=>DL w l t (i+1) K)=_;rw[Vw,Tr.bS,Px w l];rfl
theorem Jn(w:Nat):∀(l:List CV) (t:Tr CW) (i j:Nat),i+l.length<=aH->(sn w l t i).get j=if i<=j/\j<i+l.length then (l[j-i]?).map λv=>⟨v,w⟩ else t.get j
 | [],t,i,j,_=>by rw[QD (by simp only[XV];omega)];rfl
 |v :: l,t,i,j,h=>by
  simp only[QT]at h;simp only[sn,QT];rw[Jn w l _ (i+1) j (by omega),Tr.cH _ _ (by omega)]
  by_cases h1:i+1<=j/\j<i+1+l.length
  .rw[QE h1,QE (by omega)]
   obtain⟨k,rfl⟩:∃k,j=i+(k+1):=⟨j-i-1,by omega⟩;rw[show i+(k+1)-(i+1)=k by omega,show i+(k+1)-i=k+1 by omega];rfl
  .rw[QD h1]
   by_cases he:j=i
   .subst he;rw[QE rfl,QE (by omega)];simp
   .rw[QD he,QD (by omega)]
theorem Zn:∀(l:List CV) (i j:Nat),i+l.length<=aH->(oZ l i).get j=if i<=j/\j<i+l.length then (l[j-i]?).map λv=>⟨v,0⟩ else none
 | [],i,j,_=>by rw[QD (by simp only[XV];omega)];rfl
 |v :: l,i,j,h=>by
  simp only[QT]at h;show ((oZ l (i+1)).set i ⟨v,0⟩).get j=_;rw[Tr.cH _ _ (by omega),Zn l (i+1) j (by omega)];simp only[QT]
  by_cases he:j=i
  .subst he;rw[QE rfl,QE (by omega)];simp
  .rw[QD he]
   by_cases h1:i+1<=j/\j<i+1+l.length
   .rw[QE h1,QE (by omega)]
    obtain⟨k,rfl⟩:∃k,j=i+(k+1):=⟨j-i-1,by omega⟩;rw[show i+(k+1)-(i+1)=k by omega,show i+(k+1)-i=k+1 by omega];rfl
   .rw[QD h1,QD (by omega)]
theorem Xz(t:Tr CW):∀(n i:Nat),there t n i=true->∀j,i<=j->j<i+n->∃c,t.get j=some c
 |0,i,_,j,h1,h2=>by omega
 |n+1,i,h,j,h1,h2=>by
  replace h:(match t.get i with|some _=>there t n (i+1)|none=>false)=true:=h
  split at h
  .rename_i c hc
   by_cases he:j=i
   .subst he;exact⟨c,hc⟩
   .exact Xz t n (i+1) h j (by omega) (by omega)
  .cases h
section
variable {S:Sg} {base:Nat} {w0 w:World} {U:Nat->Option CO} {ι:Ip} {hp:Tr CO} {nx:Nat}
theorem HR.store(h:HR S base w0 U ι hp nx w){r ty n G fz off:Nat}{tr:Tr CW}{mk:Bool}{L:Loc}{cs:List CV}{us:List Value}(hL:ι r G=some L)(hr:hp.get r=some (.c ty tr n G fz false mk))(cZ:L.lo<=off)(IJ:fz<=off)
  (hth:there tr cs.length off=true) (hv:cF ι cs us) (h1:∀u∈us,u.oneCell'=true):
  (storeCells ⟨L.aE,off-L.lo,none⟩ us).run S.P w=.ok () (w.setCells L.aE (off-L.lo) us)/\HR S base w0 U ι (hp.set r (.c ty (sn G cs tr off) n G fz false mk)) nx (w.setCells L.aE (off-L.lo) us):=by
 obtain⟨o,ho,WA,aA,aB⟩:=h.obj r G L hL;rw[hr]at ho;cases ho;have nP:base<=L.aE:=UF λhb=>by have:=aB hb;cases this
 obtain⟨_,arr,gR,q1,q2,q3,q4⟩:=WA;obtain⟨q5,q6⟩:=q4 rfl;have eT:∀j,off<=j->j<off+cs.length->j<n/\j<aH:=λj a b=>by
  obtain⟨c,hc⟩:=Xz tr cs.length off hth j a b;exact⟨(q3 j c hc).2.1,(q3 j c hc).2.2.1⟩
 have aM:cs.length=0\/off-L.lo+us.length<=arr.size:=by
  by_cases h0:cs.length=0
  .exact .inl h0
  .right
   have:=(eT (off+cs.length-1) (by omega) (by omega)).1;rw[<-hv.1];omega
 by_cases h0:cs.length=0
 .have cV:cs=[]:=QQ h0
  have iJ:us=[]:=QQ (by rw[<-hv.1];exact h0);subst cV iJ;refine⟨rfl,?_⟩;refine h.write Ex.refl (λ_ _ _ e=>.inl e) (Below.refl _ _) (h.oB r G L hL) (h.gM hL) (λ_ _ _ _ _=>rfl) (λg L' e=>?_) (λg L' r' g' l9 e e' aV he=>aV (h.inj _ _ _ _ _ _ e' e he.symm).1) (λg L' g' l9 e e' he=>(h.inj _ _ _ _ _ _ e e' he).2);obtain⟨o,a,b,c,d⟩:=h.obj r g L' e;rw[hr]at a;cases a;exact⟨b,c,d⟩
 have aM:=aM.resolve_left h0;have hk:off+cs.length<=aH:=by have:=(eT (off+cs.length-1) (by omega) (by omega)).2;omega
 obtain⟨⟨iU,p1,p2,p3⟩,p4,p5,p6⟩:=Ij us (off-L.lo) w arr q1 aM;constructor
 .have aG:=run_storeCells_cells (P:=S.P) L.aE (off-L.lo) us 0 w (λj hj=>by
    have:off-L.lo+j<arr.size:=by omega
    simp[World.cell?,q1,this])
   (λj hj=>by
    rw[<-hv.1]at hj;have a1:=(eT (off+j) (by omega) (by omega)).1;obtain⟨f1,f2⟩:=gR;simp only[World.frozen?,q1,YV,XG]
    by_cases uC:mk=true
    .rw[QE uC]at q6
     rcases q6 with q6|q6<;>cases q6<;>omega
    .rw[QD uC]at q6
     have q7:f2<=fz-L.lo:=q6.2;omega) h1
  simpa using aG
 .refine h.write Ex.refl (λ_ _ _ e=>.inl e) (p6 base nP) (h.oB r G L hL) (h.gM hL) (λr' g' L' e aV=>p4 _ (λhb=>aV (h.inj _ _ _ _ _ _ e hL hb).1)) (λg L' e=>?_) (λg L' r' g' l9 e e' aV he=>aV (h.inj _ _ _ _ _ _ e' e he.symm).1) (λg L' g' l9 e e' he=>(h.inj _ _ _ _ _ _ e e' he).2)
  obtain⟨o,a1,b,c,d⟩:=h.obj r g L' e;rw[hr]at a1;cases a1;obtain⟨fm,pN,p7,r1,r2,r3,r4⟩:=b
  by_cases dN:L'.aE=L.aE
  .obtain rfl:L=L':=(h.inj _ _ _ _ _ _ e hL dN).2.symm
   rw[q1]at r1;cases r1;refine⟨⟨fm,iU,gR,p1,by rw[p2];exact r2,λi c' jA=>?_,λhg=>?_⟩,by rw[p5];exact c,d⟩
   .rw[Jn G cs tr off i hk]at jA
    split at jA
    .rename_i hi
     have hx:cs[i-off]?=some c'.v/\c'.w=G:=by
      cases kF:cs[i-off]? with
      |none=>rw[kF]at jA;cases jA
      |some x=>rw[kF]at jA;cases jA;exact⟨rfl,rfl⟩
     refine⟨by omega,(eT i hi.1 hi.2).1,(eT i hi.1 hi.2).2,λhw jM=>?_⟩;obtain⟨u,hu,hru⟩:=hv.get hx.1;refine⟨u,?_,hru,h1 u (QF hu)⟩;rw[p3,QE (by rw[<-hv.1];omega),show i-L.lo-(off-L.lo)=i-off by omega];exact hu
    .rename_i hi
     obtain⟨s1,s2,s3,s4⟩:=r3 i c' jA;refine⟨s1,s2,s3,λhw jM=>?_⟩;obtain⟨u,t1,t2,t3⟩:=s4 hw jM;refine⟨u,?_,t2,t3⟩;rw[p3,QD (by rw[<-hv.1];omega)];exact t1
   .have:=r4 hg
    refine⟨this.1,?_⟩;rw[p2];exact this.2
  .refine⟨⟨fm,pN,p7,by rw[p4 _ dN];exact r1,r2,λi c' jA=>?_,r4⟩,by rw[p5];exact c,d⟩
   rw[Jn G cs tr off i hk]at jA
   split at jA
   .rename_i hi
    have hx:c'.w=G:=by
     cases kF:cs[i-off]? with
     |none=>rw[kF]at jA;cases jA
     |some x=>rw[kF]at jA;cases jA;rfl
    refine⟨by omega,(eT i hi.1 hi.2).1,(eT i hi.1 hi.2).2,λhw _=>?_⟩;have:g=G:=by omega
    subst this;rw[hL]at e;cases e;exact absurd rfl dN
   .exact r3 i c' jA
def nb(m:AM):Prop:=∀n,m≠.bad n
def Res(r:Result Next)(u:Value)(w':World):Prop:=r=.ok (.value u) w'\/(r=.ok .skip w'/\u=undef)
def Fg(S:Sg)(base:Nat)(w0:World)(U:Nat->Option CO)(ι:Ip)(w:World)(s:Sem Next)(K:KA)(m:AM):Prop :=
 ∃v dS gN,m=K v dS gN/\∃bI u w',Ex ι bI/\HR S base w0 U bI dS gN w'/\Res (s.run S.P w) u w'/\VR bI v u
variable {K:KA} {z m:AM}
theorem Mb{o:CO}{K:Tr CO->Nat->AM}(hm:nb m)(hz:∃n,z=.bad n)(h:Ot z o hp nx K=m):nx+2<=aH/\m=K (hp.set nx o) (nx+1):=by
 unfold Ot at h;cases hb:Nat.ble (Nat.succ (Nat.succ nx)) aH<;>rw[hb]at h
 .obtain⟨n,rfl⟩:=hz
  exact absurd h.symm (hm n)
 .have h:Gg (Nat.succ nx) (λgN=>Tr.dL hp nx o λhp=>K hp gN)=m:=h
  rw[Ej,Tr.bS]at h;exact⟨(As _ _).1 hb,h.symm⟩
theorem Z5{w':World}{L:Loc}{bI:Ip}{ty n:Nat}{cs:List CV}{us:List Value}{arr:Array Value}{mk:Bool}{fz:Nat×Nat}(hh:w'.heap[L.aE]?=some (.cells arr ty fz))(cZ:L.lo=0)(fR:L.en<=arr.size)(hn:n<=L.en)(hl:cs.length<=n)(hk:cs.length<=aH)
  (hv:cF bI cs us) (h1:∀u∈us,u.oneCell'=true) (ha:∀(i:Nat) (u:Value),us[i]?=some u->arr[i]?=some u) (hf:if mk then fz=(0,0)\/fz=(arr.size,arr.size+1) else fz=(0,0)):
  OR S bI w' L 0 (.c ty (oZ cs 0) n 0 0 false mk):=by
 refine⟨QK _,arr,fz,hh,by omega,λi c hc=>?_,λ_=>⟨hn,?_⟩⟩
 .rw[Zn cs 0 i (by omega)]at hc
  split at hc
  .rename_i hi
   cases kF:cs[i-0]? with
   |none=>rw[kF]at hc;cases hc
   |some x =>
    rw[kF]at hc;cases hc;refine⟨QK _,by omega,by omega,λ_ _=>?_⟩;obtain⟨u,hu,hr⟩:=hv.get kF;exact⟨u,by rw[cZ];exact ha _ u hu,hr,h1 u (QF hu)⟩
  .cases hc
 .by_cases uC:mk=true
  .rw[QE uC]at hf ⊢;exact hf
  .rw[QD uC]at hf ⊢;rw[hf];exact⟨rfl,ZD _⟩
theorem E6{K:Tr CO->Nat->AM}(hm:nb m)(hz:∃n,z=.bad n){e n:Nat}{cs:List CV}{mk:Bool}(h:Rs z e cs n mk hp nx K=m):cs.length<=10000000/\nx+2<=aH/\m=K (hp.set nx (.c e (oZ cs 0) n 0 0 false mk)) (nx+1):=by
 unfold Rs at h;cases hb:Nat.ble (len cs) 10000000<;>rw[hb]at h
 .obtain⟨n,rfl⟩:=hz
  exact absurd h.symm (hm n)
 .obtain⟨h1,h2⟩:=Mb hm hz h
  rw[As,B7]at hb;exact⟨hb,h1,h2⟩
theorem HR.fresh(h:HR S base w0 U ι hp nx w){e n:Nat}{cs:List CV}{us:List Value}{arr:Array Value}(hk:nx+2<=aH)(hc:cs.length<=10000000)(hn:cs.length<=n)(_hs:n<=arr.size)(hv:cF ι cs us)(h1:∀u∈us,u.oneCell'=true)(ha:∀(i:Nat) (u:Value),us[i]?=some u->arr[i]?=some u){en:Nat}(fR:en<=arr.size)(aV:n<=en):
  HR S base w0 U (ι.add nx 0 ⟨w.heap.size,0,en⟩) (hp.set nx (.c e (oZ cs 0) n 0 0 false false)) (nx+1) (w.alloc (.cells arr e))/\Ex ι (ι.add nx 0 ⟨w.heap.size,0,en⟩):=by
 have hx:Ex ι (ι.add nx 0 ⟨w.heap.size,0,en⟩):=Ip.gZ (by
  cases e:ι nx 0 with
  |none=>rfl
  |some L=>have:=h.oB nx 0 L e;omega)
 exact h.new hk (Z5 (L:=⟨w.heap.size,0,en⟩) (World.alloc_heap_new w _) rfl fR aV hn (by unfold aH;omega) (hv.mono hx) h1 ha rfl)
theorem ku(hS:eH S)(h:HR S base w0 U ι hp nx w){t:Nat}(hm:nb m)(hz:∃n,z=.bad n)(hc:Wm S.en t z hp nx K=m):Fg S base w0 U ι w (do pure (.value (<-Instr.alloc t true (.tuple #[])))) K m:=by
 unfold Wm at hc
 split at hc
 .rename_i k n b zr hT
  obtain⟨h1,h2,rfl⟩:=E6 hm hz hc;have cY:=hS.T t _ hT;obtain⟨zv,jT,lF,sF,vc,_⟩:=cY.zero ι w;have hlen:zv.cells.toList.length=zr.length:=lF.1.symm;obtain⟨q1,q2⟩:=h.fresh (e:=t) (n:=len zr) (arr:=zv.cells) h2 h1 (by rw[B7];exact QK _) (by rw[B7,<-hlen];simp) lF sF (λi u hu=>by rw[QG]at hu;exact hu) (en:=zv.cells.size) (QK _) (by rw[B7,<-hlen];simp);refine⟨_,_,_,rfl,_,.pointer (some ⟨w.heap.size,0,none⟩),_,q2,q1,.inl ?_,.p (Ip.bW _ _ _ _) (QK _)⟩;simp[Instr.alloc,jT,newVar,Go.newRow]
 .obtain⟨n,rfl⟩:=hz
  exact absurd hc.symm (hm n)
end
section
variable {S:Sg} {base:Nat} {w0 w:World} {U:Nat->Option CO} {ι:Ip} {hp:Tr CO} {nx:Nat} {fr:Tr CV} {a:Act} {K:KA} {z m:AM}
theorem Aq{β:Prop}(hm:nb m)(hz:∃n,z=.bad n)(h:z=m):β:=by
 obtain⟨n,rfl⟩:=hz;exact absurd h.symm (hm n)
theorem KT(_hS:eH S)(h:HR S base w0 U ι hp nx w)(hg:GR S ι)(hf:FR ι fr a.tmps){t:Nat}{X:Operand}(hm:nb m)(hz:∃n,z=.bad n)(hc:kx S.en t X z hp nx fr K=m):
  Fg S base w0 U ι w (do pure (.value (<-Instr.box t (a.eval X)))) K m:=by
 unfold kx at hc
 split at hc
 .rename_i k n b zr hT
  unfold KU at hc;cases hb:(Cg Nm (ev S.en fr X).cells&&Nat.beq (len (ev S.en fr X).cells) (Nat.succ n))<;>rw[hb]at hc
  .exact Aq hm hz hc
  .simp only[QB,beq_iff,B7]at hb
   obtain⟨h1,h2,rfl⟩:=E6 hm hz hc;obtain⟨r1,r2⟩:=Aer (Ay hg hf X) hb.1;have hlen:(a.eval X).cells.toList.length=(ev S.en fr X).cells.length:=r1.1.symm;obtain⟨q1,q2⟩:=h.fresh (e:=t) (n:=len (ev S.en fr X).cells) (arr:=(a.eval X).cells) h2 h1 (by rw[B7];exact QK _) (by rw[B7,<-hlen];simp) r1 r2 (λi u hu=>by rw[QG]at hu;exact hu) (en:=(a.eval X).cells.size) (QK _) (by rw[B7,<-hlen];simp);refine⟨_,_,_,rfl,_,.pointer (some ⟨w.heap.size,0,none⟩),_,q2,q1,.inl ?_,.p (Ip.bW _ _ _ _) (QK _)⟩;simp[Instr.box,newVar,Go.newRow]
 .exact Aq hm hz hc
theorem Hd(hS:eH S){t e:Nat}(h:Hk S.en t=some e):S.P.underlying t=some (.slice e):=by
 unfold Hk at h
 split at h
 .rename_i e' n b z hT;cases h;exact (hS.T t _ hT).slice rfl
 .cases h
theorem P7(z:List CV):∀n,Nd z n=(List.replicate n z).flatten
 |0=>rfl
 |n+1=>by
  show app z (Nd z n)=_;rw[Ls,P7 z n,UP,VA]
theorem K1{zr:List CV}{us:List Value}(h:cF ι zr us):∀n,cF ι (Nd zr n) ((List.replicate n us).flatten)
 |0=>.nil
 |n+1=>by
  rw[P7,UP,VA,UP,VA,<-P7];exact h.app (K1 h n)
theorem Cn{α:Type}(l:List α):∀n,((List.replicate n l).flatten).length=n * l.length
 |0=>by simp
 |n+1=>by rw[UP,VA,QW,Cn l n,XJ,Nat.one_mul,Nat.add_comm]
theorem Adw{α:Type}[Inhabited α](l:List α):∀(n i:Nat),i<n * l.length->((List.replicate n l).flatten)[i]?=l[i % l.length]?
 |0,i,h=>by simp at h
 |n+1,i,h=>by
  rw[UP,VA,YC]
  split
  .rename_i hi;rw[VG hi]
  .rename_i hi
   have h':i<n * l.length+l.length:=by rw[Nat.succ_mul]at h;exact h
   rw[Adw l n (i-l.length) (by omega)];have e:i % l.length=(i-l.length) % l.length:=Nat.mod_eq_sub_mod (by omega);rw[e]
theorem N6(zs:Array Value)(n:Nat)(h:0<zs.size):(Array.range (n * zs.size)).map (λi=>zs[i % zs.size]!)=⟨(List.replicate n zs.toList).flatten⟩:=by
 apply XN;apply UZ;intro i;simp only[ZU,Array.toList_range,QP]
 by_cases hi:i<n * zs.size
 .rw[UO hi,QO,Adw zs.toList n i (by simpa using hi)]
  have aA:i % zs.size<zs.size:=YF _ h;simp[aA]
 .rw[QV (by simpa using hi),QV (by rw[Cn];simpa using hi)]
  rfl
theorem Aph(hS:eH S)(h:HR S base w0 U ι hp nx w)(hg:GR S ι)(hf:FR ι fr a.tmps){t n:Nat}{ps:Array (Nat×Operand)}(hm:nb m)(hz:∃n,z=.bad n)(hc:Tq S.en t n ps.toList z hp nx fr K=m):
  Fg S base w0 U ι w (do pure (.value (<-Instr.buildSlice t n (ps.map λ(i,x)=>(i,a.eval x))))) K m:=by
 have e0:(ps.map λ(i,x)=>(i,a.eval x)).toList=ps.toList.map λp=>(p.1,a.eval p.2):=by simp
 unfold Tq at hc
 split at hc
 .rename_i e he
  have hd:=Hd hS he
  split at hc
  .rename_i k sz b zr hT
   have cY:=hS.T e _ hT;have aT:=cY.sizeOf w;obtain⟨zv,jT,lF,sF,vc,_⟩:=cY.zero ι w;cases hb:Nat.ble (Nat.mul n (Nat.succ sz)) 10000<;>rw[hb]at hc
   .exact Aq hm hz hc
   have fF:n * (sz+1)<=10000:=(As _ _).1 hb
   replace hc:uu e n (Nat.succ sz) (Hy S.en (Nat.succ sz) fr ps.toList (Nd zr n)) z hp nx K=m:=hc
   unfold uu at hc
   split at hc
   .rename_i cs cV
    cases ho:Cg Nm cs<;>rw[ho]at hc
    .exact Aq hm hz hc
    obtain⟨h1,h2,rfl⟩:=E6 hm hz hc;obtain⟨C',f1,f2⟩:=V9 hg hf ps.toList (Nd zr n) cs _ cV (K1 lF n);have jI:zv.cells.size=sz+1:=vc;have hC1:∀u∈C',u.oneCell'=true:=λu hu=>by
     obtain⟨i,hi⟩:=List.mem_iff_getElem?.1 hu;have aA:i<cs.length:=by rw[f2.1];exact (List.getElem?_eq_some_iff.1 hi).1
     exact Oo ((Cz _ _).1 ho _ (XQ aA)) (f2.2 i _ u (QA aA) hi)
    have pJ:∀(ps:List (Nat×Value)) (C C':List Value),Instr.fill (λi=>some (i * (sz+1),sz+1)) ⟨C⟩ ps=some ⟨C'⟩->C'.length=C.length:=by
     intro ps
     induction ps with
     |nil=>intro C C' h;cases h;rfl
     |cons p ps ih =>
      intro C C' h;simp only[Instr.fill]at h
      split at h
      .cases h
      .rename_i dZ
       have hh:(p.2.cells.zipIdx.foldl (λ(cs:Array Value) (c:Value×Nat)=>cs.setIfInBounds (p.1 * (sz+1)+c.2) c.1) ⟨C⟩)=⟨(p.2.cells.zipIdx.foldl (λ(cs:Array Value) (c:Value×Nat)=>cs.setIfInBounds (p.1 * (sz+1)+c.2) c.1) ⟨C⟩).toList⟩:=rfl;rw[hh]at h;rw[ih _ _ h];rw[<-Array.foldl_toList]
       generalize p.2.cells.zipIdx.toList=l
       clear h hh ih dZ
       induction l generalizing C with
       |nil=>rfl
       |cons x l ih =>
        rw[UA];have:(⟨C⟩:Array Value).setIfInBounds (p.1 * (sz+1)+x.2) x.1=⟨C.set (p.1 * (sz+1)+x.2) x.1⟩:=by simp
        rw[this,ih];simp
    have hlen:C'.length=n * (sz+1):=by
     rw[pJ _ _ _ f1,Cn];simp[jI]
    obtain⟨q1,q2⟩:=h.fresh (e:=e) (n:=len cs) (arr:=⟨C'⟩) h2 h1 (by rw[B7];exact QK _) (by rw[B7,f2.1];simp) f2 hC1 (λi u hu=>by simpa using hu) (en:=C'.length) (by simp) (by rw[B7,f2.1];exact QK _);refine⟨_,_,_,rfl,_,.slice (some ⟨w.heap.size,0,none⟩) n n,_,q2,q1,.inl ?_,?_⟩
    .have yC:¬n * (sz+1) > 2 ^ 24:=by omega
     by_cases jL:n=0
     .subst jL
      have sN:C'=[]:=QQ (by rw[hlen];simp);subst sN;simp only[List.replicate_zero,List.flatten_nil]at f1;have HN:¬0 * (TI.mk k (sz+1) b zr).size > 2 ^ 24:=by simp
      simp only[Instr.buildSlice,Sem.run_bind,Ad hd,Result.andThen_ok,aT];rw[QD HN];simp only[VF,if_true,pure_bind,Sem.run_pure,e0];have wj:(Array.range 0).map (λi=>(#[]:Array Value)[i % (#[]:Array Value).size]!)=⟨[]⟩:=by simp
      rw[wj,f1];simp[Go.newRow]
     .have aP:=N6 zv.cells n (by omega)
      have aV:¬n * (TI.mk k (sz+1) b zr).size=0:=Nat.mul_ne_zero jL (Nat.succ_ne_zero _);have HM:¬n * (TI.mk k (sz+1) b zr).size > 2 ^ 24:=yC;simp only[Instr.buildSlice,Sem.run_bind,Ad hd,Result.andThen_ok,aT];rw[QD HM,QD aV];simp only[pure_bind,Sem.run_bind,jT,Sem.run_pure,Result.andThen_ok,e0];rw[show n * (TI.mk k (sz+1) b zr).size=n * zv.cells.size by rw[jI],aP,f1];simp[Go.newRow]
    .exact .sl (Ip.bW _ _ _ _) (QK _) (VH _) (by show 0+n * (sz+1)<=C'.length;omega) (λ_=>rfl) (QK _) (λe=>by cases e) (λk e=>by simpa using e)
   .exact Aq hm hz hc
  .exact Aq hm hz hc
 .exact Aq hm hz hc
theorem kj(hS:eH S)(h:HR S base w0 U ι hp nx w)(hg:GR S ι)(hf:FR ι fr a.tmps){t:Nat}{X Y:Operand}(hm:nb m)(hz:∃n,z=.bad n)(hc:RP S.en t X Y z hp nx fr K=m):
  Fg S base w0 U ι w (do pure (.value (<-Instr.makeSlice t (a.eval X) (a.eval Y)))) K m:=by
 unfold RP at hc
 split at hc
 .rename_i e l c he hl kX
  have hd:=Hd hS he;obtain⟨k1,hX⟩:=Hu hl (Ay hg hf X);obtain⟨k2,hY⟩:=Hu kX (Ay hg hf Y)
  split at hc
  .rename_i k sz b zr hT
   have cY:=hS.T e _ hT;have aT:=cY.sizeOf w;obtain⟨zv,jT,lF,sF,vc,_⟩:=cY.zero ι w;have jI:zv.cells.size=sz+1:=vc;unfold FT at hc;cases hb:(Nat.ble l c&&Nat.ble (Nat.mul c (Nat.succ sz)) 100000&&Nat.ble (Nat.mul c b) 1000000000)<;>rw[hb]at hc
   .exact Aq hm hz hc
   simp only[QB,As]at hb;obtain⟨⟨b1,b2⟩,b3⟩:=hb;have b2:c * (sz+1)<=100000:=b2;have b3:c * b<=1000000000:=b3;obtain⟨h1,h2,rfl⟩:=E6 hm hz hc;have hr:=K1 lF c;have gW:(List.replicate c zv.cells.toList).flatten.length=c * (sz+1):=by rw[Cn];simp[jI]
   have HP:(Nd zr c).length=c * (sz+1):=by rw[hr.1,gW]
   obtain⟨q1,q2⟩:=h.fresh (e:=e) (n:=Nat.mul c (Nat.succ sz)) (arr:=⟨(List.replicate c zv.cells.toList).flatten⟩) h2 h1 (by rw[HP];exact QK _) (by rw[UK,gW];exact QK _) hr
    (λu hu=>by
     obtain⟨l,hl,hu⟩:=List.mem_flatten.1 hu;rw[List.mem_replicate]at hl;exact sF u (hl.2 ▸ hu)) (λi u hu=>by simpa using hu) (en:=c * (sz+1)) (by rw[UK,gW];exact QK _) (QK _)
   refine⟨_,_,_,rfl,_,.slice (some ⟨w.heap.size,0,none⟩) l c,_,q2,q1,.inl ?_,?_⟩
   .obtain⟨i,yG,qZ,_⟩:=cY.ky w
    have hlw:IntKind.i64.wrap (l:Int)=l:=Id (k:=.i64) (by show l<=9223372036854775807;have:c<=c * (sz+1):=YA _ (VH _);omega);have hcw:IntKind.i64.wrap (c:Int)=c:=Id (k:=.i64) (by show c<=9223372036854775807;have:c<=c * (sz+1):=YA _ (VH _);omega);have qZ:i.bytes=b:=qZ;have t1:¬((c:Int)<0):=by omega
    have t2:¬((b:Int) * (c:Int) > 2 ^ 48):=by
     have:(b:Int) * (c:Int)=((c * b:Nat):Int):=by rw[YR,Int.mul_comm]
     rw[this];omega
    have t3:¬((l:Int)<0):=by omega
    have t4:¬((l:Int) > (c:Int)):=by omega
    have dZ:¬((((decide ((c:Int)<0)||decide ((b:Int) * (c:Int) > 2 ^ 48))||decide ((l:Int)<0))||decide ((l:Int) > (c:Int)))=true):=by simp[t1,t3];omega
    simp only[Instr.makeSlice,Sem.run_bind,Ad hd,Result.andThen_ok,hX,hY,asInt,asIntOf,pure_bind,yG,qZ,hlw,hcw,Sem.run_pure];rw[QD (by simpa using dZ)];have hn:(c:Int).toNat=c:=ZP c
    by_cases lY:c=0
    .subst lY
     obtain rfl:l=0:=by omega
     simp[aT,Go.newRow];congr 2;simp
    .have aV:¬c * (TI.mk k (sz+1) b zr).size=0:=Nat.mul_ne_zero lY (Nat.succ_ne_zero _)
     have aP:=N6 zv.cells c (by omega);simp only[Sem.run_bind,run_askRoom,Result.andThen_ok,aT,ZP];rw[QD aV];simp only[Sem.run_bind,jT,Result.andThen_ok];rw[show c * (TI.mk k (sz+1) b zr).size=c * zv.cells.size by rw[jI],aP];simp[Go.newRow]
   .exact .sl (Ip.bW _ _ _ _) (QK _) (VH _) (by show 0+c * (sz+1)<=c * (sz+1);omega) (λ_=>rfl) b1 (λe=>by cases e) (λk e=>by simpa using e)
  .exact Aq hm hz hc
 .exact Aq hm hz hc
theorem j9(hS:eH S)(h:HR S base w0 U ι hp nx w)(hg:GR S ι)(hf:FR ι fr a.tmps){t:Nat}{X Y:Operand}(hm:nb m)(hz:∃n,z=.bad n)(hc:RT S.en t X Y z hp nx fr K=m):
  Fg S base w0 U ι w (do Instr.storeAt t (a.eval X) (a.eval Y);pure .skip) K m:=by
 unfold RT at hc
 split at hc
 .rename_i n hn
  obtain⟨ti,hT,aM⟩:=Do hn;have aT:=(hS.T t ti hT).sizeOf w
  split at hc
  .rename_i r g off he
   have hx:=Ay hg hf X;rw[he]at hx;obtain⟨L,hL,cZ,hv⟩:=hx.fL;unfold Al6 at hc;cases hb:Nat.beq (len (ev S.en fr Y).cells) n<;>rw[hb]at hc
   .exact Aq hm hz hc
   replace hc:zL z (ev S.en fr Y).cells hp r g off (λhp=>K .u hp nx)=m:=hc
   unfold zL at hc
   split at hc
   .rename_i ty tr n' G fz ro mk hr
    cases eA:(Nat.beq g G&&Nat.ble fz off&&!ro&&there tr (len (ev S.en fr Y).cells) off&&Cg Nm (ev S.en fr Y).cells)<;>rw[eA]at hc
    .exact Aq hm hz hc
    simp only[QB,beq_iff,As,XK,B7]at eA;obtain⟨⟨⟨⟨rfl,b2⟩,rfl⟩,b4⟩,b5⟩:=eA;obtain⟨r1,r2⟩:=Aer (Ay hg hf Y) b5;obtain⟨s1,s2⟩:=h.store hL hr cZ b2 b4 r1 r2
    replace hc:zK g (ev S.en fr Y).cells hp r off ty tr n' g fz mk (λhp=>K .u hp nx)=m:=hc
    unfold zK at hc;rw[Px,Tr.bS]at hc;refine⟨_,_,_,hc.symm,ι,undef,_,Ex.refl,s2,.inr ⟨?_,rfl⟩,.u⟩;have hlen:(a.eval Y).cells.size=ti.size:=by
     rw[aM,<-(beq_iff _ _).1 hb,B7,r1.1];simp
    simp[Instr.storeAt,hv,Instr.sureAddr,storeVar,aT,hlen,s1]
   .exact Aq hm hz hc
  .exact Aq hm hz hc
 .exact Aq hm hz hc
theorem Wn(n:Nat):∀(l i:Nat),H2 n l i=(List.range l).map λj=>CV.i .u8 (Ea n (i+j):Int)
 |0,i=>rfl
 |l+1,i=>by
  show CV.i .u8 (.ofNat (Ea n i)) :: H2 n l (i+1)=_;rw[Wn n l (i+1),List.range_succ_eq_map,UE,List.map_map];congr 1;apply VJ;intro j _;simp only[Function.comp];rw[show i+1+j=i+(j+1) by omega]
theorem Q4(l n:Nat):cF ι (H2 n l 0) ((strOf l n).data.toList.map λb=>Value.int .u8 (b.toNat:Int)):=by
 rw[Cj,Wn];refine⟨by simp[Ek],λi x v h1 h2=>?_⟩;rw[QP]at h1 h2;cases hr:(List.range l)[i]? with
 |none=>rw[hr]at h1;cases h1
 |some j =>
  rw[hr]at h1;cases h1;have aA:i<l:=by have:=(List.getElem?_eq_some_iff.1 hr).1;simpa using this
  have pj:j=i:=by
   rw[UO aA]at hr;cases hr;rfl
  subst pj;have hd:=Tp l n j aA;cases px:(iH l n)[j]? with
  |none=>rw[px]at hd;cases hd
  |some c =>
   rw[px]at h2 hd;cases h2;have hd:c.toNat=Ea n j:=by simpa using hd
   show VR ι (.i .u8 (Ea n (0+j):Int)) (.int .u8 (c.toNat:Int));rw[hd,XD];exact .i _ _
theorem y5(h:HR S base w0 U ι hp nx w){e l n:Nat}(_hn:n<256 ^ l)(hm:nb m)(hz:∃n,z=.bad n)(hc:ar e l n z hp nx K=m):Fg S base w0 U ι w (do pure (.value (<-Conv.stringToBytes e (strOf l n)))) K m:=by
 unfold ar at hc;cases hb:Nat.ble l 1000000000<;>rw[hb]at hc
 .exact Aq hm hz hc
 obtain⟨h1,h2,rfl⟩:=E6 hm hz hc;obtain⟨cap,dH,CC⟩:∃cap,l<=cap/\(choose (.appendCap (strOf l n).size 0 e)).run S.P w=.ok cap w.drew:=by
  refine⟨_,?_,by rw[run_choose_drew];rfl⟩;show l<=(strOf l n).size+_;rw[A7];exact YM _ _
 have hb:=Q4 (ι:=ι) l n;have nP:(H2 n l 0).length=l:=by rw[hb.1];simp[Cj,Ek]
 let arr:Array Value:=(strOf l n).data.map (λb=>Value.int .u8 (b.toNat:Int))++Array.replicate (cap-(strOf l n).size) (.int .u8 0)
 have mV:(strOf l n).data.size=l:=A7 l n;have kH:arr.size=cap:=by
  show (_++_:Array Value).size=cap;rw[Array.size_append,VN,Array.size_replicate,A7,mV];omega
 have hd:HR S base w0 U ι hp nx w.drew:=h.drew;have aM:w.drew.heap.size=w.heap.size:=rfl;have bV:=hd.new (en:=cap) (ob:=.cells arr e (arr.size,arr.size+1)) h2 (o:=.c e (oZ (H2 n l 0) 0) l 0 0 false true)
  (Z5 (L:=⟨w.drew.heap.size,0,cap⟩) (World.alloc_heap_new _ _) rfl (by rw[kH];exact QK _) dH (by rw[nP];exact QK _) (by unfold aH;omega) (hb.mono (Ip.gZ (by
   cases e:ι nx 0 with
   |none=>rfl
   |some L=>have:=h.oB nx 0 L e;omega))) (λu hu=>by
    obtain⟨b,_,rfl⟩:=List.mem_map.1 hu;rfl) (λi u hu=>by
    show (_++_:Array Value)[i]?=some u;have aA:i<l:=by
     have:=(List.getElem?_eq_some_iff.1 hu).1;rw[XW,Cj,Ek]at this;exact this
    rw[YB (by rw[VN,mV];exact aA),Array.getElem?_map,<-QG,<-QP];exact hu) (.inr rfl))
 obtain⟨q1,q2⟩:=bV;refine⟨_,_,_,rfl,_,.slice (some ⟨w.heap.size,0,none⟩) l cap,_,q2,q1,.inl ?_,?_⟩
 .have pC:(w.drew.alloc (.cells arr e)).shape? w.heap.size=some (e,arr.size):=by
   have:=World.alloc_heap_new w.drew (.cells arr e);unfold World.shape?;rw[show (w.drew.alloc (.cells arr e)).heap[w.heap.size]?=some (.cells arr e) from this]
  have xY:(w.drew.alloc (.cells arr e)).freeze { block:=w.heap.size,off:=arr.size } 1=w.drew.alloc (.cells arr e (arr.size,arr.size+1)):=by
   have:(w.heap.push (.cells arr e)).modify w.heap.size (fun
     |.cells c elem (lo,hi)=>.cells c elem (if lo==hi then (arr.size,arr.size+1) else (min lo arr.size,max hi (arr.size+1)))
     |o=>o)=w.heap.push (.cells arr e (arr.size,arr.size+1)):=by
    apply XN;apply UZ;intro i;rw[QG,QG,XZ,UQ,UQ]
    by_cases hi:i=w.heap.size
    .simp[hi]
    .simp[hi,Ne.symm hi]
   unfold World.freeze World.alloc;rw[QD (by omega)];exact congrArg (λh=>(⟨h,w.drew.tape,w.drew.drawn,w.drew.os,w.drew.output⟩:World)) this
  have yQ:arr=((strOf l n).data.map (λb=>Value.int .u8 (b.toNat:Int))++Array.replicate (cap-(strOf l n).size) (.int .u8 0)):=rfl;simp only[Conv.stringToBytes,Sem.run_bind,CC,Result.andThen_ok,Go.newRow,run_newObj_alloc,Sem.run_pure,markStringish,run_shape];rw[<-yQ,show w.drew.heap.size=w.heap.size from rfl,pC];simp only[run_freeze,xY,Result.andThen_ok,A7]
 .exact .sl (Ip.bW _ _ _ _) (QK _) (by omega) (by show 0+cap * 1<=cap;omega) (λ_=>rfl) dH (λ_=>by show cap=(cap-0) / 1;simp) (λk e=>by cases e)
end
section
variable {S:Sg} {base:Nat} {w0 w:World} {U:Nat->Option CO} {ι:Ip} {hp:Tr CO} {nx:Nat} {fr:Tr CV} {a:Act} {K:KA} {z m:AM}
def single:CO->Bool
 |.c _ _ _ _ _ _ _=>false
 |.dead=>false
 |_=>true
theorem Abz{L:Loc}{g:Nat}{o:CO}(hs:single o=true)(h:OR S ι w L g o):g=0:=by
 cases o<;>first|(cases hs;done)|exact h.1
theorem Aa8{b:Nat}{ob:Obj}(hb:base<=b):Below base w (w.putObj b ob) :=
 ⟨rfl,rfl,rfl,by simp,λk hk=>World.putObj_heap_other (by omega)⟩
theorem HR.setObj(h:HR S base w0 U ι hp nx w){r:Nat}{L:Loc}{o o':CO}{ob:Obj}(hL:ι r 0=some L)(hr:hp.get r=some o)(hs:single o=true)(ho:OR S ι (w.putObj L.aE ob) L 0 o'):
  HR S base w0 U ι (hp.set r o') nx (w.putObj L.aE ob):=by
 obtain⟨o1,q1,q2,q3,q4⟩:=h.obj r 0 L hL;rw[hr]at q1;cases q1;have eW:SL o=false:=by cases o<;>first|rfl|cases hs
 have nP:base<=L.aE:=UF λhb=>by have:=q4 hb;rw[eW]at this;cases this
 refine h.write Ex.refl (λ_ _ _ e=>.inl e) (Aa8 nP) (h.oB r 0 L hL) (h.gM hL) (λr' g' L' e aV=>World.putObj_heap_other (λhb=>aV (h.inj _ _ _ _ _ _ e hL hb).1)) (λg L' e=>?_)
  (λg L' r' g' l9 e e' aV he=>aV (h.inj _ _ _ _ _ _ e' e he.symm).1) (λg L' g' l9 e e' he=>(h.inj _ _ _ _ _ _ e e' he).2)
 obtain⟨o1,p1,p2,p3,p4⟩:=h.obj r g L' e;rw[hr]at p1;cases p1;obtain rfl:=Abz hs p2;rw[hL]at e;cases e;exact⟨ho,by simpa using q3,λhb=>by omega⟩
theorem Kz{P:Program}{b:Nat}{ob ob':Obj}(h:w.heap[b]?=some ob)(hn:∀c t f,ob≠.cells c t f):(setObj b ob').run P w=.ok () (w.putObj b ob'):=by
 simp only[Go.setObj,Sem.run,h];cases ob<;>first|rfl|exact (hn _ _ _ rfl).elim
theorem ki(h:HR S base w0 U ι hp nx w){same:Bool}{r g off l sz cap:Nat}{u:Value}(hx:VR ι (.sl r g off l sz cap) u)(hm:nb m)(hz:∃n,z=.bad n)(hc:Ana same r g off l sz cap z hp nx K=m):
  same=true/\∃ad c,u=.slice (some ad) l c/\Fg S base w0 U ι w (do markStringish ad;pure (.value u)) K m:=by
 unfold Ana at hc
 split at hc
 .rename_i ty tr n G fz ro mk hr
  cases hb:(same&&Nat.beq g G&&Nat.beq fz 0&&!ro&&Nat.ble 1 l)<;>rw[hb]at hc
  .exact Aq hm hz hc
  simp only[QB,beq_iff,As,XK]at hb;obtain⟨⟨⟨⟨rfl,rfl⟩,rfl⟩,rfl⟩,HP⟩:=hb;obtain⟨L,ad,c,hL,cZ,nM,fR,fQ,qW,lY,mW,rfl⟩:=hx.aS;refine⟨rfl,ad,c,rfl,?_⟩;have fQ:=fQ (by omega);subst fQ
  replace hc:Tr.dL hp r (.c ty tr n g 0 false true) (λhp=>K (.sl r g off l sz cap) hp nx)=m:=hc
  rw[Tr.bS]at hc;obtain⟨o,q1,q2,q3,q4⟩:=h.obj r g L hL;rw[hr]at q1;cases q1;have nP:base<=L.aE:=UF λhb=>by have:=q4 hb;cases this
  obtain⟨_,arr,gR,p1,p2,p3,p4⟩:=q2;obtain⟨p5,p6⟩:=p4 rfl;have IJ:(if gR.1==gR.2 then (arr.size,arr.size+1) else (min gR.1 arr.size,max gR.2 (arr.size+1)))=(arr.size,arr.size+1):=by
   by_cases uC:mk=true
   .rw[QE uC]at p6
    rcases p6 with rfl|rfl
    .rfl
    .rw[QD (by simp)];simp
   .rw[QD uC]at p6
    obtain⟨f1,f2⟩:=gR;have e1:f1=0:=p6.1;have e2:f2=0:=by have:f2<=0-L.lo:=p6.2;omega
    subst e1 e2;rfl
  have iV:(w.freeze { block:=L.aE,off:=arr.size } 1).heap[L.aE]?=some (.cells arr ty (arr.size,arr.size+1)):=by
   unfold World.freeze;rw[QD (by omega)];rw[XZ,QE rfl,p1,QO];exact congrArg (λq=>some (Obj.cells arr ty q)) IJ
  have eh:∀k,k≠L.aE->(w.freeze { block:=L.aE,off:=arr.size } 1).heap[k]?=w.heap[k]?:=λk hk=>by
   unfold World.freeze;rw[QD (by omega)];simp only[XZ];rw[QD (Ne.symm hk)]
  have ve:(w.freeze { block:=L.aE,off:=arr.size } 1).heap.size=w.heap.size:=by
   unfold World.freeze;rw[QD (by omega)];simp
  have GM:Below base w (w.freeze { block:=L.aE,off:=arr.size } 1):=by
   refine⟨?_,?_,?_,by omega,λk hk=>eh k (by omega)⟩<;>(unfold World.freeze;rw[QD (by omega)])
  have bV:HR S base w0 U ι (hp.set r (.c ty tr n g 0 false true)) nx (w.freeze { block:=L.aE,off:=arr.size } 1):=by
   refine h.write Ex.refl (λ_ _ _ e=>.inl e) GM (h.oB r g L hL) (h.gM hL) (λr' g' L' e aV=>eh _ (λhb=>aV (h.inj _ _ _ _ _ _ e hL hb).1)) (λg' L' e=>?_)
    (λg L' r' g' l9 e e' aV he=>aV (h.inj _ _ _ _ _ _ e' e he.symm).1) (λg L' g' l9 e e' he=>(h.inj _ _ _ _ _ _ e e' he).2)
   obtain⟨o,a1,b,c',d⟩:=h.obj r g' L' e;rw[hr]at a1;cases a1;obtain⟨fm,pN,p7,r1,r2,r3,r4⟩:=b
   by_cases dN:L'.aE=L.aE
   .obtain rfl:L=L':=(h.inj _ _ _ _ _ _ e hL dN).2.symm
    rw[p1]at r1;cases r1;exact⟨⟨fm,arr,_,iV,r2,r3,λhg=>⟨(r4 hg).1,by rw[QE rfl];exact .inr rfl⟩⟩,by rw[ve];exact c',d⟩
   .refine⟨⟨fm,pN,p7,by rw[eh _ dN];exact r1,r2,r3,λhg=>?_⟩,by rw[ve];exact c',d⟩
    subst hg;rw[hL]at e;cases e;exact absurd rfl dN
  refine⟨_,_,_,hc.symm,ι,_,_,Ex.refl,bV,.inl ?_,hx⟩;have pC:w.shape? L.aE=some (ty,arr.size):=by simp[World.shape?,p1]
  simp[markStringish,pC]
 .exact Aq hm hz hc
theorem Alk(h:HR S base w0 U ι hp nx w){t:TypeId}(hm:nb m)(hz:∃n,z=.bad n)(hc:(Ot z (.mp []) hp nx λhp gN=>K (.m nx) hp gN)=m):
  Fg S base w0 U ι w (do pure (.value (<-Instr.makeMap t none))) K m:=by
 obtain⟨h2,rfl⟩:=Mb hm hz hc;obtain⟨q1,q2⟩:=h.new (en:=0) (ob:=.map #[] 0) (o:=.mp []) h2 ⟨rfl,#[],0,World.alloc_heap_new _ _,rfl,by simp⟩;exact⟨_,_,_,rfl,_,.map (some w.heap.size),_,q2,q1,.inl (by simp[Instr.makeMap]),.m (Ip.bW _ _ _ _)⟩
theorem Apj{a b:ByteArray}(h:(a==b)=true):a=b:=by
 rw[beq_toListBytes,XI,toList_eq,toList_eq]at h;apply ByteArray.ext;rw[<-Array.toList_inj];exact h
theorem Zt{d:TypeDesc}{u v:Value}(n:Nat)(h:Instr.sameNow d u v=some true):Instr.sameBits n v u=true:=by
 unfold Instr.sameNow at h
 split at h<;>first|(cases h;done)|skip
 .split at h
  .rename_i hk
   have h:(_==_)=true:=Option.some.inj h;subst hk;cases n<;>(simp only[Instr.sameBits];simp at h;simp[h])
  .cases h
 .have h:(_==_)=true:=Option.some.inj h
  have GK:=Apj h;subst GK;cases n<;>(simp only[Instr.sameBits];rw[beq_toListBytes];simp)
 .have h:(_==_)=true:=Option.some.inj h
  cases n<;>(simp only[Instr.sameBits];simp at h;simp[h])
theorem Yl{k:TK}{d:TypeDesc}{x v:CV}{u:Value}(hk:AO k x=true)(hd:Bp S.P k d=true)(hx:VR ι x u):∀(es lM:List (CV×CV)) (ms:List MapEntry) (i:Nat),es.length=ms.length->
  (∀(i:Nat) (e:CV×CV) (m:MapEntry),es[i]?=some e->ms[i]?=some m->VR ι e.1 m.key/\VR ι e.2 m.val)->Z9 x v es=some lM->
  (Instr.findNow d u ms i=some none/\lM=es++[(x,v)])\/∃j m,ms[j]?=some m/\Instr.findNow d u ms i=some (some (i+j,m.val))/\Instr.sameNow d u m.key=some true/\lM=es.set j (x,v)
 | [],lM,[],i,_,_,h=>by cases h;exact .inl ⟨rfl,rfl⟩
 |e :: es,lM,m :: ms,i,hl,hr,h=>by
  replace h:(match jn 6 x e.1 with|some true=>some ((x,v) :: es)|some false=>(match Z9 x v es with|some t=>some (e :: t)|none=>none)|none=>none)=some lM:=h
  have hm:=hr 0 e m rfl rfl
  split at h
  .rename_i he
   cases h;have GV:=O3 hk hd he hx hm.1;exact .inr ⟨0,m,rfl,by simp[Instr.findNow,GV],GV,rfl⟩
  .rename_i he
   split at h
   .rename_i t ht
    cases h;have GV:=O3 hk hd he hx hm.1;rcases Yl hk hd hx es t ms (i+1) (by simpa using hl) (λj e' m' a b=>hr (j+1) e' m' (by simpa using a) (by simpa using b)) ht with⟨f1,rfl⟩|⟨j,m',f1,f2,f3,rfl⟩
    .exact .inl ⟨by simp[Instr.findNow,GV,f1],rfl⟩
    .exact .inr ⟨j+1,m',by simpa using f1,by simp only[Instr.findNow,GV];rw[f2];congr 3;omega,f3,rfl⟩
   .cases h
  .cases h
theorem Ai1(hS:eH S)(h:HR S base w0 U ι hp nx w)(hg:GR S ι)(hf:FR ι fr a.tmps){t:Nat}{M X Y:Operand}(hm:nb m)(hz:∃n,z=.bad n)(hc:Q2 S.en t M X Y z hp nx fr K=m):
  Fg S base w0 U ι w (do Instr.mapUpdate t (a.eval M) (a.eval X) (a.eval Y);pure .skip) K m:=by
 unfold Q2 at hc
 split at hc
 .rename_i kt e n b zr hT
  have hd:=(hS.T t _ hT).map rfl;have hM:=Ay hg hf M;have hX:=Ay hg hf X;have hY:=Ay hg hf Y
  split at hc
  .rename_i r hMr
   rw[hMr]at hM;obtain⟨L,hL,hv⟩:=hM.qF;unfold Anb at hc
   split at hc
   .rename_i es hr
    cases hk:Vo S.en kt (ev S.en fr X)<;>rw[hk]at hc
    .exact Aq hm hz hc
    replace hc:(match Z9 (ev S.en fr X) (ev S.en fr Y) es with|some es=>Tr.dL hp r (.mp es) (λhp=>K .u hp nx)|none=>z)=m:=hc
    split at hc
    .rename_i lM hes
     rw[Tr.bS]at hc;unfold Vo at hk
     split at hk
     .rename_i tk hTk
      obtain⟨dk,fq,pG⟩:=(hS.T kt tk hTk).jF;have vH:(Instr.checkKey false 10000 kt (a.eval X)).run S.P w=.ok () w:=Yr hk fq pG;obtain⟨_,fT,cl,q1,q2,q3⟩:=h.rd.of hL hr;have aU:(getObj L.aE).run S.P w=.ok (.map fT cl) w:=by simp[getObj,Sem.run,q1]
      have NT:es.length=fT.toList.length:=by rw[q2];simp
      have NS:∀(i:Nat) (e:CV×CV) (m:MapEntry),es[i]?=some e->fT.toList[i]?=some m->VR ι e.1 m.key/\VR ι e.2 m.val:=λi e m a b=>q3 i e m a (by rw[QG]at b;exact b);have lU:∀ob,(Go.setObj L.aE ob).run S.P w=.ok () (w.putObj L.aE ob):=λob=>Kz q1 (λ_ _ _ e=>by cases e);have aA:L.aE<w.heap.size:=(Array.getElem?_eq_some_iff.1 q1).1;rcases Yl hk pG hX es lM fT.toList 0 NT NS hes with⟨f1,rfl⟩|⟨j,me,f1,f2,f3,rfl⟩
      .have bV:=h.setObj (o':=.mp (es++[(ev S.en fr X,ev S.en fr Y)])) (ob:=.map (fT.push { key:=a.eval X,val:=a.eval Y,born:=cl }) (cl+1)) hL hr rfl
        ⟨rfl,_,_,World.putObj_heap_same aA,by simp[q2],λi e m h1 h2=>by
         rw[YC]at h1;rw[UQ]at h2
         split at h1
         .rename_i hi
          rw[QD (by omega)]at h2;exact q3 i e m h1 h2
         .rename_i hi
          have h0:i-es.length=0:=by have:=(List.getElem?_eq_some_iff.1 h1).1;simp at this;omega
          rw[h0]at h1;cases h1;rw[QE (by omega)]at h2;cases h2;exact⟨hX,hY⟩⟩
       refine⟨_,_,_,hc.symm,ι,undef,_,Ex.refl,bV,.inr ⟨?_,rfl⟩,.u⟩;simp[Instr.mapUpdate,Ad hd,hv,aU,vH,Instr.findKey,Ad fq,f1,lU]
      .rw[XD]at f2
       have hj:j<fT.size:=by have:=(List.getElem?_eq_some_iff.1 f1).1;simpa using this
       have OO:fT[j]?=some me:=by rw[<-QG];exact f1
       have bV:=h.setObj (o':=.mp (es.set j (ev S.en fr X,ev S.en fr Y))) (ob:=.map (fT.modify j λe=>{ e with key:=a.eval X,val:=a.eval Y }) cl) hL hr rfl
        ⟨rfl,_,_,World.putObj_heap_same aA,by simp[q2],λi e m h1 h2=>by
         rw[XZ]at h2;rw[ZK]at h1
         by_cases IE:j=i
         .subst IE
          rw[QE rfl]at h1 h2;rw[OO]at h2;rw[QE (by omega)]at h1;cases h1;cases h2;exact⟨hX,hY⟩
         .rw[QD IE]at h1 h2
          exact q3 i e m h1 h2⟩
       refine⟨_,_,_,hc.symm,ι,undef,_,Ex.refl,bV,.inr ⟨?_,rfl⟩,.u⟩;have hb:Instr.sameBits 10000 me.key (a.eval X)=true:=Zt 10000 f3;simp[Instr.mapUpdate,Ad hd,hv,aU,vH,Instr.findKey,Ad fq,f2,lU,OO,Instr.keyThatStays,hb]
     .cases hk
    .exact Aq hm hz hc
   .exact Aq hm hz hc
  .exact Aq hm hz hc
 .exact Aq hm hz hc
theorem kh(hS:eH S)(h:HR S base w0 U ι hp nx w)(hg:GR S ι)(hf:FR ι fr a.tmps){t:Nat}{X:Operand}(hm:nb m)(hz:∃n,z=.bad n)(hc:RQ S.en t X z hp nx fr K=m):
  Fg S base w0 U ι w (do pure (.value (<-Instr.range t (a.eval X)))) K m:=by
 unfold RQ at hc
 split at hc
 .rename_i n b zr hT
  have hd:=(hS.T t _ hT).string rfl;have hX:=Ay hg hf X
  split at hc
  .rename_i l n hx
   rw[hx]at hX;obtain⟨hv,hn⟩:=hX.fJ;obtain⟨h2,rfl⟩:=Mb hm hz hc;obtain⟨q1,q2⟩:=h.new (en:=0) (ob:=.stringIter (strOf l n) 0) (o:=.it l n 0) h2 ⟨rfl,hn,World.alloc_heap_new _ _⟩;exact⟨_,_,_,rfl,_,.pointer (some ⟨w.heap.size,0,none⟩),_,q2,q1,.inl (by simp[Instr.range,Ad hd,hv]),.p (Ip.bW _ _ _ _) (QK _)⟩
  .exact Aq hm hz hc
 .exact Aq hm hz hc
theorem X2!{l n i:Nat}(hi:i<l):((strOf l n).get! i).toNat=Ea n i:=by
 have vF:=Tp l n i hi;cases lX:(iH l n)[i]? with
 |none=>rw[lX]at vF;cases vF
 |some c =>
  rw[lX]at vF;have vF:c.toNat=Ea n i:=by simpa using vF
  have h2:(strOf l n).data.toList[i]?=some c:=by rw[Cj];exact lX
  rw[QG]at h2;have h3:(strOf l n).get! i=c:=by
   show (strOf l n).data[i]! = c;rw[getElem!_def,h2]
  rw[h3,vF]
theorem Ae9{l n i:Nat}(hi:i<l)(hb:Ea n i<=127):Utf8.decode (strOf l n) i=(Ea n i,1):=by
 rw[Lib.decode_at,X2! hi];unfold Lib.decodeN;rw[QE (by omega)]
theorem y6(h:HR S base w0 U ι hp nx w)(hg:GR S ι)(hf:FR ι fr a.tmps){X:Operand}{s:Bool}{ty:TypeId}(hm:nb m)(hz:∃n,z=.bad n)(hc:PQ S.en X s z hp nx fr K=m):
  Fg S base w0 U ι w (do pure (.value (<-Instr.next (a.eval X) s ty))) K m:=by
 unfold PQ at hc;cases s
 .exact Aq hm hz hc
 replace hc:(match ev S.en fr X with|.p r _ off=>(match hp.get r with|some (.it l n i)=>bif Nat.beq off 0 then PK r l n i z hp nx K else z|_=>z)|_=>z)=m:=hc
 have hX:=Ay hg hf X
 split at hc
 .rename_i r g off hx
  rw[hx]at hX
  split at hc
  .rename_i l n i hr
   cases ho:Nat.beq off 0<;>rw[ho]at hc
   .exact Aq hm hz hc
   rw[beq_iff]at ho;subst ho
   replace hc:PK r l n i z hp nx K=m:=hc
   obtain⟨L,hL,cZ,hv⟩:=hX.fL;obtain⟨lJ,hn,q1⟩:=h.rd.of hL hr;subst lJ;have aA:L.aE<w.heap.size:=(Array.getElem?_eq_some_iff.1 q1).1;have aU:(getObj L.aE).run S.P w=.ok (.stringIter (strOf l n) i) w:=by simp[getObj,Sem.run,q1]
   have lU:∀ob,(Go.setObj L.aE ob).run S.P w=.ok () (w.putObj L.aE ob):=λob=>Kz q1 (λ_ _ _ e=>by cases e);rw[Nat.zero_sub]at hv;unfold PK at hc;cases hb:Nat.ble (Nat.succ i) l<;>rw[hb]at hc
   .replace hc:K (.tup [.b false]) hp nx=m:=hc
    have BV:¬i<l:=λaA=>by
     have:=(As (Nat.succ i) l).2 aA;rw[hb]at this;cases this
    refine⟨_,_,_,hc.symm,ι,.tuple #[.bool false],w,Ex.refl,h,.inl ?_,.nS (.cons (.b _) .nil)⟩;simp[Instr.next,hv,aU,A7,BV]
   .have BV:i<l:=(As _ _).1 hb
    cases eA:Nat.ble (Ea n i) 127<;>rw[eA]at hc
    .exact Aq hm hz hc
    replace hc:Gg (Nat.succ i) (λi'=>Tr.dL hp r (.it l n i') λhp=>K (.tup [.b true,.i .i64 (.ofNat i),.i .i32 (.ofNat (Ea n i))]) hp nx)=m:=hc
    rw[Ej,Tr.bS]at hc;have aa4:=Ae9 BV ((As _ _).1 eA);have bV:=h.setObj (o':=.it l n (i+1)) (ob:=.stringIter (strOf l n) (i+1)) hL hr rfl ⟨rfl,hn,World.putObj_heap_same aA⟩;refine⟨_,_,_,hc.symm,ι,.tuple #[.bool true,.int .i64 i,.int .i32 (Ea n i)],_,Ex.refl,bV,.inl ?_,.nS (.cons (.b _) (.cons (.i _ _) (.cons (.i _ _) .nil)))⟩;simp[Instr.next,hv,aU,A7,BV,aa4,lU,goInt]
  .exact Aq hm hz hc
 .exact Aq hm hz hc
end
section
variable {S:Sg} {base:Nat} {w0 w:World} {U:Nat->Option CO} {ι:Ip} {hp:Tr CO} {nx:Nat} {fr:Tr CV} {a:Act} {K:KA} {z m:AM}
theorem Ag9(l n k:Nat):(((strOf l n).extract 0 k).data.map λb=>Value.int .u8 (b.toNat:Int))=⟨((strOf l n).data.toList.map λb=>Value.int .u8 (b.toNat:Int)).take k⟩:=by
 apply XN;rw[ZU,ByteArray.data_extract,Array.toList_extract,List.extract_eq_take_drop];simp[List.map_take]
theorem P5{P:Program}{ad:Addr}:(loadCells ad 0).run P w=.ok #[] w:=by
 simpa using run_loadCells_list (P:=P) w ad [] (by simp)
theorem Y9(h:Rd S ι hp w){sz n:Nat}{x:CV}{cs:List CV}{u:Value}(hs:PZ hp sz x=some (cs,n))(hx:VR ι x u):
  ∃us,cF ι cs us/\us.length=n * sz/\∀w':World,w'.heap=w.heap->(Builtin.lenOf u).run S.P w'=.ok n w'/\∀k,k<=n->(Builtin.firstCells sz k u).run S.P w'=.ok ⟨us.take (k * sz)⟩ w':=by
 unfold PZ at hs
 split at hs
 .cases hs
  cases hx;refine⟨[],.nil,by simp,λw' iV=>⟨by simp[Builtin.lenOf],λk hk=>?_⟩⟩;simp[Builtin.firstCells]
 .rename_i r g off l cN cap
  cases hb:Nat.beq sz cN<;>rw[hb]at hs
  .cases hs
  rw[beq_iff]at hb;subst hb
  replace hs:Ag4 hp sz r g off l=some (cs,n):=hs
  obtain⟨L,ad,c,hL,cZ,nM,fR,fQ,qW,lY,mW,rfl⟩:=hx.aS;unfold Ag4 at hs
  split at hs
  .rename_i ty tr n' G fz ro mk hr
   split at hs
   .rename_i dK cV
    cases hs;obtain⟨us,p1,p2,p3,p4⟩:=(h.of hL hr).cells cZ cV;have p1:us.length=n * sz:=p1;refine⟨us,p2,p1,λw' iV=>⟨by simp[Builtin.lenOf],λk hk=>?_⟩⟩;simp only[Builtin.firstCells]
    by_cases h0:k * sz=0
    .rw[h0];exact P5
    .have lW:0<k:=YY λe=>h0 (by rw[e,VF])
     have fQ:=fQ (by omega);subst fQ;have hle:k * sz<=us.length:=by rw[p1];exact QH _ hk
     have hl:(us.take (k * sz)).length=k * sz:=by rw[ZF];omega
     have:=Iz (P:=S.P) (w:=w') (b:=L.aE) (o:=off-L.lo) (us:=us.take (k * sz)) (λj u hj=>by
      rw[QL]at hj
      split at hj
      .have:=p4 j u hj
       simp only[World.cell?,iV]at this ⊢;exact this
      .cases hj)
     rw[hl]at this;exact this
   .cases hs
  .cases hs
 .rename_i l num
  cases hb:Nat.beq sz 1<;>rw[hb]at hs
  .cases hs
  rw[beq_iff]at hb;subst hb;cases hs;obtain⟨rfl,hn⟩:=hx.fJ;refine⟨_,Q4 _ _,by simp[Cj,Ek],λw' iV=>⟨by simp[Builtin.lenOf,A7],λk hk=>?_⟩⟩;simp only[Builtin.firstCells,Sem.run_pure,VS];rw[Ag9]
 .cases hs
theorem Aov(hS:eH S){t e sz:Nat}(h:OP S.en t=some (e,sz)):S.P.underlying t=some (.slice e)/\0<sz/\∃ti,S.en.T e=some ti/\ti.size=sz/\ti.bytes<=100000:=by
 unfold OP at h
 split at h
 .rename_i e' he
  split at h
  .rename_i k s b zr hT
   cases hb:Nat.ble b 100000<;>rw[hb]at h
   .cases h
   .cases h
    exact⟨Hd hS he,VH _,_,hT,rfl,(As _ _).1 hb⟩
  .cases h
 .cases h
theorem y7(hS:eH S)(h:HR S base w0 U ι hp nx w)(hg:GR S ι)(hf:FR ι fr a.tmps){xs:List Operand}{ts:List TypeId}{ty:TypeId}(hm:nb m)(hz:∃n,z=.bad n)(hc:Zd S.en xs ts z hp nx fr K=m):
  Fg S base w0 U ι w (do pure (.value (<-Builtin.copy_ ts.toArray ty (xs.map a.eval).toArray))) K m:=by
 unfold Zd at hc
 split at hc
 .rename_i s x t t2
  split at hc
  .rename_i e sz he
   obtain⟨hd,fA,ti,hT,aM,_⟩:=Aov hS he;have aT:=(hS.T e ti hT).sizeOf w;have hX:=Ay hg hf x;have hY:=Ay hg hf s;unfold copyV at hc
   split at hc
   .rename_i r g off l cN cap cs n hs hx
    cases hb:Nat.beq sz cN<;>rw[hb]at hc
    .exact Aq hm hz hc
    rw[beq_iff]at hb;subst hb;rw[hs]at hY;obtain⟨L,ad,c,hL,cZ,nM,fR,fQ,qW,lY,mW,hv⟩:=hY.aS;obtain⟨us,q2,q3,q4⟩:=Y9 h.rd hx hX;obtain⟨q1,q4⟩:=q4 w rfl;have wy:(bif Nat.ble n l then n else l)=Nat.min n l:=by
     cases hb:Nat.ble n l
     .have:¬n<=l:=λhle=>by have:=(As _ _).2 hle;rw[hb]at this;cases this
      show l=min n l;omega
     .have:=(As _ _).1 hb
      show n=min n l;omega
    replace hc:Ao1 cs (bif Nat.ble n l then n else l) sz r g off z hp nx K=m:=hc
    rw[wy]at hc;have xb:=q4 (Nat.min n l) (Nat.min_le_left _ _);unfold Ao1 at hc;cases gQ:Nat.beq (Nat.min n l) 0<;>rw[gQ]at hc
    .replace hc:zL z (takeN (Nat.mul (Nat.min n l) sz) cs) hp r g off (λhp=>K (.i .i64 (.ofNat (Nat.min n l))) hp nx)=m:=hc
     rw[Ax]at hc;have aV:Nat.min n l≠0:=λe=>by rw[e]at gQ;cases gQ
     have fQ:=fQ (by have:Nat.min n l<=l:=Nat.min_le_right _ _;omega);subst fQ;unfold zL at hc
     split at hc
     .rename_i lN tr n' G fz ro mk hr
      generalize vG:cs.take (Nat.mul (Nat.min n l) sz)=dK at hc
      cases eA:(Nat.beq g G&&Nat.ble fz off&&!ro&&there tr (len dK) off&&Cg Nm dK)<;>rw[eA]at hc
      .exact Aq hm hz hc
      simp only[QB,beq_iff,As,XK,B7]at eA;obtain⟨⟨⟨⟨rfl,b2⟩,rfl⟩,b4⟩,b5⟩:=eA;have aY:cF ι dK (us.take (Nat.min n l * sz)):=by rw[<-vG];exact q2.take _
      have h1:∀u∈us.take (Nat.min n l * sz),u.oneCell'=true:=λu hu=>by
       obtain⟨i,hi⟩:=List.mem_iff_getElem?.1 hu;have aA:i<dK.length:=by rw[aY.1];exact (List.getElem?_eq_some_iff.1 hi).1
       exact Oo ((Cz _ _).1 b5 _ (XQ aA)) (aY.2 i _ u (QA aA) hi)
      obtain⟨s1,s2⟩:=h.store hL hr cZ b2 b4 aY h1
      replace hc:zK g dK hp r off lN tr n' g fz mk (λhp=>K (.i .i64 (.ofNat (Nat.min n l))) hp nx)=m:=hc
      unfold zK at hc;rw[Px,Tr.bS]at hc;refine⟨_,_,_,hc.symm,ι,.int .i64 (Nat.min n l:Nat),_,Ex.refl,s2,.inl ?_,.i _ _⟩;simp[Builtin.copy_,Ad hd,hv,q1,aT,aM,xb,s1,goInt]
     .exact Aq hm hz hc
    .replace hc:K (.i .i64 (.ofNat 0)) hp nx=m:=hc
     have h0:Nat.min n l=0:=(beq_iff _ _).1 gQ;rw[h0]at xb;refine⟨_,_,_,hc.symm,ι,.int .i64 (0:Nat),w,Ex.refl,h,.inl ?_,.i _ _⟩;simp[Builtin.copy_,Ad hd,hv,q1,aT,aM,h0,xb,storeCells,goInt]
   .exact Aq hm hz hc
  .exact Aq hm hz hc
 .exact Aq hm hz hc
theorem ks(hS:eH S)(h:HR S base w0 U ι hp nx w)(hg:GR S ι)(hf:FR ι fr a.tmps){xs:List Operand}{ts:List TypeId}{ty:TypeId}(hm:nb m)(hz:∃n,z=.bad n)(hc:Q3 S.en xs ts z hp nx fr K=m):
  Fg S base w0 U ι w (do pure (.value (<-Builtin.clear_ ts.toArray ty (xs.map a.eval).toArray))) K m:=by
 unfold Q3 at hc
 split at hc
 .rename_i x t
  split at hc
  .rename_i e he
   have hd:=Hd hS he
   split at hc
   .rename_i k s b zr hT
    have cY:=hS.T e _ hT;obtain⟨zv,jT,lF,sF,vc,_⟩:=cY.zero ι w;have hX:=Ay hg hf x;unfold Ao9 at hc
    split at hc
    .rename_i hx
     rw[hx]at hX;have hv:=hX.eR;refine⟨_,_,_,hc.symm,ι,.tuple #[],w,Ex.refl,h,.inl ?_,.nS .nil⟩;simp[Builtin.clear_,Ad hd,hv]
    .rename_i r g off l sz cap hx
     rw[hx]at hX;obtain⟨L,ad,c,hL,cZ,nM,fR,fQ,qW,lY,mW,hv⟩:=hX.aS;cases gQ:Nat.beq l 0<;>rw[gQ]at hc
     .have aV:l≠0:=λe=>by rw[e]at gQ;cases gQ
      replace hc:(bif Nat.beq (len zr) sz then zL z (Nd zr l) hp r g off λhp=>K (.tup []) hp nx else z)=m:=hc
      cases vJ:Nat.beq (len zr) sz<;>rw[vJ]at hc
      .exact Aq hm hz hc
      replace hc:zL z (Nd zr l) hp r g off (λhp=>K (.tup []) hp nx)=m:=hc
      have fQ:=fQ (by omega);subst fQ;unfold zL at hc
      split at hc
      .rename_i lN tr n' G fz ro mk hr
       cases eA:(Nat.beq g G&&Nat.ble fz off&&!ro&&there tr (len (Nd zr l)) off&&Cg Nm (Nd zr l))<;>rw[eA]at hc
       .exact Aq hm hz hc
       simp only[QB,beq_iff,As,XK,B7]at eA;obtain⟨⟨⟨⟨rfl,b2⟩,rfl⟩,b4⟩,b5⟩:=eA;have aY:=K1 lF l;obtain⟨s1,s2⟩:=h.store hL hr cZ b2 b4 aY (λu hu=>by
        obtain⟨l,hl,hu⟩:=List.mem_flatten.1 hu;rw[List.mem_replicate]at hl;exact sF u (hl.2 ▸ hu))
       replace hc:zK g (Nd zr l) hp r off lN tr n' g fz mk (λhp=>K (.tup []) hp nx)=m:=hc
       unfold zK at hc;rw[Px,Tr.bS]at hc;refine⟨_,_,_,hc.symm,ι,.tuple #[],_,Ex.refl,s2,.inl ?_,.nS .nil⟩;obtain⟨l',rfl⟩:∃l',l=l'+1:=⟨l-1,by omega⟩;have aP:=N6 zv.cells (l'+1) (by rw[vc];exact VH _);have NV:(Builtin.zeroCells zv.cells (l'+1)).toList=(List.replicate (l'+1) zv.cells.toList).flatten:=by
        unfold Builtin.zeroCells;rw[aP]
       simp[Builtin.clear_,Ad hd,hv,jT,NV,s1]
      .exact Aq hm hz hc
     .replace hc:K (.tup []) hp nx=m:=hc
      have h0:l=0:=(beq_iff _ _).1 gQ;subst h0;refine⟨_,_,_,hc.symm,ι,.tuple #[],w,Ex.refl,h,.inl ?_,.nS .nil⟩;simp[Builtin.clear_,Ad hd,hv]
    .exact Aq hm hz hc
   .exact Aq hm hz hc
  .exact Aq hm hz hc
 .exact Aq hm hz hc
theorem Adj{x:CV}{n:Nat}{u:Value}(h:ed x=some n)(hx:VR ι x u):u=.int .i64 n:=by
 unfold ed at h
 split at h
 .rename_i i
  cases i with
  |ofNat k=>cases h;exact hx.fM
  |negSucc k=>cases h
 .cases h
theorem y4(hS:eH S)(h:HR S base w0 U ι hp nx w)(hg:GR S ι)(hf:FR ι fr a.tmps){xs:List Operand}{ts:List TypeId}{ty:TypeId}(hm:nb m)(hz:∃n,z=.bad n)(hc:Zc S.en xs ts z hp nx fr K=m):
  Fg S base w0 U ι w (do pure (.value (<-Builtin.unsafeString_ ts.toArray ty (xs.map a.eval).toArray))) K m:=by
 unfold Zc at hc
 split at hc
 .rename_i x y t t2
  split at hc
  .rename_i e n1 b1 zr1 n hTt hn
   have hy:=Adj hn (Ay hg hf y);obtain⟨d,hd,fq⟩:=(hS.T t _ hTt).jF;have hd:S.P.underlying t=some (.pointer e):=(hS.T t _ hTt).ptr rfl
   split at hc
   .rename_i b zr hT
    have cY:=hS.T e _ hT;have bQ:S.P.cellsOf e=1:=by
     obtain⟨i,z,hi,h1,_⟩:=cY.info;simp[Program.cellsOf,hi,h1]
    have hX:=Ay hg hf x;have kD:∀q:Option Addr,a.eval x=.pointer q->n=0->(Builtin.unsafeString_ #[t,t2] ty #[a.eval x,a.eval y]).run S.P w=.ok (.string (strOf 0 0)) w:=λq hq h0=>by
     subst h0;rw[hq,hy];exact Lib.run_unsafeString_none w t t2 ty q
    unfold mw at hc
    split at hc
    .rename_i hx
     rw[hx]at hX;cases gQ:Nat.beq n 0<;>rw[gQ]at hc
     .exact Aq hm hz hc
     have h0:n=0:=(beq_iff _ _).1 gQ
     replace hc:K (.s 0 0) hp nx=m:=hc
     have:=kD none (by cases hq:a.eval x<;>rw[hq]at hX<;>cases hX;rfl) h0;exact⟨_,_,_,hc.symm,ι,.string (strOf 0 0),w,Ex.refl,h,.inl (by simp[this]),.s (by simp)⟩
    .rename_i r g off hx
     rw[hx]at hX;obtain⟨L,hL,cZ,hv⟩:=hX.fL;cases gQ:Nat.beq n 0<;>rw[gQ]at hc
     .have jL:n≠0:=λe=>by rw[e]at gQ;cases gQ
      replace hc:(bif Nat.beq off 0 then PU e r g n z hp nx K else z)=m:=hc
      cases vJ:Nat.beq off 0<;>rw[vJ]at hc
      .exact Aq hm hz hc
      have h0:off=0:=(beq_iff _ _).1 vJ;subst h0
      replace hc:PU e r g n z hp nx K=m:=hc
      unfold PU at hc
      split at hc
      .rename_i lN tr n' G fz ro mk hr
       cases eA:(Nat.beq g G&&Nat.beq lN e&&!ro&&!mk)<;>rw[eA]at hc
       .exact Aq hm hz hc
       simp only[QB,beq_iff,XK]at eA;obtain⟨⟨⟨rfl,rfl⟩,rfl⟩,rfl⟩:=eA
       replace hc:(match Xb hp r g 0 n with
        |some v=>Gg (bif Nat.ble fz n then n else fz) λfz=>Tr.dL hp r (.c lN tr n' g fz false false) λhp=>K (.s n v) hp nx
        |none=>z)=m:=hc
       split at hc
       .rename_i v aP
        rw[Ej,Tr.bS]at hc;obtain⟨ns,h1,rfl,h3⟩:=Zx h.rd aP hL cZ;have sS:∀m∈ns,m<256:=λm hm=>by
         obtain⟨i,hi⟩:=List.mem_iff_getElem?.1 hm;exact (h3 i m hi).2
        obtain⟨d1,d2⟩:=Ic ns sS;obtain⟨o,q1,q2,q3,q4⟩:=h.obj r g L hL;rw[hr]at q1;cases q1;have nP:base<=L.aE:=UF λhb=>by have:=q4 hb;cases this
        obtain⟨_,arr,gR,p1,p2,p3,p4⟩:=q2;obtain⟨p5,p6⟩:=p4 rfl;have fa:L.lo=0:=by omega
        rw[QD (by simp)]at p6;obtain⟨f1,f2⟩:=gR;have e1:f1=0:=p6.1;have e2:f2<=fz-L.lo:=p6.2;subst e1;have aM:n<=arr.size:=by
         have oL:n-1<ns.length:=by omega
         have:=(h3 (n-1) ns[n-1] (QA oL)).1;simp only[World.cell?,p1]at this;have:=(Array.getElem?_eq_some_iff.1 this).1;omega
        have pC:w.shape? L.aE=some (lN,arr.size):=by simp[World.shape?,p1]
        have aG:=Lib.run_unsafeString_row (P:=S.P) (w:=w) t t2 ty lN hd bQ L.aE arr.size pC (ns.map UInt8.ofNat) (by intro e;rw[List.map_eq_nil_iff]at e;rw[e]at h1;exact jL h1.symm) (by rw[XW,h1];exact aM)
         (by
           rw[XW,h1];have:=(p3 (n-1));have hk:=h.key
           have oL:n-1<ns.length:=by omega
           have mW:∃c,tr.get (n-1)=some c:=by
            unfold Xb at aP;rw[hr]at aP;simp only at aP
            split at aP
            .rename_i cs cV
             obtain⟨a1,a2⟩:=Lo n 0 cs cV;have gW:n-1<cs.length:=by omega
             obtain⟨c,mW,_⟩:=J9 (a2 (n-1) _ (QA gW));rw[XD]at mW;exact⟨c,mW⟩
            .cases aP
           obtain⟨c,mW⟩:=mW;have:=(this c mW).2.2.1;unfold aH at this;omega) (λj x hj=>by
          rw[QP]at hj;cases pg:ns[j]? with
          |none=>rw[pg]at hj;cases hj
          |some m' =>
           rw[pg]at hj;cases hj;obtain⟨b1,b2⟩:=h3 j m' pg;rw[Ff,XD];rw[fa,Nat.sub_zero,XD]at b1;rw[b1];have:(UInt8.ofNat m').toNat=m':=by rw[UT];omega
           rw[this])
        rw[XW,h1]at aG;have VT:(⟨(ns.map UInt8.ofNat).toArray⟩:ByteArray)=strOf n (Kr ns):=by
         apply ByteArray.ext;show _=(iH n (Kr ns)).toArray;rw[<-h1,d2]
        rw[VT]at aG;have iV:(w.freeze { block:=L.aE,off:=0 } n).heap[L.aE]?=some (.cells arr lN (if (0:Nat)==f2 then (0,0+n) else (min 0 0,max f2 (0+n)))):=by
         unfold World.freeze;rw[QD jL];rw[XZ,QE rfl,p1,QO]
        have eh:∀k,k≠L.aE->(w.freeze { block:=L.aE,off:=0 } n).heap[k]?=w.heap[k]?:=λk hk=>by
         unfold World.freeze;rw[QD jL];simp only[XZ];rw[QD (Ne.symm hk)]
        have ve:(w.freeze { block:=L.aE,off:=0 } n).heap.size=w.heap.size:=by
         unfold World.freeze;rw[QD jL];simp
        have GM:Below base w (w.freeze { block:=L.aE,off:=0 } n):=by
         refine⟨?_,?_,?_,by omega,λk hk=>eh k (by omega)⟩<;>(unfold World.freeze;rw[QD jL])
        generalize hF:(bif Nat.ble fz n then n else fz)=F at hc
        have hF1:n<=F/\fz<=F:=by
         cases hb:Nat.ble fz n<;>rw[hb]at hF
         .have:¬fz<=n:=λhle=>by have:=(As _ _).2 hle;rw[hb]at this;cases this
          have:fz=F:=hF;omega
         .have:=(As _ _).1 hb
          have:n=F:=hF;omega
        have bV:HR S base w0 U ι (hp.set r (.c lN tr n' g F false false)) nx (w.freeze { block:=L.aE,off:=0 } n):=by
         refine h.write Ex.refl (λ_ _ _ e=>.inl e) GM (h.oB r g L hL) (h.gM hL) (λr' g' L' e aV=>eh _ (λhb=>aV (h.inj _ _ _ _ _ _ e hL hb).1)) (λg' L' e=>?_)
          (λg L' r' g' l9 e e' aV he=>aV (h.inj _ _ _ _ _ _ e' e he.symm).1) (λg L' g' l9 e e' he=>(h.inj _ _ _ _ _ _ e e' he).2)
         obtain⟨o,a1,b,c',d⟩:=h.obj r g' L' e;rw[hr]at a1;cases a1;obtain⟨fm,pN,p7,r1,r2,r3,r4⟩:=b
         by_cases dN:L'.aE=L.aE
         .obtain rfl:L=L':=(h.inj _ _ _ _ _ _ e hL dN).2.symm
          rw[p1]at r1;cases r1;refine⟨⟨fm,arr,_,iV,r2,r3,λhg=>⟨(r4 hg).1,?_⟩⟩,by rw[ve];exact c',d⟩;rw[QD (by simp)]
          by_cases iR:0=f2
          .subst iR
           simp;omega
          .rw[QD (by simpa using iR)]
           simp;omega
         .refine⟨⟨fm,pN,p7,by rw[eh _ dN];exact r1,r2,r3,λhg=>?_⟩,by rw[ve];exact c',d⟩
          subst hg;rw[hL]at e;cases e;exact absurd rfl dN
        rw[fa,Nat.sub_zero]at hv;refine⟨_,_,_,hc.symm,ι,.string (strOf n (Kr ns)),_,Ex.refl,bV,.inl ?_,.s (by rw[<-h1];exact d1)⟩;have GX:(Builtin.unsafeString_ #[t,t2] ty #[a.eval x,a.eval y]).run S.P w=.ok (.string (strOf n (Kr ns))) (w.freeze ⟨L.aE,0,none⟩ n):=by
         rw[hv,hy];exact aG
        simp[GX]
       .exact Aq hm hz hc
      .exact Aq hm hz hc
     .have h0:n=0:=(beq_iff _ _).1 gQ
      replace hc:K (.s 0 0) hp nx=m:=hc
      have:=kD _ hv h0;exact⟨_,_,_,hc.symm,ι,.string (strOf 0 0),w,Ex.refl,h,.inl (by simp[this]),.s (by simp)⟩
    .exact Aq hm hz hc
   .exact Aq hm hz hc
  .exact Aq hm hz hc
 .exact Aq hm hz hc
end
end Go.Cv
