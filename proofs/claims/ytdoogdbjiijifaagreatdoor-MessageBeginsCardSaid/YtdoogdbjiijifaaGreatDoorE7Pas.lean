/- A part of the proof: contracts of functions, or the executor and its soundness. No conditions. -/
import Derived.Test.YtdoogdbjiijifaaGreatDoorE7Par
namespace Go.Cv
open Go Go.RowKit
section
variable {S:Sg} {base:Nat} {w0 w:World} {U:Nat->Option CO} {ι:Ip} {hp:Tr CO} {nx:Nat} {fr:Tr CV} {a:Act} {K:KA} {z m:AM}
theorem HR.up(h:HR S base w0 U ι hp nx w){r ty n G fz at_ top:Nat}{tr:Tr CW}{mk:Bool}{L L':Loc}{cs:List CV}{w':World}(hL:ι r G=some L)(hr:hp.get r=some (.c ty tr n G fz false mk))
  (hb:Below base w w') (bN:∀k,k≠L.aE->k<w.heap.size->w'.heap[k]?=w.heap[k]?)
  (hold:∃arr iU gR,w.heap[L.aE]?=some (.cells arr ty gR)/\w'.heap[L.aE]?=some (.cells iU ty gR)/\iU.size=arr.size/\∀i,¬(at_<=L.lo+i/\L.lo+i<at_+cs.length)->iU[i]?=arr[i]?)
  (gz:L'=L\/L'.aE=w.heap.size) (aA:L'.aE<w'.heap.size)
  (bV:∃arr gR,w'.heap[L'.aE]?=some (.cells arr ty gR)/\L'.en<=L'.lo+arr.size/\
   (∀i c,(sn (G+1) cs tr at_).get i=some c->L'.lo<=i->∃v,arr[i-L'.lo]?=some v/\VR ι c.v v/\v.oneCell'=true)/\top<=L'.en/\
   (if mk then gR=(0,0)\/gR=(arr.size,arr.size+1) else gR.1=0/\gR.2<=fz-L'.lo))
  (hk:at_+cs.length<=aH) (aN6:top=at_+cs.length) (mG:n<=top):
  HR S base w0 U (ι.add r (G+1) L') (hp.set r (.c ty (sn (G+1) cs tr at_) top (G+1) fz false mk)) nx w'/\Ex ι (ι.add r (G+1) L'):=by
 have WW:∀g' L2,ι r g'=some L2->g'<=G:=λg' L2 e=>by
  obtain⟨o,a,b,_⟩:=h.obj r g' L2 e;rw[hr]at a;cases a;exact b.1
 have IL:ι r (G+1)=none:=by
  cases e:ι r (G+1) with
  |none=>rfl
  |some L2=>have:=WW _ _ e;omega
 have hx:Ex ι (ι.add r (G+1) L'):=Ip.gZ IL;have hinv:∀r' g' L2,(ι.add r (G+1) L') r' g'=some L2->(r'=r/\g'=G+1/\L2=L')\/ι r' g'=some L2:=λr' g' L2 e=>by
  unfold Ip.add at e
  split at e
  .rename_i he;cases e;exact .inl ⟨he.1,he.2,rfl⟩
  .exact .inr e
 have dN:∀r' g' L2,ι r' g'=some L2->L2.aE<w.heap.size:=λr' g' L2 e=>by
  obtain⟨_,_,_,c,_⟩:=h.obj r' g' L2 e;exact c
 obtain⟨o,q1,q2,q3,q4⟩:=h.obj r G L hL;rw[hr]at q1;cases q1;have nP:base<=L.aE:=UF λhb=>by have:=q4 hb;cases this
 refine⟨h.write hx (λr' g' L2 e=>?_) hb (h.oB r G L hL) (h.gM hL) (λr' g' L2 e aV=>?_) (λg' L2 e=>?_) (λg' L2 r2 g2 L3 e e' aV=>?_) (λg' L2 g2 L3 e e' he=>?_),hx⟩
 .rcases hinv r' g' L2 e with⟨rfl,_⟩|e
  .exact .inr rfl
  .exact .inl e
 .exact bN _ (λhe=>aV (h.inj _ _ _ _ _ _ e hL he).1) (dN _ _ _ e)
 .rcases hinv r g' L2 e with⟨_,rfl,rfl⟩|e
  .obtain⟨arr,gR,n1,n2,n3,n4,n5⟩:=bV
   refine⟨⟨QK _,arr,gR,n1,n2,λi c hc=>?_,λ_=>⟨n4,n5⟩⟩,aA,λhb=>?_⟩
   .have jA:=hc
    rw[Jn _ _ _ _ _ hk]at hc
    split at hc
    .rename_i hi
     cases kF:cs[i-at_]? with
     |none=>rw[kF]at hc;cases hc
     |some x =>
      rw[kF]at hc;cases hc;refine⟨QK _,by omega,by omega,λ_ cZ=>?_⟩;obtain⟨v,a1,a2,a3⟩:=n3 i _ jA cZ;exact⟨v,a1,a2.mono hx,a3⟩
    .obtain⟨_,_,_,_,_,s3,_⟩:=q2
     obtain⟨s1,s2,s4,_⟩:=s3 i c hc;refine⟨by omega,by omega,s4,λ_ cZ=>?_⟩;obtain⟨v,a1,a2,a3⟩:=n3 i _ jA cZ;exact⟨v,a1,a2.mono hx,a3⟩
   .rcases gz with rfl|gz
    .omega
    .have:=h.top;omega
  .obtain⟨o,a1,b,c',d⟩:=h.obj r g' L2 e
   rw[hr]at a1;cases a1;obtain⟨fm,pN,p7,r1,r2,r3,r4⟩:=b;have hs:w.heap.size<=w'.heap.size:=hb.size;have mR:∃zE,w'.heap[L2.aE]?=some (.cells zE ty p7)/\zE.size=pN.size/\∀i,¬(at_<=L2.lo+i/\L2.lo+i<at_+cs.length)->zE[i]?=pN[i]?:=by
    by_cases iE:L2.aE=L.aE
    .obtain rfl:L=L2:=(h.inj _ _ _ _ _ _ e hL iE).2.symm
     obtain⟨arr,iU,gR,o1,o2,o3,o4⟩:=hold;rw[r1]at o1;cases o1;exact⟨iU,o2,o3,o4⟩
    .exact⟨pN,by rw[bN _ iE c'];exact r1,rfl,λ_ _=>rfl⟩
   obtain⟨zE,o2,o3,o4⟩:=mR;refine⟨⟨by omega,zE,p7,o2,by rw[o3];exact r2,λi c hc=>?_,λhg=>by omega⟩,by omega,d⟩;rw[Jn _ _ _ _ _ hk]at hc
   split at hc
   .rename_i hi
    have hxw:c.w=G+1:=by
     cases kF:cs[i-at_]? with
     |none=>rw[kF]at hc;cases hc
     |some x=>rw[kF]at hc;cases hc;rfl
    exact⟨by omega,by omega,by omega,λhw=>by omega⟩
   .rename_i hi
    obtain⟨s1,s2,s3,s4⟩:=r3 i c hc;refine⟨by omega,by omega,s3,λhw cZ=>?_⟩;obtain⟨v,t1,t2,t3⟩:=s4 hw cZ;exact⟨v,by rw[o4 _ (by omega)];exact t1,t2.mono hx,t3⟩
 .rcases hinv r g' L2 e with⟨_,rfl,rfl⟩|e
  .rcases gz with rfl|gz
   .exact λhe=>aV (h.inj _ _ _ _ _ _ e' hL he.symm).1
   .have:=dN _ _ _ e';omega
  .exact λhe=>aV (h.inj _ _ _ _ _ _ e' e he.symm).1
 .have oR:∀g3 L4,ι r g3=some L4->L'.aE=L4.aE->L'=L4:=λg3 L4 e3 IT=>by
   rcases gz with rfl|gz
   .exact (h.inj _ _ _ _ _ _ hL e3 IT).2
   .have:=dN _ _ _ e3;omega
  rcases hinv r g' L2 e with⟨_,_,f1⟩|f1<;>rcases hinv r g2 L3 e' with⟨_,_,f2⟩|f2
  .rw[f1,f2]
  .subst f1;exact oR _ _ f2 he
  .subst f2;exact (oR _ _ f1 he.symm).symm
  .exact (h.inj _ _ _ _ _ _ f1 f2 he).2
def El(P:Program)(w:World)(u e sz n:Nat)(xv:Value)(us:List Value):Prop :=
 us.length=n * sz/\∃d,P.underlying u=some d/\
  ((∃k k',d=.int k/\xv=.int k' (n:Int)/\n * sz<=100000/\∃zv,(∀w',(zeroValue e).run P w'=.ok zv w')/\zv.cells.size=sz/\us=(List.replicate n zv.cells.toList).flatten)\/
   ((∀k,d≠.int k)/\∀w':World,w'.heap=w.heap->(Builtin.lenOf xv).run P w'=.ok n w'/\(Builtin.firstCells sz n xv).run P w'=.ok ⟨us⟩ w'))
theorem Abj{P:Program}{t:TypeId}{ti:TI}(h:Bm P t ti)(ι:Ip):∃z,(∀w,(zeroValue t).run P w=.ok z w)/\cF ι ti.zero z.cells.toList/\z.cells.size=ti.size:=by
 obtain⟨i,z,hi,h1,h2,h3,h4,h5⟩:=h.info;obtain⟨a,b⟩:=N5 (ι:=ι) h4;have aM:z.cells.size=ti.size:=by rw[<-h.nR,a.1];simp
 exact⟨z,λw=>by simp[zeroValue,typeInfo,hi,h3],a,aM⟩
theorem Ala(hS:eH S)(h:Rd S ι hp w){u e sz n:Nat}{x:CV}{cs:List CV}{xv:Value}{ti:TI}(hT:S.en.T e=some ti)(aM:ti.size=sz)(hs:Ag3 S.en hp u e sz x=some (cs,n))(hx:VR ι x xv):
  ∃us,cF ι cs us/\El S.P w u e sz n xv us:=by
 unfold Ag3 at hs
 split at hs
 .rename_i k n1 b1 z1 hu
  have hd:=(hS.T u _ hu).int rfl;unfold Aou at hs;rw[hT]at hs
  split at hs
  .rename_i ti' n' cY hn
   cases cY;cases hb:Nat.ble (Nat.mul n' sz) 100000<;>rw[hb]at hs
   .cases hs
   cases hs;obtain⟨k',gP⟩:=Hu hn hx;obtain⟨zv,z1,z2,z3⟩:=Abj (hS.T e _ hT) ι;refine⟨_,K1 z2 n,?_,_,hd,.inl ⟨k,k',rfl,gP,(As _ _).1 hb,zv,z1,by rw[z3,aM],rfl⟩⟩;rw[Cn];simp[z3,aM]
  .cases hs
 .cases hs
 .rename_i ti' wo qP hu
  obtain⟨d,hd,hk⟩:=(hS.T u _ hu).jF;obtain⟨us,p1,p2,p3⟩:=Y9 h hs hx;refine⟨us,p1,p2,d,hd,.inr ⟨λk e=>?_,λw' iV=>?_⟩⟩
  .subst e
   obtain⟨k0,n0,b0,z0⟩:=ti';cases k0<;>simp[Bp]at hk
   .exact wo _ _ _ _ rfl
   .exact qP _ _ _ rfl
  .obtain⟨a1,a2⟩:=p3 w' iV
   refine⟨a1,?_⟩;have:=a2 n (QK _);rw[ZT (by rw[p2];exact QK _)]at this;exact this
 .cases hs
theorem Sk{P:Program}{e sz n:Nat}{zv:Value}(jT:∀w',(zeroValue e).run P w'=.ok zv w')(lF:zv.cells.size=sz)(w:World):
  (if n * sz=0 then (pure #[]:Sem (Array Value)) else do pure (Builtin.zeroCells (<-zeroValue e).cells n)).run P w=.ok ⟨(List.replicate n zv.cells.toList).flatten⟩ w:=by
 by_cases h0:n * sz=0
 .rw[QE h0]
  have:(List.replicate n zv.cells.toList).flatten=[]:=QQ (by rw[Cn];simpa[lF] using h0);rw[this];rfl
 .rw[QD h0]
  have hp:0<zv.cells.size:=by rw[lF];exact YY λe=>h0 (by rw[e,Nat.mul_zero])
  simp only[Sem.run_bind,jT,Result.andThen_ok,Sem.run_pure,Builtin.zeroCells];rw[N6 _ _ hp]
theorem run_append_room{P:Program}{t u e ty sz n l c:Nat}{xv:Value}{us:List Value}{bs:Option Addr}{i:TypeInfo}(hd:P.underlying t=some (.slice e))(hi:∀w',(typeInfo e).run P w'=.ok i w')(hs:i.size=sz)(hb:i.bytes<=100000)(aM:0<sz)(he:El P w u e sz n xv us)(hr:l+n<=c){w':World}
  (cM:∀ad,bs=some ad->(storeCells (ad.add (l * sz)) us).run P w=.ok () w') (qP:bs=none->w'=w):
  (Builtin.append_ #[t,u] ty #[.slice bs l c,xv]).run P w=.ok (.slice bs (l+n) c) w':=by
 obtain⟨hl,d,hu,oR⟩:=he;have aT:(sizeOf e).run P w=.ok sz w:=by simp[sizeOf,hi,hs]
 rcases oR with⟨k,k',rfl,rfl,yC,zv,jT,lF,rfl⟩|⟨aV,bQ⟩
 .have hn:n<=100000:=XO (YA n aM) yC
  have hw:IntKind.i64.wrap (n:Int)=n:=Id (k:=.i64) (by show n<=9223372036854775807;omega);have eY:n * i.bytes<=100000 * 100000:=Nat.mul_le_mul hn hb;have t1:¬((n:Int)<0):=by omega
  have t2:¬((n:Int) * (i.bytes:Int) > 2 ^ 48):=by rw[<-YR];omega
  have JC:=Sk (P:=P) (n:=n) jT lF w;simp only[Builtin.append_,ZW,ZL,ZJ,Sem.run_bind,Ad hd,Ad hu,aT,Result.andThen_ok,Sem.run_pure];rw[QE trivial];simp only[asInt,asIntOf,Sem.run_bind,Sem.run_pure,Result.andThen_ok,hw];rw[QD t1];simp only[Sem.run_bind,hi,Result.andThen_ok];rw[QD t2];simp only[Sem.run_bind,Sem.run_pure,Result.andThen_ok,ZP];rw[QE hr];simp only[YN,QR,if_false,Sem.run_bind,JC,Result.andThen_ok];cases bs with
  |none=>rw[qP rfl];rfl
  |some ad=>simp only[Sem.run_bind,cM ad rfl,Result.andThen_ok,Sem.run_pure]
 .obtain⟨c1,c2⟩:=bQ w rfl
  cases d<;>first
   |exact (aV _ rfl).elim
   |(simp only[Builtin.append_,ZW,ZL,ZJ,Sem.run_bind,Ad hd,Ad hu,aT,Result.andThen_ok,Sem.run_pure,QR,if_false,c1,Bool.not_false,if_true]
     rw[QE hr];simp only[Sem.run_bind,c2,Result.andThen_ok];cases bs with
     |none=>rw[qP rfl];rfl
     |some ad=>simp only[Sem.run_bind,cM ad rfl,Result.andThen_ok,Sem.run_pure])
theorem Ai7(x y:List Value):(⟨x⟩:Array Value)++⟨y⟩=⟨x++y⟩:=by apply XN;simp
theorem run_append_grow{P:Program}{t u e ty sz n l c:Nat}{xv:Value}{us os:List Value}{bs:Option Addr}{i:TypeInfo}{zv:Value}(hd:P.underlying t=some (.slice e))(hi:∀w',(typeInfo e).run P w'=.ok i w')(hs:i.size=sz)(hb:i.bytes<=100000)(aM:0<sz)(he:El P w u e sz n xv us)(hr:¬l+n<=c)(xp:l+n<=1000000000)
  (jT:∀w',(zeroValue e).run P w'=.ok zv w') (lF:zv.cells.size=sz) (hold:(Builtin.firstCells sz l (.slice bs l c)).run P w.drew=.ok ⟨os⟩ w.drew):
  ∃cap,l+n<=cap/\(Builtin.append_ #[t,u] ty #[.slice bs l c,xv]).run P w=.ok (.slice (some ⟨w.heap.size,0,none⟩) (l+n) cap) (w.drew.alloc (.cells ⟨os++us++(List.replicate (cap-(l+n)) zv.cells.toList).flatten⟩ e)):=by
 obtain⟨hl,d,hu,oR⟩:=he;have aT:(sizeOf e).run P w=.ok sz w:=by simp[sizeOf,hi,hs]
 have kE:¬((l+n:Nat):Int) > IntKind.i64.max:=by rw[show IntKind.i64.max=9223372036854775807 from rfl];omega
 have fp:¬Builtin.nextslicecap (l+n) c * i.bytes > 2 ^ 48:=by
  have:=growslice_fits (need:=l+n) (old:=c) (bytes:=i.bytes) (by omega) (by
   have:(l+n) * i.bytes<=1000000000 * 100000:=Nat.mul_le_mul xp hb;omega)
  omega
 obtain⟨cap,dH,CC⟩:∃cap,l+n<=cap/\(choose (.appendCap (l+n) c e)).run P w=.ok cap w.drew:=by
  refine⟨_,?_,by rw[run_choose_drew];rfl⟩;show l+n<=(l+n)+_;exact YM _ _
 refine⟨cap,dH,?_⟩;have NV:Builtin.zeroCells zv.cells (cap-(l+n))=⟨(List.replicate (cap-(l+n)) zv.cells.toList).flatten⟩:=by
  unfold Builtin.zeroCells;rw[N6 _ _ (by rw[lF];exact aM)]
 rcases oR with⟨k,k',rfl,rfl,yC,zv',TO,TN,rfl⟩|⟨aV,bQ⟩
 .have hn:n<=100000:=XO (YA n aM) yC
  have hw:IntKind.i64.wrap (n:Int)=n:=Id (k:=.i64) (by show n<=9223372036854775807;omega);have eY:n * i.bytes<=100000 * 100000:=Nat.mul_le_mul hn hb;have t1:¬((n:Int)<0):=by omega
  have t2:¬((n:Int) * (i.bytes:Int) > 2 ^ 48):=by rw[<-YR];omega
  have JC:=Sk (P:=P) (n:=n) TO TN w.drew;simp only[Builtin.append_,ZW,ZL,ZJ,Sem.run_bind,Ad hd,Ad hu,aT,Result.andThen_ok,Sem.run_pure];rw[QE trivial];simp only[asInt,asIntOf,Sem.run_bind,Sem.run_pure,Result.andThen_ok,hw];rw[QD t1];simp only[Sem.run_bind,hi,Result.andThen_ok];rw[QD t2];simp only[Sem.run_bind,Sem.run_pure,Result.andThen_ok,ZP];rw[QD hr];simp only[Sem.run_bind,hi,Result.andThen_ok];rw[QD (λh=>kE h.1)];simp only[Sem.run_bind,hi,Result.andThen_ok];rw[QD fp];simp only[Sem.run_bind,CC,hi,run_askRoom,hold,YN,QR,if_false,JC,jT,Result.andThen_ok,NV,Go.newRow,run_newObj_alloc,Sem.run_pure,Ai7];rfl
 .obtain⟨c1,_⟩:=bQ w rfl
  obtain⟨_,c2⟩:=bQ w.drew rfl;cases d<;>first
   |exact (aV _ rfl).elim
   |(simp only[Builtin.append_,ZW,ZL,ZJ,Sem.run_bind,Ad hd,Ad hu,aT,Result.andThen_ok,Sem.run_pure,QR,if_false,c1,Bool.not_false,if_true]
     rw[QD hr];simp only[Sem.run_bind,hi,Result.andThen_ok];rw[QD (λh=>kE h.1)];simp only[Sem.run_bind,hi,Result.andThen_ok];rw[QD fp];simp only[Sem.run_bind,CC,hi,run_askRoom,hold,c2,jT,Result.andThen_ok,NV,Go.newRow,run_newObj_alloc,Sem.run_pure,Ai7];rfl)
theorem Aev{e sz n:Nat}{cs:List CV}{us:List Value}{zv:Value}{s:Sem Next}{cap:Nat}(h:HR S base w0 U ι hp nx w)(hm:nb m)(hz:∃n,z=.bad n)(aM:0<sz)(hc:newRow z e sz n cs hp nx K=m)(dH:n<=cap)(hl:us.length=n * sz)(hv:cF ι cs us)(ho:∀u∈us,u.oneCell'=true)(lF:zv.cells.size=sz)
  (hs:s.run S.P w=.ok (.value (.slice (some ⟨w.heap.size,0,none⟩) n cap)) (w.drew.alloc (.cells ⟨us++(List.replicate (cap-n) zv.cells.toList).flatten⟩ e))):Fg S base w0 U ι w s K m:=by
 unfold newRow at hc;obtain⟨h1,h2,rfl⟩:=E6 hm hz hc;have aT:(us++(List.replicate (cap-n) zv.cells.toList).flatten).length=cap * sz:=by
  rw[QW,Cn,hl];have e1:zv.cells.toList.length=sz:=by simp[lF]
  rw[e1,<-XJ];congr 1;omega
 have hle:n * sz<=cap * sz:=QH _ dH;have hd:HR S base w0 U ι hp nx w.drew:=h.drew;obtain⟨q1,q2⟩:=hd.fresh (e:=e) (n:=Nat.mul n sz) (arr:=⟨us++(List.replicate (cap-n) zv.cells.toList).flatten⟩) h2 h1 (by rw[hv.1,hl];exact QK _) (by rw[UK,aT];exact hle) hv ho
  (λi u hu=>by
   rw[ZW,QJ (List.getElem?_eq_some_iff.1 hu).1];exact hu) (en:=cap * sz) (by rw[UK,aT];exact QK _) hle
 exact⟨_,_,_,rfl,_,.slice (some ⟨w.heap.size,0,none⟩) n cap,_,q2,q1,.inl hs,.sl (Ip.bW _ _ _ _) (QK _) aM (by show 0+cap * sz<=cap * sz;omega) (λ_=>rfl) dH (λ_=>by show cap=(cap * sz-0) / sz;rw[Nat.sub_zero,Nat.mul_div_cancel _ aM]) (λk e=>by cases e)⟩
theorem Z6{cs:List CV}{us:List Value}(h:cF ι cs us)(ho:Cg Nm cs=true):∀u∈us,u.oneCell'=true:=λu hu=>by
 obtain⟨i,hi⟩:=List.mem_iff_getElem?.1 hu;have aA:i<cs.length:=by rw[h.1];exact (List.getElem?_eq_some_iff.1 hi).1
 exact Oo ((Cz _ _).1 ho _ (XQ aA)) (h.2 i _ u (QA aA) hi)
theorem Api(hS:eH S)(h:HR S base w0 U ι hp nx w)(hg:GR S ι)(hf:FR ι fr a.tmps){xs:List Operand}{ts:List TypeId}{ty:TypeId}(hm:nb m)(hz:∃n,z=.bad n)(hc:Mj S.en xs ts z hp nx fr K=m):
  Fg S base w0 U ι w (do pure (.value (<-Builtin.append_ ts.toArray ty (xs.map a.eval).toArray))) K m:=by
 unfold Mj at hc
 split at hc
 .rename_i s x t u
  split at hc
  .rename_i e sz he
   obtain⟨hd,fA,ti,hT,aM,fP⟩:=Aov hS he;obtain⟨inf,aK5,hi0,yG,qZ,_⟩:=(hS.T e ti hT).info;have hi:∀w',(typeInfo e).run S.P w'=.ok inf w':=λw'=>by simp[typeInfo,hi0]
   obtain⟨zv,jT,lF,sF⟩:=Abj (hS.T e ti hT) ι;have hX:=Ay hg hf x;have hY:=Ay hg hf s;unfold LM at hc
   split at hc
   .rename_i cs n vE
    cases fO:Cg Nm cs<;>rw[fO]at hc
    .exact Aq hm hz hc
    replace hc:zj z e sz n cs (ev S.en fr s) hp nx K=m:=hc
    obtain⟨us,iJ,hE⟩:=Ala hS h.rd hT aM vE hX;have JL:=hE.1;have BN:=Z6 iJ fO;have hlen:cs.length=n * sz:=by rw[iJ.1,JL]
    unfold zj at hc
    split at hc
    .rename_i hs
     rw[hs]at hY;have hv:=hY.eR;cases gQ:Nat.beq n 0<;>rw[gQ]at hc
     .have jL:n≠0:=λe=>by rw[e]at gQ;cases gQ
      replace hc:newRow z e sz n cs hp nx K=m:=hc
      have hn:n<=10000000:=by
       unfold newRow at hc;obtain⟨h1,_⟩:=E6 hm hz hc;rw[hlen]at h1;exact XO (YA n fA) h1
      obtain⟨cap,dH,aG⟩:=run_append_grow (ty:=ty) (l:=0) (c:=0) (bs:=none) (os:=[]) hd hi (by rw[yG,aM]) (by rw[qZ];exact fP) fA hE (by omega) (by omega) jT (by rw[sF,aM]) (by simp[Builtin.firstCells]);rw[XD]at dH aG;refine Aev (cap:=cap) h hm hz fA hc dH JL iJ BN (by rw[sF,aM]) ?_;simp[hv,aG]
     .replace hc:K .ns hp nx=m:=hc
      have jL:n=0:=(beq_iff _ _).1 gQ;subst jL;have aG:=run_append_room (ty:=ty) (l:=0) (c:=0) (bs:=none) (w':=w) hd hi (by rw[yG,aM]) (by rw[qZ];exact fP) fA hE (QK _) (λad e=>by cases e) (λ_=>rfl);exact⟨_,_,_,hc.symm,ι,.slice none 0 0,w,Ex.refl,h,.inl (by simp[hv,aG]),.ns⟩
    .rename_i r g off l cN cap hs
     cases lL:Nat.beq sz cN<;>rw[lL]at hc
     .exact Aq hm hz hc
     rw[beq_iff]at lL;subst lL;rw[hs]at hY;obtain⟨L,ad,c,hL,cZ,nM,fR,fQ,qW,lY,mW,hv⟩:=hY.aS
     replace hc:(bif Nat.beq n 0 then K (.sl r g off l sz cap) hp nx else C8 z e sz n cs r g off l cap hp nx K (Nat.add off (Nat.mul l sz)) (Nat.add off (Nat.mul (Nat.add l n) sz)))=m:=hc
     cases gQ:Nat.beq n 0<;>rw[gQ]at hc
     .have jL:n≠0:=λe=>by rw[e]at gQ;cases gQ
      replace hc:C8 z e sz n cs r g off l cap hp nx K (off+l * sz) (off+(l+n) * sz)=m:=hc
      have xr:off+(l+n) * sz=off+l * sz+cs.length:=by rw[XJ,hlen];omega
      have mR:0<cs.length:=by rw[hlen];exact Nat.mul_pos (YY jL) fA
      unfold C8 at hc
      split at hc
      .rename_i lN tr n' G fz ro mk hr
       cases eA:(Nat.beq g G&&Nat.ble fz (off+l * sz)&&!ro&&Nat.ble (Nat.add l n) 1000000000&&Nat.ble (off+(l+n) * sz) aH)<;>rw[eA]at hc
       .exact Aq hm hz hc
       simp only[QB,beq_iff,As,XK]at eA;obtain⟨⟨⟨⟨rfl,b2⟩,rfl⟩,b4⟩,b5⟩:=eA;have b4:l+n<=1000000000:=b4
       replace hc:Apr z e sz n cs r g off l cap hp nx K (off+l * sz) (off+(l+n) * sz) lN tr n' g fz mk=m:=hc
       obtain⟨o,q1,q2,q3,q4⟩:=h.obj r g L hL;rw[hr]at q1;cases q1;have nP:base<=L.aE:=UF λhb=>by have:=q4 hb;cases this
       obtain⟨_,arr,gR,p1,p2,p3,p4⟩:=q2;obtain⟨p5,p6⟩:=p4 rfl
       -- in rY room tl is there
       have eT:∀v,l+n<=c->VR ι v (.slice (some ad) (l+n) c)->Zg z cs hp nx r (off+l * sz) lN tr n' g fz mk v K=m->
         Fg S base w0 U ι w (do pure (.value (<-Builtin.append_ #[t,u] ty #[a.eval s,a.eval x]))) K m:=by
        intro v fD hvr hc;have fQ:=fQ (by omega);subst fQ;unfold Zg at hc;cases gj:there tr (len cs) (off+l * sz)<;>rw[gj]at hc
        .exact Aq hm hz hc
        rw[B7]at gj;obtain⟨s1,s2⟩:=h.store (off:=off+l * sz) hL hr (by omega) b2 gj iJ BN
        replace hc:zK g cs hp r (off+l * sz) lN tr n' g fz mk (λhp=>K v hp nx)=m:=hc
        unfold zK at hc;rw[Px,Tr.bS]at hc;have aG:=run_append_room (ty:=ty) (l:=l) (c:=c) (bs:=some ⟨L.aE,off-L.lo,none⟩) hd hi (by rw[yG,aM]) (by rw[qZ];exact fP) fA hE fD (λad e=>by
         cases e;rw[Ff,show off-L.lo+l * sz=off+l * sz-L.lo by omega];exact s1) (λe=>by cases e)
        exact⟨_,_,_,hc.symm,ι,_,_,Ex.refl,s2,.inl (by simp[hv,aG]),hvr⟩
       have mU:∀w':World,w'.heap=w.heap->∃os,os.length=l * sz/\(Builtin.firstCells sz l (.slice (some ad) l c)).run S.P w'=.ok ⟨os⟩ w'/\∀i,i<l * sz->os[i]?=arr[off-L.lo+i]?:=λw' iV=>by
        have fD:off+l * sz<=L.lo+arr.size:=by
         have:l * sz<=c * sz:=QH _ qW;omega
        refine⟨(arr.toList.drop (off-L.lo)).take (l * sz),?_,?_,λi hi=>?_⟩
        .rw[ZF,ZQ,UN];omega
        .have hl:((arr.toList.drop (off-L.lo)).take (l * sz)).length=l * sz:=by rw[ZF,ZQ,UN];omega
         simp only[Builtin.firstCells]
         by_cases h0:l * sz=0
         .rw[h0,List.take_zero];exact P5
         .have sQ:0<l:=YY λe=>h0 (by rw[e,VF])
          have fQ:=fQ (by omega);subst fQ;have:=Iz (P:=S.P) (w:=w') (b:=L.aE) (o:=off-L.lo) (us:=(arr.toList.drop (off-L.lo)).take (l * sz)) (λj u hj=>by
           rw[QL]at hj
           split at hj
           .rw[XL,QG]at hj
            simp only[World.cell?,iV,p1];exact hj
           .cases hj)
          rw[hl]at this;exact this
        .rw[QL,QE hi,XL,QG]
       unfold Apr at hc;cases py:Nat.beq cap 0<;>rw[py]at hc
       .obtain⟨k,rfl⟩:∃k,cap=k+1:=by
         cases cap with
         |zero=>cases py
         |succ k=>exact⟨k,rfl⟩
        have pS:=mW k rfl;subst pS
        replace hc:(bif Nat.ble (Nat.succ (Nat.add l n)) (c+1) then Zg z cs hp nx r (off+l * sz) lN tr n' g fz mk (.sl r g off (Nat.add l n) sz (c+1)) K
         else match Ha tr g (Nat.mul l sz) off with
          |some old=>newRow z e sz (Nat.add l n) (app old cs) hp nx K
          |none=>z)=m:=hc
        cases xo:Nat.ble (Nat.succ (Nat.add l n)) (c+1)<;>rw[xo]at hc
        .have qP:¬l+n<=c:=λhle=>by
          have:=(As (Nat.succ (Nat.add l n)) (c+1)).2 (Nat.succ_le_succ hle);rw[xo]at this;cases this
         replace hc:(match Ha tr g (Nat.mul l sz) off with
          |some old=>newRow z e sz (Nat.add l n) (app old cs) hp nx K
          |none=>z)=m:=hc
         split at hc
         .rename_i old hold
          rw[Ls]at hc;obtain⟨os,o1,o2,o3,o4⟩:=(h.rd.of hL hr).cells cZ hold;have o1:os.length=l * sz:=o1;have xb:(Builtin.firstCells sz l (.slice (some ad) l c)).run S.P w.drew=.ok ⟨os⟩ w.drew:=by
           simp only[Builtin.firstCells]
           by_cases h0:l * sz=0
           .have:os=[]:=QQ (by rw[o1,h0])
            rw[h0,this];exact P5
           .have sQ:0<l:=YY λe=>h0 (by rw[e,VF])
            have fQ:=fQ (by omega);subst fQ;have:=Iz (P:=S.P) (w:=w.drew) (b:=L.aE) (o:=off-L.lo) (us:=os) (λj u hj=>by
             exact o4 j u hj)
            rw[o1]at this;exact this
          obtain⟨cap,dH,aG⟩:=run_append_grow (ty:=ty) (l:=l) (c:=c) (bs:=some ad) (os:=os) hd hi (by rw[yG,aM]) (by rw[qZ];exact fP) fA hE qP b4 jT (by rw[sF,aM]) xb;refine Aev (cap:=cap) (us:=os++us) h hm hz fA hc dH (by rw[QW,o1,JL,<-XJ];rfl) (o2.app iJ) (λu hu=>by
           rcases List.mem_append.1 hu with hu|hu
           .exact o3 u hu
           .exact BN u hu) (by rw[sF,aM]) ?_
          simp[hv,aG]
         .exact Aq hm hz hc
        .have hle:l+n<=c:=Nat.le_of_succ_le_succ ((As _ _).1 xo)
         exact eT _ hle (.sl hL cZ fA fR fQ hle (λe=>by cases e) (λk e=>by cases e;rfl)) hc
       .have uJ:cap=0:=(beq_iff _ _).1 py
        subst uJ;have kX:=lY rfl
        replace hc:(bif Nat.ble (off+(l+n) * sz) n' then Zg z cs hp nx r (off+l * sz) lN tr n' g fz mk (.sl r g off (Nat.add l n) sz 0) K
         else PM z e cs hp nx r off (Nat.add l n) sz (off+l * sz) lN tr (off+(l+n) * sz) g fz mk K)=m:=hc
        cases xo:Nat.ble (off+(l+n) * sz) n'<;>rw[xo]at hc
        .have mG:n'<=off+(l+n) * sz:=by
          have:¬off+(l+n) * sz<=n':=λhle=>by have:=(As _ _).2 hle;rw[xo]at this;cases this
          omega
         replace hc:PM z e cs hp nx r off (l+n) sz (off+l * sz) lN tr (off+(l+n) * sz) g fz mk K=m:=hc
         unfold PM at hc;cases hbt:Nat.beq lN e<;>rw[hbt]at hc
         .exact Aq hm hz hc
         rw[beq_iff]at hbt;subst hbt
         replace hc:(Gg (Nat.succ g) λG'=>Gg (off+(l+n) * sz) λtop=>DL G' cs tr (off+l * sz) λtr=>Tr.dL hp r (.c lN tr top G' fz false mk) λhp=>K (.sl r G' off (l+n) sz 0) hp nx)=m:=hc
         rw[Ej,Ej,Px,Tr.bS]at hc;have hk:off+l * sz+cs.length<=aH:=by omega
         by_cases fD:l+n<=c
         .have fQ:=fQ (by omega)
          subst fQ;have cV:(l+n) * sz<=c * sz:=QH _ fD;have TZ:off+l * sz-L.lo+us.length<=arr.size:=by rw[<-iJ.1];omega
          obtain⟨⟨iU,w1,w2,w3⟩,w4,w5,w6⟩:=Ij us (off+l * sz-L.lo) w arr p1 TZ;have vw:(storeCells (({ block:=L.aE,off:=off-L.lo }:Addr).add (l * sz)) us).run S.P w=.ok () (w.setCells L.aE (off+l * sz-L.lo) us):=by
           rw[Ff,show off-L.lo+l * sz=off+l * sz-L.lo by omega];have aG:=run_storeCells_cells (P:=S.P) L.aE (off+l * sz-L.lo) us 0 w (λj hj=>by
             have:off+l * sz-L.lo+j<arr.size:=by omega
             simp[World.cell?,p1,this])
            (λj hj=>by
             obtain⟨f1,f2⟩:=gR;simp only[World.frozen?,p1,YV,XG]
             by_cases uC:mk=true
             .rw[QE uC]at p6
              rcases p6 with p6|p6<;>cases p6<;>omega
             .rw[QD uC]at p6
              have q7:f2<=fz-L.lo:=p6.2;omega) BN
           simpa using aG
          have aG:=run_append_room (ty:=ty) (l:=l) (c:=c) (bs:=some ⟨L.aE,off-L.lo,none⟩) hd hi (by rw[yG,aM]) (by rw[qZ];exact fP) fA hE fD (λad e=>by cases e;exact vw) (λe=>by cases e);obtain⟨n1,n2⟩:=h.up (at_:=off+l * sz) (top:=off+(l+n) * sz) (L':=L) (cs:=cs) hL hr (w6 base nP) (λk gP _=>w4 k gP) ⟨arr,iU,gR,p1,w1,w2,λi hi=>by
            rw[w3,QD (by rw[<-iJ.1];omega)]⟩ (.inl rfl) (by rw[w5];exact q3)
           ⟨iU,gR,w1,by rw[w2];exact p2,λi c hc jM=>by
            rw[Jn _ _ _ _ _ hk]at hc
            split at hc
            .rename_i hi
             cases kF:cs[i-(off+l * sz)]? with
             |none=>rw[kF]at hc;cases hc
             |some x =>
              rw[kF]at hc;cases hc;obtain⟨v,vV,iW⟩:=iJ.get kF;refine⟨v,?_,iW,BN v (QF vV)⟩;rw[w3,QE (by rw[<-iJ.1];omega),show i-L.lo-(off+l * sz-L.lo)=i-(off+l * sz) by omega];exact vV
            .rename_i hi
             obtain⟨s1,s2,s3,s4⟩:=p3 i c hc;obtain⟨v,t1,t2,t3⟩:=s4 s1 jM;refine⟨v,?_,t2,t3⟩;rw[w3,QD (by rw[<-iJ.1];omega)];exact t1,by omega,by rw[w2];exact p6⟩ hk xr mG
          exact⟨_,_,_,hc.symm,_,_,_,n2,n1,.inl (by simp[hv,aG]),.sl (Ip.bW _ _ _ _) cZ fA fR (λ_=>rfl) fD lY (λk e=>by cases e)⟩
         .obtain⟨os,o1,xb,o3⟩:=mU w.drew rfl
          obtain⟨cap,dH,aG⟩:=run_append_grow (ty:=ty) (l:=l) (c:=c) (bs:=some ad) (os:=os) hd hi (by rw[yG,aM]) (by rw[qZ];exact fP) fA hE fD b4 jT (by rw[sF,aM]) xb;have aT:(os++us++(List.replicate (cap-(l+n)) zv.cells.toList).flatten).length=cap * sz:=by
           rw[QW,Cn,QW,o1,JL];have e1:zv.cells.toList.length=sz:=by simp[sF,aM]
           rw[e1,<-XJ,<-XJ];congr 1;omega
          have cV:(l+n) * sz<=cap * sz:=QH _ dH;have lX:HR S base w0 U ι hp nx w.drew:=h.drew;have hha:∀k,k<w.heap.size->(w.drew.alloc (.cells ⟨os++us++(List.replicate (cap-(l+n)) zv.cells.toList).flatten⟩ lN)).heap[k]?=w.heap[k]?:=λk gP=>Below.heap_alloc w.drew _ k gP;obtain⟨n1,n2⟩:=lX.up (w':=w.drew.alloc (.cells ⟨os++us++(List.replicate (cap-(l+n)) zv.cells.toList).flatten⟩ lN)) (at_:=off+l * sz) (top:=off+(l+n) * sz) (L':=⟨w.heap.size,off,off+cap * sz⟩) (cs:=cs) hL hr ((Below.refl base w.drew).alloc h.top _) (λk _ gP=>hha k gP)
           ⟨arr,arr,gR,p1,by rw[hha _ q3];exact p1,rfl,λ_ _=>rfl⟩ (.inr rfl) (by show w.heap.size<_;simp)
           ⟨⟨os++us++(List.replicate (cap-(l+n)) zv.cells.toList).flatten⟩,(0,0),World.alloc_heap_new w.drew _,by
            have:(⟨os++us++(List.replicate (cap-(l+n)) zv.cells.toList).flatten⟩:Array Value).size=cap * sz:=aT;rw[this];exact QK _,λi c hc jM=>by
            have jM:off<=i:=jM;rw[ZW];rw[Jn _ _ _ _ _ hk]at hc
            split at hc
            .rename_i hi
             cases kF:cs[i-(off+l * sz)]? with
             |none=>rw[kF]at hc;cases hc
             |some x =>
              rw[kF]at hc;cases hc;obtain⟨v,vV,iW⟩:=iJ.get kF;refine⟨v,?_,iW,BN v (QF vV)⟩;have aA:=(List.getElem?_eq_some_iff.1 vV).1;show (os++us++_)[i-off]?=some v;rw[QJ (by rw[QW,o1];omega),QU (by rw[o1];omega),o1,show i-off-l * sz=i-(off+l * sz) by omega];exact vV
            .rename_i hi
             obtain⟨s1,s2,s3,s4⟩:=p3 i c hc;obtain⟨v,t1,t2,t3⟩:=s4 s1 (by omega);refine⟨v,?_,t2,t3⟩;have aA:i-off<l * sz:=by omega
             show (os++us++_)[i-off]?=some v;rw[QJ (by rw[QW,o1];omega),QJ (by rw[o1];exact aA),o3 _ aA,show off-L.lo+(i-off)=i-L.lo by omega];exact t1,by show off+(l+n) * sz<=off+cap * sz;omega,by
            by_cases uC:mk=true
            .rw[QE uC];exact .inl rfl
            .rw[QD uC];exact⟨rfl,ZD _⟩⟩ hk xr mG
          exact⟨_,_,_,hc.symm,_,.slice (some ⟨w.heap.size,0,none⟩) (l+n) cap,_,n2,n1,.inl (by simp[hv,aG]),.sl (Ip.bW _ _ _ _) (QK _) fA (QK _) (λ_=>by show _=(⟨w.heap.size,off-off,none⟩:Addr);rw[UC]) dH (λ_=>by
           show cap=(off+cap * sz-off) / sz;rw[ZI,Nat.mul_div_cancel _ fA]) (λk e=>by cases e)⟩
        .have hle:=(As _ _).1 xo
         have fe:l+n<=c:=by
          rw[kX,Nat.le_div_iff_mul_le fA];omega
         exact eT _ fe (.sl hL cZ fA fR fQ fe lY (λk e=>by cases e)) hc
      .exact Aq hm hz hc
     .replace hc:K (.sl r g off l sz cap) hp nx=m:=hc
      have jL:n=0:=(beq_iff _ _).1 gQ;subst jL;have TX:us=[]:=QQ (by rw[JL,VF]);have aG:=run_append_room (ty:=ty) (l:=l) (c:=c) (bs:=some ad) (w':=w) hd hi (by rw[yG,aM]) (by rw[qZ];exact fP) fA hE (by omega) (λzw e=>by rw[TX];rfl) (λ_=>rfl);rw[ZA]at aG;exact⟨_,_,_,hc.symm,ι,.slice (some ad) l c,w,Ex.refl,h,.inl (by simp[hv,aG]),.sl hL cZ nM fR fQ qW lY mW⟩
    .exact Aq hm hz hc
   .exact Aq hm hz hc
  .exact Aq hm hz hc
 .exact Aq hm hz hc
end
section
variable {S:Sg} {base:Nat} {w0 w:World} {U:Nat->Option CO} {ι:Ip} {hp:Tr CO} {nx:Nat} {fr:Tr CV} {a:Act} {K:KA} {z m:AM}
theorem Fg.congr{s s':Sem Next}(h:Fg S base w0 U ι w s K m)(e:s'.run S.P w=s.run S.P w):Fg S base w0 U ι w s' K m:=by
 unfold Fg at h ⊢;rw[e];exact h
theorem y8(hS:eH S)(h:HR S base w0 U ι hp nx w)(hg:GR S ι)(hf:FR ι fr a.tmps){s d:Nat}{X:Operand}(hm:nb m)(hz:∃n,z=.bad n)(hc:Si S.en s d X z hp nx fr K=m):
  Fg S base w0 U ι w (do pure (.value (<-convert s d (a.eval X)))) K m:=by
 have hX:=Ay hg hf X;unfold Si at hc
 split at hc
 .rename_i e he
  have hd:=Hd hS he;unfold ak at hc
  split at hc
  .rename_i n1 b1 z1 n2 b2 z2 gw jC
   have hs:=(hS.T s _ gw).string rfl;have hu:=(hS.T e _ jC).int rfl
   split at hc
   .rename_i l n hx
    rw[hx]at hX;obtain⟨hv,hn⟩:=hX.fJ;refine (y5 h hn hm hz hc).congr ?_;simp[convert,Ad hs,Ad hd,Ad hu,hv]
   .exact Aq hm hz hc
  .rename_i e1 n1 b1 z1 n2 b2 z2 gw jC
   have hs:=(hS.T s _ gw).slice rfl;have hu:=(hS.T e _ jC).int rfl
   split at hc
   .rename_i r g off l sz cap hx
    rw[hx]at hX;obtain⟨hsd,ad,c,hv,hdo⟩:=ki h hX hm hz hc;rw[beq_iff]at hsd;subst hsd;refine hdo.congr ?_;rw[hs]at hd;cases hd;rw[hv];simp only[convert,Sem.run_bind,Ad hs,Ad hu,Result.andThen_ok,beq_self_eq_true];cases (markStringish ad).run S.P w<;>rfl
   .exact Aq hm hz hc
  .exact Aq hm hz hc
 .split at hc
  .rename_i v hv
   obtain⟨u,h1,h2⟩:=Aen hS h.rd hv hX;exact⟨_,_,_,hc.symm,ι,u,w,Ex.refl,h,.inl (by simp[h1]),h2⟩
  .exact Aq hm hz hc
theorem KS(hS:eH S)(h:HR S base w0 U ι hp nx w)(hg:GR S ι)(hf:FR ι fr a.tmps){o:Oper}(hm:nb m)(hz:∃n,z=.bad n){x:XF}(hx:∀hp fr,x.f hp fr=oU S.en hp fr o)(hc:(sf x).f z hp nx fr K=m):Fg S base w0 U ι w (execOp a.eval o) K m:=by
 replace hc:(match x.f hp fr with|some v=>K v hp nx|none=>z)=m:=hc
 rw[hx]at hc
 split at hc
 .rename_i v hv
  obtain⟨u,h1,h2⟩:=An5 hS h.rd hg hf hv;exact⟨_,_,_,hc.symm,ι,u,w,Ex.refl,h,.inl h1,h2⟩
 .exact Aq hm hz hc
theorem Jg{c:Call}:c.args.map a.eval=(c.args.toList.map a.eval).toArray:=by apply XN;simp
theorem Fg.op{o:Oper}{s:Sem Next}(h:Fg S base w0 U ι w s K m)(e:execOp a.eval o=s):Fg S base w0 U ι w (execOp a.eval o) K m:=e ▸ h
theorem yx(hS:eH S)(h:HR S base w0 U ι hp nx w)(hg:GR S ι)(hf:FR ι fr a.tmps){o:Oper}(hm:nb m)(hz:∃n,z=.bad n)(hc:yZ z S.en hp nx fr o K=m):Fg S base w0 U ι w (execOp a.eval o) K m:=by
 unfold yZ at hc;have xH:∀x:XF,(∀hp fr,x.f hp fr=oU S.en hp fr o)->(sf x).f z hp nx fr K=m->Fg S base w0 U ι w (execOp a.eval o) K m:=λx hx hc=>KS hS h hg hf hm hz hx hc;cases ho:o.op<;>rw[ho]at hc<;>simp only[MH]at hc<;>first|exact xH _ (λhp fr=>by unfold oU;rw[ho]) hc|skip
 case alloc t=>exact (ku hS h hm hz hc).op (by simp[execOp,ho])
 case box t x=>exact (KT hS h hg hf hm hz hc).op (by simp[execOp,ho])
 case buildSlice t n ps=>exact (Aph hS h hg hf hm hz hc).op (by simp[execOp,ho])
 case makeSlice t l c=>exact (kj hS h hg hf hm hz hc).op (by simp[execOp,ho])
 case store t x y=>exact (j9 hS h hg hf hm hz hc).op (by simp[execOp,ho])
 case convert s d x=>exact (y8 hS h hg hf hm hz hc).op (by simp[execOp,ho])
 case makeMap t r =>
  cases r with
  |none=>exact (Alk (t:=t) h hm hz hc).op (by simp[execOp,ho])
  |some r=>exact Aq hm hz hc
 case mapUpdate t x y u=>exact (Ai1 hS h hg hf hm hz hc).op (by simp[execOp,ho])
 case insert t x y u=>exact (Ai1 hS h hg hf hm hz hc).op (by simp[execOp,ho])
 case range t x=>exact (kh hS h hg hf hm hz hc).op (by simp[execOp,ho])
 case next x s=>exact (y6 (ty:=o.type) h hg hf hm hz hc).op (by simp[execOp,ho])
 case call c =>
  split at hc
  .rename_i b hb
   cases b<;>simp only[MG]at hc<;>first|exact xH _ (λhp fr=>by unfold oU;rw[ho];simp only[ru,hb]) hc|skip
   .exact (Api hS h hg hf (ty:=o.type) hm hz hc).op (by
     rw[E4 ho hb (f:=Builtin.append_) (λ_ _ _ _=>rfl),Jg])
   .exact (ks hS h hg hf (ty:=o.type) hm hz hc).op (by
     rw[E4 ho hb (f:=Builtin.clear_) (λ_ _ _ _=>rfl),Jg])
   .exact (y7 hS h hg hf (ty:=o.type) hm hz hc).op (by
     rw[E4 ho hb (f:=Builtin.copy_) (λ_ _ _ _=>rfl),Jg])
   .exact (y4 hS h hg hf (ty:=o.type) hm hz hc).op (by
     rw[E4 ho hb (f:=Builtin.unsafeString_) (λ_ _ _ _=>rfl),Jg])
  .exact Aq hm hz hc
end
def Alike(en:En)(fr aO:Tr CV)(xs:List Operand):Prop:=∀x∈xs,ev en fr x=ev en aO x
section
variable {en:En} {fr aO:Tr CV} {hp:Tr CO} {nx:Nat} {K:KA} {z m:AM}
theorem Alike.map{xs:List Operand}(h:Alike en fr aO xs):xs.map (ev en fr)=xs.map (ev en aO):=VJ h
theorem Alike.sub{xs ys:List Operand}(h:Alike en fr aO xs)(hs:∀y∈ys,y∈xs):Alike en fr aO ys:=λy hy=>h y (hs y hy)
theorem Sa{fs:List (Nat×Nat)}:∀(ps:List (Nat×Operand)) (cs:List CV),Alike en fr aO (ps.map (·.2))->dI en fs fr ps cs=dI en fs aO ps cs
 | [],cs,_=>rfl
 |p :: ps,cs,h=>by
  have h1:ev en fr p.2=ev en aO p.2:=h _ (by simp);have h2:Alike en fr aO (ps.map (·.2)):=h.sub (λy hy=>by simp at hy ⊢;exact .inr hy);show (match nth fs p.1 with
   |none=>none
   |some (off,ft)=>match Ez en ft with
    |none=>none
    |some n=>M4 cs (ev en fr p.2) off n (dI en fs fr ps))=(match nth fs p.1 with
   |none=>none
   |some (off,ft)=>match Ez en ft with
    |none=>none
    |some n=>M4 cs (ev en aO p.2) off n (dI en fs aO ps))
  rw[h1,show dI en fs fr ps=dI en fs aO ps from funext λcs=>Sa ps cs h2]
theorem Li{sz:Nat}:∀(ps:List (Nat×Operand)) (cs:List CV),Alike en fr aO (ps.map (·.2))->Hy en sz fr ps cs=Hy en sz aO ps cs
 | [],cs,_=>rfl
 |p :: ps,cs,h=>by
  have h1:ev en fr p.2=ev en aO p.2:=h _ (by simp);have h2:Alike en fr aO (ps.map (·.2)):=h.sub (λy hy=>by simp at hy ⊢;exact .inr hy);show M4 cs (ev en fr p.2) (Nat.mul p.1 sz) sz (Hy en sz fr ps)=M4 cs (ev en aO p.2) (Nat.mul p.1 sz) sz (Hy en sz aO ps);rw[h1,show Hy en sz fr ps=Hy en sz aO ps from funext λcs=>Li ps cs h2]
theorem U0{d:Nat}{x:Option Operand}(h:Alike en fr aO x.toList):Hs en fr d x=Hs en aO d x:=by
 cases x with
 |none=>rfl
 |some x=>show So (ev en fr x)=So (ev en aO x);rw[h x (by simp)]
theorem Ajn{t:Nat}{x:CV}{lo hi mx:Option Operand}(h1:Alike en fr aO lo.toList)(h2:Alike en fr aO hi.toList)(h3:Alike en fr aO mx.toList):rZ en hp t x lo hi mx fr=rZ en hp t x lo hi mx aO:=by
 have e1:∀d,Hs en fr d lo=Hs en aO d lo:=λd=>U0 h1;have e2:∀d,Hs en fr d hi=Hs en aO d hi:=λd=>U0 h2;cases mx with
 |none=>simp only[rZ,NM,NO,EY,tz,EZ,e1,e2]
 |some m =>
  have e3:=h3 m (by simp);simp only[rZ,NM,NO,EY,tz,EZ,e1,e2,e3]
theorem Me{o:Oper}(h:Alike en fr aO o.op.operands.toList):oU en hp fr o=oU en hp aO o:=by
 unfold oU;cases ho:o.op<;>rw[ho]at h<;>simp only[ru]<;>first|rfl|skip
 case move x=>rw[h x (by simp[Op.operands])]
 case assign x=>rw[h x (by simp[Op.operands])]
 case pick c x y=>simp only[PI,h c (by simp[Op.operands]),h x (by simp[Op.operands]),h y (by simp[Op.operands])]
 case binOp op t x y yt=>rw[h x (by simp[Op.operands]),h y (by simp[Op.operands])]
 case unOp op t x=>rw[h x (by simp[Op.operands])]
 case load t x=>simp only[NA,h x (by simp[Op.operands])]
 case fieldAddr t x f=>simp only[To,h x (by simp[Op.operands])]
 case field t x f=>simp only[RD,h x (by simp[Op.operands])]
 case indexAddr t x y=>simp only[Tn,h x (by simp[Op.operands]),h y (by simp[Op.operands])]
 case index t x y=>simp only[RF,h x (by simp[Op.operands]),h y (by simp[Op.operands])]
 case extract x i=>simp only[Pl,h x (by simp[Op.operands])]
 case nilCheck x=>simp only[jd,h x (by simp[Op.operands])]
 case slice t x lo hi mx =>
  rw[h x (by simp[Op.operands])];exact Ajn (h.sub λy hy=>by simp[Op.operands]at hy ⊢;simp[hy]) (h.sub λy hy=>by simp[Op.operands]at hy ⊢;simp[hy]) (h.sub λy hy=>by simp[Op.operands]at hy ⊢;simp[hy])
 case convert s d x=>rw[h x (by simp[Op.operands])]
 case makeInterface t x=>simp only[RE,h x (by simp[Op.operands])]
 case makeFunc f A C =>
  have h1:Alike en fr aO A.toList:=h.sub λy hy=>by simp[Op.operands]at hy ⊢;exact .inl hy
  have h2:Alike en fr aO C.toList:=h.sub λy hy=>by simp[Op.operands]at hy ⊢;exact .inr hy
  simp only[PH,h1.map,h2.map]
 case build t ps =>
  have h1:Alike en fr aO (ps.toList.map (·.2)):=h.sub λy hy=>by simpa[Op.operands] using hy
  have e1:∀fs cs,dI en fs fr ps.toList cs=dI en fs aO ps.toList cs:=λfs cs=>Sa _ _ h1;have e2:∀sz cs,Hy en sz fr ps.toList cs=Hy en sz aO ps.toList cs:=λsz cs=>Li _ _ h1;simp only[RC,e1,e2]
 case lookup t x y ok=>simp only[NB,h x (by simp[Op.operands]),h y (by simp[Op.operands])]
 case call c =>
  cases hc:c.callee<;>simp only;rename_i b;have h1:Alike en fr aO c.args.toList:=h.sub λy hy=>by simp[Op.operands,Call.operands,hc]at hy ⊢;first|exact hy|exact .inl hy|exact .inr hy
  have h2:∀x,c.args.toList=[x]->ev en fr x=ev en aO x:=λx e=>h1 x (by rw[e];simp);cases b<;>simp only[MN]<;>first|rfl|skip
  all_goals (generalize c.args.toList=xs at h1 h2;generalize c.argTypes.toList=ts)
  .cases xs with
   |nil=>rfl
   |cons x xs=>cases xs with
    |nil=>cases ts with
     |nil=>rfl
     |cons t ts=>cases ts with
      |nil=>simp only[je,h2 x rfl]
      |cons t' ts=>rfl
    |cons y xs=>rfl
  .cases xs with
   |nil=>rfl
   |cons x xs=>cases xs with
    |nil=>cases ts with
     |nil=>rfl
     |cons t ts=>cases ts with
      |nil=>simp only[ML,h2 x rfl]
      |cons t' ts=>rfl
    |cons y xs=>rfl
  .cases xs with
   |nil=>rfl
   |cons x xs=>simp only[CF,h1 x (by simp),(h1.sub (ys:=xs) λy hy=>by simp[hy]).map]
  .cases xs with
   |nil=>rfl
   |cons x xs=>simp only[CF,h1 x (by simp),(h1.sub (ys:=xs) λy hy=>by simp[hy]).map]
  .cases xs with
   |nil=>rfl
   |cons x xs=>cases xs with
    |nil=>simp only[jc,h2 x rfl]
    |cons y xs=>rfl
theorem Ae8{x:XF}(h:∀hp,x.f hp fr=x.f hp aO):(sf x).f z hp nx fr K=(sf x).f z hp nx aO K:=by
 show (match x.f hp fr with|some v=>K v hp nx|none=>z)=(match x.f hp aO with|some v=>K v hp nx|none=>z);rw[h]
theorem Ali{o:Oper}(h:Alike en fr aO o.op.operands.toList):yZ z en hp nx fr o K=yZ z en hp nx aO o K:=by
 have xH:∀x:XF,(∀hp fr,x.f hp fr=oU en hp fr o)->(sf x).f z hp nx fr K=(sf x).f z hp nx aO K:=λx hx=>Ae8 λhp=>by rw[hx,hx];exact Me h
 unfold yZ;cases ho:o.op<;>simp only[MH]<;>first|exact xH _ (λhp fr=>by unfold oU;rw[ho])|skip
 all_goals rw[ho]at h
 case box t x=>simp only[kx,h x (by simp[Op.operands])]
 case buildSlice t n ps =>
  have h1:Alike en fr aO (ps.toList.map (·.2)):=h.sub λy hy=>by simpa[Op.operands] using hy
  have e2:∀sz cs,Hy en sz fr ps.toList cs=Hy en sz aO ps.toList cs:=λsz cs=>Li _ _ h1;simp only[Tq,e2]
 case makeSlice t l c=>simp only[RP,h l (by simp[Op.operands]),h c (by simp[Op.operands])]
 case store t x y=>simp only[RT,h x (by simp[Op.operands]),h y (by simp[Op.operands])]
 case convert s d x=>simp only[Si,h x (by simp[Op.operands])]
 case makeMap t r=>cases r<;>rfl
 case mapUpdate t x y u=>simp only[Q2,h x (by simp[Op.operands]),h y (by simp[Op.operands]),h u (by simp[Op.operands])]
 case insert t x y u=>simp only[Q2,h x (by simp[Op.operands]),h y (by simp[Op.operands]),h u (by simp[Op.operands])]
 case range t x=>simp only[RQ,h x (by simp[Op.operands])]
 case next x s=>simp only[PQ,h x (by simp[Op.operands])]
 case call c =>
  cases hc:c.callee<;>simp only;rename_i b;have h1:Alike en fr aO c.args.toList:=h.sub λy hy=>by simp[Op.operands,Call.operands,hc]at hy ⊢;first|exact hy|exact .inl hy|exact .inr hy
  cases b<;>simp only[MG]<;>first|exact xH _ (λhp fr=>by unfold oU;rw[ho];simp only[ru,hc])|skip
  all_goals (generalize c.args.toList=xs at h1;generalize c.argTypes.toList=ts)
  all_goals (
   cases xs with
   |nil=>rfl
   |cons x xs =>
    have e1:=h1 x (by simp);cases xs with
    |nil=>cases ts with
     |nil=>rfl
     |cons t ts=>cases ts with
      |nil=>simp only[Mj,Q3,Zd,Zc,e1]
      |cons t' ts=>simp only[Mj,Q3,Zd,Zc]
    |cons y xs =>
     have e2:=h1 y (by simp);cases xs with
     |cons z xs=>rfl
     |nil=>cases ts with
      |nil=>rfl
      |cons t ts=>cases ts with
       |nil=>rfl
       |cons t' ts=>cases ts with
        |nil=>simp only[Mj,Q3,Zd,Zc,e1,e2]
        |cons t2 ts=>rfl)
end
def lB(hp dS:Tr CO):Prop:=∀r o,hp.get r=some o->dS.get r=some o
section
variable {en:En} {fr:Tr CV} {hp dS:Tr CO} {v:CV}
theorem Agf(M:lB hp dS){t r g off:Nat}(h:Rw en t hp r g off=some v):Rw en t dS r g off=some v:=by
 unfold Rw at h ⊢
 split at h
 .rename_i hr;rw[M _ _ hr];exact h
 .cases h
theorem Ul(M:lB hp dS)(r g off sz:Nat):Ho hp r g off sz=Ho dS r g off sz\/Ho hp r g off sz=0:=by
 cases hr:hp.get r with
 |none=>right;simp[Ho,hr]
 |some o=>left;simp[Ho,hr,M _ _ hr]
theorem Af3(M:lB hp dS){r g off l sz cap h a:Nat}(e:Yd hp r g off l sz cap h a=some v):Yd dS r g off l sz cap h a=some v:=by
 rcases Ul M r g off sz with hr|hr
 .unfold Yd at e ⊢;rw[<-hr];exact e
 .unfold Yd at e ⊢
  rw[hr]at e;cases hc:Nat.beq cap 0<;>rw[hc]at e
  .exact e
  .cases hb:Nat.ble h l<;>rw[hb]at e
   .cases h with
    |zero=>cases hb
    |succ h=>cases e
   .exact e
theorem Amc(M:lB hp dS){t:Nat}{x:CV}{lo hi mx:Option Operand}(h:rZ en hp t x lo hi mx fr=some v):rZ en dS t x lo hi mx fr=some v:=by
 cases hT:en.T t with
 |none=>simp[rZ,hT]at h
 |some ti =>
  obtain⟨k,n,b,zr⟩:=ti;cases k<;>simp only[rZ,hT]at h ⊢<;>first|(cases h;done)|exact h|skip
  .cases x<;>simp only[EY]at h ⊢<;>first|(cases h;done)|exact h|skip
   rename_i e r g off l sz cap;cases hs:AS en e sz<;>rw[hs]at h
   .cases h
   replace h:tz en hp r g off l sz cap lo hi mx fr=some v:=h
   show tz en dS r g off l sz cap lo hi mx fr=some v;unfold tz at h ⊢;cases h1:Hs en fr l hi<;>rw[h1]at h<;>try (cases h;done)
   cases h2:Hs en fr 0 lo<;>rw[h2]at h<;>try (cases h;done)
   cases mx with
   |some m=>exact h
   |none=>exact Af3 M h
  .cases x<;>simp only at h ⊢<;>first|(cases h;done)|exact h|skip
   rename_i n' e r g off;unfold EZ at h ⊢;cases mx with
   |some m=>exact h
   |none =>
    cases h0:Ez en e with
    |none=>rw[h0]at h;cases h
    |some s =>
     cases s with
     |zero=>rw[h0]at h;cases h
     |succ sz =>
      rw[h0]at h;cases h1:Hs en fr n' hi with
      |none=>rw[h1]at h;cases h
      |some hh =>
       cases h2:Hs en fr 0 lo with
       |none=>rw[h1,h2]at h;cases h
       |some a =>
        rw[h1,h2]at h
        replace h:(bif Nat.ble n' (Ho hp r g off (Nat.succ sz))&&Nat.ble 1 n' then PL r g off n' (Nat.succ sz) hh a else none)=some v:=h
        show (bif Nat.ble n' (Ho dS r g off (Nat.succ sz))&&Nat.ble 1 n' then PL r g off n' (Nat.succ sz) hh a else none)=some v;rcases Ul M r g off (Nat.succ sz) with hr|hr
        .rw[<-hr];exact h
        .rw[hr]at h
         cases n' with
         |zero=>cases h
         |succ n'=>cases h
theorem Ajv(M:lB hp dS){r g off l n:Nat}(h:Xb hp r g off l=some n):Xb dS r g off l=some n:=by
 unfold Xb at h ⊢
 split at h
 .rename_i hr;rw[M _ _ hr];exact h
 .cases h
theorem Ag7(M:lB hp dS){s d:Nat}{x:CV}(h:Po en hp s d x=some v):Po en dS s d x=some v:=by
 cases hT:en.T d with
 |none=>simp[Po,hT]at h
 |some ti =>
  obtain⟨k,n,b,zr⟩:=ti;cases k<;>simp only[Po,hT]at h ⊢<;>first|(cases h;done)|exact h|skip
  .-- strings
   unfold PG at h ⊢
   split at h
   .exact h
   .split at h
    .cases x<;>simp only[MS]at h ⊢<;>first|(cases h;done)|exact h|skip
     split at h
     .rename_i hn;rw[Ajv M hn];exact h
     .cases h
    .cases h
   .cases h
  .-- FH
   unfold PF at h ⊢
   split at h
   .split at h
    .exact h
    .split at h
     .rename_i hs hr;rw[M _ _ hr,hs];exact h
     .cases h
    .cases h
   .cases h
  .unfold PD at h ⊢
   split at h
   .split at h
    .exact h
    .split at h
     .rename_i hs hr;rw[M _ _ hr,hs];exact h
     .cases h
    .cases h
   .cases h
theorem Aga(M:lB hp dS){x k z:CV}{ok:Bool}(h:NG hp x k z ok=some v):NG dS x k z ok=some v:=by
 unfold NG at h ⊢
 split at h
 .exact h
 .split at h
  .rename_i hr;rw[M _ _ hr];exact h
  .cases h
 .cases h
theorem Akl(M:lB hp dS){k:TK}{x:CV}(h:MM k hp x=some v):MM k dS x=some v:=by
 cases k<;>simp only[MM]at h ⊢<;>first|(cases h;done)|exact h|skip
 cases x<;>simp only at h ⊢<;>first|(cases h;done)|exact h|skip
 split at h
 .rename_i hr;rw[M _ _ hr];exact h
 .cases h
theorem An6(M:lB hp dS){o:Oper}(h:oU en hp fr o=some v):oU en dS fr o=some v:=by
 unfold oU at h ⊢;cases ho:o.op<;>rw[ho]at h<;>simp only[ru]at h ⊢<;>first|exact h|skip
 case load t x =>
  unfold NA at h ⊢
  split at h
  .exact Agf M h
  .cases h
 case slice t x lo hi mx=>exact Amc M h
 case convert s d x=>exact Ag7 M h
 case lookup t x y ok =>
  unfold NB at h ⊢
  split at h
  .rename_i kt e n b zr hT
   split at h
   .rename_i z hz
    cases hk:Vo en kt (ev en fr y)<;>rw[hk]at h
    .cases h
    .exact Aga M h
   .cases h
  .cases h
 case call c =>
  cases hc:c.callee<;>rw[hc]at h<;>simp only at h ⊢<;>try (cases h;done)
  rename_i b;cases b<;>simp only[MN]at h ⊢<;>first|exact h|skip
  unfold ML at h ⊢
  split at h
  .split at h
   .exact Akl M h
   .cases h
  .cases h
end
theorem Ab6{ih:CV->CV->Bool}(hi:∀x y,ih x y=true->x=y):∀xs ys:List CV,Mt ih xs ys=true->xs=ys
 | [],[],_=>rfl
 | [],_ :: _,h=>by cases h
 |_ :: _,[],h=>by cases h
 |x :: xs,y :: ys,h=>by
  replace h:(bif ih x y then Mt ih xs ys else false)=true:=h
  cases hb:ih x y<;>rw[hb]at h
  .cases h
  .rw[hi x y hb,Ab6 hi xs ys h]
theorem Uf{r g o r' g' o':Nat}(h:Ug r g o r' g' o'=true):r=r'/\g=g'/\o=o':=by
 unfold Ug at h;simp only[QB,beq_iff]at h;exact⟨h.1.1,h.1.2,h.2⟩
theorem Of:∀(d:Nat) (x y:CV),Ri d x y=true->x=y
 |0,x,y,h=>by cases h
 |d+1,x,y,h=>by
  have ih:=Ab6 (Of d);cases x<;>cases y<;>first|(cases h;done)|rfl|skip
  case b.b s t=>cases s<;>cases t<;>first|rfl|cases h
  case i.i j a k c =>
   replace h:(bif pT j k then vP a c else false)=true:=h
   cases hb:pT j k<;>rw[hb]at h
   .cases h
   .have h:vP a c=true:=h
    rw[Nu,XI]at h;rw[J8.1 hb,h]
  case s.s l n l' n' =>
   replace h:(Nat.beq l l'&&Nat.beq n n')=true:=h
   simp only[QB,beq_iff]at h;rw[h.1,h.2]
  case p.p r g o r' g' o'=>obtain⟨rfl,rfl,rfl⟩:=Uf h;rfl
  case sl.sl r g o l z c r' g' o' l' z' c' =>
   replace h:(Ug r g o r' g' o'&&Ug l z c l' z' c')=true:=h
   rw[QB]at h;obtain⟨rfl,rfl,rfl⟩:=Uf h.1;obtain⟨rfl,rfl,rfl⟩:=Uf h.2;rfl
  case m.m r r'=>rw[(beq_iff _ _).1 h]
  case f.f f xs zs f' ys us =>
   replace h:(bif Nat.beq f f' then Mt (Ri d) xs ys&&Mt (Ri d) zs us else false)=true:=h
   cases hb:Nat.beq f f'<;>rw[hb]at h
   .cases h
   .have h:(Mt (Ri d) xs ys&&Mt (Ri d) zs us)=true:=h
    rw[QB]at h;rw[(beq_iff _ _).1 hb,ih _ _ h.1,ih _ _ h.2]
  case yl.yl l l'=>rw[(beq_iff _ _).1 h]
  case ifc.ifc t x t' y =>
   replace h:(bif Nat.beq t t' then Ri d x y else false)=true:=h
   cases hb:Nat.beq t t'<;>rw[hb]at h
   .cases h
   .rw[(beq_iff _ _).1 hb,Of d x y h]
  case agg.agg xs ys=>rw[ih _ _ h]
  case tup.tup xs ys=>rw[ih _ _ h]
def Tr.vR{α:Type}:Pa->Tr α->Tr α
 |_,.e=>.e
 |.h,.n _ l r=>.n none l r
 |.l p,.n v l r=>.n v (Tr.vR p l) r
 |.r p,.n v l r=>.n v l (Tr.vR p r)
theorem Tr.vQ{α:Type}:∀(p:Pa) (t:Tr α),(Tr.vR p t).oA p=none:=by
 intro p
 induction p with
 |h=>intro t;cases t<;>rfl
 |l p ih=>intro t;cases t with
  |e=>rfl
  |n v l r=>exact ih l
 |r p ih=>intro t;cases t with
  |e=>rfl
  |n v l r=>exact ih r
theorem Tr.js{α:Type}:∀(p p':Pa) (t:Tr α),p'≠p->(Tr.vR p t).oA p'=t.oA p':=by
 intro p
 induction p with
 |h=>intro p' t hn;cases t with
  |e=>rfl
  |n v l r=>cases p' with
   |h=>exact (hn rfl).elim
   |l q=>rfl
   |r q=>rfl
 |l p ih=>intro p' t hn;cases t with
  |e=>rfl
  |n v l r=>cases p' with
   |h=>rfl
   |l q=>exact ih q l λe=>hn (by rw[e])
   |r q=>rfl
 |r p ih=>intro p' t hn;cases t with
  |e=>rfl
  |n v l r=>cases p' with
   |h=>rfl
   |l q=>rfl
   |r q=>exact ih q r λe=>hn (by rw[e])
theorem Tr.yY{α:Type}:∀(ts:List Nat) (t:Tr α),(∀k∈ts,k<aH)->∃t':Tr α,∀k,(k∈ts->t'.get k=none)/\(k ∉ ts->t'.get k=t.get k)
 | [],t,_=>⟨t,λk=>⟨λh=>(List.not_mem_nil h).elim,λ_=>rfl⟩⟩
 |a :: ts,t,h=>by
  obtain⟨t',h'⟩:=Tr.yY ts t (λk hk=>h k (by simp[hk]));have aV:∀k,k≠a->(Tr.vR (path a) t').get k=t'.get k:=λk hk=>Tr.js _ _ _ (λe=>hk (Ah9 (h a (by simp)) e));refine⟨Tr.vR (path a) t',λk=>⟨λhk=>?_,λhk=>?_⟩⟩
  .by_cases he:k=a
   .subst he;exact Tr.vQ _ _
   .rw[aV k he]
    exact (h' k).1 (by simpa[he] using hk)
  .have h1:k≠a:=λe=>hk (by simp[e])
   rw[aV k h1];exact (h' k).2 (λe=>hk (by simp[e]))
inductive gI(ι:Ip):TD->List Item->Prop
 |nil:gI ι .nil []
 |code {c:Code} {t:TD} {k:List Item} (h:gI ι t k):gI ι (.code c t) (.code c :: k)
 |aE {id:Nat} {t:TD} {k:List Item} (h:gI ι t k):gI ι (.aE id t) (.inBlock id :: k)
 |loop {c:Code} {t:TD} {k:List Item} (h:gI ι t k):gI ι (.loop c t) (.inLoop c :: k)
 |scope {c:Code} {t:TD} {k:List Item} (h:gI ι t k):gI ι (.scope c t) (.inScope c :: k)
 |rl {ops:Array Oper} {l:List Oper} {is:List Nat} {t:TD} {k:List Item} (h:gI ι t k) (hl:l.length=is.length) (hi:∀(j i:Nat) (o:Oper),is[j]?=some i->l[j]?=some o->ops[i]?=some o):gI ι (.rl ops l t) (.inRegion ops is :: k)
 |rf {l:Nat} {L:Loc} {t:TD} {k:List Item} (hL:ι l 0=some L) (h:gI ι t k):gI ι (.rf l t) (.inRangeFunc L.aE :: k)
 |vN {l:Nat} {L:Loc} {t:TD} {k:List Item} (hL:ι l 0=some L) (h:gI ι t k):gI ι (.vN l t) (.endRangeFunc L.aE :: k)
 |br {t:TD} {k:List Item} (h:gI ι t k):gI ι (.br t) (.beginRound :: k)
section
variable {ι bI:Ip} {td:TD} {k:List Item}
theorem gI.mono(x:Ex ι bI)(h:gI ι td k):gI bI td k:=by
 induction h with
 |nil=>exact .nil
 |code _ ih=>exact .code ih
 |aE _ ih=>exact .aE ih
 |loop _ ih=>exact .loop ih
 |scope _ ih=>exact .scope ih
 |rl _ hl hi ih=>exact .rl ih hl hi
 |rf hL _ ih=>exact .rf (x _ _ _ hL) ih
 |vN hL _ ih=>exact .vN (x _ _ _ hL) ih
 |br _ ih=>exact .br ih
theorem gI.exit{id:Nat}(h:gI ι td k):(Y5 id td=none/\exitTo id k=none)\/∃t' k',Y5 id td=some t'/\exitTo id k=some k'/\gI ι t' k':=by
 induction h with
 |nil=>exact .inl ⟨rfl,rfl⟩
 |code _ ih=>exact ih
 | @aE j t k h ih =>
  have e1:Y5 id (.aE j t)=bif Nat.beq j id then some t else Y5 id t:=rfl
  have e2:exitTo id (.inBlock j :: k)=if j==id then some k else exitTo id k:=rfl
  rw[e1,e2];cases hb:Nat.beq j id
  .rw[QD (by rw[XI];intro e;rw[(beq_iff j id).2 e]at hb;cases hb)]
   exact ih
  .rw[QE (by rw[XI];exact (beq_iff _ _).1 hb)]
   exact .inr ⟨_,_,rfl,rfl,h⟩
 |loop _ ih=>exact ih
 |scope _ ih=>exact ih
 |rl _ _ _ ih=>exact ih
 |rf _ _ ih=>exact ih
 |vN _ _ ih=>exact ih
 |br _ ih=>exact ih
theorem gI.goto{l:Nat}(h:gI ι td k):(Yw l td=none/\gotoIn l k=none)\/∃t' k',Yw l td=some t'/\gotoIn l k=some k'/\gI ι t' k':=by
 induction h with
 |nil=>exact .inl ⟨rfl,rfl⟩
 |code _ ih=>exact ih
 |aE _ ih=>exact ih
 |loop _ ih=>exact ih
 | @scope c t k h ih =>
  have e1:Yw l (.scope c t)=match findLabel c l with|some rest=>some (.code rest (.scope c t))|none=>Yw l t:=rfl
  have e2:gotoIn l (.inScope c :: k)=match findLabel c l with|some rest=>some (.code rest :: .inScope c :: k)|none=>gotoIn l k:=rfl
  rw[e1,e2];cases hf:findLabel c l with
  |none=>exact ih
  |some rest=>exact .inr ⟨_,_,rfl,rfl,.code (.scope h)⟩
 |rl _ _ _ ih=>exact ih
 |rf _ _ ih=>exact ih
 |vN _ _ ih=>exact ih
 |br _ ih=>exact ih
end
def CX(ι:Ip)(ds:List Nat)(df:List Deferred):Prop:=ds.length=df.length/\∀(i r:Nat) (d:Deferred),ds[i]?=some r->df[i]?=some d->∃L,ι r 0=some L/\d={ target:=.collected L.aE,args:=#[] }
def LS(ι:Ip)(ro mo:Option Nat):Prop:=match ro with
 |none=>mo=none
 |some l=>∃L,ι l 0=some L/\mo=some L.aE
abbrev Kp:=Ip->(Nat->Option CO)->Array Oper->List PE->List Nat->Tr CV->Array Value->Prop
structure iI(S:Sg)(D:Kp)(ι:Ip)(U:Nat->Option CO)(fn:Nat)(fr:Tr CV)(td:TD)(ds:List Nat)(ro:Option Nat)(f:Frame):Prop where
 nA:f.fn=fn
 size:f.tmps.size=S.nt fn
 kind:f.kind=.normal
 df:CX ι ds f.defers
 ro:LS ι ro f.roundOf
 at_:(td=.rt/\f.mode=.returning/\f.roundOf=none/\FR ι fr f.tmps)\/(f.mode=.run/\gI ι td f.todo/\FR ι fr f.tmps)\/
  (f.mode=.run/\∃ops l t is k,td=.rd ops l t/\f.todo=.inRegion ops is :: k/\gI ι t k/\D ι U ops l is fr f.tmps)
inductive Eb(S:Sg)(D:Kp)(ι:Ip)(V:Nat->Nat->Option CO)(bA:List Frame)(f0:Nat):Nat->Nat->gJ->List Frame->Prop
 |nil:Eb S D ι V bA f0 0 f0 .nil bA
 |cons {n top fn:Nat} {fr:Tr CV} {td:TD} {ds:List Nat} {ro:Option Nat} {k:gJ} {f:Frame} {cs:List Frame} (h:iI S D ι (V n) fn fr td ds ro f) (hs:Eb S D ι V bA f0 n fn k cs):Eb S D ι V bA f0 (n+1) top (.cons fn fr td ds ro k) (f :: cs)
def UV(U:Nat->Option CO)(V:Nat->Nat->Option CO):Prop:=(∀r o,U r=some o↔∃d,V d r=some o)/\∀d d' r o o',V d r=some o->V d' r=some o'->d=d'
structure DD where
 d0:Kp
 d1:Tr CO->Kp
def Xw(S:Sg)(D:DD)(base:Nat)(w0:World)(bA:List Frame)(f0:Nat)(m:AM)(M:Machine):Prop:=match m with
 |.run fn fr td ds ro k hp nx=>∃ι U V n f cs w,M=lone f cs w/\HR S base w0 U ι hp nx w/\UV U V/\GR S ι/\iI S (D.d1 hp) ι (V n) fn fr td ds ro f/\Eb S D.d0 ι V bA f0 n fn k cs
 |.fin v hp nx=>∃ι U f w u,M=lone f bA w/\HR S base w0 U ι hp nx w/\f.leaving S.P w (.returned u)/\f.fn=f0/\VR ι v u
 |.bad _=>True
def Bb(S:Sg)(D:DD)(base:Nat)(w0:World)(bA:List Frame)(f0:Nat)(M:Machine)(m:AM):Prop:=∃M',Steps S.P M M'/\Xw S D base w0 bA f0 m M'
section
variable {S:Sg} {D:DD} {base:Nat} {w0 w w':World} {bA cs:List Frame} {f0:Nat} {ι:Ip} {U:Nat->Option CO} {V:Nat->Nat->Option CO} {n:Nat} {hp:Tr CO} {nx fn:Nat} {fr:Tr CV} {td t:TD} {ds:List Nat} {ro:Option Nat} {k:gJ} {m:AM} {f f':Frame}
theorem Bb.head{M M1:Machine}(h:Go.step S.P M=.next M1)(h':Bb S D base w0 bA f0 M1 m):Bb S D base w0 bA f0 M m:=by
 obtain⟨M',h1,h2⟩:=h';exact⟨M',.head h h1,h2⟩
theorem Bb.stay{M:Machine}(h:Xw S D base w0 bA f0 m M):Bb S D base w0 bA f0 M m:=⟨M,.refl _ _,h⟩
theorem Bb.bad{M:Machine}{n:Nat}:Bb S D base w0 bA f0 M (.bad n):=.stay trivial
def Br(f:Frame):Act:=⟨f.tmps,f.defers⟩
theorem Gl{f:Frame}(h:f.mode=.run):f.atR (Br f) f.todo=f:=by
 cases f;simp only at h;subst h;rfl
theorem iI.todo(h:iI S (D.d1 hp) ι (V n) fn fr td ds ro f)(_hm:f.mode=.run)(hf:FR ι fr f.tmps){k':List Item}(ht:gI ι t k'):iI S (D.d1 hp) ι (V n) fn fr t ds ro (f.atR (Br f) k') :=
 ⟨h.nA,h.size,h.kind,h.df,h.ro,.inr (.inl ⟨rfl,ht,hf⟩)⟩
theorem Bb.jG{k' kk:List Item}(hh:HR S base w0 U ι hp nx w)(hu:UV U V)(hg:GR S ι)(h:iI S (D.d1 hp) ι (V n) fn fr td ds ro f)(hm:f.mode=.run)(hf:FR ι fr f.tmps)(hs:Eb S D.d0 ι V bA f0 n fn k cs)(dF:f.todo=k')
  (cM:Go.step S.P (lone (f.atR (Br f) k') cs w)=.next (lone (f.atR (Br f) kk) cs w)) (ht:gI ι t kk):Bb S D base w0 bA f0 (lone f cs w) (.run fn fr t ds ro k hp nx):=by
 rw[<-dF,Gl hm]at cM;exact .head cM (.stay ⟨ι,U,V,n,_,cs,w,rfl,hh,hu,hg,h.todo hm hf ht,hs⟩)
theorem Aoj(_h:iI S (D.d1 hp) ι (V n) fn fr td ds ro f)(hg:GR S ι)(hf:FR ι fr f.tmps)(x:Operand):VR ι (ev S.en fr x) ((Br f).eval x):=Ay hg hf x
theorem Df{P:Program}{b:Frame}{a:Act}{c:Code}{k:List Item}:Go.step P (lone (b.atR a (.code (.scope c) :: k)) cs w)=.next (lone (b.atR a (.code c :: .inScope c :: k)) cs w) :=
 step_lone_go (by simp[stepG,stepG.exec,Frame.atR])
theorem Ii{P:Program}{b:Frame}{a:Act}{c:Code}{k:List Item}:Go.step P (lone (b.atR a (.inScope c :: k)) cs w)=.next (lone (b.atR a k) cs w) :=
 step_lone_go (by simp[stepG,stepG.exec,Frame.atR])
theorem jz{c:Code}{k':List Item}(hh:HR S base w0 U ι hp nx w)(hu:UV U V)(hg:GR S ι)(h:iI S (D.d1 hp) ι (V n) fn fr (.code c t) ds ro f)(hm:f.mode=.run)(hf:FR ι fr f.tmps)(hs:Eb S D.d0 ι V bA f0 n fn k cs)(dF:f.todo=.code c :: k')(ht:gI ι t k')
  (gC:∀j,(j=.ret\/(∃id,j=.exit id/\exitTo id k'=none)\/∃l,j=.goto l/\gotoIn l k'=none)->c=j->Bb S D base w0 bA f0 (lone f cs w) (leave S.en (some j) fn fr ds ro k hp nx))
  (IU:∀id ops,c=.region id ops true->Bb S D base w0 bA f0 (lone f cs w) ((MU S.en ops).f fn fr t ds ro k hp nx))
  (wi:∀x ps dQ body,c=.rangeFunc x ps dQ body->Bb S D base w0 bA f0 (lone f cs w) (Z3 S.en (ev S.en fr x) ps.toList dQ body t fn fr ds ro k hp nx)):
  Bb S D base w0 bA f0 (lone f cs w) ((KP S.en c).f fn fr t ds ro k hp nx):=by
 cases c with
 |skip=>exact .jG hh hu hg h hm hf hs dF stepR_skip ht
 |label l=>exact .jG hh hu hg h hm hf hs dF stepR_label ht
 |seq a b=>exact .jG hh hu hg h hm hf hs dF stepR_seq (.code (.code ht))
 |cond x a b =>
  show Bb S D base w0 bA f0 (lone f cs w) (match ev S.en fr x with|.b s=>.run fn fr (.code (bif s then a else b) t) ds ro k hp nx|_=>.bad 17);have hx:=Aoj h hg hf x
  split
  .rename_i s cJ
   rw[cJ]at hx;have hv:=hx.jD;refine .jG hh hu hg h hm hf hs dF (stepR_cond hv) ?_;cases s<;>exact .code ht
  .exact .bad
 |block id c=>exact .jG hh hu hg h hm hf hs dF stepR_block (.code (.aE ht))
 |loop c=>exact .jG hh hu hg h hm hf hs dF stepR_loop (.code (.loop ht))
 |scope c =>
  exact .jG hh hu hg h hm hf hs dF Df (.code (.scope ht))
 |exit id =>
  show Bb S D base w0 bA f0 (lone f cs w) (dq (Y5 id t) (leave S.en (some (.exit id)) fn fr ds ro k hp nx) λt=>.run fn fr t ds ro k hp nx);rcases ht.exit (id:=id) with⟨e1,e2⟩|⟨t',k2,e1,e2,e3⟩
  .rw[e1];exact gC _ (.inr (.inl ⟨id,rfl,e2⟩)) rfl
  .rw[e1];exact .jG hh hu hg h hm hf hs dF (stepR_exit e2) e3
 |goto l =>
  show Bb S D base w0 bA f0 (lone f cs w) (dq (Yw l t) (leave S.en (some (.goto l)) fn fr ds ro k hp nx) λt=>.run fn fr t ds ro k hp nx);rcases ht.goto (l:=l) with⟨e1,e2⟩|⟨t',k2,e1,e2,e3⟩
  .rw[e1];exact gC _ (.inr (.inr ⟨l,rfl,e2⟩)) rfl
  .rw[e1];exact .jG hh hu hg h hm hf hs dF (stepR_goto e2) e3
 |ret=>exact gC _ (.inl rfl) rfl
 |region id ops draw =>
  cases draw
  .refine .jG hh hu hg h hm hf hs dF stepR_region (.rl ht (by simp) λj i o h1 h2=>?_)
   have hj:j<ops.size:=by
    have:=(List.getElem?_eq_some_iff.1 h1).1;simpa using this
   rw[UO hj]at h1;cases h1;rw[QG]at h2;exact h2
  .exact IU id ops rfl
 |rangeFunc x ps dQ body=>exact wi x ps dQ body rfl
 |refuse why=>exact .bad
theorem dv(hh:HR S base w0 U ι hp nx w)(hu:UV U V)(hg:GR S ι)(h:iI S (D.d1 hp) ι (V n) fn fr td ds ro f)(hm:f.mode=.run)(hf:FR ι fr f.tmps)(hs:Eb S D.d0 ι V bA f0 n fn k cs)(ht:gI ι td f.todo):
  (∀id t,td=.aE id t->Bb S D base w0 bA f0 (lone f cs w) (.run fn fr t ds ro k hp nx))/\(∀c t,td=.scope c t->Bb S D base w0 bA f0 (lone f cs w) (.run fn fr t ds ro k hp nx))/\
  (∀c t,td=.loop c t->Bb S D base w0 bA f0 (lone f cs w) (.run fn fr (.code c (.loop c t)) ds ro k hp nx))/\(∀ops t,td=.rl ops [] t->Bb S D base w0 bA f0 (lone f cs w) (.run fn fr t ds ro k hp nx)):=by
 refine⟨λid t e=>?_,λc t e=>?_,λc t e=>?_,λops t e=>?_⟩
 all_goals (subst e;generalize dF:f.todo=k' at ht;cases ht)
 .rename_i kk ht;exact .jG hh hu hg h hm hf hs dF stepR_inBlock ht
 .rename_i kk ht;exact .jG hh hu hg h hm hf hs dF Ii ht
 .rename_i kk ht;exact .jG hh hu hg h hm hf hs dF stepR_inLoop (.code (.loop ht))
 .rename_i is kk hl hi ht
  have:is=[]:=QQ hl.symm;subst this;exact .jG hh hu hg h hm hf hs dF stepR_region_end ht
end
end Go.Cv
