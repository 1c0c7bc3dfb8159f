/- A part of the proof: contracts of functions, or the executor and its soundness. No conditions. -/
import Derived.Below
import Derived.Laws.IdiomStrings
import Derived.Laws.AppendOwn
import Derived.Test.YtdoogdbjiijifaaGreatDoorE8Pah
import Derived.Test.YtdoogdbjiijifaaGreatDoorE8Paf
namespace Go.Sx
open Go
theorem Agf{B:Bs}{N:Nat}{E:Env}{a:Act}{w:World}{ff:Nat->SG}{hf:Nat->Hl}(st:St B N E a w ff hf){h:Nat}{e:TypeId}{sz:Nat}{a0 a1:Option Addr}{m G c0 c1 M:Nat}{ys:List Value}{w':World}{n0 g0:ST}{f0:Nat->List SV}
  (hold:hf h=.vec e n0 g0 sz f0) (oA:E.τ h=some (.slice a0 G c0)) (jL:∀b,(Value.slice a0 m c0).ownBlock=some b->E.O b=some h/\∀o,¬E.I b o)
  (cF:Co w' false e sz (.slice a1 M c1) M ys) (h1:∀u∈ys,u.oneCell'=true)
  (fW:((Value.slice a1 M c1).ownBlock=(Value.slice a0 m c0).ownBlock/\w.grownBy w' (Value.slice a0 m c0).ownBlock)\/((Value.slice a1 M c1).ownBlock=some w.heap.size/\w.grownBy w' none))
  {nt gt:ST} (mP:nt.den=(M:Int)) (CC:gt.den=((G+1:Nat):Int)) {f':Nat->List SV} (aI:Fx E w f' M sz ys):
  ∃E',Ext E w E' w'/\Cl B E' w'/\(∀k,bQ E' w' k (aR hf h (.vec e nt gt sz f') k))/\E'.τ h=some (.slice a1 (G+1) c1):=by
 have hb:=st.base;have dY:∀b,(Value.slice a0 m c0).ownBlock=some b->E.O b=some h/\(∀o,¬E.I b o)/\b<w.heap.size:=λb bU=>⟨(jL b bU).1,(jL b bU).2,A9 hb (jL b bU).1⟩
 generalize hv:Value.slice a0 m c0=v at *
 generalize xC:Value.slice a1 M c1=v' at *
 let E':Env:=⟨E.β,aR E.τ h (some (.slice a1 (G+1) c1)),λb=>if v'.ownBlock=some b then some h else E.O b,E.κ,E.ζ,E.I⟩
 have eW:w'.os=w.os/\w'.tape=w.tape/\w'.output=w.output/\w.heap.size<=w'.heap.size:=by
  rcases fW with⟨_,hg⟩|⟨_,hg⟩<;>exact⟨hg.os,hg.tape,hg.output,hg.size⟩
 have fF:∀b,b<w.heap.size->v.ownBlock≠some b->w'.heap[b]?=w.heap[b]?:=by
  intro b aC aY;rcases fW with⟨_,hg⟩|⟨_,hg⟩
  .exact hg.block b aC (λe=>aY e.symm)
  .exact hg.block b aC (by simp)
 have hI:∀b o,E.I b o->w'.cell? ⟨b,o,none⟩=w.cell? ⟨b,o,none⟩:=by
  intro b o hi;have aC:=hb.dR b o hi;have aY:v.ownBlock≠some b:=λtA=>(dY b tA).2.1 o hi;simp only[World.cell?];rw[fF b aC aY]
 have hx:Ext E w E' w':=by
  refine⟨λ_ _ h=>h,λk u hk=>?_,λ_ _ h=>h,λ_ _ h=>h,λb o h=>h,hI⟩;show aR E.τ h (some (.slice a1 (G+1) c1)) k=some u\/∃a m' c a' rT c',u=.slice a m' c/\aR E.τ h (some (.slice a1 (G+1) c1)) k=some (.slice a' rT c')/\m'<rT;unfold aR
  by_cases e:k=h
  .subst e
   rw[QB rfl];rw[oA]at hk;cases hk;exact .inr ⟨a0,G,c0,a1,G+1,c1,rfl,rfl,YO _⟩
  .rw[QA e];exact .inl hk
 have kV:∀b,v'.ownBlock=some b->b<w'.heap.size:=cF.lt;have mD:∀b,v'.ownBlock=some b->B.w0.heap.size<=b\/B.X b:=by
  intro b bU;rcases fW with⟨hs,_⟩|⟨hs,_⟩
  .exact (hb.cR b h (dY b (by rw[<-hs];exact bU)).1).2
  .rw[hs]at bU;cases bU;exact .inl hb.size
 refine⟨E',hx,⟨eW.1.trans hb.os,eW.2.1.trans hb.tape,eW.2.2.1.trans hb.output,XV hb.size eW.2.2.2,λb aC hX=>?_,λb o hi=>?_,λb o hi=>?_,hb.cC,λb k hO=>?_,hb.cL.ext hx⟩,λk=>?_,by simp[E',aR]⟩
 .have bB:=hb.size
  rw[fF b (by omega) ?_]
  .exact hb.dZ b aC hX
  .intro tA
   rcases (hb.cR b h (dY b tA).1).2 with h|h
   .omega
   .exact hX h
 .obtain⟨i1,i2⟩:=hb.I0 b o hi
  exact⟨i1,by rw[hI b o i1];exact i2⟩
 .exact XP (hb.dR b o hi) eW.2.2.2
 .have hO:(if v'.ownBlock=some b then some h else E.O b)=some k:=hO
  split at hO
  .rename_i bU
   exact⟨kV b bU,mD b bU⟩
  .obtain⟨o1,o2⟩:=hb.cR b k hO
   exact⟨XP o1 eW.2.2.2,o2⟩
 .by_cases e:k=h
  .subst e
   simp only[aR,QB];refine⟨a1,c1,M,G+1,ys,by simp[E',aR],by rw[xC];exact cF,mP,CC,h1,⟨aI.1,λi j s u a b c=>(aI.2 i j s u a b c).mono hx.I hx.cell⟩,λb bU=>?_⟩;rw[xC]at bU;refine⟨by show (if v'.ownBlock=some b then some k else E.O b)=some k;rw[QB bU],λo hi=>?_⟩;rcases fW with⟨hs,_⟩|⟨hs,_⟩
   .exact (dY b (by rw[<-hs];exact bU)).2.1 o hi
   .rw[hs]at bU;cases bU
    have:=hb.dR _ _ hi;omega
  .simp only[aR,QA e]
   refine bQ.keep hx (st.heap k) rfl (by simp[E',aR,e]) rfl rfl λb hO=>?_;have aC:=A9 hb hO;have aY:v'.ownBlock≠some b:=by
    intro bU;rcases fW with⟨hs,_⟩|⟨hs,_⟩
    .have:=(dY b (by rw[<-hs];exact bU)).1
     rw[hO]at this;exact e (Option.some.inj this)
    .rw[hs]at bU;cases bU;omega
   have GU:v.ownBlock≠some b:=by
    intro bU;have:=(dY b bU).1;rw[hO]at this;exact e (Option.some.inj this)
   exact⟨by show (if v'.ownBlock=some b then some h else E.O b)=some k;rw[QA aY];exact hO,fF b aC GU,λo hi=>hi⟩
section
variable {P:Program} {cx:Cx} {σ:Sy} {T:List Nat} {o:Oper} {K:Out->Prop}
theorem Mb{E:Env}{w:World}{h:Nat}{n g g1:ST}{nl:BT}{u:Value}{e:TypeId}{sz m G c:Nat}{a:Option Addr}{xs:List Value}(hr:Rel E w (.cP nl n g h) u)(oA:E.τ h=some (.slice a G c))(bW:Co w false e sz (.slice a m c) m xs)(hn:n.den=(m:Int))(hg:g1.den=(G:Int))(he:g.den=g1.den):
  u=.slice a m c/\(nl.den=true↔Value.slice a m c=.slice none 0 0):=by
 obtain⟨⟨a',k,c',e1,e2,e3⟩,a0,G0,c0,t1,t2,t3⟩:=hr.jR;rw[oA]at t1;cases t1;obtain⟨k',q1,q2⟩:=t3 (by rw[he,hg]);have hk:k'=m:=by omega
 subst hk;refine⟨q2,?_⟩;rw[q2]at e1;simp only[Value.slice.injEq]at e1;obtain⟨rfl,_,_⟩:=e1;rw[e3];constructor
 .rintro rfl
  rcases bW.2 with⟨h1,_⟩|⟨g,cap,cur,fr,h1,_⟩
  .exact h1
  .simp at h1
 .intro h1
  simp only[Value.slice.injEq]at h1;exact h1.1
theorem Yr{E:Env}{w:World}{nl:BT}{n:ST}{ty:TypeId}{sz:Nat}{gr:Bool}{f:Nat->List SV}{u v:Value}{m:Nat}{xs:List Value}(hu:u=v)(eK:nl.den=true↔v=.slice none 0 0)(bW:Co w gr ty sz v m xs)(hn:n.den=(m:Int))
  (h1:∀u∈xs,u.oneCell'=true) (aI:Fx E w f m sz xs):RO (λb o=>E.I b o\/(v.ownBlock=some b/\o<m * sz)) w (.sl nl n sz f) u:=by
 subst hu;rcases bW.2 with⟨e0,e1⟩|⟨b,cap,cur,fr,e0,fU,cE,sU,eY,cX,bT⟩
 .rw[e0]
  exact .slnil (eK.2 e0) (by rw[hn,e1];rfl)
 .have eE:∀i j,i<m->j<sz->i * sz+j<m * sz:=by
   intro i j hi hj;have:(i+1) * sz<=m * sz:=QQ _ hi;rw[XK]at this;omega
  have nH:∀i j,i<m->j<sz->xs[i * sz+j]?=some (xs.getD (i * sz+j) undef):=by
   intro i j hi hj;have:=eE i j hi hj;rw[<-bW.1]at this;rw[QD,QC this];rfl
  rw[e0];refine .sl (λi j=>xs.getD (i * sz+j) undef) ?_ hn sU eY (λ_=>rfl) aI.1 (λi j hi hj=>h1 _ (QK (nH i j hi hj))) (λi j hi hj=>⟨?_,?_⟩) (λi j s hi hs=>?_)
  .cases hb:nl.den with
   |false=>rfl
   |true=>rw[eK.1 hb]at e0;simp at e0
  .simp only[XE]
   rw[cell_of_row w b _ cur ty fr fU,<-nH i j hi hj,<-bT,QN,QB (eE i j hi hj)];simp
  .simp only[XE]
   exact .inr ⟨rfl,eE i j hi hj⟩
  .have hj:j<sz:=by rw[<-aI.1 i hi];exact (List.getElem?_eq_some_iff.1 hs).1
   exact (aI.2 i j s _ hi hs (nH i j hi hj)).mono (λb o h=>.inl h) (λ_ _ _=>rfl)
theorem Y1(hc:Az P cx){src dst e:TypeId}{x:Operand}(ho:o.op=.convert src dst x){ts td te:TI}(kA:look src cx.tt=some ts)(qQ:ts.k=.slice e)(pI:look dst cx.tt=some td)(kC:td.k=.string)(hle:look e cx.tt=some te)(fI:te.k=.int .u8)
  {nl:BT} {n g n0 g0:ST} {h:Nat} {ty:TypeId} {f:Nat->List SV} (hv:rd cx σ T x=some (.cP nl n g h)) (hh:nth σ.hp h=some (.vec ty n0 g0 1 f)) (h0:n.den=n0.den) (kZ:g.den=g0.den) {r:List UInt8} (hr:Fv n0.den f/\Kr r n0.den f):Local P cx.gl σ T o ⟨.str r,[],[h],[]⟩:=by
 intro B N E a w ff hf hg st ag bK hT;obtain⟨hb,hr⟩:=hr;have iH:=Aa hv hg st (Ak ag (by simp[ho,Op.operands])) hT;have bC:=st.heap h;rw[Br bK (List.mem_singleton.2 rfl) hh]at bC;obtain⟨a1,c1,m,G,xs,k1,k2,k3,kg,k4,k5,k6⟩:=bC;obtain⟨pK,_⟩:=Mb iH k1 k2 (by rw[h0,k3]) kg kZ;refine Ad st (v:=.string (bytes r)) ?_ rfl (.ro (.str rfl));simp only[execOp,ho,Sem.run_bind];have jB:=(hc.ti kA).slice qQ;have ei:=(hc.ti pI).string kC;have eh:=(hc.ti hle).int fI;rw[pK];have tU:r.length=m:=by have:=hr.len;omega
 rcases k2.2 with⟨e0,e1⟩|⟨b,cap,cur,fr,e0,fU,cE,sU,eY,cX,bT⟩
 .have:r=[]:=XN (by omega)
  subst this;rw[e0];simp[convert,run_underlying jB,run_underlying ei,run_underlying eh,Conv.bytesToString,bytes];rfl
 .have:=run_convert_bytes_back (P:=P) w src dst e ⟨b,0,none⟩ cap r jB eh ei (λj hj=>by
   have uC:j<m:=by omega
   obtain⟨t,ht,_⟩:=hb.h j (by omega);have e1:=hr.row j t (by omega) ht;have wb:j<xs.length:=by rw[k2.1];omega
   obtain⟨xj,wc⟩:∃xj,xs[j]?=some xj:=⟨_,QC wb⟩;have dB:=k5.2 j 0 (.int .u8 t) xj uC (by rw[ht];rfl) (by simpa using wc);have xW:xj=.int .u8 t.den:=(Rel.ro (E:=E) dB).aQ;rw[QD,QC hj]at e1;simp only[XG]at e1;rw[add_lit,XE,cell_of_row w b j cur ty fr fU];rw[<-bT,QN,QB (by omega),QX]at wc;rw[e1,wc,xW])
  rw[tU]at this;rw[e0,this];rfl
theorem P9(hc:Az P cx){c:Call}(ho:o.op=.call c)(aP:c.callee=.builtin .append){x y:Operand}{t e sz:Nat}{te ti:TI}(hx:c.args.toList=[x,y])(ht:c.argTypes.toList=[t,t])(aC:look t cx.tt=some ti)(hk:ti.k=.slice e)(hle:look e cx.tt=some te)(bB:te.size=sz)(hz:0<sz)
  {nl:BT} {n n0 g0 g1:ST} {f:Nat->List SV} {h:Nat} (j0:rd cx σ T x=some (.cP nl n g0 h)) (hh:nth σ.hp h=some (.vec e n0 g1 sz f)) {s:SV} (jz:rd cx σ T y=some s) {m:ST} {g:Nat->List SV} (aI:rowOf sz s=some (m,g))
  (hb:n.den=n0.den/\(n.den+m.den) * te.bytes<=140737488355328/\n.den+m.den<=9223372036854775807) (kZ:g0.den=g1.den)
  {f':Nat->List SV} {n' g':Int} (xV:n'=n.den+m.den) (mR:g'=g0.den+1) (fO:∀i:Nat,(i:Int)<n.den->f' i=f i) (cY:∀i j:Nat,(i:Int)=n.den+j->(j:Int)<m.den->f' i=g j):
  Local P cx.gl σ T o ⟨.cP (Vs nl (Pg .eql m (.l 0))) (.a n') (.a g') h,[.put h (.vec e (.a n') (.a g') sz f')],[h],[]⟩:=by
 intro B N E a w ff hf hg st ag bK hT K' Q hK;have mx:x∈o.op.operands.toList:=by simp[ho,Op.operands,Call.operands,aP,hx]
 have my:y∈o.op.operands.toList:=by simp[ho,Op.operands,Call.operands,aP,hx]
 have iH:=Aa j0 hg st (Ak ag mx) hT;have tT:=Aa jz hg st (Ak ag my) hT;obtain⟨k,news,r1,r2,r3,r4,r5⟩:=Jd aI tT;have bC:=st.heap h;have bZ:=Br bK (List.mem_singleton.2 rfl) hh;rw[bZ]at bC;obtain⟨a0,c0,nn,G,xs,k1,k2,k3,kg,k4,k5,k6⟩:=bC;obtain⟨hv,eK⟩:=Mb iH k1 k2 (by rw[hb.1,k3]) kg kZ;have gC:n.den=(nn:Int):=by rw[hb.1,k3]
 have iR:(nn+k) * te.bytes<=140737488355328:=by
  have:=hb.2.1;rw[gC,r1]at this;have h:(((nn+k) * te.bytes:Nat):Int)<=140737488355328:=by rw[YZ,UP];exact this
  omega
 obtain⟨v',w',l1,l2,l3,l4,l5,l6⟩:=Rw (P:=P) (ty:=o.type) ((hc.ti aC).slice hk) (hc.ti hle) bB hz k2 r3 (by have:=hb.2.2;rw[gC,r1]at this;simp only[maxLen];omega) iR;have lR:∀u∈xs++news,u.oneCell'=true:=λu hu=>by
  rcases List.mem_append.1 hu with hu|hu
  .exact k4 u hu
  .exact r3.2.1 u hu
 have mP:(ST.a n').den=((nn+k:Nat):Int):=by simp only[ST.den,xV,gC,r1];omega
 have CC:(ST.a g').den=((G+1:Nat):Int):=by simp only[ST.den,mR,kZ,kg];omega
 have eR:Fx E w f' (nn+k) sz (xs++news):=by
  refine⟨λi hi=>?_,λi j s u hi hs hu=>?_⟩
  .by_cases eR:i<nn
   .rw[fO i (by omega)];exact k5.1 i eR
   .rw[cY i (i-nn) (by omega) (by omega)];exact r4 (i-nn) (by omega)
  .by_cases eR:i<nn
   .rw[fO i (by omega)]at hs
    have hj:j<sz:=by rw[<-k5.1 i eR];exact (List.getElem?_eq_some_iff.1 hs).1
    have:(i+1) * sz<=nn * sz:=QQ _ eR;rw[XK]at this;rw[QM (by rw[k2.1];omega)]at hu;exact k5.2 i j s u eR hs hu
   .rw[cY i (i-nn) (by omega) (by omega)]at hs
    have e1:i * sz+j=nn * sz+((i-nn) * sz+j):=by
     have:i * sz=nn * sz+(i-nn) * sz:=by rw[<-XK];congr 1;omega
     omega
    rw[QO (by rw[k2.1];omega),k2.1,e1,ZK]at hu;exact r5 (i-nn) j s u (by omega) hs hu
 obtain⟨a1,c1,e0⟩:=l5;subst e0;obtain⟨E',x1,x2,x3,x4⟩:=Agf (h:=h) (e:=e) (sz:=sz) st bZ k1 k6 l2 lR l4 mP CC eR;unfold Oper.wp;rw[Dt ho aP hx ht (a:=a) (w:=w) (w':=w') (v':=.slice a1 (nn+k) c1) (by rw[hv];exact l1)];refine hK _ w' E' x1 x2 x3 (.cP ⟨a1,nn+k,c1,rfl,mP,?_⟩ ⟨a1,G+1,c1,x4,by rw[CC];exact ZC _,λ_=>⟨_,mP,rfl⟩⟩);have oO:(Value.slice a1 (nn+k) c1=.slice none 0 0)↔a1=none:=by
  constructor
  .intro h;simp only[Value.slice.injEq]at h;exact h.1
  .rintro rfl
   rcases l2.2 with⟨h1,_⟩|⟨g,cap,cur,fr,h1,_⟩
   .exact h1
   .simp at h1
 rw[<-oO,L7,Hz,l3];simp only[Bz,ST.den,r1,QE,QS];rw[eK];constructor
 .rintro⟨h1,h2⟩;exact⟨h1,by omega⟩
 .rintro⟨h1,h2⟩;exact⟨h1,by omega⟩
theorem Wh(hc:Az P cx){c:Call}(ho:o.op=.call c)(aP:c.callee=.builtin .len){x:Operand}{t:Nat}{ti:TI}(hx:c.args.toList=[x])(ht:c.argTypes.toList=[t])(hl:look t cx.tt=some ti){e:TypeId}(hk:ti.k=.slice e)
  {nl:BT} {n g:ST} {h:Nat} (hv:rd cx σ T x=some (.cP nl n g h)):Local P cx.gl σ T o ⟨.int .i64 n,[],[],[]⟩:=by
 intro B N E a w ff cY hg st ag bK hT;have dP:x∈o.op.operands.toList:=by simp[ho,Op.operands,Call.operands,aP,hx]
 obtain⟨⟨a0,m,c0,e3,e4,_⟩,_⟩:=(Aa hv hg st (Ak ag dP) hT).jR;have e1:c.args=#[x]:=XU (by simpa using hx);have e2:c.argTypes=#[t]:=XU (by simpa using ht);have aV:=Gs hc hl hk (w:=w) (a:=a0) (m:=m) (c:=c0) (ty:=o.type);refine Ad st (v:=.int .i64 m) ?_ rfl (.int e4);simp[execOp,ho,resolve,aP,e1,e2,invoke,builtin,e3,aV]
theorem Uw(w:World)(r:Option Nat):w.grownBy w r:=⟨rfl,rfl,rfl,QH _,λ_ _ _=>rfl⟩
theorem R8(hc:Az P cx){t e sz:Nat}{ti:TI}(hl:look t cx.tt=some ti)(hk:ti.k=.slice e){te:TI}(hle:look e cx.tt=some te){x:Operand}{lo hi:Option Operand}(ho:o.op=.slice t x lo hi none){nl:BT}{n n0 g0 g1:ST}{f:Nat->List SV}{h:Nat}
  (hv:rd cx σ T x=some (.cP nl n g0 h)) (hh:nth σ.hp h=some (.vec e n0 g1 sz f)) (nN:Ei cx σ T lo=some none) {k:IntKind} {b:ST} (oQ:Ei cx σ T hi=some (some (.int k b)))
  (h0:n.den=n0.den) (kZ:g0.den=g1.den) (kL:0<=b.den/\b.den<=n.den) {g':Int} (mR:g'=g0.den+1) (_hT0:Bh (Ac σ.gm T)):Local P cx.gl σ T o ⟨.cP nl (.a b.den) (.a g') h,[.put h (.vec e (.a b.den) (.a g') sz f)],[h],[]⟩:=by
 intro B N E a w ff cY hg st ag bK hT K' Q hK;have iH:=Aa hv hg st (Ak ag (by simp[ho,Op.operands])) hT;have h1:=Dq hg st hT nN (λy hy=>Ak ag (by subst hy;simp[ho,Op.operands])) (d:=.l 0) (t:=.l 0) rfl;have h2:=Dq hg st hT oQ (λy hy=>Ak ag (by subst hy;simp[ho,Op.operands])) (d:=.l 0) (t:=b) rfl;have bw:hi≠none:=by rintro rfl;simp[Ei]at oQ
 have bl:lo=none:=by
  cases lo with
  |none=>rfl
  |some y =>
   simp only[Ei]at nN
   split at nN<;>simp at nN
 subst bl;have sH:∃k,hi.map a.eval=some (.int k b.den):=by
  rcases h2 with⟨rfl,_⟩|⟨y,k,rfl,e⟩
  .exact absurd rfl bw
  .exact⟨k,by simp[e]⟩
 have bC:=st.heap h;have bZ:=Br bK (List.mem_singleton.2 rfl) hh;rw[bZ]at bC;obtain⟨a0,c0,m,G,xs,k1,k2,k3,kg,k4,k5,k6⟩:=bC;obtain⟨xC,eK⟩:=Mb iH k1 k2 (by rw[h0,k3]) kg kZ;have hu:=(hc.ti hl).slice hk;have hS:=(hc.ti hle).sizeOf w;have HC:n.den=(m:Int):=by rw[h0,k3]
 have iY:m<=c0:=by
  rcases k2.2 with⟨e1,e2⟩|⟨g,cap,cur,fr,e1,_,_,e2,_⟩
  .omega
  .simp only[Value.slice.injEq]at e1;omega
 have bU:=Gb (P:=P) (sl:=true) (len:=m) (cap:=c0) (lo:=none) (hi:=hi.map a.eval) (l:=0) (h:=b.den) (w:=w) (.inl ⟨rfl,rfl⟩) (.inr sH) (ZC _) kL.1 (by omega) iY;have aV:(execOp a.eval o).run P w=.ok (.value (.slice a0 b.den.toNat c0)) w:=by
  cases a0 with
  |none =>
   have:m=0/\c0=0:=by
    rcases k2.2 with⟨e1,e2⟩|⟨g,cap,cur,fr,e1,_⟩
    .simp only[Value.slice.injEq,true_and]at e1;exact e1
    .simp at e1
   obtain⟨rfl,rfl⟩:=this;have IP:b.den=0:=by omega
   simp[execOp,ho,xC,Instr.sliceAt,Instr.slice,run_underlying hu,bU,hS,IP]
  |some ad =>
   have uL:ad.add 0=ad:=by
    unfold Addr.add
    split<;>simp_all
   by_cases mL:c0=0
   .subst mL
    simp[execOp,ho,xC,Instr.sliceAt,Instr.slice,run_underlying hu,bU,hS]
   .simp[execOp,ho,xC,Instr.sliceAt,Instr.slice,run_underlying hu,bU,hS,uL,mL]
 have hbn:((b.den.toNat:Nat):Int)=b.den:=by omega
 have mF:b.den.toNat<=m:=by omega
 have cF:Co w false e sz (.slice a0 b.den.toNat c0) b.den.toNat (xs.take (b.den.toNat * sz)):=by
  have hmul:b.den.toNat * sz<=m * sz:=QQ _ mF;refine⟨by rw[QZ,k2.1];omega,?_⟩;rcases k2.2 with⟨e1,e2⟩|⟨g,cap,cur,fr,e1,e2,e3,e4,e5,e6,e7⟩
  .simp only[Value.slice.injEq]at e1
   obtain⟨rfl,_,rfl⟩:=e1;exact .inl ⟨by simp;omega,by omega⟩
  .simp only[Value.slice.injEq]at e1
   obtain⟨rfl,_,rfl⟩:=e1;refine .inr ⟨g,c0,cur,fr,rfl,e2,e3,by omega,e5,e6,?_⟩;rw[<-e7,UT];congr 1;omega
 obtain⟨E',x1,x2,x3,x4⟩:=Agf (h:=h) (e:=e) (sz:=sz) (w':=w) (nt:=.a b.den) (gt:=.a g') (f':=f) st bZ k1 k6 cF (λu hu=>k4 u (UL hu)) (.inl ⟨by cases a0<;>rfl,Uw w _⟩) (by simp only[ST.den];omega) (by simp only[ST.den,mR,kZ,kg];omega)
  ⟨λi hi=>k5.1 i (by omega),λi j s u hi hs hu=>k5.2 i j s u (by omega) hs (by
   rw[QN]at hu
   split at hu
   .exact hu
   .cases hu)⟩
 unfold Oper.wp;rw[aV];refine hK _ w E' x1 x2 x3 (.cP ⟨a0,b.den.toNat,c0,rfl,by simp only[ST.den];omega,?_⟩ ⟨a0,G+1,c0,x4,by simp only[ST.den,mR,kZ,kg];omega,λ_=>⟨_,by simp only[ST.den];omega,rfl⟩⟩);obtain⟨⟨a',k',c',e1,e2,e3⟩,_⟩:=iH.jR;rw[xC]at e1;simp only[Value.slice.injEq]at e1;obtain⟨rfl,_,_⟩:=e1;exact e3
theorem Uf(hc:Az P cx){t len e:Nat}{ps:Array (Nat×Operand)}(ho:o.op=.buildSlice t len ps){ti te:TI}(aC:look t cx.tt=some ti)(hk:ti.k=.slice e)(hle:look e cx.tt=some te){vs:List (Nat×SV)}(hv:Gk cx σ T ps.toList=some vs)(h1:Om vs=true)
  {cs:List SV} (hf:Am.eM te.size (Am.kR len te.zero) vs=some cs) (gJ:An (.agg (loose.aH (norm.aM dn cs)))=true) (hz:0<te.size) (oR:len * te.size<=16777216):
  Local P cx.gl σ T o ⟨.bV (.l false) (.l len) (Ah σ.hp),[.put (Ah σ.hp) (.own e (.l len) te.size true λk=>takeN te.size (C4 (k * te.size) (loose.aH (norm.aM dn cs))))],[],[]⟩:=by
 intro B N E a w ff cY hg st ag bK hT K' Q hK;have eT:∀p∈ps.toList,∀s∈Ct p.2,ff s=Bd σ s:=λp hp=>Ak ag (by simp only[ho,Op.operands];simp;exact⟨p.1,by simpa using hp⟩);obtain⟨h2,h3⟩:=Ep hg st hT ps.toList vs eT hv;obtain⟨z,zW,iG,qj⟩:=(hc.ti hle).zero E w;have jJ:=(hc.ti hle).pP;have eA:z.cells.size=te.size:=by have:=iG.1;rw[jJ]at this;simpa using this.symm
 have jB:∀(j:Nat) (p:Nat×SV) (q:Nat×Value),vs[j]?=some p->((ps.map λ(x:Nat×Operand)=>(x.1,a.eval x.2)).toList)[j]?=some q->p.1=q.1/\Rel E w p.2 q.2:=by
  intro j p q hp hq;rw[ZL,QR]at hq;cases tY:ps.toList[j]? with
  |none=>rw[tY]at hq;cases hq
  |some x =>
   rw[tY]at hq;simp only[QP,Option.some.injEq]at hq;subst hq;exact h3 j p x hp tY
 -- qZ zero cells
 let C0:List Value:=(List.range (len * te.size)).map λq=>z.cells.toList.getD (q % te.size) undef
 have IZ:A6 E w (Am.kR len te.zero) C0:=by
  refine⟨by rw[Eo,jJ];simp[C0],λi s v hs hv=>?_⟩;have aC:i<len * te.size:=by
   have:=(List.getElem?_eq_some_iff.1 hs).1
   rwa [Eo,jJ]at this
  rw[Of _ _ (by rw[jJ];exact aC),jJ]at hs;simp[C0,aC]at hv;have hm:i % te.size<z.cells.size:=by rw[eA];exact YD _ hz
  refine iG.2 (i % te.size) s v hs ?_;rw[<-hv];simp[hm]
 have c8:∀u∈C0,u.oneCell'=true:=by
  intro u hu;simp only[C0,List.mem_map,List.mem_range]at hu;obtain⟨q,_,rfl⟩:=hu;have hm:q % te.size<z.cells.toList.length:=by simp[eA];exact YD _ hz
  rw[QD,QC hm];exact qj _ (XL hm)
 obtain⟨C',c1,c2,c3⟩:=Ii vs (ps.map λ(x:Nat×Operand)=>(x.1,a.eval x.2)).toList _ cs C0 (by simp[h2]) jB (Jg h1) IZ c8 hf;have pH:C'.length=len * te.size:=by
  rw[<-c2.1];have:∀(vs:List (Nat×SV)) (cs dH:List SV),Am.eM te.size cs vs=some dH->dH.length=cs.length:=by
   intro vs
   induction vs with
   |nil=>intro cs dH h;simp[Am.eM]at h;rw[h]
   |cons p vs ih =>
    intro cs dH h;obtain⟨i,v⟩:=p;simp only[Am.eM]at h
    split at h
    .rw[ih _ _ h,Dd]
    .cases h
  rw[this vs _ cs hf,Eo,jJ]
 have aV:(Instr.buildSlice t len (ps.map λ(x:Nat×Operand)=>(x.1,a.eval x.2))).run P w=.ok (.slice (some ⟨w.heap.size,0,none⟩) len len) (w.alloc (.cells ⟨C'⟩ e)):=by
  have hu:=(hc.ti aC).slice hk;have hS:=(hc.ti hle).sizeOf w;have mM:((Array.range (len * te.size)).map (λq=>z.cells[q % z.cells.size]!))=(⟨C0⟩:Array Value):=by
   apply XU;simp only[ZL,Array.toList_range,C0];refine UB λq _=>?_;rw[eA,QD,UD,XH,QX];have hm:q % te.size<z.cells.size:=by rw[eA];exact YD _ hz
   simp[hm]
  have sK:¬(16777216<len * te.size):=by omega
  simp only[Instr.buildSlice,Sem.run_bind,run_underlying hu,Result.andThen_ok,hS,gt_iff_lt]
  by_cases h0:len * te.size=0
  .have c7:C0=[]:=by simp[C0,h0]
   rw[c7]at c1;rw[ZL]at c1;have cj:Array.map (λ_=>(default:Value)) (Array.range 0)=⟨[]⟩:=by simp
   simp[h0,newRow,newObj]
   first|rw[cj,c1]|(simp at c1 ⊢;rw[c1])
   simp[Sem.run]
  .rw[ZL]at c1
   simp[h0,sK,zW,mM,newRow,newObj];rw[c1];simp[Sem.run]
 have bM:cY (Ah σ.hp)=.fresh:=by
  have:=bK.fK _ (List.mem_singleton.2 rfl);simp only[dp,Aq,Aj,Af]at this;rw[Af,this];simp
 have nM:len<=maxLen:=by
  simp only[maxLen];have:len<=len * te.size:=Nat.le_mul_of_pos_right _ hz;omega
 have lL:=World.ownsRow_lit w (base:=0) (e:=e) (size:=te.size) ⟨C'⟩ len (ZB _) nM (by simpa using pH);have cF:Co (w.alloc (.cells ⟨C'⟩ e)) true e te.size (.slice (some ⟨w.heap.size,0,none⟩) len len) (0+len) C':=by rw[XE];exact Xe true (by simpa using lL)
 have j9:∀c∈loose.aH (norm.aM dn cs),An c=true:=by
  simp only[An]at gJ;exact (Cv _).1 gJ
 have cW:A6 E w (loose.aH (norm.aM dn cs)) C':=by
  rw[Ce,Ci];exact (c2.map _ λs v _ h=>h.norm).map _ λs v _ h=>h.loose
 have bL:∀(i j:Nat) (s:SV),(takeN te.size (C4 (i * te.size) (loose.aH (norm.aM dn cs))))[j]?=some s->(loose.aH (norm.aM dn cs))[i * te.size+j]?=some s:=by
  intro i j s hs;rw[A8,Bi,QN]at hs
  split at hs
  .rwa [XF]at hs
  .cases hs
 have eR:Fx E w (λk=>takeN te.size (C4 (k * te.size) (loose.aH (norm.aM dn cs)))) (0+len) te.size C':=by
  rw[XE];refine⟨λj hj=>?_,λi j s u hi hs hu=>?_⟩
  .show (takeN te.size (C4 (j * te.size) _)).length=te.size
   rw[A8,Bi,QZ,QY,cW.1,pH];have:(j+1) * te.size<=len * te.size:=QQ _ hj;rw[XK]at this;omega
  .have cB:=bL i j s hs
   exact (cW.2 _ s u cB hu).fB (j9 s (QK cB)) (c3 u (QK hu))
 obtain⟨E',x1,x2,x3,x4,x5⟩:=Ig (h:=Ah σ.hp) (e:=e) (sz:=te.size) (n:=0) (m:=len) st (.inl ⟨bM,rfl⟩) ⟨_,_,rfl⟩ cF c3 (.inr ⟨rfl,World.grownBy_alloc w _ none⟩) (λh=>absurd bM h) (nt':=.l len) (by simp[ST.den]) eR;unfold Oper.wp;have:(execOp a.eval o).run P w=.ok (.value (.slice (some ⟨w.heap.size,0,none⟩) len len)) (w.alloc (.cells ⟨C'⟩ e)):=by
  simp only[execOp,ho,Sem.run_bind];rw[aV];rfl
 rw[this];exact hK _ _ E' x1 x2 x3 (.bV ⟨_,len,_,rfl,rfl,by simp[BT.den]⟩ ⟨_,len,_,by rw[x4],by simp[ST.den],λ_=>rfl⟩)
theorem Mv(hc:Az P cx){t e:Nat}{ti:TI}(hl:look t cx.tt=some ti)(hk:ti.k=.slice e){te:TI}(hle:look e cx.tt=some te){a0:Option Addr}{m c0:Nat}{lo hi:Option Value}{l h:Nat}{w:World}
  (hb:(Instr.sliceBounds true m c0 lo hi none).run P w=.ok (l,h,c0) w):(Instr.sliceAt t (.slice a0 m c0) lo hi none).run P w=.ok (.slice (if c0=l then a0 else a0.map (·.add (l * te.size))) (h-l) (c0-l)) w:=by
 have hu:=(hc.ti hl).slice hk;have hS:=(hc.ti hle).sizeOf w;simp[Instr.sliceAt,Instr.slice,run_underlying hu,hb,hS]
theorem Xf{w:World}{gr:Bool}{e:TypeId}{sz m c0:Nat}{a0:Option Addr}{xs:List Value}(k2:Co w gr e sz (.slice a0 m c0) m xs):m<=c0:=by
 rcases k2.2 with⟨e1,e2⟩|⟨g,cap,cur,fr,e1,_,_,e2,_⟩
 .omega
 .simp only[Value.slice.injEq]at e1;omega
theorem Ou(hc:Az P cx){t e sz:Nat}{ti:TI}(hl:look t cx.tt=some ti)(hk:ti.k=.slice e){te:TI}(hle:look e cx.tt=some te){x:Operand}{lo hi:Option Operand}(ho:o.op=.slice t x lo hi none){nl:BT}{n n0:ST}{gr:Bool}{f:Nat->List SV}{h:Nat}
  (hv:rd cx σ T x=some (.bV nl n h)) (hh:nth σ.hp h=some (.own e n0 sz gr f)) (nN:Ei cx σ T lo=some none) {k:IntKind} {b:ST} (oQ:Ei cx σ T hi=some (some (.int k b)))
  (h0:n.den=n0.den) (kL:0<=b.den/\b.den<=n.den) (_hT0:Bh (Ac σ.gm T)):Local P cx.gl σ T o ⟨.sl nl (.a b.den) sz f,[.put h .gone],[h],[]⟩:=by
 intro B N E a w ff cY hg st ag bK hT K' Q hK;have iH:=Aa hv hg st (Ak ag (by simp[ho,Op.operands])) hT;have h2:=Dq hg st hT oQ (λy hy=>Ak ag (by subst hy;simp[ho,Op.operands])) (d:=.l 0) (t:=b) rfl;have bw:hi≠none:=by rintro rfl;simp[Ei]at oQ
 have bl:lo=none:=by
  cases lo with
  |none=>rfl
  |some y =>
   simp only[Ei]at nN
   split at nN<;>simp at nN
 subst bl;have sH:∃k,hi.map a.eval=some (.int k b.den):=by
  rcases h2 with⟨rfl,_⟩|⟨y,k,rfl,e⟩
  .exact absurd rfl bw
  .exact⟨k,by simp[e]⟩
 have bC:=st.heap h;have bZ:=Br bK (List.mem_singleton.2 rfl) hh;rw[bZ]at bC;obtain⟨v,m,xs,k1,kz,k2,k3,k4,k5,k6⟩:=bC;obtain⟨xC,eK⟩:=Gl iH k1 k2 k3 h0;obtain⟨a0,c0,rfl⟩:=k2.shape;have HC:n.den=(m:Int):=by rw[h0,k3]
 have iY:=Xf k2;have bU:=Gb (P:=P) (sl:=true) (len:=m) (cap:=c0) (lo:=none) (hi:=hi.map a.eval) (l:=0) (h:=b.den) (w:=w) (.inl ⟨rfl,rfl⟩) (.inr sH) (ZC _) kL.1 (by omega) iY;have nJ:(if c0=0 then a0 else a0.map (·.add (0 * te.size)))=a0:=by
  split
  .rfl
  .rcases k2.2 with⟨e1,_⟩|⟨g,cap,cur,fr,e1,_⟩
   .simp only[Value.slice.injEq]at e1;rw[e1.1];rfl
   .simp only[Value.slice.injEq]at e1;rw[e1.1];simp[add_lit]
 have aV:(execOp a.eval o).run P w=.ok (.value (.slice a0 b.den.toNat c0)) w:=by
  have:=Mv hc hl hk hle (a0:=a0) bU;have FX:(if c0=(0:Int).toNat then a0 else a0.map (·.add ((0:Int).toNat * te.size)))=a0:=nJ;rw[FX]at this;simp only[execOp,ho,xC,Sem.run_bind,YY];rw[this];rfl
 have mF:b.den.toNat<=m:=by omega
 have cF:Co w gr e sz (.slice a0 b.den.toNat c0) b.den.toNat (xs.take (b.den.toNat * sz)):=by
  have hmul:b.den.toNat * sz<=m * sz:=QQ _ mF;refine⟨by rw[QZ,k2.1];omega,?_⟩;rcases k2.2 with⟨e1,e2⟩|⟨g,cap,cur,fr,e1,e2,e3,e4,e5,e6,e7⟩
  .simp only[Value.slice.injEq]at e1
   obtain⟨rfl,_,rfl⟩:=e1;exact .inl ⟨by simp;omega,by omega⟩
  .simp only[Value.slice.injEq]at e1
   obtain⟨rfl,_,rfl⟩:=e1;refine .inr ⟨g,c0,cur,fr,rfl,e2,e3,by omega,e5,e6,?_⟩;rw[<-e7,UT];congr 1;omega
 have TD:nl.den=true↔Value.slice a0 b.den.toNat c0=.slice none 0 0:=by
  rw[eK];constructor
  .intro e1
   simp only[Value.slice.injEq]at e1 ⊢;exact⟨e1.1,by omega,e1.2.2⟩
  .intro e1
   simp only[Value.slice.injEq]at e1 ⊢;refine⟨e1.1,?_,e1.2.2⟩;have:=e1.2.2;omega
 have aI:Fx E w f b.den.toNat sz (xs.take (b.den.toNat * sz)) :=
  ⟨λi hi=>k5.1 i (by omega),λi j s u hi hs hu=>k5.2 i j s u (by omega) hs (by
   rw[QN]at hu
   split at hu
   .exact hu
   .cases hu)⟩
 have gY:=Yr (nl:=nl) (n:=.a b.den) rfl TD cF (by simp only[ST.den];omega) (λu hu=>k4 u (UL hu)) aI;have aA:=st.base
 let E':Env:=⟨E.β,E.τ,E.O,E.κ,E.ζ,λb' o=>E.I b' o\/((Value.slice a0 b.den.toNat c0).ownBlock=some b'/\o<b.den.toNat * sz)⟩
 have hx:Ext E w E' w:=⟨λ_ _ h=>h,λ_ _ h=>.inl h,λ_ _ h=>h,λ_ _ h=>h,λ_ _ h=>.inl h,λ_ _ _=>rfl⟩;have sJ:∀b',(Value.slice a0 b.den.toNat c0).ownBlock=some b'->E.O b'=some h:=λb' hb=>(k6 b' (by cases a0<;>exact hb)).1;unfold Oper.wp;rw[aV];refine hK _ w E' hx ⟨aA.os,aA.tape,aA.output,aA.size,aA.dZ,λb' o hi=>?_,λb' o hi=>?_,λb' o hi=>?_,aA.cR,aA.cL.ext hx⟩ (λk=>?_) (.ro gY)
 .obtain⟨i1,i2⟩:=aA.I0 b' o hi;exact⟨.inl i1,i2⟩
 .rcases hi with hi|⟨hb,_⟩
  .exact aA.dR b' o hi
  .exact A9 aA (sJ b' hb)
 .rcases hi with hi|⟨hb,_⟩
  .exact aA.cC b' o hi
  .exact .inr (aA.cR b' h (sJ b' hb)).2
 .show bQ E' w k (aR cY h .gone k)
  by_cases e:k=h
  .subst e
   simp only[aR,QB]
   trivial
  .simp only[aR,QA e]
   refine bQ.keep hx (st.heap k) rfl rfl rfl rfl λb' hO=>⟨hO,rfl,λo hi=>?_⟩;rcases hi with hi|⟨hb,_⟩
   .exact hi
   .rw[sJ b' hb]at hO;exact absurd (Option.some.inj hO).symm e
theorem P5(hc:Az P cx){t e sz:Nat}{ti:TI}(hl:look t cx.tt=some ti)(hk:ti.k=.slice e)(bB:size? cx e=some sz){x:Operand}{lo hi:Option Operand}(ho:o.op=.slice t x lo hi none){nl:BT}{n n0:ST}{gr:Bool}{e':TypeId}{f:Nat->List SV}{h:Nat}
  (hv:rd cx σ T x=some (.bV nl n h)) (hh:nth σ.hp h=some (.own e' n0 sz gr f)) (oQ:Ei cx σ T hi=some none) {k:IntKind} {b:ST} (nN:Ei cx σ T lo=some (some (.int k b)))
  (h0:n.den=n0.den) (kL:0<=b.den/\b.den<=n.den):Local P cx.gl σ T o ⟨.jP n b h,[],[h],[]⟩:=by
 intro B N E a w ff cY hg st ag bK hT;have iH:=Aa hv hg st (Ak ag (by simp[ho,Op.operands])) hT;have h2:=Dq hg st hT nN (λy hy=>Ak ag (by subst hy;simp[ho,Op.operands])) (d:=.l 0) (t:=b) rfl;have bl:lo≠none:=by rintro rfl;simp[Ei]at nN
 have bw:hi=none:=by
  cases hi with
  |none=>rfl
  |some y =>
   simp only[Ei]at oQ
   split at oQ<;>simp at oQ
 subst bw;have xI:∃k,lo.map a.eval=some (.int k b.den):=by
  rcases h2 with⟨rfl,_⟩|⟨y,k,rfl,e⟩
  .exact absurd rfl bl
  .exact⟨k,by simp[e]⟩
 have bC:=st.heap h;have bZ:=Br bK (List.mem_singleton.2 rfl) hh;rw[bZ]at bC;obtain⟨v,m,xs,k1,kz,k2,k3,k4,k5,k6⟩:=bC;obtain⟨xC,eK⟩:=Gl iH k1 k2 k3 h0;obtain⟨a0,c0,rfl⟩:=k2.shape;have HC:n.den=(m:Int):=by rw[h0,k3]
 have iY:=Xf k2;obtain⟨te,hle,kJ⟩:=bH bB;have bU:=Gb (P:=P) (sl:=true) (len:=m) (cap:=c0) (lo:=lo.map a.eval) (hi:=none) (l:=b.den) (h:=(m:Int)) (w:=w) (.inr xI) (.inl ⟨rfl,rfl⟩) kL.1 (by omega) (ZC _) iY;have aV:=Mv hc hl hk hle (a0:=a0) bU;refine Ad st (v:=OU a0 m c0 sz b.den.toNat) ?_ rfl (.jP ⟨_,_,_,rfl⟩ ⟨a0,m,c0,sz,k1,kz,by omega,λ_=>⟨b.den.toNat,by omega,by omega,rfl⟩⟩);simp only[execOp,ho,xC,Sem.run_bind,YY];rw[aV,<-kJ];rfl
theorem Sj(hc:Az P cx){c:Call}(ho:o.op=.call c)(aP:c.callee=.builtin .clear){x:Operand}{t e sz:Nat}{te ti:TI}(hx:c.args.toList=[x])(ht:c.argTypes.toList=[t])(aC:look t cx.tt=some ti)(hk:ti.k=.slice e)(hle:look e cx.tt=some te)(bB:te.size=sz)
  {n n0 aa:ST} {gr:Bool} {f f':Nat->List SV} {h:Nat} (hv:rd cx σ T x=some (.jP n aa h)) (hh:nth σ.hp h=some (.own e n0 sz gr f)) (h0:n.den=n0.den) (gJ:An (.agg te.zero)=true)
  (fO:∀i:Nat,(i:Int)<aa.den->f' i=f i) (eS:∀i:Nat,aa.den<=(i:Int)->f' i=te.zero) (_hT0:Bh (Ac σ.gm T)):Local P cx.gl σ T o ⟨.aJ [],[.put h (.own e n0 sz gr f')],[h],[]⟩:=by
 intro B N E a w ff hf hg st ag bK hT K' Q hK;have mx:x∈o.op.operands.toList:=by simp[ho,Op.operands,Call.operands,aP,hx]
 have iH:=Aa hv hg st (Ak ag mx) hT;have e1:c.args=#[x]:=XU (by simpa using hx);have e2:c.argTypes=#[t]:=XU (by simpa using ht);have bZ:=Br bK (List.mem_singleton.2 rfl) hh;have bC:=st.heap h;rw[bZ]at bC;obtain⟨v,m,xs,k1,kz,k2,k3,k4,k5,k6⟩:=bC;obtain⟨_,ad,m',c',cD,t1,t2,t3,t4⟩:=iH.fu;rw[k1]at t1;rw[kz]at t2;cases t2;obtain⟨a1,c1,rfl⟩:=k2.shape;simp only[Option.some.injEq,Value.slice.injEq]at t1;obtain⟨rfl,rfl,rfl⟩:=t1;obtain⟨k,q1,q2,q3⟩:=t4 (by rw[h0,k3]);have hu:=(hc.ti aC).slice hk;obtain⟨z,zW,iG,qj⟩:=(hc.ti hle).zero E w;have jJ:=(hc.ti hle).pP;have eA:z.cells.size=sz:=by have:=iG.1;rw[jJ,bB]at this;simpa using this.symm
 by_cases xq:k=m
 .subst xq
  have aV:(execOp a.eval o).run P w=.ok (.value (.tuple #[])) w:=by
   have:(Builtin.clear_ #[t] o.type #[a.eval x]).run P w=.ok (.tuple #[]) w:=by
    rw[q3];simp only[OU,UE];cases (if c1=k then a1 else a1.map (·.add (k * sz)))<;>simp[Builtin.clear_,run_underlying hu]
   simp[execOp,ho,resolve,aP,e1,e2,invoke,builtin,this]
  obtain⟨E',x1,x2,x3,x4,x5⟩:=Ig (h:=h) (e:=e) (sz:=sz) (n:=k) (m:=0) (w':=w) (f':=f') st (.inr ⟨⟨_,_,_,bZ⟩,k1,kz,k6⟩) k2.shape (by simpa using k2) k4
   (.inl ⟨rfl,Uw w _⟩) (λ_ _=>rfl) (nt':=n0) (by simpa using k3) (by
    refine⟨λi hi=>?_,λi j s u hi hs hu=>?_⟩
    .rw[fO i (by omega)];exact k5.1 i hi
    .rw[fO i (by omega)]at hs;exact k5.2 i j s u hi hs hu)
  unfold Oper.wp;rw[aV];exact hK _ w E' x1 x2 x3 (.aJ rfl (by simp))
 have mH:k<m:=by omega
 rcases k2.2 with⟨e3,e4⟩|⟨b,cap,cur,fr,e3,fU,cE,sU,eY,cX,bT⟩
 .omega
 simp only[Value.slice.injEq]at e3;obtain⟨rfl,_,rfl⟩:=e3;have mB:=k2.1;obtain⟨us,jB⟩:∃us,us=(Builtin.zeroCells z.cells (m-k)).toList:=⟨_,rfl⟩;have xD:us.length=(m-k) * sz:=by rw[jB];simp[Builtin.zeroCells,eA]
 have FY:∀q,q<(m-k) * sz->us[q]?=some (z.cells.toList.getD (q % sz) undef):=by
  intro q hq;have xG:0<sz:=by
   rcases YN sz with h|h
   .rw[h]at hq;simp at hq
   .exact h
  have hm:q % sz<z.cells.size:=by rw[eA];exact YD _ xG
  rw[jB,QX];simp only[Builtin.zeroCells,eA,Array.getElem?_map];rw[Array.getElem?_range];simp only[hq,if_true,QP,Option.some.injEq];rw[QD,UD,XH,QX];simp[hm]
 have ak:∀u∈us,u.oneCell'=true:=by
  intro u hu;obtain⟨q,hq⟩:=List.mem_iff_getElem?.1 hu;have xb:q<(m-k) * sz:=by rw[<-xD];exact (List.getElem?_eq_some_iff.1 hq).1
  have xG:0<sz:=by
   rcases YN sz with h|h
   .rw[h]at xb;simp at xb
   .exact h
  have hm:q % sz<z.cells.toList.length:=by simp[eA];exact YD _ xG
  rw[FY q xb]at hq;simp only[Option.some.injEq]at hq;rw[<-hq,QD,QC hm];exact qj _ (XL hm)
 have hmul:k * sz+(m-k) * sz=m * sz:=by rw[<-XK];congr 1;omega
 have an6:m * sz<=c1 * sz:=QQ _ sU
 let C':Array Value:=(cur.toList.take (k * sz)++us++cur.toList.drop (k * sz+us.length)).toArray
 have mF:k * sz+us.length<=cur.size:=by rw[xD];omega
 have nT:C'.size=cur.size:=by simp[C'];omega
 have kE:∀q:Nat,C'[q]?=if k * sz<=q/\q<k * sz+us.length then us[q-k * sz]? else cur[q]?:=by
  intro q;have:C'[q]?=(cur.toList.take (k * sz)++us++cur.toList.drop (k * sz+us.length))[q]?:=by simp[C']
  rw[this]
  split
  .rename_i e
   rw[ZH,QO (by simp;omega),QM (by simp;omega)];congr 1;simp;omega
  .rename_i e
   by_cases hi:q<k * sz
   .rw[ZH,QM (by simp;omega),QN,QB hi];simp
   .rw[QO (by simp;omega),XF,<-QX]
    congr 1;simp;omega
 let ys:List Value:=C'.toList.take (m * sz)
 have zX:ys.length=m * sz:=by simp[ys,nT];omega
 have rV:∀q,q<m * sz->ys[q]?=if k * sz<=q then us[q-k * sz]? else xs[q]?:=by
  intro q hq;simp only[ys];rw[QN,QB hq,QX,kE]
  by_cases h1:k * sz<=q
  .rw[QB ⟨h1,by rw[xD];omega⟩,QB h1]
  .rw[QA (λh=>h1 h.1),QA h1,<-bT,QN,QB hq];simp
 have x7:fr=(0,0)\/cur.size<=fr.1:=by
  rcases cE with h|⟨_,h⟩
  .exact .inl h
  .rw[h];exact .inr (QH _)
 have qN:=Db (P:=P) b (k * sz) e fr us 0 cur w fU x7 (by simpa using mF) ak;simp only[XY]at qN;have aV:(execOp a.eval o).run P w=.ok (.value (.tuple #[])) (w.setRow b C'):=by
  have:(Builtin.clear_ #[t] o.type #[a.eval x]).run P w=.ok (.tuple #[]) (w.setRow b C'):=by
   rw[q3];have aY:c1≠k:=by omega
   obtain⟨d,hd⟩:∃d,m-k=d+1:=⟨m-k-1,by omega⟩;have qg:(Builtin.zeroCells z.cells (d+1)).toList=us:=by rw[jB,hd]
   simp only[OU,QA aY,QP,add_lit,XE,hd];simp[Builtin.clear_,run_underlying hu,zW,qg,qN,C']
  simp[execOp,ho,resolve,aP,e1,e2,invoke,builtin,this]
 have j9:∀c∈te.zero,An c=true:=by
  simp only[An]at gJ;exact (Cv _).1 gJ
 have aI:Fx E w f' m sz ys:=by
  refine⟨λi hi=>?_,λi j s u hi hs hu=>?_⟩
  .by_cases xJ:i<k
   .rw[fO i (by omega)];exact k5.1 i hi
   .rw[eS i (by omega),jJ,bB]
  .have hj:j<sz:=by
    by_cases xJ:i<k
    .rw[fO i (by omega)]at hs
     rw[<-k5.1 i hi];exact (List.getElem?_eq_some_iff.1 hs).1
    .rw[eS i (by omega)]at hs
     have:=(List.getElem?_eq_some_iff.1 hs).1;rw[jJ,bB]at this;exact this
   have eE:i * sz+j<m * sz:=by
    have:(i+1) * sz<=m * sz:=QQ _ hi;rw[XK]at this;omega
   rw[rV _ eE]at hu
   by_cases xJ:i<k
   .rw[fO i (by omega)]at hs
    have:(i+1) * sz<=k * sz:=QQ _ xJ;rw[XK]at this;rw[QA (by omega)]at hu;exact k5.2 i j s u hi hs hu
   .rw[eS i (by omega)]at hs
    have h3:k * sz<=i * sz:=QQ _ (by omega);rw[QB (by omega)]at hu;have h4:i * sz+j-k * sz=(i-k) * sz+j:=by
     have:i * sz=k * sz+(i-k) * sz:=by rw[<-XK];congr 1;omega
     omega
    have h5:(i-k) * sz+j<(m-k) * sz:=by omega
    rw[h4,FY _ h5]at hu;have h6:((i-k) * sz+j) % sz=j:=by rw[Nat.add_comm,Nat.add_mul_mod_self_right,Nat.mod_eq_of_lt hj]
    rw[h6]at hu;simp only[Option.some.injEq]at hu;have hjz:j<z.cells.toList.length:=by simp[eA];exact hj
    have hzj:z.cells.toList[j]?=some u:=by
     rw[<-hu,QD,QC hjz];rfl
    exact (iG.2 j s u hs hzj).fB (j9 s (QK hs)) (qj u (QK hzj))
 have zY:∀u∈ys,u.oneCell'=true:=by
  intro u hu;obtain⟨q,hq⟩:=List.mem_iff_getElem?.1 hu;have bc:q<m * sz:=by rw[<-zX];exact (List.getElem?_eq_some_iff.1 hq).1
  rw[rV q bc]at hq
  split at hq
  .exact ak u (QK hq)
  .exact k4 u (QK hq)
 have cF:Co (w.setRow b C') gr e sz (.slice (some ⟨b,0,none⟩) m c1) (m+0) ys:=by
  refine⟨zX,.inr ⟨b,c1,C',fr,rfl,setRow_heap w b cur C' e fr fU,?_,sU,eY,by rw[nT];exact cX,rfl⟩⟩;rw[nT];exact cE
 obtain⟨E',x1,x2,x3,x4,x5⟩:=Ig (h:=h) (e:=e) (sz:=sz) (n:=m) (m:=0) (f':=f') st (.inr ⟨⟨_,_,_,bZ⟩,k1,kz,k6⟩) k2.shape cF zY
  (.inl ⟨rfl,⟨rfl,rfl,rfl,by simp,λk _ hk=>setRow_other w b k C' (λe=>hk (by rw[e];rfl))⟩⟩) (λ_ _=>rfl) (nt':=n0) (by simpa using k3) (by simpa using aI)
 unfold Oper.wp;rw[aV];exact hK _ _ E' x1 x2 x3 (.aJ rfl (by simp))
end
variable {P:Program} {cx:Cx} {σ:Sy} {T:List Nat} {o:Oper} {K:Out->Prop}
theorem Rel.wS{E:Env}{w:World}{n h:Nat}{v:Value}(hr:Rel E w (.iZ n h) v):∃b,E.β h=some b/\n<=maxLen/\v=.slice (some ⟨b,0,none⟩) n n:=by
 cases hr with
 |ro h=>cases h
 |iZ hb hn hv=>exact⟨_,hb,hn,hv⟩
theorem M7{F:Nat->Prop}{i:Int}:∀(n j:Nat),Ad1 i F n j->∀k:Nat,i=(k:Int)->j<=k->k<j+n->F k
 |0,j,_,k,_,h1,h2=>by omega
 |n+1,j,h,k,hk,h1,h2=>by
  rcases Nat.eq_or_lt_of_le h1 with e|e
  .subst e;exact h.1 ⟨hk.symm⟩
  .exact M7 n (j+1) h.2 k hk e (by omega)
theorem Agt(cx:Cx)(i:ST):(RG cx i).den=i.den:=by
 unfold RG
 split
 .split<;>rfl
 .rfl
theorem Ug(hc:Az P cx){t len e:Nat}{ps:Array (Nat×Operand)}(ho:o.op=.buildSlice t len ps){ti te:TI}(aC:look t cx.tt=some ti)(hk:ti.k=.slice e)(hle:look e cx.tt=some te){vs:List (Nat×SV)}(hv:Gk cx σ T ps.toList=some vs)(h1:Om vs=true)
  {cs:List SV} (hf:Am.eM te.size (Am.kR len te.zero) vs=some cs) (hz:0<te.size) (oR:len * te.size<=16777216):
  Local P cx.gl σ T o ⟨.iZ len (Ah σ.hp),[.put (Ah σ.hp) (.aG e (loose.aH (norm.aM dn cs)))],[],[]⟩:=by
 intro B N E a w ff cY hg st ag bK hT K' Q hK;have eT:∀p∈ps.toList,∀s∈Ct p.2,ff s=Bd σ s:=λp hp=>Ak ag (by simp only[ho,Op.operands];simp;exact⟨p.1,by simpa using hp⟩);obtain⟨h2,h3⟩:=Ep hg st hT ps.toList vs eT hv;obtain⟨z,zW,iG,qj⟩:=(hc.ti hle).zero E w;have jJ:=(hc.ti hle).pP;have eA:z.cells.size=te.size:=by have:=iG.1;rw[jJ]at this;simpa using this.symm
 have jB:∀(j:Nat) (p:Nat×SV) (q:Nat×Value),vs[j]?=some p->((ps.map λ(x:Nat×Operand)=>(x.1,a.eval x.2)).toList)[j]?=some q->p.1=q.1/\Rel E w p.2 q.2:=by
  intro j p q hp hq;rw[ZL,QR]at hq;cases tY:ps.toList[j]? with
  |none=>rw[tY]at hq;cases hq
  |some x =>
   rw[tY]at hq;simp only[QP,Option.some.injEq]at hq;subst hq;exact h3 j p x hp tY
 -- qZ zero cells
 let C0:List Value:=(List.range (len * te.size)).map λq=>z.cells.toList.getD (q % te.size) undef
 have IZ:A6 E w (Am.kR len te.zero) C0:=by
  refine⟨by rw[Eo,jJ];simp[C0],λi s v hs hv=>?_⟩;have aC:i<len * te.size:=by
   have:=(List.getElem?_eq_some_iff.1 hs).1
   rwa [Eo,jJ]at this
  rw[Of _ _ (by rw[jJ];exact aC),jJ]at hs;simp[C0,aC]at hv;have hm:i % te.size<z.cells.size:=by rw[eA];exact YD _ hz
  refine iG.2 (i % te.size) s v hs ?_;rw[<-hv];simp[hm]
 have c8:∀u∈C0,u.oneCell'=true:=by
  intro u hu;simp only[C0,List.mem_map,List.mem_range]at hu;obtain⟨q,_,rfl⟩:=hu;have hm:q % te.size<z.cells.toList.length:=by simp[eA];exact YD _ hz
  rw[QD,QC hm];exact qj _ (XL hm)
 obtain⟨C',c1,c2,c3⟩:=Ii vs (ps.map λ(x:Nat×Operand)=>(x.1,a.eval x.2)).toList _ cs C0 (by simp[h2]) jB (Jg h1) IZ c8 hf;have pH:C'.length=len * te.size:=by
  rw[<-c2.1];have:∀(vs:List (Nat×SV)) (cs dH:List SV),Am.eM te.size cs vs=some dH->dH.length=cs.length:=by
   intro vs
   induction vs with
   |nil=>intro cs dH h;simp[Am.eM]at h;rw[h]
   |cons p vs ih =>
    intro cs dH h;obtain⟨i,v⟩:=p;simp only[Am.eM]at h
    split at h
    .rw[ih _ _ h,Dd]
    .cases h
  rw[this vs _ cs hf,Eo,jJ]
 have aV:(Instr.buildSlice t len (ps.map λ(x:Nat×Operand)=>(x.1,a.eval x.2))).run P w=.ok (.slice (some ⟨w.heap.size,0,none⟩) len len) (w.alloc (.cells ⟨C'⟩ e)):=by
  have hu:=(hc.ti aC).slice hk;have hS:=(hc.ti hle).sizeOf w;have mM:((Array.range (len * te.size)).map (λq=>z.cells[q % z.cells.size]!))=(⟨C0⟩:Array Value):=by
   apply XU;simp only[ZL,Array.toList_range,C0];refine UB λq _=>?_;rw[eA,QD,UD,XH,QX];have hm:q % te.size<z.cells.size:=by rw[eA];exact YD _ hz
   simp[hm]
  have sK:¬(16777216<len * te.size):=by omega
  simp only[Instr.buildSlice,Sem.run_bind,run_underlying hu,Result.andThen_ok,hS,gt_iff_lt]
  by_cases h0:len * te.size=0
  .have c7:C0=[]:=by simp[C0,h0]
   rw[c7]at c1;rw[ZL]at c1;have cj:Array.map (λ_=>(default:Value)) (Array.range 0)=⟨[]⟩:=by simp
   simp[h0,newRow,newObj]
   first|rw[cj,c1]|(simp at c1 ⊢;rw[c1])
   simp[Sem.run]
  .rw[ZL]at c1
   simp[h0,sK,zW,mM,newRow,newObj];rw[c1];simp[Sem.run]
 have bM:cY (Ah σ.hp)=.fresh:=by
  have:=bK.fK _ (List.mem_singleton.2 rfl);simp only[dp,Aq,Aj,Af]at this;rw[Af,this];simp
 have nM:len<=maxLen:=by
  simp only[maxLen];have:len<=len * te.size:=Nat.le_mul_of_pos_right _ hz;omega
 have cW:A6 E w (loose.aH (norm.aM dn cs)) C':=by
  rw[Ce,Ci];exact (c2.map _ λs v _ h=>h.norm).map _ λs v _ h=>h.loose
 obtain⟨E',x1,x2,x3,x4⟩:=Yx st bM (ty:=e) (C:=⟨C'⟩) cW c3;unfold Oper.wp;have:(execOp a.eval o).run P w=.ok (.value (.slice (some ⟨w.heap.size,0,none⟩) len len)) (w.alloc (.cells ⟨C'⟩ e)):=by
  simp only[execOp,ho,Sem.run_bind];rw[aV];rfl
 rw[this];exact hK _ _ E' x1 x2 x3 (.iZ x4 nM rfl)
theorem Kz(hc:Az P cx){t e sz n:Nat}{ti:TI}(hl:look t cx.tt=some ti)(hk:ti.k=.slice e)(hn:size? cx e=some sz){x y:Operand}(ho:o.op=.indexAddr t x y){h:Nat}{k:IntKind}{i:ST}
  (hv:rd cx σ T x=some (.iZ n h)) (hi:rd cx σ T y=some (.int k i)) {j:Nat} (hj:i.den=(j:Int)) (xr:j<n):Local P cx.gl σ T o ⟨.ptr h (0+j * sz),[],[],[]⟩:=by
 intro B N E a w ff cY hg st ag bK hT;obtain⟨b,hb,hm,e3⟩:=(Aa hv hg st (Ak ag (by simp[ho,Op.operands])) hT).wS;have hy:=(Aa hi hg st (Ak ag (by simp[ho,Op.operands])) hT).aQ;have aV:=Fm hc hl hk hn (w:=w) (a:=⟨b,0,none⟩) (m:=n) (cap:=n) (k:=k) (show 0<=i.den by omega) (show i.den<(n:Int) by omega);refine Ad st (v:=.pointer (some ⟨b,0+j * sz,none⟩)) ?_ rfl (.ptr hb rfl);rw[hj]at aV hy;simp only[ZV]at aV;simp[execOp,ho,e3,hy,aV,add_lit]
theorem Ab9(hc:Az P cx){t e sz n:Nat}{ti:TI}(hl:look t cx.tt=some ti)(hk:ti.k=.slice e)(hn:size? cx e=some sz){x y:Operand}(ho:o.op=.indexAddr t x y){h:Nat}{k:IntKind}{i:ST}
  (hv:rd cx σ T x=some (.iZ n h)) (hi:rd cx σ T y=some (.int k i)) (hs:Hk cx T h 0 n sz i K):∃r,K r/\Local P cx.gl σ T o r:=by
 unfold Hk at hs
 split at hs
 .rename_i q hq
  split at hs
  .rename_i hb
   have dA:i.den=(q:Int):=by rw[<-Agt cx i,hq];rfl
   exact⟨_,hs,Kz hc hl hk hn ho hv hi (j:=q) dA (by simpa using hb)⟩
  .exact hs.elim
 .split at hs
  .rw[hc.D]at hs
   obtain⟨⟨h0,h1⟩,h2⟩:=hs;have h0:0<=i.den:=h0;have h1:i.den<n:=h1;have hq:i.den=((i.den.toNat:Nat):Int):=by omega
   exact⟨_,M7 n 0 h2 i.den.toNat hq (ZB _) (by omega),Kz hc hl hk hn ho hv hi hq (by omega)⟩
  .exact hs.elim
theorem Wl(hc:Az P cx){c:Call}(ho:o.op=.call c)(aP:c.callee=.builtin .len){x:Operand}{t:Nat}{ti:TI}(hx:c.args.toList=[x])(ht:c.argTypes.toList=[t])(hl:look t cx.tt=some ti){e:TypeId}(hk:ti.k=.slice e)
  {n h:Nat} (hv:rd cx σ T x=some (.iZ n h)):Local P cx.gl σ T o ⟨.int .i64 (.l n),[],[],[]⟩:=by
 intro B N E a w ff cY hg st ag bK hT;have dP:x∈o.op.operands.toList:=by simp[ho,Op.operands,Call.operands,aP,hx]
 obtain⟨b,hb,hm,e3⟩:=(Aa hv hg st (Ak ag dP) hT).wS;have e1:c.args=#[x]:=XU (by simpa using hx);have e2:c.argTypes=#[t]:=XU (by simpa using ht);have aV:=Gs hc hl hk (w:=w) (a:=some ⟨b,0,none⟩) (m:=n) (c:=n) (ty:=o.type);refine Ad st (v:=.int .i64 n) ?_ rfl (.int rfl);simp[execOp,ho,resolve,aP,e1,e2,invoke,builtin,e3,aV]
section
variable {P:Program} {cx:Cx} {σ:Sy} {T:List Nat} {o:Oper} {K:Out->Prop}
theorem Ub(hc:Az P cx){src dst e:TypeId}{x:Operand}(ho:o.op=.convert src dst x){ts td te:TI}(kA:look src cx.tt=some ts)(qQ:ts.k=.string)(pI:look dst cx.tt=some td)(kC:td.k=.slice e)(hle:look e cx.tt=some te)(fI:te.k=.int .u8)
  {s:List UInt8} (hv:rd cx σ T x=some (.str s)) (hlen:Bh (Ac σ.gm T)->s.length<=maxLen):Local P cx.gl σ T o ⟨.sl (.l false) (.len s) 1 (aU s),[],[],[]⟩:=by
 intro B N E a w ff hf hg st ag bK hT K' Q hK;have hx:=(Aa hv hg st (Ak ag (by simp[ho,Op.operands])) hT).cU;have hb:=st.base;have aV:=run_bytes_of_string (P:=P) w src dst e (bytes s) ((hc.ti kA).string qQ) ((hc.ti pI).slice kC) ((hc.ti hle).int fI);obtain⟨C,hC⟩:∃C,C=bytesRow (bytes s) (grownCap w (bytes s).size 0 e):=⟨_,rfl⟩;rw[<-hC]at aV;obtain⟨w',tQ⟩:∃w',w'=w.drew.alloc (.cells C e (C.size,C.size+1)):=⟨_,rfl⟩;rw[<-tQ]at aV
 let E':Env:=⟨E.β,E.τ,E.O,E.κ,E.ζ,λb o=>E.I b o\/(b=w.heap.size/\o<s.length)⟩
 have hold:∀b,b<w.heap.size->w'.heap[b]?=w.heap[b]?:=λb aC=>by rw[tQ];exact RowKit.Below.heap_alloc w.drew _ b aC
 have mD:w'.heap[w.heap.size]?=some (.cells C e (C.size,C.size+1)):=by rw[tQ];show (w.heap.push _)[w.heap.size]?=_;simp
 have sI:∀(p:Addr),p.block<w.heap.size->w'.cell? p=w.cell? p:=λp hp=>World.cell?_of_block (w:=w) (hold _ hp);have nP:Ext E w E' w':=⟨λ_ _ h=>h,λ_ _ h=>.inl h,λ_ _ h=>h,λ_ _ h=>h,λb o h=>.inl h,λb o h=>sI _ (hb.dR b o h)⟩;have bB:w'.heap.size=w.heap.size+1:=by rw[tQ];show (w.heap.push _).size=_;simp
 have aA:Cl B E' w':=by
  refine⟨by rw[tQ];exact hb.os,by rw[tQ];exact hb.tape,by rw[tQ];exact hb.output,by have:=hb.size;omega,λb aC hX=>?_,λb o hi=>?_,λb o hi=>?_,λb o hi=>?_,λb h hO=>?_,hb.cL.ext nP⟩
  .rw[hold b (by have:=hb.size;omega)];exact hb.dZ b aC hX
  .obtain⟨i1,i2⟩:=hb.I0 b o hi
   exact⟨.inl i1,by rw[sI _ (hb.dR b o i1)];exact i2⟩
  .rcases hi with hi|⟨rfl,_⟩
   .have:=hb.dR b o hi;omega
   .omega
  .rcases hi with hi|⟨rfl,_⟩
   .exact hb.cC b o hi
   .exact .inr (.inl hb.size)
  .obtain⟨o1,o2⟩:=hb.cR b h hO
   exact⟨by omega,o2⟩
 have xZ:(bytes s).size=s.length:=by simp[bytes,ByteArray.size]
 unfold Oper.wp;have hex:(execOp a.eval o).run P w=.ok (.value (.slice (some ⟨w.heap.size,0,none⟩) (bytes s).size (grownCap w (bytes s).size 0 e))) w':=by
  simp only[execOp,ho,hx,Sem.run_bind];rw[aV];rfl
 rw[hex];refine hK _ w' E' nP aA (λk=>bQ.keep nP (st.heap k) rfl rfl rfl rfl λb hO=>⟨hO,hold b (A9 hb hO),λo hi=>?_⟩) (.ro ?_)
 .rcases hi with hi|⟨rfl,_⟩
  .exact hi
  .exact absurd (A9 hb hO) (by omega)
 .refine .sl (λi _=>.int .u8 ((s.getD i 0).toNat:Int)) rfl ?_ ?_ ?_ (λ_=>rfl) (λi hi=>rfl) (λi j hi hj=>rfl) (λi j hi hj=>?_) (λi j s' hi hs=>?_)
  .show ((s.length:Nat):Int)=_
   rw[xZ]
  .exact grownCap_ge ..
  .exact grownCap_le_maxLen _ _ _ _ (by rw[xZ];exact hlen hT)
  .have xx:j=0:=by omega
   subst xx;rw[xZ]at hi;refine⟨?_,.inr ⟨rfl,by simpa using hi⟩⟩;have WS:C[i]?=some (.int .u8 ((s.getD i 0).toNat:Int)):=by
    rw[hC];simp[bytesRow,bytes,Array.getElem?_append,hi]
   simp[World.cell?,mD,WS]
  .cases j with
   |zero=>simp[aU]at hs;subst hs;exact .int rfl
   |succ j=>simp[aU]at hs
def cellNat:List SV->Nat
 | [.int _ t]=>t.den.toNat
 |_=>0
theorem Gj{n:Int}{f:Nat->List SV}(hb:Fv n f):∃r,Kr r n f:=by
 have h0:=hb.nn;refine⟨(List.range n.toNat).map λi=>UInt8.ofNat (cellNat (f i)),by simp;omega,λi t hi ht=>?_⟩;obtain⟨t',SI,h1,h2⟩:=hb.h i hi;rw[ht]at SI;simp only[List.cons.injEq,SV.int.injEq,true_and,and_true]at SI;subst SI;have aC:i<n.toNat:=by omega
 simp[aC,ht,cellNat];omega
theorem Lp(hc:Az P cx){src dst e:TypeId}{x:Operand}(ho:o.op=.convert src dst x){ts td te:TI}(kA:look src cx.tt=some ts)(qQ:ts.k=.slice e)(pI:look dst cx.tt=some td)(kC:td.k=.string)(hle:look e cx.tt=some te)(fI:te.k=.int .u8)
  {nl:BT} {n:ST} {f:Nat->List SV} (hv:rd cx σ T x=some (.sl nl n 1 f)\/∃h,rd cx σ T x=some (.dQ nl n 1 f h)) {r:List UInt8} (hr:Bh (Ac σ.gm T)->Fv n.den f/\Kr r n.den f):Local P cx.gl σ T o ⟨.str r,[],[],[]⟩:=by
 intro B N E a w ff hf hg st ag bK hT;obtain⟨hb,hr⟩:=hr hT;have hx:RO E.I w (.sl nl n 1 f) (a.eval x):=by
  rcases hv with hv|⟨h,hv⟩
  .cases Aa hv hg st (Ak ag (by simp[ho,Op.operands])) hT with
   |ro h=>exact h
  .cases Aa hv hg st (Ak ag (by simp[ho,Op.operands])) hT with
   |ro h=>cases h
   |dQ h _=>exact h
 refine Ad st (v:=.string (bytes r)) ?_ rfl (.ro (.str rfl));simp only[execOp,ho,Sem.run_bind];have jB:=(hc.ti kA).slice qQ;have ei:=(hc.ti pI).string kC;have eh:=(hc.ti hle).int fI
 generalize a.eval x=vx at hx
 cases hx with
 |slnil h hn =>
  have:r=[]:=XN (by have:=hr.len;omega);subst this;simp[convert,run_underlying jB,run_underlying ei,run_underlying eh,Conv.bytesToString,bytes];rfl
 |sl g h hn iY eY hs hl h1 aN bF =>
  rename_i ad m cap;have tU:r.length=m:=by have:=hr.len;omega
  have:=run_convert_bytes_back (P:=P) w src dst e ad cap r jB eh ei (λj hj=>by
   have uC:j<m:=by omega
   obtain⟨t,ht,_⟩:=hb.h j (by omega);have e1:=hr.row j t (by omega) ht;have cw:=(aN j 0 uC (by omega)).1;have dB:=bF j 0 (.int .u8 t) uC (by rw[ht];rfl);have xW:g j 0=.int .u8 t.den:=(Rel.ro (E:=E) dB).aQ;rw[xW]at cw;rw[QD,QC hj]at e1;simp only[XG]at e1;rw[e1,<-cw];have hsp:=hs (by omega);obtain⟨ab,ao,asp⟩:=ad;simp only at hsp;subst hsp;simp[Addr.add]
   split
   .rename_i xx;subst xx;simp
   .rfl)
  rw[tU]at this;rw[this];rfl
end
end Go.Sx
