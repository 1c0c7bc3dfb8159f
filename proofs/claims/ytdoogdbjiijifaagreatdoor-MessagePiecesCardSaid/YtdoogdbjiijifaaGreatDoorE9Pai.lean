/- Lemmas of the proof; no conditions. -/
import Derived.Test.YtdoogdbjiijifaaGreatDoorE9Pah
namespace Go.Sx
open Go
theorem Aha{B:Bs}{N:Nat}{E:Env}{a:Act}{w:World}{ff:Nat->SG}{hf:Nat->Hl}(st:St B N E a w ff hf){h:Nat}{e:TypeId}{sz:Nat}{a0 a1:Option Addr}{m G c0 c1 M:Nat}{ys:List Value}{w':World}{n0 g0:ST}{f0:Nat->List SV}
  (hold:hf h=.vec e n0 g0 sz f0) (oP:E.τ h=some (.slice a0 G c0)) (jH:∀b,(Value.slice a0 m c0).ownBlock=some b->E.O b=some h/\∀o,¬E.I b o)
  (cJ:Cu w' false e sz (.slice a1 M c1) M ys) (h1:∀u∈ys,u.oneCell'=true)
  (gG:((Value.slice a1 M c1).ownBlock=(Value.slice a0 m c0).ownBlock/\w.grownBy w' (Value.slice a0 m c0).ownBlock)\/((Value.slice a1 M c1).ownBlock=some w.heap.size/\w.grownBy w' none))
  {nt gt:ST} (nE:nt.den=(M:Int)) (CX:gt.den=((G+1:Nat):Int)) {f':Nat->List SV} (aJ:F9 E w f' M sz ys):
  ∃E',Ext E w E' w'/\Cr B E' w'/\(∀k,bR E' w' k (aU hf h (.vec e nt gt sz f') k))/\E'.τ h=some (.slice a1 (G+1) c1):=by
 have hb:=st.base;have dW:∀b,(Value.slice a0 m c0).ownBlock=some b->E.O b=some h/\(∀o,¬E.I b o)/\b<w.heap.size:=λb bX=>⟨(jH b bX).1,(jH b bX).2,Bd hb (jH b bX).1⟩
 generalize hv:Value.slice a0 m c0=v at *
 generalize xY:Value.slice a1 M c1=v' at *
 let E':Env:=⟨E.β,aU E.τ h (some (.slice a1 (G+1) c1)),λb=>if v'.ownBlock=some b then some h else E.O b,E.κ,E.ζ,E.I⟩
 have fE:w'.os=w.os/\w'.tape=w.tape/\w'.output=w.output/\w.heap.size<=w'.heap.size:=by
  rcases gG with⟨_,hg⟩|⟨_,hg⟩<;>exact⟨hg.os,hg.tape,hg.output,hg.size⟩
 have fM:∀b,b<w.heap.size->v.ownBlock≠some b->w'.heap[b]?=w.heap[b]?:=by
  intro b aC bA;rcases gG with⟨_,hg⟩|⟨_,hg⟩
  .exact hg.block b aC (λe=>bA e.symm)
  .exact hg.block b aC (by simp)
 have hI:∀b o,E.I b o->w'.cell? ⟨b,o,none⟩=w.cell? ⟨b,o,none⟩:=by
  intro b o hi;have aC:=hb.dP b o hi;have bA:v.ownBlock≠some b:=λtP=>(dW b tP).2.1 o hi;simp only[World.cell?];rw[fM b aC bA]
 have hx:Ext E w E' w':=by
  refine⟨λ_ _ h=>h,λk u hk=>?_,λ_ _ h=>h,λ_ _ h=>h,λb o h=>h,hI⟩;show aU E.τ h (some (.slice a1 (G+1) c1)) k=some u\/∃a m' c a' sK c',u=.slice a m' c/\aU E.τ h (some (.slice a1 (G+1) c1)) k=some (.slice a' sK c')/\m'<sK;unfold aU
  by_cases e:k=h
  .subst e
   rw[QC rfl];rw[oP]at hk;cases hk;exact .inr ⟨a0,G,c0,a1,G+1,c1,rfl,rfl,YP _⟩
  .rw[QA e];exact .inl hk
 have lO:∀b,v'.ownBlock=some b->b<w'.heap.size:=cJ.lt;have mS:∀b,v'.ownBlock=some b->B.w0.heap.size<=b\/B.X b:=by
  intro b bX;rcases gG with⟨hs,_⟩|⟨hs,_⟩
  .exact (hb.cS b h (dW b (by rw[<-hs];exact bX)).1).2
  .rw[hs]at bX;cases bX;exact .inl hb.size
 refine⟨E',hx,⟨fE.1.trans hb.os,fE.2.1.trans hb.tape,fE.2.2.1.trans hb.output,XP hb.size fE.2.2.2,λb aC hX=>?_,λb o hi=>?_,λb o hi=>?_,hb.cE,λb k hO=>?_,hb.cO.ext hx⟩,λk=>?_,by simp[E',aU]⟩
 .have bC:=hb.size
  rw[fM b (by omega) ?_]
  .exact hb.dY b aC hX
  .intro tP
   rcases (hb.cS b h (dW b tP).1).2 with h|h
   .omega
   .exact hX h
 .obtain⟨i1,i2⟩:=hb.I0 b o hi
  exact⟨i1,by rw[hI b o i1];exact i2⟩
 .exact XQ (hb.dP b o hi) fE.2.2.2
 .have hO:(if v'.ownBlock=some b then some h else E.O b)=some k:=hO
  split at hO
  .rename_i bX
   exact⟨lO b bX,mS b bX⟩
  .obtain⟨o1,o2⟩:=hb.cS b k hO
   exact⟨XQ o1 fE.2.2.2,o2⟩
 .by_cases e:k=h
  .subst e
   simp only[aU,QC];refine⟨a1,c1,M,G+1,ys,by simp[E',aU],by rw[xY];exact cJ,nE,CX,h1,⟨aJ.1,λi j s u a b c=>(aJ.2 i j s u a b c).mono hx.I hx.cell⟩,λb bX=>?_⟩;rw[xY]at bX;refine⟨by show (if v'.ownBlock=some b then some k else E.O b)=some k;rw[QC bX],λo hi=>?_⟩;rcases gG with⟨hs,_⟩|⟨hs,_⟩
   .exact (dW b (by rw[<-hs];exact bX)).2.1 o hi
   .rw[hs]at bX;cases bX
    have:=hb.dP _ _ hi;omega
  .simp only[aU,QA e]
   refine bR.keep hx (st.heap k) rfl (by simp[E',aU,e]) rfl rfl λb hO=>?_;have aC:=Bd hb hO;have bA:v'.ownBlock≠some b:=by
    intro bX;rcases gG with⟨hs,_⟩|⟨hs,_⟩
    .have:=(dW b (by rw[<-hs];exact bX)).1
     rw[hO]at this;exact e (Option.some.inj this)
    .rw[hs]at bX;cases bX;omega
   have IS:v.ownBlock≠some b:=by
    intro bX;have:=(dW b bX).1;rw[hO]at this;exact e (Option.some.inj this)
   exact⟨by show (if v'.ownBlock=some b then some h else E.O b)=some k;rw[QA bA];exact hO,fM b aC IS,λo hi=>hi⟩
section
variable {P:Program} {cx:Cx} {σ:Sy} {T:List Nat} {o:Oper} {K:Out->Prop}
theorem Mi{E:Env}{w:World}{h:Nat}{n g g1:ST}{nl:BT}{u:Value}{e:TypeId}{sz m G c:Nat}{a:Option Addr}{xs:List Value}(hr:Rel E w (.cR nl n g h) u)(oP:E.τ h=some (.slice a G c))(bY:Cu w false e sz (.slice a m c) m xs)(hn:n.den=(m:Int))(hg:g1.den=(G:Int))(he:g.den=g1.den):
  u=.slice a m c/\(nl.den=true↔Value.slice a m c=.slice none 0 0):=by
 obtain⟨⟨a',k,c',e1,e2,e3⟩,a0,G0,c0,t1,t2,t3⟩:=hr.kH;rw[oP]at t1;cases t1;obtain⟨k',q1,q2⟩:=t3 (by rw[he,hg]);have hk:k'=m:=by omega
 subst hk;refine⟨q2,?_⟩;rw[q2]at e1;simp only[Value.slice.injEq]at e1;obtain⟨rfl,_,_⟩:=e1;rw[e3];constructor
 .rintro rfl
  rcases bY.2 with⟨h1,_⟩|⟨g,cap,cur,fr,h1,_⟩
  .exact h1
  .simp at h1
 .intro h1
  simp only[Value.slice.injEq]at h1;exact h1.1
theorem Zi{E:Env}{w:World}{nl:BT}{n:ST}{ty:TypeId}{sz:Nat}{gr:Bool}{f:Nat->List SV}{u v:Value}{m:Nat}{xs:List Value}(hu:u=v)(eQ:nl.den=true↔v=.slice none 0 0)(bY:Cu w gr ty sz v m xs)(hn:n.den=(m:Int))
  (h1:∀u∈xs,u.oneCell'=true) (aJ:F9 E w f m sz xs):RO (λb o=>E.I b o\/(v.ownBlock=some b/\o<m * sz)) w (.sl nl n sz f) u:=by
 subst hu;rcases bY.2 with⟨e0,e1⟩|⟨b,cap,cur,fr,e0,gU,cI,tL,fI,cY,bW⟩
 .rw[e0]
  exact .slnil (eQ.2 e0) (by rw[hn,e1];rfl)
 .have eH:∀i j,i<m->j<sz->i * sz+j<m * sz:=by
   intro i j hi hj;have:(i+1) * sz<=m * sz:=QR _ hi;rw[XM]at this;omega
  have nZ:∀i j,i<m->j<sz->xs[i * sz+j]?=some (xs.getD (i * sz+j) undef):=by
   intro i j hi hj;have:=eH i j hi hj;rw[<-bY.1]at this;rw[QD,QB this];rfl
  rw[e0];refine .sl (λi j=>xs.getD (i * sz+j) undef) ?_ hn tL fI (λ_=>rfl) aJ.1 (λi j hi hj=>h1 _ (QL (nZ i j hi hj))) (λi j hi hj=>⟨?_,?_⟩) (λi j s hi hs=>?_)
  .cases hb:nl.den with
   |false=>rfl
   |true=>rw[eQ.1 hb]at e0;simp at e0
  .simp only[XF]
   rw[cell_of_row w b _ cur ty fr gU,<-nZ i j hi hj,<-bW,QN,QC (eH i j hi hj)];simp
  .simp only[XF]
   exact .inr ⟨rfl,eH i j hi hj⟩
  .have hj:j<sz:=by rw[<-aJ.1 i hi];exact (List.getElem?_eq_some_iff.1 hs).1
   exact (aJ.2 i j s _ hi hs (nZ i j hi hj)).mono (λb o h=>.inl h) (λ_ _ _=>rfl)
theorem Zs(hc:A4 P cx){src dst e:TypeId}{x:Operand}(ho:o.op=.convert src dst x){ts td te:TI}(kT:look src cx.tt=some ts)(rG:ts.k=.slice e)(pY:look dst cx.tt=some td)(kF:td.k=.string)(hle:look e cx.tt=some te)(fP:te.k=.int .u8)
  {nl:BT} {n g n0 g0:ST} {h:Nat} {ty:TypeId} {f:Nat->List SV} (hv:rd cx σ T x=some (.cR nl n g h)) (hh:nth σ.hp h=some (.vec ty n0 g0 1 f)) (h0:n.den=n0.den) (lS:g.den=g0.den) {r:List UInt8} (hr:Fz n0.den f/\Ky r n0.den f):Local P cx.gl σ T o ⟨.str r,[],[h],[]⟩:=by
 intro B N E a w ff hf hg st ag bL hT;obtain⟨hb,hr⟩:=hr;have iR:=Ab hv hg st (Ak ag (by simp[ho,Op.operands])) hT;have bD:=st.heap h;rw[Bx bL (List.mem_singleton.2 rfl) hh]at bD;obtain⟨a1,c1,m,G,xs,k1,k2,k3,kg,k4,k5,k6⟩:=bD;obtain⟨rI,_⟩:=Mi iR k1 k2 (by rw[h0,k3]) kg lS;refine Ad st (v:=.string (bytes r)) ?_ rfl (.ro (.str rfl));simp only[execOp,ho,Sem.run_bind];have jM:=(hc.ti kT).slice rG;have gk:=(hc.ti pY).string kF;have gj:=(hc.ti hle).int fP;rw[rI];have uK:r.length=m:=by have:=hr.len;omega
 rcases k2.2 with⟨e0,e1⟩|⟨b,cap,cur,fr,e0,gU,cI,tL,fI,cY,bW⟩
 .have:r=[]:=XH (by omega)
  subst this;rw[e0];simp[convert,run_underlying jM,run_underlying gk,run_underlying gj,Conv.bytesToString,bytes];rfl
 .have:=run_convert_bytes_back (P:=P) w src dst e ⟨b,0,none⟩ cap r jM gj gk (λj hj=>by
   have uS:j<m:=by omega
   obtain⟨t,ht,_⟩:=hb.h j (by omega);have e1:=hr.row j t (by omega) ht;have xx:j<xs.length:=by rw[k2.1];omega
   obtain⟨xj,xy⟩:∃xj,xs[j]?=some xj:=⟨_,QB xx⟩;have bP:=k5.2 j 0 (.int .u8 t) xj uS (by rw[ht];rfl) (by simpa using xy);have yV:xj=.int .u8 t.den:=(Rel.ro (E:=E) bP).aT;rw[QD,QB hj]at e1;simp only[XD]at e1;rw[add_lit,XF,cell_of_row w b j cur ty fr gU];rw[<-bW,QN,QC (by omega),QZ]at xy;rw[e1,xy,yV])
  rw[uK]at this;rw[e0,this];rfl
theorem Qj(hc:A4 P cx){c:Call}(ho:o.op=.call c)(aR:c.callee=.builtin .append){x y:Operand}{t e sz:Nat}{te ti:TI}(hx:c.args.toList=[x,y])(ht:c.argTypes.toList=[t,t])(aC:look t cx.tt=some ti)(hk:ti.k=.slice e)(hle:look e cx.tt=some te)(bC:te.size=sz)(hz:0<sz)
  {nl:BT} {n n0 g0 g1:ST} {f:Nat->List SV} {h:Nat} (mo:rd cx σ T x=some (.cR nl n g0 h)) (hh:nth σ.hp h=some (.vec e n0 g1 sz f)) {s:SV} (mm:rd cx σ T y=some s) {m:ST} {g:Nat->List SV} (aJ:rowOf sz s=some (m,g))
  (hb:n.den=n0.den/\(n.den+m.den) * te.bytes<=140737488355328/\n.den+m.den<=9223372036854775807) (lS:g0.den=g1.den)
  {f':Nat->List SV} {n' g':Int} (yU:n'=n.den+m.den) (nF:g'=g0.den+1) (fV:∀i:Nat,(i:Int)<n.den->f' i=f i) (dA:∀i j:Nat,(i:Int)=n.den+j->(j:Int)<m.den->f' i=g j):
  Local P cx.gl σ T o ⟨.cR (Wi nl (Pk .eql m (.l 0))) (.a n') (.a g') h,[.put h (.vec e (.a n') (.a g') sz f')],[h],[]⟩:=by
 intro B N E a w ff hf hg st ag bL hT K' Q hK;have mx:x∈o.op.operands.toList:=by simp[ho,Op.operands,Call.operands,aR,hx]
 have my:y∈o.op.operands.toList:=by simp[ho,Op.operands,Call.operands,aR,hx]
 have iR:=Ab mo hg st (Ak ag mx) hT;have uJ:=Ab mm hg st (Ak ag my) hT;obtain⟨k,news,r1,r2,r3,r4,r5⟩:=Jm aJ uJ;have bD:=st.heap h;have cB:=Bx bL (List.mem_singleton.2 rfl) hh;rw[cB]at bD;obtain⟨a0,c0,nn,G,xs,k1,k2,k3,kg,k4,k5,k6⟩:=bD;obtain⟨hv,eQ⟩:=Mi iR k1 k2 (by rw[hb.1,k3]) kg lS;have gL:n.den=(nn:Int):=by rw[hb.1,k3]
 have jA:(nn+k) * te.bytes<=140737488355328:=by
  have:=hb.2.1;rw[gL,r1]at this;have h:(((nn+k) * te.bytes:Nat):Int)<=140737488355328:=by rw[YX,UT];exact this
  omega
 obtain⟨v',w',l1,l2,l3,l4,l5,l6⟩:=Si (P:=P) (ty:=o.type) ((hc.ti aC).slice hk) (hc.ti hle) bC hz k2 r3 (by have:=hb.2.2;rw[gL,r1]at this;simp only[maxLen];omega) jA;have mH:∀u∈xs++news,u.oneCell'=true:=λu hu=>by
  rcases List.mem_append.1 hu with hu|hu
  .exact k4 u hu
  .exact r3.2.1 u hu
 have nE:(ST.a n').den=((nn+k:Nat):Int):=by simp only[ST.den,yU,gL,r1];omega
 have CX:(ST.a g').den=((G+1:Nat):Int):=by simp only[ST.den,nF,lS,kg];omega
 have fA:F9 E w f' (nn+k) sz (xs++news):=by
  refine⟨λi hi=>?_,λi j s u hi hs hu=>?_⟩
  .by_cases fA:i<nn
   .rw[fV i (by omega)];exact k5.1 i fA
   .rw[dA i (i-nn) (by omega) (by omega)];exact r4 (i-nn) (by omega)
  .by_cases fA:i<nn
   .rw[fV i (by omega)]at hs
    have hj:j<sz:=by rw[<-k5.1 i fA];exact (List.getElem?_eq_some_iff.1 hs).1
    have:(i+1) * sz<=nn * sz:=QR _ fA;rw[XM]at this;rw[QM (by rw[k2.1];omega)]at hu;exact k5.2 i j s u fA hs hu
   .rw[dA i (i-nn) (by omega) (by omega)]at hs
    have e1:i * sz+j=nn * sz+((i-nn) * sz+j):=by
     have:i * sz=nn * sz+(i-nn) * sz:=by rw[<-XM];congr 1;omega
     omega
    rw[QP (by rw[k2.1];omega),k2.1,e1,ZL]at hu;exact r5 (i-nn) j s u (by omega) hs hu
 obtain⟨a1,c1,e0⟩:=l5;subst e0;obtain⟨E',x1,x2,x3,x4⟩:=Aha (h:=h) (e:=e) (sz:=sz) st cB k1 k6 l2 mH l4 nE CX fA;unfold Oper.wp;rw[D1 ho aR hx ht (a:=a) (w:=w) (w':=w') (v':=.slice a1 (nn+k) c1) (by rw[hv];exact l1)];refine hK _ w' E' x1 x2 x3 (.cR ⟨a1,nn+k,c1,rfl,nE,?_⟩ ⟨a1,G+1,c1,x4,by rw[CX];exact ZE _,λ_=>⟨_,nE,rfl⟩⟩);have qN:(Value.slice a1 (nn+k) c1=.slice none 0 0)↔a1=none:=by
  constructor
  .intro h;simp only[Value.slice.injEq]at h;exact h.1
  .rintro rfl
   rcases l2.2 with⟨h1,_⟩|⟨g,cap,cur,fr,h1,_⟩
   .exact h1
   .simp at h1
 rw[<-qN,Md,H9,l3];simp only[B6,ST.den,r1,QE,QO];rw[eQ];constructor
 .rintro⟨h1,h2⟩;exact⟨h1,by omega⟩
 .rintro⟨h1,h2⟩;exact⟨h1,by omega⟩
theorem W3(hc:A4 P cx){c:Call}(ho:o.op=.call c)(aR:c.callee=.builtin .len){x:Operand}{t:Nat}{ti:TI}(hx:c.args.toList=[x])(ht:c.argTypes.toList=[t])(hl:look t cx.tt=some ti){e:TypeId}(hk:ti.k=.slice e)
  {nl:BT} {n g:ST} {h:Nat} (hv:rd cx σ T x=some (.cR nl n g h)):Local P cx.gl σ T o ⟨.int .i64 n,[],[],[]⟩:=by
 intro B N E a w ff dA hg st ag bL hT;have dN:x∈o.op.operands.toList:=by simp[ho,Op.operands,Call.operands,aR,hx]
 obtain⟨⟨a0,m,c0,e3,e4,_⟩,_⟩:=(Ab hv hg st (Ak ag dN) hT).kH;have e1:c.args=#[x]:=XV (by simpa using hx);have e2:c.argTypes=#[t]:=XV (by simpa using ht);have aW:=Gv hc hl hk (w:=w) (a:=a0) (m:=m) (c:=c0) (ty:=o.type);refine Ad st (v:=.int .i64 m) ?_ rfl (.int e4);simp[execOp,ho,resolve,aR,e1,e2,invoke,builtin,e3,aW]
theorem Vf(w:World)(r:Option Nat):w.grownBy w r:=⟨rfl,rfl,rfl,QK _,λ_ _ _=>rfl⟩
theorem Sn(hc:A4 P cx){t e sz:Nat}{ti:TI}(hl:look t cx.tt=some ti)(hk:ti.k=.slice e){te:TI}(hle:look e cx.tt=some te){x:Operand}{lo hi:Option Operand}(ho:o.op=.slice t x lo hi none){nl:BT}{n n0 g0 g1:ST}{f:Nat->List SV}{h:Nat}
  (hv:rd cx σ T x=some (.cR nl n g0 h)) (hh:nth σ.hp h=some (.vec e n0 g1 sz f)) (jZ:Er cx σ T lo=some none) {k:IntKind} {b:ST} (pG:Er cx σ T hi=some (some (.int k b)))
  (h0:n.den=n0.den) (lS:g0.den=g1.den) (lF:0<=b.den/\b.den<=n.den) {g':Int} (nF:g'=g0.den+1) (_hT0:Bk (Ac σ.gm T)):Local P cx.gl σ T o ⟨.cR nl (.a b.den) (.a g') h,[.put h (.vec e (.a b.den) (.a g') sz f)],[h],[]⟩:=by
 intro B N E a w ff dA hg st ag bL hT K' Q hK;have iR:=Ab hv hg st (Ak ag (by simp[ho,Op.operands])) hT;have h1:=Dx hg st hT jZ (λy hy=>Ak ag (by subst hy;simp[ho,Op.operands])) (d:=.l 0) (t:=.l 0) rfl;have h2:=Dx hg st hT pG (λy hy=>Ak ag (by subst hy;simp[ho,Op.operands])) (d:=.l 0) (t:=b) rfl;have dv:hi≠none:=by rintro rfl;simp[Er]at pG
 have dj:lo=none:=by
  cases lo with
  |none=>rfl
  |some y =>
   simp only[Er]at jZ
   split at jZ<;>simp at jZ
 subst dj;have sY:∃k,hi.map a.eval=some (.int k b.den):=by
  rcases h2 with⟨rfl,_⟩|⟨y,k,rfl,e⟩
  .exact absurd rfl dv
  .exact⟨k,by simp[e]⟩
 have bD:=st.heap h;have cB:=Bx bL (List.mem_singleton.2 rfl) hh;rw[cB]at bD;obtain⟨a0,c0,m,G,xs,k1,k2,k3,kg,k4,k5,k6⟩:=bD;obtain⟨xY,eQ⟩:=Mi iR k1 k2 (by rw[h0,k3]) kg lS;have hu:=(hc.ti hl).slice hk;have hS:=(hc.ti hle).sizeOf w;have IY:n.den=(m:Int):=by rw[h0,k3]
 have jG:m<=c0:=by
  rcases k2.2 with⟨e1,e2⟩|⟨g,cap,cur,fr,e1,_,_,e2,_⟩
  .omega
  .simp only[Value.slice.injEq]at e1;omega
 have bX:=Gf (P:=P) (sl:=true) (len:=m) (cap:=c0) (lo:=none) (hi:=hi.map a.eval) (l:=0) (h:=b.den) (w:=w) (.inl ⟨rfl,rfl⟩) (.inr sY) (ZE _) lF.1 (by omega) jG;have aW:(execOp a.eval o).run P w=.ok (.value (.slice a0 b.den.toNat c0)) w:=by
  cases a0 with
  |none =>
   have:m=0/\c0=0:=by
    rcases k2.2 with⟨e1,e2⟩|⟨g,cap,cur,fr,e1,_⟩
    .simp only[Value.slice.injEq,true_and]at e1;exact e1
    .simp at e1
   obtain⟨rfl,rfl⟩:=this;have JU:b.den=0:=by omega
   simp[execOp,ho,xY,Instr.sliceAt,Instr.slice,run_underlying hu,bX,hS,JU]
  |some ad =>
   have vB:ad.add 0=ad:=by
    unfold Addr.add
    split<;>simp_all
   by_cases nA:c0=0
   .subst nA
    simp[execOp,ho,xY,Instr.sliceAt,Instr.slice,run_underlying hu,bX,hS]
   .simp[execOp,ho,xY,Instr.sliceAt,Instr.slice,run_underlying hu,bX,hS,vB,nA]
 have hbn:((b.den.toNat:Nat):Int)=b.den:=by omega
 have mU:b.den.toNat<=m:=by omega
 have cJ:Cu w false e sz (.slice a0 b.den.toNat c0) b.den.toNat (xs.take (b.den.toNat * sz)):=by
  have hmul:b.den.toNat * sz<=m * sz:=QR _ mU;refine⟨by rw[QW,k2.1];omega,?_⟩;rcases k2.2 with⟨e1,e2⟩|⟨g,cap,cur,fr,e1,e2,e3,e4,e5,e6,e7⟩
  .simp only[Value.slice.injEq]at e1
   obtain⟨rfl,_,rfl⟩:=e1;exact .inl ⟨by simp;omega,by omega⟩
  .simp only[Value.slice.injEq]at e1
   obtain⟨rfl,_,rfl⟩:=e1;refine .inr ⟨g,c0,cur,fr,rfl,e2,e3,by omega,e5,e6,?_⟩;rw[<-e7,UW];congr 1;omega
 obtain⟨E',x1,x2,x3,x4⟩:=Aha (h:=h) (e:=e) (sz:=sz) (w':=w) (nt:=.a b.den) (gt:=.a g') (f':=f) st cB k1 k6 cJ (λu hu=>k4 u (UP hu)) (.inl ⟨by cases a0<;>rfl,Vf w _⟩) (by simp only[ST.den];omega) (by simp only[ST.den,nF,lS,kg];omega)
  ⟨λi hi=>k5.1 i (by omega),λi j s u hi hs hu=>k5.2 i j s u (by omega) hs (by
   rw[QN]at hu
   split at hu
   .exact hu
   .cases hu)⟩
 unfold Oper.wp;rw[aW];refine hK _ w E' x1 x2 x3 (.cR ⟨a0,b.den.toNat,c0,rfl,by simp only[ST.den];omega,?_⟩ ⟨a0,G+1,c0,x4,by simp only[ST.den,nF,lS,kg];omega,λ_=>⟨_,by simp only[ST.den];omega,rfl⟩⟩);obtain⟨⟨a',k',c',e1,e2,e3⟩,_⟩:=iR.kH;rw[xY]at e1;simp only[Value.slice.injEq]at e1;obtain⟨rfl,_,_⟩:=e1;exact e3
theorem Uy(hc:A4 P cx){t len e:Nat}{ps:Array (Nat×Operand)}(ho:o.op=.buildSlice t len ps){ti te:TI}(aC:look t cx.tt=some ti)(hk:ti.k=.slice e)(hle:look e cx.tt=some te){vs:List (Nat×SV)}(hv:Gr cx σ T ps.toList=some vs)(h1:Ov vs=true)
  {cs:List SV} (hf:Am.eT te.size (Am.lM len te.zero) vs=some cs) (gP:An (.agg (loose.aH (norm.aO dn cs)))=true) (hz:0<te.size) (pH:len * te.size<=16777216):
  Local P cx.gl σ T o ⟨.bV (.l false) (.l len) (Ai σ.hp),[.put (Ai σ.hp) (.own e (.l len) te.size true λk=>takeN te.size (Db (k * te.size) (loose.aH (norm.aO dn cs))))],[],[]⟩:=by
 intro B N E a w ff dA hg st ag bL hT K' Q hK;have fC:∀p∈ps.toList,∀s∈C4 p.2,ff s=Bf σ s:=λp hp=>Ak ag (by simp only[ho,Op.operands];simp;exact⟨p.1,by simpa using hp⟩);obtain⟨h2,h3⟩:=E4 hg st hT ps.toList vs fC hv;obtain⟨z,bp,iQ,sh⟩:=(hc.ti hle).zero E w;have jX:=(hc.ti hle).qE;have dZ:z.cells.size=te.size:=by have:=iQ.1;rw[jX]at this;simpa using this.symm
 have jM:∀(j:Nat) (p:Nat×SV) (q:Nat×Value),vs[j]?=some p->((ps.map λ(x:Nat×Operand)=>(x.1,a.eval x.2)).toList)[j]?=some q->p.1=q.1/\Rel E w p.2 q.2:=by
  intro j p q hp hq;rw[ZM,QS]at hq;cases uP:ps.toList[j]? with
  |none=>rw[uP]at hq;cases hq
  |some x =>
   rw[uP]at hq;simp only[QQ,Option.some.injEq]at hq;subst hq;exact h3 j p x hp uP
 -- tH zero cells
 let C0:List Value:=(List.range (len * te.size)).map λq=>z.cells.toList.getD (q % te.size) undef
 have KE:A8 E w (Am.lM len te.zero) C0:=by
  refine⟨by rw[Ez,jX];simp[C0],λi s v hs hv=>?_⟩;have aC:i<len * te.size:=by
   have:=(List.getElem?_eq_some_iff.1 hs).1
   rwa [Ez,jX]at this
  rw[Ol _ _ (by rw[jX];exact aC),jX]at hs;simp[C0,aC]at hv;have hm:i % te.size<z.cells.size:=by rw[dZ];exact YD _ hz
  refine iQ.2 (i % te.size) s v hs ?_;rw[<-hv];simp[hm]
 have fc:∀u∈C0,u.oneCell'=true:=by
  intro u hu;simp only[C0,List.mem_map,List.mem_range]at hu;obtain⟨q,_,rfl⟩:=hu;have hm:q % te.size<z.cells.toList.length:=by simp[dZ];exact YD _ hz
  rw[QD,QB hm];exact sh _ (XO hm)
 obtain⟨C',c1,c2,c3⟩:=Iu vs (ps.map λ(x:Nat×Operand)=>(x.1,a.eval x.2)).toList _ cs C0 (by simp[h2]) jM (Jq h1) KE fc hf;have pX:C'.length=len * te.size:=by
  rw[<-c2.1];have:∀(vs:List (Nat×SV)) (cs dI:List SV),Am.eT te.size cs vs=some dI->dI.length=cs.length:=by
   intro vs
   induction vs with
   |nil=>intro cs dI h;simp[Am.eT]at h;rw[h]
   |cons p vs ih =>
    intro cs dI h;obtain⟨i,v⟩:=p;simp only[Am.eT]at h
    split at h
    .rw[ih _ _ h,Dg]
    .cases h
  rw[this vs _ cs hf,Ez,jX]
 have aW:(Instr.buildSlice t len (ps.map λ(x:Nat×Operand)=>(x.1,a.eval x.2))).run P w=.ok (.slice (some ⟨w.heap.size,0,none⟩) len len) (w.alloc (.cells ⟨C'⟩ e)):=by
  have hu:=(hc.ti aC).slice hk;have hS:=(hc.ti hle).sizeOf w;have nB:((Array.range (len * te.size)).map (λq=>z.cells[q % z.cells.size]!))=(⟨C0⟩:Array Value):=by
   apply XV;simp only[ZM,Array.toList_range,C0];refine UC λq _=>?_;rw[dZ,QD,UG,XI,QZ];have hm:q % te.size<z.cells.size:=by rw[dZ];exact YD _ hz
   simp[hm]
  have tB:¬(16777216<len * te.size):=by omega
  simp only[Instr.buildSlice,Sem.run_bind,run_underlying hu,Result.andThen_ok,hS,gt_iff_lt]
  by_cases h0:len * te.size=0
  .have fa:C0=[]:=by simp[C0,h0]
   rw[fa]at c1;rw[ZM]at c1;have dz:Array.map (λ_=>(default:Value)) (Array.range 0)=⟨[]⟩:=by simp
   simp[h0,newRow,newObj]
   first|rw[dz,c1]|(simp at c1 ⊢;rw[c1])
   simp[Sem.run]
  .rw[ZM]at c1
   simp[h0,tB,bp,nB,newRow,newObj];rw[c1];simp[Sem.run]
 have bN:dA (Ai σ.hp)=.fresh:=by
  have:=bL.fR _ (List.mem_singleton.2 rfl);simp only[fx,Aq,Aj,Ag]at this;rw[Ag,this];simp
 have oD:len<=maxLen:=by
  simp only[maxLen];have:len<=len * te.size:=Nat.le_mul_of_pos_right _ hz;omega
 have mB:=World.ownsRow_lit w (base:=0) (e:=e) (size:=te.size) ⟨C'⟩ len (XX _) oD (by simpa using pX);have cJ:Cu (w.alloc (.cells ⟨C'⟩ e)) true e te.size (.slice (some ⟨w.heap.size,0,none⟩) len len) (0+len) C':=by rw[XF];exact X0 true (by simpa using mB)
 have mq:∀c∈loose.aH (norm.aO dn cs),An c=true:=by
  simp only[An]at gP;exact (C7 _).1 gP
 have cX:A8 E w (loose.aH (norm.aO dn cs)) C':=by
  rw[Ci,Co];exact (c2.map _ λs v _ h=>h.norm).map _ λs v _ h=>h.loose
 have bM:∀(i j:Nat) (s:SV),(takeN te.size (Db (i * te.size) (loose.aH (norm.aO dn cs))))[j]?=some s->(loose.aH (norm.aO dn cs))[i * te.size+j]?=some s:=by
  intro i j s hs;rw[Ba,Bl,QN]at hs
  split at hs
  .rwa [XG]at hs
  .cases hs
 have fA:F9 E w (λk=>takeN te.size (Db (k * te.size) (loose.aH (norm.aO dn cs)))) (0+len) te.size C':=by
  rw[XF];refine⟨λj hj=>?_,λi j s u hi hs hu=>?_⟩
  .show (takeN te.size (Db (j * te.size) _)).length=te.size
   rw[Ba,Bl,QW,QX,cX.1,pX];have:(j+1) * te.size<=len * te.size:=QR _ hj;rw[XM]at this;omega
  .have cD:=bM i j s hs
   exact (cX.2 _ s u cD hu).fK (mq s (QL cD)) (c3 u (QL hu))
 obtain⟨E',x1,x2,x3,x4,x5⟩:=Ip (h:=Ai σ.hp) (e:=e) (sz:=te.size) (n:=0) (m:=len) st (.inl ⟨bN,rfl⟩) ⟨_,_,rfl⟩ cJ c3 (.inr ⟨rfl,World.grownBy_alloc w _ none⟩) (λh=>absurd bN h) (nt':=.l len) (by simp[ST.den]) fA;unfold Oper.wp;have:(execOp a.eval o).run P w=.ok (.value (.slice (some ⟨w.heap.size,0,none⟩) len len)) (w.alloc (.cells ⟨C'⟩ e)):=by
  simp only[execOp,ho,Sem.run_bind];rw[aW];rfl
 rw[this];exact hK _ _ E' x1 x2 x3 (.bV ⟨_,len,_,rfl,rfl,by simp[BT.den]⟩ ⟨_,len,_,by rw[x4],by simp[ST.den],λ_=>rfl⟩)
theorem M4(hc:A4 P cx){t e:Nat}{ti:TI}(hl:look t cx.tt=some ti)(hk:ti.k=.slice e){te:TI}(hle:look e cx.tt=some te){a0:Option Addr}{m c0:Nat}{lo hi:Option Value}{l h:Nat}{w:World}
  (hb:(Instr.sliceBounds true m c0 lo hi none).run P w=.ok (l,h,c0) w):(Instr.sliceAt t (.slice a0 m c0) lo hi none).run P w=.ok (.slice (if c0=l then a0 else a0.map (·.add (l * te.size))) (h-l) (c0-l)) w:=by
 have hu:=(hc.ti hl).slice hk;have hS:=(hc.ti hle).sizeOf w;simp[Instr.sliceAt,Instr.slice,run_underlying hu,hb,hS]
theorem X1{w:World}{gr:Bool}{e:TypeId}{sz m c0:Nat}{a0:Option Addr}{xs:List Value}(k2:Cu w gr e sz (.slice a0 m c0) m xs):m<=c0:=by
 rcases k2.2 with⟨e1,e2⟩|⟨g,cap,cur,fr,e1,_,_,e2,_⟩
 .omega
 .simp only[Value.slice.injEq]at e1;omega
theorem O0(hc:A4 P cx){t e sz:Nat}{ti:TI}(hl:look t cx.tt=some ti)(hk:ti.k=.slice e){te:TI}(hle:look e cx.tt=some te){x:Operand}{lo hi:Option Operand}(ho:o.op=.slice t x lo hi none){nl:BT}{n n0:ST}{gr:Bool}{f:Nat->List SV}{h:Nat}
  (hv:rd cx σ T x=some (.bV nl n h)) (hh:nth σ.hp h=some (.own e n0 sz gr f)) (jZ:Er cx σ T lo=some none) {k:IntKind} {b:ST} (pG:Er cx σ T hi=some (some (.int k b)))
  (h0:n.den=n0.den) (lF:0<=b.den/\b.den<=n.den) (_hT0:Bk (Ac σ.gm T)):Local P cx.gl σ T o ⟨.sl nl (.a b.den) sz f,[.put h .gone],[h],[]⟩:=by
 intro B N E a w ff dA hg st ag bL hT K' Q hK;have iR:=Ab hv hg st (Ak ag (by simp[ho,Op.operands])) hT;have h2:=Dx hg st hT pG (λy hy=>Ak ag (by subst hy;simp[ho,Op.operands])) (d:=.l 0) (t:=b) rfl;have dv:hi≠none:=by rintro rfl;simp[Er]at pG
 have dj:lo=none:=by
  cases lo with
  |none=>rfl
  |some y =>
   simp only[Er]at jZ
   split at jZ<;>simp at jZ
 subst dj;have sY:∃k,hi.map a.eval=some (.int k b.den):=by
  rcases h2 with⟨rfl,_⟩|⟨y,k,rfl,e⟩
  .exact absurd rfl dv
  .exact⟨k,by simp[e]⟩
 have bD:=st.heap h;have cB:=Bx bL (List.mem_singleton.2 rfl) hh;rw[cB]at bD;obtain⟨v,m,xs,k1,kz,k2,k3,k4,k5,k6⟩:=bD;obtain⟨xY,eQ⟩:=Gs iR k1 k2 k3 h0;obtain⟨a0,c0,rfl⟩:=k2.shape;have IY:n.den=(m:Int):=by rw[h0,k3]
 have jG:=X1 k2;have bX:=Gf (P:=P) (sl:=true) (len:=m) (cap:=c0) (lo:=none) (hi:=hi.map a.eval) (l:=0) (h:=b.den) (w:=w) (.inl ⟨rfl,rfl⟩) (.inr sY) (ZE _) lF.1 (by omega) jG;have mR:(if c0=0 then a0 else a0.map (·.add (0 * te.size)))=a0:=by
  split
  .rfl
  .rcases k2.2 with⟨e1,_⟩|⟨g,cap,cur,fr,e1,_⟩
   .simp only[Value.slice.injEq]at e1;rw[e1.1];rfl
   .simp only[Value.slice.injEq]at e1;rw[e1.1];simp[add_lit]
 have aW:(execOp a.eval o).run P w=.ok (.value (.slice a0 b.den.toNat c0)) w:=by
  have:=M4 hc hl hk hle (a0:=a0) bX;have HY:(if c0=(0:Int).toNat then a0 else a0.map (·.add ((0:Int).toNat * te.size)))=a0:=mR;rw[HY]at this;simp only[execOp,ho,xY,Sem.run_bind,YW];rw[this];rfl
 have mU:b.den.toNat<=m:=by omega
 have cJ:Cu w gr e sz (.slice a0 b.den.toNat c0) b.den.toNat (xs.take (b.den.toNat * sz)):=by
  have hmul:b.den.toNat * sz<=m * sz:=QR _ mU;refine⟨by rw[QW,k2.1];omega,?_⟩;rcases k2.2 with⟨e1,e2⟩|⟨g,cap,cur,fr,e1,e2,e3,e4,e5,e6,e7⟩
  .simp only[Value.slice.injEq]at e1
   obtain⟨rfl,_,rfl⟩:=e1;exact .inl ⟨by simp;omega,by omega⟩
  .simp only[Value.slice.injEq]at e1
   obtain⟨rfl,_,rfl⟩:=e1;refine .inr ⟨g,c0,cur,fr,rfl,e2,e3,by omega,e5,e6,?_⟩;rw[<-e7,UW];congr 1;omega
 have WQ:nl.den=true↔Value.slice a0 b.den.toNat c0=.slice none 0 0:=by
  rw[eQ];constructor
  .intro e1
   simp only[Value.slice.injEq]at e1 ⊢;exact⟨e1.1,by omega,e1.2.2⟩
  .intro e1
   simp only[Value.slice.injEq]at e1 ⊢;refine⟨e1.1,?_,e1.2.2⟩;have:=e1.2.2;omega
 have aJ:F9 E w f b.den.toNat sz (xs.take (b.den.toNat * sz)) :=
  ⟨λi hi=>k5.1 i (by omega),λi j s u hi hs hu=>k5.2 i j s u (by omega) hs (by
   rw[QN]at hu
   split at hu
   .exact hu
   .cases hu)⟩
 have iF:=Zi (nl:=nl) (n:=.a b.den) rfl WQ cJ (by simp only[ST.den];omega) (λu hu=>k4 u (UP hu)) aJ;have aA:=st.base
 let E':Env:=⟨E.β,E.τ,E.O,E.κ,E.ζ,λb' o=>E.I b' o\/((Value.slice a0 b.den.toNat c0).ownBlock=some b'/\o<b.den.toNat * sz)⟩
 have hx:Ext E w E' w:=⟨λ_ _ h=>h,λ_ _ h=>.inl h,λ_ _ h=>h,λ_ _ h=>h,λ_ _ h=>.inl h,λ_ _ _=>rfl⟩;have tA:∀b',(Value.slice a0 b.den.toNat c0).ownBlock=some b'->E.O b'=some h:=λb' hb=>(k6 b' (by cases a0<;>exact hb)).1;unfold Oper.wp;rw[aW];refine hK _ w E' hx ⟨aA.os,aA.tape,aA.output,aA.size,aA.dY,λb' o hi=>?_,λb' o hi=>?_,λb' o hi=>?_,aA.cS,aA.cO.ext hx⟩ (λk=>?_) (.ro iF)
 .obtain⟨i1,i2⟩:=aA.I0 b' o hi;exact⟨.inl i1,i2⟩
 .rcases hi with hi|⟨hb,_⟩
  .exact aA.dP b' o hi
  .exact Bd aA (tA b' hb)
 .rcases hi with hi|⟨hb,_⟩
  .exact aA.cE b' o hi
  .exact .inr (aA.cS b' h (tA b' hb)).2
 .show bR E' w k (aU dA h .gone k)
  by_cases e:k=h
  .subst e
   simp only[aU,QC]
   trivial
  .simp only[aU,QA e]
   refine bR.keep hx (st.heap k) rfl rfl rfl rfl λb' hO=>⟨hO,rfl,λo hi=>?_⟩;rcases hi with hi|⟨hb,_⟩
   .exact hi
   .rw[tA b' hb]at hO;exact absurd (Option.some.inj hO).symm e
theorem Qf(hc:A4 P cx){t e sz:Nat}{ti:TI}(hl:look t cx.tt=some ti)(hk:ti.k=.slice e)(bC:size? cx e=some sz){x:Operand}{lo hi:Option Operand}(ho:o.op=.slice t x lo hi none){nl:BT}{n n0:ST}{gr:Bool}{e':TypeId}{f:Nat->List SV}{h:Nat}
  (hv:rd cx σ T x=some (.bV nl n h)) (hh:nth σ.hp h=some (.own e' n0 sz gr f)) (pG:Er cx σ T hi=some none) {k:IntKind} {b:ST} (jZ:Er cx σ T lo=some (some (.int k b)))
  (h0:n.den=n0.den) (lF:0<=b.den/\b.den<=n.den):Local P cx.gl σ T o ⟨.kD n b h,[],[h],[]⟩:=by
 intro B N E a w ff dA hg st ag bL hT;have iR:=Ab hv hg st (Ak ag (by simp[ho,Op.operands])) hT;have h2:=Dx hg st hT jZ (λy hy=>Ak ag (by subst hy;simp[ho,Op.operands])) (d:=.l 0) (t:=b) rfl;have dj:lo≠none:=by rintro rfl;simp[Er]at jZ
 have dv:hi=none:=by
  cases hi with
  |none=>rfl
  |some y =>
   simp only[Er]at pG
   split at pG<;>simp at pG
 subst dv;have yF:∃k,lo.map a.eval=some (.int k b.den):=by
  rcases h2 with⟨rfl,_⟩|⟨y,k,rfl,e⟩
  .exact absurd rfl dj
  .exact⟨k,by simp[e]⟩
 have bD:=st.heap h;have cB:=Bx bL (List.mem_singleton.2 rfl) hh;rw[cB]at bD;obtain⟨v,m,xs,k1,kz,k2,k3,k4,k5,k6⟩:=bD;obtain⟨xY,eQ⟩:=Gs iR k1 k2 k3 h0;obtain⟨a0,c0,rfl⟩:=k2.shape;have IY:n.den=(m:Int):=by rw[h0,k3]
 have jG:=X1 k2;obtain⟨te,hle,iI⟩:=bI bC;have bX:=Gf (P:=P) (sl:=true) (len:=m) (cap:=c0) (lo:=lo.map a.eval) (hi:=none) (l:=b.den) (h:=(m:Int)) (w:=w) (.inr yF) (.inl ⟨rfl,rfl⟩) lF.1 (by omega) (ZE _) jG;have aW:=M4 hc hl hk hle (a0:=a0) bX;refine Ad st (v:=RP a0 m c0 sz b.den.toNat) ?_ rfl (.kD ⟨_,_,_,rfl⟩ ⟨a0,m,c0,sz,k1,kz,by omega,λ_=>⟨b.den.toNat,by omega,by omega,rfl⟩⟩);simp only[execOp,ho,xY,Sem.run_bind,YW];rw[aW,<-iI];rfl
theorem S1(hc:A4 P cx){c:Call}(ho:o.op=.call c)(aR:c.callee=.builtin .clear){x:Operand}{t e sz:Nat}{te ti:TI}(hx:c.args.toList=[x])(ht:c.argTypes.toList=[t])(aC:look t cx.tt=some ti)(hk:ti.k=.slice e)(hle:look e cx.tt=some te)(bC:te.size=sz)
  {n n0 aa:ST} {gr:Bool} {f f':Nat->List SV} {h:Nat} (hv:rd cx σ T x=some (.kD n aa h)) (hh:nth σ.hp h=some (.own e n0 sz gr f)) (h0:n.den=n0.den) (gP:An (.agg te.zero)=true)
  (fV:∀i:Nat,(i:Int)<aa.den->f' i=f i) (fB:∀i:Nat,aa.den<=(i:Int)->f' i=te.zero) (_hT0:Bk (Ac σ.gm T)):Local P cx.gl σ T o ⟨.aI [],[.put h (.own e n0 sz gr f')],[h],[]⟩:=by
 intro B N E a w ff hf hg st ag bL hT K' Q hK;have mx:x∈o.op.operands.toList:=by simp[ho,Op.operands,Call.operands,aR,hx]
 have iR:=Ab hv hg st (Ak ag mx) hT;have e1:c.args=#[x]:=XV (by simpa using hx);have e2:c.argTypes=#[t]:=XV (by simpa using ht);have cB:=Bx bL (List.mem_singleton.2 rfl) hh;have bD:=st.heap h;rw[cB]at bD;obtain⟨v,m,xs,k1,kz,k2,k3,k4,k5,k6⟩:=bD;obtain⟨_,ad,m',c',cH,t1,t2,t3,t4⟩:=iR.il;rw[k1]at t1;rw[kz]at t2;cases t2;obtain⟨a1,c1,rfl⟩:=k2.shape;simp only[Option.some.injEq,Value.slice.injEq]at t1;obtain⟨rfl,rfl,rfl⟩:=t1;obtain⟨k,q1,q2,q3⟩:=t4 (by rw[h0,k3]);have hu:=(hc.ti aC).slice hk;obtain⟨z,bp,iQ,sh⟩:=(hc.ti hle).zero E w;have jX:=(hc.ti hle).qE;have dZ:z.cells.size=sz:=by have:=iQ.1;rw[jX,bC]at this;simpa using this.symm
 by_cases y6:k=m
 .subst y6
  have aW:(execOp a.eval o).run P w=.ok (.value (.tuple #[])) w:=by
   have:(Builtin.clear_ #[t] o.type #[a.eval x]).run P w=.ok (.tuple #[]) w:=by
    rw[q3];simp only[RP,UH];cases (if c1=k then a1 else a1.map (·.add (k * sz)))<;>simp[Builtin.clear_,run_underlying hu]
   simp[execOp,ho,resolve,aR,e1,e2,invoke,builtin,this]
  obtain⟨E',x1,x2,x3,x4,x5⟩:=Ip (h:=h) (e:=e) (sz:=sz) (n:=k) (m:=0) (w':=w) (f':=f') st (.inr ⟨⟨_,_,_,cB⟩,k1,kz,k6⟩) k2.shape (by simpa using k2) k4
   (.inl ⟨rfl,Vf w _⟩) (λ_ _=>rfl) (nt':=n0) (by simpa using k3) (by
    refine⟨λi hi=>?_,λi j s u hi hs hu=>?_⟩
    .rw[fV i (by omega)];exact k5.1 i hi
    .rw[fV i (by omega)]at hs;exact k5.2 i j s u hi hs hu)
  unfold Oper.wp;rw[aW];exact hK _ w E' x1 x2 x3 (.aI rfl (by simp))
 have mW:k<m:=by omega
 rcases k2.2 with⟨e3,e4⟩|⟨b,cap,cur,fr,e3,gU,cI,tL,fI,cY,bW⟩
 .omega
 simp only[Value.slice.injEq]at e3;obtain⟨rfl,_,rfl⟩:=e3;have mQ:=k2.1;obtain⟨us,jM⟩:∃us,us=(Builtin.zeroCells z.cells (m-k)).toList:=⟨_,rfl⟩;have xZ:us.length=(m-k) * sz:=by rw[jM];simp[Builtin.zeroCells,dZ]
 have HZ:∀q,q<(m-k) * sz->us[q]?=some (z.cells.toList.getD (q % sz) undef):=by
  intro q hq;have yC:0<sz:=by
   rcases YO sz with h|h
   .rw[h]at hq;simp at hq
   .exact h
  have hm:q % sz<z.cells.size:=by rw[dZ];exact YD _ yC
  rw[jM,QZ];simp only[Builtin.zeroCells,dZ,Array.getElem?_map];rw[Array.getElem?_range];simp only[hq,if_true,QQ,Option.some.injEq];rw[QD,UG,XI,QZ];simp[hm]
 have ca:∀u∈us,u.oneCell'=true:=by
  intro u hu;obtain⟨q,hq⟩:=List.mem_iff_getElem?.1 hu;have yk:q<(m-k) * sz:=by rw[<-xZ];exact (List.getElem?_eq_some_iff.1 hq).1
  have yC:0<sz:=by
   rcases YO sz with h|h
   .rw[h]at yk;simp at yk
   .exact h
  have hm:q % sz<z.cells.toList.length:=by simp[dZ];exact YD _ yC
  rw[HZ q yk]at hq;simp only[Option.some.injEq]at hq;rw[<-hq,QD,QB hm];exact sh _ (XO hm)
 have hmul:k * sz+(m-k) * sz=m * sz:=by rw[<-XM];congr 1;omega
 have av3:m * sz<=c1 * sz:=QR _ tL
 let C':Array Value:=(cur.toList.take (k * sz)++us++cur.toList.drop (k * sz+us.length)).toArray
 have mU:k * sz+us.length<=cur.size:=by rw[xZ];omega
 have oI:C'.size=cur.size:=by simp[C'];omega
 have kW:∀q:Nat,C'[q]?=if k * sz<=q/\q<k * sz+us.length then us[q-k * sz]? else cur[q]?:=by
  intro q;have:C'[q]?=(cur.toList.take (k * sz)++us++cur.toList.drop (k * sz+us.length))[q]?:=by simp[C']
  rw[this]
  split
  .rename_i e
   rw[ZJ,QP (by simp;omega),QM (by simp;omega)];congr 1;simp;omega
  .rename_i e
   by_cases hi:q<k * sz
   .rw[ZJ,QM (by simp;omega),QN,QC hi];simp
   .rw[QP (by simp;omega),XG,<-QZ]
    congr 1;simp;omega
 let ys:List Value:=C'.toList.take (m * sz)
 have bq:ys.length=m * sz:=by simp[ys,oI];omega
 have sM:∀q,q<m * sz->ys[q]?=if k * sz<=q then us[q-k * sz]? else xs[q]?:=by
  intro q hq;simp only[ys];rw[QN,QC hq,QZ,kW]
  by_cases h1:k * sz<=q
  .rw[QC ⟨h1,by rw[xZ];omega⟩,QC h1]
  .rw[QA (λh=>h1 h.1),QA h1,<-bW,QN,QC hq];simp
 have zd:fr=(0,0)\/cur.size<=fr.1:=by
  rcases cI with h|⟨_,h⟩
  .exact .inl h
  .rw[h];exact .inr (QK _)
 have rD:=De (P:=P) b (k * sz) e fr us 0 cur w gU zd (by simpa using mU) ca;simp only[ZB]at rD;have aW:(execOp a.eval o).run P w=.ok (.value (.tuple #[])) (w.setRow b C'):=by
  have:(Builtin.clear_ #[t] o.type #[a.eval x]).run P w=.ok (.tuple #[]) (w.setRow b C'):=by
   rw[q3];have bA:c1≠k:=by omega
   obtain⟨d,hd⟩:∃d,m-k=d+1:=⟨m-k-1,by omega⟩;have yR:(Builtin.zeroCells z.cells (d+1)).toList=us:=by rw[jM,hd]
   simp only[RP,QA bA,QQ,add_lit,XF,hd];simp[Builtin.clear_,run_underlying hu,bp,yR,rD,C']
  simp[execOp,ho,resolve,aR,e1,e2,invoke,builtin,this]
 have mq:∀c∈te.zero,An c=true:=by
  simp only[An]at gP;exact (C7 _).1 gP
 have aJ:F9 E w f' m sz ys:=by
  refine⟨λi hi=>?_,λi j s u hi hs hu=>?_⟩
  .by_cases yG:i<k
   .rw[fV i (by omega)];exact k5.1 i hi
   .rw[fB i (by omega),jX,bC]
  .have hj:j<sz:=by
    by_cases yG:i<k
    .rw[fV i (by omega)]at hs
     rw[<-k5.1 i hi];exact (List.getElem?_eq_some_iff.1 hs).1
    .rw[fB i (by omega)]at hs
     have:=(List.getElem?_eq_some_iff.1 hs).1;rw[jX,bC]at this;exact this
   have eH:i * sz+j<m * sz:=by
    have:(i+1) * sz<=m * sz:=QR _ hi;rw[XM]at this;omega
   rw[sM _ eH]at hu
   by_cases yG:i<k
   .rw[fV i (by omega)]at hs
    have:(i+1) * sz<=k * sz:=QR _ yG;rw[XM]at this;rw[QA (by omega)]at hu;exact k5.2 i j s u hi hs hu
   .rw[fB i (by omega)]at hs
    have h3:k * sz<=i * sz:=QR _ (by omega);rw[QC (by omega)]at hu;have h4:i * sz+j-k * sz=(i-k) * sz+j:=by
     have:i * sz=k * sz+(i-k) * sz:=by rw[<-XM];congr 1;omega
     omega
    have h5:(i-k) * sz+j<(m-k) * sz:=by omega
    rw[h4,HZ _ h5]at hu;have h6:((i-k) * sz+j) % sz=j:=by rw[Nat.add_comm,Nat.add_mul_mod_self_right,Nat.mod_eq_of_lt hj]
    rw[h6]at hu;simp only[Option.some.injEq]at hu;have hjz:j<z.cells.toList.length:=by simp[dZ];exact hj
    have hzj:z.cells.toList[j]?=some u:=by
     rw[<-hu,QD,QB hjz];rfl
    exact (iQ.2 j s u hs hzj).fK (mq s (QL hs)) (sh u (QL hzj))
 have bu:∀u∈ys,u.oneCell'=true:=by
  intro u hu;obtain⟨q,hq⟩:=List.mem_iff_getElem?.1 hu;have c7:q<m * sz:=by rw[<-bq];exact (List.getElem?_eq_some_iff.1 hq).1
  rw[sM q c7]at hq
  split at hq
  .exact ca u (QL hq)
  .exact k4 u (QL hq)
 have cJ:Cu (w.setRow b C') gr e sz (.slice (some ⟨b,0,none⟩) m c1) (m+0) ys:=by
  refine⟨bq,.inr ⟨b,c1,C',fr,rfl,setRow_heap w b cur C' e fr gU,?_,tL,fI,by rw[oI];exact cY,rfl⟩⟩;rw[oI];exact cI
 obtain⟨E',x1,x2,x3,x4,x5⟩:=Ip (h:=h) (e:=e) (sz:=sz) (n:=m) (m:=0) (f':=f') st (.inr ⟨⟨_,_,_,cB⟩,k1,kz,k6⟩) k2.shape cJ bu
  (.inl ⟨rfl,⟨rfl,rfl,rfl,by simp,λk _ hk=>setRow_other w b k C' (λe=>hk (by rw[e];rfl))⟩⟩) (λ_ _=>rfl) (nt':=n0) (by simpa using k3) (by simpa using aJ)
 unfold Oper.wp;rw[aW];exact hK _ _ E' x1 x2 x3 (.aI rfl (by simp))
end
variable {P:Program} {cx:Cx} {σ:Sy} {T:List Nat} {o:Oper} {K:Out->Prop}
theorem Rel.xI{E:Env}{w:World}{n h:Nat}{v:Value}(hr:Rel E w (.jI n h) v):∃b,E.β h=some b/\n<=maxLen/\v=.slice (some ⟨b,0,none⟩) n n:=by
 cases hr with
 |ro h=>cases h
 |jI hb hn hv=>exact⟨_,hb,hn,hv⟩
theorem Ng{F:Nat->Prop}{i:Int}:∀(n j:Nat),Aer i F n j->∀k:Nat,i=(k:Int)->j<=k->k<j+n->F k
 |0,j,_,k,_,h1,h2=>by omega
 |n+1,j,h,k,hk,h1,h2=>by
  rcases Nat.eq_or_lt_of_le h1 with e|e
  .subst e;exact h.1 ⟨hk.symm⟩
  .exact Ng n (j+1) h.2 k hk e (by omega)
theorem Ahp(cx:Cx)(i:ST):(TQ cx i).den=i.den:=by
 unfold TQ
 split
 .split<;>rfl
 .rfl
theorem Uz(hc:A4 P cx){t len e:Nat}{ps:Array (Nat×Operand)}(ho:o.op=.buildSlice t len ps){ti te:TI}(aC:look t cx.tt=some ti)(hk:ti.k=.slice e)(hle:look e cx.tt=some te){vs:List (Nat×SV)}(hv:Gr cx σ T ps.toList=some vs)(h1:Ov vs=true)
  {cs:List SV} (hf:Am.eT te.size (Am.lM len te.zero) vs=some cs) (hz:0<te.size) (pH:len * te.size<=16777216):
  Local P cx.gl σ T o ⟨.jI len (Ai σ.hp),[.put (Ai σ.hp) (.aF e (loose.aH (norm.aO dn cs)))],[],[]⟩:=by
 intro B N E a w ff dA hg st ag bL hT K' Q hK;have fC:∀p∈ps.toList,∀s∈C4 p.2,ff s=Bf σ s:=λp hp=>Ak ag (by simp only[ho,Op.operands];simp;exact⟨p.1,by simpa using hp⟩);obtain⟨h2,h3⟩:=E4 hg st hT ps.toList vs fC hv;obtain⟨z,bp,iQ,sh⟩:=(hc.ti hle).zero E w;have jX:=(hc.ti hle).qE;have dZ:z.cells.size=te.size:=by have:=iQ.1;rw[jX]at this;simpa using this.symm
 have jM:∀(j:Nat) (p:Nat×SV) (q:Nat×Value),vs[j]?=some p->((ps.map λ(x:Nat×Operand)=>(x.1,a.eval x.2)).toList)[j]?=some q->p.1=q.1/\Rel E w p.2 q.2:=by
  intro j p q hp hq;rw[ZM,QS]at hq;cases uP:ps.toList[j]? with
  |none=>rw[uP]at hq;cases hq
  |some x =>
   rw[uP]at hq;simp only[QQ,Option.some.injEq]at hq;subst hq;exact h3 j p x hp uP
 -- tH zero cells
 let C0:List Value:=(List.range (len * te.size)).map λq=>z.cells.toList.getD (q % te.size) undef
 have KE:A8 E w (Am.lM len te.zero) C0:=by
  refine⟨by rw[Ez,jX];simp[C0],λi s v hs hv=>?_⟩;have aC:i<len * te.size:=by
   have:=(List.getElem?_eq_some_iff.1 hs).1
   rwa [Ez,jX]at this
  rw[Ol _ _ (by rw[jX];exact aC),jX]at hs;simp[C0,aC]at hv;have hm:i % te.size<z.cells.size:=by rw[dZ];exact YD _ hz
  refine iQ.2 (i % te.size) s v hs ?_;rw[<-hv];simp[hm]
 have fc:∀u∈C0,u.oneCell'=true:=by
  intro u hu;simp only[C0,List.mem_map,List.mem_range]at hu;obtain⟨q,_,rfl⟩:=hu;have hm:q % te.size<z.cells.toList.length:=by simp[dZ];exact YD _ hz
  rw[QD,QB hm];exact sh _ (XO hm)
 obtain⟨C',c1,c2,c3⟩:=Iu vs (ps.map λ(x:Nat×Operand)=>(x.1,a.eval x.2)).toList _ cs C0 (by simp[h2]) jM (Jq h1) KE fc hf;have pX:C'.length=len * te.size:=by
  rw[<-c2.1];have:∀(vs:List (Nat×SV)) (cs dI:List SV),Am.eT te.size cs vs=some dI->dI.length=cs.length:=by
   intro vs
   induction vs with
   |nil=>intro cs dI h;simp[Am.eT]at h;rw[h]
   |cons p vs ih =>
    intro cs dI h;obtain⟨i,v⟩:=p;simp only[Am.eT]at h
    split at h
    .rw[ih _ _ h,Dg]
    .cases h
  rw[this vs _ cs hf,Ez,jX]
 have aW:(Instr.buildSlice t len (ps.map λ(x:Nat×Operand)=>(x.1,a.eval x.2))).run P w=.ok (.slice (some ⟨w.heap.size,0,none⟩) len len) (w.alloc (.cells ⟨C'⟩ e)):=by
  have hu:=(hc.ti aC).slice hk;have hS:=(hc.ti hle).sizeOf w;have nB:((Array.range (len * te.size)).map (λq=>z.cells[q % z.cells.size]!))=(⟨C0⟩:Array Value):=by
   apply XV;simp only[ZM,Array.toList_range,C0];refine UC λq _=>?_;rw[dZ,QD,UG,XI,QZ];have hm:q % te.size<z.cells.size:=by rw[dZ];exact YD _ hz
   simp[hm]
  have tB:¬(16777216<len * te.size):=by omega
  simp only[Instr.buildSlice,Sem.run_bind,run_underlying hu,Result.andThen_ok,hS,gt_iff_lt]
  by_cases h0:len * te.size=0
  .have fa:C0=[]:=by simp[C0,h0]
   rw[fa]at c1;rw[ZM]at c1;have dz:Array.map (λ_=>(default:Value)) (Array.range 0)=⟨[]⟩:=by simp
   simp[h0,newRow,newObj]
   first|rw[dz,c1]|(simp at c1 ⊢;rw[c1])
   simp[Sem.run]
  .rw[ZM]at c1
   simp[h0,tB,bp,nB,newRow,newObj];rw[c1];simp[Sem.run]
 have bN:dA (Ai σ.hp)=.fresh:=by
  have:=bL.fR _ (List.mem_singleton.2 rfl);simp only[fx,Aq,Aj,Ag]at this;rw[Ag,this];simp
 have oD:len<=maxLen:=by
  simp only[maxLen];have:len<=len * te.size:=Nat.le_mul_of_pos_right _ hz;omega
 have cX:A8 E w (loose.aH (norm.aO dn cs)) C':=by
  rw[Ci,Co];exact (c2.map _ λs v _ h=>h.norm).map _ λs v _ h=>h.loose
 obtain⟨E',x1,x2,x3,x4⟩:=Zo st bN (ty:=e) (C:=⟨C'⟩) cX c3;unfold Oper.wp;have:(execOp a.eval o).run P w=.ok (.value (.slice (some ⟨w.heap.size,0,none⟩) len len)) (w.alloc (.cells ⟨C'⟩ e)):=by
  simp only[execOp,ho,Sem.run_bind];rw[aW];rfl
 rw[this];exact hK _ _ E' x1 x2 x3 (.jI x4 oD rfl)
theorem K7(hc:A4 P cx){t e sz n:Nat}{ti:TI}(hl:look t cx.tt=some ti)(hk:ti.k=.slice e)(hn:size? cx e=some sz){x y:Operand}(ho:o.op=.indexAddr t x y){h:Nat}{k:IntKind}{i:ST}
  (hv:rd cx σ T x=some (.jI n h)) (hi:rd cx σ T y=some (.int k i)) {j:Nat} (hj:i.den=(j:Int)) (y7:j<n):Local P cx.gl σ T o ⟨.ptr h (0+j * sz),[],[],[]⟩:=by
 intro B N E a w ff dA hg st ag bL hT;obtain⟨b,hb,hm,e3⟩:=(Ab hv hg st (Ak ag (by simp[ho,Op.operands])) hT).xI;have hy:=(Ab hi hg st (Ak ag (by simp[ho,Op.operands])) hT).aT;have aW:=Ft hc hl hk hn (w:=w) (a:=⟨b,0,none⟩) (m:=n) (cap:=n) (k:=k) (show 0<=i.den by omega) (show i.den<(n:Int) by omega);refine Ad st (v:=.pointer (some ⟨b,0+j * sz,none⟩)) ?_ rfl (.ptr hb rfl);rw[hj]at aW hy;simp only[ZY]at aW;simp[execOp,ho,e3,hy,aW,add_lit]
theorem Acv(hc:A4 P cx){t e sz n:Nat}{ti:TI}(hl:look t cx.tt=some ti)(hk:ti.k=.slice e)(hn:size? cx e=some sz){x y:Operand}(ho:o.op=.indexAddr t x y){h:Nat}{k:IntKind}{i:ST}
  (hv:rd cx σ T x=some (.jI n h)) (hi:rd cx σ T y=some (.int k i)) (hs:Hs cx T h 0 n sz i K):∃r,K r/\Local P cx.gl σ T o r:=by
 unfold Hs at hs
 split at hs
 .rename_i q hq
  split at hs
  .rename_i hb
   have dC:i.den=(q:Int):=by rw[<-Ahp cx i,hq];rfl
   exact⟨_,hs,K7 hc hl hk hn ho hv hi (j:=q) dC (by simpa using hb)⟩
  .exact hs.elim
 .split at hs
  .rw[hc.D]at hs
   obtain⟨⟨h0,h1⟩,h2⟩:=hs;have h0:0<=i.den:=h0;have h1:i.den<n:=h1;have hq:i.den=((i.den.toNat:Nat):Int):=by omega
   exact⟨_,Ng n 0 h2 i.den.toNat hq (XX _) (by omega),K7 hc hl hk hn ho hv hi hq (by omega)⟩
  .exact hs.elim
theorem W7(hc:A4 P cx){c:Call}(ho:o.op=.call c)(aR:c.callee=.builtin .len){x:Operand}{t:Nat}{ti:TI}(hx:c.args.toList=[x])(ht:c.argTypes.toList=[t])(hl:look t cx.tt=some ti){e:TypeId}(hk:ti.k=.slice e)
  {n h:Nat} (hv:rd cx σ T x=some (.jI n h)):Local P cx.gl σ T o ⟨.int .i64 (.l n),[],[],[]⟩:=by
 intro B N E a w ff dA hg st ag bL hT;have dN:x∈o.op.operands.toList:=by simp[ho,Op.operands,Call.operands,aR,hx]
 obtain⟨b,hb,hm,e3⟩:=(Ab hv hg st (Ak ag dN) hT).xI;have e1:c.args=#[x]:=XV (by simpa using hx);have e2:c.argTypes=#[t]:=XV (by simpa using ht);have aW:=Gv hc hl hk (w:=w) (a:=some ⟨b,0,none⟩) (m:=n) (c:=n) (ty:=o.type);refine Ad st (v:=.int .i64 n) ?_ rfl (.int rfl);simp[execOp,ho,resolve,aR,e1,e2,invoke,builtin,e3,aW]
section
variable {P:Program} {cx:Cx} {σ:Sy} {T:List Nat} {o:Oper} {K:Out->Prop}
theorem Uu(hc:A4 P cx){src dst e:TypeId}{x:Operand}(ho:o.op=.convert src dst x){ts td te:TI}(kT:look src cx.tt=some ts)(rG:ts.k=.string)(pY:look dst cx.tt=some td)(kF:td.k=.slice e)(hle:look e cx.tt=some te)(fP:te.k=.int .u8)
  {s:List UInt8} (hv:rd cx σ T x=some (.str s)) (hlen:Bk (Ac σ.gm T)->s.length<=maxLen):Local P cx.gl σ T o ⟨.sl (.l false) (.len s) 1 (aQ s),[],[],[]⟩:=by
 intro B N E a w ff hf hg st ag bL hT K' Q hK;have hx:=(Ab hv hg st (Ak ag (by simp[ho,Op.operands])) hT).cV;have hb:=st.base;have aW:=run_bytes_of_string (P:=P) w src dst e (bytes s) ((hc.ti kT).string rG) ((hc.ti pY).slice kF) ((hc.ti hle).int fP);obtain⟨C,hC⟩:∃C,C=bytesRow (bytes s) (grownCap w (bytes s).size 0 e):=⟨_,rfl⟩;rw[<-hC]at aW;obtain⟨w',uF⟩:∃w',w'=w.drew.alloc (.cells C e (C.size,C.size+1)):=⟨_,rfl⟩;rw[<-uF]at aW
 let E':Env:=⟨E.β,E.τ,E.O,E.κ,E.ζ,λb o=>E.I b o\/(b=w.heap.size/\o<s.length)⟩
 have hold:∀b,b<w.heap.size->w'.heap[b]?=w.heap[b]?:=λb aC=>by rw[uF];exact RowKit.Below.heap_alloc w.drew _ b aC
 have mS:w'.heap[w.heap.size]?=some (.cells C e (C.size,C.size+1)):=by rw[uF];show (w.heap.push _)[w.heap.size]?=_;simp
 have sZ:∀(p:Addr),p.block<w.heap.size->w'.cell? p=w.cell? p:=λp hp=>World.cell?_of_block (w:=w) (hold _ hp);have oG:Ext E w E' w':=⟨λ_ _ h=>h,λ_ _ h=>.inl h,λ_ _ h=>h,λ_ _ h=>h,λb o h=>.inl h,λb o h=>sZ _ (hb.dP b o h)⟩;have bC:w'.heap.size=w.heap.size+1:=by rw[uF];show (w.heap.push _).size=_;simp
 have aA:Cr B E' w':=by
  refine⟨by rw[uF];exact hb.os,by rw[uF];exact hb.tape,by rw[uF];exact hb.output,by have:=hb.size;omega,λb aC hX=>?_,λb o hi=>?_,λb o hi=>?_,λb o hi=>?_,λb h hO=>?_,hb.cO.ext oG⟩
  .rw[hold b (by have:=hb.size;omega)];exact hb.dY b aC hX
  .obtain⟨i1,i2⟩:=hb.I0 b o hi
   exact⟨.inl i1,by rw[sZ _ (hb.dP b o i1)];exact i2⟩
  .rcases hi with hi|⟨rfl,_⟩
   .have:=hb.dP b o hi;omega
   .omega
  .rcases hi with hi|⟨rfl,_⟩
   .exact hb.cE b o hi
   .exact .inr (.inl hb.size)
  .obtain⟨o1,o2⟩:=hb.cS b h hO
   exact⟨by omega,o2⟩
 have yY:(bytes s).size=s.length:=by simp[bytes,ByteArray.size]
 unfold Oper.wp;have hex:(execOp a.eval o).run P w=.ok (.value (.slice (some ⟨w.heap.size,0,none⟩) (bytes s).size (grownCap w (bytes s).size 0 e))) w':=by
  simp only[execOp,ho,hx,Sem.run_bind];rw[aW];rfl
 rw[hex];refine hK _ w' E' oG aA (λk=>bR.keep oG (st.heap k) rfl rfl rfl rfl λb hO=>⟨hO,hold b (Bd hb hO),λo hi=>?_⟩) (.ro ?_)
 .rcases hi with hi|⟨rfl,_⟩
  .exact hi
  .exact absurd (Bd hb hO) (by omega)
 .refine .sl (λi _=>.int .u8 ((s.getD i 0).toNat:Int)) rfl ?_ ?_ ?_ (λ_=>rfl) (λi hi=>rfl) (λi j hi hj=>rfl) (λi j hi hj=>?_) (λi j s' hi hs=>?_)
  .show ((s.length:Nat):Int)=_
   rw[yY]
  .exact grownCap_ge ..
  .exact grownCap_le_maxLen _ _ _ _ (by rw[yY];exact hlen hT)
  .have y9:j=0:=by omega
   subst y9;rw[yY]at hi;refine⟨?_,.inr ⟨rfl,by simpa using hi⟩⟩;have hCi:C[i]?=some (.int .u8 ((s.getD i 0).toNat:Int)):=by
    rw[hC];simp[bytesRow,bytes,Array.getElem?_append,hi]
   simp[World.cell?,mS,hCi]
  .cases j with
   |zero=>simp[aQ]at hs;subst hs;exact .int rfl
   |succ j=>simp[aQ]at hs
def cellNat:List SV->Nat
 | [.int _ t]=>t.den.toNat
 |_=>0
theorem Gq{n:Int}{f:Nat->List SV}(hb:Fz n f):∃r,Ky r n f:=by
 have h0:=hb.nn;refine⟨(List.range n.toNat).map λi=>UInt8.ofNat (cellNat (f i)),by simp;omega,λi t hi ht=>?_⟩;obtain⟨t',VX,h1,h2⟩:=hb.h i hi;rw[ht]at VX;simp only[List.cons.injEq,SV.int.injEq,true_and,and_true]at VX;subst VX;have aC:i<n.toNat:=by omega
 simp[aC,ht,cellNat];omega
theorem Lx(hc:A4 P cx){src dst e:TypeId}{x:Operand}(ho:o.op=.convert src dst x){ts td te:TI}(kT:look src cx.tt=some ts)(rG:ts.k=.slice e)(pY:look dst cx.tt=some td)(kF:td.k=.string)(hle:look e cx.tt=some te)(fP:te.k=.int .u8)
  {nl:BT} {n:ST} {f:Nat->List SV} (hv:rd cx σ T x=some (.sl nl n 1 f)\/∃h,rd cx σ T x=some (.dO nl n 1 f h)) {r:List UInt8} (hr:Bk (Ac σ.gm T)->Fz n.den f/\Ky r n.den f):Local P cx.gl σ T o ⟨.str r,[],[],[]⟩:=by
 intro B N E a w ff hf hg st ag bL hT;obtain⟨hb,hr⟩:=hr hT;have hx:RO E.I w (.sl nl n 1 f) (a.eval x):=by
  rcases hv with hv|⟨h,hv⟩
  .cases Ab hv hg st (Ak ag (by simp[ho,Op.operands])) hT with
   |ro h=>exact h
  .cases Ab hv hg st (Ak ag (by simp[ho,Op.operands])) hT with
   |ro h=>cases h
   |dO h _=>exact h
 refine Ad st (v:=.string (bytes r)) ?_ rfl (.ro (.str rfl));simp only[execOp,ho,Sem.run_bind];have jM:=(hc.ti kT).slice rG;have gk:=(hc.ti pY).string kF;have gj:=(hc.ti hle).int fP
 generalize a.eval x=vx at hx
 cases hx with
 |slnil h hn =>
  have:r=[]:=XH (by have:=hr.len;omega);subst this;simp[convert,run_underlying jM,run_underlying gk,run_underlying gj,Conv.bytesToString,bytes];rfl
 |sl g h hn jG fI hs hl h1 aP bG =>
  rename_i ad m cap;have uK:r.length=m:=by have:=hr.len;omega
  have:=run_convert_bytes_back (P:=P) w src dst e ad cap r jM gj gk (λj hj=>by
   have uS:j<m:=by omega
   obtain⟨t,ht,_⟩:=hb.h j (by omega);have e1:=hr.row j t (by omega) ht;have ep:=(aP j 0 uS (by omega)).1;have bP:=bG j 0 (.int .u8 t) uS (by rw[ht];rfl);have yV:g j 0=.int .u8 t.den:=(Rel.ro (E:=E) bP).aT;rw[yV]at ep;rw[QD,QB hj]at e1;simp only[XD]at e1;rw[e1,<-ep];have hsp:=hs (by omega);obtain⟨ab,ao,asp⟩:=ad;simp only at hsp;subst hsp;simp[Addr.add]
   split
   .rename_i y9;subst y9;simp
   .rfl)
  rw[uK]at this;rw[this];rfl
end
end Go.Sx
