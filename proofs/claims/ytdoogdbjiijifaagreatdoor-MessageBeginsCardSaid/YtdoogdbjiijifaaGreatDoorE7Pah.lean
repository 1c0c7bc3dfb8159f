/- A part of the proof: contracts of functions, or the executor and its soundness. No conditions. -/
import Derived.Below
import Derived.Laws.IdiomStrings
import Derived.Laws.AppendOwn
import Derived.Test.YtdoogdbjiijifaaGreatDoorE7Pag
import Derived.Test.YtdoogdbjiijifaaGreatDoorE7Pae
namespace Go.Sx
open Go
theorem Ah5{B:Bs}{N:Nat}{E:Env}{a:Act}{w:World}{ff:Nat->SG}{hf:Nat->Hl}(st:St B N E a w ff hf){h:Nat}{e:TypeId}{sz:Nat}{a0 a1:Option Addr}{m G c0 c1 M:Nat}{ys:List Value}{w':World}{n0 g0:ST}{f0:Nat->List SV}
  (hold:hf h=.vec e n0 g0 sz f0) (nL:E.τ h=some (.slice a0 G c0)) (gd:∀b,(Value.slice a0 m c0).ownBlock=some b->E.O b=some h/\∀o,¬E.I b o)
  (cA:Cu w' true e sz (.slice a1 M c1) M ys) (h1:∀u∈ys,u.oneCell'=true)
  (dN:((Value.slice a1 M c1).ownBlock=(Value.slice a0 m c0).ownBlock/\w.grownBy w' (Value.slice a0 m c0).ownBlock)\/((Value.slice a1 M c1).ownBlock=some w.heap.size/\w.grownBy w' none))
  {nt gt:ST} (mG:nt.den=(M:Int)) (BW:gt.den=((G+1:Nat):Int)) {f':Nat->List SV} (aP:Gx E w f' M sz ys):
  ∃E',Ext E w E' w'/\B8 B E' w'/\(∀k,bO E' w' k (aL hf h (.vec e nt gt sz f') k))/\E'.τ h=some (.slice a1 (G+1) c1):=by
 have hb:=st.base;have eL:∀b,(Value.slice a0 m c0).ownBlock=some b->E.O b=some h/\(∀o,¬E.I b o)/\b<w.heap.size:=λb cB=>⟨(gd b cB).1,(gd b cB).2,A4 hb (gd b cB).1⟩
 generalize hv:Value.slice a0 m c0=v at *
 generalize qK:Value.slice a1 M c1=v' at *
 let E':Env:=⟨E.β,aL E.τ h (some (.slice a1 (G+1) c1)),λb=>if v'.ownBlock=some b then some h else E.O b,E.κ,E.ζ,E.I⟩
 have fG:w'.os=w.os/\w'.tape=w.tape/\w'.output=w.output/\w.heap.size<=w'.heap.size:=by
  rcases dN with⟨_,hg⟩|⟨_,hg⟩<;>exact⟨hg.os,hg.tape,hg.output,hg.size⟩
 have fN:∀b,b<w.heap.size->v.ownBlock≠some b->w'.heap[b]?=w.heap[b]?:=by
  intro b aA aV;rcases dN with⟨_,hg⟩|⟨_,hg⟩
  .exact hg.block b aA (λe=>aV e.symm)
  .exact hg.block b aA (by simp)
 have hI:∀b o,E.I b o->w'.cell? ⟨b,o,none⟩=w.cell? ⟨b,o,none⟩:=by
  intro b o hi;have aA:=hb.eJ b o hi;have aV:v.ownBlock≠some b:=λrQ=>(eL b rQ).2.1 o hi;simp only[World.cell?];rw[fN b aA aV]
 have hx:Ext E w E' w':=by
  refine⟨λ_ _ h=>h,λk u hk=>?_,λ_ _ h=>h,λ_ _ h=>h,λb o h=>h,hI⟩;show aL E.τ h (some (.slice a1 (G+1) c1)) k=some u\/∃a m' c a' og c',u=.slice a m' c/\aL E.τ h (some (.slice a1 (G+1) c1)) k=some (.slice a' og c')/\m'<og;unfold aL
  by_cases e:k=h
  .subst e
   rw[QE rfl];rw[nL]at hk;cases hk;exact .inr ⟨a0,G,c0,a1,G+1,c1,rfl,rfl,US _⟩
  .rw[QD e];exact .inl hk
 have kV:∀b,v'.ownBlock=some b->b<w'.heap.size:=cA.lt;have bV:∀b,v'.ownBlock=some b->B.w0.heap.size<=b\/B.X b:=by
  intro b cB;rcases dN with⟨hs,_⟩|⟨hs,_⟩
  .exact (hb.dG b h (eL b (by rw[<-hs];exact cB)).1).2
  .rw[hs]at cB;cases cB;exact .inl hb.size
 refine⟨E',hx,⟨fG.1.trans hb.os,fG.2.1.trans hb.tape,fG.2.2.1.trans hb.output,XO hb.size fG.2.2.2,λb aA hX=>?_,λb o hi=>?_,λb o hi=>?_,hb.cE,λb k hO=>?_,hb.cS.ext hx⟩,λk=>?_,by simp[E',aL]⟩
 .have aM:=hb.size
  rw[fN b (by omega) ?_]
  .exact hb.old b aA hX
  .intro rQ
   rcases (hb.dG b h (eL b rQ).1).2 with h|h
   .omega
   .exact hX h
 .obtain⟨i1,i2⟩:=hb.I0 b o hi
  exact⟨i1,by rw[hI b o i1];exact i2⟩
 .exact XR (hb.eJ b o hi) fG.2.2.2
 .have hO:(if v'.ownBlock=some b then some h else E.O b)=some k:=hO
  split at hO
  .rename_i cB
   exact⟨kV b cB,bV b cB⟩
  .obtain⟨o1,o2⟩:=hb.dG b k hO
   exact⟨XR o1 fG.2.2.2,o2⟩
 .by_cases e:k=h
  .subst e
   simp only[aL,QE];refine⟨a1,c1,M,G+1,ys,by simp[E',aL],by rw[qK];exact cA,mG,BW,h1,⟨aP.1,λi j s u a b c=>(aP.2 i j s u a b c).mono hx.I hx.cell⟩,λb cB=>?_⟩;rw[qK]at cB;refine⟨by show (if v'.ownBlock=some b then some k else E.O b)=some k;rw[QE cB],λo hi=>?_⟩;rcases dN with⟨hs,_⟩|⟨hs,_⟩
   .exact (eL b (by rw[<-hs];exact cB)).2.1 o hi
   .rw[hs]at cB;cases cB
    have:=hb.eJ _ _ hi;omega
  .simp only[aL,QD e]
   refine bO.keep hx (st.heap k) rfl (by simp[E',aL,e]) rfl rfl λb hO=>?_;have aA:=A4 hb hO;have aV:v'.ownBlock≠some b:=by
    intro cB;rcases dN with⟨hs,_⟩|⟨hs,_⟩
    .have:=(eL b (by rw[<-hs];exact cB)).1
     rw[hO]at this;exact e (Option.some.inj this)
    .rw[hs]at cB;cases cB;omega
   have HI:v.ownBlock≠some b:=by
    intro cB;have:=(eL b cB).1;rw[hO]at this;exact e (Option.some.inj this)
   exact⟨by show (if v'.ownBlock=some b then some h else E.O b)=some k;rw[QD aV];exact hO,fN b aA HI,λo hi=>hi⟩
section
variable {P:Program} {cx:Cx} {σ:Sy} {T:List Nat} {o:Oper} {K:Out->Prop}
theorem Tc{E:Env}{w:World}{h:Nat}{n g g1:ST}{nl:BT}{u:Value}{e:TypeId}{sz m G c:Nat}{a:Option Addr}{xs:List Value}(hr:Rel E w (.fB nl n g h) u)(nL:E.τ h=some (.slice a G c))(bU:Cu w true e sz (.slice a m c) m xs)(hn:n.den=(m:Int))(hg:g1.den=(G:Int))(he:g.den=g1.den):
  u=.slice a m c/\(nl.den=true↔Value.slice a m c=.slice none 0 0):=by
 obtain⟨⟨a',k,c',e1,e2,e3⟩,a0,G0,c0,t1,t2,t3⟩:=hr.mA;rw[nL]at t1;cases t1;obtain⟨k',q1,q2⟩:=t3 (by rw[he,hg]);have hk:k'=m:=by omega
 subst hk;refine⟨q2,?_⟩;rw[q2]at e1;simp only[Value.slice.injEq]at e1;obtain⟨rfl,_,_⟩:=e1;rw[e3];constructor
 .rintro rfl
  rcases bU.2 with⟨h1,_⟩|⟨g,cap,cur,fr,h1,_⟩
  .exact h1
  .simp at h1
 .intro h1
  simp only[Value.slice.injEq]at h1;exact h1.1
theorem Afu{E:Env}{w:World}{nl:BT}{n:ST}{ty:TypeId}{sz:Nat}{gr:Bool}{f:Nat->List SV}{u v:Value}{m:Nat}{xs:List Value}(hu:u=v)(iX:nl.den=true↔v=.slice none 0 0)(bU:Cu w gr ty sz v m xs)(hn:n.den=(m:Int))
  (h1:∀u∈xs,u.oneCell'=true) (aP:Gx E w f m sz xs):RO (λb o=>E.I b o\/(v.ownBlock=some b/\o<m * sz)) w (.sl nl n sz f) u:=by
 subst hu;rcases bU.2 with⟨e0,e1⟩|⟨b,cap,cur,fr,e0,nO,cI,pQ,fX,cV,bZ⟩
 .rw[e0]
  exact .slnil (iX.2 e0) (by rw[hn,e1];rfl)
 .have eP:∀i j,i<m->j<sz->i * sz+j<m * sz:=by
   intro i j hi hj;have:(i+1) * sz<=m * sz:=QH _ hi;rw[XJ]at this;omega
  have kB:∀i j,i<m->j<sz->xs[i * sz+j]?=some (xs.getD (i * sz+j) undef):=by
   intro i j hi hj;have:=eP i j hi hj;rw[<-bU.1]at this;rw[QC,QA this];rfl
  rw[e0];refine .sl (λi j=>xs.getD (i * sz+j) undef) ?_ hn pQ fX (λ_=>rfl) aP.1 (λi j hi hj=>h1 _ (QF (kB i j hi hj))) (λi j hi hj=>⟨?_,?_⟩) (λi j s hi hs=>?_)
  .cases hb:nl.den with
   |false=>rfl
   |true=>rw[iX.1 hb]at e0;simp at e0
  .simp only[XD]
   rw[cell_of_row w b _ cur ty fr nO,<-kB i j hi hj,<-bZ,QL,QE (eP i j hi hj)];simp
  .simp only[XD]
   exact .inr ⟨rfl,eP i j hi hj⟩
  .have hj:j<sz:=by rw[<-aP.1 i hi];exact (List.getElem?_eq_some_iff.1 hs).1
   exact (aP.2 i j s _ hi hs (kB i j hi hj)).mono (λb o h=>.inl h) (λ_ _ _=>rfl)
theorem Qm(hc:Az P cx){c:Call}(ho:o.op=.call c)(aQ:c.callee=.builtin .append){x y:Operand}{t e sz:Nat}{te ti:TI}(hx:c.args.toList=[x,y])(ht:c.argTypes.toList=[t,t])(aA:look t cx.tt=some ti)(hk:ti.k=.slice e)(hle:look e cx.tt=some te)(aM:te.size=sz)(hz:0<sz)
  {nl:BT} {n n0 g0 g1:ST} {f:Nat->List SV} {h:Nat} (vh:rd cx σ T x=some (.fB nl n g0 h)) (hh:nth σ.hp h=some (.vec e n0 g1 sz f)) {s:SV} (vg:rd cx σ T y=some s) {m:ST} {g:Nat->List SV} (aP:rowOf sz s=some (m,g))
  (hb:n.den=n0.den/\(n.den+m.den) * te.bytes<=140737488355328/\n.den+m.den<=9223372036854775807) (nN:g0.den=g1.den)
  {f':Nat->List SV} {n' g':Int} (vB:n'=n.den+m.den) (sR:g'=g0.den+1) (oP:∀i:Nat,(i:Int)<n.den->f' i=f i) (cR:∀i j:Nat,(i:Int)=n.den+j->(j:Int)<m.den->f' i=g j):
  Local P cx.gl σ T o ⟨.fB (mj nl (S8 .eql m (.l 0))) (.a n') (.a g') h,[.put h (.vec e (.a n') (.a g') sz f')],[h],[]⟩:=by
 intro B N E a w ff hf hg st ag bJ hT K' Q hK;have mx:x∈o.op.operands.toList:=by simp[ho,Op.operands,Call.operands,aQ,hx]
 have my:y∈o.op.operands.toList:=by simp[ho,Op.operands,Call.operands,aQ,hx]
 have jK:=Aa vh hg st (Aj ag mx) hT;have uZ:=Aa vg hg st (Aj ag my) hT;obtain⟨k,news,r1,r2,r3,r4,r5⟩:=I2 aP uZ;have bD:=st.heap h;have bN:=Bn bJ (List.mem_singleton.2 rfl) hh;rw[bN]at bD;obtain⟨a0,c0,nn,G,xs,k1,k2,k3,kg,k4,k5,k6⟩:=bD;obtain⟨hv,iX⟩:=Tc jK k1 k2 (by rw[hb.1,k3]) kg nN;have vA:n.den=(nn:Int):=by rw[hb.1,k3]
 have iE:(nn+k) * te.bytes<=140737488355328:=by
  have:=hb.2.1;rw[vA,r1]at this;have h:(((nn+k) * te.bytes:Nat):Int)<=140737488355328:=by rw[YR,Int.natCast_add];exact this
  omega
 obtain⟨v',w',l1,l2,l3,l4,l5,l6⟩:=Kc (P:=P) (ty:=o.type) ((hc.ti aA).slice hk) (hc.ti hle) aM hz k2.row r3 (by have:=hb.2.2;rw[vA,r1]at this;simp only[maxLen];omega) iE;have oS:∀u∈xs++news,u.oneCell'=true:=λu hu=>by
  rcases List.mem_append.1 hu with hu|hu
  .exact k4 u hu
  .exact r3.2.1 u hu
 have mG:(ST.a n').den=((nn+k:Nat):Int):=by simp only[ST.den,vB,vA,r1];omega
 have BW:(ST.a g').den=((G+1:Nat):Int):=by simp only[ST.den,sR,nN,kg];omega
 have eT:Gx E w f' (nn+k) sz (xs++news):=by
  refine⟨λi hi=>?_,λi j s u hi hs hu=>?_⟩
  .by_cases eT:i<nn
   .rw[oP i (by omega)];exact k5.1 i eT
   .rw[cR i (i-nn) (by omega) (by omega)];exact r4 (i-nn) (by omega)
  .by_cases eT:i<nn
   .rw[oP i (by omega)]at hs
    have hj:j<sz:=by rw[<-k5.1 i eT];exact (List.getElem?_eq_some_iff.1 hs).1
    have:(i+1) * sz<=nn * sz:=QH _ eT;rw[XJ]at this;rw[QJ (by rw[k2.1];omega)]at hu;exact k5.2 i j s u eT hs hu
   .rw[cR i (i-nn) (by omega) (by omega)]at hs
    have e1:i * sz+j=nn * sz+((i-nn) * sz+j):=by
     have:i * sz=nn * sz+(i-nn) * sz:=by rw[<-XJ];congr 1;omega
     omega
    rw[QU (by rw[k2.1];omega),k2.1,e1,ZI]at hu;exact r5 (i-nn) j s u (by omega) hs hu
 obtain⟨a1,c1,e0⟩:=l5;subst e0;obtain⟨E',x1,x2,x3,x4⟩:=Ah5 (h:=h) (e:=e) (sz:=sz) st bN k1 k6 (Qa true l2) oS l4 mG BW eT;unfold Oper.wp;rw[Dj ho aQ hx ht (a:=a) (w:=w) (w':=w') (v':=.slice a1 (nn+k) c1) (by rw[hv];exact l1)];refine hK _ w' E' x1 x2 x3 (.fB ⟨a1,nn+k,c1,rfl,mG,?_⟩ ⟨a1,G+1,c1,x4,by rw[BW];exact YK _,λ_=>⟨_,mG,rfl⟩⟩);have sN:(Value.slice a1 (nn+k) c1=.slice none 0 0)↔a1=none:=by
  constructor
  .intro h;simp only[Value.slice.injEq]at h;exact h.1
  .rintro rfl
   rcases l2.2 with⟨h1,_⟩|⟨g,cap,cur,h1,_⟩
   .exact h1
   .simp at h1
 rw[<-sN,Pt,Je,l3];simp only[Bl,ST.den,r1,QB,XI];rw[iX];constructor
 .rintro⟨h1,h2⟩;exact⟨h1,by omega⟩
 .rintro⟨h1,h2⟩;exact⟨h1,by omega⟩
theorem Xk(hc:Az P cx){c:Call}(ho:o.op=.call c)(aQ:c.callee=.builtin .len){x:Operand}{t:Nat}{ti:TI}(hx:c.args.toList=[x])(ht:c.argTypes.toList=[t])(hl:look t cx.tt=some ti){e:TypeId}(hk:ti.k=.slice e)
  {nl:BT} {n g:ST} {h:Nat} (hv:rd cx σ T x=some (.fB nl n g h)):Local P cx.gl σ T o ⟨.int .i64 n,[],[],[]⟩:=by
 intro B N E a w ff cR hg st ag bJ hT;have dT:x∈o.op.operands.toList:=by simp[ho,Op.operands,Call.operands,aQ,hx]
 obtain⟨⟨a0,m,c0,e3,e4,_⟩,_⟩:=(Aa hv hg st (Aj ag dT) hT).mA;have e1:c.args=#[x]:=XN (by simpa using hx);have e2:c.argTypes=#[t]:=XN (by simpa using ht);have aG:=H5 hc hl hk (w:=w) (a:=a0) (m:=m) (c:=c0) (ty:=o.type);refine Ae st (v:=.int .i64 m) ?_ rfl (.int e4);simp[execOp,ho,resolve,aQ,e1,e2,invoke,builtin,e3,aG]
theorem Vu(w:World)(r:Option Nat):w.grownBy w r:=⟨rfl,rfl,rfl,QK _,λ_ _ _=>rfl⟩
theorem Sp(hc:Az P cx){t e sz:Nat}{ti:TI}(hl:look t cx.tt=some ti)(hk:ti.k=.slice e){te:TI}(hle:look e cx.tt=some te){x:Operand}{lo hi:Option Operand}(ho:o.op=.slice t x lo hi none){nl:BT}{n n0 g0 g1:ST}{f:Nat->List SV}{h:Nat}
  (hv:rd cx σ T x=some (.fB nl n g0 h)) (hh:nth σ.hp h=some (.vec e n0 g1 sz f)) (cZ:D7 cx σ T lo=some none) {k:IntKind} {b:ST} (nY:D7 cx σ T hi=some (some (.int k b)))
  (h0:n.den=n0.den) (nN:g0.den=g1.den) (kM:0<=b.den/\b.den<=n.den) {g':Int} (sR:g'=g0.den+1) (_hT0:Ba (Ac σ.gm T)):Local P cx.gl σ T o ⟨.fB nl (.a b.den) (.a g') h,[.put h (.vec e (.a b.den) (.a g') sz f)],[h],[]⟩:=by
 intro B N E a w ff cR hg st ag bJ hT K' Q hK;have jK:=Aa hv hg st (Aj ag (by simp[ho,Op.operands])) hT;have h1:=Dh hg st hT cZ (λy hy=>Aj ag (by subst hy;simp[ho,Op.operands])) (d:=.l 0) (t:=.l 0) rfl;have h2:=Dh hg st hT nY (λy hy=>Aj ag (by subst hy;simp[ho,Op.operands])) (d:=.l 0) (t:=b) rfl;have yI:hi≠none:=by rintro rfl;simp[D7]at nY
 have xZ:lo=none:=by
  cases lo with
  |none=>rfl
  |some y =>
   simp only[D7]at cZ
   split at cZ<;>simp at cZ
 subst xZ;have rA:∃k,hi.map a.eval=some (.int k b.den):=by
  rcases h2 with⟨rfl,_⟩|⟨y,k,rfl,e⟩
  .exact absurd rfl yI
  .exact⟨k,by simp[e]⟩
 have bD:=st.heap h;have bN:=Bn bJ (List.mem_singleton.2 rfl) hh;rw[bN]at bD;obtain⟨a0,c0,m,G,xs,k1,k2,k3,kg,k4,k5,k6⟩:=bD;obtain⟨qK,iX⟩:=Tc jK k1 k2 (by rw[h0,k3]) kg nN;have hu:=(hc.ti hl).slice hk;have hS:=(hc.ti hle).sizeOf w;have pe:n.den=(m:Int):=by rw[h0,k3]
 have dH:m<=c0:=by
  rcases k2.2 with⟨e1,e2⟩|⟨g,cap,cur,fr,e1,_,_,e2,_⟩
  .omega
  .simp only[Value.slice.injEq]at e1;omega
 have cB:=B6 (P:=P) (sl:=true) (len:=m) (cap:=c0) (lo:=none) (hi:=hi.map a.eval) (l:=0) (h:=b.den) (w:=w) (.inl ⟨rfl,rfl⟩) (.inr rA) (YK _) kM.1 (by omega) dH;have aG:(execOp a.eval o).run P w=.ok (.value (.slice a0 b.den.toNat c0)) w:=by
  cases a0 with
  |none =>
   have:m=0/\c0=0:=by
    rcases k2.2 with⟨e1,e2⟩|⟨g,cap,cur,fr,e1,_⟩
    .simp only[Value.slice.injEq,true_and]at e1;exact e1
    .simp at e1
   obtain⟨rfl,rfl⟩:=this;have gQ:b.den=0:=by omega
   simp[execOp,ho,qK,Instr.sliceAt,Instr.slice,run_underlying hu,cB,hS,gQ]
  |some ad =>
   have yR:ad.add 0=ad:=by
    unfold Addr.add
    split<;>simp_all
   by_cases lY:c0=0
   .subst lY
    simp[execOp,ho,qK,Instr.sliceAt,Instr.slice,run_underlying hu,cB,hS]
   .simp[execOp,ho,qK,Instr.sliceAt,Instr.slice,run_underlying hu,cB,hS,yR,lY]
 have hbn:((b.den.toNat:Nat):Int)=b.den:=by omega
 have lV:b.den.toNat<=m:=by omega
 have cA:Cu w true e sz (.slice a0 b.den.toNat c0) b.den.toNat (xs.take (b.den.toNat * sz)):=by
  have hmul:b.den.toNat * sz<=m * sz:=QH _ lV;refine⟨by rw[ZF,k2.1];omega,?_⟩;rcases k2.2 with⟨e1,e2⟩|⟨g,cap,cur,fr,e1,e2,e3,e4,e5,e6,e7⟩
  .simp only[Value.slice.injEq]at e1
   obtain⟨rfl,_,rfl⟩:=e1;exact .inl ⟨by simp;omega,by omega⟩
  .simp only[Value.slice.injEq]at e1
   obtain⟨rfl,_,rfl⟩:=e1;refine .inr ⟨g,c0,cur,fr,rfl,e2,e3,by omega,e5,e6,?_⟩;rw[<-e7,List.take_take];congr 1;omega
 obtain⟨E',x1,x2,x3,x4⟩:=Ah5 (h:=h) (e:=e) (sz:=sz) (w':=w) (nt:=.a b.den) (gt:=.a g') (f':=f) st bN k1 k6 cA (λu hu=>k4 u (VC hu)) (.inl ⟨by cases a0<;>rfl,Vu w _⟩) (by simp only[ST.den];omega) (by simp only[ST.den,sR,nN,kg];omega)
  ⟨λi hi=>k5.1 i (by omega),λi j s u hi hs hu=>k5.2 i j s u (by omega) hs (by
   rw[QL]at hu
   split at hu
   .exact hu
   .cases hu)⟩
 unfold Oper.wp;rw[aG];refine hK _ w E' x1 x2 x3 (.fB ⟨a0,b.den.toNat,c0,rfl,by simp only[ST.den];omega,?_⟩ ⟨a0,G+1,c0,x4,by simp only[ST.den,sR,nN,kg];omega,λ_=>⟨_,by simp only[ST.den];omega,rfl⟩⟩);obtain⟨⟨a',k',c',e1,e2,e3⟩,_⟩:=jK.mA;rw[qK]at e1;simp only[Value.slice.injEq]at e1;obtain⟨rfl,_,_⟩:=e1;exact e3
theorem Vh(hc:Az P cx){t len e:Nat}{ps:Array (Nat×Operand)}(ho:o.op=.buildSlice t len ps){ti te:TI}(aA:look t cx.tt=some ti)(hk:ti.k=.slice e)(hle:look e cx.tt=some te){vs:List (Nat×SV)}(hv:G4 cx σ T ps.toList=some vs)(h1:Rp vs=true)
  {cs:List SV} (hf:Ao.dI te.size (Ao.mL len te.zero) vs=some cs) (gB:Ak (.agg (loose.aF (norm.aN dn cs)))=true) (hz:0<te.size) (xp:len * te.size<=16777216):
  Local P cx.gl σ T o ⟨.bY (.l false) (.l len) (Ag σ.hp),[.put (Ag σ.hp) (.own e (.l len) te.size true λk=>takeN te.size (By (k * te.size) (loose.aF (norm.aN dn cs))))],[],[]⟩:=by
 intro B N E a w ff cR hg st ag bJ hT K' Q hK;have fH:∀p∈ps.toList,∀s∈Cw p.2,ff s=A6 σ s:=λp hp=>Aj ag (by simp only[ho,Op.operands];simp;exact⟨p.1,by simpa using hp⟩);obtain⟨h2,h3⟩:=F8 hg st hT ps.toList vs fH hv;obtain⟨z,xC,lE,jT⟩:=(hc.ti hle).zero E w;have mF:=(hc.ti hle).nR;have fS:z.cells.size=te.size:=by have:=lE.1;rw[mF]at this;simpa using this.symm
 have iJ:∀(j:Nat) (p:Nat×SV) (q:Nat×Value),vs[j]?=some p->((ps.map λ(x:Nat×Operand)=>(x.1,a.eval x.2)).toList)[j]?=some q->p.1=q.1/\Rel E w p.2 q.2:=by
  intro j p q hp hq;rw[ZU,QP]at hq;cases xT:ps.toList[j]? with
  |none=>rw[xT]at hq;cases hq
  |some x =>
   rw[xT]at hq;simp only[QO,Option.some.injEq]at hq;subst hq;exact h3 j p x hp xT
 -- rY zero cells
 let C0:List Value:=(List.range (len * te.size)).map λq=>z.cells.toList.getD (q % te.size) undef
 have hC0:A1 E w (Ao.mL len te.zero) C0:=by
  refine⟨by rw[Hq,mF];simp[C0],λi s v hs hv=>?_⟩;have aA:i<len * te.size:=by
   have:=(List.getElem?_eq_some_iff.1 hs).1
   rwa [Hq,mF]at this
  rw[Um _ _ (by rw[mF];exact aA),mF]at hs;simp[C0,aA]at hv;have hm:i % te.size<z.cells.size:=by rw[fS];exact YF _ hz
  refine lE.2 (i % te.size) s v hs ?_;rw[<-hv];simp[hm]
 have xu:∀u∈C0,u.oneCell'=true:=by
  intro u hu;simp only[C0,List.mem_map,List.mem_range]at hu;obtain⟨q,_,rfl⟩:=hu;have hm:q % te.size<z.cells.toList.length:=by simp[fS];exact YF _ hz
  rw[QC,QA hm];exact jT _ (XQ hm)
 obtain⟨C',c1,c2,c3⟩:=Lh vs (ps.map λ(x:Nat×Operand)=>(x.1,a.eval x.2)).toList _ cs C0 (by simp[h2]) iJ (L9 h1) hC0 xu hf;have qV:C'.length=len * te.size:=by
  rw[<-c2.1];have:∀(vs:List (Nat×SV)) (cs dK:List SV),Ao.dI te.size cs vs=some dK->dK.length=cs.length:=by
   intro vs
   induction vs with
   |nil=>intro cs dK h;simp[Ao.dI]at h;rw[h]
   |cons p vs ih =>
    intro cs dK h;obtain⟨i,v⟩:=p;simp only[Ao.dI]at h
    split at h
    .rw[ih _ _ h,Dd]
    .cases h
  rw[this vs _ cs hf,Hq,mF]
 have aG:(Instr.buildSlice t len (ps.map λ(x:Nat×Operand)=>(x.1,a.eval x.2))).run P w=.ok (.slice (some ⟨w.heap.size,0,none⟩) len len) (w.alloc (.cells ⟨C'⟩ e)):=by
  have hu:=(hc.ti aA).slice hk;have hS:=(hc.ti hle).sizeOf w;have kH:((Array.range (len * te.size)).map (λq=>z.cells[q % z.cells.size]!))=(⟨C0⟩:Array Value):=by
   apply XN;simp only[ZU,Array.toList_range,C0];refine VJ λq _=>?_;rw[fS,QC,Array.getElem!_eq_getD,QM,QG];have hm:q % te.size<z.cells.size:=by rw[fS];exact YF _ hz
   simp[hm]
  have yO:¬(16777216<len * te.size):=by omega
  simp only[Instr.buildSlice,Sem.run_bind,run_underlying hu,Result.andThen_ok,hS,gt_iff_lt]
  by_cases h0:len * te.size=0
  .have xt:C0=[]:=by simp[C0,h0]
   rw[xt]at c1;rw[ZU]at c1;have xf:Array.map (λ_=>(default:Value)) (Array.range 0)=⟨[]⟩:=by simp
   simp[h0,newRow,newObj]
   first|rw[xf,c1]|(simp at c1 ⊢;rw[c1])
   simp[Sem.run]
  .rw[ZU]at c1
   simp[h0,yO,xC,kH,newRow,newObj];rw[c1];simp[Sem.run]
 have bH:cR (Ag σ.hp)=.fresh:=by
  have:=bJ.gF _ (List.mem_singleton.2 rfl);simp only[zY,Ap,Ah,Af]at this;rw[Af,this];simp
 have kE:len<=maxLen:=by
  simp only[maxLen];have:len<=len * te.size:=YA _ hz;omega
 have oK:=World.ownsRow_lit w (base:=0) (e:=e) (size:=te.size) ⟨C'⟩ len (ZD _) kE (by simpa using qV);have cA:Cu (w.alloc (.cells ⟨C'⟩ e)) true e te.size (.slice (some ⟨w.heap.size,0,none⟩) len len) (0+len) C':=by rw[XD];exact Qa true (by simpa using oK)
 have eu:∀c∈loose.aF (norm.aN dn cs),Ak c=true:=by
  simp only[Ak]at gB;exact (Ck _).1 gB
 have bQ:A1 E w (loose.aF (norm.aN dn cs)) C':=by
  rw[Cf,Cl];exact (c2.map _ λs v _ h=>h.norm).map _ λs v _ h=>h.loose
 have aU:∀(i j:Nat) (s:SV),(takeN te.size (By (i * te.size) (loose.aF (norm.aN dn cs))))[j]?=some s->(loose.aF (norm.aN dn cs))[i * te.size+j]?=some s:=by
  intro i j s hs;rw[Ax,A5,QL]at hs
  split at hs
  .rwa [XL]at hs
  .cases hs
 have eT:Gx E w (λk=>takeN te.size (By (k * te.size) (loose.aF (norm.aN dn cs)))) (0+len) te.size C':=by
  rw[XD];refine⟨λj hj=>?_,λi j s u hi hs hu=>?_⟩
  .show (takeN te.size (By (j * te.size) _)).length=te.size
   rw[Ax,A5,ZF,ZQ,bQ.1,qV];have:(j+1) * te.size<=len * te.size:=QH _ hj;rw[XJ]at this;omega
  .have cJ:=aU i j s hs
   exact (bQ.2 _ s u cJ hu).fK (eu s (QF cJ)) (c3 u (QF hu))
 obtain⟨E',x1,x2,x3,x4,x5⟩:=Jz (h:=Ag σ.hp) (e:=e) (sz:=te.size) (n:=0) (m:=len) st (.inl ⟨bH,rfl⟩) ⟨_,_,rfl⟩ cA c3 (.inr ⟨rfl,World.grownBy_alloc w _ none⟩) (λh=>absurd bH h) (nt':=.l len) (by simp[ST.den]) eT;unfold Oper.wp;have:(execOp a.eval o).run P w=.ok (.value (.slice (some ⟨w.heap.size,0,none⟩) len len)) (w.alloc (.cells ⟨C'⟩ e)):=by
  simp only[execOp,ho,Sem.run_bind];rw[aG];rfl
 rw[this];exact hK _ _ E' x1 x2 x3 (.bY ⟨_,len,_,rfl,rfl,by simp[BT.den]⟩ ⟨_,len,_,by rw[x4],by simp[ST.den],λ_=>rfl⟩)
theorem Mu(hc:Az P cx){t e:Nat}{ti:TI}(hl:look t cx.tt=some ti)(hk:ti.k=.slice e){te:TI}(hle:look e cx.tt=some te){a0:Option Addr}{m c0:Nat}{lo hi:Option Value}{l h:Nat}{w:World}
  (hb:(Instr.sliceBounds true m c0 lo hi none).run P w=.ok (l,h,c0) w):(Instr.sliceAt t (.slice a0 m c0) lo hi none).run P w=.ok (.slice (if c0=l then a0 else a0.map (·.add (l * te.size))) (h-l) (c0-l)) w:=by
 have hu:=(hc.ti hl).slice hk;have hS:=(hc.ti hle).sizeOf w;simp[Instr.sliceAt,Instr.slice,run_underlying hu,hb,hS]
theorem Yf{w:World}{gr:Bool}{e:TypeId}{sz m c0:Nat}{a0:Option Addr}{xs:List Value}(k2:Cu w gr e sz (.slice a0 m c0) m xs):m<=c0:=by
 rcases k2.2 with⟨e1,e2⟩|⟨g,cap,cur,fr,e1,_,_,e2,_⟩
 .omega
 .simp only[Value.slice.injEq]at e1;omega
theorem Ow(hc:Az P cx){t e sz:Nat}{ti:TI}(hl:look t cx.tt=some ti)(hk:ti.k=.slice e){te:TI}(hle:look e cx.tt=some te){x:Operand}{lo hi:Option Operand}(ho:o.op=.slice t x lo hi none){nl:BT}{n n0:ST}{gr:Bool}{f:Nat->List SV}{h:Nat}
  (hv:rd cx σ T x=some (.bY nl n h)) (hh:nth σ.hp h=some (.own e n0 sz gr f)) (cZ:D7 cx σ T lo=some none) {k:IntKind} {b:ST} (nY:D7 cx σ T hi=some (some (.int k b)))
  (h0:n.den=n0.den) (kM:0<=b.den/\b.den<=n.den) (_hT0:Ba (Ac σ.gm T)):Local P cx.gl σ T o ⟨.sl nl (.a b.den) sz f,[.put h .gone],[h],[]⟩:=by
 intro B N E a w ff cR hg st ag bJ hT K' Q hK;have jK:=Aa hv hg st (Aj ag (by simp[ho,Op.operands])) hT;have h2:=Dh hg st hT nY (λy hy=>Aj ag (by subst hy;simp[ho,Op.operands])) (d:=.l 0) (t:=b) rfl;have yI:hi≠none:=by rintro rfl;simp[D7]at nY
 have xZ:lo=none:=by
  cases lo with
  |none=>rfl
  |some y =>
   simp only[D7]at cZ
   split at cZ<;>simp at cZ
 subst xZ;have rA:∃k,hi.map a.eval=some (.int k b.den):=by
  rcases h2 with⟨rfl,_⟩|⟨y,k,rfl,e⟩
  .exact absurd rfl yI
  .exact⟨k,by simp[e]⟩
 have bD:=st.heap h;have bN:=Bn bJ (List.mem_singleton.2 rfl) hh;rw[bN]at bD;obtain⟨v,m,xs,k1,kz,k2,k3,k4,k5,k6⟩:=bD;obtain⟨qK,iX⟩:=Ib jK k1 k2 k3 h0;obtain⟨a0,c0,rfl⟩:=k2.shape;have pe:n.den=(m:Int):=by rw[h0,k3]
 have dH:=Yf k2;have cB:=B6 (P:=P) (sl:=true) (len:=m) (cap:=c0) (lo:=none) (hi:=hi.map a.eval) (l:=0) (h:=b.den) (w:=w) (.inl ⟨rfl,rfl⟩) (.inr rA) (YK _) kM.1 (by omega) dH;have nV:(if c0=0 then a0 else a0.map (·.add (0 * te.size)))=a0:=by
  split
  .rfl
  .rcases k2.2 with⟨e1,_⟩|⟨g,cap,cur,fr,e1,_⟩
   .simp only[Value.slice.injEq]at e1;rw[e1.1];rfl
   .simp only[Value.slice.injEq]at e1;rw[e1.1];simp[add_lit]
 have aG:(execOp a.eval o).run P w=.ok (.value (.slice a0 b.den.toNat c0)) w:=by
  have:=Mu hc hl hk hle (a0:=a0) cB;have GO:(if c0=(0:Int).toNat then a0 else a0.map (·.add ((0:Int).toNat * te.size)))=a0:=nV;rw[GO]at this;simp only[execOp,ho,qK,Sem.run_bind,UI];rw[this];rfl
 have lV:b.den.toNat<=m:=by omega
 have cA:Cu w gr e sz (.slice a0 b.den.toNat c0) b.den.toNat (xs.take (b.den.toNat * sz)):=by
  have hmul:b.den.toNat * sz<=m * sz:=QH _ lV;refine⟨by rw[ZF,k2.1];omega,?_⟩;rcases k2.2 with⟨e1,e2⟩|⟨g,cap,cur,fr,e1,e2,e3,e4,e5,e6,e7⟩
  .simp only[Value.slice.injEq]at e1
   obtain⟨rfl,_,rfl⟩:=e1;exact .inl ⟨by simp;omega,by omega⟩
  .simp only[Value.slice.injEq]at e1
   obtain⟨rfl,_,rfl⟩:=e1;refine .inr ⟨g,c0,cur,fr,rfl,e2,e3,by omega,e5,e6,?_⟩;rw[<-e7,List.take_take];congr 1;omega
 have WH:nl.den=true↔Value.slice a0 b.den.toNat c0=.slice none 0 0:=by
  rw[iX];constructor
  .intro e1
   simp only[Value.slice.injEq]at e1 ⊢;exact⟨e1.1,by omega,e1.2.2⟩
  .intro e1
   simp only[Value.slice.injEq]at e1 ⊢;refine⟨e1.1,?_,e1.2.2⟩;have:=e1.2.2;omega
 have aP:Gx E w f b.den.toNat sz (xs.take (b.den.toNat * sz)) :=
  ⟨λi hi=>k5.1 i (by omega),λi j s u hi hs hu=>k5.2 i j s u (by omega) hs (by
   rw[QL]at hu
   split at hu
   .exact hu
   .cases hu)⟩
 have eW:=Afu (nl:=nl) (n:=.a b.den) rfl WH cA (by simp only[ST.den];omega) (λu hu=>k4 u (VC hu)) aP;have aB:=st.base
 let E':Env:=⟨E.β,E.τ,E.O,E.κ,E.ζ,λb' o=>E.I b' o\/((Value.slice a0 b.den.toNat c0).ownBlock=some b'/\o<b.den.toNat * sz)⟩
 have hx:Ext E w E' w:=⟨λ_ _ h=>h,λ_ _ h=>.inl h,λ_ _ h=>h,λ_ _ h=>h,λ_ _ h=>.inl h,λ_ _ _=>rfl⟩;have nP:∀b',(Value.slice a0 b.den.toNat c0).ownBlock=some b'->E.O b'=some h:=λb' hb=>(k6 b' (by cases a0<;>exact hb)).1;unfold Oper.wp;rw[aG];refine hK _ w E' hx ⟨aB.os,aB.tape,aB.output,aB.size,aB.old,λb' o hi=>?_,λb' o hi=>?_,λb' o hi=>?_,aB.dG,aB.cS.ext hx⟩ (λk=>?_) (.ro eW)
 .obtain⟨i1,i2⟩:=aB.I0 b' o hi;exact⟨.inl i1,i2⟩
 .rcases hi with hi|⟨hb,_⟩
  .exact aB.eJ b' o hi
  .exact A4 aB (nP b' hb)
 .rcases hi with hi|⟨hb,_⟩
  .exact aB.cE b' o hi
  .exact .inr (aB.dG b' h (nP b' hb)).2
 .show bO E' w k (aL cR h .gone k)
  by_cases e:k=h
  .subst e
   simp only[aL,QE]
   trivial
  .simp only[aL,QD e]
   refine bO.keep hx (st.heap k) rfl rfl rfl rfl λb' hO=>⟨hO,rfl,λo hi=>?_⟩;rcases hi with hi|⟨hb,_⟩
   .exact hi
   .rw[nP b' hb]at hO;exact absurd (Option.some.inj hO).symm e
theorem Qi(hc:Az P cx){t e sz:Nat}{ti:TI}(hl:look t cx.tt=some ti)(hk:ti.k=.slice e)(aM:size? cx e=some sz){x:Operand}{lo hi:Option Operand}(ho:o.op=.slice t x lo hi none){nl:BT}{n n0:ST}{gr:Bool}{e':TypeId}{f:Nat->List SV}{h:Nat}
  (hv:rd cx σ T x=some (.bY nl n h)) (hh:nth σ.hp h=some (.own e' n0 sz gr f)) (nY:D7 cx σ T hi=some none) {k:IntKind} {b:ST} (cZ:D7 cx σ T lo=some (some (.int k b)))
  (h0:n.den=n0.den) (kM:0<=b.den/\b.den<=n.den):Local P cx.gl σ T o ⟨.jS n b h,[],[h],[]⟩:=by
 intro B N E a w ff cR hg st ag bJ hT;have jK:=Aa hv hg st (Aj ag (by simp[ho,Op.operands])) hT;have h2:=Dh hg st hT cZ (λy hy=>Aj ag (by subst hy;simp[ho,Op.operands])) (d:=.l 0) (t:=b) rfl;have xZ:lo≠none:=by rintro rfl;simp[D7]at cZ
 have yI:hi=none:=by
  cases hi with
  |none=>rfl
  |some y =>
   simp only[D7]at nY
   split at nY<;>simp at nY
 subst yI;have jM:∃k,lo.map a.eval=some (.int k b.den):=by
  rcases h2 with⟨rfl,_⟩|⟨y,k,rfl,e⟩
  .exact absurd rfl xZ
  .exact⟨k,by simp[e]⟩
 have bD:=st.heap h;have bN:=Bn bJ (List.mem_singleton.2 rfl) hh;rw[bN]at bD;obtain⟨v,m,xs,k1,kz,k2,k3,k4,k5,k6⟩:=bD;obtain⟨qK,iX⟩:=Ib jK k1 k2 k3 h0;obtain⟨a0,c0,rfl⟩:=k2.shape;have pe:n.den=(m:Int):=by rw[h0,k3]
 have dH:=Yf k2;obtain⟨te,hle,iT⟩:=bF aM;have cB:=B6 (P:=P) (sl:=true) (len:=m) (cap:=c0) (lo:=lo.map a.eval) (hi:=none) (l:=b.den) (h:=(m:Int)) (w:=w) (.inr jM) (.inl ⟨rfl,rfl⟩) kM.1 (by omega) (YK _) dH;have aG:=Mu hc hl hk hle (a0:=a0) cB;refine Ae st (v:=PT a0 m c0 sz b.den.toNat) ?_ rfl (.jS ⟨_,_,_,rfl⟩ ⟨a0,m,c0,sz,k1,kz,by omega,λ_=>⟨b.den.toNat,by omega,by omega,rfl⟩⟩);simp only[execOp,ho,qK,Sem.run_bind,UI];rw[aG,<-iT];rfl
theorem S3(hc:Az P cx){c:Call}(ho:o.op=.call c)(aQ:c.callee=.builtin .clear){x:Operand}{t e sz:Nat}{te ti:TI}(hx:c.args.toList=[x])(ht:c.argTypes.toList=[t])(aA:look t cx.tt=some ti)(hk:ti.k=.slice e)(hle:look e cx.tt=some te)(aM:te.size=sz)
  {n n0 aa:ST} {gr:Bool} {f f':Nat->List SV} {h:Nat} (hv:rd cx σ T x=some (.jS n aa h)) (hh:nth σ.hp h=some (.own e n0 sz gr f)) (h0:n.den=n0.den) (gB:Ak (.agg te.zero)=true)
  (oP:∀i:Nat,(i:Int)<aa.den->f' i=f i) (iR:∀i:Nat,aa.den<=(i:Int)->f' i=te.zero) (_hT0:Ba (Ac σ.gm T)):Local P cx.gl σ T o ⟨.tup [],[.put h (.own e n0 sz gr f')],[h],[]⟩:=by
 intro B N E a w ff hf hg st ag bJ hT K' Q hK;have mx:x∈o.op.operands.toList:=by simp[ho,Op.operands,Call.operands,aQ,hx]
 have jK:=Aa hv hg st (Aj ag mx) hT;have e1:c.args=#[x]:=XN (by simpa using hx);have e2:c.argTypes=#[t]:=XN (by simpa using ht);have bN:=Bn bJ (List.mem_singleton.2 rfl) hh;have bD:=st.heap h;rw[bN]at bD;obtain⟨v,m,xs,k1,kz,k2,k3,k4,k5,k6⟩:=bD;obtain⟨_,ad,m',c',cN,t1,t2,t3,t4⟩:=jK.ai;rw[k1]at t1;rw[kz]at t2;cases t2;obtain⟨a1,c1,rfl⟩:=k2.shape;simp only[Option.some.injEq,Value.slice.injEq]at t1;obtain⟨rfl,rfl,rfl⟩:=t1;obtain⟨k,q1,q2,q3⟩:=t4 (by rw[h0,k3]);have hu:=(hc.ti aA).slice hk;obtain⟨z,xC,lE,jT⟩:=(hc.ti hle).zero E w;have mF:=(hc.ti hle).nR;have fS:z.cells.size=sz:=by have:=lE.1;rw[mF,aM]at this;simpa using this.symm
 by_cases w7:k=m
 .subst w7
  have aG:(execOp a.eval o).run P w=.ok (.value (.tuple #[])) w:=by
   have:(Builtin.clear_ #[t] o.type #[a.eval x]).run P w=.ok (.tuple #[]) w:=by
    rw[q3];simp only[PT,UC];cases (if c1=k then a1 else a1.map (·.add (k * sz)))<;>simp[Builtin.clear_,run_underlying hu]
   simp[execOp,ho,resolve,aQ,e1,e2,invoke,builtin,this]
  obtain⟨E',x1,x2,x3,x4,x5⟩:=Jz (h:=h) (e:=e) (sz:=sz) (n:=k) (m:=0) (w':=w) (f':=f') st (.inr ⟨⟨_,_,_,bN⟩,k1,kz,k6⟩) k2.shape (by simpa using k2) k4
   (.inl ⟨rfl,Vu w _⟩) (λ_ _=>rfl) (nt':=n0) (by simpa using k3) (by
    refine⟨λi hi=>?_,λi j s u hi hs hu=>?_⟩
    .rw[oP i (by omega)];exact k5.1 i hi
    .rw[oP i (by omega)]at hs;exact k5.2 i j s u hi hs hu)
  unfold Oper.wp;rw[aG];exact hK _ w E' x1 x2 x3 (.tup rfl (by simp))
 have pF:k<m:=by omega
 rcases k2.2 with⟨e3,e4⟩|⟨b,cap,cur,fr,e3,nO,cI,pQ,fX,cV,bZ⟩
 .omega
 simp only[Value.slice.injEq]at e3;obtain⟨rfl,_,rfl⟩:=e3;have mQ:=k2.1;obtain⟨us,iJ⟩:∃us,us=(Builtin.zeroCells z.cells (m-k)).toList:=⟨_,rfl⟩;have uX:us.length=(m-k) * sz:=by rw[iJ];simp[Builtin.zeroCells,fS]
 have GP:∀q,q<(m-k) * sz->us[q]?=some (z.cells.toList.getD (q % sz) undef):=by
  intro q hq;have mR:0<sz:=by
   rcases YX sz with h|h
   .rw[h]at hq;simp at hq
   .exact h
  have hm:q % sz<z.cells.size:=by rw[fS];exact YF _ mR
  rw[iJ,QG];simp only[Builtin.zeroCells,fS,Array.getElem?_map];rw[Array.getElem?_range];simp only[hq,if_true,QO,Option.some.injEq];rw[QC,Array.getElem!_eq_getD,QM,QG];simp[hm]
 have xJ:∀u∈us,u.oneCell'=true:=by
  intro u hu;obtain⟨q,hq⟩:=List.mem_iff_getElem?.1 hu;have BM:q<(m-k) * sz:=by rw[<-uX];exact (List.getElem?_eq_some_iff.1 hq).1
  have mR:0<sz:=by
   rcases YX sz with h|h
   .rw[h]at BM;simp at BM
   .exact h
  have hm:q % sz<z.cells.toList.length:=by simp[fS];exact YF _ mR
  rw[GP q BM]at hq;simp only[Option.some.injEq]at hq;rw[<-hq,QC,QA hm];exact jT _ (XQ hm)
 have hmul:k * sz+(m-k) * sz=m * sz:=by rw[<-XJ];congr 1;omega
 have ap2:m * sz<=c1 * sz:=QH _ pQ
 let C':Array Value:=(cur.toList.take (k * sz)++us++cur.toList.drop (k * sz+us.length)).toArray
 have lV:k * sz+us.length<=cur.size:=by rw[uX];omega
 have mY:C'.size=cur.size:=by simp[C'];omega
 have kI:∀q:Nat,C'[q]?=if k * sz<=q/\q<k * sz+us.length then us[q-k * sz]? else cur[q]?:=by
  intro q;have:C'[q]?=(cur.toList.take (k * sz)++us++cur.toList.drop (k * sz+us.length))[q]?:=by simp[C']
  rw[this]
  split
  .rename_i e
   rw[ZE,QU (by simp;omega),QJ (by simp;omega)];congr 1;simp;omega
  .rename_i e
   by_cases hi:q<k * sz
   .rw[ZE,QJ (by simp;omega),QL,QE hi];simp
   .rw[QU (by simp;omega),XL,<-QG]
    congr 1;simp;omega
 let ys:List Value:=C'.toList.take (m * sz)
 have xD:ys.length=m * sz:=by simp[ys,mY];omega
 have qG:∀q,q<m * sz->ys[q]?=if k * sz<=q then us[q-k * sz]? else xs[q]?:=by
  intro q hq;simp only[ys];rw[QL,QE hq,QG,kI]
  by_cases h1:k * sz<=q
  .rw[QE ⟨h1,by rw[uX];omega⟩,QE h1]
  .rw[QD (λh=>h1 h.1),QD h1,<-bZ,QL,QE hq];simp
 have iM:fr=(0,0)\/cur.size<=fr.1:=by
  rcases cI with h|⟨_,h⟩
  .exact .inl h
  .rw[h];exact .inr (QK _)
 have pP:=Dt (P:=P) b (k * sz) e fr us 0 cur w nO iM (by simpa using lV) xJ;simp only[ZA]at pP;have aG:(execOp a.eval o).run P w=.ok (.value (.tuple #[])) (w.setRow b C'):=by
  have:(Builtin.clear_ #[t] o.type #[a.eval x]).run P w=.ok (.tuple #[]) (w.setRow b C'):=by
   rw[q3];have aV:c1≠k:=by omega
   obtain⟨d,hd⟩:∃d,m-k=d+1:=⟨m-k-1,by omega⟩;have lF:(Builtin.zeroCells z.cells (d+1)).toList=us:=by rw[iJ,hd]
   simp only[PT,QD aV,QO,add_lit,XD,hd];simp[Builtin.clear_,run_underlying hu,xC,lF,pP,C']
  simp[execOp,ho,resolve,aQ,e1,e2,invoke,builtin,this]
 have eu:∀c∈te.zero,Ak c=true:=by
  simp only[Ak]at gB;exact (Ck _).1 gB
 have aP:Gx E w f' m sz ys:=by
  refine⟨λi hi=>?_,λi j s u hi hs hu=>?_⟩
  .by_cases fj:i<k
   .rw[oP i (by omega)];exact k5.1 i hi
   .rw[iR i (by omega),mF,aM]
  .have hj:j<sz:=by
    by_cases fj:i<k
    .rw[oP i (by omega)]at hs
     rw[<-k5.1 i hi];exact (List.getElem?_eq_some_iff.1 hs).1
    .rw[iR i (by omega)]at hs
     have:=(List.getElem?_eq_some_iff.1 hs).1;rw[mF,aM]at this;exact this
   have eP:i * sz+j<m * sz:=by
    have:(i+1) * sz<=m * sz:=QH _ hi;rw[XJ]at this;omega
   rw[qG _ eP]at hu
   by_cases fj:i<k
   .rw[oP i (by omega)]at hs
    have:(i+1) * sz<=k * sz:=QH _ fj;rw[XJ]at this;rw[QD (by omega)]at hu;exact k5.2 i j s u hi hs hu
   .rw[iR i (by omega)]at hs
    have h3:k * sz<=i * sz:=QH _ (by omega);rw[QE (by omega)]at hu;have h4:i * sz+j-k * sz=(i-k) * sz+j:=by
     have:i * sz=k * sz+(i-k) * sz:=by rw[<-XJ];congr 1;omega
     omega
    have h5:(i-k) * sz+j<(m-k) * sz:=by omega
    rw[h4,GP _ h5]at hu;have h6:((i-k) * sz+j) % sz=j:=by rw[Nat.add_comm,Nat.add_mul_mod_self_right,VG hj]
    rw[h6]at hu;simp only[Option.some.injEq]at hu;have hjz:j<z.cells.toList.length:=by simp[fS];exact hj
    have hzj:z.cells.toList[j]?=some u:=by
     rw[<-hu,QC,QA hjz];rfl
    exact (lE.2 j s u hs hzj).fK (eu s (QF hs)) (jT u (QF hzj))
 have xE:∀u∈ys,u.oneCell'=true:=by
  intro u hu;obtain⟨q,hq⟩:=List.mem_iff_getElem?.1 hu;have xR:q<m * sz:=by rw[<-xD];exact (List.getElem?_eq_some_iff.1 hq).1
  rw[qG q xR]at hq
  split at hq
  .exact xJ u (QF hq)
  .exact k4 u (QF hq)
 have cA:Cu (w.setRow b C') gr e sz (.slice (some ⟨b,0,none⟩) m c1) (m+0) ys:=by
  refine⟨xD,.inr ⟨b,c1,C',fr,rfl,setRow_heap w b cur C' e fr nO,?_,pQ,fX,by rw[mY];exact cV,rfl⟩⟩;rw[mY];exact cI
 obtain⟨E',x1,x2,x3,x4,x5⟩:=Jz (h:=h) (e:=e) (sz:=sz) (n:=m) (m:=0) (f':=f') st (.inr ⟨⟨_,_,_,bN⟩,k1,kz,k6⟩) k2.shape cA xE
  (.inl ⟨rfl,⟨rfl,rfl,rfl,by simp,λk _ hk=>setRow_other w b k C' (λe=>hk (by rw[e];rfl))⟩⟩) (λ_ _=>rfl) (nt':=n0) (by simpa using k3) (by simpa using aP)
 unfold Oper.wp;rw[aG];exact hK _ _ E' x1 x2 x3 (.tup rfl (by simp))
end
section
variable {P:Program} {cx:Cx} {σ:Sy} {T:List Nat} {o:Oper} {K:Out->Prop}
theorem Vd(hc:Az P cx){src dst e:TypeId}{x:Operand}(ho:o.op=.convert src dst x){ts td te:TI}(lI:look src cx.tt=some ts)(zS:ts.k=.string)(uD:look dst cx.tt=some td)(pG:td.k=.slice e)(hle:look e cx.tt=some te)(mT:te.k=.int .u8)
  {s:List UInt8} (hv:rd cx σ T x=some (.str s)) (hlen:Ba (Ac σ.gm T)->s.length<=maxLen):Local P cx.gl σ T o ⟨.sl (.l false) (.len s) 1 (dY s),[],[],[]⟩:=by
 intro B N E a w ff hf hg st ag bJ hT K' Q hK;have hx:=(Aa hv hg st (Aj ag (by simp[ho,Op.operands])) hT).dD;have hb:=st.base;have aG:=run_bytes_of_string (P:=P) w src dst e (bytes s) ((hc.ti lI).string zS) ((hc.ti uD).slice pG) ((hc.ti hle).int mT);obtain⟨C,hC⟩:∃C,C=bytesRow (bytes s) (grownCap w (bytes s).size 0 e):=⟨_,rfl⟩;rw[<-hC]at aG;obtain⟨w',iV⟩:∃w',w'=w.drew.alloc (.cells C e (C.size,C.size+1)):=⟨_,rfl⟩;rw[<-iV]at aG
 let E':Env:=⟨E.β,E.τ,E.O,E.κ,E.ζ,λb o=>E.I b o\/(b=w.heap.size/\o<s.length)⟩
 have hold:∀b,b<w.heap.size->w'.heap[b]?=w.heap[b]?:=λb aA=>by rw[iV];exact RowKit.Below.heap_alloc w.drew _ b aA
 have bV:w'.heap[w.heap.size]?=some (.cells C e (C.size,C.size+1)):=by rw[iV];show (w.heap.push _)[w.heap.size]?=_;simp
 have rC:∀(p:Addr),p.block<w.heap.size->w'.cell? p=w.cell? p:=λp hp=>World.cell?_of_block (w:=w) (hold _ hp);have jN:Ext E w E' w':=⟨λ_ _ h=>h,λ_ _ h=>.inl h,λ_ _ h=>h,λ_ _ h=>h,λb o h=>.inl h,λb o h=>rC _ (hb.eJ b o h)⟩;have aM:w'.heap.size=w.heap.size+1:=by rw[iV];show (w.heap.push _).size=_;simp
 have aB:B8 B E' w':=by
  refine⟨by rw[iV];exact hb.os,by rw[iV];exact hb.tape,by rw[iV];exact hb.output,by have:=hb.size;omega,λb aA hX=>?_,λb o hi=>?_,λb o hi=>?_,λb o hi=>?_,λb h hO=>?_,hb.cS.ext jN⟩
  .rw[hold b (by have:=hb.size;omega)];exact hb.old b aA hX
  .obtain⟨i1,i2⟩:=hb.I0 b o hi
   exact⟨.inl i1,by rw[rC _ (hb.eJ b o i1)];exact i2⟩
  .rcases hi with hi|⟨rfl,_⟩
   .have:=hb.eJ b o hi;omega
   .omega
  .rcases hi with hi|⟨rfl,_⟩
   .exact hb.cE b o hi
   .exact .inr (.inl hb.size)
  .obtain⟨o1,o2⟩:=hb.dG b h hO
   exact⟨by omega,o2⟩
 have lL:(bytes s).size=s.length:=by simp[bytes,ByteArray.size]
 unfold Oper.wp;have hex:(execOp a.eval o).run P w=.ok (.value (.slice (some ⟨w.heap.size,0,none⟩) (bytes s).size (grownCap w (bytes s).size 0 e))) w':=by
  simp only[execOp,ho,hx,Sem.run_bind];rw[aG];rfl
 rw[hex];refine hK _ w' E' jN aB (λk=>bO.keep jN (st.heap k) rfl rfl rfl rfl λb hO=>⟨hO,hold b (A4 hb hO),λo hi=>?_⟩) (.ro ?_)
 .rcases hi with hi|⟨rfl,_⟩
  .exact hi
  .exact absurd (A4 hb hO) (by omega)
 .refine .sl (λi _=>.int .u8 ((s.getD i 0).toNat:Int)) rfl ?_ ?_ ?_ (λ_=>rfl) (λi hi=>rfl) (λi j hi hj=>rfl) (λi j hi hj=>?_) (λi j s' hi hs=>?_)
  .show ((s.length:Nat):Int)=_
   rw[lL]
  .exact grownCap_ge ..
  .exact grownCap_le_maxLen _ _ _ _ (by rw[lL];exact hlen hT)
  .have IA:j=0:=by omega
   subst IA;rw[lL]at hi;refine⟨?_,.inr ⟨rfl,by simpa using hi⟩⟩;have hCi:C[i]?=some (.int .u8 ((s.getD i 0).toNat:Int)):=by
    rw[hC];simp[bytesRow,bytes,Array.getElem?_append,hi]
   simp[World.cell?,bV,hCi]
  .cases j with
   |zero=>simp[dY]at hs;subst hs;exact .int rfl
   |succ j=>simp[dY]at hs
def cellNat:List SV->Nat
 | [.int _ t]=>t.den.toNat
 |_=>0
theorem Ih{n:Int}{f:Nat->List SV}(hb:Hc n f):∃r,Lw r n f:=by
 have h0:=hb.nn;refine⟨(List.range n.toNat).map λi=>UInt8.ofNat (cellNat (f i)),by simp;omega,λi t hi ht=>?_⟩;obtain⟨t',BJ,h1,h2⟩:=hb.h i hi;rw[ht]at BJ;simp only[List.cons.injEq,SV.int.injEq,true_and,and_true]at BJ;subst BJ;have aA:i<n.toNat:=by omega
 simp[aA,ht,cellNat];omega
theorem K9(hc:Az P cx){src dst e:TypeId}{x:Operand}(ho:o.op=.convert src dst x){ts td te:TI}(lI:look src cx.tt=some ts)(zS:ts.k=.slice e)(uD:look dst cx.tt=some td)(pG:td.k=.string)(hle:look e cx.tt=some te)(mT:te.k=.int .u8)
  {nl:BT} {n:ST} {f:Nat->List SV} (hv:rd cx σ T x=some (.sl nl n 1 f)\/∃h,rd cx σ T x=some (.eD nl n 1 f h)) {r:List UInt8} (hr:Ba (Ac σ.gm T)->Hc n.den f/\Lw r n.den f):Local P cx.gl σ T o ⟨.str r,[],[],[]⟩:=by
 intro B N E a w ff hf hg st ag bJ hT;obtain⟨hb,hr⟩:=hr hT;have hx:RO E.I w (.sl nl n 1 f) (a.eval x):=by
  rcases hv with hv|⟨h,hv⟩
  .cases Aa hv hg st (Aj ag (by simp[ho,Op.operands])) hT with
   |ro h=>exact h
  .cases Aa hv hg st (Aj ag (by simp[ho,Op.operands])) hT with
   |ro h=>cases h
   |eD h _=>exact h
 refine Ae st (v:=.string (bytes r)) ?_ rfl (.ro (.str rfl));simp only[execOp,ho,Sem.run_bind];have iJ:=(hc.ti lI).slice zS;have vp:=(hc.ti uD).string pG;have vo:=(hc.ti hle).int mT
 generalize a.eval x=vx at hx
 cases hx with
 |slnil h hn =>
  have:r=[]:=QQ (by have:=hr.len;omega);subst this;simp[convert,run_underlying iJ,run_underlying vp,run_underlying vo,Conv.bytesToString,bytes];rfl
 |sl g h hn dH fX hs hl h1 aK aY =>
  rename_i ad m cap;have zP:r.length=m:=by have:=hr.len;omega
  have:=run_convert_bytes_back (P:=P) w src dst e ad cap r iJ vo vp (λj hj=>by
   have vC:j<m:=by omega
   obtain⟨t,ht,_⟩:=hb.h j (by omega);have e1:=hr.row j t (by omega) ht;have mW:=(aK j 0 vC (by omega)).1;have eX:=aY j 0 (.int .u8 t) vC (by rw[ht];rfl);have BY:g j 0=.int .u8 t.den:=(Rel.ro (E:=E) eX).aW;rw[BY]at mW;rw[QC,QA hj]at e1;simp only[XB]at e1;rw[e1,<-mW];have NY:=hs (by omega);obtain⟨ab,ao,asp⟩:=ad;simp only at NY;subst NY;simp[Addr.add]
   split
   .rename_i IA;subst IA;simp
   .rfl)
  rw[zP]at this;rw[this];rfl
end
section
variable {P:Program} {cx:Cx} {σ:Sy} {T:List Nat} {o:Oper}
theorem Bm.map{t:Nat}{ti:TI}(h:Bm P t ti){k e:TypeId}(hk:ti.k=.map k e):P.underlying t=some (.map k e):=by
 obtain⟨d,hd,hb⟩:=h.jF;rw[hk]at hb;cases d<;>simp only[Bp,QR,XI,QB]at hb;rw[hd,hb.1,hb.2]
theorem bytes_inj{s t:List UInt8}:bytes s=bytes t↔s=t:=⟨λh=>by cases h;rfl,λh=>by rw[h]⟩
theorem bytes_beq(s t:List UInt8):(bytes s==bytes t)=decide (s=t):=by
 rw[ZC,decide_eq_true_iff];constructor
 .intro h
  have h:((bytes s).data==(bytes t).data)=true:=h;rw[XI]at h;have:=congrArg Array.toList h;simpa[bytes] using this
 .rintro rfl
  show ((bytes s).data==(bytes s).data)=true;simp
def C4:List MapEntry->List UInt8->Option (Nat×Value)
 | [],_=>none
 |e :: es,s=>match e.key with
  |.string x=>if x=bytes s then some (0,e.val) else (C4 es s).map λp=>(p.1+1,p.2)
  |_=>(C4 es s).map λp=>(p.1+1,p.2)
def Ap4(es:List MapEntry):Prop:=∀e∈es,∃s v,e.key=.string (bytes s)/\e.val=.bool v
theorem Y0:∀(es:List MapEntry) (s:List UInt8) (i:Nat),Ap4 es->Instr.findNow .string (.string (bytes s)) es i=some ((C4 es s).map λp=>(i+p.1,p.2))
 | [],s,i,_=>rfl
 |e :: es,s,i,h=>by
  obtain⟨k,v,hk,hv⟩:=h e (QY ..);have ih:=Y0 es s (i+1) λe he=>h e (QX _ he);simp only[Instr.findNow,hk,Instr.sameNow,C4,bytes_beq]
  by_cases hs:s=k
  .subst hs;simp
  .have h2:¬bytes k=bytes s:=λe=>hs (bytes_inj.1 e).symm
   simp only[hs,decide_false,QD h2,ih];cases C4 es s with
   |none=>rfl
   |some p=>simp;omega
theorem J7:∀ {es:List MapEntry} {s:List UInt8} {p:Nat×Value},C4 es s=some p->∃e,es[p.1]?=some e/\e.key=.string (bytes s)/\e.val=p.2
 | [],s,p,h=>by cases h
 |e :: es,s,p,h=>by
  simp only[C4]at h
  split at h
  .rename_i x hx
   split at h
   .rename_i kB
    cases h;exact⟨e,rfl,by rw[hx,kB],rfl⟩
   .obtain⟨q,hq,rfl⟩:=Option.map_eq_some_iff.1 h
    obtain⟨e',h1,h2⟩:=J7 hq;exact⟨e',by simpa using h1,h2⟩
  .obtain⟨q,hq,rfl⟩:=Option.map_eq_some_iff.1 h
   obtain⟨e',h1,h2⟩:=J7 hq;exact⟨e',by simpa using h1,h2⟩
theorem Rt:∀(es:List MapEntry) (s:List UInt8),Fj es s=match C4 es s with|some (_,.bool v)=>v|_=>false
 | [],s=>rfl
 |e :: es,s=>by
  have ih:=Rt es s;have hr:Fj es s=match (C4 es s).map (λp=>(p.1+1,p.2)) with|some (_,.bool v)=>v|_=>false:=by
   rw[ih];cases C4 es s with
   |none=>rfl
   |some p=>obtain⟨i,v⟩:=p;cases v<;>rfl
  cases hk:e.key with
  |string x =>
   simp only[Fj,C4,hk]
   by_cases hx:x=bytes s
   .rw[QE hx,QE hx]
    cases e.val<;>rfl
   .rw[QD hx,QD hx];exact hr
  |_=>simp only[Fj,C4,hk];exact hr
theorem No:∀(es:List MapEntry) (s k:List UInt8) (b:Bool) (n:Nat),C4 es s=none->Fj (es++[⟨.string (bytes s),.bool b,n⟩]) k=if k=s then b else Fj es k
 | [],s,k,b,n,_=>by
  simp only[List.nil_append,Fj]
  by_cases h:k=s
  .subst h;simp
  .have h2:¬bytes s=bytes k:=λe=>h (bytes_inj.1 e).symm
   rw[QD h2,QD h]
 |e :: es,s,k,b,n,h=>by
  simp only[C4]at h;simp only[List.cons_append,Fj]
  split at h
  .rename_i x hx
   split at h
   .cases h
   .rename_i kB
    have ih:=No es s k b n (by simpa using h);simp only[hx]
    by_cases hk:x=bytes k
    .rw[QE hk,QE hk]
     have:k≠s:=λe=>kB (by rw[hk,e]);rw[QD this]
    .rw[QD hk,QD hk,ih]
  .have ih:=No es s k b n (by simpa using h)
   cases hx:e.key<;>simp only[ih]<;>simp_all
theorem Yk:∀(es:List MapEntry) (s k:List UInt8) (b:Bool) (i:Nat) (v:Value),C4 es s=some (i,v)->Fj (es.modify i λe=>{ e with key:=.string (bytes s),val:=.bool b }) k=if k=s then b else Fj es k
 | [],s,k,b,i,v,h=>by cases h
 |e :: es,s,k,b,i,v,h=>by
  simp only[C4]at h;have rest:∀(p:Nat×Value),C4 es s=some p->(∀x,e.key=.string x->¬x=bytes s)->Fj ((e :: es).modify (p.1+1) λe=>{ e with key:=.string (bytes s),val:=.bool b }) k=if k=s then b else Fj (e :: es) k:=by
   intro p hp aV;have ih:=Yk es s k b p.1 p.2 hp;rw[List.modify_succ_cons];simp only[Fj];cases hx:e.key with
   |string x =>
    simp only
    by_cases hk:x=bytes k
    .rw[QE hk,QE hk]
     have:k≠s:=λe2=>aV x hx (by rw[hk,e2]);rw[QD this]
    .rw[QD hk,QD hk,ih]
   |_=>simp only[ih]
  split at h
  .rename_i x hx
   split at h
   .rename_i kB
    cases h;rw[List.modify_zero_cons];simp only[Fj]
    by_cases hk:k=s
    .subst hk;simp
    .have h2:¬bytes s=bytes k:=λe=>hk (bytes_inj.1 e).symm
     have h3:¬x=bytes k:=λe=>h2 (by rw[<-kB,e]);rw[QD h2,QD hk,hx];simp only;rw[QD h3]
   .rename_i kB
    obtain⟨q,hq,e2⟩:=Option.map_eq_some_iff.1 h;cases e2;exact rest q hq λy hy=>by rw[hx]at hy;cases hy;exact kB
  .rename_i hx
   obtain⟨q,hq,e2⟩:=Option.map_eq_some_iff.1 h;cases e2;exact rest q hq λy hy=>absurd hy (by intro e3;exact hx _ e3)
theorem Hn{t:TypeId}(ht:P.underlying t=some .string)(b:Bool)(s:ByteArray)(w:World):(Instr.checkKey b 10000 t (.string s)).run P w=.ok () w:=by
 have h:Instr.checkKey b 10000 t (.string s)=Instr.checkKey b (9999+1) t (.string s):=rfl;rw[h,Instr.checkKey];simp only[Sem.run_bind,run_underlying ht,Result.andThen_ok,Sem.run_pure]
theorem Il{t:TypeId}(ht:P.underlying t=some .string){es:List MapEntry}(h:Ap4 es)(s:List UInt8)(w:World):(Instr.findKey t (.string (bytes s)) es).run P w=.ok (C4 es s) w:=by
 simp only[Instr.findKey,Sem.run_bind,run_underlying ht,Result.andThen_ok,Y0 es s 0 h,Sem.run_pure];cases C4 es s with
 |none=>rfl
 |some p=>simp
theorem Jt{w:World}{r:Nat}{es:Array MapEntry}{c:Nat}(hb:w.heap[r]?=some (.map es c)):(getObj r).run P w=.ok (.map es c) w:=by
 simp[getObj,Sem.run,hb]
theorem Og{w:World}{r:Nat}{es:Array MapEntry}{c:Nat}{o':Obj}(hb:w.heap[r]?=some (.map es c)):(setObj r o').run P w=.ok () { w with heap:=w.heap.setIfInBounds r o' }:=by
 simp[setObj,Sem.run,hb]
theorem Aih{B:Bs}{N:Nat}{E:Env}{a:Act}{w:World}{ff:Nat->SG}{hf:Nat->Hl}(st:St B N E a w ff hf){h:Nat}(bH:hf h=.fresh)(o':Obj)(l:Hl)
  (hl:∀(E':Env) (w':World),E'.β h=some w.heap.size->E'.O w.heap.size=some h->w'.heap[w.heap.size]?=some o'->(∀o,¬E'.I w.heap.size o)->bO E' w' h l):
  ∃E',Ext E w E' (w.alloc o')/\B8 B E' (w.alloc o')/\(∀k,bO E' (w.alloc o') k (aL hf h l k))/\E'.β h=some w.heap.size/\∀b k,E'.O b=some k->E.O b=some k\/b=w.heap.size:=by
 have hb:=st.base;have cI:=st.heap h;rw[bH]at cI;obtain⟨f1,f2,_,_⟩:=cI
 let E':Env:=⟨aL E.β h (some w.heap.size),E.τ,aL E.O w.heap.size (some h),E.κ,E.ζ,E.I⟩
 have hx:Ext E w E' (w.alloc o'):=by
  refine⟨λk b hk=>?_,λ_ _ h=>.inl h,λ_ _ h=>h,λ_ _ h=>h,λ_ _ h=>h,λb o hi=>Co (hb.eJ b o hi)⟩;show aL E.β h (some w.heap.size) k=some b;unfold aL
  by_cases e:k=h
  .subst e;rw[f1]at hk;cases hk
  .rw[QD e];exact hk
 refine⟨E',hx,⟨hb.os,hb.tape,hb.output,?_,?_,?_,?_,?_,?_,hb.cS.ext hx⟩,λk=>?_,by simp[E',aL],λb k hO=>by
  have hO:aL E.O w.heap.size (some h) b=some k:=hO;unfold aL at hO
  split at hO
  .rename_i e;exact .inr e
  .exact .inl hO⟩
 .have:=hb.size;simp;omega
 .intro b aA hX;rw[C3 (by have:=hb.size;omega)];exact hb.old b aA hX
 .intro b o hi
  obtain⟨i1,i2⟩:=hb.I0 b o hi;exact⟨i1,by rw[Co (hb.eJ b o i1)];exact i2⟩
 .intro b o hi;have:=hb.eJ b o hi;simp;omega
 .exact hb.cE
 .intro b k hO
  have hO:aL E.O w.heap.size (some h) b=some k:=hO;unfold aL at hO
  split at hO
  .rename_i e;subst e;have:=hb.size;simp;exact .inl this
  .obtain⟨o1,o2⟩:=hb.dG b k hO;simp;exact⟨by omega,o2⟩
 .by_cases e:k=h
  .subst e
   simp only[aL,QE];refine hl E' _ (by simp[E',aL]) (by simp[E',aL]) (heap_alloc_new w _) λo hi=>?_;have:=hb.eJ _ _ hi;omega
  .simp only[aL,QD e]
   refine bO.keep hx (st.heap k) (by simp[E',aL,e]) rfl rfl rfl λb hO=>?_;have aA:=A4 hb hO;exact⟨by simp[E',aL,UJ aA];exact hO,C3 aA,λ_ h=>h⟩
theorem Js(w:World)(r:Nat)(o:Obj)(k:Nat)(hr:r<w.heap.size):({ w with heap:=w.heap.setIfInBounds r o }:World).heap[k]?=if k=r then some o else w.heap[k]?:=by
 show (w.heap.setIfInBounds r o)[k]?=_
 by_cases e:k=r
 .subst e;rw[QE rfl,ZY hr]
 .rw[QD e,XX (λh=>e h.symm)]
theorem Ud(w:World)(r:Nat)(o:Obj){b off:Nat}(aV:b≠r):({ w with heap:=w.heap.setIfInBounds r o }:World).cell? ⟨b,off,none⟩=w.cell? ⟨b,off,none⟩:=by
 unfold World.cell?;have:({ w with heap:=w.heap.setIfInBounds r o }:World).heap[b]?=w.heap[b]?:=by
  show (w.heap.setIfInBounds r o)[b]?=_;rw[XX (λh=>aV h.symm)]
 rw[this]
theorem Ti{B:Bs}{N:Nat}{E:Env}{a:Act}{w:World}{ff:Nat->SG}{hf:Nat->Hl}(st:St B N E a w ff hf){h b:Nat}(hO:E.O b=some h)(hI:∀o,¬E.I b o)(o':Obj)(l:Hl)
  (hl:bO E { w with heap:=w.heap.setIfInBounds b o' } h l):
  Ext E w E { w with heap:=w.heap.setIfInBounds b o' }/\B8 B E { w with heap:=w.heap.setIfInBounds b o' }/\∀k,bO E { w with heap:=w.heap.setIfInBounds b o' } k (aL hf h l k):=by
 have hb:=st.base;have gg:=A4 hb hO;have hx:Ext E w E { w with heap:=w.heap.setIfInBounds b o' }:=⟨λ_ _ h=>h,λ_ _ h=>.inl h,λ_ _ h=>h,λ_ _ h=>h,λ_ _ h=>h,λb2 o hi=>Ud w b o' (λe=>by subst e;exact hI o hi)⟩;have hX:=(hb.dG b h hO).2;refine⟨hx,⟨hb.os,hb.tape,hb.output,by simpa using hb.size,?_,?_,?_,hb.cE,?_,hb.cS⟩,λk=>?_⟩
 .intro b2 aA kN
  rw[Js w b o' b2 gg]
  by_cases e:b2=b
  .subst e;rcases hX with hX|hX
   .omega
   .exact absurd hX kN
  .rw[QD e];exact hb.old b2 aA kN
 .intro b2 o hi
  obtain⟨i1,i2⟩:=hb.I0 b2 o hi;exact⟨i1,by rw[hx.cell b2 o i1];exact i2⟩
 .intro b2 o hi;have:=hb.eJ b2 o hi;simpa using this
 .intro b2 k hO;have:=hb.dG b2 k hO;simpa using this
 .by_cases e:k=h
  .subst e;simp only[aL,QE];exact hl
  .simp only[aL,QD e]
   refine bO.keep hx (st.heap k) rfl rfl rfl rfl λb2 vK=>⟨vK,?_,λ_ h=>h⟩;rw[Js w b o' b2 gg,QD];intro e2;subst e2;rw[hO]at vK;exact e (Option.some.inj vK).symm
theorem Rel.qE{E:Env}{w:World}{h:Nat}{v:Value}(hr:Rel E w (.bP h) v):∃b,E.β h=some b/\v=.map (some b):=by
 cases hr with
 |ro h=>cases h
 |bP hb hv=>exact⟨_,hb,hv⟩
theorem Xj{t:TypeId}(ho:o.op=.makeMap t none):Local P cx.gl σ T o ⟨.bP (Ag σ.hp),[.put (Ag σ.hp) (.dC λ_=>false)],[],[]⟩:=by
 intro B N E a w ff hf _ st _ bJ _ K' Q hK;have bH:hf (Ag σ.hp)=.fresh:=by
  have:=bJ.gF _ (List.mem_singleton.2 rfl);simp only[zY,Ap,Ah,Af]at this;rw[Af,this];simp
 obtain⟨E',hx,hb,hh,gA,_⟩:=Aih st bH (.map #[] 0) (.dC λ_=>false) λE' w' h1 h2 h3 h4=>⟨_,#[],0,h1,h2,h3,by simp,λs=>rfl,h4⟩;unfold Oper.wp;have:(execOp a.eval o).run P w=.ok (.value (.map (some w.heap.size))) (w.alloc (.map #[] 0)):=by
  simp[execOp,ho,Instr.makeMap,newObj,Sem.run]
 rw[this];exact hK _ _ E' hx hb hh (.bP gA rfl)
theorem Bm.uR{t:Nat}{ti:TI}(h:Bm P t ti)(hk:ti.k=.bool)(hz:ti.zero=[.bool (.l false)])(w:World):(zeroValue t).run P w=.ok (.bool false) w:=by
 obtain⟨i,z,hi,h1,h2,h3,h4,h5⟩:=h.info;have e:z=.bool false:=by
  rw[hz]at h4;rw[hk]at h5;cases z with
  |agg a=>simp[Am7]at h5
  |bool b=>simp[Value.cells,nH,zB]at h4;rw[h4]
  |_=>simp[Value.cells,nH,zB]at h4
 subst e;simp[zeroValue,typeInfo,hi,h3]
theorem Aad(hc:Az P cx){t kt vt:TypeId}{x y:Operand}(ho:o.op=.lookup t x y false){ti tk tv:TI}(hl:look t cx.tt=some ti)(hk:ti.k=.map kt vt)(fc:look kt cx.tt=some tk)(bD:tk.k=.string)(WJ:look vt cx.tt=some tv)(BR:tv.k=.bool)(hzv:tv.zero=[.bool (.l false)])
  {h:Nat} {s:List UInt8} {F:List UInt8->Bool} (hx:rd cx σ T x=some (.bP h)) (hy:rd cx σ T y=some (.str s)) (hh:nth σ.hp h=some (.dC F)):Local P cx.gl σ T o ⟨.bool (.a (F s)),[],[h],[]⟩:=by
 intro B N E a w ff hf hg st ag bJ hT K' Q hK;obtain⟨b,hb,hv⟩:=(Aa hx hg st (Aj ag (by simp[ho,Op.operands])) hT).qE;have hs:=(Aa hy hg st (Aj ag (by simp[ho,Op.operands])) hT).dD;have lW:=st.heap h;rw[bJ.uT h (by simp),Bx hh]at lW;obtain⟨b',es,clock,k1,k2,k3,k4,k5,k6⟩:=lW;obtain rfl:b=b':=Option.some.inj (hb.symm.trans k1);have hu:=(hc.ti hl).map hk;have vn:=(hc.ti fc).string bD;have hz:=(hc.ti WJ).uR BR hzv w;unfold Oper.wp;have nV:(Instr.lookup t (.map (some b)) (.string (bytes s)) false).run P w=.ok (.bool (F s)) w:=by
  simp only[Instr.lookup,Sem.run_bind,run_underlying hu,Result.andThen_ok,Jt k3,Sem.run_pure,Hn vn,Il vn k4];have h1:=k5 s;rw[Rt]at h1;cases hf:C4 es.toList s with
  |none =>
   rw[hf]at h1;simp[hz,<-h1]
  |some p =>
   obtain⟨i,v⟩:=p;obtain⟨e,e1,e2,e3⟩:=J7 hf;obtain⟨_,bv,_,e4⟩:=k4 e (QF e1);rw[hf]at h1;rw[e4]at e3;simp only at e3 h1;subst e3;simp only at h1;simp[h1]
 have:(execOp a.eval o).run P w=.ok (.value (.bool (F s))) w:=by
  simp only[execOp,ho,hv,hs,Sem.run_bind,nV,Result.andThen_ok,Sem.run_pure]
 rw[this];exact hK _ _ E (Ext.refl E w) st.base st.heap (.ro (.bool rfl))
theorem Kk(hc:Az P cx){t kt vt:TypeId}{x y z:Operand}(ho:o.op=.mapUpdate t x y z\/o.op=.insert t x y z){ti tk:TI}(hl:look t cx.tt=some ti)(hk:ti.k=.map kt vt)(fc:look kt cx.tt=some tk)(bD:tk.k=.string)
  {h:Nat} {s:List UInt8} {bt:BT} {F F':List UInt8->Bool} (hx:rd cx σ T x=some (.bP h)) (hy:rd cx σ T y=some (.str s)) (hz:rd cx σ T z=some (.bool bt)) (hh:nth σ.hp h=some (.dC F)) (hF:Ko F' F s bt.den):Local P cx.gl σ T o ⟨.tup [],[.put h (.dC F')],[h],[]⟩:=by
 intro B N E a w ff hf hg st ag bJ hT K' Q hK;have mx:x∈o.op.operands.toList:=by rcases ho with ho|ho<;>simp[ho,Op.operands]
 have my:y∈o.op.operands.toList:=by rcases ho with ho|ho<;>simp[ho,Op.operands]
 have mz:z∈o.op.operands.toList:=by rcases ho with ho|ho<;>simp[ho,Op.operands]
 obtain⟨b,hb,hv⟩:=(Aa hx hg st (Aj ag mx) hT).qE;have hs:=(Aa hy hg st (Aj ag my) hT).dD;have rQ:=(Aa hz hg st (Aj ag mz) hT).bG;have lW:=st.heap h;rw[bJ.uT h (by simp),Bx hh]at lW;obtain⟨b',es,clock,k1,k2,k3,k4,k5,k6⟩:=lW;obtain rfl:b=b':=Option.some.inj (hb.symm.trans k1);have hu:=(hc.ti hl).map hk;have vn:=(hc.ti fc).string bD;have gg:=A4 st.base k2;obtain⟨lM,kZ,aG,HT,aU⟩:∃lM kZ,(Instr.mapUpdate t (.map (some b)) (.string (bytes s)) (.bool bt.den)).run P w=.ok () { w with heap:=w.heap.setIfInBounds b (.map lM kZ) }/\Ap4 lM.toList/\∀k,Fj lM.toList k=F' k:=by
  cases hf:C4 es.toList s with
  |none =>
   refine⟨es.push ⟨.string (bytes s),.bool bt.den,clock⟩,clock+1,?_,λe he=>?_,λk=>?_⟩
   .simp only[Instr.mapUpdate,Sem.run_bind,run_underlying hu,Result.andThen_ok,Jt k3,Hn vn,Il vn k4,hf,Og k3]
   .rw[Array.toList_push,YH,UH]at he
    rcases he with he|rfl
    .exact k4 e he
    .exact⟨s,bt.den,rfl,rfl⟩
   .rw[Array.toList_push,No _ _ _ _ _ hf,hF.h,k5]
  |some p =>
   obtain⟨i,v⟩:=p;obtain⟨e,e1,e2,e3⟩:=J7 hf;have e1':es[i]?=some e:=by simpa using e1
   refine⟨es.modify i λe=>{ e with key:=.string (bytes s),val:=.bool bt.den },clock,?_,λe he=>?_,λk=>?_⟩
   .have cM:(Instr.keyThatStays (.string (bytes s)) (.string (bytes s))).run P w=.ok (.string (bytes s)) w:=by
     have:Instr.sameBits 10000 (.string (bytes s)) (.string (bytes s))=true:=by
      show (bytes s==bytes s)=true;rw[bytes_beq];simp
     simp only[Instr.keyThatStays,this,if_true,Sem.run_pure]
    simp only[Instr.mapUpdate,Sem.run_bind,run_underlying hu,Result.andThen_ok,Jt k3,Hn vn,Il vn k4,hf,e1',QO,XB,e2,cM,Og k3]
   .rw[Array.toList_modify]at he
    obtain⟨j,hj⟩:=List.mem_iff_getElem?.1 he;rw[List.getElem?_modify]at hj;obtain⟨e0,h0,rfl⟩:=Option.map_eq_some_iff.1 hj
    split
    .exact⟨s,bt.den,rfl,rfl⟩
    .exact k4 e0 (QF h0)
   .rw[Array.toList_modify,Yk _ _ _ _ _ _ hf,hF.h,k5]
 have hn:bO E { w with heap:=w.heap.setIfInBounds b (.map lM kZ) } h (.dC F'):=by
  refine⟨b,lM,kZ,hb,k2,?_,HT,aU,k6⟩;rw[Js w b _ b gg,QE rfl]
 obtain⟨x1,x2,x3⟩:=Ti st k2 k6 (.map lM kZ) (.dC F') hn;unfold Oper.wp;have:(execOp a.eval o).run P w=.ok .skip { w with heap:=w.heap.setIfInBounds b (.map lM kZ) }:=by
  rcases ho with ho|ho<;>simp only[execOp,ho,hv,hs,rQ,Sem.run_bind,aG,Result.andThen_ok,Sem.run_pure]
 rw[this];exact hK undef _ E x1 x2 x3 (.tup rfl (by simp))
end
end Go.Sx
