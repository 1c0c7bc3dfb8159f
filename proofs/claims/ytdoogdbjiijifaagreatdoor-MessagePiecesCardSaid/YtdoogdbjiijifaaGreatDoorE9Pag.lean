/- Lemmas of the proof; no conditions. -/
import Derived.Test.YtdoogdbjiijifaaGreatDoorE9Paf
namespace Go.Sx
open Go
section
variable {P:Program} {cx:Cx} {σ:Sy} {T:List Nat} {o:Oper} {K:Out->Prop}
theorem O9{I':Nat->Nat->Prop}{w':World}{e:TypeId}{sz n m:Nat}{v':Value}{xs news:List Value}{f':Nat->List SV}{dJ:BT}{nt':ST}(cJ:w'.ownsRow 0 e sz v' (n+m) (xs++news))(mQ:xs.length=n * sz)
  (eQ:dJ.den=true↔v'=.slice none 0 0) (nE:nt'.den=((n+m:Nat):Int)) (h1:∀u∈xs++news,u.oneCell'=true)
  (hI:∀b o,v'.ownBlock=some b->o<(n+m) * sz->I' b o) (aP:∀b o,v'.ownBlock=some b->o<(n+m) * sz->w'.cell? ⟨b,o,none⟩=(xs++news)[o]?)
  (y5:∀i,i<n->(f' i).length=sz) (iU:∀j,j<m->(f' (n+j)).length=sz)
  (bP:∀(i j:Nat) (s:SV) (u:Value),i<n->(f' i)[j]?=some s->xs[i * sz+j]?=some u->RO I' w' s u) (bZ:∀(i j:Nat) (s:SV) (u:Value),i<m->(f' (n+i))[j]?=some s->news[i * sz+j]?=some u->RO I' w' s u):
  RO I' w' (.sl dJ nt' sz f') v':=by
 have hlen:(xs++news).length=(n+m) * sz:=cJ.1;have IV:news.length=m * sz:=by rw[QF,mQ,XM]at hlen;omega
 rcases cJ.2 with⟨rfl,e0⟩|⟨g,cap,cur,rfl,_,tm,rE,fI,cY,bW⟩
 .exact .slnil (eQ.2 rfl) (by rw[nE,e0];rfl)
 .have eH:∀i j,i<n+m->j<sz->i * sz+j<(n+m) * sz:=by
   intro i j hi hj;have:(i+1) * sz<=(n+m) * sz:=QR _ hi;rw[XM]at this;omega
  have mE:∀i,i<n+m->(f' i).length=sz:=by
   intro i hi
   by_cases fA:i<n
   .exact y5 i fA
   .have:=iU (i-n) (by omega)
    rwa [show n+(i-n)=i by omega]at this
  refine .sl (λi j=>(xs++news).getD (i * sz+j) undef) ?_ nE rE fI (λ_=>rfl) mE (λi j hi hj=>?_) (λi j hi hj=>⟨?_,?_⟩) (λi j s hi hs=>?_)
  .cases hb:dJ.den with
   |false=>rfl
   |true=>exact absurd (eQ.1 hb) (by simp)
  .refine h1 _ ?_
   have:=eH i j hi hj;rw[QD,QB (by rw[hlen];exact this)];exact XO _
  .have aC:=eH i j hi hj
   simp only[XF];rw[aP g _ rfl aC,QD,QB (by rw[hlen];exact aC)];rfl
  .simp only[XF]
   exact hI g _ rfl (eH i j hi hj)
  .have hj:j<sz:=by rw[<-mE i hi];exact (List.getElem?_eq_some_iff.1 hs).1
   have aC:=eH i j hi hj
   by_cases fA:i<n
   .have HS:i * sz+j<xs.length:=by
     rw[mQ];have:(i+1) * sz<=n * sz:=QR _ fA;rw[XM]at this;omega
    refine bP i j s _ fA hs ?_;rw[QD,QM HS,QB HS];rfl
   .have e1:i * sz+j=n * sz+((i-n) * sz+j):=by
     have:i * sz=n * sz+(i-n) * sz:=by rw[<-XM];congr 1;omega
     omega
    have hni:(i-n) * sz+j<news.length:=by
     rw[IV];have:(i-n+1) * sz<=m * sz:=QR _ (by omega);rw[XM]at this;omega
    refine bZ (i-n) j s _ (by omega) (by rw[show n+(i-n)=i by omega];exact hs) ?_;rw[QD,e1,QP (by omega),mQ,ZL,QB hni];rfl
theorem D1{c:Call}(ho:o.op=.call c)(aR:c.callee=.builtin .append){x y:Operand}{t:TypeId}(hx:c.args.toList=[x,y])(ht:c.argTypes.toList=[t,t]){a:Act}{w w':World}{v':Value}(hr:(Builtin.append_ #[t,t] o.type #[a.eval x,a.eval y]).run P w=.ok v' w'):
  (execOp a.eval o).run P w=.ok (.value v') w':=by
 have e1:c.args=#[x,y]:=XV (by simpa using hx);have e2:c.argTypes=#[t,t]:=XV (by simpa using ht);simp[execOp,ho,resolve,aR,e1,e2,invoke,builtin,hr]
theorem Ql(hc:A4 P cx){c:Call}(ho:o.op=.call c)(aR:c.callee=.builtin .append){x y:Operand}{t e sz:Nat}{te ti:TI}(hx:c.args.toList=[x,y])(ht:c.argTypes.toList=[t,t])(aC:look t cx.tt=some ti)(hk:ti.k=.slice e)(hle:look e cx.tt=some te)(bC:te.size=sz)(hz:0<sz)
  {sz0:Nat} {f0:Nat->List SV} (mo:rd cx σ T x=some (.sl (.l true) (.l 0) sz0 f0)) {s:SV} (mm:rd cx σ T y=some s) {m:ST} {g:Nat->List SV} (aJ:rowOf sz s=some (m,g)) (hb:m.den * te.bytes<=140737488355328/\m.den<=9223372036854775807)
  {f':Nat->List SV} {n':Int} (yU:n'=m.den) (dA:∀j:Nat,(j:Int)<m.den->f' j=g j):Local P cx.gl σ T o ⟨.dO (Pk .eql m (.l 0)) (.a n') sz f' (Ai σ.hp),[.put (Ai σ.hp) (.tail e (.a n') sz)],[],[]⟩:=by
 intro B N E a w ff hf hg st ag bL hT K' Q hK;have mx:x∈o.op.operands.toList:=by simp[ho,Op.operands,Call.operands,aR,hx]
 have my:y∈o.op.operands.toList:=by simp[ho,Op.operands,Call.operands,aR,hx]
 have iR:=(Ab mo hg st (Ak ag mx) hT).bF;have uJ:=Ab mm hg st (Ak ag my) hT;have VA:a.eval x=.slice none 0 0:=by
  rcases iR.bF with⟨h,_⟩|⟨_,_,_,_,_,h,_⟩
  .exact h
  .simp[BT.den]at h
 obtain⟨k,news,r1,r2,r3,r4,r5⟩:=Jm aJ uJ;have bN:hf (Ai σ.hp)=.fresh:=by
  have:=bL.fR _ (List.mem_singleton.2 rfl);simp only[fx,Aq,Aj,Ag]at this;rw[Ag,this];simp
 have jA:k * te.bytes<=140737488355328:=by
  have:=hb.1;rw[r1]at this;have h:((k * te.bytes:Nat):Int)<=140737488355328:=by rw[YX];exact this
  omega
 have bY:=World.ownsRow_nil w 0 e sz;obtain⟨v',w',l1,l2,l3,l4,l5,l6⟩:=N8 (P:=P) (ty:=o.type) ((hc.ti aC).slice hk) (hc.ti hle) bC hz bY r3 (by simpa using r2) (by simpa using jA);obtain⟨E',x1,x2,x3,x4,x5,x6⟩:=Ot (h:=Ai σ.hp) (e:=e) (sz:=sz) st (.inl ⟨bN,rfl⟩) (by simpa using r3.2.1) bY l2 l4 l5 (λ_=>l6) (.a n') (by rw[yU,r1];simp[ST.den]);unfold Oper.wp;rw[D1 ho aR hx ht (a:=a) (w:=w) (w':=w') (v':=v') (by rw[VA];exact l1)];refine hK v' w' E' x1 x2 x3 (.dO ?_ ?_)
 .refine O9 l2 bY.1 ?_ (by rw[yU,r1];simp[ST.den]) (by simpa using r3.2.1) x5 x6 (by intro i hi;omega) (λj hj=>?_) (by intro i j s u hi;omega) (λi j s u hi hs hu=>?_)
  .rw[H9,l3]
   simp only[B6,ST.den,r1,QO,true_and];omega
  .rw[XF,dA j (by rw[r1];omega)];exact r4 j hj
  .rw[XF,dA i (by rw[r1];omega)]at hs
   exact (r5 i j s u hi hs hu).mono x1.I x1.cell
 .obtain⟨a0,c0,rfl⟩:=l5
  refine⟨a0,0+k,c0,x4,?_,λ_=>rfl⟩;simp only[ST.den,yU,r1];omega
theorem O4(hc:A4 P cx){c:Call}(ho:o.op=.call c)(aR:c.callee=.builtin .append){x y:Operand}{t e sz:Nat}{te ti:TI}(hx:c.args.toList=[x,y])(ht:c.argTypes.toList=[t,t])(aC:look t cx.tt=some ti)(hk:ti.k=.slice e)(hle:look e cx.tt=some te)(bC:te.size=sz)(hz:0<sz)
  {nl:BT} {n n0:ST} {f:Nat->List SV} {h:Nat} (mo:rd cx σ T x=some (.dO nl n sz f h)) (hh:nth σ.hp h=some (.tail e n0 sz)) {s:SV} (mm:rd cx σ T y=some s) {m:ST} {g:Nat->List SV} (aJ:rowOf sz s=some (m,g))
  (hb:n.den=n0.den/\(n.den+m.den) * te.bytes<=140737488355328/\n.den+m.den<=9223372036854775807)
  {f':Nat->List SV} {n':Int} (yU:n'=n.den+m.den) (fV:∀i:Nat,(i:Int)<n.den->f' i=f i) (dA:∀i j:Nat,(i:Int)=n.den+j->(j:Int)<m.den->f' i=g j):
  Local P cx.gl σ T o ⟨.dO (Wi nl (Pk .eql m (.l 0))) (.a n') sz f' h,[.put h (.tail e (.a n') sz)],[h],[]⟩:=by
 intro B N E a w ff hf hg st ag bL hT K' Q hK;have mx:x∈o.op.operands.toList:=by simp[ho,Op.operands,Call.operands,aR,hx]
 have my:y∈o.op.operands.toList:=by simp[ho,Op.operands,Call.operands,aR,hx]
 obtain⟨iR,VH⟩:=(Ab mo hg st (Ak ag mx) hT).kX;have uJ:=Ab mm hg st (Ak ag my) hT;obtain⟨k,news,r1,r2,r3,r4,r5⟩:=Jm aJ uJ;have bD:=st.heap h;rw[bL.tX h (List.mem_singleton.2 rfl),Bv hh]at bD;obtain⟨v,nn,xs,k1,k2,k3,k4,k5⟩:=bD;have hv:a.eval x=v:=by
  obtain⟨a0,m0,c0,q1,_,q3⟩:=VH;rw[k1]at q1;cases q1;have:m0=nn:=by
   rcases k2.2 with⟨e1,e2⟩|⟨g0,cap,cur,e1,_⟩
   .cases e1;exact e2.symm
   .cases e1;rfl
  subst this;exact q3 (by rw[hb.1,k3])
 rw[hv]at iR;have gL:n.den=(nn:Int):=by rw[hb.1,k3]
 have jA:(nn+k) * te.bytes<=140737488355328:=by
  have:=hb.2.1;rw[gL,r1]at this;have h:(((nn+k) * te.bytes:Nat):Int)<=140737488355328:=by rw[YX,UT];exact this
  omega
 obtain⟨v',w',l1,l2,l3,l4,l5,l6⟩:=N8 (P:=P) (ty:=o.type) ((hc.ti aC).slice hk) (hc.ti hle) bC hz k2 r3 (by have:=hb.2.2;rw[gL,r1]at this;simp only[maxLen];omega) jA;have mH:∀u∈xs++news,u.oneCell'=true:=λu hu=>by
  rcases List.mem_append.1 hu with hu|hu
  .exact k4 u hu
  .exact r3.2.1 u hu
 have nE:(ST.a n').den=((nn+k:Nat):Int):=by simp only[ST.den,yU,gL,r1];omega
 obtain⟨E',x1,x2,x3,x4,x5,x6⟩:=Ot (h:=h) (e:=e) (sz:=sz) st (.inr ⟨n0,by rw[bL.tX h (List.mem_singleton.2 rfl),Bv hh],k1,k5⟩) mH k2 l2 l4 l5 (λ_=>l6) (.a n') nE;unfold Oper.wp;rw[D1 ho aR hx ht (a:=a) (w:=w) (w':=w') (v':=v') (by rw[hv];exact l1)];refine hK v' w' E' x1 x2 x3 (.dO ?_ ?_)
 .have hold:(v=.slice none 0 0↔nl.den=true)/\(∀i,i<nn->(f i).length=sz)/\∀(i j:Nat) (s:SV) (u:Value),i<nn->(f i)[j]?=some s->xs[i * sz+j]?=some u->RO E.I w s u:=by
   rcases iR.bF with⟨e1,e2,e3⟩|⟨ad,m0,a52,g0,e1,e2,e3,_,_,q4,q5,_,q6,q7⟩
   .have:nn=0:=by omega
    subst this;exact⟨⟨λ_=>e3,λ_=>e1⟩,by intro i hi;omega,by intro i j s u hi;omega⟩
   .have hm:m0=nn:=by omega
    subst hm;refine⟨⟨λe=>by rw[e1]at e;simp at e,λe=>by rw[e2]at e;cases e⟩,q5,λi j s u hi hs hu=>?_⟩;rcases k2.2 with⟨e4,_⟩|⟨g1,cap,cur,e4,_,tm,rE,_,cY,bW⟩
    .rw[e1]at e4;simp at e4
    .rw[e1]at e4
     simp only[Value.slice.injEq,Option.some.injEq]at e4;obtain⟨rfl,_,rfl⟩:=e4;have hj:j<sz:=by rw[<-q5 i hi];exact (List.getElem?_eq_some_iff.1 hs).1
     have hc:=(q6 i j hi hj).1;simp only[XF]at hc;have aC:i * sz+j<m0 * sz:=by
      have:(i+1) * sz<=m0 * sz:=QR _ hi;rw[XM]at this;omega
     rw[cell_of_row w g1 (i * sz+j) cur e (0,0) tm]at hc;rw[<-bW,QN,QC aC]at hu;simp only[QZ]at hu;rw[hu]at hc;rw[Option.some.inj hc];exact q7 i j s hi hs
  obtain⟨o1,o2,o3⟩:=hold;refine O9 l2 k2.1 ?_ nE mH x5 x6 (λi hi=>by rw[fV i (by omega)];exact o2 i hi) (λj hj=>?_) (λi j s u hi hs hu=>?_) (λi j s u hi hs hu=>?_)
  .rw[Md,H9,l3]
   simp only[B6,ST.den,r1,QE,QO];rw[o1];constructor
   .rintro⟨h1,h2⟩;exact⟨h1,by omega⟩
   .rintro⟨h1,h2⟩;exact⟨h1,by omega⟩
  .rw[dA (nn+j) j (by omega) (by omega)];exact r4 j hj
  .rw[fV i (by omega)]at hs
   exact (o3 i j s u hi hs hu).mono x1.I x1.cell
  .rw[dA (nn+i) i (by omega) (by omega)]at hs
   exact (r5 i j s u hi hs hu).mono x1.I x1.cell
 .obtain⟨a0,c0,rfl⟩:=l5
  exact⟨a0,nn+k,c0,x4,by rw[nE];exact ZE _,λ_=>rfl⟩
end
theorem Rel.fK{E:Env}{w:World}{s:SV}{v:Value}(h:Rel E w s v)(hp:An s=true)(h1:v.oneCell'=true):RO E.I w s v:=by
 cases h with
 |ro h=>exact h
 |ptr hb hv=>simp[An]at hp
 |dO hr ht=>simp[An]at hp
 |dH hb hm hv=>simp[An]at hp
 |cT hb hz hv=>simp[An]at hp
 |bV ht hk=>simp[An]at hp
 |cN hv ho=>simp[An]at hp
 |bQ hb hv=>simp[An]at hp
 |jI hb hn hv=>simp[An]at hp
 |yv hb hv=>simp[An]at hp
 |cR ht hk=>simp[An]at hp
 |kD ht hk=>simp[An]at hp
 |agg hl _=>simp[Value.oneCell']at h1
 |aI hl _=>simp[Value.oneCell']at h1
 |fJ hl _=>simp[An]at hp
 |gS hl _=>simp[An]at hp
section
variable {P:Program} {cx:Cx} {σ:Sy} {T:List Nat} {o:Oper} {K:Out->Prop}
theorem Q1{sz:Nat}:∀(n i:Nat) (cs:List SV),i<n->(chunks sz n cs)[i]?=some (takeN sz (Db (i * sz) cs))
 |n+1,0,cs,_=>by simp[chunks,Bl]
 |n+1,i+1,cs,h=>by
  simp only[chunks,List.getElem?_cons_succ];rw[Q1 n i _ (by omega)];simp only[Bl,ZD];congr 3;rw[XM,Nat.one_mul,Nat.add_comm]
theorem Nx{sz:Nat}:∀(n i:Nat) (cs r:List SV),(chunks sz n cs)[i]?=some r->r=takeN sz (Db (i * sz) cs)
 |0,i,cs,r,h=>by simp[chunks]at h
 |n+1,0,cs,r,h=>by simp[chunks]at h;rw[<-h];simp[Bl]
 |n+1,i+1,cs,r,h=>by
  simp only[chunks,List.getElem?_cons_succ]at h;rw[Nx n i _ r h];simp only[Bl,ZD,XM,Nat.one_mul];congr 2;omega
theorem Ol{z:List SV}:∀(n q:Nat),q<n * z.length->(Am.lM n z)[q]?=z[q % z.length]?
 |0,q,h=>by omega
 |n+1,q,h=>by
  simp only[Am.lM]
  by_cases hq:q<z.length
  .rw[QM hq,Nat.mod_eq_of_lt hq]
  .have h':q<n * z.length+z.length:=by rw[<-Nat.succ_mul];exact h
   rw[QP (by omega),Ol n (q-z.length) (by omega),(Nat.mod_eq_sub_mod (show q>=z.length by omega))]
theorem Ez{z:List SV}:∀(n:Nat),(Am.lM n z).length=n * z.length
 |0=>by simp[Am.lM]
 |n+1=>by simp[Am.lM,Ez n,XM];omega
theorem Iu{E:Env}{w:World}{sz:Nat}:∀(vs:List (Nat×SV)) (us:List (Nat×Value)) (cs dI:List SV) (C:List Value),vs.length=us.length->(∀(i:Nat) (p:Nat×SV) (q:Nat×Value),vs[i]?=some p->us[i]?=some q->p.1=q.1/\Rel E w p.2 q.2)->(∀p∈vs,Es p.2.cells=true)->A8 E w cs C->(∀u∈C,u.oneCell'=true)->
   Am.eT sz cs vs=some dI->∃C',Instr.fill (λi=>some (i * sz,sz)) ⟨C⟩ us=some ⟨C'⟩/\A8 E w dI C'/\∀u∈C',u.oneCell'=true
 | [],us,cs,dI,C,hlen,_,_,hr,h1,h=>by
  have:us=[]:=XH (by simpa using hlen.symm);subst this;simp[Am.eT]at h;subst h;exact⟨C,rfl,hr,h1⟩
 |(i,v) :: vs,us,cs,dI,C,hlen,bG,h1,hr,fU,h=>by
  match us,hlen,bG with
  |(i',u) :: us,hlen,bG =>
   obtain⟨e0,VF⟩:=bG 0 (i,v) (i',u) rfl rfl;simp only at e0;subst e0;have cX:=Id (h1 _ (XB ..)) VF;simp only[Am.eT]at h
   split at h
   .rename_i hb
    simp only[QE,QO,Ag]at hb;obtain⟨b1,b2⟩:=hb;have b2:=XK b2;have bC:u.cells.size=sz:=by rw[<-b1,cX.1];simp
    rw[Yu rfl bC (by rw[<-hr.1];exact b2)];refine Iu vs us _ dI _ (by simpa using hlen) (λj p q a b=>bG (j+1) p q (by simpa using a) (by simpa using b)) (λp hp=>h1 p (XC _ hp)) (Amc hr cX _ (by show i * sz+v.cells.length<=cs.length;omega)) ?_ h;intro x hx;obtain⟨q,hq⟩:=List.mem_iff_getElem?.1 hx;rw[H5 _ _ _ _ (by rw[<-cX.1,<-hr.1];show i * sz+v.cells.length<=cs.length;omega)]at hq
    split at hq
    .exact Mm (h1 _ (XB ..)) cX x (QL hq)
    .exact fU x (QL hq)
   .cases h
theorem Qi(hc:A4 P cx){t len e:Nat}{ps:Array (Nat×Operand)}(ho:o.op=.buildSlice t len ps){ti te:TI}(aC:look t cx.tt=some ti)(hk:ti.k=.slice e)(hle:look e cx.tt=some te){vs:List (Nat×SV)}(hv:Gr cx σ T ps.toList=some vs)(h1:Ov vs=true)
  {cs:List SV} (hf:Am.eT te.size (Am.lM len te.zero) vs=some cs) (gP:An (.agg (loose.aH (norm.aO dn cs)))=true) (hz:0<te.size) (pH:len * te.size<=16777216):
  Local P cx.gl σ T o ⟨.dO (.l false) (.l len) te.size (λk=>takeN te.size (Db (k * te.size) (loose.aH (norm.aO dn cs)))) (Ai σ.hp),[.put (Ai σ.hp) (.tail e (.l len) te.size)],[],[]⟩:=by
 intro B N E a w ff dA hg st ag bL hT K' Q hK;have fC:∀p∈ps.toList,∀s∈C4 p.2,ff s=Bf σ s:=λp hp=>Ak ag (by simp only[ho,Op.operands];simp;exact⟨p.1,by simpa using hp⟩);obtain⟨h2,h3⟩:=E4 hg st hT ps.toList vs fC hv;obtain⟨z,bp,iQ,sh⟩:=(hc.ti hle).zero E w;have jX:=(hc.ti hle).qE;have dZ:z.cells.size=te.size:=by have:=iQ.1;rw[jX]at this;simpa using this.symm
 have jM:∀(j:Nat) (p:Nat×SV) (q:Nat×Value),vs[j]?=some p->((ps.map λ(x:Nat×Operand)=>(x.1,a.eval x.2)).toList)[j]?=some q->p.1=q.1/\Rel E w p.2 q.2:=by
  intro j p q hp hq;rw[ZM,QS]at hq;cases uP:ps.toList[j]? with
  |none=>rw[uP]at hq;cases hq
  |some x =>
   rw[uP]at hq;simp only[QQ,Option.some.injEq]at hq;subst hq;exact h3 j p x hp uP
 -- tH zero cells
 let C0:List Value:=(List.range (len * te.size)).map λq=>z.cells.toList.getD (q % te.size) undef
 have KE:A8 E w (Am.lM len te.zero) C0:=by
  refine⟨by rw[Ez,jX];simp[C0],λi s v hs hv=>?_⟩;have aC:i<len * te.size:=by
   have:=(List.getElem?_eq_some_iff.1 hs).1
   rwa [Ez,jX]at this
  rw[Ol _ _ (by rw[jX];exact aC),jX]at hs;simp[C0,aC]at hv;have hm:i % te.size<z.cells.size:=by rw[dZ];exact YD _ hz
  refine iQ.2 (i % te.size) s v hs ?_;rw[<-hv];simp[hm]
 have fc:∀u∈C0,u.oneCell'=true:=by
  intro u hu;simp only[C0,List.mem_map,List.mem_range]at hu;obtain⟨q,_,rfl⟩:=hu;have hm:q % te.size<z.cells.toList.length:=by simp[dZ];exact YD _ hz
  rw[QD,QB hm];exact sh _ (XO hm)
 obtain⟨C',c1,c2,c3⟩:=Iu vs (ps.map λ(x:Nat×Operand)=>(x.1,a.eval x.2)).toList _ cs C0 (by simp[h2]) jM (Jq h1) KE fc hf;have pX:C'.length=len * te.size:=by
  rw[<-c2.1];have:∀(vs:List (Nat×SV)) (cs dI:List SV),Am.eT te.size cs vs=some dI->dI.length=cs.length:=by
   intro vs
   induction vs with
   |nil=>intro cs dI h;simp[Am.eT]at h;rw[h]
   |cons p vs ih =>
    intro cs dI h;obtain⟨i,v⟩:=p;simp only[Am.eT]at h
    split at h
    .rw[ih _ _ h,Dg]
    .cases h
  rw[this vs _ cs hf,Ez,jX]
 have aW:(Instr.buildSlice t len (ps.map λ(x:Nat×Operand)=>(x.1,a.eval x.2))).run P w=.ok (.slice (some ⟨w.heap.size,0,none⟩) len len) (w.alloc (.cells ⟨C'⟩ e)):=by
  have hu:=(hc.ti aC).slice hk;have hS:=(hc.ti hle).sizeOf w;have nB:((Array.range (len * te.size)).map (λq=>z.cells[q % z.cells.size]!))=(⟨C0⟩:Array Value):=by
   apply XV;simp only[ZM,Array.toList_range,C0];refine UC λq _=>?_;rw[dZ,QD,UG,XI,QZ];have hm:q % te.size<z.cells.size:=by rw[dZ];exact YD _ hz
   simp[hm]
  have tB:¬(16777216<len * te.size):=by omega
  simp only[Instr.buildSlice,Sem.run_bind,run_underlying hu,Result.andThen_ok,hS,gt_iff_lt]
  by_cases h0:len * te.size=0
  .have fa:C0=[]:=by simp[C0,h0]
   rw[fa]at c1;rw[ZM]at c1;have dz:Array.map (λ_=>(default:Value)) (Array.range 0)=⟨[]⟩:=by simp
   simp[h0,newRow,newObj]
   first|rw[dz,c1]|(simp at c1 ⊢;rw[c1])
   simp[Sem.run]
  .rw[ZM]at c1
   simp[h0,tB,bp,nB,newRow,newObj];rw[c1];simp[Sem.run]
 have bN:dA (Ai σ.hp)=.fresh:=by
  have:=bL.fR _ (List.mem_singleton.2 rfl);simp only[fx,Aq,Aj,Ag]at this;rw[Ag,this];simp
 have oD:len<=maxLen:=by
  simp only[maxLen];have:len<=len * te.size:=Nat.le_mul_of_pos_right _ hz;omega
 have cJ:=World.ownsRow_lit w (base:=0) (e:=e) (size:=te.size) ⟨C'⟩ len (XX _) oD (by simpa using pX);obtain⟨E',x1,x2,x3,x4,x5,x6⟩:=Ot (h:=Ai σ.hp) (e:=e) (sz:=te.size) (n:=0) (m:=len) (xs:=[]) (news:=C') st (.inl ⟨bN,rfl⟩) (by simpa using c3) (World.ownsRow_nil w 0 e te.size) (by simpa using cJ) (.inr ⟨rfl,World.grownBy_alloc w _ none⟩) ⟨_,_,by simp;exact⟨rfl,rfl⟩⟩ (λh=>absurd bN h) (.l len) (by simp[ST.den]);unfold Oper.wp;have:(execOp a.eval o).run P w=.ok (.value (.slice (some ⟨w.heap.size,0,none⟩) len len)) (w.alloc (.cells ⟨C'⟩ e)):=by
  simp only[execOp,ho,Sem.run_bind];rw[aW];rfl
 rw[this]
 -- vg it reads as
 have mq:∀c∈loose.aH (norm.aO dn cs),An c=true:=by
  simp only[An]at gP;exact (C7 _).1 gP
 have cX:A8 E w (loose.aH (norm.aO dn cs)) C':=by
  rw[Ci,Co];exact (c2.map _ λs v _ h=>h.norm).map _ λs v _ h=>h.loose
 have bM:∀(i j:Nat) (s:SV),(takeN te.size (Db (i * te.size) (loose.aH (norm.aO dn cs))))[j]?=some s->(loose.aH (norm.aO dn cs))[i * te.size+j]?=some s:=by
  intro i j s hs;rw[Ba,Bl,QN]at hs
  split at hs
  .rwa [XG]at hs
  .cases hs
 refine hK _ _ E' x1 x2 x3 (.dO ?_ ⟨_,len,_,x4,by simp[ST.den],λ_=>rfl⟩);refine O9 (n:=0) (m:=len) (xs:=[]) (news:=C') (by simpa using cJ) (by simp) (by simp[BT.den]) (by simp[ST.den]) (by simpa using c3) x5 x6 (by intro i hi;omega) (λj hj=>?_) (by intro i j s u hi;omega) (λi j s u hi hs hu=>?_)
 .rw[Ba,Bl,QW,QX,cX.1,pX,XF]
  have:(j+1) * te.size<=len * te.size:=QR _ hj;rw[XM]at this;omega
 .rw[XF]at hs
  have cD:=bM i j s hs;exact (((cX.2 _ s u cD hu).fK (mq s (QL cD)) (c3 u (QL hu)))).mono x1.I x1.cell
end
theorem Rel.kO{E:Env}{w:World}{h:Nat}{v:Value}(hr:Rel E w (.dH h) v):∃b m,E.β h=some b/\E.κ h=some m/\v=.slice (some ⟨b,0,none⟩) m m:=by
 cases hr with
 |ro h=>cases h
 |dH hb hm hv=>exact⟨_,_,hb,hm,hv⟩
theorem Rel.kP{E:Env}{w:World}{h j off:Nat}{v:Value}(hr:Rel E w (.cT h j off) v):∃b sz,E.β h=some b/\E.ζ h=some sz/\v=.pointer (some ⟨b,j * sz+off,none⟩):=by
 cases hr with
 |ro h=>cases h
 |cT hb hz hv=>exact⟨_,_,hb,hz,hv⟩
theorem Ahj{B:Bs}{N:Nat}{E:Env}{a:Act}{w w':World}{ff:Nat->SG}{hf:Nat->Hl}(st:St B N E a w ff hf){h:Nat}(bN:hf h=.fresh){ty:TypeId}{n:ST}{sz m:Nat}{f:Nat->List SV}{C:Array Value}
  (hg:w.grownBy w' none) (hC:w'.heap[w.heap.size]?=some (.cells C ty (0,0))) (hn:n.den=(m:Int)) (hm:m<=maxLen) (aJ:Rf E w f m sz C):
  ∃E',Ext E w E' w'/\Cr B E' w'/\(∀k,bR E' w' k (aU hf h (.row ty n sz f) k))/\E'.β h=some w.heap.size/\E'.κ h=some m/\E'.ζ h=some sz:=by
 have hb:=st.base;have cI:=st.heap h;rw[bN]at cI;obtain⟨f1,f2,f3,f4⟩:=cI
 let E':Env:=⟨aU E.β h (some w.heap.size),E.τ,aU E.O w.heap.size (some h),aU E.κ h (some m),aU E.ζ h (some sz),E.I⟩
 have hold:∀b,b<w.heap.size->w'.heap[b]?=w.heap[b]?:=λb aC=>hg.block b aC (by simp);have yy:w.heap.size<w'.heap.size:=(Array.getElem?_eq_some_iff.1 hC).1;have qF:∀ {α:Type} (F:Nat->Option α) (x:α) (k:Nat) (y:α),F h=none->F k=some y->aU F h (some x) k=some y:=by
  intro α F x k y h0 hk;unfold aU
  by_cases e:k=h
  .subst e;rw[h0]at hk;cases hk
  .rw[QA e];exact hk
 have hx:Ext E w E' w':=by
  refine⟨λk b hk=>qF _ _ k b f1 hk,λ_ _ h=>.inl h,λk b hk=>qF _ _ k b f3 hk,λk b hk=>qF _ _ k b f4 hk,λ_ _ h=>h,λb o hi=>?_⟩;simp only[World.cell?];rw[hold b (hb.dP b o hi)]
 refine⟨E',hx,⟨hg.os.trans hb.os,hg.tape.trans hb.tape,hg.output.trans hb.output,?_,?_,?_,?_,?_,?_,hb.cO.ext hx⟩,λk=>?_,by simp[E',aU],by simp[E',aU],by simp[E',aU]⟩
 .have:=hb.size;omega
 .intro b aC hX;rw[hold b (by have:=hb.size;omega)];exact hb.dY b aC hX
 .intro b o hi
  obtain⟨i1,i2⟩:=hb.I0 b o hi;exact⟨i1,by rw[hx.cell b o i1];exact i2⟩
 .intro b o hi;have:=hb.dP b o hi;omega
 .exact hb.cE
 .intro b k hO
  have hO:aU E.O w.heap.size (some h) b=some k:=hO;unfold aU at hO
  split at hO
  .rename_i e;subst e;have:=hb.size;exact⟨yy,.inl this⟩
  .obtain⟨o1,o2⟩:=hb.cS b k hO;exact⟨by omega,o2⟩
 .by_cases e:k=h
  .subst e
   simp only[aU,QC];refine⟨w.heap.size,C,m,by simp[E',aU],by simp[E',aU],by simp[E',aU],by simp[E',aU],hC,hn,hm,⟨aJ.1,aJ.2.1,λi j s v a b c=>(aJ.2.2.1 i j s v a b c).mono hx.I hx.cell,aJ.2.2.2⟩,λo hi=>?_⟩;have:=hb.dP _ _ hi;omega
  .simp only[aU,QA e]
   refine bR.keep hx (st.heap k) (by simp[E',aU,e]) rfl (by simp[E',aU,e]) (by simp[E',aU,e]) λb hO=>?_;have aC:=Bd hb hO;exact⟨by simp[E',aU,YY aC];exact hO,hold b aC,λ_ h=>h⟩
theorem Zh{B:Bs}{N:Nat}{E:Env}{a:Act}{w:World}{ff:Nat->SG}{hf:Nat->Hl}(st:St B N E a w ff hf){h b m:Nat}{ty:TypeId}{n:ST}{sz:Nat}{f f':Nat->List SV}{C C':Array Value}
  (hh:hf h=.row ty n sz f) (fY:E.β h=some b) (GZ:E.κ h=some m) (hC:w.heap[b]?=some (.cells C ty (0,0))) (aJ:Rf E w f' m sz C'):
  Ext E w E (w.setRow b C')/\Cr B E (w.setRow b C')/\(∀k,bR E (w.setRow b C') k (aU hf h (.row ty n sz f') k)):=by
 have hb:=st.base;have hk:=st.heap h;rw[hh]at hk;obtain⟨b',C1,m',k1,k2,k3,k4,k5,k6,k7,k8,k9⟩:=hk;obtain rfl:b=b':=Option.some.inj (fY.symm.trans k1);obtain rfl:m=m':=Option.some.inj (GZ.symm.trans k2);have hx:Ext E w E (w.setRow b C'):=⟨λ_ _ h=>h,λ_ _ h=>.inl h,λ_ _ h=>h,λ_ _ h=>h,λ_ _ h=>h,λb2 o hi=>cell_setRow_other w b C' ⟨b2,o,none⟩ (λe=>by subst e;exact k9 o hi)⟩;have hX:=(hb.cS b h k4).2;refine⟨hx,⟨hb.os,hb.tape,hb.output,by simpa using hb.size,?_,?_,?_,hb.cE,?_,hb.cO⟩,λk=>?_⟩
 .intro b2 aC kS
  by_cases e:b2=b
  .subst e;rcases hX with hX|hX
   .omega
   .exact absurd hX kS
  .rw[setRow_other w b b2 C' e];exact hb.dY b2 aC kS
 .intro b2 o hi
  obtain⟨i1,i2⟩:=hb.I0 b2 o hi;exact⟨i1,by rw[hx.cell b2 o i1];exact i2⟩
 .intro b2 o hi;have:=hb.dP b2 o hi;simpa using this
 .intro b2 k hO;have:=hb.cS b2 k hO;simpa using this
 .by_cases e:k=h
  .subst e
   simp only[aU,QC];exact⟨b,C',m,fY,GZ,k3,k4,setRow_heap w b C C' ty (0,0) hC,k6,k7,⟨aJ.1,aJ.2.1,λi j s v a b c=>(aJ.2.2.1 i j s v a b c).mono hx.I hx.cell,aJ.2.2.2⟩,k9⟩
  .simp only[aU,QA e]
   refine bR.keep hx (st.heap k) rfl rfl rfl rfl λb2 hO=>⟨hO,?_,λ_ h=>h⟩;refine setRow_other w b b2 C' (λe2=>?_);subst e2;rw[k4]at hO;exact e (Option.some.inj hO).symm
section
variable {P:Program} {cx:Cx} {σ:Sy} {T:List Nat} {o:Oper} {K:Out->Prop}
theorem Ek{x:Operand}(ho:o.op=.nilCheck x){v:SV}(hv:rd cx σ T x=some v)(hp:(∃h off,v=.ptr h off)\/(∃cs,v=.dK cs)\/(∃h j off,v=.cT h j off)\/(∃n sz f,v=.dR n sz f)\/∃n h j off,v=.cN n h j off):Local P cx.gl σ T o ⟨v,[],[],[]⟩:=by
 intro B N E a w ff dA hg st ag bL hT;have hr:=Ab hv hg st (Ak ag (by simp[ho,Op.operands])) hT;have:∃ad,a.eval x=.pointer (some ad):=by
  rcases hp with⟨h,off,rfl⟩|⟨cs,rfl⟩|⟨h,j,off,rfl⟩|⟨n,sz,f,rfl⟩|⟨n,h,j,off,rfl⟩
  .obtain⟨b,_,e⟩:=hr.dL;exact⟨_,e⟩
  .obtain⟨ad,e,_⟩:=hr.eN.eN;exact⟨_,e⟩
  .obtain⟨b,sz,_,_,e⟩:=hr.kP;exact⟨_,e⟩
  .have hx:RO E.I w (.dR n sz f) (a.eval x):=by cases hr with|ro h=>exact h
   generalize a.eval x=ev at hx
   cases hx;exact⟨_,rfl⟩
  .obtain⟨⟨b,o,e⟩,_⟩:=hr.nX;exact⟨_,e⟩
 obtain⟨ad,e⟩:=this;exact Ad st (v:=a.eval x) (by simp[execOp,ho,e]) rfl hr
theorem Pd{dA:Nat->Hl}{r:Out}{hl:Hl}(bL:CB σ.hp dA r)(hm:Ef.put (Ai σ.hp) hl∈r.fR):dA (Ai σ.hp)=.fresh:=by
 have:=bL.fR _ hm;simp only[fx,Aq,Aj,Ag]at this;rw[Ag,this];simp
theorem Aco(hc:A4 P cx){t e:Nat}{x y:Operand}(ho:o.op=.makeSlice t x y){ti te:TI}(aC:look t cx.tt=some ti)(hk:ti.k=.slice e)(hle:look e cx.tt=some te){kl kc:IntKind}{c:ST}(hx:rd cx σ T x=some (.int kl (.l 0)))(hy:rd cx σ T y=some (.int kc c))
  (lF:Bk (Ac σ.gm T)->0<=c.den/\c.den * te.bytes<=140737488355328/\c.den<=9223372036854775807):
  Local P cx.gl σ T o ⟨.dO (.l false) (.l 0) te.size (λ_=>[]) (Ai σ.hp),[.put (Ai σ.hp) (.tail e (.l 0) te.size)],[],[]⟩:=by
 intro B N E a w ff dA hg st ag bL hT K' Q hK;have iR:=(Ab hx hg st (Ak ag (by simp[ho,Op.operands])) hT).aT;have uJ:=(Ab hy hg st (Ak ag (by simp[ho,Op.operands])) hT).aT;obtain⟨o1,o2,o3⟩:=lF hT;obtain⟨i,z,hi,eO,yX,hz,tI,_⟩:=(hc.ti hle).info;have hu:=(hc.ti aC).slice hk;have tz:c.den=((c.den.toNat:Nat):Int):=by omega
 have uZ:i.bytes * c.den.toNat<=281474976710656:=by
  rw[yX];have:((te.bytes * c.den.toNat:Nat):Int)<=140737488355328:=by
   rw[YX,<-tz,Int.mul_comm];exact o2
  omega
 obtain⟨w',r1,r2,r3⟩:=run_make_own (P:=P) w 0 t e i z te.size hu hi hz eO kl kc c.den.toNat uZ (by simp only[maxLen];omega) (XX _);have bN:=Pd bL (List.mem_singleton.2 rfl);obtain⟨E',x1,x2,x3,x4,x5,x6⟩:=Ot (h:=Ai σ.hp) (e:=e) (sz:=te.size) (n:=0) (m:=0) (xs:=[]) (news:=[]) st (.inl ⟨bN,rfl⟩) (by simp) (World.ownsRow_nil w 0 e te.size) (by simpa using r2) (.inr ⟨rfl,r3⟩) ⟨_,_,rfl⟩ (λh=>absurd bN h) (.l 0) (by simp[ST.den]);unfold Oper.wp;have:(execOp a.eval o).run P w=.ok (.value (.slice (some ⟨w.heap.size,0,none⟩) 0 c.den.toNat)) w':=by
  simp only[execOp,ho,Sem.run_bind,iR,uJ,ST.den];rw[tz,r1];rfl
 rw[this];refine hK _ _ E' x1 x2 x3 (.dO ?_ ⟨_,0,_,x4,by simp[ST.den],λ_=>rfl⟩);exact O9 (n:=0) (m:=0) (xs:=[]) (news:=[]) (by simpa using r2) (by simp) (by simp[BT.den]) (by simp[ST.den]) (by simp) x5 x6 (by intro i hi;omega) (by intro j hj;omega) (by intro i j s u hi;omega) (by intro i j s u hi;omega)
theorem Acn(hc:A4 P cx){t e:Nat}{x y:Operand}(ho:o.op=.makeSlice t x y){ti te:TI}(aC:look t cx.tt=some ti)(hk:ti.k=.slice e)(hle:look e cx.tt=some te){kl kc:IntKind}{n n':ST}(hx:rd cx σ T x=some (.int kl n))(hy:rd cx σ T y=some (.int kc n'))(cB:x=y)(uE:0<te.size)
  (lF:Bk (Ac σ.gm T)->0<=n.den/\n.den * te.bytes<=140737488355328/\n.den<=9223372036854775807):
  Local P cx.gl σ T o ⟨.dH (Ai σ.hp),[.put (Ai σ.hp) (.row e (.a n.den) te.size λ_=>te.zero)],[],[]⟩:=by
 subst cB;intro B N E a w ff dA hg st ag bL hT K' Q hK;have iR:=(Ab hx hg st (Ak ag (by simp[ho,Op.operands])) hT).aT;obtain⟨o1,o2,o3⟩:=lF hT;obtain⟨i,z,hi,eO,yX,hz,tI,_⟩:=(hc.ti hle).info;have hu:=(hc.ti aC).slice hk;have tz:n.den=((n.den.toNat:Nat):Int):=by omega
 have uZ:i.bytes * n.den.toNat<=281474976710656:=by
  rw[yX];have:((te.bytes * n.den.toNat:Nat):Int)<=140737488355328:=by
   rw[YX,<-tz,Int.mul_comm];exact o2
  omega
 have oD:n.den.toNat<=maxLen:=by simp only[maxLen];omega
 obtain⟨w',r1,r2,r3⟩:=run_make_full (P:=P) w 0 t e i z te.size hu hi hz eO kl kl n.den.toNat uZ oD (XX _);have bN:=Pd bL (List.mem_singleton.2 rfl);obtain⟨mQ,bZ⟩:=r2;rcases bZ with⟨h0,_⟩|⟨g,cap,cur,e0,_,ac9,rE,fI,cY,bW⟩
 .cases h0
 simp only[Value.slice.injEq,Option.some.injEq,Addr.mk.injEq,and_true,true_and]at e0;obtain⟨rfl,jG⟩:=e0;subst jG;have JQ:cur=madeCells z.cells (n.den.toNat * te.size):=by
  apply XV;rw[<-bW,XJ];simp[cY]
 have jX:=(hc.ti hle).qE;have HI:=Kb (I:=E.I) (w:=w) tI;have aJ:Rf E w (λ_=>te.zero) n.den.toNat te.size cur:=by
  have dZ:z.cells.size=te.size:=by have:=HI.1;rw[jX]at this;simpa using this.symm
  have bM:∀(q:Nat) (v:Value),cur[q]?=some v->z.cells[q % te.size]?=some v:=by
   intro q v hq;have c7:q<n.den.toNat * te.size:=by rw[<-cY];exact (Array.getElem?_eq_some_iff.1 hq).1
   rw[JQ]at hq;have hm:q % te.size<z.cells.size:=by rw[dZ];exact YD _ uE
   have bA:n.den.toNat * te.size≠0:=by omega
   have WR:n.den.toNat≠0:=λh=>by rw[h]at bA;simp at bA
   have mT:te.size≠0:=by omega
   simp[madeCells,c7,dZ]at hq;rw[<-hq];simp[hm]
  refine⟨cY,λ_ _=>jX,λi j s v xB hs hv=>?_,λv hv=>?_⟩
  .have hj:j<te.size:=by rw[<-jX];exact (List.getElem?_eq_some_iff.1 hs).1
   have:=bM _ v hv;rw[UU,Nat.mul_add_mod,Nat.mod_eq_of_lt hj]at this;exact HI.2 j s v hs (by simpa using this)
  .obtain⟨q,hq,rfl⟩:=Array.mem_iff_getElem.1 hv
   have h1:=bM q _ (ZR hq);have hm:q % te.size<te.zero.length:=by rw[jX];exact YD _ uE
   have:zB (te.zero[q % te.size]) cur[q]=true:=by
    have key:∀(ss:List SV) (vs:List Value) (k:Nat) (s:SV) (v:Value),vI ss vs=true->ss[k]?=some s->vs[k]?=some v->zB s v=true:=by
     intro ss
     induction ss with
     |nil=>intro vs k s v _ h;simp at h
     |cons s0 ss ih =>
      intro vs k s v h h1 h2;cases vs with
      |nil=>simp at h2
      |cons v0 vs =>
       simp only[vI,QE]at h;cases k with
       |zero=>simp at h1 h2;subst h1;subst h2;exact h.1
       |succ k=>simp at h1 h2;exact ih vs k s v h.2 h1 h2
    exact key _ _ _ _ _ tI (QB hm) (by simpa using h1)
   exact Ak4 this
 obtain⟨E',x1,x2,x3,x4,x5,x6⟩:=Ahj st bN (n:=.a n.den) (m:=n.den.toNat) r3 ac9 tz oD aJ;unfold Oper.wp;have:(execOp a.eval o).run P w=.ok (.value (.slice (some ⟨w.heap.size,0,none⟩) n.den.toNat n.den.toNat)) w':=by
  simp only[execOp,ho,Sem.run_bind,iR];rw[tz];simp only[ZY]at r1 ⊢;rw[r1];rfl
 rw[this];exact hK _ _ E' x1 x2 x3 (.dH x4 x5 rfl)
theorem U0{e:TypeId}{ti:TI}(hc:A4 P cx)(ho:o.op=.alloc e)(hl:look e cx.tt=some ti){n sz:Nat}(bC:n * sz=ti.size)(hn:n<=1000000){f:Nat->List SV}(hf:Sj f (chunks sz n ti.zero)):
  Local P cx.gl σ T o ⟨.ptr (Ai σ.hp) 0,[.put (Ai σ.hp) (.row e (.l n) sz f)],[],[]⟩:=by
 intro B N E a w ff dA _ st _ bL _ K' Q hK;obtain⟨z,hz,hr,h1⟩:=(hc.ti hl).zero E w;obtain⟨i,z',hi,_,_,HM,tI,_⟩:=(hc.ti hl).info;have jX:=(hc.ti hl).qE;have bN:=Pd bL (List.mem_singleton.2 rfl);have ez:z=z':=by
  have:(zeroValue e).run P w=.ok z' w:=by simp[zeroValue,typeInfo,hi,HM]
  rw[hz]at this
  injection this
 subst ez;have HI:=Kb (I:=E.I) (w:=w) tI;have DB:z.cells.size=n * sz:=by rw[bC,<-jX];have:=HI.1;simpa using this.symm
 have so:∀q,q<n->f q=(ti.zero.drop (q * sz)).take sz:=by
  intro q hq;have:=Q1 (sz:=sz) n q ti.zero hq;rw[hf.h q _ this,Ba,Bl]
 have aJ:Rf E w f n sz z.cells:=by
  refine⟨DB,λq hq=>?_,λq j s v hq hs hv=>?_,λv hv=>h1 v (by simpa using hv)⟩
  .rw[so q hq]
   have:(q+1) * sz<=n * sz:=QR _ hq;rw[XM]at this;simp;omega
  .rw[so q hq,QN]at hs
   split at hs
   .rw[XG]at hs
    exact HI.2 _ s v hs (by simpa using hv)
   .cases hs
 obtain⟨E',x1,x2,x3,x4,x5,x6⟩:=Ahj st bN (w':=w.alloc (.cells z.cells e)) (n:=.l n) (m:=n) (f:=f) (sz:=sz) (C:=z.cells) (ty:=e)
  ⟨rfl,rfl,rfl,by simp,λk hk _=>RowKit.Below.heap_alloc w _ k hk⟩ (by show (w.heap.push _)[w.heap.size]?=_;simp) rfl (by simp only[maxLen];omega) aJ
 unfold Oper.wp;have:(execOp a.eval o).run P w=.ok (.value (.pointer (some ⟨w.heap.size,0,none⟩))) (w.alloc (.cells z.cells e)):=by
  simp[execOp,ho,Instr.alloc,hz,newVar,newRow,newObj,Sem.run]
 rw[this];exact hK _ _ E' x1 x2 x3 (.ptr x4 rfl)
end
section
variable {P:Program} {cx:Cx} {σ:Sy} {T:List Nat} {o:Oper} {K:Out->Prop}
theorem Bx{dA:Nat->Hl}{r:Out}{h:Nat}{hl:Hl}(bL:CB σ.hp dA r)(hm:h∈r.tX)(hh:nth σ.hp h=some hl):dA h=hl:=by
 rw[bL.tX h hm,Bv hh]
theorem W5(hc:A4 P cx){c:Call}(ho:o.op=.call c)(aR:c.callee=.builtin .len){x:Operand}{t:Nat}{ti:TI}(hx:c.args.toList=[x])(ht:c.argTypes.toList=[t])(hl:look t cx.tt=some ti){e:TypeId}(hk:ti.k=.slice e)
  {h ty sz:Nat} {n:ST} {f:Nat->List SV} (hv:rd cx σ T x=some (.dH h)) (hh:nth σ.hp h=some (.row ty n sz f)):Local P cx.gl σ T o ⟨.int .i64 n,[],[h],[]⟩:=by
 intro B N E a w ff dA hg st ag bL hT;have dN:x∈o.op.operands.toList:=by simp[ho,Op.operands,Call.operands,aR,hx]
 obtain⟨b,m,hb,hm,e3⟩:=(Ab hv hg st (Ak ag dN) hT).kO;have e1:c.args=#[x]:=XV (by simpa using hx);have e2:c.argTypes=#[t]:=XV (by simpa using ht);have jE:=st.heap h;rw[Bx bL (List.mem_singleton.2 rfl) hh]at jE;obtain⟨b',C,m',k1,k2,k3,k4,k5,k6,k7,k8,k9⟩:=jE;obtain rfl:m=m':=Option.some.inj (hm.symm.trans k2);have aW:=Gv hc hl hk (w:=w) (a:=some ⟨b,0,none⟩) (m:=m) (c:=m) (ty:=o.type);refine Ad st (v:=.int .i64 m) ?_ rfl (.int k6);simp[execOp,ho,resolve,aR,e1,e2,invoke,builtin,e3,aW]
theorem Sv(hc:A4 P cx){t e sz:Nat}{ti:TI}(hl:look t cx.tt=some ti)(hk:ti.k=.slice e)(hn:size? cx e=some sz){x y:Operand}(ho:o.op=.indexAddr t x y){h ty:Nat}{n:ST}{f:Nat->List SV}{k:IntKind}{i:ST}
  (hv:rd cx σ T x=some (.dH h)) (hh:nth σ.hp h=some (.row ty n sz f)) (hi:rd cx σ T y=some (.int k i)) (h1:Bk (Ac σ.gm T)->0<=i.den/\i.den<n.den):Local P cx.gl σ T o ⟨.cT h i.den.toNat 0,[],[h],[]⟩:=by
 intro B N E a w ff dA hg st ag bL hT;obtain⟨b,m,hb,hm,e3⟩:=(Ab hv hg st (Ak ag (by simp[ho,Op.operands])) hT).kO;have hy:=(Ab hi hg st (Ak ag (by simp[ho,Op.operands])) hT).aT;obtain⟨b1,b2⟩:=h1 hT;have jE:=st.heap h;rw[Bx bL (List.mem_singleton.2 rfl) hh]at jE;obtain⟨b',C,m',k1,k2,k3,k4,k5,k6,k7,k8,k9⟩:=jE;obtain rfl:m=m':=Option.some.inj (hm.symm.trans k2);have aW:=Ft hc hl hk hn (w:=w) (a:=⟨b,0,none⟩) (m:=m) (cap:=m) (k:=k) b1 (show i.den<(m:Int) by omega);refine Ad st (v:=.pointer (some ⟨b,i.den.toNat * sz+0,none⟩)) ?_ rfl (.cT hb k3 rfl);simp[execOp,ho,e3,hy,aW,add_lit]
theorem Qh(hc:A4 P cx){t e sz n:Nat}{ti:TI}(hl:look t cx.tt=some ti)(hk:ti.k=.array n e)(hn:size? cx e=some sz){x y:Operand}(ho:o.op=.indexAddr t x y){h ty:Nat}{m:ST}{f:Nat->List SV}{k:IntKind}{i:ST}
  (hv:rd cx σ T x=some (.ptr h 0)) (hh:nth σ.hp h=some (.row ty m sz f)) (hi:rd cx σ T y=some (.int k i)) (h0:0<=i.den) (h1:i.den<n):Local P cx.gl σ T o ⟨.cT h i.den.toNat 0,[],[h],[]⟩:=by
 intro B N E a w ff dA hg st ag bL hT;obtain⟨b,hb,hx⟩:=(Ab hv hg st (Ak ag (by simp[ho,Op.operands])) hT).dL;have hy:=(Ab hi hg st (Ak ag (by simp[ho,Op.operands])) hT).aT;have jE:=st.heap h;rw[Bx bL (List.mem_singleton.2 rfl) hh]at jE;obtain⟨b',C,m',k1,k2,k3,k4,k5,k6,k7,k8,k9⟩:=jE;obtain rfl:b=b':=Option.some.inj (hb.symm.trans k1);refine Ad st (v:=.pointer (some ⟨b,i.den.toNat * sz+0,none⟩)) ?_ rfl (.cT hb k3 rfl);have hu:=(hc.ti hl).array hk;obtain⟨te,iI,bC⟩:=bI hn;have hS:=(hc.ti iI).sizeOf w;obtain⟨j,hj⟩:∃j:Nat,i.den=(j:Int):=⟨i.den.toNat,by omega⟩;have y7:j<n:=by omega
 rw[hj]at hy ⊢;simp[execOp,ho,hx,hy,Instr.indexAt,run_underlying hu,asIntOf,y7,hS,bC,Instr.sureAddr,add_lit]
theorem Qg(hc:A4 P cx){t e n sz:Nat}{ti:TI}{x:Operand}(ho:o.op=.load t x)(hl:look t cx.tt=some ti)(hk:ti.k=.array n e)(bC:n * sz=ti.size){h ty:Nat}{m:ST}{f:Nat->List SV}
  (hv:rd cx σ T x=some (.ptr h 0)) (hh:nth σ.hp h=some (.row ty m sz f)) (hm:m.den=(n:Int)) {cs:List SV} (hf:Flat f m.den sz cs):Local P cx.gl σ T o ⟨.agg cs,[],[h],[]⟩:=by
 intro B N E a w ff dA hg st ag bL hT;obtain⟨b,hb,hx⟩:=(Ab hv hg st (Ak ag (by simp[ho,Op.operands])) hT).dL;have jE:=st.heap h;rw[Bx bL (List.mem_singleton.2 rfl) hh]at jE;obtain⟨b',C,m',k1,k2,k3,k4,k5,k6,k7,⟨r1,r2,r3,r4⟩,k9⟩:=jE;obtain rfl:b=b':=Option.some.inj (hb.symm.trans k1);obtain rfl:m'=n:=by omega
 have hlen:cs.length=m' * sz:=by
  have:=hf.len;rw[k6]at this
  exact_mod_cast this
 have bG:A8 E w cs C.toList:=by
  refine⟨by simp[hlen,r1],λi s v p q=>?_⟩;have hi:i<m' * sz:=by rw[<-hlen];exact (List.getElem?_eq_some_iff.1 p).1
  have IE:0<sz:=by
   rcases YO sz with h|h
   .rw[h]at hi;simp at hi
   .exact h
  have hq:i / sz<m':=by rw[UN IE];exact hi
  have aJ:=hf.h (i / sz) (by rw[k6];exact_mod_cast hq);have e0:i / sz * sz+i % sz=i:=by rw[UU];exact Nat.div_add_mod i sz
  have e1:(f (i / sz))[i % sz]?=some s:=by
   rw[aJ,QN,QC (YD i IE),XG,e0];exact p
  have e2:C[i / sz * sz+i % sz]?=some v:=by rw[e0];simpa using q
  exact .ro (r3 _ _ _ _ hq e1 e2)
 have fC:cK cx t=true:=by rw[dG hl,hk];rfl
 have hp:pack (cK cx t) cs=some (.agg cs):=by rw[fC];rfl
 obtain⟨p1,p2⟩:=Gx hp bG;have aW:=Ge (hc.ti hl) (w:=w) (b:=b) (off:=0) (vs:=C.toList) (λj v hj=>by
  rw[XF,cell_of_row w b j C ty (0,0) k5];simpa using hj) (by rw[<-bG.1,hlen,bC]) (dG hl) p1
 exact Ad st (by simp[execOp,ho,hx,aW]) rfl p2
theorem Oz(hc:A4 P cx){t e n sz:Nat}{ti:TI}{x y:Operand}(ho:o.op=.store t x y)(hl:look t cx.tt=some ti)(hk:ti.k=.array n e)(bC:n * sz=ti.size){h ty:Nat}{m:ST}{f f':Nat->List SV}{cs:List SV}
  (hv:rd cx σ T x=some (.ptr h 0)) (hs:gb cx σ T t y=some (.agg cs)) (hh:nth σ.hp h=some (.row ty m sz f)) (hm:m.den=(n:Int)) (h1:Es cs=true) (gP:An.gX cs=true) (hf:Flat f' m.den sz cs):Local P cx.gl σ T o ⟨.aI [],[.put h (.row ty m sz f')],[h],[]⟩:=by
 intro B N E a w ff dA hg st ag bL hT K' Q hK;obtain⟨b,hb,hx⟩:=(Ab hv hg st (Ak ag (by simp[ho,Op.operands])) hT).dL;have bZ:=Jo hs hg st (Ak ag (by simp[ho,Op.operands])) hT;have tp:=Bx bL (List.mem_singleton.2 rfl) hh;have jE:=st.heap h;rw[tp]at jE;obtain⟨b',C,m',k1,k2,k3,k4,k5,k6,k7,⟨r1,r2,r3,r4⟩,k9⟩:=jE;obtain rfl:b=b':=Option.some.inj (hb.symm.trans k1);obtain rfl:m'=n:=by omega
 have hlen:cs.length=m' * sz:=by
  have:=hf.len;rw[k6]at this
  exact_mod_cast this
 have cY:=Id (s:=.agg cs) h1 bZ;have fU:=Mm (cs:=cs) h1 cY;rw[C7]at gP;have jN:(a.eval y).cells.toList.length=m' * sz:=by rw[<-cY.1];exact hlen
 generalize hU:(a.eval y).cells.toList=us at *
 have DB:us.toArray.size=C.size:=by simp[jN,r1]
 have aJ:Rf E w f' m' sz us.toArray:=by
  refine⟨by simp[jN],λi hi=>?_,λi j s v hi p q=>?_,λv hv=>fU v (by simpa using hv)⟩
  .rw[hf.h i (by rw[k6];exact_mod_cast hi)]
   have:(i+1) * sz<=m' * sz:=QR _ hi;rw[XM]at this;simp;omega
  .rw[hf.h i (by rw[k6];exact_mod_cast hi),QN]at p
   split at p
   .rw[XG]at p
    have q:us[i * sz+j]?=some v:=by simpa using q
    exact (cY.2 _ s v p q).fK (gP _ (QL p)) (fU v (QL q))
   .cases p
 obtain⟨x1,x2,x3⟩:=Zh (h:=h) st tp hb k2 k5 aJ;have aW:(Instr.storeAt t (.pointer (some ⟨b,0,none⟩)) (a.eval y)).run P w=.ok () (w.setRow b us.toArray):=by
  have hS:=(hc.ti hl).sizeOf w;have rD:=run_storeCells_at P b 0 ty us 0 C w k5 (by simp[jN,r1]) fU;have bA:((a.eval y).cells.size≠ti.size)=False:=by
   have:(a.eval y).cells.size=ti.size:=by rw[<-bC];rw[<-hU]at jN;simpa using jN
   simp[this]
  have hC2:(C.toList.take 0++us++C.toList.drop (0+us.length)).toArray=us.toArray:=by
   have:C.toList.drop us.length=[]:=ZN (by simp[jN,r1]);rw[XF,this];simp
  simp only[ZB]at rD;rw[hC2]at rD;simp only[Instr.storeAt,Instr.sureAddr,storeVar,Sem.run_bind,Sem.run_pure,Result.andThen_ok,hS,bA,if_false,hU,rD]
 unfold Oper.wp;have:(execOp a.eval o).run P w=.ok .skip (w.setRow b us.toArray):=by
  simp only[execOp,ho,hx,Sem.run_bind,aW,Result.andThen_ok,Sem.run_pure]
 rw[this];exact hK undef _ E x1 x2 x3 (.aI rfl (by simp))
theorem Lw(hc:A4 P cx){t i fo ft m h j off:Nat}{x:Operand}(ho:o.op=.fieldAddr t x i)(hv:rd cx σ T x=some (.cT h j off))(hf:gJ cx t i=some (fo,ft))(hn:size? cx ft=some (m+1)):
  Local P cx.gl σ T o ⟨.cT h j (off+fo),[],[],[]⟩:=by
 intro B N E a w ff dA hg st ag bL hT;have hr:=Ab hv hg st (Ak ag (by simp[ho,Op.operands])) hT;obtain⟨b,sz,hb,hz,hx⟩:=hr.kP;refine Ad st (v:=.pointer (some ⟨b,j * sz+(off+fo),none⟩)) ?_ rfl (.cT hb hz rfl);simp[execOp,ho,hx,Im hc hf hn,add_lit,UM]
theorem Ss(hc:A4 P cx){t:Nat}{x:Operand}(ho:o.op=.load t x){h j off n ty sz:Nat}{m:ST}{f:Nat->List SV}{s:SV}(hv:rd cx σ T x=some (.cT h j off))(hn:size? cx t=some n)
  (hh:nth σ.hp h=some (.row ty m sz f)) (lF:Bk (Ac σ.gm T)->(j:Int)<m.den) (hle:off+n<=(f j).length) (hp:pack (cK cx t) (((f j).drop off).take n)=some s):Local P cx.gl σ T o ⟨s,[],[h],[]⟩:=by
 intro B N E a w ff hf hg st ag bL hT;have hr:=Ab hv hg st (Ak ag (by simp[ho,Op.operands])) hT;obtain⟨b,cH,hb,hz,hx⟩:=hr.kP;have jE:=st.heap h;rw[Bx bL (List.mem_singleton.2 rfl) hh]at jE;obtain⟨b',C,m',k1,k2,k3,k4,k5,k6,k7,k8,k9⟩:=jE;obtain rfl:b=b':=Option.some.inj (hb.symm.trans k1);obtain rfl:cH=sz:=Option.some.inj (hz.symm.trans k3);obtain⟨ti,kZ,bC⟩:=bI hn;obtain⟨r1,r2,r3,r4⟩:=k8;have hj:j<m':=by have:=lF hT;omega
 have lT:=r2 j hj;have hbound:(j+1) * cH<=m' * cH:=QR _ hj;rw[XM]at hbound;have cU:A8 E w (((f j).drop off).take n) ((C.toList.drop (j * cH+off)).take n):=by
  refine⟨by simp;omega,λi s v p q=>?_⟩;rw[QN]at p q
  split at p
  .rename_i e
   rw[QC e]at q;rw[XG]at p q;refine .ro (r3 j (off+i) s v hj p ?_);rw[<-UM];simpa using q
  .cases p
 obtain⟨p1,p2⟩:=Gx hp cU;have hlen:((C.toList.drop (j * cH+off)).take n).length=n:=by simp;omega
 have aW:=Ge (hc.ti kZ) (w:=w) (b:=b) (off:=j * cH+off) (vs:=(C.toList.drop (j * cH+off)).take n) (λq v hq=>by
  rw[QN]at hq
  split at hq
  .rw[XG]at hq
   rw[cell_of_row w b (j * cH+off+q) C ty (0,0) k5];simpa using hq
  .cases hq) (by rw[hlen,bC]) (dG kZ) p1
 exact Ad st (by simp[execOp,ho,hx,aW]) rfl p2
theorem Qe(hc:A4 P cx){t:Nat}{x y:Operand}(ho:o.op=.store t x y){h j off n ty sz:Nat}{m:ST}{f f':Nat->List SV}{s:SV}(hv:rd cx σ T x=some (.cT h j off))(hs:gb cx σ T t y=some s)(hn:size? cx t=some n)
  (hh:nth σ.hp h=some (.row ty m sz f)) (hj:(j:Int)<m.den) (hl:s.cells.length=n) (hle:off+n<=(f j).length) (h1:Es s.cells=true) (gP:An (.agg (loose.aH (norm.aO dn s.cells)))=true)
  (yW:f' j=Dd (f j) off (loose.aH (norm.aO dn s.cells))) (mX:∀i,i≠j->f' i=f i):Local P cx.gl σ T o ⟨.aI [],[.put h (.row ty m sz f')],[h],[]⟩:=by
 intro B N E a w ff hf hg st ag bL hT K' Q hK;have hr:=Ab hv hg st (Ak ag (by simp[ho,Op.operands])) hT;have bZ:=Jo hs hg st (Ak ag (by simp[ho,Op.operands])) hT;obtain⟨b,cH,hb,hz,hx⟩:=hr.kP;have tp:=Bx bL (List.mem_singleton.2 rfl) hh;have jE:=st.heap h;rw[tp]at jE;obtain⟨b',C,m',k1,k2,k3,k4,k5,k6,k7,k8,k9⟩:=jE;obtain rfl:b=b':=Option.some.inj (hb.symm.trans k1);obtain rfl:cH=sz:=Option.some.inj (hz.symm.trans k3);obtain⟨ti,kZ,bC⟩:=bI hn;obtain⟨r1,r2,r3,r4⟩:=k8;have uS:j<m':=by omega
 have lT:=r2 j uS;have hbound:(j+1) * cH<=m' * cH:=QR _ uS;rw[XM]at hbound;have cY:=Id h1 bZ;have fU:=Mm h1 cY;have jN:(a.eval y).cells.toList.length=n:=by rw[<-cY.1];exact hl
 have oB:A8 E w (loose.aH (norm.aO dn s.cells)) (a.eval y).cells.toList:=by
  rw[Ci,Co];exact (cY.map _ λs v _ h=>h.norm).map _ λs v _ h=>h.loose
 have mq:∀c∈loose.aH (norm.aO dn s.cells),An c=true:=by
  simp only[An]at gP;exact (C7 _).1 gP
 have uO:(loose.aH (norm.aO dn s.cells)).length=n:=by rw[oB.1];exact jN
 generalize hU:(a.eval y).cells.toList=us at *
 generalize hP:loose.aH (norm.aO dn s.cells)=ps at *
 let C':Array Value:=(C.toList.take (j * cH+off)++us++C.toList.drop (j * cH+off+us.length)).toArray
 have mU:j * cH+off+us.length<=C.size:=by rw[jN];omega
 have oI:C'.size=C.size:=by simp[C'];omega
 have kW:∀q:Nat,C'[q]?=if j * cH+off<=q/\q<j * cH+off+us.length then us[q-(j * cH+off)]? else C[q]?:=by
  intro q;have:C'[q]?=(C.toList.take (j * cH+off)++us++C.toList.drop (j * cH+off+us.length))[q]?:=by simp[C']
  rw[this]
  split
  .rename_i e
   rw[ZJ,QP (by simp;omega),QM (by simp;omega)];congr 1;simp;omega
  .rename_i e
   by_cases hi:q<j * cH+off
   .rw[ZJ,QM (by simp;omega),QN,QC hi];simp
   .rw[QP (by simp;omega),XG,<-QZ]
    congr 1;simp;omega
 have aJ:Rf E w f' m' cH C':=by
  refine⟨by rw[oI];exact r1,λi hi=>?_,λi q s2 v hi eK jY=>?_,λv hv=>?_⟩
  .by_cases e:i=j
   .subst e;rw[yW,Dg];exact lT
   .rw[mX i e];exact r2 i hi
  .rw[kW]at jY
   have yk:q<cH:=by
    have hlen:(f' i).length=cH:=by
     by_cases e:i=j
     .subst e;rw[yW,Dg];exact lT
     .rw[mX i e];exact r2 i hi
    rw[<-hlen];exact (List.getElem?_eq_some_iff.1 eK).1
   by_cases e:i=j
   .subst e
    rw[yW,H5 _ _ _ _ (by rw[uO];exact hle)]at eK
    by_cases fA:off<=q/\q<off+n
    .rw[QC (by rw[uO];exact fA)]at eK
     rw[QC (by rw[jN];omega)]at jY;have e2:i * cH+q-(i * cH+off)=q-off:=by omega
     rw[e2]at jY;exact (oB.2 _ s2 v eK jY).fK (mq s2 (QL eK)) (fU v (QL jY))
    .rw[QA (by rw[uO];exact fA)]at eK
     rw[QA (by rw[jN];omega)]at jY;exact r3 i q s2 v hi eK jY
   .rw[mX i e]at eK
    have bA:¬(j * cH+off<=i * cH+q/\i * cH+q<j * cH+off+us.length):=by
     rw[jN];rcases ZK i j with aC|lS
     .have:(i+1) * cH<=j * cH:=QR _ aC
      rw[XM]at this;omega
     .have:(j+1) * cH<=i * cH:=QR _ (by omega)
      rw[XM]at this;omega
    rw[QA bA]at jY;exact r3 i q s2 v hi eK jY
  .obtain⟨q,hq⟩:=Array.mem_iff_getElem?.1 hv
   rw[kW]at hq
   split at hq
   .exact fU v (QL hq)
   .exact r4 v (YL hq)
 obtain⟨x1,x2,x3⟩:=Zh (h:=h) st tp hb k2 k5 aJ;have aW:(Instr.storeAt t (.pointer (some ⟨b,j * cH+off,none⟩)) (a.eval y)).run P w=.ok () (w.setRow b C'):=by
  have hS:=(hc.ti kZ).sizeOf w;have rD:=run_storeCells_at P b (j * cH+off) ty us 0 C w k5 (by simpa using mU) fU;have bA:((a.eval y).cells.size≠ti.size)=False:=by
   have:(a.eval y).cells.size=ti.size:=by rw[bC];rw[<-hU]at jN;simpa using jN
   simp[this]
  simp only[ZB]at rD;simp only[Instr.storeAt,Instr.sureAddr,storeVar,Sem.run_bind,Sem.run_pure,Result.andThen_ok,hS,bA,if_false,hU,rD];rfl
 unfold Oper.wp;have:(execOp a.eval o).run P w=.ok .skip (w.setRow b C'):=by
  simp only[execOp,ho,hx,Sem.run_bind,aW,Result.andThen_ok,Sem.run_pure]
 rw[this];exact hK undef _ E x1 x2 x3 (.aI rfl (by simp))
end
section
variable {P:Program} {cx:Cx} {σ:Sy} {T:List Nat} {o:Oper} {K:Out->Prop}
theorem Afl(hc:A4 P cx){c:Call}(ho:o.op=.call c)(aR:c.callee=.builtin .copy){x y:Operand}{t t':Nat}{ti:TI}(hx:c.args.toList=[x,y])(ht:c.argTypes.toList=[t,t'])(hl:look t cx.tt=some ti){e:TypeId}(hk:ti.k=.slice e)
  {h ty sz:Nat} {n m:ST} {f f' g:Nat->List SV} {s:SV} (hv:rd cx σ T x=some (.dH h)) (hs:rd cx σ T y=some s) (hh:nth σ.hp h=some (.row ty n sz f)) (bC:size? cx e=some sz) (aJ:rowOf sz s=some (m,g))
  (h1:∀i:Nat,(i:Int)<min m.den n.den->f' i=g i) (h2:∀i:Nat,min m.den n.den<=(i:Int)->(i:Int)<n.den->f' i=f i):
  Local P cx.gl σ T o ⟨.int .i64 (.a (min m.den n.den)),[.put h (.row ty n sz f')],[h],[]⟩:=by
 intro B N E a w ff hf hg st ag bL hT K' Q hK;have dN:x∈o.op.operands.toList/\y∈o.op.operands.toList:=by constructor<;>simp[ho,Op.operands,Call.operands,aR,hx]
 obtain⟨b,md,hb,hm,e3⟩:=(Ab hv hg st (Ak ag dN.1) hT).kO;have hrs:=Ab hs hg st (Ak ag dN.2) hT;have e1:c.args=#[x,y]:=XV (by simpa using hx);have e2:c.argTypes=#[t,t']:=XV (by simpa using ht);have tp:=Bx bL (List.mem_singleton.2 rfl) hh;have jE:=st.heap h;rw[tp]at jE;obtain⟨b',C,m',k1,k2,k3,k4,k5,k6,k7,k8,k9⟩:=jE;obtain rfl:b=b':=Option.some.inj (hb.symm.trans k1);obtain rfl:md=m':=Option.some.inj (hm.symm.trans k2);obtain⟨te,iI,ya⟩:=bI bC;obtain⟨k,news,n1,n2,⟨n3,n4,n5⟩,n6,n7⟩:=Jm aJ hrs;obtain⟨r1,r2,r3,r4⟩:=k8;have cw:min m.den n.den=((min k md:Nat):Int):=by rw[n1,k6];omega
 have av5:∀i,i<k->∀j,j<sz->i * sz+j<news.length:=by
  intro i hi j hj;have:(i+1) * sz<=k * sz:=QR _ hi;rw[XM]at this;omega
 let r:=min k md
 have hrk:r<=k:=Nat.min_le_left _ _;have CT:r<=md:=Nat.min_le_right _ _;have aT7:r * sz<=k * sz:=QR _ hrk;have aT6:r * sz<=md * sz:=QR _ CT
 let us:=news.take (r * sz)
 have xZ:us.length=r * sz:=by simp[us];omega
 let C':Array Value:=(C.toList.take 0++us++C.toList.drop (0+us.length)).toArray
 have oI:C'.size=C.size:=by simp[C',us];omega
 have kW:∀q:Nat,C'[q]?=if q<r * sz then news[q]? else C[q]?:=by
  intro q;have:C'[q]?=(us++C.toList.drop us.length)[q]?:=by simp[C']
  rw[this]
  split
  .rename_i e
   rw[QM (by omega)];simp only[us];rw[QN,QC e]
  .rename_i e
   rw[QP (by omega),XG,<-QZ];congr 1;omega
 have fU:∀v∈us,v.oneCell'=true:=λv hv=>n4 v (UP hv);have IJ:Rf E w f' md sz C':=by
  have oF:∀i,i<md->(i<r->f' i=g i)/\(r<=i->f' i=f i):=by
   intro i hi;refine⟨λaC=>h1 i (by rw[cw];omega),λlS=>h2 i (by rw[cw];omega) (by omega)⟩
  have hlen:∀i,i<md->(f' i).length=sz:=by
   intro i hi
   by_cases e:i<r
   .rw[(oF i hi).1 e];exact n6 i (by omega)
   .rw[(oF i hi).2 (by omega)];exact r2 i hi
  refine⟨by rw[oI];exact r1,hlen,λi q s2 v hi eK jY=>?_,λv hv=>?_⟩
  .have yk:q<sz:=by rw[<-hlen i hi];exact (List.getElem?_eq_some_iff.1 eK).1
   rw[kW]at jY
   by_cases e:i<r
   .have:(i+1) * sz<=r * sz:=QR _ e
    rw[XM]at this;rw[QC (by omega)]at jY;rw[(oF i hi).1 e]at eK;exact n7 i q s2 v (by omega) eK jY
   .have:r * sz<=i * sz:=QR _ (by omega)
    rw[QA (by omega)]at jY;rw[(oF i hi).2 (by omega)]at eK;exact r3 i q s2 v hi eK jY
  .obtain⟨q,hq⟩:=Array.mem_iff_getElem?.1 hv
   rw[kW]at hq
   split at hq
   .exact n4 v (QL hq)
   .exact r4 v (YL hq)
 obtain⟨x1,x2,x3⟩:=Zh (h:=h) st tp hb k2 k5 IJ;have hu:=(hc.ti hl).slice hk;have hS:=(hc.ti iI).sizeOf w;have hlen:(Builtin.lenOf (a.eval y)).run P w=.ok k w:=by
  rcases n5 with⟨e0,rfl⟩|⟨ad,c0,e0,_⟩<;>rw[e0]<;>rfl
 have cX:(Builtin.firstCells te.size (Nat.min k md) (a.eval y)).run P w=.ok us.toArray w:=by
  rcases n5 with⟨e0,e00⟩|⟨ad,c0,e0,jP⟩
  .subst e00
   have:us=[]:=by simp[us,r]
   rw[e0,this];rfl
  .rw[e0]
   refine run_firstCells_some w te.size (Nat.min k md) ad k c0 us (by rw[xZ,ya]) (λj v hj=>?_);simp only[us]at hj;rw[QN]at hj
   split at hj
   .exact jP j v hj
   .cases hj
 have rD:=run_storeCells_at P b 0 ty us 0 C w k5 (by rw[xZ];omega) fU;simp only[ZB]at rD;unfold Oper.wp;have:(execOp a.eval o).run P w=.ok (.value (.int .i64 ((min k md:Nat):Int))) (w.setRow b C'):=by
  have hbi:(Builtin.copy_ #[t,t'] o.type #[.slice (some ⟨b,0,none⟩) md md,a.eval y]).run P w=.ok (.int .i64 ((min k md:Nat):Int)) (w.setRow b C'):=by
   simp only[Builtin.copy_];simp[Sem.run_bind,run_underlying hu,hlen,hS,cX,rD,goInt,C']
  simp only[execOp,ho,resolve,aR,e1,e2];simp[invoke,builtin,e3,hbi]
 rw[this];refine hK _ _ E x1 x2 x3 (.int ?_);simp only[ST.den];exact cw
end
end Go.Sx
