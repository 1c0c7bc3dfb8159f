/- A part of the proof: contracts of functions, or the executor and its soundness. No conditions. -/
import Derived.Test.YtdoogdbjiijifaaGreatDoorE8Paf
namespace Go.Sx
open Go
section
variable {P:Program} {cx:Cx} {σ:Sy} {T:List Nat} {o:Oper} {K:Out->Prop}
theorem O3{I':Nat->Nat->Prop}{w':World}{e:TypeId}{sz n m:Nat}{v':Value}{xs news:List Value}{f':Nat->List SV}{dJ:BT}{nt':ST}(cF:w'.ownsRow 0 e sz v' (n+m) (xs++news))(mB:xs.length=n * sz)
  (eK:dJ.den=true↔v'=.slice none 0 0) (mP:nt'.den=((n+m:Nat):Int)) (h1:∀u∈xs++news,u.oneCell'=true)
  (hI:∀b o,v'.ownBlock=some b->o<(n+m) * sz->I' b o) (aN:∀b o,v'.ownBlock=some b->o<(n+m) * sz->w'.cell? ⟨b,o,none⟩=(xs++news)[o]?)
  (xp:∀i,i<n->(f' i).length=sz) (iJ:∀j,j<m->(f' (n+j)).length=sz)
  (dB:∀(i j:Nat) (s:SV) (u:Value),i<n->(f' i)[j]?=some s->xs[i * sz+j]?=some u->RO I' w' s u) (cO:∀(i j:Nat) (s:SV) (u:Value),i<m->(f' (n+i))[j]?=some s->news[i * sz+j]?=some u->RO I' w' s u):
  RO I' w' (.sl dJ nt' sz f') v':=by
 have hlen:(xs++news).length=(n+m) * sz:=cF.1;have GY:news.length=m * sz:=by rw[QF,mB,XK]at hlen;omega
 rcases cF.2 with⟨rfl,e0⟩|⟨g,cap,cur,rfl,_,qz,qO,eY,cX,bT⟩
 .exact .slnil (eK.2 rfl) (by rw[mP,e0];rfl)
 .have eE:∀i j,i<n+m->j<sz->i * sz+j<(n+m) * sz:=by
   intro i j hi hj;have:(i+1) * sz<=(n+m) * sz:=QQ _ hi;rw[XK]at this;omega
  have lN:∀i,i<n+m->(f' i).length=sz:=by
   intro i hi
   by_cases eR:i<n
   .exact xp i eR
   .have:=iJ (i-n) (by omega)
    rwa [show n+(i-n)=i by omega]at this
  refine .sl (λi j=>(xs++news).getD (i * sz+j) undef) ?_ mP qO eY (λ_=>rfl) lN (λi j hi hj=>?_) (λi j hi hj=>⟨?_,?_⟩) (λi j s hi hs=>?_)
  .cases hb:dJ.den with
   |false=>rfl
   |true=>exact absurd (eK.1 hb) (by simp)
  .refine h1 _ ?_
   have:=eE i j hi hj;rw[QD,QC (by rw[hlen];exact this)];exact XL _
  .have aC:=eE i j hi hj
   simp only[XE];rw[aN g _ rfl aC,QD,QC (by rw[hlen];exact aC)];rfl
  .simp only[XE]
   exact hI g _ rfl (eE i j hi hj)
  .have hj:j<sz:=by rw[<-lN i hi];exact (List.getElem?_eq_some_iff.1 hs).1
   have aC:=eE i j hi hj
   by_cases eR:i<n
   .have FU:i * sz+j<xs.length:=by
     rw[mB];have:(i+1) * sz<=n * sz:=QQ _ eR;rw[XK]at this;omega
    refine dB i j s _ eR hs ?_;rw[QD,QM FU,QC FU];rfl
   .have e1:i * sz+j=n * sz+((i-n) * sz+j):=by
     have:i * sz=n * sz+(i-n) * sz:=by rw[<-XK];congr 1;omega
     omega
    have hni:(i-n) * sz+j<news.length:=by
     rw[GY];have:(i-n+1) * sz<=m * sz:=QQ _ (by omega);rw[XK]at this;omega
    refine cO (i-n) j s _ (by omega) (by rw[show n+(i-n)=i by omega];exact hs) ?_;rw[QD,e1,QO (by omega),mB,ZK,QC hni];rfl
theorem Dt{c:Call}(ho:o.op=.call c)(aP:c.callee=.builtin .append){x y:Operand}{t:TypeId}(hx:c.args.toList=[x,y])(ht:c.argTypes.toList=[t,t]){a:Act}{w w':World}{v':Value}(hr:(Builtin.append_ #[t,t] o.type #[a.eval x,a.eval y]).run P w=.ok v' w'):
  (execOp a.eval o).run P w=.ok (.value v') w':=by
 have e1:c.args=#[x,y]:=XU (by simpa using hx);have e2:c.argTypes=#[t,t]:=XU (by simpa using ht);simp[execOp,ho,resolve,aP,e1,e2,invoke,builtin,hr]
theorem Qb(hc:Az P cx){c:Call}(ho:o.op=.call c)(aP:c.callee=.builtin .append){x y:Operand}{t e sz:Nat}{te ti:TI}(hx:c.args.toList=[x,y])(ht:c.argTypes.toList=[t,t])(aC:look t cx.tt=some ti)(hk:ti.k=.slice e)(hle:look e cx.tt=some te)(bB:te.size=sz)(hz:0<sz)
  {sz0:Nat} {f0:Nat->List SV} (j0:rd cx σ T x=some (.sl (.l true) (.l 0) sz0 f0)) {s:SV} (jz:rd cx σ T y=some s) {m:ST} {g:Nat->List SV} (aI:rowOf sz s=some (m,g)) (hb:m.den * te.bytes<=140737488355328/\m.den<=9223372036854775807)
  {f':Nat->List SV} {n':Int} (xV:n'=m.den) (cY:∀j:Nat,(j:Int)<m.den->f' j=g j):Local P cx.gl σ T o ⟨.dQ (Pg .eql m (.l 0)) (.a n') sz f' (Ah σ.hp),[.put (Ah σ.hp) (.tail e (.a n') sz)],[],[]⟩:=by
 intro B N E a w ff hf hg st ag bK hT K' Q hK;have mx:x∈o.op.operands.toList:=by simp[ho,Op.operands,Call.operands,aP,hx]
 have my:y∈o.op.operands.toList:=by simp[ho,Op.operands,Call.operands,aP,hx]
 have iH:=(Aa j0 hg st (Ak ag mx) hT).bE;have tT:=Aa jz hg st (Ak ag my) hT;have RW:a.eval x=.slice none 0 0:=by
  rcases iH.bE with⟨h,_⟩|⟨_,_,_,_,_,h,_⟩
  .exact h
  .simp[BT.den]at h
 obtain⟨k,news,r1,r2,r3,r4,r5⟩:=Jd aI tT;have bM:hf (Ah σ.hp)=.fresh:=by
  have:=bK.fK _ (List.mem_singleton.2 rfl);simp only[dp,Aq,Aj,Af]at this;rw[Af,this];simp
 have iR:k * te.bytes<=140737488355328:=by
  have:=hb.1;rw[r1]at this;have h:((k * te.bytes:Nat):Int)<=140737488355328:=by rw[YZ];exact this
  omega
 have bW:=World.ownsRow_nil w 0 e sz;obtain⟨v',w',l1,l2,l3,l4,l5,l6⟩:=Nz (P:=P) (ty:=o.type) ((hc.ti aC).slice hk) (hc.ti hle) bB hz bW r3 (by simpa using r2) (by simpa using iR);obtain⟨E',x1,x2,x3,x4,x5,x6⟩:=Ok (h:=Ah σ.hp) (e:=e) (sz:=sz) st (.inl ⟨bM,rfl⟩) (by simpa using r3.2.1) bW l2 l4 l5 (λ_=>l6) (.a n') (by rw[xV,r1];simp[ST.den]);unfold Oper.wp;rw[Dt ho aP hx ht (a:=a) (w:=w) (w':=w') (v':=v') (by rw[RW];exact l1)];refine hK v' w' E' x1 x2 x3 (.dQ ?_ ?_)
 .refine O3 l2 bW.1 ?_ (by rw[xV,r1];simp[ST.den]) (by simpa using r3.2.1) x5 x6 (by intro i hi;omega) (λj hj=>?_) (by intro i j s u hi;omega) (λi j s u hi hs hu=>?_)
  .rw[Hz,l3]
   simp only[Bz,ST.den,r1,QS,true_and];omega
  .rw[XE,cY j (by rw[r1];omega)];exact r4 j hj
  .rw[XE,cY i (by rw[r1];omega)]at hs
   exact (r5 i j s u hi hs hu).mono x1.I x1.cell
 .obtain⟨a0,c0,rfl⟩:=l5
  refine⟨a0,0+k,c0,x4,?_,λ_=>rfl⟩;simp only[ST.den,xV,r1];omega
theorem Ox(hc:Az P cx){c:Call}(ho:o.op=.call c)(aP:c.callee=.builtin .append){x y:Operand}{t e sz:Nat}{te ti:TI}(hx:c.args.toList=[x,y])(ht:c.argTypes.toList=[t,t])(aC:look t cx.tt=some ti)(hk:ti.k=.slice e)(hle:look e cx.tt=some te)(bB:te.size=sz)(hz:0<sz)
  {nl:BT} {n n0:ST} {f:Nat->List SV} {h:Nat} (j0:rd cx σ T x=some (.dQ nl n sz f h)) (hh:nth σ.hp h=some (.tail e n0 sz)) {s:SV} (jz:rd cx σ T y=some s) {m:ST} {g:Nat->List SV} (aI:rowOf sz s=some (m,g))
  (hb:n.den=n0.den/\(n.den+m.den) * te.bytes<=140737488355328/\n.den+m.den<=9223372036854775807)
  {f':Nat->List SV} {n':Int} (xV:n'=n.den+m.den) (fO:∀i:Nat,(i:Int)<n.den->f' i=f i) (cY:∀i j:Nat,(i:Int)=n.den+j->(j:Int)<m.den->f' i=g j):
  Local P cx.gl σ T o ⟨.dQ (Vs nl (Pg .eql m (.l 0))) (.a n') sz f' h,[.put h (.tail e (.a n') sz)],[h],[]⟩:=by
 intro B N E a w ff hf hg st ag bK hT K' Q hK;have mx:x∈o.op.operands.toList:=by simp[ho,Op.operands,Call.operands,aP,hx]
 have my:y∈o.op.operands.toList:=by simp[ho,Op.operands,Call.operands,aP,hx]
 obtain⟨iH,SA⟩:=(Aa j0 hg st (Ak ag mx) hT).kF;have tT:=Aa jz hg st (Ak ag my) hT;obtain⟨k,news,r1,r2,r3,r4,r5⟩:=Jd aI tT;have bC:=st.heap h;rw[bK.tJ h (List.mem_singleton.2 rfl),Bo hh]at bC;obtain⟨v,nn,xs,k1,k2,k3,k4,k5⟩:=bC;have hv:a.eval x=v:=by
  obtain⟨a0,m0,c0,q1,_,q3⟩:=SA;rw[k1]at q1;cases q1;have:m0=nn:=by
   rcases k2.2 with⟨e1,e2⟩|⟨g0,cap,cur,e1,_⟩
   .cases e1;exact e2.symm
   .cases e1;rfl
  subst this;exact q3 (by rw[hb.1,k3])
 rw[hv]at iH;have gC:n.den=(nn:Int):=by rw[hb.1,k3]
 have iR:(nn+k) * te.bytes<=140737488355328:=by
  have:=hb.2.1;rw[gC,r1]at this;have h:(((nn+k) * te.bytes:Nat):Int)<=140737488355328:=by rw[YZ,UP];exact this
  omega
 obtain⟨v',w',l1,l2,l3,l4,l5,l6⟩:=Nz (P:=P) (ty:=o.type) ((hc.ti aC).slice hk) (hc.ti hle) bB hz k2 r3 (by have:=hb.2.2;rw[gC,r1]at this;simp only[maxLen];omega) iR;have lR:∀u∈xs++news,u.oneCell'=true:=λu hu=>by
  rcases List.mem_append.1 hu with hu|hu
  .exact k4 u hu
  .exact r3.2.1 u hu
 have mP:(ST.a n').den=((nn+k:Nat):Int):=by simp only[ST.den,xV,gC,r1];omega
 obtain⟨E',x1,x2,x3,x4,x5,x6⟩:=Ok (h:=h) (e:=e) (sz:=sz) st (.inr ⟨n0,by rw[bK.tJ h (List.mem_singleton.2 rfl),Bo hh],k1,k5⟩) lR k2 l2 l4 l5 (λ_=>l6) (.a n') mP;unfold Oper.wp;rw[Dt ho aP hx ht (a:=a) (w:=w) (w':=w') (v':=v') (by rw[hv];exact l1)];refine hK v' w' E' x1 x2 x3 (.dQ ?_ ?_)
 .have hold:(v=.slice none 0 0↔nl.den=true)/\(∀i,i<nn->(f i).length=sz)/\∀(i j:Nat) (s:SV) (u:Value),i<nn->(f i)[j]?=some s->xs[i * sz+j]?=some u->RO E.I w s u:=by
   rcases iH.bE with⟨e1,e2,e3⟩|⟨ad,m0,aT9,g0,e1,e2,e3,_,_,q4,q5,_,q6,q7⟩
   .have:nn=0:=by omega
    subst this;exact⟨⟨λ_=>e3,λ_=>e1⟩,by intro i hi;omega,by intro i j s u hi;omega⟩
   .have hm:m0=nn:=by omega
    subst hm;refine⟨⟨λe=>by rw[e1]at e;simp at e,λe=>by rw[e2]at e;cases e⟩,q5,λi j s u hi hs hu=>?_⟩;rcases k2.2 with⟨e4,_⟩|⟨g1,cap,cur,e4,_,qz,qO,_,cX,bT⟩
    .rw[e1]at e4;simp at e4
    .rw[e1]at e4
     simp only[Value.slice.injEq,Option.some.injEq]at e4;obtain⟨rfl,_,rfl⟩:=e4;have hj:j<sz:=by rw[<-q5 i hi];exact (List.getElem?_eq_some_iff.1 hs).1
     have hc:=(q6 i j hi hj).1;simp only[XE]at hc;have aC:i * sz+j<m0 * sz:=by
      have:(i+1) * sz<=m0 * sz:=QQ _ hi;rw[XK]at this;omega
     rw[cell_of_row w g1 (i * sz+j) cur e (0,0) qz]at hc;rw[<-bT,QN,QB aC]at hu;simp only[QX]at hu;rw[hu]at hc;rw[Option.some.inj hc];exact q7 i j s hi hs
  obtain⟨o1,o2,o3⟩:=hold;refine O3 l2 k2.1 ?_ mP lR x5 x6 (λi hi=>by rw[fO i (by omega)];exact o2 i hi) (λj hj=>?_) (λi j s u hi hs hu=>?_) (λi j s u hi hs hu=>?_)
  .rw[L7,Hz,l3]
   simp only[Bz,ST.den,r1,QE,QS];rw[o1];constructor
   .rintro⟨h1,h2⟩;exact⟨h1,by omega⟩
   .rintro⟨h1,h2⟩;exact⟨h1,by omega⟩
  .rw[cY (nn+j) j (by omega) (by omega)];exact r4 j hj
  .rw[fO i (by omega)]at hs
   exact (o3 i j s u hi hs hu).mono x1.I x1.cell
  .rw[cY (nn+i) i (by omega) (by omega)]at hs
   exact (r5 i j s u hi hs hu).mono x1.I x1.cell
 .obtain⟨a0,c0,rfl⟩:=l5
  exact⟨a0,nn+k,c0,x4,by rw[mP];exact ZC _,λ_=>rfl⟩
end
theorem Rel.fB{E:Env}{w:World}{s:SV}{v:Value}(h:Rel E w s v)(hp:An s=true)(h1:v.oneCell'=true):RO E.I w s v:=by
 cases h with
 |ro h=>exact h
 |ptr hb hv=>simp[An]at hp
 |dQ hr ht=>simp[An]at hp
 |dG hb hm hv=>simp[An]at hp
 |cS hb hz hv=>simp[An]at hp
 |bV ht hk=>simp[An]at hp
 |cK hv ho=>simp[An]at hp
 |bP hb hv=>simp[An]at hp
 |iZ hb hn hv=>simp[An]at hp
 |yv hb hv=>simp[An]at hp
 |cP ht hk=>simp[An]at hp
 |jP ht hk=>simp[An]at hp
 |agg hl _=>simp[Value.oneCell']at h1
 |aJ hl _=>simp[Value.oneCell']at h1
 |eZ hl _=>simp[An]at hp
 |gI hl _=>simp[An]at hp
section
variable {P:Program} {cx:Cx} {σ:Sy} {T:List Nat} {o:Oper} {K:Out->Prop}
theorem Qq{sz:Nat}:∀(n i:Nat) (cs:List SV),i<n->(chunks sz n cs)[i]?=some (takeN sz (C4 (i * sz) cs))
 |n+1,0,cs,_=>by simp[chunks,Bi]
 |n+1,i+1,cs,h=>by
  simp only[chunks,List.getElem?_cons_succ];rw[Qq n i _ (by omega)];simp only[Bi,ZA];congr 3;rw[XK,Nat.one_mul,Nat.add_comm]
theorem Np{sz:Nat}:∀(n i:Nat) (cs r:List SV),(chunks sz n cs)[i]?=some r->r=takeN sz (C4 (i * sz) cs)
 |0,i,cs,r,h=>by simp[chunks]at h
 |n+1,0,cs,r,h=>by simp[chunks]at h;rw[<-h];simp[Bi]
 |n+1,i+1,cs,r,h=>by
  simp only[chunks,List.getElem?_cons_succ]at h;rw[Np n i _ r h];simp only[Bi,ZA,XK,Nat.one_mul];congr 2;omega
theorem Of{z:List SV}:∀(n q:Nat),q<n * z.length->(Am.kR n z)[q]?=z[q % z.length]?
 |0,q,h=>by omega
 |n+1,q,h=>by
  simp only[Am.kR]
  by_cases hq:q<z.length
  .rw[QM hq,Nat.mod_eq_of_lt hq]
  .have h':q<n * z.length+z.length:=by rw[<-Nat.succ_mul];exact h
   rw[QO (by omega),Of n (q-z.length) (by omega),(Nat.mod_eq_sub_mod (show q>=z.length by omega))]
theorem Eo{z:List SV}:∀(n:Nat),(Am.kR n z).length=n * z.length
 |0=>by simp[Am.kR]
 |n+1=>by simp[Am.kR,Eo n,XK];omega
theorem Ii{E:Env}{w:World}{sz:Nat}:∀(vs:List (Nat×SV)) (us:List (Nat×Value)) (cs dH:List SV) (C:List Value),vs.length=us.length->(∀(i:Nat) (p:Nat×SV) (q:Nat×Value),vs[i]?=some p->us[i]?=some q->p.1=q.1/\Rel E w p.2 q.2)->(∀p∈vs,Ej p.2.cells=true)->A6 E w cs C->(∀u∈C,u.oneCell'=true)->
   Am.eM sz cs vs=some dH->∃C',Instr.fill (λi=>some (i * sz,sz)) ⟨C⟩ us=some ⟨C'⟩/\A6 E w dH C'/\∀u∈C',u.oneCell'=true
 | [],us,cs,dH,C,hlen,_,_,hr,h1,h=>by
  have:us=[]:=XN (by simpa using hlen.symm);subst this;simp[Am.eM]at h;subst h;exact⟨C,rfl,hr,h1⟩
 |(i,v) :: vs,us,cs,dH,C,hlen,bF,h1,hr,fN,h=>by
  match us,hlen,bF with
  |(i',u) :: us,hlen,bF =>
   obtain⟨e0,RX⟩:=bF 0 (i,v) (i',u) rfl rfl;simp only at e0;subst e0;have cW:=H4 (h1 _ (XA ..)) RX;simp only[Am.eM]at h
   split at h
   .rename_i hb
    simp only[QE,QS,Af]at hb;obtain⟨b1,b2⟩:=hb;have b2:=XJ b2;have bB:u.cells.size=sz:=by rw[<-b1,cW.1];simp
    rw[X2 rfl bB (by rw[<-hr.1];exact b2)];refine Ii vs us _ dH _ (by simpa using hlen) (λj p q a b=>bF (j+1) p q (by simpa using a) (by simpa using b)) (λp hp=>h1 p (XB _ hp)) (Ak5 hr cW _ (by show i * sz+v.cells.length<=cs.length;omega)) ?_ h;intro x hx;obtain⟨q,hq⟩:=List.mem_iff_getElem?.1 hx;rw[Hv _ _ _ _ (by rw[<-cW.1,<-hr.1];show i * sz+v.cells.length<=cs.length;omega)]at hq
    split at hq
    .exact Mf (h1 _ (XA ..)) cW x (QK hq)
    .exact fN x (QK hq)
   .cases h
theorem P8(hc:Az P cx){t len e:Nat}{ps:Array (Nat×Operand)}(ho:o.op=.buildSlice t len ps){ti te:TI}(aC:look t cx.tt=some ti)(hk:ti.k=.slice e)(hle:look e cx.tt=some te){vs:List (Nat×SV)}(hv:Gk cx σ T ps.toList=some vs)(h1:Om vs=true)
  {cs:List SV} (hf:Am.eM te.size (Am.kR len te.zero) vs=some cs) (gJ:An (.agg (loose.aH (norm.aM dn cs)))=true) (hz:0<te.size) (oR:len * te.size<=16777216):
  Local P cx.gl σ T o ⟨.dQ (.l false) (.l len) te.size (λk=>takeN te.size (C4 (k * te.size) (loose.aH (norm.aM dn cs)))) (Ah σ.hp),[.put (Ah σ.hp) (.tail e (.l len) te.size)],[],[]⟩:=by
 intro B N E a w ff cY hg st ag bK hT K' Q hK;have eT:∀p∈ps.toList,∀s∈Ct p.2,ff s=Bd σ s:=λp hp=>Ak ag (by simp only[ho,Op.operands];simp;exact⟨p.1,by simpa using hp⟩);obtain⟨h2,h3⟩:=Ep hg st hT ps.toList vs eT hv;obtain⟨z,zW,iG,qj⟩:=(hc.ti hle).zero E w;have jJ:=(hc.ti hle).pP;have eA:z.cells.size=te.size:=by have:=iG.1;rw[jJ]at this;simpa using this.symm
 have jB:∀(j:Nat) (p:Nat×SV) (q:Nat×Value),vs[j]?=some p->((ps.map λ(x:Nat×Operand)=>(x.1,a.eval x.2)).toList)[j]?=some q->p.1=q.1/\Rel E w p.2 q.2:=by
  intro j p q hp hq;rw[ZL,QR]at hq;cases tY:ps.toList[j]? with
  |none=>rw[tY]at hq;cases hq
  |some x =>
   rw[tY]at hq;simp only[QP,Option.some.injEq]at hq;subst hq;exact h3 j p x hp tY
 -- qZ zero cells
 let C0:List Value:=(List.range (len * te.size)).map λq=>z.cells.toList.getD (q % te.size) undef
 have IZ:A6 E w (Am.kR len te.zero) C0:=by
  refine⟨by rw[Eo,jJ];simp[C0],λi s v hs hv=>?_⟩;have aC:i<len * te.size:=by
   have:=(List.getElem?_eq_some_iff.1 hs).1
   rwa [Eo,jJ]at this
  rw[Of _ _ (by rw[jJ];exact aC),jJ]at hs;simp[C0,aC]at hv;have hm:i % te.size<z.cells.size:=by rw[eA];exact YD _ hz
  refine iG.2 (i % te.size) s v hs ?_;rw[<-hv];simp[hm]
 have c8:∀u∈C0,u.oneCell'=true:=by
  intro u hu;simp only[C0,List.mem_map,List.mem_range]at hu;obtain⟨q,_,rfl⟩:=hu;have hm:q % te.size<z.cells.toList.length:=by simp[eA];exact YD _ hz
  rw[QD,QC hm];exact qj _ (XL hm)
 obtain⟨C',c1,c2,c3⟩:=Ii vs (ps.map λ(x:Nat×Operand)=>(x.1,a.eval x.2)).toList _ cs C0 (by simp[h2]) jB (Jg h1) IZ c8 hf;have pH:C'.length=len * te.size:=by
  rw[<-c2.1];have:∀(vs:List (Nat×SV)) (cs dH:List SV),Am.eM te.size cs vs=some dH->dH.length=cs.length:=by
   intro vs
   induction vs with
   |nil=>intro cs dH h;simp[Am.eM]at h;rw[h]
   |cons p vs ih =>
    intro cs dH h;obtain⟨i,v⟩:=p;simp only[Am.eM]at h
    split at h
    .rw[ih _ _ h,Dd]
    .cases h
  rw[this vs _ cs hf,Eo,jJ]
 have aV:(Instr.buildSlice t len (ps.map λ(x:Nat×Operand)=>(x.1,a.eval x.2))).run P w=.ok (.slice (some ⟨w.heap.size,0,none⟩) len len) (w.alloc (.cells ⟨C'⟩ e)):=by
  have hu:=(hc.ti aC).slice hk;have hS:=(hc.ti hle).sizeOf w;have mM:((Array.range (len * te.size)).map (λq=>z.cells[q % z.cells.size]!))=(⟨C0⟩:Array Value):=by
   apply XU;simp only[ZL,Array.toList_range,C0];refine UB λq _=>?_;rw[eA,QD,UD,XH,QX];have hm:q % te.size<z.cells.size:=by rw[eA];exact YD _ hz
   simp[hm]
  have sK:¬(16777216<len * te.size):=by omega
  simp only[Instr.buildSlice,Sem.run_bind,run_underlying hu,Result.andThen_ok,hS,gt_iff_lt]
  by_cases h0:len * te.size=0
  .have c7:C0=[]:=by simp[C0,h0]
   rw[c7]at c1;rw[ZL]at c1;have cj:Array.map (λ_=>(default:Value)) (Array.range 0)=⟨[]⟩:=by simp
   simp[h0,newRow,newObj]
   first|rw[cj,c1]|(simp at c1 ⊢;rw[c1])
   simp[Sem.run]
  .rw[ZL]at c1
   simp[h0,sK,zW,mM,newRow,newObj];rw[c1];simp[Sem.run]
 have bM:cY (Ah σ.hp)=.fresh:=by
  have:=bK.fK _ (List.mem_singleton.2 rfl);simp only[dp,Aq,Aj,Af]at this;rw[Af,this];simp
 have nM:len<=maxLen:=by
  simp only[maxLen];have:len<=len * te.size:=Nat.le_mul_of_pos_right _ hz;omega
 have cF:=World.ownsRow_lit w (base:=0) (e:=e) (size:=te.size) ⟨C'⟩ len (ZB _) nM (by simpa using pH);obtain⟨E',x1,x2,x3,x4,x5,x6⟩:=Ok (h:=Ah σ.hp) (e:=e) (sz:=te.size) (n:=0) (m:=len) (xs:=[]) (news:=C') st (.inl ⟨bM,rfl⟩) (by simpa using c3) (World.ownsRow_nil w 0 e te.size) (by simpa using cF) (.inr ⟨rfl,World.grownBy_alloc w _ none⟩) ⟨_,_,by simp;exact⟨rfl,rfl⟩⟩ (λh=>absurd bM h) (.l len) (by simp[ST.den]);unfold Oper.wp;have:(execOp a.eval o).run P w=.ok (.value (.slice (some ⟨w.heap.size,0,none⟩) len len)) (w.alloc (.cells ⟨C'⟩ e)):=by
  simp only[execOp,ho,Sem.run_bind];rw[aV];rfl
 rw[this]
 -- fm it reads as
 have j9:∀c∈loose.aH (norm.aM dn cs),An c=true:=by
  simp only[An]at gJ;exact (Cv _).1 gJ
 have cW:A6 E w (loose.aH (norm.aM dn cs)) C':=by
  rw[Ce,Ci];exact (c2.map _ λs v _ h=>h.norm).map _ λs v _ h=>h.loose
 have bL:∀(i j:Nat) (s:SV),(takeN te.size (C4 (i * te.size) (loose.aH (norm.aM dn cs))))[j]?=some s->(loose.aH (norm.aM dn cs))[i * te.size+j]?=some s:=by
  intro i j s hs;rw[A8,Bi,QN]at hs
  split at hs
  .rwa [XF]at hs
  .cases hs
 refine hK _ _ E' x1 x2 x3 (.dQ ?_ ⟨_,len,_,x4,by simp[ST.den],λ_=>rfl⟩);refine O3 (n:=0) (m:=len) (xs:=[]) (news:=C') (by simpa using cF) (by simp) (by simp[BT.den]) (by simp[ST.den]) (by simpa using c3) x5 x6 (by intro i hi;omega) (λj hj=>?_) (by intro i j s u hi;omega) (λi j s u hi hs hu=>?_)
 .rw[A8,Bi,QZ,QY,cW.1,pH,XE]
  have:(j+1) * te.size<=len * te.size:=QQ _ hj;rw[XK]at this;omega
 .rw[XE]at hs
  have cB:=bL i j s hs;exact (((cW.2 _ s u cB hu).fB (j9 s (QK cB)) (c3 u (QK hu)))).mono x1.I x1.cell
end
theorem Rel.jV{E:Env}{w:World}{h:Nat}{v:Value}(hr:Rel E w (.dG h) v):∃b m,E.β h=some b/\E.κ h=some m/\v=.slice (some ⟨b,0,none⟩) m m:=by
 cases hr with
 |ro h=>cases h
 |dG hb hm hv=>exact⟨_,_,hb,hm,hv⟩
theorem Rel.jW{E:Env}{w:World}{h j off:Nat}{v:Value}(hr:Rel E w (.cS h j off) v):∃b sz,E.β h=some b/\E.ζ h=some sz/\v=.pointer (some ⟨b,j * sz+off,none⟩):=by
 cases hr with
 |ro h=>cases h
 |cS hb hz hv=>exact⟨_,_,hb,hz,hv⟩
theorem Ago{B:Bs}{N:Nat}{E:Env}{a:Act}{w w':World}{ff:Nat->SG}{hf:Nat->Hl}(st:St B N E a w ff hf){h:Nat}(bM:hf h=.fresh){ty:TypeId}{n:ST}{sz m:Nat}{f:Nat->List SV}{C:Array Value}
  (hg:w.grownBy w' none) (hC:w'.heap[w.heap.size]?=some (.cells C ty (0,0))) (hn:n.den=(m:Int)) (hm:m<=maxLen) (aI:Q3 E w f m sz C):
  ∃E',Ext E w E' w'/\Cl B E' w'/\(∀k,bQ E' w' k (aR hf h (.row ty n sz f) k))/\E'.β h=some w.heap.size/\E'.κ h=some m/\E'.ζ h=some sz:=by
 have hb:=st.base;have cE:=st.heap h;rw[bM]at cE;obtain⟨f1,f2,f3,f4⟩:=cE
 let E':Env:=⟨aR E.β h (some w.heap.size),E.τ,aR E.O w.heap.size (some h),aR E.κ h (some m),aR E.ζ h (some sz),E.I⟩
 have hold:∀b,b<w.heap.size->w'.heap[b]?=w.heap[b]?:=λb aC=>hg.block b aC (by simp);have xn:w.heap.size<w'.heap.size:=(Array.getElem?_eq_some_iff.1 hC).1;have pQ:∀ {α:Type} (F:Nat->Option α) (x:α) (k:Nat) (y:α),F h=none->F k=some y->aR F h (some x) k=some y:=by
  intro α F x k y h0 hk;unfold aR
  by_cases e:k=h
  .subst e;rw[h0]at hk;cases hk
  .rw[QA e];exact hk
 have hx:Ext E w E' w':=by
  refine⟨λk b hk=>pQ _ _ k b f1 hk,λ_ _ h=>.inl h,λk b hk=>pQ _ _ k b f3 hk,λk b hk=>pQ _ _ k b f4 hk,λ_ _ h=>h,λb o hi=>?_⟩;simp only[World.cell?];rw[hold b (hb.dR b o hi)]
 refine⟨E',hx,⟨hg.os.trans hb.os,hg.tape.trans hb.tape,hg.output.trans hb.output,?_,?_,?_,?_,?_,?_,hb.cL.ext hx⟩,λk=>?_,by simp[E',aR],by simp[E',aR],by simp[E',aR]⟩
 .have:=hb.size;omega
 .intro b aC hX;rw[hold b (by have:=hb.size;omega)];exact hb.dZ b aC hX
 .intro b o hi
  obtain⟨i1,i2⟩:=hb.I0 b o hi;exact⟨i1,by rw[hx.cell b o i1];exact i2⟩
 .intro b o hi;have:=hb.dR b o hi;omega
 .exact hb.cC
 .intro b k hO
  have hO:aR E.O w.heap.size (some h) b=some k:=hO;unfold aR at hO
  split at hO
  .rename_i e;subst e;have:=hb.size;exact⟨xn,.inl this⟩
  .obtain⟨o1,o2⟩:=hb.cR b k hO;exact⟨by omega,o2⟩
 .by_cases e:k=h
  .subst e
   simp only[aR,QB];refine⟨w.heap.size,C,m,by simp[E',aR],by simp[E',aR],by simp[E',aR],by simp[E',aR],hC,hn,hm,⟨aI.1,aI.2.1,λi j s v a b c=>(aI.2.2.1 i j s v a b c).mono hx.I hx.cell,aI.2.2.2⟩,λo hi=>?_⟩;have:=hb.dR _ _ hi;omega
  .simp only[aR,QA e]
   refine bQ.keep hx (st.heap k) (by simp[E',aR,e]) rfl (by simp[E',aR,e]) (by simp[E',aR,e]) λb hO=>?_;have aC:=A9 hb hO;exact⟨by simp[E',aR,UA aC];exact hO,hold b aC,λ_ h=>h⟩
theorem Yq{B:Bs}{N:Nat}{E:Env}{a:Act}{w:World}{ff:Nat->SG}{hf:Nat->Hl}(st:St B N E a w ff hf){h b m:Nat}{ty:TypeId}{n:ST}{sz:Nat}{f f':Nat->List SV}{C C':Array Value}
  (hh:hf h=.row ty n sz f) (fQ:E.β h=some b) (FL:E.κ h=some m) (hC:w.heap[b]?=some (.cells C ty (0,0))) (aI:Q3 E w f' m sz C'):
  Ext E w E (w.setRow b C')/\Cl B E (w.setRow b C')/\(∀k,bQ E (w.setRow b C') k (aR hf h (.row ty n sz f') k)):=by
 have hb:=st.base;have hk:=st.heap h;rw[hh]at hk;obtain⟨b',C1,m',k1,k2,k3,k4,k5,k6,k7,k8,k9⟩:=hk;obtain rfl:b=b':=Option.some.inj (fQ.symm.trans k1);obtain rfl:m=m':=Option.some.inj (FL.symm.trans k2);have hx:Ext E w E (w.setRow b C'):=⟨λ_ _ h=>h,λ_ _ h=>.inl h,λ_ _ h=>h,λ_ _ h=>h,λ_ _ h=>h,λb2 o hi=>cell_setRow_other w b C' ⟨b2,o,none⟩ (λe=>by subst e;exact k9 o hi)⟩;have hX:=(hb.cR b h k4).2;refine⟨hx,⟨hb.os,hb.tape,hb.output,by simpa using hb.size,?_,?_,?_,hb.cC,?_,hb.cL⟩,λk=>?_⟩
 .intro b2 aC jZ
  by_cases e:b2=b
  .subst e;rcases hX with hX|hX
   .omega
   .exact absurd hX jZ
  .rw[setRow_other w b b2 C' e];exact hb.dZ b2 aC jZ
 .intro b2 o hi
  obtain⟨i1,i2⟩:=hb.I0 b2 o hi;exact⟨i1,by rw[hx.cell b2 o i1];exact i2⟩
 .intro b2 o hi;have:=hb.dR b2 o hi;simpa using this
 .intro b2 k hO;have:=hb.cR b2 k hO;simpa using this
 .by_cases e:k=h
  .subst e
   simp only[aR,QB];exact⟨b,C',m,fQ,FL,k3,k4,setRow_heap w b C C' ty (0,0) hC,k6,k7,⟨aI.1,aI.2.1,λi j s v a b c=>(aI.2.2.1 i j s v a b c).mono hx.I hx.cell,aI.2.2.2⟩,k9⟩
  .simp only[aR,QA e]
   refine bQ.keep hx (st.heap k) rfl rfl rfl rfl λb2 hO=>⟨hO,?_,λ_ h=>h⟩;refine setRow_other w b b2 C' (λe2=>?_);subst e2;rw[k4]at hO;exact e (Option.some.inj hO).symm
section
variable {P:Program} {cx:Cx} {σ:Sy} {T:List Nat} {o:Oper} {K:Out->Prop}
theorem Ea{x:Operand}(ho:o.op=.nilCheck x){v:SV}(hv:rd cx σ T x=some v)(hp:(∃h off,v=.ptr h off)\/(∃cs,v=.dK cs)\/(∃h j off,v=.cS h j off)\/(∃n sz f,v=.dT n sz f)\/∃n h j off,v=.cK n h j off):Local P cx.gl σ T o ⟨v,[],[],[]⟩:=by
 intro B N E a w ff cY hg st ag bK hT;have hr:=Aa hv hg st (Ak ag (by simp[ho,Op.operands])) hT;have:∃ad,a.eval x=.pointer (some ad):=by
  rcases hp with⟨h,off,rfl⟩|⟨cs,rfl⟩|⟨h,j,off,rfl⟩|⟨n,sz,f,rfl⟩|⟨n,h,j,off,rfl⟩
  .obtain⟨b,_,e⟩:=hr.dL;exact⟨_,e⟩
  .obtain⟨ad,e,_⟩:=hr.eI.eI;exact⟨_,e⟩
  .obtain⟨b,sz,_,_,e⟩:=hr.jW;exact⟨_,e⟩
  .have hx:RO E.I w (.dT n sz f) (a.eval x):=by cases hr with|ro h=>exact h
   generalize a.eval x=ev at hx
   cases hx;exact⟨_,rfl⟩
  .obtain⟨⟨b,o,e⟩,_⟩:=hr.nF;exact⟨_,e⟩
 obtain⟨ad,e⟩:=this;exact Ad st (v:=a.eval x) (by simp[execOp,ho,e]) rfl hr
theorem O7{cY:Nat->Hl}{r:Out}{hl:Hl}(bK:AU σ.hp cY r)(hm:Ef.put (Ah σ.hp) hl∈r.fK):cY (Ah σ.hp)=.fresh:=by
 have:=bK.fK _ hm;simp only[dp,Aq,Aj,Af]at this;rw[Af,this];simp
theorem Abz(hc:Az P cx){t e:Nat}{x y:Operand}(ho:o.op=.makeSlice t x y){ti te:TI}(aC:look t cx.tt=some ti)(hk:ti.k=.slice e)(hle:look e cx.tt=some te){kl kc:IntKind}{c:ST}(hx:rd cx σ T x=some (.int kl (.l 0)))(hy:rd cx σ T y=some (.int kc c))
  (kL:Bh (Ac σ.gm T)->0<=c.den/\c.den * te.bytes<=140737488355328/\c.den<=9223372036854775807):
  Local P cx.gl σ T o ⟨.dQ (.l false) (.l 0) te.size (λ_=>[]) (Ah σ.hp),[.put (Ah σ.hp) (.tail e (.l 0) te.size)],[],[]⟩:=by
 intro B N E a w ff cY hg st ag bK hT K' Q hK;have iH:=(Aa hx hg st (Ak ag (by simp[ho,Op.operands])) hT).aQ;have tT:=(Aa hy hg st (Ak ag (by simp[ho,Op.operands])) hT).aQ;obtain⟨o1,o2,o3⟩:=kL hT;obtain⟨i,z,hi,eJ,xY,hz,sQ,_⟩:=(hc.ti hle).info;have hu:=(hc.ti aC).slice hk;have rk:c.den=((c.den.toNat:Nat):Int):=by omega
 have uJ:i.bytes * c.den.toNat<=281474976710656:=by
  rw[xY];have:((te.bytes * c.den.toNat:Nat):Int)<=140737488355328:=by
   rw[YZ,<-rk,Int.mul_comm];exact o2
  omega
 obtain⟨w',r1,r2,r3⟩:=run_make_own (P:=P) w 0 t e i z te.size hu hi hz eJ kl kc c.den.toNat uJ (by simp only[maxLen];omega) (ZB _);have bM:=O7 bK (List.mem_singleton.2 rfl);obtain⟨E',x1,x2,x3,x4,x5,x6⟩:=Ok (h:=Ah σ.hp) (e:=e) (sz:=te.size) (n:=0) (m:=0) (xs:=[]) (news:=[]) st (.inl ⟨bM,rfl⟩) (by simp) (World.ownsRow_nil w 0 e te.size) (by simpa using r2) (.inr ⟨rfl,r3⟩) ⟨_,_,rfl⟩ (λh=>absurd bM h) (.l 0) (by simp[ST.den]);unfold Oper.wp;have:(execOp a.eval o).run P w=.ok (.value (.slice (some ⟨w.heap.size,0,none⟩) 0 c.den.toNat)) w':=by
  simp only[execOp,ho,Sem.run_bind,iH,tT,ST.den];rw[rk,r1];rfl
 rw[this];refine hK _ _ E' x1 x2 x3 (.dQ ?_ ⟨_,0,_,x4,by simp[ST.den],λ_=>rfl⟩);exact O3 (n:=0) (m:=0) (xs:=[]) (news:=[]) (by simpa using r2) (by simp) (by simp[BT.den]) (by simp[ST.den]) (by simp) x5 x6 (by intro i hi;omega) (by intro j hj;omega) (by intro i j s u hi;omega) (by intro i j s u hi;omega)
theorem Aby(hc:Az P cx){t e:Nat}{x y:Operand}(ho:o.op=.makeSlice t x y){ti te:TI}(aC:look t cx.tt=some ti)(hk:ti.k=.slice e)(hle:look e cx.tt=some te){kl kc:IntKind}{n n':ST}(hx:rd cx σ T x=some (.int kl n))(hy:rd cx σ T y=some (.int kc n'))(bZ:x=y)(qo:0<te.size)
  (kL:Bh (Ac σ.gm T)->0<=n.den/\n.den * te.bytes<=140737488355328/\n.den<=9223372036854775807):
  Local P cx.gl σ T o ⟨.dG (Ah σ.hp),[.put (Ah σ.hp) (.row e (.a n.den) te.size λ_=>te.zero)],[],[]⟩:=by
 subst bZ;intro B N E a w ff cY hg st ag bK hT K' Q hK;have iH:=(Aa hx hg st (Ak ag (by simp[ho,Op.operands])) hT).aQ;obtain⟨o1,o2,o3⟩:=kL hT;obtain⟨i,z,hi,eJ,xY,hz,sQ,_⟩:=(hc.ti hle).info;have hu:=(hc.ti aC).slice hk;have rk:n.den=((n.den.toNat:Nat):Int):=by omega
 have uJ:i.bytes * n.den.toNat<=281474976710656:=by
  rw[xY];have:((te.bytes * n.den.toNat:Nat):Int)<=140737488355328:=by
   rw[YZ,<-rk,Int.mul_comm];exact o2
  omega
 have nM:n.den.toNat<=maxLen:=by simp only[maxLen];omega
 obtain⟨w',r1,r2,r3⟩:=run_make_full (P:=P) w 0 t e i z te.size hu hi hz eJ kl kl n.den.toNat uJ nM (ZB _);have bM:=O7 bK (List.mem_singleton.2 rfl);obtain⟨mB,cO⟩:=r2;rcases cO with⟨h0,_⟩|⟨g,cap,cur,e0,_,WC,qO,eY,cX,bT⟩
 .cases h0
 simp only[Value.slice.injEq,Option.some.injEq,Addr.mk.injEq,and_true,true_and]at e0;obtain⟨rfl,iY⟩:=e0;subst iY;have IJ:cur=madeCells z.cells (n.den.toNat * te.size):=by
  apply XU;rw[<-bT,XI];simp[cX]
 have jJ:=(hc.ti hle).pP;have FQ:=Jz (I:=E.I) (w:=w) sQ;have aI:Q3 E w (λ_=>te.zero) n.den.toNat te.size cur:=by
  have eA:z.cells.size=te.size:=by have:=FQ.1;rw[jJ]at this;simpa using this.symm
  have bL:∀(q:Nat) (v:Value),cur[q]?=some v->z.cells[q % te.size]?=some v:=by
   intro q v hq;have bc:q<n.den.toNat * te.size:=by rw[<-cX];exact (Array.getElem?_eq_some_iff.1 hq).1
   rw[IJ]at hq;have hm:q % te.size<z.cells.size:=by rw[eA];exact YD _ qo
   have aY:n.den.toNat * te.size≠0:=by omega
   have TE:n.den.toNat≠0:=λh=>by rw[h]at aY;simp at aY
   have mE:te.size≠0:=by omega
   simp[madeCells,bc,eA]at hq;rw[<-hq];simp[hm]
  refine⟨cX,λ_ _=>jJ,λi j s v wK hs hv=>?_,λv hv=>?_⟩
  .have hj:j<te.size:=by rw[<-jJ];exact (List.getElem?_eq_some_iff.1 hs).1
   have:=bL _ v hv;rw[UR,Nat.mul_add_mod,Nat.mod_eq_of_lt hj]at this;exact FQ.2 j s v hs (by simpa using this)
  .obtain⟨q,hq,rfl⟩:=Array.mem_iff_getElem.1 hv
   have h1:=bL q _ (ZR hq);have hm:q % te.size<te.zero.length:=by rw[jJ];exact YD _ qo
   have:zB (te.zero[q % te.size]) cur[q]=true:=by
    have key:∀(ss:List SV) (vs:List Value) (k:Nat) (s:SV) (v:Value),uU ss vs=true->ss[k]?=some s->vs[k]?=some v->zB s v=true:=by
     intro ss
     induction ss with
     |nil=>intro vs k s v _ h;simp at h
     |cons s0 ss ih =>
      intro vs k s v h h1 h2;cases vs with
      |nil=>simp at h2
      |cons v0 vs =>
       simp only[uU,QE]at h;cases k with
       |zero=>simp at h1 h2;subst h1;subst h2;exact h.1
       |succ k=>simp at h1 h2;exact ih vs k s v h.2 h1 h2
    exact key _ _ _ _ _ sQ (QC hm) (by simpa using h1)
   exact Aj1 this
 obtain⟨E',x1,x2,x3,x4,x5,x6⟩:=Ago st bM (n:=.a n.den) (m:=n.den.toNat) r3 WC rk nM aI;unfold Oper.wp;have:(execOp a.eval o).run P w=.ok (.value (.slice (some ⟨w.heap.size,0,none⟩) n.den.toNat n.den.toNat)) w':=by
  simp only[execOp,ho,Sem.run_bind,iH];rw[rk];simp only[ZV]at r1 ⊢;rw[r1];rfl
 rw[this];exact hK _ _ E' x1 x2 x3 (.dG x4 x5 rfl)
theorem Uh{e:TypeId}{ti:TI}(hc:Az P cx)(ho:o.op=.alloc e)(hl:look e cx.tt=some ti){n sz:Nat}(bB:n * sz=ti.size)(hn:n<=1000000){f:Nat->List SV}(hf:Rx f (chunks sz n ti.zero)):
  Local P cx.gl σ T o ⟨.ptr (Ah σ.hp) 0,[.put (Ah σ.hp) (.row e (.l n) sz f)],[],[]⟩:=by
 intro B N E a w ff cY _ st _ bK _ K' Q hK;obtain⟨z,hz,hr,h1⟩:=(hc.ti hl).zero E w;obtain⟨i,z',hi,_,_,FR,sQ,_⟩:=(hc.ti hl).info;have jJ:=(hc.ti hl).pP;have bM:=O7 bK (List.mem_singleton.2 rfl);have ez:z=z':=by
  have:(zeroValue e).run P w=.ok z' w:=by simp[zeroValue,typeInfo,hi,FR]
  rw[hz]at this
  injection this
 subst ez;have FQ:=Jz (I:=E.I) (w:=w) sQ;have CG:z.cells.size=n * sz:=by rw[bB,<-jJ];have:=FQ.1;simpa using this.symm
 have qv:∀q,q<n->f q=(ti.zero.drop (q * sz)).take sz:=by
  intro q hq;have:=Qq (sz:=sz) n q ti.zero hq;rw[hf.h q _ this,A8,Bi]
 have aI:Q3 E w f n sz z.cells:=by
  refine⟨CG,λq hq=>?_,λq j s v hq hs hv=>?_,λv hv=>h1 v (by simpa using hv)⟩
  .rw[qv q hq]
   have:(q+1) * sz<=n * sz:=QQ _ hq;rw[XK]at this;simp;omega
  .rw[qv q hq,QN]at hs
   split at hs
   .rw[XF]at hs
    exact FQ.2 _ s v hs (by simpa using hv)
   .cases hs
 obtain⟨E',x1,x2,x3,x4,x5,x6⟩:=Ago st bM (w':=w.alloc (.cells z.cells e)) (n:=.l n) (m:=n) (f:=f) (sz:=sz) (C:=z.cells) (ty:=e)
  ⟨rfl,rfl,rfl,by simp,λk hk _=>RowKit.Below.heap_alloc w _ k hk⟩ (by show (w.heap.push _)[w.heap.size]?=_;simp) rfl (by simp only[maxLen];omega) aI
 unfold Oper.wp;have:(execOp a.eval o).run P w=.ok (.value (.pointer (some ⟨w.heap.size,0,none⟩))) (w.alloc (.cells z.cells e)):=by
  simp[execOp,ho,Instr.alloc,hz,newVar,newRow,newObj,Sem.run]
 rw[this];exact hK _ _ E' x1 x2 x3 (.ptr x4 rfl)
end
section
variable {P:Program} {cx:Cx} {σ:Sy} {T:List Nat} {o:Oper} {K:Out->Prop}
theorem Br{cY:Nat->Hl}{r:Out}{h:Nat}{hl:Hl}(bK:AU σ.hp cY r)(hm:h∈r.tJ)(hh:nth σ.hp h=some hl):cY h=hl:=by
 rw[bK.tJ h hm,Bo hh]
theorem Wj(hc:Az P cx){c:Call}(ho:o.op=.call c)(aP:c.callee=.builtin .len){x:Operand}{t:Nat}{ti:TI}(hx:c.args.toList=[x])(ht:c.argTypes.toList=[t])(hl:look t cx.tt=some ti){e:TypeId}(hk:ti.k=.slice e)
  {h ty sz:Nat} {n:ST} {f:Nat->List SV} (hv:rd cx σ T x=some (.dG h)) (hh:nth σ.hp h=some (.row ty n sz f)):Local P cx.gl σ T o ⟨.int .i64 n,[],[h],[]⟩:=by
 intro B N E a w ff cY hg st ag bK hT;have dP:x∈o.op.operands.toList:=by simp[ho,Op.operands,Call.operands,aP,hx]
 obtain⟨b,m,hb,hm,e3⟩:=(Aa hv hg st (Ak ag dP) hT).jV;have e1:c.args=#[x]:=XU (by simpa using hx);have e2:c.argTypes=#[t]:=XU (by simpa using ht);have jK:=st.heap h;rw[Br bK (List.mem_singleton.2 rfl) hh]at jK;obtain⟨b',C,m',k1,k2,k3,k4,k5,k6,k7,k8,k9⟩:=jK;obtain rfl:m=m':=Option.some.inj (hm.symm.trans k2);have aV:=Gs hc hl hk (w:=w) (a:=some ⟨b,0,none⟩) (m:=m) (c:=m) (ty:=o.type);refine Ad st (v:=.int .i64 m) ?_ rfl (.int k6);simp[execOp,ho,resolve,aP,e1,e2,invoke,builtin,e3,aV]
theorem Sf(hc:Az P cx){t e sz:Nat}{ti:TI}(hl:look t cx.tt=some ti)(hk:ti.k=.slice e)(hn:size? cx e=some sz){x y:Operand}(ho:o.op=.indexAddr t x y){h ty:Nat}{n:ST}{f:Nat->List SV}{k:IntKind}{i:ST}
  (hv:rd cx σ T x=some (.dG h)) (hh:nth σ.hp h=some (.row ty n sz f)) (hi:rd cx σ T y=some (.int k i)) (h1:Bh (Ac σ.gm T)->0<=i.den/\i.den<n.den):Local P cx.gl σ T o ⟨.cS h i.den.toNat 0,[],[h],[]⟩:=by
 intro B N E a w ff cY hg st ag bK hT;obtain⟨b,m,hb,hm,e3⟩:=(Aa hv hg st (Ak ag (by simp[ho,Op.operands])) hT).jV;have hy:=(Aa hi hg st (Ak ag (by simp[ho,Op.operands])) hT).aQ;obtain⟨b1,b2⟩:=h1 hT;have jK:=st.heap h;rw[Br bK (List.mem_singleton.2 rfl) hh]at jK;obtain⟨b',C,m',k1,k2,k3,k4,k5,k6,k7,k8,k9⟩:=jK;obtain rfl:m=m':=Option.some.inj (hm.symm.trans k2);have aV:=Fm hc hl hk hn (w:=w) (a:=⟨b,0,none⟩) (m:=m) (cap:=m) (k:=k) b1 (show i.den<(m:Int) by omega);refine Ad st (v:=.pointer (some ⟨b,i.den.toNat * sz+0,none⟩)) ?_ rfl (.cS hb k3 rfl);simp[execOp,ho,e3,hy,aV,add_lit]
theorem P7(hc:Az P cx){t e sz n:Nat}{ti:TI}(hl:look t cx.tt=some ti)(hk:ti.k=.array n e)(hn:size? cx e=some sz){x y:Operand}(ho:o.op=.indexAddr t x y){h ty:Nat}{m:ST}{f:Nat->List SV}{k:IntKind}{i:ST}
  (hv:rd cx σ T x=some (.ptr h 0)) (hh:nth σ.hp h=some (.row ty m sz f)) (hi:rd cx σ T y=some (.int k i)) (h0:0<=i.den) (h1:i.den<n):Local P cx.gl σ T o ⟨.cS h i.den.toNat 0,[],[h],[]⟩:=by
 intro B N E a w ff cY hg st ag bK hT;obtain⟨b,hb,hx⟩:=(Aa hv hg st (Ak ag (by simp[ho,Op.operands])) hT).dL;have hy:=(Aa hi hg st (Ak ag (by simp[ho,Op.operands])) hT).aQ;have jK:=st.heap h;rw[Br bK (List.mem_singleton.2 rfl) hh]at jK;obtain⟨b',C,m',k1,k2,k3,k4,k5,k6,k7,k8,k9⟩:=jK;obtain rfl:b=b':=Option.some.inj (hb.symm.trans k1);refine Ad st (v:=.pointer (some ⟨b,i.den.toNat * sz+0,none⟩)) ?_ rfl (.cS hb k3 rfl);have hu:=(hc.ti hl).array hk;obtain⟨te,kJ,bB⟩:=bH hn;have hS:=(hc.ti kJ).sizeOf w;obtain⟨j,hj⟩:∃j:Nat,i.den=(j:Int):=⟨i.den.toNat,by omega⟩;have xr:j<n:=by omega
 rw[hj]at hy ⊢;simp[execOp,ho,hx,hy,Instr.indexAt,run_underlying hu,asIntOf,xr,hS,bB,Instr.sureAddr,add_lit]
theorem P6(hc:Az P cx){t e n sz:Nat}{ti:TI}{x:Operand}(ho:o.op=.load t x)(hl:look t cx.tt=some ti)(hk:ti.k=.array n e)(bB:n * sz=ti.size){h ty:Nat}{m:ST}{f:Nat->List SV}
  (hv:rd cx σ T x=some (.ptr h 0)) (hh:nth σ.hp h=some (.row ty m sz f)) (hm:m.den=(n:Int)) {cs:List SV} (hf:Flat f m.den sz cs):Local P cx.gl σ T o ⟨.agg cs,[],[h],[]⟩:=by
 intro B N E a w ff cY hg st ag bK hT;obtain⟨b,hb,hx⟩:=(Aa hv hg st (Ak ag (by simp[ho,Op.operands])) hT).dL;have jK:=st.heap h;rw[Br bK (List.mem_singleton.2 rfl) hh]at jK;obtain⟨b',C,m',k1,k2,k3,k4,k5,k6,k7,⟨r1,r2,r3,r4⟩,k9⟩:=jK;obtain rfl:b=b':=Option.some.inj (hb.symm.trans k1);obtain rfl:m'=n:=by omega
 have hlen:cs.length=m' * sz:=by
  have:=hf.len;rw[k6]at this
  exact_mod_cast this
 have bF:A6 E w cs C.toList:=by
  refine⟨by simp[hlen,r1],λi s v p q=>?_⟩;have hi:i<m' * sz:=by rw[<-hlen];exact (List.getElem?_eq_some_iff.1 p).1
  have GF:0<sz:=by
   rcases YN sz with h|h
   .rw[h]at hi;simp at hi
   .exact h
  have hq:i / sz<m':=by rw[UH GF];exact hi
  have aI:=hf.h (i / sz) (by rw[k6];exact_mod_cast hq);have e0:i / sz * sz+i % sz=i:=by rw[UR];exact Nat.div_add_mod i sz
  have e1:(f (i / sz))[i % sz]?=some s:=by
   rw[aI,QN,QB (YD i GF),XF,e0];exact p
  have e2:C[i / sz * sz+i % sz]?=some v:=by rw[e0];simpa using q
  exact .ro (r3 _ _ _ _ hq e1 e2)
 have eT:cH cx t=true:=by rw[dF hl,hk];rfl
 have hp:pack (cH cx t) cs=some (.agg cs):=by rw[eT];rfl
 obtain⟨p1,p2⟩:=Gu hp bF;have aV:=Ga (hc.ti hl) (w:=w) (b:=b) (off:=0) (vs:=C.toList) (λj v hj=>by
  rw[XE,cell_of_row w b j C ty (0,0) k5];simpa using hj) (by rw[<-bF.1,hlen,bB]) (dF hl) p1
 exact Ad st (by simp[execOp,ho,hx,aV]) rfl p2
theorem Ot(hc:Az P cx){t e n sz:Nat}{ti:TI}{x y:Operand}(ho:o.op=.store t x y)(hl:look t cx.tt=some ti)(hk:ti.k=.array n e)(bB:n * sz=ti.size){h ty:Nat}{m:ST}{f f':Nat->List SV}{cs:List SV}
  (hv:rd cx σ T x=some (.ptr h 0)) (hs:dx cx σ T t y=some (.agg cs)) (hh:nth σ.hp h=some (.row ty m sz f)) (hm:m.den=(n:Int)) (h1:Ej cs=true) (gJ:An.gL cs=true) (hf:Flat f' m.den sz cs):Local P cx.gl σ T o ⟨.aJ [],[.put h (.row ty m sz f')],[h],[]⟩:=by
 intro B N E a w ff cY hg st ag bK hT K' Q hK;obtain⟨b,hb,hx⟩:=(Aa hv hg st (Ak ag (by simp[ho,Op.operands])) hT).dL;have cO:=Jf hs hg st (Ak ag (by simp[ho,Op.operands])) hT;have q9:=Br bK (List.mem_singleton.2 rfl) hh;have jK:=st.heap h;rw[q9]at jK;obtain⟨b',C,m',k1,k2,k3,k4,k5,k6,k7,⟨r1,r2,r3,r4⟩,k9⟩:=jK;obtain rfl:b=b':=Option.some.inj (hb.symm.trans k1);obtain rfl:m'=n:=by omega
 have hlen:cs.length=m' * sz:=by
  have:=hf.len;rw[k6]at this
  exact_mod_cast this
 have cX:=H4 (s:=.agg cs) h1 cO;have fN:=Mf (cs:=cs) h1 cX;rw[Cv]at gJ;have kG:(a.eval y).cells.toList.length=m' * sz:=by rw[<-cX.1];exact hlen
 generalize hU:(a.eval y).cells.toList=us at *
 have CG:us.toArray.size=C.size:=by simp[kG,r1]
 have aI:Q3 E w f' m' sz us.toArray:=by
  refine⟨by simp[kG],λi hi=>?_,λi j s v hi p q=>?_,λv hv=>fN v (by simpa using hv)⟩
  .rw[hf.h i (by rw[k6];exact_mod_cast hi)]
   have:(i+1) * sz<=m' * sz:=QQ _ hi;rw[XK]at this;simp;omega
  .rw[hf.h i (by rw[k6];exact_mod_cast hi),QN]at p
   split at p
   .rw[XF]at p
    have q:us[i * sz+j]?=some v:=by simpa using q
    exact (cX.2 _ s v p q).fB (gJ _ (QK p)) (fN v (QK q))
   .cases p
 obtain⟨x1,x2,x3⟩:=Yq (h:=h) st q9 hb k2 k5 aI;have aV:(Instr.storeAt t (.pointer (some ⟨b,0,none⟩)) (a.eval y)).run P w=.ok () (w.setRow b us.toArray):=by
  have hS:=(hc.ti hl).sizeOf w;have qN:=run_storeCells_at P b 0 ty us 0 C w k5 (by simp[kG,r1]) fN;have aY:((a.eval y).cells.size≠ti.size)=False:=by
   have:(a.eval y).cells.size=ti.size:=by rw[<-bB];rw[<-hU]at kG;simpa using kG
   simp[this]
  have hC2:(C.toList.take 0++us++C.toList.drop (0+us.length)).toArray=us.toArray:=by
   have:C.toList.drop us.length=[]:=YB (by simp[kG,r1]);rw[XE,this];simp
  simp only[XY]at qN;rw[hC2]at qN;simp only[Instr.storeAt,Instr.sureAddr,storeVar,Sem.run_bind,Sem.run_pure,Result.andThen_ok,hS,aY,if_false,hU,qN]
 unfold Oper.wp;have:(execOp a.eval o).run P w=.ok .skip (w.setRow b us.toArray):=by
  simp only[execOp,ho,hx,Sem.run_bind,aV,Result.andThen_ok,Sem.run_pure]
 rw[this];exact hK undef _ E x1 x2 x3 (.aJ rfl (by simp))
theorem Lo(hc:Az P cx){t i fo ft m h j off:Nat}{x:Operand}(ho:o.op=.fieldAddr t x i)(hv:rd cx σ T x=some (.cS h j off))(hf:fZ cx t i=some (fo,ft))(hn:size? cx ft=some (m+1)):
  Local P cx.gl σ T o ⟨.cS h j (off+fo),[],[],[]⟩:=by
 intro B N E a w ff cY hg st ag bK hT;have hr:=Aa hv hg st (Ak ag (by simp[ho,Op.operands])) hT;obtain⟨b,sz,hb,hz,hx⟩:=hr.jW;refine Ad st (v:=.pointer (some ⟨b,j * sz+(off+fo),none⟩)) ?_ rfl (.cS hb hz rfl);simp[execOp,ho,hx,Id hc hf hn,add_lit,UF]
theorem Sd(hc:Az P cx){t:Nat}{x:Operand}(ho:o.op=.load t x){h j off n ty sz:Nat}{m:ST}{f:Nat->List SV}{s:SV}(hv:rd cx σ T x=some (.cS h j off))(hn:size? cx t=some n)
  (hh:nth σ.hp h=some (.row ty m sz f)) (kL:Bh (Ac σ.gm T)->(j:Int)<m.den) (hle:off+n<=(f j).length) (hp:pack (cH cx t) (((f j).drop off).take n)=some s):Local P cx.gl σ T o ⟨s,[],[h],[]⟩:=by
 intro B N E a w ff hf hg st ag bK hT;have hr:=Aa hv hg st (Ak ag (by simp[ho,Op.operands])) hT;obtain⟨b,cD,hb,hz,hx⟩:=hr.jW;have jK:=st.heap h;rw[Br bK (List.mem_singleton.2 rfl) hh]at jK;obtain⟨b',C,m',k1,k2,k3,k4,k5,k6,k7,k8,k9⟩:=jK;obtain rfl:b=b':=Option.some.inj (hb.symm.trans k1);obtain rfl:cD=sz:=Option.some.inj (hz.symm.trans k3);obtain⟨ti,kH,bB⟩:=bH hn;obtain⟨r1,r2,r3,r4⟩:=k8;have hj:j<m':=by have:=kL hT;omega
 have lE:=r2 j hj;have hbound:(j+1) * cD<=m' * cD:=QQ _ hj;rw[XK]at hbound;have cT:A6 E w (((f j).drop off).take n) ((C.toList.drop (j * cD+off)).take n):=by
  refine⟨by simp;omega,λi s v p q=>?_⟩;rw[QN]at p q
  split at p
  .rename_i e
   rw[QB e]at q;rw[XF]at p q;refine .ro (r3 j (off+i) s v hj p ?_);rw[<-UF];simpa using q
  .cases p
 obtain⟨p1,p2⟩:=Gu hp cT;have hlen:((C.toList.drop (j * cD+off)).take n).length=n:=by simp;omega
 have aV:=Ga (hc.ti kH) (w:=w) (b:=b) (off:=j * cD+off) (vs:=(C.toList.drop (j * cD+off)).take n) (λq v hq=>by
  rw[QN]at hq
  split at hq
  .rw[XF]at hq
   rw[cell_of_row w b (j * cD+off+q) C ty (0,0) k5];simpa using hq
  .cases hq) (by rw[hlen,bB]) (dF kH) p1
 exact Ad st (by simp[execOp,ho,hx,aV]) rfl p2
theorem P4(hc:Az P cx){t:Nat}{x y:Operand}(ho:o.op=.store t x y){h j off n ty sz:Nat}{m:ST}{f f':Nat->List SV}{s:SV}(hv:rd cx σ T x=some (.cS h j off))(hs:dx cx σ T t y=some s)(hn:size? cx t=some n)
  (hh:nth σ.hp h=some (.row ty m sz f)) (hj:(j:Int)<m.den) (hl:s.cells.length=n) (hle:off+n<=(f j).length) (h1:Ej s.cells=true) (gJ:An (.agg (loose.aH (norm.aM dn s.cells)))=true)
  (xX:f' j=C9 (f j) off (loose.aH (norm.aM dn s.cells))) (mI:∀i,i≠j->f' i=f i):Local P cx.gl σ T o ⟨.aJ [],[.put h (.row ty m sz f')],[h],[]⟩:=by
 intro B N E a w ff hf hg st ag bK hT K' Q hK;have hr:=Aa hv hg st (Ak ag (by simp[ho,Op.operands])) hT;have cO:=Jf hs hg st (Ak ag (by simp[ho,Op.operands])) hT;obtain⟨b,cD,hb,hz,hx⟩:=hr.jW;have q9:=Br bK (List.mem_singleton.2 rfl) hh;have jK:=st.heap h;rw[q9]at jK;obtain⟨b',C,m',k1,k2,k3,k4,k5,k6,k7,k8,k9⟩:=jK;obtain rfl:b=b':=Option.some.inj (hb.symm.trans k1);obtain rfl:cD=sz:=Option.some.inj (hz.symm.trans k3);obtain⟨ti,kH,bB⟩:=bH hn;obtain⟨r1,r2,r3,r4⟩:=k8;have uC:j<m':=by omega
 have lE:=r2 j uC;have hbound:(j+1) * cD<=m' * cD:=QQ _ uC;rw[XK]at hbound;have cX:=H4 h1 cO;have fN:=Mf h1 cX;have kG:(a.eval y).cells.toList.length=n:=by rw[<-cX.1];exact hl
 have nK:A6 E w (loose.aH (norm.aM dn s.cells)) (a.eval y).cells.toList:=by
  rw[Ce,Ci];exact (cX.map _ λs v _ h=>h.norm).map _ λs v _ h=>h.loose
 have j9:∀c∈loose.aH (norm.aM dn s.cells),An c=true:=by
  simp only[An]at gJ;exact (Cv _).1 gJ
 have tX:(loose.aH (norm.aM dn s.cells)).length=n:=by rw[nK.1];exact kG
 generalize hU:(a.eval y).cells.toList=us at *
 generalize hP:loose.aH (norm.aM dn s.cells)=ps at *
 let C':Array Value:=(C.toList.take (j * cD+off)++us++C.toList.drop (j * cD+off+us.length)).toArray
 have mF:j * cD+off+us.length<=C.size:=by rw[kG];omega
 have nT:C'.size=C.size:=by simp[C'];omega
 have kE:∀q:Nat,C'[q]?=if j * cD+off<=q/\q<j * cD+off+us.length then us[q-(j * cD+off)]? else C[q]?:=by
  intro q;have:C'[q]?=(C.toList.take (j * cD+off)++us++C.toList.drop (j * cD+off+us.length))[q]?:=by simp[C']
  rw[this]
  split
  .rename_i e
   rw[ZH,QO (by simp;omega),QM (by simp;omega)];congr 1;simp;omega
  .rename_i e
   by_cases hi:q<j * cD+off
   .rw[ZH,QM (by simp;omega),QN,QB hi];simp
   .rw[QO (by simp;omega),XF,<-QX]
    congr 1;simp;omega
 have aI:Q3 E w f' m' cD C':=by
  refine⟨by rw[nT];exact r1,λi hi=>?_,λi q s2 v hi eH iQ=>?_,λv hv=>?_⟩
  .by_cases e:i=j
   .subst e;rw[xX,Dd];exact lE
   .rw[mI i e];exact r2 i hi
  .rw[kE]at iQ
   have xb:q<cD:=by
    have hlen:(f' i).length=cD:=by
     by_cases e:i=j
     .subst e;rw[xX,Dd];exact lE
     .rw[mI i e];exact r2 i hi
    rw[<-hlen];exact (List.getElem?_eq_some_iff.1 eH).1
   by_cases e:i=j
   .subst e
    rw[xX,Hv _ _ _ _ (by rw[tX];exact hle)]at eH
    by_cases eR:off<=q/\q<off+n
    .rw[QB (by rw[tX];exact eR)]at eH
     rw[QB (by rw[kG];omega)]at iQ;have e2:i * cD+q-(i * cD+off)=q-off:=by omega
     rw[e2]at iQ;exact (nK.2 _ s2 v eH iQ).fB (j9 s2 (QK eH)) (fN v (QK iQ))
    .rw[QA (by rw[tX];exact eR)]at eH
     rw[QA (by rw[kG];omega)]at iQ;exact r3 i q s2 v hi eH iQ
   .rw[mI i e]at eH
    have aY:¬(j * cD+off<=i * cD+q/\i * cD+q<j * cD+off+us.length):=by
     rw[kG];rcases ZJ i j with aC|kZ
     .have:(i+1) * cD<=j * cD:=QQ _ aC
      rw[XK]at this;omega
     .have:(j+1) * cD<=i * cD:=QQ _ (by omega)
      rw[XK]at this;omega
    rw[QA aY]at iQ;exact r3 i q s2 v hi eH iQ
  .obtain⟨q,hq⟩:=Array.mem_iff_getElem?.1 hv
   rw[kE]at hq
   split at hq
   .exact fN v (QK hq)
   .exact r4 v (YJ hq)
 obtain⟨x1,x2,x3⟩:=Yq (h:=h) st q9 hb k2 k5 aI;have aV:(Instr.storeAt t (.pointer (some ⟨b,j * cD+off,none⟩)) (a.eval y)).run P w=.ok () (w.setRow b C'):=by
  have hS:=(hc.ti kH).sizeOf w;have qN:=run_storeCells_at P b (j * cD+off) ty us 0 C w k5 (by simpa using mF) fN;have aY:((a.eval y).cells.size≠ti.size)=False:=by
   have:(a.eval y).cells.size=ti.size:=by rw[bB];rw[<-hU]at kG;simpa using kG
   simp[this]
  simp only[XY]at qN;simp only[Instr.storeAt,Instr.sureAddr,storeVar,Sem.run_bind,Sem.run_pure,Result.andThen_ok,hS,aY,if_false,hU,qN];rfl
 unfold Oper.wp;have:(execOp a.eval o).run P w=.ok .skip (w.setRow b C'):=by
  simp only[execOp,ho,hx,Sem.run_bind,aV,Result.andThen_ok,Sem.run_pure]
 rw[this];exact hK undef _ E x1 x2 x3 (.aJ rfl (by simp))
end
section
variable {P:Program} {cx:Cx} {σ:Sy} {T:List Nat} {o:Oper} {K:Out->Prop}
theorem Aes(hc:Az P cx){c:Call}(ho:o.op=.call c)(aP:c.callee=.builtin .copy){x y:Operand}{t t':Nat}{ti:TI}(hx:c.args.toList=[x,y])(ht:c.argTypes.toList=[t,t'])(hl:look t cx.tt=some ti){e:TypeId}(hk:ti.k=.slice e)
  {h ty sz:Nat} {n m:ST} {f f' g:Nat->List SV} {s:SV} (hv:rd cx σ T x=some (.dG h)) (hs:rd cx σ T y=some s) (hh:nth σ.hp h=some (.row ty n sz f)) (bB:size? cx e=some sz) (aI:rowOf sz s=some (m,g))
  (h1:∀i:Nat,(i:Int)<min m.den n.den->f' i=g i) (h2:∀i:Nat,min m.den n.den<=(i:Int)->(i:Int)<n.den->f' i=f i):
  Local P cx.gl σ T o ⟨.int .i64 (.a (min m.den n.den)),[.put h (.row ty n sz f')],[h],[]⟩:=by
 intro B N E a w ff hf hg st ag bK hT K' Q hK;have dP:x∈o.op.operands.toList/\y∈o.op.operands.toList:=by constructor<;>simp[ho,Op.operands,Call.operands,aP,hx]
 obtain⟨b,md,hb,hm,e3⟩:=(Aa hv hg st (Ak ag dP.1) hT).jV;have hrs:=Aa hs hg st (Ak ag dP.2) hT;have e1:c.args=#[x,y]:=XU (by simpa using hx);have e2:c.argTypes=#[t,t']:=XU (by simpa using ht);have q9:=Br bK (List.mem_singleton.2 rfl) hh;have jK:=st.heap h;rw[q9]at jK;obtain⟨b',C,m',k1,k2,k3,k4,k5,k6,k7,k8,k9⟩:=jK;obtain rfl:b=b':=Option.some.inj (hb.symm.trans k1);obtain rfl:md=m':=Option.some.inj (hm.symm.trans k2);obtain⟨te,kJ,wk⟩:=bH bB;obtain⟨k,news,n1,n2,⟨n3,n4,n5⟩,n6,n7⟩:=Jd aI hrs;obtain⟨r1,r2,r3,r4⟩:=k8;have az:min m.den n.den=((min k md:Nat):Int):=by rw[n1,k6];omega
 have an8:∀i,i<k->∀j,j<sz->i * sz+j<news.length:=by
  intro i hi j hj;have:(i+1) * sz<=k * sz:=QQ _ hi;rw[XK]at this;omega
 let r:=min k md
 have hrk:r<=k:=Nat.min_le_left _ _;have BX:r<=md:=Nat.min_le_right _ _;have aL2:r * sz<=k * sz:=QQ _ hrk;have aL1:r * sz<=md * sz:=QQ _ BX
 let us:=news.take (r * sz)
 have xD:us.length=r * sz:=by simp[us];omega
 let C':Array Value:=(C.toList.take 0++us++C.toList.drop (0+us.length)).toArray
 have nT:C'.size=C.size:=by simp[C',us];omega
 have kE:∀q:Nat,C'[q]?=if q<r * sz then news[q]? else C[q]?:=by
  intro q;have:C'[q]?=(us++C.toList.drop us.length)[q]?:=by simp[C']
  rw[this]
  split
  .rename_i e
   rw[QM (by omega)];simp only[us];rw[QN,QB e]
  .rename_i e
   rw[QO (by omega),XF,<-QX];congr 1;omega
 have fN:∀v∈us,v.oneCell'=true:=λv hv=>n4 v (UL hv);have GJ:Q3 E w f' md sz C':=by
  have nO:∀i,i<md->(i<r->f' i=g i)/\(r<=i->f' i=f i):=by
   intro i hi;refine⟨λaC=>h1 i (by rw[az];omega),λkZ=>h2 i (by rw[az];omega) (by omega)⟩
  have hlen:∀i,i<md->(f' i).length=sz:=by
   intro i hi
   by_cases e:i<r
   .rw[(nO i hi).1 e];exact n6 i (by omega)
   .rw[(nO i hi).2 (by omega)];exact r2 i hi
  refine⟨by rw[nT];exact r1,hlen,λi q s2 v hi eH iQ=>?_,λv hv=>?_⟩
  .have xb:q<sz:=by rw[<-hlen i hi];exact (List.getElem?_eq_some_iff.1 eH).1
   rw[kE]at iQ
   by_cases e:i<r
   .have:(i+1) * sz<=r * sz:=QQ _ e
    rw[XK]at this;rw[QB (by omega)]at iQ;rw[(nO i hi).1 e]at eH;exact n7 i q s2 v (by omega) eH iQ
   .have:r * sz<=i * sz:=QQ _ (by omega)
    rw[QA (by omega)]at iQ;rw[(nO i hi).2 (by omega)]at eH;exact r3 i q s2 v hi eH iQ
  .obtain⟨q,hq⟩:=Array.mem_iff_getElem?.1 hv
   rw[kE]at hq
   split at hq
   .exact n4 v (QK hq)
   .exact r4 v (YJ hq)
 obtain⟨x1,x2,x3⟩:=Yq (h:=h) st q9 hb k2 k5 GJ;have hu:=(hc.ti hl).slice hk;have hS:=(hc.ti kJ).sizeOf w;have hlen:(Builtin.lenOf (a.eval y)).run P w=.ok k w:=by
  rcases n5 with⟨e0,rfl⟩|⟨ad,c0,e0,_⟩<;>rw[e0]<;>rfl
 have cW:(Builtin.firstCells te.size (Nat.min k md) (a.eval y)).run P w=.ok us.toArray w:=by
  rcases n5 with⟨e0,e00⟩|⟨ad,c0,e0,jC⟩
  .subst e00
   have:us=[]:=by simp[us,r]
   rw[e0,this];rfl
  .rw[e0]
   refine run_firstCells_some w te.size (Nat.min k md) ad k c0 us (by rw[xD,wk]) (λj v hj=>?_);simp only[us]at hj;rw[QN]at hj
   split at hj
   .exact jC j v hj
   .cases hj
 have qN:=run_storeCells_at P b 0 ty us 0 C w k5 (by rw[xD];omega) fN;simp only[XY]at qN;unfold Oper.wp;have:(execOp a.eval o).run P w=.ok (.value (.int .i64 ((min k md:Nat):Int))) (w.setRow b C'):=by
  have hbi:(Builtin.copy_ #[t,t'] o.type #[.slice (some ⟨b,0,none⟩) md md,a.eval y]).run P w=.ok (.int .i64 ((min k md:Nat):Int)) (w.setRow b C'):=by
   simp only[Builtin.copy_];simp[Sem.run_bind,run_underlying hu,hlen,hS,cW,qN,goInt,C']
  simp only[execOp,ho,resolve,aP,e1,e2];simp[invoke,builtin,e3,hbi]
 rw[this];refine hK _ _ E x1 x2 x3 (.int ?_);simp only[ST.den];exact az
end
end Go.Sx
