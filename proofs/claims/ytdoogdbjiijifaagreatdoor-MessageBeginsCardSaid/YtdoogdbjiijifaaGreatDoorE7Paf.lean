/- A part of the proof: contracts of functions, or the executor and its soundness. No conditions. -/
import Derived.Test.YtdoogdbjiijifaaGreatDoorE7Pae
namespace Go.Sx
open Go
section
variable {P:Program} {cx:Cx} {σ:Sy} {T:List Nat} {o:Oper} {K:Out->Prop}
theorem O9{I':Nat->Nat->Prop}{w':World}{e:TypeId}{sz n m:Nat}{v':Value}{xs news:List Value}{f':Nat->List SV}{nK:BT}{nt':ST}(cA:w'.ownsRow 0 e sz v' (n+m) (xs++news))(mQ:xs.length=n * sz)
  (iX:nK.den=true↔v'=.slice none 0 0) (mG:nt'.den=((n+m:Nat):Int)) (h1:∀u∈xs++news,u.oneCell'=true)
  (hI:∀b o,v'.ownBlock=some b->o<(n+m) * sz->I' b o) (aK:∀b o,v'.ownBlock=some b->o<(n+m) * sz->w'.cell? ⟨b,o,none⟩=(xs++news)[o]?)
  (HP:∀i,i<n->(f' i).length=sz) (gW:∀j,j<m->(f' (n+j)).length=sz)
  (eX:∀(i j:Nat) (s:SV) (u:Value),i<n->(f' i)[j]?=some s->xs[i * sz+j]?=some u->RO I' w' s u) (cP:∀(i j:Nat) (s:SV) (u:Value),i<m->(f' (n+i))[j]?=some s->news[i * sz+j]?=some u->RO I' w' s u):
  RO I' w' (.sl nK nt' sz f') v':=by
 have hlen:(xs++news).length=(n+m) * sz:=cA.1;have HK:news.length=m * sz:=by rw[QW,mQ,XJ]at hlen;omega
 rcases cA.2 with⟨rfl,e0⟩|⟨g,cap,cur,rfl,_,BX,qS,fX,cV,bZ⟩
 .exact .slnil (iX.2 rfl) (by rw[mG,e0];rfl)
 .have eP:∀i j,i<n+m->j<sz->i * sz+j<(n+m) * sz:=by
   intro i j hi hj;have:(i+1) * sz<=(n+m) * sz:=QH _ hi;rw[XJ]at this;omega
  have hlf:∀i,i<n+m->(f' i).length=sz:=by
   intro i hi
   by_cases eT:i<n
   .exact HP i eT
   .have:=gW (i-n) (by omega)
    rwa [show n+(i-n)=i by omega]at this
  refine .sl (λi j=>(xs++news).getD (i * sz+j) undef) ?_ mG qS fX (λ_=>rfl) hlf (λi j hi hj=>?_) (λi j hi hj=>⟨?_,?_⟩) (λi j s hi hs=>?_)
  .cases hb:nK.den with
   |false=>rfl
   |true=>exact absurd (iX.1 hb) (by simp)
  .refine h1 _ ?_
   have:=eP i j hi hj;rw[QC,QA (by rw[hlen];exact this)];exact XQ _
  .have aA:=eP i j hi hj
   simp only[XD];rw[aK g _ rfl aA,QC,QA (by rw[hlen];exact aA)];rfl
  .simp only[XD]
   exact hI g _ rfl (eP i j hi hj)
  .have hj:j<sz:=by rw[<-hlf i hi];exact (List.getElem?_eq_some_iff.1 hs).1
   have aA:=eP i j hi hj
   by_cases eT:i<n
   .have zO:i * sz+j<xs.length:=by
     rw[mQ];have:(i+1) * sz<=n * sz:=QH _ eT;rw[XJ]at this;omega
    refine eX i j s _ eT hs ?_;rw[QC,QJ zO,QA zO];rfl
   .have e1:i * sz+j=n * sz+((i-n) * sz+j):=by
     have:i * sz=n * sz+(i-n) * sz:=by rw[<-XJ];congr 1;omega
     omega
    have wo:(i-n) * sz+j<news.length:=by
     rw[HK];have:(i-n+1) * sz<=m * sz:=QH _ (by omega);rw[XJ]at this;omega
    refine cP (i-n) j s _ (by omega) (by rw[show n+(i-n)=i by omega];exact hs) ?_;rw[QC,e1,QU (by omega),mQ,ZI,QA wo];rfl
theorem Dj{c:Call}(ho:o.op=.call c)(aQ:c.callee=.builtin .append){x y:Operand}{t:TypeId}(hx:c.args.toList=[x,y])(ht:c.argTypes.toList=[t,t]){a:Act}{w w':World}{v':Value}(hr:(Builtin.append_ #[t,t] o.type #[a.eval x,a.eval y]).run P w=.ok v' w'):
  (execOp a.eval o).run P w=.ok (.value v') w':=by
 have e1:c.args=#[x,y]:=XN (by simpa using hx);have e2:c.argTypes=#[t,t]:=XN (by simpa using ht);simp[execOp,ho,resolve,aQ,e1,e2,invoke,builtin,hr]
theorem Qn(hc:Az P cx){c:Call}(ho:o.op=.call c)(aQ:c.callee=.builtin .append){x y:Operand}{t e sz:Nat}{te ti:TI}(hx:c.args.toList=[x,y])(ht:c.argTypes.toList=[t,t])(aA:look t cx.tt=some ti)(hk:ti.k=.slice e)(hle:look e cx.tt=some te)(aM:te.size=sz)(hz:0<sz)
  {sz0:Nat} {f0:Nat->List SV} (vh:rd cx σ T x=some (.sl (.l true) (.l 0) sz0 f0)) {s:SV} (vg:rd cx σ T y=some s) {m:ST} {g:Nat->List SV} (aP:rowOf sz s=some (m,g)) (hb:m.den * te.bytes<=140737488355328/\m.den<=9223372036854775807)
  {f':Nat->List SV} {n':Int} (vB:n'=m.den) (cR:∀j:Nat,(j:Int)<m.den->f' j=g j):Local P cx.gl σ T o ⟨.eD (S8 .eql m (.l 0)) (.a n') sz f' (Ag σ.hp),[.put (Ag σ.hp) (.tail e (.a n') sz)],[],[]⟩:=by
 intro B N E a w ff hf hg st ag bJ hT K' Q hK;have mx:x∈o.op.operands.toList:=by simp[ho,Op.operands,Call.operands,aQ,hx]
 have my:y∈o.op.operands.toList:=by simp[ho,Op.operands,Call.operands,aQ,hx]
 have jK:=(Aa vh hg st (Aj ag mx) hT).aS;have uZ:=Aa vg hg st (Aj ag my) hT;have TU:a.eval x=.slice none 0 0:=by
  rcases jK.aS with⟨h,_⟩|⟨_,_,_,_,_,h,_⟩
  .exact h
  .simp[BT.den]at h
 obtain⟨k,news,r1,r2,r3,r4,r5⟩:=I2 aP uZ;have bH:hf (Ag σ.hp)=.fresh:=by
  have:=bJ.gF _ (List.mem_singleton.2 rfl);simp only[zY,Ap,Ah,Af]at this;rw[Af,this];simp
 have iE:k * te.bytes<=140737488355328:=by
  have:=hb.1;rw[r1]at this;have h:((k * te.bytes:Nat):Int)<=140737488355328:=by rw[YR];exact this
  omega
 have bU:=World.ownsRow_nil w 0 e sz;obtain⟨v',w',l1,l2,l3,l4,l5,l6⟩:=Kc (P:=P) (ty:=o.type) ((hc.ti aA).slice hk) (hc.ti hle) aM hz bU r3 (by simpa using r2) (by simpa using iE);obtain⟨E',x1,x2,x3,x4,x5,x6⟩:=Ok (h:=Ag σ.hp) (e:=e) (sz:=sz) st (.inl ⟨bH,rfl⟩) (by simpa using r3.2.1) bU l2 l4 l5 (λ_=>l6) (.a n') (by rw[vB,r1];simp[ST.den]);unfold Oper.wp;rw[Dj ho aQ hx ht (a:=a) (w:=w) (w':=w') (v':=v') (by rw[TU];exact l1)];refine hK v' w' E' x1 x2 x3 (.eD ?_ ?_)
 .refine O9 l2 bU.1 ?_ (by rw[vB,r1];simp[ST.den]) (by simpa using r3.2.1) x5 x6 (by intro i hi;omega) (λj hj=>?_) (by intro i j s u hi;omega) (λi j s u hi hs hu=>?_)
  .rw[Je,l3]
   simp only[Bl,ST.den,r1,XI,true_and];omega
  .rw[XD,cR j (by rw[r1];omega)];exact r4 j hj
  .rw[XD,cR i (by rw[r1];omega)]at hs
   exact (r5 i j s u hi hs hu).mono x1.I x1.cell
 .obtain⟨a0,c0,rfl⟩:=l5
  refine⟨a0,0+k,c0,x4,?_,λ_=>rfl⟩;simp only[ST.den,vB,r1];omega
theorem Oz(hc:Az P cx){c:Call}(ho:o.op=.call c)(aQ:c.callee=.builtin .append){x y:Operand}{t e sz:Nat}{te ti:TI}(hx:c.args.toList=[x,y])(ht:c.argTypes.toList=[t,t])(aA:look t cx.tt=some ti)(hk:ti.k=.slice e)(hle:look e cx.tt=some te)(aM:te.size=sz)(hz:0<sz)
  {nl:BT} {n n0:ST} {f:Nat->List SV} {h:Nat} (vh:rd cx σ T x=some (.eD nl n sz f h)) (hh:nth σ.hp h=some (.tail e n0 sz)) {s:SV} (vg:rd cx σ T y=some s) {m:ST} {g:Nat->List SV} (aP:rowOf sz s=some (m,g))
  (hb:n.den=n0.den/\(n.den+m.den) * te.bytes<=140737488355328/\n.den+m.den<=9223372036854775807)
  {f':Nat->List SV} {n':Int} (vB:n'=n.den+m.den) (oP:∀i:Nat,(i:Int)<n.den->f' i=f i) (cR:∀i j:Nat,(i:Int)=n.den+j->(j:Int)<m.den->f' i=g j):
  Local P cx.gl σ T o ⟨.eD (mj nl (S8 .eql m (.l 0))) (.a n') sz f' h,[.put h (.tail e (.a n') sz)],[h],[]⟩:=by
 intro B N E a w ff hf hg st ag bJ hT K' Q hK;have mx:x∈o.op.operands.toList:=by simp[ho,Op.operands,Call.operands,aQ,hx]
 have my:y∈o.op.operands.toList:=by simp[ho,Op.operands,Call.operands,aQ,hx]
 obtain⟨jK,TY⟩:=(Aa vh hg st (Aj ag mx) hT).kJ;have uZ:=Aa vg hg st (Aj ag my) hT;obtain⟨k,news,r1,r2,r3,r4,r5⟩:=I2 aP uZ;have bD:=st.heap h;rw[bJ.uT h (List.mem_singleton.2 rfl),Bx hh]at bD;obtain⟨v,nn,xs,k1,k2,k3,k4,k5⟩:=bD;have hv:a.eval x=v:=by
  obtain⟨a0,m0,c0,q1,_,q3⟩:=TY;rw[k1]at q1;cases q1;have:m0=nn:=by
   rcases k2.2 with⟨e1,e2⟩|⟨g0,cap,cur,e1,_⟩
   .cases e1;exact e2.symm
   .cases e1;rfl
  subst this;exact q3 (by rw[hb.1,k3])
 rw[hv]at jK;have vA:n.den=(nn:Int):=by rw[hb.1,k3]
 have iE:(nn+k) * te.bytes<=140737488355328:=by
  have:=hb.2.1;rw[vA,r1]at this;have h:(((nn+k) * te.bytes:Nat):Int)<=140737488355328:=by rw[YR,Int.natCast_add];exact this
  omega
 obtain⟨v',w',l1,l2,l3,l4,l5,l6⟩:=Kc (P:=P) (ty:=o.type) ((hc.ti aA).slice hk) (hc.ti hle) aM hz k2 r3 (by have:=hb.2.2;rw[vA,r1]at this;simp only[maxLen];omega) iE;have oS:∀u∈xs++news,u.oneCell'=true:=λu hu=>by
  rcases List.mem_append.1 hu with hu|hu
  .exact k4 u hu
  .exact r3.2.1 u hu
 have mG:(ST.a n').den=((nn+k:Nat):Int):=by simp only[ST.den,vB,vA,r1];omega
 obtain⟨E',x1,x2,x3,x4,x5,x6⟩:=Ok (h:=h) (e:=e) (sz:=sz) st (.inr ⟨n0,by rw[bJ.uT h (List.mem_singleton.2 rfl),Bx hh],k1,k5⟩) oS k2 l2 l4 l5 (λ_=>l6) (.a n') mG;unfold Oper.wp;rw[Dj ho aQ hx ht (a:=a) (w:=w) (w':=w') (v':=v') (by rw[hv];exact l1)];refine hK v' w' E' x1 x2 x3 (.eD ?_ ?_)
 .have hold:(v=.slice none 0 0↔nl.den=true)/\(∀i,i<nn->(f i).length=sz)/\∀(i j:Nat) (s:SV) (u:Value),i<nn->(f i)[j]?=some s->xs[i * sz+j]?=some u->RO E.I w s u:=by
   rcases jK.aS with⟨e1,e2,e3⟩|⟨ad,m0,aV4,g0,e1,e2,e3,_,_,q4,q5,_,q6,q7⟩
   .have:nn=0:=by omega
    subst this;exact⟨⟨λ_=>e3,λ_=>e1⟩,by intro i hi;omega,by intro i j s u hi;omega⟩
   .have hm:m0=nn:=by omega
    subst hm;refine⟨⟨λe=>by rw[e1]at e;simp at e,λe=>by rw[e2]at e;cases e⟩,q5,λi j s u hi hs hu=>?_⟩;rcases k2.2 with⟨e4,_⟩|⟨g1,cap,cur,e4,_,BX,qS,_,cV,bZ⟩
    .rw[e1]at e4;simp at e4
    .rw[e1]at e4
     simp only[Value.slice.injEq,Option.some.injEq]at e4;obtain⟨rfl,_,rfl⟩:=e4;have hj:j<sz:=by rw[<-q5 i hi];exact (List.getElem?_eq_some_iff.1 hs).1
     have hc:=(q6 i j hi hj).1;simp only[XD]at hc;have aA:i * sz+j<m0 * sz:=by
      have:(i+1) * sz<=m0 * sz:=QH _ hi;rw[XJ]at this;omega
     rw[cell_of_row w g1 (i * sz+j) cur e (0,0) BX]at hc;rw[<-bZ,QL,QE aA]at hu;simp only[QG]at hu;rw[hu]at hc;rw[Option.some.inj hc];exact q7 i j s hi hs
  obtain⟨o1,o2,o3⟩:=hold;refine O9 l2 k2.1 ?_ mG oS x5 x6 (λi hi=>by rw[oP i (by omega)];exact o2 i hi) (λj hj=>?_) (λi j s u hi hs hu=>?_) (λi j s u hi hs hu=>?_)
  .rw[Pt,Je,l3]
   simp only[Bl,ST.den,r1,QB,XI];rw[o1];constructor
   .rintro⟨h1,h2⟩;exact⟨h1,by omega⟩
   .rintro⟨h1,h2⟩;exact⟨h1,by omega⟩
  .rw[cR (nn+j) j (by omega) (by omega)];exact r4 j hj
  .rw[oP i (by omega)]at hs
   exact (o3 i j s u hi hs hu).mono x1.I x1.cell
  .rw[cR (nn+i) i (by omega) (by omega)]at hs
   exact (r5 i j s u hi hs hu).mono x1.I x1.cell
 .obtain⟨a0,c0,rfl⟩:=l5
  exact⟨a0,nn+k,c0,x4,by rw[mG];exact YK _,λ_=>rfl⟩
end
theorem Rel.fK{E:Env}{w:World}{s:SV}{v:Value}(h:Rel E w s v)(hp:Ak s=true)(h1:v.oneCell'=true):RO E.I w s v:=by
 cases h with
 |ro h=>exact h
 |ptr hb hv=>simp[Ak]at hp
 |eD hr ht=>simp[Ak]at hp
 |dM hb hm hv=>simp[Ak]at hp
 |cU hb hz hv=>simp[Ak]at hp
 |bY ht hk=>simp[Ak]at hp
 |cK hv ho=>simp[Ak]at hp
 |bP hb hv=>simp[Ak]at hp
 |yv hb hv=>simp[Ak]at hp
 |fB ht hk=>simp[Ak]at hp
 |jS ht hk=>simp[Ak]at hp
 |agg hl _=>simp[Value.oneCell']at h1
 |tup hl _=>simp[Value.oneCell']at h1
 |fI hl _=>simp[Ak]at hp
section
variable {P:Program} {cx:Cx} {σ:Sy} {T:List Nat} {o:Oper} {K:Out->Prop}
theorem Q0{sz:Nat}:∀(n i:Nat) (cs:List SV),i<n->(chunks sz n cs)[i]?=some (takeN sz (By (i * sz) cs))
 |n+1,0,cs,_=>by simp[chunks,A5]
 |n+1,i+1,cs,h=>by
  simp only[chunks,ZJ];rw[Q0 n i _ (by omega)];simp only[A5,UR];congr 3;rw[XJ,Nat.one_mul,Nat.add_comm]
theorem Nw{sz:Nat}:∀(n i:Nat) (cs r:List SV),(chunks sz n cs)[i]?=some r->r=takeN sz (By (i * sz) cs)
 |0,i,cs,r,h=>by simp[chunks]at h
 |n+1,0,cs,r,h=>by simp[chunks]at h;rw[<-h];simp[A5]
 |n+1,i+1,cs,r,h=>by
  simp only[chunks,ZJ]at h;rw[Nw n i _ r h];simp only[A5,UR,XJ,Nat.one_mul];congr 2;omega
theorem Um{z:List SV}:∀(n q:Nat),q<n * z.length->(Ao.mL n z)[q]?=z[q % z.length]?
 |0,q,h=>by omega
 |n+1,q,h=>by
  simp only[Ao.mL]
  by_cases hq:q<z.length
  .rw[QJ hq,VG hq]
  .have h':q<n * z.length+z.length:=by rw[<-Nat.succ_mul];exact h
   rw[QU (by omega),Um n (q-z.length) (by omega),(Nat.mod_eq_sub_mod (show q>=z.length by omega))]
theorem Hq{z:List SV}:∀(n:Nat),(Ao.mL n z).length=n * z.length
 |0=>by simp[Ao.mL]
 |n+1=>by simp[Ao.mL,Hq n,XJ];omega
theorem Lh{E:Env}{w:World}{sz:Nat}:∀(vs:List (Nat×SV)) (us:List (Nat×Value)) (cs dK:List SV) (C:List Value),vs.length=us.length->(∀(i:Nat) (p:Nat×SV) (q:Nat×Value),vs[i]?=some p->us[i]?=some q->p.1=q.1/\Rel E w p.2 q.2)->(∀p∈vs,D8 p.2.cells=true)->A1 E w cs C->(∀u∈C,u.oneCell'=true)->
   Ao.dI sz cs vs=some dK->∃C',Instr.fill (λi=>some (i * sz,sz)) ⟨C⟩ us=some ⟨C'⟩/\A1 E w dK C'/\∀u∈C',u.oneCell'=true
 | [],us,cs,dK,C,hlen,_,_,hr,h1,h=>by
  have:us=[]:=QQ (by simpa using hlen.symm);subst this;simp[Ao.dI]at h;subst h;exact⟨C,rfl,hr,h1⟩
 |(i,v) :: vs,us,cs,dK,C,hlen,aY,h1,hr,fO,h=>by
  match us,hlen,aY with
  |(i',u) :: us,hlen,aY =>
   obtain⟨e0,TV⟩:=aY 0 (i,v) (i',u) rfl rfl;simp only at e0;subst e0;have bQ:=H1 (h1 _ (QY ..)) TV;simp only[Ao.dI]at h
   split at h
   .rename_i hb
    simp only[QB,XI,Af]at hb;obtain⟨b1,b2⟩:=hb;have b2:=XA b2;have aM:u.cells.size=sz:=by rw[<-b1,bQ.1];simp
    rw[Mg rfl aM (by rw[<-hr.1];exact b2)];refine Lh vs us _ dK _ (by simpa using hlen) (λj p q a b=>aY (j+1) p q (by simpa using a) (by simpa using b)) (λp hp=>h1 p (QX _ hp)) (Amt hr bQ _ (by show i * sz+v.cells.length<=cs.length;omega)) ?_ h;intro x hx;obtain⟨q,hq⟩:=List.mem_iff_getElem?.1 hx;rw[Hv _ _ _ _ (by rw[<-bQ.1,<-hr.1];show i * sz+v.cells.length<=cs.length;omega)]at hq
    split at hq
    .exact L8 (h1 _ (QY ..)) bQ x (QF hq)
    .exact fO x (QF hq)
   .cases h
theorem Ql(hc:Az P cx){t len e:Nat}{ps:Array (Nat×Operand)}(ho:o.op=.buildSlice t len ps){ti te:TI}(aA:look t cx.tt=some ti)(hk:ti.k=.slice e)(hle:look e cx.tt=some te){vs:List (Nat×SV)}(hv:G4 cx σ T ps.toList=some vs)(h1:Rp vs=true)
  {cs:List SV} (hf:Ao.dI te.size (Ao.mL len te.zero) vs=some cs) (gB:Ak (.agg (loose.aF (norm.aN dn cs)))=true) (hz:0<te.size) (xp:len * te.size<=16777216):
  Local P cx.gl σ T o ⟨.eD (.l false) (.l len) te.size (λk=>takeN te.size (By (k * te.size) (loose.aF (norm.aN dn cs)))) (Ag σ.hp),[.put (Ag σ.hp) (.tail e (.l len) te.size)],[],[]⟩:=by
 intro B N E a w ff cR hg st ag bJ hT K' Q hK;have fH:∀p∈ps.toList,∀s∈Cw p.2,ff s=A6 σ s:=λp hp=>Aj ag (by simp only[ho,Op.operands];simp;exact⟨p.1,by simpa using hp⟩);obtain⟨h2,h3⟩:=F8 hg st hT ps.toList vs fH hv;obtain⟨z,xC,lE,jT⟩:=(hc.ti hle).zero E w;have mF:=(hc.ti hle).nR;have fS:z.cells.size=te.size:=by have:=lE.1;rw[mF]at this;simpa using this.symm
 have iJ:∀(j:Nat) (p:Nat×SV) (q:Nat×Value),vs[j]?=some p->((ps.map λ(x:Nat×Operand)=>(x.1,a.eval x.2)).toList)[j]?=some q->p.1=q.1/\Rel E w p.2 q.2:=by
  intro j p q hp hq;rw[ZU,QP]at hq;cases xT:ps.toList[j]? with
  |none=>rw[xT]at hq;cases hq
  |some x =>
   rw[xT]at hq;simp only[QO,Option.some.injEq]at hq;subst hq;exact h3 j p x hp xT
 -- rY zero cells
 let C0:List Value:=(List.range (len * te.size)).map λq=>z.cells.toList.getD (q % te.size) undef
 have hC0:A1 E w (Ao.mL len te.zero) C0:=by
  refine⟨by rw[Hq,mF];simp[C0],λi s v hs hv=>?_⟩;have aA:i<len * te.size:=by
   have:=(List.getElem?_eq_some_iff.1 hs).1
   rwa [Hq,mF]at this
  rw[Um _ _ (by rw[mF];exact aA),mF]at hs;simp[C0,aA]at hv;have hm:i % te.size<z.cells.size:=by rw[fS];exact YF _ hz
  refine lE.2 (i % te.size) s v hs ?_;rw[<-hv];simp[hm]
 have xu:∀u∈C0,u.oneCell'=true:=by
  intro u hu;simp only[C0,List.mem_map,List.mem_range]at hu;obtain⟨q,_,rfl⟩:=hu;have hm:q % te.size<z.cells.toList.length:=by simp[fS];exact YF _ hz
  rw[QC,QA hm];exact jT _ (XQ hm)
 obtain⟨C',c1,c2,c3⟩:=Lh vs (ps.map λ(x:Nat×Operand)=>(x.1,a.eval x.2)).toList _ cs C0 (by simp[h2]) iJ (L9 h1) hC0 xu hf;have qV:C'.length=len * te.size:=by
  rw[<-c2.1];have:∀(vs:List (Nat×SV)) (cs dK:List SV),Ao.dI te.size cs vs=some dK->dK.length=cs.length:=by
   intro vs
   induction vs with
   |nil=>intro cs dK h;simp[Ao.dI]at h;rw[h]
   |cons p vs ih =>
    intro cs dK h;obtain⟨i,v⟩:=p;simp only[Ao.dI]at h
    split at h
    .rw[ih _ _ h,Dd]
    .cases h
  rw[this vs _ cs hf,Hq,mF]
 have aG:(Instr.buildSlice t len (ps.map λ(x:Nat×Operand)=>(x.1,a.eval x.2))).run P w=.ok (.slice (some ⟨w.heap.size,0,none⟩) len len) (w.alloc (.cells ⟨C'⟩ e)):=by
  have hu:=(hc.ti aA).slice hk;have hS:=(hc.ti hle).sizeOf w;have kH:((Array.range (len * te.size)).map (λq=>z.cells[q % z.cells.size]!))=(⟨C0⟩:Array Value):=by
   apply XN;simp only[ZU,Array.toList_range,C0];refine VJ λq _=>?_;rw[fS,QC,Array.getElem!_eq_getD,QM,QG];have hm:q % te.size<z.cells.size:=by rw[fS];exact YF _ hz
   simp[hm]
  have yO:¬(16777216<len * te.size):=by omega
  simp only[Instr.buildSlice,Sem.run_bind,run_underlying hu,Result.andThen_ok,hS,gt_iff_lt]
  by_cases h0:len * te.size=0
  .have xt:C0=[]:=by simp[C0,h0]
   rw[xt]at c1;rw[ZU]at c1;have xf:Array.map (λ_=>(default:Value)) (Array.range 0)=⟨[]⟩:=by simp
   simp[h0,newRow,newObj]
   first|rw[xf,c1]|(simp at c1 ⊢;rw[c1])
   simp[Sem.run]
  .rw[ZU]at c1
   simp[h0,yO,xC,kH,newRow,newObj];rw[c1];simp[Sem.run]
 have bH:cR (Ag σ.hp)=.fresh:=by
  have:=bJ.gF _ (List.mem_singleton.2 rfl);simp only[zY,Ap,Ah,Af]at this;rw[Af,this];simp
 have kE:len<=maxLen:=by
  simp only[maxLen];have:len<=len * te.size:=YA _ hz;omega
 have cA:=World.ownsRow_lit w (base:=0) (e:=e) (size:=te.size) ⟨C'⟩ len (ZD _) kE (by simpa using qV);obtain⟨E',x1,x2,x3,x4,x5,x6⟩:=Ok (h:=Ag σ.hp) (e:=e) (sz:=te.size) (n:=0) (m:=len) (xs:=[]) (news:=C') st (.inl ⟨bH,rfl⟩) (by simpa using c3) (World.ownsRow_nil w 0 e te.size) (by simpa using cA) (.inr ⟨rfl,World.grownBy_alloc w _ none⟩) ⟨_,_,by simp;exact⟨rfl,rfl⟩⟩ (λh=>absurd bH h) (.l len) (by simp[ST.den]);unfold Oper.wp;have:(execOp a.eval o).run P w=.ok (.value (.slice (some ⟨w.heap.size,0,none⟩) len len)) (w.alloc (.cells ⟨C'⟩ e)):=by
  simp only[execOp,ho,Sem.run_bind];rw[aG];rfl
 rw[this]
 -- RW it reads as
 have eu:∀c∈loose.aF (norm.aN dn cs),Ak c=true:=by
  simp only[Ak]at gB;exact (Ck _).1 gB
 have bQ:A1 E w (loose.aF (norm.aN dn cs)) C':=by
  rw[Cf,Cl];exact (c2.map _ λs v _ h=>h.norm).map _ λs v _ h=>h.loose
 have aU:∀(i j:Nat) (s:SV),(takeN te.size (By (i * te.size) (loose.aF (norm.aN dn cs))))[j]?=some s->(loose.aF (norm.aN dn cs))[i * te.size+j]?=some s:=by
  intro i j s hs;rw[Ax,A5,QL]at hs
  split at hs
  .rwa [XL]at hs
  .cases hs
 refine hK _ _ E' x1 x2 x3 (.eD ?_ ⟨_,len,_,x4,by simp[ST.den],λ_=>rfl⟩);refine O9 (n:=0) (m:=len) (xs:=[]) (news:=C') (by simpa using cA) (by simp) (by simp[BT.den]) (by simp[ST.den]) (by simpa using c3) x5 x6 (by intro i hi;omega) (λj hj=>?_) (by intro i j s u hi;omega) (λi j s u hi hs hu=>?_)
 .rw[Ax,A5,ZF,ZQ,bQ.1,qV,XD]
  have:(j+1) * te.size<=len * te.size:=QH _ hj;rw[XJ]at this;omega
 .rw[XD]at hs
  have cJ:=aU i j s hs;exact (((bQ.2 _ s u cJ hu).fK (eu s (QF cJ)) (c3 u (QF hu)))).mono x1.I x1.cell
end
theorem Rel.jZ{E:Env}{w:World}{h:Nat}{v:Value}(hr:Rel E w (.dM h) v):∃b m,E.β h=some b/\E.κ h=some m/\v=.slice (some ⟨b,0,none⟩) m m:=by
 cases hr with
 |ro h=>cases h
 |dM hb hm hv=>exact⟨_,_,hb,hm,hv⟩
theorem Rel.kA{E:Env}{w:World}{h j off:Nat}{v:Value}(hr:Rel E w (.cU h j off) v):∃b sz,E.β h=some b/\E.ζ h=some sz/\v=.pointer (some ⟨b,j * sz+off,none⟩):=by
 cases hr with
 |ro h=>cases h
 |cU hb hz hv=>exact⟨_,_,hb,hz,hv⟩
theorem Aig{B:Bs}{N:Nat}{E:Env}{a:Act}{w w':World}{ff:Nat->SG}{hf:Nat->Hl}(st:St B N E a w ff hf){h:Nat}(bH:hf h=.fresh){ty:TypeId}{n:ST}{sz m:Nat}{f:Nat->List SV}{C:Array Value}
  (hg:w.grownBy w' none) (hC:w'.heap[w.heap.size]?=some (.cells C ty (0,0))) (hn:n.den=(m:Int)) (hm:m<=maxLen) (aP:Rk E w f m sz C):
  ∃E',Ext E w E' w'/\B8 B E' w'/\(∀k,bO E' w' k (aL hf h (.row ty n sz f) k))/\E'.β h=some w.heap.size/\E'.κ h=some m/\E'.ζ h=some sz:=by
 have hb:=st.base;have cI:=st.heap h;rw[bH]at cI;obtain⟨f1,f2,f3,f4⟩:=cI
 let E':Env:=⟨aL E.β h (some w.heap.size),E.τ,aL E.O w.heap.size (some h),aL E.κ h (some m),aL E.ζ h (some sz),E.I⟩
 have hold:∀b,b<w.heap.size->w'.heap[b]?=w.heap[b]?:=λb aA=>hg.block b aA (by simp);have wz:w.heap.size<w'.heap.size:=(Array.getElem?_eq_some_iff.1 hC).1;have oY:∀ {α:Type} (F:Nat->Option α) (x:α) (k:Nat) (y:α),F h=none->F k=some y->aL F h (some x) k=some y:=by
  intro α F x k y h0 hk;unfold aL
  by_cases e:k=h
  .subst e;rw[h0]at hk;cases hk
  .rw[QD e];exact hk
 have hx:Ext E w E' w':=by
  refine⟨λk b hk=>oY _ _ k b f1 hk,λ_ _ h=>.inl h,λk b hk=>oY _ _ k b f3 hk,λk b hk=>oY _ _ k b f4 hk,λ_ _ h=>h,λb o hi=>?_⟩;simp only[World.cell?];rw[hold b (hb.eJ b o hi)]
 refine⟨E',hx,⟨hg.os.trans hb.os,hg.tape.trans hb.tape,hg.output.trans hb.output,?_,?_,?_,?_,?_,?_,hb.cS.ext hx⟩,λk=>?_,by simp[E',aL],by simp[E',aL],by simp[E',aL]⟩
 .have:=hb.size;omega
 .intro b aA hX;rw[hold b (by have:=hb.size;omega)];exact hb.old b aA hX
 .intro b o hi
  obtain⟨i1,i2⟩:=hb.I0 b o hi;exact⟨i1,by rw[hx.cell b o i1];exact i2⟩
 .intro b o hi;have:=hb.eJ b o hi;omega
 .exact hb.cE
 .intro b k hO
  have hO:aL E.O w.heap.size (some h) b=some k:=hO;unfold aL at hO
  split at hO
  .rename_i e;subst e;have:=hb.size;exact⟨wz,.inl this⟩
  .obtain⟨o1,o2⟩:=hb.dG b k hO;exact⟨by omega,o2⟩
 .by_cases e:k=h
  .subst e
   simp only[aL,QE];refine⟨w.heap.size,C,m,by simp[E',aL],by simp[E',aL],by simp[E',aL],by simp[E',aL],hC,hn,hm,⟨aP.1,aP.2.1,λi j s v a b c=>(aP.2.2.1 i j s v a b c).mono hx.I hx.cell,aP.2.2.2⟩,λo hi=>?_⟩;have:=hb.eJ _ _ hi;omega
  .simp only[aL,QD e]
   refine bO.keep hx (st.heap k) (by simp[E',aL,e]) rfl (by simp[E',aL,e]) (by simp[E',aL,e]) λb hO=>?_;have aA:=A4 hb hO;exact⟨by simp[E',aL,UJ aA];exact hO,hold b aA,λ_ h=>h⟩
theorem Zs{B:Bs}{N:Nat}{E:Env}{a:Act}{w:World}{ff:Nat->SG}{hf:Nat->Hl}(st:St B N E a w ff hf){h b m:Nat}{ty:TypeId}{n:ST}{sz:Nat}{f f':Nat->List SV}{C C':Array Value}
  (hh:hf h=.row ty n sz f) (gA:E.β h=some b) (GD:E.κ h=some m) (hC:w.heap[b]?=some (.cells C ty (0,0))) (aP:Rk E w f' m sz C'):
  Ext E w E (w.setRow b C')/\B8 B E (w.setRow b C')/\(∀k,bO E (w.setRow b C') k (aL hf h (.row ty n sz f') k)):=by
 have hb:=st.base;have hk:=st.heap h;rw[hh]at hk;obtain⟨b',C1,m',k1,k2,k3,k4,k5,k6,k7,k8,k9⟩:=hk;obtain rfl:b=b':=Option.some.inj (gA.symm.trans k1);obtain rfl:m=m':=Option.some.inj (GD.symm.trans k2);have hx:Ext E w E (w.setRow b C'):=⟨λ_ _ h=>h,λ_ _ h=>.inl h,λ_ _ h=>h,λ_ _ h=>h,λ_ _ h=>h,λb2 o hi=>cell_setRow_other w b C' ⟨b2,o,none⟩ (λe=>by subst e;exact k9 o hi)⟩;have hX:=(hb.dG b h k4).2;refine⟨hx,⟨hb.os,hb.tape,hb.output,by simpa using hb.size,?_,?_,?_,hb.cE,?_,hb.cS⟩,λk=>?_⟩
 .intro b2 aA kN
  by_cases e:b2=b
  .subst e;rcases hX with hX|hX
   .omega
   .exact absurd hX kN
  .rw[setRow_other w b b2 C' e];exact hb.old b2 aA kN
 .intro b2 o hi
  obtain⟨i1,i2⟩:=hb.I0 b2 o hi;exact⟨i1,by rw[hx.cell b2 o i1];exact i2⟩
 .intro b2 o hi;have:=hb.eJ b2 o hi;simpa using this
 .intro b2 k hO;have:=hb.dG b2 k hO;simpa using this
 .by_cases e:k=h
  .subst e
   simp only[aL,QE];exact⟨b,C',m,gA,GD,k3,k4,setRow_heap w b C C' ty (0,0) hC,k6,k7,⟨aP.1,aP.2.1,λi j s v a b c=>(aP.2.2.1 i j s v a b c).mono hx.I hx.cell,aP.2.2.2⟩,k9⟩
  .simp only[aL,QD e]
   refine bO.keep hx (st.heap k) rfl rfl rfl rfl λb2 hO=>⟨hO,?_,λ_ h=>h⟩;refine setRow_other w b b2 C' (λe2=>?_);subst e2;rw[k4]at hO;exact e (Option.some.inj hO).symm
section
variable {P:Program} {cx:Cx} {σ:Sy} {T:List Nat} {o:Oper} {K:Out->Prop}
theorem Dw{x:Operand}(ho:o.op=.nilCheck x){v:SV}(hv:rd cx σ T x=some v)(hp:(∃h off,v=.ptr h off)\/(∃cs,v=.dB cs)\/(∃h j off,v=.cU h j off)\/(∃n sz f,v=.dP n sz f)\/∃n h j off,v=.cK n h j off):Local P cx.gl σ T o ⟨v,[],[],[]⟩:=by
 intro B N E a w ff cR hg st ag bJ hT;have hr:=Aa hv hg st (Aj ag (by simp[ho,Op.operands])) hT;have:∃ad,a.eval x=.pointer (some ad):=by
  rcases hp with⟨h,off,rfl⟩|⟨cs,rfl⟩|⟨h,j,off,rfl⟩|⟨n,sz,f,rfl⟩|⟨n,h,j,off,rfl⟩
  .obtain⟨b,_,e⟩:=hr.dW;exact⟨_,e⟩
  .obtain⟨ad,e,_⟩:=hr.eV.eV;exact⟨_,e⟩
  .obtain⟨b,sz,_,_,e⟩:=hr.kA;exact⟨_,e⟩
  .have hx:RO E.I w (.dP n sz f) (a.eval x):=by cases hr with|ro h=>exact h
   generalize a.eval x=ev at hx
   cases hx;exact⟨_,rfl⟩
  .obtain⟨⟨b,o,e⟩,_⟩:=hr.mM;exact⟨_,e⟩
 obtain⟨ad,e⟩:=this;exact Ae st (v:=a.eval x) (by simp[execOp,ho,e]) rfl hr
theorem Pf{cR:Nat->Hl}{r:Out}{hl:Hl}(bJ:AQ σ.hp cR r)(hm:Ef.put (Ag σ.hp) hl∈r.gF):cR (Ag σ.hp)=.fresh:=by
 have:=bJ.gF _ hm;simp only[zY,Ap,Ah,Af]at this;rw[Af,this];simp
theorem Ac7(hc:Az P cx){t e:Nat}{x y:Operand}(ho:o.op=.makeSlice t x y){ti te:TI}(aA:look t cx.tt=some ti)(hk:ti.k=.slice e)(hle:look e cx.tt=some te){kl kc:IntKind}{c:ST}(hx:rd cx σ T x=some (.int kl (.l 0)))(hy:rd cx σ T y=some (.int kc c))
  (kM:Ba (Ac σ.gm T)->0<=c.den/\c.den * te.bytes<=140737488355328/\c.den<=9223372036854775807):
  Local P cx.gl σ T o ⟨.eD (.l false) (.l 0) te.size (λ_=>[]) (Ag σ.hp),[.put (Ag σ.hp) (.tail e (.l 0) te.size)],[],[]⟩:=by
 intro B N E a w ff cR hg st ag bJ hT K' Q hK;have jK:=(Aa hx hg st (Aj ag (by simp[ho,Op.operands])) hT).aW;have uZ:=(Aa hy hg st (Aj ag (by simp[ho,Op.operands])) hT).aW;obtain⟨o1,o2,o3⟩:=kM hT;obtain⟨i,z,hi,aT,ga,hz,jI,_⟩:=(hc.ti hle).info;have hu:=(hc.ti aA).slice hk;have CB:c.den=((c.den.toNat:Nat):Int):=by omega
 have fP:i.bytes * c.den.toNat<=281474976710656:=by
  rw[ga];have:((te.bytes * c.den.toNat:Nat):Int)<=140737488355328:=by
   rw[YR,<-CB,Int.mul_comm];exact o2
  omega
 obtain⟨w',r1,r2,r3⟩:=run_make_own (P:=P) w 0 t e i z te.size hu hi hz aT kl kc c.den.toNat fP (by simp only[maxLen];omega) (ZD _);have bH:=Pf bJ (List.mem_singleton.2 rfl);obtain⟨E',x1,x2,x3,x4,x5,x6⟩:=Ok (h:=Ag σ.hp) (e:=e) (sz:=te.size) (n:=0) (m:=0) (xs:=[]) (news:=[]) st (.inl ⟨bH,rfl⟩) (by simp) (World.ownsRow_nil w 0 e te.size) (by simpa using r2) (.inr ⟨rfl,r3⟩) ⟨_,_,rfl⟩ (λh=>absurd bH h) (.l 0) (by simp[ST.den]);unfold Oper.wp;have:(execOp a.eval o).run P w=.ok (.value (.slice (some ⟨w.heap.size,0,none⟩) 0 c.den.toNat)) w':=by
  simp only[execOp,ho,Sem.run_bind,jK,uZ,ST.den];rw[CB,r1];rfl
 rw[this];refine hK _ _ E' x1 x2 x3 (.eD ?_ ⟨_,0,_,x4,by simp[ST.den],λ_=>rfl⟩);exact O9 (n:=0) (m:=0) (xs:=[]) (news:=[]) (by simpa using r2) (by simp) (by simp[BT.den]) (by simp[ST.den]) (by simp) x5 x6 (by intro i hi;omega) (by intro j hj;omega) (by intro i j s u hi;omega) (by intro i j s u hi;omega)
theorem Ac6(hc:Az P cx){t e:Nat}{x y:Operand}(ho:o.op=.makeSlice t x y){ti te:TI}(aA:look t cx.tt=some ti)(hk:ti.k=.slice e)(hle:look e cx.tt=some te){kl kc:IntKind}{n n':ST}(hx:rd cx σ T x=some (.int kl n))(hy:rd cx σ T y=some (.int kc n'))(bN:x=y)(nM:0<te.size)
  (kM:Ba (Ac σ.gm T)->0<=n.den/\n.den * te.bytes<=140737488355328/\n.den<=9223372036854775807):
  Local P cx.gl σ T o ⟨.dM (Ag σ.hp),[.put (Ag σ.hp) (.row e (.a n.den) te.size λ_=>te.zero)],[],[]⟩:=by
 subst bN;intro B N E a w ff cR hg st ag bJ hT K' Q hK;have jK:=(Aa hx hg st (Aj ag (by simp[ho,Op.operands])) hT).aW;obtain⟨o1,o2,o3⟩:=kM hT;obtain⟨i,z,hi,aT,ga,hz,jI,_⟩:=(hc.ti hle).info;have hu:=(hc.ti aA).slice hk;have CB:n.den=((n.den.toNat:Nat):Int):=by omega
 have fP:i.bytes * n.den.toNat<=281474976710656:=by
  rw[ga];have:((te.bytes * n.den.toNat:Nat):Int)<=140737488355328:=by
   rw[YR,<-CB,Int.mul_comm];exact o2
  omega
 have kE:n.den.toNat<=maxLen:=by simp only[maxLen];omega
 obtain⟨w',r1,r2,r3⟩:=run_make_full (P:=P) w 0 t e i z te.size hu hi hz aT kl kl n.den.toNat fP kE (ZD _);have bH:=Pf bJ (List.mem_singleton.2 rfl);obtain⟨mQ,cP⟩:=r2;rcases cP with⟨h0,_⟩|⟨g,cap,cur,e0,_,aa8,qS,fX,cV,bZ⟩
 .cases h0
 simp only[Value.slice.injEq,Option.some.injEq,Addr.mk.injEq,and_true,true_and]at e0;obtain⟨rfl,dH⟩:=e0;subst dH;have JA:cur=madeCells z.cells (n.den.toNat * te.size):=by
  apply XN;rw[<-bZ,ZT];simp[cV]
 have mF:=(hc.ti hle).nR;have GI:=Lz (I:=E.I) (w:=w) jI;have aP:Rk E w (λ_=>te.zero) n.den.toNat te.size cur:=by
  have fS:z.cells.size=te.size:=by have:=GI.1;rw[mF]at this;simpa using this.symm
  have aU:∀(q:Nat) (v:Value),cur[q]?=some v->z.cells[q % te.size]?=some v:=by
   intro q v hq;have xR:q<n.den.toNat * te.size:=by rw[<-cV];exact (Array.getElem?_eq_some_iff.1 hq).1
   rw[JA]at hq;have hm:q % te.size<z.cells.size:=by rw[fS];exact YF _ nM
   have aV:n.den.toNat * te.size≠0:=by omega
   have aP4:n.den.toNat≠0:=λh=>by rw[h]at aV;simp at aV
   have qQ:te.size≠0:=by omega
   simp[madeCells,xR,fS]at hq;rw[<-hq];simp[hm]
  refine⟨cV,λ_ _=>mF,λi j s v vW hs hv=>?_,λv hv=>?_⟩
  .have hj:j<te.size:=by rw[<-mF];exact (List.getElem?_eq_some_iff.1 hs).1
   have:=aU _ v hv;rw[YI,Nat.mul_add_mod,VG hj]at this;exact GI.2 j s v hs (by simpa using this)
  .obtain⟨q,hq,rfl⟩:=Array.mem_iff_getElem.1 hv
   have h1:=aU q _ (XP hq);have hm:q % te.size<te.zero.length:=by rw[mF];exact YF _ nM
   have:zB (te.zero[q % te.size]) cur[q]=true:=by
    have key:∀(ss:List SV) (vs:List Value) (k:Nat) (s:SV) (v:Value),nH ss vs=true->ss[k]?=some s->vs[k]?=some v->zB s v=true:=by
     intro ss
     induction ss with
     |nil=>intro vs k s v _ h;simp at h
     |cons s0 ss ih =>
      intro vs k s v h h1 h2;cases vs with
      |nil=>simp at h2
      |cons v0 vs =>
       simp only[nH,QB]at h;cases k with
       |zero=>simp at h1 h2;subst h1;subst h2;exact h.1
       |succ k=>simp at h1 h2;exact ih vs k s v h.2 h1 h2
    exact key _ _ _ _ _ jI (QA hm) (by simpa using h1)
   exact Alx this
 obtain⟨E',x1,x2,x3,x4,x5,x6⟩:=Aig st bH (n:=.a n.den) (m:=n.den.toNat) r3 aa8 CB kE aP;unfold Oper.wp;have:(execOp a.eval o).run P w=.ok (.value (.slice (some ⟨w.heap.size,0,none⟩) n.den.toNat n.den.toNat)) w':=by
  simp only[execOp,ho,Sem.run_bind,jK];rw[CB];simp only[ZP]at r1 ⊢;rw[r1];rfl
 rw[this];exact hK _ _ E' x1 x2 x3 (.dM x4 x5 rfl)
theorem Vi{e:TypeId}{ti:TI}(hc:Az P cx)(ho:o.op=.alloc e)(hl:look e cx.tt=some ti){n sz:Nat}(aM:n * sz=ti.size)(hn:n<=1000000){f:Nat->List SV}(hf:Zk f (chunks sz n ti.zero)):
  Local P cx.gl σ T o ⟨.ptr (Ag σ.hp) 0,[.put (Ag σ.hp) (.row e (.l n) sz f)],[],[]⟩:=by
 intro B N E a w ff cR _ st _ bJ _ K' Q hK;obtain⟨z,hz,hr,h1⟩:=(hc.ti hl).zero E w;obtain⟨i,z',hi,_,_,ef,jI,_⟩:=(hc.ti hl).info;have mF:=(hc.ti hl).nR;have bH:=Pf bJ (List.mem_singleton.2 rfl);have ez:z=z':=by
  have:(zeroValue e).run P w=.ok z' w:=by simp[zeroValue,typeInfo,hi,ef]
  rw[hz]at this
  injection this
 subst ez;have GI:=Lz (I:=E.I) (w:=w) jI;have CD:z.cells.size=n * sz:=by rw[aM,<-mF];have:=GI.1;simpa using this.symm
 have o8:∀q,q<n->f q=(ti.zero.drop (q * sz)).take sz:=by
  intro q hq;have:=Q0 (sz:=sz) n q ti.zero hq;rw[hf.h q _ this,Ax,A5]
 have aP:Rk E w f n sz z.cells:=by
  refine⟨CD,λq hq=>?_,λq j s v hq hs hv=>?_,λv hv=>h1 v (by simpa using hv)⟩
  .rw[o8 q hq]
   have:(q+1) * sz<=n * sz:=QH _ hq;rw[XJ]at this;simp;omega
  .rw[o8 q hq,QL]at hs
   split at hs
   .rw[XL]at hs
    exact GI.2 _ s v hs (by simpa using hv)
   .cases hs
 obtain⟨E',x1,x2,x3,x4,x5,x6⟩:=Aig st bH (w':=w.alloc (.cells z.cells e)) (n:=.l n) (m:=n) (f:=f) (sz:=sz) (C:=z.cells) (ty:=e)
  ⟨rfl,rfl,rfl,by simp,λk hk _=>RowKit.Below.heap_alloc w _ k hk⟩ (by show (w.heap.push _)[w.heap.size]?=_;simp) rfl (by simp only[maxLen];omega) aP
 unfold Oper.wp;have:(execOp a.eval o).run P w=.ok (.value (.pointer (some ⟨w.heap.size,0,none⟩))) (w.alloc (.cells z.cells e)):=by
  simp[execOp,ho,Instr.alloc,hz,newVar,newRow,newObj,Sem.run]
 rw[this];exact hK _ _ E' x1 x2 x3 (.ptr x4 rfl)
end
section
variable {P:Program} {cx:Cx} {σ:Sy} {T:List Nat} {o:Oper} {K:Out->Prop}
theorem Bn{cR:Nat->Hl}{r:Out}{h:Nat}{hl:Hl}(bJ:AQ σ.hp cR r)(hm:h∈r.uT)(hh:nth σ.hp h=some hl):cR h=hl:=by
 rw[bJ.uT h hm,Bx hh]
theorem Xm(hc:Az P cx){c:Call}(ho:o.op=.call c)(aQ:c.callee=.builtin .len){x:Operand}{t:Nat}{ti:TI}(hx:c.args.toList=[x])(ht:c.argTypes.toList=[t])(hl:look t cx.tt=some ti){e:TypeId}(hk:ti.k=.slice e)
  {h ty sz:Nat} {n:ST} {f:Nat->List SV} (hv:rd cx σ T x=some (.dM h)) (hh:nth σ.hp h=some (.row ty n sz f)):Local P cx.gl σ T o ⟨.int .i64 n,[],[h],[]⟩:=by
 intro B N E a w ff cR hg st ag bJ hT;have dT:x∈o.op.operands.toList:=by simp[ho,Op.operands,Call.operands,aQ,hx]
 obtain⟨b,m,hb,hm,e3⟩:=(Aa hv hg st (Aj ag dT) hT).jZ;have e1:c.args=#[x]:=XN (by simpa using hx);have e2:c.argTypes=#[t]:=XN (by simpa using ht);have gP:=st.heap h;rw[Bn bJ (List.mem_singleton.2 rfl) hh]at gP;obtain⟨b',C,m',k1,k2,k3,k4,k5,k6,k7,k8,k9⟩:=gP;obtain rfl:m=m':=Option.some.inj (hm.symm.trans k2);have aG:=H5 hc hl hk (w:=w) (a:=some ⟨b,0,none⟩) (m:=m) (c:=m) (ty:=o.type);refine Ae st (v:=.int .i64 m) ?_ rfl (.int k6);simp[execOp,ho,resolve,aQ,e1,e2,invoke,builtin,e3,aG]
theorem Sz(hc:Az P cx){t e sz:Nat}{ti:TI}(hl:look t cx.tt=some ti)(hk:ti.k=.slice e)(hn:size? cx e=some sz){x y:Operand}(ho:o.op=.indexAddr t x y){h ty:Nat}{n:ST}{f:Nat->List SV}{k:IntKind}{i:ST}
  (hv:rd cx σ T x=some (.dM h)) (hh:nth σ.hp h=some (.row ty n sz f)) (hi:rd cx σ T y=some (.int k i)) (h1:Ba (Ac σ.gm T)->0<=i.den/\i.den<n.den):Local P cx.gl σ T o ⟨.cU h i.den.toNat 0,[],[h],[]⟩:=by
 intro B N E a w ff cR hg st ag bJ hT;obtain⟨b,m,hb,hm,e3⟩:=(Aa hv hg st (Aj ag (by simp[ho,Op.operands])) hT).jZ;have hy:=(Aa hi hg st (Aj ag (by simp[ho,Op.operands])) hT).aW;obtain⟨b1,b2⟩:=h1 hT;have gP:=st.heap h;rw[Bn bJ (List.mem_singleton.2 rfl) hh]at gP;obtain⟨b',C,m',k1,k2,k3,k4,k5,k6,k7,k8,k9⟩:=gP;obtain rfl:m=m':=Option.some.inj (hm.symm.trans k2);have aG:=Hm hc hl hk hn (w:=w) (a:=⟨b,0,none⟩) (m:=m) (cap:=m) (k:=k) b1 (show i.den<(m:Int) by omega);refine Ae st (v:=.pointer (some ⟨b,i.den.toNat * sz+0,none⟩)) ?_ rfl (.cU hb k3 rfl);simp[execOp,ho,e3,hy,aG,add_lit]
theorem Qk(hc:Az P cx){t e sz n:Nat}{ti:TI}(hl:look t cx.tt=some ti)(hk:ti.k=.array n e)(hn:size? cx e=some sz){x y:Operand}(ho:o.op=.indexAddr t x y){h ty:Nat}{m:ST}{f:Nat->List SV}{k:IntKind}{i:ST}
  (hv:rd cx σ T x=some (.ptr h 0)) (hh:nth σ.hp h=some (.row ty m sz f)) (hi:rd cx σ T y=some (.int k i)) (h0:0<=i.den) (h1:i.den<n):Local P cx.gl σ T o ⟨.cU h i.den.toNat 0,[],[h],[]⟩:=by
 intro B N E a w ff cR hg st ag bJ hT;obtain⟨b,hb,hx⟩:=(Aa hv hg st (Aj ag (by simp[ho,Op.operands])) hT).dW;have hy:=(Aa hi hg st (Aj ag (by simp[ho,Op.operands])) hT).aW;have gP:=st.heap h;rw[Bn bJ (List.mem_singleton.2 rfl) hh]at gP;obtain⟨b',C,m',k1,k2,k3,k4,k5,k6,k7,k8,k9⟩:=gP;obtain rfl:b=b':=Option.some.inj (hb.symm.trans k1);refine Ae st (v:=.pointer (some ⟨b,i.den.toNat * sz+0,none⟩)) ?_ rfl (.cU hb k3 rfl);have hu:=(hc.ti hl).array hk;obtain⟨te,iT,aM⟩:=bF hn;have hS:=(hc.ti iT).sizeOf w;obtain⟨j,hj⟩:∃j:Nat,i.den=(j:Int):=⟨i.den.toNat,by omega⟩;have BU:j<n:=by omega
 rw[hj]at hy ⊢;simp[execOp,ho,hx,hy,Instr.indexAt,run_underlying hu,asIntOf,BU,hS,aM,Instr.sureAddr,add_lit]
theorem Qj(hc:Az P cx){t e n sz:Nat}{ti:TI}{x:Operand}(ho:o.op=.load t x)(hl:look t cx.tt=some ti)(hk:ti.k=.array n e)(aM:n * sz=ti.size){h ty:Nat}{m:ST}{f:Nat->List SV}
  (hv:rd cx σ T x=some (.ptr h 0)) (hh:nth σ.hp h=some (.row ty m sz f)) (hm:m.den=(n:Int)) {cs:List SV} (hf:Flat f m.den sz cs):Local P cx.gl σ T o ⟨.agg cs,[],[h],[]⟩:=by
 intro B N E a w ff cR hg st ag bJ hT;obtain⟨b,hb,hx⟩:=(Aa hv hg st (Aj ag (by simp[ho,Op.operands])) hT).dW;have gP:=st.heap h;rw[Bn bJ (List.mem_singleton.2 rfl) hh]at gP;obtain⟨b',C,m',k1,k2,k3,k4,k5,k6,k7,⟨r1,r2,r3,r4⟩,k9⟩:=gP;obtain rfl:b=b':=Option.some.inj (hb.symm.trans k1);obtain rfl:m'=n:=by omega
 have hlen:cs.length=m' * sz:=by
  have:=hf.len;rw[k6]at this
  exact_mod_cast this
 have aY:A1 E w cs C.toList:=by
  refine⟨by simp[hlen,r1],λi s v p q=>?_⟩;have hi:i<m' * sz:=by rw[<-hlen];exact (List.getElem?_eq_some_iff.1 p).1
  have fA:0<sz:=by
   rcases YX sz with h|h
   .rw[h]at hi;simp at hi
   .exact h
  have hq:i / sz<m':=by rw[UX fA];exact hi
  have aP:=hf.h (i / sz) (by rw[k6];exact_mod_cast hq);have e0:i / sz * sz+i % sz=i:=by rw[YI];exact UU i sz
  have e1:(f (i / sz))[i % sz]?=some s:=by
   rw[aP,QL,QE (YF i fA),XL,e0];exact p
  have e2:C[i / sz * sz+i % sz]?=some v:=by rw[e0];simpa using q
  exact .ro (r3 _ _ _ _ hq e1 e2)
 have fH:cG cx t=true:=by rw[dJ hl,hk];rfl
 have hp:pack (cG cx t) cs=some (.agg cs):=by rw[fH];rfl
 obtain⟨p1,p2⟩:=Gb hp aY;have aG:=Fm (hc.ti hl) (w:=w) (b:=b) (off:=0) (vs:=C.toList) (λj v hj=>by
  rw[XD,cell_of_row w b j C ty (0,0) k5];simpa using hj) (by rw[<-aY.1,hlen,aM]) (dJ hl) p1
 exact Ae st (by simp[execOp,ho,hx,aG]) rfl p2
theorem Ov(hc:Az P cx){t e n sz:Nat}{ti:TI}{x y:Operand}(ho:o.op=.store t x y)(hl:look t cx.tt=some ti)(hk:ti.k=.array n e)(aM:n * sz=ti.size){h ty:Nat}{m:ST}{f f':Nat->List SV}{cs:List SV}
  (hv:rd cx σ T x=some (.ptr h 0)) (hs:zM cx σ T t y=some (.agg cs)) (hh:nth σ.hp h=some (.row ty m sz f)) (hm:m.den=(n:Int)) (h1:D8 cs=true) (gB:Ak.gU cs=true) (hf:Flat f' m.den sz cs):Local P cx.gl σ T o ⟨.tup [],[.put h (.row ty m sz f')],[h],[]⟩:=by
 intro B N E a w ff cR hg st ag bJ hT K' Q hK;obtain⟨b,hb,hx⟩:=(Aa hv hg st (Aj ag (by simp[ho,Op.operands])) hT).dW;have cP:=I6 hs hg st (Aj ag (by simp[ho,Op.operands])) hT;have pk:=Bn bJ (List.mem_singleton.2 rfl) hh;have gP:=st.heap h;rw[pk]at gP;obtain⟨b',C,m',k1,k2,k3,k4,k5,k6,k7,⟨r1,r2,r3,r4⟩,k9⟩:=gP;obtain rfl:b=b':=Option.some.inj (hb.symm.trans k1);obtain rfl:m'=n:=by omega
 have hlen:cs.length=m' * sz:=by
  have:=hf.len;rw[k6]at this
  exact_mod_cast this
 have cV:=H1 (s:=.agg cs) h1 cP;have fO:=L8 (cs:=cs) h1 cV;rw[Ck]at gB;have lG:(a.eval y).cells.toList.length=m' * sz:=by rw[<-cV.1];exact hlen
 generalize hU:(a.eval y).cells.toList=us at *
 have CD:us.toArray.size=C.size:=by simp[lG,r1]
 have aP:Rk E w f' m' sz us.toArray:=by
  refine⟨by simp[lG],λi hi=>?_,λi j s v hi p q=>?_,λv hv=>fO v (by simpa using hv)⟩
  .rw[hf.h i (by rw[k6];exact_mod_cast hi)]
   have:(i+1) * sz<=m' * sz:=QH _ hi;rw[XJ]at this;simp;omega
  .rw[hf.h i (by rw[k6];exact_mod_cast hi),QL]at p
   split at p
   .rw[XL]at p
    have q:us[i * sz+j]?=some v:=by simpa using q
    exact (cV.2 _ s v p q).fK (gB _ (QF p)) (fO v (QF q))
   .cases p
 obtain⟨x1,x2,x3⟩:=Zs (h:=h) st pk hb k2 k5 aP;have aG:(Instr.storeAt t (.pointer (some ⟨b,0,none⟩)) (a.eval y)).run P w=.ok () (w.setRow b us.toArray):=by
  have hS:=(hc.ti hl).sizeOf w;have pP:=run_storeCells_at P b 0 ty us 0 C w k5 (by simp[lG,r1]) fO;have aV:((a.eval y).cells.size≠ti.size)=False:=by
   have:(a.eval y).cells.size=ti.size:=by rw[<-aM];rw[<-hU]at lG;simpa using lG
   simp[this]
  have hC2:(C.toList.take 0++us++C.toList.drop (0+us.length)).toArray=us.toArray:=by
   have:C.toList.drop us.length=[]:=XM (by simp[lG,r1]);rw[XD,this];simp
  simp only[ZA]at pP;rw[hC2]at pP;simp only[Instr.storeAt,Instr.sureAddr,storeVar,Sem.run_bind,Sem.run_pure,Result.andThen_ok,hS,aV,if_false,hU,pP]
 unfold Oper.wp;have:(execOp a.eval o).run P w=.ok .skip (w.setRow b us.toArray):=by
  simp only[execOp,ho,hx,Sem.run_bind,aG,Result.andThen_ok,Sem.run_pure]
 rw[this];exact hK undef _ E x1 x2 x3 (.tup rfl (by simp))
theorem K8(hc:Az P cx){t i fo ft m h j off:Nat}{x:Operand}(ho:o.op=.fieldAddr t x i)(hv:rd cx σ T x=some (.cU h j off))(hf:gE cx t i=some (fo,ft))(hn:size? cx ft=some (m+1)):
  Local P cx.gl σ T o ⟨.cU h j (off+fo),[],[],[]⟩:=by
 intro B N E a w ff cR hg st ag bJ hT;have hr:=Aa hv hg st (Aj ag (by simp[ho,Op.operands])) hT;obtain⟨b,sz,hb,hz,hx⟩:=hr.kA;refine Ae st (v:=.pointer (some ⟨b,j * sz+(off+fo),none⟩)) ?_ rfl (.cU hb hz rfl);simp[execOp,ho,hx,H6 hc hf hn,add_lit,UD]
theorem Sv(hc:Az P cx){t:Nat}{x:Operand}(ho:o.op=.load t x){h j off n ty sz:Nat}{m:ST}{f:Nat->List SV}{s:SV}(hv:rd cx σ T x=some (.cU h j off))(hn:size? cx t=some n)
  (hh:nth σ.hp h=some (.row ty m sz f)) (kM:Ba (Ac σ.gm T)->(j:Int)<m.den) (hle:off+n<=(f j).length) (hp:pack (cG cx t) (((f j).drop off).take n)=some s):Local P cx.gl σ T o ⟨s,[],[h],[]⟩:=by
 intro B N E a w ff hf hg st ag bJ hT;have hr:=Aa hv hg st (Aj ag (by simp[ho,Op.operands])) hT;obtain⟨b,cN,hb,hz,hx⟩:=hr.kA;have gP:=st.heap h;rw[Bn bJ (List.mem_singleton.2 rfl) hh]at gP;obtain⟨b',C,m',k1,k2,k3,k4,k5,k6,k7,k8,k9⟩:=gP;obtain rfl:b=b':=Option.some.inj (hb.symm.trans k1);obtain rfl:cN=sz:=Option.some.inj (hz.symm.trans k3);obtain⟨ti,cY,aM⟩:=bF hn;obtain⟨r1,r2,r3,r4⟩:=k8;have hj:j<m':=by have:=kM hT;omega
 have pJ:=r2 j hj;have hbound:(j+1) * cN<=m' * cN:=QH _ hj;rw[XJ]at hbound;have jJ:A1 E w (((f j).drop off).take n) ((C.toList.drop (j * cN+off)).take n):=by
  refine⟨by simp;omega,λi s v p q=>?_⟩;rw[QL]at p q
  split at p
  .rename_i e
   rw[QE e]at q;rw[XL]at p q;refine .ro (r3 j (off+i) s v hj p ?_);rw[<-UD];simpa using q
  .cases p
 obtain⟨p1,p2⟩:=Gb hp jJ;have hlen:((C.toList.drop (j * cN+off)).take n).length=n:=by simp;omega
 have aG:=Fm (hc.ti cY) (w:=w) (b:=b) (off:=j * cN+off) (vs:=(C.toList.drop (j * cN+off)).take n) (λq v hq=>by
  rw[QL]at hq
  split at hq
  .rw[XL]at hq
   rw[cell_of_row w b (j * cN+off+q) C ty (0,0) k5];simpa using hq
  .cases hq) (by rw[hlen,aM]) (dJ cY) p1
 exact Ae st (by simp[execOp,ho,hx,aG]) rfl p2
theorem Qh(hc:Az P cx){t:Nat}{x y:Operand}(ho:o.op=.store t x y){h j off n ty sz:Nat}{m:ST}{f f':Nat->List SV}{s:SV}(hv:rd cx σ T x=some (.cU h j off))(hs:zM cx σ T t y=some s)(hn:size? cx t=some n)
  (hh:nth σ.hp h=some (.row ty m sz f)) (hj:(j:Int)<m.den) (hl:s.cells.length=n) (hle:off+n<=(f j).length) (h1:D8 s.cells=true) (gB:Ak (.agg (loose.aF (norm.aN dn s.cells)))=true)
  (pR:f' j=B9 (f j) off (loose.aF (norm.aN dn s.cells))) (nZ:∀i,i≠j->f' i=f i):Local P cx.gl σ T o ⟨.tup [],[.put h (.row ty m sz f')],[h],[]⟩:=by
 intro B N E a w ff hf hg st ag bJ hT K' Q hK;have hr:=Aa hv hg st (Aj ag (by simp[ho,Op.operands])) hT;have cP:=I6 hs hg st (Aj ag (by simp[ho,Op.operands])) hT;obtain⟨b,cN,hb,hz,hx⟩:=hr.kA;have pk:=Bn bJ (List.mem_singleton.2 rfl) hh;have gP:=st.heap h;rw[pk]at gP;obtain⟨b',C,m',k1,k2,k3,k4,k5,k6,k7,k8,k9⟩:=gP;obtain rfl:b=b':=Option.some.inj (hb.symm.trans k1);obtain rfl:cN=sz:=Option.some.inj (hz.symm.trans k3);obtain⟨ti,cY,aM⟩:=bF hn;obtain⟨r1,r2,r3,r4⟩:=k8;have vC:j<m':=by omega
 have pJ:=r2 j vC;have hbound:(j+1) * cN<=m' * cN:=QH _ vC;rw[XJ]at hbound;have cV:=H1 h1 cP;have fO:=L8 h1 cV;have lG:(a.eval y).cells.toList.length=n:=by rw[<-cV.1];exact hl
 have mS:A1 E w (loose.aF (norm.aN dn s.cells)) (a.eval y).cells.toList:=by
  rw[Cf,Cl];exact (cV.map _ λs v _ h=>h.norm).map _ λs v _ h=>h.loose
 have eu:∀c∈loose.aF (norm.aN dn s.cells),Ak c=true:=by
  simp only[Ak]at gB;exact (Ck _).1 gB
 have sM:(loose.aF (norm.aN dn s.cells)).length=n:=by rw[mS.1];exact lG
 generalize hU:(a.eval y).cells.toList=us at *
 generalize hP:loose.aF (norm.aN dn s.cells)=ps at *
 let C':Array Value:=(C.toList.take (j * cN+off)++us++C.toList.drop (j * cN+off+us.length)).toArray
 have lV:j * cN+off+us.length<=C.size:=by rw[lG];omega
 have mY:C'.size=C.size:=by simp[C'];omega
 have kI:∀q:Nat,C'[q]?=if j * cN+off<=q/\q<j * cN+off+us.length then us[q-(j * cN+off)]? else C[q]?:=by
  intro q;have:C'[q]?=(C.toList.take (j * cN+off)++us++C.toList.drop (j * cN+off+us.length))[q]?:=by simp[C']
  rw[this]
  split
  .rename_i e
   rw[ZE,QU (by simp;omega),QJ (by simp;omega)];congr 1;simp;omega
  .rename_i e
   by_cases hi:q<j * cN+off
   .rw[ZE,QJ (by simp;omega),QL,QE hi];simp
   .rw[QU (by simp;omega),XL,<-QG]
    congr 1;simp;omega
 have aP:Rk E w f' m' cN C':=by
  refine⟨by rw[mY];exact r1,λi hi=>?_,λi q s2 v hi eE iW=>?_,λv hv=>?_⟩
  .by_cases e:i=j
   .subst e;rw[pR,Dd];exact pJ
   .rw[nZ i e];exact r2 i hi
  .rw[kI]at iW
   have BM:q<cN:=by
    have hlen:(f' i).length=cN:=by
     by_cases e:i=j
     .subst e;rw[pR,Dd];exact pJ
     .rw[nZ i e];exact r2 i hi
    rw[<-hlen];exact (List.getElem?_eq_some_iff.1 eE).1
   by_cases e:i=j
   .subst e
    rw[pR,Hv _ _ _ _ (by rw[sM];exact hle)]at eE
    by_cases eT:off<=q/\q<off+n
    .rw[QE (by rw[sM];exact eT)]at eE
     rw[QE (by rw[lG];omega)]at iW;have e2:i * cN+q-(i * cN+off)=q-off:=by omega
     rw[e2]at iW;exact (mS.2 _ s2 v eE iW).fK (eu s2 (QF eE)) (fO v (QF iW))
    .rw[QD (by rw[sM];exact eT)]at eE
     rw[QD (by rw[lG];omega)]at iW;exact r3 i q s2 v hi eE iW
   .rw[nZ i e]at eE
    have aV:¬(j * cN+off<=i * cN+q/\i * cN+q<j * cN+off+us.length):=by
     rw[lG];rcases ZS i j with aA|nN
     .have:(i+1) * cN<=j * cN:=QH _ aA
      rw[XJ]at this;omega
     .have:(j+1) * cN<=i * cN:=QH _ (by omega)
      rw[XJ]at this;omega
    rw[QD aV]at iW;exact r3 i q s2 v hi eE iW
  .obtain⟨q,hq⟩:=Array.mem_iff_getElem?.1 hv
   rw[kI]at hq
   split at hq
   .exact fO v (QF hq)
   .exact r4 v (YT hq)
 obtain⟨x1,x2,x3⟩:=Zs (h:=h) st pk hb k2 k5 aP;have aG:(Instr.storeAt t (.pointer (some ⟨b,j * cN+off,none⟩)) (a.eval y)).run P w=.ok () (w.setRow b C'):=by
  have hS:=(hc.ti cY).sizeOf w;have pP:=run_storeCells_at P b (j * cN+off) ty us 0 C w k5 (by simpa using lV) fO;have aV:((a.eval y).cells.size≠ti.size)=False:=by
   have:(a.eval y).cells.size=ti.size:=by rw[aM];rw[<-hU]at lG;simpa using lG
   simp[this]
  simp only[ZA]at pP;simp only[Instr.storeAt,Instr.sureAddr,storeVar,Sem.run_bind,Sem.run_pure,Result.andThen_ok,hS,aV,if_false,hU,pP];rfl
 unfold Oper.wp;have:(execOp a.eval o).run P w=.ok .skip (w.setRow b C'):=by
  simp only[execOp,ho,hx,Sem.run_bind,aG,Result.andThen_ok,Sem.run_pure]
 rw[this];exact hK undef _ E x1 x2 x3 (.tup rfl (by simp))
end
section
variable {P:Program} {cx:Cx} {σ:Sy} {T:List Nat} {o:Oper} {K:Out->Prop}
theorem Agc(hc:Az P cx){c:Call}(ho:o.op=.call c)(aQ:c.callee=.builtin .copy){x y:Operand}{t t':Nat}{ti:TI}(hx:c.args.toList=[x,y])(ht:c.argTypes.toList=[t,t'])(hl:look t cx.tt=some ti){e:TypeId}(hk:ti.k=.slice e)
  {h ty sz:Nat} {n m:ST} {f f' g:Nat->List SV} {s:SV} (hv:rd cx σ T x=some (.dM h)) (hs:rd cx σ T y=some s) (hh:nth σ.hp h=some (.row ty n sz f)) (aM:size? cx e=some sz) (aP:rowOf sz s=some (m,g))
  (h1:∀i:Nat,(i:Int)<min m.den n.den->f' i=g i) (h2:∀i:Nat,min m.den n.den<=(i:Int)->(i:Int)<n.den->f' i=f i):
  Local P cx.gl σ T o ⟨.int .i64 (.a (min m.den n.den)),[.put h (.row ty n sz f')],[h],[]⟩:=by
 intro B N E a w ff hf hg st ag bJ hT K' Q hK;have dT:x∈o.op.operands.toList/\y∈o.op.operands.toList:=by constructor<;>simp[ho,Op.operands,Call.operands,aQ,hx]
 obtain⟨b,md,hb,hm,e3⟩:=(Aa hv hg st (Aj ag dT.1) hT).jZ;have hrs:=Aa hs hg st (Aj ag dT.2) hT;have e1:c.args=#[x,y]:=XN (by simpa using hx);have e2:c.argTypes=#[t,t']:=XN (by simpa using ht);have pk:=Bn bJ (List.mem_singleton.2 rfl) hh;have gP:=st.heap h;rw[pk]at gP;obtain⟨b',C,m',k1,k2,k3,k4,k5,k6,k7,k8,k9⟩:=gP;obtain rfl:b=b':=Option.some.inj (hb.symm.trans k1);obtain rfl:md=m':=Option.some.inj (hm.symm.trans k2);obtain⟨te,iT,vr⟩:=bF aM;obtain⟨k,news,n1,n2,⟨n3,n4,n5⟩,n6,n7⟩:=I2 aP hrs;obtain⟨r1,r2,r3,r4⟩:=k8;have xO:min m.den n.den=((min k md:Nat):Int):=by rw[n1,k6];omega
 have ap6:∀i,i<k->∀j,j<sz->i * sz+j<news.length:=by
  intro i hi j hj;have:(i+1) * sz<=k * sz:=QH _ hi;rw[XJ]at this;omega
 let r:=min k md
 have hrk:r<=k:=Nat.min_le_left _ _;have pD:r<=md:=Nat.min_le_right _ _;have aO6:r * sz<=k * sz:=QH _ hrk;have aO5:r * sz<=md * sz:=QH _ pD
 let us:=news.take (r * sz)
 have uX:us.length=r * sz:=by simp[us];omega
 let C':Array Value:=(C.toList.take 0++us++C.toList.drop (0+us.length)).toArray
 have mY:C'.size=C.size:=by simp[C',us];omega
 have kI:∀q:Nat,C'[q]?=if q<r * sz then news[q]? else C[q]?:=by
  intro q;have:C'[q]?=(us++C.toList.drop us.length)[q]?:=by simp[C']
  rw[this]
  split
  .rename_i e
   rw[QJ (by omega)];simp only[us];rw[QL,QE e]
  .rename_i e
   rw[QU (by omega),XL,<-QG];congr 1;omega
 have fO:∀v∈us,v.oneCell'=true:=λv hv=>n4 v (VC hv);have GY:Rk E w f' md sz C':=by
  have iL:∀i,i<md->(i<r->f' i=g i)/\(r<=i->f' i=f i):=by
   intro i hi;refine⟨λaA=>h1 i (by rw[xO];omega),λnN=>h2 i (by rw[xO];omega) (by omega)⟩
  have hlen:∀i,i<md->(f' i).length=sz:=by
   intro i hi
   by_cases e:i<r
   .rw[(iL i hi).1 e];exact n6 i (by omega)
   .rw[(iL i hi).2 (by omega)];exact r2 i hi
  refine⟨by rw[mY];exact r1,hlen,λi q s2 v hi eE iW=>?_,λv hv=>?_⟩
  .have BM:q<sz:=by rw[<-hlen i hi];exact (List.getElem?_eq_some_iff.1 eE).1
   rw[kI]at iW
   by_cases e:i<r
   .have:(i+1) * sz<=r * sz:=QH _ e
    rw[XJ]at this;rw[QE (by omega)]at iW;rw[(iL i hi).1 e]at eE;exact n7 i q s2 v (by omega) eE iW
   .have:r * sz<=i * sz:=QH _ (by omega)
    rw[QD (by omega)]at iW;rw[(iL i hi).2 (by omega)]at eE;exact r3 i q s2 v hi eE iW
  .obtain⟨q,hq⟩:=Array.mem_iff_getElem?.1 hv
   rw[kI]at hq
   split at hq
   .exact n4 v (QF hq)
   .exact r4 v (YT hq)
 obtain⟨x1,x2,x3⟩:=Zs (h:=h) st pk hb k2 k5 GY;have hu:=(hc.ti hl).slice hk;have hS:=(hc.ti iT).sizeOf w;have hlen:(Builtin.lenOf (a.eval y)).run P w=.ok k w:=by
  rcases n5 with⟨e0,rfl⟩|⟨ad,c0,e0,_⟩<;>rw[e0]<;>rfl
 have bQ:(Builtin.firstCells te.size (Nat.min k md) (a.eval y)).run P w=.ok us.toArray w:=by
  rcases n5 with⟨e0,e00⟩|⟨ad,c0,e0,iY⟩
  .subst e00
   have:us=[]:=by simp[us,r]
   rw[e0,this];rfl
  .rw[e0]
   refine run_firstCells_some w te.size (Nat.min k md) ad k c0 us (by rw[uX,vr]) (λj v hj=>?_);simp only[us]at hj;rw[QL]at hj
   split at hj
   .exact iY j v hj
   .cases hj
 have pP:=run_storeCells_at P b 0 ty us 0 C w k5 (by rw[uX];omega) fO;simp only[ZA]at pP;unfold Oper.wp;have:(execOp a.eval o).run P w=.ok (.value (.int .i64 ((min k md:Nat):Int))) (w.setRow b C'):=by
  have hbi:(Builtin.copy_ #[t,t'] o.type #[.slice (some ⟨b,0,none⟩) md md,a.eval y]).run P w=.ok (.int .i64 ((min k md:Nat):Int)) (w.setRow b C'):=by
   simp only[Builtin.copy_];simp[Sem.run_bind,run_underlying hu,hlen,hS,bQ,pP,goInt,C']
  simp only[execOp,ho,resolve,aQ,e1,e2];simp[invoke,builtin,e3,hbi]
 rw[this];refine hK _ _ E x1 x2 x3 (.int ?_);simp only[ST.den];exact xO
end
end Go.Sx
