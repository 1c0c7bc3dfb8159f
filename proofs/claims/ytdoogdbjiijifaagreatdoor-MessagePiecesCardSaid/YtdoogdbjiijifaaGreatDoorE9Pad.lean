/- Lemmas of the proof; no conditions. -/
import Derived.Test.YtdoogdbjiijifaaGreatDoorE9Pac
namespace Go.Sx
open Go
section
variable {P:Program} {cx:Cx} {σ:Sy} {T:List Nat} {o:Oper} {K:Out->Prop}
theorem add_lit(b off j:Nat):(⟨b,off,none⟩:Addr).add j=⟨b,off+j,none⟩:=by
 unfold Addr.add;split<;>simp_all
theorem Ge{t:Nat}{ti:TI}(h:Ew P t ti){w:World}{b off:Nat}{vs:List Value}(hc:∀(j:Nat) (v:Value),vs[j]?=some v->w.cell? ⟨b,off+j,none⟩=some v)(hn:vs.length=ti.size)
  {agg:Bool} (ha:agg=Lf ti.k) (h1:agg=false->vs.length=1):
  (Instr.loadAt t (.pointer (some ⟨b,off,none⟩))).run P w=.ok (if agg then .agg ⟨vs⟩ else vs.headD undef) w:=by
 have hI:=h.isAgg w;have hS:=h.sizeOf w;subst ha;simp only[Instr.loadAt,Instr.sureAddr,loadVar,Sem.run_bind,Sem.run_pure,Result.andThen_ok,hI];cases hk:Lf ti.k with
 |true =>
  rw[<-hn]at hS;have:=run_loadCells_list (P:=P) w ⟨b,off,none⟩ vs (λj v hj=>by rw[add_lit];exact hc j v hj);simp[hS,this]
 |false =>
  rw[hk]at h1
  match vs,h1 rfl,hc with
  | [v],_,hc =>
   have:=hc 0 v rfl;simp only[ZB]at this;simp[run_load,this]
theorem Gx{E:Env}{w:World}{agg:Bool}{cs:List SV}{s:SV}{vs:List Value}(h:pack agg cs=some s)(hr:A8 E w cs vs):(agg=false->vs.length=1)/\Rel E w s (if agg then .agg ⟨vs⟩ else vs.headD undef):=by
 unfold pack at h;cases agg with
 |true=>simp only[if_true,Option.some.injEq]at h;subst h;exact⟨(λe=>by cases e),hr.agg⟩
 |false =>
  simp only[XE,if_false]at h
  split at h
  .rename_i c
   cases h
   match vs,hr with
   | [v],hr=>exact⟨λ_=>rfl,hr.2 0 s v rfl rfl⟩
   | [],hr=>exact absurd hr.1 (by simp)
   |_ :: _ :: _,hr=>exact absurd hr.1 (by simp)
  .cases h
theorem Bv{hp:List Hl}{h:Nat}{hl:Hl}(e:nth hp h=some hl):Aq hp h=hl:=by simp[Aq,e]
theorem Aa8{E:Env}{w:World}{cs dI:List SV}{C:List Value}{off n:Nat}(hr:A8 E w dI C)(hl:dI.length=cs.length)(fC:∀j,off<=j->j<off+n->dI[j]?=cs[j]?):
  A8 E w ((cs.drop off).take n) ((C.drop off).take n):=by
 refine⟨by simp[<-hr.1,hl],λi s v h1 h2=>?_⟩;rw[QN]at h1 h2
 split at h1
 .rename_i hi
  rw[QC hi]at h2;rw[XG]at h1 h2;exact hr.2 (off+i) s v (by rw[fC _ (by omega) (by omega)];exact h1) h2
 .cases h1
theorem bR.eF{E:Env}{w:World}{h:Nat}{ty:TypeId}{cs:List SV}(hk:bR E w h (.aF ty cs)):∃b C,E.β h=some b/\E.O b=some h/\w.heap[b]?=some (.cells C ty (0,0))/\A8 E w cs C.toList/\(∀v∈C.toList,v.oneCell'=true)/\∀o,¬E.I b o:=by
 obtain⟨b,C,h1,h2,h3,h4,h5,h6,h7⟩:=hk;exact⟨b,C,h1,h2,h3,⟨by simp[h4],λi s v p q=>h5 i s v p (by simpa using q)⟩,λv hv=>h6 v (by simpa using hv),h7⟩
theorem Uw(hc:A4 P cx){t:Nat}{x:Operand}(ho:o.op=.load t x){h off n:Nat}{ty:TypeId}{cs:List SV}{s:SV}(hv:rd cx σ T x=some (.ptr h off))(hn:size? cx t=some n)
  (hh:nth σ.hp h=some (.aF ty cs)) (hle:off+n<=cs.length) (hp:pack (cK cx t) ((cs.drop off).take n)=some s):Local P cx.gl σ T o ⟨s,[],[],[(h,off,n)]⟩:=by
 intro B N E a w ff hf hg st ag bL hT;have hr:=Ab hv hg st (Ak ag (by simp[ho,Op.operands])) hT;obtain⟨b,hb,hx⟩:=hr.dL;obtain⟨dI,e2,e3,e4⟩:=bL.CJ _ (List.mem_singleton.2 rfl) ty cs (Bv hh);have hk:=st.heap h;rw[e2]at hk;obtain⟨b',C,k1,_,k3,k4,_,_⟩:=hk.eF;obtain rfl:b=b':=Option.some.inj (hb.symm.trans k1);obtain⟨ti,kZ,bC⟩:=bI hn;have cU:=Aa8 (off:=off) (n:=n) k4 e3 e4;obtain⟨p1,p2⟩:=Gx hp cU;have hlen:((C.toList.drop off).take n).length=n:=by rw[<-cU.1];simp;omega
 have aW:=Ge (hc.ti kZ) (w:=w) (b:=b) (off:=off) (vs:=(C.toList.drop off).take n) (λj v hj=>by
  rw[QN]at hj
  split at hj
  .rw[XG]at hj
   rw[cell_of_row w b (off+j) C ty (0,0) k3];simpa using hj
  .cases hj) (by rw[hlen,bC]) (dG kZ) p1
 exact Ad st (by simp[execOp,ho,hx,aW]) rfl p2
theorem RO.eN{I:Nat->Nat->Prop}{w:World}{cs:List SV}{v:Value}(h:RO I w (.dK cs) v):∃a,v=.pointer (some a)/\a.spot=none/\∃g:Nat->Value,(∀j,j<cs.length->(g j).oneCell'=true/\w.cell? ⟨a.block,a.off+j,none⟩=some (g j)/\I a.block (a.off+j))/\
  ∀(j:Nat) (s:SV),cs[j]?=some s->RO I w s (g j):=by
 cases h with
 |dK g hs h1 aP bG=>exact⟨_,rfl,hs,g,λj hj=>⟨h1 j hj,aP j hj⟩,bG⟩
theorem Rel.eN{E:Env}{w:World}{cs:List SV}{v:Value}(h:Rel E w (.dK cs) v):RO E.I w (.dK cs) v:=by
 cases h with
 |ro h=>exact h
theorem Ago{E:Env}{w:World}{cs:List SV}{n:Nat}{g:Nat->Value}(hle:n<=cs.length)(h:∀(j:Nat) (s:SV),cs[j]?=some s->RO E.I w s (g j)):A8 E w (cs.take n) ((List.range n).map g):=by
 refine⟨by simp;omega,λi s v h1 h2=>?_⟩;rw[QN]at h1
 split at h1
 .rename_i hi
  have:v=g i:=by simp[hi]at h2;exact h2.symm
  subst this;exact .ro (h i s h1)
 .cases h1
theorem Sq(hc:A4 P cx){t:Nat}{x:Operand}(ho:o.op=.load t x){n:Nat}{cs:List SV}{s:SV}(hv:rd cx σ T x=some (.dK cs))(hn:size? cx t=some n)
  (hle:n<=cs.length) (hp:pack (cK cx t) (cs.take n)=some s):Local P cx.gl σ T o ⟨s,[],[],[]⟩:=by
 intro B N E a w ff hf hg st ag bL hT;have hr:=Ab hv hg st (Ak ag (by simp[ho,Op.operands])) hT;obtain⟨ad,hx,hs,g,aP,bG⟩:=hr.eN.eN;obtain⟨b,off,sp⟩:=ad;simp only at hs aP;subst hs;obtain⟨ti,kZ,bC⟩:=bI hn;have cU:=Ago (E:=E) hle bG;obtain⟨p1,p2⟩:=Gx hp cU;have aW:=Ge (hc.ti kZ) (w:=w) (b:=b) (off:=off) (vs:=(List.range n).map g) (λj v hj=>by
  by_cases y7:j<n
  .simp[y7]at hj
   rw[(aP j (by omega)).2.1,hj]
  .simp[y7]at hj) (by simp[bC]) (dG kZ) p1
 exact Ad st (by simp[execOp,ho,hx,aW]) rfl p2
theorem jh{B:Bs}{N:Nat}{E:Env}{a:Act}{w:World}{ff:Nat->SG}{hf:Nat->Hl}(st:St B N E a w ff hf){h off b:Nat}{ty:TypeId}{cs vs:List SV}{C:Array Value}{us:List Value}
  (hh:hf h=.aF ty cs) (fY:E.β h=some b) (hC:w.heap[b]?=some (.cells C ty (0,0))) (hr:A8 E w vs us) (h1:∀v∈us,v.oneCell'=true) (hle:off+us.length<=C.size) {C':Array Value} (hC':C'=(C.toList.take off++us++C.toList.drop (off+us.length)).toArray):
  Ext E w E (w.setRow b C')/\Cr B E (w.setRow b C')/\(∀k,bR E (w.setRow b C') k (fg hf (.set h off vs) k)):=by
 have hb:=st.base;have hk:=st.heap h;rw[hh]at hk;obtain⟨b',C1,k1,k2,k3,k4,k5,k6⟩:=hk.eF;obtain rfl:b=b':=Option.some.inj (fY.symm.trans k1);obtain⟨rfl⟩:C=C1:=by rw[hC]at k3;simpa using k3
 have hx:Ext E w E (w.setRow b C'):=⟨λ_ _ h=>h,λ_ _ h=>.inl h,λ_ _ h=>h,λ_ _ h=>h,λ_ _ h=>h,λb2 o hi=>cell_setRow_other w b C' ⟨b2,o,none⟩ (λe=>by subst e;exact k6 o hi)⟩;have hX:=(hb.cS b h k2).2;refine⟨hx,⟨hb.os,hb.tape,hb.output,by simpa using hb.size,?_,?_,?_,hb.cE,?_,hb.cO⟩,λk=>?_⟩
 .intro b2 aC kS
  by_cases e:b2=b
  .subst e;rcases hX with hX|hX
   .omega
   .exact absurd hX kS
  .rw[setRow_other w b b2 C' e];exact hb.dY b2 aC kS
 .intro b2 o hi
  obtain⟨i1,i2⟩:=hb.I0 b2 o hi;exact⟨i1,by rw[hx.cell b2 o i1];exact i2⟩
 .intro b2 o hi;have:=hb.dP b2 o hi;simpa using this
 .intro b2 k hO;have:=hb.cS b2 k hO;simpa using this
 .simp only[fg,hh]
  by_cases e:k=h
  .subst e
   simp only[aU,QC];have hlen:C'.size=C.size:=by subst hC';simp;omega
   have jN:=hr.1;refine⟨b,C',fY,k2,setRow_heap w b C C' ty (0,0) hC,by rw[hlen,Dg];have:=k4.1;simp at this;omega,λi s v p q=>?_,λv hv=>?_,k6⟩
   .have qR:cs.length=C.size:=by have:=k4.1;simpa using this
    rw[H5 vs cs off i (by omega)]at p;have q:(C.toList.take off++us++C.toList.drop (off+us.length))[i]?=some v:=by subst hC';simpa using q
    split at p
    .rename_i e
     rw[ZJ,QP (by simp;omega),QM (by simp;omega)]at q;simp at q;refine (hr.2 (i-off) s v p ?_).mono hx;rw[<-q];congr 1;omega
    .rename_i e
     have hq:C.toList[i]?=some v:=by
      by_cases hi:i<off
      .rw[ZJ,QM (by simp;omega),QN,QC hi]at q;exact q
      .rw[QP (by simp;omega),XG]at q
       rw[<-q];congr 1;simp;omega
     exact (k4.2 i s v p hq).mono hx
   .have hv:v∈(C.toList.take off++us++C.toList.drop (off+us.length)):=by subst hC';simpa using hv
    rw[YB,YB]at hv;rcases hv with (hv|hv)|hv
    .exact k5 v (UP hv)
    .exact h1 v hv
    .exact k5 v (List.mem_of_mem_drop hv)
  .simp only[aU,QA e]
   refine bR.keep hx (st.heap k) rfl rfl rfl rfl λb2 hO=>⟨hO,?_,λ_ h=>h⟩;refine setRow_other w b b2 C' (λe2=>?_);subst e2;rw[k2]at hO;exact e (Option.some.inj hO).symm
theorem Acm(hc:A4 P cx){t:Nat}{x y:Operand}(ho:o.op=.store t x y){h off n:Nat}{ty:TypeId}{cs:List SV}{s:SV}(hv:rd cx σ T x=some (.ptr h off))(hs:gb cx σ T t y=some s)(hn:size? cx t=some n)
  (hh:nth σ.hp h=some (.aF ty cs)) (hl:s.cells.length=n) (hle:off+n<=cs.length) (h1:Es s.cells=true):Local P cx.gl σ T o ⟨.aI [],[.set h off s.cells],[],[]⟩:=by
 intro B N E a w ff hf hg st ag bL hT K' Q hK;have hr:=Ab hv hg st (Ak ag (by simp[ho,Op.operands])) hT;have bZ:=Jo hs hg st (Ak ag (by simp[ho,Op.operands])) hT;obtain⟨b,hb,hx⟩:=hr.dL;obtain⟨dI,e2,e3⟩:=bL.fR _ (List.mem_singleton.2 rfl) ty cs (Bv hh);have hk:=st.heap h;rw[e2]at hk;obtain⟨b',C,k1,_,k3,k4,_,_⟩:=hk.eF;obtain rfl:b=b':=Option.some.inj (hb.symm.trans k1);obtain⟨ti,kZ,bC⟩:=bI hn;have cY:=Id h1 bZ;have fU:=Mm h1 cY;have jN:(a.eval y).cells.toList.length=n:=by rw[<-cY.1];exact hl
 have DB:dI.length=C.size:=by have:=k4.1;simpa using this
 have mU:off+(a.eval y).cells.toList.length<=C.size:=by rw[jN];omega
 obtain⟨x1,x2,x3⟩:=jh (h:=h) (off:=off) st e2 hb k3 cY fU mU rfl;have aW:(Instr.storeAt t (.pointer (some ⟨b,off,none⟩)) (a.eval y)).run P w=.ok () (w.setRow b (C.toList.take off++(a.eval y).cells.toList++C.toList.drop (off+(a.eval y).cells.toList.length)).toArray):=by
  have hS:=(hc.ti kZ).sizeOf w;have rD:=run_storeCells_at P b off ty (a.eval y).cells.toList 0 C w k3 (by simpa using mU) fU;have bA:((a.eval y).cells.size≠ti.size)=False:=by
   have:(a.eval y).cells.size=ti.size:=by rw[bC];simpa using jN
   simp[this]
  simp only[ZB]at rD;simp only[Instr.storeAt,Instr.sureAddr,storeVar,Sem.run_bind,Sem.run_pure,Result.andThen_ok,hS,bA,if_false,rD]
 unfold Oper.wp;have:(execOp a.eval o).run P w=.ok .skip (w.setRow b (C.toList.take off++(a.eval y).cells.toList++C.toList.drop (off+(a.eval y).cells.toList.length)).toArray):=by
  simp only[execOp,ho,hx,Sem.run_bind,aW,Result.andThen_ok,Sem.run_pure]
 rw[this];exact hK undef _ E x1 x2 x3 (.aI rfl (by simp))
end
section
variable {P:Program} {cx:Cx} {σ:Sy} {T:List Nat} {o:Oper} {K:Out->Prop}
theorem oK{t i fo ft:Nat}(h:gJ cx t i=some (fo,ft)):∃ti fs,look t cx.tt=some ti/\ti.k=.struct fs/\nth fs i=some (fo,ft):=by
 unfold gJ at h
 split at h
 .rename_i fs a b c hl;exact⟨_,fs,hl,rfl,h⟩
 .cases h
theorem Im(hc:A4 P cx){t i fo ft m:Nat}(hf:gJ cx t i=some (fo,ft))(hn:size? cx ft=some (m+1))(w:World)(ad:Addr):
  (Instr.fieldAt t (.pointer (some ad)) i).run P w=.ok (.pointer (some (ad.add fo))) w:=by
 obtain⟨ti,fs,hl,hk,hi⟩:=oK hf;obtain⟨fields,hu,he,_⟩:=(hc.ti hl).struct hk;obtain⟨f,fV,fB,eV⟩:=Nv he hi;obtain⟨fi,oF,bC⟩:=bI hn;have hS:=(hc.ti oF).sizeOf w;subst fB eV;simp[Instr.fieldAt,run_underlying hu,fV,Instr.sureAddr,fieldPlace,hS,bC]
theorem Mz(hc:A4 P cx){t i fo ft m h off:Nat}{x:Operand}(ho:o.op=.fieldAddr t x i)(hv:rd cx σ T x=some (.ptr h off))(hf:gJ cx t i=some (fo,ft))(hn:size? cx ft=some (m+1)):
  Local P cx.gl σ T o ⟨.ptr h (off+fo),[],[],[]⟩:=by
 intro B N E a w ff dA hg st ag bL hT;have hr:=Ab hv hg st (Ak ag (by simp[ho,Op.operands])) hT;obtain⟨b,hb,hx⟩:=hr.dL;refine Ad st (v:=.pointer (some ⟨b,off+fo,none⟩)) ?_ rfl (.ptr hb rfl);simp[execOp,ho,hx,Im hc hf hn,add_lit]
theorem Rc(ad:Addr)(n:Nat):(ad.add n).block=ad.block:=by unfold Addr.add;split<;>rfl
theorem Aav(ad:Addr)(n:Nat):(ad.add n).off=ad.off+n:=by unfold Addr.add;split<;>simp_all
theorem Wl(ad:Addr)(n:Nat)(h:ad.spot=none):(ad.add n).spot=none:=by unfold Addr.add;split<;>simp_all
theorem Al1{I:Nat->Nat->Prop}{w:World}{cs:List SV}{ad:Addr}(h:RO I w (.dK cs) (.pointer (some ad)))(fo m:Nat):RO I w (.dK ((cs.drop fo).take m)) (.pointer (some (ad.add fo))):=by
 obtain⟨DR,e,hs,g,aP,bG⟩:=h.eN;cases e;refine .dK (λj=>g (fo+j)) (Wl _ _ hs) (λj hj=>?_) (λj hj=>?_) (λj s hj=>?_)
 .simp at hj;exact (aP (fo+j) (by omega)).1
 .rw[Rc,Aav]
  simp at hj;have:=(aP (fo+j) (by omega)).2;rw[UM];exact this
 .rw[QN]at hj
  split at hj
  .rw[XG]at hj;exact bG (fo+j) s hj
  .cases hj
theorem Lu(hc:A4 P cx){t i fo ft m:Nat}{cs:List SV}{x:Operand}(ho:o.op=.fieldAddr t x i)(hv:rd cx σ T x=some (.dK cs))(hf:gJ cx t i=some (fo,ft))(hn:size? cx ft=some (m+1)):
  Local P cx.gl σ T o ⟨.dK ((cs.drop fo).take (m+1)),[],[],[]⟩:=by
 intro B N E a w ff dA hg st ag bL hT;have hr:=(Ab hv hg st (Ak ag (by simp[ho,Op.operands])) hT).eN;obtain⟨ad,hx,_⟩:=hr.eN;rw[hx]at hr;refine Ad st (v:=.pointer (some (ad.add fo))) ?_ rfl (.ro (Al1 hr fo (m+1)));simp[execOp,ho,hx,Im hc hf hn]
theorem Oi{t m fo:Nat}{ti:TI}(h:Ew P t ti)(bC:ti.size=m){w:World}{vs:List Value}(p1:Lf ti.k=false->((vs.drop fo).take m).length=1):
  (part t ⟨vs⟩ fo).run P w=.ok (if Lf ti.k then .agg ⟨(vs.drop fo).take m⟩ else ((vs.drop fo).take m).headD undef) w:=by
 have hS:=h.sizeOf w;have hA:=h.isAgg w;simp only[part,Sem.run_bind,hA,Result.andThen_ok];cases aY:Lf ti.k with
 |true =>
  simp only[if_true,Sem.run_bind,hS,Result.andThen_ok,Sem.run_pure,bC];congr 2;apply XV;simp
 |false =>
  have h1:=p1 aY;have hm:vs[fo]?=some (((vs.drop fo).take m).headD undef):=by
   match h3:(vs.drop fo).take m,h1 with
   | [v],_ =>
    have:((vs.drop fo).take m)[0]?=some v:=by rw[h3];rfl
    rw[QN]at this
    split at this
    .rw[XG]at this;simpa using this
    .cases this
  simp[hm]
theorem Acp(hc:A4 P cx){t i fo ft m:Nat}{cs:List SV}{x:Operand}{s:SV}(ho:o.op=.field t x i)(hv:rd cx σ T x=some (.agg cs))(hf:gJ cx t i=some (fo,ft))(hn:size? cx ft=some m)
  (hle:fo+m<=cs.length) (hp:pack (cK cx ft) ((cs.drop fo).take m)=some s):Local P cx.gl σ T o ⟨s,[],[],[]⟩:=by
 intro B N E a w ff dA hg st ag bL hT;have hr:=Ab hv hg st (Ak ag (by simp[ho,Op.operands])) hT;obtain⟨vs,hx,hl⟩:=hr.jB;obtain⟨ti,fs,kZ,hk,hi⟩:=oK hf;obtain⟨fields,hu,he,_⟩:=(hc.ti kZ).struct hk;obtain⟨f,fV,fB,eV⟩:=Nv he hi;obtain⟨fi,oF,bC⟩:=bI hn;have cU:=(hl.drop fo).take m;obtain⟨p1,p2⟩:=Gx hp cU;rw[dG oF]at p1 p2;refine Ad st ?_ rfl p2;subst fB eV;have c8:=Oi (hc.ti oF) bC (w:=w) (vs:=vs) (fo:=f.offset) p1;simp[execOp,ho,hx,Instr.field,run_underlying hu,fV,asAgg,c8]
theorem RO.bF{I:Nat->Nat->Prop}{w:World}{nl:BT}{n:ST}{sz:Nat}{f:Nat->List SV}{v:Value}(h:RO I w (.sl nl n sz f) v):
  (v=.slice none 0 0/\n.den=0/\nl.den=true)\/∃(a:Addr) (m cap:Nat) (g:Nat->Nat->Value),v=.slice (some a) m cap/\nl.den=false/\n.den=(m:Int)/\m<=cap/\cap<=maxLen/\(0<m->a.spot=none)/\
   (∀i,i<m->(f i).length=sz)/\(∀i j,i<m->j<sz->(g i j).oneCell'=true)/\(∀i j,i<m->j<sz->w.cell? ⟨a.block,a.off+(i * sz+j),none⟩=some (g i j)/\I a.block (a.off+(i * sz+j)))/\(∀(i j:Nat) (s:SV),i<m->(f i)[j]?=some s->RO I w s (g i j)):=by
 cases h with
 |slnil h hn=>exact .inl ⟨rfl,hn,h⟩
 |sl g h hn hc fI hs hl h1 aP bG=>exact .inr ⟨_,_,_,g,rfl,h,hn,hc,fI,hs,hl,h1,aP,bG⟩
theorem Rel.bF{E:Env}{w:World}{nl:BT}{n:ST}{sz:Nat}{f:Nat->List SV}{v:Value}(h:Rel E w (.sl nl n sz f) v):RO E.I w (.sl nl n sz f) v:=by
 cases h with
 |ro h=>exact h
theorem Rel.kX{E:Env}{w:World}{nl:BT}{n:ST}{sz:Nat}{f:Nat->List SV}{h:Nat}{v:Value}(hr:Rel E w (.dO nl n sz f h) v):RO E.I w (.sl nl n sz f) v/\Tq E h n.den v:=by
 cases hr with
 |ro h=>cases h
 |dO hr ht=>exact⟨hr,ht⟩
theorem Ft(hc:A4 P cx){t e sz:Nat}{ti:TI}(hl:look t cx.tt=some ti)(hk:ti.k=.slice e)(hn:size? cx e=some sz){w:World}{a:Addr}{m cap:Nat}{k:IntKind}{i:Int}(h0:0<=i)(h1:i<m):
  (Instr.indexAt t (.slice (some a) m cap) (.int k i)).run P w=.ok (.pointer (some (a.add (i.toNat * sz)))) w:=by
 have hu:=(hc.ti hl).slice hk;obtain⟨te,iI,bC⟩:=bI hn;have hS:=(hc.ti iI).sizeOf w;simp[Instr.indexAt,run_underlying hu,asIntOf,h0,h1,hS,bC]
theorem Agz{I:Nat->Nat->Prop}{w:World}{f:Nat->List SV}{sz m:Nat}{a:Addr}{g:Nat->Nat->Value}(hs:0<m->a.spot=none)(hl:∀i,i<m->(f i).length=sz)(h1:∀i j,i<m->j<sz->(g i j).oneCell'=true)
  (aP:∀i j,i<m->j<sz->w.cell? ⟨a.block,a.off+(i * sz+j),none⟩=some (g i j)/\I a.block (a.off+(i * sz+j))) (bG:∀(i j:Nat) (s:SV),i<m->(f i)[j]?=some s->RO I w s (g i j)) {j:Nat} (hj:j<m):
  RO I w (.dK (f j)) (.pointer (some (a.add (j * sz)))):=by
 refine .dK (g j) (Wl _ _ (hs (by omega))) (λq hq=>h1 j q hj (by rw[hl j hj]at hq;exact hq)) (λq hq=>?_) (λq s hq=>bG j q s hj hq);rw[Rc,Aav,UM];exact aP j q hj (by rw[hl j hj]at hq;exact hq)
theorem Ux(hc:A4 P cx){t e sz:Nat}{ti:TI}(hl:look t cx.tt=some ti)(hk:ti.k=.slice e)(hn:size? cx e=some sz){x y:Operand}(ho:o.op=.indexAddr t x y){nl:BT}{n:ST}{f:Nat->List SV}{k:IntKind}{i:ST}
  (hv:rd cx σ T x=some (.sl nl n sz f)\/∃h,rd cx σ T x=some (.dO nl n sz f h)) (hi:rd cx σ T y=some (.int k i)) (h1:Bk (Ac σ.gm T)->0<=i.den/\i.den<n.den):Local P cx.gl σ T o ⟨.dK (f i.den.toNat),[],[],[]⟩:=by
 intro B N E a w ff dA hg st ag bL hT;have hx:RO E.I w (.sl nl n sz f) (a.eval x):=by
  rcases hv with hv|⟨h,hv⟩
  .exact (Ab hv hg st (Ak ag (by simp[ho,Op.operands])) hT).bF
  .exact (Ab hv hg st (Ak ag (by simp[ho,Op.operands])) hT).kX.1
 have hy:=(Ab hi hg st (Ak ag (by simp[ho,Op.operands])) hT).aT;obtain⟨b1,b2⟩:=h1 hT;rcases hx.bF with⟨_,e0,_⟩|⟨ad,m,cap,g,e0,_,e2,_,_,e4,e5,AJ,e6,e7⟩
 .omega
 .have hj:i.den.toNat<m:=by omega
  refine Ad st (v:=.pointer (some (ad.add (i.den.toNat * sz)))) ?_ rfl (.ro (Agz e4 e5 AJ e6 e7 hj));have aW:=Ft hc hl hk hn (w:=w) (a:=ad) (m:=m) (cap:=cap) (k:=k) b1 (show i.den<(m:Int) by omega);simp[execOp,ho,e0,hy,aW]
theorem Sz(hc:A4 P cx){t e sz n:Nat}{ti:TI}(hl:look t cx.tt=some ti)(hk:ti.k=.array n e)(hn:size? cx e=some sz){x y:Operand}(ho:o.op=.indexAddr t x y){f:Nat->List SV}{k:IntKind}{i:ST}
  (hv:rd cx σ T x=some (.dR n sz f)) (hi:rd cx σ T y=some (.int k i)) (h1:Bk (Ac σ.gm T)->0<=i.den/\i.den<n):Local P cx.gl σ T o ⟨.dK (f i.den.toNat),[],[],[]⟩:=by
 intro B N E a w ff dA hg st ag bL hT;have hx:=Ab hv hg st (Ak ag (by simp[ho,Op.operands])) hT;have hy:=(Ab hi hg st (Ak ag (by simp[ho,Op.operands])) hT).aT;obtain⟨b1,b2⟩:=h1 hT;have hx:RO E.I w (.dR n sz f) (a.eval x):=by cases hx with|ro h=>exact h
 generalize rI:a.eval x=ev at hx
 cases hx with
 |dR g hs iU h1' aP bG =>
  rename_i ad;refine Ad st (v:=.pointer (some (ad.add (i.den.toNat * sz)))) ?_ rfl (.ro (Agz (λ_=>hs) iU h1' aP bG (by omega)));have hu:=(hc.ti hl).array hk;obtain⟨te,iI,bC⟩:=bI hn;have hS:=(hc.ti iI).sizeOf w;simp[execOp,ho,rI,hy,Instr.indexAt,run_underlying hu,asIntOf,b1,b2,hS,bC,Instr.sureAddr]
theorem W8{x:Operand}{i:Nat}(ho:o.op=.extract x i){vs:List SV}{s:SV}(hv:rd cx σ T x=some (.aI vs))(hs:nth vs i=some s):Local P cx.gl σ T o ⟨s,[],[],[]⟩:=by
 intro B N E a w ff dA hg st ag bL hT;obtain⟨us,hx,hl⟩:=(Ab hv hg st (Ak ag (by simp[ho,Op.operands])) hT).vK;rw[Aj]at hs;have aC:i<us.length:=by rw[<-hl.1];exact (List.getElem?_eq_some_iff.1 hs).1
 refine Ad st (v:=us[i]) ?_ rfl (hl.2 i s _ hs (QB aC));simp[execOp,ho,hx,Instr.extract,aC]
theorem Ls(b:BT):(CC b).den=!b.den:=by unfold CC;split<;>rfl
theorem H9(op:BinOp)(x y:ST):(Pk op x y).den=B6 op x.den y.den:=by unfold Pk;split<;>rfl
theorem Ad5(op:BinOp)(k:IntKind)(x y:ST):(MU op k x y).den=En op k x.den y.den:=by unfold MU;split<;>rfl
theorem Ajo{t:Nat}{x:Operand}(ho:o.op=.unOp .not t x){b:BT}(hv:rd cx σ T x=some (.bool b)):Local P cx.gl σ T o ⟨.bool (CC b),[],[],[]⟩:=by
 intro B N E a w ff dA hg st ag bL hT;have hx:=(Ab hv hg st (Ak ag (by simp[ho,Op.operands])) hT).bJ;refine Ad st (v:=.bool (!b.den)) ?_ rfl (.bool (Ls b));simp[execOp,ho,hx,Op.unary]
theorem Ajq{t:Nat}{x:Operand}(ho:o.op=.unOp .neg t x){k:IntKind}{n:ST}(hv:rd cx σ T x=some (.int k n)):Local P cx.gl σ T o ⟨.int k (MU .sub k (.l 0) n),[],[],[]⟩:=by
 intro B N E a w ff dA hg st ag bL hT;have hx:=(Ab hv hg st (Ak ag (by simp[ho,Op.operands])) hT).aT;refine Ad st (v:=.int k (k.wrap (0-n.den))) ?_ rfl (.int (Ad5 _ _ _ _));simp[execOp,ho,hx,Op.unary,Op.intArith]
theorem Gv{t:Nat}{ti:TI}(hc:A4 P cx)(hl:look t cx.tt=some ti){e:TypeId}(hk:ti.k=.slice e){w:World}{a:Option Addr}{m c:Nat}{ty:TypeId}:
  (Builtin.len_ #[t] ty #[.slice a m c]).run P w=.ok (.int .i64 m) w:=by
 have hu:=(hc.ti hl).slice hk;simp[Builtin.len_,run_underlying hu,goInt]
theorem Abr{t:Nat}{ti:TI}(hc:A4 P cx)(hl:look t cx.tt=some ti)(hk:ti.k=.string){w:World}{s:ByteArray}{ty:TypeId}:
  (Builtin.len_ #[t] ty #[.string s]).run P w=.ok (.int .i64 s.size) w:=by
 obtain⟨d,hd,hb⟩:=(hc.ti hl).yM;rw[hk]at hb;cases d<;>simp only[Jw,XE]at hb;simp[Builtin.len_,run_underlying hd,goInt]
theorem O1(hc:A4 P cx){c:Call}(ho:o.op=.call c)(aR:c.callee=.builtin .len){x:Operand}{t:Nat}{ti:TI}(hx:c.args.toList=[x])(ht:c.argTypes.toList=[t])(hl:look t cx.tt=some ti){e:TypeId}(hk:ti.k=.slice e)
  {nl:BT} {n:ST} {sz:Nat} {f:Nat->List SV} (hv:rd cx σ T x=some (.sl nl n sz f)\/∃h,rd cx σ T x=some (.dO nl n sz f h)):Local P cx.gl σ T o ⟨.int .i64 n,[],[],[]⟩:=by
 intro B N E a w ff dA hg st ag bL hT;have dN:x∈o.op.operands.toList:=by simp[ho,Op.operands,Call.operands,aR,hx]
 have mj:RO E.I w (.sl nl n sz f) (a.eval x):=by
  rcases hv with hv|⟨h,hv⟩
  .exact (Ab hv hg st (Ak ag dN) hT).bF
  .exact (Ab hv hg st (Ak ag dN) hT).kX.1
 have e1:c.args=#[x]:=XV (by simpa using hx);have e2:c.argTypes=#[t]:=XV (by simpa using ht);have:∃a0 m c0,a.eval x=.slice a0 m c0/\n.den=(m:Int):=by
  rcases mj.bF with⟨e0,e3,_⟩|⟨ad,m,cap,g,e0,_,e3,_⟩
  .exact⟨none,0,0,e0,by simpa using e3⟩
  .exact⟨_,m,cap,e0,e3⟩
 obtain⟨a0,m,c0,e3,e4⟩:=this;have aW:=Gv hc hl hk (w:=w) (a:=a0) (m:=m) (c:=c0) (ty:=o.type);refine Ad st (v:=.int .i64 m) ?_ rfl (.int e4);simp[execOp,ho,resolve,aR,e1,e2,invoke,builtin,e3,aW]
theorem W4(hc:A4 P cx){c:Call}(ho:o.op=.call c)(aR:c.callee=.builtin .len){x:Operand}{t:Nat}{ti:TI}(hx:c.args.toList=[x])(ht:c.argTypes.toList=[t])(hl:look t cx.tt=some ti)(hk:ti.k=.string)
  {s:List UInt8} (hv:rd cx σ T x=some (.str s)):Local P cx.gl σ T o ⟨.int .i64 (.len s),[],[],[]⟩:=by
 intro B N E a w ff dA hg st ag bL hT;have dN:x∈o.op.operands.toList:=by simp[ho,Op.operands,Call.operands,aR,hx]
 have mj:=(Ab hv hg st (Ak ag dN) hT).cV;have e1:c.args=#[x]:=XV (by simpa using hx);have e2:c.argTypes=#[t]:=XV (by simpa using ht);have aW:=Abr hc hl hk (w:=w) (s:=bytes s) (ty:=o.type);refine Ad st (v:=.int .i64 s.length) ?_ rfl (.int rfl);have:(bytes s).size=s.length:=rfl;simp[execOp,ho,resolve,aR,e1,e2,invoke,builtin,mj,aW,this]
theorem Afm(hc:A4 P cx){src dst:Nat}{x:Operand}(ho:o.op=.convert src dst x){ti tj:TI}(hl:look dst cx.tt=some ti)(mV:look src cx.tt=some tj){k k':IntKind}(hk:ti.k=.int k){n:ST}(hv:rd cx σ T x=some (.int k' n)):
  Local P cx.gl σ T o ⟨.int k (.cv k n),[],[],[]⟩:=by
 intro B N E a w ff dA hg st ag bL hT;have hx:=(Ab hv hg st (Ak ag (by simp[ho,Op.operands])) hT).aT;have hu:=(hc.ti hl).int hk;obtain⟨d,hd,_⟩:=(hc.ti mV).yM;refine Ad st (v:=.int k (k.wrap n.den)) ?_ rfl (.int rfl);simp[execOp,ho,hx,convert,run_underlying hu,run_underlying hd,Conv.intToInt]
theorem Fa{op:BinOp}{t:TypeId}{x y:Operand}{k k':IntKind}{m n:Int}{w:World}:(eqGuard op t x y (.int k m) (.int k' n)).run P w=.ok () w:=by
 unfold eqGuard;cases op<;>rfl
theorem Jk{op:BinOp}{t:TypeId}{x y:Operand}{m n:Bool}{w:World}:(eqGuard op t x y (.bool m) (.bool n)).run P w=.ok () w:=by
 unfold eqGuard;cases op<;>rfl
theorem Hb{op:BinOp}{t:TypeId}{x y:Operand}{m n:ByteArray}{w:World}:(eqGuard op t x y (.string m) (.string n)).run P w=.ok () w:=by
 unfold eqGuard;cases op<;>rfl
theorem Cj{op:BinOp}{t u:TypeId}{x y:Operand}(ho:o.op=.binOp op t x y u){sx sy s:SV}(hx:rd cx σ T x=some sx)(hy:rd cx σ T y=some sy)
  (aW:∀(E:Env) (w:World) (vx vy:Value),Bk (Ac σ.gm T)->Rel E w sx vx->Rel E w sy vy->∃v,(eqGuard op t x y vx vy).run P w=.ok () w/\(binOp op t vx vy).run P w=.ok v w/\Rel E w s v):Local P cx.gl σ T o ⟨s,[],[],[]⟩:=by
 intro B N E a w ff dA hg st ag bL hT;have h1:=Ab hx hg st (Ak ag (by simp[ho,Op.operands])) hT;have h2:=Ab hy hg st (Ak ag (by simp[ho,Op.operands])) hT;obtain⟨v,r1,r2,r3⟩:=aW E w _ _ hT h1 h2;refine Ad st (v:=v) ?_ rfl r3;simp[execOp,ho,r1,r2]
theorem Aen{s t:List UInt8}:((bytes s).toList==(bytes t).toList)=(s==t):=by
 have h:∀l:List UInt8,(bytes l).toList=l:=λl=>by rw[Go.Lib.toList_data];rfl
 rw[h,h]
end
section
variable {P:Program} {cx:Cx} {σ:Sy} {T:List Nat} {o:Oper} {K:Out->Prop}
theorem Xj{op:BinOp}(ha:arith op=true){t:TypeId}{k:IntKind}{m n:Int}{w:World}:(binOp op t (.int k m) (.int k n)).run P w=.ok (.int k (En op k m n)) w:=by
 cases op<;>first|(simp[arith]at ha;done)|simp[binOp,Op.intArith,Op.intBits,En]
theorem Ad4{op:BinOp}(ha:Ane op=true){t:TypeId}{k:IntKind}{m n:Int}{w:World}:(binOp op t (.int k m) (.int k n)).run P w=.ok (.bool (B6 op m n)) w:=by
 cases op<;>first|(simp[Ane]at ha;done)|simp[binOp,Op.intCmp,B6]
theorem Md(x y:BT):(Wi x y).den=(x.den&&y.den):=by
 unfold Wi
 split
 .simp[BT.den]
 .simp[BT.den]
 .rfl
def Ou(agg:Bool)(vs:List Value):Value:=if agg then .agg ⟨vs⟩ else vs.headD undef
theorem Ew.bool{t:Nat}{ti:TI}(h:Ew P t ti)(hk:ti.k=.bool):P.underlying t=some .bool:=by
 obtain⟨d,hd,hb⟩:=h.yM;rw[hk]at hb;cases d<;>simp only[Jw,XE]at hb;exact hd
theorem Ew.string{t:Nat}{ti:TI}(h:Ew P t ti)(hk:ti.k=.string):P.underlying t=some .string:=by
 obtain⟨d,hd,hb⟩:=h.yM;rw[hk]at hb;cases d<;>simp only[Jw,XE]at hb;exact hd
theorem A8.one{E:Env}{w:World}{s:SV}{vs:List Value}(h:A8 E w [s] vs):∃v,vs=[v]/\Rel E w s v:=by
 match vs,h with
 | [v],h=>exact⟨v,rfl,h.2 0 s v rfl rfl⟩
 | [],h=>exact absurd h.1 (by simp)
 |_ :: _ :: _,h=>exact absurd h.1 (by simp)
theorem Adi(hc:A4 P cx){g:TypeId->List SV->List SV->Option BT}{d:Nat}{E:Env}{w:World}
  (hg:∀(t:TypeId) (ti:TI) (xs ys:List SV) (b:BT) (X Y:List Value),look t cx.tt=some ti->g t xs ys=some b->A8 E w xs X->A8 E w ys Y->
   (Lf ti.k=false->X.length=1/\Y.length=1)/\(Op.equalIn d t (Ou (Lf ti.k) X) (Ou (Lf ti.k) Y)).run P w=.ok b.den w) {xs ys:List SV} {X Y:List Value} (hX:A8 E w xs X) (hY:A8 E w ys Y):
  ∀(fields:List Field) (b:BT),(∀f∈fields,f.name≠"_")->MV cx g xs ys (fields.map λf=>(f.offset,f.type))=some b->(Op.eqFields d ⟨X⟩ ⟨Y⟩ fields).run P w=.ok b.den w
 | [],b,_,h=>by simp[MV]at h;subst h;rfl
 |f :: fields,b,hn,h=>by
  simp only[UY,MV]at h
  split at h
  .rename_i m hm
   split at h
   .rename_i b1 b2 h1 h2
    cases h;obtain⟨ti,kZ,bC⟩:=bI hm;rw[Ba,Bl,Ba,Bl]at h1;have hX':=(hX.drop f.offset).take m;have hY':=(hY.drop f.offset).take m;obtain⟨k1,k2⟩:=hg f.type ti _ _ b1 _ _ kZ h1 hX' hY';have r1:=Oi (hc.ti kZ) bC (w:=w) (vs:=X) (fo:=f.offset) (λe=>(k1 e).1);have r2:=Oi (hc.ti kZ) bC (w:=w) (vs:=Y) (fo:=f.offset) (λe=>(k1 e).2);have ih:=Adi hc hg hX hY fields b2 (λf hf=>hn f (XC _ hf)) h2;unfold Ou at k2;simp only[Op.eqFields,ne_eq,hn f (XB ..),not_false_eq_true,if_true,Sem.run_bind,r1,r2,k2,Result.andThen_ok];rw[Md];cases b1.den<;>simp[ih]
   .cases h
  .cases h
theorem Adj(hc:A4 P cx){E:Env}{w:World}:∀(n d:Nat),n<=d->∀(t:TypeId) (ti:TI) (xs ys:List SV) (b:BT) (X Y:List Value),look t cx.tt=some ti->CA cx n t xs ys=some b->A8 E w xs X->A8 E w ys Y->
   (Lf ti.k=false->X.length=1/\Y.length=1)/\(Op.equalIn d t (Ou (Lf ti.k) X) (Ou (Lf ti.k) Y)).run P w=.ok b.den w
 |0,_,_,_,_,_,_,_,_,_,_,h,_,_=>by simp[CA]at h
 |n+1,0,hd,_,_,_,_,_,_,_,_,_,_,_=>by omega
 |n+1,d+1,hd,t,ti,xs,ys,b,X,Y,hl,h,hX,hY=>by
  simp only[CA,hl]at h
  split at h
  .rename_i k a1 a2 a3 e
   cases e;have hu:=(hc.ti hl).int rfl
   split at h
   .split at h
    .cases h
     obtain⟨u,rfl,uG⟩:=hX.one;obtain⟨v,rfl,sk⟩:=hY.one;refine⟨λ_=>⟨rfl,rfl⟩,?_⟩;rename_i e2;subst e2;rw[uG.aT,sk.aT];simp only[Ou,Lf,H9,B6];exact run_equalIn_int w d t _ k _ _ hu
    .cases h
   .cases h
  .rename_i a1 a2 a3 e
   cases e;have hu:=(hc.ti hl).bool rfl
   split at h
   .cases h
    obtain⟨u,rfl,uG⟩:=hX.one;obtain⟨v,rfl,sk⟩:=hY.one;refine⟨λ_=>⟨rfl,rfl⟩,?_⟩;rw[uG.bJ,sk.bJ];simp only[Ou,Lf];exact run_equalIn_bool' w d t _ _ hu
   .cases h
  .rename_i a1 a2 a3 e
   cases e;have hu:=(hc.ti hl).string rfl
   split at h
   .cases h
    obtain⟨u,rfl,uG⟩:=hX.one;obtain⟨v,rfl,sk⟩:=hY.one;refine⟨λ_=>⟨rfl,rfl⟩,?_⟩;rw[uG.cV,sk.cV];simp only[Ou,Lf];refine (run_equalIn_string w d t _ _ hu).trans ?_;rw[Aen];rfl
   .cases h
  .rename_i fs a1 a2 a3 e
   cases e
   split at h
   .rename_i dN
    obtain⟨e1,e2,e3⟩:=hc.eqs t ((D9 _ _).1 dN);obtain⟨fields,hu,he,_⟩:=(hc.ti hl).struct rfl;have mX:P.fieldsOf t=fields:=by simp[Program.fieldsOf,hu]
    refine⟨λe=>by simp[Lf]at e,?_⟩;simp only[Ou,Lf,if_true];rw[run_equalIn_agg w d t ⟨X⟩ ⟨Y⟩ (by rw[mX];exact hu) e1];rw[mX]at e3 ⊢;rw[<-he]at h;exact Adi hc (λt ti xs ys b X Y a1 a2 a3 a4=>Adj hc n d (by omega) t ti xs ys b X Y a1 a2 a3 a4) hX hY fields.toList b e3 h
   .cases h
  .cases h
theorem Abl(cx:Cx)(a b:List UInt8):(ji cx a b).den=(a==b):=by
 unfold ji
 split<;>rfl
theorem Acc{E:Env}{w:World}{s:SV}{nl:BT}{v:Value}(h:ky s=some nl)(hr:Rel E w s v):∃a m c,v=.slice a m c/\(nl.den=a.isNone):=by
 have key:∀(a:Option Addr),(nl.den=true↔a=none)->nl.den=a.isNone:=by
  intro a ha;cases a with
  |none=>simpa using ha
  |some x=>simpa using ha
 have bE:∀ {n:ST} {sz:Nat} {f:Nat->List SV},RO E.I w (.sl nl n sz f) v->∃a m c,v=.slice a m c/\(nl.den=a.isNone):=by
  intro n sz f hr;cases hr with
  |slnil h hn=>exact⟨none,0,0,rfl,h⟩
  |sl g h hn hc fI hs hl h1 aP bG=>exact⟨_,_,_,rfl,h⟩
 unfold ky at h
 split at h<;>simp only[Option.some.injEq,reduceCtorEq]at h
 .subst h
  cases hr with
  |ro h=>exact bE h
 .subst h
  cases hr with
  |ro h=>cases h
  |dO h _=>exact bE h
 .subst h
  obtain⟨⟨a,m,c,e1,_,e2⟩,_⟩:=hr.iY;exact⟨a,m,c,e1,key a e2⟩
 .subst h
  obtain⟨⟨a,m,c,e1,_,e2⟩,_⟩:=hr.kH;exact⟨a,m,c,e1,key a e2⟩
theorem run_eql_slice_nil{w:World}{t e:TypeId}(a:Option Addr)(n c:Nat)(h:P.underlying t=some (.slice e)):
  (binOp .eql t (.slice a n c) (.slice none 0 0)).run P w=.ok (.bool a.isNone) w:=by
 have h:∀d:Nat,(Op.equalIn (d+1) t (.slice a n c) (.slice none 0 0)).run P w=.ok a.isNone w:=λd=>by
  cases a<;>simp[Op.equalIn,run_underlying h]
 simp only[binOp];simp[Op.equal,Op.maxDepth,h 9999]
theorem Nk{w:World}{t e:TypeId}(a:Option Addr)(n c:Nat)(h:P.underlying t=some (.slice e)):
  (binOp .neq t (.slice a n c) (.slice none 0 0)).run P w=.ok (.bool (!a.isNone)) w:=by
 have h:∀d:Nat,(Op.equalIn (d+1) t (.slice a n c) (.slice none 0 0)).run P w=.ok a.isNone w:=λd=>by
  cases a<;>simp[Op.equalIn,run_underlying h]
 simp only[binOp];simp[Op.equal,Op.maxDepth,h 9999]
theorem In{op:BinOp}{t:TypeId}{x y:Operand}{a:Option Addr}{n c n' c':Nat}{w:World}:(eqGuard op t x y (.slice a n c) (.slice none n' c')).run P w=.ok () w:=by
 unfold eqGuard;cases op<;>rfl
theorem Aff(hc:A4 P cx){op:BinOp}{t u:TypeId}{x y:Operand}(ho:o.op=.binOp op t x y u){sx:SV}{f:Nat->List SV}(hx:rd cx σ T x=some sx)(hy:rd cx σ T y=some (.sl (.l true) (.l 0) 0 f))
  {e:TypeId} {a1 a2:Nat} {a3:List SV} (hl:look t cx.tt=some ⟨.slice e,a1,a2,a3⟩) {nl:BT} (hn:ky sx=some nl) (h:MZ op nl K):∃r,K r/\Local P cx.gl σ T o r:=by
 have hu:=(hc.ti hl).slice rfl;have HQ:∀ {E:Env} {w:World} {v:Value},Rel E w (.sl (.l true) (.l 0) 0 f) v->v=.slice none 0 0:=by
  intro E w v hr;cases hr with
  |ro h=>cases h with
   |slnil=>rfl
   |sl g h=>cases h
 unfold MZ at h
 split at h
 .refine⟨_,h,Cj ho hx hy λE w vx vy _ h1 h2=>?_⟩
  obtain⟨a,m,c,rfl,e1⟩:=Acc hn h1;rw[HQ h2];exact⟨_,In,run_eql_slice_nil a m c hu,.bool e1⟩
 .refine⟨_,h,Cj ho hx hy λE w vx vy _ h1 h2=>?_⟩
  obtain⟨a,m,c,rfl,e1⟩:=Acc hn h1;rw[HQ h2];exact⟨_,In,Nk a m c hu,.bool (by rw[Ls,e1])⟩
 .exact h.elim
theorem Yd{E:Env}{w:World}{s:SV}{b:BT}{v:Value}(h:Ani s=some b)(hr:Rel E w s v):(v=.nilIface/\b.den=true)\/((∃t x,v=.iface t x)/\b.den=false):=by
 unfold Ani at h
 split at h<;>simp only[Option.some.injEq,reduceCtorEq]at h
 .subst h
  cases hr with
  |ro h=>cases h with
   |sL h=>exact h
 .subst h
  cases hr with
  |ro h=>cases h with
   |raw h=>exact .inl ⟨h,rfl⟩
theorem Ew.iface{t:Nat}{ti:TI}(h:Ew P t ti)(hk:ti.k=.iface):∃ms,P.underlying t=some (.interface ms):=by
 obtain⟨d,hd,hb⟩:=h.yM;rw[hk]at hb;cases d<;>simp only[Jw,XE]at hb;exact⟨_,hd⟩
theorem Re{w:World}{t:TypeId}{ms}{v:Value}{b:Bool}(h:P.underlying t=some (.interface ms))(hv:(v=.nilIface/\b=true)\/((∃t x,v=.iface t x)/\b=false))(d:Nat):(Op.equalIn (d+1) t v .nilIface).run P w=.ok b w:=by
 rcases hv with⟨rfl,rfl⟩|⟨⟨_,_,rfl⟩,rfl⟩<;>simp[Op.equalIn,run_underlying h]
theorem K2{op:BinOp}{t:TypeId}{x:Operand}{c v:Value}{w:World}:(eqGuard op t x (.const c) v .nilIface).run P w=.ok () w:=by
 unfold eqGuard;cases op<;>first|rfl|(cases v<;>simp)
theorem Wu(hc:A4 P cx){op:BinOp}{t u:TypeId}{x y:Operand}(ho:o.op=.binOp op t x y u){sx sy:SV}(hx:rd cx σ T x=some sx)(hy:rd cx σ T y=some sy)(h:Zd cx op t sx y K):∃r,K r/\Local P cx.gl σ T o r:=by
 unfold Zd at h
 split at h
 .rename_i b a1 a2 a3 hb hl
  obtain⟨ms,hu⟩:=(hc.ti hl).iface rfl;have HQ:∀ {E:Env} {w:World} {v:Value},Rel E w sy v->v=.nilIface:=by
   intro E w v hr;simp only[rd,ofConst,Option.some.injEq]at hy;subst hy;cases hr with
   |ro h=>cases h with
    |raw h=>exact h
  unfold MZ at h
  split at h
  .refine⟨_,h,Cj ho hx hy λE w vx vy _ h1 h2=>?_⟩
   have hv:=Yd hb h1;rw[HQ h2];refine⟨.bool b.den,K2,?_,.bool rfl⟩;simp only[binOp];simp[Op.equal,Op.maxDepth,Re hu hv 9999]
  .refine⟨_,h,Cj ho hx hy λE w vx vy _ h1 h2=>?_⟩
   have hv:=Yd hb h1;rw[HQ h2];refine⟨.bool (!b.den),K2,?_,.bool (Ls b)⟩;simp only[binOp];simp[Op.equal,Op.maxDepth,Re hu hv 9999]
  .exact h.elim
 .exact h.elim
theorem Wv(hc:A4 P cx){op:BinOp}{t u:TypeId}{x y:Operand}(ho:o.op=.binOp op t x y u){sx sy:SV}(hx:rd cx σ T x=some sx)(hy:rd cx σ T y=some sy)(h:Ze cx σ.gm T op t sx sy K):
  ∃r,K r/\Local P cx.gl σ T o r:=by
 unfold Ze at h
 split at h
 .rename_i k a k' b
  split at h
  .rename_i har
   split at h
   .rename_i hk
    subst hk;refine⟨_,h,Cj ho hx hy λE w vx vy _ h1 h2=>?_⟩;rw[h1.aT,h2.aT];exact⟨_,Fa,Xj har,.int (Ad5 _ _ _ _)⟩
   .exact h.elim
  .split at h
   .rename_i fI
    split at h
    .rename_i hk
     subst hk;refine⟨_,h,Cj ho hx hy λE w vx vy _ h1 h2=>?_⟩;rw[h1.aT,h2.aT];exact⟨_,Fa,Ad4 fI,.bool (H9 _ _ _)⟩
    .exact h.elim
   .have IM:∀(ku:BinOp),(ku=.quo\/ku=.rem)->op=ku->(if k=k' then Ob cx.D σ.gm T (NZ (cx.D.i b))/\out K (.int k (.bin op k a b)) else False)->∃r,K r/\Local P cx.gl σ T o r:=by
     intro ku WL e hh
     split at hh
     .rename_i hk
      subst hk;obtain⟨lF,hh⟩:=hh;rw[hc.D,Dm]at lF;refine⟨_,hh,Cj ho hx hy λE w vx vy hT h1 h2=>?_⟩;rw[h1.aT,h2.aT];have hb:b.den≠0:=(lF hT).h;refine⟨.int k (En op k a.den b.den),Fa,?_,.int rfl⟩;subst e;rcases WL with rfl|rfl<;>simp[binOp,Op.intDiv,En,hb]
     .exact hh.elim
    have cq:∀(ku:BinOp),(ku=.shl\/ku=.shr)->op=ku->(Ob cx.D σ.gm T (NN (cx.D.i b))/\out K (.int k (.bin op k a b)))->∃r,K r/\Local P cx.gl σ T o r:=by
     intro ku WL e hh;obtain⟨lF,hh⟩:=hh;rw[hc.D,Dm]at lF;refine⟨_,hh,Cj ho hx hy λE w vx vy hT h1 h2=>?_⟩;rw[h1.aT,h2.aT];have hb:0<=b.den:=(lF hT).h;refine⟨.int k (En op k a.den b.den),Fa,?_,.int rfl⟩;have oV:¬b.den<0:=by omega
     subst e;rcases WL with rfl|rfl<;>simp[binOp,Op.shift,En,oV]
    split at h
    .exact IM _ (.inl rfl) rfl h
    .exact IM _ (.inr rfl) rfl h
    .exact cq _ (.inl rfl) rfl h
    .exact cq _ (.inr rfl) rfl h
    .exact h.elim
 .rename_i a b
  split at h
  .rename_i a1 a2 a3 hl
   have hu:=(hc.ti hl).bool rfl;refine⟨_,h,Cj ho hx hy λE w vx vy _ h1 h2=>?_⟩;rw[h1.bJ,h2.bJ];refine⟨.bool (a.den==b.den),Jk,?_,.bool rfl⟩;simp only[binOp,Op.equal,Op.maxDepth,Sem.run_bind,run_equalIn_bool' w 9999 t _ _ hu,Result.andThen_ok,Sem.run_pure]
  .rename_i a1 a2 a3 hl
   have hu:=(hc.ti hl).bool rfl;refine⟨_,h,Cj ho hx hy λE w vx vy _ h1 h2=>?_⟩;rw[h1.bJ,h2.bJ];refine⟨.bool (!(a.den==b.den)),Jk,?_,.bool rfl⟩;simp only[binOp,Op.equal,Op.maxDepth,Sem.run_bind,run_equalIn_bool' w 9999 t _ _ hu,Result.andThen_ok,Sem.run_pure]
  .exact h.elim
 .rename_i a b
  split at h
  .obtain⟨lF,h⟩:=h
   rw[hc.D,Dm]at lF;refine⟨_,h _ ⟨rfl⟩,Cj ho hx hy λE w vx vy hT h1 h2=>?_⟩;rw[h1.cV,h2.cV];have hle:=(lF hT).h;refine⟨.string (bytes (a++b)),Hb,?_,.ro (.str rfl)⟩;have hs:∀l:List UInt8,(bytes l).size=l.length:=λ_=>rfl;have oD:¬(IntKind.i64.max<((a.length+b.length:Nat):Int)):=by
    have:IntKind.i64.max=9223372036854775807:=by decide
    omega
   have nw:bytes a++bytes b=bytes (a++b):=by
    apply ByteArray.ext;rw[ByteArray.data_append];simp[bytes]
   simp only[binOp,Op.stringOp,hs,gt_iff_lt,oD,if_false,nw,Sem.run_pure]
  .refine⟨_,h,Cj ho hx hy λE w vx vy _ h1 h2=>?_⟩
   rw[h1.cV,h2.cV];exact⟨.bool (a==b),Hb,by simp only[binOp,Op.stringOp,Aen,Sem.run_pure],.bool (Abl cx a b)⟩
  .refine⟨_,h,Cj ho hx hy λE w vx vy _ h1 h2=>?_⟩
   rw[h1.cV,h2.cV];exact⟨.bool (!(a==b)),Hb,by simp only[binOp,Op.stringOp,Aen,Sem.run_pure],.bool (by rw[Ls,Abl])⟩
  .exact h.elim
 .rename_i a b
  have key:∀c,(Le t cx.eqs&&cK cx t)=true->CA cx 8 t a b=some c->∀(E:Env) (w:World) (vx vy:Value),Rel E w (.agg a) vx->Rel E w (.agg b) vy->
    ∃X Y,vx=.agg ⟨X⟩/\vy=.agg ⟨Y⟩/\∀(x y:Operand),(eqGuard op t x y vx vy).run P w=.ok () w/\(Op.equalIn 10000 t vx vy).run P w=.ok c.den w:=by
   intro c fC he E w vx vy h1 h2;simp only[QE]at fC;have:∃ti,look t cx.tt=some ti:=by
    cases hl:look t cx.tt with
    |none=>simp[CA,hl]at he
    |some ti=>exact⟨ti,rfl⟩
   obtain⟨ti,hl⟩:=this;obtain⟨X,rfl,hX⟩:=h1.jB;obtain⟨Y,rfl,hY⟩:=h2.jB;obtain⟨k1,k2⟩:=Adj hc 8 10000 (by decide) t ti a b c X Y hl he hX hY;rw[dG hl]at fC;rw[fC.2]at k2;exact⟨X,Y,rfl,rfl,λx y=>⟨run_eqGuard_agg w op t x y _ _ (hc.eqs t ((D9 _ _).1 fC.1)).2.1,k2⟩⟩
  split at h
  .rename_i c fC he
   refine⟨_,h,Cj ho hx hy λE w vx vy _ h1 h2=>?_⟩;obtain⟨X,Y,rfl,rfl,hk⟩:=key c fC he E w vx vy h1 h2;obtain⟨g1,g2⟩:=hk x y;refine⟨.bool c.den,g1,?_,.bool rfl⟩;rw[run_eql_struct,g2];rfl
  .rename_i c fC he
   refine⟨_,h,Cj ho hx hy λE w vx vy _ h1 h2=>?_⟩;obtain⟨X,Y,rfl,rfl,hk⟩:=key c fC he E w vx vy h1 h2;obtain⟨g1,g2⟩:=hk x y;refine⟨.bool (!c.den),g1,?_,.bool (Ls c)⟩;rw[run_neq_struct,g2];rfl
  .exact h.elim
 .skip
  split at h
  .rename_i nl e a1 a2 a3 hn hl
   exact Aff hc ho hx hy hl hn h
  .exact h.elim
 .exact h.elim
end
section
variable {P:Program} {cx:Cx} {σ:Sy} {T:List Nat} {o:Oper} {K:Out->Prop}
theorem E4{B:Bs}{N:Nat}{E:Env}{a:Act}{w:World}{ff:Nat->SG}{hf:Nat->Hl}(hg:Fm B cx.gl)(st:St B N E a w ff hf)(hT:Bk (Ac σ.gm T)):
  ∀(ps:List (Nat×Operand)) (vs:List (Nat×SV)),(∀p∈ps,∀s∈C4 p.2,ff s=Bf σ s)->Gr cx σ T ps=some vs->vs.length=ps.length/\∀(i:Nat) (p:Nat×SV) (q:Nat×Operand),vs[i]?=some p->ps[i]?=some q->p.1=q.1/\Rel E w p.2 (a.eval q.2)
 | [],vs,_,h=>by simp[Gr]at h;subst h;simp
 |(i,x) :: ps,vs,ag,h=>by
  simp only[Gr]at h
  split at h
  .rename_i v us hv jM
   cases h;obtain⟨h1,h2⟩:=E4 hg st hT ps us (λp hp=>ag p (XC _ hp)) jM;refine⟨by simp[h1],λj p q hp hq=>?_⟩;cases j with
   |zero =>
    simp at hp hq;subst hp hq;exact⟨rfl,Ab hv hg st (ag _ (XB ..)) hT⟩
   |succ j=>simp at hp hq;exact h2 j p q hp hq
  .cases h
theorem Amc{E:Env}{w:World}{cs vs:List SV}{C us:List Value}(h:A8 E w cs C)(hv:A8 E w vs us)(off:Nat)(hle:off+vs.length<=cs.length):A8 E w (Dd cs off vs) (Dd C off us):=by
 refine⟨by rw[Dg,Dg,h.1],λi s v h1 h2=>?_⟩;rw[H5 _ _ _ _ hle]at h1;rw[H5 _ _ _ _ (by rw[<-hv.1,<-h.1];exact hle)]at h2;rw[<-hv.1]at h2
 split at h1
 .rename_i e
  rw[QC e]at h2;exact hv.2 _ s v h1 h2
 .rename_i e
  rw[QA e]at h2;exact h.2 i s v h1 h2
theorem Yo:∀(us:List Value) (C:List Value) (off k:Nat),(us.zipIdx k).foldl (λ(cs:Array Value) (c:Value×Nat)=>cs.setIfInBounds (off+c.2) c.1) ⟨C⟩=⟨Dd C (off+k) us⟩
 | [],C,off,k=>rfl
 |u :: us,C,off,k=>by
  simp only[List.zipIdx_cons,List.foldl_cons];have:(⟨C⟩:Array Value).setIfInBounds (off+k) u=⟨Ay C (off+k) u⟩:=by rw[Av];simp
  rw[this,Yo us _ off (k+1),Dd];congr 1
theorem Yu{place:Nat->Option (Nat×Nat)}{C:List Value}{i off n:Nat}{v:Value}{ps:List (Nat×Value)}(hp:place i=some (off,n))(hn:v.cells.size=n)(hle:off+n<=C.length):
  Instr.fill place ⟨C⟩ ((i,v) :: ps)=Instr.fill place ⟨Dd C off v.cells.toList⟩ ps:=by
 have hf:=Yo v.cells.toList C off 0;simp only[ZB]at hf;have hz:v.cells.zipIdx.foldl (λ(cs:Array Value) (c:Value×Nat)=>cs.setIfInBounds (off+c.2) c.1) ⟨C⟩=⟨Dd C off v.cells.toList⟩:=by
  rw[<-hf,<-Array.foldl_toList];congr 1;simp
 simp only[Instr.fill,hp];rw[QA (by simp;omega)];rw[<-hz]
theorem R9(hc:A4 P cx){E:Env}{w:World}{t:Nat}{ti:TI}(hl:look t cx.tt=some ti){place:Nat->Option (Nat×Nat)}
  (uN:∀(i off n:Nat),(∃fs ft,ti.k=.struct fs/\nth fs i=some (off,ft)/\size? cx ft=some n)\/(∃m e,ti.k=.array m e/\size? cx e=some n/\off=i * n)->place i=some (off,n)):
  ∀(vs:List (Nat×SV)) (us:List (Nat×Value)) (cs dI:List SV) (C:List Value),vs.length=us.length->(∀(i:Nat) (p:Nat×SV) (q:Nat×Value),vs[i]?=some p->us[i]?=some q->p.1=q.1/\Rel E w p.2 q.2)->(∀p∈vs,Es p.2.cells=true)->A8 E w cs C->
   Sa cx t cs vs=some dI->∃C',Instr.fill place ⟨C⟩ us=some ⟨C'⟩/\A8 E w dI C'
 | [],us,cs,dI,C,hlen,_,_,hr,h=>by
  have:us=[]:=XH (by simpa using hlen.symm);subst this;simp[Sa]at h;subst h;exact⟨C,rfl,hr⟩
 |(i,v) :: vs,us,cs,dI,C,hlen,bG,h1,hr,h=>by
  match us,hlen,bG with
  |(i',u) :: us,hlen,bG =>
   obtain⟨e0,VF⟩:=bG 0 (i,v) (i',u) rfl rfl;simp only at e0;subst e0;have cX:=Id (h1 _ (XB ..)) VF;simp only[Sa,hl]at h;have fin:∀(off n:Nat),place i=some (off,n)->(Ai v.cells==n&&Nat.ble (off+n) (Ai cs))=true->Sa cx t (Dd cs off v.cells) vs=some dI->∃C',Instr.fill place ⟨C⟩ ((i,u) :: us)=some ⟨C'⟩/\A8 E w dI C':=by
    intro off n hp hb h;simp only[QE,QO,Nat.ble_eq,Ag]at hb;obtain⟨b1,b2⟩:=hb;have bC:u.cells.size=n:=by rw[<-b1,cX.1];simp
    rw[Yu hp bC (by rw[<-hr.1];exact b2)];exact R9 hc hl uN vs us _ dI _ (by simpa using hlen) (λj p q a b=>bG (j+1) p q (by simpa using a) (by simpa using b)) (λp hp=>h1 p (XC _ hp)) (Amc hr cX off (by show off+v.cells.length<=cs.length;omega)) h
   split at h
   .rename_i fs a1 a2 a3 e
    cases e
    split at h
    .rename_i off ft hn
     split at h
     .rename_i n bC
      split at h
      .rename_i hb
       exact fin off n (uN i off n (.inl ⟨fs,ft,rfl,hn,bC⟩)) hb h
      .cases h
     .cases h
    .cases h
   .rename_i m e a1 a2 a3 e2
    cases e2
    split at h
    .rename_i n bC
     split at h
     .rename_i hb
      exact fin (i * n) n (uN i _ n (.inr ⟨m,e,rfl,bC,rfl⟩)) hb h
     .cases h
    .cases h
   .cases h
theorem Rm{Q:Program}:∀(fs:List Field),(∀f∈fs,∃i,Q.info? f.type=some i)->∃places:List (Nat×Nat),fs.mapM (λ(f:Field)=>(Q.info? f.type).map λi=>(f.offset,i.size))=some places/\∀i:Nat,places[i]?=(fs[i]?).bind λ(f:Field)=>(Q.info? f.type).map λj=>(f.offset,j.size)
 | [],_=>⟨[],by simp,by simp⟩
 |f :: fs,h=>by
  obtain⟨i,hi⟩:=h f (XB ..);obtain⟨ps,h1,h2⟩:=Rm (Q:=Q) fs (λf hf=>h f (XC _ hf));refine⟨(f.offset,i.size) :: ps,by simp[List.mapM_cons,hi,h1],λj=>?_⟩;cases j with
  |zero=>simp[hi]
  |succ j=>simp[h2]
theorem Jq:∀ {ps:List (Nat×SV)},Ov ps=true->∀p∈ps,Es p.2.cells=true
 | [],_,p,hp=>by cases hp
 |q :: ps,h,p,hp=>by
  simp only[Ov,QE]at h;rcases List.mem_cons.1 hp with rfl|hp
  .exact h.1
  .exact Jq h.2 p hp
theorem Rn(hc:A4 P cx){t:Nat}{ps:Array (Nat×Operand)}(ho:o.op=.build t ps){ti:TI}(hl:look t cx.tt=some ti){vs:List (Nat×SV)}(hv:Gr cx σ T ps.toList=some vs)(h1:Ov vs=true){cs:List SV}
  (hf:Sa cx t ti.zero vs=some cs) (hk:(∃fs,ti.k=.struct fs)\/∃n e,ti.k=.array n e) (bC:∀e n,ti.k=.array n e->∃m,size? cx e=some m):Local P cx.gl σ T o ⟨.agg cs,[],[],[]⟩:=by
 intro B N E a w ff dA hg st ag bL hT;have fC:∀p∈ps.toList,∀s∈C4 p.2,ff s=Bf σ s:=λp hp=>Ak ag (by simp only[ho,Op.operands];simp;exact⟨p.1,by simpa using hp⟩);obtain⟨h2,h3⟩:=E4 hg st hT ps.toList vs fC hv;obtain⟨z,hz,bp,_⟩:=(hc.ti hl).zero E w;obtain⟨i,z',hi,aT4,_,HM,_⟩:=(hc.ti hl).info;have HH:z'=z:=by
  have:(zeroValue t).run P w=.ok z' w:=by simp[zeroValue,typeInfo,hi,HM]
  rw[hz]at this;simpa using this.symm
 subst HH;have jM:∀(j:Nat) (p:Nat×SV) (q:Nat×Value),vs[j]?=some p->((ps.map λ(x:Nat×Operand)=>(x.1,a.eval x.2)).toList)[j]?=some q->p.1=q.1/\Rel E w p.2 q.2:=by
  intro j p q hp hq;rw[ZM,QS]at hq;cases uP:ps.toList[j]? with
  |none=>rw[uP]at hq;cases hq
  |some x =>
   rw[uP]at hq;simp only[QQ,Option.some.injEq]at hq;subst hq;exact h3 j p x hp uP
 have fin:∀(place:Nat->Option (Nat×Nat)),(∀(i off n:Nat),(∃fs ft,ti.k=.struct fs/\nth fs i=some (off,ft)/\size? cx ft=some n)\/(∃m e,ti.k=.array m e/\size? cx e=some n/\off=i * n)->place i=some (off,n))->
   (∀us,P.built t us=Instr.fill place z'.cells us)->Yields P o ⟨.agg cs,[],[],[]⟩ B E a w dA:=by
  intro place gP hb;obtain⟨C',c1,c2⟩:=R9 hc hl gP vs (ps.map λ(x:Nat×Operand)=>(x.1,a.eval x.2)).toList ti.zero cs z'.cells.toList (by simp[h2]) jM (Jq h1) bp hf;have aW:=run_build (P:=P) w t (ps.map λ(x:Nat×Operand)=>(x.1,a.eval x.2)) ⟨C'⟩ (by rw[hb];exact c1);refine Ad st (v:=.agg ⟨C'⟩) ?_ rfl c2.agg;simp only[execOp,ho,Sem.run_bind];rw[aW];rfl
 rcases hk with⟨fs,hk⟩|⟨n,e,hk⟩
 .obtain⟨fields,hu,he,fA⟩:=(hc.ti hl).struct hk
  obtain⟨places,p1,p2⟩:=Rm (Q:=P) fields.toList fA;refine fin (places.toArray[·]?) ?_ ?_
  .rintro i off n (⟨fs',ft,k1,k2,k3⟩|⟨m,e,k1,_⟩)
   .rw[hk]at k1
    cases k1;obtain⟨f,f1,f2,f3⟩:=Nv he k2;obtain⟨fi,oF,hs⟩:=bI k3;obtain⟨ii,zz,hii,eK,_⟩:=(hc.ti oF).info;simp only[List.getElem?_toArray];rw[p2 i,QZ,f1];subst f3;simp[hii,f2,eK,hs]
   .rw[hk]at k1;cases k1
  .intro us
   simp only[Program.built,hi,hu,HM,p1]
 .have hu:=(hc.ti hl).array hk
  obtain⟨m,hm⟩:=bC e n hk;obtain⟨te,iI,hs⟩:=bI hm;obtain⟨ie,ze,hie,eK,_⟩:=(hc.ti iI).info;refine fin (λi=>some (i * ie.size,ie.size)) ?_ ?_
  .rintro i off n' (⟨fs',ft,k1,_⟩|⟨m',e',k1,k2,k3⟩)
   .rw[hk]at k1;cases k1
   .rw[hk]at k1
    cases k1;rw[hm]at k2;cases k2;simp[k3,eK,hs]
  .intro us
   simp only[Program.built,hi,hu,HM,hie]
end
end Go.Sx
