/- A part of the proof: contracts of functions, or the executor and its soundness. No conditions. -/
import Derived.Test.YtdoogdbjiijifaaGreatDoorE8Pac
namespace Go.Sx
open Go
section
variable {P:Program} {cx:Cx} {σ:Sy} {T:List Nat} {o:Oper} {K:Out->Prop}
theorem add_lit(b off j:Nat):(⟨b,off,none⟩:Addr).add j=⟨b,off+j,none⟩:=by
 unfold Addr.add;split<;>simp_all
theorem Ga{t:Nat}{ti:TI}(h:Em P t ti){w:World}{b off:Nat}{vs:List Value}(hc:∀(j:Nat) (v:Value),vs[j]?=some v->w.cell? ⟨b,off+j,none⟩=some v)(hn:vs.length=ti.size)
  {agg:Bool} (ha:agg=K7 ti.k) (h1:agg=false->vs.length=1):
  (Instr.loadAt t (.pointer (some ⟨b,off,none⟩))).run P w=.ok (if agg then .agg ⟨vs⟩ else vs.headD undef) w:=by
 have hI:=h.isAgg w;have hS:=h.sizeOf w;subst ha;simp only[Instr.loadAt,Instr.sureAddr,loadVar,Sem.run_bind,Sem.run_pure,Result.andThen_ok,hI];cases hk:K7 ti.k with
 |true =>
  rw[<-hn]at hS;have:=run_loadCells_list (P:=P) w ⟨b,off,none⟩ vs (λj v hj=>by rw[add_lit];exact hc j v hj);simp[hS,this]
 |false =>
  rw[hk]at h1
  match vs,h1 rfl,hc with
  | [v],_,hc =>
   have:=hc 0 v rfl;simp only[XY]at this;simp[run_load,this]
theorem Gu{E:Env}{w:World}{agg:Bool}{cs:List SV}{s:SV}{vs:List Value}(h:pack agg cs=some s)(hr:A6 E w cs vs):(agg=false->vs.length=1)/\Rel E w s (if agg then .agg ⟨vs⟩ else vs.headD undef):=by
 unfold pack at h;cases agg with
 |true=>simp only[if_true,Option.some.injEq]at h;subst h;exact⟨(λe=>by cases e),hr.agg⟩
 |false =>
  simp only[XD,if_false]at h
  split at h
  .rename_i c
   cases h
   match vs,hr with
   | [v],hr=>exact⟨λ_=>rfl,hr.2 0 s v rfl rfl⟩
   | [],hr=>exact absurd hr.1 (by simp)
   |_ :: _ :: _,hr=>exact absurd hr.1 (by simp)
  .cases h
theorem Bo{hp:List Hl}{h:Nat}{hl:Hl}(e:nth hp h=some hl):Aq hp h=hl:=by simp[Aq,e]
theorem Aah{E:Env}{w:World}{cs dH:List SV}{C:List Value}{off n:Nat}(hr:A6 E w dH C)(hl:dH.length=cs.length)(eT:∀j,off<=j->j<off+n->dH[j]?=cs[j]?):
  A6 E w ((cs.drop off).take n) ((C.drop off).take n):=by
 refine⟨by simp[<-hr.1,hl],λi s v h1 h2=>?_⟩;rw[QN]at h1 h2
 split at h1
 .rename_i hi
  rw[QB hi]at h2;rw[XF]at h1 h2;exact hr.2 (off+i) s v (by rw[eT _ (by omega) (by omega)];exact h1) h2
 .cases h1
theorem bQ.eC{E:Env}{w:World}{h:Nat}{ty:TypeId}{cs:List SV}(hk:bQ E w h (.aG ty cs)):∃b C,E.β h=some b/\E.O b=some h/\w.heap[b]?=some (.cells C ty (0,0))/\A6 E w cs C.toList/\(∀v∈C.toList,v.oneCell'=true)/\∀o,¬E.I b o:=by
 obtain⟨b,C,h1,h2,h3,h4,h5,h6,h7⟩:=hk;exact⟨b,C,h1,h2,h3,⟨by simp[h4],λi s v p q=>h5 i s v p (by simpa using q)⟩,λv hv=>h6 v (by simpa using hv),h7⟩
theorem Ud(hc:Az P cx){t:Nat}{x:Operand}(ho:o.op=.load t x){h off n:Nat}{ty:TypeId}{cs:List SV}{s:SV}(hv:rd cx σ T x=some (.ptr h off))(hn:size? cx t=some n)
  (hh:nth σ.hp h=some (.aG ty cs)) (hle:off+n<=cs.length) (hp:pack (cH cx t) ((cs.drop off).take n)=some s):Local P cx.gl σ T o ⟨s,[],[],[(h,off,n)]⟩:=by
 intro B N E a w ff hf hg st ag bK hT;have hr:=Aa hv hg st (Ak ag (by simp[ho,Op.operands])) hT;obtain⟨b,hb,hx⟩:=hr.dL;obtain⟨dH,e2,e3,e4⟩:=bK.BH _ (List.mem_singleton.2 rfl) ty cs (Bo hh);have hk:=st.heap h;rw[e2]at hk;obtain⟨b',C,k1,_,k3,k4,_,_⟩:=hk.eC;obtain rfl:b=b':=Option.some.inj (hb.symm.trans k1);obtain⟨ti,kH,bB⟩:=bH hn;have cT:=Aah (off:=off) (n:=n) k4 e3 e4;obtain⟨p1,p2⟩:=Gu hp cT;have hlen:((C.toList.drop off).take n).length=n:=by rw[<-cT.1];simp;omega
 have aV:=Ga (hc.ti kH) (w:=w) (b:=b) (off:=off) (vs:=(C.toList.drop off).take n) (λj v hj=>by
  rw[QN]at hj
  split at hj
  .rw[XF]at hj
   rw[cell_of_row w b (off+j) C ty (0,0) k3];simpa using hj
  .cases hj) (by rw[hlen,bB]) (dF kH) p1
 exact Ad st (by simp[execOp,ho,hx,aV]) rfl p2
theorem RO.eI{I:Nat->Nat->Prop}{w:World}{cs:List SV}{v:Value}(h:RO I w (.dK cs) v):∃a,v=.pointer (some a)/\a.spot=none/\∃g:Nat->Value,(∀j,j<cs.length->(g j).oneCell'=true/\w.cell? ⟨a.block,a.off+j,none⟩=some (g j)/\I a.block (a.off+j))/\
  ∀(j:Nat) (s:SV),cs[j]?=some s->RO I w s (g j):=by
 cases h with
 |dK g hs h1 aN bF=>exact⟨_,rfl,hs,g,λj hj=>⟨h1 j hj,aN j hj⟩,bF⟩
theorem Rel.eI{E:Env}{w:World}{cs:List SV}{v:Value}(h:Rel E w (.dK cs) v):RO E.I w (.dK cs) v:=by
 cases h with
 |ro h=>exact h
theorem Afq{E:Env}{w:World}{cs:List SV}{n:Nat}{g:Nat->Value}(hle:n<=cs.length)(h:∀(j:Nat) (s:SV),cs[j]?=some s->RO E.I w s (g j)):A6 E w (cs.take n) ((List.range n).map g):=by
 refine⟨by simp;omega,λi s v h1 h2=>?_⟩;rw[QN]at h1
 split at h1
 .rename_i hi
  have:v=g i:=by simp[hi]at h2;exact h2.symm
  subst this;exact .ro (h i s h1)
 .cases h1
theorem Sb(hc:Az P cx){t:Nat}{x:Operand}(ho:o.op=.load t x){n:Nat}{cs:List SV}{s:SV}(hv:rd cx σ T x=some (.dK cs))(hn:size? cx t=some n)
  (hle:n<=cs.length) (hp:pack (cH cx t) (cs.take n)=some s):Local P cx.gl σ T o ⟨s,[],[],[]⟩:=by
 intro B N E a w ff hf hg st ag bK hT;have hr:=Aa hv hg st (Ak ag (by simp[ho,Op.operands])) hT;obtain⟨ad,hx,hs,g,aN,bF⟩:=hr.eI.eI;obtain⟨b,off,sp⟩:=ad;simp only at hs aN;subst hs;obtain⟨ti,kH,bB⟩:=bH hn;have cT:=Afq (E:=E) hle bF;obtain⟨p1,p2⟩:=Gu hp cT;have aV:=Ga (hc.ti kH) (w:=w) (b:=b) (off:=off) (vs:=(List.range n).map g) (λj v hj=>by
  by_cases xr:j<n
  .simp[xr]at hj
   rw[(aN j (by omega)).2.1,hj]
  .simp[xr]at hj) (by simp[bB]) (dF kH) p1
 exact Ad st (by simp[execOp,ho,hx,aV]) rfl p2
theorem gi{B:Bs}{N:Nat}{E:Env}{a:Act}{w:World}{ff:Nat->SG}{hf:Nat->Hl}(st:St B N E a w ff hf){h off b:Nat}{ty:TypeId}{cs vs:List SV}{C:Array Value}{us:List Value}
  (hh:hf h=.aG ty cs) (fQ:E.β h=some b) (hC:w.heap[b]?=some (.cells C ty (0,0))) (hr:A6 E w vs us) (h1:∀v∈us,v.oneCell'=true) (hle:off+us.length<=C.size) {C':Array Value} (WT:C'=(C.toList.take off++us++C.toList.drop (off+us.length)).toArray):
  Ext E w E (w.setRow b C')/\Cl B E (w.setRow b C')/\(∀k,bQ E (w.setRow b C') k (dc hf (.set h off vs) k)):=by
 have hb:=st.base;have hk:=st.heap h;rw[hh]at hk;obtain⟨b',C1,k1,k2,k3,k4,k5,k6⟩:=hk.eC;obtain rfl:b=b':=Option.some.inj (fQ.symm.trans k1);obtain⟨rfl⟩:C=C1:=by rw[hC]at k3;simpa using k3
 have hx:Ext E w E (w.setRow b C'):=⟨λ_ _ h=>h,λ_ _ h=>.inl h,λ_ _ h=>h,λ_ _ h=>h,λ_ _ h=>h,λb2 o hi=>cell_setRow_other w b C' ⟨b2,o,none⟩ (λe=>by subst e;exact k6 o hi)⟩;have hX:=(hb.cR b h k2).2;refine⟨hx,⟨hb.os,hb.tape,hb.output,by simpa using hb.size,?_,?_,?_,hb.cC,?_,hb.cL⟩,λk=>?_⟩
 .intro b2 aC jZ
  by_cases e:b2=b
  .subst e;rcases hX with hX|hX
   .omega
   .exact absurd hX jZ
  .rw[setRow_other w b b2 C' e];exact hb.dZ b2 aC jZ
 .intro b2 o hi
  obtain⟨i1,i2⟩:=hb.I0 b2 o hi;exact⟨i1,by rw[hx.cell b2 o i1];exact i2⟩
 .intro b2 o hi;have:=hb.dR b2 o hi;simpa using this
 .intro b2 k hO;have:=hb.cR b2 k hO;simpa using this
 .simp only[dc,hh]
  by_cases e:k=h
  .subst e
   simp only[aR,QB];have hlen:C'.size=C.size:=by subst WT;simp;omega
   have kG:=hr.1;refine⟨b,C',fQ,k2,setRow_heap w b C C' ty (0,0) hC,by rw[hlen,Dd];have:=k4.1;simp at this;omega,λi s v p q=>?_,λv hv=>?_,k6⟩
   .have qS:cs.length=C.size:=by have:=k4.1;simpa using this
    rw[Hv vs cs off i (by omega)]at p;have q:(C.toList.take off++us++C.toList.drop (off+us.length))[i]?=some v:=by subst WT;simpa using q
    split at p
    .rename_i e
     rw[ZH,QO (by simp;omega),QM (by simp;omega)]at q;simp at q;refine (hr.2 (i-off) s v p ?_).mono hx;rw[<-q];congr 1;omega
    .rename_i e
     have hq:C.toList[i]?=some v:=by
      by_cases hi:i<off
      .rw[ZH,QM (by simp;omega),QN,QB hi]at q;exact q
      .rw[QO (by simp;omega),XF]at q
       rw[<-q];congr 1;simp;omega
     exact (k4.2 i s v p hq).mono hx
   .have hv:v∈(C.toList.take off++us++C.toList.drop (off+us.length)):=by subst WT;simpa using hv
    rw[ZZ,ZZ]at hv;rcases hv with (hv|hv)|hv
    .exact k5 v (UL hv)
    .exact h1 v hv
    .exact k5 v (List.mem_of_mem_drop hv)
  .simp only[aR,QA e]
   refine bQ.keep hx (st.heap k) rfl rfl rfl rfl λb2 hO=>⟨hO,?_,λ_ h=>h⟩;refine setRow_other w b b2 C' (λe2=>?_);subst e2;rw[k2]at hO;exact e (Option.some.inj hO).symm
theorem Abx(hc:Az P cx){t:Nat}{x y:Operand}(ho:o.op=.store t x y){h off n:Nat}{ty:TypeId}{cs:List SV}{s:SV}(hv:rd cx σ T x=some (.ptr h off))(hs:dx cx σ T t y=some s)(hn:size? cx t=some n)
  (hh:nth σ.hp h=some (.aG ty cs)) (hl:s.cells.length=n) (hle:off+n<=cs.length) (h1:Ej s.cells=true):Local P cx.gl σ T o ⟨.aJ [],[.set h off s.cells],[],[]⟩:=by
 intro B N E a w ff hf hg st ag bK hT K' Q hK;have hr:=Aa hv hg st (Ak ag (by simp[ho,Op.operands])) hT;have cO:=Jf hs hg st (Ak ag (by simp[ho,Op.operands])) hT;obtain⟨b,hb,hx⟩:=hr.dL;obtain⟨dH,e2,e3⟩:=bK.fK _ (List.mem_singleton.2 rfl) ty cs (Bo hh);have hk:=st.heap h;rw[e2]at hk;obtain⟨b',C,k1,_,k3,k4,_,_⟩:=hk.eC;obtain rfl:b=b':=Option.some.inj (hb.symm.trans k1);obtain⟨ti,kH,bB⟩:=bH hn;have cX:=H4 h1 cO;have fN:=Mf h1 cX;have kG:(a.eval y).cells.toList.length=n:=by rw[<-cX.1];exact hl
 have CG:dH.length=C.size:=by have:=k4.1;simpa using this
 have mF:off+(a.eval y).cells.toList.length<=C.size:=by rw[kG];omega
 obtain⟨x1,x2,x3⟩:=gi (h:=h) (off:=off) st e2 hb k3 cX fN mF rfl;have aV:(Instr.storeAt t (.pointer (some ⟨b,off,none⟩)) (a.eval y)).run P w=.ok () (w.setRow b (C.toList.take off++(a.eval y).cells.toList++C.toList.drop (off+(a.eval y).cells.toList.length)).toArray):=by
  have hS:=(hc.ti kH).sizeOf w;have qN:=run_storeCells_at P b off ty (a.eval y).cells.toList 0 C w k3 (by simpa using mF) fN;have aY:((a.eval y).cells.size≠ti.size)=False:=by
   have:(a.eval y).cells.size=ti.size:=by rw[bB];simpa using kG
   simp[this]
  simp only[XY]at qN;simp only[Instr.storeAt,Instr.sureAddr,storeVar,Sem.run_bind,Sem.run_pure,Result.andThen_ok,hS,aY,if_false,qN]
 unfold Oper.wp;have:(execOp a.eval o).run P w=.ok .skip (w.setRow b (C.toList.take off++(a.eval y).cells.toList++C.toList.drop (off+(a.eval y).cells.toList.length)).toArray):=by
  simp only[execOp,ho,hx,Sem.run_bind,aV,Result.andThen_ok,Sem.run_pure]
 rw[this];exact hK undef _ E x1 x2 x3 (.aJ rfl (by simp))
end
section
variable {P:Program} {cx:Cx} {σ:Sy} {T:List Nat} {o:Oper} {K:Out->Prop}
theorem nV{t i fo ft:Nat}(h:fZ cx t i=some (fo,ft)):∃ti fs,look t cx.tt=some ti/\ti.k=.struct fs/\nth fs i=some (fo,ft):=by
 unfold fZ at h
 split at h
 .rename_i fs a b c hl;exact⟨_,fs,hl,rfl,h⟩
 .cases h
theorem Id(hc:Az P cx){t i fo ft m:Nat}(hf:fZ cx t i=some (fo,ft))(hn:size? cx ft=some (m+1))(w:World)(ad:Addr):
  (Instr.fieldAt t (.pointer (some ad)) i).run P w=.ok (.pointer (some (ad.add fo))) w:=by
 obtain⟨ti,fs,hl,hk,hi⟩:=nV hf;obtain⟨fields,hu,he,_⟩:=(hc.ti hl).struct hk;obtain⟨f,fO,eS,eN⟩:=Nn he hi;obtain⟨fi,nO,bB⟩:=bH hn;have hS:=(hc.ti nO).sizeOf w;subst eS eN;simp[Instr.fieldAt,run_underlying hu,fO,Instr.sureAddr,fieldPlace,hS,bB]
theorem Mq(hc:Az P cx){t i fo ft m h off:Nat}{x:Operand}(ho:o.op=.fieldAddr t x i)(hv:rd cx σ T x=some (.ptr h off))(hf:fZ cx t i=some (fo,ft))(hn:size? cx ft=some (m+1)):
  Local P cx.gl σ T o ⟨.ptr h (off+fo),[],[],[]⟩:=by
 intro B N E a w ff cY hg st ag bK hT;have hr:=Aa hv hg st (Ak ag (by simp[ho,Op.operands])) hT;obtain⟨b,hb,hx⟩:=hr.dL;refine Ad st (v:=.pointer (some ⟨b,off+fo,none⟩)) ?_ rfl (.ptr hb rfl);simp[execOp,ho,hx,Id hc hf hn,add_lit]
theorem Qy(ad:Addr)(n:Nat):(ad.add n).block=ad.block:=by unfold Addr.add;split<;>rfl
theorem Z2(ad:Addr)(n:Nat):(ad.add n).off=ad.off+n:=by unfold Addr.add;split<;>simp_all
theorem Vu(ad:Addr)(n:Nat)(h:ad.spot=none):(ad.add n).spot=none:=by unfold Addr.add;split<;>simp_all
theorem Aku{I:Nat->Nat->Prop}{w:World}{cs:List SV}{ad:Addr}(h:RO I w (.dK cs) (.pointer (some ad)))(fo m:Nat):RO I w (.dK ((cs.drop fo).take m)) (.pointer (some (ad.add fo))):=by
 obtain⟨CV,e,hs,g,aN,bF⟩:=h.eI;cases e;refine .dK (λj=>g (fo+j)) (Vu _ _ hs) (λj hj=>?_) (λj hj=>?_) (λj s hj=>?_)
 .simp at hj;exact (aN (fo+j) (by omega)).1
 .rw[Qy,Z2]
  simp at hj;have:=(aN (fo+j) (by omega)).2;rw[UF];exact this
 .rw[QN]at hj
  split at hj
  .rw[XF]at hj;exact bF (fo+j) s hj
  .cases hj
theorem Lm(hc:Az P cx){t i fo ft m:Nat}{cs:List SV}{x:Operand}(ho:o.op=.fieldAddr t x i)(hv:rd cx σ T x=some (.dK cs))(hf:fZ cx t i=some (fo,ft))(hn:size? cx ft=some (m+1)):
  Local P cx.gl σ T o ⟨.dK ((cs.drop fo).take (m+1)),[],[],[]⟩:=by
 intro B N E a w ff cY hg st ag bK hT;have hr:=(Aa hv hg st (Ak ag (by simp[ho,Op.operands])) hT).eI;obtain⟨ad,hx,_⟩:=hr.eI;rw[hx]at hr;refine Ad st (v:=.pointer (some (ad.add fo))) ?_ rfl (.ro (Aku hr fo (m+1)));simp[execOp,ho,hx,Id hc hf hn]
theorem Oa{t m fo:Nat}{ti:TI}(h:Em P t ti)(bB:ti.size=m){w:World}{vs:List Value}(p1:K7 ti.k=false->((vs.drop fo).take m).length=1):
  (part t ⟨vs⟩ fo).run P w=.ok (if K7 ti.k then .agg ⟨(vs.drop fo).take m⟩ else ((vs.drop fo).take m).headD undef) w:=by
 have hS:=h.sizeOf w;have hA:=h.isAgg w;simp only[part,Sem.run_bind,hA,Result.andThen_ok];cases aZ:K7 ti.k with
 |true =>
  simp only[if_true,Sem.run_bind,hS,Result.andThen_ok,Sem.run_pure,bB];congr 2;apply XU;simp
 |false =>
  have h1:=p1 aZ;have hm:vs[fo]?=some (((vs.drop fo).take m).headD undef):=by
   match h3:(vs.drop fo).take m,h1 with
   | [v],_ =>
    have:((vs.drop fo).take m)[0]?=some v:=by rw[h3];rfl
    rw[QN]at this
    split at this
    .rw[XF]at this;simpa using this
    .cases this
  simp[hm]
theorem Ab0(hc:Az P cx){t i fo ft m:Nat}{cs:List SV}{x:Operand}{s:SV}(ho:o.op=.field t x i)(hv:rd cx σ T x=some (.agg cs))(hf:fZ cx t i=some (fo,ft))(hn:size? cx ft=some m)
  (hle:fo+m<=cs.length) (hp:pack (cH cx ft) ((cs.drop fo).take m)=some s):Local P cx.gl σ T o ⟨s,[],[],[]⟩:=by
 intro B N E a w ff cY hg st ag bK hT;have hr:=Aa hv hg st (Ak ag (by simp[ho,Op.operands])) hT;obtain⟨vs,hx,hl⟩:=hr.iT;obtain⟨ti,fs,kH,hk,hi⟩:=nV hf;obtain⟨fields,hu,he,_⟩:=(hc.ti kH).struct hk;obtain⟨f,fO,eS,eN⟩:=Nn he hi;obtain⟨fi,nO,bB⟩:=bH hn;have cT:=(hl.drop fo).take m;obtain⟨p1,p2⟩:=Gu hp cT;rw[dF nO]at p1 p2;refine Ad st ?_ rfl p2;subst eS eN;have bf:=Oa (hc.ti nO) bB (w:=w) (vs:=vs) (fo:=f.offset) p1;simp[execOp,ho,hx,Instr.field,run_underlying hu,fO,asAgg,bf]
theorem RO.bE{I:Nat->Nat->Prop}{w:World}{nl:BT}{n:ST}{sz:Nat}{f:Nat->List SV}{v:Value}(h:RO I w (.sl nl n sz f) v):
  (v=.slice none 0 0/\n.den=0/\nl.den=true)\/∃(a:Addr) (m cap:Nat) (g:Nat->Nat->Value),v=.slice (some a) m cap/\nl.den=false/\n.den=(m:Int)/\m<=cap/\cap<=maxLen/\(0<m->a.spot=none)/\
   (∀i,i<m->(f i).length=sz)/\(∀i j,i<m->j<sz->(g i j).oneCell'=true)/\(∀i j,i<m->j<sz->w.cell? ⟨a.block,a.off+(i * sz+j),none⟩=some (g i j)/\I a.block (a.off+(i * sz+j)))/\(∀(i j:Nat) (s:SV),i<m->(f i)[j]?=some s->RO I w s (g i j)):=by
 cases h with
 |slnil h hn=>exact .inl ⟨rfl,hn,h⟩
 |sl g h hn hc eY hs hl h1 aN bF=>exact .inr ⟨_,_,_,g,rfl,h,hn,hc,eY,hs,hl,h1,aN,bF⟩
theorem Rel.bE{E:Env}{w:World}{nl:BT}{n:ST}{sz:Nat}{f:Nat->List SV}{v:Value}(h:Rel E w (.sl nl n sz f) v):RO E.I w (.sl nl n sz f) v:=by
 cases h with
 |ro h=>exact h
theorem Rel.kF{E:Env}{w:World}{nl:BT}{n:ST}{sz:Nat}{f:Nat->List SV}{h:Nat}{v:Value}(hr:Rel E w (.dQ nl n sz f h) v):RO E.I w (.sl nl n sz f) v/\Tb E h n.den v:=by
 cases hr with
 |ro h=>cases h
 |dQ hr ht=>exact⟨hr,ht⟩
theorem Fm(hc:Az P cx){t e sz:Nat}{ti:TI}(hl:look t cx.tt=some ti)(hk:ti.k=.slice e)(hn:size? cx e=some sz){w:World}{a:Addr}{m cap:Nat}{k:IntKind}{i:Int}(h0:0<=i)(h1:i<m):
  (Instr.indexAt t (.slice (some a) m cap) (.int k i)).run P w=.ok (.pointer (some (a.add (i.toNat * sz)))) w:=by
 have hu:=(hc.ti hl).slice hk;obtain⟨te,kJ,bB⟩:=bH hn;have hS:=(hc.ti kJ).sizeOf w;simp[Instr.indexAt,run_underlying hu,asIntOf,h0,h1,hS,bB]
theorem Af2{I:Nat->Nat->Prop}{w:World}{f:Nat->List SV}{sz m:Nat}{a:Addr}{g:Nat->Nat->Value}(hs:0<m->a.spot=none)(hl:∀i,i<m->(f i).length=sz)(h1:∀i j,i<m->j<sz->(g i j).oneCell'=true)
  (aN:∀i j,i<m->j<sz->w.cell? ⟨a.block,a.off+(i * sz+j),none⟩=some (g i j)/\I a.block (a.off+(i * sz+j))) (bF:∀(i j:Nat) (s:SV),i<m->(f i)[j]?=some s->RO I w s (g i j)) {j:Nat} (hj:j<m):
  RO I w (.dK (f j)) (.pointer (some (a.add (j * sz)))):=by
 refine .dK (g j) (Vu _ _ (hs (by omega))) (λq hq=>h1 j q hj (by rw[hl j hj]at hq;exact hq)) (λq hq=>?_) (λq s hq=>bF j q s hj hq);rw[Qy,Z2,UF];exact aN j q hj (by rw[hl j hj]at hq;exact hq)
theorem Ue(hc:Az P cx){t e sz:Nat}{ti:TI}(hl:look t cx.tt=some ti)(hk:ti.k=.slice e)(hn:size? cx e=some sz){x y:Operand}(ho:o.op=.indexAddr t x y){nl:BT}{n:ST}{f:Nat->List SV}{k:IntKind}{i:ST}
  (hv:rd cx σ T x=some (.sl nl n sz f)\/∃h,rd cx σ T x=some (.dQ nl n sz f h)) (hi:rd cx σ T y=some (.int k i)) (h1:Bh (Ac σ.gm T)->0<=i.den/\i.den<n.den):Local P cx.gl σ T o ⟨.dK (f i.den.toNat),[],[],[]⟩:=by
 intro B N E a w ff cY hg st ag bK hT;have hx:RO E.I w (.sl nl n sz f) (a.eval x):=by
  rcases hv with hv|⟨h,hv⟩
  .exact (Aa hv hg st (Ak ag (by simp[ho,Op.operands])) hT).bE
  .exact (Aa hv hg st (Ak ag (by simp[ho,Op.operands])) hT).kF.1
 have hy:=(Aa hi hg st (Ak ag (by simp[ho,Op.operands])) hT).aQ;obtain⟨b1,b2⟩:=h1 hT;rcases hx.bE with⟨_,e0,_⟩|⟨ad,m,cap,g,e0,_,e2,_,_,e4,e5,zf,e6,e7⟩
 .omega
 .have hj:i.den.toNat<m:=by omega
  refine Ad st (v:=.pointer (some (ad.add (i.den.toNat * sz)))) ?_ rfl (.ro (Af2 e4 e5 zf e6 e7 hj));have aV:=Fm hc hl hk hn (w:=w) (a:=ad) (m:=m) (cap:=cap) (k:=k) b1 (show i.den<(m:Int) by omega);simp[execOp,ho,e0,hy,aV]
theorem Sh(hc:Az P cx){t e sz n:Nat}{ti:TI}(hl:look t cx.tt=some ti)(hk:ti.k=.array n e)(hn:size? cx e=some sz){x y:Operand}(ho:o.op=.indexAddr t x y){f:Nat->List SV}{k:IntKind}{i:ST}
  (hv:rd cx σ T x=some (.dT n sz f)) (hi:rd cx σ T y=some (.int k i)) (h1:Bh (Ac σ.gm T)->0<=i.den/\i.den<n):Local P cx.gl σ T o ⟨.dK (f i.den.toNat),[],[],[]⟩:=by
 intro B N E a w ff cY hg st ag bK hT;have hx:=Aa hv hg st (Ak ag (by simp[ho,Op.operands])) hT;have hy:=(Aa hi hg st (Ak ag (by simp[ho,Op.operands])) hT).aQ;obtain⟨b1,b2⟩:=h1 hT;have hx:RO E.I w (.dT n sz f) (a.eval x):=by cases hx with|ro h=>exact h
 generalize pK:a.eval x=ev at hx
 cases hx with
 |dT g hs iJ h1' aN bF =>
  rename_i ad;refine Ad st (v:=.pointer (some (ad.add (i.den.toNat * sz)))) ?_ rfl (.ro (Af2 (λ_=>hs) iJ h1' aN bF (by omega)));have hu:=(hc.ti hl).array hk;obtain⟨te,kJ,bB⟩:=bH hn;have hS:=(hc.ti kJ).sizeOf w;simp[execOp,ho,pK,hy,Instr.indexAt,run_underlying hu,asIntOf,b1,b2,hS,bB,Instr.sureAddr]
theorem Wm{x:Operand}{i:Nat}(ho:o.op=.extract x i){vs:List SV}{s:SV}(hv:rd cx σ T x=some (.aJ vs))(hs:nth vs i=some s):Local P cx.gl σ T o ⟨s,[],[],[]⟩:=by
 intro B N E a w ff cY hg st ag bK hT;obtain⟨us,hx,hl⟩:=(Aa hv hg st (Ak ag (by simp[ho,Op.operands])) hT).uW;rw[Aj]at hs;have aC:i<us.length:=by rw[<-hl.1];exact (List.getElem?_eq_some_iff.1 hs).1
 refine Ad st (v:=us[i]) ?_ rfl (hl.2 i s _ hs (QC aC));simp[execOp,ho,hx,Instr.extract,aC]
theorem Lk(b:BT):(AZ b).den=!b.den:=by unfold AZ;split<;>rfl
theorem Hz(op:BinOp)(x y:ST):(Pg op x y).den=Bz op x.den y.den:=by unfold Pg;split<;>rfl
theorem Adf(op:BinOp)(k:IntKind)(x y:ST):(LR op k x y).den=Eg op k x.den y.den:=by unfold LR;split<;>rfl
theorem Ain{t:Nat}{x:Operand}(ho:o.op=.unOp .not t x){b:BT}(hv:rd cx σ T x=some (.bool b)):Local P cx.gl σ T o ⟨.bool (AZ b),[],[],[]⟩:=by
 intro B N E a w ff cY hg st ag bK hT;have hx:=(Aa hv hg st (Ak ag (by simp[ho,Op.operands])) hT).bI;refine Ad st (v:=.bool (!b.den)) ?_ rfl (.bool (Lk b));simp[execOp,ho,hx,Op.unary]
theorem Aip{t:Nat}{x:Operand}(ho:o.op=.unOp .neg t x){k:IntKind}{n:ST}(hv:rd cx σ T x=some (.int k n)):Local P cx.gl σ T o ⟨.int k (LR .sub k (.l 0) n),[],[],[]⟩:=by
 intro B N E a w ff cY hg st ag bK hT;have hx:=(Aa hv hg st (Ak ag (by simp[ho,Op.operands])) hT).aQ;refine Ad st (v:=.int k (k.wrap (0-n.den))) ?_ rfl (.int (Adf _ _ _ _));simp[execOp,ho,hx,Op.unary,Op.intArith]
theorem Gs{t:Nat}{ti:TI}(hc:Az P cx)(hl:look t cx.tt=some ti){e:TypeId}(hk:ti.k=.slice e){w:World}{a:Option Addr}{m c:Nat}{ty:TypeId}:
  (Builtin.len_ #[t] ty #[.slice a m c]).run P w=.ok (.int .i64 m) w:=by
 have hu:=(hc.ti hl).slice hk;simp[Builtin.len_,run_underlying hu,goInt]
theorem Aaw{t:Nat}{ti:TI}(hc:Az P cx)(hl:look t cx.tt=some ti)(hk:ti.k=.string){w:World}{s:ByteArray}{ty:TypeId}:
  (Builtin.len_ #[t] ty #[.string s]).run P w=.ok (.int .i64 s.size) w:=by
 obtain⟨d,hd,hb⟩:=(hc.ti hl).xP;rw[hk]at hb;cases d<;>simp only[Jl,XD]at hb;simp[Builtin.len_,run_underlying hd,goInt]
theorem Ov(hc:Az P cx){c:Call}(ho:o.op=.call c)(aP:c.callee=.builtin .len){x:Operand}{t:Nat}{ti:TI}(hx:c.args.toList=[x])(ht:c.argTypes.toList=[t])(hl:look t cx.tt=some ti){e:TypeId}(hk:ti.k=.slice e)
  {nl:BT} {n:ST} {sz:Nat} {f:Nat->List SV} (hv:rd cx σ T x=some (.sl nl n sz f)\/∃h,rd cx σ T x=some (.dQ nl n sz f h)):Local P cx.gl σ T o ⟨.int .i64 n,[],[],[]⟩:=by
 intro B N E a w ff cY hg st ag bK hT;have dP:x∈o.op.operands.toList:=by simp[ho,Op.operands,Call.operands,aP,hx]
 have jx:RO E.I w (.sl nl n sz f) (a.eval x):=by
  rcases hv with hv|⟨h,hv⟩
  .exact (Aa hv hg st (Ak ag dP) hT).bE
  .exact (Aa hv hg st (Ak ag dP) hT).kF.1
 have e1:c.args=#[x]:=XU (by simpa using hx);have e2:c.argTypes=#[t]:=XU (by simpa using ht);have:∃a0 m c0,a.eval x=.slice a0 m c0/\n.den=(m:Int):=by
  rcases jx.bE with⟨e0,e3,_⟩|⟨ad,m,cap,g,e0,_,e3,_⟩
  .exact⟨none,0,0,e0,by simpa using e3⟩
  .exact⟨_,m,cap,e0,e3⟩
 obtain⟨a0,m,c0,e3,e4⟩:=this;have aV:=Gs hc hl hk (w:=w) (a:=a0) (m:=m) (c:=c0) (ty:=o.type);refine Ad st (v:=.int .i64 m) ?_ rfl (.int e4);simp[execOp,ho,resolve,aP,e1,e2,invoke,builtin,e3,aV]
theorem Wi(hc:Az P cx){c:Call}(ho:o.op=.call c)(aP:c.callee=.builtin .len){x:Operand}{t:Nat}{ti:TI}(hx:c.args.toList=[x])(ht:c.argTypes.toList=[t])(hl:look t cx.tt=some ti)(hk:ti.k=.string)
  {s:List UInt8} (hv:rd cx σ T x=some (.str s)):Local P cx.gl σ T o ⟨.int .i64 (.len s),[],[],[]⟩:=by
 intro B N E a w ff cY hg st ag bK hT;have dP:x∈o.op.operands.toList:=by simp[ho,Op.operands,Call.operands,aP,hx]
 have jx:=(Aa hv hg st (Ak ag dP) hT).cU;have e1:c.args=#[x]:=XU (by simpa using hx);have e2:c.argTypes=#[t]:=XU (by simpa using ht);have aV:=Aaw hc hl hk (w:=w) (s:=bytes s) (ty:=o.type);refine Ad st (v:=.int .i64 s.length) ?_ rfl (.int rfl);have:(bytes s).size=s.length:=rfl;simp[execOp,ho,resolve,aP,e1,e2,invoke,builtin,jx,aV,this]
theorem Aet(hc:Az P cx){src dst:Nat}{x:Operand}(ho:o.op=.convert src dst x){ti tj:TI}(hl:look dst cx.tt=some ti)(mG:look src cx.tt=some tj){k k':IntKind}(hk:ti.k=.int k){n:ST}(hv:rd cx σ T x=some (.int k' n)):
  Local P cx.gl σ T o ⟨.int k (.cv k n),[],[],[]⟩:=by
 intro B N E a w ff cY hg st ag bK hT;have hx:=(Aa hv hg st (Ak ag (by simp[ho,Op.operands])) hT).aQ;have hu:=(hc.ti hl).int hk;obtain⟨d,hd,_⟩:=(hc.ti mG).xP;refine Ad st (v:=.int k (k.wrap n.den)) ?_ rfl (.int rfl);simp[execOp,ho,hx,convert,run_underlying hu,run_underlying hd,Conv.intToInt]
theorem Ez{op:BinOp}{t:TypeId}{x y:Operand}{k k':IntKind}{m n:Int}{w:World}:(eqGuard op t x y (.int k m) (.int k' n)).run P w=.ok () w:=by
 unfold eqGuard;cases op<;>rfl
theorem Jb{op:BinOp}{t:TypeId}{x y:Operand}{m n:Bool}{w:World}:(eqGuard op t x y (.bool m) (.bool n)).run P w=.ok () w:=by
 unfold eqGuard;cases op<;>rfl
theorem G7{op:BinOp}{t:TypeId}{x y:Operand}{m n:ByteArray}{w:World}:(eqGuard op t x y (.string m) (.string n)).run P w=.ok () w:=by
 unfold eqGuard;cases op<;>rfl
theorem Cf{op:BinOp}{t u:TypeId}{x y:Operand}(ho:o.op=.binOp op t x y u){sx sy s:SV}(hx:rd cx σ T x=some sx)(hy:rd cx σ T y=some sy)
  (aV:∀(E:Env) (w:World) (vx vy:Value),Bh (Ac σ.gm T)->Rel E w sx vx->Rel E w sy vy->∃v,(eqGuard op t x y vx vy).run P w=.ok () w/\(binOp op t vx vy).run P w=.ok v w/\Rel E w s v):Local P cx.gl σ T o ⟨s,[],[],[]⟩:=by
 intro B N E a w ff cY hg st ag bK hT;have h1:=Aa hx hg st (Ak ag (by simp[ho,Op.operands])) hT;have h2:=Aa hy hg st (Ak ag (by simp[ho,Op.operands])) hT;obtain⟨v,r1,r2,r3⟩:=aV E w _ _ hT h1 h2;refine Ad st (v:=v) ?_ rfl r3;simp[execOp,ho,r1,r2]
theorem Adx{s t:List UInt8}:((bytes s).toList==(bytes t).toList)=(s==t):=by
 have h:∀l:List UInt8,(bytes l).toList=l:=λl=>by rw[Go.Lib.toList_data];rfl
 rw[h,h]
end
section
variable {P:Program} {cx:Cx} {σ:Sy} {T:List Nat} {o:Oper} {K:Out->Prop}
theorem Wx{op:BinOp}(ha:arith op=true){t:TypeId}{k:IntKind}{m n:Int}{w:World}:(binOp op t (.int k m) (.int k n)).run P w=.ok (.int k (Eg op k m n)) w:=by
 cases op<;>first|(simp[arith]at ha;done)|simp[binOp,Op.intArith,Op.intBits,Eg]
theorem Ade{op:BinOp}(ha:Al7 op=true){t:TypeId}{k:IntKind}{m n:Int}{w:World}:(binOp op t (.int k m) (.int k n)).run P w=.ok (.bool (Bz op m n)) w:=by
 cases op<;>first|(simp[Al7]at ha;done)|simp[binOp,Op.intCmp,Bz]
theorem L7(x y:BT):(Vs x y).den=(x.den&&y.den):=by
 unfold Vs
 split
 .simp[BT.den]
 .simp[BT.den]
 .rfl
def Ol(agg:Bool)(vs:List Value):Value:=if agg then .agg ⟨vs⟩ else vs.headD undef
theorem Em.bool{t:Nat}{ti:TI}(h:Em P t ti)(hk:ti.k=.bool):P.underlying t=some .bool:=by
 obtain⟨d,hd,hb⟩:=h.xP;rw[hk]at hb;cases d<;>simp only[Jl,XD]at hb;exact hd
theorem Em.string{t:Nat}{ti:TI}(h:Em P t ti)(hk:ti.k=.string):P.underlying t=some .string:=by
 obtain⟨d,hd,hb⟩:=h.xP;rw[hk]at hb;cases d<;>simp only[Jl,XD]at hb;exact hd
theorem A6.one{E:Env}{w:World}{s:SV}{vs:List Value}(h:A6 E w [s] vs):∃v,vs=[v]/\Rel E w s v:=by
 match vs,h with
 | [v],h=>exact⟨v,rfl,h.2 0 s v rfl rfl⟩
 | [],h=>exact absurd h.1 (by simp)
 |_ :: _ :: _,h=>exact absurd h.1 (by simp)
theorem Acu(hc:Az P cx){g:TypeId->List SV->List SV->Option BT}{d:Nat}{E:Env}{w:World}
  (hg:∀(t:TypeId) (ti:TI) (xs ys:List SV) (b:BT) (X Y:List Value),look t cx.tt=some ti->g t xs ys=some b->A6 E w xs X->A6 E w ys Y->
   (K7 ti.k=false->X.length=1/\Y.length=1)/\(Op.equalIn d t (Ol (K7 ti.k) X) (Ol (K7 ti.k) Y)).run P w=.ok b.den w) {xs ys:List SV} {X Y:List Value} (hX:A6 E w xs X) (hY:A6 E w ys Y):
  ∀(fields:List Field) (b:BT),(∀f∈fields,f.name≠"_")->LO cx g xs ys (fields.map λf=>(f.offset,f.type))=some b->(Op.eqFields d ⟨X⟩ ⟨Y⟩ fields).run P w=.ok b.den w
 | [],b,_,h=>by simp[LO]at h;subst h;rfl
 |f :: fields,b,hn,h=>by
  simp only[UV,LO]at h
  split at h
  .rename_i m hm
   split at h
   .rename_i b1 b2 h1 h2
    cases h;obtain⟨ti,kH,bB⟩:=bH hm;rw[A8,Bi,A8,Bi]at h1;have hX':=(hX.drop f.offset).take m;have hY':=(hY.drop f.offset).take m;obtain⟨k1,k2⟩:=hg f.type ti _ _ b1 _ _ kH h1 hX' hY';have r1:=Oa (hc.ti kH) bB (w:=w) (vs:=X) (fo:=f.offset) (λe=>(k1 e).1);have r2:=Oa (hc.ti kH) bB (w:=w) (vs:=Y) (fo:=f.offset) (λe=>(k1 e).2);have ih:=Acu hc hg hX hY fields b2 (λf hf=>hn f (XB _ hf)) h2;unfold Ol at k2;simp only[Op.eqFields,ne_eq,hn f (XA ..),not_false_eq_true,if_true,Sem.run_bind,r1,r2,k2,Result.andThen_ok];rw[L7];cases b1.den<;>simp[ih]
   .cases h
  .cases h
theorem Acv(hc:Az P cx){E:Env}{w:World}:∀(n d:Nat),n<=d->∀(t:TypeId) (ti:TI) (xs ys:List SV) (b:BT) (X Y:List Value),look t cx.tt=some ti->AY cx n t xs ys=some b->A6 E w xs X->A6 E w ys Y->
   (K7 ti.k=false->X.length=1/\Y.length=1)/\(Op.equalIn d t (Ol (K7 ti.k) X) (Ol (K7 ti.k) Y)).run P w=.ok b.den w
 |0,_,_,_,_,_,_,_,_,_,_,h,_,_=>by simp[AY]at h
 |n+1,0,hd,_,_,_,_,_,_,_,_,_,_,_=>by omega
 |n+1,d+1,hd,t,ti,xs,ys,b,X,Y,hl,h,hX,hY=>by
  simp only[AY,hl]at h
  split at h
  .rename_i k a1 a2 a3 e
   cases e;have hu:=(hc.ti hl).int rfl
   split at h
   .split at h
    .cases h
     obtain⟨u,rfl,j8⟩:=hX.one;obtain⟨v,rfl,qs⟩:=hY.one;refine⟨λ_=>⟨rfl,rfl⟩,?_⟩;rename_i e2;subst e2;rw[j8.aQ,qs.aQ];simp only[Ol,K7,Hz,Bz];exact run_equalIn_int w d t _ k _ _ hu
    .cases h
   .cases h
  .rename_i a1 a2 a3 e
   cases e;have hu:=(hc.ti hl).bool rfl
   split at h
   .cases h
    obtain⟨u,rfl,j8⟩:=hX.one;obtain⟨v,rfl,qs⟩:=hY.one;refine⟨λ_=>⟨rfl,rfl⟩,?_⟩;rw[j8.bI,qs.bI];simp only[Ol,K7];exact run_equalIn_bool' w d t _ _ hu
   .cases h
  .rename_i a1 a2 a3 e
   cases e;have hu:=(hc.ti hl).string rfl
   split at h
   .cases h
    obtain⟨u,rfl,j8⟩:=hX.one;obtain⟨v,rfl,qs⟩:=hY.one;refine⟨λ_=>⟨rfl,rfl⟩,?_⟩;rw[j8.cU,qs.cU];simp only[Ol,K7];refine (run_equalIn_string w d t _ _ hu).trans ?_;rw[Adx];rfl
   .cases h
  .rename_i fs a1 a2 a3 e
   cases e
   split at h
   .rename_i dP
    obtain⟨e1,e2,e3⟩:=hc.eqs t ((D1 _ _).1 dP);obtain⟨fields,hu,he,_⟩:=(hc.ti hl).struct rfl;have mI:P.fieldsOf t=fields:=by simp[Program.fieldsOf,hu]
    refine⟨λe=>by simp[K7]at e,?_⟩;simp only[Ol,K7,if_true];rw[run_equalIn_agg w d t ⟨X⟩ ⟨Y⟩ (by rw[mI];exact hu) e1];rw[mI]at e3 ⊢;rw[<-he]at h;exact Acu hc (λt ti xs ys b X Y a1 a2 a3 a4=>Acv hc n d (by omega) t ti xs ys b X Y a1 a2 a3 a4) hX hY fields.toList b e3 h
   .cases h
  .cases h
theorem Aau(cx:Cx)(a b:List UInt8):(gj cx a b).den=(a==b):=by
 unfold gj
 split<;>rfl
theorem Abj{E:Env}{w:World}{s:SV}{nl:BT}{v:Value}(h:jd s=some nl)(hr:Rel E w s v):∃a m c,v=.slice a m c/\(nl.den=a.isNone):=by
 have key:∀(a:Option Addr),(nl.den=true↔a=none)->nl.den=a.isNone:=by
  intro a ha;cases a with
  |none=>simpa using ha
  |some x=>simpa using ha
 have bD:∀ {n:ST} {sz:Nat} {f:Nat->List SV},RO E.I w (.sl nl n sz f) v->∃a m c,v=.slice a m c/\(nl.den=a.isNone):=by
  intro n sz f hr;cases hr with
  |slnil h hn=>exact⟨none,0,0,rfl,h⟩
  |sl g h hn hc eY hs hl h1 aN bF=>exact⟨_,_,_,rfl,h⟩
 unfold jd at h
 split at h<;>simp only[Option.some.injEq,reduceCtorEq]at h
 .subst h
  cases hr with
  |ro h=>exact bD h
 .subst h
  cases hr with
  |ro h=>cases h
  |dQ h _=>exact bD h
 .subst h
  obtain⟨⟨a,m,c,e1,_,e2⟩,_⟩:=hr.iO;exact⟨a,m,c,e1,key a e2⟩
 .subst h
  obtain⟨⟨a,m,c,e1,_,e2⟩,_⟩:=hr.jR;exact⟨a,m,c,e1,key a e2⟩
theorem run_eql_slice_nil{w:World}{t e:TypeId}(a:Option Addr)(n c:Nat)(h:P.underlying t=some (.slice e)):
  (binOp .eql t (.slice a n c) (.slice none 0 0)).run P w=.ok (.bool a.isNone) w:=by
 have h:∀d:Nat,(Op.equalIn (d+1) t (.slice a n c) (.slice none 0 0)).run P w=.ok a.isNone w:=λd=>by
  cases a<;>simp[Op.equalIn,run_underlying h]
 simp only[binOp];simp[Op.equal,Op.maxDepth,h 9999]
theorem Nb{w:World}{t e:TypeId}(a:Option Addr)(n c:Nat)(h:P.underlying t=some (.slice e)):
  (binOp .neq t (.slice a n c) (.slice none 0 0)).run P w=.ok (.bool (!a.isNone)) w:=by
 have h:∀d:Nat,(Op.equalIn (d+1) t (.slice a n c) (.slice none 0 0)).run P w=.ok a.isNone w:=λd=>by
  cases a<;>simp[Op.equalIn,run_underlying h]
 simp only[binOp];simp[Op.equal,Op.maxDepth,h 9999]
theorem Ie{op:BinOp}{t:TypeId}{x y:Operand}{a:Option Addr}{n c n' c':Nat}{w:World}:(eqGuard op t x y (.slice a n c) (.slice none n' c')).run P w=.ok () w:=by
 unfold eqGuard;cases op<;>rfl
theorem Aeo(hc:Az P cx){op:BinOp}{t u:TypeId}{x y:Operand}(ho:o.op=.binOp op t x y u){sx:SV}{f:Nat->List SV}(hx:rd cx σ T x=some sx)(hy:rd cx σ T y=some (.sl (.l true) (.l 0) 0 f))
  {e:TypeId} {a1 a2:Nat} {a3:List SV} (hl:look t cx.tt=some ⟨.slice e,a1,a2,a3⟩) {nl:BT} (hn:jd sx=some nl) (h:LS op nl K):∃r,K r/\Local P cx.gl σ T o r:=by
 have hu:=(hc.ti hl).slice rfl;have FT:∀ {E:Env} {w:World} {v:Value},Rel E w (.sl (.l true) (.l 0) 0 f) v->v=.slice none 0 0:=by
  intro E w v hr;cases hr with
  |ro h=>cases h with
   |slnil=>rfl
   |sl g h=>cases h
 unfold LS at h
 split at h
 .refine⟨_,h,Cf ho hx hy λE w vx vy _ h1 h2=>?_⟩
  obtain⟨a,m,c,rfl,e1⟩:=Abj hn h1;rw[FT h2];exact⟨_,Ie,run_eql_slice_nil a m c hu,.bool e1⟩
 .refine⟨_,h,Cf ho hx hy λE w vx vy _ h1 h2=>?_⟩
  obtain⟨a,m,c,rfl,e1⟩:=Abj hn h1;rw[FT h2];exact⟨_,Ie,Nb a m c hu,.bool (by rw[Lk,e1])⟩
 .exact h.elim
theorem Xn{E:Env}{w:World}{s:SV}{b:BT}{v:Value}(h:Amb s=some b)(hr:Rel E w s v):(v=.nilIface/\b.den=true)\/((∃t x,v=.iface t x)/\b.den=false):=by
 unfold Amb at h
 split at h<;>simp only[Option.some.injEq,reduceCtorEq]at h
 .subst h
  cases hr with
  |ro h=>cases h with
   |rU h=>exact h
 .subst h
  cases hr with
  |ro h=>cases h with
   |raw h=>exact .inl ⟨h,rfl⟩
theorem Em.iface{t:Nat}{ti:TI}(h:Em P t ti)(hk:ti.k=.iface):∃ms,P.underlying t=some (.interface ms):=by
 obtain⟨d,hd,hb⟩:=h.xP;rw[hk]at hb;cases d<;>simp only[Jl,XD]at hb;exact⟨_,hd⟩
theorem Q1{w:World}{t:TypeId}{ms}{v:Value}{b:Bool}(h:P.underlying t=some (.interface ms))(hv:(v=.nilIface/\b=true)\/((∃t x,v=.iface t x)/\b=false))(d:Nat):(Op.equalIn (d+1) t v .nilIface).run P w=.ok b w:=by
 rcases hv with⟨rfl,rfl⟩|⟨⟨_,_,rfl⟩,rfl⟩<;>simp[Op.equalIn,run_underlying h]
theorem Kv{op:BinOp}{t:TypeId}{x:Operand}{c v:Value}{w:World}:(eqGuard op t x (.const c) v .nilIface).run P w=.ok () w:=by
 unfold eqGuard;cases op<;>first|rfl|(cases v<;>simp)
theorem V8(hc:Az P cx){op:BinOp}{t u:TypeId}{x y:Operand}(ho:o.op=.binOp op t x y u){sx sy:SV}(hx:rd cx σ T x=some sx)(hy:rd cx σ T y=some sy)(h:Ym cx op t sx y K):∃r,K r/\Local P cx.gl σ T o r:=by
 unfold Ym at h
 split at h
 .rename_i b a1 a2 a3 hb hl
  obtain⟨ms,hu⟩:=(hc.ti hl).iface rfl;have FT:∀ {E:Env} {w:World} {v:Value},Rel E w sy v->v=.nilIface:=by
   intro E w v hr;simp only[rd,ofConst,Option.some.injEq]at hy;subst hy;cases hr with
   |ro h=>cases h with
    |raw h=>exact h
  unfold LS at h
  split at h
  .refine⟨_,h,Cf ho hx hy λE w vx vy _ h1 h2=>?_⟩
   have hv:=Xn hb h1;rw[FT h2];refine⟨.bool b.den,Kv,?_,.bool rfl⟩;simp only[binOp];simp[Op.equal,Op.maxDepth,Q1 hu hv 9999]
  .refine⟨_,h,Cf ho hx hy λE w vx vy _ h1 h2=>?_⟩
   have hv:=Xn hb h1;rw[FT h2];refine⟨.bool (!b.den),Kv,?_,.bool (Lk b)⟩;simp only[binOp];simp[Op.equal,Op.maxDepth,Q1 hu hv 9999]
  .exact h.elim
 .exact h.elim
theorem V9(hc:Az P cx){op:BinOp}{t u:TypeId}{x y:Operand}(ho:o.op=.binOp op t x y u){sx sy:SV}(hx:rd cx σ T x=some sx)(hy:rd cx σ T y=some sy)(h:Yn cx σ.gm T op t sx sy K):
  ∃r,K r/\Local P cx.gl σ T o r:=by
 unfold Yn at h
 split at h
 .rename_i k a k' b
  split at h
  .rename_i har
   split at h
   .rename_i hk
    subst hk;refine⟨_,h,Cf ho hx hy λE w vx vy _ h1 h2=>?_⟩;rw[h1.aQ,h2.aQ];exact⟨_,Ez,Wx har,.int (Adf _ _ _ _)⟩
   .exact h.elim
  .split at h
   .rename_i eY
    split at h
    .rename_i hk
     subst hk;refine⟨_,h,Cf ho hx hy λE w vx vy _ h1 h2=>?_⟩;rw[h1.aQ,h2.aQ];exact⟨_,Ez,Ade eY,.bool (Hz _ _ _)⟩
    .exact h.elim
   .have GM:∀(jc:BinOp),(jc=.quo\/jc=.rem)->op=jc->(if k=k' then Ob cx.D σ.gm T (NZ (cx.D.i b))/\out K (.int k (.bin op k a b)) else False)->∃r,K r/\Local P cx.gl σ T o r:=by
     intro jc SZ e hh
     split at hh
     .rename_i hk
      subst hk;obtain⟨kL,hh⟩:=hh;rw[hc.D,Dj]at kL;refine⟨_,hh,Cf ho hx hy λE w vx vy hT h1 h2=>?_⟩;rw[h1.aQ,h2.aQ];have hb:b.den≠0:=(kL hT).h;refine⟨.int k (Eg op k a.den b.den),Ez,?_,.int rfl⟩;subst e;rcases SZ with rfl|rfl<;>simp[binOp,Op.intDiv,Eg,hb]
     .exact hh.elim
    have aw:∀(jc:BinOp),(jc=.shl\/jc=.shr)->op=jc->(Ob cx.D σ.gm T (NN (cx.D.i b))/\out K (.int k (.bin op k a b)))->∃r,K r/\Local P cx.gl σ T o r:=by
     intro jc SZ e hh;obtain⟨kL,hh⟩:=hh;rw[hc.D,Dj]at kL;refine⟨_,hh,Cf ho hx hy λE w vx vy hT h1 h2=>?_⟩;rw[h1.aQ,h2.aQ];have hb:0<=b.den:=(kL hT).h;refine⟨.int k (Eg op k a.den b.den),Ez,?_,.int rfl⟩;have oE:¬b.den<0:=by omega
     subst e;rcases SZ with rfl|rfl<;>simp[binOp,Op.shift,Eg,oE]
    split at h
    .exact GM _ (.inl rfl) rfl h
    .exact GM _ (.inr rfl) rfl h
    .exact aw _ (.inl rfl) rfl h
    .exact aw _ (.inr rfl) rfl h
    .exact h.elim
 .rename_i a b
  split at h
  .rename_i a1 a2 a3 hl
   have hu:=(hc.ti hl).bool rfl;refine⟨_,h,Cf ho hx hy λE w vx vy _ h1 h2=>?_⟩;rw[h1.bI,h2.bI];refine⟨.bool (a.den==b.den),Jb,?_,.bool rfl⟩;simp only[binOp,Op.equal,Op.maxDepth,Sem.run_bind,run_equalIn_bool' w 9999 t _ _ hu,Result.andThen_ok,Sem.run_pure]
  .rename_i a1 a2 a3 hl
   have hu:=(hc.ti hl).bool rfl;refine⟨_,h,Cf ho hx hy λE w vx vy _ h1 h2=>?_⟩;rw[h1.bI,h2.bI];refine⟨.bool (!(a.den==b.den)),Jb,?_,.bool rfl⟩;simp only[binOp,Op.equal,Op.maxDepth,Sem.run_bind,run_equalIn_bool' w 9999 t _ _ hu,Result.andThen_ok,Sem.run_pure]
  .exact h.elim
 .rename_i a b
  split at h
  .obtain⟨kL,h⟩:=h
   rw[hc.D,Dj]at kL;refine⟨_,h _ ⟨rfl⟩,Cf ho hx hy λE w vx vy hT h1 h2=>?_⟩;rw[h1.cU,h2.cU];have hle:=(kL hT).h;refine⟨.string (bytes (a++b)),G7,?_,.ro (.str rfl)⟩;have hs:∀l:List UInt8,(bytes l).size=l.length:=λ_=>rfl;have nM:¬(IntKind.i64.max<((a.length+b.length:Nat):Int)):=by
    have:IntKind.i64.max=9223372036854775807:=by decide
    omega
   have ly:bytes a++bytes b=bytes (a++b):=by
    apply ByteArray.ext;rw[ByteArray.data_append];simp[bytes]
   simp only[binOp,Op.stringOp,hs,gt_iff_lt,nM,if_false,ly,Sem.run_pure]
  .refine⟨_,h,Cf ho hx hy λE w vx vy _ h1 h2=>?_⟩
   rw[h1.cU,h2.cU];exact⟨.bool (a==b),G7,by simp only[binOp,Op.stringOp,Adx,Sem.run_pure],.bool (Aau cx a b)⟩
  .refine⟨_,h,Cf ho hx hy λE w vx vy _ h1 h2=>?_⟩
   rw[h1.cU,h2.cU];exact⟨.bool (!(a==b)),G7,by simp only[binOp,Op.stringOp,Adx,Sem.run_pure],.bool (by rw[Lk,Aau])⟩
  .exact h.elim
 .rename_i a b
  have key:∀c,(K6 t cx.eqs&&cH cx t)=true->AY cx 8 t a b=some c->∀(E:Env) (w:World) (vx vy:Value),Rel E w (.agg a) vx->Rel E w (.agg b) vy->
    ∃X Y,vx=.agg ⟨X⟩/\vy=.agg ⟨Y⟩/\∀(x y:Operand),(eqGuard op t x y vx vy).run P w=.ok () w/\(Op.equalIn 10000 t vx vy).run P w=.ok c.den w:=by
   intro c eT he E w vx vy h1 h2;simp only[QE]at eT;have:∃ti,look t cx.tt=some ti:=by
    cases hl:look t cx.tt with
    |none=>simp[AY,hl]at he
    |some ti=>exact⟨ti,rfl⟩
   obtain⟨ti,hl⟩:=this;obtain⟨X,rfl,hX⟩:=h1.iT;obtain⟨Y,rfl,hY⟩:=h2.iT;obtain⟨k1,k2⟩:=Acv hc 8 10000 (by decide) t ti a b c X Y hl he hX hY;rw[dF hl]at eT;rw[eT.2]at k2;exact⟨X,Y,rfl,rfl,λx y=>⟨run_eqGuard_agg w op t x y _ _ (hc.eqs t ((D1 _ _).1 eT.1)).2.1,k2⟩⟩
  split at h
  .rename_i c eT he
   refine⟨_,h,Cf ho hx hy λE w vx vy _ h1 h2=>?_⟩;obtain⟨X,Y,rfl,rfl,hk⟩:=key c eT he E w vx vy h1 h2;obtain⟨g1,g2⟩:=hk x y;refine⟨.bool c.den,g1,?_,.bool rfl⟩;rw[run_eql_struct,g2];rfl
  .rename_i c eT he
   refine⟨_,h,Cf ho hx hy λE w vx vy _ h1 h2=>?_⟩;obtain⟨X,Y,rfl,rfl,hk⟩:=key c eT he E w vx vy h1 h2;obtain⟨g1,g2⟩:=hk x y;refine⟨.bool (!c.den),g1,?_,.bool (Lk c)⟩;rw[run_neq_struct,g2];rfl
  .exact h.elim
 .skip
  split at h
  .rename_i nl e a1 a2 a3 hn hl
   exact Aeo hc ho hx hy hl hn h
  .exact h.elim
 .exact h.elim
end
section
variable {P:Program} {cx:Cx} {σ:Sy} {T:List Nat} {o:Oper} {K:Out->Prop}
theorem Ep{B:Bs}{N:Nat}{E:Env}{a:Act}{w:World}{ff:Nat->SG}{hf:Nat->Hl}(hg:Fh B cx.gl)(st:St B N E a w ff hf)(hT:Bh (Ac σ.gm T)):
  ∀(ps:List (Nat×Operand)) (vs:List (Nat×SV)),(∀p∈ps,∀s∈Ct p.2,ff s=Bd σ s)->Gk cx σ T ps=some vs->vs.length=ps.length/\∀(i:Nat) (p:Nat×SV) (q:Nat×Operand),vs[i]?=some p->ps[i]?=some q->p.1=q.1/\Rel E w p.2 (a.eval q.2)
 | [],vs,_,h=>by simp[Gk]at h;subst h;simp
 |(i,x) :: ps,vs,ag,h=>by
  simp only[Gk]at h
  split at h
  .rename_i v us hv jB
   cases h;obtain⟨h1,h2⟩:=Ep hg st hT ps us (λp hp=>ag p (XB _ hp)) jB;refine⟨by simp[h1],λj p q hp hq=>?_⟩;cases j with
   |zero =>
    simp at hp hq;subst hp hq;exact⟨rfl,Aa hv hg st (ag _ (XA ..)) hT⟩
   |succ j=>simp at hp hq;exact h2 j p q hp hq
  .cases h
theorem Ak5{E:Env}{w:World}{cs vs:List SV}{C us:List Value}(h:A6 E w cs C)(hv:A6 E w vs us)(off:Nat)(hle:off+vs.length<=cs.length):A6 E w (C9 cs off vs) (C9 C off us):=by
 refine⟨by rw[Dd,Dd,h.1],λi s v h1 h2=>?_⟩;rw[Hv _ _ _ _ hle]at h1;rw[Hv _ _ _ _ (by rw[<-hv.1,<-h.1];exact hle)]at h2;rw[<-hv.1]at h2
 split at h1
 .rename_i e
  rw[QB e]at h2;exact hv.2 _ s v h1 h2
 .rename_i e
  rw[QA e]at h2;exact h.2 i s v h1 h2
theorem Xw:∀(us:List Value) (C:List Value) (off k:Nat),(us.zipIdx k).foldl (λ(cs:Array Value) (c:Value×Nat)=>cs.setIfInBounds (off+c.2) c.1) ⟨C⟩=⟨C9 C (off+k) us⟩
 | [],C,off,k=>rfl
 |u :: us,C,off,k=>by
  simp only[List.zipIdx_cons,List.foldl_cons];have:(⟨C⟩:Array Value).setIfInBounds (off+k) u=⟨Ax C (off+k) u⟩:=by rw[As];simp
  rw[this,Xw us _ off (k+1),C9];congr 1
theorem X2{place:Nat->Option (Nat×Nat)}{C:List Value}{i off n:Nat}{v:Value}{ps:List (Nat×Value)}(hp:place i=some (off,n))(hn:v.cells.size=n)(hle:off+n<=C.length):
  Instr.fill place ⟨C⟩ ((i,v) :: ps)=Instr.fill place ⟨C9 C off v.cells.toList⟩ ps:=by
 have hf:=Xw v.cells.toList C off 0;simp only[XY]at hf;have hz:v.cells.zipIdx.foldl (λ(cs:Array Value) (c:Value×Nat)=>cs.setIfInBounds (off+c.2) c.1) ⟨C⟩=⟨C9 C off v.cells.toList⟩:=by
  rw[<-hf,<-Array.foldl_toList];congr 1;simp
 simp only[Instr.fill,hp];rw[QA (by simp;omega)];rw[<-hz]
theorem Rl(hc:Az P cx){E:Env}{w:World}{t:Nat}{ti:TI}(hl:look t cx.tt=some ti){place:Nat->Option (Nat×Nat)}
  (tW:∀(i off n:Nat),(∃fs ft,ti.k=.struct fs/\nth fs i=some (off,ft)/\size? cx ft=some n)\/(∃m e,ti.k=.array m e/\size? cx e=some n/\off=i * n)->place i=some (off,n)):
  ∀(vs:List (Nat×SV)) (us:List (Nat×Value)) (cs dH:List SV) (C:List Value),vs.length=us.length->(∀(i:Nat) (p:Nat×SV) (q:Nat×Value),vs[i]?=some p->us[i]?=some q->p.1=q.1/\Rel E w p.2 q.2)->(∀p∈vs,Ej p.2.cells=true)->A6 E w cs C->
   Rm cx t cs vs=some dH->∃C',Instr.fill place ⟨C⟩ us=some ⟨C'⟩/\A6 E w dH C'
 | [],us,cs,dH,C,hlen,_,_,hr,h=>by
  have:us=[]:=XN (by simpa using hlen.symm);subst this;simp[Rm]at h;subst h;exact⟨C,rfl,hr⟩
 |(i,v) :: vs,us,cs,dH,C,hlen,bF,h1,hr,h=>by
  match us,hlen,bF with
  |(i',u) :: us,hlen,bF =>
   obtain⟨e0,RX⟩:=bF 0 (i,v) (i',u) rfl rfl;simp only at e0;subst e0;have cW:=H4 (h1 _ (XA ..)) RX;simp only[Rm,hl]at h;have fin:∀(off n:Nat),place i=some (off,n)->(Ah v.cells==n&&Nat.ble (off+n) (Ah cs))=true->Rm cx t (C9 cs off v.cells) vs=some dH->∃C',Instr.fill place ⟨C⟩ ((i,u) :: us)=some ⟨C'⟩/\A6 E w dH C':=by
    intro off n hp hb h;simp only[QE,QS,Nat.ble_eq,Af]at hb;obtain⟨b1,b2⟩:=hb;have bB:u.cells.size=n:=by rw[<-b1,cW.1];simp
    rw[X2 hp bB (by rw[<-hr.1];exact b2)];exact Rl hc hl tW vs us _ dH _ (by simpa using hlen) (λj p q a b=>bF (j+1) p q (by simpa using a) (by simpa using b)) (λp hp=>h1 p (XB _ hp)) (Ak5 hr cW off (by show off+v.cells.length<=cs.length;omega)) h
   split at h
   .rename_i fs a1 a2 a3 e
    cases e
    split at h
    .rename_i off ft hn
     split at h
     .rename_i n bB
      split at h
      .rename_i hb
       exact fin off n (tW i off n (.inl ⟨fs,ft,rfl,hn,bB⟩)) hb h
      .cases h
     .cases h
    .cases h
   .rename_i m e a1 a2 a3 e2
    cases e2
    split at h
    .rename_i n bB
     split at h
     .rename_i hb
      exact fin (i * n) n (tW i _ n (.inr ⟨m,e,rfl,bB,rfl⟩)) hb h
     .cases h
    .cases h
   .cases h
theorem Q9{Q:Program}:∀(fs:List Field),(∀f∈fs,∃i,Q.info? f.type=some i)->∃places:List (Nat×Nat),fs.mapM (λ(f:Field)=>(Q.info? f.type).map λi=>(f.offset,i.size))=some places/\∀i:Nat,places[i]?=(fs[i]?).bind λ(f:Field)=>(Q.info? f.type).map λj=>(f.offset,j.size)
 | [],_=>⟨[],by simp,by simp⟩
 |f :: fs,h=>by
  obtain⟨i,hi⟩:=h f (XA ..);obtain⟨ps,h1,h2⟩:=Q9 (Q:=Q) fs (λf hf=>h f (XB _ hf));refine⟨(f.offset,i.size) :: ps,by simp[List.mapM_cons,hi,h1],λj=>?_⟩;cases j with
  |zero=>simp[hi]
  |succ j=>simp[h2]
theorem Jg:∀ {ps:List (Nat×SV)},Om ps=true->∀p∈ps,Ej p.2.cells=true
 | [],_,p,hp=>by cases hp
 |q :: ps,h,p,hp=>by
  simp only[Om,QE]at h;rcases List.mem_cons.1 hp with rfl|hp
  .exact h.1
  .exact Jg h.2 p hp
theorem Ra(hc:Az P cx){t:Nat}{ps:Array (Nat×Operand)}(ho:o.op=.build t ps){ti:TI}(hl:look t cx.tt=some ti){vs:List (Nat×SV)}(hv:Gk cx σ T ps.toList=some vs)(h1:Om vs=true){cs:List SV}
  (hf:Rm cx t ti.zero vs=some cs) (hk:(∃fs,ti.k=.struct fs)\/∃n e,ti.k=.array n e) (bB:∀e n,ti.k=.array n e->∃m,size? cx e=some m):Local P cx.gl σ T o ⟨.agg cs,[],[],[]⟩:=by
 intro B N E a w ff cY hg st ag bK hT;have eT:∀p∈ps.toList,∀s∈Ct p.2,ff s=Bd σ s:=λp hp=>Ak ag (by simp only[ho,Op.operands];simp;exact⟨p.1,by simpa using hp⟩);obtain⟨h2,h3⟩:=Ep hg st hT ps.toList vs eT hv;obtain⟨z,hz,zW,_⟩:=(hc.ti hl).zero E w;obtain⟨i,z',hi,aK8,_,FR,_⟩:=(hc.ti hl).info;have FO:z'=z:=by
  have:(zeroValue t).run P w=.ok z' w:=by simp[zeroValue,typeInfo,hi,FR]
  rw[hz]at this;simpa using this.symm
 subst FO;have jB:∀(j:Nat) (p:Nat×SV) (q:Nat×Value),vs[j]?=some p->((ps.map λ(x:Nat×Operand)=>(x.1,a.eval x.2)).toList)[j]?=some q->p.1=q.1/\Rel E w p.2 q.2:=by
  intro j p q hp hq;rw[ZL,QR]at hq;cases tY:ps.toList[j]? with
  |none=>rw[tY]at hq;cases hq
  |some x =>
   rw[tY]at hq;simp only[QP,Option.some.injEq]at hq;subst hq;exact h3 j p x hp tY
 have fin:∀(place:Nat->Option (Nat×Nat)),(∀(i off n:Nat),(∃fs ft,ti.k=.struct fs/\nth fs i=some (off,ft)/\size? cx ft=some n)\/(∃m e,ti.k=.array m e/\size? cx e=some n/\off=i * n)->place i=some (off,n))->
   (∀us,P.built t us=Instr.fill place z'.cells us)->Yields P o ⟨.agg cs,[],[],[]⟩ B E a w cY:=by
  intro place gJ hb;obtain⟨C',c1,c2⟩:=Rl hc hl gJ vs (ps.map λ(x:Nat×Operand)=>(x.1,a.eval x.2)).toList ti.zero cs z'.cells.toList (by simp[h2]) jB (Jg h1) zW hf;have aV:=run_build (P:=P) w t (ps.map λ(x:Nat×Operand)=>(x.1,a.eval x.2)) ⟨C'⟩ (by rw[hb];exact c1);refine Ad st (v:=.agg ⟨C'⟩) ?_ rfl c2.agg;simp only[execOp,ho,Sem.run_bind];rw[aV];rfl
 rcases hk with⟨fs,hk⟩|⟨n,e,hk⟩
 .obtain⟨fields,hu,he,eR⟩:=(hc.ti hl).struct hk
  obtain⟨places,p1,p2⟩:=Q9 (Q:=P) fields.toList eR;refine fin (places.toArray[·]?) ?_ ?_
  .rintro i off n (⟨fs',ft,k1,k2,k3⟩|⟨m,e,k1,_⟩)
   .rw[hk]at k1
    cases k1;obtain⟨f,f1,f2,f3⟩:=Nn he k2;obtain⟨fi,nO,hs⟩:=bH k3;obtain⟨ii,zz,hii,eH,_⟩:=(hc.ti nO).info;simp only[List.getElem?_toArray];rw[p2 i,QX,f1];subst f3;simp[hii,f2,eH,hs]
   .rw[hk]at k1;cases k1
  .intro us
   simp only[Program.built,hi,hu,FR,p1]
 .have hu:=(hc.ti hl).array hk
  obtain⟨m,hm⟩:=bB e n hk;obtain⟨te,kJ,hs⟩:=bH hm;obtain⟨ie,ze,hie,eH,_⟩:=(hc.ti kJ).info;refine fin (λi=>some (i * ie.size,ie.size)) ?_ ?_
  .rintro i off n' (⟨fs',ft,k1,_⟩|⟨m',e',k1,k2,k3⟩)
   .rw[hk]at k1;cases k1
   .rw[hk]at k1
    cases k1;rw[hm]at k2;cases k2;simp[k3,eH,hs]
  .intro us
   simp only[Program.built,hi,hu,FR,hie]
end
end Go.Sx
