/- A part of the proof: contracts of functions, or the executor and its soundness. No conditions. -/
import Derived.Test.YtdoogdbjiijifaaGreatDoorE7Pab
namespace Go.Sx
open Go
section
variable {P:Program} {cx:Cx} {σ:Sy} {T:List Nat} {o:Oper} {K:Out->Prop}
theorem add_lit(b off j:Nat):(⟨b,off,none⟩:Addr).add j=⟨b,off+j,none⟩:=by
 unfold Addr.add;split<;>simp_all
theorem Fm{t:Nat}{ti:TI}(h:Bm P t ti){w:World}{b off:Nat}{vs:List Value}(hc:∀(j:Nat) (v:Value),vs[j]?=some v->w.cell? ⟨b,off+j,none⟩=some v)(hn:vs.length=ti.size)
  {agg:Bool} (ha:agg=Fe ti.k) (h1:agg=false->vs.length=1):
  (Instr.loadAt t (.pointer (some ⟨b,off,none⟩))).run P w=.ok (if agg then .agg ⟨vs⟩ else vs.headD undef) w:=by
 have hI:=h.isAgg w;have hS:=h.sizeOf w;subst ha;simp only[Instr.loadAt,Instr.sureAddr,loadVar,Sem.run_bind,Sem.run_pure,Result.andThen_ok,hI];cases hk:Fe ti.k with
 |true =>
  rw[<-hn]at hS;have:=run_loadCells_list (P:=P) w ⟨b,off,none⟩ vs (λj v hj=>by rw[add_lit];exact hc j v hj);simp[hS,this]
 |false =>
  rw[hk]at h1
  match vs,h1 rfl,hc with
  | [v],_,hc =>
   have:=hc 0 v rfl;simp only[ZA]at this;simp[run_load,this]
theorem Gb{E:Env}{w:World}{agg:Bool}{cs:List SV}{s:SV}{vs:List Value}(h:pack agg cs=some s)(hr:A1 E w cs vs):(agg=false->vs.length=1)/\Rel E w s (if agg then .agg ⟨vs⟩ else vs.headD undef):=by
 unfold pack at h;cases agg with
 |true=>simp only[if_true,Option.some.injEq]at h;subst h;exact⟨(λe=>by cases e),hr.agg⟩
 |false =>
  simp only[QR,if_false]at h
  split at h
  .rename_i c
   cases h
   match vs,hr with
   | [v],hr=>exact⟨λ_=>rfl,hr.2 0 s v rfl rfl⟩
   | [],hr=>exact absurd hr.1 (by simp)
   |_ :: _ :: _,hr=>exact absurd hr.1 (by simp)
  .cases h
theorem Bx{hp:List Hl}{h:Nat}{hl:Hl}(e:nth hp h=some hl):Ap hp h=hl:=by simp[Ap,e]
theorem Abt{E:Env}{w:World}{cs dK:List SV}{C:List Value}{off n:Nat}(hr:A1 E w dK C)(hl:dK.length=cs.length)(fH:∀j,off<=j->j<off+n->dK[j]?=cs[j]?):
  A1 E w ((cs.drop off).take n) ((C.drop off).take n):=by
 refine⟨by simp[<-hr.1,hl],λi s v h1 h2=>?_⟩;rw[QL]at h1 h2
 split at h1
 .rename_i hi
  rw[QE hi]at h2;rw[XL]at h1 h2;exact hr.2 (off+i) s v (by rw[fH _ (by omega) (by omega)];exact h1) h2
 .cases h1
theorem bO.eU{E:Env}{w:World}{h:Nat}{ty:TypeId}{cs:List SV}(hk:bO E w h (.aE ty cs)):∃b C,E.β h=some b/\E.O b=some h/\w.heap[b]?=some (.cells C ty (0,0))/\A1 E w cs C.toList/\(∀v∈C.toList,v.oneCell'=true)/\∀o,¬E.I b o:=by
 obtain⟨b,C,h1,h2,h3,h4,h5,h6,h7⟩:=hk;exact⟨b,C,h1,h2,h3,⟨by simp[h4],λi s v p q=>h5 i s v p (by simpa using q)⟩,λv hv=>h6 v (by simpa using hv),h7⟩
theorem Vf(hc:Az P cx){t:Nat}{x:Operand}(ho:o.op=.load t x){h off n:Nat}{ty:TypeId}{cs:List SV}{s:SV}(hv:rd cx σ T x=some (.ptr h off))(hn:size? cx t=some n)
  (hh:nth σ.hp h=some (.aE ty cs)) (hle:off+n<=cs.length) (hp:pack (cG cx t) ((cs.drop off).take n)=some s):Local P cx.gl σ T o ⟨s,[],[],[(h,off,n)]⟩:=by
 intro B N E a w ff hf hg st ag bJ hT;have hr:=Aa hv hg st (Aj ag (by simp[ho,Op.operands])) hT;obtain⟨b,hb,hx⟩:=hr.dW;obtain⟨dK,e2,e3,e4⟩:=bJ.AX _ (List.mem_singleton.2 rfl) ty cs (Bx hh);have hk:=st.heap h;rw[e2]at hk;obtain⟨b',C,k1,_,k3,k4,_,_⟩:=hk.eU;obtain rfl:b=b':=Option.some.inj (hb.symm.trans k1);obtain⟨ti,cY,aM⟩:=bF hn;have jJ:=Abt (off:=off) (n:=n) k4 e3 e4;obtain⟨p1,p2⟩:=Gb hp jJ;have hlen:((C.toList.drop off).take n).length=n:=by rw[<-jJ.1];simp;omega
 have aG:=Fm (hc.ti cY) (w:=w) (b:=b) (off:=off) (vs:=(C.toList.drop off).take n) (λj v hj=>by
  rw[QL]at hj
  split at hj
  .rw[XL]at hj
   rw[cell_of_row w b (off+j) C ty (0,0) k3];simpa using hj
  .cases hj) (by rw[hlen,aM]) (dJ cY) p1
 exact Ae st (by simp[execOp,ho,hx,aG]) rfl p2
theorem RO.eV{I:Nat->Nat->Prop}{w:World}{cs:List SV}{v:Value}(h:RO I w (.dB cs) v):∃a,v=.pointer (some a)/\a.spot=none/\∃g:Nat->Value,(∀j,j<cs.length->(g j).oneCell'=true/\w.cell? ⟨a.block,a.off+j,none⟩=some (g j)/\I a.block (a.off+j))/\
  ∀(j:Nat) (s:SV),cs[j]?=some s->RO I w s (g j):=by
 cases h with
 |dB g hs h1 aK aY=>exact⟨_,rfl,hs,g,λj hj=>⟨h1 j hj,aK j hj⟩,aY⟩
theorem Rel.eV{E:Env}{w:World}{cs:List SV}{v:Value}(h:Rel E w (.dB cs) v):RO E.I w (.dB cs) v:=by
 cases h with
 |ro h=>exact h
theorem Ahe{E:Env}{w:World}{cs:List SV}{n:Nat}{g:Nat->Value}(hle:n<=cs.length)(h:∀(j:Nat) (s:SV),cs[j]?=some s->RO E.I w s (g j)):A1 E w (cs.take n) ((List.range n).map g):=by
 refine⟨by simp;omega,λi s v h1 h2=>?_⟩;rw[QL]at h1
 split at h1
 .rename_i hi
  have:v=g i:=by simp[hi]at h2;exact h2.symm
  subst this;exact .ro (h i s h1)
 .cases h1
theorem Ss(hc:Az P cx){t:Nat}{x:Operand}(ho:o.op=.load t x){n:Nat}{cs:List SV}{s:SV}(hv:rd cx σ T x=some (.dB cs))(hn:size? cx t=some n)
  (hle:n<=cs.length) (hp:pack (cG cx t) (cs.take n)=some s):Local P cx.gl σ T o ⟨s,[],[],[]⟩:=by
 intro B N E a w ff hf hg st ag bJ hT;have hr:=Aa hv hg st (Aj ag (by simp[ho,Op.operands])) hT;obtain⟨ad,hx,hs,g,aK,aY⟩:=hr.eV.eV;obtain⟨b,off,sp⟩:=ad;simp only at hs aK;subst hs;obtain⟨ti,cY,aM⟩:=bF hn;have jJ:=Ahe (E:=E) hle aY;obtain⟨p1,p2⟩:=Gb hp jJ;have aG:=Fm (hc.ti cY) (w:=w) (b:=b) (off:=off) (vs:=(List.range n).map g) (λj v hj=>by
  by_cases BU:j<n
  .simp[BU]at hj
   rw[(aK j (by omega)).2.1,hj]
  .simp[BU]at hj) (by simp[aM]) (dJ cY) p1
 exact Ae st (by simp[execOp,ho,hx,aG]) rfl p2
theorem ba{B:Bs}{N:Nat}{E:Env}{a:Act}{w:World}{ff:Nat->SG}{hf:Nat->Hl}(st:St B N E a w ff hf){h off b:Nat}{ty:TypeId}{cs vs:List SV}{C:Array Value}{us:List Value}
  (hh:hf h=.aE ty cs) (gA:E.β h=some b) (hC:w.heap[b]?=some (.cells C ty (0,0))) (hr:A1 E w vs us) (h1:∀v∈us,v.oneCell'=true) (hle:off+us.length<=C.size) {C':Array Value} (hC':C'=(C.toList.take off++us++C.toList.drop (off+us.length)).toArray):
  Ext E w E (w.setRow b C')/\B8 B E (w.setRow b C')/\(∀k,bO E (w.setRow b C') k (yX hf (.set h off vs) k)):=by
 have hb:=st.base;have hk:=st.heap h;rw[hh]at hk;obtain⟨b',C1,k1,k2,k3,k4,k5,k6⟩:=hk.eU;obtain rfl:b=b':=Option.some.inj (gA.symm.trans k1);obtain⟨rfl⟩:C=C1:=by rw[hC]at k3;simpa using k3
 have hx:Ext E w E (w.setRow b C'):=⟨λ_ _ h=>h,λ_ _ h=>.inl h,λ_ _ h=>h,λ_ _ h=>h,λ_ _ h=>h,λb2 o hi=>cell_setRow_other w b C' ⟨b2,o,none⟩ (λe=>by subst e;exact k6 o hi)⟩;have hX:=(hb.dG b h k2).2;refine⟨hx,⟨hb.os,hb.tape,hb.output,by simpa using hb.size,?_,?_,?_,hb.cE,?_,hb.cS⟩,λk=>?_⟩
 .intro b2 aA kN
  by_cases e:b2=b
  .subst e;rcases hX with hX|hX
   .omega
   .exact absurd hX kN
  .rw[setRow_other w b b2 C' e];exact hb.old b2 aA kN
 .intro b2 o hi
  obtain⟨i1,i2⟩:=hb.I0 b2 o hi;exact⟨i1,by rw[hx.cell b2 o i1];exact i2⟩
 .intro b2 o hi;have:=hb.eJ b2 o hi;simpa using this
 .intro b2 k hO;have:=hb.dG b2 k hO;simpa using this
 .simp only[yX,hh]
  by_cases e:k=h
  .subst e
   simp only[aL,QE];have hlen:C'.size=C.size:=by subst hC';simp;omega
   have lG:=hr.1;refine⟨b,C',gA,k2,setRow_heap w b C C' ty (0,0) hC,by rw[hlen,Dd];have:=k4.1;simp at this;omega,λi s v p q=>?_,λv hv=>?_,k6⟩
   .have yM:cs.length=C.size:=by have:=k4.1;simpa using this
    rw[Hv vs cs off i (by omega)]at p;have q:(C.toList.take off++us++C.toList.drop (off+us.length))[i]?=some v:=by subst hC';simpa using q
    split at p
    .rename_i e
     rw[ZE,QU (by simp;omega),QJ (by simp;omega)]at q;simp at q;refine (hr.2 (i-off) s v p ?_).mono hx;rw[<-q];congr 1;omega
    .rename_i e
     have hq:C.toList[i]?=some v:=by
      by_cases hi:i<off
      .rw[ZE,QJ (by simp;omega),QL,QE hi]at q;exact q
      .rw[QU (by simp;omega),XL]at q
       rw[<-q];congr 1;simp;omega
     exact (k4.2 i s v p hq).mono hx
   .have hv:v∈(C.toList.take off++us++C.toList.drop (off+us.length)):=by subst hC';simpa using hv
    rw[YH,YH]at hv;rcases hv with (hv|hv)|hv
    .exact k5 v (VC hv)
    .exact h1 v hv
    .exact k5 v (List.mem_of_mem_drop hv)
  .simp only[aL,QD e]
   refine bO.keep hx (st.heap k) rfl rfl rfl rfl λb2 hO=>⟨hO,?_,λ_ h=>h⟩;refine setRow_other w b b2 C' (λe2=>?_);subst e2;rw[k2]at hO;exact e (Option.some.inj hO).symm
theorem Ac5(hc:Az P cx){t:Nat}{x y:Operand}(ho:o.op=.store t x y){h off n:Nat}{ty:TypeId}{cs:List SV}{s:SV}(hv:rd cx σ T x=some (.ptr h off))(hs:zM cx σ T t y=some s)(hn:size? cx t=some n)
  (hh:nth σ.hp h=some (.aE ty cs)) (hl:s.cells.length=n) (hle:off+n<=cs.length) (h1:D8 s.cells=true):Local P cx.gl σ T o ⟨.tup [],[.set h off s.cells],[],[]⟩:=by
 intro B N E a w ff hf hg st ag bJ hT K' Q hK;have hr:=Aa hv hg st (Aj ag (by simp[ho,Op.operands])) hT;have cP:=I6 hs hg st (Aj ag (by simp[ho,Op.operands])) hT;obtain⟨b,hb,hx⟩:=hr.dW;obtain⟨dK,e2,e3⟩:=bJ.gF _ (List.mem_singleton.2 rfl) ty cs (Bx hh);have hk:=st.heap h;rw[e2]at hk;obtain⟨b',C,k1,_,k3,k4,_,_⟩:=hk.eU;obtain rfl:b=b':=Option.some.inj (hb.symm.trans k1);obtain⟨ti,cY,aM⟩:=bF hn;have cV:=H1 h1 cP;have fO:=L8 h1 cV;have lG:(a.eval y).cells.toList.length=n:=by rw[<-cV.1];exact hl
 have CD:dK.length=C.size:=by have:=k4.1;simpa using this
 have lV:off+(a.eval y).cells.toList.length<=C.size:=by rw[lG];omega
 obtain⟨x1,x2,x3⟩:=ba (h:=h) (off:=off) st e2 hb k3 cV fO lV rfl;have aG:(Instr.storeAt t (.pointer (some ⟨b,off,none⟩)) (a.eval y)).run P w=.ok () (w.setRow b (C.toList.take off++(a.eval y).cells.toList++C.toList.drop (off+(a.eval y).cells.toList.length)).toArray):=by
  have hS:=(hc.ti cY).sizeOf w;have pP:=run_storeCells_at P b off ty (a.eval y).cells.toList 0 C w k3 (by simpa using lV) fO;have aV:((a.eval y).cells.size≠ti.size)=False:=by
   have:(a.eval y).cells.size=ti.size:=by rw[aM];simpa using lG
   simp[this]
  simp only[ZA]at pP;simp only[Instr.storeAt,Instr.sureAddr,storeVar,Sem.run_bind,Sem.run_pure,Result.andThen_ok,hS,aV,if_false,pP]
 unfold Oper.wp;have:(execOp a.eval o).run P w=.ok .skip (w.setRow b (C.toList.take off++(a.eval y).cells.toList++C.toList.drop (off+(a.eval y).cells.toList.length)).toArray):=by
  simp only[execOp,ho,hx,Sem.run_bind,aG,Result.andThen_ok,Sem.run_pure]
 rw[this];exact hK undef _ E x1 x2 x3 (.tup rfl (by simp))
end
section
variable {P:Program} {cx:Cx} {σ:Sy} {T:List Nat} {o:Oper} {K:Out->Prop}
theorem nC{t i fo ft:Nat}(h:gE cx t i=some (fo,ft)):∃ti fs,look t cx.tt=some ti/\ti.k=.struct fs/\nth fs i=some (fo,ft):=by
 unfold gE at h
 split at h
 .rename_i fs a b c hl;exact⟨_,fs,hl,rfl,h⟩
 .cases h
theorem H6(hc:Az P cx){t i fo ft m:Nat}(hf:gE cx t i=some (fo,ft))(hn:size? cx ft=some (m+1))(w:World)(ad:Addr):
  (Instr.fieldAt t (.pointer (some ad)) i).run P w=.ok (.pointer (some (ad.add fo))) w:=by
 obtain⟨ti,fs,hl,hk,hi⟩:=nC hf;obtain⟨fields,hu,he,_⟩:=(hc.ti hl).struct hk;obtain⟨f,oP,iR,IP⟩:=Fw he hi;obtain⟨fi,iL,aM⟩:=bF hn;have hS:=(hc.ti iL).sizeOf w;subst iR IP;simp[Instr.fieldAt,run_underlying hu,oP,Instr.sureAddr,fieldPlace,hS,aM]
theorem Mo(hc:Az P cx){t i fo ft m h off:Nat}{x:Operand}(ho:o.op=.fieldAddr t x i)(hv:rd cx σ T x=some (.ptr h off))(hf:gE cx t i=some (fo,ft))(hn:size? cx ft=some (m+1)):
  Local P cx.gl σ T o ⟨.ptr h (off+fo),[],[],[]⟩:=by
 intro B N E a w ff cR hg st ag bJ hT;have hr:=Aa hv hg st (Aj ag (by simp[ho,Op.operands])) hT;obtain⟨b,hb,hx⟩:=hr.dW;refine Ae st (v:=.pointer (some ⟨b,off+fo,none⟩)) ?_ rfl (.ptr hb rfl);simp[execOp,ho,hx,H6 hc hf hn,add_lit]
theorem Ra(ad:Addr)(n:Nat):(ad.add n).block=ad.block:=by unfold Addr.add;split<;>rfl
theorem Abf(ad:Addr)(n:Nat):(ad.add n).off=ad.off+n:=by unfold Addr.add;split<;>simp_all
theorem Wz(ad:Addr)(n:Nat)(h:ad.spot=none):(ad.add n).spot=none:=by unfold Addr.add;split<;>simp_all
theorem Ami{I:Nat->Nat->Prop}{w:World}{cs:List SV}{ad:Addr}(h:RO I w (.dB cs) (.pointer (some ad)))(fo m:Nat):RO I w (.dB ((cs.drop fo).take m)) (.pointer (some (ad.add fo))):=by
 obtain⟨zw,e,hs,g,aK,aY⟩:=h.eV;cases e;refine .dB (λj=>g (fo+j)) (Wz _ _ hs) (λj hj=>?_) (λj hj=>?_) (λj s hj=>?_)
 .simp at hj;exact (aK (fo+j) (by omega)).1
 .rw[Ra,Abf]
  simp at hj;have:=(aK (fo+j) (by omega)).2;rw[UD];exact this
 .rw[QL]at hj
  split at hj
  .rw[XL]at hj;exact aY (fo+j) s hj
  .cases hj
theorem K6(hc:Az P cx){t i fo ft m:Nat}{cs:List SV}{x:Operand}(ho:o.op=.fieldAddr t x i)(hv:rd cx σ T x=some (.dB cs))(hf:gE cx t i=some (fo,ft))(hn:size? cx ft=some (m+1)):
  Local P cx.gl σ T o ⟨.dB ((cs.drop fo).take (m+1)),[],[],[]⟩:=by
 intro B N E a w ff cR hg st ag bJ hT;have hr:=(Aa hv hg st (Aj ag (by simp[ho,Op.operands])) hT).eV;obtain⟨ad,hx,_⟩:=hr.eV;rw[hx]at hr;refine Ae st (v:=.pointer (some (ad.add fo))) ?_ rfl (.ro (Ami hr fo (m+1)));simp[execOp,ho,hx,H6 hc hf hn]
theorem Oh{t m fo:Nat}{ti:TI}(h:Bm P t ti)(aM:ti.size=m){w:World}{vs:List Value}(p1:Fe ti.k=false->((vs.drop fo).take m).length=1):
  (part t ⟨vs⟩ fo).run P w=.ok (if Fe ti.k then .agg ⟨(vs.drop fo).take m⟩ else ((vs.drop fo).take m).headD undef) w:=by
 have hS:=h.sizeOf w;have hA:=h.isAgg w;simp only[part,Sem.run_bind,hA,Result.andThen_ok];cases aR:Fe ti.k with
 |true =>
  simp only[if_true,Sem.run_bind,hS,Result.andThen_ok,Sem.run_pure,aM];congr 2;apply XN;simp
 |false =>
  have h1:=p1 aR;have hm:vs[fo]?=some (((vs.drop fo).take m).headD undef):=by
   match h3:(vs.drop fo).take m,h1 with
   | [v],_ =>
    have:((vs.drop fo).take m)[0]?=some v:=by rw[h3];rfl
    rw[QL]at this
    split at this
    .rw[XL]at this;simpa using this
    .cases this
  simp[hm]
theorem Ac8(hc:Az P cx){t i fo ft m:Nat}{cs:List SV}{x:Operand}{s:SV}(ho:o.op=.field t x i)(hv:rd cx σ T x=some (.agg cs))(hf:gE cx t i=some (fo,ft))(hn:size? cx ft=some m)
  (hle:fo+m<=cs.length) (hp:pack (cG cx ft) ((cs.drop fo).take m)=some s):Local P cx.gl σ T o ⟨s,[],[],[]⟩:=by
 intro B N E a w ff cR hg st ag bJ hT;have hr:=Aa hv hg st (Aj ag (by simp[ho,Op.operands])) hT;obtain⟨vs,hx,hl⟩:=hr.cW;obtain⟨ti,fs,cY,hk,hi⟩:=nC hf;obtain⟨fields,hu,he,_⟩:=(hc.ti cY).struct hk;obtain⟨f,oP,iR,IP⟩:=Fw he hi;obtain⟨fi,iL,aM⟩:=bF hn;have jJ:=(hl.drop fo).take m;obtain⟨p1,p2⟩:=Gb hp jJ;rw[dJ iL]at p1 p2;refine Ae st ?_ rfl p2;subst iR IP;have xU:=Oh (hc.ti iL) aM (w:=w) (vs:=vs) (fo:=f.offset) p1;simp[execOp,ho,hx,Instr.field,run_underlying hu,oP,asAgg,xU]
theorem RO.aS{I:Nat->Nat->Prop}{w:World}{nl:BT}{n:ST}{sz:Nat}{f:Nat->List SV}{v:Value}(h:RO I w (.sl nl n sz f) v):
  (v=.slice none 0 0/\n.den=0/\nl.den=true)\/∃(a:Addr) (m cap:Nat) (g:Nat->Nat->Value),v=.slice (some a) m cap/\nl.den=false/\n.den=(m:Int)/\m<=cap/\cap<=maxLen/\(0<m->a.spot=none)/\
   (∀i,i<m->(f i).length=sz)/\(∀i j,i<m->j<sz->(g i j).oneCell'=true)/\(∀i j,i<m->j<sz->w.cell? ⟨a.block,a.off+(i * sz+j),none⟩=some (g i j)/\I a.block (a.off+(i * sz+j)))/\(∀(i j:Nat) (s:SV),i<m->(f i)[j]?=some s->RO I w s (g i j)):=by
 cases h with
 |slnil h hn=>exact .inl ⟨rfl,hn,h⟩
 |sl g h hn hc fX hs hl h1 aK aY=>exact .inr ⟨_,_,_,g,rfl,h,hn,hc,fX,hs,hl,h1,aK,aY⟩
theorem Rel.aS{E:Env}{w:World}{nl:BT}{n:ST}{sz:Nat}{f:Nat->List SV}{v:Value}(h:Rel E w (.sl nl n sz f) v):RO E.I w (.sl nl n sz f) v:=by
 cases h with
 |ro h=>exact h
theorem Rel.kJ{E:Env}{w:World}{nl:BT}{n:ST}{sz:Nat}{f:Nat->List SV}{h:Nat}{v:Value}(hr:Rel E w (.eD nl n sz f h) v):RO E.I w (.sl nl n sz f) v/\T3 E h n.den v:=by
 cases hr with
 |ro h=>cases h
 |eD hr ht=>exact⟨hr,ht⟩
theorem Hm(hc:Az P cx){t e sz:Nat}{ti:TI}(hl:look t cx.tt=some ti)(hk:ti.k=.slice e)(hn:size? cx e=some sz){w:World}{a:Addr}{m cap:Nat}{k:IntKind}{i:Int}(h0:0<=i)(h1:i<m):
  (Instr.indexAt t (.slice (some a) m cap) (.int k i)).run P w=.ok (.pointer (some (a.add (i.toNat * sz)))) w:=by
 have hu:=(hc.ti hl).slice hk;obtain⟨te,iT,aM⟩:=bF hn;have hS:=(hc.ti iT).sizeOf w;simp[Instr.indexAt,run_underlying hu,asIntOf,h0,h1,hS,aM]
theorem Ahs{I:Nat->Nat->Prop}{w:World}{f:Nat->List SV}{sz m:Nat}{a:Addr}{g:Nat->Nat->Value}(hs:0<m->a.spot=none)(hl:∀i,i<m->(f i).length=sz)(h1:∀i j,i<m->j<sz->(g i j).oneCell'=true)
  (aK:∀i j,i<m->j<sz->w.cell? ⟨a.block,a.off+(i * sz+j),none⟩=some (g i j)/\I a.block (a.off+(i * sz+j))) (aY:∀(i j:Nat) (s:SV),i<m->(f i)[j]?=some s->RO I w s (g i j)) {j:Nat} (hj:j<m):
  RO I w (.dB (f j)) (.pointer (some (a.add (j * sz)))):=by
 refine .dB (g j) (Wz _ _ (hs (by omega))) (λq hq=>h1 j q hj (by rw[hl j hj]at hq;exact hq)) (λq hq=>?_) (λq s hq=>aY j q s hj hq);rw[Ra,Abf,UD];exact aK j q hj (by rw[hl j hj]at hq;exact hq)
theorem Vg(hc:Az P cx){t e sz:Nat}{ti:TI}(hl:look t cx.tt=some ti)(hk:ti.k=.slice e)(hn:size? cx e=some sz){x y:Operand}(ho:o.op=.indexAddr t x y){nl:BT}{n:ST}{f:Nat->List SV}{k:IntKind}{i:ST}
  (hv:rd cx σ T x=some (.sl nl n sz f)\/∃h,rd cx σ T x=some (.eD nl n sz f h)) (hi:rd cx σ T y=some (.int k i)) (h1:Ba (Ac σ.gm T)->0<=i.den/\i.den<n.den):Local P cx.gl σ T o ⟨.dB (f i.den.toNat),[],[],[]⟩:=by
 intro B N E a w ff cR hg st ag bJ hT;have hx:RO E.I w (.sl nl n sz f) (a.eval x):=by
  rcases hv with hv|⟨h,hv⟩
  .exact (Aa hv hg st (Aj ag (by simp[ho,Op.operands])) hT).aS
  .exact (Aa hv hg st (Aj ag (by simp[ho,Op.operands])) hT).kJ.1
 have hy:=(Aa hi hg st (Aj ag (by simp[ho,Op.operands])) hT).aW;obtain⟨b1,b2⟩:=h1 hT;rcases hx.aS with⟨_,e0,_⟩|⟨ad,m,cap,g,e0,_,e2,_,_,e4,e5,yp,e6,e7⟩
 .omega
 .have hj:i.den.toNat<m:=by omega
  refine Ae st (v:=.pointer (some (ad.add (i.den.toNat * sz)))) ?_ rfl (.ro (Ahs e4 e5 yp e6 e7 hj));have aG:=Hm hc hl hk hn (w:=w) (a:=ad) (m:=m) (cap:=cap) (k:=k) b1 (show i.den<(m:Int) by omega);simp[execOp,ho,e0,hy,aG]
theorem S1(hc:Az P cx){t e sz n:Nat}{ti:TI}(hl:look t cx.tt=some ti)(hk:ti.k=.array n e)(hn:size? cx e=some sz){x y:Operand}(ho:o.op=.indexAddr t x y){f:Nat->List SV}{k:IntKind}{i:ST}
  (hv:rd cx σ T x=some (.dP n sz f)) (hi:rd cx σ T y=some (.int k i)) (h1:Ba (Ac σ.gm T)->0<=i.den/\i.den<n):Local P cx.gl σ T o ⟨.dB (f i.den.toNat),[],[],[]⟩:=by
 intro B N E a w ff cR hg st ag bJ hT;have hx:=Aa hv hg st (Aj ag (by simp[ho,Op.operands])) hT;have hy:=(Aa hi hg st (Aj ag (by simp[ho,Op.operands])) hT).aW;obtain⟨b1,b2⟩:=h1 hT;have hx:RO E.I w (.dP n sz f) (a.eval x):=by cases hx with|ro h=>exact h
 generalize uG:a.eval x=ev at hx
 cases hx with
 |dP g hs gW h1' aK aY =>
  rename_i ad;refine Ae st (v:=.pointer (some (ad.add (i.den.toNat * sz)))) ?_ rfl (.ro (Ahs (λ_=>hs) gW h1' aK aY (by omega)));have hu:=(hc.ti hl).array hk;obtain⟨te,iT,aM⟩:=bF hn;have hS:=(hc.ti iT).sizeOf w;simp[execOp,ho,uG,hy,Instr.indexAt,run_underlying hu,asIntOf,b1,b2,hS,aM,Instr.sureAddr]
theorem Xo{x:Operand}{i:Nat}(ho:o.op=.extract x i){vs:List SV}{s:SV}(hv:rd cx σ T x=some (.tup vs))(hs:nth vs i=some s):Local P cx.gl σ T o ⟨s,[],[],[]⟩:=by
 intro B N E a w ff cR hg st ag bJ hT;obtain⟨us,hx,hl⟩:=(Aa hv hg st (Aj ag (by simp[ho,Op.operands])) hT).gT;rw[Ah]at hs;have aA:i<us.length:=by rw[<-hl.1];exact (List.getElem?_eq_some_iff.1 hs).1
 refine Ae st (v:=us[i]) ?_ rfl (hl.2 i s _ hs (QA aA));simp[execOp,ho,hx,Instr.extract,aA]
theorem K4(b:BT):(AU b).den=!b.den:=by unfold AU;split<;>rfl
theorem Je(op:BinOp)(x y:ST):(S8 op x y).den=Bl op x.den y.den:=by unfold S8;split<;>rfl
theorem Aex(op:BinOp)(k:IntKind)(x y:ST):(MF op k x y).den=Cp op k x.den y.den:=by unfold MF;split<;>rfl
theorem Akd{t:Nat}{x:Operand}(ho:o.op=.unOp .not t x){b:BT}(hv:rd cx σ T x=some (.bool b)):Local P cx.gl σ T o ⟨.bool (AU b),[],[],[]⟩:=by
 intro B N E a w ff cR hg st ag bJ hT;have hx:=(Aa hv hg st (Aj ag (by simp[ho,Op.operands])) hT).bG;refine Ae st (v:=.bool (!b.den)) ?_ rfl (.bool (K4 b));simp[execOp,ho,hx,Op.unary]
theorem Akf{t:Nat}{x:Operand}(ho:o.op=.unOp .neg t x){k:IntKind}{n:ST}(hv:rd cx σ T x=some (.int k n)):Local P cx.gl σ T o ⟨.int k (MF .sub k (.l 0) n),[],[],[]⟩:=by
 intro B N E a w ff cR hg st ag bJ hT;have hx:=(Aa hv hg st (Aj ag (by simp[ho,Op.operands])) hT).aW;refine Ae st (v:=.int k (k.wrap (0-n.den))) ?_ rfl (.int (Aex _ _ _ _));simp[execOp,ho,hx,Op.unary,Op.intArith]
theorem H5{t:Nat}{ti:TI}(hc:Az P cx)(hl:look t cx.tt=some ti){e:TypeId}(hk:ti.k=.slice e){w:World}{a:Option Addr}{m c:Nat}{ty:TypeId}:
  (Builtin.len_ #[t] ty #[.slice a m c]).run P w=.ok (.int .i64 m) w:=by
 have hu:=(hc.ti hl).slice hk;simp[Builtin.len_,run_underlying hu,goInt]
theorem Ab8{t:Nat}{ti:TI}(hc:Az P cx)(hl:look t cx.tt=some ti)(hk:ti.k=.string){w:World}{s:ByteArray}{ty:TypeId}:
  (Builtin.len_ #[t] ty #[.string s]).run P w=.ok (.int .i64 s.size) w:=by
 obtain⟨d,hd,hb⟩:=(hc.ti hl).jF;rw[hk]at hb;cases d<;>simp only[Bp,QR]at hb;simp[Builtin.len_,run_underlying hd,goInt]
theorem Ox(hc:Az P cx){c:Call}(ho:o.op=.call c)(aQ:c.callee=.builtin .len){x:Operand}{t:Nat}{ti:TI}(hx:c.args.toList=[x])(ht:c.argTypes.toList=[t])(hl:look t cx.tt=some ti){e:TypeId}(hk:ti.k=.slice e)
  {nl:BT} {n:ST} {sz:Nat} {f:Nat->List SV} (hv:rd cx σ T x=some (.sl nl n sz f)\/∃h,rd cx σ T x=some (.eD nl n sz f h)):Local P cx.gl σ T o ⟨.int .i64 n,[],[],[]⟩:=by
 intro B N E a w ff cR hg st ag bJ hT;have dT:x∈o.op.operands.toList:=by simp[ho,Op.operands,Call.operands,aQ,hx]
 have qH:RO E.I w (.sl nl n sz f) (a.eval x):=by
  rcases hv with hv|⟨h,hv⟩
  .exact (Aa hv hg st (Aj ag dT) hT).aS
  .exact (Aa hv hg st (Aj ag dT) hT).kJ.1
 have e1:c.args=#[x]:=XN (by simpa using hx);have e2:c.argTypes=#[t]:=XN (by simpa using ht);have:∃a0 m c0,a.eval x=.slice a0 m c0/\n.den=(m:Int):=by
  rcases qH.aS with⟨e0,e3,_⟩|⟨ad,m,cap,g,e0,_,e3,_⟩
  .exact⟨none,0,0,e0,by simpa using e3⟩
  .exact⟨_,m,cap,e0,e3⟩
 obtain⟨a0,m,c0,e3,e4⟩:=this;have aG:=H5 hc hl hk (w:=w) (a:=a0) (m:=m) (c:=c0) (ty:=o.type);refine Ae st (v:=.int .i64 m) ?_ rfl (.int e4);simp[execOp,ho,resolve,aQ,e1,e2,invoke,builtin,e3,aG]
theorem Xl(hc:Az P cx){c:Call}(ho:o.op=.call c)(aQ:c.callee=.builtin .len){x:Operand}{t:Nat}{ti:TI}(hx:c.args.toList=[x])(ht:c.argTypes.toList=[t])(hl:look t cx.tt=some ti)(hk:ti.k=.string)
  {s:List UInt8} (hv:rd cx σ T x=some (.str s)):Local P cx.gl σ T o ⟨.int .i64 (.len s),[],[],[]⟩:=by
 intro B N E a w ff cR hg st ag bJ hT;have dT:x∈o.op.operands.toList:=by simp[ho,Op.operands,Call.operands,aQ,hx]
 have qH:=(Aa hv hg st (Aj ag dT) hT).dD;have e1:c.args=#[x]:=XN (by simpa using hx);have e2:c.argTypes=#[t]:=XN (by simpa using ht);have aG:=Ab8 hc hl hk (w:=w) (s:=bytes s) (ty:=o.type);refine Ae st (v:=.int .i64 s.length) ?_ rfl (.int rfl);have:(bytes s).size=s.length:=rfl;simp[execOp,ho,resolve,aQ,e1,e2,invoke,builtin,qH,aG,this]
theorem Agd(hc:Az P cx){src dst:Nat}{x:Operand}(ho:o.op=.convert src dst x){ti tj:TI}(hl:look dst cx.tt=some ti)(iA:look src cx.tt=some tj){k k':IntKind}(hk:ti.k=.int k){n:ST}(hv:rd cx σ T x=some (.int k' n)):
  Local P cx.gl σ T o ⟨.int k (.cv k n),[],[],[]⟩:=by
 intro B N E a w ff cR hg st ag bJ hT;have hx:=(Aa hv hg st (Aj ag (by simp[ho,Op.operands])) hT).aW;have hu:=(hc.ti hl).int hk;obtain⟨d,hd,_⟩:=(hc.ti iA).jF;refine Ae st (v:=.int k (k.wrap n.den)) ?_ rfl (.int rfl);simp[execOp,ho,hx,convert,run_underlying hu,run_underlying hd,Conv.intToInt]
theorem Ei{op:BinOp}{t:TypeId}{x y:Operand}{k k':IntKind}{m n:Int}{w:World}:(eqGuard op t x y (.int k m) (.int k' n)).run P w=.ok () w:=by
 unfold eqGuard;cases op<;>rfl
theorem Iy{op:BinOp}{t:TypeId}{x y:Operand}{m n:Bool}{w:World}:(eqGuard op t x y (.bool m) (.bool n)).run P w=.ok () w:=by
 unfold eqGuard;cases op<;>rfl
theorem Gq{op:BinOp}{t:TypeId}{x y:Operand}{m n:ByteArray}{w:World}:(eqGuard op t x y (.string m) (.string n)).run P w=.ok () w:=by
 unfold eqGuard;cases op<;>rfl
theorem Bt{op:BinOp}{t u:TypeId}{x y:Operand}(ho:o.op=.binOp op t x y u){sx sy s:SV}(hx:rd cx σ T x=some sx)(hy:rd cx σ T y=some sy)
  (aG:∀(E:Env) (w:World) (vx vy:Value),Ba (Ac σ.gm T)->Rel E w sx vx->Rel E w sy vy->∃v,(eqGuard op t x y vx vy).run P w=.ok () w/\(binOp op t vx vy).run P w=.ok v w/\Rel E w s v):Local P cx.gl σ T o ⟨s,[],[],[]⟩:=by
 intro B N E a w ff cR hg st ag bJ hT;have h1:=Aa hx hg st (Aj ag (by simp[ho,Op.operands])) hT;have h2:=Aa hy hg st (Aj ag (by simp[ho,Op.operands])) hT;obtain⟨v,r1,r2,r3⟩:=aG E w _ _ hT h1 h2;refine Ae st (v:=v) ?_ rfl r3;simp[execOp,ho,r1,r2]
theorem Afj{s t:List UInt8}:((bytes s).toList==(bytes t).toList)=(s==t):=by
 have h:∀l:List UInt8,(bytes l).toList=l:=λl=>by rw[Go.Lib.toList_data];rfl
 rw[h,h]
end
section
variable {P:Program} {cx:Cx} {σ:Sy} {T:List Nat} {o:Oper} {K:Out->Prop}
theorem Xv{op:BinOp}(ha:arith op=true){t:TypeId}{k:IntKind}{m n:Int}{w:World}:(binOp op t (.int k m) (.int k n)).run P w=.ok (.int k (Cp op k m n)) w:=by
 cases op<;>first|(simp[arith]at ha;done)|simp[binOp,Op.intArith,Op.intBits,Cp]
theorem Aew{op:BinOp}(ha:Ans op=true){t:TypeId}{k:IntKind}{m n:Int}{w:World}:(binOp op t (.int k m) (.int k n)).run P w=.ok (.bool (Bl op m n)) w:=by
 cases op<;>first|(simp[Ans]at ha;done)|simp[binOp,Op.intCmp,Bl]
theorem Pt(x y:BT):(mj x y).den=(x.den&&y.den):=by
 unfold mj
 split
 .simp[BT.den]
 .simp[BT.den]
 .rfl
def Om(agg:Bool)(vs:List Value):Value:=if agg then .agg ⟨vs⟩ else vs.headD undef
theorem Bm.bool{t:Nat}{ti:TI}(h:Bm P t ti)(hk:ti.k=.bool):P.underlying t=some .bool:=by
 obtain⟨d,hd,hb⟩:=h.jF;rw[hk]at hb;cases d<;>simp only[Bp,QR]at hb;exact hd
theorem Bm.string{t:Nat}{ti:TI}(h:Bm P t ti)(hk:ti.k=.string):P.underlying t=some .string:=by
 obtain⟨d,hd,hb⟩:=h.jF;rw[hk]at hb;cases d<;>simp only[Bp,QR]at hb;exact hd
theorem A1.one{E:Env}{w:World}{s:SV}{vs:List Value}(h:A1 E w [s] vs):∃v,vs=[v]/\Rel E w s v:=by
 match vs,h with
 | [v],h=>exact⟨v,rfl,h.2 0 s v rfl rfl⟩
 | [],h=>exact absurd h.1 (by simp)
 |_ :: _ :: _,h=>exact absurd h.1 (by simp)
theorem Ad5(hc:Az P cx){g:TypeId->List SV->List SV->Option BT}{d:Nat}{E:Env}{w:World}
  (hg:∀(t:TypeId) (ti:TI) (xs ys:List SV) (b:BT) (X Y:List Value),look t cx.tt=some ti->g t xs ys=some b->A1 E w xs X->A1 E w ys Y->
   (Fe ti.k=false->X.length=1/\Y.length=1)/\(Op.equalIn d t (Om (Fe ti.k) X) (Om (Fe ti.k) Y)).run P w=.ok b.den w) {xs ys:List SV} {X Y:List Value} (hX:A1 E w xs X) (hY:A1 E w ys Y):
  ∀(fields:List Field) (b:BT),(∀f∈fields,f.name≠"_")->ry cx g xs ys (fields.map λf=>(f.offset,f.type))=some b->(Op.eqFields d ⟨X⟩ ⟨Y⟩ fields).run P w=.ok b.den w
 | [],b,_,h=>by simp[ry]at h;subst h;rfl
 |f :: fields,b,hn,h=>by
  simp only[UE,ry]at h
  split at h
  .rename_i m hm
   split at h
   .rename_i b1 b2 h1 h2
    cases h;obtain⟨ti,cY,aM⟩:=bF hm;rw[Ax,A5,Ax,A5]at h1;have hX':=(hX.drop f.offset).take m;have hY':=(hY.drop f.offset).take m;obtain⟨k1,k2⟩:=hg f.type ti _ _ b1 _ _ cY h1 hX' hY';have r1:=Oh (hc.ti cY) aM (w:=w) (vs:=X) (fo:=f.offset) (λe=>(k1 e).1);have r2:=Oh (hc.ti cY) aM (w:=w) (vs:=Y) (fo:=f.offset) (λe=>(k1 e).2);have ih:=Ad5 hc hg hX hY fields b2 (λf hf=>hn f (QX _ hf)) h2;unfold Om at k2;simp only[Op.eqFields,ne_eq,hn f (QY ..),not_false_eq_true,if_true,Sem.run_bind,r1,r2,k2,Result.andThen_ok];rw[Pt];cases b1.den<;>simp[ih]
   .cases h
  .cases h
theorem Ad7(hc:Az P cx){E:Env}{w:World}:∀(n d:Nat),n<=d->∀(t:TypeId) (ti:TI) (xs ys:List SV) (b:BT) (X Y:List Value),look t cx.tt=some ti->AK cx n t xs ys=some b->A1 E w xs X->A1 E w ys Y->
   (Fe ti.k=false->X.length=1/\Y.length=1)/\(Op.equalIn d t (Om (Fe ti.k) X) (Om (Fe ti.k) Y)).run P w=.ok b.den w
 |0,_,_,_,_,_,_,_,_,_,_,h,_,_=>by simp[AK]at h
 |n+1,0,hd,_,_,_,_,_,_,_,_,_,_,_=>by omega
 |n+1,d+1,hd,t,ti,xs,ys,b,X,Y,hl,h,hX,hY=>by
  simp only[AK,hl]at h
  split at h
  .rename_i k a1 a2 a3 e
   cases e;have hu:=(hc.ti hl).int rfl
   split at h
   .split at h
    .cases h
     obtain⟨u,rfl,o5⟩:=hX.one;obtain⟨v,rfl,vV⟩:=hY.one;refine⟨λ_=>⟨rfl,rfl⟩,?_⟩;rename_i e2;subst e2;rw[o5.aW,vV.aW];simp only[Om,Fe,Je,Bl];exact run_equalIn_int w d t _ k _ _ hu
    .cases h
   .cases h
  .rename_i a1 a2 a3 e
   cases e;have hu:=(hc.ti hl).bool rfl
   split at h
   .cases h
    obtain⟨u,rfl,o5⟩:=hX.one;obtain⟨v,rfl,vV⟩:=hY.one;refine⟨λ_=>⟨rfl,rfl⟩,?_⟩;rw[o5.bG,vV.bG];simp only[Om,Fe];exact run_equalIn_bool' w d t _ _ hu
   .cases h
  .rename_i a1 a2 a3 e
   cases e;have hu:=(hc.ti hl).string rfl
   split at h
   .cases h
    obtain⟨u,rfl,o5⟩:=hX.one;obtain⟨v,rfl,vV⟩:=hY.one;refine⟨λ_=>⟨rfl,rfl⟩,?_⟩;rw[o5.dD,vV.dD];simp only[Om,Fe];refine (run_equalIn_string w d t _ _ hu).trans ?_;rw[Afj];rfl
   .cases h
  .rename_i fs a1 a2 a3 e
   cases e
   split at h
   .rename_i dT
    obtain⟨e1,e2,e3⟩:=hc.eqs t ((Ca _ _).1 dT);obtain⟨fields,hu,he,_⟩:=(hc.ti hl).struct rfl;have nZ:P.fieldsOf t=fields:=by simp[Program.fieldsOf,hu]
    refine⟨λe=>by simp[Fe]at e,?_⟩;simp only[Om,Fe,if_true];rw[run_equalIn_agg w d t ⟨X⟩ ⟨Y⟩ (by rw[nZ];exact hu) e1];rw[nZ]at e3 ⊢;rw[<-he]at h;exact Ad5 hc (λt ti xs ys b X Y a1 a2 a3 a4=>Ad7 hc n d (by omega) t ti xs ys b X Y a1 a2 a3 a4) hX hY fields.toList b e3 h
   .cases h
  .cases h
theorem Ab5(cx:Cx)(a b:List UInt8):(bf cx a b).den=(a==b):=by
 unfold bf
 split<;>rfl
theorem Acz{E:Env}{w:World}{s:SV}{nl:BT}{v:Value}(h:cu s=some nl)(hr:Rel E w s v):∃a m c,v=.slice a m c/\(nl.den=a.isNone):=by
 have key:∀(a:Option Addr),(nl.den=true↔a=none)->nl.den=a.isNone:=by
  intro a ha;cases a with
  |none=>simpa using ha
  |some x=>simpa using ha
 have bM:∀ {n:ST} {sz:Nat} {f:Nat->List SV},RO E.I w (.sl nl n sz f) v->∃a m c,v=.slice a m c/\(nl.den=a.isNone):=by
  intro n sz f hr;cases hr with
  |slnil h hn=>exact⟨none,0,0,rfl,h⟩
  |sl g h hn hc fX hs hl h1 aK aY=>exact⟨_,_,_,rfl,h⟩
 unfold cu at h
 split at h<;>simp only[Option.some.injEq,reduceCtorEq]at h
 .subst h
  cases hr with
  |ro h=>exact bM h
 .subst h
  cases hr with
  |ro h=>cases h
  |eD h _=>exact bM h
 .subst h
  obtain⟨⟨a,m,c,e1,_,e2⟩,_⟩:=hr.iO;exact⟨a,m,c,e1,key a e2⟩
 .subst h
  obtain⟨⟨a,m,c,e1,_,e2⟩,_⟩:=hr.mA;exact⟨a,m,c,e1,key a e2⟩
theorem run_eql_slice_nil{w:World}{t e:TypeId}(a:Option Addr)(n c:Nat)(h:P.underlying t=some (.slice e)):
  (binOp .eql t (.slice a n c) (.slice none 0 0)).run P w=.ok (.bool a.isNone) w:=by
 have h:∀d:Nat,(Op.equalIn (d+1) t (.slice a n c) (.slice none 0 0)).run P w=.ok a.isNone w:=λd=>by
  cases a<;>simp[Op.equalIn,run_underlying h]
 simp only[binOp];simp[Op.equal,Op.maxDepth,h 9999]
theorem Nc{w:World}{t e:TypeId}(a:Option Addr)(n c:Nat)(h:P.underlying t=some (.slice e)):
  (binOp .neq t (.slice a n c) (.slice none 0 0)).run P w=.ok (.bool (!a.isNone)) w:=by
 have h:∀d:Nat,(Op.equalIn (d+1) t (.slice a n c) (.slice none 0 0)).run P w=.ok a.isNone w:=λd=>by
  cases a<;>simp[Op.equalIn,run_underlying h]
 simp only[binOp];simp[Op.equal,Op.maxDepth,h 9999]
theorem H7{op:BinOp}{t:TypeId}{x y:Operand}{a:Option Addr}{n c n' c':Nat}{w:World}:(eqGuard op t x y (.slice a n c) (.slice none n' c')).run P w=.ok () w:=by
 unfold eqGuard;cases op<;>rfl
theorem Af8(hc:Az P cx){op:BinOp}{t u:TypeId}{x y:Operand}(ho:o.op=.binOp op t x y u){sx:SV}{f:Nat->List SV}(hx:rd cx σ T x=some sx)(hy:rd cx σ T y=some (.sl (.l true) (.l 0) 0 f))
  {e:TypeId} {a1 a2:Nat} {a3:List SV} (hl:look t cx.tt=some ⟨.slice e,a1,a2,a3⟩) {nl:BT} (hn:cu sx=some nl) (h:MP op nl K):∃r,K r/\Local P cx.gl σ T o r:=by
 have hu:=(hc.ti hl).slice rfl;have GJ:∀ {E:Env} {w:World} {v:Value},Rel E w (.sl (.l true) (.l 0) 0 f) v->v=.slice none 0 0:=by
  intro E w v hr;cases hr with
  |ro h=>cases h with
   |slnil=>rfl
   |sl g h=>cases h
 unfold MP at h
 split at h
 .refine⟨_,h,Bt ho hx hy λE w vx vy _ h1 h2=>?_⟩
  obtain⟨a,m,c,rfl,e1⟩:=Acz hn h1;rw[GJ h2];exact⟨_,H7,run_eql_slice_nil a m c hu,.bool e1⟩
 .refine⟨_,h,Bt ho hx hy λE w vx vy _ h1 h2=>?_⟩
  obtain⟨a,m,c,rfl,e1⟩:=Acz hn h1;rw[GJ h2];exact⟨_,H7,Nc a m c hu,.bool (by rw[K4,e1])⟩
 .exact h.elim
theorem Ys{E:Env}{w:World}{s:SV}{b:BT}{v:Value}(h:Anw s=some b)(hr:Rel E w s v):(v=.nilIface/\b.den=true)\/((∃t x,v=.iface t x)/\b.den=false):=by
 unfold Anw at h
 split at h<;>simp only[Option.some.injEq,reduceCtorEq]at h
 .subst h
  cases hr with
  |ro h=>cases h with
   |ifc h=>exact h
 .subst h
  cases hr with
  |ro h=>cases h with
   |raw h=>exact .inl ⟨h,rfl⟩
theorem Bm.iface{t:Nat}{ti:TI}(h:Bm P t ti)(hk:ti.k=.iface):∃ms,P.underlying t=some (.interface ms):=by
 obtain⟨d,hd,hb⟩:=h.jF;rw[hk]at hb;cases d<;>simp only[Bp,QR]at hb;exact⟨_,hd⟩
theorem Rj{w:World}{t:TypeId}{ms}{v:Value}{b:Bool}(h:P.underlying t=some (.interface ms))(hv:(v=.nilIface/\b=true)\/((∃t x,v=.iface t x)/\b=false))(d:Nat):(Op.equalIn (d+1) t v .nilIface).run P w=.ok b w:=by
 rcases hv with⟨rfl,rfl⟩|⟨⟨_,_,rfl⟩,rfl⟩<;>simp[Op.equalIn,run_underlying h]
theorem Kh{op:BinOp}{t:TypeId}{x:Operand}{c v:Value}{w:World}:(eqGuard op t x (.const c) v .nilIface).run P w=.ok () w:=by
 unfold eqGuard;cases op<;>first|rfl|(cases v<;>simp)
theorem W8(hc:Az P cx){op:BinOp}{t u:TypeId}{x y:Operand}(ho:o.op=.binOp op t x y u){sx sy:SV}(hx:rd cx σ T x=some sx)(hy:rd cx σ T y=some sy)(h:Zp cx op t sx y K):∃r,K r/\Local P cx.gl σ T o r:=by
 unfold Zp at h
 split at h
 .rename_i b a1 a2 a3 hb hl
  obtain⟨ms,hu⟩:=(hc.ti hl).iface rfl;have GJ:∀ {E:Env} {w:World} {v:Value},Rel E w sy v->v=.nilIface:=by
   intro E w v hr;simp only[rd,ofConst,Option.some.injEq]at hy;subst hy;cases hr with
   |ro h=>cases h with
    |raw h=>exact h
  unfold MP at h
  split at h
  .refine⟨_,h,Bt ho hx hy λE w vx vy _ h1 h2=>?_⟩
   have hv:=Ys hb h1;rw[GJ h2];refine⟨.bool b.den,Kh,?_,.bool rfl⟩;simp only[binOp];simp[Op.equal,Op.maxDepth,Rj hu hv 9999]
  .refine⟨_,h,Bt ho hx hy λE w vx vy _ h1 h2=>?_⟩
   have hv:=Ys hb h1;rw[GJ h2];refine⟨.bool (!b.den),Kh,?_,.bool (K4 b)⟩;simp only[binOp];simp[Op.equal,Op.maxDepth,Rj hu hv 9999]
  .exact h.elim
 .exact h.elim
theorem W9(hc:Az P cx){op:BinOp}{t u:TypeId}{x y:Operand}(ho:o.op=.binOp op t x y u){sx sy:SV}(hx:rd cx σ T x=some sx)(hy:rd cx σ T y=some sy)(h:Zq cx σ.gm T op t sx sy K):
  ∃r,K r/\Local P cx.gl σ T o r:=by
 unfold Zq at h
 split at h
 .rename_i k a k' b
  split at h
  .rename_i har
   split at h
   .rename_i hk
    subst hk;refine⟨_,h,Bt ho hx hy λE w vx vy _ h1 h2=>?_⟩;rw[h1.aW,h2.aW];exact⟨_,Ei,Xv har,.int (Aex _ _ _ _)⟩
   .exact h.elim
  .split at h
   .rename_i fX
    split at h
    .rename_i hk
     subst hk;refine⟨_,h,Bt ho hx hy λE w vx vy _ h1 h2=>?_⟩;rw[h1.aW,h2.aW];exact⟨_,Ei,Aew fX,.bool (Je _ _ _)⟩
    .exact h.elim
   .have sK:∀(cn:BinOp),(cn=.quo\/cn=.rem)->op=cn->(if k=k' then Ob cx.D σ.gm T (NZ (cx.D.i b))/\out K (.int k (.bin op k a b)) else False)->∃r,K r/\Local P cx.gl σ T o r:=by
     intro cn pE e hh
     split at hh
     .rename_i hk
      subst hk;obtain⟨kM,hh⟩:=hh;rw[hc.D,C7]at kM;refine⟨_,hh,Bt ho hx hy λE w vx vy hT h1 h2=>?_⟩;rw[h1.aW,h2.aW];have hb:b.den≠0:=(kM hT).h;refine⟨.int k (Cp op k a.den b.den),Ei,?_,.int rfl⟩;subst e;rcases pE with rfl|rfl<;>simp[binOp,Op.intDiv,Cp,hb]
     .exact hh.elim
    have pC:∀(cn:BinOp),(cn=.shl\/cn=.shr)->op=cn->(Ob cx.D σ.gm T (NN (cx.D.i b))/\out K (.int k (.bin op k a b)))->∃r,K r/\Local P cx.gl σ T o r:=by
     intro cn pE e hh;obtain⟨kM,hh⟩:=hh;rw[hc.D,C7]at kM;refine⟨_,hh,Bt ho hx hy λE w vx vy hT h1 h2=>?_⟩;rw[h1.aW,h2.aW];have hb:0<=b.den:=(kM hT).h;refine⟨.int k (Cp op k a.den b.den),Ei,?_,.int rfl⟩;have rR:¬b.den<0:=by omega
     subst e;rcases pE with rfl|rfl<;>simp[binOp,Op.shift,Cp,rR]
    split at h
    .exact sK _ (.inl rfl) rfl h
    .exact sK _ (.inr rfl) rfl h
    .exact pC _ (.inl rfl) rfl h
    .exact pC _ (.inr rfl) rfl h
    .exact h.elim
 .rename_i a b
  split at h
  .rename_i a1 a2 a3 hl
   have hu:=(hc.ti hl).bool rfl;refine⟨_,h,Bt ho hx hy λE w vx vy _ h1 h2=>?_⟩;rw[h1.bG,h2.bG];refine⟨.bool (a.den==b.den),Iy,?_,.bool rfl⟩;simp only[binOp,Op.equal,Op.maxDepth,Sem.run_bind,run_equalIn_bool' w 9999 t _ _ hu,Result.andThen_ok,Sem.run_pure]
  .rename_i a1 a2 a3 hl
   have hu:=(hc.ti hl).bool rfl;refine⟨_,h,Bt ho hx hy λE w vx vy _ h1 h2=>?_⟩;rw[h1.bG,h2.bG];refine⟨.bool (!(a.den==b.den)),Iy,?_,.bool rfl⟩;simp only[binOp,Op.equal,Op.maxDepth,Sem.run_bind,run_equalIn_bool' w 9999 t _ _ hu,Result.andThen_ok,Sem.run_pure]
  .exact h.elim
 .rename_i a b
  split at h
  .obtain⟨kM,h⟩:=h
   rw[hc.D,C7]at kM;refine⟨_,h _ ⟨rfl⟩,Bt ho hx hy λE w vx vy hT h1 h2=>?_⟩;rw[h1.dD,h2.dD];have hle:=(kM hT).h;refine⟨.string (bytes (a++b)),Gq,?_,.ro (.str rfl)⟩;have hs:∀l:List UInt8,(bytes l).size=l.length:=λ_=>rfl;have kE:¬(IntKind.i64.max<((a.length+b.length:Nat):Int)):=by
    have:IntKind.i64.max=9223372036854775807:=by decide
    omega
   have gn:bytes a++bytes b=bytes (a++b):=by
    apply ByteArray.ext;rw[ByteArray.data_append];simp[bytes]
   simp only[binOp,Op.stringOp,hs,gt_iff_lt,kE,if_false,gn,Sem.run_pure]
  .refine⟨_,h,Bt ho hx hy λE w vx vy _ h1 h2=>?_⟩
   rw[h1.dD,h2.dD];exact⟨.bool (a==b),Gq,by simp only[binOp,Op.stringOp,Afj,Sem.run_pure],.bool (Ab5 cx a b)⟩
  .refine⟨_,h,Bt ho hx hy λE w vx vy _ h1 h2=>?_⟩
   rw[h1.dD,h2.dD];exact⟨.bool (!(a==b)),Gq,by simp only[binOp,Op.stringOp,Afj,Sem.run_pure],.bool (by rw[K4,Ab5])⟩
  .exact h.elim
 .rename_i a b
  have key:∀c,(Dx t cx.eqs&&cG cx t)=true->AK cx 8 t a b=some c->∀(E:Env) (w:World) (vx vy:Value),Rel E w (.agg a) vx->Rel E w (.agg b) vy->
    ∃X Y,vx=.agg ⟨X⟩/\vy=.agg ⟨Y⟩/\∀(x y:Operand),(eqGuard op t x y vx vy).run P w=.ok () w/\(Op.equalIn 10000 t vx vy).run P w=.ok c.den w:=by
   intro c fH he E w vx vy h1 h2;simp only[QB]at fH;have:∃ti,look t cx.tt=some ti:=by
    cases hl:look t cx.tt with
    |none=>simp[AK,hl]at he
    |some ti=>exact⟨ti,rfl⟩
   obtain⟨ti,hl⟩:=this;obtain⟨X,rfl,hX⟩:=h1.cW;obtain⟨Y,rfl,hY⟩:=h2.cW;obtain⟨k1,k2⟩:=Ad7 hc 8 10000 (by decide) t ti a b c X Y hl he hX hY;rw[dJ hl]at fH;rw[fH.2]at k2;exact⟨X,Y,rfl,rfl,λx y=>⟨run_eqGuard_agg w op t x y _ _ (hc.eqs t ((Ca _ _).1 fH.1)).2.1,k2⟩⟩
  split at h
  .rename_i c fH he
   refine⟨_,h,Bt ho hx hy λE w vx vy _ h1 h2=>?_⟩;obtain⟨X,Y,rfl,rfl,hk⟩:=key c fH he E w vx vy h1 h2;obtain⟨g1,g2⟩:=hk x y;refine⟨.bool c.den,g1,?_,.bool rfl⟩;rw[run_eql_struct,g2];rfl
  .rename_i c fH he
   refine⟨_,h,Bt ho hx hy λE w vx vy _ h1 h2=>?_⟩;obtain⟨X,Y,rfl,rfl,hk⟩:=key c fH he E w vx vy h1 h2;obtain⟨g1,g2⟩:=hk x y;refine⟨.bool (!c.den),g1,?_,.bool (K4 c)⟩;rw[run_neq_struct,g2];rfl
  .exact h.elim
 .skip
  split at h
  .rename_i nl e a1 a2 a3 hn hl
   exact Af8 hc ho hx hy hl hn h
  .exact h.elim
 .exact h.elim
end
section
variable {P:Program} {cx:Cx} {σ:Sy} {T:List Nat} {o:Oper} {K:Out->Prop}
theorem F8{B:Bs}{N:Nat}{E:Env}{a:Act}{w:World}{ff:Nat->SG}{hf:Nat->Hl}(hg:Ep B cx.gl)(st:St B N E a w ff hf)(hT:Ba (Ac σ.gm T)):
  ∀(ps:List (Nat×Operand)) (vs:List (Nat×SV)),(∀p∈ps,∀s∈Cw p.2,ff s=A6 σ s)->G4 cx σ T ps=some vs->vs.length=ps.length/\∀(i:Nat) (p:Nat×SV) (q:Nat×Operand),vs[i]?=some p->ps[i]?=some q->p.1=q.1/\Rel E w p.2 (a.eval q.2)
 | [],vs,_,h=>by simp[G4]at h;subst h;simp
 |(i,x) :: ps,vs,ag,h=>by
  simp only[G4]at h
  split at h
  .rename_i v us hv iJ
   cases h;obtain⟨h1,h2⟩:=F8 hg st hT ps us (λp hp=>ag p (QX _ hp)) iJ;refine⟨by simp[h1],λj p q hp hq=>?_⟩;cases j with
   |zero =>
    simp at hp hq;subst hp hq;exact⟨rfl,Aa hv hg st (ag _ (QY ..)) hT⟩
   |succ j=>simp at hp hq;exact h2 j p q hp hq
  .cases h
theorem Amt{E:Env}{w:World}{cs vs:List SV}{C us:List Value}(h:A1 E w cs C)(hv:A1 E w vs us)(off:Nat)(hle:off+vs.length<=cs.length):A1 E w (B9 cs off vs) (B9 C off us):=by
 refine⟨by rw[Dd,Dd,h.1],λi s v h1 h2=>?_⟩;rw[Hv _ _ _ _ hle]at h1;rw[Hv _ _ _ _ (by rw[<-hv.1,<-h.1];exact hle)]at h2;rw[<-hv.1]at h2
 split at h1
 .rename_i e
  rw[QE e]at h2;exact hv.2 _ s v h1 h2
 .rename_i e
  rw[QD e]at h2;exact h.2 i s v h1 h2
theorem Jd:∀(us:List Value) (C:List Value) (off k:Nat),(us.zipIdx k).foldl (λ(cs:Array Value) (c:Value×Nat)=>cs.setIfInBounds (off+c.2) c.1) ⟨C⟩=⟨B9 C (off+k) us⟩
 | [],C,off,k=>rfl
 |u :: us,C,off,k=>by
  simp only[List.zipIdx_cons,UA];have:(⟨C⟩:Array Value).setIfInBounds (off+k) u=⟨A0 C (off+k) u⟩:=by rw[Ar];simp
  rw[this,Jd us _ off (k+1),B9];congr 1
theorem Mg{place:Nat->Option (Nat×Nat)}{C:List Value}{i off n:Nat}{v:Value}{ps:List (Nat×Value)}(hp:place i=some (off,n))(hn:v.cells.size=n)(hle:off+n<=C.length):
  Instr.fill place ⟨C⟩ ((i,v) :: ps)=Instr.fill place ⟨B9 C off v.cells.toList⟩ ps:=by
 have hf:=Jd v.cells.toList C off 0;simp only[ZA]at hf;have hz:v.cells.zipIdx.foldl (λ(cs:Array Value) (c:Value×Nat)=>cs.setIfInBounds (off+c.2) c.1) ⟨C⟩=⟨B9 C off v.cells.toList⟩:=by
  rw[<-hf,<-Array.foldl_toList];congr 1;simp
 simp only[Instr.fill,hp];rw[QD (by simp;omega)];rw[<-hz]
theorem Sb(hc:Az P cx){E:Env}{w:World}{t:Nat}{ti:TI}(hl:look t cx.tt=some ti){place:Nat->Option (Nat×Nat)}
  (sL:∀(i off n:Nat),(∃fs ft,ti.k=.struct fs/\nth fs i=some (off,ft)/\size? cx ft=some n)\/(∃m e,ti.k=.array m e/\size? cx e=some n/\off=i * n)->place i=some (off,n)):
  ∀(vs:List (Nat×SV)) (us:List (Nat×Value)) (cs dK:List SV) (C:List Value),vs.length=us.length->(∀(i:Nat) (p:Nat×SV) (q:Nat×Value),vs[i]?=some p->us[i]?=some q->p.1=q.1/\Rel E w p.2 q.2)->(∀p∈vs,D8 p.2.cells=true)->A1 E w cs C->
   Sc cx t cs vs=some dK->∃C',Instr.fill place ⟨C⟩ us=some ⟨C'⟩/\A1 E w dK C'
 | [],us,cs,dK,C,hlen,_,_,hr,h=>by
  have:us=[]:=QQ (by simpa using hlen.symm);subst this;simp[Sc]at h;subst h;exact⟨C,rfl,hr⟩
 |(i,v) :: vs,us,cs,dK,C,hlen,aY,h1,hr,h=>by
  match us,hlen,aY with
  |(i',u) :: us,hlen,aY =>
   obtain⟨e0,TV⟩:=aY 0 (i,v) (i',u) rfl rfl;simp only at e0;subst e0;have bQ:=H1 (h1 _ (QY ..)) TV;simp only[Sc,hl]at h;have fin:∀(off n:Nat),place i=some (off,n)->(Ag v.cells==n&&Nat.ble (off+n) (Ag cs))=true->Sc cx t (B9 cs off v.cells) vs=some dK->∃C',Instr.fill place ⟨C⟩ ((i,u) :: us)=some ⟨C'⟩/\A1 E w dK C':=by
    intro off n hp hb h;simp only[QB,XI,Nat.ble_eq,Af]at hb;obtain⟨b1,b2⟩:=hb;have aM:u.cells.size=n:=by rw[<-b1,bQ.1];simp
    rw[Mg hp aM (by rw[<-hr.1];exact b2)];exact Sb hc hl sL vs us _ dK _ (by simpa using hlen) (λj p q a b=>aY (j+1) p q (by simpa using a) (by simpa using b)) (λp hp=>h1 p (QX _ hp)) (Amt hr bQ off (by show off+v.cells.length<=cs.length;omega)) h
   split at h
   .rename_i fs a1 a2 a3 e
    cases e
    split at h
    .rename_i off ft hn
     split at h
     .rename_i n aM
      split at h
      .rename_i hb
       exact fin off n (sL i off n (.inl ⟨fs,ft,rfl,hn,aM⟩)) hb h
      .cases h
     .cases h
    .cases h
   .rename_i m e a1 a2 a3 e2
    cases e2
    split at h
    .rename_i n aM
     split at h
     .rename_i hb
      exact fin (i * n) n (sL i _ n (.inr ⟨m,e,rfl,aM,rfl⟩)) hb h
     .cases h
    .cases h
   .cases h
theorem Gc{Q:Program}:∀(fs:List Field),(∀f∈fs,∃i,Q.info? f.type=some i)->∃places:List (Nat×Nat),fs.mapM (λ(f:Field)=>(Q.info? f.type).map λi=>(f.offset,i.size))=some places/\∀i:Nat,places[i]?=(fs[i]?).bind λ(f:Field)=>(Q.info? f.type).map λj=>(f.offset,j.size)
 | [],_=>⟨[],by simp,by simp⟩
 |f :: fs,h=>by
  obtain⟨i,hi⟩:=h f (QY ..);obtain⟨ps,h1,h2⟩:=Gc (Q:=Q) fs (λf hf=>h f (QX _ hf));refine⟨(f.offset,i.size) :: ps,by simp[hi,h1],λj=>?_⟩;cases j with
  |zero=>simp[hi]
  |succ j=>simp[h2]
theorem L9:∀ {ps:List (Nat×SV)},Rp ps=true->∀p∈ps,D8 p.2.cells=true
 | [],_,p,hp=>by cases hp
 |q :: ps,h,p,hp=>by
  simp only[Rp,QB]at h;rcases List.mem_cons.1 hp with rfl|hp
  .exact h.1
  .exact L9 h.2 p hp
theorem Rv(hc:Az P cx){t:Nat}{ps:Array (Nat×Operand)}(ho:o.op=.build t ps){ti:TI}(hl:look t cx.tt=some ti){vs:List (Nat×SV)}(hv:G4 cx σ T ps.toList=some vs)(h1:Rp vs=true){cs:List SV}
  (hf:Sc cx t ti.zero vs=some cs) (hk:(∃fs,ti.k=.struct fs)\/∃n e,ti.k=.array n e) (aM:∀e n,ti.k=.array n e->∃m,size? cx e=some m):Local P cx.gl σ T o ⟨.agg cs,[],[],[]⟩:=by
 intro B N E a w ff cR hg st ag bJ hT;have fH:∀p∈ps.toList,∀s∈Cw p.2,ff s=A6 σ s:=λp hp=>Aj ag (by simp only[ho,Op.operands];simp;exact⟨p.1,by simpa using hp⟩);obtain⟨h2,h3⟩:=F8 hg st hT ps.toList vs fH hv;obtain⟨z,hz,xC,_⟩:=(hc.ti hl).zero E w;obtain⟨i,z',hi,aO1,_,ef,_⟩:=(hc.ti hl).info;have GH:z'=z:=by
  have:(zeroValue t).run P w=.ok z' w:=by simp[zeroValue,typeInfo,hi,ef]
  rw[hz]at this;simpa using this.symm
 subst GH;have iJ:∀(j:Nat) (p:Nat×SV) (q:Nat×Value),vs[j]?=some p->((ps.map λ(x:Nat×Operand)=>(x.1,a.eval x.2)).toList)[j]?=some q->p.1=q.1/\Rel E w p.2 q.2:=by
  intro j p q hp hq;rw[ZU,QP]at hq;cases xT:ps.toList[j]? with
  |none=>rw[xT]at hq;cases hq
  |some x =>
   rw[xT]at hq;simp only[QO,Option.some.injEq]at hq;subst hq;exact h3 j p x hp xT
 have fin:∀(place:Nat->Option (Nat×Nat)),(∀(i off n:Nat),(∃fs ft,ti.k=.struct fs/\nth fs i=some (off,ft)/\size? cx ft=some n)\/(∃m e,ti.k=.array m e/\size? cx e=some n/\off=i * n)->place i=some (off,n))->
   (∀us,P.built t us=Instr.fill place z'.cells us)->Yields P o ⟨.agg cs,[],[],[]⟩ B E a w cR:=by
  intro place gB hb;obtain⟨C',c1,c2⟩:=Sb hc hl gB vs (ps.map λ(x:Nat×Operand)=>(x.1,a.eval x.2)).toList ti.zero cs z'.cells.toList (by simp[h2]) iJ (L9 h1) xC hf;have aG:=run_build (P:=P) w t (ps.map λ(x:Nat×Operand)=>(x.1,a.eval x.2)) ⟨C'⟩ (by rw[hb];exact c1);refine Ae st (v:=.agg ⟨C'⟩) ?_ rfl c2.agg;simp only[execOp,ho,Sem.run_bind];rw[aG];rfl
 rcases hk with⟨fs,hk⟩|⟨n,e,hk⟩
 .obtain⟨fields,hu,he,eT⟩:=(hc.ti hl).struct hk
  obtain⟨places,p1,p2⟩:=Gc (Q:=P) fields.toList eT;refine fin (places.toArray[·]?) ?_ ?_
  .rintro i off n (⟨fs',ft,k1,k2,k3⟩|⟨m,e,k1,_⟩)
   .rw[hk]at k1
    cases k1;obtain⟨f,f1,f2,f3⟩:=Fw he k2;obtain⟨fi,iL,hs⟩:=bF k3;obtain⟨ii,zz,hii,eE,_⟩:=(hc.ti iL).info;simp only[ZW];rw[p2 i,QG,f1];subst f3;simp[hii,f2,eE,hs]
   .rw[hk]at k1;cases k1
  .intro us
   simp only[Program.built,hi,hu,ef,p1]
 .have hu:=(hc.ti hl).array hk
  obtain⟨m,hm⟩:=aM e n hk;obtain⟨te,iT,hs⟩:=bF hm;obtain⟨ie,ze,IG,eE,_⟩:=(hc.ti iT).info;refine fin (λi=>some (i * ie.size,ie.size)) ?_ ?_
  .rintro i off n' (⟨fs',ft,k1,_⟩|⟨m',e',k1,k2,k3⟩)
   .rw[hk]at k1;cases k1
   .rw[hk]at k1
    cases k1;rw[hm]at k2;cases k2;simp[k3,eE,hs]
  .intro us
   simp only[Program.built,hi,hu,ef,IG]
end
end Go.Sx
