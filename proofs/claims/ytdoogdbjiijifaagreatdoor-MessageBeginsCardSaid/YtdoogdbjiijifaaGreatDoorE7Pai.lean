/- A part of the proof: contracts of functions, or the executor and its soundness. No conditions. -/
import Derived.Test.YtdoogdbjiijifaaGreatDoorE7Pag
import Derived.Test.YtdoogdbjiijifaaGreatDoorE7Pah
namespace Go.Sx
open Go
section
variable {P:Program} {cx:Cx} {σ:Sy} {T:List Nat} {o:Oper} {K:Out->Prop}
theorem Ae0{t e ty:TypeId}{ti:TI}(hu:P.underlying t=some (.slice e))(he:Bm P e ti){sz:Nat}(aM:ti.size=sz)(nM:0<sz){w:World}{gr:Bool}{v:Value}{n:Nat}{xs:List Value}(bU:Cu w gr e sz v n xs){src:Value}{m:Nat}{news:List Value}(hs:PS w src m sz news)
  (sV:n+m<=maxLen) (hb:(n+m) * ti.bytes<=140737488355328):
  ∃v' w',(Builtin.append_ #[t,t] ty #[v,src]).run P w=.ok v' w'/\Cu w' gr e sz v' (n+m) (xs++news)/\(v'=.slice none 0 0↔v=.slice none 0 0/\m=0)/\
   ((v'.ownBlock=v.ownBlock/\w.grownBy w' v.ownBlock)\/(v'.ownBlock=some w.heap.size/\w.grownBy w' none))/\(∃a c,v'=.slice a (n+m) c)/\(m=0->v'=v):=by
 by_cases aP:w.ownsRow 0 e sz v n xs
 .obtain⟨v',w',r1,r2,r3⟩:=Kc (P:=P) (ty:=ty) hu he aM nM aP hs sV hb
  exact⟨v',w',r1,Qa gr r2,r3⟩
 have oK:=bU;obtain⟨mQ,hh⟩:=bU;rcases hh with hh|⟨g,cap,cur,fr,rfl,hg,cI,qS,fX,cV,bZ⟩
 .exact absurd ⟨mQ,.inl hh⟩ aP
 rcases cI with rfl|⟨hgr,cI⟩
 .exact absurd ⟨mQ,.inr ⟨g,cap,cur,rfl,ZD _,hg,qS,fX,cV,bZ⟩⟩ aP
 obtain⟨i,z,hi,aT,ga,hz,jI,_⟩:=he.info;obtain⟨hl,h1,wa⟩:=hs;have hlen:(xs++news).length=(n+m) * sz:=by rw[QW,mQ,hl,XJ]
 rcases wa with⟨rfl,rfl⟩|⟨a,c,rfl,iY⟩
 .have hn:news=[]:=QQ (by simpa using hl)
  subst hn;refine⟨_,w,?_,by simpa using oK,by simp,.inl ⟨rfl,⟨rfl,rfl,rfl,QK _,λ_ _ _=>rfl⟩⟩,⟨_,_,rfl⟩,λ_=>rfl⟩;simp[Builtin.append_,run_underlying hu,sizeOf,typeInfo,hi,Builtin.lenOf,Builtin.firstCells,qS,storeCells]
 .have fS:z.cells.size=sz:=by
   have:=(Lz (I:=λ_ _=>False) (w:=w) jI).1;have h2:ti.zero.length=sz:=by
    rw[he.nR,aM]
   simpa[h2] using this.symm
  have yE:i.size=sz:=by rw[aT,aM]
  by_cases fD:n+m<=cap
  .have fp:n * i.size+news.length<=cur.size:=by rw[hl,cV,yE,<-XJ];exact QH _ fD
   have hf:=run_firstCells_some (P:=P) w i.size m a m c news (by rw[yE];exact hl) iY;have cM:=Dt (P:=P) g (n * i.size) e fr news 0 cur w hg (.inr (by rw[cI];exact QK _)) (by simpa using fp) h1;simp only[ZA]at cM;have hr:(Builtin.append_ #[t,t] ty #[.slice (some ⟨g,0,none⟩) n cap,.slice (some a) m c]).run P w =
     .ok (.slice (some ⟨g,0,none⟩) (n+m) cap) (w.setRow g (cur.toList.take (n * i.size)++news++cur.toList.drop (n * i.size+news.length)).toArray):=by
    simp[Builtin.append_,run_underlying hu,sizeOf,typeInfo,hi,Builtin.lenOf,fD,hf,Addr.add_lit,cM]
   have hC:(cur.toList.take (n * i.size)++news++cur.toList.drop (n * i.size+news.length)).toArray.size=cur.size:=by
    simp only[UK,QW,ZF,ZQ,UN];omega
   refine⟨_,_,hr,⟨hlen,.inr ⟨g,cap,_,fr,rfl,setRow_heap w g cur _ e fr hg,.inr ⟨hgr,by rw[hC];exact cI⟩,fD,fX,by rw[hC];exact cV,?_⟩⟩,by simp,.inl ⟨rfl,⟨rfl,rfl,rfl,by simp,λk _ hk=>setRow_other w g k _ (λe=>hk (by simp[Value.ownBlock,e]))⟩⟩,⟨_,_,rfl⟩,λe=>by rw[e];rfl⟩;rw[yE,bZ,<-hlen];exact List.take_left
  .have holds:∀j u,xs[j]?=some u->w.cell? ((⟨g,0,none⟩:Addr).add j)=some u:=λj u hj=>by
    have yR:(⟨g,0,none⟩:Addr).add j=⟨g,j,none⟩:=by rw[Addr.add_lit,XD]
    rw[<-bZ,QL]at hj
    split at hj
    .rw[yR];simp only[World.cell?,hg];rw[QG]at hj;simpa using hj
    .cases hj
   have hr:=run_append_grow (P:=P) w t ty e i z hu hi hz ⟨g,0,none⟩ n cap xs (by rw[yE];exact mQ) holds a m c news (by rw[yE];exact hl) iY (by omega) (by simp only[maxLen]at sV;omega) (by rw[ga];exact growslice_fits (by omega) hb);have nN:=grownCap_ge w (n+m) cap e;have ab0:grownCap w (n+m) cap e<=maxLen:=grownCap_le_maxLen w (n+m) cap e sV;refine⟨_,_,hr,⟨hlen,.inr ⟨w.heap.size,_,_,(0,0),rfl,heap_alloc_new w.drew _,.inl rfl,nN,ab0,?_,?_⟩⟩,by simp,.inr ⟨rfl,⟨rfl,rfl,rfl,by simp,λk hk _=>heap_alloc_old w.drew _ hk⟩⟩,⟨_,_,rfl⟩,λe=>by omega⟩
   .simp only[Array.size_append,UK,size_zeroCells,fS,mQ,hl,<-XJ]
    congr 1;omega
   .simp only[Array.toList_append,ZE]
    rw[<-ZE,<-hlen];exact List.take_left
theorem Oy(hc:Az P cx){c:Call}(ho:o.op=.call c)(aQ:c.callee=.builtin .append){x y:Operand}{t e sz:Nat}{te ti:TI}(hx:c.args.toList=[x,y])(ht:c.argTypes.toList=[t,t])(aA:look t cx.tt=some ti)(hk:ti.k=.slice e)(hle:look e cx.tt=some te)(aM:te.size=sz)(hz:0<sz)
  {gr:Bool} {nl:BT} {n n0:ST} {f:Nat->List SV} {h:Nat} (vh:rd cx σ T x=some (.bY nl n h)) (hh:nth σ.hp h=some (.own e n0 sz gr f)) {s:SV} (vg:rd cx σ T y=some s) {m:ST} {g:Nat->List SV} (aP:rowOf sz s=some (m,g))
  (hb:n.den=n0.den/\(n.den+m.den) * te.bytes<=140737488355328/\n.den+m.den<=9223372036854775807)
  {f':Nat->List SV} {n':Int} (vB:n'=n.den+m.den) (oP:∀i:Nat,(i:Int)<n.den->f' i=f i) (cR:∀i j:Nat,(i:Int)=n.den+j->(j:Int)<m.den->f' i=g j):
  Local P cx.gl σ T o ⟨.bY (mj nl (S8 .eql m (.l 0))) (.a n') h,[.put h (.own e (.a n') sz gr f')],[h],[]⟩:=by
 intro B N E a w ff hf hg st ag bJ hT K' Q hK;have mx:x∈o.op.operands.toList:=by simp[ho,Op.operands,Call.operands,aQ,hx]
 have my:y∈o.op.operands.toList:=by simp[ho,Op.operands,Call.operands,aQ,hx]
 have jK:=Aa vh hg st (Aj ag mx) hT;have uZ:=Aa vg hg st (Aj ag my) hT;obtain⟨k,news,r1,r2,r3,r4,r5⟩:=I2 aP uZ;have bD:=st.heap h;have bN:=Bn bJ (List.mem_singleton.2 rfl) hh;rw[bN]at bD;obtain⟨v,nn,xs,k1,kz,k2,k3,k4,k5,k6⟩:=bD;obtain⟨hv,iX⟩:=Ib jK k1 k2 k3 hb.1;have vA:n.den=(nn:Int):=by rw[hb.1,k3]
 have iE:(nn+k) * te.bytes<=140737488355328:=by
  have:=hb.2.1;rw[vA,r1]at this;have h:(((nn+k) * te.bytes:Nat):Int)<=140737488355328:=by rw[YR,Int.natCast_add];exact this
  omega
 obtain⟨v',w',l1,l2,l3,l4,l5,l6⟩:=Ae0 (P:=P) (ty:=o.type) ((hc.ti aA).slice hk) (hc.ti hle) aM hz k2 r3 (by have:=hb.2.2;rw[vA,r1]at this;simp only[maxLen];omega) iE;have oS:∀u∈xs++news,u.oneCell'=true:=λu hu=>by
  rcases List.mem_append.1 hu with hu|hu
  .exact k4 u hu
  .exact r3.2.1 u hu
 have mG:(ST.a n').den=((nn+k:Nat):Int):=by simp only[ST.den,vB,vA,r1];omega
 have eT:Gx E w f' (nn+k) sz (xs++news):=by
  refine⟨λi hi=>?_,λi j s u hi hs hu=>?_⟩
  .by_cases eT:i<nn
   .rw[oP i (by omega)];exact k5.1 i eT
   .rw[cR i (i-nn) (by omega) (by omega)];exact r4 (i-nn) (by omega)
  .by_cases eT:i<nn
   .rw[oP i (by omega)]at hs
    have hj:j<sz:=by rw[<-k5.1 i eT];exact (List.getElem?_eq_some_iff.1 hs).1
    have:(i+1) * sz<=nn * sz:=QH _ eT;rw[XJ]at this;rw[QJ (by rw[k2.1];omega)]at hu;exact k5.2 i j s u eT hs hu
   .rw[cR i (i-nn) (by omega) (by omega)]at hs
    have e1:i * sz+j=nn * sz+((i-nn) * sz+j):=by
     have:i * sz=nn * sz+(i-nn) * sz:=by rw[<-XJ];congr 1;omega
     omega
    rw[QU (by rw[k2.1];omega),k2.1,e1,ZI]at hu;exact r5 (i-nn) j s u (by omega) hs hu
 obtain⟨E',x1,x2,x3,x4,x5⟩:=Jz (h:=h) (e:=e) (sz:=sz) (n:=nn) (m:=k) st (.inr ⟨⟨_,_,_,bN⟩,k1,kz,k6⟩) k2.shape l2 oS l4 (λ_=>l6) (nt':=.a n') mG eT;unfold Oper.wp;rw[Dj ho aQ hx ht (a:=a) (w:=w) (w':=w') (v':=v') (by rw[hv];exact l1)];obtain⟨a0,c0,e0⟩:=l5;refine hK v' w' E' x1 x2 x3 (.bY ⟨a0,nn+k,c0,e0,mG,?_⟩ ⟨a0,nn+k,c0,by rw[x4,e0],by rw[mG];exact YK _,λ_=>e0⟩);have sN:(v'=.slice none 0 0)↔a0=none:=by
  rw[e0];constructor
  .intro h;simp only[Value.slice.injEq]at h;exact h.1
  .rintro rfl
   rcases l2.2 with⟨h1,_⟩|⟨g,cap,cur,fr,h1,_⟩
   .rw[<-e0];exact h1
   .rw[e0]at h1;simp at h1
 rw[<-sN,Pt,Je,l3];simp only[Bl,ST.den,r1,QB,XI];rw[iX];constructor
 .rintro⟨h1,h2⟩;exact⟨h1,by omega⟩
 .rintro⟨h1,h2⟩;exact⟨h1,by omega⟩
end
section
variable {P:Program} {cx:Cx} {σ:Sy} {T:List Nat} {o:Oper} {K:Out->Prop}
theorem U4{x:Operand}(ho:o.op=.move x\/o.op=.assign x)
  (h:T8 cx σ T o.type x K):∃r,K r/\Local P cx.gl σ T o r:=by
 unfold T8 at h
 split at h
 .split at h
  .split at h
   .exact⟨_,h,Ake ho⟩
   .exact h.elim
  .exact h.elim
 .obtain⟨v,hv,h⟩:=Fu h
  exact⟨_,h,Agb ho hv⟩
theorem Lt{D:Dn}{gm:List BT}{T:List Nat}{i:Int}{K:Nat->Prop}(h:pO D gm T i K)(j:Nat)(hj:Ob D gm T (CU j i)):K j:=by
 unfold pO at h
 split at h
 .exact h j hj
 .exact h j hj
theorem Lg(hc:Az P cx){t e sz:Nat}{x y:Operand}(ho:o.op=.indexAddr t x y){nl:BT}{n:ST}{f:Nat->List SV}{k:IntKind}{i:ST}{a b:Nat}{c:List SV}
  (hv:rd cx σ T x=some (.sl nl n sz f)\/∃h,rd cx σ T x=some (.eD nl n sz f h)) (hi:rd cx σ T y=some (.int k i)) (hl:look t cx.tt=some ⟨.slice e,a,b,c⟩)
  (h:if size? cx e=some sz then Ob cx.D σ.gm T (zX (cx.D.i i) (cx.D.i n))/\pO cx.D σ.gm T (cx.D.i i) λj=>out K (.dB (f j)) else False):∃r,K r/\Local P cx.gl σ T o r:=by
 split at h
 .rename_i hs
  rw[hc.D]at h;obtain⟨h1,h2⟩:=h;rw[C7]at h1;have h1:Ba (Ac σ.gm T)->0<=i.den/\i.den<n.den:=λhT=>⟨(h1 hT).lo,(h1 hT).hi⟩;refine⟨_,Lt h2 i.den.toNat ((C7 _ _ _).2 λhT=>?_),Vg hc hl rfl hs ho hv hi h1⟩;have:=(h1 hT).1;refine⟨?_⟩;show ((i.den.toNat:Nat):Int)=i.den;omega
 .exact h.elim
theorem Kl(hc:Az P cx){t e sz n:Nat}{ti:TI}(hl:look t cx.tt=some ti)(hk:ti.k=.array n e)(hn:size? cx e=some sz){x y:Operand}(ho:o.op=.indexAddr t x y){h off:Nat}{k:IntKind}{i:ST}
  (hv:rd cx σ T x=some (.ptr h off)) (hi:rd cx σ T y=some (.int k i)) {j:Nat} (hj:i.den=(j:Int)) (BU:j<n):Local P cx.gl σ T o ⟨.ptr h (off+j * sz),[],[],[]⟩:=by
 intro B N E a w ff cR hg st ag bJ hT;obtain⟨b,hb,hx⟩:=(Aa hv hg st (Aj ag (by simp[ho,Op.operands])) hT).dW;have hy:=(Aa hi hg st (Aj ag (by simp[ho,Op.operands])) hT).aW;refine Ae st (v:=.pointer (some ⟨b,off+j * sz,none⟩)) ?_ rfl (.ptr hb rfl);have hu:=(hc.ti hl).array hk;obtain⟨te,iT,aM⟩:=bF hn;have hS:=(hc.ti iT).sizeOf w;simp[execOp,ho,hx,hy,hj,Instr.indexAt,run_underlying hu,asIntOf,BU,hS,aM,Instr.sureAddr,add_lit]
theorem Ub{F:Nat->Prop}{i:Int}:∀(n j:Nat),Afp i F n j->∀k:Nat,i=(k:Int)->j<=k->k<j+n->F k
 |0,j,_,k,_,h1,h2=>by omega
 |n+1,j,h,k,hk,h1,h2=>by
  rcases Nat.eq_or_lt_of_le h1 with e|e
  .subst e;exact h.1 ⟨hk.symm⟩
  .exact Ub n (j+1) h.2 k hk e (by omega)
theorem dt(cx:Cx)(i:ST):(TF cx i).den=i.den:=by
 unfold TF
 split
 .split<;>rfl
 .rfl
theorem Adg(hc:Az P cx){t e sz n:Nat}{ti:TI}(hl:look t cx.tt=some ti)(hk:ti.k=.array n e)(hn:size? cx e=some sz){x y:Operand}(ho:o.op=.indexAddr t x y){h off:Nat}{k:IntKind}{i:ST}
  (hv:rd cx σ T x=some (.ptr h off)) (hi:rd cx σ T y=some (.int k i)) (hs:P3 cx T h off n sz i K):∃r,K r/\Local P cx.gl σ T o r:=by
 unfold P3 at hs
 split at hs
 .rename_i q hq
  split at hs
  .rename_i hb
   have bE:i.den=(q:Int):=by rw[<-dt cx i,hq];rfl
   exact⟨_,hs,Kl hc hl hk hn ho hv hi (j:=q) bE (by simpa using hb)⟩
  .exact hs.elim
 .split at hs
  .rw[hc.D]at hs
   obtain⟨⟨h0,h1⟩,h2⟩:=hs;have h0:0<=i.den:=h0;have h1:i.den<n:=h1;have hq:i.den=((i.den.toNat:Nat):Int):=by omega
   exact⟨_,Ub n 0 h2 i.den.toNat hq (ZD _) (by omega),Kl hc hl hk hn ho hv hi hq (by omega)⟩
  .exact hs.elim
theorem Akh{c:Call}(ho:o.op=.call c)(aQ:c.callee=.builtin .max){x y:Operand}(hx:c.args.toList=[x,y]){k:IntKind}{s t:ST}(h1:rd cx σ T x=some (.int k s))(h2:rd cx σ T y=some (.int k t)):
  Local P cx.gl σ T o ⟨.int k (.a (max s.den t.den)),[],[],[]⟩:=by
 intro B N E a w ff cR hg st ag bJ hT;have mx:x∈o.op.operands.toList:=by simp[ho,Op.operands,Call.operands,aQ,hx]
 have my:y∈o.op.operands.toList:=by simp[ho,Op.operands,Call.operands,aQ,hx]
 have e1:c.args=#[x,y]:=XN (by simpa using hx);have jK:=(Aa h1 hg st (Aj ag mx) hT).aW;have uZ:=(Aa h2 hg st (Aj ag my) hT).aW;refine Ae st (v:=.int k (if t.den > s.den then t.den else s.den)) ?_ rfl (.int ?_)
 .simp[execOp,ho,resolve,aQ,e1,invoke,builtin,jK,uZ,Builtin.max_,Builtin.max2]
 .simp only[ST.den];split<;>omega
theorem Akg{c:Call}(ho:o.op=.call c)(aQ:c.callee=.builtin .min){x y:Operand}(hx:c.args.toList=[x,y]){k:IntKind}{s t:ST}(h1:rd cx σ T x=some (.int k s))(h2:rd cx σ T y=some (.int k t)):
  Local P cx.gl σ T o ⟨.int k (.a (min s.den t.den)),[],[],[]⟩:=by
 intro B N E a w ff cR hg st ag bJ hT;have mx:x∈o.op.operands.toList:=by simp[ho,Op.operands,Call.operands,aQ,hx]
 have my:y∈o.op.operands.toList:=by simp[ho,Op.operands,Call.operands,aQ,hx]
 have e1:c.args=#[x,y]:=XN (by simpa using hx);have jK:=(Aa h1 hg st (Aj ag mx) hT).aW;have uZ:=(Aa h2 hg st (Aj ag my) hT).aW;refine Ae st (v:=.int k (if t.den<s.den then t.den else s.den)) ?_ rfl (.int ?_)
 .simp[execOp,ho,resolve,aQ,e1,invoke,builtin,jK,uZ,Builtin.min_,Builtin.min2]
 .simp only[ST.den];split<;>omega
theorem Ajr:∀ {x y:Operand},Ik x y=true->x=y
 |.tmp i,.tmp j,h=>by simp[Ik]at h;rw[h]
 |.tmp _,.const _,h=>by simp[Ik]at h
 |.tmp _,.global _,h=>by simp[Ik]at h
 |.tmp _,.func _,h=>by simp[Ik]at h
 |.const _,_,h=>by simp[Ik]at h
 |.global _,_,h=>by simp[Ik]at h
 |.func _,_,h=>by simp[Ik]at h
theorem Af9(hc:Az P cx){t:Nat}{x y:Operand}(ho:o.op=.makeSlice t x y){a b:SV}(hx:rd cx σ T x=some a)(hy:rd cx σ T y=some b)(h:T9 cx σ T t a b (Ik x y) K):∃r,K r/\Local P cx.gl σ T o r:=by
 unfold T9 at h
 split at h
 .rename_i e _ _ _ hl
  split at h
  .rename_i te kc c hle
   split at h
   .obtain⟨h1,h2⟩:=h
    rw[hc.D]at h1;exact⟨_,h2,Ac7 hc ho hl rfl hle hx hy λ_=>⟨h1.lo,h1.mem,h1.hi⟩⟩
   .exact h.elim
  .rename_i te kn n kc c _ hle
   split at h
   .rename_i hb
    simp only[QB,ZM]at hb;obtain⟨h1,h2⟩:=h;rw[hc.D]at h1 h2;exact⟨_,h2,Ac6 hc ho hl rfl hle hx hy (Ajr hb.1) hb.2 λ_=>⟨h1.lo,h1.mem,h1.hi⟩⟩
   .exact h.elim
  .exact h.elim
 .exact h.elim
theorem Q6(hc:Az P cx){t len:Nat}{ps:Array (Nat×Operand)}(ho:o.op=.buildSlice t len ps)(h:Ao cx σ T t len ps.toList K):∃r,K r/\Local P cx.gl σ T o r:=by
 unfold Ao at h
 split at h
 .rename_i e _ _ _ vs hl kL
  split at h
  .rename_i te hle
   split at h
   .rename_i cs h1 hf
    split at h
    .rename_i hb
     simp only[QB,ZM]at hb;rw[hc.D]at h hb;have h:=h (λk=>takeN te.size (By (k * te.size) (loose.aF (norm.aN dn cs)))) ⟨λi r hr=>(Nw _ _ _ _ hr).symm⟩
     split at h
     .exact⟨_,h,Vh hc ho hl rfl hle kL h1 hf hb.1.1 hb.1.2 (XA hb.2)⟩
     .exact⟨_,h,Ql hc ho hl rfl hle kL h1 hf hb.1.1 hb.1.2 (XA hb.2)⟩
    .exact h.elim
   .exact h.elim
  .exact h.elim
 .exact h.elim
theorem Aby(hc:Az P cx){t:Nat}{x:Operand}{lo hi:Option Operand}(ho:o.op=.slice t x lo hi none){v:SV}{sa sb:Option SV}(hv:rd cx σ T x=some v)(cZ:D7 cx σ T lo=some sa)(nY:D7 cx σ T hi=some sb)
  (h:Iw cx σ T t v sa sb K):∃r,K r/\Local P cx.gl σ T o r:=by
 unfold Iw at h
 split at h
 .rename_i p hp
  have row:∀(nl:BT) (n:ST) (sz:Nat) (f:Nat->List SV) (e a b:Nat) (c:List SV),look t cx.tt=some ⟨.slice e,a,b,c⟩->(rd cx σ T x=some (.sl nl n sz f)\/∃h,rd cx σ T x=some (.eD nl n sz f h))->
    Iw.tU cx σ T sb K nl n sz f e p->∃r,K r/\Local P cx.gl σ T o r:=by
   intro nl n sz f e a b c hl hv h;unfold Iw.tU at h
   split at h
   .rename_i q hq
    split at h
    .rename_i hs
     rw[hc.D]at h;obtain⟨h1,h2⟩:=h;rw[C7]at h1;have h1:Ba (Ac σ.gm T)->0<=p.den/\p.den<=q.den/\q.den<=n.den:=λhT=>⟨(h1 hT).lo,(h1 hT).le,(h1 hT).hi⟩;have key:∀i j:Nat,(j:Int)=i+p.den->(λi:Nat=>f ((i:Int)+p.den).toNat) i=f j:=λi j IE=>by
      show f ((i:Int)+p.den).toNat=f j;rw[<-IE];rfl
     exact⟨_,h2 _ _ ⟨rfl,key⟩,Sr hc hl rfl hs ho hv cZ nY hp hq h1 key⟩
    .exact h.elim
   .exact h.elim
  split at h
  .rename_i nl n sz f e _ _ _ hl;exact row nl n sz f e _ _ _ hl (.inl hv) h
  .rename_i nl n sz f hd e _ _ _ hl;exact row nl n sz f e _ _ _ hl (.inr ⟨hd,hv⟩) h
  .rename_i nl n hd e _ _ _ hl
   split at h
   .rename_i e' n0 sz gr f k b hh
    split at h
    .rename_i pL
     simp only[QB,XI]at pL;obtain⟨rfl,xK⟩:=pL;rw[hc.D]at h;obtain⟨h0,h2,h3⟩:=h;obtain⟨te,hle⟩:=Option.isSome_iff_exists.1 xK;exact⟨_,h3,Ow hc hl rfl hle ho hv hh cZ nY h0.h ⟨Int.le_trans h2.lo h2.le,h2.hi⟩ trivial⟩
    .exact h.elim
   .rename_i e' n0 sz gr f k b hh
    split at h
    .rename_i hs
     rw[hc.D]at h;obtain⟨h0,h2,h3⟩:=h;exact⟨_,h3,Qi hc hl rfl hs ho hv hh nY cZ h0.h ⟨h2.lo,h2.le⟩⟩
    .exact h.elim
   .exact h.elim
  .rename_i nl n g0 hd e _ _ _ hl
   split at h
   .rename_i e' n0 g1 sz f k b hh
    split at h
    .rename_i pL
     simp only[QB,XI]at pL;obtain⟨rfl,xK⟩:=pL;rw[hc.D]at h;obtain⟨h0,h1,h2,h3⟩:=h;obtain⟨te,hle⟩:=Option.isSome_iff_exists.1 xK;exact⟨_,h3 _ ⟨rfl⟩,Sp hc hl rfl hle ho hv hh cZ nY h0.h h1.h ⟨Int.le_trans h2.lo h2.le,h2.hi⟩ rfl trivial⟩
    .exact h.elim
   .exact h.elim
  .rename_i s _ _ _ hl
   split at h
   .rename_i q hq
    rw[hc.D]at h;obtain⟨h1,h2⟩:=h;rw[C7]at h1;exact⟨_,h2 _ ⟨rfl⟩,Sq hc hl rfl ho hv cZ nY hp hq λhT=>⟨(h1 hT).lo,(h1 hT).le,(h1 hT).hi⟩⟩
   .exact h.elim
  .exact h.elim
 .exact h.elim
theorem Aba(hc:Az P cx){c:Call}(ho:o.op=.call c)(aQ:c.callee=.builtin .append){x y:Operand}{t e:Nat}{te ti:TI}(hx:c.args.toList=[x,y])(ht:c.argTypes.toList=[t,t])(aA:look t cx.tt=some ti)(hk:ti.k=.slice e)(hle:look e cx.tt=some te)(hz:0<te.size)
  {b s:SV} (hb:rd cx σ T x=some b) (hs:rd cx σ T y=some s) (h:Ws cx σ b s e te.size te.bytes K):∃r,K r/\Local P cx.gl σ T o r:=by
 unfold Ws at h
 split at h
 .rename_i m g aP
  rw[hc.D]at h
  split at h
  .obtain⟨h1,h2⟩:=h
   exact⟨_,h2 g _ ⟨rfl,λ_ _=>rfl⟩,Qn hc ho aQ hx ht aA hk hle rfl hz hb hs aP ⟨h1.mem,h1.hi⟩ rfl λ_ _=>rfl⟩
  .rename_i nl n cN f hd
   split at h
   .rename_i e' n0 lO hh
    split at h
    .rename_i pL
     simp only[QB,XI]at pL;obtain⟨⟨rfl,rfl⟩,rfl⟩:=pL;obtain⟨h1,h2⟩:=h;have h1:n.den=n0.den/\(n.den+m.den) * te.bytes<=140737488355328/\n.den+m.den<=9223372036854775807:=⟨h1.eq,h1.mem,h1.hi⟩
     let f':Nat->List SV:=λi=>if (i:Int)<n.den then f i else g ((i:Int)-n.den).toNat
     have k1:∀i:Nat,(i:Int)<n.den->f' i=f i:=λi hi=>by simp only[f'];rw[QE hi]
     have k2:∀i j:Nat,(i:Int)=n.den+j->(j:Int)<m.den->f' i=g j:=λi j hi _=>by
      simp only[f'];rw[QD (by omega)];congr 1;omega
     exact⟨_,h2 f' _ ⟨rfl,k1,k2⟩,Oz hc ho aQ hx ht aA hk hle rfl hz hb hh hs aP h1 rfl k1 k2⟩
    .exact h.elim
   .exact h.elim
  .rename_i nl n hd
   split at h
   .rename_i e' n0 lO gr f hh
    split at h
    .rename_i pL
     simp only[QB,XI]at pL;obtain⟨rfl,rfl⟩:=pL;obtain⟨h1,h2⟩:=h;have h1:n.den=n0.den/\(n.den+m.den) * te.bytes<=140737488355328/\n.den+m.den<=9223372036854775807:=⟨h1.eq,h1.mem,h1.hi⟩
     let f':Nat->List SV:=λi=>if (i:Int)<n.den then f i else g ((i:Int)-n.den).toNat
     have k1:∀i:Nat,(i:Int)<n.den->f' i=f i:=λi hi=>by simp only[f'];rw[QE hi]
     have k2:∀i j:Nat,(i:Int)=n.den+j->(j:Int)<m.den->f' i=g j:=λi j hi _=>by
      simp only[f'];rw[QD (by omega)];congr 1;omega
     exact⟨_,h2 f' _ ⟨rfl,k1,k2⟩,Oy hc ho aQ hx ht aA hk hle rfl hz hb hh hs aP h1 rfl k1 k2⟩
    .exact h.elim
   .exact h.elim
  .rename_i nl n g0 hd
   split at h
   .rename_i e' n0 g1 lO f hh
    split at h
    .rename_i pL
     simp only[QB,XI]at pL;obtain⟨rfl,rfl⟩:=pL;obtain⟨h1,h0,h2⟩:=h;have h1:n.den=n0.den/\(n.den+m.den) * te.bytes<=140737488355328/\n.den+m.den<=9223372036854775807:=⟨h1.eq,h1.mem,h1.hi⟩
     let f':Nat->List SV:=λi=>if (i:Int)<n.den then f i else g ((i:Int)-n.den).toNat
     have k1:∀i:Nat,(i:Int)<n.den->f' i=f i:=λi hi=>by simp only[f'];rw[QE hi]
     have k2:∀i j:Nat,(i:Int)=n.den+j->(j:Int)<m.den->f' i=g j:=λi j hi _=>by
      simp only[f'];rw[QD (by omega)];congr 1;omega
     exact⟨_,h2 f' _ ⟨rfl,k1,k2⟩ _ ⟨rfl⟩,Qm hc ho aQ hx ht aA hk hle rfl hz hb hh hs aP h1 h0.h rfl rfl k1 k2⟩
    .exact h.elim
   .exact h.elim
  .exact h.elim
 .exact h.elim
theorem Ag6(hc:Az P cx){c:Call}(ho:o.op=.call c)(aQ:c.callee=.builtin .copy){x y:Operand}{t t':Nat}(hx:c.args.toList=[x,y])(ht:c.argTypes.toList=[t,t']){d s:SV}(hd:rd cx σ T x=some d)(hs:rd cx σ T y=some s)(h:Ua cx σ T t d s K):∃r,K r/\Local P cx.gl σ T o r:=by
 unfold Ua at h
 split at h
 .rename_i e _ _ _ OM hl
  split at h
  .rename_i ty n sz f lO hh aM
   split at h
   .rename_i m g aP GH
    have GH:lO=sz:=by simpa using GH
    subst GH;rw[hc.D]at h
    let f':Nat->List SV:=λi=>if (i:Int)<min m.den n.den then g i else f i
    have k1:∀i:Nat,(i:Int)<min m.den n.den->f' i=g i:=λi hi=>by simp only[f'];rw[QE hi]
    have k2:∀i:Nat,min m.den n.den<=(i:Int)->(i:Int)<n.den->f' i=f i:=λi hi _=>by simp only[f'];rw[QD (by omega)]
    exact⟨_,h f' _ ⟨rfl,k1,k2⟩,Agc hc ho aQ hx ht hl rfl hd hs hh aM aP k1 k2⟩
   .exact h.elim
  .exact h.elim
 .exact h.elim
theorem S5(hc:Az P cx){t:Nat}{x:Operand}(ho:o.op=.load t x){h j off n:Nat}(hv:rd cx σ T x=some (.cU h j off))(hn:size? cx t=some n)
  (hs:match nth σ.hp h with
   |some (.row _ m _ f)=>Ob cx.D σ.gm T (rp j (cx.D.i m))/\
    if Nat.ble (off+n) (Ag (f j)) then
     match pack (cG cx t) (takeN n (By off (f j))) with
     |some v=>K ⟨v,[],[h],[]⟩
     |none=>False
    else False
   |_=>False):∃r,K r/\Local P cx.gl σ T o r:=by
 split at hs
 .rename_i ty m sz f hh
  obtain⟨h1,h2⟩:=hs;rw[hc.D,C7]at h1
  split at h2
  .rename_i hb
   split at h2
   .rename_i v hp
    rw[Ax,A5]at hp;rw[Af]at hb;exact⟨_,h2,Sv hc ho hv hn hh (λhT=>(h1 hT).h) (XA hb) hp⟩
   .exact h2.elim
  .exact h2.elim
 .exact hs.elim
theorem P2(hc:Az P cx){t:Nat}{x y:Operand}(ho:o.op=.store t x y){h j off n:Nat}{v:SV}(hv:rd cx σ T x=some (.cU h j off))(hy:zM cx σ T t y=some v)(hn:size? cx t=some n)
  (hs:match nth σ.hp h with
   |some (.row ty m sz f)=>rp j (cx.D.i m)/\
    if Ag v.cells==n&&Nat.ble (off+n) (Ag (f j))&&D8 v.cells&&Ak (.agg (loose.aF (norm.aN cx.D v.cells))) then
     PW f j (B9 (f j) off (loose.aF (norm.aN cx.D v.cells))) λf'=>K ⟨.tup [],[.put h (.row ty m sz f')],[h],[]⟩
    else False
   |_=>False):∃r,K r/\Local P cx.gl σ T o r:=by
 split at hs
 .rename_i ty m sz f hh
  obtain⟨h1,h2⟩:=hs
  split at h2
  .rename_i hb
   simp only[QB,XI,Af]at hb;rw[hc.D]at h1 h2 hb
   let f':Nat->List SV:=λi=>if i=j then B9 (f j) off (loose.aF (norm.aN dn v.cells)) else f i
   have k1:f' j=B9 (f j) off (loose.aF (norm.aN dn v.cells)):=by simp[f']
   have k2:∀i:Nat,i≠j->f' i=f i:=λi hi=>by simp[f',hi]
   exact⟨_,h2 f' ⟨k1,k2⟩,Qh hc ho hv hy hn hh h1.h hb.1.1.1 (XA hb.1.1.2) hb.1.2 hb.2 k1 k2⟩
  .exact h2.elim
 .exact hs.elim
theorem S4(hc:Az P cx){t:Nat}{x:Operand}(ho:o.op=.load t x){h j off n:Nat}{m':ST}(hv:rd cx σ T x=some (.cK m' h j off))(hn:size? cx t=some n)
  (hs:match nth σ.hp h with
   |some (.own _ m _ _ f)=>Ob cx.D σ.gm T (oW (cx.D.i m') (cx.D.i m))/\Ob cx.D σ.gm T (rp j (cx.D.i m))/\
    if Nat.ble (off+n) (Ag (f j)) then
     match pack (cG cx t) (takeN n (By off (f j))) with
     |some v=>K ⟨v,[],[h],[]⟩
     |none=>False
    else False
   |_=>False):∃r,K r/\Local P cx.gl σ T o r:=by
 split at hs
 .rename_i ty m sz gr f hh
  obtain⟨h0,h1,h2⟩:=hs;rw[hc.D,C7]at h0 h1
  split at h2
  .rename_i hb
   split at h2
   .rename_i v hp
    rw[Ax,A5]at hp;rw[Af]at hb;exact⟨_,h2,Su hc ho hv hn hh (λhT=>(h0 hT).h) (λhT=>(h1 hT).h) (XA hb) hp⟩
   .exact h2.elim
  .exact h2.elim
 .exact hs.elim
theorem P1(hc:Az P cx){t:Nat}{x y:Operand}(ho:o.op=.store t x y){h j off n:Nat}{m':ST}{v:SV}(hT:T=[])(hv:rd cx σ T x=some (.cK m' h j off))(hy:zM cx σ T t y=some v)(hn:size? cx t=some n)
  (hs:match nth σ.hp h with
   |some (.own ty m sz gr f)=>oW (cx.D.i m') (cx.D.i m)/\rp j (cx.D.i m)/\
    if Ag v.cells==n&&Nat.ble (off+n) (Ag (f j))&&D8 v.cells&&Ak (.agg (loose.aF (norm.aN cx.D v.cells))) then
     PW f j (B9 (f j) off (loose.aF (norm.aN cx.D v.cells))) λf'=>K ⟨.tup [],[.put h (.own ty m sz gr f')],[h],[]⟩
    else False
   |_=>False):∃r,K r/\Local P cx.gl σ T o r:=by
 split at hs
 .rename_i ty m sz gr f hh
  obtain⟨h0,h1,h2⟩:=hs
  split at h2
  .rename_i hb
   simp only[QB,XI,Af]at hb;rw[hc.D]at h0 h1 h2 hb
   let f':Nat->List SV:=λi=>if i=j then B9 (f j) off (loose.aF (norm.aN dn v.cells)) else f i
   have k1:f' j=B9 (f j) off (loose.aF (norm.aN dn v.cells)):=by simp[f']
   have k2:∀i:Nat,i≠j->f' i=f i:=λi hi=>by simp[f',hi]
   exact⟨_,h2 f' ⟨k1,k2⟩,Qg hc ho hv hy hn hh h0.h h1.h hb.1.1.1 (XA hb.1.1.2) hb.1.2 hb.2 (by subst hT;trivial) k1 k2⟩
  .exact h2.elim
 .exact hs.elim
theorem Ajj{n:Int}{f:Nat->List SV}{A:Prop}(h:A->Hc n f):∃r,SLe r n/\(A->Lw r n f):=by
 by_cases hA:A
 .obtain⟨r,hr⟩:=Ih (h hA)
  exact⟨r,⟨.inl (Int.le_of_eq hr.len)⟩,λ_=>hr⟩
 .exact⟨[],⟨.inr rfl⟩,λg=>absurd g hA⟩
theorem Mr(hc:Az P cx){src dst e:TypeId}{x:Operand}(ho:o.op=.convert src dst x){ts td:TI}(lI:look src cx.tt=some ts)(zS:ts.k=.slice e)(uD:look dst cx.tt=some td)(pG:td.k=.string)
  {nl:BT} {n:ST} {f:Nat->List SV} (hv:rd cx σ T x=some (.sl nl n 1 f)\/∃h,rd cx σ T x=some (.eD nl n 1 f h)) (h:Te cx σ T e n f K):∃r,K r/\Local P cx.gl σ T o r:=by
 unfold Te at h
 split at h
 .rename_i a b c hle
  rw[hc.D]at h;obtain⟨h1,h2⟩:=h;obtain⟨r,hr⟩:=Ih h1;exact⟨_,h2 r hr,K9 hc ho lI zS uD pG hle rfl hv λ_=>⟨h1,hr⟩⟩
 .rename_i a b c _ hle
  rw[hc.D]at h;obtain⟨h1,h2⟩:=h;rw[C7]at h1;obtain⟨r,fe,hr⟩:=Ajj h1;exact⟨_,h2 r fe ((C7 _ _ _).2 hr),K9 hc ho lI zS uD pG hle rfl hv λg=>⟨h1 g,hr g⟩⟩
 .exact h.elim
theorem Zo(hc:Az P cx)(bT:Eh P cx.gl cx.fC)(h:Afn cx σ T o K):∃r,K r/\Local P cx.gl σ T o r:=by
 unfold Afn at h
 split at h
 .rename_i x ho;exact U4 (.inl ho) h
 .rename_i x ho;exact U4 (.inr ho) h
 .rename_i e ho
  split at h
  .rename_i ti hl
   split at h
   .split at h
    .rename_i n el hk
     split at h
     .rename_i cN _
      split at h
      .rename_i hb
       simp only[QB,XI]at hb;obtain⟨f,hf,h⟩:=h;exact⟨_,h,Vi hc ho hl hb.1 (XA hb.2) hf.h⟩
      .exact h.elim
     .exact h.elim
    .exact h.elim
   .exact⟨_,h,Ada hc ho hl⟩
  .exact h.elim
 .rename_i e x ho
  split at h
  .rename_i ti v hl hv
   split at h
   .rename_i hb
    simp only[QB]at hb;exact⟨_,h,Aki ho hv hb.2⟩
   .exact h.elim
  .exact h.elim
 .rename_i t ps ho
  split at h
  .rename_i ti vs hl hv
   split at h
   .rename_i cs fs h1 hf hk
    exact⟨_,h,Rv hc ho hl hv h1 hf (.inl ⟨fs,hk⟩) (λe n gP=>by rw[hk]at gP;cases gP)⟩
   .rename_i cs n e h1 hf hk
    split at h
    .rename_i m hm
     exact⟨_,h,Rv hc ho hl hv h1 hf (.inr ⟨n,e,hk⟩) (λe' n' gP=>by rw[hk]at gP;cases gP;exact⟨m,hm⟩)⟩
    .exact h.elim
   .exact h.elim
  .exact h.elim
 .rename_i t x ho
  split at h
  .rename_i hd off n hv hn
   split at h
   .rename_i ty cs hh
    split at h
    .rename_i hb
     split at h
     .rename_i v hp
      rw[Ax,A5]at hp;refine⟨_,h,Vf hc ho hv hn hh ?_ hp⟩;rw[Af]at hb;exact XA hb
     .exact h.elim
    .exact h.elim
   .rename_i ty m sz f hh
    split at h
    .rename_i n' el cN _ _ hl
     split at h
     .rename_i he
      obtain⟨zT,rfl⟩:=he;obtain⟨hm,cs,hf,h⟩:=h;rw[hc.D]at hm hf;exact⟨_,h,Qj hc ho hl rfl rfl hv hh hm.h hf⟩
     .exact h.elim
    .exact h.elim
   .exact h.elim
  .rename_i cs n hv hn
   split at h
   .rename_i hb
    obtain⟨v,hp,h⟩:=Fu h;rw[Ax]at hp;refine⟨_,h,Ss hc ho hv hn ?_ hp⟩;rw[Af]at hb;exact XA hb
   .exact h.elim
  .rename_i hd j off n hv hn
   exact S5 hc ho hv hn h
  .rename_i m' hd j off n hv hn
   exact S4 hc ho hv hn h
  .exact h.elim
 .rename_i t x y ho
  split at h
  .split at h
   .rename_i ty cs hh
    split at h
    .rename_i hb
     simp only[QB,XI,Af]at hb;exact⟨_,h,Ac5 hc ho ‹_› ‹_› ‹_› hh hb.1.1 (XA hb.1.2) hb.2⟩
    .exact h.elim
   .rename_i ty m sz f hh
    split at h
    .split at h
     .rename_i he
      obtain⟨zT,rfl⟩:=he;obtain⟨hm,hp,f',hf,h⟩:=h;rw[hc.D]at hm hf;exact⟨_,h,Ov hc ho ‹look t cx.tt=_› rfl rfl ‹_› ‹_› hh hm.h hp.SW hp.plain hf⟩
     .exact h.elim
    .exact h.elim
   .exact h.elim
  .exact P2 hc ho ‹_› ‹_› ‹_› h
  .exact P1 hc ho rfl ‹_› ‹_› ‹_› h
  .exact h.elim
 .rename_i t x i ho
  split at h
  .rename_i hd off fo ft hv hf
   split at h
   .rename_i m hn;exact⟨_,h,Mo hc ho hv hf hn⟩
   .exact h.elim
  .rename_i cs fo ft hv hf
   split at h
   .rename_i m hn
    split at h
    .rw[Ax,A5]at h
     exact⟨_,h,K6 hc ho hv hf hn⟩
    .exact h.elim
   .exact h.elim
  .rename_i hd j off fo ft hv hf
   split at h
   .rename_i m hn;exact⟨_,h,K8 hc ho hv hf hn⟩
   .exact h.elim
  .rename_i n' hd j off fo ft hv hf
   split at h
   .rename_i m hn;exact⟨_,h,K7 hc ho hv hf hn⟩
   .exact h.elim
  .exact h.elim
 .rename_i x ho
  split at h
  .rename_i hd off hv;exact⟨_,h,Dw ho hv (.inl ⟨_,_,rfl⟩)⟩
  .rename_i cs hv;exact⟨_,h,Dw ho hv (.inr (.inl ⟨_,rfl⟩))⟩
  .rename_i hd j off hv;exact⟨_,h,Dw ho hv (.inr (.inr (.inl ⟨_,_,_,rfl⟩)))⟩
  .rename_i n hd j off hv;exact⟨_,h,Dw ho hv (.inr (.inr (.inr (.inr ⟨_,_,_,_,rfl⟩))))⟩
  .rename_i n sz f hv;exact⟨_,h,Dw ho hv (.inr (.inr (.inr (.inl ⟨_,_,_,rfl⟩))))⟩
  .exact h.elim
 .rename_i t x i ho
  split at h
  .rename_i cs fo ft hv hf
   split at h
   .rename_i m hn
    split at h
    .rename_i hb
     obtain⟨v,hp,h⟩:=Fu h;rw[Ax,A5]at hp;rw[Af]at hb;exact⟨_,h,Ac8 hc ho hv hf hn (XA hb) hp⟩
    .exact h.elim
   .exact h.elim
  .exact h.elim
 .rename_i t x y ho
  split at h
  .rename_i nl n sz f k i e a b c hv hi hl
   exact Lg hc ho (.inl hv) hi hl h
  .rename_i nl n sz f hd k i e a b c hv hi hl
   exact Lg hc ho (.inr ⟨hd,hv⟩) hi hl h
  .rename_i hd k i e a b c hv hi hl
   split at h
   .rename_i ty n sz f hh
    split at h
    .rename_i hs
     rw[hc.D]at h;obtain⟨h1,h2⟩:=h;rw[C7]at h1;have h1:Ba (Ac σ.gm T)->0<=i.den/\i.den<n.den:=λhT=>⟨(h1 hT).lo,(h1 hT).hi⟩;refine⟨_,Lt h2 i.den.toNat ((C7 _ _ _).2 λhT=>?_),Sz hc hl rfl hs ho hv hh hi h1⟩;have:=(h1 hT).1;refine⟨?_⟩;show ((i.den.toNat:Nat):Int)=i.den;omega
    .exact h.elim
   .exact h.elim
  .rename_i nl m hd k i e a b c hv hi hl
   split at h
   .rename_i ty n sz gr f hh
    split at h
    .rename_i hs
     rw[hc.D]at h;obtain⟨h0,h1,h2⟩:=h;rw[C7]at h0 h1;have h1:Ba (Ac σ.gm T)->0<=i.den/\i.den<n.den:=λhT=>⟨(h1 hT).lo,(h1 hT).hi⟩;refine⟨_,Lt h2 i.den.toNat ((C7 _ _ _).2 λhT=>?_),S0 hc hl rfl hs ho hv hh hi (λhT=>(h0 hT).h) h1⟩;have:=(h1 hT).1;refine⟨?_⟩;show ((i.den.toNat:Nat):Int)=i.den;omega
    .exact h.elim
   .exact h.elim
  .rename_i hd off k i n e a b c hv hi hl
   split at h
   .rename_i sz hs
    split at h
    .rename_i ty m cN f hh
     split at h
     .rename_i he
      have he:cN=sz:=by simpa using he
      subst he;rw[hc.D]at h;obtain⟨⟨h0,h1⟩,h2⟩:=h;have h0:0<=i.den:=h0;have h1:i.den<n:=h1;refine⟨_,Lt h2 i.den.toNat ((C7 _ _ _).2 λ_=>⟨?_⟩),Qk hc hl rfl hs ho hv hh hi h0 h1⟩;show ((i.den.toNat:Nat):Int)=i.den;omega
     .exact h.elim
    .exact Adg hc hl rfl hs ho hv hi h
   .exact h.elim
  .rename_i n sz f k i n' e a b c hv hi hl
   split at h
   .rename_i hs
    obtain⟨hs,rfl⟩:=hs;rw[hc.D]at h;obtain⟨h1,h2⟩:=h;rw[C7]at h1;have h1:Ba (Ac σ.gm T)->0<=i.den/\i.den<n:=λhT=>⟨(h1 hT).lo,(h1 hT).hi⟩;refine⟨_,Lt h2 i.den.toNat ((C7 _ _ _).2 λhT=>?_),S1 hc hl rfl hs ho hv hi h1⟩;have:=(h1 hT).1;refine⟨?_⟩;show ((i.den.toNat:Nat):Int)=i.den;omega
   .exact h.elim
  .exact h.elim
 .rename_i f fi cs ho
  split at h
  .rename_i vs iL hv;exact⟨_,h,Ve ho iL hv⟩
  .exact h.elim
 .rename_i t len ps ho;exact Q6 hc ho h
 .rename_i t l c ho
  split at h
  .rename_i a b ha hb;exact Af9 hc ho ha hb h
  .exact h.elim
 .rename_i t x lo hi ho
  split at h
  .rename_i v a b hv ha hb;exact Aby hc ho hv ha hb h
  .exact h.elim
 .rename_i t x ix ho
  split at h
  .rename_i s k i _ _ _ hv hi hl
   rw[hc.D]at h;obtain⟨h1,h2⟩:=h;rw[C7]at h1;exact⟨_,h2 _ ⟨rfl⟩,Sw hc hl rfl ho hv hi λhT=>⟨(h1 hT).lo,(h1 hT).hi⟩⟩
  .rename_i cs k q n e _ _ _ hv hi hl
   split at h
   .rename_i sz hn
    split at h
    .rename_i hb
     simp only[QB]at hb;obtain⟨v,hp,h⟩:=Fu h;rw[Ax,A5]at hp;exact⟨_,h,S2 hc hl rfl ho hv hi hn (by simpa using hb.1) (by rw[<-Af];exact XA hb.2) hp⟩
    .exact h.elim
   .exact h.elim
  .exact h.elim
 .rename_i t ho
  split at h
  .exact⟨_,h,Xj ho⟩
  .exact h.elim
 .rename_i t m k x ho
  split at h
  .rename_i kt vt _ _ _ h0 s b hl hm hk hx
   split at h
   .rename_i F fc _ hh
    exact⟨_,h _ ⟨λk=>rfl⟩,Kk hc (.inl ho) hl rfl fc rfl hm hk hx hh ⟨λk=>by rw[hc.D];rfl⟩⟩
   .exact h.elim
  .exact h.elim
 .rename_i t m k x ho
  split at h
  .rename_i kt vt _ _ _ h0 s b hl hm hk hx
   split at h
   .rename_i F fc _ hh
    exact⟨_,h _ ⟨λk=>rfl⟩,Kk hc (.inr ho) hl rfl fc rfl hm hk hx hh ⟨λk=>by rw[hc.D];rfl⟩⟩
   .exact h.elim
  .exact h.elim
 .rename_i t m k ho
  split at h
  .rename_i kt vt _ _ _ h0 s hl hm hk
   split at h
   .rename_i F fc WJ hh
    exact⟨_,h,Aad hc ho hl rfl fc rfl WJ rfl rfl hm hk hh⟩
   .exact h.elim
  .exact h.elim
 .rename_i x i ho
  split at h
  .rename_i vs hv
   obtain⟨v,hp,h⟩:=Fu h;exact⟨_,h,Xo ho hv hp⟩
  .exact h.elim
 .rename_i op t x ho
  split at h
  .rename_i b hv;exact⟨_,h,Akd ho hv⟩
  .rename_i k n hv;exact⟨_,h,Akf ho hv⟩
  .exact h.elim
 .rename_i op t x y u ho
  split at h
  .rename_i a w hx hy;exact W8 hc ho hx hy h
  .rename_i a b _ hx hy;exact W9 hc ho hx hy h
  .exact h.elim
 .rename_i src dst x ho
  split at h
  .rename_i k' n k a b c tj hv hl iA;exact⟨_,h,Agd hc ho hl iA rfl hv⟩
  .rename_i s e a b c a' b' c' hv hl iA
   split at h
   .rename_i a'' b'' c'' hle
    rw[hc.D]at h
    split at h
    .split at h
     .obtain⟨h1,h2⟩:=h
      exact⟨_,h2 _ ⟨rfl⟩,Aab hc ho iA rfl hl rfl hle rfl hv h1.h⟩
     .exact h.elim
    .obtain⟨h1,h2⟩:=h
     rw[C7]at h1;exact⟨_,h2 _ ⟨rfl⟩,Vd hc ho iA rfl hl rfl hle rfl hv λhT=>(h1 hT).h⟩
   .exact h.elim
  .rename_i nl n f a b c e a' b' c' hv hl iA
   exact Mr hc ho iA rfl hl rfl (.inl hv) h
  .rename_i nl n f hd a b c e a' b' c' hv hl iA
   exact Mr hc ho iA rfl hl rfl (.inr ⟨hd,hv⟩) h
  .rename_i n hd e a b c e' a' b' c' hv hl iA
   split at h
   .rename_i a'' b'' c'' ty n0 f hle hh
    split at h
    .rename_i hb
     simp only[QB,XI]at hb;obtain⟨⟨rfl,rfl⟩,rfl⟩:=hb;rw[hc.D]at h;exact⟨_,h.2,Xp hc ho hl rfl hle rfl hv hh h.1.h⟩
    .exact h.elim
   .exact h.elim
  .rename_i nl n hd a b c e a' b' c' hv hl iA
   split at h
   .rename_i a'' b'' c'' ty n0 gr f hle hh
    rw[hc.D]at h;obtain⟨h0,h1,h2⟩:=h;obtain⟨r,hr⟩:=Ih h1;exact⟨_,h2 r hr,Aac hc ho iA rfl hl rfl hle rfl hv hh h0.h ⟨h1,hr⟩⟩
   .exact h.elim
  .exact h.elim
 .rename_i c ho
  split at h
  .rename_i aQ
   split at h
   .rename_i x t hx ht
    split at h
    .rename_i nl n sz f e a b c hv hl;exact⟨_,h,Ox hc ho aQ hx ht hl rfl (.inl hv)⟩
    .rename_i nl n sz f hd e a b c hv hl;exact⟨_,h,Ox hc ho aQ hx ht hl rfl (.inr ⟨hd,hv⟩)⟩
    .rename_i nl n hd e a b c hv hl;exact⟨_,h,Xn hc ho aQ hx ht hl rfl hv⟩
    .rename_i nl n g0 hd e a b c hv hl;exact⟨_,h,Xk hc ho aQ hx ht hl rfl hv⟩
    .rename_i s a b c hv hl;exact⟨_,h,Xl hc ho aQ hx ht hl rfl hv⟩
    .rename_i hd e a b c hv hl
     split at h
     .rename_i ty n sz f hh;exact⟨_,h,Xm hc ho aQ hx ht hl rfl hv hh⟩
     .exact h.elim
    .exact h.elim
   .exact h.elim
  .rename_i aQ
   split at h
   .rename_i x y t t' hx ht
    split at h
    .rename_i b s e _ _ _ hb hs hl
     split at h
     .rename_i te hle
      split at h
      .rename_i dZ
       simp only[QB,XI,ZM]at dZ;obtain⟨rfl,hz⟩:=dZ;exact Aba hc ho aQ hx ht hl rfl hle hz hb hs h
      .exact h.elim
     .exact h.elim
    .exact h.elim
   .exact h.elim
  .rename_i aQ
   split at h
   .rename_i x t hx ht
    split at h
    .rename_i n aa hd e _ _ _ hv hl
     split at h
     .rename_i e' n0 sz gr f te hh hle
      split at h
      .rename_i pL
       simp only[QB,XI]at pL;obtain⟨⟨rfl,aM⟩,gB⟩:=pL;rw[hc.D]at h;obtain⟨h0,h3⟩:=h
       let f':Nat->List SV:=λi=>if (i:Int)<aa.den then f i else te.zero
       have q1:∀i:Nat,(i:Int)<aa.den->f' i=f i:=λi hi=>by simp only[f'];rw[QE hi]
       have q2:∀i:Nat,aa.den<=(i:Int)->f' i=te.zero:=λi hi=>by simp only[f'];rw[QD (by omega)]
       exact⟨_,h3 f' ⟨q1,q2⟩,S3 hc ho aQ hx ht hl rfl hle aM hv hh h0.h gB q1 q2 trivial⟩
      .exact h.elim
     .exact h.elim
    .exact h.elim
   .exact h.elim
  .rename_i aQ
   split at h
   .rename_i x y t t' hx ht
    split at h
    .rename_i d s hd hs;exact Ag6 hc ho aQ hx ht hd hs h
    .exact h.elim
   .exact h.elim
  .rename_i aQ
   split at h
   .rename_i x y hx
    split at h
    .rename_i k a k' b ha hb
     split at h
     .rename_i e
      subst e;rw[hc.D]at h;exact⟨_,h _ ⟨rfl⟩,Akh ho aQ hx ha hb⟩
     .exact h.elim
    .exact h.elim
   .exact h.elim
  .rename_i aQ
   split at h
   .rename_i x y hx
    split at h
    .rename_i k a k' b ha hb
     split at h
     .rename_i e
      subst e;rw[hc.D]at h;exact⟨_,h _ ⟨rfl⟩,Akg ho aQ hx ha hb⟩
     .exact h.elim
    .exact h.elim
   .exact h.elim
  .rename_i f aQ
   split at h
   .rename_i vs hv;exact Hj hc bT (Ad8 ho aQ hv) h
   .exact h.elim
  .rename_i sl aQ
   split at h
   .rename_i vs f hv hs
    refine Hj hc bT (λhg=>?_) h;have:=Sd (cs:=[]) ho aQ hv (.inr ⟨rfl,hs⟩) hg
    rwa [YS]at this
   .rename_i vs f cs hv hs
    exact Hj hc bT (Sd ho aQ hv (.inl hs)) h
   .exact h.elim
  .exact h.elim
 .exact h.elim
end
structure rU(σ:Sy):Prop where
 tg:∀s g,Au σ.fr s=some g->∀i∈g.tg,i<σ.gm.length
 gt:∀s g i,Au σ.fr s=some g->g.gt=some i->∃c,g.v=.bool c/\nth σ.gm i=some c
 gf:∀s g i,Au σ.fr s=some g->g.gf=some i->∃c,g.v=.bool c/\nth σ.gm i=some (.not c)
theorem G8{gm:List BT}{c:BT}:∀ {T:List Nat},(∀i∈T,i<gm.length)->Ac (gm++[c]) T=Ac gm T
 | [],_=>rfl
 |i :: T,h=>by
  have h1:=G8 (gm:=gm) (c:=c) (T:=T) λj hj=>h j (QX _ hj);have h2:nth (gm++[c]) i=nth gm i:=by rw[Ah,Ah,QJ (h i (QY ..))]
  simp only[Ac,YE,h2]at *;rw[h1]
theorem Bo{α:Type}(fr:List (Option α))(d s:Nat)(g:Option α):Au (A0 fr d g) s=if s=d/\d<fr.length then g else Au fr s:=by
 rw[D5,D5,Ar,ZK]
 by_cases e:d=s
 .subst e
  by_cases h:d<fr.length<;>simp[h]
 .rw[QD e,QD (λh=>e h.1.symm)]
section
variable {P:Program} {cx:Cx}
theorem Ah6{a:Act}{d:Nat}{v:Value}(h:a.tmps.size<=d):a.put (some d) v=a:=by
 obtain⟨t,ds⟩:=a;simp only[Act.put]at *;congr 1;exact Array.setIfInBounds_eq_of_size_le h
theorem St.dA{B:Bs}{N:Nat}{E:Env}{a:Act}{w:World}{σ:Sy}{hf:Nat->Hl}(st:St B N E a w (A6 σ) hf)(hN:σ.fr.length=N)(d:Option Nat)(v:Value)(g:Option G)
  (hg:∀g',g=some g'->(Ba (Ac σ.gm g'.tg)->Rel E w g'.v v)/\(¬Ba (Ac σ.gm g'.tg)->v=undef)) (dS:List Hl):St B N E (a.put d v) w (A6 ⟨dA σ.fr d g,dS,σ.gm⟩) hf:=by
 have key:∀k,d=some k->k<N->St B N E (a.put d v) w (A6 ⟨Sx.dA σ.fr d g,dS,σ.gm⟩) hf:=by
  intro k hk aA;have:=st.put d v (g.map λg=>(Ac σ.gm g.tg,g.v)) (λcs s e=>by
   cases g with
   |none=>cases e
   |some g'=>simp only[QO,Option.some.injEq,Prod.mk.injEq]at e;obtain⟨rfl,rfl⟩:=e;exact hg g' rfl) (λj hj=>by rw[hk]at hj;cases hj;exact aA)
  have e:AT (A6 σ) d (g.map λg=>(Ac σ.gm g.tg,g.v))=A6 ⟨Sx.dA σ.fr d g,dS,σ.gm⟩:=by
   subst hk
   funext s;simp only[AT,aL,A6,Sx.dA,Bo]
   by_cases e:s=k
   .subst e;simp[hN,aA]
   .simp[e]
  rw[e]at this;exact this
 cases d with
 |none=>exact st
 |some k =>
  by_cases aA:k<N
  .exact key k rfl aA
  .rw[Ah6 (by rw[st.size];omega)]
   have e:A6 ⟨Sx.dA σ.fr (some k) g,dS,σ.gm⟩=A6 σ:=by
    funext s;simp only[A6,Sx.dA,Bo];rw[QD (λh=>aA (by rw[<-hN];exact h.2))]
   rw[e];exact st
theorem Qs{hp:List Hl}{h:Nat}{hl:Hl}(hle:h<=hp.length):Ap (DH hp h hl)=aL (Ap hp) h hl:=by
 funext k;unfold DH;rw[Af]
 by_cases e:h=hp.length
 .subst e
  simp only[beq_self_eq_true,if_true,Ap,Ah,aL]
  by_cases e2:k=hp.length
  .subst e2;simp
  .rw[QD e2]
   by_cases e3:k<hp.length
   .rw[QJ e3]
   .rw[QV (by simp;omega),QV (by omega)]
 .have:(h==hp.length)=false:=by simpa using e
  simp only[this,QR,if_false,Ap,Ah,Ar,aL,ZK]
  by_cases e2:h=k
  .subst e2;rw[QE rfl,QE rfl,QE (by omega)];rfl
  .rw[QD e2,QD (λh=>e2 h.symm)]
theorem Jb:∀(es:List Ef) (hp:List Hl),Kj hp es=true->Ap (Mp hp es)=Hz (Ap hp) es
 | [],hp,_=>rfl
 |.set h off vs :: es,hp,ho=>by
  simp only[Kj]at ho;show Ap (Mp (zV hp (.set h off vs)) es)=Hz (yX (Ap hp) (.set h off vs)) es;rw[Jb es _ ho];congr 1;simp only[zV,yX];cases hn:nth hp h with
  |none=>simp[Ap,hn]
  |some hl =>
   rw[Bx hn];cases hl<;>try rfl
   rename_i ty cs
   funext k;have aA:h<hp.length:=by rw[Ah]at hn;exact (List.getElem?_eq_some_iff.1 hn).1
   simp only[Ap,Ah,Ar,aL,ZK]
   by_cases e2:h=k
   .subst e2;rw[QE rfl,QE rfl,QE aA];rfl
   .rw[QD e2,QD (λh=>e2 h.symm)]
 |.put h hl :: es,hp,ho=>by
  simp only[Kj,QB,Af]at ho;show Ap (Mp (zV hp (.put h hl)) es)=Hz (yX (Ap hp) (.put h hl)) es;rw[Jb es _ ho.2];congr 1;exact Qs (XA ho.1)
theorem G6{all:List Oper}{ops:Array Oper}(kC:ops.toList=all){σ aJ:Sy}{T:List Nat}{o:Oper}(h:guardOf all σ o.guard=some (some (aJ,T)))(wf:rU σ):
  rU aJ/\A6 aJ=A6 σ/\aJ.hp=σ.hp/\aJ.fr.length=σ.fr.length/\(∀i∈T,i<aJ.gm.length)/\(∃x,aJ.gm=σ.gm++x)/\
  (∀(i:Nat),Au aJ.fr i=none↔Au σ.fr i=none)/\
  ∀(B:Bs) (N:Nat) (E:Env) (a:Act) (w:World) (ff:Nat->SG) (hf:Nat->Hl),St B N E a w ff hf->(∀j want s,o.guard=some (j,want)->(nth all j).bind (·.dst)=some s->ff s=A6 σ s)->(Region.wanted o (yielded ops a.tmps)=true↔Ba (Ac aJ.gm T)):=by
 unfold guardOf at h
 split at h
 .rename_i hg
  simp only[Option.some.injEq,Prod.mk.injEq]at h;obtain⟨rfl,rfl⟩:=h;exact⟨wf,rfl,rfl,rfl,by simp,⟨[],by simp⟩,λ_=>Iff.rfl,λB N E a w ff hf _ _=>by simp[Region.wanted,hg,Ac,Ba]⟩
 .rename_i j want hg
  split at h
  .rename_i oj hj
   split at h
   .rename_i s hs
    have bM:∀(B:Bs) (N:Nat) (E:Env) (a:Act) (w:World) (ff:Nat->SG) (hf:Nat->Hl) (tg:List Nat) (gt gf:Option Nat) (c:BT),Au σ.fr s=some ⟨tg,gt,gf,.bool c⟩->St B N E a w ff hf->(∀j want s,o.guard=some (j,want)->(nth all j).bind (·.dst)=some s->ff s=A6 σ s)->
      (Region.wanted o (yielded ops a.tmps)=true↔(Ba (Ac σ.gm tg)/\c.den=want)):=by
     intro B N E a w ff hf tg gt gf c iK st fH;have fH:=fH j want s hg (by rw[hj];exact hs);have wb:=st.slot s;rw[fH,A6,iK]at wb;simp only[QO,Bf]at wb;obtain⟨h1,h2,h3⟩:=wb;have xW:ops[j]?=some oj:=by rw[<-QG,kC,<-Ah];exact hj
     have hv:a.tmps[s]?=some (a.tmps.getD s undef):=by simp[Array.getD,h1]
     simp only[Region.wanted,hg,yielded,xW,YD,hs];rw[hv]
     by_cases hT:Ba (Ac σ.gm tg)
     .rw[(h2 hT).bG]
      simp[hT]
     .rw[h3 hT]
      simp[undef,hT]
    split at h
    .rename_i tg gt gf b iK
     split at h
     .rename_i hb
      simp only[Option.some.injEq,Prod.mk.injEq]at h;obtain⟨rfl,rfl⟩:=h;refine⟨wf,rfl,rfl,rfl,wf.tg s _ iK,⟨[],by simp⟩,λ_=>Iff.rfl,λB N E a w ff hf st fH=>?_⟩;rw[bM B N E a w ff hf _ _ _ _ iK st fH];have:b=want:=by simpa using hb
      simp[BT.den,this]
     .cases h
    .rename_i tg gt gf c _ iK
     have old:∀(i:Nat) (c':BT),nth σ.gm i=some c'->(c'.den=true↔c.den=want)->σ=aJ->T=i :: tg->(rU aJ/\A6 aJ=A6 σ/\aJ.hp=σ.hp/\aJ.fr.length=σ.fr.length/\(∀i∈T,i<aJ.gm.length)/\(∃x,aJ.gm=σ.gm++x)/\(∀(i:Nat),Au aJ.fr i=none↔Au σ.fr i=none)/\
       ∀(B:Bs) (N:Nat) (E:Env) (a:Act) (w:World) (ff:Nat->SG) (hf:Nat->Hl),St B N E a w ff hf->(∀j want s,o.guard=some (j,want)->(nth all j).bind (·.dst)=some s->ff s=A6 σ s)->(Region.wanted o (yielded ops a.tmps)=true↔Ba (Ac aJ.gm T))):=by
      intro i c' hi hc e1 e2;subst e1 e2;refine⟨wf,rfl,rfl,rfl,λk hk=>?_,⟨[],by simp⟩,λ_=>Iff.rfl,λB N E a w ff hf st fH=>?_⟩
      .rcases List.mem_cons.1 hk with rfl|hk
       .rw[Ah]at hi;exact (List.getElem?_eq_some_iff.1 hi).1
       .exact wf.tg s _ iK k hk
      .rw[bM B N E a w ff hf _ _ _ _ iK st fH]
       simp only[Ac,YE,hi,Ba];rw[hc];exact And.comm
     have new:∀(c':BT) (g':G),(c'.den=true↔c.den=want)->g'.tg=tg->g'.v=.bool c->(∀i,g'.gt=some i->(gt=some i)\/(i=σ.gm.length/\c'=c))->(∀i,g'.gf=some i->(gf=some i)\/(i=σ.gm.length/\c'=.not c))->aJ=⟨A0 σ.fr s (some g'),σ.hp,σ.gm++[c']⟩->T=Ag σ.gm :: tg->
       (rU aJ/\A6 aJ=A6 σ/\aJ.hp=σ.hp/\aJ.fr.length=σ.fr.length/\(∀i∈T,i<aJ.gm.length)/\(∃x,aJ.gm=σ.gm++x)/\(∀(i:Nat),Au aJ.fr i=none↔Au σ.fr i=none)/\
       ∀(B:Bs) (N:Nat) (E:Env) (a:Act) (w:World) (ff:Nat->SG) (hf:Nat->Hl),St B N E a w ff hf->(∀j want s,o.guard=some (j,want)->(nth all j).bind (·.dst)=some s->ff s=A6 σ s)->(Region.wanted o (yielded ops a.tmps)=true↔Ba (Ac aJ.gm T))):=by
      intro c' g' hc e1 e2 e3 e4 e5 e6;subst e5 e6;have oN:∀i b,nth σ.gm i=some b->nth (σ.gm++[c']) i=some b:=λi b hb=>by
       rw[Ah]at hb ⊢;rw[QJ (List.getElem?_eq_some_iff.1 hb).1];exact hb
      have oL:nth (σ.gm++[c']) σ.gm.length=some c':=by rw[Ah];simp
      refine⟨⟨λk g hk i hi=>?_,λk g i hk hi=>?_,λk g i hk hi=>?_⟩,?_,rfl,by simp[Ar],λk hk=>?_,⟨[c'],rfl⟩,λk=>?_,λB N E a w ff hf st fH=>?_⟩
      .rw[Bo]at hk
       split at hk
       .cases hk;rw[e1]at hi;have:=wf.tg s _ iK i hi;simp;omega
       .have:=wf.tg k g hk i hi;simp;omega
      .rw[Bo]at hk
       split at hk
       .cases hk
        rcases e3 i hi with h|⟨rfl,rfl⟩
        .obtain⟨c2,q1,q2⟩:=wf.gt s _ i iK h
         exact⟨c2,by rw[e2];exact q1,oN _ _ q2⟩
        .exact⟨_,e2,oL⟩
       .obtain⟨c2,q1,q2⟩:=wf.gt k g i hk hi
        exact⟨c2,q1,oN _ _ q2⟩
      .rw[Bo]at hk
       split at hk
       .cases hk
        rcases e4 i hi with h|⟨rfl,rfl⟩
        .obtain⟨c2,q1,q2⟩:=wf.gf s _ i iK h
         exact⟨c2,by rw[e2];exact q1,oN _ _ q2⟩
        .exact⟨_,e2,oL⟩
       .obtain⟨c2,q1,q2⟩:=wf.gf k g i hk hi
        exact⟨c2,q1,oN _ _ q2⟩
      .funext k
       simp only[A6,Bo]
       split
       .rename_i e
        rw[e.1,iK];simp only[QO,e1,e2,G8 (wf.tg s _ iK)]
       .cases hk:Au σ.fr k with
        |none=>rfl
        |some g=>simp only[QO,G8 (wf.tg k g hk)]
      .rw[Af]at hk
       rcases List.mem_cons.1 hk with rfl|hk
       .simp
       .have:=wf.tg s _ iK k hk;simp;omega
      .simp only[Bo]
       split
       .rename_i e;rw[e.1,iK];simp
       .rfl
      .rw[bM B N E a w ff hf _ _ _ _ iK st fH]
       simp only[Ac,YE,Af,oL,Ba];have:=G8 (c:=c') (wf.tg s _ iK);simp only[Ac]at this;rw[this,hc];exact And.comm
     split at h
     .rename_i hw
      subst hw
      split at h
      .rename_i _ i
       simp only[Option.some.injEq,Prod.mk.injEq]at h;obtain⟨c2,q1,q2⟩:=wf.gt s _ i iK rfl;cases q1;exact old i c q2 Iff.rfl h.1 h.2.symm
      .simp only[Option.some.injEq,Prod.mk.injEq]at h
       refine new c _ Iff.rfl rfl rfl (λi h=>?_) (λi h=>.inl h) h.1.symm h.2.symm;simp only[Option.some.injEq]at h;exact .inr ⟨by rw[<-h,Af],rfl⟩
     .rename_i hw
      have hw:want=false:=by simpa using hw
      subst hw
      split at h
      .rename_i _ i
       simp only[Option.some.injEq,Prod.mk.injEq]at h;obtain⟨c2,q1,q2⟩:=wf.gf s _ i iK rfl;cases q1;exact old i (.not c) q2 (by simp[BT.den]) h.1 h.2.symm
      .simp only[Option.some.injEq,Prod.mk.injEq]at h
       refine new (.not c) _ (by simp[BT.den]) rfl rfl (λi h=>.inl h) (λi h=>?_) h.1.symm h.2.symm;simp only[Option.some.injEq]at h;exact .inr ⟨by rw[<-h,Af],rfl⟩
    .cases h
   .cases h
  .cases h
theorem O8{all:List Oper}{ops:Array Oper}(kC:ops.toList=all){σ:Sy}{o:Oper}(h:guardOf all σ o.guard=some none){B:Bs}{N:Nat}{E:Env}{a:Act}{w:World}{ff:Nat->SG}{hf:Nat->Hl}(st:St B N E a w ff hf)
  (fH:∀j want s,o.guard=some (j,want)->(nth all j).bind (·.dst)=some s->ff s=A6 σ s):Region.wanted o (yielded ops a.tmps)=false:=by
 unfold guardOf at h
 split at h
 .cases h
 .rename_i j want hg
  split at h
  .rename_i oj hj
   split at h
   .rename_i s hs
    split at h
    .rename_i tg gt gf b iK
     split at h
     .cases h
     .rename_i hb
      have fH:=fH j want s hg (by rw[hj];exact hs);have wb:=st.slot s;rw[fH,A6,iK]at wb;simp only[QO,Bf]at wb;obtain⟨h1,h2,h3⟩:=wb;have xW:ops[j]?=some oj:=by rw[<-QG,kC,<-Ah];exact hj
      have hv:a.tmps[s]?=some (a.tmps.getD s undef):=by simp[Array.getD,h1]
      simp only[Region.wanted,hg,yielded,xW,YD,hs];rw[hv]
      by_cases hT:Ba (Ac σ.gm tg)
      .rw[(h2 hT).bG]
       simpa[BT.den] using hb
      .rw[h3 hT]
       simp[undef]
    .split at h<;>split at h<;>simp at h
    .cases h
   .cases h
  .cases h
end
end Go.Sx
