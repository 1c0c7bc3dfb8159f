/- Lemmas of the proof; no conditions. -/
import Derived.Test.YtdoogdbjiijifaaGreatDoorE9Pag
namespace Go.Sx
open Go
section
variable {P:Program} {cx:Cx} {σ:Sy} {T:List Nat} {o:Oper} {K:Out->Prop}
theorem Dx{B:Bs}{N:Nat}{E:Env}{a:Act}{w:World}{ff:Nat->SG}{hf:Nat->Hl}(hg:Fm B cx.gl)(st:St B N E a w ff hf)(hT:Bk (Ac σ.gm T)){x:Option Operand}{s:Option SV}(h:Er cx σ T x=some s)
  (fC:∀y,x=some y->∀q∈C4 y,ff q=Bf σ q) {d t:ST} (hb:Hq d s=some t):(x=none/\t=d)\/∃y k,x=some y/\a.eval y=.int k t.den:=by
 unfold Er at h
 split at h
 .cases h;left;exact⟨rfl,(Option.some.inj hb).symm⟩
 .rename_i y
  split at h
  .rename_i v hv
   cases h
   right
   have hr:=Ab hv hg st (fC y rfl) hT;unfold Hq at hb
   split at hb
   .rename_i e;cases e
   .rename_i k u e
    cases e;cases hb;exact⟨y,_,rfl,hr.aT⟩
   .cases hb
  .cases h
theorem Mk{k:IntKind}{i:Int}{n:Nat}{code:BoundsCode}{w:World}(h0:0<=i)(h1:i<=(n:Int)):(Instr.sliceBound (.int k i) n code).run P w=.ok i.toNat w:=by
 simp[Instr.sliceBound,asIntOf,h0,h1]
theorem Gf{sl:Bool}{len cap:Nat}{lo hi:Option Value}{l h:Int}{w:World}(jZ:(lo=none/\l=0)\/∃k,lo=some (.int k l))(pG:(hi=none/\h=(len:Int))\/∃k,hi=some (.int k h))(h0:0<=l)(h1:l<=h)(h2:h<=(len:Int))(h3:len<=cap):
  (Instr.sliceBounds sl len cap lo hi none).run P w=.ok (l.toNat,h.toNat,cap) w:=by
 have hh:((h.toNat:Nat):Int)=h:=by omega
 rcases jZ with⟨rfl,rfl⟩|⟨k,rfl⟩<;>rcases pG with⟨rfl,rfl⟩|⟨k',rfl⟩<;>simp[Instr.sliceBounds]
 .have:=Mk (P:=P) (k:=k') (i:=h) (n:=cap) (code:=if sl=true then BoundsCode.sliceAcap else BoundsCode.sliceAlen) (w:=w) (by omega) (by omega)
  simp[this]
 .have:=Mk (P:=P) (k:=k) (i:=l) (n:=len) (code:=BoundsCode.sliceB) (w:=w) (by omega) (by omega)
  simp[this]
 .have e1:=Mk (P:=P) (k:=k') (i:=h) (n:=cap) (code:=if sl=true then BoundsCode.sliceAcap else BoundsCode.sliceAlen) (w:=w) (by omega) (by omega)
  have e2:=Mk (P:=P) (k:=k) (i:=l) (n:=h.toNat) (code:=BoundsCode.sliceB) (w:=w) (by omega) (by omega);simp[e1,e2]
theorem Sp(hc:A4 P cx){t e sz:Nat}{ti:TI}(hl:look t cx.tt=some ti)(hk:ti.k=.slice e)(hn:size? cx e=some sz){x:Operand}{lo hi:Option Operand}(ho:o.op=.slice t x lo hi none){nl:BT}{n:ST}{f f':Nat->List SV}
  (hv:rd cx σ T x=some (.sl nl n sz f)\/∃h,rd cx σ T x=some (.dO nl n sz f h)) {sa sb:Option SV} (jZ:Er cx σ T lo=some sa) (pG:Er cx σ T hi=some sb) {p q:ST} (hp:Hq (.l 0) sa=some p) (hq:Hq n sb=some q)
  (lF:Bk (Ac σ.gm T)->0<=p.den/\p.den<=q.den/\q.den<=n.den) (hf:∀i j:Nat,(j:Int)=i+p.den->f' i=f j):Local P cx.gl σ T o ⟨.sl nl (.a (q.den-p.den)) sz f',[],[],[]⟩:=by
 intro B N E a w ff dA hg st ag bL hT;have mj:RO E.I w (.sl nl n sz f) (a.eval x):=by
  rcases hv with hv|⟨h,hv⟩
  .exact (Ab hv hg st (Ak ag (by simp[ho,Op.operands])) hT).bF
  .exact (Ab hv hg st (Ak ag (by simp[ho,Op.operands])) hT).kX.1
 have h1:=Dx hg st hT jZ (λy hy=>Ak ag (by subst hy;simp[ho,Op.operands])) hp;have h2:=Dx hg st hT pG (λy hy=>Ak ag (by subst hy;simp[ho,Op.operands])) hq;obtain⟨o1,o2,o3⟩:=lF hT;have hu:=(hc.ti hl).slice hk;obtain⟨te,iI,ya⟩:=bI hn;have hS:=(hc.ti iI).sizeOf w;have yF:(lo.map a.eval=none/\p.den=0)\/∃k,lo.map a.eval=some (.int k p.den):=by
  rcases h1 with⟨rfl,rfl⟩|⟨y,k,rfl,e⟩
  .exact .inl ⟨rfl,rfl⟩
  .exact .inr ⟨k,by simp[e]⟩
 have sY:∀m:Nat,n.den=(m:Int)->(hi.map a.eval=none/\q.den=(m:Int))\/∃k,hi.map a.eval=some (.int k q.den):=by
  intro m hm;rcases h2 with⟨rfl,rfl⟩|⟨y,k,rfl,e⟩
  .exact .inl ⟨rfl,hm⟩
  .exact .inr ⟨k,by simp[e]⟩
 rcases mj.bF with⟨e0,e1,e2⟩|⟨ad,m,cap,g,e0,e1,e2,e3,PC,e4,e5,AJ,e6,e7⟩
 .have wZ:p.den=0:=by omega
  have WG:q.den=0:=by omega
  have hb:=Gf (P:=P) (sl:=true) (len:=0) (cap:=0) (lo:=lo.map a.eval) (hi:=hi.map a.eval) (l:=p.den) (h:=q.den) (w:=w) yF (sY 0 (by simpa using e1)) o1 o2 (by omega) (QK _);refine Ad st (v:=.slice none 0 0) ?_ rfl (.ro (.slnil e2 (by simp only[ST.den];omega)));simp[execOp,ho,e0,Instr.sliceAt,Instr.slice,run_underlying hu,hb,hS,wZ,WG]
 .have hb:=Gf (P:=P) (sl:=true) (len:=m) (cap:=cap) (lo:=lo.map a.eval) (hi:=hi.map a.eval) (l:=p.den) (h:=q.den) (w:=w) yF (sY m e2) o1 o2 (by omega) e3
  let DR:=if cap=p.den.toNat then ad else ad.add (p.den.toNat * te.size)
  refine Ad st (v:=.slice (some DR) (q.den.toNat-p.den.toNat) (cap-p.den.toNat)) ?_ rfl (.ro ?_)
  .by_cases jG:cap=p.den.toNat
   .subst jG
    simp[execOp,ho,e0,Instr.sliceAt,Instr.slice,run_underlying hu,hb,hS,DR]
   .simp[execOp,ho,e0,Instr.sliceAt,Instr.slice,run_underlying hu,hb,hS,DR,jG]
  .have bA:∀i,i<q.den.toNat-p.den.toNat->DR=ad.add (p.den.toNat * sz):=by
    intro i xB;simp only[DR,ya];rw[QA (by omega)]
   have hff:∀i,f' i=f (i+p.den.toNat):=λi=>hf i _ (by omega);refine .sl (λi j=>g (i+p.den.toNat) j) e1 (by simp only[ST.den];omega) (by omega) (by omega) (λyC=>?_) (λi xB=>?_) (λi j xB hj=>AJ _ _ (by omega) hj) (λi j xB hj=>?_) (λi j s xB hs=>?_)
   .rw[bA 0 yC];exact Wl _ _ (e4 (by omega))
   .rw[hff];exact e5 _ (by omega)
   .rw[bA i xB,Rc,Aav]
    have:=e6 (i+p.den.toNat) j (by omega) hj;rw[XM]at this;rw[show ad.off+p.den.toNat * sz+(i * sz+j)=ad.off+(i * sz+p.den.toNat * sz+j) by omega];exact this
   .rw[hff]at hs;exact e7 _ j s (by omega) hs
theorem Xf(s:List UInt8)(l h:Nat):(bytes s).extract l h=bytes ((s.drop l).take (h-l)):=by
 apply ByteArray.ext;simp only[ByteArray.data_extract,bytes];apply XV;simp[List.extract_eq_take_drop]
theorem So(hc:A4 P cx){t:Nat}{ti:TI}(hl:look t cx.tt=some ti)(hk:ti.k=.string){x:Operand}{lo hi:Option Operand}(ho:o.op=.slice t x lo hi none){s:List UInt8}
  (hv:rd cx σ T x=some (.str s)) {sa sb:Option SV} (jZ:Er cx σ T lo=some sa) (pG:Er cx σ T hi=some sb) {p q:ST} (hp:Hq (.l 0) sa=some p) (hq:Hq (.len s) sb=some q)
  (lF:Bk (Ac σ.gm T)->0<=p.den/\p.den<=q.den/\q.den<=s.length):Local P cx.gl σ T o ⟨.str ((s.drop p.den.toNat).take (q.den.toNat-p.den.toNat)),[],[],[]⟩:=by
 intro B N E a w ff dA hg st ag bL hT;have mj:=(Ab hv hg st (Ak ag (by simp[ho,Op.operands])) hT).cV;have h1:=Dx hg st hT jZ (λy hy=>Ak ag (by subst hy;simp[ho,Op.operands])) hp;have h2:=Dx hg st hT pG (λy hy=>Ak ag (by subst hy;simp[ho,Op.operands])) hq;obtain⟨o1,o2,o3⟩:=lF hT;have hu:=(hc.ti hl).string hk;have yF:(lo.map a.eval=none/\p.den=0)\/∃k,lo.map a.eval=some (.int k p.den):=by
  rcases h1 with⟨rfl,rfl⟩|⟨y,k,rfl,e⟩
  .exact .inl ⟨rfl,rfl⟩
  .exact .inr ⟨k,by simp[e]⟩
 have sY:(hi.map a.eval=none/\q.den=((s.length:Nat):Int))\/∃k,hi.map a.eval=some (.int k q.den):=by
  rcases h2 with⟨rfl,rfl⟩|⟨y,k,rfl,e⟩
  .exact .inl ⟨rfl,rfl⟩
  .exact .inr ⟨k,by simp[e]⟩
 have hb:=Gf (P:=P) (sl:=false) (len:=s.length) (cap:=s.length) (lo:=lo.map a.eval) (hi:=hi.map a.eval) (l:=p.den) (h:=q.den) (w:=w) yF sY o1 o2 o3 (QK _);have hs:(bytes s).size=s.length:=rfl;refine Ad st (v:=.string (bytes ((s.drop p.den.toNat).take (q.den.toNat-p.den.toNat)))) ?_ rfl (.ro (.str rfl));simp[execOp,ho,mj,Instr.sliceAt,Instr.slice,run_underlying hu,hs,hb,Xf]
theorem S0(hc:A4 P cx){t n e sz q:Nat}{ti:TI}(hl:look t cx.tt=some ti)(hk:ti.k=.array n e){x y:Operand}(ho:o.op=.index t x y){cs:List SV}{k:IntKind}{s:SV}
  (hv:rd cx σ T x=some (.agg cs)) (hi:rd cx σ T y=some (.int k (.l (.ofNat q)))) (hn:size? cx e=some sz) (hq:q<n) (_hle:q * sz+sz<=cs.length) (hp:pack (cK cx e) ((cs.drop (q * sz)).take sz)=some s):Local P cx.gl σ T o ⟨s,[],[],[]⟩:=by
 intro B N E a w ff dA hg st ag bL hT;have hr:=Ab hv hg st (Ak ag (by simp[ho,Op.operands])) hT;obtain⟨vs,hx,mV⟩:=hr.jB;have hy:=(Ab hi hg st (Ak ag (by simp[ho,Op.operands])) hT).aT;have hy:a.eval y=.int k (q:Int):=hy;have hu:=(hc.ti hl).array hk;obtain⟨fi,oF,bC⟩:=bI hn;have hS:=(hc.ti oF).sizeOf w;rw[bC]at hS;have cU:=(mV.drop (q * sz)).take sz;obtain⟨p1,p2⟩:=Gx hp cU;rw[dG oF]at p1 p2;refine Ad st ?_ rfl p2;have c8:=Oi (hc.ti oF) bC (w:=w) (vs:=vs) (fo:=q * sz) p1;simp[execOp,ho,hx,hy,Instr.index,asIntOf,run_underlying hu,hq,hS,c8]
theorem Su(hc:A4 P cx){t:Nat}{ti:TI}(hl:look t cx.tt=some ti)(hk:ti.k=.string){x y:Operand}(ho:o.op=.index t x y){s:List UInt8}{k:IntKind}{i:ST}
  (hv:rd cx σ T x=some (.str s)) (hi:rd cx σ T y=some (.int k i)) (lF:Bk (Ac σ.gm T)->0<=i.den/\i.den<s.length):Local P cx.gl σ T o ⟨.int .u8 (.a ((s.getD i.den.toNat 0).toNat:Int)),[],[],[]⟩:=by
 intro B N E a w ff dA hg st ag bL hT;have mj:=(Ab hv hg st (Ak ag (by simp[ho,Op.operands])) hT).cV;have hy:=(Ab hi hg st (Ak ag (by simp[ho,Op.operands])) hT).aT;obtain⟨o1,o2⟩:=lF hT;have hu:=(hc.ti hl).string hk;have aC:i.den.toNat<s.length:=by omega
 have bM:(bytes s)[i.den.toNat]?=some (s.getD i.den.toNat 0):=by
  have:i.den.toNat<(bytes s).size:=aC;rw[getElem?_pos (bytes s) i.den.toNat this,QD,QB aC];rfl
 refine Ad st (v:=.int .u8 ((s.getD i.den.toNat 0).toNat:Int)) ?_ rfl (.int rfl);simp[execOp,ho,mj,hy,Instr.index,asIntOf,run_underlying hu,o1,bM]
end
theorem De{P:Program}(g o:Nat)(t:TypeId)(fr:Nat×Nat):∀(vs:List Value) (i:Nat) (cur:Array Value) (w:World),w.heap[g]?=some (.cells cur t fr)->(fr=(0,0)\/cur.size<=fr.1)->o+i+vs.length<=cur.size->(∀v∈vs,v.oneCell'=true)->
  (storeCells ⟨g,o,none⟩ vs i).run P w=.ok () (w.setRow g (cur.toList.take (o+i)++vs++cur.toList.drop (o+i+vs.length)).toArray)
 | [],i,cur,w,hg,_,_,_=>by
  simp only[storeCells,YT,QV,ZB,YF,Array.toArray_toList];rw[setRow_self w g cur t fr hg];rfl
 |v :: rest,i,cur,w,hg,cI,hl,h1=>by
  have hi:o+i<cur.size:=by simp at hl;omega
  have vB:(⟨g,o,none⟩:Addr).add i=⟨g,o+i,none⟩:=by unfold Addr.add;split<;>simp_all
  have aP:w.cell? ⟨g,o+i,none⟩=some cur[o+i]:=by simp[World.cell?,hg,hi]
  have ac1:w.frozen? ⟨g,o+i,none⟩=false:=by
   simp only[World.frozen?,hg];rcases cI with rfl|cI
   .simp
   .simp;omega
  have eY:(store ((⟨g,o,none⟩:Addr).add i) v).run P w=.ok () (w.setRow g (cur.setIfInBounds (o+i) v)):=by
   rw[vB,run_store P w _ v _ (h1 v (by simp)),aP];simp[ac1,setCell_eq_setRow w g (o+i) cur t fr v hg]
  have ih:=De (P:=P) g o t fr rest (i+1) (cur.setIfInBounds (o+i) v) (w.setRow g (cur.setIfInBounds (o+i) v)) (setRow_heap w g cur _ t _ hg) (by simpa using cI) (by simp at hl ⊢;omega) (λx hx=>h1 x (by simp[hx]));simp only[storeCells,Sem.run_bind,eY,Result.andThen_ok,ih,setRow_setRow];congr 3;have e:=list_seg_step cur.toList (o+i) v rest (by simp at hl ⊢;omega);simpa[Array.toList_setIfInBounds,UM] using e
theorem Cu.lt{w:World}{gr:Bool}{e:TypeId}{sz m:Nat}{v:Value}{xs:List Value}(h:Cu w gr e sz v m xs):∀b,v.ownBlock=some b->b<w.heap.size:=by
 intro b hb;rcases h.2 with⟨rfl,_⟩|⟨g,cap,cur,fr,rfl,hg,_⟩
 .simp[Value.ownBlock]at hb
 .simp[Value.ownBlock]at hb;subst hb
  exact (Array.getElem?_eq_some_iff.1 hg).1
theorem Ip{B:Bs}{N:Nat}{E:Env}{a:Act}{w:World}{ff:Nat->SG}{hf:Nat->Hl}(st:St B N E a w ff hf){h:Nat}{e:TypeId}{sz:Nat}{gr:Bool}{v v':Value}{n m:Nat}{ys:List Value}{w':World}
  (hold:(hf h=.fresh/\v=.slice none 0 0)\/((∃nt f gr0,hf h=.own e nt sz gr0 f)/\E.τ h=some v/\E.ζ h=some sz/\∀b,v.ownBlock=some b->E.O b=some h/\∀o,¬E.I b o))
  (cq:∃a c,v=.slice a n c) (cJ:Cu w' gr e sz v' (n+m) ys) (h1:∀u∈ys,u.oneCell'=true)
  (gG:(v'.ownBlock=v.ownBlock/\w.grownBy w' v.ownBlock)\/(v'.ownBlock=some w.heap.size/\w.grownBy w' none)) (sW:hf h≠.fresh->m=0->v'=v) {nt':ST} (nE:nt'.den=((n+m:Nat):Int))
  {f':Nat->List SV} (aJ:F9 E w f' (n+m) sz ys):
  ∃E',Ext E w E' w'/\Cr B E' w'/\(∀k,bR E' w' k (aU hf h (.own e nt' sz gr f') k))/\E'.τ h=some v'/\E'.ζ h=some sz:=by
 have hb:=st.base;have dW:∀b,v.ownBlock=some b->E.O b=some h/\(∀o,¬E.I b o)/\b<w.heap.size:=by
  intro b bX;rcases hold with⟨_,rfl⟩|⟨_,_,_,h3⟩
  .simp[Value.ownBlock]at bX
  .exact⟨(h3 b bX).1,(h3 b bX).2,Bd hb (h3 b bX).1⟩
 let E':Env:=⟨E.β,aU E.τ h (some v'),λb=>if v'.ownBlock=some b then some h else E.O b,E.κ,aU E.ζ h (some sz),E.I⟩
 have fE:w'.os=w.os/\w'.tape=w.tape/\w'.output=w.output/\w.heap.size<=w'.heap.size:=by
  rcases gG with⟨_,hg⟩|⟨_,hg⟩<;>exact⟨hg.os,hg.tape,hg.output,hg.size⟩
 have fM:∀b,b<w.heap.size->v.ownBlock≠some b->w'.heap[b]?=w.heap[b]?:=by
  intro b aC bA;rcases gG with⟨_,hg⟩|⟨_,hg⟩
  .exact hg.block b aC (λe=>bA e.symm)
  .exact hg.block b aC (by simp)
 have hI:∀b o,E.I b o->w'.cell? ⟨b,o,none⟩=w.cell? ⟨b,o,none⟩:=by
  intro b o hi;have aC:=hb.dP b o hi;have bA:v.ownBlock≠some b:=λtP=>(dW b tP).2.1 o hi;simp only[World.cell?];rw[fM b aC bA]
 have cI:hf h=.fresh->E.τ h=none/\E.ζ h=none:=by
  intro cI;have:=st.heap h;rw[cI]at this;exact⟨this.2.1,this.2.2.2⟩
 have hx:Ext E w E' w':=by
  refine⟨λ_ _ h=>h,λk u hk=>?_,λ_ _ h=>h,λk z hk=>?_,λb o h=>h,hI⟩
  .show aU E.τ h (some v') k=some u\/∃a m' c a' sK c',u=.slice a m' c/\aU E.τ h (some v') k=some (.slice a' sK c')/\m'<sK
   unfold aU
   by_cases e:k=h
   .subst e
    rw[QC rfl];rcases hold with⟨dy,_⟩|⟨⟨nt,f,gr0,bA⟩,h2,_⟩
    .rw[(cI dy).1]at hk;cases hk
    .rw[h2]at hk
     cases hk
     by_cases hm:m=0
     .left;rw[sW (by rw[bA];simp) hm]
     .right
      obtain⟨a',c',rfl⟩:=cJ.shape;obtain⟨a,c,rfl⟩:=cq;exact⟨a,n,c,a',n+m,c',rfl,rfl,by omega⟩
   .rw[QA e];exact .inl hk
  .show aU E.ζ h (some sz) k=some z
   unfold aU
   by_cases e:k=h
   .subst e
    rw[QC rfl];rcases hold with⟨dy,_⟩|⟨_,_,h2,_⟩
    .rw[(cI dy).2]at hk;cases hk
    .rw[h2]at hk;exact hk
   .rw[QA e];exact hk
 have lO:∀b,v'.ownBlock=some b->b<w'.heap.size:=cJ.lt;have mS:∀b,v'.ownBlock=some b->B.w0.heap.size<=b\/B.X b:=by
  intro b bX;rcases gG with⟨hs,_⟩|⟨hs,_⟩
  .exact (hb.cS b h (dW b (by rw[<-hs];exact bX)).1).2
  .rw[hs]at bX;cases bX;exact .inl hb.size
 refine⟨E',hx,⟨fE.1.trans hb.os,fE.2.1.trans hb.tape,fE.2.2.1.trans hb.output,XP hb.size fE.2.2.2,λb aC hX=>?_,λb o hi=>?_,λb o hi=>?_,hb.cE,λb k hO=>?_,hb.cO.ext hx⟩,λk=>?_,by simp[E',aU],by simp[E',aU]⟩
 .have bC:=hb.size
  rw[fM b (by omega) ?_]
  .exact hb.dY b aC hX
  .intro tP
   rcases (hb.cS b h (dW b tP).1).2 with h|h
   .omega
   .exact hX h
 .obtain⟨i1,i2⟩:=hb.I0 b o hi
  exact⟨i1,by rw[hI b o i1];exact i2⟩
 .exact XQ (hb.dP b o hi) fE.2.2.2
 .have hO:(if v'.ownBlock=some b then some h else E.O b)=some k:=hO
  split at hO
  .rename_i bX
   exact⟨lO b bX,mS b bX⟩
  .obtain⟨o1,o2⟩:=hb.cS b k hO
   exact⟨XQ o1 fE.2.2.2,o2⟩
 .by_cases e:k=h
  .subst e
   simp only[aU,QC];refine⟨v',n+m,ys,by simp[E',aU],by simp[E',aU],cJ,nE,h1,⟨aJ.1,λi j s u a b c=>(aJ.2 i j s u a b c).mono hx.I hx.cell⟩,λb bX=>⟨by show (if v'.ownBlock=some b then some k else E.O b)=some k;rw[QC bX],λo hi=>?_⟩⟩;rcases gG with⟨hs,_⟩|⟨hs,_⟩
   .exact (dW b (by rw[<-hs];exact bX)).2.1 o hi
   .rw[hs]at bX;cases bX
    have:=hb.dP _ _ hi;omega
  .simp only[aU,QA e]
   refine bR.keep hx (st.heap k) rfl (by simp[E',aU,e]) rfl (by simp[E',aU,e]) λb hO=>?_;have aC:=Bd hb hO;have bA:v'.ownBlock≠some b:=by
    intro bX;rcases gG with⟨hs,_⟩|⟨hs,_⟩
    .have:=(dW b (by rw[<-hs];exact bX)).1
     rw[hO]at this;exact e (Option.some.inj this)
    .rw[hs]at bX;cases bX;omega
   have IS:v.ownBlock≠some b:=by
    intro bX;have:=(dW b bX).1;rw[hO]at this;exact e (Option.some.inj this)
   exact⟨by show (if v'.ownBlock=some b then some h else E.O b)=some k;rw[QA bA];exact hO,fM b aC IS,λo hi=>hi⟩
section
variable {P:Program} {cx:Cx} {σ:Sy} {T:List Nat} {o:Oper} {K:Out->Prop}
theorem Gs{E:Env}{w:World}{h:Nat}{n n0:ST}{nl:BT}{u v:Value}{gr:Bool}{e:TypeId}{sz m:Nat}{xs:List Value}(hr:Rel E w (.bV nl n h) u)(oP:E.τ h=some v)(bY:Cu w gr e sz v m xs)(oR:n0.den=(m:Int))(he:n.den=n0.den):
  u=v/\(nl.den=true↔v=.slice none 0 0):=by
 obtain⟨⟨a,k,c,e1,e2,e3⟩,a0,m0,c0,t1,t2,t3⟩:=hr.iY;rw[oP]at t1;cases t1;obtain⟨a1,c1,e4⟩:=bY.shape;cases e4;have:u=.slice a0 _ c0:=t3 (by rw[he,oR]);refine⟨this,?_⟩;rw[this]at e1;simp only[Value.slice.injEq]at e1;obtain⟨rfl,_,_⟩:=e1;rw[e3];constructor
 .rintro rfl
  rcases bY.2 with⟨h1,_⟩|⟨g,cap,cur,fr,h1,_⟩
  .exact h1
  .simp at h1
 .intro h1
  simp only[Value.slice.injEq]at h1;exact h1.1
theorem W6(hc:A4 P cx){c:Call}(ho:o.op=.call c)(aR:c.callee=.builtin .len){x:Operand}{t:Nat}{ti:TI}(hx:c.args.toList=[x])(ht:c.argTypes.toList=[t])(hl:look t cx.tt=some ti){e:TypeId}(hk:ti.k=.slice e)
  {nl:BT} {n:ST} {h:Nat} (hv:rd cx σ T x=some (.bV nl n h)):Local P cx.gl σ T o ⟨.int .i64 n,[],[],[]⟩:=by
 intro B N E a w ff dA hg st ag bL hT;have dN:x∈o.op.operands.toList:=by simp[ho,Op.operands,Call.operands,aR,hx]
 obtain⟨⟨a0,m,c0,e3,e4,_⟩,_⟩:=(Ab hv hg st (Ak ag dN) hT).iY;have e1:c.args=#[x]:=XV (by simpa using hx);have e2:c.argTypes=#[t]:=XV (by simpa using ht);have aW:=Gv hc hl hk (w:=w) (a:=a0) (m:=m) (c:=c0) (ty:=o.type);refine Ad st (v:=.int .i64 m) ?_ rfl (.int e4);simp[execOp,ho,resolve,aR,e1,e2,invoke,builtin,e3,aW]
theorem Sw(hc:A4 P cx){t e sz:Nat}{ti:TI}(hl:look t cx.tt=some ti)(hk:ti.k=.slice e)(hn:size? cx e=some sz){x y:Operand}(ho:o.op=.indexAddr t x y){h ty:Nat}{nl:BT}{n n0:ST}{gr:Bool}{f:Nat->List SV}{k:IntKind}{i:ST}
  (hv:rd cx σ T x=some (.bV nl n h)) (hh:nth σ.hp h=some (.own ty n0 sz gr f)) (hi:rd cx σ T y=some (.int k i)) (h0:Bk (Ac σ.gm T)->n.den=n0.den) (h1:Bk (Ac σ.gm T)->0<=i.den/\i.den<n0.den):Local P cx.gl σ T o ⟨.cN n h i.den.toNat 0,[],[h],[]⟩:=by
 intro B N E a w ff dA hg st ag bL hT;have iR:=Ab hv hg st (Ak ag (by simp[ho,Op.operands])) hT;have hy:=(Ab hi hg st (Ak ag (by simp[ho,Op.operands])) hT).aT;obtain⟨b1,b2⟩:=h1 hT;have bD:=st.heap h;rw[Bx bL (List.mem_singleton.2 rfl) hh]at bD;obtain⟨v,m,xs,k1,kz,k2,k3,k4,k5,k6⟩:=bD;obtain⟨xY,_⟩:=Gs iR k1 k2 k3 (h0 hT);rcases k2.2 with⟨_,e0⟩|⟨b,cap,cur,fr,rfl,gU,_⟩
 .omega
 have aW:=Ft hc hl hk hn (w:=w) (a:=⟨b,0,none⟩) (m:=m) (cap:=cap) (k:=k) b1 (show i.den<(m:Int) by omega);refine Ad st (v:=.pointer (some ⟨b,i.den.toNat * sz+0,none⟩)) ?_ rfl (.cN ⟨_,_,rfl⟩ ⟨_,m,cap,sz,k1,kz,by rw[h0 hT,k3];exact ZE _,λ_=>⟨b,rfl,rfl⟩⟩);simp[execOp,ho,xY,hy,aW,add_lit]
theorem Lv(hc:A4 P cx){t i fo ft m h j off:Nat}{n:ST}{x:Operand}(ho:o.op=.fieldAddr t x i)(hv:rd cx σ T x=some (.cN n h j off))(hf:gJ cx t i=some (fo,ft))(hn:size? cx ft=some (m+1)):
  Local P cx.gl σ T o ⟨.cN n h j (off+fo),[],[],[]⟩:=by
 intro B N E a w ff dA hg st ag bL hT;have hr:=Ab hv hg st (Ak ag (by simp[ho,Op.operands])) hT;obtain⟨⟨b,o',hx⟩,a0,m0,c0,sz,t1,t2,t3,t4⟩:=hr.nX;refine Ad st (v:=.pointer (some ⟨b,o'+fo,none⟩)) ?_ rfl (.cN ⟨_,_,rfl⟩ ⟨a0,m0,c0,sz,t1,t2,t3,λe=>?_⟩)
 .simp[execOp,ho,hx,Im hc hf hn,add_lit]
 .obtain⟨b',e1,e2⟩:=t4 e
  rw[hx]at e2;simp only[Value.pointer.injEq,Option.some.injEq,Addr.mk.injEq,and_true]at e2;obtain⟨rfl,rfl⟩:=e2;exact⟨b,e1,by rw[UM]⟩
theorem Ab8{E:Env}{w:World}{h j off:Nat}{n n0:ST}{u v:Value}{gr:Bool}{e:TypeId}{sz m:Nat}{xs:List Value}(hr:Rel E w (.cN n h j off) u)(oP:E.τ h=some v)(hz:E.ζ h=some sz)(bY:Cu w gr e sz v m xs)(oR:n0.den=(m:Int))(he:n.den=n0.den):
  ∃b cap cur fr,v=.slice (some ⟨b,0,none⟩) m cap/\u=.pointer (some ⟨b,j * sz+off,none⟩)/\w.heap[b]?=some (.cells cur e fr)/\(fr=(0,0)\/gr=false/\fr=(cur.size,cur.size+1))/\m<=cap/\cap<=maxLen/\cur.size=cap * sz/\cur.toList.take (m * sz)=xs:=by
 obtain⟨_,a0,m0,c0,cH,t1,t2,t3,t4⟩:=hr.nX;rw[oP]at t1;cases t1;rw[hz]at t2;cases t2;obtain⟨a1,c1,e4⟩:=bY.shape;cases e4;obtain⟨b,rfl,e5⟩:=t4 (by rw[he,oR]);rcases bY.2 with⟨h1,_⟩|⟨g,cap,cur,fr,h1,h2⟩
 .simp at h1
 .cases h1
  exact⟨b,_,cur,fr,rfl,e5,h2⟩
theorem Sr(hc:A4 P cx){t:Nat}{x:Operand}(ho:o.op=.load t x){h j off n ty sz:Nat}{m m0:ST}{gr:Bool}{f:Nat->List SV}{s:SV}(hv:rd cx σ T x=some (.cN m0 h j off))(hn:size? cx t=some n)
  (hh:nth σ.hp h=some (.own ty m sz gr f)) (h0:Bk (Ac σ.gm T)->m0.den=m.den) (lF:Bk (Ac σ.gm T)->(j:Int)<m.den) (hle:off+n<=(f j).length) (hp:pack (cK cx t) (((f j).drop off).take n)=some s):Local P cx.gl σ T o ⟨s,[],[h],[]⟩:=by
 intro B N E a w ff hf hg st ag bL hT;have hr:=Ab hv hg st (Ak ag (by simp[ho,Op.operands])) hT;have bD:=st.heap h;rw[Bx bL (List.mem_singleton.2 rfl) hh]at bD;obtain⟨v,m',xs,k1,kz,k2,k3,k4,k5,k6⟩:=bD;obtain⟨b,cap,cur,fr,e1,hx,gU,cI,tL,fI,cY,bW⟩:=Ab8 hr k1 kz k2 k3 (h0 hT);obtain⟨ti,kZ,bC⟩:=bI hn;have hj:j<m':=by have:=lF hT;omega
 have lT:=k5.1 j hj;have hbound:(j+1) * sz<=m' * sz:=QR _ hj;have nq:m' * sz<=cap * sz:=QR _ tL;rw[XM]at hbound;have mQ:=k2.1;have cU:A8 E w (((f j).drop off).take n) ((xs.drop (j * sz+off)).take n):=by
  refine⟨by simp;omega,λi s v p q=>?_⟩;rw[QN]at p q
  split at p
  .rename_i e
   rw[QC e]at q;rw[XG]at p q;refine .ro (k5.2 j (off+i) s v hj p ?_);rw[<-UM];exact q
  .cases p
 obtain⟨p1,p2⟩:=Gx hp cU;have hlen:((xs.drop (j * sz+off)).take n).length=n:=by simp;omega
 have aW:=Ge (hc.ti kZ) (w:=w) (b:=b) (off:=j * sz+off) (vs:=(xs.drop (j * sz+off)).take n) (λq v hq=>by
  rw[QN]at hq
  split at hq
  .rw[XG]at hq
   rw[cell_of_row w b (j * sz+off+q) cur ty fr gU];rw[<-bW,QN,QC (by omega)]at hq;simpa using hq
  .cases hq) (by rw[hlen,bC]) (dG kZ) p1
 exact Ad st (by simp[execOp,ho,hx,aW]) rfl p2
theorem Qd(hc:A4 P cx){t:Nat}{x y:Operand}(ho:o.op=.store t x y){h j off n ty sz:Nat}{m m0:ST}{gr:Bool}{f f':Nat->List SV}{s:SV}(hv:rd cx σ T x=some (.cN m0 h j off))(hs:gb cx σ T t y=some s)(hn:size? cx t=some n)
  (hh:nth σ.hp h=some (.own ty m sz gr f)) (h0:m0.den=m.den) (hj:(j:Int)<m.den) (hl:s.cells.length=n) (hle:off+n<=(f j).length) (h1:Es s.cells=true) (gP:An (.agg (loose.aH (norm.aO dn s.cells)))=true) (_hT0:Bk (Ac σ.gm T))
  (yW:f' j=Dd (f j) off (loose.aH (norm.aO dn s.cells))) (mX:∀i,i≠j->f' i=f i):Local P cx.gl σ T o ⟨.aI [],[.put h (.own ty m sz gr f')],[h],[]⟩:=by
 intro B N E a w ff hf hg st ag bL hT K' Q hK;have hr:=Ab hv hg st (Ak ag (by simp[ho,Op.operands])) hT;have bZ:=Jo hs hg st (Ak ag (by simp[ho,Op.operands])) hT;have cB:=Bx bL (List.mem_singleton.2 rfl) hh;have bD:=st.heap h;rw[cB]at bD;obtain⟨v,m',xs,k1,kz,k2,k3,k4,k5,k6⟩:=bD;obtain⟨b,cap,cur,fr,e1,hx,gU,cI,tL,fI,cY,bW⟩:=Ab8 hr k1 kz k2 k3 h0;obtain⟨ti,kZ,bC⟩:=bI hn;have uS:j<m':=by omega
 have lT:=k5.1 j uS;have hbound:(j+1) * sz<=m' * sz:=QR _ uS;have nq:m' * sz<=cap * sz:=QR _ tL;rw[XM]at hbound;have nk:=Id h1 bZ;have fU:=Mm h1 nk;have jN:(a.eval y).cells.toList.length=n:=by rw[<-nk.1];exact hl
 have oB:A8 E w (loose.aH (norm.aO dn s.cells)) (a.eval y).cells.toList:=by
  rw[Ci,Co];exact (nk.map _ λs v _ h=>h.norm).map _ λs v _ h=>h.loose
 have mq:∀c∈loose.aH (norm.aO dn s.cells),An c=true:=by
  simp only[An]at gP;exact (C7 _).1 gP
 have uO:(loose.aH (norm.aO dn s.cells)).length=n:=by rw[oB.1];exact jN
 generalize hU:(a.eval y).cells.toList=us at *
 generalize hP:loose.aH (norm.aO dn s.cells)=ps at *
 let C':Array Value:=(cur.toList.take (j * sz+off)++us++cur.toList.drop (j * sz+off+us.length)).toArray
 have mU:j * sz+off+us.length<=cur.size:=by rw[jN];omega
 have oI:C'.size=cur.size:=by simp[C'];omega
 have kW:∀q:Nat,C'[q]?=if j * sz+off<=q/\q<j * sz+off+us.length then us[q-(j * sz+off)]? else cur[q]?:=by
  intro q;have:C'[q]?=(cur.toList.take (j * sz+off)++us++cur.toList.drop (j * sz+off+us.length))[q]?:=by simp[C']
  rw[this]
  split
  .rename_i e
   rw[ZJ,QP (by simp;omega),QM (by simp;omega)];congr 1;simp;omega
  .rename_i e
   by_cases hi:q<j * sz+off
   .rw[ZJ,QM (by simp;omega),QN,QC hi];simp
   .rw[QP (by simp;omega),XG,<-QZ]
    congr 1;simp;omega
 let ys:List Value:=C'.toList.take (m' * sz)
 have bq:ys.length=m' * sz:=by simp[ys,oI];omega
 have sM:∀q,q<m' * sz->ys[q]?=if j * sz+off<=q/\q<j * sz+off+us.length then us[q-(j * sz+off)]? else xs[q]?:=by
  intro q hq;simp only[ys];rw[QN,QC hq,QZ,kW]
  split
  .rfl
  .rw[<-bW,QN,QC hq];simp
 have aJ:F9 E w f' m' sz ys:=by
  refine⟨λi hi=>?_,λi q s2 v hi eK jY=>?_⟩
  .by_cases e:i=j
   .subst e;rw[yW,Dg];exact lT
   .rw[mX i e];exact k5.1 i hi
  .have yk:q<sz:=by
    have hlen:(f' i).length=sz:=by
     by_cases e:i=j
     .subst e;rw[yW,Dg];exact lT
     .rw[mX i e];exact k5.1 i hi
    rw[<-hlen];exact (List.getElem?_eq_some_iff.1 eK).1
   have oU:i * sz+q<m' * sz:=by
    have:(i+1) * sz<=m' * sz:=QR _ hi;rw[XM]at this;omega
   rw[sM _ oU]at jY
   by_cases e:i=j
   .subst e
    rw[yW,H5 _ _ _ _ (by rw[uO];exact hle)]at eK
    by_cases fA:off<=q/\q<off+n
    .rw[QC (by rw[uO];exact fA)]at eK
     rw[QC (by rw[jN];omega)]at jY;have e2:i * sz+q-(i * sz+off)=q-off:=by omega
     rw[e2]at jY;exact (oB.2 _ s2 v eK jY).fK (mq s2 (QL eK)) (fU v (QL jY))
    .rw[QA (by rw[uO];exact fA)]at eK
     rw[QA (by rw[jN];omega)]at jY;exact k5.2 i q s2 v hi eK jY
   .rw[mX i e]at eK
    have bA:¬(j * sz+off<=i * sz+q/\i * sz+q<j * sz+off+us.length):=by
     rw[jN];rcases ZK i j with aC|lS
     .have:(i+1) * sz<=j * sz:=QR _ aC
      rw[XM]at this;omega
     .have:(j+1) * sz<=i * sz:=QR _ (by omega)
      rw[XM]at this;omega
    rw[QA bA]at jY;exact k5.2 i q s2 v hi eK jY
 have bu:∀u∈ys,u.oneCell'=true:=by
  intro u hu;obtain⟨q,hq⟩:=List.mem_iff_getElem?.1 hu;have c7:q<m' * sz:=by rw[<-bq];exact (List.getElem?_eq_some_iff.1 hq).1
  rw[sM q c7]at hq
  split at hq
  .exact fU u (QL hq)
  .exact k4 u (QL hq)
 have zd:fr=(0,0)\/cur.size<=fr.1:=by
  rcases cI with h|⟨_,h⟩
  .exact .inl h
  .rw[h];exact .inr (QK _)
 have aW:(Instr.storeAt t (.pointer (some ⟨b,j * sz+off,none⟩)) (a.eval y)).run P w=.ok () (w.setRow b C'):=by
  have hS:=(hc.ti kZ).sizeOf w;have rD:=De (P:=P) b (j * sz+off) ty fr us 0 cur w gU zd (by simpa using mU) fU;have bA:((a.eval y).cells.size≠ti.size)=False:=by
   have:(a.eval y).cells.size=ti.size:=by rw[bC];rw[<-hU]at jN;simpa using jN
   simp[this]
  simp only[ZB]at rD;simp only[Instr.storeAt,Instr.sureAddr,storeVar,Sem.run_bind,Sem.run_pure,Result.andThen_ok,hS,bA,if_false,hU,rD];rfl
 have cJ:Cu (w.setRow b C') gr ty sz v (m'+0) ys:=by
  refine⟨bq,.inr ⟨b,cap,C',fr,e1,setRow_heap w b cur C' ty fr gU,?_,tL,fI,by rw[oI];exact cY,rfl⟩⟩;rw[oI];exact cI
 obtain⟨E',x1,x2,x3,x4,x5⟩:=Ip (h:=h) (e:=ty) (sz:=sz) (n:=m') (m:=0) st (.inr ⟨⟨_,_,_,cB⟩,k1,kz,k6⟩) k2.shape cJ bu
  (.inl ⟨rfl,⟨rfl,rfl,rfl,by simp,λk _ hk=>setRow_other w b k C' (λe=>hk (by rw[e,e1];rfl))⟩⟩) (λ_ _=>rfl) (nt':=m) (by simpa using k3) (by simpa using aJ)
 unfold Oper.wp;have:(execOp a.eval o).run P w=.ok .skip (w.setRow b C'):=by
  simp only[execOp,ho,hx,Sem.run_bind,aW,Result.andThen_ok,Sem.run_pure]
 rw[this];exact hK undef _ E' x1 x2 x3 (.aI rfl (by simp))
theorem Zt(hc:A4 P cx){src dst e:TypeId}{x:Operand}(ho:o.op=.convert src dst x){ts td te:TI}(kT:look src cx.tt=some ts)(rG:ts.k=.string)(pY:look dst cx.tt=some td)(kF:td.k=.slice e)(hle:look e cx.tt=some te)(fP:te.k=.int .u8)
  {s:List UInt8} (hv:rd cx σ T x=some (.str s)) (hlen:s.length<=maxLen):Local P cx.gl σ T o ⟨.bV (.l false) (.len s) (Ai σ.hp),[.put (Ai σ.hp) (.own e (.len s) 1 false (aQ s))],[],[]⟩:=by
 intro B N E a w ff hf hg st ag bL hT K' Q hK;have hx:=(Ab hv hg st (Ak ag (by simp[ho,Op.operands])) hT).cV;have hb:=st.base;have aW:=run_bytes_of_string (P:=P) w src dst e (bytes s) ((hc.ti kT).string rG) ((hc.ti pY).slice kF) ((hc.ti hle).int fP);obtain⟨C,hC⟩:∃C,C=bytesRow (bytes s) (grownCap w (bytes s).size 0 e):=⟨_,rfl⟩;rw[<-hC]at aW;obtain⟨w',uF⟩:∃w',w'=w.drew.alloc (.cells C e (C.size,C.size+1)):=⟨_,rfl⟩;rw[<-uF]at aW;have hold:∀b,b<w.heap.size->w'.heap[b]?=w.heap[b]?:=λb aC=>by rw[uF];exact RowKit.Below.heap_alloc w.drew _ b aC
 have mS:w'.heap[w.heap.size]?=some (.cells C e (C.size,C.size+1)):=by rw[uF];show (w.heap.push _)[w.heap.size]?=_;simp
 have bC:w'.heap.size=w.heap.size+1:=by rw[uF];show (w.heap.push _).size=_;simp
 have yY:(bytes s).size=s.length:=by simp[bytes,ByteArray.size]
 have lS:=grownCap_ge w (bytes s).size 0 e;have DB:C.size=grownCap w (bytes s).size 0 e:=by
  have key:∀(b:ByteArray) (c:Nat),b.size<=c->(bytesRow b c).size=c:=by
   intro b c OY;have:b.data.size=b.size:=rfl;simp only[bytesRow,Array.size_append,Array.size_map,Array.size_replicate];omega
  rw[hC];exact key _ _ lS
 have hCi:∀i,i<s.length->C[i]?=some (.int .u8 ((s.getD i 0).toNat:Int)):=by
  intro i hi;rw[hC];simp[bytesRow,bytes,Array.getElem?_append,hi]
 have bN:=Pd bL (List.mem_singleton.2 rfl);have TY:(C.toList.take s.length).length=s.length:=by simp;omega
 have cJ:Cu w' false e 1 (.slice (some ⟨w.heap.size,0,none⟩) s.length C.size) (0+s.length) (C.toList.take s.length):=by
  refine⟨by rw[TY];omega,.inr ⟨w.heap.size,C.size,C,_,by rw[XF],mS,.inr ⟨rfl,rfl⟩,by omega,?_,by omega,by rw[XF,Nat.mul_one]⟩⟩;rw[DB];exact grownCap_le_maxLen _ _ _ _ (by rw[yY];exact hlen)
 have bM:∀(i:Nat) (u:Value),(C.toList.take s.length)[i]?=some u->u=.int .u8 ((s.getD i 0).toNat:Int):=by
  intro i u hu;rw[QN]at hu
  split at hu
  .rename_i hi
   rw[QZ,hCi i hi]at hu;exact (Option.some.inj hu).symm
  .cases hu
 have fA:F9 E w (aQ s) (0+s.length) 1 (C.toList.take s.length):=by
  refine⟨λi _=>rfl,λi j s' u hi hs hu=>?_⟩;cases j with
  |zero =>
   simp[aQ]at hs;subst hs;rw[bM _ u (by simpa using hu)];refine .int ?_;simp[ST.den]
  |succ j=>simp[aQ]at hs
 obtain⟨E',x1,x2,x3,x4,x5⟩:=Ip (h:=Ai σ.hp) (e:=e) (sz:=1) (n:=0) (m:=s.length) st (.inl ⟨bN,rfl⟩) ⟨_,_,rfl⟩ cJ (λu hu=>by
  obtain⟨i,hi⟩:=List.mem_iff_getElem?.1 hu;rw[bM i u hi];rfl) (.inr ⟨rfl,⟨by rw[uF];rfl,by rw[uF];rfl,by rw[uF];rfl,by omega,λk hk _=>hold k hk⟩⟩) (λh=>absurd bN h) (nt':=.len s) (by simp[ST.den]) fA
 unfold Oper.wp;have hex:(execOp a.eval o).run P w=.ok (.value (.slice (some ⟨w.heap.size,0,none⟩) s.length C.size)) w':=by
  simp only[execOp,ho,hx,Sem.run_bind];rw[aW,yY,DB,yY];rfl
 rw[hex];exact hK _ w' E' x1 x2 x3 (.bV ⟨_,s.length,_,rfl,rfl,by simp[BT.den]⟩ ⟨_,s.length,_,x4,ZE _,λ_=>rfl⟩)
theorem W9(hc:A4 P cx){src e:TypeId}{x:Operand}(ho:o.op=.convert src src x){td te:TI}(pY:look src cx.tt=some td)(kF:td.k=.slice e)(hle:look e cx.tt=some te)(fP:te.k=.int .u8)
  {n n0:ST} {h:Nat} {f:Nat->List SV} (hv:rd cx σ T x=some (.bV (.l false) n h)) (hh:nth σ.hp h=some (.own e n0 1 true f)) (h0:n.den=n0.den):Local P cx.gl σ T o ⟨.bV (.l false) n h,[.put h (.own e n0 1 false f)],[h],[]⟩:=by
 intro B N E a w ff hf hg st ag bL hT K' Q hK;have iR:=Ab hv hg st (Ak ag (by simp[ho,Op.operands])) hT;have bD:=st.heap h;have cB:=Bx bL (List.mem_singleton.2 rfl) hh;rw[cB]at bD;obtain⟨v,m,xs,k1,kz,k2,k3,k4,k5,k6⟩:=bD;obtain⟨rI,eQ⟩:=Gs iR k1 k2 k3 h0;have gk:=(hc.ti pY).slice kF;have gj:=(hc.ti hle).int fP;rcases k2.2 with⟨e0,e1⟩|⟨b,cap,cur,fr,e0,gU,cI,tL,fI,cY,bW⟩
 .exact absurd (eQ.2 e0) (by simp[BT.den])
 have ac2:fr=(0,0):=by
  rcases cI with cI|⟨cI,_⟩
  .exact cI
  .cases cI
 subst ac2;have hb:=st.base;have aC:b<w.heap.size:=(Array.getElem?_eq_some_iff.1 gU).1;have hwb:(w.freeze ⟨b,cur.size,none⟩ 1).heap[b]?=some (.cells cur e (cur.size,cur.size+1)):=by
  unfold World.freeze;rw[QA (by decide)];show (w.heap.modify b _)[b]?=_;rw[YM,QC rfl,gU];rfl
 have hwo:∀k,k≠b->(w.freeze ⟨b,cur.size,none⟩ 1).heap[k]?=w.heap[k]?:=λk hk=>by
  unfold World.freeze;rw[QA (by decide)];show (w.heap.modify b _)[k]?=_;rw[YM,QA (λe=>hk e.symm)]
 have cJ:Cu (w.freeze ⟨b,cur.size,none⟩ 1) false e 1 v (m+0) xs:=by
  refine⟨k2.1,.inr ⟨b,cap,cur,(cur.size,cur.size+1),e0,hwb,.inr ⟨rfl,rfl⟩,tL,fI,cY,bW⟩⟩
 obtain⟨E',x1,x2,x3,x4,x5⟩:=Ip (h:=h) (e:=e) (sz:=1) (n:=m) (m:=0) st (.inr ⟨⟨_,_,_,cB⟩,k1,kz,k6⟩) k2.shape cJ k4
  (.inl ⟨rfl,⟨rfl,rfl,rfl,by unfold World.freeze;rw[QA (by decide)];simp,λk _ hk=>hwo k (λe=>hk (by rw[e,e0];rfl))⟩⟩) (λ_ _=>rfl) (nt':=n0) (by simpa using k3) (by simpa using k5)
 unfold Oper.wp;have cq:w.shape? b=some (e,cur.size):=by
  unfold World.shape?;rw[gU]
 have aW:(execOp a.eval o).run P w=.ok (.value v) (w.freeze ⟨b,cur.size,none⟩ 1):=by
  simp only[execOp,ho,Sem.run_bind];rw[rI,e0];simp[convert,run_underlying gk,run_underlying gj,markStringish,cq]
 rw[aW];obtain⟨a1,c1,e4⟩:=k2.shape;refine hK _ _ E' x1 x2 x3 (.bV ⟨a1,m,c1,e4,by rw[h0,k3],?_⟩ ⟨a1,m,c1,by rw[x4,e4],by rw[h0,k3];exact ZE _,λ_=>e4⟩);rw[e0]at e4;cases e4;simp[BT.den]
theorem Zu(hc:A4 P cx){src dst e:TypeId}{x:Operand}(ho:o.op=.convert src dst x){ts td te:TI}(kT:look src cx.tt=some ts)(rG:ts.k=.slice e)(pY:look dst cx.tt=some td)(kF:td.k=.string)(hle:look e cx.tt=some te)(fP:te.k=.int .u8)
  {nl:BT} {n n0:ST} {h:Nat} {ty:TypeId} {gr:Bool} {f:Nat->List SV} (hv:rd cx σ T x=some (.bV nl n h)) (hh:nth σ.hp h=some (.own ty n0 1 gr f)) (h0:n.den=n0.den) {r:List UInt8} (hr:Fz n0.den f/\Ky r n0.den f):Local P cx.gl σ T o ⟨.str r,[],[h],[]⟩:=by
 intro B N E a w ff hf hg st ag bL hT;obtain⟨hb,hr⟩:=hr;have iR:=Ab hv hg st (Ak ag (by simp[ho,Op.operands])) hT;have bD:=st.heap h;rw[Bx bL (List.mem_singleton.2 rfl) hh]at bD;obtain⟨v,m,xs,k1,kz,k2,k3,k4,k5,k6⟩:=bD;obtain⟨rI,_⟩:=Gs iR k1 k2 k3 h0;refine Ad st (v:=.string (bytes r)) ?_ rfl (.ro (.str rfl));simp only[execOp,ho,Sem.run_bind];have jM:=(hc.ti kT).slice rG;have gk:=(hc.ti pY).string kF;have gj:=(hc.ti hle).int fP;rw[rI];have uK:r.length=m:=by have:=hr.len;omega
 rcases k2.2 with⟨e0,e1⟩|⟨b,cap,cur,fr,e0,gU,cI,tL,fI,cY,bW⟩
 .have:r=[]:=XH (by omega)
  subst this;rw[e0];simp[convert,run_underlying jM,run_underlying gk,run_underlying gj,Conv.bytesToString,bytes];rfl
 .have:=run_convert_bytes_back (P:=P) w src dst e ⟨b,0,none⟩ cap r jM gj gk (λj hj=>by
   have uS:j<m:=by omega
   obtain⟨t,ht,_⟩:=hb.h j (by omega);have e1:=hr.row j t (by omega) ht;have xx:j<xs.length:=by rw[k2.1];omega
   obtain⟨xj,xy⟩:∃xj,xs[j]?=some xj:=⟨_,QB xx⟩;have bP:=k5.2 j 0 (.int .u8 t) xj uS (by rw[ht];rfl) (by simpa using xy);have yV:xj=.int .u8 t.den:=(Rel.ro (E:=E) bP).aT;rw[QD,QB hj]at e1;simp only[XD]at e1;rw[add_lit,XF,cell_of_row w b j cur ty fr gU];rw[<-bW,QN,QC (by omega),QZ]at xy;rw[e1,xy,yV])
  rw[uK]at this;rw[e0,this];rfl
end
section
variable {P:Program} {cx:Cx} {σ:Sy} {T:List Nat} {o:Oper} {K:Out->Prop}
theorem Si{t e ty:TypeId}{ti:TI}(hu:P.underlying t=some (.slice e))(he:Ew P e ti){sz:Nat}(bC:ti.size=sz)(uE:0<sz){w:World}{gr:Bool}{v:Value}{n:Nat}{xs:List Value}(bY:Cu w gr e sz v n xs){src:Value}{m:Nat}{news:List Value}(hs:RN w src m sz news)
  (qS:n+m<=maxLen) (hb:(n+m) * ti.bytes<=140737488355328):
  ∃v' w',(Builtin.append_ #[t,t] ty #[v,src]).run P w=.ok v' w'/\Cu w' gr e sz v' (n+m) (xs++news)/\(v'=.slice none 0 0↔v=.slice none 0 0/\m=0)/\
   ((v'.ownBlock=v.ownBlock/\w.grownBy w' v.ownBlock)\/(v'.ownBlock=some w.heap.size/\w.grownBy w' none))/\(∃a c,v'=.slice a (n+m) c)/\(m=0->v'=v):=by
 by_cases aJ:w.ownsRow 0 e sz v n xs
 .obtain⟨v',w',r1,r2,r3⟩:=N8 (P:=P) (ty:=ty) hu he bC uE aJ hs qS hb
  exact⟨v',w',r1,X0 gr r2,r3⟩
 have mB:=bY;obtain⟨mQ,hh⟩:=bY;rcases hh with hh|⟨g,cap,cur,fr,rfl,hg,cI,rE,fI,cY,bW⟩
 .exact absurd ⟨mQ,.inl hh⟩ aJ
 rcases cI with rfl|⟨hgr,cI⟩
 .exact absurd ⟨mQ,.inr ⟨g,cap,cur,rfl,XX _,hg,rE,fI,cY,bW⟩⟩ aJ
 obtain⟨i,z,hi,eO,yX,hz,tI,_⟩:=he.info;obtain⟨hl,h1,ye⟩:=hs;have hlen:(xs++news).length=(n+m) * sz:=by rw[QF,mQ,hl,XM]
 rcases ye with⟨rfl,rfl⟩|⟨a,c,rfl,jP⟩
 .have hn:news=[]:=XH (by simpa using hl)
  subst hn;refine⟨_,w,?_,by simpa using mB,by simp,.inl ⟨rfl,⟨rfl,rfl,rfl,QK _,λ_ _ _=>rfl⟩⟩,⟨_,_,rfl⟩,λ_=>rfl⟩;simp[Builtin.append_,run_underlying hu,sizeOf,typeInfo,hi,Builtin.lenOf,Builtin.firstCells,rE,storeCells]
 .have dZ:z.cells.size=sz:=by
   have:=(Kb (I:=λ_ _=>False) (w:=w) tI).1;have h2:ti.zero.length=sz:=by
    rw[he.qE,bC]
   simpa[h2] using this.symm
  have qP:i.size=sz:=by rw[eO,bC]
  by_cases iS:n+m<=cap
  .have zf:n * i.size+news.length<=cur.size:=by rw[hl,cY,qP,<-XM];exact QR _ iS
   have hf:=run_firstCells_some (P:=P) w i.size m a m c news (by rw[qP];exact hl) jP;have eY:=De (P:=P) g (n * i.size) e fr news 0 cur w hg (.inr (by rw[cI];exact QK _)) (by simpa using zf) h1;simp only[ZB]at eY;have hr:(Builtin.append_ #[t,t] ty #[.slice (some ⟨g,0,none⟩) n cap,.slice (some a) m c]).run P w =
     .ok (.slice (some ⟨g,0,none⟩) (n+m) cap) (w.setRow g (cur.toList.take (n * i.size)++news++cur.toList.drop (n * i.size+news.length)).toArray):=by
    simp[Builtin.append_,run_underlying hu,sizeOf,typeInfo,hi,Builtin.lenOf,iS,hf,Addr.add_lit,eY]
   have hC:(cur.toList.take (n * i.size)++news++cur.toList.drop (n * i.size+news.length)).toArray.size=cur.size:=by
    simp only[UO,QF,QW,QX,Array.length_toList];omega
   refine⟨_,_,hr,⟨hlen,.inr ⟨g,cap,_,fr,rfl,setRow_heap w g cur _ e fr hg,.inr ⟨hgr,by rw[hC];exact cI⟩,iS,fI,by rw[hC];exact cY,?_⟩⟩,by simp,.inl ⟨rfl,⟨rfl,rfl,rfl,by simp,λk _ hk=>setRow_other w g k _ (λe=>hk (by simp[Value.ownBlock,e]))⟩⟩,⟨_,_,rfl⟩,λe=>by rw[e];rfl⟩;rw[qP,bW,<-hlen];exact UV
  .have holds:∀j u,xs[j]?=some u->w.cell? ((⟨g,0,none⟩:Addr).add j)=some u:=λj u hj=>by
    have vB:(⟨g,0,none⟩:Addr).add j=⟨g,j,none⟩:=by rw[Addr.add_lit,XF]
    rw[<-bW,QN]at hj
    split at hj
    .rw[vB];simp only[World.cell?,hg];rw[QZ]at hj;simpa using hj
    .cases hj
   have hr:=run_append_grow (P:=P) w t ty e i z hu hi hz ⟨g,0,none⟩ n cap xs (by rw[qP];exact mQ) holds a m c news (by rw[qP];exact hl) jP (by omega) (by simp only[maxLen]at qS;omega) (by rw[yX];exact growslice_fits (by omega) hb);have lS:=grownCap_ge w (n+m) cap e;have ei:grownCap w (n+m) cap e<=maxLen:=grownCap_le_maxLen w (n+m) cap e qS;refine⟨_,_,hr,⟨hlen,.inr ⟨w.heap.size,_,_,(0,0),rfl,heap_alloc_new w.drew _,.inl rfl,lS,ei,?_,?_⟩⟩,by simp,.inr ⟨rfl,⟨rfl,rfl,rfl,by simp,λk hk _=>heap_alloc_old w.drew _ hk⟩⟩,⟨_,_,rfl⟩,λe=>by omega⟩
   .simp only[Array.size_append,UO,size_zeroCells,dZ,mQ,hl,<-XM]
    congr 1;omega
   .simp only[Array.toList_append,ZJ]
    rw[<-ZJ,<-hlen];exact UV
theorem O3(hc:A4 P cx){c:Call}(ho:o.op=.call c)(aR:c.callee=.builtin .append){x y:Operand}{t e sz:Nat}{te ti:TI}(hx:c.args.toList=[x,y])(ht:c.argTypes.toList=[t,t])(aC:look t cx.tt=some ti)(hk:ti.k=.slice e)(hle:look e cx.tt=some te)(bC:te.size=sz)(hz:0<sz)
  {gr:Bool} {nl:BT} {n n0:ST} {f:Nat->List SV} {h:Nat} (mo:rd cx σ T x=some (.bV nl n h)) (hh:nth σ.hp h=some (.own e n0 sz gr f)) {s:SV} (mm:rd cx σ T y=some s) {m:ST} {g:Nat->List SV} (aJ:rowOf sz s=some (m,g))
  (hb:n.den=n0.den/\(n.den+m.den) * te.bytes<=140737488355328/\n.den+m.den<=9223372036854775807)
  {f':Nat->List SV} {n':Int} (yU:n'=n.den+m.den) (fV:∀i:Nat,(i:Int)<n.den->f' i=f i) (dA:∀i j:Nat,(i:Int)=n.den+j->(j:Int)<m.den->f' i=g j):
  Local P cx.gl σ T o ⟨.bV (Wi nl (Pk .eql m (.l 0))) (.a n') h,[.put h (.own e (.a n') sz gr f')],[h],[]⟩:=by
 intro B N E a w ff hf hg st ag bL hT K' Q hK;have mx:x∈o.op.operands.toList:=by simp[ho,Op.operands,Call.operands,aR,hx]
 have my:y∈o.op.operands.toList:=by simp[ho,Op.operands,Call.operands,aR,hx]
 have iR:=Ab mo hg st (Ak ag mx) hT;have uJ:=Ab mm hg st (Ak ag my) hT;obtain⟨k,news,r1,r2,r3,r4,r5⟩:=Jm aJ uJ;have bD:=st.heap h;have cB:=Bx bL (List.mem_singleton.2 rfl) hh;rw[cB]at bD;obtain⟨v,nn,xs,k1,kz,k2,k3,k4,k5,k6⟩:=bD;obtain⟨hv,eQ⟩:=Gs iR k1 k2 k3 hb.1;have gL:n.den=(nn:Int):=by rw[hb.1,k3]
 have jA:(nn+k) * te.bytes<=140737488355328:=by
  have:=hb.2.1;rw[gL,r1]at this;have h:(((nn+k) * te.bytes:Nat):Int)<=140737488355328:=by rw[YX,UT];exact this
  omega
 obtain⟨v',w',l1,l2,l3,l4,l5,l6⟩:=Si (P:=P) (ty:=o.type) ((hc.ti aC).slice hk) (hc.ti hle) bC hz k2 r3 (by have:=hb.2.2;rw[gL,r1]at this;simp only[maxLen];omega) jA;have mH:∀u∈xs++news,u.oneCell'=true:=λu hu=>by
  rcases List.mem_append.1 hu with hu|hu
  .exact k4 u hu
  .exact r3.2.1 u hu
 have nE:(ST.a n').den=((nn+k:Nat):Int):=by simp only[ST.den,yU,gL,r1];omega
 have fA:F9 E w f' (nn+k) sz (xs++news):=by
  refine⟨λi hi=>?_,λi j s u hi hs hu=>?_⟩
  .by_cases fA:i<nn
   .rw[fV i (by omega)];exact k5.1 i fA
   .rw[dA i (i-nn) (by omega) (by omega)];exact r4 (i-nn) (by omega)
  .by_cases fA:i<nn
   .rw[fV i (by omega)]at hs
    have hj:j<sz:=by rw[<-k5.1 i fA];exact (List.getElem?_eq_some_iff.1 hs).1
    have:(i+1) * sz<=nn * sz:=QR _ fA;rw[XM]at this;rw[QM (by rw[k2.1];omega)]at hu;exact k5.2 i j s u fA hs hu
   .rw[dA i (i-nn) (by omega) (by omega)]at hs
    have e1:i * sz+j=nn * sz+((i-nn) * sz+j):=by
     have:i * sz=nn * sz+(i-nn) * sz:=by rw[<-XM];congr 1;omega
     omega
    rw[QP (by rw[k2.1];omega),k2.1,e1,ZL]at hu;exact r5 (i-nn) j s u (by omega) hs hu
 obtain⟨E',x1,x2,x3,x4,x5⟩:=Ip (h:=h) (e:=e) (sz:=sz) (n:=nn) (m:=k) st (.inr ⟨⟨_,_,_,cB⟩,k1,kz,k6⟩) k2.shape l2 mH l4 (λ_=>l6) (nt':=.a n') nE fA;unfold Oper.wp;rw[D1 ho aR hx ht (a:=a) (w:=w) (w':=w') (v':=v') (by rw[hv];exact l1)];obtain⟨a0,c0,e0⟩:=l5;refine hK v' w' E' x1 x2 x3 (.bV ⟨a0,nn+k,c0,e0,nE,?_⟩ ⟨a0,nn+k,c0,by rw[x4,e0],by rw[nE];exact ZE _,λ_=>e0⟩);have qN:(v'=.slice none 0 0)↔a0=none:=by
  rw[e0];constructor
  .intro h;simp only[Value.slice.injEq]at h;exact h.1
  .rintro rfl
   rcases l2.2 with⟨h1,_⟩|⟨g,cap,cur,fr,h1,_⟩
   .rw[<-e0];exact h1
   .rw[e0]at h1;simp at h1
 rw[<-qN,Md,H9,l3];simp only[B6,ST.den,r1,QE,QO];rw[eQ];constructor
 .rintro⟨h1,h2⟩;exact⟨h1,by omega⟩
 .rintro⟨h1,h2⟩;exact⟨h1,by omega⟩
end
end Go.Sx
