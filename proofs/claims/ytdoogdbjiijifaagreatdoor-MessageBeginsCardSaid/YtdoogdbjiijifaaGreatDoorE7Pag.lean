/- A part of the proof: contracts of functions, or the executor and its soundness. No conditions. -/
import Derived.Test.YtdoogdbjiijifaaGreatDoorE7Paf
namespace Go.Sx
open Go
section
variable {P:Program} {cx:Cx} {σ:Sy} {T:List Nat} {o:Oper} {K:Out->Prop}
theorem Dh{B:Bs}{N:Nat}{E:Env}{a:Act}{w:World}{ff:Nat->SG}{hf:Nat->Hl}(hg:Ep B cx.gl)(st:St B N E a w ff hf)(hT:Ba (Ac σ.gm T)){x:Option Operand}{s:Option SV}(h:D7 cx σ T x=some s)
  (fH:∀y,x=some y->∀q∈Cw y,ff q=A6 σ q) {d t:ST} (hb:Hb d s=some t):(x=none/\t=d)\/∃y k,x=some y/\a.eval y=.int k t.den:=by
 unfold D7 at h
 split at h
 .cases h;left;exact⟨rfl,(Option.some.inj hb).symm⟩
 .rename_i y
  split at h
  .rename_i v hv
   cases h
   right
   have hr:=Aa hv hg st (fH y rfl) hT;unfold Hb at hb
   split at hb
   .rename_i e;cases e
   .rename_i k u e
    cases e;cases hb;exact⟨y,_,rfl,hr.aW⟩
   .cases hb
  .cases h
theorem Fo{k:IntKind}{i:Int}{n:Nat}{code:BoundsCode}{w:World}(h0:0<=i)(h1:i<=(n:Int)):(Instr.sliceBound (.int k i) n code).run P w=.ok i.toNat w:=by
 simp[Instr.sliceBound,asIntOf,h0,h1]
theorem B6{sl:Bool}{len cap:Nat}{lo hi:Option Value}{l h:Int}{w:World}(cZ:(lo=none/\l=0)\/∃k,lo=some (.int k l))(nY:(hi=none/\h=(len:Int))\/∃k,hi=some (.int k h))(h0:0<=l)(h1:l<=h)(h2:h<=(len:Int))(h3:len<=cap):
  (Instr.sliceBounds sl len cap lo hi none).run P w=.ok (l.toNat,h.toNat,cap) w:=by
 have hh:((h.toNat:Nat):Int)=h:=by omega
 rcases cZ with⟨rfl,rfl⟩|⟨k,rfl⟩<;>rcases nY with⟨rfl,rfl⟩|⟨k',rfl⟩<;>simp[Instr.sliceBounds]
 .have:=Fo (P:=P) (k:=k') (i:=h) (n:=cap) (code:=if sl=true then BoundsCode.sliceAcap else BoundsCode.sliceAlen) (w:=w) (by omega) (by omega)
  simp[this]
 .have:=Fo (P:=P) (k:=k) (i:=l) (n:=len) (code:=BoundsCode.sliceB) (w:=w) (by omega) (by omega)
  simp[this]
 .have e1:=Fo (P:=P) (k:=k') (i:=h) (n:=cap) (code:=if sl=true then BoundsCode.sliceAcap else BoundsCode.sliceAlen) (w:=w) (by omega) (by omega)
  have e2:=Fo (P:=P) (k:=k) (i:=l) (n:=h.toNat) (code:=BoundsCode.sliceB) (w:=w) (by omega) (by omega);simp[e1,e2]
theorem Sr(hc:Az P cx){t e sz:Nat}{ti:TI}(hl:look t cx.tt=some ti)(hk:ti.k=.slice e)(hn:size? cx e=some sz){x:Operand}{lo hi:Option Operand}(ho:o.op=.slice t x lo hi none){nl:BT}{n:ST}{f f':Nat->List SV}
  (hv:rd cx σ T x=some (.sl nl n sz f)\/∃h,rd cx σ T x=some (.eD nl n sz f h)) {sa sb:Option SV} (cZ:D7 cx σ T lo=some sa) (nY:D7 cx σ T hi=some sb) {p q:ST} (hp:Hb (.l 0) sa=some p) (hq:Hb n sb=some q)
  (kM:Ba (Ac σ.gm T)->0<=p.den/\p.den<=q.den/\q.den<=n.den) (hf:∀i j:Nat,(j:Int)=i+p.den->f' i=f j):Local P cx.gl σ T o ⟨.sl nl (.a (q.den-p.den)) sz f',[],[],[]⟩:=by
 intro B N E a w ff cR hg st ag bJ hT;have qH:RO E.I w (.sl nl n sz f) (a.eval x):=by
  rcases hv with hv|⟨h,hv⟩
  .exact (Aa hv hg st (Aj ag (by simp[ho,Op.operands])) hT).aS
  .exact (Aa hv hg st (Aj ag (by simp[ho,Op.operands])) hT).kJ.1
 have h1:=Dh hg st hT cZ (λy hy=>Aj ag (by subst hy;simp[ho,Op.operands])) hp;have h2:=Dh hg st hT nY (λy hy=>Aj ag (by subst hy;simp[ho,Op.operands])) hq;obtain⟨o1,o2,o3⟩:=kM hT;have hu:=(hc.ti hl).slice hk;obtain⟨te,iT,vr⟩:=bF hn;have hS:=(hc.ti iT).sizeOf w;have jM:(lo.map a.eval=none/\p.den=0)\/∃k,lo.map a.eval=some (.int k p.den):=by
  rcases h1 with⟨rfl,rfl⟩|⟨y,k,rfl,e⟩
  .exact .inl ⟨rfl,rfl⟩
  .exact .inr ⟨k,by simp[e]⟩
 have rA:∀m:Nat,n.den=(m:Int)->(hi.map a.eval=none/\q.den=(m:Int))\/∃k,hi.map a.eval=some (.int k q.den):=by
  intro m hm;rcases h2 with⟨rfl,rfl⟩|⟨y,k,rfl,e⟩
  .exact .inl ⟨rfl,hm⟩
  .exact .inr ⟨k,by simp[e]⟩
 rcases qH.aS with⟨e0,e1,e2⟩|⟨ad,m,cap,g,e0,e1,e2,e3,OQ,e4,e5,yp,e6,e7⟩
 .have OC:p.den=0:=by omega
  have VX:q.den=0:=by omega
  have hb:=B6 (P:=P) (sl:=true) (len:=0) (cap:=0) (lo:=lo.map a.eval) (hi:=hi.map a.eval) (l:=p.den) (h:=q.den) (w:=w) jM (rA 0 (by simpa using e1)) o1 o2 (by omega) (QK _);refine Ae st (v:=.slice none 0 0) ?_ rfl (.ro (.slnil e2 (by simp only[ST.den];omega)));simp[execOp,ho,e0,Instr.sliceAt,Instr.slice,run_underlying hu,hb,hS,OC,VX]
 .have hb:=B6 (P:=P) (sl:=true) (len:=m) (cap:=cap) (lo:=lo.map a.eval) (hi:=hi.map a.eval) (l:=p.den) (h:=q.den) (w:=w) jM (rA m e2) o1 o2 (by omega) e3
  let zw:=if cap=p.den.toNat then ad else ad.add (p.den.toNat * te.size)
  refine Ae st (v:=.slice (some zw) (q.den.toNat-p.den.toNat) (cap-p.den.toNat)) ?_ rfl (.ro ?_)
  .by_cases dH:cap=p.den.toNat
   .subst dH
    simp[execOp,ho,e0,Instr.sliceAt,Instr.slice,run_underlying hu,hb,hS,zw]
   .simp[execOp,ho,e0,Instr.sliceAt,Instr.slice,run_underlying hu,hb,hS,zw,dH]
  .have aV:∀i,i<q.den.toNat-p.den.toNat->zw=ad.add (p.den.toNat * sz):=by
    intro i vW;simp only[zw,vr];rw[QD (by omega)]
   have hff:∀i,f' i=f (i+p.den.toNat):=λi=>hf i _ (by omega);refine .sl (λi j=>g (i+p.den.toNat) j) e1 (by simp only[ST.den];omega) (by omega) (by omega) (λmR=>?_) (λi vW=>?_) (λi j vW hj=>yp _ _ (by omega) hj) (λi j vW hj=>?_) (λi j s vW hs=>?_)
   .rw[aV 0 mR];exact Wz _ _ (e4 (by omega))
   .rw[hff];exact e5 _ (by omega)
   .rw[aV i vW,Ra,Abf]
    have:=e6 (i+p.den.toNat) j (by omega) hj;rw[XJ]at this;rw[show ad.off+p.den.toNat * sz+(i * sz+j)=ad.off+(i * sz+p.den.toNat * sz+j) by omega];exact this
   .rw[hff]at hs;exact e7 _ j s (by omega) hs
theorem Xt(s:List UInt8)(l h:Nat):(bytes s).extract l h=bytes ((s.drop l).take (h-l)):=by
 apply ByteArray.ext;simp only[ByteArray.data_extract,bytes];apply XN;simp[List.extract_eq_take_drop]
theorem Sq(hc:Az P cx){t:Nat}{ti:TI}(hl:look t cx.tt=some ti)(hk:ti.k=.string){x:Operand}{lo hi:Option Operand}(ho:o.op=.slice t x lo hi none){s:List UInt8}
  (hv:rd cx σ T x=some (.str s)) {sa sb:Option SV} (cZ:D7 cx σ T lo=some sa) (nY:D7 cx σ T hi=some sb) {p q:ST} (hp:Hb (.l 0) sa=some p) (hq:Hb (.len s) sb=some q)
  (kM:Ba (Ac σ.gm T)->0<=p.den/\p.den<=q.den/\q.den<=s.length):Local P cx.gl σ T o ⟨.str ((s.drop p.den.toNat).take (q.den.toNat-p.den.toNat)),[],[],[]⟩:=by
 intro B N E a w ff cR hg st ag bJ hT;have qH:=(Aa hv hg st (Aj ag (by simp[ho,Op.operands])) hT).dD;have h1:=Dh hg st hT cZ (λy hy=>Aj ag (by subst hy;simp[ho,Op.operands])) hp;have h2:=Dh hg st hT nY (λy hy=>Aj ag (by subst hy;simp[ho,Op.operands])) hq;obtain⟨o1,o2,o3⟩:=kM hT;have hu:=(hc.ti hl).string hk;have jM:(lo.map a.eval=none/\p.den=0)\/∃k,lo.map a.eval=some (.int k p.den):=by
  rcases h1 with⟨rfl,rfl⟩|⟨y,k,rfl,e⟩
  .exact .inl ⟨rfl,rfl⟩
  .exact .inr ⟨k,by simp[e]⟩
 have rA:(hi.map a.eval=none/\q.den=((s.length:Nat):Int))\/∃k,hi.map a.eval=some (.int k q.den):=by
  rcases h2 with⟨rfl,rfl⟩|⟨y,k,rfl,e⟩
  .exact .inl ⟨rfl,rfl⟩
  .exact .inr ⟨k,by simp[e]⟩
 have hb:=B6 (P:=P) (sl:=false) (len:=s.length) (cap:=s.length) (lo:=lo.map a.eval) (hi:=hi.map a.eval) (l:=p.den) (h:=q.den) (w:=w) jM rA o1 o2 o3 (QK _);have hs:(bytes s).size=s.length:=rfl;refine Ae st (v:=.string (bytes ((s.drop p.den.toNat).take (q.den.toNat-p.den.toNat)))) ?_ rfl (.ro (.str rfl));simp[execOp,ho,qH,Instr.sliceAt,Instr.slice,run_underlying hu,hs,hb,Xt]
theorem S2(hc:Az P cx){t n e sz q:Nat}{ti:TI}(hl:look t cx.tt=some ti)(hk:ti.k=.array n e){x y:Operand}(ho:o.op=.index t x y){cs:List SV}{k:IntKind}{s:SV}
  (hv:rd cx σ T x=some (.agg cs)) (hi:rd cx σ T y=some (.int k (.l (.ofNat q)))) (hn:size? cx e=some sz) (hq:q<n) (_hle:q * sz+sz<=cs.length) (hp:pack (cG cx e) ((cs.drop (q * sz)).take sz)=some s):Local P cx.gl σ T o ⟨s,[],[],[]⟩:=by
 intro B N E a w ff cR hg st ag bJ hT;have hr:=Aa hv hg st (Aj ag (by simp[ho,Op.operands])) hT;obtain⟨vs,hx,iA⟩:=hr.cW;have hy:=(Aa hi hg st (Aj ag (by simp[ho,Op.operands])) hT).aW;have hy:a.eval y=.int k (q:Int):=hy;have hu:=(hc.ti hl).array hk;obtain⟨fi,iL,aM⟩:=bF hn;have hS:=(hc.ti iL).sizeOf w;rw[aM]at hS;have jJ:=(iA.drop (q * sz)).take sz;obtain⟨p1,p2⟩:=Gb hp jJ;rw[dJ iL]at p1 p2;refine Ae st ?_ rfl p2;have xU:=Oh (hc.ti iL) aM (w:=w) (vs:=vs) (fo:=q * sz) p1;simp[execOp,ho,hx,hy,Instr.index,asIntOf,run_underlying hu,hq,hS,xU]
theorem Sw(hc:Az P cx){t:Nat}{ti:TI}(hl:look t cx.tt=some ti)(hk:ti.k=.string){x y:Operand}(ho:o.op=.index t x y){s:List UInt8}{k:IntKind}{i:ST}
  (hv:rd cx σ T x=some (.str s)) (hi:rd cx σ T y=some (.int k i)) (kM:Ba (Ac σ.gm T)->0<=i.den/\i.den<s.length):Local P cx.gl σ T o ⟨.int .u8 (.a ((s.getD i.den.toNat 0).toNat:Int)),[],[],[]⟩:=by
 intro B N E a w ff cR hg st ag bJ hT;have qH:=(Aa hv hg st (Aj ag (by simp[ho,Op.operands])) hT).dD;have hy:=(Aa hi hg st (Aj ag (by simp[ho,Op.operands])) hT).aW;obtain⟨o1,o2⟩:=kM hT;have hu:=(hc.ti hl).string hk;have aA:i.den.toNat<s.length:=by omega
 have aU:(bytes s)[i.den.toNat]?=some (s.getD i.den.toNat 0):=by
  have:i.den.toNat<(bytes s).size:=aA;rw[getElem?_pos (bytes s) i.den.toNat this,QC,QA aA];rfl
 refine Ae st (v:=.int .u8 ((s.getD i.den.toNat 0).toNat:Int)) ?_ rfl (.int rfl);simp[execOp,ho,qH,hy,Instr.index,asIntOf,run_underlying hu,o1,aU]
end
theorem Dt{P:Program}(g o:Nat)(t:TypeId)(fr:Nat×Nat):∀(vs:List Value) (i:Nat) (cur:Array Value) (w:World),w.heap[g]?=some (.cells cur t fr)->(fr=(0,0)\/cur.size<=fr.1)->o+i+vs.length<=cur.size->(∀v∈vs,v.oneCell'=true)->
  (storeCells ⟨g,o,none⟩ vs i).run P w=.ok () (w.setRow g (cur.toList.take (o+i)++vs++cur.toList.drop (o+i+vs.length)).toArray)
 | [],i,cur,w,hg,_,_,_=>by
  simp only[storeCells,YS,XV,ZA,UY,Array.toArray_toList];rw[setRow_self w g cur t fr hg];rfl
 |v :: rest,i,cur,w,hg,cI,hl,h1=>by
  have hi:o+i<cur.size:=by simp at hl;omega
  have yR:(⟨g,o,none⟩:Addr).add i=⟨g,o+i,none⟩:=by unfold Addr.add;split<;>simp_all
  have aK:w.cell? ⟨g,o+i,none⟩=some cur[o+i]:=by simp[World.cell?,hg,hi]
  have WZ:w.frozen? ⟨g,o+i,none⟩=false:=by
   simp only[World.frozen?,hg];rcases cI with rfl|cI
   .simp
   .simp;omega
  have cM:(store ((⟨g,o,none⟩:Addr).add i) v).run P w=.ok () (w.setRow g (cur.setIfInBounds (o+i) v)):=by
   rw[yR,run_store P w _ v _ (h1 v (by simp)),aK];simp[WZ,setCell_eq_setRow w g (o+i) cur t fr v hg]
  have ih:=Dt (P:=P) g o t fr rest (i+1) (cur.setIfInBounds (o+i) v) (w.setRow g (cur.setIfInBounds (o+i) v)) (setRow_heap w g cur _ t _ hg) (by simpa using cI) (by simp at hl ⊢;omega) (λx hx=>h1 x (by simp[hx]));simp only[storeCells,Sem.run_bind,cM,Result.andThen_ok,ih,setRow_setRow];congr 3;have e:=list_seg_step cur.toList (o+i) v rest (by simp at hl ⊢;omega);simpa[Array.toList_setIfInBounds,UD] using e
theorem Cu.lt{w:World}{gr:Bool}{e:TypeId}{sz m:Nat}{v:Value}{xs:List Value}(h:Cu w gr e sz v m xs):∀b,v.ownBlock=some b->b<w.heap.size:=by
 intro b hb;rcases h.2 with⟨rfl,_⟩|⟨g,cap,cur,fr,rfl,hg,_⟩
 .simp[Value.ownBlock]at hb
 .simp[Value.ownBlock]at hb;subst hb
  exact (Array.getElem?_eq_some_iff.1 hg).1
theorem Jz{B:Bs}{N:Nat}{E:Env}{a:Act}{w:World}{ff:Nat->SG}{hf:Nat->Hl}(st:St B N E a w ff hf){h:Nat}{e:TypeId}{sz:Nat}{gr:Bool}{v v':Value}{n m:Nat}{ys:List Value}{w':World}
  (hold:(hf h=.fresh/\v=.slice none 0 0)\/((∃nt f gr0,hf h=.own e nt sz gr0 f)/\E.τ h=some v/\E.ζ h=some sz/\∀b,v.ownBlock=some b->E.O b=some h/\∀o,¬E.I b o))
  (pC:∃a c,v=.slice a n c) (cA:Cu w' gr e sz v' (n+m) ys) (h1:∀u∈ys,u.oneCell'=true)
  (dN:(v'.ownBlock=v.ownBlock/\w.grownBy w' v.ownBlock)\/(v'.ownBlock=some w.heap.size/\w.grownBy w' none)) (qX:hf h≠.fresh->m=0->v'=v) {nt':ST} (mG:nt'.den=((n+m:Nat):Int))
  {f':Nat->List SV} (aP:Gx E w f' (n+m) sz ys):
  ∃E',Ext E w E' w'/\B8 B E' w'/\(∀k,bO E' w' k (aL hf h (.own e nt' sz gr f') k))/\E'.τ h=some v'/\E'.ζ h=some sz:=by
 have hb:=st.base;have eL:∀b,v.ownBlock=some b->E.O b=some h/\(∀o,¬E.I b o)/\b<w.heap.size:=by
  intro b cB;rcases hold with⟨_,rfl⟩|⟨_,_,_,h3⟩
  .simp[Value.ownBlock]at cB
  .exact⟨(h3 b cB).1,(h3 b cB).2,A4 hb (h3 b cB).1⟩
 let E':Env:=⟨E.β,aL E.τ h (some v'),λb=>if v'.ownBlock=some b then some h else E.O b,E.κ,aL E.ζ h (some sz),E.I⟩
 have fG:w'.os=w.os/\w'.tape=w.tape/\w'.output=w.output/\w.heap.size<=w'.heap.size:=by
  rcases dN with⟨_,hg⟩|⟨_,hg⟩<;>exact⟨hg.os,hg.tape,hg.output,hg.size⟩
 have fN:∀b,b<w.heap.size->v.ownBlock≠some b->w'.heap[b]?=w.heap[b]?:=by
  intro b aA aV;rcases dN with⟨_,hg⟩|⟨_,hg⟩
  .exact hg.block b aA (λe=>aV e.symm)
  .exact hg.block b aA (by simp)
 have hI:∀b o,E.I b o->w'.cell? ⟨b,o,none⟩=w.cell? ⟨b,o,none⟩:=by
  intro b o hi;have aA:=hb.eJ b o hi;have aV:v.ownBlock≠some b:=λrQ=>(eL b rQ).2.1 o hi;simp only[World.cell?];rw[fN b aA aV]
 have cI:hf h=.fresh->E.τ h=none/\E.ζ h=none:=by
  intro cI;have:=st.heap h;rw[cI]at this;exact⟨this.2.1,this.2.2.2⟩
 have hx:Ext E w E' w':=by
  refine⟨λ_ _ h=>h,λk u hk=>?_,λ_ _ h=>h,λk z hk=>?_,λb o h=>h,hI⟩
  .show aL E.τ h (some v') k=some u\/∃a m' c a' og c',u=.slice a m' c/\aL E.τ h (some v') k=some (.slice a' og c')/\m'<og
   unfold aL
   by_cases e:k=h
   .subst e
    rw[QE rfl];rcases hold with⟨hf0,_⟩|⟨⟨nt,f,gr0,aV⟩,h2,_⟩
    .rw[(cI hf0).1]at hk;cases hk
    .rw[h2]at hk
     cases hk
     by_cases hm:m=0
     .left;rw[qX (by rw[aV];simp) hm]
     .right
      obtain⟨a',c',rfl⟩:=cA.shape;obtain⟨a,c,rfl⟩:=pC;exact⟨a,n,c,a',n+m,c',rfl,rfl,by omega⟩
   .rw[QD e];exact .inl hk
  .show aL E.ζ h (some sz) k=some z
   unfold aL
   by_cases e:k=h
   .subst e
    rw[QE rfl];rcases hold with⟨hf0,_⟩|⟨_,_,h2,_⟩
    .rw[(cI hf0).2]at hk;cases hk
    .rw[h2]at hk;exact hk
   .rw[QD e];exact hk
 have kV:∀b,v'.ownBlock=some b->b<w'.heap.size:=cA.lt;have bV:∀b,v'.ownBlock=some b->B.w0.heap.size<=b\/B.X b:=by
  intro b cB;rcases dN with⟨hs,_⟩|⟨hs,_⟩
  .exact (hb.dG b h (eL b (by rw[<-hs];exact cB)).1).2
  .rw[hs]at cB;cases cB;exact .inl hb.size
 refine⟨E',hx,⟨fG.1.trans hb.os,fG.2.1.trans hb.tape,fG.2.2.1.trans hb.output,XO hb.size fG.2.2.2,λb aA hX=>?_,λb o hi=>?_,λb o hi=>?_,hb.cE,λb k hO=>?_,hb.cS.ext hx⟩,λk=>?_,by simp[E',aL],by simp[E',aL]⟩
 .have aM:=hb.size
  rw[fN b (by omega) ?_]
  .exact hb.old b aA hX
  .intro rQ
   rcases (hb.dG b h (eL b rQ).1).2 with h|h
   .omega
   .exact hX h
 .obtain⟨i1,i2⟩:=hb.I0 b o hi
  exact⟨i1,by rw[hI b o i1];exact i2⟩
 .exact XR (hb.eJ b o hi) fG.2.2.2
 .have hO:(if v'.ownBlock=some b then some h else E.O b)=some k:=hO
  split at hO
  .rename_i cB
   exact⟨kV b cB,bV b cB⟩
  .obtain⟨o1,o2⟩:=hb.dG b k hO
   exact⟨XR o1 fG.2.2.2,o2⟩
 .by_cases e:k=h
  .subst e
   simp only[aL,QE];refine⟨v',n+m,ys,by simp[E',aL],by simp[E',aL],cA,mG,h1,⟨aP.1,λi j s u a b c=>(aP.2 i j s u a b c).mono hx.I hx.cell⟩,λb cB=>⟨by show (if v'.ownBlock=some b then some k else E.O b)=some k;rw[QE cB],λo hi=>?_⟩⟩;rcases dN with⟨hs,_⟩|⟨hs,_⟩
   .exact (eL b (by rw[<-hs];exact cB)).2.1 o hi
   .rw[hs]at cB;cases cB
    have:=hb.eJ _ _ hi;omega
  .simp only[aL,QD e]
   refine bO.keep hx (st.heap k) rfl (by simp[E',aL,e]) rfl (by simp[E',aL,e]) λb hO=>?_;have aA:=A4 hb hO;have aV:v'.ownBlock≠some b:=by
    intro cB;rcases dN with⟨hs,_⟩|⟨hs,_⟩
    .have:=(eL b (by rw[<-hs];exact cB)).1
     rw[hO]at this;exact e (Option.some.inj this)
    .rw[hs]at cB;cases cB;omega
   have HI:v.ownBlock≠some b:=by
    intro cB;have:=(eL b cB).1;rw[hO]at this;exact e (Option.some.inj this)
   exact⟨by show (if v'.ownBlock=some b then some h else E.O b)=some k;rw[QD aV];exact hO,fN b aA HI,λo hi=>hi⟩
section
variable {P:Program} {cx:Cx} {σ:Sy} {T:List Nat} {o:Oper} {K:Out->Prop}
theorem Ib{E:Env}{w:World}{h:Nat}{n n0:ST}{nl:BT}{u v:Value}{gr:Bool}{e:TypeId}{sz m:Nat}{xs:List Value}(hr:Rel E w (.bY nl n h) u)(nL:E.τ h=some v)(bU:Cu w gr e sz v m xs)(jL:n0.den=(m:Int))(he:n.den=n0.den):
  u=v/\(nl.den=true↔v=.slice none 0 0):=by
 obtain⟨⟨a,k,c,e1,e2,e3⟩,a0,m0,c0,t1,t2,t3⟩:=hr.iO;rw[nL]at t1;cases t1;obtain⟨a1,c1,e4⟩:=bU.shape;cases e4;have:u=.slice a0 _ c0:=t3 (by rw[he,jL]);refine⟨this,?_⟩;rw[this]at e1;simp only[Value.slice.injEq]at e1;obtain⟨rfl,_,_⟩:=e1;rw[e3];constructor
 .rintro rfl
  rcases bU.2 with⟨h1,_⟩|⟨g,cap,cur,fr,h1,_⟩
  .exact h1
  .simp at h1
 .intro h1
  simp only[Value.slice.injEq]at h1;exact h1.1
theorem Xn(hc:Az P cx){c:Call}(ho:o.op=.call c)(aQ:c.callee=.builtin .len){x:Operand}{t:Nat}{ti:TI}(hx:c.args.toList=[x])(ht:c.argTypes.toList=[t])(hl:look t cx.tt=some ti){e:TypeId}(hk:ti.k=.slice e)
  {nl:BT} {n:ST} {h:Nat} (hv:rd cx σ T x=some (.bY nl n h)):Local P cx.gl σ T o ⟨.int .i64 n,[],[],[]⟩:=by
 intro B N E a w ff cR hg st ag bJ hT;have dT:x∈o.op.operands.toList:=by simp[ho,Op.operands,Call.operands,aQ,hx]
 obtain⟨⟨a0,m,c0,e3,e4,_⟩,_⟩:=(Aa hv hg st (Aj ag dT) hT).iO;have e1:c.args=#[x]:=XN (by simpa using hx);have e2:c.argTypes=#[t]:=XN (by simpa using ht);have aG:=H5 hc hl hk (w:=w) (a:=a0) (m:=m) (c:=c0) (ty:=o.type);refine Ae st (v:=.int .i64 m) ?_ rfl (.int e4);simp[execOp,ho,resolve,aQ,e1,e2,invoke,builtin,e3,aG]
theorem S0(hc:Az P cx){t e sz:Nat}{ti:TI}(hl:look t cx.tt=some ti)(hk:ti.k=.slice e)(hn:size? cx e=some sz){x y:Operand}(ho:o.op=.indexAddr t x y){h ty:Nat}{nl:BT}{n n0:ST}{gr:Bool}{f:Nat->List SV}{k:IntKind}{i:ST}
  (hv:rd cx σ T x=some (.bY nl n h)) (hh:nth σ.hp h=some (.own ty n0 sz gr f)) (hi:rd cx σ T y=some (.int k i)) (h0:Ba (Ac σ.gm T)->n.den=n0.den) (h1:Ba (Ac σ.gm T)->0<=i.den/\i.den<n0.den):Local P cx.gl σ T o ⟨.cK n h i.den.toNat 0,[],[h],[]⟩:=by
 intro B N E a w ff cR hg st ag bJ hT;have jK:=Aa hv hg st (Aj ag (by simp[ho,Op.operands])) hT;have hy:=(Aa hi hg st (Aj ag (by simp[ho,Op.operands])) hT).aW;obtain⟨b1,b2⟩:=h1 hT;have bD:=st.heap h;rw[Bn bJ (List.mem_singleton.2 rfl) hh]at bD;obtain⟨v,m,xs,k1,kz,k2,k3,k4,k5,k6⟩:=bD;obtain⟨qK,_⟩:=Ib jK k1 k2 k3 (h0 hT);rcases k2.2 with⟨_,e0⟩|⟨b,cap,cur,fr,rfl,nO,_⟩
 .omega
 have aG:=Hm hc hl hk hn (w:=w) (a:=⟨b,0,none⟩) (m:=m) (cap:=cap) (k:=k) b1 (show i.den<(m:Int) by omega);refine Ae st (v:=.pointer (some ⟨b,i.den.toNat * sz+0,none⟩)) ?_ rfl (.cK ⟨_,_,rfl⟩ ⟨_,m,cap,sz,k1,kz,by rw[h0 hT,k3];exact YK _,λ_=>⟨b,rfl,rfl⟩⟩);simp[execOp,ho,qK,hy,aG,add_lit]
theorem K7(hc:Az P cx){t i fo ft m h j off:Nat}{n:ST}{x:Operand}(ho:o.op=.fieldAddr t x i)(hv:rd cx σ T x=some (.cK n h j off))(hf:gE cx t i=some (fo,ft))(hn:size? cx ft=some (m+1)):
  Local P cx.gl σ T o ⟨.cK n h j (off+fo),[],[],[]⟩:=by
 intro B N E a w ff cR hg st ag bJ hT;have hr:=Aa hv hg st (Aj ag (by simp[ho,Op.operands])) hT;obtain⟨⟨b,o',hx⟩,a0,m0,c0,sz,t1,t2,t3,t4⟩:=hr.mM;refine Ae st (v:=.pointer (some ⟨b,o'+fo,none⟩)) ?_ rfl (.cK ⟨_,_,rfl⟩ ⟨a0,m0,c0,sz,t1,t2,t3,λe=>?_⟩)
 .simp[execOp,ho,hx,H6 hc hf hn,add_lit]
 .obtain⟨b',e1,e2⟩:=t4 e
  rw[hx]at e2;simp only[Value.pointer.injEq,Option.some.injEq,Addr.mk.injEq,and_true]at e2;obtain⟨rfl,rfl⟩:=e2;exact⟨b,e1,by rw[UD]⟩
theorem Acw{E:Env}{w:World}{h j off:Nat}{n n0:ST}{u v:Value}{gr:Bool}{e:TypeId}{sz m:Nat}{xs:List Value}(hr:Rel E w (.cK n h j off) u)(nL:E.τ h=some v)(hz:E.ζ h=some sz)(bU:Cu w gr e sz v m xs)(jL:n0.den=(m:Int))(he:n.den=n0.den):
  ∃b cap cur fr,v=.slice (some ⟨b,0,none⟩) m cap/\u=.pointer (some ⟨b,j * sz+off,none⟩)/\w.heap[b]?=some (.cells cur e fr)/\(fr=(0,0)\/gr=false/\fr=(cur.size,cur.size+1))/\m<=cap/\cap<=maxLen/\cur.size=cap * sz/\cur.toList.take (m * sz)=xs:=by
 obtain⟨_,a0,m0,c0,cN,t1,t2,t3,t4⟩:=hr.mM;rw[nL]at t1;cases t1;rw[hz]at t2;cases t2;obtain⟨a1,c1,e4⟩:=bU.shape;cases e4;obtain⟨b,rfl,e5⟩:=t4 (by rw[he,jL]);rcases bU.2 with⟨h1,_⟩|⟨g,cap,cur,fr,h1,h2⟩
 .simp at h1
 .cases h1
  exact⟨b,_,cur,fr,rfl,e5,h2⟩
theorem Su(hc:Az P cx){t:Nat}{x:Operand}(ho:o.op=.load t x){h j off n ty sz:Nat}{m m0:ST}{gr:Bool}{f:Nat->List SV}{s:SV}(hv:rd cx σ T x=some (.cK m0 h j off))(hn:size? cx t=some n)
  (hh:nth σ.hp h=some (.own ty m sz gr f)) (h0:Ba (Ac σ.gm T)->m0.den=m.den) (kM:Ba (Ac σ.gm T)->(j:Int)<m.den) (hle:off+n<=(f j).length) (hp:pack (cG cx t) (((f j).drop off).take n)=some s):Local P cx.gl σ T o ⟨s,[],[h],[]⟩:=by
 intro B N E a w ff hf hg st ag bJ hT;have hr:=Aa hv hg st (Aj ag (by simp[ho,Op.operands])) hT;have bD:=st.heap h;rw[Bn bJ (List.mem_singleton.2 rfl) hh]at bD;obtain⟨v,m',xs,k1,kz,k2,k3,k4,k5,k6⟩:=bD;obtain⟨b,cap,cur,fr,e1,hx,nO,cI,pQ,fX,cV,bZ⟩:=Acw hr k1 kz k2 k3 (h0 hT);obtain⟨ti,cY,aM⟩:=bF hn;have hj:j<m':=by have:=kM hT;omega
 have pJ:=k5.1 j hj;have hbound:(j+1) * sz<=m' * sz:=QH _ hj;have gb:m' * sz<=cap * sz:=QH _ pQ;rw[XJ]at hbound;have mQ:=k2.1;have jJ:A1 E w (((f j).drop off).take n) ((xs.drop (j * sz+off)).take n):=by
  refine⟨by simp;omega,λi s v p q=>?_⟩;rw[QL]at p q
  split at p
  .rename_i e
   rw[QE e]at q;rw[XL]at p q;refine .ro (k5.2 j (off+i) s v hj p ?_);rw[<-UD];exact q
  .cases p
 obtain⟨p1,p2⟩:=Gb hp jJ;have hlen:((xs.drop (j * sz+off)).take n).length=n:=by simp;omega
 have aG:=Fm (hc.ti cY) (w:=w) (b:=b) (off:=j * sz+off) (vs:=(xs.drop (j * sz+off)).take n) (λq v hq=>by
  rw[QL]at hq
  split at hq
  .rw[XL]at hq
   rw[cell_of_row w b (j * sz+off+q) cur ty fr nO];rw[<-bZ,QL,QE (by omega)]at hq;simpa using hq
  .cases hq) (by rw[hlen,aM]) (dJ cY) p1
 exact Ae st (by simp[execOp,ho,hx,aG]) rfl p2
theorem Qg(hc:Az P cx){t:Nat}{x y:Operand}(ho:o.op=.store t x y){h j off n ty sz:Nat}{m m0:ST}{gr:Bool}{f f':Nat->List SV}{s:SV}(hv:rd cx σ T x=some (.cK m0 h j off))(hs:zM cx σ T t y=some s)(hn:size? cx t=some n)
  (hh:nth σ.hp h=some (.own ty m sz gr f)) (h0:m0.den=m.den) (hj:(j:Int)<m.den) (hl:s.cells.length=n) (hle:off+n<=(f j).length) (h1:D8 s.cells=true) (gB:Ak (.agg (loose.aF (norm.aN dn s.cells)))=true) (_hT0:Ba (Ac σ.gm T))
  (pR:f' j=B9 (f j) off (loose.aF (norm.aN dn s.cells))) (nZ:∀i,i≠j->f' i=f i):Local P cx.gl σ T o ⟨.tup [],[.put h (.own ty m sz gr f')],[h],[]⟩:=by
 intro B N E a w ff hf hg st ag bJ hT K' Q hK;have hr:=Aa hv hg st (Aj ag (by simp[ho,Op.operands])) hT;have cP:=I6 hs hg st (Aj ag (by simp[ho,Op.operands])) hT;have bN:=Bn bJ (List.mem_singleton.2 rfl) hh;have bD:=st.heap h;rw[bN]at bD;obtain⟨v,m',xs,k1,kz,k2,k3,k4,k5,k6⟩:=bD;obtain⟨b,cap,cur,fr,e1,hx,nO,cI,pQ,fX,cV,bZ⟩:=Acw hr k1 kz k2 k3 h0;obtain⟨ti,cY,aM⟩:=bF hn;have vC:j<m':=by omega
 have pJ:=k5.1 j vC;have hbound:(j+1) * sz<=m' * sz:=QH _ vC;have gb:m' * sz<=cap * sz:=QH _ pQ;rw[XJ]at hbound;have vG:=H1 h1 cP;have fO:=L8 h1 vG;have lG:(a.eval y).cells.toList.length=n:=by rw[<-vG.1];exact hl
 have mS:A1 E w (loose.aF (norm.aN dn s.cells)) (a.eval y).cells.toList:=by
  rw[Cf,Cl];exact (vG.map _ λs v _ h=>h.norm).map _ λs v _ h=>h.loose
 have eu:∀c∈loose.aF (norm.aN dn s.cells),Ak c=true:=by
  simp only[Ak]at gB;exact (Ck _).1 gB
 have sM:(loose.aF (norm.aN dn s.cells)).length=n:=by rw[mS.1];exact lG
 generalize hU:(a.eval y).cells.toList=us at *
 generalize hP:loose.aF (norm.aN dn s.cells)=ps at *
 let C':Array Value:=(cur.toList.take (j * sz+off)++us++cur.toList.drop (j * sz+off+us.length)).toArray
 have lV:j * sz+off+us.length<=cur.size:=by rw[lG];omega
 have mY:C'.size=cur.size:=by simp[C'];omega
 have kI:∀q:Nat,C'[q]?=if j * sz+off<=q/\q<j * sz+off+us.length then us[q-(j * sz+off)]? else cur[q]?:=by
  intro q;have:C'[q]?=(cur.toList.take (j * sz+off)++us++cur.toList.drop (j * sz+off+us.length))[q]?:=by simp[C']
  rw[this]
  split
  .rename_i e
   rw[ZE,QU (by simp;omega),QJ (by simp;omega)];congr 1;simp;omega
  .rename_i e
   by_cases hi:q<j * sz+off
   .rw[ZE,QJ (by simp;omega),QL,QE hi];simp
   .rw[QU (by simp;omega),XL,<-QG]
    congr 1;simp;omega
 let ys:List Value:=C'.toList.take (m' * sz)
 have xD:ys.length=m' * sz:=by simp[ys,mY];omega
 have qG:∀q,q<m' * sz->ys[q]?=if j * sz+off<=q/\q<j * sz+off+us.length then us[q-(j * sz+off)]? else xs[q]?:=by
  intro q hq;simp only[ys];rw[QL,QE hq,QG,kI]
  split
  .rfl
  .rw[<-bZ,QL,QE hq];simp
 have aP:Gx E w f' m' sz ys:=by
  refine⟨λi hi=>?_,λi q s2 v hi eE iW=>?_⟩
  .by_cases e:i=j
   .subst e;rw[pR,Dd];exact pJ
   .rw[nZ i e];exact k5.1 i hi
  .have BM:q<sz:=by
    have hlen:(f' i).length=sz:=by
     by_cases e:i=j
     .subst e;rw[pR,Dd];exact pJ
     .rw[nZ i e];exact k5.1 i hi
    rw[<-hlen];exact (List.getElem?_eq_some_iff.1 eE).1
   have pL:i * sz+q<m' * sz:=by
    have:(i+1) * sz<=m' * sz:=QH _ hi;rw[XJ]at this;omega
   rw[qG _ pL]at iW
   by_cases e:i=j
   .subst e
    rw[pR,Hv _ _ _ _ (by rw[sM];exact hle)]at eE
    by_cases eT:off<=q/\q<off+n
    .rw[QE (by rw[sM];exact eT)]at eE
     rw[QE (by rw[lG];omega)]at iW;have e2:i * sz+q-(i * sz+off)=q-off:=by omega
     rw[e2]at iW;exact (mS.2 _ s2 v eE iW).fK (eu s2 (QF eE)) (fO v (QF iW))
    .rw[QD (by rw[sM];exact eT)]at eE
     rw[QD (by rw[lG];omega)]at iW;exact k5.2 i q s2 v hi eE iW
   .rw[nZ i e]at eE
    have aV:¬(j * sz+off<=i * sz+q/\i * sz+q<j * sz+off+us.length):=by
     rw[lG];rcases ZS i j with aA|nN
     .have:(i+1) * sz<=j * sz:=QH _ aA
      rw[XJ]at this;omega
     .have:(j+1) * sz<=i * sz:=QH _ (by omega)
      rw[XJ]at this;omega
    rw[QD aV]at iW;exact k5.2 i q s2 v hi eE iW
 have xE:∀u∈ys,u.oneCell'=true:=by
  intro u hu;obtain⟨q,hq⟩:=List.mem_iff_getElem?.1 hu;have xR:q<m' * sz:=by rw[<-xD];exact (List.getElem?_eq_some_iff.1 hq).1
  rw[qG q xR]at hq
  split at hq
  .exact fO u (QF hq)
  .exact k4 u (QF hq)
 have iM:fr=(0,0)\/cur.size<=fr.1:=by
  rcases cI with h|⟨_,h⟩
  .exact .inl h
  .rw[h];exact .inr (QK _)
 have aG:(Instr.storeAt t (.pointer (some ⟨b,j * sz+off,none⟩)) (a.eval y)).run P w=.ok () (w.setRow b C'):=by
  have hS:=(hc.ti cY).sizeOf w;have pP:=Dt (P:=P) b (j * sz+off) ty fr us 0 cur w nO iM (by simpa using lV) fO;have aV:((a.eval y).cells.size≠ti.size)=False:=by
   have:(a.eval y).cells.size=ti.size:=by rw[aM];rw[<-hU]at lG;simpa using lG
   simp[this]
  simp only[ZA]at pP;simp only[Instr.storeAt,Instr.sureAddr,storeVar,Sem.run_bind,Sem.run_pure,Result.andThen_ok,hS,aV,if_false,hU,pP];rfl
 have cA:Cu (w.setRow b C') gr ty sz v (m'+0) ys:=by
  refine⟨xD,.inr ⟨b,cap,C',fr,e1,setRow_heap w b cur C' ty fr nO,?_,pQ,fX,by rw[mY];exact cV,rfl⟩⟩;rw[mY];exact cI
 obtain⟨E',x1,x2,x3,x4,x5⟩:=Jz (h:=h) (e:=ty) (sz:=sz) (n:=m') (m:=0) st (.inr ⟨⟨_,_,_,bN⟩,k1,kz,k6⟩) k2.shape cA xE
  (.inl ⟨rfl,⟨rfl,rfl,rfl,by simp,λk _ hk=>setRow_other w b k C' (λe=>hk (by rw[e,e1];rfl))⟩⟩) (λ_ _=>rfl) (nt':=m) (by simpa using k3) (by simpa using aP)
 unfold Oper.wp;have:(execOp a.eval o).run P w=.ok .skip (w.setRow b C'):=by
  simp only[execOp,ho,hx,Sem.run_bind,aG,Result.andThen_ok,Sem.run_pure]
 rw[this];exact hK undef _ E' x1 x2 x3 (.tup rfl (by simp))
theorem Aab(hc:Az P cx){src dst e:TypeId}{x:Operand}(ho:o.op=.convert src dst x){ts td te:TI}(lI:look src cx.tt=some ts)(zS:ts.k=.string)(uD:look dst cx.tt=some td)(pG:td.k=.slice e)(hle:look e cx.tt=some te)(mT:te.k=.int .u8)
  {s:List UInt8} (hv:rd cx σ T x=some (.str s)) (hlen:s.length<=maxLen):Local P cx.gl σ T o ⟨.bY (.l false) (.len s) (Ag σ.hp),[.put (Ag σ.hp) (.own e (.len s) 1 false (dY s))],[],[]⟩:=by
 intro B N E a w ff hf hg st ag bJ hT K' Q hK;have hx:=(Aa hv hg st (Aj ag (by simp[ho,Op.operands])) hT).dD;have hb:=st.base;have aG:=run_bytes_of_string (P:=P) w src dst e (bytes s) ((hc.ti lI).string zS) ((hc.ti uD).slice pG) ((hc.ti hle).int mT);obtain⟨C,hC⟩:∃C,C=bytesRow (bytes s) (grownCap w (bytes s).size 0 e):=⟨_,rfl⟩;rw[<-hC]at aG;obtain⟨w',iV⟩:∃w',w'=w.drew.alloc (.cells C e (C.size,C.size+1)):=⟨_,rfl⟩;rw[<-iV]at aG;have hold:∀b,b<w.heap.size->w'.heap[b]?=w.heap[b]?:=λb aA=>by rw[iV];exact RowKit.Below.heap_alloc w.drew _ b aA
 have bV:w'.heap[w.heap.size]?=some (.cells C e (C.size,C.size+1)):=by rw[iV];show (w.heap.push _)[w.heap.size]?=_;simp
 have aM:w'.heap.size=w.heap.size+1:=by rw[iV];show (w.heap.push _).size=_;simp
 have lL:(bytes s).size=s.length:=by simp[bytes,ByteArray.size]
 have nN:=grownCap_ge w (bytes s).size 0 e;have CD:C.size=grownCap w (bytes s).size 0 e:=by
  have key:∀(b:ByteArray) (c:Nat),b.size<=c->(bytesRow b c).size=c:=by
   intro b c py;have:b.data.size=b.size:=rfl;simp only[bytesRow,Array.size_append,VN,Array.size_replicate];omega
  rw[hC];exact key _ _ nN
 have hCi:∀i,i<s.length->C[i]?=some (.int .u8 ((s.getD i 0).toNat:Int)):=by
  intro i hi;rw[hC];simp[bytesRow,bytes,Array.getElem?_append,hi]
 have bH:=Pf bJ (List.mem_singleton.2 rfl);have TQ:(C.toList.take s.length).length=s.length:=by simp;omega
 have cA:Cu w' false e 1 (.slice (some ⟨w.heap.size,0,none⟩) s.length C.size) (0+s.length) (C.toList.take s.length):=by
  refine⟨by rw[TQ];omega,.inr ⟨w.heap.size,C.size,C,_,by rw[XD],bV,.inr ⟨rfl,rfl⟩,by omega,?_,by omega,by rw[XD,VS]⟩⟩;rw[CD];exact grownCap_le_maxLen _ _ _ _ (by rw[lL];exact hlen)
 have aU:∀(i:Nat) (u:Value),(C.toList.take s.length)[i]?=some u->u=.int .u8 ((s.getD i 0).toNat:Int):=by
  intro i u hu;rw[QL]at hu
  split at hu
  .rename_i hi
   rw[QG,hCi i hi]at hu;exact (Option.some.inj hu).symm
  .cases hu
 have eT:Gx E w (dY s) (0+s.length) 1 (C.toList.take s.length):=by
  refine⟨λi _=>rfl,λi j s' u hi hs hu=>?_⟩;cases j with
  |zero =>
   simp[dY]at hs;subst hs;rw[aU _ u (by simpa using hu)];refine .int ?_;simp[ST.den]
  |succ j=>simp[dY]at hs
 obtain⟨E',x1,x2,x3,x4,x5⟩:=Jz (h:=Ag σ.hp) (e:=e) (sz:=1) (n:=0) (m:=s.length) st (.inl ⟨bH,rfl⟩) ⟨_,_,rfl⟩ cA (λu hu=>by
  obtain⟨i,hi⟩:=List.mem_iff_getElem?.1 hu;rw[aU i u hi];rfl) (.inr ⟨rfl,⟨by rw[iV];rfl,by rw[iV];rfl,by rw[iV];rfl,by omega,λk hk _=>hold k hk⟩⟩) (λh=>absurd bH h) (nt':=.len s) (by simp[ST.den]) eT
 unfold Oper.wp;have hex:(execOp a.eval o).run P w=.ok (.value (.slice (some ⟨w.heap.size,0,none⟩) s.length C.size)) w':=by
  simp only[execOp,ho,hx,Sem.run_bind];rw[aG,lL,CD,lL];rfl
 rw[hex];exact hK _ w' E' x1 x2 x3 (.bY ⟨_,s.length,_,rfl,rfl,by simp[BT.den]⟩ ⟨_,s.length,_,x4,YK _,λ_=>rfl⟩)
theorem Xp(hc:Az P cx){src e:TypeId}{x:Operand}(ho:o.op=.convert src src x){td te:TI}(uD:look src cx.tt=some td)(pG:td.k=.slice e)(hle:look e cx.tt=some te)(mT:te.k=.int .u8)
  {n n0:ST} {h:Nat} {f:Nat->List SV} (hv:rd cx σ T x=some (.bY (.l false) n h)) (hh:nth σ.hp h=some (.own e n0 1 true f)) (h0:n.den=n0.den):Local P cx.gl σ T o ⟨.bY (.l false) n h,[.put h (.own e n0 1 false f)],[h],[]⟩:=by
 intro B N E a w ff hf hg st ag bJ hT K' Q hK;have jK:=Aa hv hg st (Aj ag (by simp[ho,Op.operands])) hT;have bD:=st.heap h;have bN:=Bn bJ (List.mem_singleton.2 rfl) hh;rw[bN]at bD;obtain⟨v,m,xs,k1,kz,k2,k3,k4,k5,k6⟩:=bD;obtain⟨uG,iX⟩:=Ib jK k1 k2 k3 h0;have vp:=(hc.ti uD).slice pG;have vo:=(hc.ti hle).int mT;rcases k2.2 with⟨e0,e1⟩|⟨b,cap,cur,fr,e0,nO,cI,pQ,fX,cV,bZ⟩
 .exact absurd (iX.2 e0) (by simp[BT.den])
 have aa0:fr=(0,0):=by
  rcases cI with cI|⟨cI,_⟩
  .exact cI
  .cases cI
 subst aa0;have hb:=st.base;have aA:b<w.heap.size:=(Array.getElem?_eq_some_iff.1 nO).1;have GM:(w.freeze ⟨b,cur.size,none⟩ 1).heap[b]?=some (.cells cur e (cur.size,cur.size+1)):=by
  unfold World.freeze;rw[QD (by decide)];show (w.heap.modify b _)[b]?=_;rw[XZ,QE rfl,nO];rfl
 have eh:∀k,k≠b->(w.freeze ⟨b,cur.size,none⟩ 1).heap[k]?=w.heap[k]?:=λk hk=>by
  unfold World.freeze;rw[QD (by decide)];show (w.heap.modify b _)[k]?=_;rw[XZ,QD (λe=>hk e.symm)]
 have cA:Cu (w.freeze ⟨b,cur.size,none⟩ 1) false e 1 v (m+0) xs:=by
  refine⟨k2.1,.inr ⟨b,cap,cur,(cur.size,cur.size+1),e0,GM,.inr ⟨rfl,rfl⟩,pQ,fX,cV,bZ⟩⟩
 obtain⟨E',x1,x2,x3,x4,x5⟩:=Jz (h:=h) (e:=e) (sz:=1) (n:=m) (m:=0) st (.inr ⟨⟨_,_,_,bN⟩,k1,kz,k6⟩) k2.shape cA k4
  (.inl ⟨rfl,⟨rfl,rfl,rfl,by unfold World.freeze;rw[QD (by decide)];simp,λk _ hk=>eh k (λe=>hk (by rw[e,e0];rfl))⟩⟩) (λ_ _=>rfl) (nt':=n0) (by simpa using k3) (by simpa using k5)
 unfold Oper.wp;have pC:w.shape? b=some (e,cur.size):=by
  unfold World.shape?;rw[nO]
 have aG:(execOp a.eval o).run P w=.ok (.value v) (w.freeze ⟨b,cur.size,none⟩ 1):=by
  simp only[execOp,ho,Sem.run_bind];rw[uG,e0];simp[convert,run_underlying vp,run_underlying vo,markStringish,pC]
 rw[aG];obtain⟨a1,c1,e4⟩:=k2.shape;refine hK _ _ E' x1 x2 x3 (.bY ⟨a1,m,c1,e4,by rw[h0,k3],?_⟩ ⟨a1,m,c1,by rw[x4,e4],by rw[h0,k3];exact YK _,λ_=>e4⟩);rw[e0]at e4;cases e4;simp[BT.den]
theorem Aac(hc:Az P cx){src dst e:TypeId}{x:Operand}(ho:o.op=.convert src dst x){ts td te:TI}(lI:look src cx.tt=some ts)(zS:ts.k=.slice e)(uD:look dst cx.tt=some td)(pG:td.k=.string)(hle:look e cx.tt=some te)(mT:te.k=.int .u8)
  {nl:BT} {n n0:ST} {h:Nat} {ty:TypeId} {gr:Bool} {f:Nat->List SV} (hv:rd cx σ T x=some (.bY nl n h)) (hh:nth σ.hp h=some (.own ty n0 1 gr f)) (h0:n.den=n0.den) {r:List UInt8} (hr:Hc n0.den f/\Lw r n0.den f):Local P cx.gl σ T o ⟨.str r,[],[h],[]⟩:=by
 intro B N E a w ff hf hg st ag bJ hT;obtain⟨hb,hr⟩:=hr;have jK:=Aa hv hg st (Aj ag (by simp[ho,Op.operands])) hT;have bD:=st.heap h;rw[Bn bJ (List.mem_singleton.2 rfl) hh]at bD;obtain⟨v,m,xs,k1,kz,k2,k3,k4,k5,k6⟩:=bD;obtain⟨uG,_⟩:=Ib jK k1 k2 k3 h0;refine Ae st (v:=.string (bytes r)) ?_ rfl (.ro (.str rfl));simp only[execOp,ho,Sem.run_bind];have iJ:=(hc.ti lI).slice zS;have vp:=(hc.ti uD).string pG;have vo:=(hc.ti hle).int mT;rw[uG];have zP:r.length=m:=by have:=hr.len;omega
 rcases k2.2 with⟨e0,e1⟩|⟨b,cap,cur,fr,e0,nO,cI,pQ,fX,cV,bZ⟩
 .have:r=[]:=QQ (by omega)
  subst this;rw[e0];simp[convert,run_underlying iJ,run_underlying vp,run_underlying vo,Conv.bytesToString,bytes];rfl
 .have:=run_convert_bytes_back (P:=P) w src dst e ⟨b,0,none⟩ cap r iJ vo vp (λj hj=>by
   have vC:j<m:=by omega
   obtain⟨t,ht,_⟩:=hb.h j (by omega);have e1:=hr.row j t (by omega) ht;have TR:j<xs.length:=by rw[k2.1];omega
   obtain⟨xj,TS⟩:∃xj,xs[j]?=some xj:=⟨_,QA TR⟩;have eX:=k5.2 j 0 (.int .u8 t) xj vC (by rw[ht];rfl) (by simpa using TS);have BY:xj=.int .u8 t.den:=(Rel.ro (E:=E) eX).aW;rw[QC,QA hj]at e1;simp only[XB]at e1;rw[add_lit,XD,cell_of_row w b j cur ty fr nO];rw[<-bZ,QL,QE (by omega),QG]at TS;rw[e1,TS,BY])
  rw[zP]at this;rw[e0,this];rfl
end
end Go.Sx
