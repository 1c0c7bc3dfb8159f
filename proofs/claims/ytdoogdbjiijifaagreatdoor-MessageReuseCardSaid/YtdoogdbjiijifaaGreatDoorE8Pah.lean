/- A part of the proof: contracts of functions, or the executor and its soundness. No conditions. -/
import Derived.Test.YtdoogdbjiijifaaGreatDoorE8Pag
namespace Go.Sx
open Go
section
variable {P:Program} {cx:Cx} {σ:Sy} {T:List Nat} {o:Oper} {K:Out->Prop}
theorem Dq{B:Bs}{N:Nat}{E:Env}{a:Act}{w:World}{ff:Nat->SG}{hf:Nat->Hl}(hg:Fh B cx.gl)(st:St B N E a w ff hf)(hT:Bh (Ac σ.gm T)){x:Option Operand}{s:Option SV}(h:Ei cx σ T x=some s)
  (eT:∀y,x=some y->∀q∈Ct y,ff q=Bd σ q) {d t:ST} (hb:Hj d s=some t):(x=none/\t=d)\/∃y k,x=some y/\a.eval y=.int k t.den:=by
 unfold Ei at h
 split at h
 .cases h;left;exact⟨rfl,(Option.some.inj hb).symm⟩
 .rename_i y
  split at h
  .rename_i v hv
   cases h
   right
   have hr:=Aa hv hg st (eT y rfl) hT;unfold Hj at hb
   split at hb
   .rename_i e;cases e
   .rename_i k u e
    cases e;cases hb;exact⟨y,_,rfl,hr.aQ⟩
   .cases hb
  .cases h
theorem Md{k:IntKind}{i:Int}{n:Nat}{code:BoundsCode}{w:World}(h0:0<=i)(h1:i<=(n:Int)):(Instr.sliceBound (.int k i) n code).run P w=.ok i.toNat w:=by
 simp[Instr.sliceBound,asIntOf,h0,h1]
theorem Gb{sl:Bool}{len cap:Nat}{lo hi:Option Value}{l h:Int}{w:World}(nN:(lo=none/\l=0)\/∃k,lo=some (.int k l))(oQ:(hi=none/\h=(len:Int))\/∃k,hi=some (.int k h))(h0:0<=l)(h1:l<=h)(h2:h<=(len:Int))(h3:len<=cap):
  (Instr.sliceBounds sl len cap lo hi none).run P w=.ok (l.toNat,h.toNat,cap) w:=by
 have hh:((h.toNat:Nat):Int)=h:=by omega
 rcases nN with⟨rfl,rfl⟩|⟨k,rfl⟩<;>rcases oQ with⟨rfl,rfl⟩|⟨k',rfl⟩<;>simp[Instr.sliceBounds]
 .have:=Md (P:=P) (k:=k') (i:=h) (n:=cap) (code:=if sl=true then BoundsCode.sliceAcap else BoundsCode.sliceAlen) (w:=w) (by omega) (by omega)
  simp[this]
 .have:=Md (P:=P) (k:=k) (i:=l) (n:=len) (code:=BoundsCode.sliceB) (w:=w) (by omega) (by omega)
  simp[this]
 .have e1:=Md (P:=P) (k:=k') (i:=h) (n:=cap) (code:=if sl=true then BoundsCode.sliceAcap else BoundsCode.sliceAlen) (w:=w) (by omega) (by omega)
  have e2:=Md (P:=P) (k:=k) (i:=l) (n:=h.toNat) (code:=BoundsCode.sliceB) (w:=w) (by omega) (by omega);simp[e1,e2]
theorem Sa(hc:Az P cx){t e sz:Nat}{ti:TI}(hl:look t cx.tt=some ti)(hk:ti.k=.slice e)(hn:size? cx e=some sz){x:Operand}{lo hi:Option Operand}(ho:o.op=.slice t x lo hi none){nl:BT}{n:ST}{f f':Nat->List SV}
  (hv:rd cx σ T x=some (.sl nl n sz f)\/∃h,rd cx σ T x=some (.dQ nl n sz f h)) {sa sb:Option SV} (nN:Ei cx σ T lo=some sa) (oQ:Ei cx σ T hi=some sb) {p q:ST} (hp:Hj (.l 0) sa=some p) (hq:Hj n sb=some q)
  (kL:Bh (Ac σ.gm T)->0<=p.den/\p.den<=q.den/\q.den<=n.den) (hf:∀i j:Nat,(j:Int)=i+p.den->f' i=f j):Local P cx.gl σ T o ⟨.sl nl (.a (q.den-p.den)) sz f',[],[],[]⟩:=by
 intro B N E a w ff cY hg st ag bK hT;have jx:RO E.I w (.sl nl n sz f) (a.eval x):=by
  rcases hv with hv|⟨h,hv⟩
  .exact (Aa hv hg st (Ak ag (by simp[ho,Op.operands])) hT).bE
  .exact (Aa hv hg st (Ak ag (by simp[ho,Op.operands])) hT).kF.1
 have h1:=Dq hg st hT nN (λy hy=>Ak ag (by subst hy;simp[ho,Op.operands])) hp;have h2:=Dq hg st hT oQ (λy hy=>Ak ag (by subst hy;simp[ho,Op.operands])) hq;obtain⟨o1,o2,o3⟩:=kL hT;have hu:=(hc.ti hl).slice hk;obtain⟨te,kJ,wk⟩:=bH hn;have hS:=(hc.ti kJ).sizeOf w;have xI:(lo.map a.eval=none/\p.den=0)\/∃k,lo.map a.eval=some (.int k p.den):=by
  rcases h1 with⟨rfl,rfl⟩|⟨y,k,rfl,e⟩
  .exact .inl ⟨rfl,rfl⟩
  .exact .inr ⟨k,by simp[e]⟩
 have sH:∀m:Nat,n.den=(m:Int)->(hi.map a.eval=none/\q.den=(m:Int))\/∃k,hi.map a.eval=some (.int k q.den):=by
  intro m hm;rcases h2 with⟨rfl,rfl⟩|⟨y,k,rfl,e⟩
  .exact .inl ⟨rfl,hm⟩
  .exact .inr ⟨k,by simp[e]⟩
 rcases jx.bE with⟨e0,e1,e2⟩|⟨ad,m,cap,g,e0,e1,e2,e3,NR,e4,e5,zf,e6,e7⟩
 .have wI:p.den=0:=by omega
  have SR:q.den=0:=by omega
  have hb:=Gb (P:=P) (sl:=true) (len:=0) (cap:=0) (lo:=lo.map a.eval) (hi:=hi.map a.eval) (l:=p.den) (h:=q.den) (w:=w) xI (sH 0 (by simpa using e1)) o1 o2 (by omega) (QH _);refine Ad st (v:=.slice none 0 0) ?_ rfl (.ro (.slnil e2 (by simp only[ST.den];omega)));simp[execOp,ho,e0,Instr.sliceAt,Instr.slice,run_underlying hu,hb,hS,wI,SR]
 .have hb:=Gb (P:=P) (sl:=true) (len:=m) (cap:=cap) (lo:=lo.map a.eval) (hi:=hi.map a.eval) (l:=p.den) (h:=q.den) (w:=w) xI (sH m e2) o1 o2 (by omega) e3
  let CV:=if cap=p.den.toNat then ad else ad.add (p.den.toNat * te.size)
  refine Ad st (v:=.slice (some CV) (q.den.toNat-p.den.toNat) (cap-p.den.toNat)) ?_ rfl (.ro ?_)
  .by_cases iY:cap=p.den.toNat
   .subst iY
    simp[execOp,ho,e0,Instr.sliceAt,Instr.slice,run_underlying hu,hb,hS,CV]
   .simp[execOp,ho,e0,Instr.sliceAt,Instr.slice,run_underlying hu,hb,hS,CV,iY]
  .have aY:∀i,i<q.den.toNat-p.den.toNat->CV=ad.add (p.den.toNat * sz):=by
    intro i wK;simp only[CV,wk];rw[QA (by omega)]
   have hff:∀i,f' i=f (i+p.den.toNat):=λi=>hf i _ (by omega);refine .sl (λi j=>g (i+p.den.toNat) j) e1 (by simp only[ST.den];omega) (by omega) (by omega) (λxG=>?_) (λi wK=>?_) (λi j wK hj=>zf _ _ (by omega) hj) (λi j wK hj=>?_) (λi j s wK hs=>?_)
   .rw[aY 0 xG];exact Vu _ _ (e4 (by omega))
   .rw[hff];exact e5 _ (by omega)
   .rw[aY i wK,Qy,Z2]
    have:=e6 (i+p.den.toNat) j (by omega) hj;rw[XK]at this;rw[show ad.off+p.den.toNat * sz+(i * sz+j)=ad.off+(i * sz+p.den.toNat * sz+j) by omega];exact this
   .rw[hff]at hs;exact e7 _ j s (by omega) hs
theorem Wt(s:List UInt8)(l h:Nat):(bytes s).extract l h=bytes ((s.drop l).take (h-l)):=by
 apply ByteArray.ext;simp only[ByteArray.data_extract,bytes];apply XU;simp[List.extract_eq_take_drop]
theorem R9(hc:Az P cx){t:Nat}{ti:TI}(hl:look t cx.tt=some ti)(hk:ti.k=.string){x:Operand}{lo hi:Option Operand}(ho:o.op=.slice t x lo hi none){s:List UInt8}
  (hv:rd cx σ T x=some (.str s)) {sa sb:Option SV} (nN:Ei cx σ T lo=some sa) (oQ:Ei cx σ T hi=some sb) {p q:ST} (hp:Hj (.l 0) sa=some p) (hq:Hj (.len s) sb=some q)
  (kL:Bh (Ac σ.gm T)->0<=p.den/\p.den<=q.den/\q.den<=s.length):Local P cx.gl σ T o ⟨.str ((s.drop p.den.toNat).take (q.den.toNat-p.den.toNat)),[],[],[]⟩:=by
 intro B N E a w ff cY hg st ag bK hT;have jx:=(Aa hv hg st (Ak ag (by simp[ho,Op.operands])) hT).cU;have h1:=Dq hg st hT nN (λy hy=>Ak ag (by subst hy;simp[ho,Op.operands])) hp;have h2:=Dq hg st hT oQ (λy hy=>Ak ag (by subst hy;simp[ho,Op.operands])) hq;obtain⟨o1,o2,o3⟩:=kL hT;have hu:=(hc.ti hl).string hk;have xI:(lo.map a.eval=none/\p.den=0)\/∃k,lo.map a.eval=some (.int k p.den):=by
  rcases h1 with⟨rfl,rfl⟩|⟨y,k,rfl,e⟩
  .exact .inl ⟨rfl,rfl⟩
  .exact .inr ⟨k,by simp[e]⟩
 have sH:(hi.map a.eval=none/\q.den=((s.length:Nat):Int))\/∃k,hi.map a.eval=some (.int k q.den):=by
  rcases h2 with⟨rfl,rfl⟩|⟨y,k,rfl,e⟩
  .exact .inl ⟨rfl,rfl⟩
  .exact .inr ⟨k,by simp[e]⟩
 have hb:=Gb (P:=P) (sl:=false) (len:=s.length) (cap:=s.length) (lo:=lo.map a.eval) (hi:=hi.map a.eval) (l:=p.den) (h:=q.den) (w:=w) xI sH o1 o2 o3 (QH _);have hs:(bytes s).size=s.length:=rfl;refine Ad st (v:=.string (bytes ((s.drop p.den.toNat).take (q.den.toNat-p.den.toNat)))) ?_ rfl (.ro (.str rfl));simp[execOp,ho,jx,Instr.sliceAt,Instr.slice,run_underlying hu,hs,hb,Wt]
theorem Si(hc:Az P cx){t n e sz q:Nat}{ti:TI}(hl:look t cx.tt=some ti)(hk:ti.k=.array n e){x y:Operand}(ho:o.op=.index t x y){cs:List SV}{k:IntKind}{s:SV}
  (hv:rd cx σ T x=some (.agg cs)) (hi:rd cx σ T y=some (.int k (.l (.ofNat q)))) (hn:size? cx e=some sz) (hq:q<n) (_hle:q * sz+sz<=cs.length) (hp:pack (cH cx e) ((cs.drop (q * sz)).take sz)=some s):Local P cx.gl σ T o ⟨s,[],[],[]⟩:=by
 intro B N E a w ff cY hg st ag bK hT;have hr:=Aa hv hg st (Ak ag (by simp[ho,Op.operands])) hT;obtain⟨vs,hx,mG⟩:=hr.iT;have hy:=(Aa hi hg st (Ak ag (by simp[ho,Op.operands])) hT).aQ;have hy:a.eval y=.int k (q:Int):=hy;have hu:=(hc.ti hl).array hk;obtain⟨fi,nO,bB⟩:=bH hn;have hS:=(hc.ti nO).sizeOf w;rw[bB]at hS;have cT:=(mG.drop (q * sz)).take sz;obtain⟨p1,p2⟩:=Gu hp cT;rw[dF nO]at p1 p2;refine Ad st ?_ rfl p2;have bf:=Oa (hc.ti nO) bB (w:=w) (vs:=vs) (fo:=q * sz) p1;simp[execOp,ho,hx,hy,Instr.index,asIntOf,run_underlying hu,hq,hS,bf]
theorem Se(hc:Az P cx){t:Nat}{ti:TI}(hl:look t cx.tt=some ti)(hk:ti.k=.string){x y:Operand}(ho:o.op=.index t x y){s:List UInt8}{k:IntKind}{i:ST}
  (hv:rd cx σ T x=some (.str s)) (hi:rd cx σ T y=some (.int k i)) (kL:Bh (Ac σ.gm T)->0<=i.den/\i.den<s.length):Local P cx.gl σ T o ⟨.int .u8 (.a ((s.getD i.den.toNat 0).toNat:Int)),[],[],[]⟩:=by
 intro B N E a w ff cY hg st ag bK hT;have jx:=(Aa hv hg st (Ak ag (by simp[ho,Op.operands])) hT).cU;have hy:=(Aa hi hg st (Ak ag (by simp[ho,Op.operands])) hT).aQ;obtain⟨o1,o2⟩:=kL hT;have hu:=(hc.ti hl).string hk;have aC:i.den.toNat<s.length:=by omega
 have bL:(bytes s)[i.den.toNat]?=some (s.getD i.den.toNat 0):=by
  have:i.den.toNat<(bytes s).size:=aC;rw[getElem?_pos (bytes s) i.den.toNat this,QD,QC aC];rfl
 refine Ad st (v:=.int .u8 ((s.getD i.den.toNat 0).toNat:Int)) ?_ rfl (.int rfl);simp[execOp,ho,jx,hy,Instr.index,asIntOf,run_underlying hu,o1,bL]
end
theorem Db{P:Program}(g o:Nat)(t:TypeId)(fr:Nat×Nat):∀(vs:List Value) (i:Nat) (cur:Array Value) (w:World),w.heap[g]?=some (.cells cur t fr)->(fr=(0,0)\/cur.size<=fr.1)->o+i+vs.length<=cur.size->(∀v∈vs,v.oneCell'=true)->
  (storeCells ⟨g,o,none⟩ vs i).run P w=.ok () (w.setRow g (cur.toList.take (o+i)++vs++cur.toList.drop (o+i+vs.length)).toArray)
 | [],i,cur,w,hg,_,_,_=>by
  simp only[storeCells,YT,QU,XY,YK,Array.toArray_toList];rw[setRow_self w g cur t fr hg];rfl
 |v :: rest,i,cur,w,hg,cE,hl,h1=>by
  have hi:o+i<cur.size:=by simp at hl;omega
  have uL:(⟨g,o,none⟩:Addr).add i=⟨g,o+i,none⟩:=by unfold Addr.add;split<;>simp_all
  have aN:w.cell? ⟨g,o+i,none⟩=some cur[o+i]:=by simp[World.cell?,hg,hi]
  have VM:w.frozen? ⟨g,o+i,none⟩=false:=by
   simp only[World.frozen?,hg];rcases cE with rfl|cE
   .simp
   .simp;omega
  have fE:(store ((⟨g,o,none⟩:Addr).add i) v).run P w=.ok () (w.setRow g (cur.setIfInBounds (o+i) v)):=by
   rw[uL,run_store P w _ v _ (h1 v (by simp)),aN];simp[VM,setCell_eq_setRow w g (o+i) cur t fr v hg]
  have ih:=Db (P:=P) g o t fr rest (i+1) (cur.setIfInBounds (o+i) v) (w.setRow g (cur.setIfInBounds (o+i) v)) (setRow_heap w g cur _ t _ hg) (by simpa using cE) (by simp at hl ⊢;omega) (λx hx=>h1 x (by simp[hx]));simp only[storeCells,Sem.run_bind,fE,Result.andThen_ok,ih,setRow_setRow];congr 3;have e:=list_seg_step cur.toList (o+i) v rest (by simp at hl ⊢;omega);simpa[Array.toList_setIfInBounds,UF] using e
theorem Co.lt{w:World}{gr:Bool}{e:TypeId}{sz m:Nat}{v:Value}{xs:List Value}(h:Co w gr e sz v m xs):∀b,v.ownBlock=some b->b<w.heap.size:=by
 intro b hb;rcases h.2 with⟨rfl,_⟩|⟨g,cap,cur,fr,rfl,hg,_⟩
 .simp[Value.ownBlock]at hb
 .simp[Value.ownBlock]at hb;subst hb
  exact (Array.getElem?_eq_some_iff.1 hg).1
theorem Ig{B:Bs}{N:Nat}{E:Env}{a:Act}{w:World}{ff:Nat->SG}{hf:Nat->Hl}(st:St B N E a w ff hf){h:Nat}{e:TypeId}{sz:Nat}{gr:Bool}{v v':Value}{n m:Nat}{ys:List Value}{w':World}
  (hold:(hf h=.fresh/\v=.slice none 0 0)\/((∃nt f gr0,hf h=.own e nt sz gr0 f)/\E.τ h=some v/\E.ζ h=some sz/\∀b,v.ownBlock=some b->E.O b=some h/\∀o,¬E.I b o))
  (aw:∃a c,v=.slice a n c) (cF:Co w' gr e sz v' (n+m) ys) (h1:∀u∈ys,u.oneCell'=true)
  (fW:(v'.ownBlock=v.ownBlock/\w.grownBy w' v.ownBlock)\/(v'.ownBlock=some w.heap.size/\w.grownBy w' none)) (sF:hf h≠.fresh->m=0->v'=v) {nt':ST} (mP:nt'.den=((n+m:Nat):Int))
  {f':Nat->List SV} (aI:Fx E w f' (n+m) sz ys):
  ∃E',Ext E w E' w'/\Cl B E' w'/\(∀k,bQ E' w' k (aR hf h (.own e nt' sz gr f') k))/\E'.τ h=some v'/\E'.ζ h=some sz:=by
 have hb:=st.base;have dY:∀b,v.ownBlock=some b->E.O b=some h/\(∀o,¬E.I b o)/\b<w.heap.size:=by
  intro b bU;rcases hold with⟨_,rfl⟩|⟨_,_,_,h3⟩
  .simp[Value.ownBlock]at bU
  .exact⟨(h3 b bU).1,(h3 b bU).2,A9 hb (h3 b bU).1⟩
 let E':Env:=⟨E.β,aR E.τ h (some v'),λb=>if v'.ownBlock=some b then some h else E.O b,E.κ,aR E.ζ h (some sz),E.I⟩
 have eW:w'.os=w.os/\w'.tape=w.tape/\w'.output=w.output/\w.heap.size<=w'.heap.size:=by
  rcases fW with⟨_,hg⟩|⟨_,hg⟩<;>exact⟨hg.os,hg.tape,hg.output,hg.size⟩
 have fF:∀b,b<w.heap.size->v.ownBlock≠some b->w'.heap[b]?=w.heap[b]?:=by
  intro b aC aY;rcases fW with⟨_,hg⟩|⟨_,hg⟩
  .exact hg.block b aC (λe=>aY e.symm)
  .exact hg.block b aC (by simp)
 have hI:∀b o,E.I b o->w'.cell? ⟨b,o,none⟩=w.cell? ⟨b,o,none⟩:=by
  intro b o hi;have aC:=hb.dR b o hi;have aY:v.ownBlock≠some b:=λtA=>(dY b tA).2.1 o hi;simp only[World.cell?];rw[fF b aC aY]
 have cE:hf h=.fresh->E.τ h=none/\E.ζ h=none:=by
  intro cE;have:=st.heap h;rw[cE]at this;exact⟨this.2.1,this.2.2.2⟩
 have hx:Ext E w E' w':=by
  refine⟨λ_ _ h=>h,λk u hk=>?_,λ_ _ h=>h,λk z hk=>?_,λb o h=>h,hI⟩
  .show aR E.τ h (some v') k=some u\/∃a m' c a' rT c',u=.slice a m' c/\aR E.τ h (some v') k=some (.slice a' rT c')/\m'<rT
   unfold aR
   by_cases e:k=h
   .subst e
    rw[QB rfl];rcases hold with⟨cg,_⟩|⟨⟨nt,f,gr0,aY⟩,h2,_⟩
    .rw[(cE cg).1]at hk;cases hk
    .rw[h2]at hk
     cases hk
     by_cases hm:m=0
     .left;rw[sF (by rw[aY];simp) hm]
     .right
      obtain⟨a',c',rfl⟩:=cF.shape;obtain⟨a,c,rfl⟩:=aw;exact⟨a,n,c,a',n+m,c',rfl,rfl,by omega⟩
   .rw[QA e];exact .inl hk
  .show aR E.ζ h (some sz) k=some z
   unfold aR
   by_cases e:k=h
   .subst e
    rw[QB rfl];rcases hold with⟨cg,_⟩|⟨_,_,h2,_⟩
    .rw[(cE cg).2]at hk;cases hk
    .rw[h2]at hk;exact hk
   .rw[QA e];exact hk
 have kV:∀b,v'.ownBlock=some b->b<w'.heap.size:=cF.lt;have mD:∀b,v'.ownBlock=some b->B.w0.heap.size<=b\/B.X b:=by
  intro b bU;rcases fW with⟨hs,_⟩|⟨hs,_⟩
  .exact (hb.cR b h (dY b (by rw[<-hs];exact bU)).1).2
  .rw[hs]at bU;cases bU;exact .inl hb.size
 refine⟨E',hx,⟨eW.1.trans hb.os,eW.2.1.trans hb.tape,eW.2.2.1.trans hb.output,XV hb.size eW.2.2.2,λb aC hX=>?_,λb o hi=>?_,λb o hi=>?_,hb.cC,λb k hO=>?_,hb.cL.ext hx⟩,λk=>?_,by simp[E',aR],by simp[E',aR]⟩
 .have bB:=hb.size
  rw[fF b (by omega) ?_]
  .exact hb.dZ b aC hX
  .intro tA
   rcases (hb.cR b h (dY b tA).1).2 with h|h
   .omega
   .exact hX h
 .obtain⟨i1,i2⟩:=hb.I0 b o hi
  exact⟨i1,by rw[hI b o i1];exact i2⟩
 .exact XP (hb.dR b o hi) eW.2.2.2
 .have hO:(if v'.ownBlock=some b then some h else E.O b)=some k:=hO
  split at hO
  .rename_i bU
   exact⟨kV b bU,mD b bU⟩
  .obtain⟨o1,o2⟩:=hb.cR b k hO
   exact⟨XP o1 eW.2.2.2,o2⟩
 .by_cases e:k=h
  .subst e
   simp only[aR,QB];refine⟨v',n+m,ys,by simp[E',aR],by simp[E',aR],cF,mP,h1,⟨aI.1,λi j s u a b c=>(aI.2 i j s u a b c).mono hx.I hx.cell⟩,λb bU=>⟨by show (if v'.ownBlock=some b then some k else E.O b)=some k;rw[QB bU],λo hi=>?_⟩⟩;rcases fW with⟨hs,_⟩|⟨hs,_⟩
   .exact (dY b (by rw[<-hs];exact bU)).2.1 o hi
   .rw[hs]at bU;cases bU
    have:=hb.dR _ _ hi;omega
  .simp only[aR,QA e]
   refine bQ.keep hx (st.heap k) rfl (by simp[E',aR,e]) rfl (by simp[E',aR,e]) λb hO=>?_;have aC:=A9 hb hO;have aY:v'.ownBlock≠some b:=by
    intro bU;rcases fW with⟨hs,_⟩|⟨hs,_⟩
    .have:=(dY b (by rw[<-hs];exact bU)).1
     rw[hO]at this;exact e (Option.some.inj this)
    .rw[hs]at bU;cases bU;omega
   have GU:v.ownBlock≠some b:=by
    intro bU;have:=(dY b bU).1;rw[hO]at this;exact e (Option.some.inj this)
   exact⟨by show (if v'.ownBlock=some b then some h else E.O b)=some k;rw[QA aY];exact hO,fF b aC GU,λo hi=>hi⟩
section
variable {P:Program} {cx:Cx} {σ:Sy} {T:List Nat} {o:Oper} {K:Out->Prop}
theorem Gl{E:Env}{w:World}{h:Nat}{n n0:ST}{nl:BT}{u v:Value}{gr:Bool}{e:TypeId}{sz m:Nat}{xs:List Value}(hr:Rel E w (.bV nl n h) u)(oA:E.τ h=some v)(bW:Co w gr e sz v m xs)(oB:n0.den=(m:Int))(he:n.den=n0.den):
  u=v/\(nl.den=true↔v=.slice none 0 0):=by
 obtain⟨⟨a,k,c,e1,e2,e3⟩,a0,m0,c0,t1,t2,t3⟩:=hr.iO;rw[oA]at t1;cases t1;obtain⟨a1,c1,e4⟩:=bW.shape;cases e4;have:u=.slice a0 _ c0:=t3 (by rw[he,oB]);refine⟨this,?_⟩;rw[this]at e1;simp only[Value.slice.injEq]at e1;obtain⟨rfl,_,_⟩:=e1;rw[e3];constructor
 .rintro rfl
  rcases bW.2 with⟨h1,_⟩|⟨g,cap,cur,fr,h1,_⟩
  .exact h1
  .simp at h1
 .intro h1
  simp only[Value.slice.injEq]at h1;exact h1.1
theorem Wk(hc:Az P cx){c:Call}(ho:o.op=.call c)(aP:c.callee=.builtin .len){x:Operand}{t:Nat}{ti:TI}(hx:c.args.toList=[x])(ht:c.argTypes.toList=[t])(hl:look t cx.tt=some ti){e:TypeId}(hk:ti.k=.slice e)
  {nl:BT} {n:ST} {h:Nat} (hv:rd cx σ T x=some (.bV nl n h)):Local P cx.gl σ T o ⟨.int .i64 n,[],[],[]⟩:=by
 intro B N E a w ff cY hg st ag bK hT;have dP:x∈o.op.operands.toList:=by simp[ho,Op.operands,Call.operands,aP,hx]
 obtain⟨⟨a0,m,c0,e3,e4,_⟩,_⟩:=(Aa hv hg st (Ak ag dP) hT).iO;have e1:c.args=#[x]:=XU (by simpa using hx);have e2:c.argTypes=#[t]:=XU (by simpa using ht);have aV:=Gs hc hl hk (w:=w) (a:=a0) (m:=m) (c:=c0) (ty:=o.type);refine Ad st (v:=.int .i64 m) ?_ rfl (.int e4);simp[execOp,ho,resolve,aP,e1,e2,invoke,builtin,e3,aV]
theorem Sg(hc:Az P cx){t e sz:Nat}{ti:TI}(hl:look t cx.tt=some ti)(hk:ti.k=.slice e)(hn:size? cx e=some sz){x y:Operand}(ho:o.op=.indexAddr t x y){h ty:Nat}{nl:BT}{n n0:ST}{gr:Bool}{f:Nat->List SV}{k:IntKind}{i:ST}
  (hv:rd cx σ T x=some (.bV nl n h)) (hh:nth σ.hp h=some (.own ty n0 sz gr f)) (hi:rd cx σ T y=some (.int k i)) (h0:Bh (Ac σ.gm T)->n.den=n0.den) (h1:Bh (Ac σ.gm T)->0<=i.den/\i.den<n0.den):Local P cx.gl σ T o ⟨.cK n h i.den.toNat 0,[],[h],[]⟩:=by
 intro B N E a w ff cY hg st ag bK hT;have iH:=Aa hv hg st (Ak ag (by simp[ho,Op.operands])) hT;have hy:=(Aa hi hg st (Ak ag (by simp[ho,Op.operands])) hT).aQ;obtain⟨b1,b2⟩:=h1 hT;have bC:=st.heap h;rw[Br bK (List.mem_singleton.2 rfl) hh]at bC;obtain⟨v,m,xs,k1,kz,k2,k3,k4,k5,k6⟩:=bC;obtain⟨xC,_⟩:=Gl iH k1 k2 k3 (h0 hT);rcases k2.2 with⟨_,e0⟩|⟨b,cap,cur,fr,rfl,fU,_⟩
 .omega
 have aV:=Fm hc hl hk hn (w:=w) (a:=⟨b,0,none⟩) (m:=m) (cap:=cap) (k:=k) b1 (show i.den<(m:Int) by omega);refine Ad st (v:=.pointer (some ⟨b,i.den.toNat * sz+0,none⟩)) ?_ rfl (.cK ⟨_,_,rfl⟩ ⟨_,m,cap,sz,k1,kz,by rw[h0 hT,k3];exact ZC _,λ_=>⟨b,rfl,rfl⟩⟩);simp[execOp,ho,xC,hy,aV,add_lit]
theorem Ln(hc:Az P cx){t i fo ft m h j off:Nat}{n:ST}{x:Operand}(ho:o.op=.fieldAddr t x i)(hv:rd cx σ T x=some (.cK n h j off))(hf:fZ cx t i=some (fo,ft))(hn:size? cx ft=some (m+1)):
  Local P cx.gl σ T o ⟨.cK n h j (off+fo),[],[],[]⟩:=by
 intro B N E a w ff cY hg st ag bK hT;have hr:=Aa hv hg st (Ak ag (by simp[ho,Op.operands])) hT;obtain⟨⟨b,o',hx⟩,a0,m0,c0,sz,t1,t2,t3,t4⟩:=hr.nF;refine Ad st (v:=.pointer (some ⟨b,o'+fo,none⟩)) ?_ rfl (.cK ⟨_,_,rfl⟩ ⟨a0,m0,c0,sz,t1,t2,t3,λe=>?_⟩)
 .simp[execOp,ho,hx,Id hc hf hn,add_lit]
 .obtain⟨b',e1,e2⟩:=t4 e
  rw[hx]at e2;simp only[Value.pointer.injEq,Option.some.injEq,Addr.mk.injEq,and_true]at e2;obtain⟨rfl,rfl⟩:=e2;exact⟨b,e1,by rw[UF]⟩
theorem Abf{E:Env}{w:World}{h j off:Nat}{n n0:ST}{u v:Value}{gr:Bool}{e:TypeId}{sz m:Nat}{xs:List Value}(hr:Rel E w (.cK n h j off) u)(oA:E.τ h=some v)(hz:E.ζ h=some sz)(bW:Co w gr e sz v m xs)(oB:n0.den=(m:Int))(he:n.den=n0.den):
  ∃b cap cur fr,v=.slice (some ⟨b,0,none⟩) m cap/\u=.pointer (some ⟨b,j * sz+off,none⟩)/\w.heap[b]?=some (.cells cur e fr)/\(fr=(0,0)\/gr=false/\fr=(cur.size,cur.size+1))/\m<=cap/\cap<=maxLen/\cur.size=cap * sz/\cur.toList.take (m * sz)=xs:=by
 obtain⟨_,a0,m0,c0,cD,t1,t2,t3,t4⟩:=hr.nF;rw[oA]at t1;cases t1;rw[hz]at t2;cases t2;obtain⟨a1,c1,e4⟩:=bW.shape;cases e4;obtain⟨b,rfl,e5⟩:=t4 (by rw[he,oB]);rcases bW.2 with⟨h1,_⟩|⟨g,cap,cur,fr,h1,h2⟩
 .simp at h1
 .cases h1
  exact⟨b,_,cur,fr,rfl,e5,h2⟩
theorem Sc(hc:Az P cx){t:Nat}{x:Operand}(ho:o.op=.load t x){h j off n ty sz:Nat}{m m0:ST}{gr:Bool}{f:Nat->List SV}{s:SV}(hv:rd cx σ T x=some (.cK m0 h j off))(hn:size? cx t=some n)
  (hh:nth σ.hp h=some (.own ty m sz gr f)) (h0:Bh (Ac σ.gm T)->m0.den=m.den) (kL:Bh (Ac σ.gm T)->(j:Int)<m.den) (hle:off+n<=(f j).length) (hp:pack (cH cx t) (((f j).drop off).take n)=some s):Local P cx.gl σ T o ⟨s,[],[h],[]⟩:=by
 intro B N E a w ff hf hg st ag bK hT;have hr:=Aa hv hg st (Ak ag (by simp[ho,Op.operands])) hT;have bC:=st.heap h;rw[Br bK (List.mem_singleton.2 rfl) hh]at bC;obtain⟨v,m',xs,k1,kz,k2,k3,k4,k5,k6⟩:=bC;obtain⟨b,cap,cur,fr,e1,hx,fU,cE,sU,eY,cX,bT⟩:=Abf hr k1 kz k2 k3 (h0 hT);obtain⟨ti,kH,bB⟩:=bH hn;have hj:j<m':=by have:=kL hT;omega
 have lE:=k5.1 j hj;have hbound:(j+1) * sz<=m' * sz:=QQ _ hj;have ll:m' * sz<=cap * sz:=QQ _ sU;rw[XK]at hbound;have mB:=k2.1;have cT:A6 E w (((f j).drop off).take n) ((xs.drop (j * sz+off)).take n):=by
  refine⟨by simp;omega,λi s v p q=>?_⟩;rw[QN]at p q
  split at p
  .rename_i e
   rw[QB e]at q;rw[XF]at p q;refine .ro (k5.2 j (off+i) s v hj p ?_);rw[<-UF];exact q
  .cases p
 obtain⟨p1,p2⟩:=Gu hp cT;have hlen:((xs.drop (j * sz+off)).take n).length=n:=by simp;omega
 have aV:=Ga (hc.ti kH) (w:=w) (b:=b) (off:=j * sz+off) (vs:=(xs.drop (j * sz+off)).take n) (λq v hq=>by
  rw[QN]at hq
  split at hq
  .rw[XF]at hq
   rw[cell_of_row w b (j * sz+off+q) cur ty fr fU];rw[<-bT,QN,QB (by omega)]at hq;simpa using hq
  .cases hq) (by rw[hlen,bB]) (dF kH) p1
 exact Ad st (by simp[execOp,ho,hx,aV]) rfl p2
theorem P3(hc:Az P cx){t:Nat}{x y:Operand}(ho:o.op=.store t x y){h j off n ty sz:Nat}{m m0:ST}{gr:Bool}{f f':Nat->List SV}{s:SV}(hv:rd cx σ T x=some (.cK m0 h j off))(hs:dx cx σ T t y=some s)(hn:size? cx t=some n)
  (hh:nth σ.hp h=some (.own ty m sz gr f)) (h0:m0.den=m.den) (hj:(j:Int)<m.den) (hl:s.cells.length=n) (hle:off+n<=(f j).length) (h1:Ej s.cells=true) (gJ:An (.agg (loose.aH (norm.aM dn s.cells)))=true) (_hT0:Bh (Ac σ.gm T))
  (xX:f' j=C9 (f j) off (loose.aH (norm.aM dn s.cells))) (mI:∀i,i≠j->f' i=f i):Local P cx.gl σ T o ⟨.aJ [],[.put h (.own ty m sz gr f')],[h],[]⟩:=by
 intro B N E a w ff hf hg st ag bK hT K' Q hK;have hr:=Aa hv hg st (Ak ag (by simp[ho,Op.operands])) hT;have cO:=Jf hs hg st (Ak ag (by simp[ho,Op.operands])) hT;have bZ:=Br bK (List.mem_singleton.2 rfl) hh;have bC:=st.heap h;rw[bZ]at bC;obtain⟨v,m',xs,k1,kz,k2,k3,k4,k5,k6⟩:=bC;obtain⟨b,cap,cur,fr,e1,hx,fU,cE,sU,eY,cX,bT⟩:=Abf hr k1 kz k2 k3 h0;obtain⟨ti,kH,bB⟩:=bH hn;have uC:j<m':=by omega
 have lE:=k5.1 j uC;have hbound:(j+1) * sz<=m' * sz:=QQ _ uC;have ll:m' * sz<=cap * sz:=QQ _ sU;rw[XK]at hbound;have lk:=H4 h1 cO;have fN:=Mf h1 lk;have kG:(a.eval y).cells.toList.length=n:=by rw[<-lk.1];exact hl
 have nK:A6 E w (loose.aH (norm.aM dn s.cells)) (a.eval y).cells.toList:=by
  rw[Ce,Ci];exact (lk.map _ λs v _ h=>h.norm).map _ λs v _ h=>h.loose
 have j9:∀c∈loose.aH (norm.aM dn s.cells),An c=true:=by
  simp only[An]at gJ;exact (Cv _).1 gJ
 have tX:(loose.aH (norm.aM dn s.cells)).length=n:=by rw[nK.1];exact kG
 generalize hU:(a.eval y).cells.toList=us at *
 generalize hP:loose.aH (norm.aM dn s.cells)=ps at *
 let C':Array Value:=(cur.toList.take (j * sz+off)++us++cur.toList.drop (j * sz+off+us.length)).toArray
 have mF:j * sz+off+us.length<=cur.size:=by rw[kG];omega
 have nT:C'.size=cur.size:=by simp[C'];omega
 have kE:∀q:Nat,C'[q]?=if j * sz+off<=q/\q<j * sz+off+us.length then us[q-(j * sz+off)]? else cur[q]?:=by
  intro q;have:C'[q]?=(cur.toList.take (j * sz+off)++us++cur.toList.drop (j * sz+off+us.length))[q]?:=by simp[C']
  rw[this]
  split
  .rename_i e
   rw[ZH,QO (by simp;omega),QM (by simp;omega)];congr 1;simp;omega
  .rename_i e
   by_cases hi:q<j * sz+off
   .rw[ZH,QM (by simp;omega),QN,QB hi];simp
   .rw[QO (by simp;omega),XF,<-QX]
    congr 1;simp;omega
 let ys:List Value:=C'.toList.take (m' * sz)
 have zX:ys.length=m' * sz:=by simp[ys,nT];omega
 have rV:∀q,q<m' * sz->ys[q]?=if j * sz+off<=q/\q<j * sz+off+us.length then us[q-(j * sz+off)]? else xs[q]?:=by
  intro q hq;simp only[ys];rw[QN,QB hq,QX,kE]
  split
  .rfl
  .rw[<-bT,QN,QB hq];simp
 have aI:Fx E w f' m' sz ys:=by
  refine⟨λi hi=>?_,λi q s2 v hi eH iQ=>?_⟩
  .by_cases e:i=j
   .subst e;rw[xX,Dd];exact lE
   .rw[mI i e];exact k5.1 i hi
  .have xb:q<sz:=by
    have hlen:(f' i).length=sz:=by
     by_cases e:i=j
     .subst e;rw[xX,Dd];exact lE
     .rw[mI i e];exact k5.1 i hi
    rw[<-hlen];exact (List.getElem?_eq_some_iff.1 eH).1
   have oD:i * sz+q<m' * sz:=by
    have:(i+1) * sz<=m' * sz:=QQ _ hi;rw[XK]at this;omega
   rw[rV _ oD]at iQ
   by_cases e:i=j
   .subst e
    rw[xX,Hv _ _ _ _ (by rw[tX];exact hle)]at eH
    by_cases eR:off<=q/\q<off+n
    .rw[QB (by rw[tX];exact eR)]at eH
     rw[QB (by rw[kG];omega)]at iQ;have e2:i * sz+q-(i * sz+off)=q-off:=by omega
     rw[e2]at iQ;exact (nK.2 _ s2 v eH iQ).fB (j9 s2 (QK eH)) (fN v (QK iQ))
    .rw[QA (by rw[tX];exact eR)]at eH
     rw[QA (by rw[kG];omega)]at iQ;exact k5.2 i q s2 v hi eH iQ
   .rw[mI i e]at eH
    have aY:¬(j * sz+off<=i * sz+q/\i * sz+q<j * sz+off+us.length):=by
     rw[kG];rcases ZJ i j with aC|kZ
     .have:(i+1) * sz<=j * sz:=QQ _ aC
      rw[XK]at this;omega
     .have:(j+1) * sz<=i * sz:=QQ _ (by omega)
      rw[XK]at this;omega
    rw[QA aY]at iQ;exact k5.2 i q s2 v hi eH iQ
 have zY:∀u∈ys,u.oneCell'=true:=by
  intro u hu;obtain⟨q,hq⟩:=List.mem_iff_getElem?.1 hu;have bc:q<m' * sz:=by rw[<-zX];exact (List.getElem?_eq_some_iff.1 hq).1
  rw[rV q bc]at hq
  split at hq
  .exact fN u (QK hq)
  .exact k4 u (QK hq)
 have x7:fr=(0,0)\/cur.size<=fr.1:=by
  rcases cE with h|⟨_,h⟩
  .exact .inl h
  .rw[h];exact .inr (QH _)
 have aV:(Instr.storeAt t (.pointer (some ⟨b,j * sz+off,none⟩)) (a.eval y)).run P w=.ok () (w.setRow b C'):=by
  have hS:=(hc.ti kH).sizeOf w;have qN:=Db (P:=P) b (j * sz+off) ty fr us 0 cur w fU x7 (by simpa using mF) fN;have aY:((a.eval y).cells.size≠ti.size)=False:=by
   have:(a.eval y).cells.size=ti.size:=by rw[bB];rw[<-hU]at kG;simpa using kG
   simp[this]
  simp only[XY]at qN;simp only[Instr.storeAt,Instr.sureAddr,storeVar,Sem.run_bind,Sem.run_pure,Result.andThen_ok,hS,aY,if_false,hU,qN];rfl
 have cF:Co (w.setRow b C') gr ty sz v (m'+0) ys:=by
  refine⟨zX,.inr ⟨b,cap,C',fr,e1,setRow_heap w b cur C' ty fr fU,?_,sU,eY,by rw[nT];exact cX,rfl⟩⟩;rw[nT];exact cE
 obtain⟨E',x1,x2,x3,x4,x5⟩:=Ig (h:=h) (e:=ty) (sz:=sz) (n:=m') (m:=0) st (.inr ⟨⟨_,_,_,bZ⟩,k1,kz,k6⟩) k2.shape cF zY
  (.inl ⟨rfl,⟨rfl,rfl,rfl,by simp,λk _ hk=>setRow_other w b k C' (λe=>hk (by rw[e,e1];rfl))⟩⟩) (λ_ _=>rfl) (nt':=m) (by simpa using k3) (by simpa using aI)
 unfold Oper.wp;have:(execOp a.eval o).run P w=.ok .skip (w.setRow b C'):=by
  simp only[execOp,ho,hx,Sem.run_bind,aV,Result.andThen_ok,Sem.run_pure]
 rw[this];exact hK undef _ E' x1 x2 x3 (.aJ rfl (by simp))
theorem Y2(hc:Az P cx){src dst e:TypeId}{x:Operand}(ho:o.op=.convert src dst x){ts td te:TI}(kA:look src cx.tt=some ts)(qQ:ts.k=.string)(pI:look dst cx.tt=some td)(kC:td.k=.slice e)(hle:look e cx.tt=some te)(fI:te.k=.int .u8)
  {s:List UInt8} (hv:rd cx σ T x=some (.str s)) (hlen:s.length<=maxLen):Local P cx.gl σ T o ⟨.bV (.l false) (.len s) (Ah σ.hp),[.put (Ah σ.hp) (.own e (.len s) 1 false (aU s))],[],[]⟩:=by
 intro B N E a w ff hf hg st ag bK hT K' Q hK;have hx:=(Aa hv hg st (Ak ag (by simp[ho,Op.operands])) hT).cU;have hb:=st.base;have aV:=run_bytes_of_string (P:=P) w src dst e (bytes s) ((hc.ti kA).string qQ) ((hc.ti pI).slice kC) ((hc.ti hle).int fI);obtain⟨C,hC⟩:∃C,C=bytesRow (bytes s) (grownCap w (bytes s).size 0 e):=⟨_,rfl⟩;rw[<-hC]at aV;obtain⟨w',tQ⟩:∃w',w'=w.drew.alloc (.cells C e (C.size,C.size+1)):=⟨_,rfl⟩;rw[<-tQ]at aV;have hold:∀b,b<w.heap.size->w'.heap[b]?=w.heap[b]?:=λb aC=>by rw[tQ];exact RowKit.Below.heap_alloc w.drew _ b aC
 have mD:w'.heap[w.heap.size]?=some (.cells C e (C.size,C.size+1)):=by rw[tQ];show (w.heap.push _)[w.heap.size]?=_;simp
 have bB:w'.heap.size=w.heap.size+1:=by rw[tQ];show (w.heap.push _).size=_;simp
 have xZ:(bytes s).size=s.length:=by simp[bytes,ByteArray.size]
 have kZ:=grownCap_ge w (bytes s).size 0 e;have CG:C.size=grownCap w (bytes s).size 0 e:=by
  have key:∀(b:ByteArray) (c:Nat),b.size<=c->(bytesRow b c).size=c:=by
   intro b c NM;have:b.data.size=b.size:=rfl;simp only[bytesRow,Array.size_append,Array.size_map,Array.size_replicate];omega
  rw[hC];exact key _ _ kZ
 have WS:∀i,i<s.length->C[i]?=some (.int .u8 ((s.getD i 0).toNat:Int)):=by
  intro i hi;rw[hC];simp[bytesRow,bytes,Array.getElem?_append,hi]
 have bM:=O7 bK (List.mem_singleton.2 rfl);have RU:(C.toList.take s.length).length=s.length:=by simp;omega
 have cF:Co w' false e 1 (.slice (some ⟨w.heap.size,0,none⟩) s.length C.size) (0+s.length) (C.toList.take s.length):=by
  refine⟨by rw[RU];omega,.inr ⟨w.heap.size,C.size,C,_,by rw[XE],mD,.inr ⟨rfl,rfl⟩,by omega,?_,by omega,by rw[XE,Nat.mul_one]⟩⟩;rw[CG];exact grownCap_le_maxLen _ _ _ _ (by rw[xZ];exact hlen)
 have bL:∀(i:Nat) (u:Value),(C.toList.take s.length)[i]?=some u->u=.int .u8 ((s.getD i 0).toNat:Int):=by
  intro i u hu;rw[QN]at hu
  split at hu
  .rename_i hi
   rw[QX,WS i hi]at hu;exact (Option.some.inj hu).symm
  .cases hu
 have eR:Fx E w (aU s) (0+s.length) 1 (C.toList.take s.length):=by
  refine⟨λi _=>rfl,λi j s' u hi hs hu=>?_⟩;cases j with
  |zero =>
   simp[aU]at hs;subst hs;rw[bL _ u (by simpa using hu)];refine .int ?_;simp[ST.den]
  |succ j=>simp[aU]at hs
 obtain⟨E',x1,x2,x3,x4,x5⟩:=Ig (h:=Ah σ.hp) (e:=e) (sz:=1) (n:=0) (m:=s.length) st (.inl ⟨bM,rfl⟩) ⟨_,_,rfl⟩ cF (λu hu=>by
  obtain⟨i,hi⟩:=List.mem_iff_getElem?.1 hu;rw[bL i u hi];rfl) (.inr ⟨rfl,⟨by rw[tQ];rfl,by rw[tQ];rfl,by rw[tQ];rfl,by omega,λk hk _=>hold k hk⟩⟩) (λh=>absurd bM h) (nt':=.len s) (by simp[ST.den]) eR
 unfold Oper.wp;have hex:(execOp a.eval o).run P w=.ok (.value (.slice (some ⟨w.heap.size,0,none⟩) s.length C.size)) w':=by
  simp only[execOp,ho,hx,Sem.run_bind];rw[aV,xZ,CG,xZ];rfl
 rw[hex];exact hK _ w' E' x1 x2 x3 (.bV ⟨_,s.length,_,rfl,rfl,by simp[BT.den]⟩ ⟨_,s.length,_,x4,ZC _,λ_=>rfl⟩)
theorem Wn(hc:Az P cx){src e:TypeId}{x:Operand}(ho:o.op=.convert src src x){td te:TI}(pI:look src cx.tt=some td)(kC:td.k=.slice e)(hle:look e cx.tt=some te)(fI:te.k=.int .u8)
  {n n0:ST} {h:Nat} {f:Nat->List SV} (hv:rd cx σ T x=some (.bV (.l false) n h)) (hh:nth σ.hp h=some (.own e n0 1 true f)) (h0:n.den=n0.den):Local P cx.gl σ T o ⟨.bV (.l false) n h,[.put h (.own e n0 1 false f)],[h],[]⟩:=by
 intro B N E a w ff hf hg st ag bK hT K' Q hK;have iH:=Aa hv hg st (Ak ag (by simp[ho,Op.operands])) hT;have bC:=st.heap h;have bZ:=Br bK (List.mem_singleton.2 rfl) hh;rw[bZ]at bC;obtain⟨v,m,xs,k1,kz,k2,k3,k4,k5,k6⟩:=bC;obtain⟨pK,eK⟩:=Gl iH k1 k2 k3 h0;have ei:=(hc.ti pI).slice kC;have eh:=(hc.ti hle).int fI;rcases k2.2 with⟨e0,e1⟩|⟨b,cap,cur,fr,e0,fU,cE,sU,eY,cX,bT⟩
 .exact absurd (eK.2 e0) (by simp[BT.den])
 have VT:fr=(0,0):=by
  rcases cE with cE|⟨cE,_⟩
  .exact cE
  .cases cE
 subst VT;have hb:=st.base;have aC:b<w.heap.size:=(Array.getElem?_eq_some_iff.1 fU).1;have hwb:(w.freeze ⟨b,cur.size,none⟩ 1).heap[b]?=some (.cells cur e (cur.size,cur.size+1)):=by
  unfold World.freeze;rw[QA (by decide)];show (w.heap.modify b _)[b]?=_;rw[YL,QB rfl,fU];rfl
 have hwo:∀k,k≠b->(w.freeze ⟨b,cur.size,none⟩ 1).heap[k]?=w.heap[k]?:=λk hk=>by
  unfold World.freeze;rw[QA (by decide)];show (w.heap.modify b _)[k]?=_;rw[YL,QA (λe=>hk e.symm)]
 have cF:Co (w.freeze ⟨b,cur.size,none⟩ 1) false e 1 v (m+0) xs:=by
  refine⟨k2.1,.inr ⟨b,cap,cur,(cur.size,cur.size+1),e0,hwb,.inr ⟨rfl,rfl⟩,sU,eY,cX,bT⟩⟩
 obtain⟨E',x1,x2,x3,x4,x5⟩:=Ig (h:=h) (e:=e) (sz:=1) (n:=m) (m:=0) st (.inr ⟨⟨_,_,_,bZ⟩,k1,kz,k6⟩) k2.shape cF k4
  (.inl ⟨rfl,⟨rfl,rfl,rfl,by unfold World.freeze;rw[QA (by decide)];simp,λk _ hk=>hwo k (λe=>hk (by rw[e,e0];rfl))⟩⟩) (λ_ _=>rfl) (nt':=n0) (by simpa using k3) (by simpa using k5)
 unfold Oper.wp;have aw:w.shape? b=some (e,cur.size):=by
  unfold World.shape?;rw[fU]
 have aV:(execOp a.eval o).run P w=.ok (.value v) (w.freeze ⟨b,cur.size,none⟩ 1):=by
  simp only[execOp,ho,Sem.run_bind];rw[pK,e0];simp[convert,run_underlying ei,run_underlying eh,markStringish,aw]
 rw[aV];obtain⟨a1,c1,e4⟩:=k2.shape;refine hK _ _ E' x1 x2 x3 (.bV ⟨a1,m,c1,e4,by rw[h0,k3],?_⟩ ⟨a1,m,c1,by rw[x4,e4],by rw[h0,k3];exact ZC _,λ_=>e4⟩);rw[e0]at e4;cases e4;simp[BT.den]
theorem Y3(hc:Az P cx){src dst e:TypeId}{x:Operand}(ho:o.op=.convert src dst x){ts td te:TI}(kA:look src cx.tt=some ts)(qQ:ts.k=.slice e)(pI:look dst cx.tt=some td)(kC:td.k=.string)(hle:look e cx.tt=some te)(fI:te.k=.int .u8)
  {nl:BT} {n n0:ST} {h:Nat} {ty:TypeId} {gr:Bool} {f:Nat->List SV} (hv:rd cx σ T x=some (.bV nl n h)) (hh:nth σ.hp h=some (.own ty n0 1 gr f)) (h0:n.den=n0.den) {r:List UInt8} (hr:Fv n0.den f/\Kr r n0.den f):Local P cx.gl σ T o ⟨.str r,[],[h],[]⟩:=by
 intro B N E a w ff hf hg st ag bK hT;obtain⟨hb,hr⟩:=hr;have iH:=Aa hv hg st (Ak ag (by simp[ho,Op.operands])) hT;have bC:=st.heap h;rw[Br bK (List.mem_singleton.2 rfl) hh]at bC;obtain⟨v,m,xs,k1,kz,k2,k3,k4,k5,k6⟩:=bC;obtain⟨pK,_⟩:=Gl iH k1 k2 k3 h0;refine Ad st (v:=.string (bytes r)) ?_ rfl (.ro (.str rfl));simp only[execOp,ho,Sem.run_bind];have jB:=(hc.ti kA).slice qQ;have ei:=(hc.ti pI).string kC;have eh:=(hc.ti hle).int fI;rw[pK];have tU:r.length=m:=by have:=hr.len;omega
 rcases k2.2 with⟨e0,e1⟩|⟨b,cap,cur,fr,e0,fU,cE,sU,eY,cX,bT⟩
 .have:r=[]:=XN (by omega)
  subst this;rw[e0];simp[convert,run_underlying jB,run_underlying ei,run_underlying eh,Conv.bytesToString,bytes];rfl
 .have:=run_convert_bytes_back (P:=P) w src dst e ⟨b,0,none⟩ cap r jB eh ei (λj hj=>by
   have uC:j<m:=by omega
   obtain⟨t,ht,_⟩:=hb.h j (by omega);have e1:=hr.row j t (by omega) ht;have wb:j<xs.length:=by rw[k2.1];omega
   obtain⟨xj,wc⟩:∃xj,xs[j]?=some xj:=⟨_,QC wb⟩;have dB:=k5.2 j 0 (.int .u8 t) xj uC (by rw[ht];rfl) (by simpa using wc);have xW:xj=.int .u8 t.den:=(Rel.ro (E:=E) dB).aQ;rw[QD,QC hj]at e1;simp only[XG]at e1;rw[add_lit,XE,cell_of_row w b j cur ty fr fU];rw[<-bT,QN,QB (by omega),QX]at wc;rw[e1,wc,xW])
  rw[tU]at this;rw[e0,this];rfl
end
section
variable {P:Program} {cx:Cx} {σ:Sy} {T:List Nat} {o:Oper} {K:Out->Prop}
theorem Rw{t e ty:TypeId}{ti:TI}(hu:P.underlying t=some (.slice e))(he:Em P e ti){sz:Nat}(bB:ti.size=sz)(qo:0<sz){w:World}{gr:Bool}{v:Value}{n:Nat}{xs:List Value}(bW:Co w gr e sz v n xs){src:Value}{m:Nat}{news:List Value}(hs:OX w src m sz news)
  (qE:n+m<=maxLen) (hb:(n+m) * ti.bytes<=140737488355328):
  ∃v' w',(Builtin.append_ #[t,t] ty #[v,src]).run P w=.ok v' w'/\Co w' gr e sz v' (n+m) (xs++news)/\(v'=.slice none 0 0↔v=.slice none 0 0/\m=0)/\
   ((v'.ownBlock=v.ownBlock/\w.grownBy w' v.ownBlock)\/(v'.ownBlock=some w.heap.size/\w.grownBy w' none))/\(∃a c,v'=.slice a (n+m) c)/\(m=0->v'=v):=by
 by_cases aI:w.ownsRow 0 e sz v n xs
 .obtain⟨v',w',r1,r2,r3⟩:=Nz (P:=P) (ty:=ty) hu he bB qo aI hs qE hb
  exact⟨v',w',r1,Xe gr r2,r3⟩
 have lL:=bW;obtain⟨mB,hh⟩:=bW;rcases hh with hh|⟨g,cap,cur,fr,rfl,hg,cE,qO,eY,cX,bT⟩
 .exact absurd ⟨mB,.inl hh⟩ aI
 rcases cE with rfl|⟨hgr,cE⟩
 .exact absurd ⟨mB,.inr ⟨g,cap,cur,rfl,ZB _,hg,qO,eY,cX,bT⟩⟩ aI
 obtain⟨i,z,hi,eJ,xY,hz,sQ,_⟩:=he.info;obtain⟨hl,h1,wu⟩:=hs;have hlen:(xs++news).length=(n+m) * sz:=by rw[QF,mB,hl,XK]
 rcases wu with⟨rfl,rfl⟩|⟨a,c,rfl,jC⟩
 .have hn:news=[]:=XN (by simpa using hl)
  subst hn;refine⟨_,w,?_,by simpa using lL,by simp,.inl ⟨rfl,⟨rfl,rfl,rfl,QH _,λ_ _ _=>rfl⟩⟩,⟨_,_,rfl⟩,λ_=>rfl⟩;simp[Builtin.append_,run_underlying hu,sizeOf,typeInfo,hi,Builtin.lenOf,Builtin.firstCells,qO,storeCells]
 .have eA:z.cells.size=sz:=by
   have:=(Jz (I:=λ_ _=>False) (w:=w) sQ).1;have h2:ti.zero.length=sz:=by
    rw[he.pP,bB]
   simpa[h2] using this.symm
  have qB:i.size=sz:=by rw[eJ,bB]
  by_cases iI:n+m<=cap
  .have x8:n * i.size+news.length<=cur.size:=by rw[hl,cX,qB,<-XK];exact QQ _ iI
   have hf:=run_firstCells_some (P:=P) w i.size m a m c news (by rw[qB];exact hl) jC;have fE:=Db (P:=P) g (n * i.size) e fr news 0 cur w hg (.inr (by rw[cE];exact QH _)) (by simpa using x8) h1;simp only[XY]at fE;have hr:(Builtin.append_ #[t,t] ty #[.slice (some ⟨g,0,none⟩) n cap,.slice (some a) m c]).run P w =
     .ok (.slice (some ⟨g,0,none⟩) (n+m) cap) (w.setRow g (cur.toList.take (n * i.size)++news++cur.toList.drop (n * i.size+news.length)).toArray):=by
    simp[Builtin.append_,run_underlying hu,sizeOf,typeInfo,hi,Builtin.lenOf,iI,hf,Addr.add_lit,fE]
   have hC:(cur.toList.take (n * i.size)++news++cur.toList.drop (n * i.size+news.length)).toArray.size=cur.size:=by
    simp only[UI,QF,QZ,QY,Array.length_toList];omega
   refine⟨_,_,hr,⟨hlen,.inr ⟨g,cap,_,fr,rfl,setRow_heap w g cur _ e fr hg,.inr ⟨hgr,by rw[hC];exact cE⟩,iI,eY,by rw[hC];exact cX,?_⟩⟩,by simp,.inl ⟨rfl,⟨rfl,rfl,rfl,by simp,λk _ hk=>setRow_other w g k _ (λe=>hk (by simp[Value.ownBlock,e]))⟩⟩,⟨_,_,rfl⟩,λe=>by rw[e];rfl⟩;rw[qB,bT,<-hlen];exact US
  .have holds:∀j u,xs[j]?=some u->w.cell? ((⟨g,0,none⟩:Addr).add j)=some u:=λj u hj=>by
    have uL:(⟨g,0,none⟩:Addr).add j=⟨g,j,none⟩:=by rw[Addr.add_lit,XE]
    rw[<-bT,QN]at hj
    split at hj
    .rw[uL];simp only[World.cell?,hg];rw[QX]at hj;simpa using hj
    .cases hj
   have hr:=run_append_grow (P:=P) w t ty e i z hu hi hz ⟨g,0,none⟩ n cap xs (by rw[qB];exact mB) holds a m c news (by rw[qB];exact hl) jC (by omega) (by simp only[maxLen]at qE;omega) (by rw[xY];exact growslice_fits (by omega) hb);have kZ:=grownCap_ge w (n+m) cap e;have cr:grownCap w (n+m) cap e<=maxLen:=grownCap_le_maxLen w (n+m) cap e qE;refine⟨_,_,hr,⟨hlen,.inr ⟨w.heap.size,_,_,(0,0),rfl,heap_alloc_new w.drew _,.inl rfl,kZ,cr,?_,?_⟩⟩,by simp,.inr ⟨rfl,⟨rfl,rfl,rfl,by simp,λk hk _=>heap_alloc_old w.drew _ hk⟩⟩,⟨_,_,rfl⟩,λe=>by omega⟩
   .simp only[Array.size_append,UI,size_zeroCells,eA,mB,hl,<-XK]
    congr 1;omega
   .simp only[Array.toList_append,ZH]
    rw[<-ZH,<-hlen];exact US
theorem Ow(hc:Az P cx){c:Call}(ho:o.op=.call c)(aP:c.callee=.builtin .append){x y:Operand}{t e sz:Nat}{te ti:TI}(hx:c.args.toList=[x,y])(ht:c.argTypes.toList=[t,t])(aC:look t cx.tt=some ti)(hk:ti.k=.slice e)(hle:look e cx.tt=some te)(bB:te.size=sz)(hz:0<sz)
  {gr:Bool} {nl:BT} {n n0:ST} {f:Nat->List SV} {h:Nat} (j0:rd cx σ T x=some (.bV nl n h)) (hh:nth σ.hp h=some (.own e n0 sz gr f)) {s:SV} (jz:rd cx σ T y=some s) {m:ST} {g:Nat->List SV} (aI:rowOf sz s=some (m,g))
  (hb:n.den=n0.den/\(n.den+m.den) * te.bytes<=140737488355328/\n.den+m.den<=9223372036854775807)
  {f':Nat->List SV} {n':Int} (xV:n'=n.den+m.den) (fO:∀i:Nat,(i:Int)<n.den->f' i=f i) (cY:∀i j:Nat,(i:Int)=n.den+j->(j:Int)<m.den->f' i=g j):
  Local P cx.gl σ T o ⟨.bV (Vs nl (Pg .eql m (.l 0))) (.a n') h,[.put h (.own e (.a n') sz gr f')],[h],[]⟩:=by
 intro B N E a w ff hf hg st ag bK hT K' Q hK;have mx:x∈o.op.operands.toList:=by simp[ho,Op.operands,Call.operands,aP,hx]
 have my:y∈o.op.operands.toList:=by simp[ho,Op.operands,Call.operands,aP,hx]
 have iH:=Aa j0 hg st (Ak ag mx) hT;have tT:=Aa jz hg st (Ak ag my) hT;obtain⟨k,news,r1,r2,r3,r4,r5⟩:=Jd aI tT;have bC:=st.heap h;have bZ:=Br bK (List.mem_singleton.2 rfl) hh;rw[bZ]at bC;obtain⟨v,nn,xs,k1,kz,k2,k3,k4,k5,k6⟩:=bC;obtain⟨hv,eK⟩:=Gl iH k1 k2 k3 hb.1;have gC:n.den=(nn:Int):=by rw[hb.1,k3]
 have iR:(nn+k) * te.bytes<=140737488355328:=by
  have:=hb.2.1;rw[gC,r1]at this;have h:(((nn+k) * te.bytes:Nat):Int)<=140737488355328:=by rw[YZ,UP];exact this
  omega
 obtain⟨v',w',l1,l2,l3,l4,l5,l6⟩:=Rw (P:=P) (ty:=o.type) ((hc.ti aC).slice hk) (hc.ti hle) bB hz k2 r3 (by have:=hb.2.2;rw[gC,r1]at this;simp only[maxLen];omega) iR;have lR:∀u∈xs++news,u.oneCell'=true:=λu hu=>by
  rcases List.mem_append.1 hu with hu|hu
  .exact k4 u hu
  .exact r3.2.1 u hu
 have mP:(ST.a n').den=((nn+k:Nat):Int):=by simp only[ST.den,xV,gC,r1];omega
 have eR:Fx E w f' (nn+k) sz (xs++news):=by
  refine⟨λi hi=>?_,λi j s u hi hs hu=>?_⟩
  .by_cases eR:i<nn
   .rw[fO i (by omega)];exact k5.1 i eR
   .rw[cY i (i-nn) (by omega) (by omega)];exact r4 (i-nn) (by omega)
  .by_cases eR:i<nn
   .rw[fO i (by omega)]at hs
    have hj:j<sz:=by rw[<-k5.1 i eR];exact (List.getElem?_eq_some_iff.1 hs).1
    have:(i+1) * sz<=nn * sz:=QQ _ eR;rw[XK]at this;rw[QM (by rw[k2.1];omega)]at hu;exact k5.2 i j s u eR hs hu
   .rw[cY i (i-nn) (by omega) (by omega)]at hs
    have e1:i * sz+j=nn * sz+((i-nn) * sz+j):=by
     have:i * sz=nn * sz+(i-nn) * sz:=by rw[<-XK];congr 1;omega
     omega
    rw[QO (by rw[k2.1];omega),k2.1,e1,ZK]at hu;exact r5 (i-nn) j s u (by omega) hs hu
 obtain⟨E',x1,x2,x3,x4,x5⟩:=Ig (h:=h) (e:=e) (sz:=sz) (n:=nn) (m:=k) st (.inr ⟨⟨_,_,_,bZ⟩,k1,kz,k6⟩) k2.shape l2 lR l4 (λ_=>l6) (nt':=.a n') mP eR;unfold Oper.wp;rw[Dt ho aP hx ht (a:=a) (w:=w) (w':=w') (v':=v') (by rw[hv];exact l1)];obtain⟨a0,c0,e0⟩:=l5;refine hK v' w' E' x1 x2 x3 (.bV ⟨a0,nn+k,c0,e0,mP,?_⟩ ⟨a0,nn+k,c0,by rw[x4,e0],by rw[mP];exact ZC _,λ_=>e0⟩);have oO:(v'=.slice none 0 0)↔a0=none:=by
  rw[e0];constructor
  .intro h;simp only[Value.slice.injEq]at h;exact h.1
  .rintro rfl
   rcases l2.2 with⟨h1,_⟩|⟨g,cap,cur,fr,h1,_⟩
   .rw[<-e0];exact h1
   .rw[e0]at h1;simp at h1
 rw[<-oO,L7,Hz,l3];simp only[Bz,ST.den,r1,QE,QS];rw[eK];constructor
 .rintro⟨h1,h2⟩;exact⟨h1,by omega⟩
 .rintro⟨h1,h2⟩;exact⟨h1,by omega⟩
end
end Go.Sx
