/- Part of the proofs of the statements about responses and messages (layers 9 and 10): a symbolic executor over the code, that it is sound, and contracts of functions; it has no conditions of its own. -/
import Derived.Test.YtdoogdbjiijifaaGreatDoorE3Pai
namespace Go.Sx
open Go
section
variable {P:Program} {cx:Cx} {σ:Sy} {T:List Nat} {o:Oper} {K:Out->Prop}
theorem Dq{B:Bs}{N:Nat}{E:Env}{a:Act}{w:World}{ff:Nat->SG}{hf:Nat->Hl}(hg:E6 B cx.gl)(st:St B N E a w ff hf)(hT:Bh (Ac σ.gm T)){x:Option Operand}{s:Option SV}(h:Eb cx σ T x=some s)
  (hag:∀y,x=some y->∀q∈Cu y,ff q=Ba σ q) {d t:ST} (hb:G7 d s=some t):(x=none/\t=d)\/∃y k,x=some y/\a.eval y=.int k t.den:=by
 unfold Eb at h
 split at h
 ·cases h;left;exact⟨rfl,(Option.some.inj hb).symm⟩
 ·rename_i y
  split at h
  ·rename_i v hv
   cases h
   right
   have hr:=Aa hv hg st (hag y rfl) hT;unfold G7 at hb
   split at hb
   ·rename_i e;cases e
   ·rename_i k u e
    cases e;cases hb;exact⟨y,_,rfl,hr.int_inv⟩
   ·cases hb
  ·cases h
theorem L0{k:IntKind}{i:Int}{n:Nat}{code:BoundsCode}{w:World}(h0:0<=i)(h1:i<=(n:Int)):(Instr.sliceBound (.int k i) n code).run P w=.ok i.toNat w:=by
 simp[Instr.sliceBound,asIntOf,h0,h1]
theorem Fs{sl:Bool}{len cap:Nat}{lo hi:Option Value}{l h:Int}{w:World}(hlo:(lo=none/\l=0)\/∃k,lo=some (.int k l))(hhi:(hi=none/\h=(len:Int))\/∃k,hi=some (.int k h))(h0:0<=l)(h1:l<=h)(h2:h<=(len:Int))(h3:len<=cap):
  (Instr.sliceBounds sl len cap lo hi none).run P w=.ok (l.toNat,h.toNat,cap) w:=by
 have hh:((h.toNat:Nat):Int)=h:=by omega
 rcases hlo with⟨rfl,rfl⟩|⟨k,rfl⟩<;>rcases hhi with⟨rfl,rfl⟩|⟨k',rfl⟩<;>simp[Instr.sliceBounds]
 ·have:=L0 (P:=P) (k:=k') (i:=h) (n:=cap) (code:=if sl=true then BoundsCode.sliceAcap else BoundsCode.sliceAlen) (w:=w) (by omega) (by omega)
  simp[this]
 ·have:=L0 (P:=P) (k:=k) (i:=l) (n:=len) (code:=BoundsCode.sliceB) (w:=w) (by omega) (by omega)
  simp[this]
 ·have e1:=L0 (P:=P) (k:=k') (i:=h) (n:=cap) (code:=if sl=true then BoundsCode.sliceAcap else BoundsCode.sliceAlen) (w:=w) (by omega) (by omega)
  have e2:=L0 (P:=P) (k:=k) (i:=l) (n:=h.toNat) (code:=BoundsCode.sliceB) (w:=w) (by omega) (by omega);simp[e1,e2]
theorem Rm(hc:A1 P cx){t e sz:Nat}{ti:TI}(hl:look t cx.tt=some ti)(hk:ti.k=.slice e)(hn:size? cx e=some sz){x:Operand}{lo hi:Option Operand}(ho:o.op=.slice t x lo hi none){nl:BT}{n:ST}{f f':Nat->List SV}
  (hv:rd cx σ T x=some (.sl nl n sz f)\/∃h,rd cx σ T x=some (.gsl nl n sz f h)) {sa sb:Option SV} (hlo:Eb cx σ T lo=some sa) (hhi:Eb cx σ T hi=some sb) {p q:ST} (hp:G7 (.l 0) sa=some p) (hq:G7 n sb=some q)
  (hob:Bh (Ac σ.gm T)->0<=p.den/\p.den<=q.den/\q.den<=n.den) (hf:∀i j:Nat,(j:Int)=i+p.den->f' i=f j):Ap P cx.gl σ T o ⟨.sl nl (.a (q.den-p.den)) sz f',[],[],[]⟩:=by
 intro B N E a w ff hf' hg st ag agh hT;have hx':RO E.I w (.sl nl n sz f) (a.eval x):=by
  rcases hv with hv|⟨h,hv⟩
  ·exact (Aa hv hg st (Ah ag (by simp[ho,Op.operands])) hT).sl_inv
  ·exact (Aa hv hg st (Ah ag (by simp[ho,Op.operands])) hT).gsl_inv.1
 have h1:=Dq hg st hT hlo (λy hy=>Ah ag (by subst hy;simp[ho,Op.operands])) hp;have h2:=Dq hg st hT hhi (λy hy=>Ah ag (by subst hy;simp[ho,Op.operands])) hq;obtain⟨o1,o2,o3⟩:=hob hT;have hu:=(hc.ti hl).slice hk;obtain⟨te,hte,hszt⟩:=size?_ti hn;have hS:=(hc.ti hte).sizeOf w;have hlo':(lo.map a.eval=none/\p.den=0)\/∃k,lo.map a.eval=some (.int k p.den):=by
  rcases h1 with⟨rfl,rfl⟩|⟨y,k,rfl,e⟩
  ·exact .inl ⟨rfl,rfl⟩
  ·exact .inr ⟨k,by simp[e]⟩
 have hhi':∀m:Nat,n.den=(m:Int)->(hi.map a.eval=none/\q.den=(m:Int))\/∃k,hi.map a.eval=some (.int k q.den):=by
  intro m hm;rcases h2 with⟨rfl,rfl⟩|⟨y,k,rfl,e⟩
  ·exact .inl ⟨rfl,hm⟩
  ·exact .inr ⟨k,by simp[e]⟩
 rcases hx'.sl_inv with⟨e0,e1,e2⟩|⟨ad,m,cap,g,e0,e1,e2,e3,e3',e4,e5,e5',e6,e7⟩
 ·have hp0:p.den=0:=by omega
  have hq0:q.den=0:=by omega
  have hb:=Fs (P:=P) (sl:=true) (len:=0) (cap:=0) (lo:=lo.map a.eval) (hi:=hi.map a.eval) (l:=p.den) (h:=q.den) (w:=w) hlo' (hhi' 0 (by simpa using e1)) o1 o2 (by omega) (Nat.le_refl _);refine Ad st (v:=.slice none 0 0) ?_ rfl (.ro (.slnil e2 (by simp only[ST.den];omega)));simp[execOp,ho,e0,Instr.sliceAt,Instr.slice,run_underlying hu,hb,hS,hp0,hq0]
 ·have hb:=Fs (P:=P) (sl:=true) (len:=m) (cap:=cap) (lo:=lo.map a.eval) (hi:=hi.map a.eval) (l:=p.den) (h:=q.den) (w:=w) hlo' (hhi' m e2) o1 o2 (by omega) e3
  let ad':=if cap=p.den.toNat then ad else ad.add (p.den.toNat * te.size)
  refine Ad st (v:=.slice (some ad') (q.den.toNat-p.den.toNat) (cap-p.den.toNat)) ?_ rfl (.ro ?_)
  ·by_cases hcap:cap=p.den.toNat
   ·subst hcap
    simp[execOp,ho,e0,Instr.sliceAt,Instr.slice,run_underlying hu,hb,hS,ad']
   ·simp[execOp,ho,e0,Instr.sliceAt,Instr.slice,run_underlying hu,hb,hS,ad',hcap]
  ·have hne:∀i,i<q.den.toNat-p.den.toNat->ad'=ad.add (p.den.toNat * sz):=by
    intro i hi';simp only[ad',hszt];rw[if_neg (by omega)]
   have hff:∀i,f' i=f (i+p.den.toNat):=λi=>hf i _ (by omega);refine .sl (λi j=>g (i+p.den.toNat) j) e1 (by simp only[ST.den];omega) (by omega) (by omega) (λhpos=>?_) (λi hi'=>?_) (λi j hi' hj=>e5' _ _ (by omega) hj) (λi j hi' hj=>?_) (λi j s hi' hs=>?_)
   ·rw[hne 0 hpos];exact Vb _ _ (e4 (by omega))
   ·rw[hff];exact e5 _ (by omega)
   ·rw[hne i hi',Qo,Zl]
    have:=e6 (i+p.den.toNat) j (by omega) hj;rw[Nat.add_mul]at this;rw[show ad.off+p.den.toNat * sz+(i * sz+j)=ad.off+(i * sz+p.den.toNat * sz+j) by omega];exact this
   ·rw[hff]at hs;exact e7 _ j s (by omega) hs
theorem Wb(s:List UInt8)(l h:Nat):(bytes s).extract l h=bytes ((s.drop l).take (h-l)):=by
 apply ByteArray.ext;simp only[ByteArray.data_extract,bytes];apply Array.ext';simp[List.extract_eq_take_drop]
theorem Rl(hc:A1 P cx){t:Nat}{ti:TI}(hl:look t cx.tt=some ti)(hk:ti.k=.string){x:Operand}{lo hi:Option Operand}(ho:o.op=.slice t x lo hi none){s:List UInt8}
  (hv:rd cx σ T x=some (.str s)) {sa sb:Option SV} (hlo:Eb cx σ T lo=some sa) (hhi:Eb cx σ T hi=some sb) {p q:ST} (hp:G7 (.l 0) sa=some p) (hq:G7 (.len s) sb=some q)
  (hob:Bh (Ac σ.gm T)->0<=p.den/\p.den<=q.den/\q.den<=s.length):Ap P cx.gl σ T o ⟨.str ((s.drop p.den.toNat).take (q.den.toNat-p.den.toNat)),[],[],[]⟩:=by
 intro B N E a w ff hf' hg st ag agh hT;have hx':=(Aa hv hg st (Ah ag (by simp[ho,Op.operands])) hT).str_inv;have h1:=Dq hg st hT hlo (λy hy=>Ah ag (by subst hy;simp[ho,Op.operands])) hp;have h2:=Dq hg st hT hhi (λy hy=>Ah ag (by subst hy;simp[ho,Op.operands])) hq;obtain⟨o1,o2,o3⟩:=hob hT;have hu:=(hc.ti hl).string hk;have hlo':(lo.map a.eval=none/\p.den=0)\/∃k,lo.map a.eval=some (.int k p.den):=by
  rcases h1 with⟨rfl,rfl⟩|⟨y,k,rfl,e⟩
  ·exact .inl ⟨rfl,rfl⟩
  ·exact .inr ⟨k,by simp[e]⟩
 have hhi':(hi.map a.eval=none/\q.den=((s.length:Nat):Int))\/∃k,hi.map a.eval=some (.int k q.den):=by
  rcases h2 with⟨rfl,rfl⟩|⟨y,k,rfl,e⟩
  ·exact .inl ⟨rfl,rfl⟩
  ·exact .inr ⟨k,by simp[e]⟩
 have hb:=Fs (P:=P) (sl:=false) (len:=s.length) (cap:=s.length) (lo:=lo.map a.eval) (hi:=hi.map a.eval) (l:=p.den) (h:=q.den) (w:=w) hlo' hhi' o1 o2 o3 (Nat.le_refl _);have hs:(bytes s).size=s.length:=rfl;refine Ad st (v:=.string (bytes ((s.drop p.den.toNat).take (q.den.toNat-p.den.toNat)))) ?_ rfl (.ro (.str rfl));simp[execOp,ho,hx',Instr.sliceAt,Instr.slice,run_underlying hu,hs,hb,Wb]
theorem Rw(hc:A1 P cx){t n e sz q:Nat}{ti:TI}(hl:look t cx.tt=some ti)(hk:ti.k=.array n e){x y:Operand}(ho:o.op=.index t x y){cs:List SV}{k:IntKind}{s:SV}
  (hv:rd cx σ T x=some (.agg cs)) (hi:rd cx σ T y=some (.int k (.l (.ofNat q)))) (hn:size? cx e=some sz) (hq:q<n) (_hle:q * sz+sz<=cs.length) (hp:Kp (isAgg? cx e) ((cs.drop (q * sz)).take sz)=some s):Ap P cx.gl σ T o ⟨s,[],[],[]⟩:=by
 intro B N E a w ff hf' hg st ag agh hT;have hr:=Aa hv hg st (Ah ag (by simp[ho,Op.operands])) hT;obtain⟨vs,hx,hl'⟩:=hr.agg_inv;have hy:=(Aa hi hg st (Ah ag (by simp[ho,Op.operands])) hT).int_inv;have hy:a.eval y=.int k (q:Int):=hy;have hu:=(hc.ti hl).array hk;obtain⟨fi,hfi,hsz⟩:=size?_ti hn;have hS:=(hc.ti hfi).sizeOf w;rw[hsz]at hS;have hsub:=(hl'.drop (q * sz)).take sz;obtain⟨p1,p2⟩:=F8 hp hsub;rw[isAgg?_eq hfi]at p1 p2;refine Ad st ?_ rfl p2;have hpart:=Nw (hc.ti hfi) hsz (w:=w) (vs:=vs) (fo:=q * sz) p1;simp[execOp,ho,hx,hy,Instr.index,asIntOf,run_underlying hu,hq,hS,hpart]
theorem Rr(hc:A1 P cx){t:Nat}{ti:TI}(hl:look t cx.tt=some ti)(hk:ti.k=.string){x y:Operand}(ho:o.op=.index t x y){s:List UInt8}{k:IntKind}{i:ST}
  (hv:rd cx σ T x=some (.str s)) (hi:rd cx σ T y=some (.int k i)) (hob:Bh (Ac σ.gm T)->0<=i.den/\i.den<s.length):Ap P cx.gl σ T o ⟨.int .u8 (.a ((s.getD i.den.toNat 0).toNat:Int)),[],[],[]⟩:=by
 intro B N E a w ff hf' hg st ag agh hT;have hx':=(Aa hv hg st (Ah ag (by simp[ho,Op.operands])) hT).str_inv;have hy:=(Aa hi hg st (Ah ag (by simp[ho,Op.operands])) hT).int_inv;obtain⟨o1,o2⟩:=hob hT;have hu:=(hc.ti hl).string hk;have hlt:i.den.toNat<s.length:=by omega
 have hget:(bytes s)[i.den.toNat]?=some (s.getD i.den.toNat 0):=by
  have:i.den.toNat<(bytes s).size:=hlt;rw[getElem?_pos (bytes s) i.den.toNat this,List.getD_eq_getElem?_getD,List.getElem?_eq_getElem hlt];rfl
 refine Ad st (v:=.int .u8 ((s.getD i.den.toNat 0).toNat:Int)) ?_ rfl (.int rfl);simp[execOp,ho,hx',hy,Instr.index,asIntOf,run_underlying hu,o1,hget]
end
theorem C9{P:Program}(g o:Nat)(t:TypeId)(fr:Nat×Nat):∀(vs:List Value) (i:Nat) (cur:Array Value) (w:World),w.heap[g]?=some (.cells cur t fr)->(fr=(0,0)\/cur.size<=fr.1)->o+i+vs.length<=cur.size->(∀v∈vs,v.oneCell'=true)->
  (storeCells ⟨g,o,none⟩ vs i).run P w=.ok () (w.setRow g (cur.toList.take (o+i)++vs++cur.toList.drop (o+i+vs.length)).toArray)
 | [],i,cur,w,hg,_,_,_=>by
  simp only[storeCells,List.append_nil,List.length_nil,Nat.add_zero,List.take_append_drop,Array.toArray_toList];rw[setRow_self w g cur t fr hg];rfl
 |v :: rest,i,cur,w,hg,hfr,hl,h1=>by
  have hi:o+i<cur.size:=by simp at hl;omega
  have hadd:(⟨g,o,none⟩:Addr).add i=⟨g,o+i,none⟩:=by unfold Addr.add;split<;>simp_all
  have hcell:w.cell? ⟨g,o+i,none⟩=some cur[o+i]:=by simp[World.cell?,hg,hi]
  have hfro:w.frozen? ⟨g,o+i,none⟩=false:=by
   simp only[World.frozen?,hg];rcases hfr with rfl|hfr
   ·simp
   ·simp;omega
  have hst:(store ((⟨g,o,none⟩:Addr).add i) v).run P w=.ok () (w.setRow g (cur.setIfInBounds (o+i) v)):=by
   rw[hadd,run_store P w _ v _ (h1 v (by simp)),hcell];simp[hfro,setCell_eq_setRow w g (o+i) cur t fr v hg]
  have ih:=C9 (P:=P) g o t fr rest (i+1) (cur.setIfInBounds (o+i) v) (w.setRow g (cur.setIfInBounds (o+i) v)) (setRow_heap w g cur _ t _ hg) (by simpa using hfr) (by simp at hl ⊢;omega) (λx hx=>h1 x (by simp[hx]));simp only[storeCells,Sem.run_bind,hst,Result.andThen_ok,ih,setRow_setRow];congr 3;have e:=list_seg_step cur.toList (o+i) v rest (by simp at hl ⊢;omega);simpa[Array.toList_setIfInBounds,Nat.add_assoc] using e
theorem Ck.lt{w:World}{gr:Bool}{e:TypeId}{sz m:Nat}{v:Value}{xs:List Value}(h:Ck w gr e sz v m xs):∀b,v.ownBlock=some b->b<w.heap.size:=by
 intro b hb;rcases h.2 with⟨rfl,_⟩|⟨g,cap,cur,fr,rfl,hg,_⟩
 ·simp[Value.ownBlock]at hb
 ·simp[Value.ownBlock]at hb;subst hb
  exact (Array.getElem?_eq_some_iff.1 hg).1
theorem H9{B:Bs}{N:Nat}{E:Env}{a:Act}{w:World}{ff:Nat->SG}{hf:Nat->Hl}(st:St B N E a w ff hf){h:Nat}{e:TypeId}{sz:Nat}{gr:Bool}{v v':Value}{n m:Nat}{ys:List Value}{w':World}
  (hold:(hf h=.fresh/\v=.slice none 0 0)\/((∃nt f gr0,hf h=.own e nt sz gr0 f)/\E.τ h=some v/\E.ζ h=some sz/\∀b,v.ownBlock=some b->E.O b=some h/\∀o,¬E.I b o))
  (hsh:∃a c,v=.slice a n c) (hown':Ck w' gr e sz v' (n+m) ys) (h1:∀u∈ys,u.oneCell'=true)
  (hblk:(v'.ownBlock=v.ownBlock/\w.grownBy w' v.ownBlock)\/(v'.ownBlock=some w.heap.size/\w.grownBy w' none)) (hkeep:hf h≠.fresh->m=0->v'=v) {nt':ST} (hnt:nt'.den=((n+m:Nat):Int))
  {f':Nat->List SV} (hrow:Fm E w f' (n+m) sz ys):
  ∃E',Ext E w E' w'/\Ci B E' w'/\(∀k,HOk E' w' k (upd hf h (.own e nt' sz gr f') k))/\E'.τ h=some v'/\E'.ζ h=some sz:=by
 have hb:=st.base;have hbold:∀b,v.ownBlock=some b->E.O b=some h/\(∀o,¬E.I b o)/\b<w.heap.size:=by
  intro b hbb;rcases hold with⟨_,rfl⟩|⟨_,_,_,h3⟩
  ·simp[Value.ownBlock]at hbb
  ·exact⟨(h3 b hbb).1,(h3 b hbb).2,A5 hb (h3 b hbb).1⟩
 let E':Env:=⟨E.β,upd E.τ h (some v'),λb=>if v'.ownBlock=some b then some h else E.O b,E.κ,upd E.ζ h (some sz),E.I⟩
 have hgos:w'.os=w.os/\w'.tape=w.tape/\w'.output=w.output/\w.heap.size<=w'.heap.size:=by
  rcases hblk with⟨_,hg⟩|⟨_,hg⟩<;>exact⟨hg.os,hg.tape,hg.output,hg.size⟩
 have hother:∀b,b<w.heap.size->v.ownBlock≠some b->w'.heap[b]?=w.heap[b]?:=by
  intro b hlt hne;rcases hblk with⟨_,hg⟩|⟨_,hg⟩
  ·exact hg.block b hlt (λe=>hne e.symm)
  ·exact hg.block b hlt (by simp)
 have hI:∀b o,E.I b o->w'.cell? ⟨b,o,none⟩=w.cell? ⟨b,o,none⟩:=by
  intro b o hi;have hlt:=hb.Ibd b o hi;have hne:v.ownBlock≠some b:=λhbv=>(hbold b hbv).2.1 o hi;simp only[World.cell?];rw[hother b hlt hne]
 have hfr:hf h=.fresh->E.τ h=none/\E.ζ h=none:=by
  intro hfr;have:=st.heap h;rw[hfr]at this;exact⟨this.2.1,this.2.2.2⟩
 have hx:Ext E w E' w':=by
  refine⟨λ_ _ h=>h,λk u hk=>?_,λ_ _ h=>h,λk z hk=>?_,λb o h=>h,hI⟩
  ·show upd E.τ h (some v') k=some u\/∃a m' c a' m'' c',u=.slice a m' c/\upd E.τ h (some v') k=some (.slice a' m'' c')/\m'<m''
   unfold upd
   by_cases e:k=h
   ·subst e
    rw[if_pos rfl];rcases hold with⟨hf0,_⟩|⟨⟨nt,f,gr0,hne⟩,h2,_⟩
    ·rw[(hfr hf0).1]at hk;cases hk
    ·rw[h2]at hk
     cases hk
     by_cases hm:m=0
     ·left;rw[hkeep (by rw[hne];simp) hm]
     ·right
      obtain⟨a',c',rfl⟩:=hown'.shape;obtain⟨a,c,rfl⟩:=hsh;exact⟨a,n,c,a',n+m,c',rfl,rfl,by omega⟩
   ·rw[if_neg e];exact .inl hk
  ·show upd E.ζ h (some sz) k=some z
   unfold upd
   by_cases e:k=h
   ·subst e
    rw[if_pos rfl];rcases hold with⟨hf0,_⟩|⟨_,_,h2,_⟩
    ·rw[(hfr hf0).2]at hk;cases hk
    ·rw[h2]at hk;exact hk
   ·rw[if_neg e];exact hk
 have hownlt:∀b,v'.ownBlock=some b->b<w'.heap.size:=hown'.lt;have hnew:∀b,v'.ownBlock=some b->B.w0.heap.size<=b\/B.X b:=by
  intro b hbb;rcases hblk with⟨hs,_⟩|⟨hs,_⟩
  ·exact (hb.Obd b h (hbold b (by rw[<-hs];exact hbb)).1).2
  ·rw[hs]at hbb;cases hbb;exact .inl hb.size
 refine⟨E',hx,⟨hgos.1.trans hb.os,hgos.2.1.trans hb.tape,hgos.2.2.1.trans hb.output,Nat.le_trans hb.size hgos.2.2.2,λb hlt hX=>?_,λb o hi=>?_,λb o hi=>?_,hb.Inew,λb k hO=>?_,hb.β0.ext hx⟩,λk=>?_,by simp[E',upd],by simp[E',upd]⟩
 ·have hsz:=hb.size
  rw[hother b (by omega) ?_]
  ·exact hb.old b hlt hX
  ·intro hbv
   rcases (hb.Obd b h (hbold b hbv).1).2 with h|h
   ·omega
   ·exact hX h
 ·obtain⟨i1,i2⟩:=hb.I0 b o hi
  exact⟨i1,by rw[hI b o i1];exact i2⟩
 ·exact Nat.lt_of_lt_of_le (hb.Ibd b o hi) hgos.2.2.2
 ·have hO:(if v'.ownBlock=some b then some h else E.O b)=some k:=hO
  split at hO
  ·rename_i hbb
   exact⟨hownlt b hbb,hnew b hbb⟩
  ·obtain⟨o1,o2⟩:=hb.Obd b k hO
   exact⟨Nat.lt_of_lt_of_le o1 hgos.2.2.2,o2⟩
 ·by_cases e:k=h
  ·subst e
   simp only[upd,if_pos];refine⟨v',n+m,ys,by simp[E',upd],by simp[E',upd],hown',hnt,h1,⟨hrow.1,λi j s u a b c=>(hrow.2 i j s u a b c).mono hx.I hx.cell⟩,λb hbb=>⟨by show (if v'.ownBlock=some b then some k else E.O b)=some k;rw[if_pos hbb],λo hi=>?_⟩⟩;rcases hblk with⟨hs,_⟩|⟨hs,_⟩
   ·exact (hbold b (by rw[<-hs];exact hbb)).2.1 o hi
   ·rw[hs]at hbb;cases hbb
    have:=hb.Ibd _ _ hi;omega
  ·simp only[upd,if_neg e]
   refine HOk.keep hx (st.heap k) rfl (by simp[E',upd,e]) rfl (by simp[E',upd,e]) λb hO=>?_;have hlt:=A5 hb hO;have hne:v'.ownBlock≠some b:=by
    intro hbb;rcases hblk with⟨hs,_⟩|⟨hs,_⟩
    ·have:=(hbold b (by rw[<-hs];exact hbb)).1
     rw[hO]at this;exact e (Option.some.inj this)
    ·rw[hs]at hbb;cases hbb;omega
   have hnv:v.ownBlock≠some b:=by
    intro hbb;have:=(hbold b hbb).1;rw[hO]at this;exact e (Option.some.inj this)
   exact⟨by show (if v'.ownBlock=some b then some h else E.O b)=some k;rw[if_neg hne];exact hO,hother b hlt hnv,λo hi=>hi⟩
section
variable {P:Program} {cx:Cx} {σ:Sy} {T:List Nat} {o:Oper} {K:Out->Prop}
theorem F2{E:Env}{w:World}{h:Nat}{n n0:ST}{nl:BT}{u v:Value}{gr:Bool}{e:TypeId}{sz m:Nat}{xs:List Value}(hr:Rel E w (.osl nl n h) u)(hτ:E.τ h=some v)(hown:Ck w gr e sz v m xs)(hn0:n0.den=(m:Int))(he:n.den=n0.den):
  u=v/\(nl.den=true↔v=.slice none 0 0):=by
 obtain⟨⟨a,k,c,e1,e2,e3⟩,a0,m0,c0,t1,t2,t3⟩:=hr.osl_inv;rw[hτ]at t1;cases t1;obtain⟨a1,c1,e4⟩:=hown.shape;cases e4;have:u=.slice a0 _ c0:=t3 (by rw[he,hn0]);refine⟨this,?_⟩;rw[this]at e1;simp only[Value.slice.injEq]at e1;obtain⟨rfl,_,_⟩:=e1;rw[e3];constructor
 ·rintro rfl
  rcases hown.2 with⟨h1,_⟩|⟨g,cap,cur,fr,h1,_⟩
  ·exact h1
  ·simp at h1
 ·intro h1
  simp only[Value.slice.injEq]at h1;exact h1.1
theorem Vx(hc:A1 P cx){c:Call}(ho:o.op=.call c)(hcal:c.callee=.builtin .len){x:Operand}{t:Nat}{ti:TI}(hx:c.args.toList=[x])(ht:c.argTypes.toList=[t])(hl:look t cx.tt=some ti){e:TypeId}(hk:ti.k=.slice e)
  {nl:BT} {n:ST} {h:Nat} (hv:rd cx σ T x=some (.osl nl n h)):Ap P cx.gl σ T o ⟨.int .i64 n,[],[],[]⟩:=by
 intro B N E a w ff hf' hg st ag agh hT;have hmem:x∈o.op.operands.toList:=by simp[ho,Op.operands,Call.operands,hcal,hx]
 obtain⟨⟨a0,m,c0,e3,e4,_⟩,_⟩:=(Aa hv hg st (Ah ag hmem) hT).osl_inv;have e1:c.args=#[x]:=Array.ext' (by simpa using hx);have e2:c.argTypes=#[t]:=Array.ext' (by simpa using ht);have hrun:=F6 hc hl hk (w:=w) (a:=a0) (m:=m) (c:=c0) (ty:=o.type);refine Ad st (v:=.int .i64 m) ?_ rfl (.int e4);simp[execOp,ho,resolve,hcal,e1,e2,invoke,builtin,e3,hrun]
theorem Ru(hc:A1 P cx){t e sz:Nat}{ti:TI}(hl:look t cx.tt=some ti)(hk:ti.k=.slice e)(hn:size? cx e=some sz){x y:Operand}(ho:o.op=.indexAddr t x y){h ty:Nat}{nl:BT}{n n0:ST}{gr:Bool}{f:Nat->List SV}{k:IntKind}{i:ST}
  (hv:rd cx σ T x=some (.osl nl n h)) (hh:nth σ.hp h=some (.own ty n0 sz gr f)) (hi:rd cx σ T y=some (.int k i)) (h0:Bh (Ac σ.gm T)->n.den=n0.den) (h1:Bh (Ac σ.gm T)->0<=i.den/\i.den<n0.den):Ap P cx.gl σ T o ⟨.optr n h i.den.toNat 0,[],[h],[]⟩:=by
 intro B N E a w ff hf' hg st ag agh hT;have hrx:=Aa hv hg st (Ah ag (by simp[ho,Op.operands])) hT;have hy:=(Aa hi hg st (Ah ag (by simp[ho,Op.operands])) hT).int_inv;obtain⟨b1,b2⟩:=h1 hT;have hkk:=st.heap h;rw[Bw agh (List.mem_singleton.2 rfl) hh]at hkk;obtain⟨v,m,xs,k1,kz,k2,k3,k4,k5,k6⟩:=hkk;obtain⟨hv',_⟩:=F2 hrx k1 k2 k3 (h0 hT);rcases k2.2 with⟨_,e0⟩|⟨b,cap,cur,fr,rfl,hg2,_⟩
 ·omega
 have hrun:=Fa hc hl hk hn (w:=w) (a:=⟨b,0,none⟩) (m:=m) (cap:=cap) (k:=k) b1 (show i.den<(m:Int) by omega);refine Ad st (v:=.pointer (some ⟨b,i.den.toNat * sz+0,none⟩)) ?_ rfl (.optr ⟨_,_,rfl⟩ ⟨_,m,cap,sz,k1,kz,by rw[h0 hT,k3];exact Int.le_refl _,λ_=>⟨b,rfl,rfl⟩⟩);simp[execOp,ho,hv',hy,hrun,add_lit]
theorem Lc(hc:A1 P cx){t i fo ft m h j off:Nat}{n:ST}{x:Operand}(ho:o.op=.fieldAddr t x i)(hv:rd cx σ T x=some (.optr n h j off))(hf:field? cx t i=some (fo,ft))(hn:size? cx ft=some (m+1)):
  Ap P cx.gl σ T o ⟨.optr n h j (off+fo),[],[],[]⟩:=by
 intro B N E a w ff hf' hg st ag agh hT;have hr:=Aa hv hg st (Ah ag (by simp[ho,Op.operands])) hT;obtain⟨⟨b,o',hx⟩,a0,m0,c0,sz,t1,t2,t3,t4⟩:=hr.optr_inv;refine Ad st (v:=.pointer (some ⟨b,o'+fo,none⟩)) ?_ rfl (.optr ⟨_,_,rfl⟩ ⟨a0,m0,c0,sz,t1,t2,t3,λe=>?_⟩)
 ·simp[execOp,ho,hx,H5 hc hf hn,add_lit]
 ·obtain⟨b',e1,e2⟩:=t4 e
  rw[hx]at e2;simp only[Value.pointer.injEq,Option.some.injEq,Addr.mk.injEq,and_true]at e2;obtain⟨rfl,rfl⟩:=e2;exact⟨b,e1,by rw[Nat.add_assoc]⟩
theorem Aam{E:Env}{w:World}{h j off:Nat}{n n0:ST}{u v:Value}{gr:Bool}{e:TypeId}{sz m:Nat}{xs:List Value}(hr:Rel E w (.optr n h j off) u)(hτ:E.τ h=some v)(hz:E.ζ h=some sz)(hown:Ck w gr e sz v m xs)(hn0:n0.den=(m:Int))(he:n.den=n0.den):
  ∃b cap cur fr,v=.slice (some ⟨b,0,none⟩) m cap/\u=.pointer (some ⟨b,j * sz+off,none⟩)/\w.heap[b]?=some (.cells cur e fr)/\(fr=(0,0)\/gr=false/\fr=(cur.size,cur.size+1))/\m<=cap/\cap<=maxLen/\cur.size=cap * sz/\cur.toList.take (m * sz)=xs:=by
 obtain⟨_,a0,m0,c0,sz',t1,t2,t3,t4⟩:=hr.optr_inv;rw[hτ]at t1;cases t1;rw[hz]at t2;cases t2;obtain⟨a1,c1,e4⟩:=hown.shape;cases e4;obtain⟨b,rfl,e5⟩:=t4 (by rw[he,hn0]);rcases hown.2 with⟨h1,_⟩|⟨g,cap,cur,fr,h1,h2⟩
 ·simp at h1
 ·cases h1
  exact⟨b,_,cur,fr,rfl,e5,h2⟩
theorem Ro(hc:A1 P cx){t:Nat}{x:Operand}(ho:o.op=.load t x){h j off n ty sz:Nat}{m m0:ST}{gr:Bool}{f:Nat->List SV}{s:SV}(hv:rd cx σ T x=some (.optr m0 h j off))(hn:size? cx t=some n)
  (hh:nth σ.hp h=some (.own ty m sz gr f)) (h0:Bh (Ac σ.gm T)->m0.den=m.den) (hob:Bh (Ac σ.gm T)->(j:Int)<m.den) (hle:off+n<=(f j).length) (hp:Kp (isAgg? cx t) (((f j).drop off).take n)=some s):Ap P cx.gl σ T o ⟨s,[],[h],[]⟩:=by
 intro B N E a w ff hf hg st ag agh hT;have hr:=Aa hv hg st (Ah ag (by simp[ho,Op.operands])) hT;have hkk:=st.heap h;rw[Bw agh (List.mem_singleton.2 rfl) hh]at hkk;obtain⟨v,m',xs,k1,kz,k2,k3,k4,k5,k6⟩:=hkk;obtain⟨b,cap,cur,fr,e1,hx,hg2,hfr,hmc,hcm,hcs,htake⟩:=Aam hr k1 kz k2 k3 (h0 hT);obtain⟨ti,hti,hsz⟩:=size?_ti hn;have hj:j<m':=by have:=hob hT;omega
 have hfl:=k5.1 j hj;have hbound:(j+1) * sz<=m' * sz:=Nat.mul_le_mul_right _ hj;have hbound2:m' * sz<=cap * sz:=Nat.mul_le_mul_right _ hmc;rw[Nat.add_mul]at hbound;have hxl:=k2.1;have hsub:A2 E w (((f j).drop off).take n) ((xs.drop (j * sz+off)).take n):=by
  refine⟨by simp;omega,λi s v p q=>?_⟩;rw[List.getElem?_take]at p q
  split at p
  ·rename_i e
   rw[if_pos e]at q;rw[List.getElem?_drop]at p q;refine .ro (k5.2 j (off+i) s v hj p ?_);rw[<-Nat.add_assoc];exact q
  ·cases p
 obtain⟨p1,p2⟩:=F8 hp hsub;have hlen:((xs.drop (j * sz+off)).take n).length=n:=by simp;omega
 have hrun:=Fq (hc.ti hti) (w:=w) (b:=b) (off:=j * sz+off) (vs:=(xs.drop (j * sz+off)).take n) (λq v hq=>by
  rw[List.getElem?_take]at hq
  split at hq
  ·rw[List.getElem?_drop]at hq
   rw[cell_of_row w b (j * sz+off+q) cur ty fr hg2];rw[<-htake,List.getElem?_take,if_pos (by omega)]at hq;simpa using hq
  ·cases hq) (by rw[hlen,hsz]) (isAgg?_eq hti) p1
 exact Ad st (by simp[execOp,ho,hx,hrun]) rfl p2
theorem Pu(hc:A1 P cx){t:Nat}{x y:Operand}(ho:o.op=.store t x y){h j off n ty sz:Nat}{m m0:ST}{gr:Bool}{f f':Nat->List SV}{s:SV}(hv:rd cx σ T x=some (.optr m0 h j off))(hs:rdT cx σ T t y=some s)(hn:size? cx t=some n)
  (hh:nth σ.hp h=some (.own ty m sz gr f)) (h0:m0.den=m.den) (hj:(j:Int)<m.den) (hl:s.cells.length=n) (hle:off+n<=(f j).length) (h1:Ed s.cells=true) (hpl:Al (.agg (loose.looseL (norm.normL dn s.cells)))=true) (_hT0:Bh (Ac σ.gm T))
  (hfj:f' j=C7 (f j) off (loose.looseL (norm.normL dn s.cells))) (hfo:∀i,i≠j->f' i=f i):Ap P cx.gl σ T o ⟨.tup [],[.put h (.own ty m sz gr f')],[h],[]⟩:=by
 intro B N E a w ff hf hg st ag agh hT K' Q hK;have hr:=Aa hv hg st (Ah ag (by simp[ho,Op.operands])) hT;have hr2:=Jd hs hg st (Ah ag (by simp[ho,Op.operands])) hT;have hsame:=Bw agh (List.mem_singleton.2 rfl) hh;have hkk:=st.heap h;rw[hsame]at hkk;obtain⟨v,m',xs,k1,kz,k2,k3,k4,k5,k6⟩:=hkk;obtain⟨b,cap,cur,fr,e1,hx,hg2,hfr,hmc,hcm,hcs,htake⟩:=Aam hr k1 kz k2 k3 h0;obtain⟨ti,hti,hsz⟩:=size?_ti hn;have hjm:j<m':=by omega
 have hfl:=k5.1 j hjm;have hbound:(j+1) * sz<=m' * sz:=Nat.mul_le_mul_right _ hjm;have hbound2:m' * sz<=cap * sz:=Nat.mul_le_mul_right _ hmc;rw[Nat.add_mul]at hbound;have hcs':=Hz h1 hr2;have hone:=L2 h1 hcs';have hul:(a.eval y).cells.toList.length=n:=by rw[<-hcs'.1];exact hl
 have hplain:A2 E w (loose.looseL (norm.normL dn s.cells)) (a.eval y).cells.toList:=by
  rw[Cd,Cl];exact (hcs'.map _ λs v _ h=>h.norm).map _ λs v _ h=>h.loose
 have hpc:∀c∈loose.looseL (norm.normL dn s.cells),Al c=true:=by
  simp only[Al]at hpl;exact (Cw _).1 hpl
 have hpl':(loose.looseL (norm.normL dn s.cells)).length=n:=by rw[hplain.1];exact hul
 generalize hU:(a.eval y).cells.toList=us at *
 generalize hP:loose.looseL (norm.normL dn s.cells)=ps at *
 let C':Array Value:=(cur.toList.take (j * sz+off)++us++cur.toList.drop (j * sz+off+us.length)).toArray
 have hle':j * sz+off+us.length<=cur.size:=by rw[hul];omega
 have hC's:C'.size=cur.size:=by simp[C'];omega
 have hCget:∀q:Nat,C'[q]?=if j * sz+off<=q/\q<j * sz+off+us.length then us[q-(j * sz+off)]? else cur[q]?:=by
  intro q;have:C'[q]?=(cur.toList.take (j * sz+off)++us++cur.toList.drop (j * sz+off+us.length))[q]?:=by simp[C']
  rw[this]
  split
  ·rename_i e
   rw[List.append_assoc,List.getElem?_append_right (by simp;omega),List.getElem?_append_left (by simp;omega)];congr 1;simp;omega
  ·rename_i e
   by_cases hi:q<j * sz+off
   ·rw[List.append_assoc,List.getElem?_append_left (by simp;omega),List.getElem?_take,if_pos hi];simp
   ·rw[List.getElem?_append_right (by simp;omega),List.getElem?_drop,<-Array.getElem?_toList]
    congr 1;simp;omega
 let ys:List Value:=C'.toList.take (m' * sz)
 have hysl:ys.length=m' * sz:=by simp[ys,hC's];omega
 have hyget:∀q,q<m' * sz->ys[q]?=if j * sz+off<=q/\q<j * sz+off+us.length then us[q-(j * sz+off)]? else xs[q]?:=by
  intro q hq;simp only[ys];rw[List.getElem?_take,if_pos hq,Array.getElem?_toList,hCget]
  split
  ·rfl
  ·rw[<-htake,List.getElem?_take,if_pos hq];simp
 have hrow:Fm E w f' m' sz ys:=by
  refine⟨λi hi=>?_,λi q s2 v hi hs2 hv2=>?_⟩
  ·by_cases e:i=j
   ·subst e;rw[hfj,Db];exact hfl
   ·rw[hfo i e];exact k5.1 i hi
  ·have hql:q<sz:=by
    have hlen:(f' i).length=sz:=by
     by_cases e:i=j
     ·subst e;rw[hfj,Db];exact hfl
     ·rw[hfo i e];exact k5.1 i hi
    rw[<-hlen];exact (List.getElem?_eq_some_iff.1 hs2).1
   have hbq:i * sz+q<m' * sz:=by
    have:(i+1) * sz<=m' * sz:=Nat.mul_le_mul_right _ hi;rw[Nat.add_mul]at this;omega
   rw[hyget _ hbq]at hv2
   by_cases e:i=j
   ·subst e
    rw[hfj,Hs _ _ _ _ (by rw[hpl'];exact hle)]at hs2
    by_cases hin:off<=q/\q<off+n
    ·rw[if_pos (by rw[hpl'];exact hin)]at hs2
     rw[if_pos (by rw[hul];omega)]at hv2;have e2:i * sz+q-(i * sz+off)=q-off:=by omega
     rw[e2]at hv2;exact (hplain.2 _ s2 v hs2 hv2).plainOne (hpc s2 (List.mem_of_getElem? hs2)) (hone v (List.mem_of_getElem? hv2))
    ·rw[if_neg (by rw[hpl'];exact hin)]at hs2
     rw[if_neg (by rw[hul];omega)]at hv2;exact k5.2 i q s2 v hi hs2 hv2
   ·rw[hfo i e]at hs2
    have hne:¬(j * sz+off<=i * sz+q/\i * sz+q<j * sz+off+us.length):=by
     rw[hul];rcases Nat.lt_or_ge i j with hlt|hge
     ·have:(i+1) * sz<=j * sz:=Nat.mul_le_mul_right _ hlt
      rw[Nat.add_mul]at this;omega
     ·have:(j+1) * sz<=i * sz:=Nat.mul_le_mul_right _ (by omega)
      rw[Nat.add_mul]at this;omega
    rw[if_neg hne]at hv2;exact k5.2 i q s2 v hi hs2 hv2
 have hyone:∀u∈ys,u.oneCell'=true:=by
  intro u hu;obtain⟨q,hq⟩:=List.mem_iff_getElem?.1 hu;have hqlt:q<m' * sz:=by rw[<-hysl];exact (List.getElem?_eq_some_iff.1 hq).1
  rw[hyget q hqlt]at hq
  split at hq
  ·exact hone u (List.mem_of_getElem? hq)
  ·exact k4 u (List.mem_of_getElem? hq)
 have hfr':fr=(0,0)\/cur.size<=fr.1:=by
  rcases hfr with h|⟨_,h⟩
  ·exact .inl h
  ·rw[h];exact .inr (Nat.le_refl _)
 have hrun:(Instr.storeAt t (.pointer (some ⟨b,j * sz+off,none⟩)) (a.eval y)).run P w=.ok () (w.setRow b C'):=by
  have hS:=(hc.ti hti).sizeOf w;have hsc:=C9 (P:=P) b (j * sz+off) ty fr us 0 cur w hg2 hfr' (by simpa using hle') hone;have hne:((a.eval y).cells.size≠ti.size)=False:=by
   have:(a.eval y).cells.size=ti.size:=by rw[hsz];rw[<-hU]at hul;simpa using hul
   simp[this]
  simp only[Nat.add_zero]at hsc;simp only[Instr.storeAt,Instr.sureAddr,storeVar,Sem.run_bind,Sem.run_pure,Result.andThen_ok,hS,hne,if_false,hU,hsc];rfl
 have hown':Ck (w.setRow b C') gr ty sz v (m'+0) ys:=by
  refine⟨hysl,.inr ⟨b,cap,C',fr,e1,setRow_heap w b cur C' ty fr hg2,?_,hmc,hcm,by rw[hC's];exact hcs,rfl⟩⟩;rw[hC's];exact hfr
 obtain⟨E',x1,x2,x3,x4,x5⟩:=H9 (h:=h) (e:=ty) (sz:=sz) (n:=m') (m:=0) st (.inr ⟨⟨_,_,_,hsame⟩,k1,kz,k6⟩) k2.shape hown' hyone
  (.inl ⟨rfl,⟨rfl,rfl,rfl,by simp,λk _ hk=>setRow_other w b k C' (λe=>hk (by rw[e,e1];rfl))⟩⟩) (λ_ _=>rfl) (nt':=m) (by simpa using k3) (by simpa using hrow)
 unfold Oper.wp;have:(execOp a.eval o).run P w=.ok .skip (w.setRow b C'):=by
  simp only[execOp,ho,hx,Sem.run_bind,hrun,Result.andThen_ok,Sem.run_pure]
 rw[this];exact hK undef _ E' x1 x2 x3 (.tup rfl (by simp))
theorem Yl(hc:A1 P cx){src dst e:TypeId}{x:Operand}(ho:o.op=.convert src dst x){ts td te:TI}(hls:look src cx.tt=some ts)(hks:ts.k=.string)(hld:look dst cx.tt=some td)(hkd:td.k=.slice e)(hle:look e cx.tt=some te)(hke:te.k=.int .u8)
  {s:List UInt8} (hv:rd cx σ T x=some (.str s)) (hlen:s.length<=maxLen):Ap P cx.gl σ T o ⟨.osl (.l false) (.len s) (Af σ.hp),[.put (Af σ.hp) (.own e (.len s) 1 false (byteRow s))],[],[]⟩:=by
 intro B N E a w ff hf hg st ag agh hT K' Q hK;have hx:=(Aa hv hg st (Ah ag (by simp[ho,Op.operands])) hT).str_inv;have hb:=st.base;have hrun:=run_bytes_of_string (P:=P) w src dst e (bytes s) ((hc.ti hls).string hks) ((hc.ti hld).slice hkd) ((hc.ti hle).int hke);obtain⟨C,hC⟩:∃C,C=bytesRow (bytes s) (grownCap w (bytes s).size 0 e):=⟨_,rfl⟩;rw[<-hC]at hrun;obtain⟨w',hw'⟩:∃w',w'=w.drew.alloc (.cells C e (C.size,C.size+1)):=⟨_,rfl⟩;rw[<-hw']at hrun;have hold:∀b,b<w.heap.size->w'.heap[b]?=w.heap[b]?:=λb hlt=>by rw[hw'];exact RowKit.Below.heap_alloc w.drew _ b hlt
 have hnew:w'.heap[w.heap.size]?=some (.cells C e (C.size,C.size+1)):=by rw[hw'];show (w.heap.push _)[w.heap.size]?=_;simp
 have hsz:w'.heap.size=w.heap.size+1:=by rw[hw'];show (w.heap.push _).size=_;simp
 have hbs:(bytes s).size=s.length:=by simp[bytes,ByteArray.size]
 have hge:=grownCap_ge w (bytes s).size 0 e;have hCs:C.size=grownCap w (bytes s).size 0 e:=by
  have key:∀(b:ByteArray) (c:Nat),b.size<=c->(bytesRow b c).size=c:=by
   intro b c hbc;have:b.data.size=b.size:=rfl;simp only[bytesRow,Array.size_append,Array.size_map,Array.size_replicate];omega
  rw[hC];exact key _ _ hge
 have hCi:∀i,i<s.length->C[i]?=some (.int .u8 ((s.getD i 0).toNat:Int)):=by
  intro i hi;rw[hC];simp[bytesRow,bytes,Array.getElem?_append,hi]
 have hfresh:=Ow agh (List.mem_singleton.2 rfl);have hxsl:(C.toList.take s.length).length=s.length:=by simp;omega
 have hown':Ck w' false e 1 (.slice (some ⟨w.heap.size,0,none⟩) s.length C.size) (0+s.length) (C.toList.take s.length):=by
  refine⟨by rw[hxsl];omega,.inr ⟨w.heap.size,C.size,C,_,by rw[Nat.zero_add],hnew,.inr ⟨rfl,rfl⟩,by omega,?_,by omega,by rw[Nat.zero_add,Nat.mul_one]⟩⟩;rw[hCs];exact grownCap_le_maxLen _ _ _ _ (by rw[hbs];exact hlen)
 have hget:∀(i:Nat) (u:Value),(C.toList.take s.length)[i]?=some u->u=.int .u8 ((s.getD i 0).toNat:Int):=by
  intro i u hu;rw[List.getElem?_take]at hu
  split at hu
  ·rename_i hi
   rw[Array.getElem?_toList,hCi i hi]at hu;exact (Option.some.inj hu).symm
  ·cases hu
 have hin:Fm E w (byteRow s) (0+s.length) 1 (C.toList.take s.length):=by
  refine⟨λi _=>rfl,λi j s' u hi hs hu=>?_⟩;cases j with
  |zero =>
   simp[byteRow]at hs;subst hs;rw[hget _ u (by simpa using hu)];refine .int ?_;simp[ST.den]
  |succ j=>simp[byteRow]at hs
 obtain⟨E',x1,x2,x3,x4,x5⟩:=H9 (h:=Af σ.hp) (e:=e) (sz:=1) (n:=0) (m:=s.length) st (.inl ⟨hfresh,rfl⟩) ⟨_,_,rfl⟩ hown' (λu hu=>by
  obtain⟨i,hi⟩:=List.mem_iff_getElem?.1 hu;rw[hget i u hi];rfl) (.inr ⟨rfl,⟨by rw[hw'];rfl,by rw[hw'];rfl,by rw[hw'];rfl,by omega,λk hk _=>hold k hk⟩⟩) (λh=>absurd hfresh h) (nt':=.len s) (by simp[ST.den]) hin
 unfold Oper.wp;have hex:(execOp a.eval o).run P w=.ok (.value (.slice (some ⟨w.heap.size,0,none⟩) s.length C.size)) w':=by
  simp only[execOp,ho,hx,Sem.run_bind];rw[hrun,hbs,hCs,hbs];rfl
 rw[hex];exact hK _ w' E' x1 x2 x3 (.osl ⟨_,s.length,_,rfl,rfl,by simp[BT.den]⟩ ⟨_,s.length,_,x4,Int.le_refl _,λ_=>rfl⟩)
theorem V7(hc:A1 P cx){src e:TypeId}{x:Operand}(ho:o.op=.convert src src x){td te:TI}(hld:look src cx.tt=some td)(hkd:td.k=.slice e)(hle:look e cx.tt=some te)(hke:te.k=.int .u8)
  {n n0:ST} {h:Nat} {f:Nat->List SV} (hv:rd cx σ T x=some (.osl (.l false) n h)) (hh:nth σ.hp h=some (.own e n0 1 true f)) (h0:n.den=n0.den):Ap P cx.gl σ T o ⟨.osl (.l false) n h,[.put h (.own e n0 1 false f)],[h],[]⟩:=by
 intro B N E a w ff hf hg st ag agh hT K' Q hK;have hrx:=Aa hv hg st (Ah ag (by simp[ho,Op.operands])) hT;have hkk:=st.heap h;have hsame:=Bw agh (List.mem_singleton.2 rfl) hh;rw[hsame]at hkk;obtain⟨v,m,xs,k1,kz,k2,k3,k4,k5,k6⟩:=hkk;obtain⟨hev,hnl⟩:=F2 hrx k1 k2 k3 h0;have hud:=(hc.ti hld).slice hkd;have hue:=(hc.ti hle).int hke;rcases k2.2 with⟨e0,e1⟩|⟨b,cap,cur,fr,e0,hg2,hfr,hmc,hcm,hcs,htake⟩
 ·exact absurd (hnl.2 e0) (by simp[BT.den])
 have hfr0:fr=(0,0):=by
  rcases hfr with hfr|⟨hfr,_⟩
  ·exact hfr
  ·cases hfr
 subst hfr0;have hb:=st.base;have hlt:b<w.heap.size:=(Array.getElem?_eq_some_iff.1 hg2).1;have hwb:(w.freeze ⟨b,cur.size,none⟩ 1).heap[b]?=some (.cells cur e (cur.size,cur.size+1)):=by
  unfold World.freeze;rw[if_neg (by decide)];show (w.heap.modify b _)[b]?=_;rw[Array.getElem?_modify,if_pos rfl,hg2];rfl
 have hwo:∀k,k≠b->(w.freeze ⟨b,cur.size,none⟩ 1).heap[k]?=w.heap[k]?:=λk hk=>by
  unfold World.freeze;rw[if_neg (by decide)];show (w.heap.modify b _)[k]?=_;rw[Array.getElem?_modify,if_neg (λe=>hk e.symm)]
 have hown':Ck (w.freeze ⟨b,cur.size,none⟩ 1) false e 1 v (m+0) xs:=by
  refine⟨k2.1,.inr ⟨b,cap,cur,(cur.size,cur.size+1),e0,hwb,.inr ⟨rfl,rfl⟩,hmc,hcm,hcs,htake⟩⟩
 obtain⟨E',x1,x2,x3,x4,x5⟩:=H9 (h:=h) (e:=e) (sz:=1) (n:=m) (m:=0) st (.inr ⟨⟨_,_,_,hsame⟩,k1,kz,k6⟩) k2.shape hown' k4
  (.inl ⟨rfl,⟨rfl,rfl,rfl,by unfold World.freeze;rw[if_neg (by decide)];simp,λk _ hk=>hwo k (λe=>hk (by rw[e,e0];rfl))⟩⟩) (λ_ _=>rfl) (nt':=n0) (by simpa using k3) (by simpa using k5)
 unfold Oper.wp;have hsh:w.shape? b=some (e,cur.size):=by
  unfold World.shape?;rw[hg2]
 have hrun:(execOp a.eval o).run P w=.ok (.value v) (w.freeze ⟨b,cur.size,none⟩ 1):=by
  simp only[execOp,ho,Sem.run_bind];rw[hev,e0];simp[convert,run_underlying hud,run_underlying hue,markStringish,hsh]
 rw[hrun];obtain⟨a1,c1,e4⟩:=k2.shape;refine hK _ _ E' x1 x2 x3 (.osl ⟨a1,m,c1,e4,by rw[h0,k3],?_⟩ ⟨a1,m,c1,by rw[x4,e4],by rw[h0,k3];exact Int.le_refl _,λ_=>e4⟩);rw[e0]at e4;cases e4;simp[BT.den]
theorem Ym(hc:A1 P cx){src dst e:TypeId}{x:Operand}(ho:o.op=.convert src dst x){ts td te:TI}(hls:look src cx.tt=some ts)(hks:ts.k=.slice e)(hld:look dst cx.tt=some td)(hkd:td.k=.string)(hle:look e cx.tt=some te)(hke:te.k=.int .u8)
  {nl:BT} {n n0:ST} {h:Nat} {ty:TypeId} {gr:Bool} {f:Nat->List SV} (hv:rd cx σ T x=some (.osl nl n h)) (hh:nth σ.hp h=some (.own ty n0 1 gr f)) (h0:n.den=n0.den) {r:List UInt8} (hr:Fi n0.den f/\Iw r n0.den f):Ap P cx.gl σ T o ⟨.str r,[],[h],[]⟩:=by
 intro B N E a w ff hf hg st ag agh hT;obtain⟨hb,hr⟩:=hr;have hrx:=Aa hv hg st (Ah ag (by simp[ho,Op.operands])) hT;have hkk:=st.heap h;rw[Bw agh (List.mem_singleton.2 rfl) hh]at hkk;obtain⟨v,m,xs,k1,kz,k2,k3,k4,k5,k6⟩:=hkk;obtain⟨hev,_⟩:=F2 hrx k1 k2 k3 h0;refine Ad st (v:=.string (bytes r)) ?_ rfl (.ro (.str rfl));simp only[execOp,ho,Sem.run_bind];have hus:=(hc.ti hls).slice hks;have hud:=(hc.ti hld).string hkd;have hue:=(hc.ti hle).int hke;rw[hev];have hrl:r.length=m:=by have:=hr.len;omega
 rcases k2.2 with⟨e0,e1⟩|⟨b,cap,cur,fr,e0,hg2,hfr,hmc,hcm,hcs,htake⟩
 ·have:r=[]:=List.eq_nil_of_length_eq_zero (by omega)
  subst this;rw[e0];simp[convert,run_underlying hus,run_underlying hud,run_underlying hue,Conv.bytesToString,bytes];rfl
 ·have:=run_convert_bytes_back (P:=P) w src dst e ⟨b,0,none⟩ cap r hus hue hud (λj hj=>by
   have hjm:j<m:=by omega
   obtain⟨t,ht,_⟩:=hb.h j (by omega);have e1:=hr.row j t (by omega) ht;have hxlt:j<xs.length:=by rw[k2.1];omega
   obtain⟨xj,hxj⟩:∃xj,xs[j]?=some xj:=⟨_,List.getElem?_eq_getElem hxlt⟩;have hr1:=k5.2 j 0 (.int .u8 t) xj hjm (by rw[ht];rfl) (by simpa using hxj);have hg1:xj=.int .u8 t.den:=(Rel.ro (E:=E) hr1).int_inv;rw[List.getD_eq_getElem?_getD,List.getElem?_eq_getElem hj]at e1;simp only[Option.getD_some]at e1;rw[add_lit,Nat.zero_add,cell_of_row w b j cur ty fr hg2];rw[<-htake,List.getElem?_take,if_pos (by omega),Array.getElem?_toList]at hxj;rw[e1,hxj,hg1])
  rw[hrl]at this;rw[e0,this];rfl
end
end Go.Sx
