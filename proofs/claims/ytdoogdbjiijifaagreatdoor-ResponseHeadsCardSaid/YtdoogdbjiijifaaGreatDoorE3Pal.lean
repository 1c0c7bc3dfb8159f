/- Part of the proofs of the statements about responses and messages (layers 9 and 10): a symbolic executor over the code, that it is sound, and contracts of functions; it has no conditions of its own. -/
import Derived.Test.YtdoogdbjiijifaaGreatDoorE3Pak
namespace Go.Sx
open Go
theorem Aft{B:Bs}{N:Nat}{E:Env}{a:Act}{w:World}{ff:Nat->SG}{hf:Nat->Hl}(st:St B N E a w ff hf){h:Nat}{e:TypeId}{sz:Nat}{a0 a1:Option Addr}{m G c0 c1 M:Nat}{ys:List Value}{w':World}{n0 g0:ST}{f0:Nat->List SV}
  (hold:hf h=.vec e n0 g0 sz f0) (hτ:E.τ h=some (.slice a0 G c0)) (hbo:∀b,(Value.slice a0 m c0).ownBlock=some b->E.O b=some h/\∀o,¬E.I b o)
  (hown':Ck w' false e sz (.slice a1 M c1) M ys) (h1:∀u∈ys,u.oneCell'=true)
  (hblk:((Value.slice a1 M c1).ownBlock=(Value.slice a0 m c0).ownBlock/\w.grownBy w' (Value.slice a0 m c0).ownBlock)\/((Value.slice a1 M c1).ownBlock=some w.heap.size/\w.grownBy w' none))
  {nt gt:ST} (hnt:nt.den=(M:Int)) (hgt:gt.den=((G+1:Nat):Int)) {f':Nat->List SV} (hrow:Fm E w f' M sz ys):
  ∃E',Ext E w E' w'/\Ci B E' w'/\(∀k,HOk E' w' k (upd hf h (.vec e nt gt sz f') k))/\E'.τ h=some (.slice a1 (G+1) c1):=by
 have hb:=st.base;have hbold:∀b,(Value.slice a0 m c0).ownBlock=some b->E.O b=some h/\(∀o,¬E.I b o)/\b<w.heap.size:=λb hbb=>⟨(hbo b hbb).1,(hbo b hbb).2,A5 hb (hbo b hbb).1⟩
 generalize hv:Value.slice a0 m c0=v at *
 generalize hv':Value.slice a1 M c1=v' at *
 let E':Env:=⟨E.β,upd E.τ h (some (.slice a1 (G+1) c1)),λb=>if v'.ownBlock=some b then some h else E.O b,E.κ,E.ζ,E.I⟩
 have hgos:w'.os=w.os/\w'.tape=w.tape/\w'.output=w.output/\w.heap.size<=w'.heap.size:=by
  rcases hblk with⟨_,hg⟩|⟨_,hg⟩<;>exact⟨hg.os,hg.tape,hg.output,hg.size⟩
 have hother:∀b,b<w.heap.size->v.ownBlock≠some b->w'.heap[b]?=w.heap[b]?:=by
  intro b hlt hne;rcases hblk with⟨_,hg⟩|⟨_,hg⟩
  ·exact hg.block b hlt (λe=>hne e.symm)
  ·exact hg.block b hlt (by simp)
 have hI:∀b o,E.I b o->w'.cell? ⟨b,o,none⟩=w.cell? ⟨b,o,none⟩:=by
  intro b o hi;have hlt:=hb.Ibd b o hi;have hne:v.ownBlock≠some b:=λhbv=>(hbold b hbv).2.1 o hi;simp only[World.cell?];rw[hother b hlt hne]
 have hx:Ext E w E' w':=by
  refine⟨λ_ _ h=>h,λk u hk=>?_,λ_ _ h=>h,λ_ _ h=>h,λb o h=>h,hI⟩;show upd E.τ h (some (.slice a1 (G+1) c1)) k=some u\/∃a m' c a' m'' c',u=.slice a m' c/\upd E.τ h (some (.slice a1 (G+1) c1)) k=some (.slice a' m'' c')/\m'<m'';unfold upd
  by_cases e:k=h
  ·subst e
   rw[if_pos rfl];rw[hτ]at hk;cases hk;exact .inr ⟨a0,G,c0,a1,G+1,c1,rfl,rfl,Nat.lt_succ_self _⟩
  ·rw[if_neg e];exact .inl hk
 have hownlt:∀b,v'.ownBlock=some b->b<w'.heap.size:=hown'.lt;have hnew:∀b,v'.ownBlock=some b->B.w0.heap.size<=b\/B.X b:=by
  intro b hbb;rcases hblk with⟨hs,_⟩|⟨hs,_⟩
  ·exact (hb.Obd b h (hbold b (by rw[<-hs];exact hbb)).1).2
  ·rw[hs]at hbb;cases hbb;exact .inl hb.size
 refine⟨E',hx,⟨hgos.1.trans hb.os,hgos.2.1.trans hb.tape,hgos.2.2.1.trans hb.output,Nat.le_trans hb.size hgos.2.2.2,λb hlt hX=>?_,λb o hi=>?_,λb o hi=>?_,hb.Inew,λb k hO=>?_,hb.β0.ext hx⟩,λk=>?_,by simp[E',upd]⟩
 ·have hsz:=hb.size
  rw[hother b (by omega) ?_]
  ·exact hb.old b hlt hX
  ·intro hbv
   rcases (hb.Obd b h (hbold b hbv).1).2 with h|h
   ·omega
   ·exact hX h
 ·obtain⟨i1,i2⟩:=hb.I0 b o hi
  exact⟨i1,by rw[hI b o i1];exact i2⟩
 ·exact Nat.lt_of_lt_of_le (hb.Ibd b o hi) hgos.2.2.2
 ·have hO:(if v'.ownBlock=some b then some h else E.O b)=some k:=hO
  split at hO
  ·rename_i hbb
   exact⟨hownlt b hbb,hnew b hbb⟩
  ·obtain⟨o1,o2⟩:=hb.Obd b k hO
   exact⟨Nat.lt_of_lt_of_le o1 hgos.2.2.2,o2⟩
 ·by_cases e:k=h
  ·subst e
   simp only[upd,if_pos];refine⟨a1,c1,M,G+1,ys,by simp[E',upd],by rw[hv'];exact hown',hnt,hgt,h1,⟨hrow.1,λi j s u a b c=>(hrow.2 i j s u a b c).mono hx.I hx.cell⟩,λb hbb=>?_⟩;rw[hv']at hbb;refine⟨by show (if v'.ownBlock=some b then some k else E.O b)=some k;rw[if_pos hbb],λo hi=>?_⟩;rcases hblk with⟨hs,_⟩|⟨hs,_⟩
   ·exact (hbold b (by rw[<-hs];exact hbb)).2.1 o hi
   ·rw[hs]at hbb;cases hbb
    have:=hb.Ibd _ _ hi;omega
  ·simp only[upd,if_neg e]
   refine HOk.keep hx (st.heap k) rfl (by simp[E',upd,e]) rfl rfl λb hO=>?_;have hlt:=A5 hb hO;have hne:v'.ownBlock≠some b:=by
    intro hbb;rcases hblk with⟨hs,_⟩|⟨hs,_⟩
    ·have:=(hbold b (by rw[<-hs];exact hbb)).1
     rw[hO]at this;exact e (Option.some.inj this)
    ·rw[hs]at hbb;cases hbb;omega
   have hnv:v.ownBlock≠some b:=by
    intro hbb;have:=(hbold b hbb).1;rw[hO]at this;exact e (Option.some.inj this)
   exact⟨by show (if v'.ownBlock=some b then some h else E.O b)=some k;rw[if_neg hne];exact hO,hother b hlt hnv,λo hi=>hi⟩
section
variable {P:Program} {cx:Cx} {σ:Sy} {T:List Nat} {o:Oper} {K:Out->Prop}
theorem Lu{E:Env}{w:World}{h:Nat}{n g g1:ST}{nl:BT}{u:Value}{e:TypeId}{sz m G c:Nat}{a:Option Addr}{xs:List Value}(hr:Rel E w (.vsl nl n g h) u)(hτ:E.τ h=some (.slice a G c))(hown:Ck w false e sz (.slice a m c) m xs)(hn:n.den=(m:Int))(hg:g1.den=(G:Int))(he:g.den=g1.den):
  u=.slice a m c/\(nl.den=true↔Value.slice a m c=.slice none 0 0):=by
 obtain⟨⟨a',k,c',e1,e2,e3⟩,a0,G0,c0,t1,t2,t3⟩:=hr.vsl_inv;rw[hτ]at t1;cases t1;obtain⟨k',q1,q2⟩:=t3 (by rw[he,hg]);have hk:k'=m:=by omega
 subst hk;refine⟨q2,?_⟩;rw[q2]at e1;simp only[Value.slice.injEq]at e1;obtain⟨rfl,_,_⟩:=e1;rw[e3];constructor
 ·rintro rfl
  rcases hown.2 with⟨h1,_⟩|⟨g,cap,cur,fr,h1,_⟩
  ·exact h1
  ·simp at h1
 ·intro h1
  simp only[Value.slice.injEq]at h1;exact h1.1
theorem Yb{E:Env}{w:World}{nl:BT}{n:ST}{ty:TypeId}{sz:Nat}{gr:Bool}{f:Nat->List SV}{u v:Value}{m:Nat}{xs:List Value}(hu:u=v)(hnl:nl.den=true↔v=.slice none 0 0)(hown:Ck w gr ty sz v m xs)(hn:n.den=(m:Int))
  (h1:∀u∈xs,u.oneCell'=true) (hrow:Fm E w f m sz xs):RO (λb o=>E.I b o\/(v.ownBlock=some b/\o<m * sz)) w (.sl nl n sz f) u:=by
 subst hu;rcases hown.2 with⟨e0,e1⟩|⟨b,cap,cur,fr,e0,hg2,hfr,hmc,hcm,hcs,htake⟩
 ·rw[e0]
  exact .slnil (hnl.2 e0) (by rw[hn,e1];rfl)
 ·have hidx:∀i j,i<m->j<sz->i * sz+j<m * sz:=by
   intro i j hi hj;have:(i+1) * sz<=m * sz:=Nat.mul_le_mul_right _ hi;rw[Nat.add_mul]at this;omega
  have hxs:∀i j,i<m->j<sz->xs[i * sz+j]?=some (xs.getD (i * sz+j) undef):=by
   intro i j hi hj;have:=hidx i j hi hj;rw[<-hown.1]at this;rw[List.getD_eq_getElem?_getD,List.getElem?_eq_getElem this];rfl
  rw[e0];refine .sl (λi j=>xs.getD (i * sz+j) undef) ?_ hn hmc hcm (λ_=>rfl) hrow.1 (λi j hi hj=>h1 _ (List.mem_of_getElem? (hxs i j hi hj))) (λi j hi hj=>⟨?_,?_⟩) (λi j s hi hs=>?_)
  ·cases hb:nl.den with
   |false=>rfl
   |true=>rw[hnl.1 hb]at e0;simp at e0
  ·simp only[Nat.zero_add]
   rw[cell_of_row w b _ cur ty fr hg2,<-hxs i j hi hj,<-htake,List.getElem?_take,if_pos (hidx i j hi hj)];simp
  ·simp only[Nat.zero_add]
   exact .inr ⟨rfl,hidx i j hi hj⟩
  ·have hj:j<sz:=by rw[<-hrow.1 i hi];exact (List.getElem?_eq_some_iff.1 hs).1
   exact (hrow.2 i j s _ hi hs (hxs i j hi hj)).mono (λb o h=>.inl h) (λ_ _ _=>rfl)
theorem Yk(hc:A1 P cx){src dst e:TypeId}{x:Operand}(ho:o.op=.convert src dst x){ts td te:TI}(hls:look src cx.tt=some ts)(hks:ts.k=.slice e)(hld:look dst cx.tt=some td)(hkd:td.k=.string)(hle:look e cx.tt=some te)(hke:te.k=.int .u8)
  {nl:BT} {n g n0 g0:ST} {h:Nat} {ty:TypeId} {f:Nat->List SV} (hv:rd cx σ T x=some (.vsl nl n g h)) (hh:nth σ.hp h=some (.vec ty n0 g0 1 f)) (h0:n.den=n0.den) (hge:g.den=g0.den) {r:List UInt8} (hr:Fi n0.den f/\Iw r n0.den f):Ap P cx.gl σ T o ⟨.str r,[],[h],[]⟩:=by
 intro B N E a w ff hf hg st ag agh hT;obtain⟨hb,hr⟩:=hr;have hrx:=Aa hv hg st (Ah ag (by simp[ho,Op.operands])) hT;have hkk:=st.heap h;rw[Bw agh (List.mem_singleton.2 rfl) hh]at hkk;obtain⟨a1,c1,m,G,xs,k1,k2,k3,kg,k4,k5,k6⟩:=hkk;obtain⟨hev,_⟩:=Lu hrx k1 k2 (by rw[h0,k3]) kg hge;refine Ad st (v:=.string (bytes r)) ?_ rfl (.ro (.str rfl));simp only[execOp,ho,Sem.run_bind];have hus:=(hc.ti hls).slice hks;have hud:=(hc.ti hld).string hkd;have hue:=(hc.ti hle).int hke;rw[hev];have hrl:r.length=m:=by have:=hr.len;omega
 rcases k2.2 with⟨e0,e1⟩|⟨b,cap,cur,fr,e0,hg2,hfr,hmc,hcm,hcs,htake⟩
 ·have:r=[]:=List.eq_nil_of_length_eq_zero (by omega)
  subst this;rw[e0];simp[convert,run_underlying hus,run_underlying hud,run_underlying hue,Conv.bytesToString,bytes];rfl
 ·have:=run_convert_bytes_back (P:=P) w src dst e ⟨b,0,none⟩ cap r hus hue hud (λj hj=>by
   have hjm:j<m:=by omega
   obtain⟨t,ht,_⟩:=hb.h j (by omega);have e1:=hr.row j t (by omega) ht;have hxlt:j<xs.length:=by rw[k2.1];omega
   obtain⟨xj,hxj⟩:∃xj,xs[j]?=some xj:=⟨_,List.getElem?_eq_getElem hxlt⟩;have hr1:=k5.2 j 0 (.int .u8 t) xj hjm (by rw[ht];rfl) (by simpa using hxj);have hg1:xj=.int .u8 t.den:=(Rel.ro (E:=E) hr1).int_inv;rw[List.getD_eq_getElem?_getD,List.getElem?_eq_getElem hj]at e1;simp only[Option.getD_some]at e1;rw[add_lit,Nat.zero_add,cell_of_row w b j cur ty fr hg2];rw[<-htake,List.getElem?_take,if_pos (by omega),Array.getElem?_toList]at hxj;rw[e1,hxj,hg1])
  rw[hrl]at this;rw[e0,this];rfl
theorem P0(hc:A1 P cx){c:Call}(ho:o.op=.call c)(hcal:c.callee=.builtin .append){x y:Operand}{t e sz:Nat}{te ti:TI}(hx:c.args.toList=[x,y])(ht:c.argTypes.toList=[t,t])(hlt:look t cx.tt=some ti)(hk:ti.k=.slice e)(hle:look e cx.tt=some te)(hsz:te.size=sz)(hz:0<sz)
  {nl:BT} {n n0 g0 g1:ST} {f:Nat->List SV} {h:Nat} (hvx:rd cx σ T x=some (.vsl nl n g0 h)) (hh:nth σ.hp h=some (.vec e n0 g1 sz f)) {s:SV} (hvy:rd cx σ T y=some s) {m:ST} {g:Nat->List SV} (hrow:Mk sz s=some (m,g))
  (hb:n.den=n0.den/\(n.den+m.den) * te.bytes<=140737488355328/\n.den+m.den<=9223372036854775807) (hge:g0.den=g1.den)
  {f':Nat->List SV} {n' g':Int} (hn':n'=n.den+m.den) (hg':g'=g0.den+1) (hf1:∀i:Nat,(i:Int)<n.den->f' i=f i) (hf':∀i j:Nat,(i:Int)=n.den+j->(j:Int)<m.den->f' i=g j):
  Ap P cx.gl σ T o ⟨.vsl (U9 nl (O7 .eql m (.l 0))) (.a n') (.a g') h,[.put h (.vec e (.a n') (.a g') sz f')],[h],[]⟩:=by
 intro B N E a w ff hf hg st ag agh hT K' Q hK;have mx:x∈o.op.operands.toList:=by simp[ho,Op.operands,Call.operands,hcal,hx]
 have my:y∈o.op.operands.toList:=by simp[ho,Op.operands,Call.operands,hcal,hx]
 have hrx:=Aa hvx hg st (Ah ag mx) hT;have hry:=Aa hvy hg st (Ah ag my) hT;obtain⟨k,news,r1,r2,r3,r4,r5⟩:=Ja hrow hry;have hkk:=st.heap h;have hsame:=Bw agh (List.mem_singleton.2 rfl) hh;rw[hsame]at hkk;obtain⟨a0,c0,nn,G,xs,k1,k2,k3,kg,k4,k5,k6⟩:=hkk;obtain⟨hv,hnl⟩:=Lu hrx k1 k2 (by rw[hb.1,k3]) kg hge;have hnn:n.den=(nn:Int):=by rw[hb.1,k3]
 have hbk:(nn+k) * te.bytes<=140737488355328:=by
  have:=hb.2.1;rw[hnn,r1]at this;have h:(((nn+k) * te.bytes:Nat):Int)<=140737488355328:=by rw[Int.natCast_mul,Int.natCast_add];exact this
  omega
 obtain⟨v',w',l1,l2,l3,l4,l5,l6⟩:=Rh (P:=P) (ty:=o.type) ((hc.ti hlt).slice hk) (hc.ti hle) hsz hz k2 r3 (by have:=hb.2.2;rw[hnn,r1]at this;simp only[maxLen];omega) hbk;have h1all:∀u∈xs++news,u.oneCell'=true:=λu hu=>by
  rcases List.mem_append.1 hu with hu|hu
  ·exact k4 u hu
  ·exact r3.2.1 u hu
 have hnt:(ST.a n').den=((nn+k:Nat):Int):=by simp only[ST.den,hn',hnn,r1];omega
 have hgt:(ST.a g').den=((G+1:Nat):Int):=by simp only[ST.den,hg',hge,kg];omega
 have hin:Fm E w f' (nn+k) sz (xs++news):=by
  refine⟨λi hi=>?_,λi j s u hi hs hu=>?_⟩
  ·by_cases hin:i<nn
   ·rw[hf1 i (by omega)];exact k5.1 i hin
   ·rw[hf' i (i-nn) (by omega) (by omega)];exact r4 (i-nn) (by omega)
  ·by_cases hin:i<nn
   ·rw[hf1 i (by omega)]at hs
    have hj:j<sz:=by rw[<-k5.1 i hin];exact (List.getElem?_eq_some_iff.1 hs).1
    have:(i+1) * sz<=nn * sz:=Nat.mul_le_mul_right _ hin;rw[Nat.add_mul]at this;rw[List.getElem?_append_left (by rw[k2.1];omega)]at hu;exact k5.2 i j s u hin hs hu
   ·rw[hf' i (i-nn) (by omega) (by omega)]at hs
    have e1:i * sz+j=nn * sz+((i-nn) * sz+j):=by
     have:i * sz=nn * sz+(i-nn) * sz:=by rw[<-Nat.add_mul];congr 1;omega
     omega
    rw[List.getElem?_append_right (by rw[k2.1];omega),k2.1,e1,Nat.add_sub_cancel_left]at hu;exact r5 (i-nn) j s u (by omega) hs hu
 obtain⟨a1,c1,e0⟩:=l5;subst e0;obtain⟨E',x1,x2,x3,x4⟩:=Aft (h:=h) (e:=e) (sz:=sz) st hsame k1 k6 l2 h1all l4 hnt hgt hin;unfold Oper.wp;rw[Dr ho hcal hx ht (a:=a) (w:=w) (w':=w') (v':=.slice a1 (nn+k) c1) (by rw[hv];exact l1)];refine hK _ w' E' x1 x2 x3 (.vsl ⟨a1,nn+k,c1,rfl,hnt,?_⟩ ⟨a1,G+1,c1,x4,by rw[hgt];exact Int.le_refl _,λ_=>⟨_,hnt,rfl⟩⟩);have hnil:(Value.slice a1 (nn+k) c1=.slice none 0 0)↔a1=none:=by
  constructor
  ·intro h;simp only[Value.slice.injEq]at h;exact h.1
  ·rintro rfl
   rcases l2.2 with⟨h1,_⟩|⟨g,cap,cur,fr,h1,_⟩
   ·exact h1
   ·simp at h1
 rw[<-hnil,Lr,Hx,l3];simp only[B9,ST.den,r1,Bool.and_eq_true,beq_iff_eq];rw[hnl];constructor
 ·rintro⟨h1,h2⟩;exact⟨h1,by omega⟩
 ·rintro⟨h1,h2⟩;exact⟨h1,by omega⟩
theorem Vu(hc:A1 P cx){c:Call}(ho:o.op=.call c)(hcal:c.callee=.builtin .len){x:Operand}{t:Nat}{ti:TI}(hx:c.args.toList=[x])(ht:c.argTypes.toList=[t])(hl:look t cx.tt=some ti){e:TypeId}(hk:ti.k=.slice e)
  {nl:BT} {n g:ST} {h:Nat} (hv:rd cx σ T x=some (.vsl nl n g h)):Ap P cx.gl σ T o ⟨.int .i64 n,[],[],[]⟩:=by
 intro B N E a w ff hf' hg st ag agh hT;have hmem:x∈o.op.operands.toList:=by simp[ho,Op.operands,Call.operands,hcal,hx]
 obtain⟨⟨a0,m,c0,e3,e4,_⟩,_⟩:=(Aa hv hg st (Ah ag hmem) hT).vsl_inv;have e1:c.args=#[x]:=Array.ext' (by simpa using hx);have e2:c.argTypes=#[t]:=Array.ext' (by simpa using ht);have hrun:=F6 hc hl hk (w:=w) (a:=a0) (m:=m) (c:=c0) (ty:=o.type);refine Ad st (v:=.int .i64 m) ?_ rfl (.int e4);simp[execOp,ho,resolve,hcal,e1,e2,invoke,builtin,e3,hrun]
theorem Ui(w:World)(r:Option Nat):w.grownBy w r:=⟨rfl,rfl,rfl,Nat.le_refl _,λ_ _ _=>rfl⟩
theorem Rk(hc:A1 P cx){t e sz:Nat}{ti:TI}(hl:look t cx.tt=some ti)(hk:ti.k=.slice e){te:TI}(hle:look e cx.tt=some te){x:Operand}{lo hi:Option Operand}(ho:o.op=.slice t x lo hi none){nl:BT}{n n0 g0 g1:ST}{f:Nat->List SV}{h:Nat}
  (hv:rd cx σ T x=some (.vsl nl n g0 h)) (hh:nth σ.hp h=some (.vec e n0 g1 sz f)) (hlo:Eb cx σ T lo=some none) {k:IntKind} {b:ST} (hhi:Eb cx σ T hi=some (some (.int k b)))
  (h0:n.den=n0.den) (hge:g0.den=g1.den) (hob:0<=b.den/\b.den<=n.den) {g':Int} (hg':g'=g0.den+1) (_hT0:Bh (Ac σ.gm T)):Ap P cx.gl σ T o ⟨.vsl nl (.a b.den) (.a g') h,[.put h (.vec e (.a b.den) (.a g') sz f)],[h],[]⟩:=by
 intro B N E a w ff hf' hg st ag agh hT K' Q hK;have hrx:=Aa hv hg st (Ah ag (by simp[ho,Op.operands])) hT;have h1:=Dq hg st hT hlo (λy hy=>Ah ag (by subst hy;simp[ho,Op.operands])) (d:=.l 0) (t:=.l 0) rfl;have h2:=Dq hg st hT hhi (λy hy=>Ah ag (by subst hy;simp[ho,Op.operands])) (d:=.l 0) (t:=b) rfl;have hhin:hi≠none:=by rintro rfl;simp[Eb]at hhi
 have hlon:lo=none:=by
  cases lo with
  |none=>rfl
  |some y =>
   simp only[Eb]at hlo
   split at hlo<;>simp at hlo
 subst hlon;have hhi':∃k,hi.map a.eval=some (.int k b.den):=by
  rcases h2 with⟨rfl,_⟩|⟨y,k,rfl,e⟩
  ·exact absurd rfl hhin
  ·exact⟨k,by simp[e]⟩
 have hkk:=st.heap h;have hsame:=Bw agh (List.mem_singleton.2 rfl) hh;rw[hsame]at hkk;obtain⟨a0,c0,m,G,xs,k1,k2,k3,kg,k4,k5,k6⟩:=hkk;obtain⟨hv',hnl⟩:=Lu hrx k1 k2 (by rw[h0,k3]) kg hge;have hu:=(hc.ti hl).slice hk;have hS:=(hc.ti hle).sizeOf w;have hmn:n.den=(m:Int):=by rw[h0,k3]
 have hcap:m<=c0:=by
  rcases k2.2 with⟨e1,e2⟩|⟨g,cap,cur,fr,e1,_,_,e2,_⟩
  ·omega
  ·simp only[Value.slice.injEq]at e1;omega
 have hbb:=Fs (P:=P) (sl:=true) (len:=m) (cap:=c0) (lo:=none) (hi:=hi.map a.eval) (l:=0) (h:=b.den) (w:=w) (.inl ⟨rfl,rfl⟩) (.inr hhi') (Int.le_refl _) hob.1 (by omega) hcap;have hrun:(execOp a.eval o).run P w=.ok (.value (.slice a0 b.den.toNat c0)) w:=by
  cases a0 with
  |none =>
   have:m=0/\c0=0:=by
    rcases k2.2 with⟨e1,e2⟩|⟨g,cap,cur,fr,e1,_⟩
    ·simp only[Value.slice.injEq,true_and]at e1;exact e1
    ·simp at e1
   obtain⟨rfl,rfl⟩:=this;have hb0:b.den=0:=by omega
   simp[execOp,ho,hv',Instr.sliceAt,Instr.slice,run_underlying hu,hbb,hS,hb0]
  |some ad =>
   have hadd:ad.add 0=ad:=by
    unfold Addr.add
    split<;>simp_all
   by_cases hc0:c0=0
   ·subst hc0
    simp[execOp,ho,hv',Instr.sliceAt,Instr.slice,run_underlying hu,hbb,hS]
   ·simp[execOp,ho,hv',Instr.sliceAt,Instr.slice,run_underlying hu,hbb,hS,hadd,hc0]
 have hbn:((b.den.toNat:Nat):Int)=b.den:=by omega
 have hle':b.den.toNat<=m:=by omega
 have hown':Ck w false e sz (.slice a0 b.den.toNat c0) b.den.toNat (xs.take (b.den.toNat * sz)):=by
  have hmul:b.den.toNat * sz<=m * sz:=Nat.mul_le_mul_right _ hle';refine⟨by rw[List.length_take,k2.1];omega,?_⟩;rcases k2.2 with⟨e1,e2⟩|⟨g,cap,cur,fr,e1,e2,e3,e4,e5,e6,e7⟩
  ·simp only[Value.slice.injEq]at e1
   obtain⟨rfl,_,rfl⟩:=e1;exact .inl ⟨by simp;omega,by omega⟩
  ·simp only[Value.slice.injEq]at e1
   obtain⟨rfl,_,rfl⟩:=e1;refine .inr ⟨g,c0,cur,fr,rfl,e2,e3,by omega,e5,e6,?_⟩;rw[<-e7,List.take_take];congr 1;omega
 obtain⟨E',x1,x2,x3,x4⟩:=Aft (h:=h) (e:=e) (sz:=sz) (w':=w) (nt:=.a b.den) (gt:=.a g') (f':=f) st hsame k1 k6 hown' (λu hu=>k4 u (List.mem_of_mem_take hu)) (.inl ⟨by cases a0<;>rfl,Ui w _⟩) (by simp only[ST.den];omega) (by simp only[ST.den,hg',hge,kg];omega)
  ⟨λi hi=>k5.1 i (by omega),λi j s u hi hs hu=>k5.2 i j s u (by omega) hs (by
   rw[List.getElem?_take]at hu
   split at hu
   ·exact hu
   ·cases hu)⟩
 unfold Oper.wp;rw[hrun];refine hK _ w E' x1 x2 x3 (.vsl ⟨a0,b.den.toNat,c0,rfl,by simp only[ST.den];omega,?_⟩ ⟨a0,G+1,c0,x4,by simp only[ST.den,hg',hge,kg];omega,λ_=>⟨_,by simp only[ST.den];omega,rfl⟩⟩);obtain⟨⟨a',k',c',e1,e2,e3⟩,_⟩:=hrx.vsl_inv;rw[hv']at e1;simp only[Value.slice.injEq]at e1;obtain⟨rfl,_,_⟩:=e1;exact e3
theorem T5(hc:A1 P cx){t len e:Nat}{ps:Array (Nat×Operand)}(ho:o.op=.buildSlice t len ps){ti te:TI}(hlt:look t cx.tt=some ti)(hk:ti.k=.slice e)(hle:look e cx.tt=some te){vs:List (Nat×SV)}(hv:F1 cx σ T ps.toList=some vs)(h1:N8 vs=true)
  {cs:List SV} (hf:Aj.fillS te.size (Aj.repN len te.zero) vs=some cs) (hpl:Al (.agg (loose.looseL (norm.normL dn cs)))=true) (hz:0<te.size) (hbig:len * te.size<=16777216):
  Ap P cx.gl σ T o ⟨.osl (.l false) (.l len) (Af σ.hp),[.put (Af σ.hp) (.own e (.l len) te.size true λk=>Bf te.size (C3 (k * te.size) (loose.looseL (norm.normL dn cs))))],[],[]⟩:=by
 intro B N E a w ff hf' hg st ag agh hT K' Q hK;have hag:∀p∈ps.toList,∀s∈Cu p.2,ff s=Ba σ s:=λp hp=>Ah ag (by simp only[ho,Op.operands];simp;exact⟨p.1,by simpa using hp⟩);obtain⟨h2,h3⟩:=Eh hg st hT ps.toList vs hag hv;obtain⟨z,hzr,hzrel,hz1⟩:=(hc.ti hle).zero E w;have hzl:=(hc.ti hle).zlen;have hzsz:z.cells.size=te.size:=by have:=hzrel.1;rw[hzl]at this;simpa using this.symm
 have hus:∀(j:Nat) (p:Nat×SV) (q:Nat×Value),vs[j]?=some p->((ps.map λ(x:Nat×Operand)=>(x.1,a.eval x.2)).toList)[j]?=some q->p.1=q.1/\Rel E w p.2 q.2:=by
  intro j p q hp hq;rw[Array.toList_map,List.getElem?_map]at hq;cases hpj:ps.toList[j]? with
  |none=>rw[hpj]at hq;cases hq
  |some x =>
   rw[hpj]at hq;simp only[Option.map_some,Option.some.injEq]at hq;subst hq;exact h3 j p x hp hpj
 -- the zero cells
 let C0:List Value:=(List.range (len * te.size)).map λq=>z.cells.toList.getD (q % te.size) undef
 have hC0:A2 E w (Aj.repN len te.zero) C0:=by
  refine⟨by rw[Ee,hzl];simp[C0],λi s v hs hv=>?_⟩;have hlt:i<len * te.size:=by
   have:=(List.getElem?_eq_some_iff.1 hs).1
   rwa [Ee,hzl]at this
  rw[Ny _ _ (by rw[hzl];exact hlt),hzl]at hs;simp[C0,hlt]at hv;have hm:i % te.size<z.cells.size:=by rw[hzsz];exact Nat.mod_lt _ hz
  refine hzrel.2 (i % te.size) s v hs ?_;rw[<-hv];simp[hm]
 have hC01:∀u∈C0,u.oneCell'=true:=by
  intro u hu;simp only[C0,List.mem_map,List.mem_range]at hu;obtain⟨q,_,rfl⟩:=hu;have hm:q % te.size<z.cells.toList.length:=by simp[hzsz];exact Nat.mod_lt _ hz
  rw[List.getD_eq_getElem?_getD,List.getElem?_eq_getElem hm];exact hz1 _ (List.getElem_mem hm)
 obtain⟨C',c1,c2,c3⟩:=Ic vs (ps.map λ(x:Nat×Operand)=>(x.1,a.eval x.2)).toList _ cs C0 (by simp[h2]) hus (Je h1) hC0 hC01 hf;have hlen':C'.length=len * te.size:=by
  rw[<-c2.1];have:∀(vs:List (Nat×SV)) (cs cs':List SV),Aj.fillS te.size cs vs=some cs'->cs'.length=cs.length:=by
   intro vs
   induction vs with
   |nil=>intro cs cs' h;simp[Aj.fillS]at h;rw[h]
   |cons p vs ih =>
    intro cs cs' h;obtain⟨i,v⟩:=p;simp only[Aj.fillS]at h
    split at h
    ·rw[ih _ _ h,Db]
    ·cases h
  rw[this vs _ cs hf,Ee,hzl]
 have hrun:(Instr.buildSlice t len (ps.map λ(x:Nat×Operand)=>(x.1,a.eval x.2))).run P w=.ok (.slice (some ⟨w.heap.size,0,none⟩) len len) (w.alloc (.cells ⟨C'⟩ e)):=by
  have hu:=(hc.ti hlt).slice hk;have hS:=(hc.ti hle).sizeOf w;have harr:((Array.range (len * te.size)).map (λq=>z.cells[q % z.cells.size]!))=(⟨C0⟩:Array Value):=by
   apply Array.ext';simp only[Array.toList_map,Array.toList_range,C0];refine List.map_congr_left λq _=>?_;rw[hzsz,List.getD_eq_getElem?_getD,Array.getElem!_eq_getD,Array.getD_eq_getD_getElem?,Array.getElem?_toList];have hm:q % te.size<z.cells.size:=by rw[hzsz];exact Nat.mod_lt _ hz
   simp[hm]
  have hbig':¬(16777216<len * te.size):=by omega
  simp only[Instr.buildSlice,Sem.run_bind,run_underlying hu,Result.andThen_ok,hS,gt_iff_lt]
  by_cases h0:len * te.size=0
  ·have hC0n:C0=[]:=by simp[C0,h0]
   rw[hC0n]at c1;rw[Array.toList_map]at c1;have hemp:Array.map (λ_=>(default:Value)) (Array.range 0)=⟨[]⟩:=by simp
   simp[h0,newRow,newObj]
   first|rw[hemp,c1]|(simp at c1 ⊢;rw[c1])
   simp[Sem.run]
  ·rw[Array.toList_map]at c1
   simp[h0,hbig',hzr,harr,newRow,newObj];rw[c1];simp[Sem.run]
 have hfresh:hf' (Af σ.hp)=.fresh:=by
  have:=agh.efs _ (List.mem_singleton.2 rfl);simp only[AgE,Aq,Ag,Ae]at this;rw[Ae,this];simp
 have hmax:len<=maxLen:=by
  simp only[maxLen];have:len<=len * te.size:=Nat.le_mul_of_pos_right _ hz;omega
 have hown0:=World.ownsRow_lit w (base:=0) (e:=e) (size:=te.size) ⟨C'⟩ len (Nat.zero_le _) hmax (by simpa using hlen');have hown':Ck (w.alloc (.cells ⟨C'⟩ e)) true e te.size (.slice (some ⟨w.heap.size,0,none⟩) len len) (0+len) C':=by rw[Nat.zero_add];exact Ww true (by simpa using hown0)
 have hpc:∀c∈loose.looseL (norm.normL dn cs),Al c=true:=by
  simp only[Al]at hpl;exact (Cw _).1 hpl
 have hcells:A2 E w (loose.looseL (norm.normL dn cs)) C':=by
  rw[Cd,Cl];exact (c2.map _ λs v _ h=>h.norm).map _ λs v _ h=>h.loose
 have hget:∀(i j:Nat) (s:SV),(Bf te.size (C3 (i * te.size) (loose.looseL (norm.normL dn cs))))[j]?=some s->(loose.looseL (norm.normL dn cs))[i * te.size+j]?=some s:=by
  intro i j s hs;rw[A9,Bo,List.getElem?_take]at hs
  split at hs
  ·rwa [List.getElem?_drop]at hs
  ·cases hs
 have hin:Fm E w (λk=>Bf te.size (C3 (k * te.size) (loose.looseL (norm.normL dn cs)))) (0+len) te.size C':=by
  rw[Nat.zero_add];refine⟨λj hj=>?_,λi j s u hi hs hu=>?_⟩
  ·show (Bf te.size (C3 (j * te.size) _)).length=te.size
   rw[A9,Bo,List.length_take,List.length_drop,hcells.1,hlen'];have:(j+1) * te.size<=len * te.size:=Nat.mul_le_mul_right _ hj;rw[Nat.add_mul]at this;omega
  ·have hs':=hget i j s hs
   exact (hcells.2 _ s u hs' hu).plainOne (hpc s (List.mem_of_getElem? hs')) (c3 u (List.mem_of_getElem? hu))
 obtain⟨E',x1,x2,x3,x4,x5⟩:=H9 (h:=Af σ.hp) (e:=e) (sz:=te.size) (n:=0) (m:=len) st (.inl ⟨hfresh,rfl⟩) ⟨_,_,rfl⟩ hown' c3 (.inr ⟨rfl,World.grownBy_alloc w _ none⟩) (λh=>absurd hfresh h) (nt':=.l len) (by simp[ST.den]) hin;unfold Oper.wp;have:(execOp a.eval o).run P w=.ok (.value (.slice (some ⟨w.heap.size,0,none⟩) len len)) (w.alloc (.cells ⟨C'⟩ e)):=by
  simp only[execOp,ho,Sem.run_bind];rw[hrun];rfl
 rw[this];exact hK _ _ E' x1 x2 x3 (.osl ⟨_,len,_,rfl,rfl,by simp[BT.den]⟩ ⟨_,len,_,by rw[x4],by simp[ST.den],λ_=>rfl⟩)
theorem Mh(hc:A1 P cx){t e:Nat}{ti:TI}(hl:look t cx.tt=some ti)(hk:ti.k=.slice e){te:TI}(hle:look e cx.tt=some te){a0:Option Addr}{m c0:Nat}{lo hi:Option Value}{l h:Nat}{w:World}
  (hb:(Instr.sliceBounds true m c0 lo hi none).run P w=.ok (l,h,c0) w):(Instr.sliceAt t (.slice a0 m c0) lo hi none).run P w=.ok (.slice (if c0=l then a0 else a0.map (·.add (l * te.size))) (h-l) (c0-l)) w:=by
 have hu:=(hc.ti hl).slice hk;have hS:=(hc.ti hle).sizeOf w;simp[Instr.sliceAt,Instr.slice,run_underlying hu,hb,hS]
theorem Wx{w:World}{gr:Bool}{e:TypeId}{sz m c0:Nat}{a0:Option Addr}{xs:List Value}(k2:Ck w gr e sz (.slice a0 m c0) m xs):m<=c0:=by
 rcases k2.2 with⟨e1,e2⟩|⟨g,cap,cur,fr,e1,_,_,e2,_⟩
 ·omega
 ·simp only[Value.slice.injEq]at e1;omega
theorem Oe(hc:A1 P cx){t e sz:Nat}{ti:TI}(hl:look t cx.tt=some ti)(hk:ti.k=.slice e){te:TI}(hle:look e cx.tt=some te){x:Operand}{lo hi:Option Operand}(ho:o.op=.slice t x lo hi none){nl:BT}{n n0:ST}{gr:Bool}{f:Nat->List SV}{h:Nat}
  (hv:rd cx σ T x=some (.osl nl n h)) (hh:nth σ.hp h=some (.own e n0 sz gr f)) (hlo:Eb cx σ T lo=some none) {k:IntKind} {b:ST} (hhi:Eb cx σ T hi=some (some (.int k b)))
  (h0:n.den=n0.den) (hob:0<=b.den/\b.den<=n.den) (_hT0:Bh (Ac σ.gm T)):Ap P cx.gl σ T o ⟨.sl nl (.a b.den) sz f,[.put h .gone],[h],[]⟩:=by
 intro B N E a w ff hf' hg st ag agh hT K' Q hK;have hrx:=Aa hv hg st (Ah ag (by simp[ho,Op.operands])) hT;have h2:=Dq hg st hT hhi (λy hy=>Ah ag (by subst hy;simp[ho,Op.operands])) (d:=.l 0) (t:=b) rfl;have hhin:hi≠none:=by rintro rfl;simp[Eb]at hhi
 have hlon:lo=none:=by
  cases lo with
  |none=>rfl
  |some y =>
   simp only[Eb]at hlo
   split at hlo<;>simp at hlo
 subst hlon;have hhi':∃k,hi.map a.eval=some (.int k b.den):=by
  rcases h2 with⟨rfl,_⟩|⟨y,k,rfl,e⟩
  ·exact absurd rfl hhin
  ·exact⟨k,by simp[e]⟩
 have hkk:=st.heap h;have hsame:=Bw agh (List.mem_singleton.2 rfl) hh;rw[hsame]at hkk;obtain⟨v,m,xs,k1,kz,k2,k3,k4,k5,k6⟩:=hkk;obtain⟨hv',hnl⟩:=F2 hrx k1 k2 k3 h0;obtain⟨a0,c0,rfl⟩:=k2.shape;have hmn:n.den=(m:Int):=by rw[h0,k3]
 have hcap:=Wx k2;have hbb:=Fs (P:=P) (sl:=true) (len:=m) (cap:=c0) (lo:=none) (hi:=hi.map a.eval) (l:=0) (h:=b.den) (w:=w) (.inl ⟨rfl,rfl⟩) (.inr hhi') (Int.le_refl _) hob.1 (by omega) hcap;have hval:(if c0=0 then a0 else a0.map (·.add (0 * te.size)))=a0:=by
  split
  ·rfl
  ·rcases k2.2 with⟨e1,_⟩|⟨g,cap,cur,fr,e1,_⟩
   ·simp only[Value.slice.injEq]at e1;rw[e1.1];rfl
   ·simp only[Value.slice.injEq]at e1;rw[e1.1];simp[add_lit]
 have hrun:(execOp a.eval o).run P w=.ok (.value (.slice a0 b.den.toNat c0)) w:=by
  have:=Mh hc hl hk hle (a0:=a0) hbb;have hval':(if c0=(0:Int).toNat then a0 else a0.map (·.add ((0:Int).toNat * te.size)))=a0:=hval;rw[hval']at this;simp only[execOp,ho,hv',Sem.run_bind,Option.map_none];rw[this];rfl
 have hle':b.den.toNat<=m:=by omega
 have hown':Ck w gr e sz (.slice a0 b.den.toNat c0) b.den.toNat (xs.take (b.den.toNat * sz)):=by
  have hmul:b.den.toNat * sz<=m * sz:=Nat.mul_le_mul_right _ hle';refine⟨by rw[List.length_take,k2.1];omega,?_⟩;rcases k2.2 with⟨e1,e2⟩|⟨g,cap,cur,fr,e1,e2,e3,e4,e5,e6,e7⟩
  ·simp only[Value.slice.injEq]at e1
   obtain⟨rfl,_,rfl⟩:=e1;exact .inl ⟨by simp;omega,by omega⟩
  ·simp only[Value.slice.injEq]at e1
   obtain⟨rfl,_,rfl⟩:=e1;refine .inr ⟨g,c0,cur,fr,rfl,e2,e3,by omega,e5,e6,?_⟩;rw[<-e7,List.take_take];congr 1;omega
 have hnl':nl.den=true↔Value.slice a0 b.den.toNat c0=.slice none 0 0:=by
  rw[hnl];constructor
  ·intro e1
   simp only[Value.slice.injEq]at e1 ⊢;exact⟨e1.1,by omega,e1.2.2⟩
  ·intro e1
   simp only[Value.slice.injEq]at e1 ⊢;refine⟨e1.1,?_,e1.2.2⟩;have:=e1.2.2;omega
 have hrow:Fm E w f b.den.toNat sz (xs.take (b.den.toNat * sz)) :=
  ⟨λi hi=>k5.1 i (by omega),λi j s u hi hs hu=>k5.2 i j s u (by omega) hs (by
   rw[List.getElem?_take]at hu
   split at hu
   ·exact hu
   ·cases hu)⟩
 have hro:=Yb (nl:=nl) (n:=.a b.den) rfl hnl' hown' (by simp only[ST.den];omega) (λu hu=>k4 u (List.mem_of_mem_take hu)) hrow;have hbase:=st.base
 let E':Env:=⟨E.β,E.τ,E.O,E.κ,E.ζ,λb' o=>E.I b' o\/((Value.slice a0 b.den.toNat c0).ownBlock=some b'/\o<b.den.toNat * sz)⟩
 have hx:Ext E w E' w:=⟨λ_ _ h=>h,λ_ _ h=>.inl h,λ_ _ h=>h,λ_ _ h=>h,λ_ _ h=>.inl h,λ_ _ _=>rfl⟩;have hbl:∀b',(Value.slice a0 b.den.toNat c0).ownBlock=some b'->E.O b'=some h:=λb' hb=>(k6 b' (by cases a0<;>exact hb)).1;unfold Oper.wp;rw[hrun];refine hK _ w E' hx ⟨hbase.os,hbase.tape,hbase.output,hbase.size,hbase.old,λb' o hi=>?_,λb' o hi=>?_,λb' o hi=>?_,hbase.Obd,hbase.β0.ext hx⟩ (λk=>?_) (.ro hro)
 ·obtain⟨i1,i2⟩:=hbase.I0 b' o hi;exact⟨.inl i1,i2⟩
 ·rcases hi with hi|⟨hb,_⟩
  ·exact hbase.Ibd b' o hi
  ·exact A5 hbase (hbl b' hb)
 ·rcases hi with hi|⟨hb,_⟩
  ·exact hbase.Inew b' o hi
  ·exact .inr (hbase.Obd b' h (hbl b' hb)).2
 ·show HOk E' w k (upd hf' h .gone k)
  by_cases e:k=h
  ·subst e
   simp only[upd,if_pos]
   trivial
  ·simp only[upd,if_neg e]
   refine HOk.keep hx (st.heap k) rfl rfl rfl rfl λb' hO=>⟨hO,rfl,λo hi=>?_⟩;rcases hi with hi|⟨hb,_⟩
   ·exact hi
   ·rw[hbl b' hb]at hO;exact absurd (Option.some.inj hO).symm e
theorem Pw(hc:A1 P cx){t e sz:Nat}{ti:TI}(hl:look t cx.tt=some ti)(hk:ti.k=.slice e)(hsz:size? cx e=some sz){x:Operand}{lo hi:Option Operand}(ho:o.op=.slice t x lo hi none){nl:BT}{n n0:ST}{gr:Bool}{e':TypeId}{f:Nat->List SV}{h:Nat}
  (hv:rd cx σ T x=some (.osl nl n h)) (hh:nth σ.hp h=some (.own e' n0 sz gr f)) (hhi:Eb cx σ T hi=some none) {k:IntKind} {b:ST} (hlo:Eb cx σ T lo=some (some (.int k b)))
  (h0:n.den=n0.den) (hob:0<=b.den/\b.den<=n.den):Ap P cx.gl σ T o ⟨.tsl n b h,[],[h],[]⟩:=by
 intro B N E a w ff hf' hg st ag agh hT;have hrx:=Aa hv hg st (Ah ag (by simp[ho,Op.operands])) hT;have h2:=Dq hg st hT hlo (λy hy=>Ah ag (by subst hy;simp[ho,Op.operands])) (d:=.l 0) (t:=b) rfl;have hlon:lo≠none:=by rintro rfl;simp[Eb]at hlo
 have hhin:hi=none:=by
  cases hi with
  |none=>rfl
  |some y =>
   simp only[Eb]at hhi
   split at hhi<;>simp at hhi
 subst hhin;have hlo':∃k,lo.map a.eval=some (.int k b.den):=by
  rcases h2 with⟨rfl,_⟩|⟨y,k,rfl,e⟩
  ·exact absurd rfl hlon
  ·exact⟨k,by simp[e]⟩
 have hkk:=st.heap h;have hsame:=Bw agh (List.mem_singleton.2 rfl) hh;rw[hsame]at hkk;obtain⟨v,m,xs,k1,kz,k2,k3,k4,k5,k6⟩:=hkk;obtain⟨hv',hnl⟩:=F2 hrx k1 k2 k3 h0;obtain⟨a0,c0,rfl⟩:=k2.shape;have hmn:n.den=(m:Int):=by rw[h0,k3]
 have hcap:=Wx k2;obtain⟨te,hle,hte⟩:=size?_ti hsz;have hbb:=Fs (P:=P) (sl:=true) (len:=m) (cap:=c0) (lo:=lo.map a.eval) (hi:=none) (l:=b.den) (h:=(m:Int)) (w:=w) (.inr hlo') (.inl ⟨rfl,rfl⟩) hob.1 (by omega) (Int.le_refl _) hcap;have hrun:=Mh hc hl hk hle (a0:=a0) hbb;refine Ad st (v:=Afa a0 m c0 sz b.den.toNat) ?_ rfl (.tsl ⟨_,_,_,rfl⟩ ⟨a0,m,c0,sz,k1,kz,by omega,λ_=>⟨b.den.toNat,by omega,by omega,rfl⟩⟩);simp only[execOp,ho,hv',Sem.run_bind,Option.map_none];rw[hrun,<-hte];rfl
theorem Rx(hc:A1 P cx){c:Call}(ho:o.op=.call c)(hcal:c.callee=.builtin .clear){x:Operand}{t e sz:Nat}{te ti:TI}(hx:c.args.toList=[x])(ht:c.argTypes.toList=[t])(hlt:look t cx.tt=some ti)(hk:ti.k=.slice e)(hle:look e cx.tt=some te)(hsz:te.size=sz)
  {n n0 aa:ST} {gr:Bool} {f f':Nat->List SV} {h:Nat} (hv:rd cx σ T x=some (.tsl n aa h)) (hh:nth σ.hp h=some (.own e n0 sz gr f)) (h0:n.den=n0.den) (hpl:Al (.agg te.zero)=true)
  (hf1:∀i:Nat,(i:Int)<aa.den->f' i=f i) (hf2:∀i:Nat,aa.den<=(i:Int)->f' i=te.zero) (_hT0:Bh (Ac σ.gm T)):Ap P cx.gl σ T o ⟨.tup [],[.put h (.own e n0 sz gr f')],[h],[]⟩:=by
 intro B N E a w ff hf hg st ag agh hT K' Q hK;have mx:x∈o.op.operands.toList:=by simp[ho,Op.operands,Call.operands,hcal,hx]
 have hrx:=Aa hv hg st (Ah ag mx) hT;have e1:c.args=#[x]:=Array.ext' (by simpa using hx);have e2:c.argTypes=#[t]:=Array.ext' (by simpa using ht);have hsame:=Bw agh (List.mem_singleton.2 rfl) hh;have hkk:=st.heap h;rw[hsame]at hkk;obtain⟨v,m,xs,k1,kz,k2,k3,k4,k5,k6⟩:=hkk;obtain⟨_,ad,m',c',sz',t1,t2,t3,t4⟩:=hrx.tsl_inv;rw[k1]at t1;rw[kz]at t2;cases t2;obtain⟨a1,c1,rfl⟩:=k2.shape;simp only[Option.some.injEq,Value.slice.injEq]at t1;obtain⟨rfl,rfl,rfl⟩:=t1;obtain⟨k,q1,q2,q3⟩:=t4 (by rw[h0,k3]);have hu:=(hc.ti hlt).slice hk;obtain⟨z,hzr,hzrel,hz1⟩:=(hc.ti hle).zero E w;have hzl:=(hc.ti hle).zlen;have hzsz:z.cells.size=sz:=by have:=hzrel.1;rw[hzl,hsz]at this;simpa using this.symm
 by_cases hkm:k=m
 ·subst hkm
  have hrun:(execOp a.eval o).run P w=.ok (.value (.tuple #[])) w:=by
   have:(Builtin.clear_ #[t] o.type #[a.eval x]).run P w=.ok (.tuple #[]) w:=by
    rw[q3];simp only[Afa,Nat.sub_self];cases (if c1=k then a1 else a1.map (·.add (k * sz)))<;>simp[Builtin.clear_,run_underlying hu]
   simp[execOp,ho,resolve,hcal,e1,e2,invoke,builtin,this]
  obtain⟨E',x1,x2,x3,x4,x5⟩:=H9 (h:=h) (e:=e) (sz:=sz) (n:=k) (m:=0) (w':=w) (f':=f') st (.inr ⟨⟨_,_,_,hsame⟩,k1,kz,k6⟩) k2.shape (by simpa using k2) k4
   (.inl ⟨rfl,Ui w _⟩) (λ_ _=>rfl) (nt':=n0) (by simpa using k3) (by
    refine⟨λi hi=>?_,λi j s u hi hs hu=>?_⟩
    ·rw[hf1 i (by omega)];exact k5.1 i hi
    ·rw[hf1 i (by omega)]at hs;exact k5.2 i j s u hi hs hu)
  unfold Oper.wp;rw[hrun];exact hK _ w E' x1 x2 x3 (.tup rfl (by simp))
 have hkl:k<m:=by omega
 rcases k2.2 with⟨e3,e4⟩|⟨b,cap,cur,fr,e3,hg2,hfr,hmc,hcm,hcs,htake⟩
 ·omega
 simp only[Value.slice.injEq]at e3;obtain⟨rfl,_,rfl⟩:=e3;have hxl:=k2.1;obtain⟨us,hus⟩:∃us,us=(Builtin.zeroCells z.cells (m-k)).toList:=⟨_,rfl⟩;have husl:us.length=(m-k) * sz:=by rw[hus];simp[Builtin.zeroCells,hzsz]
 have husg:∀q,q<(m-k) * sz->us[q]?=some (z.cells.toList.getD (q % sz) undef):=by
  intro q hq;have hpos:0<sz:=by
   rcases Nat.eq_zero_or_pos sz with h|h
   ·rw[h]at hq;simp at hq
   ·exact h
  have hm:q % sz<z.cells.size:=by rw[hzsz];exact Nat.mod_lt _ hpos
  rw[hus,Array.getElem?_toList];simp only[Builtin.zeroCells,hzsz,Array.getElem?_map];rw[Array.getElem?_range];simp only[hq,if_true,Option.map_some,Option.some.injEq];rw[List.getD_eq_getElem?_getD,Array.getElem!_eq_getD,Array.getD_eq_getD_getElem?,Array.getElem?_toList];simp[hm]
 have husone:∀u∈us,u.oneCell'=true:=by
  intro u hu;obtain⟨q,hq⟩:=List.mem_iff_getElem?.1 hu;have hql:q<(m-k) * sz:=by rw[<-husl];exact (List.getElem?_eq_some_iff.1 hq).1
  have hpos:0<sz:=by
   rcases Nat.eq_zero_or_pos sz with h|h
   ·rw[h]at hql;simp at hql
   ·exact h
  have hm:q % sz<z.cells.toList.length:=by simp[hzsz];exact Nat.mod_lt _ hpos
  rw[husg q hql]at hq;simp only[Option.some.injEq]at hq;rw[<-hq,List.getD_eq_getElem?_getD,List.getElem?_eq_getElem hm];exact hz1 _ (List.getElem_mem hm)
 have hmul:k * sz+(m-k) * sz=m * sz:=by rw[<-Nat.add_mul];congr 1;omega
 have hmul2:m * sz<=c1 * sz:=Nat.mul_le_mul_right _ hmc
 let C':Array Value:=(cur.toList.take (k * sz)++us++cur.toList.drop (k * sz+us.length)).toArray
 have hle':k * sz+us.length<=cur.size:=by rw[husl];omega
 have hC's:C'.size=cur.size:=by simp[C'];omega
 have hCget:∀q:Nat,C'[q]?=if k * sz<=q/\q<k * sz+us.length then us[q-k * sz]? else cur[q]?:=by
  intro q;have:C'[q]?=(cur.toList.take (k * sz)++us++cur.toList.drop (k * sz+us.length))[q]?:=by simp[C']
  rw[this]
  split
  ·rename_i e
   rw[List.append_assoc,List.getElem?_append_right (by simp;omega),List.getElem?_append_left (by simp;omega)];congr 1;simp;omega
  ·rename_i e
   by_cases hi:q<k * sz
   ·rw[List.append_assoc,List.getElem?_append_left (by simp;omega),List.getElem?_take,if_pos hi];simp
   ·rw[List.getElem?_append_right (by simp;omega),List.getElem?_drop,<-Array.getElem?_toList]
    congr 1;simp;omega
 let ys:List Value:=C'.toList.take (m * sz)
 have hysl:ys.length=m * sz:=by simp[ys,hC's];omega
 have hyget:∀q,q<m * sz->ys[q]?=if k * sz<=q then us[q-k * sz]? else xs[q]?:=by
  intro q hq;simp only[ys];rw[List.getElem?_take,if_pos hq,Array.getElem?_toList,hCget]
  by_cases h1:k * sz<=q
  ·rw[if_pos ⟨h1,by rw[husl];omega⟩,if_pos h1]
  ·rw[if_neg (λh=>h1 h.1),if_neg h1,<-htake,List.getElem?_take,if_pos hq];simp
 have hfr':fr=(0,0)\/cur.size<=fr.1:=by
  rcases hfr with h|⟨_,h⟩
  ·exact .inl h
  ·rw[h];exact .inr (Nat.le_refl _)
 have hsc:=C9 (P:=P) b (k * sz) e fr us 0 cur w hg2 hfr' (by simpa using hle') husone;simp only[Nat.add_zero]at hsc;have hrun:(execOp a.eval o).run P w=.ok (.value (.tuple #[])) (w.setRow b C'):=by
  have:(Builtin.clear_ #[t] o.type #[a.eval x]).run P w=.ok (.tuple #[]) (w.setRow b C'):=by
   rw[q3];have hne:c1≠k:=by omega
   obtain⟨d,hd⟩:∃d,m-k=d+1:=⟨m-k-1,by omega⟩;have hz2:(Builtin.zeroCells z.cells (d+1)).toList=us:=by rw[hus,hd]
   simp only[Afa,if_neg hne,Option.map_some,add_lit,Nat.zero_add,hd];simp[Builtin.clear_,run_underlying hu,hzr,hz2,hsc,C']
  simp[execOp,ho,resolve,hcal,e1,e2,invoke,builtin,this]
 have hpc:∀c∈te.zero,Al c=true:=by
  simp only[Al]at hpl;exact (Cw _).1 hpl
 have hrow:Fm E w f' m sz ys:=by
  refine⟨λi hi=>?_,λi j s u hi hs hu=>?_⟩
  ·by_cases hik:i<k
   ·rw[hf1 i (by omega)];exact k5.1 i hi
   ·rw[hf2 i (by omega),hzl,hsz]
  ·have hj:j<sz:=by
    by_cases hik:i<k
    ·rw[hf1 i (by omega)]at hs
     rw[<-k5.1 i hi];exact (List.getElem?_eq_some_iff.1 hs).1
    ·rw[hf2 i (by omega)]at hs
     have:=(List.getElem?_eq_some_iff.1 hs).1;rw[hzl,hsz]at this;exact this
   have hidx:i * sz+j<m * sz:=by
    have:(i+1) * sz<=m * sz:=Nat.mul_le_mul_right _ hi;rw[Nat.add_mul]at this;omega
   rw[hyget _ hidx]at hu
   by_cases hik:i<k
   ·rw[hf1 i (by omega)]at hs
    have:(i+1) * sz<=k * sz:=Nat.mul_le_mul_right _ hik;rw[Nat.add_mul]at this;rw[if_neg (by omega)]at hu;exact k5.2 i j s u hi hs hu
   ·rw[hf2 i (by omega)]at hs
    have h3:k * sz<=i * sz:=Nat.mul_le_mul_right _ (by omega);rw[if_pos (by omega)]at hu;have h4:i * sz+j-k * sz=(i-k) * sz+j:=by
     have:i * sz=k * sz+(i-k) * sz:=by rw[<-Nat.add_mul];congr 1;omega
     omega
    have h5:(i-k) * sz+j<(m-k) * sz:=by omega
    rw[h4,husg _ h5]at hu;have h6:((i-k) * sz+j) % sz=j:=by rw[Nat.add_comm,Nat.add_mul_mod_self_right,Nat.mod_eq_of_lt hj]
    rw[h6]at hu;simp only[Option.some.injEq]at hu;have hjz:j<z.cells.toList.length:=by simp[hzsz];exact hj
    have hzj:z.cells.toList[j]?=some u:=by
     rw[<-hu,List.getD_eq_getElem?_getD,List.getElem?_eq_getElem hjz];rfl
    exact (hzrel.2 j s u hs hzj).plainOne (hpc s (List.mem_of_getElem? hs)) (hz1 u (List.mem_of_getElem? hzj))
 have hyone:∀u∈ys,u.oneCell'=true:=by
  intro u hu;obtain⟨q,hq⟩:=List.mem_iff_getElem?.1 hu;have hqlt:q<m * sz:=by rw[<-hysl];exact (List.getElem?_eq_some_iff.1 hq).1
  rw[hyget q hqlt]at hq
  split at hq
  ·exact husone u (List.mem_of_getElem? hq)
  ·exact k4 u (List.mem_of_getElem? hq)
 have hown':Ck (w.setRow b C') gr e sz (.slice (some ⟨b,0,none⟩) m c1) (m+0) ys:=by
  refine⟨hysl,.inr ⟨b,c1,C',fr,rfl,setRow_heap w b cur C' e fr hg2,?_,hmc,hcm,by rw[hC's];exact hcs,rfl⟩⟩;rw[hC's];exact hfr
 obtain⟨E',x1,x2,x3,x4,x5⟩:=H9 (h:=h) (e:=e) (sz:=sz) (n:=m) (m:=0) (f':=f') st (.inr ⟨⟨_,_,_,hsame⟩,k1,kz,k6⟩) k2.shape hown' hyone
  (.inl ⟨rfl,⟨rfl,rfl,rfl,by simp,λk _ hk=>setRow_other w b k C' (λe=>hk (by rw[e];rfl))⟩⟩) (λ_ _=>rfl) (nt':=n0) (by simpa using k3) (by simpa using hrow)
 unfold Oper.wp;rw[hrun];exact hK _ _ E' x1 x2 x3 (.tup rfl (by simp))
end
end Go.Sx
