/- Part of the proofs of the statements about responses and messages (layers 9 and 10): a symbolic executor over the code, that it is sound, and contracts of functions; it has no conditions of its own. -/
import Derived.Test.YtdoogdbjiijifaaGreatDoorE3Pah
namespace Go.Sx
open Go
theorem Rel.mrow_inv{E:Env}{w:World}{h:Nat}{v:Value}(hr:Rel E w (.mrow h) v):∃b m,E.β h=some b/\E.κ h=some m/\v=.slice (some ⟨b,0,none⟩) m m:=by
 cases hr with
 |ro h=>cases h
 |mrow hb hm hv=>exact⟨_,_,hb,hm,hv⟩
theorem Rel.mptr_inv{E:Env}{w:World}{h j off:Nat}{v:Value}(hr:Rel E w (.mptr h j off) v):∃b sz,E.β h=some b/\E.ζ h=some sz/\v=.pointer (some ⟨b,j * sz+off,none⟩):=by
 cases hr with
 |ro h=>cases h
 |mptr hb hz hv=>exact⟨_,_,hb,hz,hv⟩
theorem Af5{B:Bs}{N:Nat}{E:Env}{a:Act}{w w':World}{ff:Nat->SG}{hf:Nat->Hl}(st:St B N E a w ff hf){h:Nat}(hfresh:hf h=.fresh){ty:TypeId}{n:ST}{sz m:Nat}{f:Nat->List SV}{C:Array Value}
  (hg:w.grownBy w' none) (hC:w'.heap[w.heap.size]?=some (.cells C ty (0,0))) (hn:n.den=(m:Int)) (hm:m<=maxLen) (hrow:Qt E w f m sz C):
  ∃E',Ext E w E' w'/\Ci B E' w'/\(∀k,HOk E' w' k (upd hf h (.row ty n sz f) k))/\E'.β h=some w.heap.size/\E'.κ h=some m/\E'.ζ h=some sz:=by
 have hb:=st.base;have hfr:=st.heap h;rw[hfresh]at hfr;obtain⟨f1,f2,f3,f4⟩:=hfr
 let E':Env:=⟨upd E.β h (some w.heap.size),E.τ,upd E.O w.heap.size (some h),upd E.κ h (some m),upd E.ζ h (some sz),E.I⟩
 have hold:∀b,b<w.heap.size->w'.heap[b]?=w.heap[b]?:=λb hlt=>hg.block b hlt (by simp);have hltnew:w.heap.size<w'.heap.size:=(Array.getElem?_eq_some_iff.1 hC).1;have updNone:∀ {α:Type} (F:Nat->Option α) (x:α) (k:Nat) (y:α),F h=none->F k=some y->upd F h (some x) k=some y:=by
  intro α F x k y h0 hk;unfold upd
  by_cases e:k=h
  ·subst e;rw[h0]at hk;cases hk
  ·rw[if_neg e];exact hk
 have hx:Ext E w E' w':=by
  refine⟨λk b hk=>updNone _ _ k b f1 hk,λ_ _ h=>.inl h,λk b hk=>updNone _ _ k b f3 hk,λk b hk=>updNone _ _ k b f4 hk,λ_ _ h=>h,λb o hi=>?_⟩;simp only[World.cell?];rw[hold b (hb.Ibd b o hi)]
 refine⟨E',hx,⟨hg.os.trans hb.os,hg.tape.trans hb.tape,hg.output.trans hb.output,?_,?_,?_,?_,?_,?_,hb.β0.ext hx⟩,λk=>?_,by simp[E',upd],by simp[E',upd],by simp[E',upd]⟩
 ·have:=hb.size;omega
 ·intro b hlt hX;rw[hold b (by have:=hb.size;omega)];exact hb.old b hlt hX
 ·intro b o hi
  obtain⟨i1,i2⟩:=hb.I0 b o hi;exact⟨i1,by rw[hx.cell b o i1];exact i2⟩
 ·intro b o hi;have:=hb.Ibd b o hi;omega
 ·exact hb.Inew
 ·intro b k hO
  have hO:upd E.O w.heap.size (some h) b=some k:=hO;unfold upd at hO
  split at hO
  ·rename_i e;subst e;have:=hb.size;exact⟨hltnew,.inl this⟩
  ·obtain⟨o1,o2⟩:=hb.Obd b k hO;exact⟨by omega,o2⟩
 ·by_cases e:k=h
  ·subst e
   simp only[upd,if_pos];refine⟨w.heap.size,C,m,by simp[E',upd],by simp[E',upd],by simp[E',upd],by simp[E',upd],hC,hn,hm,⟨hrow.1,hrow.2.1,λi j s v a b c=>(hrow.2.2.1 i j s v a b c).mono hx.I hx.cell,hrow.2.2.2⟩,λo hi=>?_⟩;have:=hb.Ibd _ _ hi;omega
  ·simp only[upd,if_neg e]
   refine HOk.keep hx (st.heap k) (by simp[E',upd,e]) rfl (by simp[E',upd,e]) (by simp[E',upd,e]) λb hO=>?_;have hlt:=A5 hb hO;exact⟨by simp[E',upd,Nat.ne_of_lt hlt];exact hO,hold b hlt,λ_ h=>h⟩
theorem X8{B:Bs}{N:Nat}{E:Env}{a:Act}{w:World}{ff:Nat->SG}{hf:Nat->Hl}(st:St B N E a w ff hf){h b m:Nat}{ty:TypeId}{n:ST}{sz:Nat}{f f':Nat->List SV}{C C':Array Value}
  (hh:hf h=.row ty n sz f) (hβ:E.β h=some b) (hκ:E.κ h=some m) (hC:w.heap[b]?=some (.cells C ty (0,0))) (hrow:Qt E w f' m sz C'):
  Ext E w E (w.setRow b C')/\Ci B E (w.setRow b C')/\(∀k,HOk E (w.setRow b C') k (upd hf h (.row ty n sz f') k)):=by
 have hb:=st.base;have hk:=st.heap h;rw[hh]at hk;obtain⟨b',C1,m',k1,k2,k3,k4,k5,k6,k7,k8,k9⟩:=hk;obtain rfl:b=b':=Option.some.inj (hβ.symm.trans k1);obtain rfl:m=m':=Option.some.inj (hκ.symm.trans k2);have hx:Ext E w E (w.setRow b C'):=⟨λ_ _ h=>h,λ_ _ h=>.inl h,λ_ _ h=>h,λ_ _ h=>h,λ_ _ h=>h,λb2 o hi=>cell_setRow_other w b C' ⟨b2,o,none⟩ (λe=>by subst e;exact k9 o hi)⟩;have hX:=(hb.Obd b h k4).2;refine⟨hx,⟨hb.os,hb.tape,hb.output,by simpa using hb.size,?_,?_,?_,hb.Inew,?_,hb.β0⟩,λk=>?_⟩
 ·intro b2 hlt hnX
  by_cases e:b2=b
  ·subst e;rcases hX with hX|hX
   ·omega
   ·exact absurd hX hnX
  ·rw[setRow_other w b b2 C' e];exact hb.old b2 hlt hnX
 ·intro b2 o hi
  obtain⟨i1,i2⟩:=hb.I0 b2 o hi;exact⟨i1,by rw[hx.cell b2 o i1];exact i2⟩
 ·intro b2 o hi;have:=hb.Ibd b2 o hi;simpa using this
 ·intro b2 k hO;have:=hb.Obd b2 k hO;simpa using this
 ·by_cases e:k=h
  ·subst e
   simp only[upd,if_pos];exact⟨b,C',m,hβ,hκ,k3,k4,setRow_heap w b C C' ty (0,0) hC,k6,k7,⟨hrow.1,hrow.2.1,λi j s v a b c=>(hrow.2.2.1 i j s v a b c).mono hx.I hx.cell,hrow.2.2.2⟩,k9⟩
  ·simp only[upd,if_neg e]
   refine HOk.keep hx (st.heap k) rfl rfl rfl rfl λb2 hO=>⟨hO,?_,λ_ h=>h⟩;refine setRow_other w b b2 C' (λe2=>?_);subst e2;rw[k4]at hO;exact e (Option.some.inj hO).symm
section
variable {P:Program} {cx:Cx} {σ:Sy} {T:List Nat} {o:Oper} {K:Out->Prop}
theorem D3{x:Operand}(ho:o.op=.nilCheck x){v:SV}(hv:rd cx σ T x=some v)(hp:(∃h off,v=.ptr h off)\/(∃cs,v=.rptr cs)\/(∃h j off,v=.mptr h j off)\/(∃n sz f,v=.rarr n sz f)\/∃n h j off,v=.optr n h j off):Ap P cx.gl σ T o ⟨v,[],[],[]⟩:=by
 intro B N E a w ff hf' hg st ag agh hT;have hr:=Aa hv hg st (Ah ag (by simp[ho,Op.operands])) hT;have:∃ad,a.eval x=.pointer (some ad):=by
  rcases hp with⟨h,off,rfl⟩|⟨cs,rfl⟩|⟨h,j,off,rfl⟩|⟨n,sz,f,rfl⟩|⟨n,h,j,off,rfl⟩
  ·obtain⟨b,_,e⟩:=hr.ptr_inv;exact⟨_,e⟩
  ·obtain⟨ad,e,_⟩:=hr.rptr_inv.rptr_inv;exact⟨_,e⟩
  ·obtain⟨b,sz,_,_,e⟩:=hr.mptr_inv;exact⟨_,e⟩
  ·have hx:RO E.I w (.rarr n sz f) (a.eval x):=by cases hr with|ro h=>exact h
   generalize a.eval x=ev at hx
   cases hx;exact⟨_,rfl⟩
  ·obtain⟨⟨b,o,e⟩,_⟩:=hr.optr_inv;exact⟨_,e⟩
 obtain⟨ad,e⟩:=this;exact Ad st (v:=a.eval x) (by simp[execOp,ho,e]) rfl hr
theorem Ow{hf':Nat->Hl}{r:Out}{hl:Hl}(agh:AgH σ.hp hf' r)(hm:Ef.put (Af σ.hp) hl∈r.efs):hf' (Af σ.hp)=.fresh:=by
 have:=agh.efs _ hm;simp only[AgE,Aq,Ag,Ae]at this;rw[Ae,this];simp
theorem Aa2(hc:A1 P cx){t e:Nat}{x y:Operand}(ho:o.op=.makeSlice t x y){ti te:TI}(hlt:look t cx.tt=some ti)(hk:ti.k=.slice e)(hle:look e cx.tt=some te){kl kc:IntKind}{c:ST}(hx:rd cx σ T x=some (.int kl (.l 0)))(hy:rd cx σ T y=some (.int kc c))
  (hob:Bh (Ac σ.gm T)->0<=c.den/\c.den * te.bytes<=140737488355328/\c.den<=9223372036854775807):
  Ap P cx.gl σ T o ⟨.gsl (.l false) (.l 0) te.size (λ_=>[]) (Af σ.hp),[.put (Af σ.hp) (.tail e (.l 0) te.size)],[],[]⟩:=by
 intro B N E a w ff hf' hg st ag agh hT K' Q hK;have hrx:=(Aa hx hg st (Ah ag (by simp[ho,Op.operands])) hT).int_inv;have hry:=(Aa hy hg st (Ah ag (by simp[ho,Op.operands])) hT).int_inv;obtain⟨o1,o2,o3⟩:=hob hT;obtain⟨i,z,hi,hsize,hby,hz,hzs,_⟩:=(hc.ti hle).info;have hu:=(hc.ti hlt).slice hk;have hcn:c.den=((c.den.toNat:Nat):Int):=by omega
 have hbytes:i.bytes * c.den.toNat<=281474976710656:=by
  rw[hby];have:((te.bytes * c.den.toNat:Nat):Int)<=140737488355328:=by
   rw[Int.natCast_mul,<-hcn,Int.mul_comm];exact o2
  omega
 obtain⟨w',r1,r2,r3⟩:=run_make_own (P:=P) w 0 t e i z te.size hu hi hz hsize kl kc c.den.toNat hbytes (by simp only[maxLen];omega) (Nat.zero_le _);have hfresh:=Ow agh (List.mem_singleton.2 rfl);obtain⟨E',x1,x2,x3,x4,x5,x6⟩:=N6 (h:=Af σ.hp) (e:=e) (sz:=te.size) (n:=0) (m:=0) (xs:=[]) (news:=[]) st (.inl ⟨hfresh,rfl⟩) (by simp) (World.ownsRow_nil w 0 e te.size) (by simpa using r2) (.inr ⟨rfl,r3⟩) ⟨_,_,rfl⟩ (λh=>absurd hfresh h) (.l 0) (by simp[ST.den]);unfold Oper.wp;have:(execOp a.eval o).run P w=.ok (.value (.slice (some ⟨w.heap.size,0,none⟩) 0 c.den.toNat)) w':=by
  simp only[execOp,ho,Sem.run_bind,hrx,hry,ST.den];rw[hcn,r1];rfl
 rw[this];refine hK _ _ E' x1 x2 x3 (.gsl ?_ ⟨_,0,_,x4,by simp[ST.den],λ_=>rfl⟩);exact Oq (n:=0) (m:=0) (xs:=[]) (news:=[]) (by simpa using r2) (by simp) (by simp[BT.den]) (by simp[ST.den]) (by simp) x5 x6 (by intro i hi;omega) (by intro j hj;omega) (by intro i j s u hi;omega) (by intro i j s u hi;omega)
theorem Aa1(hc:A1 P cx){t e:Nat}{x y:Operand}(ho:o.op=.makeSlice t x y){ti te:TI}(hlt:look t cx.tt=some ti)(hk:ti.k=.slice e)(hle:look e cx.tt=some te){kl kc:IntKind}{n n':ST}(hx:rd cx σ T x=some (.int kl n))(hy:rd cx σ T y=some (.int kc n'))(hsame:x=y)(hz0:0<te.size)
  (hob:Bh (Ac σ.gm T)->0<=n.den/\n.den * te.bytes<=140737488355328/\n.den<=9223372036854775807):
  Ap P cx.gl σ T o ⟨.mrow (Af σ.hp),[.put (Af σ.hp) (.row e (.a n.den) te.size λ_=>te.zero)],[],[]⟩:=by
 subst hsame;intro B N E a w ff hf' hg st ag agh hT K' Q hK;have hrx:=(Aa hx hg st (Ah ag (by simp[ho,Op.operands])) hT).int_inv;obtain⟨o1,o2,o3⟩:=hob hT;obtain⟨i,z,hi,hsize,hby,hz,hzs,_⟩:=(hc.ti hle).info;have hu:=(hc.ti hlt).slice hk;have hcn:n.den=((n.den.toNat:Nat):Int):=by omega
 have hbytes:i.bytes * n.den.toNat<=281474976710656:=by
  rw[hby];have:((te.bytes * n.den.toNat:Nat):Int)<=140737488355328:=by
   rw[Int.natCast_mul,<-hcn,Int.mul_comm];exact o2
  omega
 have hmax:n.den.toNat<=maxLen:=by simp only[maxLen];omega
 obtain⟨w',r1,r2,r3⟩:=run_make_full (P:=P) w 0 t e i z te.size hu hi hz hsize kl kl n.den.toNat hbytes hmax (Nat.zero_le _);have hfresh:=Ow agh (List.mem_singleton.2 rfl);obtain⟨hxl,hr2⟩:=r2;rcases hr2 with⟨h0,_⟩|⟨g,cap,cur,e0,_,hcur,hnc,hcm,hcs,htake⟩
 ·cases h0
 simp only[Value.slice.injEq,Option.some.injEq,Addr.mk.injEq,and_true,true_and]at e0;obtain⟨rfl,hcap⟩:=e0;subst hcap;have hcur':cur=madeCells z.cells (n.den.toNat * te.size):=by
  apply Array.ext';rw[<-htake,List.take_of_length_le];simp[hcs]
 have hzl:=(hc.ti hle).zlen;have hzg:=Ju (I:=E.I) (w:=w) hzs;have hrow:Qt E w (λ_=>te.zero) n.den.toNat te.size cur:=by
  have hzsz:z.cells.size=te.size:=by have:=hzg.1;rw[hzl]at this;simpa using this.symm
  have hget:∀(q:Nat) (v:Value),cur[q]?=some v->z.cells[q % te.size]?=some v:=by
   intro q v hq;have hqlt:q<n.den.toNat * te.size:=by rw[<-hcs];exact (Array.getElem?_eq_some_iff.1 hq).1
   rw[hcur']at hq;have hm:q % te.size<z.cells.size:=by rw[hzsz];exact Nat.mod_lt _ hz0
   have hne:n.den.toNat * te.size≠0:=by omega
   have hne1:n.den.toNat≠0:=λh=>by rw[h]at hne;simp at hne
   have hne2:te.size≠0:=by omega
   simp[madeCells,hqlt,hzsz]at hq;rw[<-hq];simp[hm]
  refine⟨hcs,λ_ _=>hzl,λi j s v hi' hs hv=>?_,λv hv=>?_⟩
  ·have hj:j<te.size:=by rw[<-hzl];exact (List.getElem?_eq_some_iff.1 hs).1
   have:=hget _ v hv;rw[Nat.mul_comm,Nat.mul_add_mod,Nat.mod_eq_of_lt hj]at this;exact hzg.2 j s v hs (by simpa using this)
  ·obtain⟨q,hq,rfl⟩:=Array.mem_iff_getElem.1 hv
   have h1:=hget q _ (Array.getElem?_eq_getElem hq);have hm:q % te.size<te.zero.length:=by rw[hzl];exact Nat.mod_lt _ hz0
   have:zB (te.zero[q % te.size]) cur[q]=true:=by
    have key:∀(ss:List SV) (vs:List Value) (k:Nat) (s:SV) (v:Value),zsB ss vs=true->ss[k]?=some s->vs[k]?=some v->zB s v=true:=by
     intro ss
     induction ss with
     |nil=>intro vs k s v _ h;simp at h
     |cons s0 ss ih =>
      intro vs k s v h h1 h2;cases vs with
      |nil=>simp at h2
      |cons v0 vs =>
       simp only[zsB,Bool.and_eq_true]at h;cases k with
       |zero=>simp at h1 h2;subst h1;subst h2;exact h.1
       |succ k=>simp at h1 h2;exact ih vs k s v h.2 h1 h2
    exact key _ _ _ _ _ hzs (List.getElem?_eq_getElem hm) (by simpa using h1)
   exact Ajm this
 obtain⟨E',x1,x2,x3,x4,x5,x6⟩:=Af5 st hfresh (n:=.a n.den) (m:=n.den.toNat) r3 hcur hcn hmax hrow;unfold Oper.wp;have:(execOp a.eval o).run P w=.ok (.value (.slice (some ⟨w.heap.size,0,none⟩) n.den.toNat n.den.toNat)) w':=by
  simp only[execOp,ho,Sem.run_bind,hrx];rw[hcn];simp only[Int.toNat_natCast]at r1 ⊢;rw[r1];rfl
 rw[this];exact hK _ _ E' x1 x2 x3 (.mrow x4 x5 rfl)
theorem T7{e:TypeId}{ti:TI}(hc:A1 P cx)(ho:o.op=.alloc e)(hl:look e cx.tt=some ti){n sz:Nat}(hsz:n * sz=ti.size)(hn:n<=1000000){f:Nat->List SV}(hf:Vh f (chunks sz n ti.zero)):
  Ap P cx.gl σ T o ⟨.ptr (Af σ.hp) 0,[.put (Af σ.hp) (.row e (.l n) sz f)],[],[]⟩:=by
 intro B N E a w ff hf' _ st _ agh _ K' Q hK;obtain⟨z,hz,hr,h1⟩:=(hc.ti hl).zero E w;obtain⟨i,z',hi,_,_,hz',hzs,_⟩:=(hc.ti hl).info;have hzl:=(hc.ti hl).zlen;have hfresh:=Ow agh (List.mem_singleton.2 rfl);have ez:z=z':=by
  have:(zeroValue e).run P w=.ok z' w:=by simp[zeroValue,typeInfo,hi,hz']
  rw[hz]at this
  injection this
 subst ez;have hzg:=Ju (I:=E.I) (w:=w) hzs;have hCs:z.cells.size=n * sz:=by rw[hsz,<-hzl];have:=hzg.1;simpa using this.symm
 have hrows:∀q,q<n->f q=(ti.zero.drop (q * sz)).take sz:=by
  intro q hq;have:=Qg (sz:=sz) n q ti.zero hq;rw[hf.h q _ this,A9,Bo]
 have hrow:Qt E w f n sz z.cells:=by
  refine⟨hCs,λq hq=>?_,λq j s v hq hs hv=>?_,λv hv=>h1 v (by simpa using hv)⟩
  ·rw[hrows q hq]
   have:(q+1) * sz<=n * sz:=Nat.mul_le_mul_right _ hq;rw[Nat.add_mul]at this;simp;omega
  ·rw[hrows q hq,List.getElem?_take]at hs
   split at hs
   ·rw[List.getElem?_drop]at hs
    exact hzg.2 _ s v hs (by simpa using hv)
   ·cases hs
 obtain⟨E',x1,x2,x3,x4,x5,x6⟩:=Af5 st hfresh (w':=w.alloc (.cells z.cells e)) (n:=.l n) (m:=n) (f:=f) (sz:=sz) (C:=z.cells) (ty:=e)
  ⟨rfl,rfl,rfl,by simp,λk hk _=>RowKit.Below.heap_alloc w _ k hk⟩ (by show (w.heap.push _)[w.heap.size]?=_;simp) rfl (by simp only[maxLen];omega) hrow
 unfold Oper.wp;have:(execOp a.eval o).run P w=.ok (.value (.pointer (some ⟨w.heap.size,0,none⟩))) (w.alloc (.cells z.cells e)):=by
  simp[execOp,ho,Instr.alloc,hz,newVar,newRow,newObj,Sem.run]
 rw[this];exact hK _ _ E' x1 x2 x3 (.ptr x4 rfl)
end
section
variable {P:Program} {cx:Cx} {σ:Sy} {T:List Nat} {o:Oper} {K:Out->Prop}
theorem Bw{hf':Nat->Hl}{r:Out}{h:Nat}{hl:Hl}(agh:AgH σ.hp hf' r)(hm:h∈r.rds)(hh:nth σ.hp h=some hl):hf' h=hl:=by
 rw[agh.rds h hm,Bv hh]
theorem Vw(hc:A1 P cx){c:Call}(ho:o.op=.call c)(hcal:c.callee=.builtin .len){x:Operand}{t:Nat}{ti:TI}(hx:c.args.toList=[x])(ht:c.argTypes.toList=[t])(hl:look t cx.tt=some ti){e:TypeId}(hk:ti.k=.slice e)
  {h ty sz:Nat} {n:ST} {f:Nat->List SV} (hv:rd cx σ T x=some (.mrow h)) (hh:nth σ.hp h=some (.row ty n sz f)):Ap P cx.gl σ T o ⟨.int .i64 n,[],[h],[]⟩:=by
 intro B N E a w ff hf' hg st ag agh hT;have hmem:x∈o.op.operands.toList:=by simp[ho,Op.operands,Call.operands,hcal,hx]
 obtain⟨b,m,hb,hm,e3⟩:=(Aa hv hg st (Ah ag hmem) hT).mrow_inv;have e1:c.args=#[x]:=Array.ext' (by simpa using hx);have e2:c.argTypes=#[t]:=Array.ext' (by simpa using ht);have hk':=st.heap h;rw[Bw agh (List.mem_singleton.2 rfl) hh]at hk';obtain⟨b',C,m',k1,k2,k3,k4,k5,k6,k7,k8,k9⟩:=hk';obtain rfl:m=m':=Option.some.inj (hm.symm.trans k2);have hrun:=F6 hc hl hk (w:=w) (a:=some ⟨b,0,none⟩) (m:=m) (c:=m) (ty:=o.type);refine Ad st (v:=.int .i64 m) ?_ rfl (.int k6);simp[execOp,ho,resolve,hcal,e1,e2,invoke,builtin,e3,hrun]
theorem Rt(hc:A1 P cx){t e sz:Nat}{ti:TI}(hl:look t cx.tt=some ti)(hk:ti.k=.slice e)(hn:size? cx e=some sz){x y:Operand}(ho:o.op=.indexAddr t x y){h ty:Nat}{n:ST}{f:Nat->List SV}{k:IntKind}{i:ST}
  (hv:rd cx σ T x=some (.mrow h)) (hh:nth σ.hp h=some (.row ty n sz f)) (hi:rd cx σ T y=some (.int k i)) (h1:Bh (Ac σ.gm T)->0<=i.den/\i.den<n.den):Ap P cx.gl σ T o ⟨.mptr h i.den.toNat 0,[],[h],[]⟩:=by
 intro B N E a w ff hf' hg st ag agh hT;obtain⟨b,m,hb,hm,e3⟩:=(Aa hv hg st (Ah ag (by simp[ho,Op.operands])) hT).mrow_inv;have hy:=(Aa hi hg st (Ah ag (by simp[ho,Op.operands])) hT).int_inv;obtain⟨b1,b2⟩:=h1 hT;have hk':=st.heap h;rw[Bw agh (List.mem_singleton.2 rfl) hh]at hk';obtain⟨b',C,m',k1,k2,k3,k4,k5,k6,k7,k8,k9⟩:=hk';obtain rfl:m=m':=Option.some.inj (hm.symm.trans k2);have hrun:=Fa hc hl hk hn (w:=w) (a:=⟨b,0,none⟩) (m:=m) (cap:=m) (k:=k) b1 (show i.den<(m:Int) by omega);refine Ad st (v:=.pointer (some ⟨b,i.den.toNat * sz+0,none⟩)) ?_ rfl (.mptr hb k3 rfl);simp[execOp,ho,e3,hy,hrun,add_lit]
theorem Py(hc:A1 P cx){t e sz n:Nat}{ti:TI}(hl:look t cx.tt=some ti)(hk:ti.k=.array n e)(hn:size? cx e=some sz){x y:Operand}(ho:o.op=.indexAddr t x y){h ty:Nat}{m:ST}{f:Nat->List SV}{k:IntKind}{i:ST}
  (hv:rd cx σ T x=some (.ptr h 0)) (hh:nth σ.hp h=some (.row ty m sz f)) (hi:rd cx σ T y=some (.int k i)) (h0:0<=i.den) (h1:i.den<n):Ap P cx.gl σ T o ⟨.mptr h i.den.toNat 0,[],[h],[]⟩:=by
 intro B N E a w ff hf' hg st ag agh hT;obtain⟨b,hb,hx⟩:=(Aa hv hg st (Ah ag (by simp[ho,Op.operands])) hT).ptr_inv;have hy:=(Aa hi hg st (Ah ag (by simp[ho,Op.operands])) hT).int_inv;have hk':=st.heap h;rw[Bw agh (List.mem_singleton.2 rfl) hh]at hk';obtain⟨b',C,m',k1,k2,k3,k4,k5,k6,k7,k8,k9⟩:=hk';obtain rfl:b=b':=Option.some.inj (hb.symm.trans k1);refine Ad st (v:=.pointer (some ⟨b,i.den.toNat * sz+0,none⟩)) ?_ rfl (.mptr hb k3 rfl);have hu:=(hc.ti hl).array hk;obtain⟨te,hte,hsz⟩:=size?_ti hn;have hS:=(hc.ti hte).sizeOf w;obtain⟨j,hj⟩:∃j:Nat,i.den=(j:Int):=⟨i.den.toNat,by omega⟩;have hjn:j<n:=by omega
 rw[hj]at hy ⊢;simp[execOp,ho,hx,hy,Instr.indexAt,run_underlying hu,asIntOf,hjn,hS,hsz,Instr.sureAddr,add_lit]
theorem Px(hc:A1 P cx){t e n sz:Nat}{ti:TI}{x:Operand}(ho:o.op=.load t x)(hl:look t cx.tt=some ti)(hk:ti.k=.array n e)(hsz:n * sz=ti.size){h ty:Nat}{m:ST}{f:Nat->List SV}
  (hv:rd cx σ T x=some (.ptr h 0)) (hh:nth σ.hp h=some (.row ty m sz f)) (hm:m.den=(n:Int)) {cs:List SV} (hf:Ajl f m.den sz cs):Ap P cx.gl σ T o ⟨.agg cs,[],[h],[]⟩:=by
 intro B N E a w ff hf' hg st ag agh hT;obtain⟨b,hb,hx⟩:=(Aa hv hg st (Ah ag (by simp[ho,Op.operands])) hT).ptr_inv;have hk':=st.heap h;rw[Bw agh (List.mem_singleton.2 rfl) hh]at hk';obtain⟨b',C,m',k1,k2,k3,k4,k5,k6,k7,⟨r1,r2,r3,r4⟩,k9⟩:=hk';obtain rfl:b=b':=Option.some.inj (hb.symm.trans k1);obtain rfl:m'=n:=by omega
 have hlen:cs.length=m' * sz:=by
  have:=hf.len;rw[k6]at this
  exact_mod_cast this
 have hrel:A2 E w cs C.toList:=by
  refine⟨by simp[hlen,r1],λi s v p q=>?_⟩;have hi:i<m' * sz:=by rw[<-hlen];exact (List.getElem?_eq_some_iff.1 p).1
  have hsz0:0<sz:=by
   rcases Nat.eq_zero_or_pos sz with h|h
   ·rw[h]at hi;simp at hi
   ·exact h
  have hq:i / sz<m':=by rw[Nat.div_lt_iff_lt_mul hsz0];exact hi
  have hrow:=hf.h (i / sz) (by rw[k6];exact_mod_cast hq);have e0:i / sz * sz+i % sz=i:=by rw[Nat.mul_comm];exact Nat.div_add_mod i sz
  have e1:(f (i / sz))[i % sz]?=some s:=by
   rw[hrow,List.getElem?_take,if_pos (Nat.mod_lt i hsz0),List.getElem?_drop,e0];exact p
  have e2:C[i / sz * sz+i % sz]?=some v:=by rw[e0];simpa using q
  exact .ro (r3 _ _ _ _ hq e1 e2)
 have hag:isAgg? cx t=true:=by rw[isAgg?_eq hl,hk];rfl
 have hp:Kp (isAgg? cx t) cs=some (.agg cs):=by rw[hag];rfl
 obtain⟨p1,p2⟩:=F8 hp hrel;have hrun:=Fq (hc.ti hl) (w:=w) (b:=b) (off:=0) (vs:=C.toList) (λj v hj=>by
  rw[Nat.zero_add,cell_of_row w b j C ty (0,0) k5];simpa using hj) (by rw[<-hrel.1,hlen,hsz]) (isAgg?_eq hl) p1
 exact Ad st (by simp[execOp,ho,hx,hrun]) rfl p2
theorem Od(hc:A1 P cx){t e n sz:Nat}{ti:TI}{x y:Operand}(ho:o.op=.store t x y)(hl:look t cx.tt=some ti)(hk:ti.k=.array n e)(hsz:n * sz=ti.size){h ty:Nat}{m:ST}{f f':Nat->List SV}{cs:List SV}
  (hv:rd cx σ T x=some (.ptr h 0)) (hs:rdT cx σ T t y=some (.agg cs)) (hh:nth σ.hp h=some (.row ty m sz f)) (hm:m.den=(n:Int)) (h1:Ed cs=true) (hpl:Al.plainL cs=true) (hf:Ajl f' m.den sz cs):Ap P cx.gl σ T o ⟨.tup [],[.put h (.row ty m sz f')],[h],[]⟩:=by
 intro B N E a w ff hf' hg st ag agh hT K' Q hK;obtain⟨b,hb,hx⟩:=(Aa hv hg st (Ah ag (by simp[ho,Op.operands])) hT).ptr_inv;have hr2:=Jd hs hg st (Ah ag (by simp[ho,Op.operands])) hT;have hfh:=Bw agh (List.mem_singleton.2 rfl) hh;have hk':=st.heap h;rw[hfh]at hk';obtain⟨b',C,m',k1,k2,k3,k4,k5,k6,k7,⟨r1,r2,r3,r4⟩,k9⟩:=hk';obtain rfl:b=b':=Option.some.inj (hb.symm.trans k1);obtain rfl:m'=n:=by omega
 have hlen:cs.length=m' * sz:=by
  have:=hf.len;rw[k6]at this
  exact_mod_cast this
 have hcs:=Hz (s:=.agg cs) h1 hr2;have hone:=L2 (cs:=cs) h1 hcs;rw[Cw]at hpl;have hul:(a.eval y).cells.toList.length=m' * sz:=by rw[<-hcs.1];exact hlen
 generalize hU:(a.eval y).cells.toList=us at *
 have hCs:us.toArray.size=C.size:=by simp[hul,r1]
 have hrow:Qt E w f' m' sz us.toArray:=by
  refine⟨by simp[hul],λi hi=>?_,λi j s v hi p q=>?_,λv hv=>hone v (by simpa using hv)⟩
  ·rw[hf.h i (by rw[k6];exact_mod_cast hi)]
   have:(i+1) * sz<=m' * sz:=Nat.mul_le_mul_right _ hi;rw[Nat.add_mul]at this;simp;omega
  ·rw[hf.h i (by rw[k6];exact_mod_cast hi),List.getElem?_take]at p
   split at p
   ·rw[List.getElem?_drop]at p
    have q:us[i * sz+j]?=some v:=by simpa using q
    exact (hcs.2 _ s v p q).plainOne (hpl _ (List.mem_of_getElem? p)) (hone v (List.mem_of_getElem? q))
   ·cases p
 obtain⟨x1,x2,x3⟩:=X8 (h:=h) st hfh hb k2 k5 hrow;have hrun:(Instr.storeAt t (.pointer (some ⟨b,0,none⟩)) (a.eval y)).run P w=.ok () (w.setRow b us.toArray):=by
  have hS:=(hc.ti hl).sizeOf w;have hsc:=run_storeCells_at P b 0 ty us 0 C w k5 (by simp[hul,r1]) hone;have hne:((a.eval y).cells.size≠ti.size)=False:=by
   have:(a.eval y).cells.size=ti.size:=by rw[<-hsz];rw[<-hU]at hul;simpa using hul
   simp[this]
  have hC2:(C.toList.take 0++us++C.toList.drop (0+us.length)).toArray=us.toArray:=by
   have:C.toList.drop us.length=[]:=List.drop_eq_nil_of_le (by simp[hul,r1]);rw[Nat.zero_add,this];simp
  simp only[Nat.add_zero]at hsc;rw[hC2]at hsc;simp only[Instr.storeAt,Instr.sureAddr,storeVar,Sem.run_bind,Sem.run_pure,Result.andThen_ok,hS,hne,if_false,hU,hsc]
 unfold Oper.wp;have:(execOp a.eval o).run P w=.ok .skip (w.setRow b us.toArray):=by
  simp only[execOp,ho,hx,Sem.run_bind,hrun,Result.andThen_ok,Sem.run_pure]
 rw[this];exact hK undef _ E x1 x2 x3 (.tup rfl (by simp))
theorem Ld(hc:A1 P cx){t i fo ft m h j off:Nat}{x:Operand}(ho:o.op=.fieldAddr t x i)(hv:rd cx σ T x=some (.mptr h j off))(hf:field? cx t i=some (fo,ft))(hn:size? cx ft=some (m+1)):
  Ap P cx.gl σ T o ⟨.mptr h j (off+fo),[],[],[]⟩:=by
 intro B N E a w ff hf' hg st ag agh hT;have hr:=Aa hv hg st (Ah ag (by simp[ho,Op.operands])) hT;obtain⟨b,sz,hb,hz,hx⟩:=hr.mptr_inv;refine Ad st (v:=.pointer (some ⟨b,j * sz+(off+fo),none⟩)) ?_ rfl (.mptr hb hz rfl);simp[execOp,ho,hx,H5 hc hf hn,add_lit,Nat.add_assoc]
theorem Rp(hc:A1 P cx){t:Nat}{x:Operand}(ho:o.op=.load t x){h j off n ty sz:Nat}{m:ST}{f:Nat->List SV}{s:SV}(hv:rd cx σ T x=some (.mptr h j off))(hn:size? cx t=some n)
  (hh:nth σ.hp h=some (.row ty m sz f)) (hob:Bh (Ac σ.gm T)->(j:Int)<m.den) (hle:off+n<=(f j).length) (hp:Kp (isAgg? cx t) (((f j).drop off).take n)=some s):Ap P cx.gl σ T o ⟨s,[],[h],[]⟩:=by
 intro B N E a w ff hf hg st ag agh hT;have hr:=Aa hv hg st (Ah ag (by simp[ho,Op.operands])) hT;obtain⟨b,sz',hb,hz,hx⟩:=hr.mptr_inv;have hk':=st.heap h;rw[Bw agh (List.mem_singleton.2 rfl) hh]at hk';obtain⟨b',C,m',k1,k2,k3,k4,k5,k6,k7,k8,k9⟩:=hk';obtain rfl:b=b':=Option.some.inj (hb.symm.trans k1);obtain rfl:sz'=sz:=Option.some.inj (hz.symm.trans k3);obtain⟨ti,hti,hsz⟩:=size?_ti hn;obtain⟨r1,r2,r3,r4⟩:=k8;have hj:j<m':=by have:=hob hT;omega
 have hfl:=r2 j hj;have hbound:(j+1) * sz'<=m' * sz':=Nat.mul_le_mul_right _ hj;rw[Nat.add_mul]at hbound;have hsub:A2 E w (((f j).drop off).take n) ((C.toList.drop (j * sz'+off)).take n):=by
  refine⟨by simp;omega,λi s v p q=>?_⟩;rw[List.getElem?_take]at p q
  split at p
  ·rename_i e
   rw[if_pos e]at q;rw[List.getElem?_drop]at p q;refine .ro (r3 j (off+i) s v hj p ?_);rw[<-Nat.add_assoc];simpa using q
  ·cases p
 obtain⟨p1,p2⟩:=F8 hp hsub;have hlen:((C.toList.drop (j * sz'+off)).take n).length=n:=by simp;omega
 have hrun:=Fq (hc.ti hti) (w:=w) (b:=b) (off:=j * sz'+off) (vs:=(C.toList.drop (j * sz'+off)).take n) (λq v hq=>by
  rw[List.getElem?_take]at hq
  split at hq
  ·rw[List.getElem?_drop]at hq
   rw[cell_of_row w b (j * sz'+off+q) C ty (0,0) k5];simpa using hq
  ·cases hq) (by rw[hlen,hsz]) (isAgg?_eq hti) p1
 exact Ad st (by simp[execOp,ho,hx,hrun]) rfl p2
theorem Pv(hc:A1 P cx){t:Nat}{x y:Operand}(ho:o.op=.store t x y){h j off n ty sz:Nat}{m:ST}{f f':Nat->List SV}{s:SV}(hv:rd cx σ T x=some (.mptr h j off))(hs:rdT cx σ T t y=some s)(hn:size? cx t=some n)
  (hh:nth σ.hp h=some (.row ty m sz f)) (hj:(j:Int)<m.den) (hl:s.cells.length=n) (hle:off+n<=(f j).length) (h1:Ed s.cells=true) (hpl:Al (.agg (loose.looseL (norm.normL dn s.cells)))=true)
  (hfj:f' j=C7 (f j) off (loose.looseL (norm.normL dn s.cells))) (hfo:∀i,i≠j->f' i=f i):Ap P cx.gl σ T o ⟨.tup [],[.put h (.row ty m sz f')],[h],[]⟩:=by
 intro B N E a w ff hf hg st ag agh hT K' Q hK;have hr:=Aa hv hg st (Ah ag (by simp[ho,Op.operands])) hT;have hr2:=Jd hs hg st (Ah ag (by simp[ho,Op.operands])) hT;obtain⟨b,sz',hb,hz,hx⟩:=hr.mptr_inv;have hfh:=Bw agh (List.mem_singleton.2 rfl) hh;have hk':=st.heap h;rw[hfh]at hk';obtain⟨b',C,m',k1,k2,k3,k4,k5,k6,k7,k8,k9⟩:=hk';obtain rfl:b=b':=Option.some.inj (hb.symm.trans k1);obtain rfl:sz'=sz:=Option.some.inj (hz.symm.trans k3);obtain⟨ti,hti,hsz⟩:=size?_ti hn;obtain⟨r1,r2,r3,r4⟩:=k8;have hjm:j<m':=by omega
 have hfl:=r2 j hjm;have hbound:(j+1) * sz'<=m' * sz':=Nat.mul_le_mul_right _ hjm;rw[Nat.add_mul]at hbound;have hcs:=Hz h1 hr2;have hone:=L2 h1 hcs;have hul:(a.eval y).cells.toList.length=n:=by rw[<-hcs.1];exact hl
 have hplain:A2 E w (loose.looseL (norm.normL dn s.cells)) (a.eval y).cells.toList:=by
  rw[Cd,Cl];exact (hcs.map _ λs v _ h=>h.norm).map _ λs v _ h=>h.loose
 have hpc:∀c∈loose.looseL (norm.normL dn s.cells),Al c=true:=by
  simp only[Al]at hpl;exact (Cw _).1 hpl
 have hpl':(loose.looseL (norm.normL dn s.cells)).length=n:=by rw[hplain.1];exact hul
 generalize hU:(a.eval y).cells.toList=us at *
 generalize hP:loose.looseL (norm.normL dn s.cells)=ps at *
 let C':Array Value:=(C.toList.take (j * sz'+off)++us++C.toList.drop (j * sz'+off+us.length)).toArray
 have hle':j * sz'+off+us.length<=C.size:=by rw[hul];omega
 have hC's:C'.size=C.size:=by simp[C'];omega
 have hCget:∀q:Nat,C'[q]?=if j * sz'+off<=q/\q<j * sz'+off+us.length then us[q-(j * sz'+off)]? else C[q]?:=by
  intro q;have:C'[q]?=(C.toList.take (j * sz'+off)++us++C.toList.drop (j * sz'+off+us.length))[q]?:=by simp[C']
  rw[this]
  split
  ·rename_i e
   rw[List.append_assoc,List.getElem?_append_right (by simp;omega),List.getElem?_append_left (by simp;omega)];congr 1;simp;omega
  ·rename_i e
   by_cases hi:q<j * sz'+off
   ·rw[List.append_assoc,List.getElem?_append_left (by simp;omega),List.getElem?_take,if_pos hi];simp
   ·rw[List.getElem?_append_right (by simp;omega),List.getElem?_drop,<-Array.getElem?_toList]
    congr 1;simp;omega
 have hrow:Qt E w f' m' sz' C':=by
  refine⟨by rw[hC's];exact r1,λi hi=>?_,λi q s2 v hi hs2 hv2=>?_,λv hv=>?_⟩
  ·by_cases e:i=j
   ·subst e;rw[hfj,Db];exact hfl
   ·rw[hfo i e];exact r2 i hi
  ·rw[hCget]at hv2
   have hql:q<sz':=by
    have hlen:(f' i).length=sz':=by
     by_cases e:i=j
     ·subst e;rw[hfj,Db];exact hfl
     ·rw[hfo i e];exact r2 i hi
    rw[<-hlen];exact (List.getElem?_eq_some_iff.1 hs2).1
   by_cases e:i=j
   ·subst e
    rw[hfj,Hs _ _ _ _ (by rw[hpl'];exact hle)]at hs2
    by_cases hin:off<=q/\q<off+n
    ·rw[if_pos (by rw[hpl'];exact hin)]at hs2
     rw[if_pos (by rw[hul];omega)]at hv2;have e2:i * sz'+q-(i * sz'+off)=q-off:=by omega
     rw[e2]at hv2;exact (hplain.2 _ s2 v hs2 hv2).plainOne (hpc s2 (List.mem_of_getElem? hs2)) (hone v (List.mem_of_getElem? hv2))
    ·rw[if_neg (by rw[hpl'];exact hin)]at hs2
     rw[if_neg (by rw[hul];omega)]at hv2;exact r3 i q s2 v hi hs2 hv2
   ·rw[hfo i e]at hs2
    have hne:¬(j * sz'+off<=i * sz'+q/\i * sz'+q<j * sz'+off+us.length):=by
     rw[hul];rcases Nat.lt_or_ge i j with hlt|hge
     ·have:(i+1) * sz'<=j * sz':=Nat.mul_le_mul_right _ hlt
      rw[Nat.add_mul]at this;omega
     ·have:(j+1) * sz'<=i * sz':=Nat.mul_le_mul_right _ (by omega)
      rw[Nat.add_mul]at this;omega
    rw[if_neg hne]at hv2;exact r3 i q s2 v hi hs2 hv2
  ·obtain⟨q,hq⟩:=Array.mem_iff_getElem?.1 hv
   rw[hCget]at hq
   split at hq
   ·exact hone v (List.mem_of_getElem? hq)
   ·exact r4 v (Array.mem_of_getElem? hq)
 obtain⟨x1,x2,x3⟩:=X8 (h:=h) st hfh hb k2 k5 hrow;have hrun:(Instr.storeAt t (.pointer (some ⟨b,j * sz'+off,none⟩)) (a.eval y)).run P w=.ok () (w.setRow b C'):=by
  have hS:=(hc.ti hti).sizeOf w;have hsc:=run_storeCells_at P b (j * sz'+off) ty us 0 C w k5 (by simpa using hle') hone;have hne:((a.eval y).cells.size≠ti.size)=False:=by
   have:(a.eval y).cells.size=ti.size:=by rw[hsz];rw[<-hU]at hul;simpa using hul
   simp[this]
  simp only[Nat.add_zero]at hsc;simp only[Instr.storeAt,Instr.sureAddr,storeVar,Sem.run_bind,Sem.run_pure,Result.andThen_ok,hS,hne,if_false,hU,hsc];rfl
 unfold Oper.wp;have:(execOp a.eval o).run P w=.ok .skip (w.setRow b C'):=by
  simp only[execOp,ho,hx,Sem.run_bind,hrun,Result.andThen_ok,Sem.run_pure]
 rw[this];exact hK undef _ E x1 x2 x3 (.tup rfl (by simp))
end
section
variable {P:Program} {cx:Cx} {σ:Sy} {T:List Nat} {o:Oper} {K:Out->Prop}
theorem Adw(hc:A1 P cx){c:Call}(ho:o.op=.call c)(hcal:c.callee=.builtin .copy){x y:Operand}{t t':Nat}{ti:TI}(hx:c.args.toList=[x,y])(ht:c.argTypes.toList=[t,t'])(hl:look t cx.tt=some ti){e:TypeId}(hk:ti.k=.slice e)
  {h ty sz:Nat} {n m:ST} {f f' g:Nat->List SV} {s:SV} (hv:rd cx σ T x=some (.mrow h)) (hs:rd cx σ T y=some s) (hh:nth σ.hp h=some (.row ty n sz f)) (hsz:size? cx e=some sz) (hrow:Mk sz s=some (m,g))
  (h1:∀i:Nat,(i:Int)<min m.den n.den->f' i=g i) (h2:∀i:Nat,min m.den n.den<=(i:Int)->(i:Int)<n.den->f' i=f i):
  Ap P cx.gl σ T o ⟨.int .i64 (.a (min m.den n.den)),[.put h (.row ty n sz f')],[h],[]⟩:=by
 intro B N E a w ff hf hg st ag agh hT K' Q hK;have hmem:x∈o.op.operands.toList/\y∈o.op.operands.toList:=by constructor<;>simp[ho,Op.operands,Call.operands,hcal,hx]
 obtain⟨b,md,hb,hm,e3⟩:=(Aa hv hg st (Ah ag hmem.1) hT).mrow_inv;have hrs:=Aa hs hg st (Ah ag hmem.2) hT;have e1:c.args=#[x,y]:=Array.ext' (by simpa using hx);have e2:c.argTypes=#[t,t']:=Array.ext' (by simpa using ht);have hfh:=Bw agh (List.mem_singleton.2 rfl) hh;have hk':=st.heap h;rw[hfh]at hk';obtain⟨b',C,m',k1,k2,k3,k4,k5,k6,k7,k8,k9⟩:=hk';obtain rfl:b=b':=Option.some.inj (hb.symm.trans k1);obtain rfl:md=m':=Option.some.inj (hm.symm.trans k2);obtain⟨te,hte,hszt⟩:=size?_ti hsz;obtain⟨k,news,n1,n2,⟨n3,n4,n5⟩,n6,n7⟩:=Ja hrow hrs;obtain⟨r1,r2,r3,r4⟩:=k8;have hrmin:min m.den n.den=((min k md:Nat):Int):=by rw[n1,k6];omega
 have hlens:∀i,i<k->∀j,j<sz->i * sz+j<news.length:=by
  intro i hi j hj;have:(i+1) * sz<=k * sz:=Nat.mul_le_mul_right _ hi;rw[Nat.add_mul]at this;omega
 let r:=min k md
 have hrk:r<=k:=Nat.min_le_left _ _;have hrm:r<=md:=Nat.min_le_right _ _;have hrks:r * sz<=k * sz:=Nat.mul_le_mul_right _ hrk;have hrms:r * sz<=md * sz:=Nat.mul_le_mul_right _ hrm
 let us:=news.take (r * sz)
 have husl:us.length=r * sz:=by simp[us];omega
 let C':Array Value:=(C.toList.take 0++us++C.toList.drop (0+us.length)).toArray
 have hC's:C'.size=C.size:=by simp[C',us];omega
 have hCget:∀q:Nat,C'[q]?=if q<r * sz then news[q]? else C[q]?:=by
  intro q;have:C'[q]?=(us++C.toList.drop us.length)[q]?:=by simp[C']
  rw[this]
  split
  ·rename_i e
   rw[List.getElem?_append_left (by omega)];simp only[us];rw[List.getElem?_take,if_pos e]
  ·rename_i e
   rw[List.getElem?_append_right (by omega),List.getElem?_drop,<-Array.getElem?_toList];congr 1;omega
 have hone:∀v∈us,v.oneCell'=true:=λv hv=>n4 v (List.mem_of_mem_take hv);have hrow':Qt E w f' md sz C':=by
  have hfi:∀i,i<md->(i<r->f' i=g i)/\(r<=i->f' i=f i):=by
   intro i hi;refine⟨λhlt=>h1 i (by rw[hrmin];omega),λhge=>h2 i (by rw[hrmin];omega) (by omega)⟩
  have hlen:∀i,i<md->(f' i).length=sz:=by
   intro i hi
   by_cases e:i<r
   ·rw[(hfi i hi).1 e];exact n6 i (by omega)
   ·rw[(hfi i hi).2 (by omega)];exact r2 i hi
  refine⟨by rw[hC's];exact r1,hlen,λi q s2 v hi hs2 hv2=>?_,λv hv=>?_⟩
  ·have hql:q<sz:=by rw[<-hlen i hi];exact (List.getElem?_eq_some_iff.1 hs2).1
   rw[hCget]at hv2
   by_cases e:i<r
   ·have:(i+1) * sz<=r * sz:=Nat.mul_le_mul_right _ e
    rw[Nat.add_mul]at this;rw[if_pos (by omega)]at hv2;rw[(hfi i hi).1 e]at hs2;exact n7 i q s2 v (by omega) hs2 hv2
   ·have:r * sz<=i * sz:=Nat.mul_le_mul_right _ (by omega)
    rw[if_neg (by omega)]at hv2;rw[(hfi i hi).2 (by omega)]at hs2;exact r3 i q s2 v hi hs2 hv2
  ·obtain⟨q,hq⟩:=Array.mem_iff_getElem?.1 hv
   rw[hCget]at hq
   split at hq
   ·exact n4 v (List.mem_of_getElem? hq)
   ·exact r4 v (Array.mem_of_getElem? hq)
 obtain⟨x1,x2,x3⟩:=X8 (h:=h) st hfh hb k2 k5 hrow';have hu:=(hc.ti hl).slice hk;have hS:=(hc.ti hte).sizeOf w;have hlen:(Builtin.lenOf (a.eval y)).run P w=.ok k w:=by
  rcases n5 with⟨e0,rfl⟩|⟨ad,c0,e0,_⟩<;>rw[e0]<;>rfl
 have hcells:(Builtin.firstCells te.size (Nat.min k md) (a.eval y)).run P w=.ok us.toArray w:=by
  rcases n5 with⟨e0,e00⟩|⟨ad,c0,e0,hnews⟩
  ·subst e00
   have:us=[]:=by simp[us,r]
   rw[e0,this];rfl
  ·rw[e0]
   refine run_firstCells_some w te.size (Nat.min k md) ad k c0 us (by rw[husl,hszt]) (λj v hj=>?_);simp only[us]at hj;rw[List.getElem?_take]at hj
   split at hj
   ·exact hnews j v hj
   ·cases hj
 have hsc:=run_storeCells_at P b 0 ty us 0 C w k5 (by rw[husl];omega) hone;simp only[Nat.add_zero]at hsc;unfold Oper.wp;have:(execOp a.eval o).run P w=.ok (.value (.int .i64 ((min k md:Nat):Int))) (w.setRow b C'):=by
  have hbi:(Builtin.copy_ #[t,t'] o.type #[.slice (some ⟨b,0,none⟩) md md,a.eval y]).run P w=.ok (.int .i64 ((min k md:Nat):Int)) (w.setRow b C'):=by
   simp only[Builtin.copy_];simp[Sem.run_bind,run_underlying hu,hlen,hS,hcells,hsc,goInt,C']
  simp only[execOp,ho,resolve,hcal,e1,e2];simp[invoke,builtin,e3,hbi]
 rw[this];refine hK _ _ E x1 x2 x3 (.int ?_);simp only[ST.den];exact hrmin
end
end Go.Sx
