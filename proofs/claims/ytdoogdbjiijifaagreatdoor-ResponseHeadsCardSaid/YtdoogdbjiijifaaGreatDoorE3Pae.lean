/- Part of the proofs of the statements about responses and messages (layers 9 and 10): a symbolic executor over the code, that it is sound, and contracts of functions; it has no conditions of its own. -/
import Derived.Test.YtdoogdbjiijifaaGreatDoorE3Pad
namespace Go.Sx
open Go
section
variable {P:Program} {cx:Cx} {σ:Sy} {T:List Nat} {o:Oper} {K:Out->Prop}
theorem field?_inv{t i fo ft:Nat}(h:field? cx t i=some (fo,ft)):∃ti fs,look t cx.tt=some ti/\ti.k=.struct fs/\nth fs i=some (fo,ft):=by
 unfold field? at h
 split at h
 ·rename_i fs a b c hl;exact⟨_,fs,hl,rfl,h⟩
 ·cases h
theorem H5(hc:A1 P cx){t i fo ft m:Nat}(hf:field? cx t i=some (fo,ft))(hn:size? cx ft=some (m+1))(w:World)(ad:Addr):
  (Instr.fieldAt t (.pointer (some ad)) i).run P w=.ok (.pointer (some (ad.add fo))) w:=by
 obtain⟨ti,fs,hl,hk,hi⟩:=field?_inv hf;obtain⟨fields,hu,he,_⟩:=(hc.ti hl).struct hk;obtain⟨f,hf1,hf2,hf3⟩:=M9 he hi;obtain⟨fi,hfi,hsz⟩:=size?_ti hn;have hS:=(hc.ti hfi).sizeOf w;subst hf2 hf3;simp[Instr.fieldAt,run_underlying hu,hf1,Instr.sureAddr,fieldPlace,hS,hsz]
theorem Mc(hc:A1 P cx){t i fo ft m h off:Nat}{x:Operand}(ho:o.op=.fieldAddr t x i)(hv:rd cx σ T x=some (.ptr h off))(hf:field? cx t i=some (fo,ft))(hn:size? cx ft=some (m+1)):
  Ap P cx.gl σ T o ⟨.ptr h (off+fo),[],[],[]⟩:=by
 intro B N E a w ff hf' hg st ag agh hT;have hr:=Aa hv hg st (Ah ag (by simp[ho,Op.operands])) hT;obtain⟨b,hb,hx⟩:=hr.ptr_inv;refine Ad st (v:=.pointer (some ⟨b,off+fo,none⟩)) ?_ rfl (.ptr hb rfl);simp[execOp,ho,hx,H5 hc hf hn,add_lit]
theorem Qo(ad:Addr)(n:Nat):(ad.add n).block=ad.block:=by unfold Addr.add;split<;>rfl
theorem Zl(ad:Addr)(n:Nat):(ad.add n).off=ad.off+n:=by unfold Addr.add;split<;>simp_all
theorem Vb(ad:Addr)(n:Nat)(h:ad.spot=none):(ad.add n).spot=none:=by unfold Addr.add;split<;>simp_all
theorem Akc{I:Nat->Nat->Prop}{w:World}{cs:List SV}{ad:Addr}(h:RO I w (.rptr cs) (.pointer (some ad)))(fo m:Nat):RO I w (.rptr ((cs.drop fo).take m)) (.pointer (some (ad.add fo))):=by
 obtain⟨ad',e,hs,g,hcell,hrel⟩:=h.rptr_inv;cases e;refine .rptr (λj=>g (fo+j)) (Vb _ _ hs) (λj hj=>?_) (λj hj=>?_) (λj s hj=>?_)
 ·simp at hj;exact (hcell (fo+j) (by omega)).1
 ·rw[Qo,Zl]
  simp at hj;have:=(hcell (fo+j) (by omega)).2;rw[Nat.add_assoc];exact this
 ·rw[List.getElem?_take]at hj
  split at hj
  ·rw[List.getElem?_drop]at hj;exact hrel (fo+j) s hj
  ·cases hj
theorem Lb(hc:A1 P cx){t i fo ft m:Nat}{cs:List SV}{x:Operand}(ho:o.op=.fieldAddr t x i)(hv:rd cx σ T x=some (.rptr cs))(hf:field? cx t i=some (fo,ft))(hn:size? cx ft=some (m+1)):
  Ap P cx.gl σ T o ⟨.rptr ((cs.drop fo).take (m+1)),[],[],[]⟩:=by
 intro B N E a w ff hf' hg st ag agh hT;have hr:=(Aa hv hg st (Ah ag (by simp[ho,Op.operands])) hT).rptr_inv;obtain⟨ad,hx,_⟩:=hr.rptr_inv;rw[hx]at hr;refine Ad st (v:=.pointer (some (ad.add fo))) ?_ rfl (.ro (Akc hr fo (m+1)));simp[execOp,ho,hx,H5 hc hf hn]
theorem Nw{t m fo:Nat}{ti:TI}(h:D8 P t ti)(hsz:ti.size=m){w:World}{vs:List Value}(p1:Ks ti.k=false->((vs.drop fo).take m).length=1):
  (part t ⟨vs⟩ fo).run P w=.ok (if Ks ti.k then .agg ⟨(vs.drop fo).take m⟩ else ((vs.drop fo).take m).headD undef) w:=by
 have hS:=h.sizeOf w;have hA:=h.isAgg w;simp only[part,Sem.run_bind,hA,Result.andThen_ok];cases hk2:Ks ti.k with
 |true =>
  simp only[if_true,Sem.run_bind,hS,Result.andThen_ok,Sem.run_pure,hsz];congr 2;apply Array.ext';simp
 |false =>
  have h1:=p1 hk2;have hm:vs[fo]?=some (((vs.drop fo).take m).headD undef):=by
   match h3:(vs.drop fo).take m,h1 with
   | [v],_ =>
    have:((vs.drop fo).take m)[0]?=some v:=by rw[h3];rfl
    rw[List.getElem?_take]at this
    split at this
    ·rw[List.getElem?_drop]at this;simpa using this
    ·cases this
  simp[hm]
theorem Aa3(hc:A1 P cx){t i fo ft m:Nat}{cs:List SV}{x:Operand}{s:SV}(ho:o.op=.field t x i)(hv:rd cx σ T x=some (.agg cs))(hf:field? cx t i=some (fo,ft))(hn:size? cx ft=some m)
  (hle:fo+m<=cs.length) (hp:Kp (isAgg? cx ft) ((cs.drop fo).take m)=some s):Ap P cx.gl σ T o ⟨s,[],[],[]⟩:=by
 intro B N E a w ff hf' hg st ag agh hT;have hr:=Aa hv hg st (Ah ag (by simp[ho,Op.operands])) hT;obtain⟨vs,hx,hl⟩:=hr.agg_inv;obtain⟨ti,fs,hti,hk,hi⟩:=field?_inv hf;obtain⟨fields,hu,he,_⟩:=(hc.ti hti).struct hk;obtain⟨f,hf1,hf2,hf3⟩:=M9 he hi;obtain⟨fi,hfi,hsz⟩:=size?_ti hn;have hsub:=(hl.drop fo).take m;obtain⟨p1,p2⟩:=F8 hp hsub;rw[isAgg?_eq hfi]at p1 p2;refine Ad st ?_ rfl p2;subst hf2 hf3;have hpart:=Nw (hc.ti hfi) hsz (w:=w) (vs:=vs) (fo:=f.offset) p1;simp[execOp,ho,hx,Instr.field,run_underlying hu,hf1,asAgg,hpart]
theorem RO.sl_inv{I:Nat->Nat->Prop}{w:World}{nl:BT}{n:ST}{sz:Nat}{f:Nat->List SV}{v:Value}(h:RO I w (.sl nl n sz f) v):
  (v=.slice none 0 0/\n.den=0/\nl.den=true)\/∃(a:Addr) (m cap:Nat) (g:Nat->Nat->Value),v=.slice (some a) m cap/\nl.den=false/\n.den=(m:Int)/\m<=cap/\cap<=maxLen/\(0<m->a.spot=none)/\
   (∀i,i<m->(f i).length=sz)/\(∀i j,i<m->j<sz->(g i j).oneCell'=true)/\(∀i j,i<m->j<sz->w.cell? ⟨a.block,a.off+(i * sz+j),none⟩=some (g i j)/\I a.block (a.off+(i * sz+j)))/\(∀(i j:Nat) (s:SV),i<m->(f i)[j]?=some s->RO I w s (g i j)):=by
 cases h with
 |slnil h hn=>exact .inl ⟨rfl,hn,h⟩
 |sl g h hn hc hcm hs hl h1 hcell hrel=>exact .inr ⟨_,_,_,g,rfl,h,hn,hc,hcm,hs,hl,h1,hcell,hrel⟩
theorem Rel.sl_inv{E:Env}{w:World}{nl:BT}{n:ST}{sz:Nat}{f:Nat->List SV}{v:Value}(h:Rel E w (.sl nl n sz f) v):RO E.I w (.sl nl n sz f) v:=by
 cases h with
 |ro h=>exact h
theorem Rel.gsl_inv{E:Env}{w:World}{nl:BT}{n:ST}{sz:Nat}{f:Nat->List SV}{h:Nat}{v:Value}(hr:Rel E w (.gsl nl n sz f h) v):RO E.I w (.sl nl n sz f) v/\Ss E h n.den v:=by
 cases hr with
 |ro h=>cases h
 |gsl hr ht=>exact⟨hr,ht⟩
theorem Fa(hc:A1 P cx){t e sz:Nat}{ti:TI}(hl:look t cx.tt=some ti)(hk:ti.k=.slice e)(hn:size? cx e=some sz){w:World}{a:Addr}{m cap:Nat}{k:IntKind}{i:Int}(h0:0<=i)(h1:i<m):
  (Instr.indexAt t (.slice (some a) m cap) (.int k i)).run P w=.ok (.pointer (some (a.add (i.toNat * sz)))) w:=by
 have hu:=(hc.ti hl).slice hk;obtain⟨te,hte,hsz⟩:=size?_ti hn;have hS:=(hc.ti hte).sizeOf w;simp[Instr.indexAt,run_underlying hu,asIntOf,h0,h1,hS,hsz]
theorem Aff{I:Nat->Nat->Prop}{w:World}{f:Nat->List SV}{sz m:Nat}{a:Addr}{g:Nat->Nat->Value}(hs:0<m->a.spot=none)(hl:∀i,i<m->(f i).length=sz)(h1:∀i j,i<m->j<sz->(g i j).oneCell'=true)
  (hcell:∀i j,i<m->j<sz->w.cell? ⟨a.block,a.off+(i * sz+j),none⟩=some (g i j)/\I a.block (a.off+(i * sz+j))) (hrel:∀(i j:Nat) (s:SV),i<m->(f i)[j]?=some s->RO I w s (g i j)) {j:Nat} (hj:j<m):
  RO I w (.rptr (f j)) (.pointer (some (a.add (j * sz)))):=by
 refine .rptr (g j) (Vb _ _ (hs (by omega))) (λq hq=>h1 j q hj (by rw[hl j hj]at hq;exact hq)) (λq hq=>?_) (λq s hq=>hrel j q s hj hq);rw[Qo,Zl,Nat.add_assoc];exact hcell j q hj (by rw[hl j hj]at hq;exact hq)
theorem T3(hc:A1 P cx){t e sz:Nat}{ti:TI}(hl:look t cx.tt=some ti)(hk:ti.k=.slice e)(hn:size? cx e=some sz){x y:Operand}(ho:o.op=.indexAddr t x y){nl:BT}{n:ST}{f:Nat->List SV}{k:IntKind}{i:ST}
  (hv:rd cx σ T x=some (.sl nl n sz f)\/∃h,rd cx σ T x=some (.gsl nl n sz f h)) (hi:rd cx σ T y=some (.int k i)) (h1:Bh (Ac σ.gm T)->0<=i.den/\i.den<n.den):Ap P cx.gl σ T o ⟨.rptr (f i.den.toNat),[],[],[]⟩:=by
 intro B N E a w ff hf' hg st ag agh hT;have hx:RO E.I w (.sl nl n sz f) (a.eval x):=by
  rcases hv with hv|⟨h,hv⟩
  ·exact (Aa hv hg st (Ah ag (by simp[ho,Op.operands])) hT).sl_inv
  ·exact (Aa hv hg st (Ah ag (by simp[ho,Op.operands])) hT).gsl_inv.1
 have hy:=(Aa hi hg st (Ah ag (by simp[ho,Op.operands])) hT).int_inv;obtain⟨b1,b2⟩:=h1 hT;rcases hx.sl_inv with⟨_,e0,_⟩|⟨ad,m,cap,g,e0,_,e2,_,_,e4,e5,e5',e6,e7⟩
 ·omega
 ·have hj:i.den.toNat<m:=by omega
  refine Ad st (v:=.pointer (some (ad.add (i.den.toNat * sz)))) ?_ rfl (.ro (Aff e4 e5 e5' e6 e7 hj));have hrun:=Fa hc hl hk hn (w:=w) (a:=ad) (m:=m) (cap:=cap) (k:=k) b1 (show i.den<(m:Int) by omega);simp[execOp,ho,e0,hy,hrun]
theorem Rv(hc:A1 P cx){t e sz n:Nat}{ti:TI}(hl:look t cx.tt=some ti)(hk:ti.k=.array n e)(hn:size? cx e=some sz){x y:Operand}(ho:o.op=.indexAddr t x y){f:Nat->List SV}{k:IntKind}{i:ST}
  (hv:rd cx σ T x=some (.rarr n sz f)) (hi:rd cx σ T y=some (.int k i)) (h1:Bh (Ac σ.gm T)->0<=i.den/\i.den<n):Ap P cx.gl σ T o ⟨.rptr (f i.den.toNat),[],[],[]⟩:=by
 intro B N E a w ff hf' hg st ag agh hT;have hx:=Aa hv hg st (Ah ag (by simp[ho,Op.operands])) hT;have hy:=(Aa hi hg st (Ah ag (by simp[ho,Op.operands])) hT).int_inv;obtain⟨b1,b2⟩:=h1 hT;have hx:RO E.I w (.rarr n sz f) (a.eval x):=by cases hx with|ro h=>exact h
 generalize hev:a.eval x=ev at hx
 cases hx with
 |rarr g hs hl2 h1' hcell hrel =>
  rename_i ad;refine Ad st (v:=.pointer (some (ad.add (i.den.toNat * sz)))) ?_ rfl (.ro (Aff (λ_=>hs) hl2 h1' hcell hrel (by omega)));have hu:=(hc.ti hl).array hk;obtain⟨te,hte,hsz⟩:=size?_ti hn;have hS:=(hc.ti hte).sizeOf w;simp[execOp,ho,hev,hy,Instr.indexAt,run_underlying hu,asIntOf,b1,b2,hS,hsz,Instr.sureAddr]
theorem Vz{x:Operand}{i:Nat}(ho:o.op=.extract x i){vs:List SV}{s:SV}(hv:rd cx σ T x=some (.tup vs))(hs:nth vs i=some s):Ap P cx.gl σ T o ⟨s,[],[],[]⟩:=by
 intro B N E a w ff hf' hg st ag agh hT;obtain⟨us,hx,hl⟩:=(Aa hv hg st (Ah ag (by simp[ho,Op.operands])) hT).tup_inv;rw[Ag]at hs;have hlt:i<us.length:=by rw[<-hl.1];exact (List.getElem?_eq_some_iff.1 hs).1
 refine Ad st (v:=us[i]) ?_ rfl (hl.2 i s _ hs (List.getElem?_eq_getElem hlt));simp[execOp,ho,hx,Instr.extract,hlt]
theorem K8(b:BT):(Adr b).den=!b.den:=by unfold Adr;split<;>rfl
theorem Hx(op:BinOp)(x y:ST):(O7 op x y).den=B9 op x.den y.den:=by unfold O7;split<;>rfl
theorem Acj(op:BinOp)(k:IntKind)(x y:ST):(Amv op k x y).den=Et op k x.den y.den:=by unfold Amv;split<;>rfl
theorem Ah0{t:Nat}{x:Operand}(ho:o.op=.unOp .not t x){b:BT}(hv:rd cx σ T x=some (.bool b)):Ap P cx.gl σ T o ⟨.bool (Adr b),[],[],[]⟩:=by
 intro B N E a w ff hf' hg st ag agh hT;have hx:=(Aa hv hg st (Ah ag (by simp[ho,Op.operands])) hT).bool_inv;refine Ad st (v:=.bool (!b.den)) ?_ rfl (.bool (K8 b));simp[execOp,ho,hx,Op.unary]
theorem Ah2{t:Nat}{x:Operand}(ho:o.op=.unOp .neg t x){k:IntKind}{n:ST}(hv:rd cx σ T x=some (.int k n)):Ap P cx.gl σ T o ⟨.int k (Amv .sub k (.l 0) n),[],[],[]⟩:=by
 intro B N E a w ff hf' hg st ag agh hT;have hx:=(Aa hv hg st (Ah ag (by simp[ho,Op.operands])) hT).int_inv;refine Ad st (v:=.int k (k.wrap (0-n.den))) ?_ rfl (.int (Acj _ _ _ _));simp[execOp,ho,hx,Op.unary,Op.intArith]
theorem F6{t:Nat}{ti:TI}(hc:A1 P cx)(hl:look t cx.tt=some ti){e:TypeId}(hk:ti.k=.slice e){w:World}{a:Option Addr}{m c:Nat}{ty:TypeId}:
  (Builtin.len_ #[t] ty #[.slice a m c]).run P w=.ok (.int .i64 m) w:=by
 have hu:=(hc.ti hl).slice hk;simp[Builtin.len_,run_underlying hu,goInt]
theorem Z6{t:Nat}{ti:TI}(hc:A1 P cx)(hl:look t cx.tt=some ti)(hk:ti.k=.string){w:World}{s:ByteArray}{ty:TypeId}:
  (Builtin.len_ #[t] ty #[.string s]).run P w=.ok (.int .i64 s.size) w:=by
 obtain⟨d,hd,hb⟩:=(hc.ti hl).und;rw[hk]at hb;cases d<;>simp only[Jj,Bool.false_eq_true]at hb;simp[Builtin.len_,run_underlying hd,goInt]
theorem Of(hc:A1 P cx){c:Call}(ho:o.op=.call c)(hcal:c.callee=.builtin .len){x:Operand}{t:Nat}{ti:TI}(hx:c.args.toList=[x])(ht:c.argTypes.toList=[t])(hl:look t cx.tt=some ti){e:TypeId}(hk:ti.k=.slice e)
  {nl:BT} {n:ST} {sz:Nat} {f:Nat->List SV} (hv:rd cx σ T x=some (.sl nl n sz f)\/∃h,rd cx σ T x=some (.gsl nl n sz f h)):Ap P cx.gl σ T o ⟨.int .i64 n,[],[],[]⟩:=by
 intro B N E a w ff hf' hg st ag agh hT;have hmem:x∈o.op.operands.toList:=by simp[ho,Op.operands,Call.operands,hcal,hx]
 have hx':RO E.I w (.sl nl n sz f) (a.eval x):=by
  rcases hv with hv|⟨h,hv⟩
  ·exact (Aa hv hg st (Ah ag hmem) hT).sl_inv
  ·exact (Aa hv hg st (Ah ag hmem) hT).gsl_inv.1
 have e1:c.args=#[x]:=Array.ext' (by simpa using hx);have e2:c.argTypes=#[t]:=Array.ext' (by simpa using ht);have:∃a0 m c0,a.eval x=.slice a0 m c0/\n.den=(m:Int):=by
  rcases hx'.sl_inv with⟨e0,e3,_⟩|⟨ad,m,cap,g,e0,_,e3,_⟩
  ·exact⟨none,0,0,e0,by simpa using e3⟩
  ·exact⟨_,m,cap,e0,e3⟩
 obtain⟨a0,m,c0,e3,e4⟩:=this;have hrun:=F6 hc hl hk (w:=w) (a:=a0) (m:=m) (c:=c0) (ty:=o.type);refine Ad st (v:=.int .i64 m) ?_ rfl (.int e4);simp[execOp,ho,resolve,hcal,e1,e2,invoke,builtin,e3,hrun]
theorem Vv(hc:A1 P cx){c:Call}(ho:o.op=.call c)(hcal:c.callee=.builtin .len){x:Operand}{t:Nat}{ti:TI}(hx:c.args.toList=[x])(ht:c.argTypes.toList=[t])(hl:look t cx.tt=some ti)(hk:ti.k=.string)
  {s:List UInt8} (hv:rd cx σ T x=some (.str s)):Ap P cx.gl σ T o ⟨.int .i64 (.len s),[],[],[]⟩:=by
 intro B N E a w ff hf' hg st ag agh hT;have hmem:x∈o.op.operands.toList:=by simp[ho,Op.operands,Call.operands,hcal,hx]
 have hx':=(Aa hv hg st (Ah ag hmem) hT).str_inv;have e1:c.args=#[x]:=Array.ext' (by simpa using hx);have e2:c.argTypes=#[t]:=Array.ext' (by simpa using ht);have hrun:=Z6 hc hl hk (w:=w) (s:=bytes s) (ty:=o.type);refine Ad st (v:=.int .i64 s.length) ?_ rfl (.int rfl);have:(bytes s).size=s.length:=rfl;simp[execOp,ho,resolve,hcal,e1,e2,invoke,builtin,hx',hrun,this]
theorem Adx(hc:A1 P cx){src dst:Nat}{x:Operand}(ho:o.op=.convert src dst x){ti tj:TI}(hl:look dst cx.tt=some ti)(hl':look src cx.tt=some tj){k k':IntKind}(hk:ti.k=.int k){n:ST}(hv:rd cx σ T x=some (.int k' n)):
  Ap P cx.gl σ T o ⟨.int k (.cv k n),[],[],[]⟩:=by
 intro B N E a w ff hf' hg st ag agh hT;have hx:=(Aa hv hg st (Ah ag (by simp[ho,Op.operands])) hT).int_inv;have hu:=(hc.ti hl).int hk;obtain⟨d,hd,_⟩:=(hc.ti hl').und;refine Ad st (v:=.int k (k.wrap n.den)) ?_ rfl (.int rfl);simp[execOp,ho,hx,convert,run_underlying hu,run_underlying hd,Conv.intToInt]
theorem Ep{op:BinOp}{t:TypeId}{x y:Operand}{k k':IntKind}{m n:Int}{w:World}:(eqGuard op t x y (.int k m) (.int k' n)).run P w=.ok () w:=by
 unfold eqGuard;cases op<;>rfl
theorem I7{op:BinOp}{t:TypeId}{x y:Operand}{m n:Bool}{w:World}:(eqGuard op t x y (.bool m) (.bool n)).run P w=.ok () w:=by
 unfold eqGuard;cases op<;>rfl
theorem Gf{op:BinOp}{t:TypeId}{x y:Operand}{m n:ByteArray}{w:World}:(eqGuard op t x y (.string m) (.string n)).run P w=.ok () w:=by
 unfold eqGuard;cases op<;>rfl
theorem Ce{op:BinOp}{t u:TypeId}{x y:Operand}(ho:o.op=.binOp op t x y u){sx sy s:SV}(hx:rd cx σ T x=some sx)(hy:rd cx σ T y=some sy)
  (hrun:∀(E:Env) (w:World) (vx vy:Value),Bh (Ac σ.gm T)->Rel E w sx vx->Rel E w sy vy->∃v,(eqGuard op t x y vx vy).run P w=.ok () w/\(binOp op t vx vy).run P w=.ok v w/\Rel E w s v):Ap P cx.gl σ T o ⟨s,[],[],[]⟩:=by
 intro B N E a w ff hf' hg st ag agh hT;have h1:=Aa hx hg st (Ah ag (by simp[ho,Op.operands])) hT;have h2:=Aa hy hg st (Ah ag (by simp[ho,Op.operands])) hT;obtain⟨v,r1,r2,r3⟩:=hrun E w _ _ hT h1 h2;refine Ad st (v:=v) ?_ rfl r3;simp[execOp,ho,r1,r2]
theorem Acy{s t:List UInt8}:((bytes s).toList==(bytes t).toList)=(s==t):=by
 have h:∀l:List UInt8,(bytes l).toList=l:=λl=>by rw[Go.Lib.toList_data];rfl
 rw[h,h]
end
section
variable {P:Program} {cx:Cx} {σ:Sy} {T:List Nat} {o:Oper} {K:Out->Prop}
theorem Wd{op:BinOp}(ha:Am0 op=true){t:TypeId}{k:IntKind}{m n:Int}{w:World}:(binOp op t (.int k m) (.int k n)).run P w=.ok (.int k (Et op k m n)) w:=by
 cases op<;>first|(simp[Am0]at ha;done)|simp[binOp,Op.intArith,Op.intBits,Et]
theorem Aci{op:BinOp}(ha:Alp op=true){t:TypeId}{k:IntKind}{m n:Int}{w:World}:(binOp op t (.int k m) (.int k n)).run P w=.ok (.bool (B9 op m n)) w:=by
 cases op<;>first|(simp[Alp]at ha;done)|simp[binOp,Op.intCmp,B9]
theorem Lr(x y:BT):(U9 x y).den=(x.den&&y.den):=by
 unfold U9
 split
 ·simp[BT.den]
 ·simp[BT.den]
 ·rfl
def N7(agg:Bool)(vs:List Value):Value:=if agg then .agg ⟨vs⟩ else vs.headD undef
theorem D8.bool{t:Nat}{ti:TI}(h:D8 P t ti)(hk:ti.k=.bool):P.underlying t=some .bool:=by
 obtain⟨d,hd,hb⟩:=h.und;rw[hk]at hb;cases d<;>simp only[Jj,Bool.false_eq_true]at hb;exact hd
theorem D8.string{t:Nat}{ti:TI}(h:D8 P t ti)(hk:ti.k=.string):P.underlying t=some .string:=by
 obtain⟨d,hd,hb⟩:=h.und;rw[hk]at hb;cases d<;>simp only[Jj,Bool.false_eq_true]at hb;exact hd
theorem A2.one{E:Env}{w:World}{s:SV}{vs:List Value}(h:A2 E w [s] vs):∃v,vs=[v]/\Rel E w s v:=by
 match vs,h with
 | [v],h=>exact⟨v,rfl,h.2 0 s v rfl rfl⟩
 | [],h=>exact absurd h.1 (by simp)
 |_ :: _ :: _,h=>exact absurd h.1 (by simp)
theorem Abv(hc:A1 P cx){g:TypeId->List SV->List SV->Option BT}{d:Nat}{E:Env}{w:World}
  (hg:∀(t:TypeId) (ti:TI) (xs ys:List SV) (b:BT) (X Y:List Value),look t cx.tt=some ti->g t xs ys=some b->A2 E w xs X->A2 E w ys Y->
   (Ks ti.k=false->X.length=1/\Y.length=1)/\(Op.equalIn d t (N7 (Ks ti.k) X) (N7 (Ks ti.k) Y)).run P w=.ok b.den w) {xs ys:List SV} {X Y:List Value} (hX:A2 E w xs X) (hY:A2 E w ys Y):
  ∀(fields:List Field) (b:BT),(∀f∈fields,f.name≠"_")->Amj cx g xs ys (fields.map λf=>(f.offset,f.type))=some b->(Op.eqFields d ⟨X⟩ ⟨Y⟩ fields).run P w=.ok b.den w
 | [],b,_,h=>by simp[Amj]at h;subst h;rfl
 |f :: fields,b,hn,h=>by
  simp only[List.map_cons,Amj]at h
  split at h
  ·rename_i m hm
   split at h
   ·rename_i b1 b2 h1 h2
    cases h;obtain⟨ti,hti,hsz⟩:=size?_ti hm;rw[A9,Bo,A9,Bo]at h1;have hX':=(hX.drop f.offset).take m;have hY':=(hY.drop f.offset).take m;obtain⟨k1,k2⟩:=hg f.type ti _ _ b1 _ _ hti h1 hX' hY';have r1:=Nw (hc.ti hti) hsz (w:=w) (vs:=X) (fo:=f.offset) (λe=>(k1 e).1);have r2:=Nw (hc.ti hti) hsz (w:=w) (vs:=Y) (fo:=f.offset) (λe=>(k1 e).2);have ih:=Abv hc hg hX hY fields b2 (λf hf=>hn f (List.mem_cons_of_mem _ hf)) h2;unfold N7 at k2;simp only[Op.eqFields,ne_eq,hn f (List.mem_cons_self ..),not_false_eq_true,if_true,Sem.run_bind,r1,r2,k2,Result.andThen_ok];rw[Lr];cases b1.den<;>simp[ih]
   ·cases h
  ·cases h
theorem Abw(hc:A1 P cx){E:Env}{w:World}:∀(n d:Nat),n<=d->∀(t:TypeId) (ti:TI) (xs ys:List SV) (b:BT) (X Y:List Value),look t cx.tt=some ti->Aei cx n t xs ys=some b->A2 E w xs X->A2 E w ys Y->
   (Ks ti.k=false->X.length=1/\Y.length=1)/\(Op.equalIn d t (N7 (Ks ti.k) X) (N7 (Ks ti.k) Y)).run P w=.ok b.den w
 |0,_,_,_,_,_,_,_,_,_,_,h,_,_=>by simp[Aei]at h
 |n+1,0,hd,_,_,_,_,_,_,_,_,_,_,_=>by omega
 |n+1,d+1,hd,t,ti,xs,ys,b,X,Y,hl,h,hX,hY=>by
  simp only[Aei,hl]at h
  split at h
  ·rename_i k a1 a2 a3 e
   cases e;have hu:=(hc.ti hl).int rfl
   split at h
   ·split at h
    ·cases h
     obtain⟨u,rfl,hu1⟩:=hX.one;obtain⟨v,rfl,hv1⟩:=hY.one;refine⟨λ_=>⟨rfl,rfl⟩,?_⟩;rename_i e2;subst e2;rw[hu1.int_inv,hv1.int_inv];simp only[N7,Ks,Hx,B9];exact run_equalIn_int w d t _ k _ _ hu
    ·cases h
   ·cases h
  ·rename_i a1 a2 a3 e
   cases e;have hu:=(hc.ti hl).bool rfl
   split at h
   ·cases h
    obtain⟨u,rfl,hu1⟩:=hX.one;obtain⟨v,rfl,hv1⟩:=hY.one;refine⟨λ_=>⟨rfl,rfl⟩,?_⟩;rw[hu1.bool_inv,hv1.bool_inv];simp only[N7,Ks];exact run_equalIn_bool' w d t _ _ hu
   ·cases h
  ·rename_i a1 a2 a3 e
   cases e;have hu:=(hc.ti hl).string rfl
   split at h
   ·cases h
    obtain⟨u,rfl,hu1⟩:=hX.one;obtain⟨v,rfl,hv1⟩:=hY.one;refine⟨λ_=>⟨rfl,rfl⟩,?_⟩;rw[hu1.str_inv,hv1.str_inv];simp only[N7,Ks];refine (run_equalIn_string w d t _ _ hu).trans ?_;rw[Acy];rfl
   ·cases h
  ·rename_i fs a1 a2 a3 e
   cases e
   split at h
   ·rename_i hmem
    obtain⟨e1,e2,e3⟩:=hc.eqs t ((Dv _ _).1 hmem);obtain⟨fields,hu,he,_⟩:=(hc.ti hl).struct rfl;have hfo:P.fieldsOf t=fields:=by simp[Program.fieldsOf,hu]
    refine⟨λe=>by simp[Ks]at e,?_⟩;simp only[N7,Ks,if_true];rw[run_equalIn_agg w d t ⟨X⟩ ⟨Y⟩ (by rw[hfo];exact hu) e1];rw[hfo]at e3 ⊢;rw[<-he]at h;exact Abv hc (λt ti xs ys b X Y a1 a2 a3 a4=>Abw hc n d (by omega) t ti xs ys b X Y a1 a2 a3 a4) hX hY fields.toList b e3 h
   ·cases h
  ·cases h
theorem Z3(cx:Cx)(a b:List UInt8):(seqS cx a b).den=(a==b):=by
 unfold seqS
 split<;>rfl
theorem Aas{E:Env}{w:World}{s:SV}{nl:BT}{v:Value}(h:nlOf s=some nl)(hr:Rel E w s v):∃a m c,v=.slice a m c/\(nl.den=a.isNone):=by
 have key:∀(a:Option Addr),(nl.den=true↔a=none)->nl.den=a.isNone:=by
  intro a ha;cases a with
  |none=>simpa using ha
  |some x=>simpa using ha
 have hsl:∀ {n:ST} {sz:Nat} {f:Nat->List SV},RO E.I w (.sl nl n sz f) v->∃a m c,v=.slice a m c/\(nl.den=a.isNone):=by
  intro n sz f hr;cases hr with
  |slnil h hn=>exact⟨none,0,0,rfl,h⟩
  |sl g h hn hc hcm hs hl h1 hcell hrel=>exact⟨_,_,_,rfl,h⟩
 unfold nlOf at h
 split at h<;>simp only[Option.some.injEq,reduceCtorEq]at h
 ·subst h
  cases hr with
  |ro h=>exact hsl h
 ·subst h
  cases hr with
  |ro h=>cases h
  |gsl h _=>exact hsl h
 ·subst h
  obtain⟨⟨a,m,c,e1,_,e2⟩,_⟩:=hr.osl_inv;exact⟨a,m,c,e1,key a e2⟩
 ·subst h
  obtain⟨⟨a,m,c,e1,_,e2⟩,_⟩:=hr.vsl_inv;exact⟨a,m,c,e1,key a e2⟩
theorem Nx{w:World}{t e:TypeId}(a:Option Addr)(n c:Nat)(h:P.underlying t=some (.slice e)):
  (binOp .eql t (.slice a n c) (.slice none 0 0)).run P w=.ok (.bool a.isNone) w:=by
 have h:∀d:Nat,(Op.equalIn (d+1) t (.slice a n c) (.slice none 0 0)).run P w=.ok a.isNone w:=λd=>by
  cases a<;>simp[Op.equalIn,run_underlying h]
 simp only[binOp];simp[Op.equal,Op.maxDepth,h 9999]
theorem My{w:World}{t e:TypeId}(a:Option Addr)(n c:Nat)(h:P.underlying t=some (.slice e)):
  (binOp .neq t (.slice a n c) (.slice none 0 0)).run P w=.ok (.bool (!a.isNone)) w:=by
 have h:∀d:Nat,(Op.equalIn (d+1) t (.slice a n c) (.slice none 0 0)).run P w=.ok a.isNone w:=λd=>by
  cases a<;>simp[Op.equalIn,run_underlying h]
 simp only[binOp];simp[Op.equal,Op.maxDepth,h 9999]
theorem H6{op:BinOp}{t:TypeId}{x y:Operand}{a:Option Addr}{n c n' c':Nat}{w:World}:(eqGuard op t x y (.slice a n c) (.slice none n' c')).run P w=.ok () w:=by
 unfold eqGuard;cases op<;>rfl
theorem Ads(hc:A1 P cx){op:BinOp}{t u:TypeId}{x y:Operand}(ho:o.op=.binOp op t x y u){sx:SV}{f:Nat->List SV}(hx:rd cx σ T x=some sx)(hy:rd cx σ T y=some (.sl (.l true) (.l 0) 0 f))
  {e:TypeId} {a1 a2:Nat} {a3:List SV} (hl:look t cx.tt=some ⟨.slice e,a1,a2,a3⟩) {nl:BT} (hn:nlOf sx=some nl) (h:Ala op nl K):∃r,K r/\Ap P cx.gl σ T o r:=by
 have hu:=(hc.ti hl).slice rfl;have hy0:∀ {E:Env} {w:World} {v:Value},Rel E w (.sl (.l true) (.l 0) 0 f) v->v=.slice none 0 0:=by
  intro E w v hr;cases hr with
  |ro h=>cases h with
   |slnil=>rfl
   |sl g h=>cases h
 unfold Ala at h
 split at h
 ·refine⟨_,h,Ce ho hx hy λE w vx vy _ h1 h2=>?_⟩
  obtain⟨a,m,c,rfl,e1⟩:=Aas hn h1;rw[hy0 h2];exact⟨_,H6,Nx a m c hu,.bool e1⟩
 ·refine⟨_,h,Ce ho hx hy λE w vx vy _ h1 h2=>?_⟩
  obtain⟨a,m,c,rfl,e1⟩:=Aas hn h1;rw[hy0 h2];exact⟨_,H6,My a m c hu,.bool (by rw[K8,e1])⟩
 ·exact h.elim
theorem W5{E:Env}{w:World}{s:SV}{b:BT}{v:Value}(h:Als s=some b)(hr:Rel E w s v):(v=.nilIface/\b.den=true)\/((∃t x,v=.iface t x)/\b.den=false):=by
 unfold Als at h
 split at h<;>simp only[Option.some.injEq,reduceCtorEq]at h
 ·subst h
  cases hr with
  |ro h=>cases h with
   |ifc h=>exact h
 ·subst h
  cases hr with
  |ro h=>cases h with
   |raw h=>exact .inl ⟨h,rfl⟩
theorem D8.iface{t:Nat}{ti:TI}(h:D8 P t ti)(hk:ti.k=.iface):∃ms,P.underlying t=some (.interface ms):=by
 obtain⟨d,hd,hb⟩:=h.und;rw[hk]at hb;cases d<;>simp only[Jj,Bool.false_eq_true]at hb;exact⟨_,hd⟩
theorem Qs{w:World}{t:TypeId}{ms}{v:Value}{b:Bool}(h:P.underlying t=some (.interface ms))(hv:(v=.nilIface/\b=true)\/((∃t x,v=.iface t x)/\b=false))(d:Nat):(Op.equalIn (d+1) t v .nilIface).run P w=.ok b w:=by
 rcases hv with⟨rfl,rfl⟩|⟨⟨_,_,rfl⟩,rfl⟩<;>simp[Op.equalIn,run_underlying h]
theorem Kh{op:BinOp}{t:TypeId}{x:Operand}{c v:Value}{w:World}:(eqGuard op t x (.const c) v .nilIface).run P w=.ok () w:=by
 unfold eqGuard;cases op<;>first|rfl|(cases v<;>simp)
theorem Vl(hc:A1 P cx){op:BinOp}{t u:TypeId}{x y:Operand}(ho:o.op=.binOp op t x y u){sx sy:SV}(hx:rd cx σ T x=some sx)(hy:rd cx σ T y=some sy)(h:X4 cx op t sx y K):∃r,K r/\Ap P cx.gl σ T o r:=by
 unfold X4 at h
 split at h
 ·rename_i b a1 a2 a3 hb hl
  obtain⟨ms,hu⟩:=(hc.ti hl).iface rfl;have hy0:∀ {E:Env} {w:World} {v:Value},Rel E w sy v->v=.nilIface:=by
   intro E w v hr;simp only[rd,Oa,Option.some.injEq]at hy;subst hy;cases hr with
   |ro h=>cases h with
    |raw h=>exact h
  unfold Ala at h
  split at h
  ·refine⟨_,h,Ce ho hx hy λE w vx vy _ h1 h2=>?_⟩
   have hv:=W5 hb h1;rw[hy0 h2];refine⟨.bool b.den,Kh,?_,.bool rfl⟩;simp only[binOp];simp[Op.equal,Op.maxDepth,Qs hu hv 9999]
  ·refine⟨_,h,Ce ho hx hy λE w vx vy _ h1 h2=>?_⟩
   have hv:=W5 hb h1;rw[hy0 h2];refine⟨.bool (!b.den),Kh,?_,.bool (K8 b)⟩;simp only[binOp];simp[Op.equal,Op.maxDepth,Qs hu hv 9999]
  ·exact h.elim
 ·exact h.elim
theorem Vm(hc:A1 P cx){op:BinOp}{t u:TypeId}{x y:Operand}(ho:o.op=.binOp op t x y u){sx sy:SV}(hx:rd cx σ T x=some sx)(hy:rd cx σ T y=some sy)(h:X5 cx σ.gm T op t sx sy K):
  ∃r,K r/\Ap P cx.gl σ T o r:=by
 unfold X5 at h
 split at h
 ·rename_i k a k' b
  split at h
  ·rename_i har
   split at h
   ·rename_i hk
    subst hk;refine⟨_,h,Ce ho hx hy λE w vx vy _ h1 h2=>?_⟩;rw[h1.int_inv,h2.int_inv];exact⟨_,Ep,Wd har,.int (Acj _ _ _ _)⟩
   ·exact h.elim
  ·split at h
   ·rename_i hcm
    split at h
    ·rename_i hk
     subst hk;refine⟨_,h,Ce ho hx hy λE w vx vy _ h1 h2=>?_⟩;rw[h1.int_inv,h2.int_inv];exact⟨_,Ep,Aci hcm,.bool (Hx _ _ _)⟩
    ·exact h.elim
   ·have hquo:∀(op':BinOp),(op'=.quo\/op'=.rem)->op=op'->(if k=k' then Ob cx.D σ.gm T (NZ (cx.D.i b))/\out K (.int k (.bin op k a b)) else False)->∃r,K r/\Ap P cx.gl σ T o r:=by
     intro op' hop e hh
     split at hh
     ·rename_i hk
      subst hk;obtain⟨hob,hh⟩:=hh;rw[hc.D,Dh]at hob;refine⟨_,hh,Ce ho hx hy λE w vx vy hT h1 h2=>?_⟩;rw[h1.int_inv,h2.int_inv];have hb:b.den≠0:=(hob hT).h;refine⟨.int k (Et op k a.den b.den),Ep,?_,.int rfl⟩;subst e;rcases hop with rfl|rfl<;>simp[binOp,Op.intDiv,Et,hb]
     ·exact hh.elim
    have hsh:∀(op':BinOp),(op'=.shl\/op'=.shr)->op=op'->(Ob cx.D σ.gm T (NN (cx.D.i b))/\out K (.int k (.bin op k a b)))->∃r,K r/\Ap P cx.gl σ T o r:=by
     intro op' hop e hh;obtain⟨hob,hh⟩:=hh;rw[hc.D,Dh]at hob;refine⟨_,hh,Ce ho hx hy λE w vx vy hT h1 h2=>?_⟩;rw[h1.int_inv,h2.int_inv];have hb:0<=b.den:=(hob hT).h;refine⟨.int k (Et op k a.den b.den),Ep,?_,.int rfl⟩;have hb':¬b.den<0:=by omega
     subst e;rcases hop with rfl|rfl<;>simp[binOp,Op.shift,Et,hb']
    split at h
    ·exact hquo _ (.inl rfl) rfl h
    ·exact hquo _ (.inr rfl) rfl h
    ·exact hsh _ (.inl rfl) rfl h
    ·exact hsh _ (.inr rfl) rfl h
    ·exact h.elim
 ·rename_i a b
  split at h
  ·rename_i a1 a2 a3 hl
   have hu:=(hc.ti hl).bool rfl;refine⟨_,h,Ce ho hx hy λE w vx vy _ h1 h2=>?_⟩;rw[h1.bool_inv,h2.bool_inv];refine⟨.bool (a.den==b.den),I7,?_,.bool rfl⟩;simp only[binOp,Op.equal,Op.maxDepth,Sem.run_bind,run_equalIn_bool' w 9999 t _ _ hu,Result.andThen_ok,Sem.run_pure]
  ·rename_i a1 a2 a3 hl
   have hu:=(hc.ti hl).bool rfl;refine⟨_,h,Ce ho hx hy λE w vx vy _ h1 h2=>?_⟩;rw[h1.bool_inv,h2.bool_inv];refine⟨.bool (!(a.den==b.den)),I7,?_,.bool rfl⟩;simp only[binOp,Op.equal,Op.maxDepth,Sem.run_bind,run_equalIn_bool' w 9999 t _ _ hu,Result.andThen_ok,Sem.run_pure]
  ·exact h.elim
 ·rename_i a b
  split at h
  ·obtain⟨hob,h⟩:=h
   rw[hc.D,Dh]at hob;refine⟨_,h _ ⟨rfl⟩,Ce ho hx hy λE w vx vy hT h1 h2=>?_⟩;rw[h1.str_inv,h2.str_inv];have hle:=(hob hT).h;refine⟨.string (bytes (a++b)),Gf,?_,.ro (.str rfl)⟩;have hs:∀l:List UInt8,(bytes l).size=l.length:=λ_=>rfl;have hmax:¬(IntKind.i64.max<((a.length+b.length:Nat):Int)):=by
    have:IntKind.i64.max=9223372036854775807:=by decide
    omega
   have happ:bytes a++bytes b=bytes (a++b):=by
    apply ByteArray.ext;rw[ByteArray.data_append];simp[bytes]
   simp only[binOp,Op.stringOp,hs,gt_iff_lt,hmax,if_false,happ,Sem.run_pure]
  ·refine⟨_,h,Ce ho hx hy λE w vx vy _ h1 h2=>?_⟩
   rw[h1.str_inv,h2.str_inv];exact⟨.bool (a==b),Gf,by simp only[binOp,Op.stringOp,Acy,Sem.run_pure],.bool (Z3 cx a b)⟩
  ·refine⟨_,h,Ce ho hx hy λE w vx vy _ h1 h2=>?_⟩
   rw[h1.str_inv,h2.str_inv];exact⟨.bool (!(a==b)),Gf,by simp only[binOp,Op.stringOp,Acy,Sem.run_pure],.bool (by rw[K8,Z3])⟩
  ·exact h.elim
 ·rename_i a b
  have key:∀c,(Kr t cx.eqs&&isAgg? cx t)=true->Aei cx 8 t a b=some c->∀(E:Env) (w:World) (vx vy:Value),Rel E w (.agg a) vx->Rel E w (.agg b) vy->
    ∃X Y,vx=.agg ⟨X⟩/\vy=.agg ⟨Y⟩/\∀(x y:Operand),(eqGuard op t x y vx vy).run P w=.ok () w/\(Op.equalIn 10000 t vx vy).run P w=.ok c.den w:=by
   intro c hag he E w vx vy h1 h2;simp only[Bool.and_eq_true]at hag;have:∃ti,look t cx.tt=some ti:=by
    cases hl:look t cx.tt with
    |none=>simp[Aei,hl]at he
    |some ti=>exact⟨ti,rfl⟩
   obtain⟨ti,hl⟩:=this;obtain⟨X,rfl,hX⟩:=h1.agg_inv;obtain⟨Y,rfl,hY⟩:=h2.agg_inv;obtain⟨k1,k2⟩:=Abw hc 8 10000 (by decide) t ti a b c X Y hl he hX hY;rw[isAgg?_eq hl]at hag;rw[hag.2]at k2;exact⟨X,Y,rfl,rfl,λx y=>⟨run_eqGuard_agg w op t x y _ _ (hc.eqs t ((Dv _ _).1 hag.1)).2.1,k2⟩⟩
  split at h
  ·rename_i c hag he
   refine⟨_,h,Ce ho hx hy λE w vx vy _ h1 h2=>?_⟩;obtain⟨X,Y,rfl,rfl,hk⟩:=key c hag he E w vx vy h1 h2;obtain⟨g1,g2⟩:=hk x y;refine⟨.bool c.den,g1,?_,.bool rfl⟩;rw[run_eql_struct,g2];rfl
  ·rename_i c hag he
   refine⟨_,h,Ce ho hx hy λE w vx vy _ h1 h2=>?_⟩;obtain⟨X,Y,rfl,rfl,hk⟩:=key c hag he E w vx vy h1 h2;obtain⟨g1,g2⟩:=hk x y;refine⟨.bool (!c.den),g1,?_,.bool (K8 c)⟩;rw[run_neq_struct,g2];rfl
  ·exact h.elim
 ·skip
  split at h
  ·rename_i nl e a1 a2 a3 hn hl
   exact Ads hc ho hx hy hl hn h
  ·exact h.elim
 ·exact h.elim
end
section
variable {P:Program} {cx:Cx} {σ:Sy} {T:List Nat} {o:Oper} {K:Out->Prop}
theorem Eh{B:Bs}{N:Nat}{E:Env}{a:Act}{w:World}{ff:Nat->SG}{hf:Nat->Hl}(hg:E6 B cx.gl)(st:St B N E a w ff hf)(hT:Bh (Ac σ.gm T)):
  ∀(ps:List (Nat×Operand)) (vs:List (Nat×SV)),(∀p∈ps,∀s∈Cu p.2,ff s=Ba σ s)->F1 cx σ T ps=some vs->vs.length=ps.length/\∀(i:Nat) (p:Nat×SV) (q:Nat×Operand),vs[i]?=some p->ps[i]?=some q->p.1=q.1/\Rel E w p.2 (a.eval q.2)
 | [],vs,_,h=>by simp[F1]at h;subst h;simp
 |(i,x) :: ps,vs,ag,h=>by
  simp only[F1]at h
  split at h
  ·rename_i v us hv hus
   cases h;obtain⟨h1,h2⟩:=Eh hg st hT ps us (λp hp=>ag p (List.mem_cons_of_mem _ hp)) hus;refine⟨by simp[h1],λj p q hp hq=>?_⟩;cases j with
   |zero =>
    simp at hp hq;subst hp hq;exact⟨rfl,Aa hv hg st (ag _ (List.mem_cons_self ..)) hT⟩
   |succ j=>simp at hp hq;exact h2 j p q hp hq
  ·cases h
theorem Ako{E:Env}{w:World}{cs vs:List SV}{C us:List Value}(h:A2 E w cs C)(hv:A2 E w vs us)(off:Nat)(hle:off+vs.length<=cs.length):A2 E w (C7 cs off vs) (C7 C off us):=by
 refine⟨by rw[Db,Db,h.1],λi s v h1 h2=>?_⟩;rw[Hs _ _ _ _ hle]at h1;rw[Hs _ _ _ _ (by rw[<-hv.1,<-h.1];exact hle)]at h2;rw[<-hv.1]at h2
 split at h1
 ·rename_i e
  rw[if_pos e]at h2;exact hv.2 _ s v h1 h2
 ·rename_i e
  rw[if_neg e]at h2;exact h.2 i s v h1 h2
theorem Xe:∀(us:List Value) (C:List Value) (off k:Nat),(us.zipIdx k).foldl (λ(cs:Array Value) (c:Value×Nat)=>cs.setIfInBounds (off+c.2) c.1) ⟨C⟩=⟨C7 C (off+k) us⟩
 | [],C,off,k=>rfl
 |u :: us,C,off,k=>by
  simp only[List.zipIdx_cons,List.foldl_cons];have:(⟨C⟩:Array Value).setIfInBounds (off+k) u=⟨Ax C (off+k) u⟩:=by rw[As];simp
  rw[this,Xe us _ off (k+1),C7];congr 1
theorem Xn{place:Nat->Option (Nat×Nat)}{C:List Value}{i off n:Nat}{v:Value}{ps:List (Nat×Value)}(hp:place i=some (off,n))(hn:v.cells.size=n)(hle:off+n<=C.length):
  Instr.fill place ⟨C⟩ ((i,v) :: ps)=Instr.fill place ⟨C7 C off v.cells.toList⟩ ps:=by
 have hf:=Xe v.cells.toList C off 0;simp only[Nat.add_zero]at hf;have hz:v.cells.zipIdx.foldl (λ(cs:Array Value) (c:Value×Nat)=>cs.setIfInBounds (off+c.2) c.1) ⟨C⟩=⟨C7 C off v.cells.toList⟩:=by
  rw[<-hf,<-Array.foldl_toList];congr 1;simp
 simp only[Instr.fill,hp];rw[if_neg (by simp;omega)];rw[<-hz]
theorem Rb(hc:A1 P cx){E:Env}{w:World}{t:Nat}{ti:TI}(hl:look t cx.tt=some ti){place:Nat->Option (Nat×Nat)}
  (hplace:∀(i off n:Nat),(∃fs ft,ti.k=.struct fs/\nth fs i=some (off,ft)/\size? cx ft=some n)\/(∃m e,ti.k=.array m e/\size? cx e=some n/\off=i * n)->place i=some (off,n)):
  ∀(vs:List (Nat×SV)) (us:List (Nat×Value)) (cs cs':List SV) (C:List Value),vs.length=us.length->(∀(i:Nat) (p:Nat×SV) (q:Nat×Value),vs[i]?=some p->us[i]?=some q->p.1=q.1/\Rel E w p.2 q.2)->(∀p∈vs,Ed p.2.cells=true)->A2 E w cs C->
   Rc cx t cs vs=some cs'->∃C',Instr.fill place ⟨C⟩ us=some ⟨C'⟩/\A2 E w cs' C'
 | [],us,cs,cs',C,hlen,_,_,hr,h=>by
  have:us=[]:=List.eq_nil_of_length_eq_zero (by simpa using hlen.symm);subst this;simp[Rc]at h;subst h;exact⟨C,rfl,hr⟩
 |(i,v) :: vs,us,cs,cs',C,hlen,hrel,h1,hr,h=>by
  match us,hlen,hrel with
  |(i',u) :: us,hlen,hrel =>
   obtain⟨e0,hvu⟩:=hrel 0 (i,v) (i',u) rfl rfl;simp only at e0;subst e0;have hcells:=Hz (h1 _ (List.mem_cons_self ..)) hvu;simp only[Rc,hl]at h;have fin:∀(off n:Nat),place i=some (off,n)->(Af v.cells==n&&Nat.ble (off+n) (Af cs))=true->Rc cx t (C7 cs off v.cells) vs=some cs'->∃C',Instr.fill place ⟨C⟩ ((i,u) :: us)=some ⟨C'⟩/\A2 E w cs' C':=by
    intro off n hp hb h;simp only[Bool.and_eq_true,beq_iff_eq,Nat.ble_eq,Ae]at hb;obtain⟨b1,b2⟩:=hb;have hsz:u.cells.size=n:=by rw[<-b1,hcells.1];simp
    rw[Xn hp hsz (by rw[<-hr.1];exact b2)];exact Rb hc hl hplace vs us _ cs' _ (by simpa using hlen) (λj p q a b=>hrel (j+1) p q (by simpa using a) (by simpa using b)) (λp hp=>h1 p (List.mem_cons_of_mem _ hp)) (Ako hr hcells off (by show off+v.cells.length<=cs.length;omega)) h
   split at h
   ·rename_i fs a1 a2 a3 e
    cases e
    split at h
    ·rename_i off ft hn
     split at h
     ·rename_i n hsz
      split at h
      ·rename_i hb
       exact fin off n (hplace i off n (.inl ⟨fs,ft,rfl,hn,hsz⟩)) hb h
      ·cases h
     ·cases h
    ·cases h
   ·rename_i m e a1 a2 a3 e2
    cases e2
    split at h
    ·rename_i n hsz
     split at h
     ·rename_i hb
      exact fin (i * n) n (hplace i _ n (.inr ⟨m,e,rfl,hsz,rfl⟩)) hb h
     ·cases h
    ·cases h
   ·cases h
theorem Q1{Q:Program}:∀(fs:List Field),(∀f∈fs,∃i,Q.info? f.type=some i)->∃places:List (Nat×Nat),fs.mapM (λ(f:Field)=>(Q.info? f.type).map λi=>(f.offset,i.size))=some places/\∀i:Nat,places[i]?=(fs[i]?).bind λ(f:Field)=>(Q.info? f.type).map λj=>(f.offset,j.size)
 | [],_=>⟨[],by simp,by simp⟩
 |f :: fs,h=>by
  obtain⟨i,hi⟩:=h f (List.mem_cons_self ..);obtain⟨ps,h1,h2⟩:=Q1 (Q:=Q) fs (λf hf=>h f (List.mem_cons_of_mem _ hf));refine⟨(f.offset,i.size) :: ps,by simp[List.mapM_cons,hi,h1],λj=>?_⟩;cases j with
  |zero=>simp[hi]
  |succ j=>simp[h2]
theorem Je:∀ {ps:List (Nat×SV)},N8 ps=true->∀p∈ps,Ed p.2.cells=true
 | [],_,p,hp=>by cases hp
 |q :: ps,h,p,hp=>by
  simp only[N8,Bool.and_eq_true]at h;rcases List.mem_cons.1 hp with rfl|hp
  ·exact h.1
  ·exact Je h.2 p hp
theorem Q2(hc:A1 P cx){t:Nat}{ps:Array (Nat×Operand)}(ho:o.op=.build t ps){ti:TI}(hl:look t cx.tt=some ti){vs:List (Nat×SV)}(hv:F1 cx σ T ps.toList=some vs)(h1:N8 vs=true){cs:List SV}
  (hf:Rc cx t ti.zero vs=some cs) (hk:(∃fs,ti.k=.struct fs)\/∃n e,ti.k=.array n e) (hsz:∀e n,ti.k=.array n e->∃m,size? cx e=some m):Ap P cx.gl σ T o ⟨.agg cs,[],[],[]⟩:=by
 intro B N E a w ff hf' hg st ag agh hT;have hag:∀p∈ps.toList,∀s∈Cu p.2,ff s=Ba σ s:=λp hp=>Ah ag (by simp only[ho,Op.operands];simp;exact⟨p.1,by simpa using hp⟩);obtain⟨h2,h3⟩:=Eh hg st hT ps.toList vs hag hv;obtain⟨z,hz,hzr,_⟩:=(hc.ti hl).zero E w;obtain⟨i,z',hi,hsz1,_,hz',_⟩:=(hc.ti hl).info;have hzz:z'=z:=by
  have:(zeroValue t).run P w=.ok z' w:=by simp[zeroValue,typeInfo,hi,hz']
  rw[hz]at this;simpa using this.symm
 subst hzz;have hus:∀(j:Nat) (p:Nat×SV) (q:Nat×Value),vs[j]?=some p->((ps.map λ(x:Nat×Operand)=>(x.1,a.eval x.2)).toList)[j]?=some q->p.1=q.1/\Rel E w p.2 q.2:=by
  intro j p q hp hq;rw[Array.toList_map,List.getElem?_map]at hq;cases hpj:ps.toList[j]? with
  |none=>rw[hpj]at hq;cases hq
  |some x =>
   rw[hpj]at hq;simp only[Option.map_some,Option.some.injEq]at hq;subst hq;exact h3 j p x hp hpj
 have fin:∀(place:Nat->Option (Nat×Nat)),(∀(i off n:Nat),(∃fs ft,ti.k=.struct fs/\nth fs i=some (off,ft)/\size? cx ft=some n)\/(∃m e,ti.k=.array m e/\size? cx e=some n/\off=i * n)->place i=some (off,n))->
   (∀us,P.built t us=Instr.fill place z'.cells us)->Aex P o ⟨.agg cs,[],[],[]⟩ B E a w hf':=by
  intro place hpl hb;obtain⟨C',c1,c2⟩:=Rb hc hl hpl vs (ps.map λ(x:Nat×Operand)=>(x.1,a.eval x.2)).toList ti.zero cs z'.cells.toList (by simp[h2]) hus (Je h1) hzr hf;have hrun:=run_build (P:=P) w t (ps.map λ(x:Nat×Operand)=>(x.1,a.eval x.2)) ⟨C'⟩ (by rw[hb];exact c1);refine Ad st (v:=.agg ⟨C'⟩) ?_ rfl c2.agg;simp only[execOp,ho,Sem.run_bind];rw[hrun];rfl
 rcases hk with⟨fs,hk⟩|⟨n,e,hk⟩
 ·obtain⟨fields,hu,he,hin⟩:=(hc.ti hl).struct hk
  obtain⟨places,p1,p2⟩:=Q1 (Q:=P) fields.toList hin;refine fin (places.toArray[·]?) ?_ ?_
  ·rintro i off n (⟨fs',ft,k1,k2,k3⟩|⟨m,e,k1,_⟩)
   ·rw[hk]at k1
    cases k1;obtain⟨f,f1,f2,f3⟩:=M9 he k2;obtain⟨fi,hfi,hs⟩:=size?_ti k3;obtain⟨ii,zz,hii,hs2,_⟩:=(hc.ti hfi).info;simp only[List.getElem?_toArray];rw[p2 i,Array.getElem?_toList,f1];subst f3;simp[hii,f2,hs2,hs]
   ·rw[hk]at k1;cases k1
  ·intro us
   simp only[Program.built,hi,hu,hz',p1]
 ·have hu:=(hc.ti hl).array hk
  obtain⟨m,hm⟩:=hsz e n hk;obtain⟨te,hte,hs⟩:=size?_ti hm;obtain⟨ie,ze,hie,hs2,_⟩:=(hc.ti hte).info;refine fin (λi=>some (i * ie.size,ie.size)) ?_ ?_
  ·rintro i off n' (⟨fs',ft,k1,_⟩|⟨m',e',k1,k2,k3⟩)
   ·rw[hk]at k1;cases k1
   ·rw[hk]at k1
    cases k1;rw[hm]at k2;cases k2;simp[k3,hs2,hs]
  ·intro us
   simp only[Program.built,hi,hu,hz',hie]
end
end Go.Sx
