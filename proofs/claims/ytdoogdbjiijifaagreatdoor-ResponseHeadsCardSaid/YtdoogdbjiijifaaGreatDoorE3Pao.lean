/- Part of the proofs of the statements about responses and messages (layers 9 and 10): a symbolic executor over the code, that it is sound, and contracts of functions; it has no conditions of its own. -/
import Derived.Test.YtdoogdbjiijifaaGreatDoorE3Pam
import Derived.Test.YtdoogdbjiijifaaGreatDoorE3Pak
import Derived.Test.YtdoogdbjiijifaaGreatDoorE3Pan
namespace Go.Sx
open Go
section
variable {P:Program} {cx:Cx} {σ:Sy} {T:List Nat} {o:Oper} {K:Out->Prop}
theorem Tt{x:Operand}(ho:o.op=.move x\/o.op=.assign x)
  (h:S1 cx σ T o.type x K):∃r,K r/\Ap P cx.gl σ T o r:=by
 unfold S1 at h
 split at h
 ·split at h
  ·split at h
   ·exact⟨_,h,Ah1 ho⟩
   ·exact h.elim
  ·exact h.elim
 ·obtain⟨v,hv,h⟩:=Fv h
  exact⟨_,h,Adv ho hv⟩
theorem Ls{D:Dn}{gm:List BT}{T:List Nat}{i:Int}{K:Nat->Prop}(h:allJ D gm T i K)(j:Nat)(hj:Ob D gm T (IsJ j i)):K j:=by
 unfold allJ at h
 split at h
 ·exact h j hj
 ·exact h j hj
theorem Lg(hc:A1 P cx){t e sz:Nat}{x y:Operand}(ho:o.op=.indexAddr t x y){nl:BT}{n:ST}{f:Nat->List SV}{k:IntKind}{i:ST}{a b:Nat}{c:List SV}
  (hv:rd cx σ T x=some (.sl nl n sz f)\/∃h,rd cx σ T x=some (.gsl nl n sz f h)) (hi:rd cx σ T y=some (.int k i)) (hl:look t cx.tt=some ⟨.slice e,a,b,c⟩)
  (h:if size? cx e=some sz then Ob cx.D σ.gm T (InB (cx.D.i i) (cx.D.i n))/\allJ cx.D σ.gm T (cx.D.i i) λj=>out K (.rptr (f j)) else False):∃r,K r/\Ap P cx.gl σ T o r:=by
 split at h
 ·rename_i hs
  rw[hc.D]at h;obtain⟨h1,h2⟩:=h;rw[Dh]at h1;have h1:Bh (Ac σ.gm T)->0<=i.den/\i.den<n.den:=λhT=>⟨(h1 hT).lo,(h1 hT).hi⟩;refine⟨_,Ls h2 i.den.toNat ((Dh _ _ _).2 λhT=>?_),T3 hc hl rfl hs ho hv hi h1⟩;have:=(h1 hT).1;refine⟨?_⟩;show ((i.den.toNat:Nat):Int)=i.den;omega
 ·exact h.elim
theorem Kl(hc:A1 P cx){t e sz n:Nat}{ti:TI}(hl:look t cx.tt=some ti)(hk:ti.k=.array n e)(hn:size? cx e=some sz){x y:Operand}(ho:o.op=.indexAddr t x y){h off:Nat}{k:IntKind}{i:ST}
  (hv:rd cx σ T x=some (.ptr h off)) (hi:rd cx σ T y=some (.int k i)) {j:Nat} (hj:i.den=(j:Int)) (hjn:j<n):Ap P cx.gl σ T o ⟨.ptr h (off+j * sz),[],[],[]⟩:=by
 intro B N E a w ff hf' hg st ag agh hT;obtain⟨b,hb,hx⟩:=(Aa hv hg st (Ah ag (by simp[ho,Op.operands])) hT).ptr_inv;have hy:=(Aa hi hg st (Ah ag (by simp[ho,Op.operands])) hT).int_inv;refine Ad st (v:=.pointer (some ⟨b,off+j * sz,none⟩)) ?_ rfl (.ptr hb rfl);have hu:=(hc.ti hl).array hk;obtain⟨te,hte,hsz⟩:=size?_ti hn;have hS:=(hc.ti hte).sizeOf w;simp[execOp,ho,hx,hy,hj,Instr.indexAt,run_underlying hu,asIntOf,hjn,hS,hsz,Instr.sureAddr,add_lit]
theorem Abd(hc:A1 P cx){t e sz n:Nat}{ti:TI}(hl:look t cx.tt=some ti)(hk:ti.k=.array n e)(hn:size? cx e=some sz){x y:Operand}(ho:o.op=.indexAddr t x y){h off:Nat}{k:IntKind}{i:ST}
  (hv:rd cx σ T x=some (.ptr h off)) (hi:rd cx σ T y=some (.int k i)) (hs:G9 cx T h off n sz i K):∃r,K r/\Ap P cx.gl σ T o r:=by
 unfold G9 at hs
 split at hs
 ·rename_i q hq
  split at hs
  ·rename_i hb
   have hq2:i.den=(q:Int):=by rw[<-Agb cx i,hq];rfl
   exact⟨_,hs,Kl hc hl hk hn ho hv hi (j:=q) hq2 (by simpa using hb)⟩
  ·exact hs.elim
 ·split at hs
  ·rw[hc.D]at hs
   obtain⟨⟨h0,h1⟩,h2⟩:=hs;have h0:0<=i.den:=h0;have h1:i.den<n:=h1;have hq:i.den=((i.den.toNat:Nat):Int):=by omega
   exact⟨_,Mt n 0 h2 i.den.toNat hq (Nat.zero_le _) (by omega),Kl hc hl hk hn ho hv hi hq (by omega)⟩
  ·exact hs.elim
theorem Ah4{c:Call}(ho:o.op=.call c)(hcal:c.callee=.builtin .max){x y:Operand}(hx:c.args.toList=[x,y]){k:IntKind}{s t:ST}(h1:rd cx σ T x=some (.int k s))(h2:rd cx σ T y=some (.int k t)):
  Ap P cx.gl σ T o ⟨.int k (.a (max s.den t.den)),[],[],[]⟩:=by
 intro B N E a w ff hf' hg st ag agh hT;have mx:x∈o.op.operands.toList:=by simp[ho,Op.operands,Call.operands,hcal,hx]
 have my:y∈o.op.operands.toList:=by simp[ho,Op.operands,Call.operands,hcal,hx]
 have e1:c.args=#[x,y]:=Array.ext' (by simpa using hx);have hrx:=(Aa h1 hg st (Ah ag mx) hT).int_inv;have hry:=(Aa h2 hg st (Ah ag my) hT).int_inv;refine Ad st (v:=.int k (if t.den > s.den then t.den else s.den)) ?_ rfl (.int ?_)
 ·simp[execOp,ho,resolve,hcal,e1,invoke,builtin,hrx,hry,Builtin.max_,Builtin.max2]
 ·simp only[ST.den];split<;>omega
theorem Ah3{c:Call}(ho:o.op=.call c)(hcal:c.callee=.builtin .min){x y:Operand}(hx:c.args.toList=[x,y]){k:IntKind}{s t:ST}(h1:rd cx σ T x=some (.int k s))(h2:rd cx σ T y=some (.int k t)):
  Ap P cx.gl σ T o ⟨.int k (.a (min s.den t.den)),[],[],[]⟩:=by
 intro B N E a w ff hf' hg st ag agh hT;have mx:x∈o.op.operands.toList:=by simp[ho,Op.operands,Call.operands,hcal,hx]
 have my:y∈o.op.operands.toList:=by simp[ho,Op.operands,Call.operands,hcal,hx]
 have e1:c.args=#[x,y]:=Array.ext' (by simpa using hx);have hrx:=(Aa h1 hg st (Ah ag mx) hT).int_inv;have hry:=(Aa h2 hg st (Ah ag my) hT).int_inv;refine Ad st (v:=.int k (if t.den<s.den then t.den else s.den)) ?_ rfl (.int ?_)
 ·simp[execOp,ho,resolve,hcal,e1,invoke,builtin,hrx,hry,Builtin.min_,Builtin.min2]
 ·simp only[ST.den];split<;>omega
theorem Ahj:∀ {x y:Operand},In x y=true->x=y
 |.tmp i,.tmp j,h=>by simp[In]at h;rw[h]
 |.tmp _,.const _,h=>by simp[In]at h
 |.tmp _,.global _,h=>by simp[In]at h
 |.tmp _,.func _,h=>by simp[In]at h
 |.const _,_,h=>by simp[In]at h
 |.global _,_,h=>by simp[In]at h
 |.func _,_,h=>by simp[In]at h
theorem Adt(hc:A1 P cx){t:Nat}{x y:Operand}(ho:o.op=.makeSlice t x y){a b:SV}(hx:rd cx σ T x=some a)(hy:rd cx σ T y=some b)(h:S2 cx σ T t a b (In x y) K):∃r,K r/\Ap P cx.gl σ T o r:=by
 unfold S2 at h
 split at h
 ·rename_i e _ _ _ hl
  split at h
  ·rename_i te kc c hle
   split at h
   ·obtain⟨h1,h2⟩:=h
    rw[hc.D]at h1;exact⟨_,h2,Aa2 hc ho hl rfl hle hx hy λ_=>⟨h1.lo,h1.mem,h1.hi⟩⟩
   ·exact h.elim
  ·rename_i te kn n kc c _ hle
   split at h
   ·rename_i hb
    simp only[Bool.and_eq_true,Nat.blt_eq]at hb;obtain⟨h1,h2⟩:=h;rw[hc.D]at h1 h2;exact⟨_,h2,Aa1 hc ho hl rfl hle hx hy (Ahj hb.1) hb.2 λ_=>⟨h1.lo,h1.mem,h1.hi⟩⟩
   ·exact h.elim
  ·exact h.elim
 ·exact h.elim
theorem Ql(hc:A1 P cx){t len:Nat}{ps:Array (Nat×Operand)}(ho:o.op=.buildSlice t len ps)(h:Aj cx σ T t len ps.toList K):∃r,K r/\Ap P cx.gl σ T o r:=by
 unfold Aj at h
 split at h
 ·rename_i e _ _ _ vs hl hvs
  split at h
  ·rename_i te hle
   split at h
   ·rename_i cs h1 hf
    split at h
    ·rename_i hb
     simp only[Bool.and_eq_true,Nat.blt_eq]at hb;rw[hc.D]at h;exact⟨_,h,T6 hc ho hl rfl hle hvs h1 hf hb.1.2 (Nat.le_of_ble_eq_true hb.2)⟩
    split at h
    ·rename_i _ hb
     simp only[Bool.and_eq_true,Nat.blt_eq]at hb;rw[hc.D]at h hb;have h:=h (λk=>Bf te.size (C3 (k * te.size) (loose.looseL (norm.normL dn cs)))) ⟨λi r hr=>(U1 _ _ _ _ hr).symm⟩
     split at h
     ·exact⟨_,h,T5 hc ho hl rfl hle hvs h1 hf hb.1.1 hb.1.2 (Nat.le_of_ble_eq_true hb.2)⟩
     ·exact⟨_,h,Pz hc ho hl rfl hle hvs h1 hf hb.1.1 hb.1.2 (Nat.le_of_ble_eq_true hb.2)⟩
    ·exact h.elim
   ·exact h.elim
  ·exact h.elim
 ·exact h.elim
theorem Zz(hc:A1 P cx){t:Nat}{x:Operand}{lo hi:Option Operand}(ho:o.op=.slice t x lo hi none){v:SV}{sa sb:Option SV}(hv:rd cx σ T x=some v)(hlo:Eb cx σ T lo=some sa)(hhi:Eb cx σ T hi=some sb)
  (h:I3 cx σ T t v sa sb K):∃r,K r/\Ap P cx.gl σ T o r:=by
 unfold I3 at h
 split at h
 ·rename_i p hp
  have row:∀(nl:BT) (n:ST) (sz:Nat) (f:Nat->List SV) (e a b:Nat) (c:List SV),look t cx.tt=some ⟨.slice e,a,b,c⟩->(rd cx σ T x=some (.sl nl n sz f)\/∃h,rd cx σ T x=some (.gsl nl n sz f h))->
    I3.onRow cx σ T sb K nl n sz f e p->∃r,K r/\Ap P cx.gl σ T o r:=by
   intro nl n sz f e a b c hl hv h;unfold I3.onRow at h
   split at h
   ·rename_i q hq
    split at h
    ·rename_i hs
     rw[hc.D]at h;obtain⟨h1,h2⟩:=h;rw[Dh]at h1;have h1:Bh (Ac σ.gm T)->0<=p.den/\p.den<=q.den/\q.den<=n.den:=λhT=>⟨(h1 hT).lo,(h1 hT).le,(h1 hT).hi⟩;have key:∀i j:Nat,(j:Int)=i+p.den->(λi:Nat=>f ((i:Int)+p.den).toNat) i=f j:=λi j hij=>by
      show f ((i:Int)+p.den).toNat=f j;rw[<-hij];rfl
     exact⟨_,h2 _ _ ⟨rfl,key⟩,Rm hc hl rfl hs ho hv hlo hhi hp hq h1 key⟩
    ·exact h.elim
   ·exact h.elim
  split at h
  ·rename_i nl n sz f e _ _ _ hl;exact row nl n sz f e _ _ _ hl (.inl hv) h
  ·rename_i nl n sz f hd e _ _ _ hl;exact row nl n sz f e _ _ _ hl (.inr ⟨hd,hv⟩) h
  ·rename_i nl n hd e _ _ _ hl
   split at h
   ·rename_i e' n0 sz gr f k b hh
    split at h
    ·rename_i hbq
     simp only[Bool.and_eq_true,beq_iff_eq]at hbq;obtain⟨rfl,hsome⟩:=hbq;rw[hc.D]at h;obtain⟨h0,h2,h3⟩:=h;obtain⟨te,hle⟩:=Option.isSome_iff_exists.1 hsome;exact⟨_,h3,Oe hc hl rfl hle ho hv hh hlo hhi h0.h ⟨Int.le_trans h2.lo h2.le,h2.hi⟩ trivial⟩
    ·exact h.elim
   ·rename_i e' n0 sz gr f k b hh
    split at h
    ·rename_i hs
     rw[hc.D]at h;obtain⟨h0,h2,h3⟩:=h;exact⟨_,h3,Pw hc hl rfl hs ho hv hh hhi hlo h0.h ⟨h2.lo,h2.le⟩⟩
    ·exact h.elim
   ·exact h.elim
  ·rename_i nl n g0 hd e _ _ _ hl
   split at h
   ·rename_i e' n0 g1 sz f k b hh
    split at h
    ·rename_i hbq
     simp only[Bool.and_eq_true,beq_iff_eq]at hbq;obtain⟨rfl,hsome⟩:=hbq;rw[hc.D]at h;obtain⟨h0,h1,h2,h3⟩:=h;obtain⟨te,hle⟩:=Option.isSome_iff_exists.1 hsome;exact⟨_,h3 _ ⟨rfl⟩,Rk hc hl rfl hle ho hv hh hlo hhi h0.h h1.h ⟨Int.le_trans h2.lo h2.le,h2.hi⟩ rfl trivial⟩
    ·exact h.elim
   ·exact h.elim
  ·rename_i s _ _ _ hl
   split at h
   ·rename_i q hq
    rw[hc.D]at h;obtain⟨h1,h2⟩:=h;rw[Dh]at h1;exact⟨_,h2 _ ⟨rfl⟩,Rl hc hl rfl ho hv hlo hhi hp hq λhT=>⟨(h1 hT).lo,(h1 hT).le,(h1 hT).hi⟩⟩
   ·exact h.elim
  ·exact h.elim
 ·exact h.elim
theorem R6(hc:A1 P cx){c:Call}(ho:o.op=.call c)(hcal:c.callee=.builtin .append){x y:Operand}{t u e:Nat}{te ti:TI}(hx:c.args.toList=[x,y])(ht:c.argTypes.toList=[t,u])(hlt:look t cx.tt=some ti)(hk:ti.k=.slice e)(hle:look e cx.tt=some te)
  {b s:SV} (hb:rd cx σ T x=some b) (hs:rd cx σ T y=some s) (h:Qn cx σ b s u e te K):∃r,K r/\Ap P cx.gl σ T o r:=by
 unfold Qn at h
 split at h
 ·rename_i nl n h' x' _ _ _ hlu
  split at h
  ·rename_i e' n0 sz gr f hh
   split at h
   ·rename_i hbq
    simp only[Bool.and_eq_true,beq_iff_eq]at hbq;obtain⟨⟨rfl,hsz⟩,rfl⟩:=hbq;rw[hc.D]at h;obtain⟨h1,h2⟩:=h;have h1:n.den=n0.den/\(n.den+(x'.length:Int)) * te.bytes<=140737488355328/\n.den+(x'.length:Int)<=9223372036854775807:=⟨h1.eq,h1.mem,h1.hi⟩
    let f':Nat->List SV:=λi=>if (i:Int)<n.den then f i else byteRow x' ((i:Int)-n.den).toNat
    have k1:∀i:Nat,(i:Int)<n.den->f' i=f i:=λi hi=>by simp only[f'];rw[if_pos hi]
    have k2:∀i j:Nat,(i:Int)=n.den+j->(j:Int)<(x'.length:Int)->f' i=byteRow x' j:=λi j hi _=>by
     simp only[f'];rw[if_neg (by omega)];congr 1;omega
    exact⟨_,h2 f' _ ⟨rfl,k1,k2⟩,P1 hc ho hcal hx ht hlt hk hle hsz hlu rfl hb hh hs h1 rfl k1 k2⟩
   ·exact h.elim
  ·exact h.elim
 ·exact h.elim
theorem Zh(hc:A1 P cx){c:Call}(ho:o.op=.call c)(hcal:c.callee=.builtin .append){x y:Operand}{t e:Nat}{te ti:TI}(hx:c.args.toList=[x,y])(ht:c.argTypes.toList=[t,t])(hlt:look t cx.tt=some ti)(hk:ti.k=.slice e)(hle:look e cx.tt=some te)(hz:0<te.size)
  {b s:SV} (hb:rd cx σ T x=some b) (hs:rd cx σ T y=some s) (h:U5 cx σ b s e te.size te.bytes K):∃r,K r/\Ap P cx.gl σ T o r:=by
 unfold U5 at h
 split at h
 ·rename_i m g hrow
  rw[hc.D]at h
  split at h
  ·obtain⟨h1,h2⟩:=h
   exact⟨_,h2 g _ ⟨rfl,λ_ _=>rfl⟩,P2 hc ho hcal hx ht hlt hk hle rfl hz hb hs hrow ⟨h1.mem,h1.hi⟩ rfl λ_ _=>rfl⟩
  ·rename_i nl n sz' f hd
   split at h
   ·rename_i e' n0 sz'' hh
    split at h
    ·rename_i hbq
     simp only[Bool.and_eq_true,beq_iff_eq]at hbq;obtain⟨⟨rfl,rfl⟩,rfl⟩:=hbq;obtain⟨h1,h2⟩:=h;have h1:n.den=n0.den/\(n.den+m.den) * te.bytes<=140737488355328/\n.den+m.den<=9223372036854775807:=⟨h1.eq,h1.mem,h1.hi⟩
     let f':Nat->List SV:=λi=>if (i:Int)<n.den then f i else g ((i:Int)-n.den).toNat
     have k1:∀i:Nat,(i:Int)<n.den->f' i=f i:=λi hi=>by simp only[f'];rw[if_pos hi]
     have k2:∀i j:Nat,(i:Int)=n.den+j->(j:Int)<m.den->f' i=g j:=λi j hi _=>by
      simp only[f'];rw[if_neg (by omega)];congr 1;omega
     exact⟨_,h2 f' _ ⟨rfl,k1,k2⟩,Oh hc ho hcal hx ht hlt hk hle rfl hz hb hh hs hrow h1 rfl k1 k2⟩
    ·exact h.elim
   ·exact h.elim
  ·rename_i nl n hd
   split at h
   ·rename_i e' n0 sz'' gr f hh
    split at h
    ·rename_i hbq
     simp only[Bool.and_eq_true,beq_iff_eq]at hbq;obtain⟨rfl,rfl⟩:=hbq;obtain⟨h1,h2⟩:=h;have h1:n.den=n0.den/\(n.den+m.den) * te.bytes<=140737488355328/\n.den+m.den<=9223372036854775807:=⟨h1.eq,h1.mem,h1.hi⟩
     let f':Nat->List SV:=λi=>if (i:Int)<n.den then f i else g ((i:Int)-n.den).toNat
     have k1:∀i:Nat,(i:Int)<n.den->f' i=f i:=λi hi=>by simp only[f'];rw[if_pos hi]
     have k2:∀i j:Nat,(i:Int)=n.den+j->(j:Int)<m.den->f' i=g j:=λi j hi _=>by
      simp only[f'];rw[if_neg (by omega)];congr 1;omega
     exact⟨_,h2 f' _ ⟨rfl,k1,k2⟩,Og hc ho hcal hx ht hlt hk hle rfl hz hb hh hs hrow h1 rfl k1 k2⟩
    ·exact h.elim
   ·exact h.elim
  ·rename_i nl n g0 hd
   split at h
   ·rename_i e' n0 g1 sz'' f hh
    split at h
    ·rename_i hbq
     simp only[Bool.and_eq_true,beq_iff_eq]at hbq;obtain⟨rfl,rfl⟩:=hbq;obtain⟨h1,h0,h2⟩:=h;have h1:n.den=n0.den/\(n.den+m.den) * te.bytes<=140737488355328/\n.den+m.den<=9223372036854775807:=⟨h1.eq,h1.mem,h1.hi⟩
     let f':Nat->List SV:=λi=>if (i:Int)<n.den then f i else g ((i:Int)-n.den).toNat
     have k1:∀i:Nat,(i:Int)<n.den->f' i=f i:=λi hi=>by simp only[f'];rw[if_pos hi]
     have k2:∀i j:Nat,(i:Int)=n.den+j->(j:Int)<m.den->f' i=g j:=λi j hi _=>by
      simp only[f'];rw[if_neg (by omega)];congr 1;omega
     exact⟨_,h2 f' _ ⟨rfl,k1,k2⟩ _ ⟨rfl⟩,P0 hc ho hcal hx ht hlt hk hle rfl hz hb hh hs hrow h1 h0.h rfl rfl k1 k2⟩
    ·exact h.elim
   ·exact h.elim
  ·exact h.elim
 ·exact h.elim
theorem Aem(hc:A1 P cx){c:Call}(ho:o.op=.call c)(hcal:c.callee=.builtin .copy){x y:Operand}{t t':Nat}(hx:c.args.toList=[x,y])(ht:c.argTypes.toList=[t,t']){d s:SV}(hd:rd cx σ T x=some d)(hs:rd cx σ T y=some s)(h:S3 cx σ T t d s K):∃r,K r/\Ap P cx.gl σ T o r:=by
 unfold S3 at h
 split at h
 ·rename_i e _ _ _ hd' hl
  split at h
  ·rename_i ty n sz f sz'' hh hsz
   split at h
   ·rename_i m g hrow hzz
    have hzz:sz''=sz:=by simpa using hzz
    subst hzz;rw[hc.D]at h
    let f':Nat->List SV:=λi=>if (i:Int)<min m.den n.den then g i else f i
    have k1:∀i:Nat,(i:Int)<min m.den n.den->f' i=g i:=λi hi=>by simp only[f'];rw[if_pos hi]
    have k2:∀i:Nat,min m.den n.den<=(i:Int)->(i:Int)<n.den->f' i=f i:=λi hi _=>by simp only[f'];rw[if_neg (by omega)]
    exact⟨_,h f' _ ⟨rfl,k1,k2⟩,Adw hc ho hcal hx ht hl rfl hd hs hh hsz hrow k1 k2⟩
   ·exact h.elim
  ·exact h.elim
 ·exact h.elim
theorem Rz(hc:A1 P cx){t:Nat}{x:Operand}(ho:o.op=.load t x){h j off n:Nat}(hv:rd cx σ T x=some (.mptr h j off))(hn:size? cx t=some n)
  (hs:match nth σ.hp h with
   |some (.row _ m _ f)=>Ob cx.D σ.gm T (LtB j (cx.D.i m))/\
    if Nat.ble (off+n) (Af (f j)) then
     match Kp (isAgg? cx t) (Bf n (C3 off (f j))) with
     |some v=>K ⟨v,[],[h],[]⟩
     |none=>False
    else False
   |_=>False):∃r,K r/\Ap P cx.gl σ T o r:=by
 split at hs
 ·rename_i ty m sz f hh
  obtain⟨h1,h2⟩:=hs;rw[hc.D,Dh]at h1
  split at h2
  ·rename_i hb
   split at h2
   ·rename_i v hp
    rw[A9,Bo]at hp;rw[Ae]at hb;exact⟨_,h2,Rp hc ho hv hn hh (λhT=>(h1 hT).h) (Nat.le_of_ble_eq_true hb) hp⟩
   ·exact h2.elim
  ·exact h2.elim
 ·exact hs.elim
theorem Pe(hc:A1 P cx){t:Nat}{x y:Operand}(ho:o.op=.store t x y){h j off n:Nat}{v:SV}(hv:rd cx σ T x=some (.mptr h j off))(hy:rdT cx σ T t y=some v)(hn:size? cx t=some n)
  (hs:match nth σ.hp h with
   |some (.row ty m sz f)=>LtB j (cx.D.i m)/\
    if Af v.cells==n&&Nat.ble (off+n) (Af (f j))&&Ed v.cells&&Al (.agg (loose.looseL (norm.normL cx.D v.cells))) then
     Zj f j (C7 (f j) off (loose.looseL (norm.normL cx.D v.cells))) λf'=>K ⟨.tup [],[.put h (.row ty m sz f')],[h],[]⟩
    else False
   |_=>False):∃r,K r/\Ap P cx.gl σ T o r:=by
 split at hs
 ·rename_i ty m sz f hh
  obtain⟨h1,h2⟩:=hs
  split at h2
  ·rename_i hb
   simp only[Bool.and_eq_true,beq_iff_eq,Ae]at hb;rw[hc.D]at h1 h2 hb
   let f':Nat->List SV:=λi=>if i=j then C7 (f j) off (loose.looseL (norm.normL dn v.cells)) else f i
   have k1:f' j=C7 (f j) off (loose.looseL (norm.normL dn v.cells)):=by simp[f']
   have k2:∀i:Nat,i≠j->f' i=f i:=λi hi=>by simp[f',hi]
   exact⟨_,h2 f' ⟨k1,k2⟩,Pv hc ho hv hy hn hh h1.h hb.1.1.1 (Nat.le_of_ble_eq_true hb.1.1.2) hb.1.2 hb.2 k1 k2⟩
  ·exact h2.elim
 ·exact hs.elim
theorem Ry(hc:A1 P cx){t:Nat}{x:Operand}(ho:o.op=.load t x){h j off n:Nat}{m':ST}(hv:rd cx σ T x=some (.optr m' h j off))(hn:size? cx t=some n)
  (hs:match nth σ.hp h with
   |some (.own _ m _ _ f)=>Ob cx.D σ.gm T (EqN (cx.D.i m') (cx.D.i m))/\Ob cx.D σ.gm T (LtB j (cx.D.i m))/\
    if Nat.ble (off+n) (Af (f j)) then
     match Kp (isAgg? cx t) (Bf n (C3 off (f j))) with
     |some v=>K ⟨v,[],[h],[]⟩
     |none=>False
    else False
   |_=>False):∃r,K r/\Ap P cx.gl σ T o r:=by
 split at hs
 ·rename_i ty m sz gr f hh
  obtain⟨h0,h1,h2⟩:=hs;rw[hc.D,Dh]at h0 h1
  split at h2
  ·rename_i hb
   split at h2
   ·rename_i v hp
    rw[A9,Bo]at hp;rw[Ae]at hb;exact⟨_,h2,Ro hc ho hv hn hh (λhT=>(h0 hT).h) (λhT=>(h1 hT).h) (Nat.le_of_ble_eq_true hb) hp⟩
   ·exact h2.elim
  ·exact h2.elim
 ·exact hs.elim
theorem Pd(hc:A1 P cx){t:Nat}{x y:Operand}(ho:o.op=.store t x y){h j off n:Nat}{m':ST}{v:SV}(hT:T=[])(hv:rd cx σ T x=some (.optr m' h j off))(hy:rdT cx σ T t y=some v)(hn:size? cx t=some n)
  (hs:match nth σ.hp h with
   |some (.own ty m sz gr f)=>EqN (cx.D.i m') (cx.D.i m)/\LtB j (cx.D.i m)/\
    if Af v.cells==n&&Nat.ble (off+n) (Af (f j))&&Ed v.cells&&Al (.agg (loose.looseL (norm.normL cx.D v.cells))) then
     Zj f j (C7 (f j) off (loose.looseL (norm.normL cx.D v.cells))) λf'=>K ⟨.tup [],[.put h (.own ty m sz gr f')],[h],[]⟩
    else False
   |_=>False):∃r,K r/\Ap P cx.gl σ T o r:=by
 split at hs
 ·rename_i ty m sz gr f hh
  obtain⟨h0,h1,h2⟩:=hs
  split at h2
  ·rename_i hb
   simp only[Bool.and_eq_true,beq_iff_eq,Ae]at hb;rw[hc.D]at h0 h1 h2 hb
   let f':Nat->List SV:=λi=>if i=j then C7 (f j) off (loose.looseL (norm.normL dn v.cells)) else f i
   have k1:f' j=C7 (f j) off (loose.looseL (norm.normL dn v.cells)):=by simp[f']
   have k2:∀i:Nat,i≠j->f' i=f i:=λi hi=>by simp[f',hi]
   exact⟨_,h2 f' ⟨k1,k2⟩,Pu hc ho hv hy hn hh h0.h h1.h hb.1.1.1 (Nat.le_of_ble_eq_true hb.1.1.2) hb.1.2 hb.2 (by subst hT;trivial) k1 k2⟩
  ·exact h2.elim
 ·exact hs.elim
theorem Ahd{n:Int}{f:Nat->List SV}{A:Prop}(h:A->Fi n f):∃r,SLe r n/\(A->Iw r n f):=by
 by_cases hA:A
 ·obtain⟨r,hr⟩:=Fz (h hA)
  exact⟨r,⟨.inl (Int.le_of_eq hr.len)⟩,λ_=>hr⟩
 ·exact⟨[],⟨.inr rfl⟩,λg=>absurd g hA⟩
theorem Mg(hc:A1 P cx){src dst e:TypeId}{x:Operand}(ho:o.op=.convert src dst x){ts td:TI}(hls:look src cx.tt=some ts)(hks:ts.k=.slice e)(hld:look dst cx.tt=some td)(hkd:td.k=.string)
  {nl:BT} {n:ST} {f:Nat->List SV} (hv:rd cx σ T x=some (.sl nl n 1 f)\/∃h,rd cx σ T x=some (.gsl nl n 1 f h)) (h:R9 cx σ T e n f K):∃r,K r/\Ap P cx.gl σ T o r:=by
 unfold R9 at h
 split at h
 ·rename_i a b c hle
  rw[hc.D]at h;obtain⟨h1,h2⟩:=h;obtain⟨r,hr⟩:=Fz h1;exact⟨_,h2 r hr,Le hc ho hls hks hld hkd hle rfl hv λ_=>⟨h1,hr⟩⟩
 ·rename_i a b c _ hle
  rw[hc.D]at h;obtain⟨h1,h2⟩:=h;rw[Dh]at h1;obtain⟨r,hle2,hr⟩:=Ahd h1;exact⟨_,h2 r hle2 ((Dh _ _ _).2 hr),Le hc ho hls hks hld hkd hle rfl hv λg=>⟨h1 g,hr g⟩⟩
 ·exact h.elim
theorem X3(hc:A1 P cx)(htab:Em P cx.gl cx.tab)(h:Acz cx σ T o K):∃r,K r/\Ap P cx.gl σ T o r:=by
 unfold Acz at h
 split at h
 ·rename_i x ho;exact Tt (.inl ho) h
 ·rename_i x ho;exact Tt (.inr ho) h
 ·rename_i e ho
  split at h
  ·rename_i ti hl
   split at h
   ·split at h
    ·rename_i n el hk
     split at h
     ·rename_i sz' _
      split at h
      ·rename_i hb
       simp only[Bool.and_eq_true,beq_iff_eq]at hb;obtain⟨f,hf,h⟩:=h;exact⟨_,h,T7 hc ho hl hb.1 (Nat.le_of_ble_eq_true hb.2) hf.h⟩
      ·exact h.elim
     ·exact h.elim
    ·exact h.elim
   ·exact⟨_,h,Aa5 hc ho hl⟩
  ·exact h.elim
 ·rename_i e x ho
  split at h
  ·rename_i ti v hl hv
   split at h
   ·rename_i hb
    simp only[Bool.and_eq_true]at hb;exact⟨_,h,Ah5 ho hv hb.2⟩
   ·exact h.elim
  ·exact h.elim
 ·rename_i t ps ho
  split at h
  ·rename_i ti vs hl hv
   split at h
   ·rename_i cs fs h1 hf hk
    exact⟨_,h,Q2 hc ho hl hv h1 hf (.inl ⟨fs,hk⟩) (λe n hk'=>by rw[hk]at hk';cases hk')⟩
   ·rename_i cs n e h1 hf hk
    split at h
    ·rename_i m hm
     exact⟨_,h,Q2 hc ho hl hv h1 hf (.inr ⟨n,e,hk⟩) (λe' n' hk'=>by rw[hk]at hk';cases hk';exact⟨m,hm⟩)⟩
    ·exact h.elim
   ·exact h.elim
  ·exact h.elim
 ·rename_i t x ho
  split at h
  ·rename_i hd off n hv hn
   split at h
   ·rename_i ty cs hh
    split at h
    ·rename_i hb
     split at h
     ·rename_i v hp
      rw[A9,Bo]at hp;refine⟨_,h,T2 hc ho hv hn hh ?_ hp⟩;rw[Ae]at hb;exact Nat.le_of_ble_eq_true hb
     ·exact h.elim
    ·exact h.elim
   ·rename_i ty m sz f hh
    split at h
    ·rename_i n' el sz' _ _ hl
     split at h
     ·rename_i he
      obtain⟨he1,rfl⟩:=he;obtain⟨hm,cs,hf,h⟩:=h;rw[hc.D]at hm hf;exact⟨_,h,Px hc ho hl rfl rfl hv hh hm.h hf⟩
     ·exact h.elim
    ·exact h.elim
   ·exact h.elim
  ·rename_i cs n hv hn
   split at h
   ·rename_i hb
    obtain⟨v,hp,h⟩:=Fv h;rw[A9]at hp;refine⟨_,h,Rn hc ho hv hn ?_ hp⟩;rw[Ae]at hb;exact Nat.le_of_ble_eq_true hb
   ·exact h.elim
  ·rename_i hd j off n hv hn
   exact Rz hc ho hv hn h
  ·rename_i m' hd j off n hv hn
   exact Ry hc ho hv hn h
  ·exact h.elim
 ·rename_i t x y ho
  split at h
  ·split at h
   ·rename_i ty cs hh
    split at h
    ·rename_i hb
     simp only[Bool.and_eq_true,beq_iff_eq,Ae]at hb;exact⟨_,h,Aa0 hc ho ‹_› ‹_› ‹_› hh hb.1.1 (Nat.le_of_ble_eq_true hb.1.2) hb.2⟩
    ·exact h.elim
   ·rename_i ty m sz f hh
    split at h
    ·split at h
     ·rename_i he
      obtain⟨he1,rfl⟩:=he;obtain⟨hm,hp,f',hf,h⟩:=h;rw[hc.D]at hm hf;exact⟨_,h,Od hc ho ‹look t cx.tt=_› rfl rfl ‹_› ‹_› hh hm.h hp.ones hp.plain hf⟩
     ·exact h.elim
    ·exact h.elim
   ·exact h.elim
  ·exact Pe hc ho ‹_› ‹_› ‹_› h
  ·exact Pd hc ho rfl ‹_› ‹_› ‹_› h
  ·exact h.elim
 ·rename_i t x i ho
  split at h
  ·rename_i hd off fo ft hv hf
   split at h
   ·rename_i m hn;exact⟨_,h,Mc hc ho hv hf hn⟩
   ·exact h.elim
  ·rename_i cs fo ft hv hf
   split at h
   ·rename_i m hn
    split at h
    ·rw[A9,Bo]at h
     exact⟨_,h,Lb hc ho hv hf hn⟩
    ·exact h.elim
   ·exact h.elim
  ·rename_i hd j off fo ft hv hf
   split at h
   ·rename_i m hn;exact⟨_,h,Ld hc ho hv hf hn⟩
   ·exact h.elim
  ·rename_i n' hd j off fo ft hv hf
   split at h
   ·rename_i m hn;exact⟨_,h,Lc hc ho hv hf hn⟩
   ·exact h.elim
  ·exact h.elim
 ·rename_i x ho
  split at h
  ·rename_i hd off hv;exact⟨_,h,D3 ho hv (.inl ⟨_,_,rfl⟩)⟩
  ·rename_i cs hv;exact⟨_,h,D3 ho hv (.inr (.inl ⟨_,rfl⟩))⟩
  ·rename_i hd j off hv;exact⟨_,h,D3 ho hv (.inr (.inr (.inl ⟨_,_,_,rfl⟩)))⟩
  ·rename_i n hd j off hv;exact⟨_,h,D3 ho hv (.inr (.inr (.inr (.inr ⟨_,_,_,_,rfl⟩))))⟩
  ·rename_i n sz f hv;exact⟨_,h,D3 ho hv (.inr (.inr (.inr (.inl ⟨_,_,_,rfl⟩))))⟩
  ·exact h.elim
 ·rename_i t x i ho
  split at h
  ·rename_i cs fo ft hv hf
   split at h
   ·rename_i m hn
    split at h
    ·rename_i hb
     obtain⟨v,hp,h⟩:=Fv h;rw[A9,Bo]at hp;rw[Ae]at hb;exact⟨_,h,Aa3 hc ho hv hf hn (Nat.le_of_ble_eq_true hb) hp⟩
    ·exact h.elim
   ·exact h.elim
  ·exact h.elim
 ·rename_i t x y ho
  split at h
  ·rename_i nl n sz f k i e a b c hv hi hl
   exact Lg hc ho (.inl hv) hi hl h
  ·rename_i nl n sz f hd k i e a b c hv hi hl
   exact Lg hc ho (.inr ⟨hd,hv⟩) hi hl h
  ·rename_i hd k i e a b c hv hi hl
   split at h
   ·rename_i ty n sz f hh
    split at h
    ·rename_i hs
     rw[hc.D]at h;obtain⟨h1,h2⟩:=h;rw[Dh]at h1;have h1:Bh (Ac σ.gm T)->0<=i.den/\i.den<n.den:=λhT=>⟨(h1 hT).lo,(h1 hT).hi⟩;refine⟨_,Ls h2 i.den.toNat ((Dh _ _ _).2 λhT=>?_),Rt hc hl rfl hs ho hv hh hi h1⟩;have:=(h1 hT).1;refine⟨?_⟩;show ((i.den.toNat:Nat):Int)=i.den;omega
    ·exact h.elim
   ·exact h.elim
  ·rename_i nl m hd k i e a b c hv hi hl
   split at h
   ·rename_i ty n sz gr f hh
    split at h
    ·rename_i hs
     rw[hc.D]at h;obtain⟨h0,h1,h2⟩:=h;rw[Dh]at h0 h1;have h1:Bh (Ac σ.gm T)->0<=i.den/\i.den<n.den:=λhT=>⟨(h1 hT).lo,(h1 hT).hi⟩;refine⟨_,Ls h2 i.den.toNat ((Dh _ _ _).2 λhT=>?_),Ru hc hl rfl hs ho hv hh hi (λhT=>(h0 hT).h) h1⟩;have:=(h1 hT).1;refine⟨?_⟩;show ((i.den.toNat:Nat):Int)=i.den;omega
    ·exact h.elim
   ·exact h.elim
  ·rename_i m hd k i e a b c hv hi hl
   split at h
   ·rename_i sz hs
    exact Abc hc hl rfl hs ho hv hi h
   ·exact h.elim
  ·rename_i hd off k i n e a b c hv hi hl
   split at h
   ·rename_i sz hs
    split at h
    ·rename_i ty m sz' f hh
     split at h
     ·rename_i he
      have he:sz'=sz:=by simpa using he
      subst he;rw[hc.D]at h;obtain⟨⟨h0,h1⟩,h2⟩:=h;have h0:0<=i.den:=h0;have h1:i.den<n:=h1;refine⟨_,Ls h2 i.den.toNat ((Dh _ _ _).2 λ_=>⟨?_⟩),Py hc hl rfl hs ho hv hh hi h0 h1⟩;show ((i.den.toNat:Nat):Int)=i.den;omega
     ·exact h.elim
    ·exact Abd hc hl rfl hs ho hv hi h
   ·exact h.elim
  ·rename_i n sz f k i n' e a b c hv hi hl
   split at h
   ·rename_i hs
    obtain⟨hs,rfl⟩:=hs;rw[hc.D]at h;obtain⟨h1,h2⟩:=h;rw[Dh]at h1;have h1:Bh (Ac σ.gm T)->0<=i.den/\i.den<n:=λhT=>⟨(h1 hT).lo,(h1 hT).hi⟩;refine⟨_,Ls h2 i.den.toNat ((Dh _ _ _).2 λhT=>?_),Rv hc hl rfl hs ho hv hi h1⟩;have:=(h1 hT).1;refine⟨?_⟩;show ((i.den.toNat:Nat):Int)=i.den;omega
   ·exact h.elim
  ·exact h.elim
 ·rename_i f fi cs ho
  split at h
  ·rename_i vs hfi hv;exact⟨_,h,T1 ho hfi hv⟩
  ·rename_i hcs _
   split at h
   ·rename_i us hv;exact⟨_,h,Vt ho hcs hv⟩
   ·exact h.elim
  ·exact h.elim
 ·rename_i t len ps ho;exact Ql hc ho h
 ·rename_i t l c ho
  split at h
  ·rename_i a b ha hb;exact Adt hc ho ha hb h
  ·exact h.elim
 ·rename_i t x lo hi ho
  split at h
  ·rename_i v a b hv ha hb;exact Zz hc ho hv ha hb h
  ·exact h.elim
 ·rename_i t x ix ho
  split at h
  ·rename_i s k i _ _ _ hv hi hl
   rw[hc.D]at h;obtain⟨h1,h2⟩:=h;rw[Dh]at h1;exact⟨_,h2 _ ⟨rfl⟩,Rr hc hl rfl ho hv hi λhT=>⟨(h1 hT).lo,(h1 hT).hi⟩⟩
  ·rename_i cs k q n e _ _ _ hv hi hl
   split at h
   ·rename_i sz hn
    split at h
    ·rename_i hb
     simp only[Bool.and_eq_true]at hb;obtain⟨v,hp,h⟩:=Fv h;rw[A9,Bo]at hp;exact⟨_,h,Rw hc hl rfl ho hv hi hn (by simpa using hb.1) (by rw[<-Ae];exact Nat.le_of_ble_eq_true hb.2) hp⟩
    ·exact h.elim
   ·exact h.elim
  ·exact h.elim
 ·rename_i t r ho
  split at h
  ·rename_i kt vt _ _ _ hl hr
   split at h
   ·exact⟨_,h,La hc ho hl rfl hr _ (.inl rfl)⟩
   ·exact⟨_,h,La hc ho hl rfl hr _ (.inr rfl)⟩
   ·exact h.elim
  ·exact h.elim
 ·rename_i t m k x ho
  split at h
  ·rename_i kt vt _ _ _ h0 s b hl hm hk hx
   split at h
   ·rename_i F hlk _ hh
    exact⟨_,h _ ⟨λk=>rfl⟩,Kj hc (.inl ho) hl rfl hlk rfl hm hk hx hh ⟨λk=>by rw[hc.D];rfl⟩⟩
   ·exact h.elim
  ·rename_i kt vt _ _ _ h0 n v hl hm hk hx
   split at h
   ·rename_i es hlk hh
    split at h
    ·rename_i hn;exact⟨_,h,Jh hc (.inl ho) hl rfl hlk rfl hm hk hx hh hn⟩
    ·exact h.elim
   ·exact h.elim
  ·exact h.elim
 ·rename_i t m k x ho
  split at h
  ·rename_i kt vt _ _ _ h0 s b hl hm hk hx
   split at h
   ·rename_i F hlk _ hh
    exact⟨_,h _ ⟨λk=>rfl⟩,Kj hc (.inr ho) hl rfl hlk rfl hm hk hx hh ⟨λk=>by rw[hc.D];rfl⟩⟩
   ·exact h.elim
  ·rename_i kt vt _ _ _ h0 n v hl hm hk hx
   split at h
   ·rename_i es hlk hh
    split at h
    ·rename_i hn;exact⟨_,h,Jh hc (.inr ho) hl rfl hlk rfl hm hk hx hh hn⟩
    ·exact h.elim
   ·exact h.elim
  ·exact h.elim
 ·rename_i t m k ho
  split at h
  ·rename_i kt vt _ _ _ h0 s hl hm hk
   split at h
   ·rename_i F hlk hlv hh
    exact⟨_,h,Yn hc ho hl rfl hlk rfl hlv rfl rfl hm hk hh⟩
   ·exact h.elim
  ·rename_i kt vt _ _ _ h0 n hl hm hk
   split at h
   ·rename_i es hlk hh
    rw[hc.D]at h;exact Vs hc ho hl rfl hlk rfl hm hk hh h.1 h.2 rfl
   ·exact h.elim
  ·exact h.elim
 ·rename_i x i ho
  split at h
  ·rename_i vs hv
   obtain⟨v,hp,h⟩:=Fv h;exact⟨_,h,Vz ho hv hp⟩
  ·exact h.elim
 ·rename_i op t x ho
  split at h
  ·rename_i b hv;exact⟨_,h,Ah0 ho hv⟩
  ·rename_i k n hv;exact⟨_,h,Ah2 ho hv⟩
  ·exact h.elim
 ·rename_i op t x y u ho
  split at h
  ·rename_i a w hx hy;exact Vl hc ho hx hy h
  ·rename_i a b _ hx hy;exact Vm hc ho hx hy h
  ·exact h.elim
 ·rename_i src dst x ho
  split at h
  ·rename_i k' n k a b c tj hv hl hl';exact⟨_,h,Adx hc ho hl hl' rfl hv⟩
  ·rename_i s e a b c a' b' c' hv hl hl'
   split at h
   ·rename_i a'' b'' c'' hle
    rw[hc.D]at h
    split at h
    ·split at h
     ·obtain⟨h1,h2⟩:=h
      exact⟨_,h2 _ ⟨rfl⟩,Yl hc ho hl' rfl hl rfl hle rfl hv h1.h⟩
     ·exact h.elim
    ·obtain⟨h1,h2⟩:=h
     rw[Dh]at h1;exact⟨_,h2 _ ⟨rfl⟩,T0 hc ho hl' rfl hl rfl hle rfl hv λhT=>(h1 hT).h⟩
   ·exact h.elim
  ·rename_i nl n f a b c e a' b' c' hv hl hl'
   exact Mg hc ho hl' rfl hl rfl (.inl hv) h
  ·rename_i nl n f hd a b c e a' b' c' hv hl hl'
   exact Mg hc ho hl' rfl hl rfl (.inr ⟨hd,hv⟩) h
  ·rename_i n hd e a b c e' a' b' c' hv hl hl'
   split at h
   ·rename_i a'' b'' c'' ty n0 f hle hh
    split at h
    ·rename_i hb
     simp only[Bool.and_eq_true,beq_iff_eq]at hb;obtain⟨⟨rfl,rfl⟩,rfl⟩:=hb;rw[hc.D]at h;exact⟨_,h.2,V7 hc ho hl rfl hle rfl hv hh h.1.h⟩
    ·exact h.elim
   ·exact h.elim
  ·rename_i nl n hd a b c e a' b' c' hv hl hl'
   split at h
   ·rename_i a'' b'' c'' ty n0 gr f hle hh
    rw[hc.D]at h;obtain⟨h0,h1,h2⟩:=h;obtain⟨r,hr⟩:=Fz h1;exact⟨_,h2 r hr,Ym hc ho hl' rfl hl rfl hle rfl hv hh h0.h ⟨h1,hr⟩⟩
   ·exact h.elim
  ·rename_i nl n g hd a b c e a' b' c' hv hl hl'
   split at h
   ·rename_i a'' b'' c'' ty n0 g0 f hle hh
    rw[hc.D]at h;obtain⟨h0,h1,h2,h3⟩:=h;obtain⟨r,hr⟩:=Fz h2;exact⟨_,h3 r hr,Yk hc ho hl' rfl hl rfl hle rfl hv hh h0.h h1.h ⟨h2,hr⟩⟩
   ·exact h.elim
  ·exact h.elim
 ·rename_i c ho
  split at h
  ·rename_i hcal
   split at h
   ·rename_i x t hx ht
    split at h
    ·rename_i nl n sz f e a b c hv hl;exact⟨_,h,Of hc ho hcal hx ht hl rfl (.inl hv)⟩
    ·rename_i nl n sz f hd e a b c hv hl;exact⟨_,h,Of hc ho hcal hx ht hl rfl (.inr ⟨hd,hv⟩)⟩
    ·rename_i nl n hd e a b c hv hl;exact⟨_,h,Vx hc ho hcal hx ht hl rfl hv⟩
    ·rename_i nl n g0 hd e a b c hv hl;exact⟨_,h,Vu hc ho hcal hx ht hl rfl hv⟩
    ·rename_i n hd e a b c hv hl;exact⟨_,h,Vy hc ho hcal hx ht hl rfl hv⟩
    ·rename_i s a b c hv hl;exact⟨_,h,Vv hc ho hcal hx ht hl rfl hv⟩
    ·rename_i hd e a b c hv hl
     split at h
     ·rename_i ty n sz f hh;exact⟨_,h,Vw hc ho hcal hx ht hl rfl hv hh⟩
     ·exact h.elim
    ·exact h.elim
   ·exact h.elim
  ·rename_i hcal
   split at h
   ·rename_i x y t t' hx ht
    split at h
    ·rename_i b s e _ _ _ hb hs hl
     split at h
     ·rename_i te hle
      split at h
      ·rename_i hcond
       simp only[Bool.and_eq_true,beq_iff_eq,Nat.blt_eq]at hcond;obtain⟨rfl,hz⟩:=hcond;exact Zh hc ho hcal hx ht hl rfl hle hz hb hs h
      ·exact R6 hc ho hcal hx ht hl rfl hle hb hs h
     ·exact h.elim
    ·exact h.elim
   ·exact h.elim
  ·rename_i hcal
   split at h
   ·rename_i x t hx ht
    split at h
    ·rename_i n aa hd e _ _ _ hv hl
     split at h
     ·rename_i e' n0 sz gr f te hh hle
      split at h
      ·rename_i hbq
       simp only[Bool.and_eq_true,beq_iff_eq]at hbq;obtain⟨⟨rfl,hsz⟩,hpl⟩:=hbq;rw[hc.D]at h;obtain⟨h0,h3⟩:=h
       let f':Nat->List SV:=λi=>if (i:Int)<aa.den then f i else te.zero
       have q1:∀i:Nat,(i:Int)<aa.den->f' i=f i:=λi hi=>by simp only[f'];rw[if_pos hi]
       have q2:∀i:Nat,aa.den<=(i:Int)->f' i=te.zero:=λi hi=>by simp only[f'];rw[if_neg (by omega)]
       exact⟨_,h3 f' ⟨q1,q2⟩,Rx hc ho hcal hx ht hl rfl hle hsz hv hh h0.h hpl q1 q2 trivial⟩
      ·exact h.elim
     ·exact h.elim
    ·exact h.elim
   ·exact h.elim
  ·rename_i hcal
   split at h
   ·rename_i x y t t' hx ht
    split at h
    ·rename_i d s hd hs;exact Aem hc ho hcal hx ht hd hs h
    ·exact h.elim
   ·exact h.elim
  ·rename_i hcal
   split at h
   ·rename_i x y hx
    split at h
    ·rename_i k a k' b ha hb
     split at h
     ·rename_i e
      subst e;rw[hc.D]at h;exact⟨_,h _ ⟨rfl⟩,Ah4 ho hcal hx ha hb⟩
     ·exact h.elim
    ·exact h.elim
   ·exact h.elim
  ·rename_i hcal
   split at h
   ·rename_i x y hx
    split at h
    ·rename_i k a k' b ha hb
     split at h
     ·rename_i e
      subst e;rw[hc.D]at h;exact⟨_,h _ ⟨rfl⟩,Ah3 ho hcal hx ha hb⟩
     ·exact h.elim
    ·exact h.elim
   ·exact h.elim
  ·rename_i f hcal
   split at h
   ·rename_i vs hv;exact E9 hc htab (Abx ho hcal hv) h
   ·exact h.elim
  ·rename_i sl hcal
   split at h
   ·rename_i vs f hv hs
    refine E9 hc htab (λhg=>?_) h;have:=Re (cs:=[]) ho hcal hv (.inr ⟨rfl,hs⟩) hg
    rwa [List.append_nil]at this
   ·rename_i vs f cs hv hs
    exact E9 hc htab (Re ho hcal hv (.inl hs)) h
   ·rename_i vs f us hv hs
    exact E9 hc htab (Aej ho hcal hv hs) h
   ·exact h.elim
  ·exact h.elim
 ·exact h.elim
end
end Go.Sx
