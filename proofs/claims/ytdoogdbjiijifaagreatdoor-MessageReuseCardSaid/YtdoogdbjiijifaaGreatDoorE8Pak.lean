/- A part of the proof: contracts of functions, or the executor and its soundness. No conditions. -/
import Derived.Test.YtdoogdbjiijifaaGreatDoorE8Pai
import Derived.Test.YtdoogdbjiijifaaGreatDoorE8Paj
import Derived.Test.YtdoogdbjiijifaaGreatDoorE8Pah
namespace Go.Sx
open Go
section
variable {P:Program} {cx:Cx} {σ:Sy} {T:List Nat} {o:Oper} {K:Out->Prop}
theorem T4{x:Operand}(ho:o.op=.move x\/o.op=.assign x)
  (h:Tg cx σ T o.type x K):∃r,K r/\Local P cx.gl σ T o r:=by
 unfold Tg at h
 split at h
 .split at h
  .split at h
   .exact⟨_,h,Aio ho⟩
   .exact h.elim
  .exact h.elim
 .obtain⟨v,hv,h⟩:=Gd h
  exact⟨_,h,Aer ho hv⟩
theorem L8{D:Dn}{gm:List BT}{T:List Nat}{i:Int}{K:Nat->Prop}(h:qJ D gm T i K)(j:Nat)(hj:Ob D gm T (AI j i)):K j:=by
 unfold qJ at h
 split at h
 .exact h j hj
 .exact h j hj
theorem Lt(hc:Az P cx){t e sz:Nat}{x y:Operand}(ho:o.op=.indexAddr t x y){nl:BT}{n:ST}{f:Nat->List SV}{k:IntKind}{i:ST}{a b:Nat}{c:List SV}
  (hv:rd cx σ T x=some (.sl nl n sz f)\/∃h,rd cx σ T x=some (.dQ nl n sz f h)) (hi:rd cx σ T y=some (.int k i)) (hl:look t cx.tt=some ⟨.slice e,a,b,c⟩)
  (h:if size? cx e=some sz then Ob cx.D σ.gm T (fc (cx.D.i i) (cx.D.i n))/\qJ cx.D σ.gm T (cx.D.i i) λj=>out K (.dK (f j)) else False):∃r,K r/\Local P cx.gl σ T o r:=by
 split at h
 .rename_i hs
  rw[hc.D]at h;obtain⟨h1,h2⟩:=h;rw[Dj]at h1;have h1:Bh (Ac σ.gm T)->0<=i.den/\i.den<n.den:=λhT=>⟨(h1 hT).lo,(h1 hT).hi⟩;refine⟨_,L8 h2 i.den.toNat ((Dj _ _ _).2 λhT=>?_),Ue hc hl rfl hs ho hv hi h1⟩;have:=(h1 hT).1;refine⟨?_⟩;show ((i.den.toNat:Nat):Int)=i.den;omega
 .exact h.elim
theorem K0(hc:Az P cx){t e sz n:Nat}{ti:TI}(hl:look t cx.tt=some ti)(hk:ti.k=.array n e)(hn:size? cx e=some sz){x y:Operand}(ho:o.op=.indexAddr t x y){h off:Nat}{k:IntKind}{i:ST}
  (hv:rd cx σ T x=some (.ptr h off)) (hi:rd cx σ T y=some (.int k i)) {j:Nat} (hj:i.den=(j:Int)) (xr:j<n):Local P cx.gl σ T o ⟨.ptr h (off+j * sz),[],[],[]⟩:=by
 intro B N E a w ff cY hg st ag bK hT;obtain⟨b,hb,hx⟩:=(Aa hv hg st (Ak ag (by simp[ho,Op.operands])) hT).dL;have hy:=(Aa hi hg st (Ak ag (by simp[ho,Op.operands])) hT).aQ;refine Ad st (v:=.pointer (some ⟨b,off+j * sz,none⟩)) ?_ rfl (.ptr hb rfl);have hu:=(hc.ti hl).array hk;obtain⟨te,kJ,bB⟩:=bH hn;have hS:=(hc.ti kJ).sizeOf w;simp[execOp,ho,hx,hy,hj,Instr.indexAt,run_underlying hu,asIntOf,xr,hS,bB,Instr.sureAddr,add_lit]
theorem Aca(hc:Az P cx){t e sz n:Nat}{ti:TI}(hl:look t cx.tt=some ti)(hk:ti.k=.array n e)(hn:size? cx e=some sz){x y:Operand}(ho:o.op=.indexAddr t x y){h off:Nat}{k:IntKind}{i:ST}
  (hv:rd cx σ T x=some (.ptr h off)) (hi:rd cx σ T y=some (.int k i)) (hs:Hk cx T h off n sz i K):∃r,K r/\Local P cx.gl σ T o r:=by
 unfold Hk at hs
 split at hs
 .rename_i q hq
  split at hs
  .rename_i hb
   have dA:i.den=(q:Int):=by rw[<-Agt cx i,hq];rfl
   exact⟨_,hs,K0 hc hl hk hn ho hv hi (j:=q) dA (by simpa using hb)⟩
  .exact hs.elim
 .split at hs
  .rw[hc.D]at hs
   obtain⟨⟨h0,h1⟩,h2⟩:=hs;have h0:0<=i.den:=h0;have h1:i.den<n:=h1;have hq:i.den=((i.den.toNat:Nat):Int):=by omega
   exact⟨_,M7 n 0 h2 i.den.toNat hq (ZB _) (by omega),K0 hc hl hk hn ho hv hi hq (by omega)⟩
  .exact hs.elim
theorem Air{c:Call}(ho:o.op=.call c)(aP:c.callee=.builtin .max){x y:Operand}(hx:c.args.toList=[x,y]){k:IntKind}{s t:ST}(h1:rd cx σ T x=some (.int k s))(h2:rd cx σ T y=some (.int k t)):
  Local P cx.gl σ T o ⟨.int k (.a (max s.den t.den)),[],[],[]⟩:=by
 intro B N E a w ff cY hg st ag bK hT;have mx:x∈o.op.operands.toList:=by simp[ho,Op.operands,Call.operands,aP,hx]
 have my:y∈o.op.operands.toList:=by simp[ho,Op.operands,Call.operands,aP,hx]
 have e1:c.args=#[x,y]:=XU (by simpa using hx);have iH:=(Aa h1 hg st (Ak ag mx) hT).aQ;have tT:=(Aa h2 hg st (Ak ag my) hT).aQ;refine Ad st (v:=.int k (if t.den > s.den then t.den else s.den)) ?_ rfl (.int ?_)
 .simp[execOp,ho,resolve,aP,e1,invoke,builtin,iH,tT,Builtin.max_,Builtin.max2]
 .simp only[ST.den];split<;>omega
theorem Aiq{c:Call}(ho:o.op=.call c)(aP:c.callee=.builtin .min){x y:Operand}(hx:c.args.toList=[x,y]){k:IntKind}{s t:ST}(h1:rd cx σ T x=some (.int k s))(h2:rd cx σ T y=some (.int k t)):
  Local P cx.gl σ T o ⟨.int k (.a (min s.den t.den)),[],[],[]⟩:=by
 intro B N E a w ff cY hg st ag bK hT;have mx:x∈o.op.operands.toList:=by simp[ho,Op.operands,Call.operands,aP,hx]
 have my:y∈o.op.operands.toList:=by simp[ho,Op.operands,Call.operands,aP,hx]
 have e1:c.args=#[x,y]:=XU (by simpa using hx);have iH:=(Aa h1 hg st (Ak ag mx) hT).aQ;have tT:=(Aa h2 hg st (Ak ag my) hT).aQ;refine Ad st (v:=.int k (if t.den<s.den then t.den else s.den)) ?_ rfl (.int ?_)
 .simp[execOp,ho,resolve,aP,e1,invoke,builtin,iH,tT,Builtin.min_,Builtin.min2]
 .simp only[ST.den];split<;>omega
theorem Ah1:∀ {x y:Operand},It x y=true->x=y
 |.tmp i,.tmp j,h=>by simp[It]at h;rw[h]
 |.tmp _,.const _,h=>by simp[It]at h
 |.tmp _,.global _,h=>by simp[It]at h
 |.tmp _,.func _,h=>by simp[It]at h
 |.const _,_,h=>by simp[It]at h
 |.global _,_,h=>by simp[It]at h
 |.func _,_,h=>by simp[It]at h
theorem Aep(hc:Az P cx){t:Nat}{x y:Operand}(ho:o.op=.makeSlice t x y){a b:SV}(hx:rd cx σ T x=some a)(hy:rd cx σ T y=some b)(h:Th cx σ T t a b (It x y) K):∃r,K r/\Local P cx.gl σ T o r:=by
 unfold Th at h
 split at h
 .rename_i e _ _ _ hl
  split at h
  .rename_i te kc c hle
   split at h
   .obtain⟨h1,h2⟩:=h
    rw[hc.D]at h1;exact⟨_,h2,Abz hc ho hl rfl hle hx hy λ_=>⟨h1.lo,h1.mem,h1.hi⟩⟩
   .exact h.elim
  .rename_i te kn n kc c _ hle
   split at h
   .rename_i hb
    simp only[QE,ZE]at hb;obtain⟨h1,h2⟩:=h;rw[hc.D]at h1 h2;exact⟨_,h2,Aby hc ho hl rfl hle hx hy (Ah1 hb.1) hb.2 λ_=>⟨h1.lo,h1.mem,h1.hi⟩⟩
   .exact h.elim
  .exact h.elim
 .exact h.elim
theorem Qu(hc:Az P cx){t len:Nat}{ps:Array (Nat×Operand)}(ho:o.op=.buildSlice t len ps)(h:Am cx σ T t len ps.toList K):∃r,K r/\Local P cx.gl σ T o r:=by
 unfold Am at h
 split at h
 .rename_i e _ _ _ vs hl jY
  split at h
  .rename_i te hle
   split at h
   .rename_i cs h1 hf
    split at h
    .rename_i hb
     simp only[QE,ZE]at hb;rw[hc.D]at h;exact⟨_,h,Ug hc ho hl rfl hle jY h1 hf hb.1.2 (XJ hb.2)⟩
    split at h
    .rename_i _ hb
     simp only[QE,ZE]at hb;rw[hc.D]at h hb;have h:=h (λk=>takeN te.size (C4 (k * te.size) (loose.aH (norm.aM dn cs)))) ⟨λi r hr=>(Np _ _ _ _ hr).symm⟩
     split at h
     .exact⟨_,h,Uf hc ho hl rfl hle jY h1 hf hb.1.1 hb.1.2 (XJ hb.2)⟩
     .exact⟨_,h,P8 hc ho hl rfl hle jY h1 hf hb.1.1 hb.1.2 (XJ hb.2)⟩
    .exact h.elim
   .exact h.elim
  .exact h.elim
 .exact h.elim
theorem Aan(hc:Az P cx){t:Nat}{x:Operand}{lo hi:Option Operand}(ho:o.op=.slice t x lo hi none){v:SV}{sa sb:Option SV}(hv:rd cx σ T x=some v)(nN:Ei cx σ T lo=some sa)(oQ:Ei cx σ T hi=some sb)
  (h:I5 cx σ T t v sa sb K):∃r,K r/\Local P cx.gl σ T o r:=by
 unfold I5 at h
 split at h
 .rename_i p hp
  have row:∀(nl:BT) (n:ST) (sz:Nat) (f:Nat->List SV) (e a b:Nat) (c:List SV),look t cx.tt=some ⟨.slice e,a,b,c⟩->(rd cx σ T x=some (.sl nl n sz f)\/∃h,rd cx σ T x=some (.dQ nl n sz f h))->
    I5.wE cx σ T sb K nl n sz f e p->∃r,K r/\Local P cx.gl σ T o r:=by
   intro nl n sz f e a b c hl hv h;unfold I5.wE at h
   split at h
   .rename_i q hq
    split at h
    .rename_i hs
     rw[hc.D]at h;obtain⟨h1,h2⟩:=h;rw[Dj]at h1;have h1:Bh (Ac σ.gm T)->0<=p.den/\p.den<=q.den/\q.den<=n.den:=λhT=>⟨(h1 hT).lo,(h1 hT).le,(h1 hT).hi⟩;have key:∀i j:Nat,(j:Int)=i+p.den->(λi:Nat=>f ((i:Int)+p.den).toNat) i=f j:=λi j hij=>by
      show f ((i:Int)+p.den).toNat=f j;rw[<-hij];rfl
     exact⟨_,h2 _ _ ⟨rfl,key⟩,Sa hc hl rfl hs ho hv nN oQ hp hq h1 key⟩
    .exact h.elim
   .exact h.elim
  split at h
  .rename_i nl n sz f e _ _ _ hl;exact row nl n sz f e _ _ _ hl (.inl hv) h
  .rename_i nl n sz f hd e _ _ _ hl;exact row nl n sz f e _ _ _ hl (.inr ⟨hd,hv⟩) h
  .rename_i nl n hd e _ _ _ hl
   split at h
   .rename_i e' n0 sz gr f k b hh
    split at h
    .rename_i oD
     simp only[QE,QS]at oD;obtain⟨rfl,au⟩:=oD;rw[hc.D]at h;obtain⟨h0,h2,h3⟩:=h;obtain⟨te,hle⟩:=Option.isSome_iff_exists.1 au;exact⟨_,h3,Ou hc hl rfl hle ho hv hh nN oQ h0.h ⟨Int.le_trans h2.lo h2.le,h2.hi⟩ trivial⟩
    .exact h.elim
   .rename_i e' n0 sz gr f k b hh
    split at h
    .rename_i hs
     rw[hc.D]at h;obtain⟨h0,h2,h3⟩:=h;exact⟨_,h3,P5 hc hl rfl hs ho hv hh oQ nN h0.h ⟨h2.lo,h2.le⟩⟩
    .exact h.elim
   .exact h.elim
  .rename_i nl n g0 hd e _ _ _ hl
   split at h
   .rename_i e' n0 g1 sz f k b hh
    split at h
    .rename_i oD
     simp only[QE,QS]at oD;obtain⟨rfl,au⟩:=oD;rw[hc.D]at h;obtain⟨h0,h1,h2,h3⟩:=h;obtain⟨te,hle⟩:=Option.isSome_iff_exists.1 au;exact⟨_,h3 _ ⟨rfl⟩,R8 hc hl rfl hle ho hv hh nN oQ h0.h h1.h ⟨Int.le_trans h2.lo h2.le,h2.hi⟩ rfl trivial⟩
    .exact h.elim
   .exact h.elim
  .rename_i s _ _ _ hl
   split at h
   .rename_i q hq
    rw[hc.D]at h;obtain⟨h1,h2⟩:=h;rw[Dj]at h1;exact⟨_,h2 _ ⟨rfl⟩,R9 hc hl rfl ho hv nN oQ hp hq λhT=>⟨(h1 hT).lo,(h1 hT).le,(h1 hT).hi⟩⟩
   .exact h.elim
  .exact h.elim
 .exact h.elim
theorem So(hc:Az P cx){c:Call}(ho:o.op=.call c)(aP:c.callee=.builtin .append){x y:Operand}{t u e:Nat}{te ti:TI}(hx:c.args.toList=[x,y])(ht:c.argTypes.toList=[t,u])(aC:look t cx.tt=some ti)(hk:ti.k=.slice e)(hle:look e cx.tt=some te)
  {b s:SV} (hb:rd cx σ T x=some b) (hs:rd cx σ T y=some s) (h:Qw cx σ b s u e te K):∃r,K r/\Local P cx.gl σ T o r:=by
 unfold Qw at h
 split at h
 .rename_i nl n h' x' _ _ _ TN
  split at h
  .rename_i e' n0 sz gr f hh
   split at h
   .rename_i oD
    simp only[QE,QS]at oD;obtain⟨⟨rfl,bB⟩,rfl⟩:=oD;rw[hc.D]at h;obtain⟨h1,h2⟩:=h;have h1:n.den=n0.den/\(n.den+(x'.length:Int)) * te.bytes<=140737488355328/\n.den+(x'.length:Int)<=9223372036854775807:=⟨h1.eq,h1.mem,h1.hi⟩
    let f':Nat->List SV:=λi=>if (i:Int)<n.den then f i else aU x' ((i:Int)-n.den).toNat
    have k1:∀i:Nat,(i:Int)<n.den->f' i=f i:=λi hi=>by simp only[f'];rw[QB hi]
    have k2:∀i j:Nat,(i:Int)=n.den+j->(j:Int)<(x'.length:Int)->f' i=aU x' j:=λi j hi _=>by
     simp only[f'];rw[QA (by omega)];congr 1;omega
    exact⟨_,h2 f' _ ⟨rfl,k1,k2⟩,Qa hc ho aP hx ht aC hk hle bB TN rfl hb hh hs h1 rfl k1 k2⟩
   .exact h.elim
  .exact h.elim
 .exact h.elim
theorem Zy(hc:Az P cx){c:Call}(ho:o.op=.call c)(aP:c.callee=.builtin .append){x y:Operand}{t e:Nat}{te ti:TI}(hx:c.args.toList=[x,y])(ht:c.argTypes.toList=[t,t])(aC:look t cx.tt=some ti)(hk:ti.k=.slice e)(hle:look e cx.tt=some te)(hz:0<te.size)
  {b s:SV} (hb:rd cx σ T x=some b) (hs:rd cx σ T y=some s) (h:Vp cx σ b s e te.size te.bytes K):∃r,K r/\Local P cx.gl σ T o r:=by
 unfold Vp at h
 split at h
 .rename_i m g aI
  rw[hc.D]at h
  split at h
  .obtain⟨h1,h2⟩:=h
   exact⟨_,h2 g _ ⟨rfl,λ_ _=>rfl⟩,Qb hc ho aP hx ht aC hk hle rfl hz hb hs aI ⟨h1.mem,h1.hi⟩ rfl λ_ _=>rfl⟩
  .rename_i nl n cD f hd
   split at h
   .rename_i e' n0 lT hh
    split at h
    .rename_i oD
     simp only[QE,QS]at oD;obtain⟨⟨rfl,rfl⟩,rfl⟩:=oD;obtain⟨h1,h2⟩:=h;have h1:n.den=n0.den/\(n.den+m.den) * te.bytes<=140737488355328/\n.den+m.den<=9223372036854775807:=⟨h1.eq,h1.mem,h1.hi⟩
     let f':Nat->List SV:=λi=>if (i:Int)<n.den then f i else g ((i:Int)-n.den).toNat
     have k1:∀i:Nat,(i:Int)<n.den->f' i=f i:=λi hi=>by simp only[f'];rw[QB hi]
     have k2:∀i j:Nat,(i:Int)=n.den+j->(j:Int)<m.den->f' i=g j:=λi j hi _=>by
      simp only[f'];rw[QA (by omega)];congr 1;omega
     exact⟨_,h2 f' _ ⟨rfl,k1,k2⟩,Ox hc ho aP hx ht aC hk hle rfl hz hb hh hs aI h1 rfl k1 k2⟩
    .exact h.elim
   .exact h.elim
  .rename_i nl n hd
   split at h
   .rename_i e' n0 lT gr f hh
    split at h
    .rename_i oD
     simp only[QE,QS]at oD;obtain⟨rfl,rfl⟩:=oD;obtain⟨h1,h2⟩:=h;have h1:n.den=n0.den/\(n.den+m.den) * te.bytes<=140737488355328/\n.den+m.den<=9223372036854775807:=⟨h1.eq,h1.mem,h1.hi⟩
     let f':Nat->List SV:=λi=>if (i:Int)<n.den then f i else g ((i:Int)-n.den).toNat
     have k1:∀i:Nat,(i:Int)<n.den->f' i=f i:=λi hi=>by simp only[f'];rw[QB hi]
     have k2:∀i j:Nat,(i:Int)=n.den+j->(j:Int)<m.den->f' i=g j:=λi j hi _=>by
      simp only[f'];rw[QA (by omega)];congr 1;omega
     exact⟨_,h2 f' _ ⟨rfl,k1,k2⟩,Ow hc ho aP hx ht aC hk hle rfl hz hb hh hs aI h1 rfl k1 k2⟩
    .exact h.elim
   .exact h.elim
  .rename_i nl n g0 hd
   split at h
   .rename_i e' n0 g1 lT f hh
    split at h
    .rename_i oD
     simp only[QE,QS]at oD;obtain⟨rfl,rfl⟩:=oD;obtain⟨h1,h0,h2⟩:=h;have h1:n.den=n0.den/\(n.den+m.den) * te.bytes<=140737488355328/\n.den+m.den<=9223372036854775807:=⟨h1.eq,h1.mem,h1.hi⟩
     let f':Nat->List SV:=λi=>if (i:Int)<n.den then f i else g ((i:Int)-n.den).toNat
     have k1:∀i:Nat,(i:Int)<n.den->f' i=f i:=λi hi=>by simp only[f'];rw[QB hi]
     have k2:∀i j:Nat,(i:Int)=n.den+j->(j:Int)<m.den->f' i=g j:=λi j hi _=>by
      simp only[f'];rw[QA (by omega)];congr 1;omega
     exact⟨_,h2 f' _ ⟨rfl,k1,k2⟩ _ ⟨rfl⟩,P9 hc ho aP hx ht aC hk hle rfl hz hb hh hs aI h1 h0.h rfl rfl k1 k2⟩
    .exact h.elim
   .exact h.elim
  .exact h.elim
 .exact h.elim
theorem Afh(hc:Az P cx){c:Call}(ho:o.op=.call c)(aP:c.callee=.builtin .copy){x y:Operand}{t t':Nat}(hx:c.args.toList=[x,y])(ht:c.argTypes.toList=[t,t']){d s:SV}(hd:rd cx σ T x=some d)(hs:rd cx σ T y=some s)(h:Ti cx σ T t d s K):∃r,K r/\Local P cx.gl σ T o r:=by
 unfold Ti at h
 split at h
 .rename_i e _ _ _ hd' hl
  split at h
  .rename_i ty n sz f lT hh bB
   split at h
   .rename_i m g aI FO
    have FO:lT=sz:=by simpa using FO
    subst FO;rw[hc.D]at h
    let f':Nat->List SV:=λi=>if (i:Int)<min m.den n.den then g i else f i
    have k1:∀i:Nat,(i:Int)<min m.den n.den->f' i=g i:=λi hi=>by simp only[f'];rw[QB hi]
    have k2:∀i:Nat,min m.den n.den<=(i:Int)->(i:Int)<n.den->f' i=f i:=λi hi _=>by simp only[f'];rw[QA (by omega)]
    exact⟨_,h f' _ ⟨rfl,k1,k2⟩,Aes hc ho aP hx ht hl rfl hd hs hh bB aI k1 k2⟩
   .exact h.elim
  .exact h.elim
 .exact h.elim
theorem Sl(hc:Az P cx){t:Nat}{x:Operand}(ho:o.op=.load t x){h j off n:Nat}(hv:rd cx σ T x=some (.cS h j off))(hn:size? cx t=some n)
  (hs:match nth σ.hp h with
   |some (.row _ m _ f)=>Ob cx.D σ.gm T (tq j (cx.D.i m))/\
    if Nat.ble (off+n) (Ah (f j)) then
     match pack (cH cx t) (takeN n (C4 off (f j))) with
     |some v=>K ⟨v,[],[h],[]⟩
     |none=>False
    else False
   |_=>False):∃r,K r/\Local P cx.gl σ T o r:=by
 split at hs
 .rename_i ty m sz f hh
  obtain⟨h1,h2⟩:=hs;rw[hc.D,Dj]at h1
  split at h2
  .rename_i hb
   split at h2
   .rename_i v hp
    rw[A8,Bi]at hp;rw[Af]at hb;exact⟨_,h2,Sd hc ho hv hn hh (λhT=>(h1 hT).h) (XJ hb) hp⟩
   .exact h2.elim
  .exact h2.elim
 .exact hs.elim
theorem Pu(hc:Az P cx){t:Nat}{x y:Operand}(ho:o.op=.store t x y){h j off n:Nat}{v:SV}(hv:rd cx σ T x=some (.cS h j off))(hy:dx cx σ T t y=some v)(hn:size? cx t=some n)
  (hs:match nth σ.hp h with
   |some (.row ty m sz f)=>tq j (cx.D.i m)/\
    if Ah v.cells==n&&Nat.ble (off+n) (Ah (f j))&&Ej v.cells&&An (.agg (loose.aH (norm.aM cx.D v.cells))) then
     Z0 f j (C9 (f j) off (loose.aH (norm.aM cx.D v.cells))) λf'=>K ⟨.aJ [],[.put h (.row ty m sz f')],[h],[]⟩
    else False
   |_=>False):∃r,K r/\Local P cx.gl σ T o r:=by
 split at hs
 .rename_i ty m sz f hh
  obtain⟨h1,h2⟩:=hs
  split at h2
  .rename_i hb
   simp only[QE,QS,Af]at hb;rw[hc.D]at h1 h2 hb
   let f':Nat->List SV:=λi=>if i=j then C9 (f j) off (loose.aH (norm.aM dn v.cells)) else f i
   have k1:f' j=C9 (f j) off (loose.aH (norm.aM dn v.cells)):=by simp[f']
   have k2:∀i:Nat,i≠j->f' i=f i:=λi hi=>by simp[f',hi]
   exact⟨_,h2 f' ⟨k1,k2⟩,P4 hc ho hv hy hn hh h1.h hb.1.1.1 (XJ hb.1.1.2) hb.1.2 hb.2 k1 k2⟩
  .exact h2.elim
 .exact hs.elim
theorem Sk(hc:Az P cx){t:Nat}{x:Operand}(ho:o.op=.load t x){h j off n:Nat}{m':ST}(hv:rd cx σ T x=some (.cK m' h j off))(hn:size? cx t=some n)
  (hs:match nth σ.hp h with
   |some (.own _ m _ _ f)=>Ob cx.D σ.gm T (nW (cx.D.i m') (cx.D.i m))/\Ob cx.D σ.gm T (tq j (cx.D.i m))/\
    if Nat.ble (off+n) (Ah (f j)) then
     match pack (cH cx t) (takeN n (C4 off (f j))) with
     |some v=>K ⟨v,[],[h],[]⟩
     |none=>False
    else False
   |_=>False):∃r,K r/\Local P cx.gl σ T o r:=by
 split at hs
 .rename_i ty m sz gr f hh
  obtain⟨h0,h1,h2⟩:=hs;rw[hc.D,Dj]at h0 h1
  split at h2
  .rename_i hb
   split at h2
   .rename_i v hp
    rw[A8,Bi]at hp;rw[Af]at hb;exact⟨_,h2,Sc hc ho hv hn hh (λhT=>(h0 hT).h) (λhT=>(h1 hT).h) (XJ hb) hp⟩
   .exact h2.elim
  .exact h2.elim
 .exact hs.elim
theorem Pt(hc:Az P cx){t:Nat}{x y:Operand}(ho:o.op=.store t x y){h j off n:Nat}{m':ST}{v:SV}(hT:T=[])(hv:rd cx σ T x=some (.cK m' h j off))(hy:dx cx σ T t y=some v)(hn:size? cx t=some n)
  (hs:match nth σ.hp h with
   |some (.own ty m sz gr f)=>nW (cx.D.i m') (cx.D.i m)/\tq j (cx.D.i m)/\
    if Ah v.cells==n&&Nat.ble (off+n) (Ah (f j))&&Ej v.cells&&An (.agg (loose.aH (norm.aM cx.D v.cells))) then
     Z0 f j (C9 (f j) off (loose.aH (norm.aM cx.D v.cells))) λf'=>K ⟨.aJ [],[.put h (.own ty m sz gr f')],[h],[]⟩
    else False
   |_=>False):∃r,K r/\Local P cx.gl σ T o r:=by
 split at hs
 .rename_i ty m sz gr f hh
  obtain⟨h0,h1,h2⟩:=hs
  split at h2
  .rename_i hb
   simp only[QE,QS,Af]at hb;rw[hc.D]at h0 h1 h2 hb
   let f':Nat->List SV:=λi=>if i=j then C9 (f j) off (loose.aH (norm.aM dn v.cells)) else f i
   have k1:f' j=C9 (f j) off (loose.aH (norm.aM dn v.cells)):=by simp[f']
   have k2:∀i:Nat,i≠j->f' i=f i:=λi hi=>by simp[f',hi]
   exact⟨_,h2 f' ⟨k1,k2⟩,P3 hc ho hv hy hn hh h0.h h1.h hb.1.1.1 (XJ hb.1.1.2) hb.1.2 hb.2 (by subst hT;trivial) k1 k2⟩
  .exact h2.elim
 .exact hs.elim
theorem Aht{n:Int}{f:Nat->List SV}{A:Prop}(h:A->Fv n f):∃r,SLe r n/\(A->Kr r n f):=by
 by_cases hA:A
 .obtain⟨r,hr⟩:=Gj (h hA)
  exact⟨r,⟨.inl (Int.le_of_eq hr.len)⟩,λ_=>hr⟩
 .exact⟨[],⟨.inr rfl⟩,λg=>absurd g hA⟩
theorem Mu(hc:Az P cx){src dst e:TypeId}{x:Operand}(ho:o.op=.convert src dst x){ts td:TI}(kA:look src cx.tt=some ts)(qQ:ts.k=.slice e)(pI:look dst cx.tt=some td)(kC:td.k=.string)
  {nl:BT} {n:ST} {f:Nat->List SV} (hv:rd cx σ T x=some (.sl nl n 1 f)\/∃h,rd cx σ T x=some (.dQ nl n 1 f h)) (h:Sq cx σ T e n f K):∃r,K r/\Local P cx.gl σ T o r:=by
 unfold Sq at h
 split at h
 .rename_i a b c hle
  rw[hc.D]at h;obtain⟨h1,h2⟩:=h;obtain⟨r,hr⟩:=Gj h1;exact⟨_,h2 r hr,Lp hc ho kA qQ pI kC hle rfl hv λ_=>⟨h1,hr⟩⟩
 .rename_i a b c _ hle
  rw[hc.D]at h;obtain⟨h1,h2⟩:=h;rw[Dj]at h1;obtain⟨r,TR,hr⟩:=Aht h1;exact⟨_,h2 r TR ((Dj _ _ _).2 hr),Lp hc ho kA qQ pI kC hle rfl hv λg=>⟨h1 g,hr g⟩⟩
 .exact h.elim
theorem Yl(hc:Az P cx)(bS:Et P cx.gl cx.eD)(h:Ady cx σ T o K):∃r,K r/\Local P cx.gl σ T o r:=by
 unfold Ady at h
 split at h
 .rename_i x ho;exact T4 (.inl ho) h
 .rename_i x ho;exact T4 (.inr ho) h
 .rename_i e ho
  split at h
  .rename_i ti hl
   split at h
   .split at h
    .rename_i n el hk
     split at h
     .rename_i cD _
      split at h
      .rename_i hb
       simp only[QE,QS]at hb;obtain⟨f,hf,h⟩:=h;exact⟨_,h,Uh hc ho hl hb.1 (XJ hb.2) hf.h⟩
      .exact h.elim
     .exact h.elim
    .exact h.elim
   .exact⟨_,h,Ab2 hc ho hl⟩
  .exact h.elim
 .rename_i e x ho
  split at h
  .rename_i ti v hl hv
   split at h
   .rename_i hb
    simp only[QE]at hb;exact⟨_,h,Ais ho hv hb.2⟩
   .exact h.elim
  .exact h.elim
 .rename_i t ps ho
  split at h
  .rename_i ti vs hl hv
   split at h
   .rename_i cs fs h1 hf hk
    exact⟨_,h,Ra hc ho hl hv h1 hf (.inl ⟨fs,hk⟩) (λe n jK=>by rw[hk]at jK;cases jK)⟩
   .rename_i cs n e h1 hf hk
    split at h
    .rename_i m hm
     exact⟨_,h,Ra hc ho hl hv h1 hf (.inr ⟨n,e,hk⟩) (λe' n' jK=>by rw[hk]at jK;cases jK;exact⟨m,hm⟩)⟩
    .exact h.elim
   .exact h.elim
  .exact h.elim
 .rename_i t x ho
  split at h
  .rename_i hd off n hv hn
   split at h
   .rename_i ty cs hh
    split at h
    .rename_i hb
     split at h
     .rename_i v hp
      rw[A8,Bi]at hp;refine⟨_,h,Ud hc ho hv hn hh ?_ hp⟩;rw[Af]at hb;exact XJ hb
     .exact h.elim
    .exact h.elim
   .rename_i ty m sz f hh
    split at h
    .rename_i n' el cD _ _ hl
     split at h
     .rename_i he
      obtain⟨sY,rfl⟩:=he;obtain⟨hm,cs,hf,h⟩:=h;rw[hc.D]at hm hf;exact⟨_,h,P6 hc ho hl rfl rfl hv hh hm.h hf⟩
     .exact h.elim
    .exact h.elim
   .exact h.elim
  .rename_i cs n hv hn
   split at h
   .rename_i hb
    obtain⟨v,hp,h⟩:=Gd h;rw[A8]at hp;refine⟨_,h,Sb hc ho hv hn ?_ hp⟩;rw[Af]at hb;exact XJ hb
   .exact h.elim
  .rename_i hd j off n hv hn
   exact Sl hc ho hv hn h
  .rename_i m' hd j off n hv hn
   exact Sk hc ho hv hn h
  .exact h.elim
 .rename_i t x y ho
  split at h
  .split at h
   .rename_i ty cs hh
    split at h
    .rename_i hb
     simp only[QE,QS,Af]at hb;exact⟨_,h,Abx hc ho ‹_› ‹_› ‹_› hh hb.1.1 (XJ hb.1.2) hb.2⟩
    .exact h.elim
   .rename_i ty m sz f hh
    split at h
    .split at h
     .rename_i he
      obtain⟨sY,rfl⟩:=he;obtain⟨hm,hp,f',hf,h⟩:=h;rw[hc.D]at hm hf;exact⟨_,h,Ot hc ho ‹look t cx.tt=_› rfl rfl ‹_› ‹_› hh hm.h hp.PT hp.plain hf⟩
     .exact h.elim
    .exact h.elim
   .exact h.elim
  .exact Pu hc ho ‹_› ‹_› ‹_› h
  .exact Pt hc ho rfl ‹_› ‹_› ‹_› h
  .exact h.elim
 .rename_i t x i ho
  split at h
  .rename_i hd off fo ft hv hf
   split at h
   .rename_i m hn;exact⟨_,h,Mq hc ho hv hf hn⟩
   .exact h.elim
  .rename_i cs fo ft hv hf
   split at h
   .rename_i m hn
    split at h
    .rw[A8,Bi]at h
     exact⟨_,h,Lm hc ho hv hf hn⟩
    .exact h.elim
   .exact h.elim
  .rename_i hd j off fo ft hv hf
   split at h
   .rename_i m hn;exact⟨_,h,Lo hc ho hv hf hn⟩
   .exact h.elim
  .rename_i n' hd j off fo ft hv hf
   split at h
   .rename_i m hn;exact⟨_,h,Ln hc ho hv hf hn⟩
   .exact h.elim
  .exact h.elim
 .rename_i x ho
  split at h
  .rename_i hd off hv;exact⟨_,h,Ea ho hv (.inl ⟨_,_,rfl⟩)⟩
  .rename_i cs hv;exact⟨_,h,Ea ho hv (.inr (.inl ⟨_,rfl⟩))⟩
  .rename_i hd j off hv;exact⟨_,h,Ea ho hv (.inr (.inr (.inl ⟨_,_,_,rfl⟩)))⟩
  .rename_i n hd j off hv;exact⟨_,h,Ea ho hv (.inr (.inr (.inr (.inr ⟨_,_,_,_,rfl⟩))))⟩
  .rename_i n sz f hv;exact⟨_,h,Ea ho hv (.inr (.inr (.inr (.inl ⟨_,_,_,rfl⟩))))⟩
  .exact h.elim
 .rename_i t x i ho
  split at h
  .rename_i cs fo ft hv hf
   split at h
   .rename_i m hn
    split at h
    .rename_i hb
     obtain⟨v,hp,h⟩:=Gd h;rw[A8,Bi]at hp;rw[Af]at hb;exact⟨_,h,Ab0 hc ho hv hf hn (XJ hb) hp⟩
    .exact h.elim
   .exact h.elim
  .exact h.elim
 .rename_i t x y ho
  split at h
  .rename_i nl n sz f k i e a b c hv hi hl
   exact Lt hc ho (.inl hv) hi hl h
  .rename_i nl n sz f hd k i e a b c hv hi hl
   exact Lt hc ho (.inr ⟨hd,hv⟩) hi hl h
  .rename_i hd k i e a b c hv hi hl
   split at h
   .rename_i ty n sz f hh
    split at h
    .rename_i hs
     rw[hc.D]at h;obtain⟨h1,h2⟩:=h;rw[Dj]at h1;have h1:Bh (Ac σ.gm T)->0<=i.den/\i.den<n.den:=λhT=>⟨(h1 hT).lo,(h1 hT).hi⟩;refine⟨_,L8 h2 i.den.toNat ((Dj _ _ _).2 λhT=>?_),Sf hc hl rfl hs ho hv hh hi h1⟩;have:=(h1 hT).1;refine⟨?_⟩;show ((i.den.toNat:Nat):Int)=i.den;omega
    .exact h.elim
   .exact h.elim
  .rename_i nl m hd k i e a b c hv hi hl
   split at h
   .rename_i ty n sz gr f hh
    split at h
    .rename_i hs
     rw[hc.D]at h;obtain⟨h0,h1,h2⟩:=h;rw[Dj]at h0 h1;have h1:Bh (Ac σ.gm T)->0<=i.den/\i.den<n.den:=λhT=>⟨(h1 hT).lo,(h1 hT).hi⟩;refine⟨_,L8 h2 i.den.toNat ((Dj _ _ _).2 λhT=>?_),Sg hc hl rfl hs ho hv hh hi (λhT=>(h0 hT).h) h1⟩;have:=(h1 hT).1;refine⟨?_⟩;show ((i.den.toNat:Nat):Int)=i.den;omega
    .exact h.elim
   .exact h.elim
  .rename_i m hd k i e a b c hv hi hl
   split at h
   .rename_i sz hs
    exact Ab9 hc hl rfl hs ho hv hi h
   .exact h.elim
  .rename_i hd off k i n e a b c hv hi hl
   split at h
   .rename_i sz hs
    split at h
    .rename_i ty m cD f hh
     split at h
     .rename_i he
      have he:cD=sz:=by simpa using he
      subst he;rw[hc.D]at h;obtain⟨⟨h0,h1⟩,h2⟩:=h;have h0:0<=i.den:=h0;have h1:i.den<n:=h1;refine⟨_,L8 h2 i.den.toNat ((Dj _ _ _).2 λ_=>⟨?_⟩),P7 hc hl rfl hs ho hv hh hi h0 h1⟩;show ((i.den.toNat:Nat):Int)=i.den;omega
     .exact h.elim
    .exact Aca hc hl rfl hs ho hv hi h
   .exact h.elim
  .rename_i n sz f k i n' e a b c hv hi hl
   split at h
   .rename_i hs
    obtain⟨hs,rfl⟩:=hs;rw[hc.D]at h;obtain⟨h1,h2⟩:=h;rw[Dj]at h1;have h1:Bh (Ac σ.gm T)->0<=i.den/\i.den<n:=λhT=>⟨(h1 hT).lo,(h1 hT).hi⟩;refine⟨_,L8 h2 i.den.toNat ((Dj _ _ _).2 λhT=>?_),Sh hc hl rfl hs ho hv hi h1⟩;have:=(h1 hT).1;refine⟨?_⟩;show ((i.den.toNat:Nat):Int)=i.den;omega
   .exact h.elim
  .exact h.elim
 .rename_i f fi cs ho
  split at h
  .rename_i vs nO hv;exact⟨_,h,Uc ho nO hv⟩
  .rename_i cX _
   split at h
   .rename_i us hv;exact⟨_,h,Wg ho cX hv⟩
   .exact h.elim
  .exact h.elim
 .rename_i t len ps ho;exact Qu hc ho h
 .rename_i t l c ho
  split at h
  .rename_i a b ha hb;exact Aep hc ho ha hb h
  .exact h.elim
 .rename_i t x lo hi ho
  split at h
  .rename_i v a b hv ha hb;exact Aan hc ho hv ha hb h
  .exact h.elim
 .rename_i t x ix ho
  split at h
  .rename_i s k i _ _ _ hv hi hl
   rw[hc.D]at h;obtain⟨h1,h2⟩:=h;rw[Dj]at h1;exact⟨_,h2 _ ⟨rfl⟩,Se hc hl rfl ho hv hi λhT=>⟨(h1 hT).lo,(h1 hT).hi⟩⟩
  .rename_i cs k q n e _ _ _ hv hi hl
   split at h
   .rename_i sz hn
    split at h
    .rename_i hb
     simp only[QE]at hb;obtain⟨v,hp,h⟩:=Gd h;rw[A8,Bi]at hp;exact⟨_,h,Si hc hl rfl ho hv hi hn (by simpa using hb.1) (by rw[<-Af];exact XJ hb.2) hp⟩
    .exact h.elim
   .exact h.elim
  .exact h.elim
 .rename_i t r ho
  split at h
  .rename_i kt vt _ _ _ hl hr
   split at h
   .exact⟨_,h,Ll hc ho hl rfl hr _ (.inl rfl)⟩
   .exact⟨_,h,Ll hc ho hl rfl hr _ (.inr rfl)⟩
   .exact h.elim
  .exact h.elim
 .rename_i t m k x ho
  split at h
  .rename_i kt vt _ _ _ h0 s b hl hm hk hx
   split at h
   .rename_i F qA _ hh
    exact⟨_,h _ ⟨λk=>rfl⟩,Ky hc (.inl ho) hl rfl qA rfl hm hk hx hh ⟨λk=>by rw[hc.D];rfl⟩⟩
   .exact h.elim
  .rename_i kt vt _ _ _ h0 n v hl hm hk hx
   split at h
   .rename_i es qA hh
    split at h
    .rename_i hn;exact⟨_,h,Jj hc (.inl ho) hl rfl qA rfl hm hk hx hh hn⟩
    .exact h.elim
   .exact h.elim
  .exact h.elim
 .rename_i t m k x ho
  split at h
  .rename_i kt vt _ _ _ h0 s b hl hm hk hx
   split at h
   .rename_i F qA _ hh
    exact⟨_,h _ ⟨λk=>rfl⟩,Ky hc (.inr ho) hl rfl qA rfl hm hk hx hh ⟨λk=>by rw[hc.D];rfl⟩⟩
   .exact h.elim
  .rename_i kt vt _ _ _ h0 n v hl hm hk hx
   split at h
   .rename_i es qA hh
    split at h
    .rename_i hn;exact⟨_,h,Jj hc (.inr ho) hl rfl qA rfl hm hk hx hh hn⟩
    .exact h.elim
   .exact h.elim
  .exact h.elim
 .rename_i t m k ho
  split at h
  .rename_i kt vt _ _ _ h0 s hl hm hk
   split at h
   .rename_i F qA TM hh
    exact⟨_,h,Y4 hc ho hl rfl qA rfl TM rfl rfl hm hk hh⟩
   .exact h.elim
  .rename_i kt vt _ _ _ h0 n hl hm hk
   split at h
   .rename_i es qA hh
    rw[hc.D]at h;exact Wf hc ho hl rfl qA rfl hm hk hh h.1 h.2 rfl
   .exact h.elim
  .exact h.elim
 .rename_i x i ho
  split at h
  .rename_i vs hv
   obtain⟨v,hp,h⟩:=Gd h;exact⟨_,h,Wm ho hv hp⟩
  .exact h.elim
 .rename_i op t x ho
  split at h
  .rename_i b hv;exact⟨_,h,Ain ho hv⟩
  .rename_i k n hv;exact⟨_,h,Aip ho hv⟩
  .exact h.elim
 .rename_i op t x y u ho
  split at h
  .rename_i a w hx hy;exact V8 hc ho hx hy h
  .rename_i a b _ hx hy;exact V9 hc ho hx hy h
  .exact h.elim
 .rename_i src dst x ho
  split at h
  .rename_i k' n k a b c tj hv hl mG;exact⟨_,h,Aet hc ho hl mG rfl hv⟩
  .rename_i s e a b c a' b' c' hv hl mG
   split at h
   .rename_i a'' b'' c'' hle
    rw[hc.D]at h
    split at h
    .split at h
     .obtain⟨h1,h2⟩:=h
      exact⟨_,h2 _ ⟨rfl⟩,Y2 hc ho mG rfl hl rfl hle rfl hv h1.h⟩
     .exact h.elim
    .obtain⟨h1,h2⟩:=h
     rw[Dj]at h1;exact⟨_,h2 _ ⟨rfl⟩,Ub hc ho mG rfl hl rfl hle rfl hv λhT=>(h1 hT).h⟩
   .exact h.elim
  .rename_i nl n f a b c e a' b' c' hv hl mG
   exact Mu hc ho mG rfl hl rfl (.inl hv) h
  .rename_i nl n f hd a b c e a' b' c' hv hl mG
   exact Mu hc ho mG rfl hl rfl (.inr ⟨hd,hv⟩) h
  .rename_i n hd e a b c e' a' b' c' hv hl mG
   split at h
   .rename_i a'' b'' c'' ty n0 f hle hh
    split at h
    .rename_i hb
     simp only[QE,QS]at hb;obtain⟨⟨rfl,rfl⟩,rfl⟩:=hb;rw[hc.D]at h;exact⟨_,h.2,Wn hc ho hl rfl hle rfl hv hh h.1.h⟩
    .exact h.elim
   .exact h.elim
  .rename_i nl n hd a b c e a' b' c' hv hl mG
   split at h
   .rename_i a'' b'' c'' ty n0 gr f hle hh
    rw[hc.D]at h;obtain⟨h0,h1,h2⟩:=h;obtain⟨r,hr⟩:=Gj h1;exact⟨_,h2 r hr,Y3 hc ho mG rfl hl rfl hle rfl hv hh h0.h ⟨h1,hr⟩⟩
   .exact h.elim
  .rename_i nl n g hd a b c e a' b' c' hv hl mG
   split at h
   .rename_i a'' b'' c'' ty n0 g0 f hle hh
    rw[hc.D]at h;obtain⟨h0,h1,h2,h3⟩:=h;obtain⟨r,hr⟩:=Gj h2;exact⟨_,h3 r hr,Y1 hc ho mG rfl hl rfl hle rfl hv hh h0.h h1.h ⟨h2,hr⟩⟩
   .exact h.elim
  .exact h.elim
 .rename_i c ho
  split at h
  .rename_i aP
   split at h
   .rename_i x t hx ht
    split at h
    .rename_i nl n sz f e a b c hv hl;exact⟨_,h,Ov hc ho aP hx ht hl rfl (.inl hv)⟩
    .rename_i nl n sz f hd e a b c hv hl;exact⟨_,h,Ov hc ho aP hx ht hl rfl (.inr ⟨hd,hv⟩)⟩
    .rename_i nl n hd e a b c hv hl;exact⟨_,h,Wk hc ho aP hx ht hl rfl hv⟩
    .rename_i nl n g0 hd e a b c hv hl;exact⟨_,h,Wh hc ho aP hx ht hl rfl hv⟩
    .rename_i n hd e a b c hv hl;exact⟨_,h,Wl hc ho aP hx ht hl rfl hv⟩
    .rename_i s a b c hv hl;exact⟨_,h,Wi hc ho aP hx ht hl rfl hv⟩
    .rename_i hd e a b c hv hl
     split at h
     .rename_i ty n sz f hh;exact⟨_,h,Wj hc ho aP hx ht hl rfl hv hh⟩
     .exact h.elim
    .exact h.elim
   .exact h.elim
  .rename_i aP
   split at h
   .rename_i x y t t' hx ht
    split at h
    .rename_i b s e _ _ _ hb hs hl
     split at h
     .rename_i te hle
      split at h
      .rename_i dD
       simp only[QE,QS,ZE]at dD;obtain⟨rfl,hz⟩:=dD;exact Zy hc ho aP hx ht hl rfl hle hz hb hs h
      .exact So hc ho aP hx ht hl rfl hle hb hs h
     .exact h.elim
    .exact h.elim
   .exact h.elim
  .rename_i aP
   split at h
   .rename_i x t hx ht
    split at h
    .rename_i n aa hd e _ _ _ hv hl
     split at h
     .rename_i e' n0 sz gr f te hh hle
      split at h
      .rename_i oD
       simp only[QE,QS]at oD;obtain⟨⟨rfl,bB⟩,gJ⟩:=oD;rw[hc.D]at h;obtain⟨h0,h3⟩:=h
       let f':Nat->List SV:=λi=>if (i:Int)<aa.den then f i else te.zero
       have q1:∀i:Nat,(i:Int)<aa.den->f' i=f i:=λi hi=>by simp only[f'];rw[QB hi]
       have q2:∀i:Nat,aa.den<=(i:Int)->f' i=te.zero:=λi hi=>by simp only[f'];rw[QA (by omega)]
       exact⟨_,h3 f' ⟨q1,q2⟩,Sj hc ho aP hx ht hl rfl hle bB hv hh h0.h gJ q1 q2 trivial⟩
      .exact h.elim
     .exact h.elim
    .exact h.elim
   .exact h.elim
  .rename_i aP
   split at h
   .rename_i x y t t' hx ht
    split at h
    .rename_i d s hd hs;exact Afh hc ho aP hx ht hd hs h
    .exact h.elim
   .exact h.elim
  .rename_i aP
   split at h
   .rename_i x y hx
    split at h
    .rename_i k a k' b ha hb
     split at h
     .rename_i e
      subst e;rw[hc.D]at h;exact⟨_,h _ ⟨rfl⟩,Air ho aP hx ha hb⟩
     .exact h.elim
    .exact h.elim
   .exact h.elim
  .rename_i aP
   split at h
   .rename_i x y hx
    split at h
    .rename_i k a k' b ha hb
     split at h
     .rename_i e
      subst e;rw[hc.D]at h;exact⟨_,h _ ⟨rfl⟩,Aiq ho aP hx ha hb⟩
     .exact h.elim
    .exact h.elim
   .exact h.elim
  .rename_i f aP
   split at h
   .rename_i vs hv;exact Fk hc bS (Acw ho aP hv) h
   .exact h.elim
  .rename_i sl aP
   split at h
   .rename_i vs f hv hs
    refine Fk hc bS (λhg=>?_) h;have:=Ro (cs:=[]) ho aP hv (.inr ⟨rfl,hs⟩) hg
    rwa [YT]at this
   .rename_i vs f cs hv hs
    exact Fk hc bS (Ro ho aP hv (.inl hs)) h
   .rename_i vs f us hv hs
    exact Fk hc bS (Afe ho aP hv hs) h
   .exact h.elim
  .exact h.elim
 .exact h.elim
end
structure tF(σ:Sy):Prop where
 tg:∀s g,Au σ.fr s=some g->∀i∈g.tg,i<σ.gm.length
 gt:∀s g i,Au σ.fr s=some g->g.gt=some i->∃c,g.v=.bool c/\nth σ.gm i=some c
 gf:∀s g i,Au σ.fr s=some g->g.gf=some i->∃c,g.v=.bool c/\nth σ.gm i=some (.not c)
theorem Hi{gm:List BT}{c:BT}:∀ {T:List Nat},(∀i∈T,i<gm.length)->Ac (gm++[c]) T=Ac gm T
 | [],_=>rfl
 |i :: T,h=>by
  have h1:=Hi (gm:=gm) (c:=c) (T:=T) λj hj=>h j (XB _ hj);have h2:nth (gm++[c]) i=nth gm i:=by rw[Aj,Aj,QM (h i (XA ..))]
  simp only[Ac,ZU,h2]at *;rw[h1]
theorem B5{α:Type}(fr:List (Option α))(d s:Nat)(g:Option α):Au (Ax fr d g) s=if s=d/\d<fr.length then g else Au fr s:=by
 rw[D7,D7,As,ZD]
 by_cases e:d=s
 .subst e
  by_cases h:d<fr.length<;>simp[h]
 .rw[QA e,QA (λh=>e h.1.symm)]
section
variable {P:Program} {cx:Cx}
theorem Agg{a:Act}{d:Nat}{v:Value}(h:a.tmps.size<=d):a.put (some d) v=a:=by
 obtain⟨t,ds⟩:=a;simp only[Act.put]at *;congr 1;exact Array.setIfInBounds_eq_of_size_le h
theorem St.cM{B:Bs}{N:Nat}{E:Env}{a:Act}{w:World}{σ:Sy}{hf:Nat->Hl}(st:St B N E a w (Bd σ) hf)(hN:σ.fr.length=N)(d:Option Nat)(v:Value)(g:Option G)
  (hg:∀g',g=some g'->(Bh (Ac σ.gm g'.tg)->Rel E w g'.v v)/\(¬Bh (Ac σ.gm g'.tg)->v=undef)) (mC:List Hl):St B N E (a.put d v) w (Bd ⟨cM σ.fr d g,mC,σ.gm⟩) hf:=by
 have key:∀k,d=some k->k<N->St B N E (a.put d v) w (Bd ⟨Sx.cM σ.fr d g,mC,σ.gm⟩) hf:=by
  intro k hk aC;have:=st.put d v (g.map λg=>(Ac σ.gm g.tg,g.v)) (λcs s e=>by
   cases g with
   |none=>cases e
   |some g'=>simp only[QP,Option.some.injEq,Prod.mk.injEq]at e;obtain⟨rfl,rfl⟩:=e;exact hg g' rfl) (λj hj=>by rw[hk]at hj;cases hj;exact aC)
  have e:BB (Bd σ) d (g.map λg=>(Ac σ.gm g.tg,g.v))=Bd ⟨Sx.cM σ.fr d g,mC,σ.gm⟩:=by
   subst hk
   funext s;simp only[BB,aR,Bd,Sx.cM,B5]
   by_cases e:s=k
   .subst e;simp[hN,aC]
   .simp[e]
  rw[e]at this;exact this
 cases d with
 |none=>exact st
 |some k =>
  by_cases aC:k<N
  .exact key k rfl aC
  .rw[Agg (by rw[st.size];omega)]
   have e:Bd ⟨Sx.cM σ.fr (some k) g,mC,σ.gm⟩=Bd σ:=by
    funext s;simp only[Bd,Sx.cM,B5];rw[QA (λh=>aC (by rw[<-hN];exact h.2))]
   rw[e];exact st
theorem Qh{hp:List Hl}{h:Nat}{hl:Hl}(hle:h<=hp.length):Aq (DG hp h hl)=aR (Aq hp) h hl:=by
 funext k;unfold DG;rw[Af]
 by_cases e:h=hp.length
 .subst e
  simp only[beq_self_eq_true,if_true,Aq,Aj,aR]
  by_cases e2:k=hp.length
  .subst e2;simp
  .rw[QA e2]
   by_cases e3:k<hp.length
   .rw[QM e3]
   .rw[QV (by simp;omega),QV (by omega)]
 .have:(h==hp.length)=false:=by simpa using e
  simp only[this,XD,if_false,Aq,Aj,As,aR,ZD]
  by_cases e2:h=k
  .subst e2;rw[QB rfl,QB rfl,QB (by omega)];rfl
  .rw[QA e2,QA (λh=>e2 h.symm)]
theorem Jo:∀(es:List Ef) (hp:List Hl),Jh hp es=true->Aq (Lw hp es)=Hy (Aq hp) es
 | [],hp,_=>rfl
 |.set h off vs :: es,hp,ho=>by
  simp only[Jh]at ho;show Aq (Lw (fa hp (.set h off vs)) es)=Hy (dc (Aq hp) (.set h off vs)) es;rw[Jo es _ ho];congr 1;simp only[fa,dc];cases hn:nth hp h with
  |none=>simp[Aq,hn]
  |some hl =>
   rw[Bo hn];cases hl<;>try rfl
   rename_i ty cs
   funext k;have aC:h<hp.length:=by rw[Aj]at hn;exact (List.getElem?_eq_some_iff.1 hn).1
   simp only[Aq,Aj,As,aR,ZD]
   by_cases e2:h=k
   .subst e2;rw[QB rfl,QB rfl,QB aC];rfl
   .rw[QA e2,QA (λh=>e2 h.symm)]
 |.put h hl :: es,hp,ho=>by
  simp only[Jh,QE,Af]at ho;show Aq (Lw (fa hp (.put h hl)) es)=Hy (dc (Aq hp) (.put h hl)) es;rw[Jo es _ ho.2];congr 1;exact Qh (XJ ho.1)
theorem Hg{all:List Oper}{ops:Array Oper}(iW:ops.toList=all){σ aL:Sy}{T:List Nat}{o:Oper}(h:guardOf all σ o.guard=some (some (aL,T)))(wf:tF σ):
  tF aL/\Bd aL=Bd σ/\aL.hp=σ.hp/\aL.fr.length=σ.fr.length/\(∀i∈T,i<aL.gm.length)/\(∃x,aL.gm=σ.gm++x)/\
  (∀(i:Nat),Au aL.fr i=none↔Au σ.fr i=none)/\
  ∀(B:Bs) (N:Nat) (E:Env) (a:Act) (w:World) (ff:Nat->SG) (hf:Nat->Hl),St B N E a w ff hf->(∀j want s,o.guard=some (j,want)->(nth all j).bind (·.dst)=some s->ff s=Bd σ s)->(Region.wanted o (yielded ops a.tmps)=true↔Bh (Ac aL.gm T)):=by
 unfold guardOf at h
 split at h
 .rename_i hg
  simp only[Option.some.injEq,Prod.mk.injEq]at h;obtain⟨rfl,rfl⟩:=h;exact⟨wf,rfl,rfl,rfl,by simp,⟨[],by simp⟩,λ_=>Iff.rfl,λB N E a w ff hf _ _=>by simp[Region.wanted,hg,Ac,Bh]⟩
 .rename_i j want hg
  split at h
  .rename_i oj hj
   split at h
   .rename_i s hs
    have bD:∀(B:Bs) (N:Nat) (E:Env) (a:Act) (w:World) (ff:Nat->SG) (hf:Nat->Hl) (tg:List Nat) (gt gf:Option Nat) (c:BT),Au σ.fr s=some ⟨tg,gt,gf,.bool c⟩->St B N E a w ff hf->(∀j want s,o.guard=some (j,want)->(nth all j).bind (·.dst)=some s->ff s=Bd σ s)->
      (Region.wanted o (yielded ops a.tmps)=true↔(Bh (Ac σ.gm tg)/\c.den=want)):=by
     intro B N E a w ff hf tg gt gf c iX st eT;have eT:=eT j want s hg (by rw[hj];exact hs);have wv:=st.slot s;rw[eT,Bd,iX]at wv;simp only[QP,Bk]at wv;obtain⟨h1,h2,h3⟩:=wv;have bg:ops[j]?=some oj:=by rw[<-QX,iW,<-Aj];exact hj
     have hv:a.tmps[s]?=some (a.tmps.getD s undef):=by simp[Array.getD,h1]
     simp only[Region.wanted,hg,yielded,bg,ZS,hs];rw[hv]
     by_cases hT:Bh (Ac σ.gm tg)
     .rw[(h2 hT).bI]
      simp[hT]
     .rw[h3 hT]
      simp[undef,hT]
    split at h
    .rename_i tg gt gf b iX
     split at h
     .rename_i hb
      simp only[Option.some.injEq,Prod.mk.injEq]at h;obtain⟨rfl,rfl⟩:=h;refine⟨wf,rfl,rfl,rfl,wf.tg s _ iX,⟨[],by simp⟩,λ_=>Iff.rfl,λB N E a w ff hf st eT=>?_⟩;rw[bD B N E a w ff hf _ _ _ _ iX st eT];have:b=want:=by simpa using hb
      simp[BT.den,this]
     .cases h
    .rename_i tg gt gf c _ iX
     have dZ:∀(i:Nat) (c':BT),nth σ.gm i=some c'->(c'.den=true↔c.den=want)->σ=aL->T=i :: tg->(tF aL/\Bd aL=Bd σ/\aL.hp=σ.hp/\aL.fr.length=σ.fr.length/\(∀i∈T,i<aL.gm.length)/\(∃x,aL.gm=σ.gm++x)/\(∀(i:Nat),Au aL.fr i=none↔Au σ.fr i=none)/\
       ∀(B:Bs) (N:Nat) (E:Env) (a:Act) (w:World) (ff:Nat->SG) (hf:Nat->Hl),St B N E a w ff hf->(∀j want s,o.guard=some (j,want)->(nth all j).bind (·.dst)=some s->ff s=Bd σ s)->(Region.wanted o (yielded ops a.tmps)=true↔Bh (Ac aL.gm T))):=by
      intro i c' hi hc e1 e2;subst e1 e2;refine⟨wf,rfl,rfl,rfl,λk hk=>?_,⟨[],by simp⟩,λ_=>Iff.rfl,λB N E a w ff hf st eT=>?_⟩
      .rcases List.mem_cons.1 hk with rfl|hk
       .rw[Aj]at hi;exact (List.getElem?_eq_some_iff.1 hi).1
       .exact wf.tg s _ iX k hk
      .rw[bD B N E a w ff hf _ _ _ _ iX st eT]
       simp only[Ac,ZU,hi,Bh];rw[hc];exact And.comm
     have new:∀(c':BT) (g':G),(c'.den=true↔c.den=want)->g'.tg=tg->g'.v=.bool c->(∀i,g'.gt=some i->(gt=some i)\/(i=σ.gm.length/\c'=c))->(∀i,g'.gf=some i->(gf=some i)\/(i=σ.gm.length/\c'=.not c))->aL=⟨Ax σ.fr s (some g'),σ.hp,σ.gm++[c']⟩->T=Ah σ.gm :: tg->
       (tF aL/\Bd aL=Bd σ/\aL.hp=σ.hp/\aL.fr.length=σ.fr.length/\(∀i∈T,i<aL.gm.length)/\(∃x,aL.gm=σ.gm++x)/\(∀(i:Nat),Au aL.fr i=none↔Au σ.fr i=none)/\
       ∀(B:Bs) (N:Nat) (E:Env) (a:Act) (w:World) (ff:Nat->SG) (hf:Nat->Hl),St B N E a w ff hf->(∀j want s,o.guard=some (j,want)->(nth all j).bind (·.dst)=some s->ff s=Bd σ s)->(Region.wanted o (yielded ops a.tmps)=true↔Bh (Ac aL.gm T))):=by
      intro c' g' hc e1 e2 e3 e4 e5 e6;subst e5 e6;have wL:∀i b,nth σ.gm i=some b->nth (σ.gm++[c']) i=some b:=λi b hb=>by
       rw[Aj]at hb ⊢;rw[QM (List.getElem?_eq_some_iff.1 hb).1];exact hb
      have bm:nth (σ.gm++[c']) σ.gm.length=some c':=by rw[Aj];simp
      refine⟨⟨λk g hk i hi=>?_,λk g i hk hi=>?_,λk g i hk hi=>?_⟩,?_,rfl,by simp[As],λk hk=>?_,⟨[c'],rfl⟩,λk=>?_,λB N E a w ff hf st eT=>?_⟩
      .rw[B5]at hk
       split at hk
       .cases hk;rw[e1]at hi;have:=wf.tg s _ iX i hi;simp;omega
       .have:=wf.tg k g hk i hi;simp;omega
      .rw[B5]at hk
       split at hk
       .cases hk
        rcases e3 i hi with h|⟨rfl,rfl⟩
        .obtain⟨c2,q1,q2⟩:=wf.gt s _ i iX h
         exact⟨c2,by rw[e2];exact q1,wL _ _ q2⟩
        .exact⟨_,e2,bm⟩
       .obtain⟨c2,q1,q2⟩:=wf.gt k g i hk hi
        exact⟨c2,q1,wL _ _ q2⟩
      .rw[B5]at hk
       split at hk
       .cases hk
        rcases e4 i hi with h|⟨rfl,rfl⟩
        .obtain⟨c2,q1,q2⟩:=wf.gf s _ i iX h
         exact⟨c2,by rw[e2];exact q1,wL _ _ q2⟩
        .exact⟨_,e2,bm⟩
       .obtain⟨c2,q1,q2⟩:=wf.gf k g i hk hi
        exact⟨c2,q1,wL _ _ q2⟩
      .funext k
       simp only[Bd,B5]
       split
       .rename_i e
        rw[e.1,iX];simp only[QP,e1,e2,Hi (wf.tg s _ iX)]
       .cases hk:Au σ.fr k with
        |none=>rfl
        |some g=>simp only[QP,Hi (wf.tg k g hk)]
      .rw[Af]at hk
       rcases List.mem_cons.1 hk with rfl|hk
       .simp
       .have:=wf.tg s _ iX k hk;simp;omega
      .simp only[B5]
       split
       .rename_i e;rw[e.1,iX];simp
       .rfl
      .rw[bD B N E a w ff hf _ _ _ _ iX st eT]
       simp only[Ac,ZU,Af,bm,Bh];have:=Hi (c:=c') (wf.tg s _ iX);simp only[Ac]at this;rw[this,hc];exact And.comm
     split at h
     .rename_i hw
      subst hw
      split at h
      .rename_i _ i
       simp only[Option.some.injEq,Prod.mk.injEq]at h;obtain⟨c2,q1,q2⟩:=wf.gt s _ i iX rfl;cases q1;exact dZ i c q2 Iff.rfl h.1 h.2.symm
      .simp only[Option.some.injEq,Prod.mk.injEq]at h
       refine new c _ Iff.rfl rfl rfl (λi h=>?_) (λi h=>.inl h) h.1.symm h.2.symm;simp only[Option.some.injEq]at h;exact .inr ⟨by rw[<-h,Af],rfl⟩
     .rename_i hw
      have hw:want=false:=by simpa using hw
      subst hw
      split at h
      .rename_i _ i
       simp only[Option.some.injEq,Prod.mk.injEq]at h;obtain⟨c2,q1,q2⟩:=wf.gf s _ i iX rfl;cases q1;exact dZ i (.not c) q2 (by simp[BT.den]) h.1 h.2.symm
      .simp only[Option.some.injEq,Prod.mk.injEq]at h
       refine new (.not c) _ (by simp[BT.den]) rfl rfl (λi h=>.inl h) (λi h=>?_) h.1.symm h.2.symm;simp only[Option.some.injEq]at h;exact .inr ⟨by rw[<-h,Af],rfl⟩
    .cases h
   .cases h
  .cases h
theorem O1{all:List Oper}{ops:Array Oper}(iW:ops.toList=all){σ:Sy}{o:Oper}(h:guardOf all σ o.guard=some none){B:Bs}{N:Nat}{E:Env}{a:Act}{w:World}{ff:Nat->SG}{hf:Nat->Hl}(st:St B N E a w ff hf)
  (eT:∀j want s,o.guard=some (j,want)->(nth all j).bind (·.dst)=some s->ff s=Bd σ s):Region.wanted o (yielded ops a.tmps)=false:=by
 unfold guardOf at h
 split at h
 .cases h
 .rename_i j want hg
  split at h
  .rename_i oj hj
   split at h
   .rename_i s hs
    split at h
    .rename_i tg gt gf b iX
     split at h
     .cases h
     .rename_i hb
      have eT:=eT j want s hg (by rw[hj];exact hs);have wv:=st.slot s;rw[eT,Bd,iX]at wv;simp only[QP,Bk]at wv;obtain⟨h1,h2,h3⟩:=wv;have bg:ops[j]?=some oj:=by rw[<-QX,iW,<-Aj];exact hj
      have hv:a.tmps[s]?=some (a.tmps.getD s undef):=by simp[Array.getD,h1]
      simp only[Region.wanted,hg,yielded,bg,ZS,hs];rw[hv]
      by_cases hT:Bh (Ac σ.gm tg)
      .rw[(h2 hT).bI]
       simpa[BT.den] using hb
      .rw[h3 hT]
       simp[undef]
    .split at h<;>split at h<;>simp at h
    .cases h
   .cases h
  .cases h
end
end Go.Sx
