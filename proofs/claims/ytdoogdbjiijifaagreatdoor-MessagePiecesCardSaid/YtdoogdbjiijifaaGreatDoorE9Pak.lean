/- Lemmas of the proof; no conditions. -/
import Derived.Test.YtdoogdbjiijifaaGreatDoorE9Pai
import Derived.Test.YtdoogdbjiijifaaGreatDoorE9Paj
namespace Go.Sx
open Go
section
variable {P:Program} {cx:Cx} {σ:Sy} {T:List Nat} {o:Oper} {K:Out->Prop}
theorem Un{x:Operand}(ho:o.op=.move x\/o.op=.assign x)
  (h:Tv cx σ T o.type x K):∃r,K r/\Local P cx.gl σ T o r:=by
 unfold Tv at h
 split at h
 .split at h
  .split at h
   .exact⟨_,h,Ajp ho⟩
   .exact h.elim
  .exact h.elim
 .obtain⟨v,hv,h⟩:=Gi h
  exact⟨_,h,Afk ho hv⟩
theorem Mf{D:Dn}{gm:List BT}{T:List Nat}{i:Int}{K:Nat->Prop}(h:rA D gm T i K)(j:Nat)(hj:Ob D gm T (DU j i)):K j:=by
 unfold rA at h
 split at h
 .exact h j hj
 .exact h j hj
theorem L5(hc:A4 P cx){t e sz:Nat}{x y:Operand}(ho:o.op=.indexAddr t x y){nl:BT}{n:ST}{f:Nat->List SV}{k:IntKind}{i:ST}{a b:Nat}{c:List SV}
  (hv:rd cx σ T x=some (.sl nl n sz f)\/∃h,rd cx σ T x=some (.dO nl n sz f h)) (hi:rd cx σ T y=some (.int k i)) (hl:look t cx.tt=some ⟨.slice e,a,b,c⟩)
  (h:if size? cx e=some sz then Ob cx.D σ.gm T (fv (cx.D.i i) (cx.D.i n))/\rA cx.D σ.gm T (cx.D.i i) λj=>out K (.dK (f j)) else False):∃r,K r/\Local P cx.gl σ T o r:=by
 split at h
 .rename_i hs
  rw[hc.D]at h;obtain⟨h1,h2⟩:=h;rw[Dm]at h1;have h1:Bk (Ac σ.gm T)->0<=i.den/\i.den<n.den:=λhT=>⟨(h1 hT).lo,(h1 hT).hi⟩;refine⟨_,Mf h2 i.den.toNat ((Dm _ _ _).2 λhT=>?_),Ux hc hl rfl hs ho hv hi h1⟩;have:=(h1 hT).1;refine⟨?_⟩;show ((i.den.toNat:Nat):Int)=i.den;omega
 .exact h.elim
theorem K8(hc:A4 P cx){t e sz n:Nat}{ti:TI}(hl:look t cx.tt=some ti)(hk:ti.k=.array n e)(hn:size? cx e=some sz){x y:Operand}(ho:o.op=.indexAddr t x y){h off:Nat}{k:IntKind}{i:ST}
  (hv:rd cx σ T x=some (.ptr h off)) (hi:rd cx σ T y=some (.int k i)) {j:Nat} (hj:i.den=(j:Int)) (y7:j<n):Local P cx.gl σ T o ⟨.ptr h (off+j * sz),[],[],[]⟩:=by
 intro B N E a w ff dA hg st ag bL hT;obtain⟨b,hb,hx⟩:=(Ab hv hg st (Ak ag (by simp[ho,Op.operands])) hT).dL;have hy:=(Ab hi hg st (Ak ag (by simp[ho,Op.operands])) hT).aT;refine Ad st (v:=.pointer (some ⟨b,off+j * sz,none⟩)) ?_ rfl (.ptr hb rfl);have hu:=(hc.ti hl).array hk;obtain⟨te,iI,bC⟩:=bI hn;have hS:=(hc.ti iI).sizeOf w;simp[execOp,ho,hx,hy,hj,Instr.indexAt,run_underlying hu,asIntOf,y7,hS,bC,Instr.sureAddr,add_lit]
theorem Acw(hc:A4 P cx){t e sz n:Nat}{ti:TI}(hl:look t cx.tt=some ti)(hk:ti.k=.array n e)(hn:size? cx e=some sz){x y:Operand}(ho:o.op=.indexAddr t x y){h off:Nat}{k:IntKind}{i:ST}
  (hv:rd cx σ T x=some (.ptr h off)) (hi:rd cx σ T y=some (.int k i)) (hs:Hs cx T h off n sz i K):∃r,K r/\Local P cx.gl σ T o r:=by
 unfold Hs at hs
 split at hs
 .rename_i q hq
  split at hs
  .rename_i hb
   have dC:i.den=(q:Int):=by rw[<-Ahp cx i,hq];rfl
   exact⟨_,hs,K8 hc hl hk hn ho hv hi (j:=q) dC (by simpa using hb)⟩
  .exact hs.elim
 .split at hs
  .rw[hc.D]at hs
   obtain⟨⟨h0,h1⟩,h2⟩:=hs;have h0:0<=i.den:=h0;have h1:i.den<n:=h1;have hq:i.den=((i.den.toNat:Nat):Int):=by omega
   exact⟨_,Ng n 0 h2 i.den.toNat hq (XX _) (by omega),K8 hc hl hk hn ho hv hi hq (by omega)⟩
  .exact hs.elim
theorem Ajs{c:Call}(ho:o.op=.call c)(aR:c.callee=.builtin .max){x y:Operand}(hx:c.args.toList=[x,y]){k:IntKind}{s t:ST}(h1:rd cx σ T x=some (.int k s))(h2:rd cx σ T y=some (.int k t)):
  Local P cx.gl σ T o ⟨.int k (.a (max s.den t.den)),[],[],[]⟩:=by
 intro B N E a w ff dA hg st ag bL hT;have mx:x∈o.op.operands.toList:=by simp[ho,Op.operands,Call.operands,aR,hx]
 have my:y∈o.op.operands.toList:=by simp[ho,Op.operands,Call.operands,aR,hx]
 have e1:c.args=#[x,y]:=XV (by simpa using hx);have iR:=(Ab h1 hg st (Ak ag mx) hT).aT;have uJ:=(Ab h2 hg st (Ak ag my) hT).aT;refine Ad st (v:=.int k (if t.den > s.den then t.den else s.den)) ?_ rfl (.int ?_)
 .simp[execOp,ho,resolve,aR,e1,invoke,builtin,iR,uJ,Builtin.max_,Builtin.max2]
 .simp only[ST.den];split<;>omega
theorem Ajr{c:Call}(ho:o.op=.call c)(aR:c.callee=.builtin .min){x y:Operand}(hx:c.args.toList=[x,y]){k:IntKind}{s t:ST}(h1:rd cx σ T x=some (.int k s))(h2:rd cx σ T y=some (.int k t)):
  Local P cx.gl σ T o ⟨.int k (.a (min s.den t.den)),[],[],[]⟩:=by
 intro B N E a w ff dA hg st ag bL hT;have mx:x∈o.op.operands.toList:=by simp[ho,Op.operands,Call.operands,aR,hx]
 have my:y∈o.op.operands.toList:=by simp[ho,Op.operands,Call.operands,aR,hx]
 have e1:c.args=#[x,y]:=XV (by simpa using hx);have iR:=(Ab h1 hg st (Ak ag mx) hT).aT;have uJ:=(Ab h2 hg st (Ak ag my) hT).aT;refine Ad st (v:=.int k (if t.den<s.den then t.den else s.den)) ?_ rfl (.int ?_)
 .simp[execOp,ho,resolve,aR,e1,invoke,builtin,iR,uJ,Builtin.min_,Builtin.min2]
 .simp only[ST.den];split<;>omega
theorem Ai2:∀ {x y:Operand},I7 x y=true->x=y
 |.tmp i,.tmp j,h=>by simp[I7]at h;rw[h]
 |.tmp _,.const _,h=>by simp[I7]at h
 |.tmp _,.global _,h=>by simp[I7]at h
 |.tmp _,.func _,h=>by simp[I7]at h
 |.const _,_,h=>by simp[I7]at h
 |.global _,_,h=>by simp[I7]at h
 |.func _,_,h=>by simp[I7]at h
theorem Afi(hc:A4 P cx){t:Nat}{x y:Operand}(ho:o.op=.makeSlice t x y){a b:SV}(hx:rd cx σ T x=some a)(hy:rd cx σ T y=some b)(h:Tw cx σ T t a b (I7 x y) K):∃r,K r/\Local P cx.gl σ T o r:=by
 unfold Tw at h
 split at h
 .rename_i e _ _ _ hl
  split at h
  .rename_i te kc c hle
   split at h
   .obtain⟨h1,h2⟩:=h
    rw[hc.D]at h1;exact⟨_,h2,Aco hc ho hl rfl hle hx hy λ_=>⟨h1.lo,h1.mem,h1.hi⟩⟩
   .exact h.elim
  .rename_i te kn n kc c _ hle
   split at h
   .rename_i hb
    simp only[QE,ZG]at hb;obtain⟨h1,h2⟩:=h;rw[hc.D]at h1 h2;exact⟨_,h2,Acn hc ho hl rfl hle hx hy (Ai2 hb.1) hb.2 λ_=>⟨h1.lo,h1.mem,h1.hi⟩⟩
   .exact h.elim
  .exact h.elim
 .exact h.elim
theorem Q8(hc:A4 P cx){t len:Nat}{ps:Array (Nat×Operand)}(ho:o.op=.buildSlice t len ps)(h:Am cx σ T t len ps.toList K):∃r,K r/\Local P cx.gl σ T o r:=by
 unfold Am at h
 split at h
 .rename_i e _ _ _ vs hl kR
  split at h
  .rename_i te hle
   split at h
   .rename_i cs h1 hf
    split at h
    .rename_i hb
     simp only[QE,ZG]at hb;rw[hc.D]at h;exact⟨_,h,Uz hc ho hl rfl hle kR h1 hf hb.1.2 (XK hb.2)⟩
    split at h
    .rename_i _ hb
     simp only[QE,ZG]at hb;rw[hc.D]at h hb;have h:=h (λk=>takeN te.size (Db (k * te.size) (loose.aH (norm.aO dn cs)))) ⟨λi r hr=>(Nx _ _ _ _ hr).symm⟩
     split at h
     .exact⟨_,h,Uy hc ho hl rfl hle kR h1 hf hb.1.1 hb.1.2 (XK hb.2)⟩
     .exact⟨_,h,Qi hc ho hl rfl hle kR h1 hf hb.1.1 hb.1.2 (XK hb.2)⟩
    .exact h.elim
   .exact h.elim
  .exact h.elim
 .exact h.elim
theorem Abe(hc:A4 P cx){t:Nat}{x:Operand}{lo hi:Option Operand}(ho:o.op=.slice t x lo hi none){v:SV}{sa sb:Option SV}(hv:rd cx σ T x=some v)(jZ:Er cx σ T lo=some sa)(pG:Er cx σ T hi=some sb)
  (h:Je cx σ T t v sa sb K):∃r,K r/\Local P cx.gl σ T o r:=by
 unfold Je at h
 split at h
 .rename_i p hp
  have row:∀(nl:BT) (n:ST) (sz:Nat) (f:Nat->List SV) (e a b:Nat) (c:List SV),look t cx.tt=some ⟨.slice e,a,b,c⟩->(rd cx σ T x=some (.sl nl n sz f)\/∃h,rd cx σ T x=some (.dO nl n sz f h))->
    Je.wV cx σ T sb K nl n sz f e p->∃r,K r/\Local P cx.gl σ T o r:=by
   intro nl n sz f e a b c hl hv h;unfold Je.wV at h
   split at h
   .rename_i q hq
    split at h
    .rename_i hs
     rw[hc.D]at h;obtain⟨h1,h2⟩:=h;rw[Dm]at h1;have h1:Bk (Ac σ.gm T)->0<=p.den/\p.den<=q.den/\q.den<=n.den:=λhT=>⟨(h1 hT).lo,(h1 hT).le,(h1 hT).hi⟩;have key:∀i j:Nat,(j:Int)=i+p.den->(λi:Nat=>f ((i:Int)+p.den).toNat) i=f j:=λi j OR=>by
      show f ((i:Int)+p.den).toNat=f j;rw[<-OR];rfl
     exact⟨_,h2 _ _ ⟨rfl,key⟩,Sp hc hl rfl hs ho hv jZ pG hp hq h1 key⟩
    .exact h.elim
   .exact h.elim
  split at h
  .rename_i nl n sz f e _ _ _ hl;exact row nl n sz f e _ _ _ hl (.inl hv) h
  .rename_i nl n sz f hd e _ _ _ hl;exact row nl n sz f e _ _ _ hl (.inr ⟨hd,hv⟩) h
  .rename_i nl n hd e _ _ _ hl
   split at h
   .rename_i e' n0 sz gr f k b hh
    split at h
    .rename_i oU
     simp only[QE,QO]at oU;obtain⟨rfl,cm⟩:=oU;rw[hc.D]at h;obtain⟨h0,h2,h3⟩:=h;obtain⟨te,hle⟩:=Option.isSome_iff_exists.1 cm;exact⟨_,h3,O0 hc hl rfl hle ho hv hh jZ pG h0.h ⟨Int.le_trans h2.lo h2.le,h2.hi⟩ trivial⟩
    .exact h.elim
   .rename_i e' n0 sz gr f k b hh
    split at h
    .rename_i hs
     rw[hc.D]at h;obtain⟨h0,h2,h3⟩:=h;exact⟨_,h3,Qf hc hl rfl hs ho hv hh pG jZ h0.h ⟨h2.lo,h2.le⟩⟩
    .exact h.elim
   .exact h.elim
  .rename_i nl n g0 hd e _ _ _ hl
   split at h
   .rename_i e' n0 g1 sz f k b hh
    split at h
    .rename_i oU
     simp only[QE,QO]at oU;obtain⟨rfl,cm⟩:=oU;rw[hc.D]at h;obtain⟨h0,h1,h2,h3⟩:=h;obtain⟨te,hle⟩:=Option.isSome_iff_exists.1 cm;exact⟨_,h3 _ ⟨rfl⟩,Sn hc hl rfl hle ho hv hh jZ pG h0.h h1.h ⟨Int.le_trans h2.lo h2.le,h2.hi⟩ rfl trivial⟩
    .exact h.elim
   .exact h.elim
  .rename_i s _ _ _ hl
   split at h
   .rename_i q hq
    rw[hc.D]at h;obtain⟨h1,h2⟩:=h;rw[Dm]at h1;exact⟨_,h2 _ ⟨rfl⟩,So hc hl rfl ho hv jZ pG hp hq λhT=>⟨(h1 hT).lo,(h1 hT).le,(h1 hT).hi⟩⟩
   .exact h.elim
  .exact h.elim
 .exact h.elim
theorem S6(hc:A4 P cx){c:Call}(ho:o.op=.call c)(aR:c.callee=.builtin .append){x y:Operand}{t u e:Nat}{te ti:TI}(hx:c.args.toList=[x,y])(ht:c.argTypes.toList=[t,u])(aC:look t cx.tt=some ti)(hk:ti.k=.slice e)(hle:look e cx.tt=some te)
  {b s:SV} (hb:rd cx σ T x=some b) (hs:rd cx σ T y=some s) (h:Ra cx σ b s u e te K):∃r,K r/\Local P cx.gl σ T o r:=by
 unfold Ra at h
 split at h
 .rename_i nl n h' x' _ _ _ WZ
  split at h
  .rename_i e' n0 sz gr f hh
   split at h
   .rename_i oU
    simp only[QE,QO]at oU;obtain⟨⟨rfl,bC⟩,rfl⟩:=oU;rw[hc.D]at h;obtain⟨h1,h2⟩:=h;have h1:n.den=n0.den/\(n.den+(x'.length:Int)) * te.bytes<=140737488355328/\n.den+(x'.length:Int)<=9223372036854775807:=⟨h1.eq,h1.mem,h1.hi⟩
    let f':Nat->List SV:=λi=>if (i:Int)<n.den then f i else aQ x' ((i:Int)-n.den).toNat
    have k1:∀i:Nat,(i:Int)<n.den->f' i=f i:=λi hi=>by simp only[f'];rw[QC hi]
    have k2:∀i j:Nat,(i:Int)=n.den+j->(j:Int)<(x'.length:Int)->f' i=aQ x' j:=λi j hi _=>by
     simp only[f'];rw[QA (by omega)];congr 1;omega
    exact⟨_,h2 f' _ ⟨rfl,k1,k2⟩,Qk hc ho aR hx ht aC hk hle bC WZ rfl hb hh hs h1 rfl k1 k2⟩
   .exact h.elim
  .exact h.elim
 .exact h.elim
theorem Aar(hc:A4 P cx){c:Call}(ho:o.op=.call c)(aR:c.callee=.builtin .append){x y:Operand}{t e:Nat}{te ti:TI}(hx:c.args.toList=[x,y])(ht:c.argTypes.toList=[t,t])(aC:look t cx.tt=some ti)(hk:ti.k=.slice e)(hle:look e cx.tt=some te)(hz:0<te.size)
  {b s:SV} (hb:rd cx σ T x=some b) (hs:rd cx σ T y=some s) (h:Wf cx σ b s e te.size te.bytes K):∃r,K r/\Local P cx.gl σ T o r:=by
 unfold Wf at h
 split at h
 .rename_i m g aJ
  rw[hc.D]at h
  split at h
  .obtain⟨h1,h2⟩:=h
   exact⟨_,h2 g _ ⟨rfl,λ_ _=>rfl⟩,Ql hc ho aR hx ht aC hk hle rfl hz hb hs aJ ⟨h1.mem,h1.hi⟩ rfl λ_ _=>rfl⟩
  .rename_i nl n cH f hd
   split at h
   .rename_i e' n0 mJ hh
    split at h
    .rename_i oU
     simp only[QE,QO]at oU;obtain⟨⟨rfl,rfl⟩,rfl⟩:=oU;obtain⟨h1,h2⟩:=h;have h1:n.den=n0.den/\(n.den+m.den) * te.bytes<=140737488355328/\n.den+m.den<=9223372036854775807:=⟨h1.eq,h1.mem,h1.hi⟩
     let f':Nat->List SV:=λi=>if (i:Int)<n.den then f i else g ((i:Int)-n.den).toNat
     have k1:∀i:Nat,(i:Int)<n.den->f' i=f i:=λi hi=>by simp only[f'];rw[QC hi]
     have k2:∀i j:Nat,(i:Int)=n.den+j->(j:Int)<m.den->f' i=g j:=λi j hi _=>by
      simp only[f'];rw[QA (by omega)];congr 1;omega
     exact⟨_,h2 f' _ ⟨rfl,k1,k2⟩,O4 hc ho aR hx ht aC hk hle rfl hz hb hh hs aJ h1 rfl k1 k2⟩
    .exact h.elim
   .exact h.elim
  .rename_i nl n hd
   split at h
   .rename_i e' n0 mJ gr f hh
    split at h
    .rename_i oU
     simp only[QE,QO]at oU;obtain⟨rfl,rfl⟩:=oU;obtain⟨h1,h2⟩:=h;have h1:n.den=n0.den/\(n.den+m.den) * te.bytes<=140737488355328/\n.den+m.den<=9223372036854775807:=⟨h1.eq,h1.mem,h1.hi⟩
     let f':Nat->List SV:=λi=>if (i:Int)<n.den then f i else g ((i:Int)-n.den).toNat
     have k1:∀i:Nat,(i:Int)<n.den->f' i=f i:=λi hi=>by simp only[f'];rw[QC hi]
     have k2:∀i j:Nat,(i:Int)=n.den+j->(j:Int)<m.den->f' i=g j:=λi j hi _=>by
      simp only[f'];rw[QA (by omega)];congr 1;omega
     exact⟨_,h2 f' _ ⟨rfl,k1,k2⟩,O3 hc ho aR hx ht aC hk hle rfl hz hb hh hs aJ h1 rfl k1 k2⟩
    .exact h.elim
   .exact h.elim
  .rename_i nl n g0 hd
   split at h
   .rename_i e' n0 g1 mJ f hh
    split at h
    .rename_i oU
     simp only[QE,QO]at oU;obtain⟨rfl,rfl⟩:=oU;obtain⟨h1,h0,h2⟩:=h;have h1:n.den=n0.den/\(n.den+m.den) * te.bytes<=140737488355328/\n.den+m.den<=9223372036854775807:=⟨h1.eq,h1.mem,h1.hi⟩
     let f':Nat->List SV:=λi=>if (i:Int)<n.den then f i else g ((i:Int)-n.den).toNat
     have k1:∀i:Nat,(i:Int)<n.den->f' i=f i:=λi hi=>by simp only[f'];rw[QC hi]
     have k2:∀i j:Nat,(i:Int)=n.den+j->(j:Int)<m.den->f' i=g j:=λi j hi _=>by
      simp only[f'];rw[QA (by omega)];congr 1;omega
     exact⟨_,h2 f' _ ⟨rfl,k1,k2⟩ _ ⟨rfl⟩,Qj hc ho aR hx ht aC hk hle rfl hz hb hh hs aJ h1 h0.h rfl rfl k1 k2⟩
    .exact h.elim
   .exact h.elim
  .exact h.elim
 .exact h.elim
theorem Age(hc:A4 P cx){c:Call}(ho:o.op=.call c)(aR:c.callee=.builtin .copy){x y:Operand}{t t':Nat}(hx:c.args.toList=[x,y])(ht:c.argTypes.toList=[t,t']){d s:SV}(hd:rd cx σ T x=some d)(hs:rd cx σ T y=some s)(h:Tx cx σ T t d s K):∃r,K r/\Local P cx.gl σ T o r:=by
 unfold Tx at h
 split at h
 .rename_i e _ _ _ hd' hl
  split at h
  .rename_i ty n sz f mJ hh bC
   split at h
   .rename_i m g aJ HH
    have HH:mJ=sz:=by simpa using HH
    subst HH;rw[hc.D]at h
    let f':Nat->List SV:=λi=>if (i:Int)<min m.den n.den then g i else f i
    have k1:∀i:Nat,(i:Int)<min m.den n.den->f' i=g i:=λi hi=>by simp only[f'];rw[QC hi]
    have k2:∀i:Nat,min m.den n.den<=(i:Int)->(i:Int)<n.den->f' i=f i:=λi hi _=>by simp only[f'];rw[QA (by omega)]
    exact⟨_,h f' _ ⟨rfl,k1,k2⟩,Afl hc ho aR hx ht hl rfl hd hs hh bC aJ k1 k2⟩
   .exact h.elim
  .exact h.elim
 .exact h.elim
theorem S3(hc:A4 P cx){t:Nat}{x:Operand}(ho:o.op=.load t x){h j off n:Nat}(hv:rd cx σ T x=some (.cT h j off))(hn:size? cx t=some n)
  (hs:match nth σ.hp h with
   |some (.row _ m _ f)=>Ob cx.D σ.gm T (u6 j (cx.D.i m))/\
    if Nat.ble (off+n) (Ai (f j)) then
     match pack (cK cx t) (takeN n (Db off (f j))) with
     |some v=>K ⟨v,[],[h],[]⟩
     |none=>False
    else False
   |_=>False):∃r,K r/\Local P cx.gl σ T o r:=by
 split at hs
 .rename_i ty m sz f hh
  obtain⟨h1,h2⟩:=hs;rw[hc.D,Dm]at h1
  split at h2
  .rename_i hb
   split at h2
   .rename_i v hp
    rw[Ba,Bl]at hp;rw[Ag]at hb;exact⟨_,h2,Ss hc ho hv hn hh (λhT=>(h1 hT).h) (XK hb) hp⟩
   .exact h2.elim
  .exact h2.elim
 .exact hs.elim
theorem Px(hc:A4 P cx){t:Nat}{x y:Operand}(ho:o.op=.store t x y){h j off n:Nat}{v:SV}(hv:rd cx σ T x=some (.cT h j off))(hy:gb cx σ T t y=some v)(hn:size? cx t=some n)
  (hs:match nth σ.hp h with
   |some (.row ty m sz f)=>u6 j (cx.D.i m)/\
    if Ai v.cells==n&&Nat.ble (off+n) (Ai (f j))&&Es v.cells&&An (.agg (loose.aH (norm.aO cx.D v.cells))) then
     RY f j (Dd (f j) off (loose.aH (norm.aO cx.D v.cells))) λf'=>K ⟨.aI [],[.put h (.row ty m sz f')],[h],[]⟩
    else False
   |_=>False):∃r,K r/\Local P cx.gl σ T o r:=by
 split at hs
 .rename_i ty m sz f hh
  obtain⟨h1,h2⟩:=hs
  split at h2
  .rename_i hb
   simp only[QE,QO,Ag]at hb;rw[hc.D]at h1 h2 hb
   let f':Nat->List SV:=λi=>if i=j then Dd (f j) off (loose.aH (norm.aO dn v.cells)) else f i
   have k1:f' j=Dd (f j) off (loose.aH (norm.aO dn v.cells)):=by simp[f']
   have k2:∀i:Nat,i≠j->f' i=f i:=λi hi=>by simp[f',hi]
   exact⟨_,h2 f' ⟨k1,k2⟩,Qe hc ho hv hy hn hh h1.h hb.1.1.1 (XK hb.1.1.2) hb.1.2 hb.2 k1 k2⟩
  .exact h2.elim
 .exact hs.elim
theorem S2(hc:A4 P cx){t:Nat}{x:Operand}(ho:o.op=.load t x){h j off n:Nat}{m':ST}(hv:rd cx σ T x=some (.cN m' h j off))(hn:size? cx t=some n)
  (hs:match nth σ.hp h with
   |some (.own _ m _ _ f)=>Ob cx.D σ.gm T (oM (cx.D.i m') (cx.D.i m))/\Ob cx.D σ.gm T (u6 j (cx.D.i m))/\
    if Nat.ble (off+n) (Ai (f j)) then
     match pack (cK cx t) (takeN n (Db off (f j))) with
     |some v=>K ⟨v,[],[h],[]⟩
     |none=>False
    else False
   |_=>False):∃r,K r/\Local P cx.gl σ T o r:=by
 split at hs
 .rename_i ty m sz gr f hh
  obtain⟨h0,h1,h2⟩:=hs;rw[hc.D,Dm]at h0 h1
  split at h2
  .rename_i hb
   split at h2
   .rename_i v hp
    rw[Ba,Bl]at hp;rw[Ag]at hb;exact⟨_,h2,Sr hc ho hv hn hh (λhT=>(h0 hT).h) (λhT=>(h1 hT).h) (XK hb) hp⟩
   .exact h2.elim
  .exact h2.elim
 .exact hs.elim
theorem Pw(hc:A4 P cx){t:Nat}{x y:Operand}(ho:o.op=.store t x y){h j off n:Nat}{m':ST}{v:SV}(hT:T=[])(hv:rd cx σ T x=some (.cN m' h j off))(hy:gb cx σ T t y=some v)(hn:size? cx t=some n)
  (hs:match nth σ.hp h with
   |some (.own ty m sz gr f)=>oM (cx.D.i m') (cx.D.i m)/\u6 j (cx.D.i m)/\
    if Ai v.cells==n&&Nat.ble (off+n) (Ai (f j))&&Es v.cells&&An (.agg (loose.aH (norm.aO cx.D v.cells))) then
     RY f j (Dd (f j) off (loose.aH (norm.aO cx.D v.cells))) λf'=>K ⟨.aI [],[.put h (.own ty m sz gr f')],[h],[]⟩
    else False
   |_=>False):∃r,K r/\Local P cx.gl σ T o r:=by
 split at hs
 .rename_i ty m sz gr f hh
  obtain⟨h0,h1,h2⟩:=hs
  split at h2
  .rename_i hb
   simp only[QE,QO,Ag]at hb;rw[hc.D]at h0 h1 h2 hb
   let f':Nat->List SV:=λi=>if i=j then Dd (f j) off (loose.aH (norm.aO dn v.cells)) else f i
   have k1:f' j=Dd (f j) off (loose.aH (norm.aO dn v.cells)):=by simp[f']
   have k2:∀i:Nat,i≠j->f' i=f i:=λi hi=>by simp[f',hi]
   exact⟨_,h2 f' ⟨k1,k2⟩,Qd hc ho hv hy hn hh h0.h h1.h hb.1.1.1 (XK hb.1.1.2) hb.1.2 hb.2 (by subst hT;trivial) k1 k2⟩
  .exact h2.elim
 .exact hs.elim
theorem Aiu{n:Int}{f:Nat->List SV}{A:Prop}(h:A->Fz n f):∃r,SLe r n/\(A->Ky r n f):=by
 by_cases hA:A
 .obtain⟨r,hr⟩:=Gq (h hA)
  exact⟨r,⟨.inl (Int.le_of_eq hr.len)⟩,λ_=>hr⟩
 .exact⟨[],⟨.inr rfl⟩,λg=>absurd g hA⟩
theorem M3(hc:A4 P cx){src dst e:TypeId}{x:Operand}(ho:o.op=.convert src dst x){ts td:TI}(kT:look src cx.tt=some ts)(rG:ts.k=.slice e)(pY:look dst cx.tt=some td)(kF:td.k=.string)
  {nl:BT} {n:ST} {f:Nat->List SV} (hv:rd cx σ T x=some (.sl nl n 1 f)\/∃h,rd cx σ T x=some (.dO nl n 1 f h)) (h:S8 cx σ T e n f K):∃r,K r/\Local P cx.gl σ T o r:=by
 unfold S8 at h
 split at h
 .rename_i a b c hle
  rw[hc.D]at h;obtain⟨h1,h2⟩:=h;obtain⟨r,hr⟩:=Gq h1;exact⟨_,h2 r hr,Lx hc ho kT rG pY kF hle rfl hv λ_=>⟨h1,hr⟩⟩
 .rename_i a b c _ hle
  rw[hc.D]at h;obtain⟨h1,h2⟩:=h;rw[Dm]at h1;obtain⟨r,aa2,hr⟩:=Aiu h1;exact⟨_,h2 r aa2 ((Dm _ _ _).2 hr),Lx hc ho kT rG pY kF hle rfl hv λg=>⟨h1 g,hr g⟩⟩
 .exact h.elim
theorem Zc(hc:A4 P cx)(bU:E8 P cx.gl cx.eG)(h:Aeo cx σ T o K):∃r,K r/\Local P cx.gl σ T o r:=by
 unfold Aeo at h
 split at h
 .rename_i x ho;exact Un (.inl ho) h
 .rename_i x ho;exact Un (.inr ho) h
 .rename_i e ho
  split at h
  .rename_i ti hl
   split at h
   .split at h
    .rename_i n el hk
     split at h
     .rename_i cH _
      split at h
      .rename_i hb
       simp only[QE,QO]at hb;obtain⟨f,hf,h⟩:=h;exact⟨_,h,U0 hc ho hl hb.1 (XK hb.2) hf.h⟩
      .exact h.elim
     .exact h.elim
    .exact h.elim
   .exact⟨_,h,Acr hc ho hl⟩
  .exact h.elim
 .rename_i e x ho
  split at h
  .rename_i ti v hl hv
   split at h
   .rename_i hb
    simp only[QE]at hb;exact⟨_,h,Ajt ho hv hb.2⟩
   .exact h.elim
  .exact h.elim
 .rename_i t ps ho
  split at h
  .rename_i ti vs hl hv
   split at h
   .rename_i cs fs h1 hf hk
    exact⟨_,h,Rn hc ho hl hv h1 hf (.inl ⟨fs,hk⟩) (λe n jE=>by rw[hk]at jE;cases jE)⟩
   .rename_i cs n e h1 hf hk
    split at h
    .rename_i m hm
     exact⟨_,h,Rn hc ho hl hv h1 hf (.inr ⟨n,e,hk⟩) (λe' n' jE=>by rw[hk]at jE;cases jE;exact⟨m,hm⟩)⟩
    .exact h.elim
   .exact h.elim
  .exact h.elim
 .rename_i t x ho
  split at h
  .rename_i hd off n hv hn
   split at h
   .rename_i ty cs hh
    split at h
    .rename_i hb
     split at h
     .rename_i v hp
      rw[Ba,Bl]at hp;refine⟨_,h,Uw hc ho hv hn hh ?_ hp⟩;rw[Ag]at hb;exact XK hb
     .exact h.elim
    .exact h.elim
   .rename_i ty m sz f hh
    split at h
    .rename_i n' el cH _ _ hl
     split at h
     .rename_i he
      obtain⟨tN,rfl⟩:=he;obtain⟨hm,cs,hf,h⟩:=h;rw[hc.D]at hm hf;exact⟨_,h,Qg hc ho hl rfl rfl hv hh hm.h hf⟩
     .exact h.elim
    .exact h.elim
   .exact h.elim
  .rename_i cs n hv hn
   split at h
   .rename_i hb
    obtain⟨v,hp,h⟩:=Gi h;rw[Ba]at hp;refine⟨_,h,Sq hc ho hv hn ?_ hp⟩;rw[Ag]at hb;exact XK hb
   .exact h.elim
  .rename_i hd j off n hv hn
   exact S3 hc ho hv hn h
  .rename_i m' hd j off n hv hn
   exact S2 hc ho hv hn h
  .exact h.elim
 .rename_i t x y ho
  split at h
  .split at h
   .rename_i ty cs hh
    split at h
    .rename_i hb
     simp only[QE,QO,Ag]at hb;exact⟨_,h,Acm hc ho ‹_› ‹_› ‹_› hh hb.1.1 (XK hb.1.2) hb.2⟩
    .exact h.elim
   .rename_i ty m sz f hh
    split at h
    .split at h
     .rename_i he
      obtain⟨tN,rfl⟩:=he;obtain⟨hm,hp,f',hf,h⟩:=h;rw[hc.D]at hm hf;exact⟨_,h,Oz hc ho ‹look t cx.tt=_› rfl rfl ‹_› ‹_› hh hm.h hp.TB hp.plain hf⟩
     .exact h.elim
    .exact h.elim
   .exact h.elim
  .exact Px hc ho ‹_› ‹_› ‹_› h
  .exact Pw hc ho rfl ‹_› ‹_› ‹_› h
  .exact h.elim
 .rename_i t x i ho
  split at h
  .rename_i hd off fo ft hv hf
   split at h
   .rename_i m hn;exact⟨_,h,Mz hc ho hv hf hn⟩
   .exact h.elim
  .rename_i cs fo ft hv hf
   split at h
   .rename_i m hn
    split at h
    .rw[Ba,Bl]at h
     exact⟨_,h,Lu hc ho hv hf hn⟩
    .exact h.elim
   .exact h.elim
  .rename_i hd j off fo ft hv hf
   split at h
   .rename_i m hn;exact⟨_,h,Lw hc ho hv hf hn⟩
   .exact h.elim
  .rename_i n' hd j off fo ft hv hf
   split at h
   .rename_i m hn;exact⟨_,h,Lv hc ho hv hf hn⟩
   .exact h.elim
  .exact h.elim
 .rename_i x ho
  split at h
  .rename_i hd off hv;exact⟨_,h,Ek ho hv (.inl ⟨_,_,rfl⟩)⟩
  .rename_i cs hv;exact⟨_,h,Ek ho hv (.inr (.inl ⟨_,rfl⟩))⟩
  .rename_i hd j off hv;exact⟨_,h,Ek ho hv (.inr (.inr (.inl ⟨_,_,_,rfl⟩)))⟩
  .rename_i n hd j off hv;exact⟨_,h,Ek ho hv (.inr (.inr (.inr (.inr ⟨_,_,_,_,rfl⟩))))⟩
  .rename_i n sz f hv;exact⟨_,h,Ek ho hv (.inr (.inr (.inr (.inl ⟨_,_,_,rfl⟩))))⟩
  .exact h.elim
 .rename_i t x i ho
  split at h
  .rename_i cs fo ft hv hf
   split at h
   .rename_i m hn
    split at h
    .rename_i hb
     obtain⟨v,hp,h⟩:=Gi h;rw[Ba,Bl]at hp;rw[Ag]at hb;exact⟨_,h,Acp hc ho hv hf hn (XK hb) hp⟩
    .exact h.elim
   .exact h.elim
  .exact h.elim
 .rename_i t x y ho
  split at h
  .rename_i nl n sz f k i e a b c hv hi hl
   exact L5 hc ho (.inl hv) hi hl h
  .rename_i nl n sz f hd k i e a b c hv hi hl
   exact L5 hc ho (.inr ⟨hd,hv⟩) hi hl h
  .rename_i hd k i e a b c hv hi hl
   split at h
   .rename_i ty n sz f hh
    split at h
    .rename_i hs
     rw[hc.D]at h;obtain⟨h1,h2⟩:=h;rw[Dm]at h1;have h1:Bk (Ac σ.gm T)->0<=i.den/\i.den<n.den:=λhT=>⟨(h1 hT).lo,(h1 hT).hi⟩;refine⟨_,Mf h2 i.den.toNat ((Dm _ _ _).2 λhT=>?_),Sv hc hl rfl hs ho hv hh hi h1⟩;have:=(h1 hT).1;refine⟨?_⟩;show ((i.den.toNat:Nat):Int)=i.den;omega
    .exact h.elim
   .exact h.elim
  .rename_i nl m hd k i e a b c hv hi hl
   split at h
   .rename_i ty n sz gr f hh
    split at h
    .rename_i hs
     rw[hc.D]at h;obtain⟨h0,h1,h2⟩:=h;rw[Dm]at h0 h1;have h1:Bk (Ac σ.gm T)->0<=i.den/\i.den<n.den:=λhT=>⟨(h1 hT).lo,(h1 hT).hi⟩;refine⟨_,Mf h2 i.den.toNat ((Dm _ _ _).2 λhT=>?_),Sw hc hl rfl hs ho hv hh hi (λhT=>(h0 hT).h) h1⟩;have:=(h1 hT).1;refine⟨?_⟩;show ((i.den.toNat:Nat):Int)=i.den;omega
    .exact h.elim
   .exact h.elim
  .rename_i m hd k i e a b c hv hi hl
   split at h
   .rename_i sz hs
    exact Acv hc hl rfl hs ho hv hi h
   .exact h.elim
  .rename_i hd off k i n e a b c hv hi hl
   split at h
   .rename_i sz hs
    split at h
    .rename_i ty m cH f hh
     split at h
     .rename_i he
      have he:cH=sz:=by simpa using he
      subst he;rw[hc.D]at h;obtain⟨⟨h0,h1⟩,h2⟩:=h;have h0:0<=i.den:=h0;have h1:i.den<n:=h1;refine⟨_,Mf h2 i.den.toNat ((Dm _ _ _).2 λ_=>⟨?_⟩),Qh hc hl rfl hs ho hv hh hi h0 h1⟩;show ((i.den.toNat:Nat):Int)=i.den;omega
     .exact h.elim
    .exact Acw hc hl rfl hs ho hv hi h
   .exact h.elim
  .rename_i n sz f k i n' e a b c hv hi hl
   split at h
   .rename_i hs
    obtain⟨hs,rfl⟩:=hs;rw[hc.D]at h;obtain⟨h1,h2⟩:=h;rw[Dm]at h1;have h1:Bk (Ac σ.gm T)->0<=i.den/\i.den<n:=λhT=>⟨(h1 hT).lo,(h1 hT).hi⟩;refine⟨_,Mf h2 i.den.toNat ((Dm _ _ _).2 λhT=>?_),Sz hc hl rfl hs ho hv hi h1⟩;have:=(h1 hT).1;refine⟨?_⟩;show ((i.den.toNat:Nat):Int)=i.den;omega
   .exact h.elim
  .exact h.elim
 .rename_i f fi cs ho
  split at h
  .rename_i vs oF hv;exact⟨_,h,Uv ho oF hv⟩
  .rename_i cY _
   split at h
   .rename_i us hv;exact⟨_,h,W2 ho cY hv⟩
   .exact h.elim
  .exact h.elim
 .rename_i t len ps ho;exact Q8 hc ho h
 .rename_i t l c ho
  split at h
  .rename_i a b ha hb;exact Afi hc ho ha hb h
  .exact h.elim
 .rename_i t x lo hi ho
  split at h
  .rename_i v a b hv ha hb;exact Abe hc ho hv ha hb h
  .exact h.elim
 .rename_i t x ix ho
  split at h
  .rename_i s k i _ _ _ hv hi hl
   rw[hc.D]at h;obtain⟨h1,h2⟩:=h;rw[Dm]at h1;exact⟨_,h2 _ ⟨rfl⟩,Su hc hl rfl ho hv hi λhT=>⟨(h1 hT).lo,(h1 hT).hi⟩⟩
  .rename_i cs k q n e _ _ _ hv hi hl
   split at h
   .rename_i sz hn
    split at h
    .rename_i hb
     simp only[QE]at hb;obtain⟨v,hp,h⟩:=Gi h;rw[Ba,Bl]at hp;exact⟨_,h,S0 hc hl rfl ho hv hi hn (by simpa using hb.1) (by rw[<-Ag];exact XK hb.2) hp⟩
    .exact h.elim
   .exact h.elim
  .exact h.elim
 .rename_i t r ho
  split at h
  .rename_i kt vt _ _ _ hl hr
   split at h
   .exact⟨_,h,Lt hc ho hl rfl hr _ (.inl rfl)⟩
   .exact⟨_,h,Lt hc ho hl rfl hr _ (.inr rfl)⟩
   .exact h.elim
  .exact h.elim
 .rename_i t m k x ho
  split at h
  .rename_i kt vt _ _ _ h0 s b hl hm hk hx
   split at h
   .rename_i F qO _ hh
    exact⟨_,h _ ⟨λk=>rfl⟩,K6 hc (.inl ho) hl rfl qO rfl hm hk hx hh ⟨λk=>by rw[hc.D];rfl⟩⟩
   .exact h.elim
  .rename_i kt vt _ _ _ h0 n v hl hm hk hx
   split at h
   .rename_i es qO hh
    split at h
    .rename_i hn;exact⟨_,h,Jt hc (.inl ho) hl rfl qO rfl hm hk hx hh hn⟩
    .exact h.elim
   .exact h.elim
  .exact h.elim
 .rename_i t m k x ho
  split at h
  .rename_i kt vt _ _ _ h0 s b hl hm hk hx
   split at h
   .rename_i F qO _ hh
    exact⟨_,h _ ⟨λk=>rfl⟩,K6 hc (.inr ho) hl rfl qO rfl hm hk hx hh ⟨λk=>by rw[hc.D];rfl⟩⟩
   .exact h.elim
  .rename_i kt vt _ _ _ h0 n v hl hm hk hx
   split at h
   .rename_i es qO hh
    split at h
    .rename_i hn;exact⟨_,h,Jt hc (.inr ho) hl rfl qO rfl hm hk hx hh hn⟩
    .exact h.elim
   .exact h.elim
  .exact h.elim
 .rename_i t m k ho
  split at h
  .rename_i kt vt _ _ _ h0 s hl hm hk
   split at h
   .rename_i F qO WY hh
    exact⟨_,h,Zv hc ho hl rfl qO rfl WY rfl rfl hm hk hh⟩
   .exact h.elim
  .rename_i kt vt _ _ _ h0 n hl hm hk
   split at h
   .rename_i es qO hh
    rw[hc.D]at h;exact W1 hc ho hl rfl qO rfl hm hk hh h.1 h.2 rfl
   .exact h.elim
  .exact h.elim
 .rename_i x i ho
  split at h
  .rename_i vs hv
   obtain⟨v,hp,h⟩:=Gi h;exact⟨_,h,W8 ho hv hp⟩
  .exact h.elim
 .rename_i op t x ho
  split at h
  .rename_i b hv;exact⟨_,h,Ajo ho hv⟩
  .rename_i k n hv;exact⟨_,h,Ajq ho hv⟩
  .exact h.elim
 .rename_i op t x y u ho
  split at h
  .rename_i a w hx hy;exact Wu hc ho hx hy h
  .rename_i a b _ hx hy;exact Wv hc ho hx hy h
  .exact h.elim
 .rename_i src dst x ho
  split at h
  .rename_i k' n k a b c tj hv hl mV;exact⟨_,h,Afm hc ho hl mV rfl hv⟩
  .rename_i s e a b c a' b' c' hv hl mV
   split at h
   .rename_i a'' b'' c'' hle
    rw[hc.D]at h
    split at h
    .split at h
     .obtain⟨h1,h2⟩:=h
      exact⟨_,h2 _ ⟨rfl⟩,Zt hc ho mV rfl hl rfl hle rfl hv h1.h⟩
     .exact h.elim
    .obtain⟨h1,h2⟩:=h
     rw[Dm]at h1;exact⟨_,h2 _ ⟨rfl⟩,Uu hc ho mV rfl hl rfl hle rfl hv λhT=>(h1 hT).h⟩
   .exact h.elim
  .rename_i nl n f a b c e a' b' c' hv hl mV
   exact M3 hc ho mV rfl hl rfl (.inl hv) h
  .rename_i nl n f hd a b c e a' b' c' hv hl mV
   exact M3 hc ho mV rfl hl rfl (.inr ⟨hd,hv⟩) h
  .rename_i n hd e a b c e' a' b' c' hv hl mV
   split at h
   .rename_i a'' b'' c'' ty n0 f hle hh
    split at h
    .rename_i hb
     simp only[QE,QO]at hb;obtain⟨⟨rfl,rfl⟩,rfl⟩:=hb;rw[hc.D]at h;exact⟨_,h.2,W9 hc ho hl rfl hle rfl hv hh h.1.h⟩
    .exact h.elim
   .exact h.elim
  .rename_i nl n hd a b c e a' b' c' hv hl mV
   split at h
   .rename_i a'' b'' c'' ty n0 gr f hle hh
    rw[hc.D]at h;obtain⟨h0,h1,h2⟩:=h;obtain⟨r,hr⟩:=Gq h1;exact⟨_,h2 r hr,Zu hc ho mV rfl hl rfl hle rfl hv hh h0.h ⟨h1,hr⟩⟩
   .exact h.elim
  .rename_i nl n g hd a b c e a' b' c' hv hl mV
   split at h
   .rename_i a'' b'' c'' ty n0 g0 f hle hh
    rw[hc.D]at h;obtain⟨h0,h1,h2,h3⟩:=h;obtain⟨r,hr⟩:=Gq h2;exact⟨_,h3 r hr,Zs hc ho mV rfl hl rfl hle rfl hv hh h0.h h1.h ⟨h2,hr⟩⟩
   .exact h.elim
  .exact h.elim
 .rename_i c ho
  split at h
  .rename_i aR
   split at h
   .rename_i x t hx ht
    split at h
    .rename_i nl n sz f e a b c hv hl;exact⟨_,h,O1 hc ho aR hx ht hl rfl (.inl hv)⟩
    .rename_i nl n sz f hd e a b c hv hl;exact⟨_,h,O1 hc ho aR hx ht hl rfl (.inr ⟨hd,hv⟩)⟩
    .rename_i nl n hd e a b c hv hl;exact⟨_,h,W6 hc ho aR hx ht hl rfl hv⟩
    .rename_i nl n g0 hd e a b c hv hl;exact⟨_,h,W3 hc ho aR hx ht hl rfl hv⟩
    .rename_i n hd e a b c hv hl;exact⟨_,h,W7 hc ho aR hx ht hl rfl hv⟩
    .rename_i s a b c hv hl;exact⟨_,h,W4 hc ho aR hx ht hl rfl hv⟩
    .rename_i hd e a b c hv hl
     split at h
     .rename_i ty n sz f hh;exact⟨_,h,W5 hc ho aR hx ht hl rfl hv hh⟩
     .exact h.elim
    .exact h.elim
   .exact h.elim
  .rename_i aR
   split at h
   .rename_i x y t t' hx ht
    split at h
    .rename_i b s e _ _ _ hb hs hl
     split at h
     .rename_i te hle
      split at h
      .rename_i dE
       simp only[QE,QO,ZG]at dE;obtain⟨rfl,hz⟩:=dE;exact Aar hc ho aR hx ht hl rfl hle hz hb hs h
      .exact S6 hc ho aR hx ht hl rfl hle hb hs h
     .exact h.elim
    .exact h.elim
   .exact h.elim
  .rename_i aR
   split at h
   .rename_i x t hx ht
    split at h
    .rename_i n aa hd e _ _ _ hv hl
     split at h
     .rename_i e' n0 sz gr f te hh hle
      split at h
      .rename_i oU
       simp only[QE,QO]at oU;obtain⟨⟨rfl,bC⟩,gP⟩:=oU;rw[hc.D]at h;obtain⟨h0,h3⟩:=h
       let f':Nat->List SV:=λi=>if (i:Int)<aa.den then f i else te.zero
       have q1:∀i:Nat,(i:Int)<aa.den->f' i=f i:=λi hi=>by simp only[f'];rw[QC hi]
       have q2:∀i:Nat,aa.den<=(i:Int)->f' i=te.zero:=λi hi=>by simp only[f'];rw[QA (by omega)]
       exact⟨_,h3 f' ⟨q1,q2⟩,S1 hc ho aR hx ht hl rfl hle bC hv hh h0.h gP q1 q2 trivial⟩
      .exact h.elim
     .exact h.elim
    .exact h.elim
   .exact h.elim
  .rename_i aR
   split at h
   .rename_i x y t t' hx ht
    split at h
    .rename_i d s hd hs;exact Age hc ho aR hx ht hd hs h
    .exact h.elim
   .exact h.elim
  .rename_i aR
   split at h
   .rename_i x y hx
    split at h
    .rename_i k a k' b ha hb
     split at h
     .rename_i e
      subst e;rw[hc.D]at h;exact⟨_,h _ ⟨rfl⟩,Ajs ho aR hx ha hb⟩
     .exact h.elim
    .exact h.elim
   .exact h.elim
  .rename_i aR
   split at h
   .rename_i x y hx
    split at h
    .rename_i k a k' b ha hb
     split at h
     .rename_i e
      subst e;rw[hc.D]at h;exact⟨_,h _ ⟨rfl⟩,Ajr ho aR hx ha hb⟩
     .exact h.elim
    .exact h.elim
   .exact h.elim
  .rename_i f aR
   split at h
   .rename_i vs hv;exact Fq hc bU (Adk ho aR hv) h
   .exact h.elim
  .rename_i sl aR
   split at h
   .rename_i vs f hv hs
    refine Fq hc bU (λhg=>?_) h;have:=Sd (cs:=[]) ho aR hv (.inr ⟨rfl,hs⟩) hg
    rwa [YT]at this
   .rename_i vs f cs hv hs
    exact Fq hc bU (Sd ho aR hv (.inl hs)) h
   .rename_i vs f us hv hs
    exact Fq hc bU (Agb ho aR hv hs) h
   .exact h.elim
  .exact h.elim
 .exact h.elim
end
structure tS(σ:Sy):Prop where
 tg:∀s g,Ax σ.fr s=some g->∀i∈g.tg,i<σ.gm.length
 gt:∀s g i,Ax σ.fr s=some g->g.gt=some i->∃c,g.v=.bool c/\nth σ.gm i=some c
 gf:∀s g i,Ax σ.fr s=some g->g.gf=some i->∃c,g.v=.bool c/\nth σ.gm i=some (.not c)
theorem Hp{gm:List BT}{c:BT}:∀ {T:List Nat},(∀i∈T,i<gm.length)->Ac (gm++[c]) T=Ac gm T
 | [],_=>rfl
 |i :: T,h=>by
  have h1:=Hp (gm:=gm) (c:=c) (T:=T) λj hj=>h j (XC _ hj);have h2:nth (gm++[c]) i=nth gm i:=by rw[Aj,Aj,QM (h i (XB ..))]
  simp only[Ac,ZX,h2]at *;rw[h1]
theorem B9{α:Type}(fr:List (Option α))(d s:Nat)(g:Option α):Ax (Ay fr d g) s=if s=d/\d<fr.length then g else Ax fr s:=by
 rw[Eh,Eh,Av,ZF]
 by_cases e:d=s
 .subst e
  by_cases h:d<fr.length<;>simp[h]
 .rw[QA e,QA (λh=>e h.1.symm)]
section
variable {P:Program} {cx:Cx}
theorem Ahb{a:Act}{d:Nat}{v:Value}(h:a.tmps.size<=d):a.put (some d) v=a:=by
 obtain⟨t,ds⟩:=a;simp only[Act.put]at *;congr 1;exact Array.setIfInBounds_eq_of_size_le h
theorem St.cP{B:Bs}{N:Nat}{E:Env}{a:Act}{w:World}{σ:Sy}{hf:Nat->Hl}(st:St B N E a w (Bf σ) hf)(hN:σ.fr.length=N)(d:Option Nat)(v:Value)(g:Option G)
  (hg:∀g',g=some g'->(Bk (Ac σ.gm g'.tg)->Rel E w g'.v v)/\(¬Bk (Ac σ.gm g'.tg)->v=undef)) (mA:List Hl):St B N E (a.put d v) w (Bf ⟨cP σ.fr d g,mA,σ.gm⟩) hf:=by
 have key:∀k,d=some k->k<N->St B N E (a.put d v) w (Bf ⟨Sx.cP σ.fr d g,mA,σ.gm⟩) hf:=by
  intro k hk aC;have:=st.put d v (g.map λg=>(Ac σ.gm g.tg,g.v)) (λcs s e=>by
   cases g with
   |none=>cases e
   |some g'=>simp only[QQ,Option.some.injEq,Prod.mk.injEq]at e;obtain⟨rfl,rfl⟩:=e;exact hg g' rfl) (λj hj=>by rw[hk]at hj;cases hj;exact aC)
  have e:CE (Bf σ) d (g.map λg=>(Ac σ.gm g.tg,g.v))=Bf ⟨Sx.cP σ.fr d g,mA,σ.gm⟩:=by
   subst hk
   funext s;simp only[CE,aU,Bf,Sx.cP,B9]
   by_cases e:s=k
   .subst e;simp[hN,aC]
   .simp[e]
  rw[e]at this;exact this
 cases d with
 |none=>exact st
 |some k =>
  by_cases aC:k<N
  .exact key k rfl aC
  .rw[Ahb (by rw[st.size];omega)]
   have e:Bf ⟨Sx.cP σ.fr (some k) g,mA,σ.gm⟩=Bf σ:=by
    funext s;simp only[Bf,Sx.cP,B9];rw[QA (λh=>aC (by rw[<-hN];exact h.2))]
   rw[e];exact st
theorem Qr{hp:List Hl}{h:Nat}{hl:Hl}(hle:h<=hp.length):Aq (EE hp h hl)=aU (Aq hp) h hl:=by
 funext k;unfold EE;rw[Ag]
 by_cases e:h=hp.length
 .subst e
  simp only[beq_self_eq_true,if_true,Aq,Aj,aU]
  by_cases e2:k=hp.length
  .subst e2;simp
  .rw[QA e2]
   by_cases e3:k<hp.length
   .rw[QM e3]
   .rw[QY (by simp;omega),QY (by omega)]
 .have:(h==hp.length)=false:=by simpa using e
  simp only[this,XE,if_false,Aq,Aj,Av,aU,ZF]
  by_cases e2:h=k
  .subst e2;rw[QC rfl,QC rfl,QC (by omega)];rfl
  .rw[QA e2,QA (λh=>e2 h.symm)]
theorem J0:∀(es:List Ef) (hp:List Hl),Jr hp es=true->Aq (L7 hp es)=H8 (Aq hp) es
 | [],hp,_=>rfl
 |.set h off vs :: es,hp,ho=>by
  simp only[Jr]at ho;show Aq (L7 (gx hp (.set h off vs)) es)=H8 (fg (Aq hp) (.set h off vs)) es;rw[J0 es _ ho];congr 1;simp only[gx,fg];cases hn:nth hp h with
  |none=>simp[Aq,hn]
  |some hl =>
   rw[Bv hn];cases hl<;>try rfl
   rename_i ty cs
   funext k;have aC:h<hp.length:=by rw[Aj]at hn;exact (List.getElem?_eq_some_iff.1 hn).1
   simp only[Aq,Aj,Av,aU,ZF]
   by_cases e2:h=k
   .subst e2;rw[QC rfl,QC rfl,QC aC];rfl
   .rw[QA e2,QA (λh=>e2 h.symm)]
 |.put h hl :: es,hp,ho=>by
  simp only[Jr,QE,Ag]at ho;show Aq (L7 (gx hp (.put h hl)) es)=H8 (fg (Aq hp) (.put h hl)) es;rw[J0 es _ ho.2];congr 1;exact Qr (XK ho.1)
theorem Hm{all:List Oper}{ops:Array Oper}(jD:ops.toList=all){σ aL:Sy}{T:List Nat}{o:Oper}(h:guardOf all σ o.guard=some (some (aL,T)))(wf:tS σ):
  tS aL/\Bf aL=Bf σ/\aL.hp=σ.hp/\aL.fr.length=σ.fr.length/\(∀i∈T,i<aL.gm.length)/\(∃x,aL.gm=σ.gm++x)/\
  (∀(i:Nat),Ax aL.fr i=none↔Ax σ.fr i=none)/\
  ∀(B:Bs) (N:Nat) (E:Env) (a:Act) (w:World) (ff:Nat->SG) (hf:Nat->Hl),St B N E a w ff hf->(∀j want s,o.guard=some (j,want)->(nth all j).bind (·.dst)=some s->ff s=Bf σ s)->(Region.wanted o (yielded ops a.tmps)=true↔Bk (Ac aL.gm T)):=by
 unfold guardOf at h
 split at h
 .rename_i hg
  simp only[Option.some.injEq,Prod.mk.injEq]at h;obtain⟨rfl,rfl⟩:=h;exact⟨wf,rfl,rfl,rfl,by simp,⟨[],by simp⟩,λ_=>Iff.rfl,λB N E a w ff hf _ _=>by simp[Region.wanted,hg,Ac,Bk]⟩
 .rename_i j want hg
  split at h
  .rename_i oj hj
   split at h
   .rename_i s hs
    have bE:∀(B:Bs) (N:Nat) (E:Env) (a:Act) (w:World) (ff:Nat->SG) (hf:Nat->Hl) (tg:List Nat) (gt gf:Option Nat) (c:BT),Ax σ.fr s=some ⟨tg,gt,gf,.bool c⟩->St B N E a w ff hf->(∀j want s,o.guard=some (j,want)->(nth all j).bind (·.dst)=some s->ff s=Bf σ s)->
      (Region.wanted o (yielded ops a.tmps)=true↔(Bk (Ac σ.gm tg)/\c.den=want)):=by
     intro B N E a w ff hf tg gt gf c jF st fC;have fC:=fC j want s hg (by rw[hj];exact hs);have yf:=st.slot s;rw[fC,Bf,jF]at yf;simp only[QQ,Bn]at yf;obtain⟨h1,h2,h3⟩:=yf;have dc:ops[j]?=some oj:=by rw[<-QZ,jD,<-Aj];exact hj
     have hv:a.tmps[s]?=some (a.tmps.getD s undef):=by simp[Array.getD,h1]
     simp only[Region.wanted,hg,yielded,dc,ZV,hs];rw[hv]
     by_cases hT:Bk (Ac σ.gm tg)
     .rw[(h2 hT).bJ]
      simp[hT]
     .rw[h3 hT]
      simp[undef,hT]
    split at h
    .rename_i tg gt gf b jF
     split at h
     .rename_i hb
      simp only[Option.some.injEq,Prod.mk.injEq]at h;obtain⟨rfl,rfl⟩:=h;refine⟨wf,rfl,rfl,rfl,wf.tg s _ jF,⟨[],by simp⟩,λ_=>Iff.rfl,λB N E a w ff hf st fC=>?_⟩;rw[bE B N E a w ff hf _ _ _ _ jF st fC];have:b=want:=by simpa using hb
      simp[BT.den,this]
     .cases h
    .rename_i tg gt gf c _ jF
     have dY:∀(i:Nat) (c':BT),nth σ.gm i=some c'->(c'.den=true↔c.den=want)->σ=aL->T=i :: tg->(tS aL/\Bf aL=Bf σ/\aL.hp=σ.hp/\aL.fr.length=σ.fr.length/\(∀i∈T,i<aL.gm.length)/\(∃x,aL.gm=σ.gm++x)/\(∀(i:Nat),Ax aL.fr i=none↔Ax σ.fr i=none)/\
       ∀(B:Bs) (N:Nat) (E:Env) (a:Act) (w:World) (ff:Nat->SG) (hf:Nat->Hl),St B N E a w ff hf->(∀j want s,o.guard=some (j,want)->(nth all j).bind (·.dst)=some s->ff s=Bf σ s)->(Region.wanted o (yielded ops a.tmps)=true↔Bk (Ac aL.gm T))):=by
      intro i c' hi hc e1 e2;subst e1 e2;refine⟨wf,rfl,rfl,rfl,λk hk=>?_,⟨[],by simp⟩,λ_=>Iff.rfl,λB N E a w ff hf st fC=>?_⟩
      .rcases List.mem_cons.1 hk with rfl|hk
       .rw[Aj]at hi;exact (List.getElem?_eq_some_iff.1 hi).1
       .exact wf.tg s _ jF k hk
      .rw[bE B N E a w ff hf _ _ _ _ jF st fC]
       simp only[Ac,ZX,hi,Bk];rw[hc];exact And.comm
     have new:∀(c':BT) (g':G),(c'.den=true↔c.den=want)->g'.tg=tg->g'.v=.bool c->(∀i,g'.gt=some i->(gt=some i)\/(i=σ.gm.length/\c'=c))->(∀i,g'.gf=some i->(gf=some i)\/(i=σ.gm.length/\c'=.not c))->aL=⟨Ay σ.fr s (some g'),σ.hp,σ.gm++[c']⟩->T=Ai σ.gm :: tg->
       (tS aL/\Bf aL=Bf σ/\aL.hp=σ.hp/\aL.fr.length=σ.fr.length/\(∀i∈T,i<aL.gm.length)/\(∃x,aL.gm=σ.gm++x)/\(∀(i:Nat),Ax aL.fr i=none↔Ax σ.fr i=none)/\
       ∀(B:Bs) (N:Nat) (E:Env) (a:Act) (w:World) (ff:Nat->SG) (hf:Nat->Hl),St B N E a w ff hf->(∀j want s,o.guard=some (j,want)->(nth all j).bind (·.dst)=some s->ff s=Bf σ s)->(Region.wanted o (yielded ops a.tmps)=true↔Bk (Ac aL.gm T))):=by
      intro c' g' hc e1 e2 e3 e4 e5 e6;subst e5 e6;have xC:∀i b,nth σ.gm i=some b->nth (σ.gm++[c']) i=some b:=λi b hb=>by
       rw[Aj]at hb ⊢;rw[QM (List.getElem?_eq_some_iff.1 hb).1];exact hb
      have dm:nth (σ.gm++[c']) σ.gm.length=some c':=by rw[Aj];simp
      refine⟨⟨λk g hk i hi=>?_,λk g i hk hi=>?_,λk g i hk hi=>?_⟩,?_,rfl,by simp[Av],λk hk=>?_,⟨[c'],rfl⟩,λk=>?_,λB N E a w ff hf st fC=>?_⟩
      .rw[B9]at hk
       split at hk
       .cases hk;rw[e1]at hi;have:=wf.tg s _ jF i hi;simp;omega
       .have:=wf.tg k g hk i hi;simp;omega
      .rw[B9]at hk
       split at hk
       .cases hk
        rcases e3 i hi with h|⟨rfl,rfl⟩
        .obtain⟨c2,q1,q2⟩:=wf.gt s _ i jF h
         exact⟨c2,by rw[e2];exact q1,xC _ _ q2⟩
        .exact⟨_,e2,dm⟩
       .obtain⟨c2,q1,q2⟩:=wf.gt k g i hk hi
        exact⟨c2,q1,xC _ _ q2⟩
      .rw[B9]at hk
       split at hk
       .cases hk
        rcases e4 i hi with h|⟨rfl,rfl⟩
        .obtain⟨c2,q1,q2⟩:=wf.gf s _ i jF h
         exact⟨c2,by rw[e2];exact q1,xC _ _ q2⟩
        .exact⟨_,e2,dm⟩
       .obtain⟨c2,q1,q2⟩:=wf.gf k g i hk hi
        exact⟨c2,q1,xC _ _ q2⟩
      .funext k
       simp only[Bf,B9]
       split
       .rename_i e
        rw[e.1,jF];simp only[QQ,e1,e2,Hp (wf.tg s _ jF)]
       .cases hk:Ax σ.fr k with
        |none=>rfl
        |some g=>simp only[QQ,Hp (wf.tg k g hk)]
      .rw[Ag]at hk
       rcases List.mem_cons.1 hk with rfl|hk
       .simp
       .have:=wf.tg s _ jF k hk;simp;omega
      .simp only[B9]
       split
       .rename_i e;rw[e.1,jF];simp
       .rfl
      .rw[bE B N E a w ff hf _ _ _ _ jF st fC]
       simp only[Ac,ZX,Ag,dm,Bk];have:=Hp (c:=c') (wf.tg s _ jF);simp only[Ac]at this;rw[this,hc];exact And.comm
     split at h
     .rename_i hw
      subst hw
      split at h
      .rename_i _ i
       simp only[Option.some.injEq,Prod.mk.injEq]at h;obtain⟨c2,q1,q2⟩:=wf.gt s _ i jF rfl;cases q1;exact dY i c q2 Iff.rfl h.1 h.2.symm
      .simp only[Option.some.injEq,Prod.mk.injEq]at h
       refine new c _ Iff.rfl rfl rfl (λi h=>?_) (λi h=>.inl h) h.1.symm h.2.symm;simp only[Option.some.injEq]at h;exact .inr ⟨by rw[<-h,Ag],rfl⟩
     .rename_i hw
      have hw:want=false:=by simpa using hw
      subst hw
      split at h
      .rename_i _ i
       simp only[Option.some.injEq,Prod.mk.injEq]at h;obtain⟨c2,q1,q2⟩:=wf.gf s _ i jF rfl;cases q1;exact dY i (.not c) q2 (by simp[BT.den]) h.1 h.2.symm
      .simp only[Option.some.injEq,Prod.mk.injEq]at h
       refine new (.not c) _ (by simp[BT.den]) rfl rfl (λi h=>.inl h) (λi h=>?_) h.1.symm h.2.symm;simp only[Option.some.injEq]at h;exact .inr ⟨by rw[<-h,Ag],rfl⟩
    .cases h
   .cases h
  .cases h
theorem O8{all:List Oper}{ops:Array Oper}(jD:ops.toList=all){σ:Sy}{o:Oper}(h:guardOf all σ o.guard=some none){B:Bs}{N:Nat}{E:Env}{a:Act}{w:World}{ff:Nat->SG}{hf:Nat->Hl}(st:St B N E a w ff hf)
  (fC:∀j want s,o.guard=some (j,want)->(nth all j).bind (·.dst)=some s->ff s=Bf σ s):Region.wanted o (yielded ops a.tmps)=false:=by
 unfold guardOf at h
 split at h
 .cases h
 .rename_i j want hg
  split at h
  .rename_i oj hj
   split at h
   .rename_i s hs
    split at h
    .rename_i tg gt gf b jF
     split at h
     .cases h
     .rename_i hb
      have fC:=fC j want s hg (by rw[hj];exact hs);have yf:=st.slot s;rw[fC,Bf,jF]at yf;simp only[QQ,Bn]at yf;obtain⟨h1,h2,h3⟩:=yf;have dc:ops[j]?=some oj:=by rw[<-QZ,jD,<-Aj];exact hj
      have hv:a.tmps[s]?=some (a.tmps.getD s undef):=by simp[Array.getD,h1]
      simp only[Region.wanted,hg,yielded,dc,ZV,hs];rw[hv]
      by_cases hT:Bk (Ac σ.gm tg)
      .rw[(h2 hT).bJ]
       simpa[BT.den] using hb
      .rw[h3 hT]
       simp[undef]
    .split at h<;>split at h<;>simp at h
    .cases h
   .cases h
  .cases h
end
end Go.Sx
