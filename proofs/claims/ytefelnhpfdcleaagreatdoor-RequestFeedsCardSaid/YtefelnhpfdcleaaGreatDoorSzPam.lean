/- Part of the proofs of the statements about requests (layer 7): a symbolic executor over the code, that it is sound, and contracts of functions; it has no conditions of its own. -/
import Derived.Test.YtefelnhpfdcleaaGreatDoorSzPak
import Derived.Test.YtefelnhpfdcleaaGreatDoorSzPal
namespace Go.Sx
open Go
section
variable {P : Program} {cx : Cx} {σ : Sy} {T : List Nat} {o : Oper} {K : Out→Prop}
theorem V2 {x : Operand} (ho : o.op = .move x∨o.op = .assign x)
  (h : U5 cx σ T o.type x K) : ∃ r,K r∧Aw P cx.gl σ T o r:=by
 unfold U5 at h
 split at h
 ·split at h
  ·split at h
   ·exact ⟨_,h,Aja ho⟩
   ·exact h.elim
  ·exact h.elim
 ·obtain ⟨v,hv,h⟩:=Gs h
  exact ⟨_,h,Afv ho hv⟩
theorem Na {D : Dn} {gm : List BT} {T : List Nat} {i : Int} {K : Nat→Prop} (h : allJ D gm T i K) (j : Nat) (hj : Ob D gm T (IsJ j i)) : K j:=by
 unfold allJ at h
 split at h
 ·exact h j hj
 ·exact h j hj
theorem My (hc : A5 P cx) {t e sz : Nat} {x y : Operand} (ho : o.op = .indexAddr t x y) {nl : BT} {n : ST} {f : Nat→List SV} {k : IntKind} {i : ST} {a b : Nat} {c : List SV}
  (hv : rd cx σ T x = some (.sl nl n sz f)∨∃ h,rd cx σ T x = some (.gsl nl n sz f h)) (hi : rd cx σ T y = some (.int k i)) (hl : look t cx.tt = some ⟨.slice e,a,b,c⟩)
  (h : if size? cx e = some sz then Ob cx.D σ.gm T (InB (cx.D.i i) (cx.D.i n))∧allJ cx.D σ.gm T (cx.D.i i) fun j=>out K (.rptr (f j)) else False) : ∃ r,K r∧Aw P cx.gl σ T o r:=by
 split at h
 ·rename_i hs
  rw [hc.D] at h
  obtain ⟨h1,h2⟩:=h
  rw [Dj] at h1
  have h1 : Bk (Ac σ.gm T)→0≤i.den∧i.den < n.den:=fun hT=>⟨(h1 hT).lo,(h1 hT).hi⟩
  refine ⟨_,Na h2 i.den.toNat ((Dj _ _ _).2 fun hT=>?_),We hc hl rfl hs ho hv hi h1⟩
  have:=(h1 hT).1
  refine ⟨?_⟩
  show ((i.den.toNat : Nat) : Int) = i.den
  omega
 ·exact h.elim
theorem Lp (hc : A5 P cx) {t e sz n : Nat} {ti : TI} (hl : look t cx.tt = some ti) (hk : ti.k = .array n e) (hn : size? cx e = some sz) {x y : Operand} (ho : o.op = .indexAddr t x y) {h off : Nat} {k : IntKind} {i : ST}
  (hv : rd cx σ T x = some (.ptr h off)) (hi : rd cx σ T y = some (.int k i)) {j : Nat} (hj : i.den = (j : Int)) (hjn : j < n) : Aw P cx.gl σ T o ⟨.ptr h (off + j * sz),[],[],[]⟩:=by
 intro B N E a w ff hf' hg st ag agh hT
 obtain ⟨b,hb,hx⟩:=(Ab hv hg st (An ag (by simp [ho,Op.operands])) hT).ptr_inv
 have hy:=(Ab hi hg st (An ag (by simp [ho,Op.operands])) hT).int_inv
 refine Ad st (v:=.pointer (some ⟨b,off + j * sz,none⟩)) ?_ rfl (.ptr hb rfl)
 have hu:=(hc.ti hl).array hk
 obtain ⟨te,hte,hsz⟩:=size?_ti hn
 have hS:=(hc.ti hte).sizeOf w
 simp [execOp,ho,hx,hy,hj,Instr.indexAt,run_underlying hu,asIntOf,hjn,hS,hsz,Instr.sureAddr,add_lit]
theorem U9 {F : Nat→Prop} {i : Int} : ∀ (n j : Nat),Aey i F n j→∀ k : Nat,i = (k : Int)→j≤k→k < j + n→F k
 | 0,j,_,k,_,h1,h2=>by omega
 | n + 1,j,h,k,hk,h1,h2=>by
  rcases Nat.eq_or_lt_of_le h1 with e | e
  ·subst e; exact h.1 ⟨hk.symm⟩
  ·exact U9 n (j + 1) h.2 k hk e (by omega)
theorem ixT_den (cx : Cx) (i : ST) : (ixT cx i).den = i.den:=by
 unfold ixT
 split
 ·split<;>rfl
 ·rfl
theorem Add (hc : A5 P cx) {t e sz n : Nat} {ti : TI} (hl : look t cx.tt = some ti) (hk : ti.k = .array n e) (hn : size? cx e = some sz) {x y : Operand} (ho : o.op = .indexAddr t x y) {h off : Nat} {k : IntKind} {i : ST}
  (hv : rd cx σ T x = some (.ptr h off)) (hi : rd cx σ T y = some (.int k i)) (hs : Q7 cx T h off n sz i K) : ∃ r,K r∧Aw P cx.gl σ T o r:=by
 unfold Q7 at hs
 split at hs
 ·rename_i q hq
  split at hs
  ·rename_i hb
   have hq2 : i.den = (q : Int):=by rw [←ixT_den cx i,hq]; rfl
   exact ⟨_,hs,Lp hc hl hk hn ho hv hi (j:=q) hq2 (by simpa using hb)⟩
  ·exact hs.elim
 ·split at hs
  ·rw [hc.D] at hs
   obtain ⟨⟨h0,h1⟩,h2⟩:=hs
   have h0 : 0≤i.den:=h0
   have h1 : i.den < n:=h1
   have hq : i.den = ((i.den.toNat : Nat) : Int):=by omega
   exact ⟨_,U9 n 0 h2 i.den.toNat hq (Nat.zero_le _) (by omega),Lp hc hl hk hn ho hv hi hq (by omega)⟩
  ·exact hs.elim
theorem Ajd {c : Call} (ho : o.op = .call c) (hcal : c.callee = .builtin .max) {x y : Operand} (hx : c.args.toList = [x,y]) {k : IntKind} {s t : ST} (h1 : rd cx σ T x = some (.int k s)) (h2 : rd cx σ T y = some (.int k t)) :
  Aw P cx.gl σ T o ⟨.int k (.a (max s.den t.den)),[],[],[]⟩:=by
 intro B N E a w ff hf' hg st ag agh hT
 have mx : x∈o.op.operands.toList:=by simp [ho,Op.operands,Call.operands,hcal,hx]
 have my : y∈o.op.operands.toList:=by simp [ho,Op.operands,Call.operands,hcal,hx]
 have e1 : c.args = #[x,y]:=Array.ext' (by simpa using hx)
 have hrx:=(Ab h1 hg st (An ag mx) hT).int_inv
 have hry:=(Ab h2 hg st (An ag my) hT).int_inv
 refine Ad st (v:=.int k (if t.den > s.den then t.den else s.den)) ?_ rfl (.int ?_)
 ·simp [execOp,ho,resolve,hcal,e1,invoke,builtin,hrx,hry,Builtin.max_,Builtin.max2]
 ·simp only [ST.den]; split<;>omega
theorem Ajc {c : Call} (ho : o.op = .call c) (hcal : c.callee = .builtin .min) {x y : Operand} (hx : c.args.toList = [x,y]) {k : IntKind} {s t : ST} (h1 : rd cx σ T x = some (.int k s)) (h2 : rd cx σ T y = some (.int k t)) :
  Aw P cx.gl σ T o ⟨.int k (.a (min s.den t.den)),[],[],[]⟩:=by
 intro B N E a w ff hf' hg st ag agh hT
 have mx : x∈o.op.operands.toList:=by simp [ho,Op.operands,Call.operands,hcal,hx]
 have my : y∈o.op.operands.toList:=by simp [ho,Op.operands,Call.operands,hcal,hx]
 have e1 : c.args = #[x,y]:=Array.ext' (by simpa using hx)
 have hrx:=(Ab h1 hg st (An ag mx) hT).int_inv
 have hry:=(Ab h2 hg st (An ag my) hT).int_inv
 refine Ad st (v:=.int k (if t.den < s.den then t.den else s.den)) ?_ rfl (.int ?_)
 ·simp [execOp,ho,resolve,hcal,e1,invoke,builtin,hrx,hry,Builtin.min_,Builtin.min2]
 ·simp only [ST.den]; split<;>omega
theorem Ain : ∀ {x y : Operand},Jk x y = true→x = y
 | .tmp i,.tmp j,h=>by simp [Jk] at h; rw [h]
 | .tmp _,.const _,h=>by simp [Jk] at h
 | .tmp _,.global _,h=>by simp [Jk] at h
 | .tmp _,.func _,h=>by simp [Jk] at h
 | .const _,_,h=>by simp [Jk] at h
 | .global _,_,h=>by simp [Jk] at h
 | .func _,_,h=>by simp [Jk] at h
theorem Afu (hc : A5 P cx) {t : Nat} {x y : Operand} (ho : o.op = .makeSlice t x y) {a b : SV} (hx : rd cx σ T x = some a) (hy : rd cx σ T y = some b) (h : U6 cx σ T t a b (Jk x y) K) : ∃ r,K r∧Aw P cx.gl σ T o r:=by
 unfold U6 at h
 split at h
 ·rename_i e _ _ _ hl
  split at h
  ·rename_i te kc c hle
   split at h
   ·obtain ⟨h1,h2⟩:=h
    rw [hc.D] at h1
    exact ⟨_,h2,Ac6 hc ho hl rfl hle hx hy fun _=>⟨h1.lo,h1.mem,h1.hi⟩⟩
   ·exact h.elim
  ·rename_i te kn n kc c _ hle
   split at h
   ·rename_i hb
    simp only [Bool.and_eq_true,Nat.blt_eq] at hb
    obtain ⟨h1,h2⟩:=h
    rw [hc.D] at h1 h2
    exact ⟨_,h2,Ac5 hc ho hl rfl hle hx hy (Ain hb.1) hb.2 fun _=>⟨h1.lo,h1.mem,h1.hi⟩⟩
   ·exact h.elim
  ·exact h.elim
 ·exact h.elim
theorem Sp (hc : A5 P cx) {t len : Nat} {ps : Array (Nat×Operand)} (ho : o.op = .buildSlice t len ps) (h : Au cx σ T t len ps.toList K) : ∃ r,K r∧Aw P cx.gl σ T o r:=by
 unfold Au at h
 split at h
 ·rename_i e _ _ _ vs hl hvs
  split at h
  ·rename_i te hle
   split at h
   ·rename_i cs h1 hf
    split at h
    ·rename_i hb
     simp only [Bool.and_eq_true,Nat.blt_eq] at hb
     rw [hc.D] at h hb
     have h:=h (fun k=>Bh te.size (C2 (k * te.size) (loose.looseL (norm.normL dn cs)))) ⟨fun i r hr=>(Pd _ _ _ _ hr).symm⟩
     split at h
     ·exact ⟨_,h,Wf hc ho hl rfl hle hvs h1 hf hb.1.1 hb.1.2 (Nat.le_of_ble_eq_true hb.2)⟩
     ·exact ⟨_,h,Ru hc ho hl rfl hle hvs h1 hf hb.1.1 hb.1.2 (Nat.le_of_ble_eq_true hb.2)⟩
    ·exact h.elim
   ·exact h.elim
  ·exact h.elim
 ·exact h.elim
theorem Ab8 (hc : A5 P cx) {t : Nat} {x : Operand} {lo hi : Option Operand} (ho : o.op = .slice t x lo hi none) {v : SV} {sa sb : Option SV} (hv : rd cx σ T x = some v) (hlo : Ey cx σ T lo = some sa) (hhi : Ey cx σ T hi = some sb)
  (h : Jw cx σ T t v sa sb K) : ∃ r,K r∧Aw P cx.gl σ T o r:=by
 unfold Jw at h
 split at h
 ·rename_i p hp
  have row : ∀ (nl : BT) (n : ST) (sz : Nat) (f : Nat→List SV) (e a b : Nat) (c : List SV),look t cx.tt = some ⟨.slice e,a,b,c⟩→(rd cx σ T x = some (.sl nl n sz f)∨∃ h,rd cx σ T x = some (.gsl nl n sz f h))→
    Jw.onRow cx σ T sb K nl n sz f e p→∃ r,K r∧Aw P cx.gl σ T o r:=by
   intro nl n sz f e a b c hl hv h
   unfold Jw.onRow at h
   split at h
   ·rename_i q hq
    split at h
    ·rename_i hs
     rw [hc.D] at h
     obtain ⟨h1,h2⟩:=h
     rw [Dj] at h1
     have h1 : Bk (Ac σ.gm T)→0≤p.den∧p.den≤q.den∧q.den≤n.den:=fun hT=>⟨(h1 hT).lo,(h1 hT).le,(h1 hT).hi⟩
     have key : ∀ i j : Nat,(j : Int) = i + p.den→(fun i : Nat=>f ((i : Int) + p.den).toNat) i = f j:=fun i j hij=>by
      show f ((i : Int) + p.den).toNat = f j
      rw [←hij]; rfl
     exact ⟨_,h2 _ _ ⟨rfl,key⟩,Tv hc hl rfl hs ho hv hlo hhi hp hq h1 key⟩
    ·exact h.elim
   ·exact h.elim
  split at h
  ·rename_i nl n sz f e _ _ _ hl; exact row nl n sz f e _ _ _ hl (.inl hv) h
  ·rename_i nl n sz f hd e _ _ _ hl; exact row nl n sz f e _ _ _ hl (.inr ⟨hd,hv⟩) h
  ·rename_i nl n hd e _ _ _ hl
   split at h
   ·rename_i e' n0 sz gr f k b hh
    split at h
    ·rename_i hbq
     simp only [Bool.and_eq_true,beq_iff_eq] at hbq
     obtain ⟨rfl,hsome⟩:=hbq
     rw [hc.D] at h
     obtain ⟨h0,h2,h3⟩:=h
     obtain ⟨te,hle⟩:=Option.isSome_iff_exists.1 hsome
     exact ⟨_,h3,P8 hc hl rfl hle ho hv hh hlo hhi h0.h ⟨Int.le_trans h2.lo h2.le,h2.hi⟩ trivial⟩
    ·exact h.elim
   ·rename_i e' n0 sz gr f k b hh
    split at h
    ·rename_i hs
     rw [hc.D] at h
     obtain ⟨h0,h2,h3⟩:=h
     exact ⟨_,h3,Rr hc hl rfl hs ho hv hh hhi hlo h0.h ⟨h2.lo,h2.le⟩⟩
    ·exact h.elim
   ·exact h.elim
  ·rename_i nl n g0 hd e _ _ _ hl
   split at h
   ·rename_i e' n0 g1 sz f k b hh
    split at h
    ·rename_i hbq
     simp only [Bool.and_eq_true,beq_iff_eq] at hbq
     obtain ⟨rfl,hsome⟩:=hbq
     rw [hc.D] at h
     obtain ⟨h0,h1,h2,h3⟩:=h
     obtain ⟨te,hle⟩:=Option.isSome_iff_exists.1 hsome
     exact ⟨_,h3 _ ⟨rfl⟩,Tt hc hl rfl hle ho hv hh hlo hhi h0.h h1.h ⟨Int.le_trans h2.lo h2.le,h2.hi⟩ rfl trivial⟩
    ·exact h.elim
   ·exact h.elim
  ·rename_i s _ _ _ hl
   split at h
   ·rename_i q hq
    rw [hc.D] at h
    obtain ⟨h1,h2⟩:=h
    rw [Dj] at h1
    exact ⟨_,h2 _ ⟨rfl⟩,Tu hc hl rfl ho hv hlo hhi hp hq fun hT=>⟨(h1 hT).lo,(h1 hT).le,(h1 hT).hi⟩⟩
   ·exact h.elim
  ·exact h.elim
 ·exact h.elim
theorem Abo (hc : A5 P cx) {c : Call} (ho : o.op = .call c) (hcal : c.callee = .builtin .append) {x y : Operand} {t e : Nat} {te ti : TI} (hx : c.args.toList = [x,y]) (ht : c.argTypes.toList = [t,t]) (hlt : look t cx.tt = some ti) (hk : ti.k = .slice e) (hle : look e cx.tt = some te) (hz : 0 < te.size)
  {b s : SV} (hb : rd cx σ T x = some b) (hs : rd cx σ T y = some s) (h : Xk cx σ b s e te.size te.bytes K) : ∃ r,K r∧Aw P cx.gl σ T o r:=by
 unfold Xk at h
 split at h
 ·rename_i m g hrow
  rw [hc.D] at h
  split at h
  ·obtain ⟨h1,h2⟩:=h
   exact ⟨_,h2 g _ ⟨rfl,fun _ _=>rfl⟩,Rw hc ho hcal hx ht hlt hk hle rfl hz hb hs hrow ⟨h1.mem,h1.hi⟩ rfl fun _ _=>rfl⟩
  ·rename_i nl n sz' f hd
   split at h
   ·rename_i e' n0 sz'' hh
    split at h
    ·rename_i hbq
     simp only [Bool.and_eq_true,beq_iff_eq] at hbq
     obtain ⟨⟨rfl,rfl⟩,rfl⟩:=hbq
     obtain ⟨h1,h2⟩:=h
     have h1 : n.den = n0.den∧(n.den + m.den) * te.bytes≤140737488355328∧n.den + m.den≤9223372036854775807:=⟨h1.eq,h1.mem,h1.hi⟩
     let f' : Nat→List SV:=fun i=>if (i : Int) < n.den then f i else g ((i : Int) - n.den).toNat
     have k1 : ∀ i : Nat,(i : Int) < n.den→f' i = f i:=fun i hi=>by simp only [f']; rw [if_pos hi]
     have k2 : ∀ i j : Nat,(i : Int) = n.den + j→(j : Int) < m.den→f' i = g j:=fun i j hi _=>by
      simp only [f']; rw [if_neg (by omega)]; congr 1; omega
     exact ⟨_,h2 f' _ ⟨rfl,k1,k2⟩,Qb hc ho hcal hx ht hlt hk hle rfl hz hb hh hs hrow h1 rfl k1 k2⟩
    ·exact h.elim
   ·exact h.elim
  ·rename_i nl n hd
   split at h
   ·rename_i e' n0 sz'' gr f hh
    split at h
    ·rename_i hbq
     simp only [Bool.and_eq_true,beq_iff_eq] at hbq
     obtain ⟨rfl,rfl⟩:=hbq
     obtain ⟨h1,h2⟩:=h
     have h1 : n.den = n0.den∧(n.den + m.den) * te.bytes≤140737488355328∧n.den + m.den≤9223372036854775807:=⟨h1.eq,h1.mem,h1.hi⟩
     let f' : Nat→List SV:=fun i=>if (i : Int) < n.den then f i else g ((i : Int) - n.den).toNat
     have k1 : ∀ i : Nat,(i : Int) < n.den→f' i = f i:=fun i hi=>by simp only [f']; rw [if_pos hi]
     have k2 : ∀ i j : Nat,(i : Int) = n.den + j→(j : Int) < m.den→f' i = g j:=fun i j hi _=>by
      simp only [f']; rw [if_neg (by omega)]; congr 1; omega
     exact ⟨_,h2 f' _ ⟨rfl,k1,k2⟩,Qa hc ho hcal hx ht hlt hk hle rfl hz hb hh hs hrow h1 rfl k1 k2⟩
    ·exact h.elim
   ·exact h.elim
  ·rename_i nl n g0 hd
   split at h
   ·rename_i e' n0 g1 sz'' f hh
    split at h
    ·rename_i hbq
     simp only [Bool.and_eq_true,beq_iff_eq] at hbq
     obtain ⟨rfl,rfl⟩:=hbq
     obtain ⟨h1,h0,h2⟩:=h
     have h1 : n.den = n0.den∧(n.den + m.den) * te.bytes≤140737488355328∧n.den + m.den≤9223372036854775807:=⟨h1.eq,h1.mem,h1.hi⟩
     let f' : Nat→List SV:=fun i=>if (i : Int) < n.den then f i else g ((i : Int) - n.den).toNat
     have k1 : ∀ i : Nat,(i : Int) < n.den→f' i = f i:=fun i hi=>by simp only [f']; rw [if_pos hi]
     have k2 : ∀ i j : Nat,(i : Int) = n.den + j→(j : Int) < m.den→f' i = g j:=fun i j hi _=>by
      simp only [f']; rw [if_neg (by omega)]; congr 1; omega
     exact ⟨_,h2 f' _ ⟨rfl,k1,k2⟩ _ ⟨rfl⟩,Rv hc ho hcal hx ht hlt hk hle rfl hz hb hh hs hrow h1 h0.h rfl rfl k1 k2⟩
    ·exact h.elim
   ·exact h.elim
  ·exact h.elim
 ·exact h.elim
theorem Agi (hc : A5 P cx) {c : Call} (ho : o.op = .call c) (hcal : c.callee = .builtin .copy) {x y : Operand} {t t' : Nat} (hx : c.args.toList = [x,y]) (ht : c.argTypes.toList = [t,t']) {d s : SV} (hd : rd cx σ T x = some d) (hs : rd cx σ T y = some s) (h : U7 cx σ T t d s K) : ∃ r,K r∧Aw P cx.gl σ T o r:=by
 unfold U7 at h
 split at h
 ·rename_i e _ _ _ hd' hl
  split at h
  ·rename_i ty n sz f sz'' hh hsz
   split at h
   ·rename_i m g hrow hzz
    have hzz : sz'' = sz:=by simpa using hzz
    subst hzz
    rw [hc.D] at h
    let f' : Nat→List SV:=fun i=>if (i : Int) < min m.den n.den then g i else f i
    have k1 : ∀ i : Nat,(i : Int) < min m.den n.den→f' i = g i:=fun i hi=>by simp only [f']; rw [if_pos hi]
    have k2 : ∀ i : Nat,min m.den n.den≤(i : Int)→(i : Int) < n.den→f' i = f i:=fun i hi _=>by simp only [f']; rw [if_neg (by omega)]
    exact ⟨_,h f' _ ⟨rfl,k1,k2⟩,Afw hc ho hcal hx ht hl rfl hd hs hh hsz hrow k1 k2⟩
   ·exact h.elim
  ·exact h.elim
 ·exact h.elim
theorem T8 (hc : A5 P cx) {t : Nat} {x : Operand} (ho : o.op = .load t x) {h j off n : Nat} (hv : rd cx σ T x = some (.mptr h j off)) (hn : size? cx t = some n)
  (hs : match nth σ.hp h with
   | some (.row _ m _ f)=>Ob cx.D σ.gm T (LtB j (cx.D.i m))∧
    if Nat.ble (off + n) (Ag (f j)) then
     match Lw (isAgg? cx t) (Bh n (C2 off (f j))) with
     | some v=>K ⟨v,[],[h],[]⟩
     | none=>False
    else False
   | _=>False) : ∃ r,K r∧Aw P cx.gl σ T o r:=by
 split at hs
 ·rename_i ty m sz f hh
  obtain ⟨h1,h2⟩:=hs
  rw [hc.D,Dj] at h1
  split at h2
  ·rename_i hb
   split at h2
   ·rename_i v hp
    rw [A6,Bl] at hp
    rw [Af] at hb
    exact ⟨_,h2,Ty hc ho hv hn hh (fun hT=>(h1 hT).h) (Nat.le_of_ble_eq_true hb) hp⟩
   ·exact h2.elim
  ·exact h2.elim
 ·exact hs.elim
theorem Q6 (hc : A5 P cx) {t : Nat} {x y : Operand} (ho : o.op = .store t x y) {h j off n : Nat} {v : SV} (hv : rd cx σ T x = some (.mptr h j off)) (hy : rdT cx σ T t y = some v) (hn : size? cx t = some n)
  (hs : match nth σ.hp h with
   | some (.row ty m sz f)=>LtB j (cx.D.i m)∧
    if Ag v.cells == n && Nat.ble (off + n) (Ag (f j)) && Ez v.cells && Ap (.agg (loose.looseL (norm.normL cx.D v.cells))) then
     Abr f j (C7 (f j) off (loose.looseL (norm.normL cx.D v.cells))) fun f'=>K ⟨.tup [],[.put h (.row ty m sz f')],[h],[]⟩
    else False
   | _=>False) : ∃ r,K r∧Aw P cx.gl σ T o r:=by
 split at hs
 ·rename_i ty m sz f hh
  obtain ⟨h1,h2⟩:=hs
  split at h2
  ·rename_i hb
   simp only [Bool.and_eq_true,beq_iff_eq,Af] at hb
   rw [hc.D] at h1 h2 hb
   let f' : Nat→List SV:=fun i=>if i = j then C7 (f j) off (loose.looseL (norm.normL dn v.cells)) else f i
   have k1 : f' j = C7 (f j) off (loose.looseL (norm.normL dn v.cells)):=by simp [f']
   have k2 : ∀ i : Nat,i≠j→f' i = f i:=fun i hi=>by simp [f',hi]
   exact ⟨_,h2 f' ⟨k1,k2⟩,Ro hc ho hv hy hn hh h1.h hb.1.1.1 (Nat.le_of_ble_eq_true hb.1.1.2) hb.1.2 hb.2 k1 k2⟩
  ·exact h2.elim
 ·exact hs.elim
theorem T6 (hc : A5 P cx) {t : Nat} {x : Operand} (ho : o.op = .load t x) {h j off n : Nat} {m' : ST} (hv : rd cx σ T x = some (.optr m' h j off)) (hn : size? cx t = some n)
  (hs : match nth σ.hp h with
   | some (.own _ m _ _ f)=>Ob cx.D σ.gm T (EqN (cx.D.i m') (cx.D.i m))∧Ob cx.D σ.gm T (LtB j (cx.D.i m))∧
    if Nat.ble (off + n) (Ag (f j)) then
     match Lw (isAgg? cx t) (Bh n (C2 off (f j))) with
     | some v=>K ⟨v,[],[h],[]⟩
     | none=>False
    else False
   | _=>False) : ∃ r,K r∧Aw P cx.gl σ T o r:=by
 split at hs
 ·rename_i ty m sz gr f hh
  obtain ⟨h0,h1,h2⟩:=hs
  rw [hc.D,Dj] at h0 h1
  split at h2
  ·rename_i hb
   split at h2
   ·rename_i v hp
    rw [A6,Bl] at hp
    rw [Af] at hb
    exact ⟨_,h2,Tx hc ho hv hn hh (fun hT=>(h0 hT).h) (fun hT=>(h1 hT).h) (Nat.le_of_ble_eq_true hb) hp⟩
   ·exact h2.elim
  ·exact h2.elim
 ·exact hs.elim
theorem Q5 (hc : A5 P cx) {t : Nat} {x y : Operand} (ho : o.op = .store t x y) {h j off n : Nat} {m' : ST} {v : SV} (hT : T = []) (hv : rd cx σ T x = some (.optr m' h j off)) (hy : rdT cx σ T t y = some v) (hn : size? cx t = some n)
  (hs : match nth σ.hp h with
   | some (.own ty m sz gr f)=>EqN (cx.D.i m') (cx.D.i m)∧LtB j (cx.D.i m)∧
    if Ag v.cells == n && Nat.ble (off + n) (Ag (f j)) && Ez v.cells && Ap (.agg (loose.looseL (norm.normL cx.D v.cells))) then
     Abr f j (C7 (f j) off (loose.looseL (norm.normL cx.D v.cells))) fun f'=>K ⟨.tup [],[.put h (.own ty m sz gr f')],[h],[]⟩
    else False
   | _=>False) : ∃ r,K r∧Aw P cx.gl σ T o r:=by
 split at hs
 ·rename_i ty m sz gr f hh
  obtain ⟨h0,h1,h2⟩:=hs
  split at h2
  ·rename_i hb
   simp only [Bool.and_eq_true,beq_iff_eq,Af] at hb
   rw [hc.D] at h0 h1 h2 hb
   let f' : Nat→List SV:=fun i=>if i = j then C7 (f j) off (loose.looseL (norm.normL dn v.cells)) else f i
   have k1 : f' j = C7 (f j) off (loose.looseL (norm.normL dn v.cells)):=by simp [f']
   have k2 : ∀ i : Nat,i≠j→f' i = f i:=fun i hi=>by simp [f',hi]
   exact ⟨_,h2 f' ⟨k1,k2⟩,Rn hc ho hv hy hn hh h0.h h1.h hb.1.1.1 (Nat.le_of_ble_eq_true hb.1.1.2) hb.1.2 hb.2 (by subst hT; trivial) k1 k2⟩
  ·exact h2.elim
 ·exact hs.elim
theorem Aif {n : Int} {f : Nat→List SV} {A : Prop} (h : A→H6 n f) : ∃ r,SLe r n∧(A→Li r n f):=by
 by_cases hA : A
 ·obtain ⟨r,hr⟩:=Jh (h hA)
  exact ⟨r,⟨.inl (Int.le_of_eq hr.len)⟩,fun _=>hr⟩
 ·exact ⟨[],⟨.inr rfl⟩,fun g=>absurd g hA⟩
theorem N1 (hc : A5 P cx) {src dst e : TypeId} {x : Operand} (ho : o.op = .convert src dst x) {ts td : TI} (hls : look src cx.tt = some ts) (hks : ts.k = .slice e) (hld : look dst cx.tt = some td) (hkd : td.k = .string)
  {nl : BT} {n : ST} {f : Nat→List SV} (hv : rd cx σ T x = some (.sl nl n 1 f)∨∃ h,rd cx σ T x = some (.gsl nl n 1 f h)) (h : Uf cx σ T e n f K) : ∃ r,K r∧Aw P cx.gl σ T o r:=by
 unfold Uf at h
 split at h
 ·rename_i a b c hle
  rw [hc.D] at h
  obtain ⟨h1,h2⟩:=h
  obtain ⟨r,hr⟩:=Jh h1
  exact ⟨_,h2 r hr,Mq hc ho hls hks hld hkd hle rfl hv fun _=>⟨h1,hr⟩⟩
 ·rename_i a b c _ hle
  rw [hc.D] at h
  obtain ⟨h1,h2⟩:=h
  rw [Dj] at h1
  obtain ⟨r,hle2,hr⟩:=Aif h1
  exact ⟨_,h2 r hle2 ((Dj _ _ _).2 hr),Mq hc ho hls hks hld hkd hle rfl hv fun g=>⟨h1 g,hr g⟩⟩
 ·exact h.elim
theorem Aai (hc : A5 P cx) (htab : E9 P cx.gl cx.tab) (h : Aew cx σ T o K) : ∃ r,K r∧Aw P cx.gl σ T o r:=by
 unfold Aew at h
 split at h
 ·rename_i x ho; exact V2 (.inl ho) h
 ·rename_i x ho; exact V2 (.inr ho) h
 ·rename_i e ho
  split at h
  ·rename_i ti hl
   split at h
   ·split at h
    ·rename_i n el hk
     split at h
     ·rename_i sz' _
      split at h
      ·rename_i hb
       simp only [Bool.and_eq_true,beq_iff_eq] at hb
       obtain ⟨f,hf,h⟩:=h
       exact ⟨_,h,Wg hc ho hl hb.1 (Nat.le_of_ble_eq_true hb.2) hf.h⟩
      ·exact h.elim
     ·exact h.elim
    ·exact h.elim
   ·exact ⟨_,h,Ac9 hc ho hl⟩
  ·exact h.elim
 ·rename_i e x ho
  split at h
  ·rename_i ti v hl hv
   split at h
   ·rename_i hb
    simp only [Bool.and_eq_true] at hb
    exact ⟨_,h,Aje ho hv hb.2⟩
   ·exact h.elim
  ·exact h.elim
 ·rename_i t ps ho
  split at h
  ·rename_i ti vs hl hv
   split at h
   ·rename_i cs fs h1 hf hk
    exact ⟨_,h,Td hc ho hl hv h1 hf (.inl ⟨fs,hk⟩) (fun e n hk'=>by rw [hk] at hk'; cases hk')⟩
   ·rename_i cs n e h1 hf hk
    split at h
    ·rename_i m hm
     exact ⟨_,h,Td hc ho hl hv h1 hf (.inr ⟨n,e,hk⟩) (fun e' n' hk'=>by rw [hk] at hk'; cases hk'; exact ⟨m,hm⟩)⟩
    ·exact h.elim
   ·exact h.elim
  ·exact h.elim
 ·rename_i t x ho
  split at h
  ·rename_i hd off n hv hn
   split at h
   ·rename_i ty cs hh
    split at h
    ·rename_i hb
     split at h
     ·rename_i v hp
      rw [A6,Bl] at hp
      refine ⟨_,h,Wd hc ho hv hn hh ?_ hp⟩
      rw [Af] at hb
      exact Nat.le_of_ble_eq_true hb
     ·exact h.elim
    ·exact h.elim
   ·rename_i ty m sz f hh
    split at h
    ·rename_i n' el sz' _ _ hl
     split at h
     ·rename_i he
      obtain ⟨he1,rfl⟩:=he
      obtain ⟨hm,cs,hf,h⟩:=h
      rw [hc.D] at hm hf
      exact ⟨_,h,Rs hc ho hl rfl rfl hv hh hm.h hf⟩
     ·exact h.elim
    ·exact h.elim
   ·exact h.elim
  ·rename_i cs n hv hn
   split at h
   ·rename_i hb
    obtain ⟨v,hp,h⟩:=Gs h
    rw [A6] at hp
    refine ⟨_,h,Tw hc ho hv hn ?_ hp⟩
    rw [Af] at hb
    exact Nat.le_of_ble_eq_true hb
   ·exact h.elim
  ·rename_i hd j off n hv hn
   exact T8 hc ho hv hn h
  ·rename_i m' hd j off n hv hn
   exact T6 hc ho hv hn h
  ·exact h.elim
 ·rename_i t x y ho
  split at h
  ·split at h
   ·rename_i ty cs hh
    split at h
    ·rename_i hb
     simp only [Bool.and_eq_true,beq_iff_eq,Af] at hb
     exact ⟨_,h,Ac4 hc ho ‹_› ‹_› ‹_› hh hb.1.1 (Nat.le_of_ble_eq_true hb.1.2) hb.2⟩
    ·exact h.elim
   ·rename_i ty m sz f hh
    split at h
    ·split at h
     ·rename_i he
      obtain ⟨he1,rfl⟩:=he
      obtain ⟨hm,hp,f',hf,h⟩:=h
      rw [hc.D] at hm hf
      exact ⟨_,h,P7 hc ho ‹look t cx.tt = _› rfl rfl ‹_› ‹_› hh hm.h hp.ones hp.plain hf⟩
     ·exact h.elim
    ·exact h.elim
   ·exact h.elim
  ·exact Q6 hc ho ‹_› ‹_› ‹_› h
  ·exact Q5 hc ho rfl ‹_› ‹_› ‹_› h
  ·exact h.elim
 ·rename_i t x i ho
  split at h
  ·rename_i hd off fo ft hv hf
   split at h
   ·rename_i m hn; exact ⟨_,h,Nv hc ho hv hf hn⟩
   ·exact h.elim
  ·rename_i cs fo ft hv hf
   split at h
   ·rename_i m hn
    split at h
    ·rw [A6,Bl] at h
     exact ⟨_,h,Mn hc ho hv hf hn⟩
    ·exact h.elim
   ·exact h.elim
  ·rename_i hd j off fo ft hv hf
   split at h
   ·rename_i m hn; exact ⟨_,h,Mp hc ho hv hf hn⟩
   ·exact h.elim
  ·rename_i n' hd j off fo ft hv hf
   split at h
   ·rename_i m hn; exact ⟨_,h,Mo hc ho hv hf hn⟩
   ·exact h.elim
  ·exact h.elim
 ·rename_i x ho
  split at h
  ·rename_i hd off hv; exact ⟨_,h,Em ho hv (.inl ⟨_,_,rfl⟩)⟩
  ·rename_i cs hv; exact ⟨_,h,Em ho hv (.inr (.inl ⟨_,rfl⟩))⟩
  ·rename_i hd j off hv; exact ⟨_,h,Em ho hv (.inr (.inr (.inl ⟨_,_,_,rfl⟩)))⟩
  ·rename_i n hd j off hv; exact ⟨_,h,Em ho hv (.inr (.inr (.inr (.inr ⟨_,_,_,_,rfl⟩))))⟩
  ·rename_i n sz f hv; exact ⟨_,h,Em ho hv (.inr (.inr (.inr (.inl ⟨_,_,_,rfl⟩))))⟩
  ·exact h.elim
 ·rename_i t x i ho
  split at h
  ·rename_i cs fo ft hv hf
   split at h
   ·rename_i m hn
    split at h
    ·rename_i hb
     obtain ⟨v,hp,h⟩:=Gs h
     rw [A6,Bl] at hp
     rw [Af] at hb
     exact ⟨_,h,Ac7 hc ho hv hf hn (Nat.le_of_ble_eq_true hb) hp⟩
    ·exact h.elim
   ·exact h.elim
  ·exact h.elim
 ·rename_i t x y ho
  split at h
  ·rename_i nl n sz f k i e a b c hv hi hl
   exact My hc ho (.inl hv) hi hl h
  ·rename_i nl n sz f hd k i e a b c hv hi hl
   exact My hc ho (.inr ⟨hd,hv⟩) hi hl h
  ·rename_i hd k i e a b c hv hi hl
   split at h
   ·rename_i ty n sz f hh
    split at h
    ·rename_i hs
     rw [hc.D] at h
     obtain ⟨h1,h2⟩:=h
     rw [Dj] at h1
     have h1 : Bk (Ac σ.gm T)→0≤i.den∧i.den < n.den:=fun hT=>⟨(h1 hT).lo,(h1 hT).hi⟩
     refine ⟨_,Na h2 i.den.toNat ((Dj _ _ _).2 fun hT=>?_),T0 hc hl rfl hs ho hv hh hi h1⟩
     have:=(h1 hT).1
     refine ⟨?_⟩
     show ((i.den.toNat : Nat) : Int) = i.den
     omega
    ·exact h.elim
   ·exact h.elim
  ·rename_i nl m hd k i e a b c hv hi hl
   split at h
   ·rename_i ty n sz gr f hh
    split at h
    ·rename_i hs
     rw [hc.D] at h
     obtain ⟨h0,h1,h2⟩:=h
     rw [Dj] at h0 h1
     have h1 : Bk (Ac σ.gm T)→0≤i.den∧i.den < n.den:=fun hT=>⟨(h1 hT).lo,(h1 hT).hi⟩
     refine ⟨_,Na h2 i.den.toNat ((Dj _ _ _).2 fun hT=>?_),T1 hc hl rfl hs ho hv hh hi (fun hT=>(h0 hT).h) h1⟩
     have:=(h1 hT).1
     refine ⟨?_⟩
     show ((i.den.toNat : Nat) : Int) = i.den
     omega
    ·exact h.elim
   ·exact h.elim
  ·rename_i hd off k i n e a b c hv hi hl
   split at h
   ·rename_i sz hs
    split at h
    ·rename_i ty m sz' f hh
     split at h
     ·rename_i he
      have he : sz' = sz:=by simpa using he
      subst he
      rw [hc.D] at h
      obtain ⟨⟨h0,h1⟩,h2⟩:=h
      have h0 : 0≤i.den:=h0
      have h1 : i.den < n:=h1
      refine ⟨_,Na h2 i.den.toNat ((Dj _ _ _).2 fun _=>⟨?_⟩),Rt hc hl rfl hs ho hv hh hi h0 h1⟩
      show ((i.den.toNat : Nat) : Int) = i.den
      omega
     ·exact h.elim
    ·exact Add hc hl rfl hs ho hv hi h
   ·exact h.elim
  ·rename_i n sz f k i n' e a b c hv hi hl
   split at h
   ·rename_i hs
    obtain ⟨hs,rfl⟩:=hs
    rw [hc.D] at h
    obtain ⟨h1,h2⟩:=h
    rw [Dj] at h1
    have h1 : Bk (Ac σ.gm T)→0≤i.den∧i.den < n:=fun hT=>⟨(h1 hT).lo,(h1 hT).hi⟩
    refine ⟨_,Na h2 i.den.toNat ((Dj _ _ _).2 fun hT=>?_),T3 hc hl rfl hs ho hv hi h1⟩
    have:=(h1 hT).1
    refine ⟨?_⟩
    show ((i.den.toNat : Nat) : Int) = i.den
    omega
   ·exact h.elim
  ·exact h.elim
 ·rename_i f fi cs ho
  split at h
  ·rename_i vs hfi hv; exact ⟨_,h,Wc ho hfi hv⟩
  ·exact h.elim
 ·rename_i t len ps ho; exact Sp hc ho h
 ·rename_i t l c ho
  split at h
  ·rename_i a b ha hb; exact Afu hc ho ha hb h
  ·exact h.elim
 ·rename_i t x lo hi ho
  split at h
  ·rename_i v a b hv ha hb; exact Ab8 hc ho hv ha hb h
  ·exact h.elim
 ·rename_i t x ix ho
  split at h
  ·rename_i s k i _ _ _ hv hi hl
   rw [hc.D] at h
   obtain ⟨h1,h2⟩:=h
   rw [Dj] at h1
   exact ⟨_,h2 _ ⟨rfl⟩,Tz hc hl rfl ho hv hi fun hT=>⟨(h1 hT).lo,(h1 hT).hi⟩⟩
  ·rename_i cs k q n e _ _ _ hv hi hl
   split at h
   ·rename_i sz hn
    split at h
    ·rename_i hb
     simp only [Bool.and_eq_true] at hb
     obtain ⟨v,hp,h⟩:=Gs h
     rw [A6,Bl] at hp
     exact ⟨_,h,T4 hc hl rfl ho hv hi hn (by simpa using hb.1) (by rw [←Af]; exact Nat.le_of_ble_eq_true hb.2) hp⟩
    ·exact h.elim
   ·exact h.elim
  ·exact h.elim
 ·rename_i t ho
  split at h
  ·exact ⟨_,h,X8 ho⟩
  ·exact h.elim
 ·rename_i t m k x ho
  split at h
  ·rename_i kt vt _ _ _ h0 s b hl hm hk hx
   split at h
   ·rename_i F hlk _ hh
    exact ⟨_,h _ ⟨fun k=>rfl⟩,Lo hc (.inl ho) hl rfl hlk rfl hm hk hx hh ⟨fun k=>by rw [hc.D]; rfl⟩⟩
   ·exact h.elim
  ·exact h.elim
 ·rename_i t m k x ho
  split at h
  ·rename_i kt vt _ _ _ h0 s b hl hm hk hx
   split at h
   ·rename_i F hlk _ hh
    exact ⟨_,h _ ⟨fun k=>rfl⟩,Lo hc (.inr ho) hl rfl hlk rfl hm hk hx hh ⟨fun k=>by rw [hc.D]; rfl⟩⟩
   ·exact h.elim
  ·exact h.elim
 ·rename_i t m k ho
  split at h
  ·rename_i kt vt _ _ _ h0 s hl hm hk
   split at h
   ·rename_i F hlk hlv hh
    exact ⟨_,h,Aa5 hc ho hl rfl hlk rfl hlv rfl rfl hm hk hh⟩
   ·exact h.elim
  ·exact h.elim
 ·rename_i x i ho
  split at h
  ·rename_i vs hv
   obtain ⟨v,hp,h⟩:=Gs h
   exact ⟨_,h,Yd ho hv hp⟩
  ·exact h.elim
 ·rename_i op t x ho
  split at h
  ·rename_i b hv; exact ⟨_,h,Ai9 ho hv⟩
  ·rename_i k n hv; exact ⟨_,h,Ajb ho hv⟩
  ·exact h.elim
 ·rename_i op t x y u ho
  split at h
  ·rename_i a w hx hy; exact Xy hc ho hx hy h
  ·rename_i a b _ hx hy; exact Xz hc ho hx hy h
  ·exact h.elim
 ·rename_i src dst x ho
  split at h
  ·rename_i k' n k a b c tj hv hl hl'; exact ⟨_,h,Afx hc ho hl hl' rfl hv⟩
  ·rename_i s e a b c a' b' c' hv hl hl'
   split at h
   ·rename_i a'' b'' c'' hle
    rw [hc.D] at h
    split at h
    ·split at h
     ·obtain ⟨h1,h2⟩:=h
      exact ⟨_,h2 _ ⟨rfl⟩,Aa3 hc ho hl' rfl hl rfl hle rfl hv h1.h⟩
     ·exact h.elim
    ·obtain ⟨h1,h2⟩:=h
     rw [Dj] at h1
     exact ⟨_,h2 _ ⟨rfl⟩,Wb hc ho hl' rfl hl rfl hle rfl hv fun hT=>(h1 hT).h⟩
   ·exact h.elim
  ·rename_i nl n f a b c e a' b' c' hv hl hl'
   exact N1 hc ho hl' rfl hl rfl (.inl hv) h
  ·rename_i nl n f hd a b c e a' b' c' hv hl hl'
   exact N1 hc ho hl' rfl hl rfl (.inr ⟨hd,hv⟩) h
  ·rename_i n hd e a b c e' a' b' c' hv hl hl'
   split at h
   ·rename_i a'' b'' c'' ty n0 f hle hh
    split at h
    ·rename_i hb
     simp only [Bool.and_eq_true,beq_iff_eq] at hb
     obtain ⟨⟨rfl,rfl⟩,rfl⟩:=hb
     rw [hc.D] at h
     exact ⟨_,h.2,Ye hc ho hl rfl hle rfl hv hh h.1.h⟩
    ·exact h.elim
   ·exact h.elim
  ·rename_i nl n hd a b c e a' b' c' hv hl hl'
   split at h
   ·rename_i a'' b'' c'' ty n0 gr f hle hh
    rw [hc.D] at h
    obtain ⟨h0,h1,h2⟩:=h
    obtain ⟨r,hr⟩:=Jh h1
    exact ⟨_,h2 r hr,Aa4 hc ho hl' rfl hl rfl hle rfl hv hh h0.h ⟨h1,hr⟩⟩
   ·exact h.elim
  ·exact h.elim
 ·rename_i c ho
  split at h
  ·rename_i hcal
   split at h
   ·rename_i x t hx ht
    split at h
    ·rename_i nl n sz f e a b c hv hl; exact ⟨_,h,P9 hc ho hcal hx ht hl rfl (.inl hv)⟩
    ·rename_i nl n sz f hd e a b c hv hl; exact ⟨_,h,P9 hc ho hcal hx ht hl rfl (.inr ⟨hd,hv⟩)⟩
    ·rename_i nl n hd e a b c hv hl; exact ⟨_,h,Yc hc ho hcal hx ht hl rfl hv⟩
    ·rename_i nl n g0 hd e a b c hv hl; exact ⟨_,h,X9 hc ho hcal hx ht hl rfl hv⟩
    ·rename_i s a b c hv hl; exact ⟨_,h,Ya hc ho hcal hx ht hl rfl hv⟩
    ·rename_i hd e a b c hv hl
     split at h
     ·rename_i ty n sz f hh; exact ⟨_,h,Yb hc ho hcal hx ht hl rfl hv hh⟩
     ·exact h.elim
    ·exact h.elim
   ·exact h.elim
  ·rename_i hcal
   split at h
   ·rename_i x y t t' hx ht
    split at h
    ·rename_i b s e _ _ _ hb hs hl
     split at h
     ·rename_i te hle
      split at h
      ·rename_i hcond
       simp only [Bool.and_eq_true,beq_iff_eq,Nat.blt_eq] at hcond
       obtain ⟨rfl,hz⟩:=hcond
       exact Abo hc ho hcal hx ht hl rfl hle hz hb hs h
      ·exact h.elim
     ·exact h.elim
    ·exact h.elim
   ·exact h.elim
  ·rename_i hcal
   split at h
   ·rename_i x t hx ht
    split at h
    ·rename_i n aa hd e _ _ _ hv hl
     split at h
     ·rename_i e' n0 sz gr f te hh hle
      split at h
      ·rename_i hbq
       simp only [Bool.and_eq_true,beq_iff_eq] at hbq
       obtain ⟨⟨rfl,hsz⟩,hpl⟩:=hbq
       rw [hc.D] at h
       obtain ⟨h0,h3⟩:=h
       let f' : Nat→List SV:=fun i=>if (i : Int) < aa.den then f i else te.zero
       have q1 : ∀ i : Nat,(i : Int) < aa.den→f' i = f i:=fun i hi=>by simp only [f']; rw [if_pos hi]
       have q2 : ∀ i : Nat,aa.den≤(i : Int)→f' i = te.zero:=fun i hi=>by simp only [f']; rw [if_neg (by omega)]
       exact ⟨_,h3 f' ⟨q1,q2⟩,T5 hc ho hcal hx ht hl rfl hle hsz hv hh h0.h hpl q1 q2 trivial⟩
      ·exact h.elim
     ·exact h.elim
    ·exact h.elim
   ·exact h.elim
  ·rename_i hcal
   split at h
   ·rename_i x y t t' hx ht
    split at h
    ·rename_i d s hd hs; exact Agi hc ho hcal hx ht hd hs h
    ·exact h.elim
   ·exact h.elim
  ·rename_i hcal
   split at h
   ·rename_i x y hx
    split at h
    ·rename_i k a k' b ha hb
     split at h
     ·rename_i e
      subst e
      rw [hc.D] at h
      exact ⟨_,h _ ⟨rfl⟩,Ajd ho hcal hx ha hb⟩
     ·exact h.elim
    ·exact h.elim
   ·exact h.elim
  ·rename_i hcal
   split at h
   ·rename_i x y hx
    split at h
    ·rename_i k a k' b ha hb
     split at h
     ·rename_i e
      subst e
      rw [hc.D] at h
      exact ⟨_,h _ ⟨rfl⟩,Ajc ho hcal hx ha hb⟩
     ·exact h.elim
    ·exact h.elim
   ·exact h.elim
  ·rename_i f hcal
   split at h
   ·rename_i vs hv; exact Ih hc htab (Ads ho hcal hv) h
   ·exact h.elim
  ·rename_i sl hcal
   split at h
   ·rename_i vs f hv hs
    refine Ih hc htab (fun hg=>?_) h
    have:=Tl (cs:=[]) ho hcal hv (.inr ⟨rfl,hs⟩) hg
    rwa [List.append_nil] at this
   ·rename_i vs f cs hv hs
    exact Ih hc htab (Tl ho hcal hv (.inl hs)) h
   ·exact h.elim
  ·exact h.elim
 ·exact h.elim
end
end Go.Sx
