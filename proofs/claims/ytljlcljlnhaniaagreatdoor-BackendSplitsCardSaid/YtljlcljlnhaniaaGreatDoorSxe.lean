/- Part of the proof of the statement: an evaluator of the code at closed data, run by the kernel, and that it is sound; it has no conditions of its own. -/
import Derived.Test.YtljlcljlnhaniaaGreatDoorSxd
set_option linter.unusedVariables false
set_option linter.unusedSimpArgs false
/- The executor's step as a whole. -/
namespace Go.Sx
open Go

section
variable {P : Program} {cx : Cx} {σ : Sy} {T : List Nat} {o : Oper} {K : Out → Prop}

theorem move_sound {x : Operand} (ho : o.op = .move x ∨ o.op = .assign x)
    (h : stepMove cx σ T o.type x K) : ∃ r, K r ∧ Local P cx.gl σ T o r := by
  unfold stepMove at h
  split at h
  · split at h
    · split at h
      · exact ⟨_, h, local_nil ho⟩
      · exact h.elim
    · exact h.elim
  · obtain ⟨v, hv, h⟩ := outO_some h
    exact ⟨_, h, local_move ho hv⟩

theorem allJ_get {D : Dn} {gm : List BT} {T : List Nat} {i : Int} {K : Nat → Prop} (h : allJ D gm T i K) (j : Nat) (hj : Ob D gm T (IsJ j i)) : K j := by
  unfold allJ at h
  split at h
  · exact h j hj
  · exact h j hj

theorem index_sl_sound (hc : CxOk P cx) {t e sz : Nat} {x y : Operand} (ho : o.op = .indexAddr t x y) {nl : BT} {n : ST} {f : Nat → List SV} {k : IntKind} {i : ST} {a b : Nat} {c : List SV}
    (hv : rd cx σ T x = some (.sl nl n sz f) ∨ ∃ h, rd cx σ T x = some (.gsl nl n sz f h)) (hi : rd cx σ T y = some (.int k i)) (hl : look t cx.tt = some ⟨.slice e, a, b, c⟩)
    (h : if size? cx e = some sz then Ob cx.D σ.gm T (InB (cx.D.i i) (cx.D.i n)) ∧ allJ cx.D σ.gm T (cx.D.i i) fun j => out K (.rptr (f j)) else False) : ∃ r, K r ∧ Local P cx.gl σ T o r := by
  split at h
  · rename_i hs
    rw [hc.D] at h
    obtain ⟨h1, h2⟩ := h
    rw [Ob_iff] at h1
    have h1 : allT (condsOf σ.gm T) → 0 ≤ i.den ∧ i.den < n.den := fun hT => ⟨(h1 hT).lo, (h1 hT).hi⟩
    refine ⟨_, allJ_get h2 i.den.toNat ((Ob_iff _ _ _).2 fun hT => ?_), local_index_sl hc hl rfl hs ho hv hi h1⟩
    have := (h1 hT).1
    refine ⟨?_⟩
    show ((i.den.toNat : Nat) : Int) = i.den
    omega
  · exact h.elim

theorem local_index_blk (hc : CxOk P cx) {t e sz n : Nat} {ti : TI} (hl : look t cx.tt = some ti) (hk : ti.k = .array n e) (hn : size? cx e = some sz) {x y : Operand} (ho : o.op = .indexAddr t x y) {h off : Nat} {k : IntKind} {i : ST}
    (hv : rd cx σ T x = some (.ptr h off)) (hi : rd cx σ T y = some (.int k i)) {j : Nat} (hj : i.den = (j : Int)) (hjn : j < n) : Local P cx.gl σ T o ⟨.ptr h (off + j * sz), [], [], []⟩ := by
  intro B N E a w ff hf' hg st ag agh hT
  obtain ⟨b, hb, hx⟩ := (rd_sound hv hg st (ag_of ag (by simp [ho, Op.operands])) hT).ptr_inv
  have hy := (rd_sound hi hg st (ag_of ag (by simp [ho, Op.operands])) hT).int_inv
  refine yields_value st (v := .pointer (some ⟨b, off + j * sz, none⟩)) ?_ rfl (.ptr hb rfl)
  have hu := (hc.ti hl).array hk
  obtain ⟨te, hte, hsz⟩ := size?_ti hn
  have hS := (hc.ti hte).sizeOf w
  simp [execOp, ho, hx, hy, hj, Instr.indexAt, run_underlying hu, asIntOf, hjn, hS, hsz, Instr.sureAddr, add_lit]

theorem splitJ_get {F : Nat → Prop} {i : Int} : ∀ (n j : Nat), splitJ i F n j → ∀ k : Nat, i = (k : Int) → j ≤ k → k < j + n → F k
  | 0, j, _, k, _, h1, h2 => by omega
  | n + 1, j, h, k, hk, h1, h2 => by
    rcases Nat.eq_or_lt_of_le h1 with e | e
    · subst e; exact h.1 ⟨hk.symm⟩
    · exact splitJ_get n (j + 1) h.2 k hk e (by omega)

theorem ixArr_sound (hc : CxOk P cx) {t e sz n : Nat} {ti : TI} (hl : look t cx.tt = some ti) (hk : ti.k = .array n e) (hn : size? cx e = some sz) {x y : Operand} (ho : o.op = .indexAddr t x y) {h off : Nat} {k : IntKind} {i : ST}
    (hv : rd cx σ T x = some (.ptr h off)) (hi : rd cx σ T y = some (.int k i)) (hs : stepIxArr cx T h off n sz i K) : ∃ r, K r ∧ Local P cx.gl σ T o r := by
  unfold stepIxArr at hs
  split at hs
  · rename_i q
    split at hs
    · rename_i hb
      exact ⟨_, hs, local_index_blk hc hl hk hn ho hv hi (j := q) rfl (by simpa using hb)⟩
    · exact hs.elim
  · split at hs
    · rw [hc.D] at hs
      obtain ⟨⟨h0, h1⟩, h2⟩ := hs
      have h0 : 0 ≤ i.den := h0
      have h1 : i.den < n := h1
      have hq : i.den = ((i.den.toNat : Nat) : Int) := by omega
      exact ⟨_, splitJ_get n 0 h2 i.den.toNat hq (Nat.zero_le _) (by omega), local_index_blk hc hl hk hn ho hv hi hq (by omega)⟩
    · exact hs.elim

theorem local_max {c : Call} (ho : o.op = .call c) (hcal : c.callee = .builtin .max) {x y : Operand} (hx : c.args.toList = [x, y]) {k : IntKind} {s t : ST} (h1 : rd cx σ T x = some (.int k s)) (h2 : rd cx σ T y = some (.int k t)) :
    Local P cx.gl σ T o ⟨.int k (.a (max s.den t.den)), [], [], []⟩ := by
  intro B N E a w ff hf' hg st ag agh hT
  have mx : x ∈ o.op.operands.toList := by simp [ho, Op.operands, Call.operands, hcal, hx]
  have my : y ∈ o.op.operands.toList := by simp [ho, Op.operands, Call.operands, hcal, hx]
  have e1 : c.args = #[x, y] := Array.ext' (by simpa using hx)
  have hrx := (rd_sound h1 hg st (ag_of ag mx) hT).int_inv
  have hry := (rd_sound h2 hg st (ag_of ag my) hT).int_inv
  refine yields_value st (v := .int k (if t.den > s.den then t.den else s.den)) ?_ rfl (.int ?_)
  · simp [execOp, ho, resolve, hcal, e1, invoke, builtin, hrx, hry, Builtin.max_, Builtin.max2]
  · simp only [ST.den]; split <;> omega

theorem local_min {c : Call} (ho : o.op = .call c) (hcal : c.callee = .builtin .min) {x y : Operand} (hx : c.args.toList = [x, y]) {k : IntKind} {s t : ST} (h1 : rd cx σ T x = some (.int k s)) (h2 : rd cx σ T y = some (.int k t)) :
    Local P cx.gl σ T o ⟨.int k (.a (min s.den t.den)), [], [], []⟩ := by
  intro B N E a w ff hf' hg st ag agh hT
  have mx : x ∈ o.op.operands.toList := by simp [ho, Op.operands, Call.operands, hcal, hx]
  have my : y ∈ o.op.operands.toList := by simp [ho, Op.operands, Call.operands, hcal, hx]
  have e1 : c.args = #[x, y] := Array.ext' (by simpa using hx)
  have hrx := (rd_sound h1 hg st (ag_of ag mx) hT).int_inv
  have hry := (rd_sound h2 hg st (ag_of ag my) hT).int_inv
  refine yields_value st (v := .int k (if t.den < s.den then t.den else s.den)) ?_ rfl (.int ?_)
  · simp [execOp, ho, resolve, hcal, e1, invoke, builtin, hrx, hry, Builtin.min_, Builtin.min2]
  · simp only [ST.den]; split <;> omega

theorem sameOp_eq : ∀ {x y : Operand}, sameOp x y = true → x = y
  | .tmp i, .tmp j, h => by simp [sameOp] at h; rw [h]
  | .tmp _, .const _, h => by simp [sameOp] at h
  | .tmp _, .global _, h => by simp [sameOp] at h
  | .tmp _, .func _, h => by simp [sameOp] at h
  | .const _, _, h => by simp [sameOp] at h
  | .global _, _, h => by simp [sameOp] at h
  | .func _, _, h => by simp [sameOp] at h

theorem make_sound (hc : CxOk P cx) {t : Nat} {x y : Operand} (ho : o.op = .makeSlice t x y) {a b : SV} (hx : rd cx σ T x = some a) (hy : rd cx σ T y = some b) (h : stepMake cx σ T t a b (sameOp x y) K) : ∃ r, K r ∧ Local P cx.gl σ T o r := by
  unfold stepMake at h
  split at h
  · rename_i e _ _ _ hl
    split at h
    · rename_i te kc c hle
      split at h
      · obtain ⟨h1, h2⟩ := h
        rw [hc.D] at h1
        exact ⟨_, h2, local_make0 hc ho hl rfl hle hx hy fun _ => ⟨h1.lo, h1.mem, h1.hi⟩⟩
      · exact h.elim
    · rename_i te kn n kc c _ hle
      split at h
      · rename_i hb
        simp only [Bool.and_eq_true, Nat.blt_eq] at hb
        obtain ⟨h1, h2⟩ := h
        rw [hc.D] at h1 h2
        exact ⟨_, h2, local_makeN hc ho hl rfl hle hx hy (sameOp_eq hb.1) hb.2 fun _ => ⟨h1.lo, h1.mem, h1.hi⟩⟩
      · exact h.elim
    · exact h.elim
  · exact h.elim

theorem buildSlice_sound (hc : CxOk P cx) {t len : Nat} {ps : Array (Nat × Operand)} (ho : o.op = .buildSlice t len ps) (h : stepBuildSlice cx σ T t len ps.toList K) : ∃ r, K r ∧ Local P cx.gl σ T o r := by
  unfold stepBuildSlice at h
  split at h
  · rename_i e _ _ _ vs hl hvs
    split at h
    · rename_i te hle
      split at h
      · rename_i cs h1 hf
        split at h
        · rename_i hb
          simp only [Bool.and_eq_true, Nat.blt_eq] at hb
          rw [hc.D] at h hb
          exact ⟨_, h _ ⟨fun i r hr => (chunks_get _ _ _ _ hr).symm⟩, local_buildSlice hc ho hl rfl hle hvs h1 hf hb.1.1 hb.1.2 (Nat.le_of_ble_eq_true hb.2)⟩
        · exact h.elim
      · exact h.elim
    · exact h.elim
  · exact h.elim

theorem slice_sound (hc : CxOk P cx) {t : Nat} {x : Operand} {lo hi : Option Operand} (ho : o.op = .slice t x lo hi none) {v : SV} {sa sb : Option SV} (hv : rd cx σ T x = some v) (hlo : optRd cx σ T lo = some sa) (hhi : optRd cx σ T hi = some sb)
    (h : stepSlice cx σ T t v sa sb K) : ∃ r, K r ∧ Local P cx.gl σ T o r := by
  unfold stepSlice at h
  split at h
  · rename_i p hp
    have row : ∀ (nl : BT) (n : ST) (sz : Nat) (f : Nat → List SV) (e a b : Nat) (c : List SV), look t cx.tt = some ⟨.slice e, a, b, c⟩ → (rd cx σ T x = some (.sl nl n sz f) ∨ ∃ h, rd cx σ T x = some (.gsl nl n sz f h)) →
        stepSlice.onRow cx σ T sb K nl n sz f e p → ∃ r, K r ∧ Local P cx.gl σ T o r := by
      intro nl n sz f e a b c hl hv h
      unfold stepSlice.onRow at h
      split at h
      · rename_i q hq
        split at h
        · rename_i hs
          rw [hc.D] at h
          obtain ⟨h1, h2⟩ := h
          rw [Ob_iff] at h1
          have h1 : allT (condsOf σ.gm T) → 0 ≤ p.den ∧ p.den ≤ q.den ∧ q.den ≤ n.den := fun hT => ⟨(h1 hT).lo, (h1 hT).le, (h1 hT).hi⟩
          have key : ∀ i j : Nat, (j : Int) = i + p.den → (fun i : Nat => f ((i : Int) + p.den).toNat) i = f j := fun i j hij => by
            show f ((i : Int) + p.den).toNat = f j
            rw [← hij]; rfl
          exact ⟨_, h2 _ _ ⟨rfl, key⟩, local_slice_row hc hl rfl hs ho hv hlo hhi hp hq h1 key⟩
        · exact h.elim
      · exact h.elim
    split at h
    · rename_i nl n sz f e _ _ _ hl; exact row nl n sz f e _ _ _ hl (.inl hv) h
    · rename_i nl n sz f hd e _ _ _ hl; exact row nl n sz f e _ _ _ hl (.inr ⟨hd, hv⟩) h
    · rename_i s _ _ _ hl
      split at h
      · rename_i q hq
        rw [hc.D] at h
        obtain ⟨h1, h2⟩ := h
        rw [Ob_iff] at h1
        exact ⟨_, h2 _ ⟨rfl⟩, local_slice_str hc hl rfl ho hv hlo hhi hp hq fun hT => ⟨(h1 hT).lo, (h1 hT).le, (h1 hT).hi⟩⟩
      · exact h.elim
    · exact h.elim
  · exact h.elim

theorem append_sound (hc : CxOk P cx) {c : Call} (ho : o.op = .call c) (hcal : c.callee = .builtin .append) {x y : Operand} {t e : Nat} {te ti : TI} (hx : c.args.toList = [x, y]) (ht : c.argTypes.toList = [t, t]) (hlt : look t cx.tt = some ti) (hk : ti.k = .slice e) (hle : look e cx.tt = some te) (hz : 0 < te.size)
    {b s : SV} (hb : rd cx σ T x = some b) (hs : rd cx σ T y = some s) (h : appendTo cx σ b s e te.size te.bytes K) : ∃ r, K r ∧ Local P cx.gl σ T o r := by
  unfold appendTo at h
  split at h
  · rename_i m g hrow
    rw [hc.D] at h
    split at h
    · obtain ⟨h1, h2⟩ := h
      exact ⟨_, h2 g _ ⟨rfl, fun _ _ => rfl⟩, local_append_new hc ho hcal hx ht hlt hk hle rfl hz hb hs hrow ⟨h1.mem, h1.hi⟩ rfl fun _ _ => rfl⟩
    · rename_i nl n sz' f hd
      split at h
      · rename_i e' n0 sz'' hh
        split at h
        · rename_i hbq
          simp only [Bool.and_eq_true, beq_iff_eq] at hbq
          obtain ⟨⟨rfl, rfl⟩, rfl⟩ := hbq
          obtain ⟨h1, h2⟩ := h
          have h1 : n.den = n0.den ∧ (n.den + m.den) * te.bytes ≤ 140737488355328 ∧ n.den + m.den ≤ 9223372036854775807 := ⟨h1.eq, h1.mem, h1.hi⟩
          let f' : Nat → List SV := fun i => if (i : Int) < n.den then f i else g ((i : Int) - n.den).toNat
          have k1 : ∀ i : Nat, (i : Int) < n.den → f' i = f i := fun i hi => by simp only [f']; rw [if_pos hi]
          have k2 : ∀ i j : Nat, (i : Int) = n.den + j → (j : Int) < m.den → f' i = g j := fun i j hi _ => by
            simp only [f']; rw [if_neg (by omega)]; congr 1; omega
          exact ⟨_, h2 f' _ ⟨rfl, k1, k2⟩, local_append_more hc ho hcal hx ht hlt hk hle rfl hz hb hh hs hrow h1 rfl k1 k2⟩
        · exact h.elim
      · exact h.elim
    · rename_i nl n hd
      split at h
      · rename_i e' n0 sz'' f hh
        split at h
        · rename_i hbq
          simp only [Bool.and_eq_true, beq_iff_eq] at hbq
          obtain ⟨rfl, rfl⟩ := hbq
          obtain ⟨h1, h2⟩ := h
          have h1 : n.den = n0.den ∧ (n.den + m.den) * te.bytes ≤ 140737488355328 ∧ n.den + m.den ≤ 9223372036854775807 := ⟨h1.eq, h1.mem, h1.hi⟩
          let f' : Nat → List SV := fun i => if (i : Int) < n.den then f i else g ((i : Int) - n.den).toNat
          have k1 : ∀ i : Nat, (i : Int) < n.den → f' i = f i := fun i hi => by simp only [f']; rw [if_pos hi]
          have k2 : ∀ i j : Nat, (i : Int) = n.den + j → (j : Int) < m.den → f' i = g j := fun i j hi _ => by
            simp only [f']; rw [if_neg (by omega)]; congr 1; omega
          exact ⟨_, h2 f' _ ⟨rfl, k1, k2⟩, local_append_own hc ho hcal hx ht hlt hk hle rfl hz hb hh hs hrow h1 rfl k1 k2⟩
        · exact h.elim
      · exact h.elim
    · exact h.elim
  · exact h.elim

theorem copy_sound (hc : CxOk P cx) {c : Call} (ho : o.op = .call c) (hcal : c.callee = .builtin .copy) {x y : Operand} {t t' : Nat} (hx : c.args.toList = [x, y]) (ht : c.argTypes.toList = [t, t']) {d s : SV} (hd : rd cx σ T x = some d) (hs : rd cx σ T y = some s) (h : stepCopy cx σ T t d s K) : ∃ r, K r ∧ Local P cx.gl σ T o r := by
  unfold stepCopy at h
  split at h
  · rename_i e _ _ _ hd' hl
    split at h
    · rename_i ty n sz f sz'' hh hsz
      split at h
      · rename_i m g hrow hzz
        have hzz : sz'' = sz := by simpa using hzz
        subst hzz
        rw [hc.D] at h
        let f' : Nat → List SV := fun i => if (i : Int) < min m.den n.den then g i else f i
        have k1 : ∀ i : Nat, (i : Int) < min m.den n.den → f' i = g i := fun i hi => by simp only [f']; rw [if_pos hi]
        have k2 : ∀ i : Nat, min m.den n.den ≤ (i : Int) → (i : Int) < n.den → f' i = f i := fun i hi _ => by simp only [f']; rw [if_neg (by omega)]
        exact ⟨_, h f' _ ⟨rfl, k1, k2⟩, local_copy hc ho hcal hx ht hl rfl hd hs hh hsz hrow k1 k2⟩
      · exact h.elim
    · exact h.elim
  · exact h.elim

theorem load_mptr_sound (hc : CxOk P cx) {t : Nat} {x : Operand} (ho : o.op = .load t x) {h j off n : Nat} (hv : rd cx σ T x = some (.mptr h j off)) (hn : size? cx t = some n)
    (hs : match nth σ.hp h with
      | some (.row _ m _ f) => Ob cx.D σ.gm T (LtB j (cx.D.i m)) ∧
        if Nat.ble (off + n) (lenN (f j)) then
          match pack (isAgg? cx t) (takeN n (dropN off (f j))) with
          | some v => K ⟨v, [], [h], []⟩
          | none => False
        else False
      | _ => False) : ∃ r, K r ∧ Local P cx.gl σ T o r := by
  split at hs
  · rename_i ty m sz f hh
    obtain ⟨h1, h2⟩ := hs
    rw [hc.D, Ob_iff] at h1
    split at h2
    · rename_i hb
      split at h2
      · rename_i v hp
        rw [takeN_eq, dropN_eq] at hp
        rw [lenN_eq] at hb
        exact ⟨_, h2, local_load_mptr hc ho hv hn hh (fun hT => (h1 hT).h) (Nat.le_of_ble_eq_true hb) hp⟩
      · exact h2.elim
    · exact h2.elim
  · exact hs.elim

theorem store_mptr_sound (hc : CxOk P cx) {t : Nat} {x y : Operand} (ho : o.op = .store t x y) {h j off n : Nat} {v : SV} (hv : rd cx σ T x = some (.mptr h j off)) (hy : rdT cx σ T t y = some v) (hn : size? cx t = some n)
    (hs : match nth σ.hp h with
      | some (.row ty m sz f) => LtB j (cx.D.i m) ∧
        if lenN v.cells == n && Nat.ble (off + n) (lenN (f j)) && onesB v.cells && plainV (.agg (loose.looseL (norm.normL cx.D v.cells))) then
          allSet f j (putN (f j) off (loose.looseL (norm.normL cx.D v.cells))) fun f' => K ⟨.tup [], [.put h (.row ty m sz f')], [h], []⟩
        else False
      | _ => False) : ∃ r, K r ∧ Local P cx.gl σ T o r := by
  split at hs
  · rename_i ty m sz f hh
    obtain ⟨h1, h2⟩ := hs
    split at h2
    · rename_i hb
      simp only [Bool.and_eq_true, beq_iff_eq, lenN_eq] at hb
      rw [hc.D] at h1 h2 hb
      let f' : Nat → List SV := fun i => if i = j then putN (f j) off (loose.looseL (norm.normL dn v.cells)) else f i
      have k1 : f' j = putN (f j) off (loose.looseL (norm.normL dn v.cells)) := by simp [f']
      have k2 : ∀ i : Nat, i ≠ j → f' i = f i := fun i hi => by simp [f', hi]
      exact ⟨_, h2 f' ⟨k1, k2⟩, local_store_mptr hc ho hv hy hn hh h1.h hb.1.1.1 (Nat.le_of_ble_eq_true hb.1.1.2) hb.1.2 hb.2 k1 k2⟩
    · exact h2.elim
  · exact hs.elim

theorem load_optr_sound (hc : CxOk P cx) {t : Nat} {x : Operand} (ho : o.op = .load t x) {h j off n : Nat} {m' : ST} (hv : rd cx σ T x = some (.optr m' h j off)) (hn : size? cx t = some n)
    (hs : match nth σ.hp h with
      | some (.own _ m _ _ f) => Ob cx.D σ.gm T (EqN (cx.D.i m') (cx.D.i m)) ∧ Ob cx.D σ.gm T (LtB j (cx.D.i m)) ∧
        if Nat.ble (off + n) (lenN (f j)) then
          match pack (isAgg? cx t) (takeN n (dropN off (f j))) with
          | some v => K ⟨v, [], [h], []⟩
          | none => False
        else False
      | _ => False) : ∃ r, K r ∧ Local P cx.gl σ T o r := by
  split at hs
  · rename_i ty m sz gr f hh
    obtain ⟨h0, h1, h2⟩ := hs
    rw [hc.D, Ob_iff] at h0 h1
    split at h2
    · rename_i hb
      split at h2
      · rename_i v hp
        rw [takeN_eq, dropN_eq] at hp
        rw [lenN_eq] at hb
        exact ⟨_, h2, local_load_optr hc ho hv hn hh (fun hT => (h0 hT).h) (fun hT => (h1 hT).h) (Nat.le_of_ble_eq_true hb) hp⟩
      · exact h2.elim
    · exact h2.elim
  · exact hs.elim

theorem store_optr_sound (hc : CxOk P cx) {t : Nat} {x y : Operand} (ho : o.op = .store t x y) {h j off n : Nat} {m' : ST} {v : SV} (hT : T = []) (hv : rd cx σ T x = some (.optr m' h j off)) (hy : rdT cx σ T t y = some v) (hn : size? cx t = some n)
    (hs : match nth σ.hp h with
      | some (.own ty m sz gr f) => EqN (cx.D.i m') (cx.D.i m) ∧ LtB j (cx.D.i m) ∧
        if lenN v.cells == n && Nat.ble (off + n) (lenN (f j)) && onesB v.cells && plainV (.agg (loose.looseL (norm.normL cx.D v.cells))) then
          allSet f j (putN (f j) off (loose.looseL (norm.normL cx.D v.cells))) fun f' => K ⟨.tup [], [.put h (.own ty m sz gr f')], [h], []⟩
        else False
      | _ => False) : ∃ r, K r ∧ Local P cx.gl σ T o r := by
  split at hs
  · rename_i ty m sz gr f hh
    obtain ⟨h0, h1, h2⟩ := hs
    split at h2
    · rename_i hb
      simp only [Bool.and_eq_true, beq_iff_eq, lenN_eq] at hb
      rw [hc.D] at h0 h1 h2 hb
      let f' : Nat → List SV := fun i => if i = j then putN (f j) off (loose.looseL (norm.normL dn v.cells)) else f i
      have k1 : f' j = putN (f j) off (loose.looseL (norm.normL dn v.cells)) := by simp [f']
      have k2 : ∀ i : Nat, i ≠ j → f' i = f i := fun i hi => by simp [f', hi]
      exact ⟨_, h2 f' ⟨k1, k2⟩, local_store_optr hc ho hv hy hn hh h0.h h1.h hb.1.1.1 (Nat.le_of_ble_eq_true hb.1.1.2) hb.1.2 hb.2 (by subst hT; trivial) k1 k2⟩
    · exact h2.elim
  · exact hs.elim

theorem stepStr_sound (hc : CxOk P cx) {src dst e : TypeId} {x : Operand} (ho : o.op = .convert src dst x) {ts td : TI} (hls : look src cx.tt = some ts) (hks : ts.k = .slice e) (hld : look dst cx.tt = some td) (hkd : td.k = .string)
    {nl : BT} {n : ST} {f : Nat → List SV} (hv : rd cx σ T x = some (.sl nl n 1 f) ∨ ∃ h, rd cx σ T x = some (.gsl nl n 1 f h)) (h : stepStr cx σ T e n f K) : ∃ r, K r ∧ Local P cx.gl σ T o r := by
  unfold stepStr at h
  split at h
  · rename_i a b c hle
    rw [hc.D] at h
    obtain ⟨h1, h2⟩ := h
    obtain ⟨r, hr⟩ := strRow_exists h1
    exact ⟨_, h2 r hr, local_bytesStr hc ho hls hks hld hkd hle rfl hv fun _ => ⟨h1, hr⟩⟩
  · exact h.elim

theorem stepOp_sound (hc : CxOk P cx) (htab : TabOk P cx.gl cx.tab) (h : stepOp cx σ T o K) : ∃ r, K r ∧ Local P cx.gl σ T o r := by
  unfold stepOp at h
  split at h
  · rename_i x ho; exact move_sound (.inl ho) h
  · rename_i x ho; exact move_sound (.inr ho) h
  · rename_i e ho
    split at h
    · rename_i ti hl; exact ⟨_, h, local_alloc hc ho hl⟩
    · exact h.elim
  · rename_i e x ho
    split at h
    · rename_i ti v hl hv
      split at h
      · rename_i hb
        simp only [Bool.and_eq_true] at hb
        exact ⟨_, h, local_box ho hv hb.2⟩
      · exact h.elim
    · exact h.elim
  · rename_i t ps ho
    split at h
    · rename_i ti vs hl hv
      split at h
      · rename_i cs fs h1 hf hk
        exact ⟨_, h, local_build hc ho hl hv h1 hf (.inl ⟨fs, hk⟩) (fun e n hk' => by rw [hk] at hk'; cases hk')⟩
      · rename_i cs n e h1 hf hk
        split at h
        · rename_i m hm
          exact ⟨_, h, local_build hc ho hl hv h1 hf (.inr ⟨n, e, hk⟩) (fun e' n' hk' => by rw [hk] at hk'; cases hk'; exact ⟨m, hm⟩)⟩
        · exact h.elim
      · exact h.elim
    · exact h.elim
  · rename_i t x ho
    split at h
    · rename_i hd off n hv hn
      split at h
      · rename_i ty cs hh
        split at h
        · rename_i hb
          split at h
          · rename_i v hp
            rw [takeN_eq, dropN_eq] at hp
            refine ⟨_, h, local_load_ptr hc ho hv hn hh ?_ hp⟩
            rw [lenN_eq] at hb
            exact Nat.le_of_ble_eq_true hb
          · exact h.elim
        · exact h.elim
      · exact h.elim
    · rename_i cs n hv hn
      split at h
      · rename_i hb
        obtain ⟨v, hp, h⟩ := outO_some h
        rw [takeN_eq] at hp
        refine ⟨_, h, local_load_rptr hc ho hv hn ?_ hp⟩
        rw [lenN_eq] at hb
        exact Nat.le_of_ble_eq_true hb
      · exact h.elim
    · rename_i hd j off n hv hn
      exact load_mptr_sound hc ho hv hn h
    · rename_i m' hd j off n hv hn
      exact load_optr_sound hc ho hv hn h
    · exact h.elim
  · rename_i t x y ho
    split at h
    · split at h
      · rename_i ty cs hh
        split at h
        · rename_i hb
          simp only [Bool.and_eq_true, beq_iff_eq, lenN_eq] at hb
          exact ⟨_, h, local_store hc ho ‹_› ‹_› ‹_› hh hb.1.1 (Nat.le_of_ble_eq_true hb.1.2) hb.2⟩
        · exact h.elim
      · exact h.elim
    · exact store_mptr_sound hc ho ‹_› ‹_› ‹_› h
    · exact store_optr_sound hc ho rfl ‹_› ‹_› ‹_› h
    · exact h.elim
  · rename_i t x i ho
    split at h
    · rename_i hd off fo ft hv hf
      split at h
      · rename_i m hn; exact ⟨_, h, local_fieldAddr_ptr hc ho hv hf hn⟩
      · exact h.elim
    · rename_i cs fo ft hv hf
      split at h
      · rename_i m hn
        split at h
        · rw [takeN_eq, dropN_eq] at h
          exact ⟨_, h, local_fieldAddr_rptr hc ho hv hf hn⟩
        · exact h.elim
      · exact h.elim
    · rename_i hd j off fo ft hv hf
      split at h
      · rename_i m hn; exact ⟨_, h, local_fieldAddr_mptr hc ho hv hf hn⟩
      · exact h.elim
    · rename_i n' hd j off fo ft hv hf
      split at h
      · rename_i m hn; exact ⟨_, h, local_fieldAddr_optr hc ho hv hf hn⟩
      · exact h.elim
    · exact h.elim
  · rename_i x ho
    split at h
    · rename_i hd off hv; exact ⟨_, h, local_nilCheck ho hv (.inl ⟨_, _, rfl⟩)⟩
    · rename_i cs hv; exact ⟨_, h, local_nilCheck ho hv (.inr (.inl ⟨_, rfl⟩))⟩
    · rename_i hd j off hv; exact ⟨_, h, local_nilCheck ho hv (.inr (.inr (.inl ⟨_, _, _, rfl⟩)))⟩
    · rename_i n hd j off hv; exact ⟨_, h, local_nilCheck ho hv (.inr (.inr (.inr (.inr ⟨_, _, _, _, rfl⟩))))⟩
    · rename_i n sz f hv; exact ⟨_, h, local_nilCheck ho hv (.inr (.inr (.inr (.inl ⟨_, _, _, rfl⟩))))⟩
    · exact h.elim
  · rename_i t x i ho
    split at h
    · rename_i cs fo ft hv hf
      split at h
      · rename_i m hn
        split at h
        · rename_i hb
          obtain ⟨v, hp, h⟩ := outO_some h
          rw [takeN_eq, dropN_eq] at hp
          rw [lenN_eq] at hb
          exact ⟨_, h, local_field hc ho hv hf hn (Nat.le_of_ble_eq_true hb) hp⟩
        · exact h.elim
      · exact h.elim
    · exact h.elim
  · rename_i t x y ho
    split at h
    · rename_i nl n sz f k i e a b c hv hi hl
      exact index_sl_sound hc ho (.inl hv) hi hl h
    · rename_i nl n sz f hd k i e a b c hv hi hl
      exact index_sl_sound hc ho (.inr ⟨hd, hv⟩) hi hl h
    · rename_i hd k i e a b c hv hi hl
      split at h
      · rename_i ty n sz f hh
        split at h
        · rename_i hs
          rw [hc.D] at h
          obtain ⟨h1, h2⟩ := h
          rw [Ob_iff] at h1
          have h1 : allT (condsOf σ.gm T) → 0 ≤ i.den ∧ i.den < n.den := fun hT => ⟨(h1 hT).lo, (h1 hT).hi⟩
          refine ⟨_, allJ_get h2 i.den.toNat ((Ob_iff _ _ _).2 fun hT => ?_), local_index_row hc hl rfl hs ho hv hh hi h1⟩
          have := (h1 hT).1
          refine ⟨?_⟩
          show ((i.den.toNat : Nat) : Int) = i.den
          omega
        · exact h.elim
      · exact h.elim
    · rename_i nl m hd k i e a b c hv hi hl
      split at h
      · rename_i ty n sz gr f hh
        split at h
        · rename_i hs
          rw [hc.D] at h
          obtain ⟨h0, h1, h2⟩ := h
          rw [Ob_iff] at h0 h1
          have h1 : allT (condsOf σ.gm T) → 0 ≤ i.den ∧ i.den < n.den := fun hT => ⟨(h1 hT).lo, (h1 hT).hi⟩
          refine ⟨_, allJ_get h2 i.den.toNat ((Ob_iff _ _ _).2 fun hT => ?_), local_index_osl hc hl rfl hs ho hv hh hi (fun hT => (h0 hT).h) h1⟩
          have := (h1 hT).1
          refine ⟨?_⟩
          show ((i.den.toNat : Nat) : Int) = i.den
          omega
        · exact h.elim
      · exact h.elim
    · rename_i hd off k i n e a b c hv hi hl
      split at h
      · rename_i sz hs; exact ixArr_sound hc hl rfl hs ho hv hi h
      · exact h.elim
    · rename_i n sz f k i n' e a b c hv hi hl
      split at h
      · rename_i hs
        obtain ⟨hs, rfl⟩ := hs
        rw [hc.D] at h
        obtain ⟨h1, h2⟩ := h
        rw [Ob_iff] at h1
        have h1 : allT (condsOf σ.gm T) → 0 ≤ i.den ∧ i.den < n := fun hT => ⟨(h1 hT).lo, (h1 hT).hi⟩
        refine ⟨_, allJ_get h2 i.den.toNat ((Ob_iff _ _ _).2 fun hT => ?_), local_index_arr hc hl rfl hs ho hv hi h1⟩
        have := (h1 hT).1
        refine ⟨?_⟩
        show ((i.den.toNat : Nat) : Int) = i.den
        omega
      · exact h.elim
    · exact h.elim
  · rename_i f fi cs ho
    split at h
    · rename_i vs hfi hv; exact ⟨_, h, local_makeFunc ho hfi hv⟩
    · exact h.elim
  · rename_i t len ps ho; exact buildSlice_sound hc ho h
  · rename_i t l c ho
    split at h
    · rename_i a b ha hb; exact make_sound hc ho ha hb h
    · exact h.elim
  · rename_i t x lo hi ho
    split at h
    · rename_i v a b hv ha hb; exact slice_sound hc ho hv ha hb h
    · exact h.elim
  · rename_i t x ix ho
    split at h
    · rename_i s k i _ _ _ hv hi hl
      rw [hc.D] at h
      obtain ⟨h1, h2⟩ := h
      rw [Ob_iff] at h1
      exact ⟨_, h2 _ ⟨rfl⟩, local_index_str hc hl rfl ho hv hi fun hT => ⟨(h1 hT).lo, (h1 hT).hi⟩⟩
    · exact h.elim
  · rename_i x i ho
    split at h
    · rename_i vs hv
      obtain ⟨v, hp, h⟩ := outO_some h
      exact ⟨_, h, local_extract ho hv hp⟩
    · exact h.elim
  · rename_i op t x ho
    split at h
    · rename_i b hv; exact ⟨_, h, local_not ho hv⟩
    · rename_i k n hv; exact ⟨_, h, local_neg ho hv⟩
    · exact h.elim
  · rename_i op t x y u ho
    split at h
    · rename_i a b hx hy; exact stepBin_sound hc ho hx hy h
    · exact h.elim
  · rename_i src dst x ho
    split at h
    · rename_i k' n k a b c tj hv hl hl'; exact ⟨_, h, local_conv hc ho hl hl' rfl hv⟩
    · rename_i s e a b c a' b' c' hv hl hl'
      split at h
      · rename_i a'' b'' c'' hle
        rw [hc.D] at h
        split at h
        · split at h
          · obtain ⟨h1, h2⟩ := h
            exact ⟨_, h2 _ ⟨rfl⟩, local_strOwn hc ho hl' rfl hl rfl hle rfl hv h1.h⟩
          · exact h.elim
        · obtain ⟨h1, h2⟩ := h
          rw [Ob_iff] at h1
          exact ⟨_, h2 _ ⟨rfl⟩, local_strBytes hc ho hl' rfl hl rfl hle rfl hv fun hT => (h1 hT).h⟩
      · exact h.elim
    · rename_i nl n f a b c e a' b' c' hv hl hl'
      exact stepStr_sound hc ho hl' rfl hl rfl (.inl hv) h
    · rename_i nl n f hd a b c e a' b' c' hv hl hl'
      exact stepStr_sound hc ho hl' rfl hl rfl (.inr ⟨hd, hv⟩) h
    · rename_i nl n hd a b c e a' b' c' hv hl hl'
      split at h
      · rename_i a'' b'' c'' ty n0 gr f hle hh
        rw [hc.D] at h
        obtain ⟨h0, h1, h2⟩ := h
        obtain ⟨r, hr⟩ := strRow_exists h1
        exact ⟨_, h2 r hr, local_ownStr hc ho hl' rfl hl rfl hle rfl hv hh h0.h ⟨h1, hr⟩⟩
      · exact h.elim
    · exact h.elim
  · rename_i c ho
    split at h
    · rename_i hcal
      split at h
      · rename_i x t hx ht
        split at h
        · rename_i nl n sz f e a b c hv hl; exact ⟨_, h, local_len_sl hc ho hcal hx ht hl rfl (.inl hv)⟩
        · rename_i nl n sz f hd e a b c hv hl; exact ⟨_, h, local_len_sl hc ho hcal hx ht hl rfl (.inr ⟨hd, hv⟩)⟩
        · rename_i nl n hd e a b c hv hl; exact ⟨_, h, local_len_osl hc ho hcal hx ht hl rfl hv⟩
        · rename_i s a b c hv hl; exact ⟨_, h, local_len_str hc ho hcal hx ht hl rfl hv⟩
        · rename_i hd e a b c hv hl
          split at h
          · rename_i ty n sz f hh; exact ⟨_, h, local_len_row hc ho hcal hx ht hl rfl hv hh⟩
          · exact h.elim
        · exact h.elim
      · exact h.elim
    · rename_i hcal
      split at h
      · rename_i x y t t' hx ht
        split at h
        · rename_i b s e _ _ _ hb hs hl
          split at h
          · rename_i te hle
            split at h
            · rename_i hcond
              simp only [Bool.and_eq_true, beq_iff_eq, Nat.blt_eq] at hcond
              obtain ⟨rfl, hz⟩ := hcond
              exact append_sound hc ho hcal hx ht hl rfl hle hz hb hs h
            · exact h.elim
          · exact h.elim
        · exact h.elim
      · exact h.elim
    · rename_i hcal
      split at h
      · rename_i x y t t' hx ht
        split at h
        · rename_i d s hd hs; exact copy_sound hc ho hcal hx ht hd hs h
        · exact h.elim
      · exact h.elim
    · rename_i hcal
      split at h
      · rename_i x y hx
        split at h
        · rename_i k a k' b ha hb
          split at h
          · rename_i e
            subst e
            rw [hc.D] at h
            exact ⟨_, h _ ⟨rfl⟩, local_max ho hcal hx ha hb⟩
          · exact h.elim
        · exact h.elim
      · exact h.elim
    · rename_i hcal
      split at h
      · rename_i x y hx
        split at h
        · rename_i k a k' b ha hb
          split at h
          · rename_i e
            subst e
            rw [hc.D] at h
            exact ⟨_, h _ ⟨rfl⟩, local_min ho hcal hx ha hb⟩
          · exact h.elim
        · exact h.elim
      · exact h.elim
    · rename_i f hcal
      split at h
      · rename_i vs hv; exact stepCall_sound hc htab (enters_func ho hcal hv) h
      · exact h.elim
    · rename_i sl hcal
      split at h
      · rename_i vs f hv hs
        refine stepCall_sound hc htab (fun hg => ?_) h
        have := enters_slot (cs := []) ho hcal hv (.inr ⟨rfl, hs⟩) hg
        rwa [List.append_nil] at this
      · rename_i vs f cs hv hs
        exact stepCall_sound hc htab (enters_slot ho hcal hv (.inl hs)) h
      · exact h.elim
    · exact h.elim
  · exact h.elim

end
end Go.Sx
/- Guards; operations in the order of the text. -/
namespace Go.Sx
open Go

/-- The book-keeping of guards is in order. -/
structure WfG (σ : Sy) : Prop where
  tg : ∀ s g, getO σ.fr s = some g → ∀ i ∈ g.tg, i < σ.gm.length
  gt : ∀ s g i, getO σ.fr s = some g → g.gt = some i → ∃ c, g.v = .bool c ∧ nth σ.gm i = some c
  gf : ∀ s g i, getO σ.fr s = some g → g.gf = some i → ∃ c, g.v = .bool c ∧ nth σ.gm i = some (.not c)

theorem condsOf_grow {gm : List BT} {c : BT} : ∀ {T : List Nat}, (∀ i ∈ T, i < gm.length) → condsOf (gm ++ [c]) T = condsOf gm T
  | [], _ => rfl
  | i :: T, h => by
    have h1 := condsOf_grow (gm := gm) (c := c) (T := T) fun j hj => h j (List.mem_cons_of_mem _ hj)
    have h2 : nth (gm ++ [c]) i = nth gm i := by rw [nth_eq, nth_eq, List.getElem?_append_left (h i (List.mem_cons_self ..))]
    simp only [condsOf, List.filterMap_cons, h2] at *
    rw [h1]

theorem getO_set {α : Type} (fr : List (Option α)) (d s : Nat) (g : Option α) : getO (setN fr d g) s = if s = d ∧ d < fr.length then g else getO fr s := by
  rw [getO_eq, getO_eq, setN_eq, List.getElem?_set]
  by_cases e : d = s
  · subst e
    by_cases h : d < fr.length <;> simp [h]
  · rw [if_neg e, if_neg (fun h => e h.1.symm)]

theorem condsOf_mem {gm : List BT} {T : List Nat} {i : Nat} {b : BT} (hi : i ∈ T) (hb : nth gm i = some b) : b ∈ condsOf gm T := List.mem_filterMap.2 ⟨i, hi, hb⟩

section
variable {P : Program} {cx : Cx}

theorem put_out {a : Act} {d : Nat} {v : Value} (h : a.tmps.size ≤ d) : a.put (some d) v = a := by
  obtain ⟨t, ds⟩ := a
  simp only [Act.put] at *
  congr 1
  exact Array.setIfInBounds_eq_of_size_le h

theorem St.setD {B : Bs} {N : Nat} {E : Env} {a : Act} {w : World} {σ : Sy} {hf : Nat → Hl} (st : St B N E a w (ffOf σ) hf) (hN : σ.fr.length = N) (d : Option Nat) (v : Value) (g : Option G)
    (hg : ∀ g', g = some g' → (allT (condsOf σ.gm g'.tg) → Rel E w g'.v v) ∧ (¬ allT (condsOf σ.gm g'.tg) → v = undef)) (hp' : List Hl) : St B N E (a.put d v) w (ffOf ⟨setD σ.fr d g, hp', σ.gm⟩) hf := by
  have key : ∀ k, d = some k → k < N → St B N E (a.put d v) w (ffOf ⟨Sx.setD σ.fr d g, hp', σ.gm⟩) hf := by
    intro k hk hlt
    have := st.put d v (g.map fun g => (condsOf σ.gm g.tg, g.v)) (fun cs s e => by
      cases g with
      | none => cases e
      | some g' => simp only [Option.map_some, Option.some.injEq, Prod.mk.injEq] at e; obtain ⟨rfl, rfl⟩ := e; exact hg g' rfl) (fun j hj => by rw [hk] at hj; cases hj; exact hlt)
    have e : updO (ffOf σ) d (g.map fun g => (condsOf σ.gm g.tg, g.v)) = ffOf ⟨Sx.setD σ.fr d g, hp', σ.gm⟩ := by
      subst hk
      funext s
      simp only [updO, upd, ffOf, Sx.setD, getO_set]
      by_cases e : s = k
      · subst e; simp [hN, hlt]
      · simp [e]
    rw [e] at this
    exact this
  cases d with
  | none => exact st
  | some k =>
    by_cases hlt : k < N
    · exact key k rfl hlt
    · rw [put_out (by rw [st.size]; omega)]
      have e : ffOf ⟨Sx.setD σ.fr (some k) g, hp', σ.gm⟩ = ffOf σ := by
        funext s
        simp only [ffOf, Sx.setD, getO_set]
        rw [if_neg (fun h => hlt (by rw [← hN]; exact h.2))]
      rw [e]
      exact st

theorem hfOf_putH {hp : List Hl} {h : Nat} {hl : Hl} (hle : h ≤ hp.length) : hfOf (putH hp h hl) = upd (hfOf hp) h hl := by
  funext k
  unfold putH
  rw [lenN_eq]
  by_cases e : h = hp.length
  · subst e
    simp only [beq_self_eq_true, if_true, hfOf, nth_eq, upd]
    by_cases e2 : k = hp.length
    · subst e2; simp
    · rw [if_neg e2]
      by_cases e3 : k < hp.length
      · rw [List.getElem?_append_left e3]
      · rw [List.getElem?_eq_none (by simp; omega), List.getElem?_eq_none (by omega)]
  · have : (h == hp.length) = false := by simpa using e
    simp only [this, Bool.false_eq_true, if_false, hfOf, nth_eq, setN_eq, upd, List.getElem?_set]
    by_cases e2 : h = k
    · subst e2; rw [if_pos rfl, if_pos rfl, if_pos (by omega)]; rfl
    · rw [if_neg e2, if_neg (fun h => e2 h.symm)]

theorem hfOf_efsH : ∀ (es : List Ef) (hp : List Hl), okEfs hp es = true → hfOf (efsH hp es) = efsF (hfOf hp) es
  | [], hp, _ => rfl
  | .set h off vs :: es, hp, ho => by
    simp only [okEfs] at ho
    show hfOf (efsH (efH hp (.set h off vs)) es) = efsF (efF (hfOf hp) (.set h off vs)) es
    rw [hfOf_efsH es _ ho]
    congr 1
    simp only [efH, efF]
    cases hn : nth hp h with
    | none => simp [hfOf, hn]
    | some hl =>
      rw [nth_hf hn]
      cases hl <;> try rfl
      rename_i ty cs
      funext k
      have hlt : h < hp.length := by rw [nth_eq] at hn; exact (List.getElem?_eq_some_iff.1 hn).1
      simp only [hfOf, nth_eq, setN_eq, upd, List.getElem?_set]
      by_cases e2 : h = k
      · subst e2; rw [if_pos rfl, if_pos rfl, if_pos hlt]; rfl
      · rw [if_neg e2, if_neg (fun h => e2 h.symm)]
  | .put h hl :: es, hp, ho => by
    simp only [okEfs, Bool.and_eq_true, lenN_eq] at ho
    show hfOf (efsH (efH hp (.put h hl)) es) = efsF (efF (hfOf hp) (.put h hl)) es
    rw [hfOf_efsH es _ ho.2]
    congr 1
    exact hfOf_putH (Nat.le_of_ble_eq_true ho.1)

/-! ### guards -/

theorem guardOf_some {all : List Oper} {ops : Array Oper} (hops : ops.toList = all) {σ σ' : Sy} {T : List Nat} {o : Oper} (h : guardOf all σ o.guard = some (some (σ', T))) (wf : WfG σ) :
    WfG σ' ∧ ffOf σ' = ffOf σ ∧ σ'.hp = σ.hp ∧ σ'.fr.length = σ.fr.length ∧ (∀ i ∈ T, i < σ'.gm.length) ∧ (∃ x, σ'.gm = σ.gm ++ x) ∧
    (∀ (i : Nat), getO σ'.fr i = none ↔ getO σ.fr i = none) ∧
    ∀ (B : Bs) (N : Nat) (E : Env) (a : Act) (w : World) (ff : Nat → SG) (hf : Nat → Hl), St B N E a w ff hf → (∀ j want s, o.guard = some (j, want) → (nth all j).bind (·.dst) = some s → ff s = ffOf σ s) → (Region.wanted o (yielded ops a.tmps) = true ↔ allT (condsOf σ'.gm T)) := by
  unfold guardOf at h
  split at h
  · rename_i hg
    simp only [Option.some.injEq, Prod.mk.injEq] at h
    obtain ⟨rfl, rfl⟩ := h
    exact ⟨wf, rfl, rfl, rfl, by simp, ⟨[], by simp⟩, fun _ => Iff.rfl, fun B N E a w ff hf _ _ => by simp [Region.wanted, hg, condsOf, allT]⟩
  · rename_i j want hg
    split at h
    · rename_i oj hj
      split at h
      · rename_i s hs
        have hsl : ∀ (B : Bs) (N : Nat) (E : Env) (a : Act) (w : World) (ff : Nat → SG) (hf : Nat → Hl) (tg : List Nat) (gt gf : Option Nat) (c : BT), getO σ.fr s = some ⟨tg, gt, gf, .bool c⟩ → St B N E a w ff hf → (∀ j want s, o.guard = some (j, want) → (nth all j).bind (·.dst) = some s → ff s = ffOf σ s) →
            (Region.wanted o (yielded ops a.tmps) = true ↔ (allT (condsOf σ.gm tg) ∧ c.den = want)) := by
          intro B N E a w ff hf tg gt gf c hgo st hag
          have hag := hag j want s hg (by rw [hj]; exact hs)
          have hsk := st.slot s
          rw [hag, ffOf, hgo] at hsk
          simp only [Option.map_some, SlotOk] at hsk
          obtain ⟨h1, h2, h3⟩ := hsk
          have hops' : ops[j]? = some oj := by rw [← Array.getElem?_toList, hops, ← nth_eq]; exact hj
          have hv : a.tmps[s]? = some (a.tmps.getD s undef) := by simp [Array.getD, h1]
          simp only [Region.wanted, hg, yielded, hops', Option.bind_some, hs]
          rw [hv]
          by_cases hT : allT (condsOf σ.gm tg)
          · rw [(h2 hT).bool_inv]
            simp [hT]
          · rw [h3 hT]
            simp [undef, hT]
        split at h
        · rename_i tg gt gf b hgo
          split at h
          · rename_i hb
            simp only [Option.some.injEq, Prod.mk.injEq] at h
            obtain ⟨rfl, rfl⟩ := h
            refine ⟨wf, rfl, rfl, rfl, wf.tg s _ hgo, ⟨[], by simp⟩, fun _ => Iff.rfl, fun B N E a w ff hf st hag => ?_⟩
            rw [hsl B N E a w ff hf _ _ _ _ hgo st hag]
            have : b = want := by simpa using hb
            simp [BT.den, this]
          · cases h
        · rename_i tg gt gf c _ hgo
          have old : ∀ (i : Nat) (c' : BT), nth σ.gm i = some c' → (c'.den = true ↔ c.den = want) → σ = σ' → T = i :: tg → (WfG σ' ∧ ffOf σ' = ffOf σ ∧ σ'.hp = σ.hp ∧ σ'.fr.length = σ.fr.length ∧ (∀ i ∈ T, i < σ'.gm.length) ∧ (∃ x, σ'.gm = σ.gm ++ x) ∧ (∀ (i : Nat), getO σ'.fr i = none ↔ getO σ.fr i = none) ∧
              ∀ (B : Bs) (N : Nat) (E : Env) (a : Act) (w : World) (ff : Nat → SG) (hf : Nat → Hl), St B N E a w ff hf → (∀ j want s, o.guard = some (j, want) → (nth all j).bind (·.dst) = some s → ff s = ffOf σ s) → (Region.wanted o (yielded ops a.tmps) = true ↔ allT (condsOf σ'.gm T))) := by
            intro i c' hi hc e1 e2
            subst e1 e2
            refine ⟨wf, rfl, rfl, rfl, fun k hk => ?_, ⟨[], by simp⟩, fun _ => Iff.rfl, fun B N E a w ff hf st hag => ?_⟩
            · rcases List.mem_cons.1 hk with rfl | hk
              · rw [nth_eq] at hi; exact (List.getElem?_eq_some_iff.1 hi).1
              · exact wf.tg s _ hgo k hk
            · rw [hsl B N E a w ff hf _ _ _ _ hgo st hag]
              simp only [condsOf, List.filterMap_cons, hi, allT]
              rw [hc]
              exact And.comm
          have new : ∀ (c' : BT) (g' : G), (c'.den = true ↔ c.den = want) → g'.tg = tg → g'.v = .bool c → (∀ i, g'.gt = some i → (gt = some i) ∨ (i = σ.gm.length ∧ c' = c)) → (∀ i, g'.gf = some i → (gf = some i) ∨ (i = σ.gm.length ∧ c' = .not c)) → σ' = ⟨setN σ.fr s (some g'), σ.hp, σ.gm ++ [c']⟩ → T = lenN σ.gm :: tg →
              (WfG σ' ∧ ffOf σ' = ffOf σ ∧ σ'.hp = σ.hp ∧ σ'.fr.length = σ.fr.length ∧ (∀ i ∈ T, i < σ'.gm.length) ∧ (∃ x, σ'.gm = σ.gm ++ x) ∧ (∀ (i : Nat), getO σ'.fr i = none ↔ getO σ.fr i = none) ∧
              ∀ (B : Bs) (N : Nat) (E : Env) (a : Act) (w : World) (ff : Nat → SG) (hf : Nat → Hl), St B N E a w ff hf → (∀ j want s, o.guard = some (j, want) → (nth all j).bind (·.dst) = some s → ff s = ffOf σ s) → (Region.wanted o (yielded ops a.tmps) = true ↔ allT (condsOf σ'.gm T))) := by
            intro c' g' hc e1 e2 e3 e4 e5 e6
            subst e5 e6
            have hgrow : ∀ i b, nth σ.gm i = some b → nth (σ.gm ++ [c']) i = some b := fun i b hb => by
              rw [nth_eq] at hb ⊢
              rw [List.getElem?_append_left (List.getElem?_eq_some_iff.1 hb).1]; exact hb
            have hlast : nth (σ.gm ++ [c']) σ.gm.length = some c' := by rw [nth_eq]; simp
            refine ⟨⟨fun k g hk i hi => ?_, fun k g i hk hi => ?_, fun k g i hk hi => ?_⟩, ?_, rfl, by simp [setN_eq], fun k hk => ?_, ⟨[c'], rfl⟩, fun k => ?_, fun B N E a w ff hf st hag => ?_⟩
            · rw [getO_set] at hk
              split at hk
              · cases hk; rw [e1] at hi; have := wf.tg s _ hgo i hi; simp; omega
              · have := wf.tg k g hk i hi; simp; omega
            · rw [getO_set] at hk
              split at hk
              · cases hk
                rcases e3 i hi with h | ⟨rfl, rfl⟩
                · obtain ⟨c2, q1, q2⟩ := wf.gt s _ i hgo h
                  exact ⟨c2, by rw [e2]; exact q1, hgrow _ _ q2⟩
                · exact ⟨_, e2, hlast⟩
              · obtain ⟨c2, q1, q2⟩ := wf.gt k g i hk hi
                exact ⟨c2, q1, hgrow _ _ q2⟩
            · rw [getO_set] at hk
              split at hk
              · cases hk
                rcases e4 i hi with h | ⟨rfl, rfl⟩
                · obtain ⟨c2, q1, q2⟩ := wf.gf s _ i hgo h
                  exact ⟨c2, by rw [e2]; exact q1, hgrow _ _ q2⟩
                · exact ⟨_, e2, hlast⟩
              · obtain ⟨c2, q1, q2⟩ := wf.gf k g i hk hi
                exact ⟨c2, q1, hgrow _ _ q2⟩
            · funext k
              simp only [ffOf, getO_set]
              split
              · rename_i e
                rw [e.1, hgo]
                simp only [Option.map_some, e1, e2, condsOf_grow (wf.tg s _ hgo)]
              · cases hk : getO σ.fr k with
                | none => rfl
                | some g => simp only [Option.map_some, condsOf_grow (wf.tg k g hk)]
            · rw [lenN_eq] at hk
              rcases List.mem_cons.1 hk with rfl | hk
              · simp
              · have := wf.tg s _ hgo k hk; simp; omega
            · simp only [getO_set]
              split
              · rename_i e; rw [e.1, hgo]; simp
              · rfl
            · rw [hsl B N E a w ff hf _ _ _ _ hgo st hag]
              simp only [condsOf, List.filterMap_cons, lenN_eq, hlast, allT]
              have := condsOf_grow (c := c') (wf.tg s _ hgo)
              simp only [condsOf] at this
              rw [this, hc]
              exact And.comm
          split at h
          · rename_i hw
            subst hw
            split at h
            · rename_i _ i
              simp only [Option.some.injEq, Prod.mk.injEq] at h
              obtain ⟨c2, q1, q2⟩ := wf.gt s _ i hgo rfl
              cases q1
              exact old i c q2 Iff.rfl h.1 h.2.symm
            · simp only [Option.some.injEq, Prod.mk.injEq] at h
              refine new c _ Iff.rfl rfl rfl (fun i h => ?_) (fun i h => .inl h) h.1.symm h.2.symm
              simp only [Option.some.injEq] at h
              exact .inr ⟨by rw [← h, lenN_eq], rfl⟩
          · rename_i hw
            have hw : want = false := by simpa using hw
            subst hw
            split at h
            · rename_i _ i
              simp only [Option.some.injEq, Prod.mk.injEq] at h
              obtain ⟨c2, q1, q2⟩ := wf.gf s _ i hgo rfl
              cases q1
              exact old i (.not c) q2 (by simp [BT.den]) h.1 h.2.symm
            · simp only [Option.some.injEq, Prod.mk.injEq] at h
              refine new (.not c) _ (by simp [BT.den]) rfl rfl (fun i h => .inl h) (fun i h => ?_) h.1.symm h.2.symm
              simp only [Option.some.injEq] at h
              exact .inr ⟨by rw [← h, lenN_eq], rfl⟩
        · cases h
      · cases h
    · cases h

theorem guardOf_skip {all : List Oper} {ops : Array Oper} (hops : ops.toList = all) {σ : Sy} {o : Oper} (h : guardOf all σ o.guard = some none) {B : Bs} {N : Nat} {E : Env} {a : Act} {w : World} {ff : Nat → SG} {hf : Nat → Hl} (st : St B N E a w ff hf)
    (hag : ∀ j want s, o.guard = some (j, want) → (nth all j).bind (·.dst) = some s → ff s = ffOf σ s) : Region.wanted o (yielded ops a.tmps) = false := by
  unfold guardOf at h
  split at h
  · cases h
  · rename_i j want hg
    split at h
    · rename_i oj hj
      split at h
      · rename_i s hs
        split at h
        · rename_i tg gt gf b hgo
          split at h
          · cases h
          · rename_i hb
            have hag := hag j want s hg (by rw [hj]; exact hs)
            have hsk := st.slot s
            rw [hag, ffOf, hgo] at hsk
            simp only [Option.map_some, SlotOk] at hsk
            obtain ⟨h1, h2, h3⟩ := hsk
            have hops' : ops[j]? = some oj := by rw [← Array.getElem?_toList, hops, ← nth_eq]; exact hj
            have hv : a.tmps[s]? = some (a.tmps.getD s undef) := by simp [Array.getD, h1]
            simp only [Region.wanted, hg, yielded, hops', Option.bind_some, hs]
            rw [hv]
            by_cases hT : allT (condsOf σ.gm tg)
            · rw [(h2 hT).bool_inv]
              simpa [BT.den] using hb
            · rw [h3 hT]
              simp [undef]
        · split at h <;> split at h <;> simp at h
        · cases h
      · cases h
    · cases h

end
end Go.Sx
/- Picks; a run of operations; regions without a draw. -/
namespace Go.Sx
open Go

section
variable {P : Program} {cx : Cx} {σ : Sy} {T : List Nat} {o : Oper} {K : Out → Prop}

theorem allT_opt {gm : List BT} {g : Option Nat} {T : List Nat} (h : ∀ i, g = some i → ∃ c, nth gm i = some c ∧ c.den = true) (hT : allT (condsOf gm T)) : allT (condsOf gm (g.toList ++ T)) := by
  cases g with
  | none => simpa using hT
  | some i =>
    obtain ⟨c, h1, h2⟩ := h i rfl
    simp only [Option.toList_some, List.singleton_append, condsOf, List.filterMap_cons, h1, allT]
    exact ⟨h2, hT⟩

theorem stepPick_sound (wf : WfG σ) {c x y : Operand} (ho : o.op = .pick c x y) (h : stepPick cx σ T c x y K) : ∃ r, K r ∧ Local P cx.gl σ T o r := by
  unfold stepPick at h
  split at h
  · rename_i s
    have mc : (Operand.tmp s) ∈ o.op.operands.toList := by simp [ho, Op.operands]
    have mx : x ∈ o.op.operands.toList := by simp [ho, Op.operands]
    have my : y ∈ o.op.operands.toList := by simp [ho, Op.operands]
    have cval : ∀ {B : Bs} {N : Nat} {E : Env} {a : Act} {w : World} {ff : Nat → SG} {hf : Nat → Hl} {tg : List Nat} {gt gf : Option Nat} {ct : BT}, getO σ.fr s = some ⟨tg, gt, gf, .bool ct⟩ → subN tg T = true → St B N E a w ff hf → AgS σ ff o → allT (condsOf σ.gm T) → a.eval (.tmp s) = .bool ct.den := by
      intro B N E a w ff hf tg gt gf ct hgo hs st ag hT
      have h1 := st.slot s
      rw [ag_of ag mc s (by simp [opSlots]), ffOf, hgo] at h1
      simp only [Option.map_some, SlotOk] at h1
      exact (h1.2.1 (allT_sub hs hT)).bool_inv
    split at h
    · rename_i tg gt gf hgo
      split at h
      · rename_i hs
        obtain ⟨v, hv, h⟩ := outO_some h
        refine ⟨_, h, fun B N E a w ff hf hg st ag agh hT => ?_⟩
        refine yields_value st (v := a.eval x) ?_ rfl (rd_sound hv hg st (ag_of ag mx) hT)
        simp [execOp, ho, cval hgo hs st ag hT, asBool, BT.den]
      · exact h.elim
    · rename_i tg gt gf hgo
      split at h
      · rename_i hs
        obtain ⟨v, hv, h⟩ := outO_some h
        refine ⟨_, h, fun B N E a w ff hf hg st ag agh hT => ?_⟩
        refine yields_value st (v := a.eval y) ?_ rfl (rd_sound hv hg st (ag_of ag my) hT)
        simp [execOp, ho, cval hgo hs st ag hT, asBool, BT.den]
      · exact h.elim
    · rename_i tg gt gf ct _ _ hgo
      split at h
      · rename_i hs
        have ht : ∀ i, gt = some i → ct.den = true → ∃ c, nth σ.gm i = some c ∧ c.den = true := fun i hi hd => by
          obtain ⟨c, q1, q2⟩ := wf.gt s _ i hgo hi
          cases q1
          exact ⟨_, q2, hd⟩
        have hf' : ∀ i, gf = some i → ct.den = false → ∃ c, nth σ.gm i = some c ∧ c.den = true := fun i hi hd => by
          obtain ⟨c, q1, q2⟩ := wf.gf s _ i hgo hi
          cases q1
          exact ⟨_, q2, by simp [BT.den, hd]⟩
        split at h
        · rename_i bx h1 h2
          refine ⟨_, h, fun B N E a w ff hf hg st ag agh hT => ?_⟩
          refine yields_value st (v := .bool (ct.den && bx.den)) ?_ rfl (.bool rfl)
          have hc := cval hgo hs st ag hT
          cases hd : ct.den with
          | true =>
            have := (rd_sound h1 hg st (ag_of ag mx) (allT_opt (fun i hi => ht i hi hd) hT)).bool_inv
            simp [execOp, ho, hc, asBool, hd, this]
          | false =>
            have := (rd_sound h2 hg st (ag_of ag my) (allT_opt (fun i hi => hf' i hi hd) hT)).bool_inv
            simp [execOp, ho, hc, asBool, hd, this, BT.den]
        · rename_i y' _ h1 h2
          refine ⟨_, h, fun B N E a w ff hf hg st ag agh hT => ?_⟩
          refine yields_value st (v := .bool (ct.den || y'.den)) ?_ rfl (.bool rfl)
          have hc := cval hgo hs st ag hT
          cases hd : ct.den with
          | true =>
            have := (rd_sound h1 hg st (ag_of ag mx) (allT_opt (fun i hi => ht i hi hd) hT)).bool_inv
            simp [execOp, ho, hc, asBool, hd, this, BT.den]
          | false =>
            have := (rd_sound h2 hg st (ag_of ag my) (allT_opt (fun i hi => hf' i hi hd) hT)).bool_inv
            simp [execOp, ho, hc, asBool, hd, this]
        · exact h.elim
      · exact h.elim
    · exact h.elim
  · exact h.elim

theorem stepAny_sound (hc : CxOk P cx) (htab : TabOk P cx.gl cx.tab) (wf : WfG σ) (h : stepAny cx σ T o K) : ∃ r, K r ∧ Local P cx.gl σ T o r := by
  unfold stepAny at h
  split at h
  · rename_i c x y ho; exact stepPick_sound wf ho h
  · exact stepOp_sound hc htab h

/-- What the executor has done of some operations: a record an operation (none: it does not run). -/
inductive Runs (P : Program) (gl : List (Nat × SV)) (all : List Oper) : List Oper → Sy → List (Option (Sy × List Nat × Out)) → Sy → Prop where
  | nil (σ : Sy) : Runs P gl all [] σ [] σ
  | skip {o : Oper} {os : List Oper} {σ σ' : Sy} {rs : List (Option (Sy × List Nat × Out))} (hg : guardOf all σ o.guard = some none) (h : Runs P gl all os ⟨setD σ.fr o.dst none, σ.hp, σ.gm⟩ rs σ') : Runs P gl all (o :: os) σ (none :: rs) σ'
  | step {o : Oper} {os : List Oper} {σ σ1 σ' : Sy} {T : List Nat} {r : Out} {rs : List (Option (Sy × List Nat × Out))} (hg : guardOf all σ o.guard = some (some (σ1, T))) (hl : Local P gl σ1 T o r) (he : okEfs σ1.hp r.efs = true) (hte : T = [] ∨ r.efs = [])
      (h : Runs P gl all os ⟨setD σ1.fr o.dst (some ⟨T, none, none, r.v⟩), efsH σ1.hp r.efs, σ1.gm⟩ rs σ') : Runs P gl all (o :: os) σ (some (σ1, T, r) :: rs) σ'

theorem WfG.setD {σ : Sy} (wf : WfG σ) (d : Option Nat) (g : Option G) (hg : ∀ g', g = some g' → (∀ i ∈ g'.tg, i < σ.gm.length) ∧ g'.gt = none ∧ g'.gf = none) (hp : List Hl) : WfG ⟨setD σ.fr d g, hp, σ.gm⟩ := by
  have key : ∀ s g', getO (Sx.setD σ.fr d g) s = some g' → g = some g' ∨ getO σ.fr s = some g' := by
    intro s g' h
    cases d with
    | none => exact .inr h
    | some k =>
      simp only [Sx.setD, getO_set] at h
      split at h
      · exact .inl h
      · exact .inr h
  refine ⟨fun s g' h i hi => ?_, fun s g' i h hi => ?_, fun s g' i h hi => ?_⟩
  · rcases key s g' h with h | h
    · exact (hg g' h).1 i hi
    · exact wf.tg s g' h i hi
  · rcases key s g' h with h | h
    · rw [(hg g' h).2.1] at hi; cases hi
    · exact wf.gt s g' i h hi
  · rcases key s g' h with h | h
    · rw [(hg g' h).2.2] at hi; cases hi
    · exact wf.gf s g' i h hi

def fpR : Option (Sy × List Nat × Out) → FP
  | none => ⟨[], [], []⟩
  | some (_, _, r) => fpOf r

theorem stepOps_runs (hc : CxOk P cx) (htab : TabOk P cx.gl cx.tab) {all : List Oper} {ops : Array Oper} (hops : ops.toList = all) : ∀ (os : List Oper) (fs : List FP) (σ : Sy) (K : List FP → Sy → Prop), WfG σ → stepOps cx all os fs σ K → ∃ rs σ', Runs P cx.gl all os σ rs σ' ∧ WfG σ' ∧ K (fs ++ rs.map fpR) σ'
  | [], fs, σ, K, wf, h => ⟨[], σ, .nil σ, wf, by simpa [stepOps] using h⟩
  | o :: os, fs, σ, K, wf, h => by
    unfold stepOps at h
    split at h
    · exact h.elim
    · rename_i hg
      obtain ⟨rs, σ', h1, h2, h3⟩ := stepOps_runs hc htab hops os _ _ K (wf.setD o.dst none (by simp) σ.hp) h
      exact ⟨_, σ', .skip hg h1, h2, by simpa [fpR] using h3⟩
    · rename_i σ1 T hg
      obtain ⟨w1, _, _, _, w5, _⟩ := guardOf_some hops hg wf
      obtain ⟨r, hk, hl⟩ := stepAny_sound hc htab w1 h
      split at hk
      · rename_i he
        simp only [Bool.and_eq_true, Bool.or_eq_true, List.isEmpty_iff] at he
        obtain ⟨he, hte⟩ := he
        obtain ⟨rs, σ', h1, h2, h3⟩ := stepOps_runs hc htab hops os _ _ K (w1.setD o.dst (some ⟨T, none, none, r.v⟩) (by rintro g' ⟨⟩; exact ⟨w5, rfl, rfl⟩) _) hk
        exact ⟨_, σ', .step hg hl he hte h1, h2, by simpa [fpR] using h3⟩
      · exact hk.elim

theorem AgH_refl (hp : List Hl) (r : Out) : AgH hp (hfOf hp) r :=
  ⟨fun _ _ => rfl, fun _ _ _ cs h => ⟨cs, h, rfl, fun _ _ _ => rfl⟩, fun e _ => by cases e with
    | set h off vs => exact fun ty cs h => ⟨cs, h, rfl⟩
    | put h hl => rfl⟩

/-- The executor's state holds in a world. -/
structure StY (B : Bs) (N : Nat) (E : Env) (a : Act) (w : World) (σ : Sy) : Prop where
  st : St B N E a w (ffOf σ) (hfOf σ.hp)
  len : σ.fr.length = N
  wf : WfG σ
  ge : ∀ h, B.β0 h ≠ none ∨ B.τ0 h ≠ none ∨ B.ζ0 h ≠ none → h < σ.hp.length

theorem len_setD (fr : List (Option G)) (d : Option Nat) (g : Option G) : (setD fr d g).length = fr.length := by
  cases d with
  | none => rfl
  | some k => simp [setD, setN_eq]

theorem len_efH (hp : List Hl) (e : Ef) : hp.length ≤ (efH hp e).length := by
  cases e with
  | set h off vs =>
    simp only [efH]
    split
    · rw [setN_eq]; simp
    · exact Nat.le_refl _
  | put h hl =>
    simp only [efH, putH]
    split
    · simp
    · rw [setN_eq]; simp
theorem len_efsH : ∀ (es : List Ef) (hp : List Hl), hp.length ≤ (efsH hp es).length
  | [], _ => Nat.le_refl _
  | e :: es, hp => Nat.le_trans (len_efH hp e) (len_efsH es (efH hp e))

/-- Without a draw: the operations come in the order of the text. -/
theorem runs_wpList {gl : List (Nat × SV)} {all : List Oper} {ops : Array Oper} (hops : ops.toList = all) {B : Bs} {N : Nat} (hg : glOk B gl) {Q : Exit → Act → World → Prop} {os : List Oper} {σ σ' : Sy} {rs : List (Option (Sy × List Nat × Out))} (h : Runs P gl all os σ rs σ') :
    ∀ (E : Env) (a : Act) (w : World), StY B N E a w σ → (∀ E' a' w', StY B N E' a' w' σ' → Q .normal a' w') → wpList P ops Q os a w := by
  induction h with
  | nil σ => intro E a w hs hQ; exact hQ E a w hs
  | skip hgd h ih =>
    intro E a w hs hQ
    have hw := guardOf_skip hops hgd hs.st (fun _ _ _ _ _ => rfl)
    unfold wpList
    rw [if_neg (by simp [hw])]
    exact ih E _ w ⟨hs.st.setD hs.len _ _ none (by simp) _, by rw [len_setD]; exact hs.len, hs.wf.setD _ none (by simp) _, hs.ge⟩ hQ
  | @step o os σ σ1 σ' T r rs hgd hl he hte h ih =>
    intro E a w hs hQ
    obtain ⟨w1, w2, w3, w4, w5, _, _, w6⟩ := guardOf_some hops hgd hs.wf
    have hst : St B N E a w (ffOf σ1) (hfOf σ1.hp) := by rw [w2, w3]; exact hs.st
    have hwant := w6 B N E a w _ _ hs.st (fun _ _ _ _ _ => rfl)
    have hlen : σ1.fr.length = N := by rw [w4]; exact hs.len
    have hge : ∀ h, B.β0 h ≠ none ∨ B.τ0 h ≠ none ∨ B.ζ0 h ≠ none → h < (efsH σ1.hp r.efs).length := fun h hb => Nat.lt_of_lt_of_le (hs.ge h hb) (by rw [← w3]; exact len_efsH _ _)
    unfold wpList
    by_cases hT : allT (condsOf σ1.gm T)
    · rw [if_pos (hwant.2 hT)]
      refine .inl (hl B N E a w _ _ hg hst (fun _ _ => rfl) (AgH_refl _ _) hT _ _ fun v w' E' x1 x2 x3 x4 => ?_)
      refine ih E' _ w' ⟨?_, by rw [len_setD]; exact hlen, w1.setD _ _ (by rintro g' ⟨⟩; exact ⟨w5, rfl, rfl⟩) _, hge⟩ hQ
      have := hst.step x1 x2 x3
      rw [← hfOf_efsH _ _ he] at this
      exact this.setD hlen _ _ _ (by rintro g' ⟨⟩; exact ⟨fun _ => x4, fun h => absurd hT h⟩) _
    · rw [if_neg (fun h => hT (hwant.1 h))]
      refine ih E _ w ⟨?_, by rw [len_setD]; exact hlen, w1.setD _ _ (by rintro g' ⟨⟩; exact ⟨w5, rfl, rfl⟩) _, hge⟩ hQ
      have hef : r.efs = [] := by
        rcases hte with h | h
        · subst h; exact absurd trivial hT
        · exact h
      have := hst.setD hlen o.dst undef (some ⟨T, none, none, r.v⟩) (by rintro g' ⟨⟩; exact ⟨fun h => absurd h hT, fun _ => rfl⟩) (efsH σ1.hp r.efs)
      rw [hef] at this ⊢
      exact this

theorem wpList_region {id : Nat} {ops : Array Oper} {Q : Exit → Act → World → Prop} {a : Act} {w : World} (h : wpList P ops Q ops.toList a w) : (Code.region id ops false).wp P Q a w := wp_region_list h

/-! ### the end of a region -/

theorem getO_tidy : ∀ (fr : List (Option G)) (s : Nat), getO (tidy fr) s = match getO fr s with
    | some ⟨[], _, _, v⟩ => some ⟨[], none, none, v⟩
    | _ => none
  | [], s => by simp [tidy, getO]
  | g :: fr, s => by
    have ih := getO_tidy fr
    cases s with
    | zero =>
      cases g with
      | none => rfl
      | some g =>
        obtain ⟨tg, gt, gf, v⟩ := g
        cases tg <;> rfl
    | succ s =>
      cases g with
      | none => exact ih s
      | some g =>
        obtain ⟨tg, gt, gf, v⟩ := g
        cases tg <;> exact ih s

theorem len_tidy : ∀ (fr : List (Option G)), (tidy fr).length = fr.length
  | [] => rfl
  | g :: fr => by
    cases g with
    | none => simp [tidy, len_tidy fr]
    | some g =>
      obtain ⟨tg, gt, gf, v⟩ := g
      cases tg <;> simp [tidy, len_tidy fr]

theorem StY.tidy {B : Bs} {N : Nat} {E : Env} {a : Act} {w : World} {σ : Sy} (h : StY B N E a w σ) : StY B N E a w ⟨Sx.tidy σ.fr, σ.hp, []⟩ := by
  refine ⟨⟨h.st.base, h.st.heap, fun s => ?_, h.st.size, h.st.defers⟩, by rw [len_tidy]; exact h.len, ⟨fun s g hs => ?_, fun s g i hs hi => ?_, fun s g i hs hi => ?_⟩, h.ge⟩
  · have h1 := h.st.slot s
    simp only [ffOf, getO_tidy] at h1 ⊢
    cases hs : getO σ.fr s with
    | none => trivial
    | some g =>
      obtain ⟨tg, gt, gf, v⟩ := g
      rw [hs] at h1
      cases tg with
      | nil => exact h1
      | cons i tg => trivial
  all_goals
    simp only [getO_tidy] at hs
    split at hs
    · cases hs; simp at *
    · cases hs

end
end Go.Sx
