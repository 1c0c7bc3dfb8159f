/- Part of the proof of the statement: an evaluator of the code at closed data, run by the kernel, and that it is sound; it has no conditions of its own. -/
import Derived.Below
import Derived.Laws.IdiomStrings
import Derived.Laws.AppendOwn
import Derived.Test.YtljlcljlnhaniaaGreatDoorSxc
set_option linter.unusedVariables false
set_option linter.unusedSimpArgs false
/- Rows: made, written, copied; their elements; parts of slices. -/
namespace Go.Sx
open Go

theorem Rel.mrow_inv {E : Env} {w : World} {h : Nat} {v : Value} (hr : Rel E w (.mrow h) v) : ∃ b m, E.β h = some b ∧ E.κ h = some m ∧ v = .slice (some ⟨b, 0, none⟩) m m := by
  cases hr with
  | ro h => cases h
  | mrow hb hm hv => exact ⟨_, _, hb, hm, hv⟩
theorem Rel.mptr_inv {E : Env} {w : World} {h j off : Nat} {v : Value} (hr : Rel E w (.mptr h j off) v) : ∃ b sz, E.β h = some b ∧ E.ζ h = some sz ∧ v = .pointer (some ⟨b, j * sz + off, none⟩) := by
  cases hr with
  | ro h => cases h
  | mptr hb hz hv => exact ⟨_, _, hb, hz, hv⟩

/-- A row comes. -/
theorem new_row {B : Bs} {N : Nat} {E : Env} {a : Act} {w w' : World} {ff : Nat → SG} {hf : Nat → Hl} (st : St B N E a w ff hf) {h : Nat} (hfresh : hf h = .fresh) {ty : TypeId} {n : ST} {sz m : Nat} {f : Nat → List SV} {C : Array Value}
    (hg : w.grownBy w' none) (hC : w'.heap[w.heap.size]? = some (.cells C ty (0, 0))) (hn : n.den = (m : Int)) (hm : m ≤ maxLen) (hrow : rowIs E w f m sz C) :
    ∃ E', Ext E w E' w' ∧ Base B E' w' ∧ (∀ k, HOk E' w' k (upd hf h (.row ty n sz f) k)) ∧ E'.β h = some w.heap.size ∧ E'.κ h = some m ∧ E'.ζ h = some sz := by
  have hb := st.base
  have hfr := st.heap h
  rw [hfresh] at hfr
  obtain ⟨f1, f2, f3, f4⟩ := hfr
  let E' : Env := ⟨upd E.β h (some w.heap.size), E.τ, upd E.O w.heap.size (some h), upd E.κ h (some m), upd E.ζ h (some sz), E.I⟩
  have hold : ∀ b, b < w.heap.size → w'.heap[b]? = w.heap[b]? := fun b hlt => hg.block b hlt (by simp)
  have hltnew : w.heap.size < w'.heap.size := (Array.getElem?_eq_some_iff.1 hC).1
  have updNone : ∀ {α : Type} (F : Nat → Option α) (x : α) (k : Nat) (y : α), F h = none → F k = some y → upd F h (some x) k = some y := by
    intro α F x k y h0 hk
    unfold upd
    by_cases e : k = h
    · subst e; rw [h0] at hk; cases hk
    · rw [if_neg e]; exact hk
  have hx : Ext E w E' w' := by
    refine ⟨fun k b hk => updNone _ _ k b f1 hk, fun _ _ h => .inl h, fun k b hk => updNone _ _ k b f3 hk, fun k b hk => updNone _ _ k b f4 hk, fun _ _ h => h, fun b o hi => ?_⟩
    simp only [World.cell?]
    rw [hold b (hb.Ibd b o hi)]
  refine ⟨E', hx, ⟨hg.os.trans hb.os, hg.tape.trans hb.tape, hg.output.trans hb.output, ?_, ?_, ?_, ?_, ?_, ?_, hb.β0.ext hx⟩, fun k => ?_, by simp [E', upd], by simp [E', upd], by simp [E', upd]⟩
  · have := hb.size; omega
  · intro b hlt hX; rw [hold b (by have := hb.size; omega)]; exact hb.old b hlt hX
  · intro b o hi
    obtain ⟨i1, i2⟩ := hb.I0 b o hi
    exact ⟨i1, by rw [hx.cell b o i1]; exact i2⟩
  · intro b o hi; have := hb.Ibd b o hi; omega
  · exact hb.Inew
  · intro b k hO
    have hO : upd E.O w.heap.size (some h) b = some k := hO
    unfold upd at hO
    split at hO
    · rename_i e; subst e; have := hb.size; exact ⟨hltnew, .inl this⟩
    · obtain ⟨o1, o2⟩ := hb.Obd b k hO; exact ⟨by omega, o2⟩
  · by_cases e : k = h
    · subst e
      simp only [upd, if_pos]
      refine ⟨w.heap.size, C, m, by simp [E', upd], by simp [E', upd], by simp [E', upd], by simp [E', upd], hC, hn, hm, ⟨hrow.1, hrow.2.1, fun i j s v a b c => (hrow.2.2.1 i j s v a b c).mono hx.I hx.cell, hrow.2.2.2⟩, fun o hi => ?_⟩
      have := hb.Ibd _ _ hi
      omega
    · simp only [upd, if_neg e]
      refine HOk.keep hx (st.heap k) (by simp [E', upd, e]) rfl (by simp [E', upd, e]) (by simp [E', upd, e]) fun b hO => ?_
      have hlt := owned_lt hb hO
      exact ⟨by simp [E', upd, Nat.ne_of_lt hlt]; exact hO, hold b hlt, fun _ h => h⟩

/-- A row's block is written. -/
theorem set_row {B : Bs} {N : Nat} {E : Env} {a : Act} {w : World} {ff : Nat → SG} {hf : Nat → Hl} (st : St B N E a w ff hf) {h b m : Nat} {ty : TypeId} {n : ST} {sz : Nat} {f f' : Nat → List SV} {C C' : Array Value}
    (hh : hf h = .row ty n sz f) (hβ : E.β h = some b) (hκ : E.κ h = some m) (hC : w.heap[b]? = some (.cells C ty (0, 0))) (hrow : rowIs E w f' m sz C') :
    Ext E w E (w.setRow b C') ∧ Base B E (w.setRow b C') ∧ (∀ k, HOk E (w.setRow b C') k (upd hf h (.row ty n sz f') k)) := by
  have hb := st.base
  have hk := st.heap h
  rw [hh] at hk
  obtain ⟨b', C1, m', k1, k2, k3, k4, k5, k6, k7, k8, k9⟩ := hk
  obtain rfl : b = b' := Option.some.inj (hβ.symm.trans k1)
  obtain rfl : m = m' := Option.some.inj (hκ.symm.trans k2)
  have hx : Ext E w E (w.setRow b C') := ⟨fun _ _ h => h, fun _ _ h => .inl h, fun _ _ h => h, fun _ _ h => h, fun _ _ h => h, fun b2 o hi => cell_setRow_other w b C' ⟨b2, o, none⟩ (fun e => by subst e; exact k9 o hi)⟩
  have hX := (hb.Obd b h k4).2
  refine ⟨hx, ⟨hb.os, hb.tape, hb.output, by simpa using hb.size, ?_, ?_, ?_, hb.Inew, ?_, hb.β0⟩, fun k => ?_⟩
  · intro b2 hlt hnX
    by_cases e : b2 = b
    · subst e; rcases hX with hX | hX
      · omega
      · exact absurd hX hnX
    · rw [setRow_other w b b2 C' e]; exact hb.old b2 hlt hnX
  · intro b2 o hi
    obtain ⟨i1, i2⟩ := hb.I0 b2 o hi
    exact ⟨i1, by rw [hx.cell b2 o i1]; exact i2⟩
  · intro b2 o hi; have := hb.Ibd b2 o hi; simpa using this
  · intro b2 k hO; have := hb.Obd b2 k hO; simpa using this
  · by_cases e : k = h
    · subst e
      simp only [upd, if_pos]
      exact ⟨b, C', m, hβ, hκ, k3, k4, setRow_heap w b C C' ty (0, 0) hC, k6, k7, ⟨hrow.1, hrow.2.1, fun i j s v a b c => (hrow.2.2.1 i j s v a b c).mono hx.I hx.cell, hrow.2.2.2⟩, k9⟩
    · simp only [upd, if_neg e]
      refine HOk.keep hx (st.heap k) rfl rfl rfl rfl fun b2 hO => ⟨hO, ?_, fun _ h => h⟩
      refine setRow_other w b b2 C' (fun e2 => ?_)
      subst e2
      rw [k4] at hO
      exact e (Option.some.inj hO).symm

section
variable {P : Program} {cx : Cx} {σ : Sy} {T : List Nat} {o : Oper} {K : Out → Prop}

theorem local_nilCheck {x : Operand} (ho : o.op = .nilCheck x) {v : SV} (hv : rd cx σ T x = some v) (hp : (∃ h off, v = .ptr h off) ∨ (∃ cs, v = .rptr cs) ∨ (∃ h j off, v = .mptr h j off) ∨ (∃ n sz f, v = .rarr n sz f) ∨ ∃ n h j off, v = .optr n h j off) : Local P cx.gl σ T o ⟨v, [], [], []⟩ := by
  intro B N E a w ff hf' hg st ag agh hT
  have hr := rd_sound hv hg st (ag_of ag (by simp [ho, Op.operands])) hT
  have : ∃ ad, a.eval x = .pointer (some ad) := by
    rcases hp with ⟨h, off, rfl⟩ | ⟨cs, rfl⟩ | ⟨h, j, off, rfl⟩ | ⟨n, sz, f, rfl⟩ | ⟨n, h, j, off, rfl⟩
    · obtain ⟨b, _, e⟩ := hr.ptr_inv; exact ⟨_, e⟩
    · obtain ⟨ad, e, _⟩ := hr.rptr_inv.rptr_inv; exact ⟨_, e⟩
    · obtain ⟨b, sz, _, _, e⟩ := hr.mptr_inv; exact ⟨_, e⟩
    · have hx : RO E.I w (.rarr n sz f) (a.eval x) := by cases hr with | ro h => exact h
      generalize a.eval x = ev at hx
      cases hx; exact ⟨_, rfl⟩
    · obtain ⟨⟨b, o, e⟩, _⟩ := hr.optr_inv; exact ⟨_, e⟩
  obtain ⟨ad, e⟩ := this
  exact yields_value st (v := a.eval x) (by simp [execOp, ho, e]) rfl hr

theorem fresh_of {hf' : Nat → Hl} {r : Out} {hl : Hl} (agh : AgH σ.hp hf' r) (hm : Ef.put (lenN σ.hp) hl ∈ r.efs) : hf' (lenN σ.hp) = .fresh := by
  have := agh.efs _ hm
  simp only [AgE, hfOf, nth_eq, lenN_eq] at this
  rw [lenN_eq, this]; simp

theorem local_make0 (hc : CxOk P cx) {t e : Nat} {x y : Operand} (ho : o.op = .makeSlice t x y) {ti te : TI} (hlt : look t cx.tt = some ti) (hk : ti.k = .slice e) (hle : look e cx.tt = some te) {kl kc : IntKind} {c : ST} (hx : rd cx σ T x = some (.int kl (.l 0))) (hy : rd cx σ T y = some (.int kc c))
    (hob : allT (condsOf σ.gm T) → 0 ≤ c.den ∧ c.den * te.bytes ≤ 140737488355328 ∧ c.den ≤ 9223372036854775807) :
    Local P cx.gl σ T o ⟨.gsl (.l false) (.l 0) te.size (fun _ => []) (lenN σ.hp), [.put (lenN σ.hp) (.tail e (.l 0) te.size)], [], []⟩ := by
  intro B N E a w ff hf' hg st ag agh hT K' Q hK
  have hrx := (rd_sound hx hg st (ag_of ag (by simp [ho, Op.operands])) hT).int_inv
  have hry := (rd_sound hy hg st (ag_of ag (by simp [ho, Op.operands])) hT).int_inv
  obtain ⟨o1, o2, o3⟩ := hob hT
  obtain ⟨i, z, hi, hsize, hby, hz, hzs⟩ := (hc.ti hle).info
  have hu := (hc.ti hlt).slice hk
  have hcn : c.den = ((c.den.toNat : Nat) : Int) := by omega
  have hbytes : i.bytes * c.den.toNat ≤ 281474976710656 := by
    rw [hby]
    have : ((te.bytes * c.den.toNat : Nat) : Int) ≤ 140737488355328 := by
      rw [Int.natCast_mul, ← hcn, Int.mul_comm]; exact o2
    omega
  obtain ⟨w', r1, r2, r3⟩ := run_make_own (P := P) w 0 t e i z te.size hu hi hz hsize kl kc c.den.toNat hbytes (by simp only [maxLen]; omega) (Nat.zero_le _)
  have hfresh := fresh_of agh (List.mem_singleton.2 rfl)
  obtain ⟨E', x1, x2, x3, x4, x5, x6⟩ := put_tail (h := lenN σ.hp) (e := e) (sz := te.size) (n := 0) (m := 0) (xs := []) (news := []) st (.inl ⟨hfresh, rfl⟩) (by simp) (World.ownsRow_nil w 0 e te.size) (by simpa using r2) (.inr ⟨rfl, r3⟩) ⟨_, _, rfl⟩ (fun h => absurd hfresh h) (.l 0) (by simp [ST.den])
  unfold Oper.wp
  have : (execOp a.eval o).run P w = .ok (.value (.slice (some ⟨w.heap.size, 0, none⟩) 0 c.den.toNat)) w' := by
    simp only [execOp, ho, Sem.run_bind, hrx, hry, ST.den]
    rw [hcn, r1]
    rfl
  rw [this]
  refine hK _ _ E' x1 x2 x3 (.gsl ?_ ⟨_, 0, _, x4, by simp [ST.den], fun _ => rfl⟩)
  exact grown_RO (n := 0) (m := 0) (xs := []) (news := []) (by simpa using r2) (by simp) (by simp [BT.den]) (by simp [ST.den]) (by simp) x5 x6 (by intro i hi; omega) (by intro j hj; omega) (by intro i j s u hi; omega) (by intro i j s u hi; omega)

theorem local_makeN (hc : CxOk P cx) {t e : Nat} {x y : Operand} (ho : o.op = .makeSlice t x y) {ti te : TI} (hlt : look t cx.tt = some ti) (hk : ti.k = .slice e) (hle : look e cx.tt = some te) {kl kc : IntKind} {n n' : ST} (hx : rd cx σ T x = some (.int kl n)) (hy : rd cx σ T y = some (.int kc n')) (hsame : x = y) (hz0 : 0 < te.size)
    (hob : allT (condsOf σ.gm T) → 0 ≤ n.den ∧ n.den * te.bytes ≤ 140737488355328 ∧ n.den ≤ 9223372036854775807) :
    Local P cx.gl σ T o ⟨.mrow (lenN σ.hp), [.put (lenN σ.hp) (.row e (.a n.den) te.size fun _ => te.zero)], [], []⟩ := by
  subst hsame
  intro B N E a w ff hf' hg st ag agh hT K' Q hK
  have hrx := (rd_sound hx hg st (ag_of ag (by simp [ho, Op.operands])) hT).int_inv
  obtain ⟨o1, o2, o3⟩ := hob hT
  obtain ⟨i, z, hi, hsize, hby, hz, hzs⟩ := (hc.ti hle).info
  have hu := (hc.ti hlt).slice hk
  have hcn : n.den = ((n.den.toNat : Nat) : Int) := by omega
  have hbytes : i.bytes * n.den.toNat ≤ 281474976710656 := by
    rw [hby]
    have : ((te.bytes * n.den.toNat : Nat) : Int) ≤ 140737488355328 := by
      rw [Int.natCast_mul, ← hcn, Int.mul_comm]; exact o2
    omega
  have hmax : n.den.toNat ≤ maxLen := by simp only [maxLen]; omega
  obtain ⟨w', r1, r2, r3⟩ := run_make_full (P := P) w 0 t e i z te.size hu hi hz hsize kl kl n.den.toNat hbytes hmax (Nat.zero_le _)
  have hfresh := fresh_of agh (List.mem_singleton.2 rfl)
  obtain ⟨hxl, hr2⟩ := r2
  rcases hr2 with ⟨h0, _⟩ | ⟨g, cap, cur, e0, _, hcur, hnc, hcm, hcs, htake⟩
  · cases h0
  simp only [Value.slice.injEq, Option.some.injEq, Addr.mk.injEq, and_true, true_and] at e0
  obtain ⟨rfl, hcap⟩ := e0
  subst hcap
  have hcur' : cur = madeCells z.cells (n.den.toNat * te.size) := by
    apply Array.ext'
    rw [← htake, List.take_of_length_le]
    simp [hcs]
  have hzl := (hc.ti hle).zlen
  have hzg := zsB_get (I := E.I) (w := w) hzs
  have hrow : rowIs E w (fun _ => te.zero) n.den.toNat te.size cur := by
    have hzsz : z.cells.size = te.size := by have := hzg.1; rw [hzl] at this; simpa using this.symm
    have hget : ∀ (q : Nat) (v : Value), cur[q]? = some v → z.cells[q % te.size]? = some v := by
      intro q v hq
      have hqlt : q < n.den.toNat * te.size := by rw [← hcs]; exact (Array.getElem?_eq_some_iff.1 hq).1
      rw [hcur'] at hq
      have hm : q % te.size < z.cells.size := by rw [hzsz]; exact Nat.mod_lt _ hz0
      have hne : n.den.toNat * te.size ≠ 0 := by omega
      have hne1 : n.den.toNat ≠ 0 := fun h => by rw [h] at hne; simp at hne
      have hne2 : te.size ≠ 0 := by omega
      simp [madeCells, hne1, hne2, hqlt, hzsz, hm, Array.getElem?_map, Array.getElem?_range] at hq
      rw [← hq]
      simp [hm]
    refine ⟨hcs, fun _ _ => hzl, fun i j s v hi' hs hv => ?_, fun v hv => ?_⟩
    · have hj : j < te.size := by rw [← hzl]; exact (List.getElem?_eq_some_iff.1 hs).1
      have := hget _ v hv
      rw [Nat.mul_comm, Nat.mul_add_mod, Nat.mod_eq_of_lt hj] at this
      exact hzg.2 j s v hs (by simpa using this)
    · obtain ⟨q, hq, rfl⟩ := Array.mem_iff_getElem.1 hv
      have h1 := hget q _ (Array.getElem?_eq_getElem hq)
      have hm : q % te.size < te.zero.length := by rw [hzl]; exact Nat.mod_lt _ hz0
      have : zB (te.zero[q % te.size]) cur[q] = true := by
        have key : ∀ (ss : List SV) (vs : List Value) (k : Nat) (s : SV) (v : Value), zsB ss vs = true → ss[k]? = some s → vs[k]? = some v → zB s v = true := by
          intro ss
          induction ss with
          | nil => intro vs k s v _ h; simp at h
          | cons s0 ss ih =>
            intro vs k s v h h1 h2
            cases vs with
            | nil => simp at h2
            | cons v0 vs =>
              simp only [zsB, Bool.and_eq_true] at h
              cases k with
              | zero => simp at h1 h2; subst h1; subst h2; exact h.1
              | succ k => simp at h1 h2; exact ih vs k s v h.2 h1 h2
        exact key _ _ _ _ _ hzs (List.getElem?_eq_getElem hm) (by simpa using h1)
      exact zB_one this
  obtain ⟨E', x1, x2, x3, x4, x5, x6⟩ := new_row st hfresh (n := .a n.den) (m := n.den.toNat) r3 hcur hcn hmax hrow
  unfold Oper.wp
  have : (execOp a.eval o).run P w = .ok (.value (.slice (some ⟨w.heap.size, 0, none⟩) n.den.toNat n.den.toNat)) w' := by
    simp only [execOp, ho, Sem.run_bind, hrx]
    rw [hcn]
    simp only [Int.toNat_natCast] at r1 ⊢
    rw [r1]
    rfl
  rw [this]
  exact hK _ _ E' x1 x2 x3 (.mrow x4 x5 rfl)

end
end Go.Sx
/- Rows: elements, copies; parts of slices and strings. -/
namespace Go.Sx
open Go

section
variable {P : Program} {cx : Cx} {σ : Sy} {T : List Nat} {o : Oper} {K : Out → Prop}

theorem row_same {hf' : Nat → Hl} {r : Out} {h : Nat} {hl : Hl} (agh : AgH σ.hp hf' r) (hm : h ∈ r.rds) (hh : nth σ.hp h = some hl) : hf' h = hl := by
  rw [agh.rds h hm, nth_hf hh]

theorem local_len_row (hc : CxOk P cx) {c : Call} (ho : o.op = .call c) (hcal : c.callee = .builtin .len) {x : Operand} {t : Nat} {ti : TI} (hx : c.args.toList = [x]) (ht : c.argTypes.toList = [t]) (hl : look t cx.tt = some ti) {e : TypeId} (hk : ti.k = .slice e)
    {h ty sz : Nat} {n : ST} {f : Nat → List SV} (hv : rd cx σ T x = some (.mrow h)) (hh : nth σ.hp h = some (.row ty n sz f)) : Local P cx.gl σ T o ⟨.int .i64 n, [], [h], []⟩ := by
  intro B N E a w ff hf' hg st ag agh hT
  have hmem : x ∈ o.op.operands.toList := by simp [ho, Op.operands, Call.operands, hcal, hx]
  obtain ⟨b, m, hb, hm, e3⟩ := (rd_sound hv hg st (ag_of ag hmem) hT).mrow_inv
  have e1 : c.args = #[x] := Array.ext' (by simpa using hx)
  have e2 : c.argTypes = #[t] := Array.ext' (by simpa using ht)
  have hk' := st.heap h
  rw [row_same agh (List.mem_singleton.2 rfl) hh] at hk'
  obtain ⟨b', C, m', k1, k2, k3, k4, k5, k6, k7, k8, k9⟩ := hk'
  obtain rfl : m = m' := Option.some.inj (hm.symm.trans k2)
  have hrun := run_len_any hc hl hk (w := w) (a := some ⟨b, 0, none⟩) (m := m) (c := m) (ty := o.type)
  refine yields_value st (v := .int .i64 m) ?_ rfl (.int k6)
  simp [execOp, ho, resolve, hcal, e1, e2, invoke, builtin, e3, hrun]

theorem local_index_row (hc : CxOk P cx) {t e sz : Nat} {ti : TI} (hl : look t cx.tt = some ti) (hk : ti.k = .slice e) (hn : size? cx e = some sz) {x y : Operand} (ho : o.op = .indexAddr t x y) {h ty : Nat} {n : ST} {f : Nat → List SV} {k : IntKind} {i : ST}
    (hv : rd cx σ T x = some (.mrow h)) (hh : nth σ.hp h = some (.row ty n sz f)) (hi : rd cx σ T y = some (.int k i)) (h1 : allT (condsOf σ.gm T) → 0 ≤ i.den ∧ i.den < n.den) : Local P cx.gl σ T o ⟨.mptr h i.den.toNat 0, [], [h], []⟩ := by
  intro B N E a w ff hf' hg st ag agh hT
  obtain ⟨b, m, hb, hm, e3⟩ := (rd_sound hv hg st (ag_of ag (by simp [ho, Op.operands])) hT).mrow_inv
  have hy := (rd_sound hi hg st (ag_of ag (by simp [ho, Op.operands])) hT).int_inv
  obtain ⟨b1, b2⟩ := h1 hT
  have hk' := st.heap h
  rw [row_same agh (List.mem_singleton.2 rfl) hh] at hk'
  obtain ⟨b', C, m', k1, k2, k3, k4, k5, k6, k7, k8, k9⟩ := hk'
  obtain rfl : m = m' := Option.some.inj (hm.symm.trans k2)
  have hrun := run_indexAt_sl hc hl hk hn (w := w) (a := ⟨b, 0, none⟩) (m := m) (cap := m) (k := k) b1 (show i.den < (m : Int) by omega)
  refine yields_value st (v := .pointer (some ⟨b, i.den.toNat * sz + 0, none⟩)) ?_ rfl (.mptr hb k3 rfl)
  simp [execOp, ho, e3, hy, hrun, add_lit]

theorem local_fieldAddr_mptr (hc : CxOk P cx) {t i fo ft m h j off : Nat} {x : Operand} (ho : o.op = .fieldAddr t x i) (hv : rd cx σ T x = some (.mptr h j off)) (hf : field? cx t i = some (fo, ft)) (hn : size? cx ft = some (m + 1)) :
    Local P cx.gl σ T o ⟨.mptr h j (off + fo), [], [], []⟩ := by
  intro B N E a w ff hf' hg st ag agh hT
  have hr := rd_sound hv hg st (ag_of ag (by simp [ho, Op.operands])) hT
  obtain ⟨b, sz, hb, hz, hx⟩ := hr.mptr_inv
  refine yields_value st (v := .pointer (some ⟨b, j * sz + (off + fo), none⟩)) ?_ rfl (.mptr hb hz rfl)
  simp [execOp, ho, hx, run_fieldAt hc hf hn, add_lit, Nat.add_assoc]

theorem local_load_mptr (hc : CxOk P cx) {t : Nat} {x : Operand} (ho : o.op = .load t x) {h j off n ty sz : Nat} {m : ST} {f : Nat → List SV} {s : SV} (hv : rd cx σ T x = some (.mptr h j off)) (hn : size? cx t = some n)
    (hh : nth σ.hp h = some (.row ty m sz f)) (hob : allT (condsOf σ.gm T) → (j : Int) < m.den) (hle : off + n ≤ (f j).length) (hp : pack (isAgg? cx t) (((f j).drop off).take n) = some s) : Local P cx.gl σ T o ⟨s, [], [h], []⟩ := by
  intro B N E a w ff hf hg st ag agh hT
  have hr := rd_sound hv hg st (ag_of ag (by simp [ho, Op.operands])) hT
  obtain ⟨b, sz', hb, hz, hx⟩ := hr.mptr_inv
  have hk' := st.heap h
  rw [row_same agh (List.mem_singleton.2 rfl) hh] at hk'
  obtain ⟨b', C, m', k1, k2, k3, k4, k5, k6, k7, k8, k9⟩ := hk'
  obtain rfl : b = b' := Option.some.inj (hb.symm.trans k1)
  obtain rfl : sz' = sz := Option.some.inj (hz.symm.trans k3)
  obtain ⟨ti, hti, hsz⟩ := size?_ti hn
  obtain ⟨r1, r2, r3, r4⟩ := k8
  have hj : j < m' := by have := hob hT; omega
  have hfl := r2 j hj
  have hbound : (j + 1) * sz' ≤ m' * sz' := Nat.mul_le_mul_right _ hj
  rw [Nat.add_mul] at hbound
  have hsub : RelL E w (((f j).drop off).take n) ((C.toList.drop (j * sz' + off)).take n) := by
    refine ⟨by simp; omega, fun i s v p q => ?_⟩
    rw [List.getElem?_take] at p q
    split at p
    · rename_i e
      rw [if_pos e] at q
      rw [List.getElem?_drop] at p q
      refine .ro (r3 j (off + i) s v hj p ?_)
      rw [← Nat.add_assoc]; simpa using q
    · cases p
  obtain ⟨p1, p2⟩ := pack_rel hp hsub
  have hlen : ((C.toList.drop (j * sz' + off)).take n).length = n := by simp; omega
  have hrun := run_loadAt (hc.ti hti) (w := w) (b := b) (off := j * sz' + off) (vs := (C.toList.drop (j * sz' + off)).take n) (fun q v hq => by
    rw [List.getElem?_take] at hq
    split at hq
    · rw [List.getElem?_drop] at hq
      rw [cell_of_row w b (j * sz' + off + q) C ty (0, 0) k5]
      simpa using hq
    · cases hq) (by rw [hlen, hsz]) (isAgg?_eq hti) p1
  exact yields_value st (by simp [execOp, ho, hx, hrun]) rfl p2

theorem local_store_mptr (hc : CxOk P cx) {t : Nat} {x y : Operand} (ho : o.op = .store t x y) {h j off n ty sz : Nat} {m : ST} {f f' : Nat → List SV} {s : SV} (hv : rd cx σ T x = some (.mptr h j off)) (hs : rdT cx σ T t y = some s) (hn : size? cx t = some n)
    (hh : nth σ.hp h = some (.row ty m sz f)) (hj : (j : Int) < m.den) (hl : s.cells.length = n) (hle : off + n ≤ (f j).length) (h1 : onesB s.cells = true) (hpl : plainV (.agg (loose.looseL (norm.normL dn s.cells))) = true)
    (hfj : f' j = putN (f j) off (loose.looseL (norm.normL dn s.cells))) (hfo : ∀ i, i ≠ j → f' i = f i) : Local P cx.gl σ T o ⟨.tup [], [.put h (.row ty m sz f')], [h], []⟩ := by
  intro B N E a w ff hf hg st ag agh hT K' Q hK
  have hr := rd_sound hv hg st (ag_of ag (by simp [ho, Op.operands])) hT
  have hr2 := rdT_sound hs hg st (ag_of ag (by simp [ho, Op.operands])) hT
  obtain ⟨b, sz', hb, hz, hx⟩ := hr.mptr_inv
  have hfh := row_same agh (List.mem_singleton.2 rfl) hh
  have hk' := st.heap h
  rw [hfh] at hk'
  obtain ⟨b', C, m', k1, k2, k3, k4, k5, k6, k7, k8, k9⟩ := hk'
  obtain rfl : b = b' := Option.some.inj (hb.symm.trans k1)
  obtain rfl : sz' = sz := Option.some.inj (hz.symm.trans k3)
  obtain ⟨ti, hti, hsz⟩ := size?_ti hn
  obtain ⟨r1, r2, r3, r4⟩ := k8
  have hjm : j < m' := by omega
  have hfl := r2 j hjm
  have hbound : (j + 1) * sz' ≤ m' * sz' := Nat.mul_le_mul_right _ hjm
  rw [Nat.add_mul] at hbound
  have hcs := cells_of h1 hr2
  have hone := ones_of h1 hcs
  have hul : (a.eval y).cells.toList.length = n := by rw [← hcs.1]; exact hl
  have hplain : RelL E w (loose.looseL (norm.normL dn s.cells)) (a.eval y).cells.toList := by
    rw [looseL_eq, normL_eq]
    exact (hcs.map _ fun s v _ h => h.norm).map _ fun s v _ h => h.loose
  have hpc : ∀ c ∈ loose.looseL (norm.normL dn s.cells), plainV c = true := by
    simp only [plainV] at hpl
    exact (plainL_iff _).1 hpl
  have hpl' : (loose.looseL (norm.normL dn s.cells)).length = n := by rw [hplain.1]; exact hul
  generalize hU : (a.eval y).cells.toList = us at *
  generalize hP : loose.looseL (norm.normL dn s.cells) = ps at *
  let C' : Array Value := (C.toList.take (j * sz' + off) ++ us ++ C.toList.drop (j * sz' + off + us.length)).toArray
  have hle' : j * sz' + off + us.length ≤ C.size := by rw [hul]; omega
  have hC's : C'.size = C.size := by simp [C']; omega
  have hCget : ∀ q : Nat, C'[q]? = if j * sz' + off ≤ q ∧ q < j * sz' + off + us.length then us[q - (j * sz' + off)]? else C[q]? := by
    intro q
    have : C'[q]? = (C.toList.take (j * sz' + off) ++ us ++ C.toList.drop (j * sz' + off + us.length))[q]? := by simp [C']
    rw [this]
    split
    · rename_i e
      rw [List.append_assoc, List.getElem?_append_right (by simp; omega), List.getElem?_append_left (by simp; omega)]
      congr 1; simp; omega
    · rename_i e
      by_cases hi : q < j * sz' + off
      · rw [List.append_assoc, List.getElem?_append_left (by simp; omega), List.getElem?_take, if_pos hi]; simp
      · rw [List.getElem?_append_right (by simp; omega), List.getElem?_drop, ← Array.getElem?_toList]
        congr 1; simp; omega
  have hrow : rowIs E w f' m' sz' C' := by
    refine ⟨by rw [hC's]; exact r1, fun i hi => ?_, fun i q s2 v hi hs2 hv2 => ?_, fun v hv => ?_⟩
    · by_cases e : i = j
      · subst e; rw [hfj, len_putN]; exact hfl
      · rw [hfo i e]; exact r2 i hi
    · rw [hCget] at hv2
      have hql : q < sz' := by
        have hlen : (f' i).length = sz' := by
          by_cases e : i = j
          · subst e; rw [hfj, len_putN]; exact hfl
          · rw [hfo i e]; exact r2 i hi
        rw [← hlen]; exact (List.getElem?_eq_some_iff.1 hs2).1
      by_cases e : i = j
      · subst e
        rw [hfj, get_putN _ _ _ _ (by rw [hpl']; exact hle)] at hs2
        by_cases hin : off ≤ q ∧ q < off + n
        · rw [if_pos (by rw [hpl']; exact hin)] at hs2
          rw [if_pos (by rw [hul]; omega)] at hv2
          have e2 : i * sz' + q - (i * sz' + off) = q - off := by omega
          rw [e2] at hv2
          exact (hplain.2 _ s2 v hs2 hv2).plainOne (hpc s2 (List.mem_of_getElem? hs2)) (hone v (List.mem_of_getElem? hv2))
        · rw [if_neg (by rw [hpl']; exact hin)] at hs2
          rw [if_neg (by rw [hul]; omega)] at hv2
          exact r3 i q s2 v hi hs2 hv2
      · rw [hfo i e] at hs2
        have hne : ¬ (j * sz' + off ≤ i * sz' + q ∧ i * sz' + q < j * sz' + off + us.length) := by
          rw [hul]
          rcases Nat.lt_or_ge i j with hlt | hge
          · have : (i + 1) * sz' ≤ j * sz' := Nat.mul_le_mul_right _ hlt
            rw [Nat.add_mul] at this
            omega
          · have : (j + 1) * sz' ≤ i * sz' := Nat.mul_le_mul_right _ (by omega)
            rw [Nat.add_mul] at this
            omega
        rw [if_neg hne] at hv2
        exact r3 i q s2 v hi hs2 hv2
    · obtain ⟨q, hq⟩ := Array.mem_iff_getElem?.1 hv
      rw [hCget] at hq
      split at hq
      · exact hone v (List.mem_of_getElem? hq)
      · exact r4 v (Array.mem_of_getElem? hq)
  obtain ⟨x1, x2, x3⟩ := set_row (h := h) st hfh hb k2 k5 hrow
  have hrun : (Instr.storeAt t (.pointer (some ⟨b, j * sz' + off, none⟩)) (a.eval y)).run P w = .ok () (w.setRow b C') := by
    have hS := (hc.ti hti).sizeOf w
    have hsc := run_storeCells_at P b (j * sz' + off) ty us 0 C w k5 (by simpa using hle') hone
    have hne : ((a.eval y).cells.size ≠ ti.size) = False := by
      have : (a.eval y).cells.size = ti.size := by rw [hsz]; rw [← hU] at hul; simpa using hul
      simp [this]
    simp only [Nat.add_zero] at hsc
    simp only [Instr.storeAt, Instr.sureAddr, storeVar, Sem.run_bind, Sem.run_pure, Result.andThen_ok, hS, hne, if_false, hU, hsc]
    rfl
  unfold Oper.wp
  have : (execOp a.eval o).run P w = .ok .skip (w.setRow b C') := by
    simp only [execOp, ho, hx, Sem.run_bind, hrun, Result.andThen_ok, Sem.run_pure]
  rw [this]
  exact hK undef _ E x1 x2 x3 (.tup rfl (by simp))

end
end Go.Sx
/- Copies into rows; parts of slices and strings. -/
namespace Go.Sx
open Go

section
variable {P : Program} {cx : Cx} {σ : Sy} {T : List Nat} {o : Oper} {K : Out → Prop}

theorem local_copy (hc : CxOk P cx) {c : Call} (ho : o.op = .call c) (hcal : c.callee = .builtin .copy) {x y : Operand} {t t' : Nat} {ti : TI} (hx : c.args.toList = [x, y]) (ht : c.argTypes.toList = [t, t']) (hl : look t cx.tt = some ti) {e : TypeId} (hk : ti.k = .slice e)
    {h ty sz : Nat} {n m : ST} {f f' g : Nat → List SV} {s : SV} (hv : rd cx σ T x = some (.mrow h)) (hs : rd cx σ T y = some s) (hh : nth σ.hp h = some (.row ty n sz f)) (hsz : size? cx e = some sz) (hrow : rowOf sz s = some (m, g))
    (h1 : ∀ i : Nat, (i : Int) < min m.den n.den → f' i = g i) (h2 : ∀ i : Nat, min m.den n.den ≤ (i : Int) → (i : Int) < n.den → f' i = f i) :
    Local P cx.gl σ T o ⟨.int .i64 (.a (min m.den n.den)), [.put h (.row ty n sz f')], [h], []⟩ := by
  intro B N E a w ff hf hg st ag agh hT K' Q hK
  have hmem : x ∈ o.op.operands.toList ∧ y ∈ o.op.operands.toList := by constructor <;> simp [ho, Op.operands, Call.operands, hcal, hx]
  obtain ⟨b, md, hb, hm, e3⟩ := (rd_sound hv hg st (ag_of ag hmem.1) hT).mrow_inv
  have hrs := rd_sound hs hg st (ag_of ag hmem.2) hT
  have e1 : c.args = #[x, y] := Array.ext' (by simpa using hx)
  have e2 : c.argTypes = #[t, t'] := Array.ext' (by simpa using ht)
  have hfh := row_same agh (List.mem_singleton.2 rfl) hh
  have hk' := st.heap h
  rw [hfh] at hk'
  obtain ⟨b', C, m', k1, k2, k3, k4, k5, k6, k7, k8, k9⟩ := hk'
  obtain rfl : b = b' := Option.some.inj (hb.symm.trans k1)
  obtain rfl : md = m' := Option.some.inj (hm.symm.trans k2)
  obtain ⟨te, hte, hszt⟩ := size?_ti hsz
  obtain ⟨k, news, n1, n2, ⟨n3, n4, n5⟩, n6, n7⟩ := rowOf_src hrow hrs
  obtain ⟨r1, r2, r3, r4⟩ := k8
  have hrmin : min m.den n.den = ((min k md : Nat) : Int) := by rw [n1, k6]; omega
  have hlens : ∀ i, i < k → ∀ j, j < sz → i * sz + j < news.length := by
    intro i hi j hj
    have : (i + 1) * sz ≤ k * sz := Nat.mul_le_mul_right _ hi
    rw [Nat.add_mul] at this
    omega
  let r := min k md
  have hrk : r ≤ k := Nat.min_le_left _ _
  have hrm : r ≤ md := Nat.min_le_right _ _
  have hrks : r * sz ≤ k * sz := Nat.mul_le_mul_right _ hrk
  have hrms : r * sz ≤ md * sz := Nat.mul_le_mul_right _ hrm
  let us := news.take (r * sz)
  have husl : us.length = r * sz := by simp [us]; omega
  let C' : Array Value := (C.toList.take 0 ++ us ++ C.toList.drop (0 + us.length)).toArray
  have hC's : C'.size = C.size := by simp [C', us]; omega
  have hCget : ∀ q : Nat, C'[q]? = if q < r * sz then news[q]? else C[q]? := by
    intro q
    have : C'[q]? = (us ++ C.toList.drop us.length)[q]? := by simp [C']
    rw [this]
    split
    · rename_i e
      rw [List.getElem?_append_left (by omega)]
      simp only [us]
      rw [List.getElem?_take, if_pos e]
    · rename_i e
      rw [List.getElem?_append_right (by omega), List.getElem?_drop, ← Array.getElem?_toList]
      congr 1; omega
  have hone : ∀ v ∈ us, v.oneCell' = true := fun v hv => n4 v (List.mem_of_mem_take hv)
  have hrow' : rowIs E w f' md sz C' := by
    have hfi : ∀ i, i < md → (i < r → f' i = g i) ∧ (r ≤ i → f' i = f i) := by
      intro i hi
      refine ⟨fun hlt => h1 i (by rw [hrmin]; omega), fun hge => h2 i (by rw [hrmin]; omega) (by omega)⟩
    have hlen : ∀ i, i < md → (f' i).length = sz := by
      intro i hi
      by_cases e : i < r
      · rw [(hfi i hi).1 e]; exact n6 i (by omega)
      · rw [(hfi i hi).2 (by omega)]; exact r2 i hi
    refine ⟨by rw [hC's]; exact r1, hlen, fun i q s2 v hi hs2 hv2 => ?_, fun v hv => ?_⟩
    · have hql : q < sz := by rw [← hlen i hi]; exact (List.getElem?_eq_some_iff.1 hs2).1
      rw [hCget] at hv2
      by_cases e : i < r
      · have : (i + 1) * sz ≤ r * sz := Nat.mul_le_mul_right _ e
        rw [Nat.add_mul] at this
        rw [if_pos (by omega)] at hv2
        rw [(hfi i hi).1 e] at hs2
        exact n7 i q s2 v (by omega) hs2 hv2
      · have : r * sz ≤ i * sz := Nat.mul_le_mul_right _ (by omega)
        rw [if_neg (by omega)] at hv2
        rw [(hfi i hi).2 (by omega)] at hs2
        exact r3 i q s2 v hi hs2 hv2
    · obtain ⟨q, hq⟩ := Array.mem_iff_getElem?.1 hv
      rw [hCget] at hq
      split at hq
      · exact n4 v (List.mem_of_getElem? hq)
      · exact r4 v (Array.mem_of_getElem? hq)
  obtain ⟨x1, x2, x3⟩ := set_row (h := h) st hfh hb k2 k5 hrow'
  have hu := (hc.ti hl).slice hk
  have hS := (hc.ti hte).sizeOf w
  have hlen : (Builtin.lenOf (a.eval y)).run P w = .ok k w := by
    rcases n5 with ⟨e0, rfl⟩ | ⟨ad, c0, e0, _⟩ <;> rw [e0] <;> rfl
  have hcells : (Builtin.firstCells te.size (Nat.min k md) (a.eval y)).run P w = .ok us.toArray w := by
    rcases n5 with ⟨e0, e00⟩ | ⟨ad, c0, e0, hnews⟩
    · subst e00
      have : us = [] := by simp [us, r]
      rw [e0, this]; rfl
    · rw [e0]
      refine run_firstCells_some w te.size (Nat.min k md) ad k c0 us (by rw [husl, hszt]) (fun j v hj => ?_)
      simp only [us] at hj
      rw [List.getElem?_take] at hj
      split at hj
      · exact hnews j v hj
      · cases hj
  have hsc := run_storeCells_at P b 0 ty us 0 C w k5 (by rw [husl]; omega) hone
  simp only [Nat.add_zero] at hsc
  unfold Oper.wp
  have : (execOp a.eval o).run P w = .ok (.value (.int .i64 ((min k md : Nat) : Int))) (w.setRow b C') := by
    have hbi : (Builtin.copy_ #[t, t'] o.type #[.slice (some ⟨b, 0, none⟩) md md, a.eval y]).run P w = .ok (.int .i64 ((min k md : Nat) : Int)) (w.setRow b C') := by
      simp only [Builtin.copy_, Sem.run_bind, run_underlying hu, Result.andThen_ok, hlen, hS, hcells]
      simp [Sem.run_bind, run_underlying hu, hlen, hS, hcells, hsc, goInt, C']
    simp only [execOp, ho, resolve, hcal, e1, e2]
    simp [invoke, builtin, e3, hbi]
  rw [this]
  refine hK _ _ E x1 x2 x3 (.int ?_)
  simp only [ST.den]
  exact hrmin

end
end Go.Sx
/- Parts of slices and strings; bytes of strings. -/
namespace Go.Sx
open Go

section
variable {P : Program} {cx : Cx} {σ : Sy} {T : List Nat} {o : Oper} {K : Out → Prop}

theorem optRd_sound {B : Bs} {N : Nat} {E : Env} {a : Act} {w : World} {ff : Nat → SG} {hf : Nat → Hl} (hg : glOk B cx.gl) (st : St B N E a w ff hf) (hT : allT (condsOf σ.gm T)) {x : Option Operand} {s : Option SV} (h : optRd cx σ T x = some s)
    (hag : ∀ y, x = some y → ∀ q ∈ opSlots y, ff q = ffOf σ q) {d t : ST} (hb : boundOr d s = some t) : (x = none ∧ t = d) ∨ ∃ y k, x = some y ∧ a.eval y = .int k t.den := by
  unfold optRd at h
  split at h
  · cases h; left; exact ⟨rfl, (Option.some.inj hb).symm⟩
  · rename_i y
    split at h
    · rename_i v hv
      cases h
      right
      have hr := rd_sound hv hg st (hag y rfl) hT
      unfold boundOr at hb
      split at hb
      · rename_i e; cases e
      · rename_i k u e
        cases e
        cases hb
        exact ⟨y, _, rfl, hr.int_inv⟩
      · cases hb
    · cases h

theorem run_bound {k : IntKind} {i : Int} {n : Nat} {code : BoundsCode} {w : World} (h0 : 0 ≤ i) (h1 : i ≤ (n : Int)) : (Instr.sliceBound (.int k i) n code).run P w = .ok i.toNat w := by
  simp [Instr.sliceBound, asIntOf, h0, h1]

theorem run_bounds {sl : Bool} {len cap : Nat} {lo hi : Option Value} {l h : Int} {w : World} (hlo : (lo = none ∧ l = 0) ∨ ∃ k, lo = some (.int k l)) (hhi : (hi = none ∧ h = (len : Int)) ∨ ∃ k, hi = some (.int k h)) (h0 : 0 ≤ l) (h1 : l ≤ h) (h2 : h ≤ (len : Int)) (h3 : len ≤ cap) :
    (Instr.sliceBounds sl len cap lo hi none).run P w = .ok (l.toNat, h.toNat, cap) w := by
  have hh : ((h.toNat : Nat) : Int) = h := by omega
  rcases hlo with ⟨rfl, rfl⟩ | ⟨k, rfl⟩ <;> rcases hhi with ⟨rfl, rfl⟩ | ⟨k', rfl⟩ <;> simp [Instr.sliceBounds]
  · have := run_bound (P := P) (k := k') (i := h) (n := cap) (code := if sl = true then BoundsCode.sliceAcap else BoundsCode.sliceAlen) (w := w) (by omega) (by omega)
    simp [this]
  · have := run_bound (P := P) (k := k) (i := l) (n := len) (code := BoundsCode.sliceB) (w := w) (by omega) (by omega)
    simp [this]
  · have e1 := run_bound (P := P) (k := k') (i := h) (n := cap) (code := if sl = true then BoundsCode.sliceAcap else BoundsCode.sliceAlen) (w := w) (by omega) (by omega)
    have e2 := run_bound (P := P) (k := k) (i := l) (n := h.toNat) (code := BoundsCode.sliceB) (w := w) (by omega) (by omega)
    simp [e1, e2]

theorem local_slice_row (hc : CxOk P cx) {t e sz : Nat} {ti : TI} (hl : look t cx.tt = some ti) (hk : ti.k = .slice e) (hn : size? cx e = some sz) {x : Operand} {lo hi : Option Operand} (ho : o.op = .slice t x lo hi none) {nl : BT} {n : ST} {f f' : Nat → List SV}
    (hv : rd cx σ T x = some (.sl nl n sz f) ∨ ∃ h, rd cx σ T x = some (.gsl nl n sz f h)) {sa sb : Option SV} (hlo : optRd cx σ T lo = some sa) (hhi : optRd cx σ T hi = some sb) {p q : ST} (hp : boundOr (.l 0) sa = some p) (hq : boundOr n sb = some q)
    (hob : allT (condsOf σ.gm T) → 0 ≤ p.den ∧ p.den ≤ q.den ∧ q.den ≤ n.den) (hf : ∀ i j : Nat, (j : Int) = i + p.den → f' i = f j) : Local P cx.gl σ T o ⟨.sl nl (.a (q.den - p.den)) sz f', [], [], []⟩ := by
  intro B N E a w ff hf' hg st ag agh hT
  have hx' : RO E.I w (.sl nl n sz f) (a.eval x) := by
    rcases hv with hv | ⟨h, hv⟩
    · exact (rd_sound hv hg st (ag_of ag (by simp [ho, Op.operands])) hT).sl_inv
    · exact (rd_sound hv hg st (ag_of ag (by simp [ho, Op.operands])) hT).gsl_inv.1
  have h1 := optRd_sound hg st hT hlo (fun y hy => ag_of ag (by subst hy; simp [ho, Op.operands])) hp
  have h2 := optRd_sound hg st hT hhi (fun y hy => ag_of ag (by subst hy; simp [ho, Op.operands])) hq
  obtain ⟨o1, o2, o3⟩ := hob hT
  have hu := (hc.ti hl).slice hk
  obtain ⟨te, hte, hszt⟩ := size?_ti hn
  have hS := (hc.ti hte).sizeOf w
  have hlo' : (lo.map a.eval = none ∧ p.den = 0) ∨ ∃ k, lo.map a.eval = some (.int k p.den) := by
    rcases h1 with ⟨rfl, rfl⟩ | ⟨y, k, rfl, e⟩
    · exact .inl ⟨rfl, rfl⟩
    · exact .inr ⟨k, by simp [e]⟩
  have hhi' : ∀ m : Nat, n.den = (m : Int) → (hi.map a.eval = none ∧ q.den = (m : Int)) ∨ ∃ k, hi.map a.eval = some (.int k q.den) := by
    intro m hm
    rcases h2 with ⟨rfl, rfl⟩ | ⟨y, k, rfl, e⟩
    · exact .inl ⟨rfl, hm⟩
    · exact .inr ⟨k, by simp [e]⟩
  rcases hx'.sl_inv with ⟨e0, e1, e2⟩ | ⟨ad, m, cap, g, e0, e1, e2, e3, e3', e4, e5, e5', e6, e7⟩
  · have hp0 : p.den = 0 := by omega
    have hq0 : q.den = 0 := by omega
    have hb := run_bounds (P := P) (sl := true) (len := 0) (cap := 0) (lo := lo.map a.eval) (hi := hi.map a.eval) (l := p.den) (h := q.den) (w := w) hlo' (hhi' 0 (by simpa using e1)) o1 o2 (by omega) (Nat.le_refl _)
    refine yields_value st (v := .slice none 0 0) ?_ rfl (.ro (.slnil e2 (by simp only [ST.den]; omega)))
    simp [execOp, ho, e0, Instr.sliceAt, Instr.slice, run_underlying hu, hb, hS, hp0, hq0]
  · have hb := run_bounds (P := P) (sl := true) (len := m) (cap := cap) (lo := lo.map a.eval) (hi := hi.map a.eval) (l := p.den) (h := q.den) (w := w) hlo' (hhi' m e2) o1 o2 (by omega) e3
    let ad' := if cap = p.den.toNat then ad else ad.add (p.den.toNat * te.size)
    refine yields_value st (v := .slice (some ad') (q.den.toNat - p.den.toNat) (cap - p.den.toNat)) ?_ rfl (.ro ?_)
    · by_cases hcap : cap = p.den.toNat
      · subst hcap
        simp [execOp, ho, e0, Instr.sliceAt, Instr.slice, run_underlying hu, hb, hS, ad']
      · simp [execOp, ho, e0, Instr.sliceAt, Instr.slice, run_underlying hu, hb, hS, ad', hcap]
    · have hne : ∀ i, i < q.den.toNat - p.den.toNat → ad' = ad.add (p.den.toNat * sz) := by
        intro i hi'
        simp only [ad', hszt]
        rw [if_neg (by omega)]
      have hff : ∀ i, f' i = f (i + p.den.toNat) := fun i => hf i _ (by omega)
      refine .sl (fun i j => g (i + p.den.toNat) j) e1 (by simp only [ST.den]; omega) (by omega) (by omega) (fun hpos => ?_) (fun i hi' => ?_) (fun i j hi' hj => e5' _ _ (by omega) hj) (fun i j hi' hj => ?_) (fun i j s hi' hs => ?_)
      · rw [hne 0 hpos]; exact add_spot _ _ (e4 (by omega))
      · rw [hff]; exact e5 _ (by omega)
      · rw [hne i hi', add_block, add_off]
        have := e6 (i + p.den.toNat) j (by omega) hj
        rw [Nat.add_mul] at this
        rw [show ad.off + p.den.toNat * sz + (i * sz + j) = ad.off + (i * sz + p.den.toNat * sz + j) by omega]
        exact this
      · rw [hff] at hs; exact e7 _ j s (by omega) hs

theorem extract_bytes (s : List UInt8) (l h : Nat) : (bytes s).extract l h = bytes ((s.drop l).take (h - l)) := by
  apply ByteArray.ext
  simp only [ByteArray.data_extract, bytes]
  apply Array.ext'
  simp [List.extract_eq_take_drop]

theorem local_slice_str (hc : CxOk P cx) {t : Nat} {ti : TI} (hl : look t cx.tt = some ti) (hk : ti.k = .string) {x : Operand} {lo hi : Option Operand} (ho : o.op = .slice t x lo hi none) {s : List UInt8}
    (hv : rd cx σ T x = some (.str s)) {sa sb : Option SV} (hlo : optRd cx σ T lo = some sa) (hhi : optRd cx σ T hi = some sb) {p q : ST} (hp : boundOr (.l 0) sa = some p) (hq : boundOr (.len s) sb = some q)
    (hob : allT (condsOf σ.gm T) → 0 ≤ p.den ∧ p.den ≤ q.den ∧ q.den ≤ s.length) : Local P cx.gl σ T o ⟨.str ((s.drop p.den.toNat).take (q.den.toNat - p.den.toNat)), [], [], []⟩ := by
  intro B N E a w ff hf' hg st ag agh hT
  have hx' := (rd_sound hv hg st (ag_of ag (by simp [ho, Op.operands])) hT).str_inv
  have h1 := optRd_sound hg st hT hlo (fun y hy => ag_of ag (by subst hy; simp [ho, Op.operands])) hp
  have h2 := optRd_sound hg st hT hhi (fun y hy => ag_of ag (by subst hy; simp [ho, Op.operands])) hq
  obtain ⟨o1, o2, o3⟩ := hob hT
  have hu := (hc.ti hl).string hk
  have hlo' : (lo.map a.eval = none ∧ p.den = 0) ∨ ∃ k, lo.map a.eval = some (.int k p.den) := by
    rcases h1 with ⟨rfl, rfl⟩ | ⟨y, k, rfl, e⟩
    · exact .inl ⟨rfl, rfl⟩
    · exact .inr ⟨k, by simp [e]⟩
  have hhi' : (hi.map a.eval = none ∧ q.den = ((s.length : Nat) : Int)) ∨ ∃ k, hi.map a.eval = some (.int k q.den) := by
    rcases h2 with ⟨rfl, rfl⟩ | ⟨y, k, rfl, e⟩
    · exact .inl ⟨rfl, rfl⟩
    · exact .inr ⟨k, by simp [e]⟩
  have hb := run_bounds (P := P) (sl := false) (len := s.length) (cap := s.length) (lo := lo.map a.eval) (hi := hi.map a.eval) (l := p.den) (h := q.den) (w := w) hlo' hhi' o1 o2 o3 (Nat.le_refl _)
  have hs : (bytes s).size = s.length := rfl
  refine yields_value st (v := .string (bytes ((s.drop p.den.toNat).take (q.den.toNat - p.den.toNat)))) ?_ rfl (.ro (.str rfl))
  simp [execOp, ho, hx', Instr.sliceAt, Instr.slice, run_underlying hu, hs, hb, extract_bytes]

theorem local_index_str (hc : CxOk P cx) {t : Nat} {ti : TI} (hl : look t cx.tt = some ti) (hk : ti.k = .string) {x y : Operand} (ho : o.op = .index t x y) {s : List UInt8} {k : IntKind} {i : ST}
    (hv : rd cx σ T x = some (.str s)) (hi : rd cx σ T y = some (.int k i)) (hob : allT (condsOf σ.gm T) → 0 ≤ i.den ∧ i.den < s.length) : Local P cx.gl σ T o ⟨.int .u8 (.a ((s.getD i.den.toNat 0).toNat : Int)), [], [], []⟩ := by
  intro B N E a w ff hf' hg st ag agh hT
  have hx' := (rd_sound hv hg st (ag_of ag (by simp [ho, Op.operands])) hT).str_inv
  have hy := (rd_sound hi hg st (ag_of ag (by simp [ho, Op.operands])) hT).int_inv
  obtain ⟨o1, o2⟩ := hob hT
  have hu := (hc.ti hl).string hk
  have hlt : i.den.toNat < s.length := by omega
  have hget : (bytes s)[i.den.toNat]? = some (s.getD i.den.toNat 0) := by
    have : i.den.toNat < (bytes s).size := hlt
    rw [getElem?_pos (bytes s) i.den.toNat this, List.getD_eq_getElem?_getD, List.getElem?_eq_getElem hlt]
    rfl
  refine yields_value st (v := .int .u8 ((s.getD i.den.toNat 0).toNat : Int)) ?_ rfl (.int rfl)
  simp [execOp, ho, hx', hy, Instr.index, asIntOf, run_underlying hu, o1, hget]

end
end Go.Sx
/- Owned rows: grown, read, written. -/
namespace Go.Sx
open Go

theorem run_storeCells_fr {P : Program} (g o : Nat) (t : TypeId) (fr : Nat × Nat) : ∀ (vs : List Value) (i : Nat) (cur : Array Value) (w : World), w.heap[g]? = some (.cells cur t fr) → (fr = (0, 0) ∨ cur.size ≤ fr.1) → o + i + vs.length ≤ cur.size → (∀ v ∈ vs, v.oneCell' = true) →
    (storeCells ⟨g, o, none⟩ vs i).run P w = .ok () (w.setRow g (cur.toList.take (o + i) ++ vs ++ cur.toList.drop (o + i + vs.length)).toArray)
  | [], i, cur, w, hg, _, _, _ => by
    simp only [storeCells, List.append_nil, List.length_nil, Nat.add_zero, List.take_append_drop, Array.toArray_toList]
    rw [setRow_self w g cur t fr hg]
    rfl
  | v :: rest, i, cur, w, hg, hfr, hl, h1 => by
    have hi : o + i < cur.size := by simp at hl; omega
    have hadd : (⟨g, o, none⟩ : Addr).add i = ⟨g, o + i, none⟩ := by unfold Addr.add; split <;> simp_all
    have hcell : w.cell? ⟨g, o + i, none⟩ = some cur[o + i] := by simp [World.cell?, hg, hi]
    have hfro : w.frozen? ⟨g, o + i, none⟩ = false := by
      simp only [World.frozen?, hg]
      rcases hfr with rfl | hfr
      · simp
      · simp; omega
    have hst : (store ((⟨g, o, none⟩ : Addr).add i) v).run P w = .ok () (w.setRow g (cur.setIfInBounds (o + i) v)) := by
      rw [hadd, run_store P w _ v _ (h1 v (by simp)), hcell]
      simp [hfro, setCell_eq_setRow w g (o + i) cur t fr v hg]
    have ih := run_storeCells_fr (P := P) g o t fr rest (i + 1) (cur.setIfInBounds (o + i) v) (w.setRow g (cur.setIfInBounds (o + i) v)) (setRow_heap w g cur _ t _ hg) (by simpa using hfr) (by simp at hl ⊢; omega) (fun x hx => h1 x (by simp [hx]))
    simp only [storeCells, Sem.run_bind, hst, Result.andThen_ok, ih, setRow_setRow]
    congr 3
    have e := list_seg_step cur.toList (o + i) v rest (by simp at hl ⊢; omega)
    simpa [Array.toList_setIfInBounds, Nat.add_assoc] using e

theorem ownsW.lt {w : World} {gr : Bool} {e : TypeId} {sz m : Nat} {v : Value} {xs : List Value} (h : ownsW w gr e sz v m xs) : ∀ b, v.ownBlock = some b → b < w.heap.size := by
  intro b hb
  rcases h.2 with ⟨rfl, _⟩ | ⟨g, cap, cur, fr, rfl, hg, _⟩
  · simp [Value.ownBlock] at hb
  · simp [Value.ownBlock] at hb; subst hb
    exact (Array.getElem?_eq_some_iff.1 hg).1

/-- The state behind an owned row that has come, has grown, or has been written. -/
theorem put_own {B : Bs} {N : Nat} {E : Env} {a : Act} {w : World} {ff : Nat → SG} {hf : Nat → Hl} (st : St B N E a w ff hf) {h : Nat} {e : TypeId} {sz : Nat} {gr : Bool} {v v' : Value} {n m : Nat} {ys : List Value} {w' : World}
    (hold : (hf h = .fresh ∧ v = .slice none 0 0) ∨ ((∃ nt f gr0, hf h = .own e nt sz gr0 f) ∧ E.τ h = some v ∧ E.ζ h = some sz ∧ ∀ b, v.ownBlock = some b → E.O b = some h ∧ ∀ o, ¬ E.I b o))
    (hsh : ∃ a c, v = .slice a n c) (hown' : ownsW w' gr e sz v' (n + m) ys) (h1 : ∀ u ∈ ys, u.oneCell' = true)
    (hblk : (v'.ownBlock = v.ownBlock ∧ w.grownBy w' v.ownBlock) ∨ (v'.ownBlock = some w.heap.size ∧ w.grownBy w' none)) (hkeep : hf h ≠ .fresh → m = 0 → v' = v) {nt' : ST} (hnt : nt'.den = ((n + m : Nat) : Int))
    {f' : Nat → List SV} (hrow : rowIn E w f' (n + m) sz ys) :
    ∃ E', Ext E w E' w' ∧ Base B E' w' ∧ (∀ k, HOk E' w' k (upd hf h (.own e nt' sz gr f') k)) ∧ E'.τ h = some v' ∧ E'.ζ h = some sz := by
  have hb := st.base
  have hbold : ∀ b, v.ownBlock = some b → E.O b = some h ∧ (∀ o, ¬ E.I b o) ∧ b < w.heap.size := by
    intro b hbb
    rcases hold with ⟨_, rfl⟩ | ⟨_, _, _, h3⟩
    · simp [Value.ownBlock] at hbb
    · exact ⟨(h3 b hbb).1, (h3 b hbb).2, owned_lt hb (h3 b hbb).1⟩
  let E' : Env := ⟨E.β, upd E.τ h (some v'), fun b => if v'.ownBlock = some b then some h else E.O b, E.κ, upd E.ζ h (some sz), E.I⟩
  have hgos : w'.os = w.os ∧ w'.tape = w.tape ∧ w'.output = w.output ∧ w.heap.size ≤ w'.heap.size := by
    rcases hblk with ⟨_, hg⟩ | ⟨_, hg⟩ <;> exact ⟨hg.os, hg.tape, hg.output, hg.size⟩
  have hother : ∀ b, b < w.heap.size → v.ownBlock ≠ some b → w'.heap[b]? = w.heap[b]? := by
    intro b hlt hne
    rcases hblk with ⟨_, hg⟩ | ⟨_, hg⟩
    · exact hg.block b hlt (fun e => hne e.symm)
    · exact hg.block b hlt (by simp)
  have hI : ∀ b o, E.I b o → w'.cell? ⟨b, o, none⟩ = w.cell? ⟨b, o, none⟩ := by
    intro b o hi
    have hlt := hb.Ibd b o hi
    have hne : v.ownBlock ≠ some b := fun hbv => (hbold b hbv).2.1 o hi
    simp only [World.cell?]
    rw [hother b hlt hne]
  have hfr : hf h = .fresh → E.τ h = none ∧ E.ζ h = none := by
    intro hfr
    have := st.heap h
    rw [hfr] at this
    exact ⟨this.2.1, this.2.2.2⟩
  have hx : Ext E w E' w' := by
    refine ⟨fun _ _ h => h, fun k u hk => ?_, fun _ _ h => h, fun k z hk => ?_, fun b o h => h, hI⟩
    · show upd E.τ h (some v') k = some u ∨ ∃ a m' c a' m'' c', u = .slice a m' c ∧ upd E.τ h (some v') k = some (.slice a' m'' c') ∧ m' < m''
      unfold upd
      by_cases e : k = h
      · subst e
        rw [if_pos rfl]
        rcases hold with ⟨hf0, _⟩ | ⟨⟨nt, f, gr0, hne⟩, h2, _⟩
        · rw [(hfr hf0).1] at hk; cases hk
        · rw [h2] at hk
          cases hk
          by_cases hm : m = 0
          · left; rw [hkeep (by rw [hne]; simp) hm]
          · right
            obtain ⟨a', c', rfl⟩ := hown'.shape
            obtain ⟨a, c, rfl⟩ := hsh
            exact ⟨a, n, c, a', n + m, c', rfl, rfl, by omega⟩
      · rw [if_neg e]; exact .inl hk
    · show upd E.ζ h (some sz) k = some z
      unfold upd
      by_cases e : k = h
      · subst e
        rw [if_pos rfl]
        rcases hold with ⟨hf0, _⟩ | ⟨_, _, h2, _⟩
        · rw [(hfr hf0).2] at hk; cases hk
        · rw [h2] at hk; exact hk
      · rw [if_neg e]; exact hk
  have hownlt : ∀ b, v'.ownBlock = some b → b < w'.heap.size := hown'.lt
  have hnew : ∀ b, v'.ownBlock = some b → B.w0.heap.size ≤ b ∨ B.X b := by
    intro b hbb
    rcases hblk with ⟨hs, _⟩ | ⟨hs, _⟩
    · exact (hb.Obd b h (hbold b (by rw [← hs]; exact hbb)).1).2
    · rw [hs] at hbb; cases hbb; exact .inl hb.size
  refine ⟨E', hx, ⟨hgos.1.trans hb.os, hgos.2.1.trans hb.tape, hgos.2.2.1.trans hb.output, Nat.le_trans hb.size hgos.2.2.2, fun b hlt hX => ?_, fun b o hi => ?_, fun b o hi => ?_, hb.Inew, fun b k hO => ?_, hb.β0.ext hx⟩, fun k => ?_, by simp [E', upd], by simp [E', upd]⟩
  · have hsz := hb.size
    rw [hother b (by omega) ?_]
    · exact hb.old b hlt hX
    · intro hbv
      rcases (hb.Obd b h (hbold b hbv).1).2 with h | h
      · omega
      · exact hX h
  · obtain ⟨i1, i2⟩ := hb.I0 b o hi
    exact ⟨i1, by rw [hI b o i1]; exact i2⟩
  · exact Nat.lt_of_lt_of_le (hb.Ibd b o hi) hgos.2.2.2
  · have hO : (if v'.ownBlock = some b then some h else E.O b) = some k := hO
    split at hO
    · rename_i hbb
      exact ⟨hownlt b hbb, hnew b hbb⟩
    · obtain ⟨o1, o2⟩ := hb.Obd b k hO
      exact ⟨Nat.lt_of_lt_of_le o1 hgos.2.2.2, o2⟩
  · by_cases e : k = h
    · subst e
      simp only [upd, if_pos]
      refine ⟨v', n + m, ys, by simp [E', upd], by simp [E', upd], hown', hnt, h1, ⟨hrow.1, fun i j s u a b c => (hrow.2 i j s u a b c).mono hx.I hx.cell⟩, fun b hbb => ⟨by show (if v'.ownBlock = some b then some k else E.O b) = some k; rw [if_pos hbb], fun o hi => ?_⟩⟩
      rcases hblk with ⟨hs, _⟩ | ⟨hs, _⟩
      · exact (hbold b (by rw [← hs]; exact hbb)).2.1 o hi
      · rw [hs] at hbb; cases hbb
        have := hb.Ibd _ _ hi
        omega
    · simp only [upd, if_neg e]
      refine HOk.keep hx (st.heap k) rfl (by simp [E', upd, e]) rfl (by simp [E', upd, e]) fun b hO => ?_
      have hlt := owned_lt hb hO
      have hne : v'.ownBlock ≠ some b := by
        intro hbb
        rcases hblk with ⟨hs, _⟩ | ⟨hs, _⟩
        · have := (hbold b (by rw [← hs]; exact hbb)).1
          rw [hO] at this
          exact e (Option.some.inj this)
        · rw [hs] at hbb; cases hbb; omega
      have hnv : v.ownBlock ≠ some b := by
        intro hbb
        have := (hbold b hbb).1
        rw [hO] at this
        exact e (Option.some.inj this)
      exact ⟨by show (if v'.ownBlock = some b then some h else E.O b) = some k; rw [if_neg hne]; exact hO, hother b hlt hnv, fun o hi => hi⟩

section
variable {P : Program} {cx : Cx} {σ : Sy} {T : List Nat} {o : Oper} {K : Out → Prop}

/-- A value that is as long as its row is its row's. -/
theorem osl_val {E : Env} {w : World} {h : Nat} {n n0 : ST} {nl : BT} {u v : Value} {gr : Bool} {e : TypeId} {sz m : Nat} {xs : List Value} (hr : Rel E w (.osl nl n h) u) (hτ : E.τ h = some v) (hown : ownsW w gr e sz v m xs) (hn0 : n0.den = (m : Int)) (he : n.den = n0.den) :
    u = v ∧ (nl.den = true ↔ v = .slice none 0 0) := by
  obtain ⟨⟨a, k, c, e1, e2, e3⟩, a0, m0, c0, t1, t2, t3⟩ := hr.osl_inv
  rw [hτ] at t1
  cases t1
  obtain ⟨a1, c1, e4⟩ := hown.shape
  cases e4
  have : u = .slice a0 _ c0 := t3 (by rw [he, hn0])
  refine ⟨this, ?_⟩
  rw [this] at e1
  simp only [Value.slice.injEq] at e1
  obtain ⟨rfl, _, _⟩ := e1
  rw [e3]
  constructor
  · rintro rfl
    rcases hown.2 with ⟨h1, _⟩ | ⟨g, cap, cur, fr, h1, _⟩
    · exact h1
    · simp at h1
  · intro h1
    simp only [Value.slice.injEq] at h1
    exact h1.1

theorem own_same {E : Env} {w : World} {hf' : Nat → Hl} {h : Nat} {hl : Hl} (hk : HOk E w h (hf' h)) (e : hf' h = hl) : HOk E w h hl := by rw [← e]; exact hk

theorem local_append_own (hc : CxOk P cx) {c : Call} (ho : o.op = .call c) (hcal : c.callee = .builtin .append) {x y : Operand} {t e sz : Nat} {te ti : TI} (hx : c.args.toList = [x, y]) (ht : c.argTypes.toList = [t, t]) (hlt : look t cx.tt = some ti) (hk : ti.k = .slice e) (hle : look e cx.tt = some te) (hsz : te.size = sz) (hz : 0 < sz)
    {nl : BT} {n n0 : ST} {f : Nat → List SV} {h : Nat} (hvx : rd cx σ T x = some (.osl nl n h)) (hh : nth σ.hp h = some (.own e n0 sz true f)) {s : SV} (hvy : rd cx σ T y = some s) {m : ST} {g : Nat → List SV} (hrow : rowOf sz s = some (m, g))
    (hb : n.den = n0.den ∧ (n.den + m.den) * te.bytes ≤ 140737488355328 ∧ n.den + m.den ≤ 9223372036854775807)
    {f' : Nat → List SV} {n' : Int} (hn' : n' = n.den + m.den) (hf1 : ∀ i : Nat, (i : Int) < n.den → f' i = f i) (hf' : ∀ i j : Nat, (i : Int) = n.den + j → (j : Int) < m.den → f' i = g j) :
    Local P cx.gl σ T o ⟨.osl (andT nl (cmpT .eql m (.l 0))) (.a n') h, [.put h (.own e (.a n') sz true f')], [h], []⟩ := by
  intro B N E a w ff hf hg st ag agh hT K' Q hK
  have mx : x ∈ o.op.operands.toList := by simp [ho, Op.operands, Call.operands, hcal, hx]
  have my : y ∈ o.op.operands.toList := by simp [ho, Op.operands, Call.operands, hcal, hx]
  have hrx := rd_sound hvx hg st (ag_of ag mx) hT
  have hry := rd_sound hvy hg st (ag_of ag my) hT
  obtain ⟨k, news, r1, r2, r3, r4, r5⟩ := rowOf_src hrow hry
  have hkk := st.heap h
  have hsame := row_same agh (List.mem_singleton.2 rfl) hh
  rw [hsame] at hkk
  obtain ⟨v, nn, xs, k1, kz, k2, k3, k4, k5, k6⟩ := hkk
  obtain ⟨hv, hnl⟩ := osl_val hrx k1 k2 k3 hb.1
  have hnn : n.den = (nn : Int) := by rw [hb.1, k3]
  have hbk : (nn + k) * te.bytes ≤ 140737488355328 := by
    have := hb.2.1
    rw [hnn, r1] at this
    have h : (((nn + k) * te.bytes : Nat) : Int) ≤ 140737488355328 := by rw [Int.natCast_mul, Int.natCast_add]; exact this
    omega
  obtain ⟨v', w', l1, l2, l3, l4, l5, l6⟩ := append_law (P := P) (ty := o.type) ((hc.ti hlt).slice hk) (hc.ti hle) hsz hz k2.row r3 (by have := hb.2.2; rw [hnn, r1] at this; simp only [maxLen]; omega) hbk
  have h1all : ∀ u ∈ xs ++ news, u.oneCell' = true := fun u hu => by
    rcases List.mem_append.1 hu with hu | hu
    · exact k4 u hu
    · exact r3.2.1 u hu
  have hnt : (ST.a n').den = ((nn + k : Nat) : Int) := by simp only [ST.den, hn', hnn, r1]; omega
  have hin : rowIn E w f' (nn + k) sz (xs ++ news) := by
    refine ⟨fun i hi => ?_, fun i j s u hi hs hu => ?_⟩
    · by_cases hin : i < nn
      · rw [hf1 i (by omega)]; exact k5.1 i hin
      · rw [hf' i (i - nn) (by omega) (by omega)]; exact r4 (i - nn) (by omega)
    · by_cases hin : i < nn
      · rw [hf1 i (by omega)] at hs
        have hj : j < sz := by rw [← k5.1 i hin]; exact (List.getElem?_eq_some_iff.1 hs).1
        have : (i + 1) * sz ≤ nn * sz := Nat.mul_le_mul_right _ hin
        rw [Nat.add_mul] at this
        rw [List.getElem?_append_left (by rw [k2.1]; omega)] at hu
        exact k5.2 i j s u hin hs hu
      · rw [hf' i (i - nn) (by omega) (by omega)] at hs
        have e1 : i * sz + j = nn * sz + ((i - nn) * sz + j) := by
          have : i * sz = nn * sz + (i - nn) * sz := by rw [← Nat.add_mul]; congr 1; omega
          omega
        rw [List.getElem?_append_right (by rw [k2.1]; omega), k2.1, e1, Nat.add_sub_cancel_left] at hu
        exact r5 (i - nn) j s u (by omega) hs hu
  obtain ⟨E', x1, x2, x3, x4, x5⟩ := put_own (h := h) (e := e) (sz := sz) (n := nn) (m := k) st (.inr ⟨⟨_, _, _, hsame⟩, k1, kz, k6⟩) k2.shape (ownsW_row true l2) h1all l4 (fun _ => l6) (nt' := .a n') hnt hin
  unfold Oper.wp
  rw [run_builtin_append ho hcal hx ht (a := a) (w := w) (w' := w') (v' := v') (by rw [hv]; exact l1)]
  obtain ⟨a0, c0, e0⟩ := l5
  refine hK v' w' E' x1 x2 x3 (.osl ⟨a0, nn + k, c0, e0, hnt, ?_⟩ ⟨a0, nn + k, c0, by rw [x4, e0], by rw [hnt]; exact Int.le_refl _, fun _ => e0⟩)
  have hnil : (v' = .slice none 0 0) ↔ a0 = none := by
    rw [e0]
    constructor
    · intro h; simp only [Value.slice.injEq] at h; exact h.1
    · rintro rfl
      rcases l2.2 with ⟨h1, _⟩ | ⟨g, cap, cur, h1, _⟩
      · rw [← e0]; exact h1
      · rw [e0] at h1; simp at h1
  rw [← hnil, andT_den, cmpT_den, l3]
  simp only [cmpDen, ST.den, r1, Bool.and_eq_true, beq_iff_eq]
  rw [hnl]
  constructor
  · rintro ⟨h1, h2⟩; exact ⟨h1, by omega⟩
  · rintro ⟨h1, h2⟩; exact ⟨h1, by omega⟩

theorem local_len_osl (hc : CxOk P cx) {c : Call} (ho : o.op = .call c) (hcal : c.callee = .builtin .len) {x : Operand} {t : Nat} {ti : TI} (hx : c.args.toList = [x]) (ht : c.argTypes.toList = [t]) (hl : look t cx.tt = some ti) {e : TypeId} (hk : ti.k = .slice e)
    {nl : BT} {n : ST} {h : Nat} (hv : rd cx σ T x = some (.osl nl n h)) : Local P cx.gl σ T o ⟨.int .i64 n, [], [], []⟩ := by
  intro B N E a w ff hf' hg st ag agh hT
  have hmem : x ∈ o.op.operands.toList := by simp [ho, Op.operands, Call.operands, hcal, hx]
  obtain ⟨⟨a0, m, c0, e3, e4, _⟩, _⟩ := (rd_sound hv hg st (ag_of ag hmem) hT).osl_inv
  have e1 : c.args = #[x] := Array.ext' (by simpa using hx)
  have e2 : c.argTypes = #[t] := Array.ext' (by simpa using ht)
  have hrun := run_len_any hc hl hk (w := w) (a := a0) (m := m) (c := c0) (ty := o.type)
  refine yields_value st (v := .int .i64 m) ?_ rfl (.int e4)
  simp [execOp, ho, resolve, hcal, e1, e2, invoke, builtin, e3, hrun]

theorem local_index_osl (hc : CxOk P cx) {t e sz : Nat} {ti : TI} (hl : look t cx.tt = some ti) (hk : ti.k = .slice e) (hn : size? cx e = some sz) {x y : Operand} (ho : o.op = .indexAddr t x y) {h ty : Nat} {nl : BT} {n n0 : ST} {gr : Bool} {f : Nat → List SV} {k : IntKind} {i : ST}
    (hv : rd cx σ T x = some (.osl nl n h)) (hh : nth σ.hp h = some (.own ty n0 sz gr f)) (hi : rd cx σ T y = some (.int k i)) (h0 : allT (condsOf σ.gm T) → n.den = n0.den) (h1 : allT (condsOf σ.gm T) → 0 ≤ i.den ∧ i.den < n0.den) : Local P cx.gl σ T o ⟨.optr n h i.den.toNat 0, [], [h], []⟩ := by
  intro B N E a w ff hf' hg st ag agh hT
  have hrx := rd_sound hv hg st (ag_of ag (by simp [ho, Op.operands])) hT
  have hy := (rd_sound hi hg st (ag_of ag (by simp [ho, Op.operands])) hT).int_inv
  obtain ⟨b1, b2⟩ := h1 hT
  have hkk := st.heap h
  rw [row_same agh (List.mem_singleton.2 rfl) hh] at hkk
  obtain ⟨v, m, xs, k1, kz, k2, k3, k4, k5, k6⟩ := hkk
  obtain ⟨hv', _⟩ := osl_val hrx k1 k2 k3 (h0 hT)
  rcases k2.2 with ⟨_, e0⟩ | ⟨b, cap, cur, fr, rfl, hg2, _⟩
  · omega
  have hrun := run_indexAt_sl hc hl hk hn (w := w) (a := ⟨b, 0, none⟩) (m := m) (cap := cap) (k := k) b1 (show i.den < (m : Int) by omega)
  refine yields_value st (v := .pointer (some ⟨b, i.den.toNat * sz + 0, none⟩)) ?_ rfl (.optr ⟨_, _, rfl⟩ ⟨_, m, cap, sz, k1, kz, by rw [h0 hT, k3]; exact Int.le_refl _, fun _ => ⟨b, rfl, rfl⟩⟩)
  simp [execOp, ho, hv', hy, hrun, add_lit]

theorem local_fieldAddr_optr (hc : CxOk P cx) {t i fo ft m h j off : Nat} {n : ST} {x : Operand} (ho : o.op = .fieldAddr t x i) (hv : rd cx σ T x = some (.optr n h j off)) (hf : field? cx t i = some (fo, ft)) (hn : size? cx ft = some (m + 1)) :
    Local P cx.gl σ T o ⟨.optr n h j (off + fo), [], [], []⟩ := by
  intro B N E a w ff hf' hg st ag agh hT
  have hr := rd_sound hv hg st (ag_of ag (by simp [ho, Op.operands])) hT
  obtain ⟨⟨b, o', hx⟩, a0, m0, c0, sz, t1, t2, t3, t4⟩ := hr.optr_inv
  refine yields_value st (v := .pointer (some ⟨b, o' + fo, none⟩)) ?_ rfl (.optr ⟨_, _, rfl⟩ ⟨a0, m0, c0, sz, t1, t2, t3, fun e => ?_⟩)
  · simp [execOp, ho, hx, run_fieldAt hc hf hn, add_lit]
  · obtain ⟨b', e1, e2⟩ := t4 e
    rw [hx] at e2
    simp only [Value.pointer.injEq, Option.some.injEq, Addr.mk.injEq, and_true] at e2
    obtain ⟨rfl, rfl⟩ := e2
    exact ⟨b, e1, by rw [Nat.add_assoc]⟩

/-- A pointer into an owned row. -/
theorem optr_val {E : Env} {w : World} {h j off : Nat} {n n0 : ST} {u v : Value} {gr : Bool} {e : TypeId} {sz m : Nat} {xs : List Value} (hr : Rel E w (.optr n h j off) u) (hτ : E.τ h = some v) (hz : E.ζ h = some sz) (hown : ownsW w gr e sz v m xs) (hn0 : n0.den = (m : Int)) (he : n.den = n0.den) :
    ∃ b cap cur fr, v = .slice (some ⟨b, 0, none⟩) m cap ∧ u = .pointer (some ⟨b, j * sz + off, none⟩) ∧ w.heap[b]? = some (.cells cur e fr) ∧ (fr = (0, 0) ∨ gr = false ∧ fr = (cur.size, cur.size + 1)) ∧ m ≤ cap ∧ cap ≤ maxLen ∧ cur.size = cap * sz ∧ cur.toList.take (m * sz) = xs := by
  obtain ⟨_, a0, m0, c0, sz', t1, t2, t3, t4⟩ := hr.optr_inv
  rw [hτ] at t1
  cases t1
  rw [hz] at t2
  cases t2
  obtain ⟨a1, c1, e4⟩ := hown.shape
  cases e4
  obtain ⟨b, rfl, e5⟩ := t4 (by rw [he, hn0])
  rcases hown.2 with ⟨h1, _⟩ | ⟨g, cap, cur, fr, h1, h2⟩
  · simp at h1
  · cases h1
    exact ⟨b, _, cur, fr, rfl, e5, h2⟩

theorem local_load_optr (hc : CxOk P cx) {t : Nat} {x : Operand} (ho : o.op = .load t x) {h j off n ty sz : Nat} {m m0 : ST} {gr : Bool} {f : Nat → List SV} {s : SV} (hv : rd cx σ T x = some (.optr m0 h j off)) (hn : size? cx t = some n)
    (hh : nth σ.hp h = some (.own ty m sz gr f)) (h0 : allT (condsOf σ.gm T) → m0.den = m.den) (hob : allT (condsOf σ.gm T) → (j : Int) < m.den) (hle : off + n ≤ (f j).length) (hp : pack (isAgg? cx t) (((f j).drop off).take n) = some s) : Local P cx.gl σ T o ⟨s, [], [h], []⟩ := by
  intro B N E a w ff hf hg st ag agh hT
  have hr := rd_sound hv hg st (ag_of ag (by simp [ho, Op.operands])) hT
  have hkk := st.heap h
  rw [row_same agh (List.mem_singleton.2 rfl) hh] at hkk
  obtain ⟨v, m', xs, k1, kz, k2, k3, k4, k5, k6⟩ := hkk
  obtain ⟨b, cap, cur, fr, e1, hx, hg2, hfr, hmc, hcm, hcs, htake⟩ := optr_val hr k1 kz k2 k3 (h0 hT)
  obtain ⟨ti, hti, hsz⟩ := size?_ti hn
  have hj : j < m' := by have := hob hT; omega
  have hfl := k5.1 j hj
  have hbound : (j + 1) * sz ≤ m' * sz := Nat.mul_le_mul_right _ hj
  have hbound2 : m' * sz ≤ cap * sz := Nat.mul_le_mul_right _ hmc
  rw [Nat.add_mul] at hbound
  have hxl := k2.1
  have hsub : RelL E w (((f j).drop off).take n) ((xs.drop (j * sz + off)).take n) := by
    refine ⟨by simp; omega, fun i s v p q => ?_⟩
    rw [List.getElem?_take] at p q
    split at p
    · rename_i e
      rw [if_pos e] at q
      rw [List.getElem?_drop] at p q
      refine .ro (k5.2 j (off + i) s v hj p ?_)
      rw [← Nat.add_assoc]; exact q
    · cases p
  obtain ⟨p1, p2⟩ := pack_rel hp hsub
  have hlen : ((xs.drop (j * sz + off)).take n).length = n := by simp; omega
  have hrun := run_loadAt (hc.ti hti) (w := w) (b := b) (off := j * sz + off) (vs := (xs.drop (j * sz + off)).take n) (fun q v hq => by
    rw [List.getElem?_take] at hq
    split at hq
    · rw [List.getElem?_drop] at hq
      rw [cell_of_row w b (j * sz + off + q) cur ty fr hg2]
      rw [← htake, List.getElem?_take, if_pos (by omega)] at hq
      simpa using hq
    · cases hq) (by rw [hlen, hsz]) (isAgg?_eq hti) p1
  exact yields_value st (by simp [execOp, ho, hx, hrun]) rfl p2

theorem local_store_optr (hc : CxOk P cx) {t : Nat} {x y : Operand} (ho : o.op = .store t x y) {h j off n ty sz : Nat} {m m0 : ST} {gr : Bool} {f f' : Nat → List SV} {s : SV} (hv : rd cx σ T x = some (.optr m0 h j off)) (hs : rdT cx σ T t y = some s) (hn : size? cx t = some n)
    (hh : nth σ.hp h = some (.own ty m sz gr f)) (h0 : m0.den = m.den) (hj : (j : Int) < m.den) (hl : s.cells.length = n) (hle : off + n ≤ (f j).length) (h1 : onesB s.cells = true) (hpl : plainV (.agg (loose.looseL (norm.normL dn s.cells))) = true) (hT0 : allT (condsOf σ.gm T))
    (hfj : f' j = putN (f j) off (loose.looseL (norm.normL dn s.cells))) (hfo : ∀ i, i ≠ j → f' i = f i) : Local P cx.gl σ T o ⟨.tup [], [.put h (.own ty m sz gr f')], [h], []⟩ := by
  intro B N E a w ff hf hg st ag agh hT K' Q hK
  have hr := rd_sound hv hg st (ag_of ag (by simp [ho, Op.operands])) hT
  have hr2 := rdT_sound hs hg st (ag_of ag (by simp [ho, Op.operands])) hT
  have hsame := row_same agh (List.mem_singleton.2 rfl) hh
  have hkk := st.heap h
  rw [hsame] at hkk
  obtain ⟨v, m', xs, k1, kz, k2, k3, k4, k5, k6⟩ := hkk
  obtain ⟨b, cap, cur, fr, e1, hx, hg2, hfr, hmc, hcm, hcs, htake⟩ := optr_val hr k1 kz k2 k3 h0
  obtain ⟨ti, hti, hsz⟩ := size?_ti hn
  have hjm : j < m' := by omega
  have hfl := k5.1 j hjm
  have hbound : (j + 1) * sz ≤ m' * sz := Nat.mul_le_mul_right _ hjm
  have hbound2 : m' * sz ≤ cap * sz := Nat.mul_le_mul_right _ hmc
  rw [Nat.add_mul] at hbound
  have hcs' := cells_of h1 hr2
  have hone := ones_of h1 hcs'
  have hul : (a.eval y).cells.toList.length = n := by rw [← hcs'.1]; exact hl
  have hplain : RelL E w (loose.looseL (norm.normL dn s.cells)) (a.eval y).cells.toList := by
    rw [looseL_eq, normL_eq]
    exact (hcs'.map _ fun s v _ h => h.norm).map _ fun s v _ h => h.loose
  have hpc : ∀ c ∈ loose.looseL (norm.normL dn s.cells), plainV c = true := by
    simp only [plainV] at hpl
    exact (plainL_iff _).1 hpl
  have hpl' : (loose.looseL (norm.normL dn s.cells)).length = n := by rw [hplain.1]; exact hul
  generalize hU : (a.eval y).cells.toList = us at *
  generalize hP : loose.looseL (norm.normL dn s.cells) = ps at *
  let C' : Array Value := (cur.toList.take (j * sz + off) ++ us ++ cur.toList.drop (j * sz + off + us.length)).toArray
  have hle' : j * sz + off + us.length ≤ cur.size := by rw [hul]; omega
  have hC's : C'.size = cur.size := by simp [C']; omega
  have hCget : ∀ q : Nat, C'[q]? = if j * sz + off ≤ q ∧ q < j * sz + off + us.length then us[q - (j * sz + off)]? else cur[q]? := by
    intro q
    have : C'[q]? = (cur.toList.take (j * sz + off) ++ us ++ cur.toList.drop (j * sz + off + us.length))[q]? := by simp [C']
    rw [this]
    split
    · rename_i e
      rw [List.append_assoc, List.getElem?_append_right (by simp; omega), List.getElem?_append_left (by simp; omega)]
      congr 1; simp; omega
    · rename_i e
      by_cases hi : q < j * sz + off
      · rw [List.append_assoc, List.getElem?_append_left (by simp; omega), List.getElem?_take, if_pos hi]; simp
      · rw [List.getElem?_append_right (by simp; omega), List.getElem?_drop, ← Array.getElem?_toList]
        congr 1; simp; omega
  let ys : List Value := C'.toList.take (m' * sz)
  have hysl : ys.length = m' * sz := by simp [ys, hC's]; omega
  have hyget : ∀ q, q < m' * sz → ys[q]? = if j * sz + off ≤ q ∧ q < j * sz + off + us.length then us[q - (j * sz + off)]? else xs[q]? := by
    intro q hq
    simp only [ys]
    rw [List.getElem?_take, if_pos hq, Array.getElem?_toList, hCget]
    split
    · rfl
    · rw [← htake, List.getElem?_take, if_pos hq]; simp
  have hrow : rowIn E w f' m' sz ys := by
    refine ⟨fun i hi => ?_, fun i q s2 v hi hs2 hv2 => ?_⟩
    · by_cases e : i = j
      · subst e; rw [hfj, len_putN]; exact hfl
      · rw [hfo i e]; exact k5.1 i hi
    · have hql : q < sz := by
        have hlen : (f' i).length = sz := by
          by_cases e : i = j
          · subst e; rw [hfj, len_putN]; exact hfl
          · rw [hfo i e]; exact k5.1 i hi
        rw [← hlen]; exact (List.getElem?_eq_some_iff.1 hs2).1
      have hbq : i * sz + q < m' * sz := by
        have : (i + 1) * sz ≤ m' * sz := Nat.mul_le_mul_right _ hi
        rw [Nat.add_mul] at this
        omega
      rw [hyget _ hbq] at hv2
      by_cases e : i = j
      · subst e
        rw [hfj, get_putN _ _ _ _ (by rw [hpl']; exact hle)] at hs2
        by_cases hin : off ≤ q ∧ q < off + n
        · rw [if_pos (by rw [hpl']; exact hin)] at hs2
          rw [if_pos (by rw [hul]; omega)] at hv2
          have e2 : i * sz + q - (i * sz + off) = q - off := by omega
          rw [e2] at hv2
          exact (hplain.2 _ s2 v hs2 hv2).plainOne (hpc s2 (List.mem_of_getElem? hs2)) (hone v (List.mem_of_getElem? hv2))
        · rw [if_neg (by rw [hpl']; exact hin)] at hs2
          rw [if_neg (by rw [hul]; omega)] at hv2
          exact k5.2 i q s2 v hi hs2 hv2
      · rw [hfo i e] at hs2
        have hne : ¬ (j * sz + off ≤ i * sz + q ∧ i * sz + q < j * sz + off + us.length) := by
          rw [hul]
          rcases Nat.lt_or_ge i j with hlt | hge
          · have : (i + 1) * sz ≤ j * sz := Nat.mul_le_mul_right _ hlt
            rw [Nat.add_mul] at this
            omega
          · have : (j + 1) * sz ≤ i * sz := Nat.mul_le_mul_right _ (by omega)
            rw [Nat.add_mul] at this
            omega
        rw [if_neg hne] at hv2
        exact k5.2 i q s2 v hi hs2 hv2
  have hyone : ∀ u ∈ ys, u.oneCell' = true := by
    intro u hu
    obtain ⟨q, hq⟩ := List.mem_iff_getElem?.1 hu
    have hqlt : q < m' * sz := by rw [← hysl]; exact (List.getElem?_eq_some_iff.1 hq).1
    rw [hyget q hqlt] at hq
    split at hq
    · exact hone u (List.mem_of_getElem? hq)
    · exact k4 u (List.mem_of_getElem? hq)
  have hfr' : fr = (0, 0) ∨ cur.size ≤ fr.1 := by
    rcases hfr with h | ⟨_, h⟩
    · exact .inl h
    · rw [h]; exact .inr (Nat.le_refl _)
  have hrun : (Instr.storeAt t (.pointer (some ⟨b, j * sz + off, none⟩)) (a.eval y)).run P w = .ok () (w.setRow b C') := by
    have hS := (hc.ti hti).sizeOf w
    have hsc := run_storeCells_fr (P := P) b (j * sz + off) ty fr us 0 cur w hg2 hfr' (by simpa using hle') hone
    have hne : ((a.eval y).cells.size ≠ ti.size) = False := by
      have : (a.eval y).cells.size = ti.size := by rw [hsz]; rw [← hU] at hul; simpa using hul
      simp [this]
    simp only [Nat.add_zero] at hsc
    simp only [Instr.storeAt, Instr.sureAddr, storeVar, Sem.run_bind, Sem.run_pure, Result.andThen_ok, hS, hne, if_false, hU, hsc]
    rfl
  have hown' : ownsW (w.setRow b C') gr ty sz v (m' + 0) ys := by
    refine ⟨hysl, .inr ⟨b, cap, C', fr, e1, setRow_heap w b cur C' ty fr hg2, ?_, hmc, hcm, by rw [hC's]; exact hcs, rfl⟩⟩
    rw [hC's]; exact hfr
  obtain ⟨E', x1, x2, x3, x4, x5⟩ := put_own (h := h) (e := ty) (sz := sz) (n := m') (m := 0) st (.inr ⟨⟨_, _, _, hsame⟩, k1, kz, k6⟩) k2.shape hown' hyone
    (.inl ⟨rfl, ⟨rfl, rfl, rfl, by simp, fun k _ hk => setRow_other w b k C' (fun e => hk (by rw [e, e1]; rfl))⟩⟩) (fun _ _ => rfl) (nt' := m) (by simpa using k3) (by simpa using hrow)
  unfold Oper.wp
  have : (execOp a.eval o).run P w = .ok .skip (w.setRow b C') := by
    simp only [execOp, ho, hx, Sem.run_bind, hrun, Result.andThen_ok, Sem.run_pure]
  rw [this]
  exact hK undef _ E' x1 x2 x3 (.tup rfl (by simp))

theorem local_strOwn (hc : CxOk P cx) {src dst e : TypeId} {x : Operand} (ho : o.op = .convert src dst x) {ts td te : TI} (hls : look src cx.tt = some ts) (hks : ts.k = .string) (hld : look dst cx.tt = some td) (hkd : td.k = .slice e) (hle : look e cx.tt = some te) (hke : te.k = .int .u8)
    {s : List UInt8} (hv : rd cx σ T x = some (.str s)) (hlen : s.length ≤ maxLen) : Local P cx.gl σ T o ⟨.osl (.l false) (.len s) (lenN σ.hp), [.put (lenN σ.hp) (.own e (.len s) 1 false (byteRow s))], [], []⟩ := by
  intro B N E a w ff hf hg st ag agh hT K' Q hK
  have hx := (rd_sound hv hg st (ag_of ag (by simp [ho, Op.operands])) hT).str_inv
  have hb := st.base
  have hrun := run_bytes_of_string (P := P) w src dst e (bytes s) ((hc.ti hls).string hks) ((hc.ti hld).slice hkd) ((hc.ti hle).int hke)
  obtain ⟨C, hC⟩ : ∃ C, C = bytesRow (bytes s) (grownCap w (bytes s).size 0 e) := ⟨_, rfl⟩
  rw [← hC] at hrun
  obtain ⟨w', hw'⟩ : ∃ w', w' = w.drew.alloc (.cells C e (C.size, C.size + 1)) := ⟨_, rfl⟩
  rw [← hw'] at hrun
  have hold : ∀ b, b < w.heap.size → w'.heap[b]? = w.heap[b]? := fun b hlt => by rw [hw']; exact RowKit.Below.heap_alloc w.drew _ b hlt
  have hnew : w'.heap[w.heap.size]? = some (.cells C e (C.size, C.size + 1)) := by rw [hw']; show (w.heap.push _)[w.heap.size]? = _; simp
  have hsz : w'.heap.size = w.heap.size + 1 := by rw [hw']; show (w.heap.push _).size = _; simp
  have hbs : (bytes s).size = s.length := by simp [bytes, ByteArray.size]
  have hge := grownCap_ge w (bytes s).size 0 e
  have hCs : C.size = grownCap w (bytes s).size 0 e := by
    have key : ∀ (b : ByteArray) (c : Nat), b.size ≤ c → (bytesRow b c).size = c := by
      intro b c hbc
      have : b.data.size = b.size := rfl
      simp only [bytesRow, Array.size_append, Array.size_map, Array.size_replicate]
      omega
    rw [hC]; exact key _ _ hge
  have hCi : ∀ i, i < s.length → C[i]? = some (.int .u8 ((s.getD i 0).toNat : Int)) := by
    intro i hi
    rw [hC]
    simp [bytesRow, bytes, Array.getElem?_append, hi]
  have hfresh := fresh_of agh (List.mem_singleton.2 rfl)
  have hxsl : (C.toList.take s.length).length = s.length := by simp; omega
  have hown' : ownsW w' false e 1 (.slice (some ⟨w.heap.size, 0, none⟩) s.length C.size) (0 + s.length) (C.toList.take s.length) := by
    refine ⟨by rw [hxsl]; omega, .inr ⟨w.heap.size, C.size, C, _, by rw [Nat.zero_add], hnew, .inr ⟨rfl, rfl⟩, by omega, ?_, by omega, by rw [Nat.zero_add, Nat.mul_one]⟩⟩
    rw [hCs]; exact grownCap_le_maxLen _ _ _ _ (by rw [hbs]; exact hlen)
  have hget : ∀ (i : Nat) (u : Value), (C.toList.take s.length)[i]? = some u → u = .int .u8 ((s.getD i 0).toNat : Int) := by
    intro i u hu
    rw [List.getElem?_take] at hu
    split at hu
    · rename_i hi
      rw [Array.getElem?_toList, hCi i hi] at hu
      exact (Option.some.inj hu).symm
    · cases hu
  have hin : rowIn E w (byteRow s) (0 + s.length) 1 (C.toList.take s.length) := by
    refine ⟨fun i _ => rfl, fun i j s' u hi hs hu => ?_⟩
    cases j with
    | zero =>
      simp [byteRow] at hs; subst hs
      rw [hget _ u (by simpa using hu)]
      refine .int ?_
      simp [ST.den]
    | succ j => simp [byteRow] at hs
  obtain ⟨E', x1, x2, x3, x4, x5⟩ := put_own (h := lenN σ.hp) (e := e) (sz := 1) (n := 0) (m := s.length) st (.inl ⟨hfresh, rfl⟩) ⟨_, _, rfl⟩ hown' (fun u hu => by
    obtain ⟨i, hi⟩ := List.mem_iff_getElem?.1 hu
    rw [hget i u hi]; rfl) (.inr ⟨rfl, ⟨by rw [hw']; rfl, by rw [hw']; rfl, by rw [hw']; rfl, by omega, fun k hk _ => hold k hk⟩⟩) (fun h => absurd hfresh h) (nt' := .len s) (by simp [ST.den]) hin
  unfold Oper.wp
  have hex : (execOp a.eval o).run P w = .ok (.value (.slice (some ⟨w.heap.size, 0, none⟩) s.length C.size)) w' := by
    simp only [execOp, ho, hx, Sem.run_bind]
    rw [hrun, hbs, hCs, hbs]
    rfl
  rw [hex]
  exact hK _ w' E' x1 x2 x3 (.osl ⟨_, s.length, _, rfl, rfl, by simp [BT.den]⟩ ⟨_, s.length, _, x4, Int.le_refl _, fun _ => rfl⟩)

theorem local_ownStr (hc : CxOk P cx) {src dst e : TypeId} {x : Operand} (ho : o.op = .convert src dst x) {ts td te : TI} (hls : look src cx.tt = some ts) (hks : ts.k = .slice e) (hld : look dst cx.tt = some td) (hkd : td.k = .string) (hle : look e cx.tt = some te) (hke : te.k = .int .u8)
    {nl : BT} {n n0 : ST} {h : Nat} {ty : TypeId} {gr : Bool} {f : Nat → List SV} (hv : rd cx σ T x = some (.osl nl n h)) (hh : nth σ.hp h = some (.own ty n0 1 gr f)) (h0 : n.den = n0.den) {r : List UInt8} (hr : ByteRow n0.den f ∧ StrRow r n0.den f) : Local P cx.gl σ T o ⟨.str r, [], [h], []⟩ := by
  intro B N E a w ff hf hg st ag agh hT
  obtain ⟨hb, hr⟩ := hr
  have hrx := rd_sound hv hg st (ag_of ag (by simp [ho, Op.operands])) hT
  have hkk := st.heap h
  rw [row_same agh (List.mem_singleton.2 rfl) hh] at hkk
  obtain ⟨v, m, xs, k1, kz, k2, k3, k4, k5, k6⟩ := hkk
  obtain ⟨hev, _⟩ := osl_val hrx k1 k2 k3 h0
  refine yields_value st (v := .string (bytes r)) ?_ rfl (.ro (.str rfl))
  simp only [execOp, ho, Sem.run_bind]
  have hus := (hc.ti hls).slice hks
  have hud := (hc.ti hld).string hkd
  have hue := (hc.ti hle).int hke
  rw [hev]
  have hrl : r.length = m := by have := hr.len; omega
  rcases k2.2 with ⟨e0, e1⟩ | ⟨b, cap, cur, fr, e0, hg2, hfr, hmc, hcm, hcs, htake⟩
  · have : r = [] := List.eq_nil_of_length_eq_zero (by omega)
    subst this
    rw [e0]
    simp [convert, run_underlying hus, run_underlying hud, run_underlying hue, Conv.bytesToString, bytes]
    rfl
  · have := run_convert_bytes_back (P := P) w src dst e ⟨b, 0, none⟩ cap r hus hue hud (fun j hj => by
      have hjm : j < m := by omega
      obtain ⟨t, ht, _⟩ := hb.h j (by omega)
      have e1 := hr.row j t (by omega) ht
      have hxlt : j < xs.length := by rw [k2.1]; omega
      obtain ⟨xj, hxj⟩ : ∃ xj, xs[j]? = some xj := ⟨_, List.getElem?_eq_getElem hxlt⟩
      have hr1 := k5.2 j 0 (.int .u8 t) xj hjm (by rw [ht]; rfl) (by simpa using hxj)
      have hg1 : xj = .int .u8 t.den := (Rel.ro (E := E) hr1).int_inv
      rw [List.getD_eq_getElem?_getD, List.getElem?_eq_getElem hj] at e1
      simp only [Option.getD_some] at e1
      rw [add_lit, Nat.zero_add, cell_of_row w b j cur ty fr hg2]
      rw [← htake, List.getElem?_take, if_pos (by omega), Array.getElem?_toList] at hxj
      rw [e1, hxj, hg1])
    rw [hrl] at this
    rw [e0, this]
    rfl

end
end Go.Sx
/- Strings as slices of bytes. -/
namespace Go.Sx
open Go

section
variable {P : Program} {cx : Cx} {σ : Sy} {T : List Nat} {o : Oper} {K : Out → Prop}

theorem local_strBytes (hc : CxOk P cx) {src dst e : TypeId} {x : Operand} (ho : o.op = .convert src dst x) {ts td te : TI} (hls : look src cx.tt = some ts) (hks : ts.k = .string) (hld : look dst cx.tt = some td) (hkd : td.k = .slice e) (hle : look e cx.tt = some te) (hke : te.k = .int .u8)
    {s : List UInt8} (hv : rd cx σ T x = some (.str s)) (hlen : allT (condsOf σ.gm T) → s.length ≤ maxLen) : Local P cx.gl σ T o ⟨.sl (.l false) (.len s) 1 (byteRow s), [], [], []⟩ := by
  intro B N E a w ff hf hg st ag agh hT K' Q hK
  have hx := (rd_sound hv hg st (ag_of ag (by simp [ho, Op.operands])) hT).str_inv
  have hb := st.base
  have hrun := run_bytes_of_string (P := P) w src dst e (bytes s) ((hc.ti hls).string hks) ((hc.ti hld).slice hkd) ((hc.ti hle).int hke)
  obtain ⟨C, hC⟩ : ∃ C, C = bytesRow (bytes s) (grownCap w (bytes s).size 0 e) := ⟨_, rfl⟩
  rw [← hC] at hrun
  obtain ⟨w', hw'⟩ : ∃ w', w' = w.drew.alloc (.cells C e (C.size, C.size + 1)) := ⟨_, rfl⟩
  rw [← hw'] at hrun
  let E' : Env := ⟨E.β, E.τ, E.O, E.κ, E.ζ, fun b o => E.I b o ∨ (b = w.heap.size ∧ o < s.length)⟩
  have hold : ∀ b, b < w.heap.size → w'.heap[b]? = w.heap[b]? := fun b hlt => by rw [hw']; exact RowKit.Below.heap_alloc w.drew _ b hlt
  have hnew : w'.heap[w.heap.size]? = some (.cells C e (C.size, C.size + 1)) := by rw [hw']; show (w.heap.push _)[w.heap.size]? = _; simp
  have hcellold : ∀ (p : Addr), p.block < w.heap.size → w'.cell? p = w.cell? p := fun p hp => World.cell?_of_block (w := w) (hold _ hp)
  have hext : Ext E w E' w' := ⟨fun _ _ h => h, fun _ _ h => .inl h, fun _ _ h => h, fun _ _ h => h, fun b o h => .inl h, fun b o h => hcellold _ (hb.Ibd b o h)⟩
  have hsz : w'.heap.size = w.heap.size + 1 := by rw [hw']; show (w.heap.push _).size = _; simp
  have hbase : Base B E' w' := by
    refine ⟨by rw [hw']; exact hb.os, by rw [hw']; exact hb.tape, by rw [hw']; exact hb.output, by have := hb.size; omega, fun b hlt hX => ?_, fun b o hi => ?_, fun b o hi => ?_, fun b o hi => ?_, fun b h hO => ?_, hb.β0.ext hext⟩
    · rw [hold b (by have := hb.size; omega)]; exact hb.old b hlt hX
    · obtain ⟨i1, i2⟩ := hb.I0 b o hi
      exact ⟨.inl i1, by rw [hcellold _ (hb.Ibd b o i1)]; exact i2⟩
    · rcases hi with hi | ⟨rfl, _⟩
      · have := hb.Ibd b o hi; omega
      · omega
    · rcases hi with hi | ⟨rfl, _⟩
      · exact hb.Inew b o hi
      · exact .inr (.inl hb.size)
    · obtain ⟨o1, o2⟩ := hb.Obd b h hO
      exact ⟨by omega, o2⟩
  have hbs : (bytes s).size = s.length := by simp [bytes, ByteArray.size]
  unfold Oper.wp
  have hex : (execOp a.eval o).run P w = .ok (.value (.slice (some ⟨w.heap.size, 0, none⟩) (bytes s).size (grownCap w (bytes s).size 0 e))) w' := by
    simp only [execOp, ho, hx, Sem.run_bind]
    rw [hrun]
    rfl
  rw [hex]
  refine hK _ w' E' hext hbase (fun k => HOk.keep hext (st.heap k) rfl rfl rfl rfl fun b hO => ⟨hO, hold b (owned_lt hb hO), fun o hi => ?_⟩) (.ro ?_)
  · rcases hi with hi | ⟨rfl, _⟩
    · exact hi
    · exact absurd (owned_lt hb hO) (by omega)
  · refine .sl (fun i _ => .int .u8 ((s.getD i 0).toNat : Int)) rfl ?_ ?_ ?_ (fun _ => rfl) (fun i hi => rfl) (fun i j hi hj => rfl) (fun i j hi hj => ?_) (fun i j s' hi hs => ?_)
    · show ((s.length : Nat) : Int) = _
      rw [hbs]
    · exact grownCap_ge ..
    · exact grownCap_le_maxLen _ _ _ _ (by rw [hbs]; exact hlen hT)
    · have hj0 : j = 0 := by omega
      subst hj0
      rw [hbs] at hi
      refine ⟨?_, .inr ⟨rfl, by simpa using hi⟩⟩
      have hCi : C[i]? = some (.int .u8 ((s.getD i 0).toNat : Int)) := by
        rw [hC]
        simp [bytesRow, bytes, Array.getElem?_append, hi]
      simp [World.cell?, hnew, hCi]
    · cases j with
      | zero => simp [byteRow] at hs; subst hs; exact .int rfl
      | succ j => simp [byteRow] at hs

theorem strRow_unique {r r' : List UInt8} {n : Int} {f : Nat → List SV} (hb : ByteRow n f) (h : StrRow r n f) (h' : StrRow r' n f) : r = r' := by
  have hl : r.length = r'.length := by have := h.len; have := h'.len; omega
  refine List.ext_getElem hl fun i h1 h2 => ?_
  have hi : (i : Int) < n := by have := h.len; omega
  obtain ⟨t, ht, _⟩ := hb.h i hi
  have e1 := h.row i t hi ht
  have e2 := h'.row i t hi ht
  rw [List.getD_eq_getElem?_getD, List.getElem?_eq_getElem h1] at e1
  rw [List.getD_eq_getElem?_getD, List.getElem?_eq_getElem h2] at e2
  simp only [Option.getD_some] at e1 e2
  exact UInt8.toNat_inj.1 (by omega)

def cellNat : List SV → Nat
  | [.int _ t] => t.den.toNat
  | _ => 0

theorem strRow_exists {n : Int} {f : Nat → List SV} (hb : ByteRow n f) : ∃ r, StrRow r n f := by
  have h0 := hb.nn
  refine ⟨(List.range n.toNat).map fun i => UInt8.ofNat (cellNat (f i)), by simp; omega, fun i t hi ht => ?_⟩
  obtain ⟨t', ht', h1, h2⟩ := hb.h i hi
  rw [ht] at ht'
  simp only [List.cons.injEq, SV.int.injEq, true_and, and_true] at ht'
  subst ht'
  have hlt : i < n.toNat := by omega
  simp [List.getD_eq_getElem?_getD, hlt, ht, cellNat]
  omega

theorem local_bytesStr (hc : CxOk P cx) {src dst e : TypeId} {x : Operand} (ho : o.op = .convert src dst x) {ts td te : TI} (hls : look src cx.tt = some ts) (hks : ts.k = .slice e) (hld : look dst cx.tt = some td) (hkd : td.k = .string) (hle : look e cx.tt = some te) (hke : te.k = .int .u8)
    {nl : BT} {n : ST} {f : Nat → List SV} (hv : rd cx σ T x = some (.sl nl n 1 f) ∨ ∃ h, rd cx σ T x = some (.gsl nl n 1 f h)) {r : List UInt8} (hr : allT (condsOf σ.gm T) → ByteRow n.den f ∧ StrRow r n.den f) : Local P cx.gl σ T o ⟨.str r, [], [], []⟩ := by
  intro B N E a w ff hf hg st ag agh hT
  obtain ⟨hb, hr⟩ := hr hT
  have hx : RO E.I w (.sl nl n 1 f) (a.eval x) := by
    rcases hv with hv | ⟨h, hv⟩
    · cases rd_sound hv hg st (ag_of ag (by simp [ho, Op.operands])) hT with
      | ro h => exact h
    · cases rd_sound hv hg st (ag_of ag (by simp [ho, Op.operands])) hT with
      | ro h => cases h
      | gsl h _ => exact h
  refine yields_value st (v := .string (bytes r)) ?_ rfl (.ro (.str rfl))
  simp only [execOp, ho, Sem.run_bind]
  have hus := (hc.ti hls).slice hks
  have hud := (hc.ti hld).string hkd
  have hue := (hc.ti hle).int hke
  generalize a.eval x = vx at hx
  cases hx with
  | slnil h hn =>
    have : r = [] := List.eq_nil_of_length_eq_zero (by have := hr.len; omega)
    subst this
    simp [convert, run_underlying hus, run_underlying hud, run_underlying hue, Conv.bytesToString, bytes]
    rfl
  | sl g h hn hcap hcm hs hl h1 hcell hrel =>
    rename_i ad m cap
    have hrl : r.length = m := by have := hr.len; omega
    have := run_convert_bytes_back (P := P) w src dst e ad cap r hus hue hud (fun j hj => by
      have hjm : j < m := by omega
      obtain ⟨t, ht, _⟩ := hb.h j (by omega)
      have e1 := hr.row j t (by omega) ht
      have hc1 := (hcell j 0 hjm (by omega)).1
      have hr1 := hrel j 0 (.int .u8 t) hjm (by rw [ht]; rfl)
      have hg1 : g j 0 = .int .u8 t.den := (Rel.ro (E := E) hr1).int_inv
      rw [hg1] at hc1
      rw [List.getD_eq_getElem?_getD, List.getElem?_eq_getElem hj] at e1
      simp only [Option.getD_some] at e1
      rw [e1, ← hc1]
      have hsp := hs (by omega)
      obtain ⟨ab, ao, asp⟩ := ad
      simp only at hsp
      subst hsp
      simp [Addr.add]
      split
      · rename_i hj0; subst hj0; simp
      · rfl)
    rw [hrl] at this
    rw [this]
    rfl

end
end Go.Sx
