/- Part of the proofs of the statements about the breaker (layer 17): contracts of functions; it has no conditions of its own. -/
import Derived.Test.YtkhbbppkghcbeaaDoorProg
import Derived.Test.YtkhbbppkghcbeaaDoorSc
set_option linter.unusedVariables false
set_option linter.unusedSimpArgs false
namespace Go.Proofs.YtkhbbppkghcbeaaDoor
open Go.Sx
def tt : List (Nat × TI) := [
  (2, ⟨.int .i64, 1, 8, [.int .i64 (.l 0)]⟩),
  (3, ⟨.int .i64, 1, 8, [.int .i64 (.l 0)]⟩),
  (4, ⟨.bool, 1, 1, [.bool (.l false)]⟩),
  (5, ⟨.int .u8, 1, 1, [.int .u8 (.l 0)]⟩),
  (9, ⟨.string, 1, 16, [.str []]⟩),
  (23, ⟨.struct [(0, 3), (1, 3), (2, 2), (3, 3)], 4, 32, [.int .i64 (.l 0), .int .i64 (.l 0), .int .i64 (.l 0), .int .i64 (.l 0)]⟩),
  (24, ⟨.slice 4, 1, 24, [(.sl (.l true) (.l 0) 1 fun _ => [])]⟩),
  (26, ⟨.struct [(0, 23), (4, 3), (5, 2), (6, 2), (7, 2), (8, 24), (9, 3), (10, 2)], 11, 104, [.int .i64 (.l 0), .int .i64 (.l 0), .int .i64 (.l 0), .int .i64 (.l 0), .int .i64 (.l 0), .int .i64 (.l 0), .int .i64 (.l 0), .int .i64 (.l 0), (.sl (.l true) (.l 0) 1 fun _ => []), .int .i64 (.l 0), .int .i64 (.l 0)]⟩),
  (27, ⟨.slice 38, 1, 24, [(.sl (.l true) (.l 0) 4 fun _ => [])]⟩),
  (29, ⟨.slice 64, 1, 24, [(.sl (.l true) (.l 0) 4 fun _ => [])]⟩),
  (30, ⟨.int .i64, 1, 8, [.int .i64 (.l 0)]⟩),
  (38, ⟨.struct [(0, 3), (1, 2), (2, 2), (3, 2)], 4, 32, [.int .i64 (.l 0), .int .i64 (.l 0), .int .i64 (.l 0), .int .i64 (.l 0)]⟩),
  (42, ⟨.slice 48, 1, 24, [(.sl (.l true) (.l 0) 3 fun _ => [])]⟩),
  (45, ⟨.slice 50, 1, 24, [(.sl (.l true) (.l 0) 2 fun _ => [])]⟩),
  (46, ⟨.int .u16, 1, 2, [.int .u16 (.l 0)]⟩),
  (48, ⟨.struct [(0, 46), (1, 5), (2, 5)], 3, 4, [.int .u16 (.l 0), .int .u8 (.l 0), .int .u8 (.l 0)]⟩),
  (50, ⟨.struct [(0, 2), (1, 2)], 2, 16, [.int .i64 (.l 0), .int .i64 (.l 0)]⟩),
  (64, ⟨.struct [(0, 30), (1, 4), (2, 3), (3, 2)], 4, 32, [.int .i64 (.l 0), .bool (.l false), .int .i64 (.l 0), .int .i64 (.l 0)]⟩),
  (65, ⟨.array 10 64, 40, 320, [.int .i64 (.l 0), .bool (.l false), .int .i64 (.l 0), .int .i64 (.l 0), .int .i64 (.l 0), .bool (.l false), .int .i64 (.l 0), .int .i64 (.l 0), .int .i64 (.l 0), .bool (.l false), .int .i64 (.l 0), .int .i64 (.l 0), .int .i64 (.l 0), .bool (.l false), .int .i64 (.l 0), .int .i64 (.l 0), .int .i64 (.l 0), .bool (.l false), .int .i64 (.l 0), .int .i64 (.l 0), .int .i64 (.l 0), .bool (.l false), .int .i64 (.l 0), .int .i64 (.l 0), .int .i64 (.l 0), .bool (.l false), .int .i64 (.l 0), .int .i64 (.l 0), .int .i64 (.l 0), .bool (.l false), .int .i64 (.l 0), .int .i64 (.l 0), .int .i64 (.l 0), .bool (.l false), .int .i64 (.l 0), .int .i64 (.l 0), .int .i64 (.l 0), .bool (.l false), .int .i64 (.l 0), .int .i64 (.l 0)]⟩),
  (77, ⟨.struct [(0, 4), (1, 4)], 2, 2, [.bool (.l false), .bool (.l false)]⟩),
  (78, ⟨.array 6 77, 12, 12, [.bool (.l false), .bool (.l false), .bool (.l false), .bool (.l false), .bool (.l false), .bool (.l false), .bool (.l false), .bool (.l false), .bool (.l false), .bool (.l false), .bool (.l false), .bool (.l false)]⟩)]
def eqs : List TypeId := [23, 38, 48, 50, 64, 77]
def usesF (i : Nat) : List SV := [.bool (.a (decide (1 ≤ i ∧ i ≤ 4))), .bool (.a (decide (2 ≤ i ∧ i ≤ 4)))]
def gl : List (Nat × SV) := [(0, .rarr 6 2 usesF)]
theorem tt_ok : ttB Tryd.prog tt = true := by kernel_rfl
theorem mixed : Tryd.prog.follows .mixedOrders = true := by kernel_rfl
theorem cxOk {tab : List (Nat × FSpec)} {gl : List (Nat × SV)} {gh : List (Nat × List Gh)} : CxOk Tryd.prog ⟨dn, tt, tab, gl, eqs, gh⟩ := by
  refine ⟨rfl, tt_ok, fun t ht => ?_⟩
  simp only [eqs, List.mem_cons, List.mem_nil_iff, or_false] at ht
  rcases ht with rfl | rfl | rfl | rfl | rfl | rfl
  all_goals
    refine ⟨?_, ?_, ?_⟩
    · kernel_rfl
    · kernel_rfl
    · decide
end Go.Proofs.YtkhbbppkghcbeaaDoor
namespace Go.Proofs.YtkhbbppkghcbeaaDoor
open Go.Sx
/-- A breaker. -/
structure BS where
  w : Int
  fl : Int
  op : Int
  pr : Int
  st : Int
  since : Int
  now : Int
  ep : Int
  nl : Bool
  outs : List Bool
  good : Int
  probe : Int
/-- An event. -/
structure BE where
  kind : Int
  now : Int
  att : Int
  ep : Int
def cfC (s : BS) : List SV := [.int .i64 (.a s.w), .int .i64 (.a s.fl), .int .i64 (.a s.op), .int .i64 (.a s.pr)]
def stC (s : BS) (n : Int) (f : Nat → List SV) : List SV := [.int .i64 (.a s.w), .int .i64 (.a s.fl), .int .i64 (.a s.op), .int .i64 (.a s.pr), .int .i64 (.a s.st), .int .i64 (.a s.since), .int .i64 (.a s.now), .int .i64 (.a s.ep), .sl (.a s.nl) (.a n) 1 f, .int .i64 (.a s.good), .int .i64 (.a s.probe)]
def evC (e : BE) : List SV := [.int .i64 (.a e.kind), .int .i64 (.a e.now), .int .i64 (.a e.att), .int .i64 (.a e.ep)]
/-- A slice of what is encoded so. -/
structure Rows {α : Type} (enc : α → List SV) (l : List α) (n : Int) (f : Nat → List SV) : Prop where
  n : n = l.length
  f : ∀ (i : Nat) (x : α), l[i]? = some x → f i = enc x
def encB (b : Bool) : List SV := [.bool (.a b)]
def failsF (l : List Bool) : Int := ((l.filter (!·)).length : Nat)
def spFailed : FSpec := fun _ xs ls K => ∃ (nl : Bool) (n : Int) (f : Nat → List SV) (l : List Bool), xs = [.sl (.a nl) (.a n) 1 f] ∧ ls = [] ∧ Rows encB l n f ∧ l.length ≤ 9223372036854775807 ∧ ∀ r, r = failsF l → K (.int .i64 (.a r)) []
set_option maxRecDepth 10000
theorem failsF_step (l : List Bool) (i : Nat) (b : Bool) (h : l[i]? = some b) : failsF (l.take (i + 1)) = failsF (l.take i) + if b then 0 else 1 := by
  rw [List.take_add_one, h]
  simp only [failsF, Option.toList_some, List.filter_append, List.length_append]
  cases b <;> simp
theorem failsF_le (l : List Bool) : 0 ≤ failsF l ∧ failsF l ≤ l.length := by
  have := List.length_filter_le (!·) l
  simp only [failsF]
  omega

structure FInv (l : List Bool) (i : Nat) (n : Int) (c L I : Int) (m : Nat) : Prop where
  le : i ≤ l.length
  n : n = l.length
  c : c = failsF (l.take i)
  L : L = l.length
  I : I = i
  m : m = l.length - i
def failedJ (l : List Bool) (f : Nat → List SV) (m : Nat) (vs : List (Option SV)) (hp : List Hl) : Prop :=
  ∃ (i : Nat) (nl' : BT) (n' : Sx.ST) (c L I : Int), vs = [some (.int .i64 (.a c)), some (.sl nl' n' 1 f), some (.int .i64 (.a L)), some (.int .i64 (.a I))] ∧ hp = [] ∧ FInv l i n'.den c L I m

theorem isJ {D : Dn} (hD : D = dn) {j : Nat} {I : Int} (h : IsJ j (D.i (.a I))) : (j : Int) = I := by subst hD; exact h.h

theorem failed_ok : FnOk Tryd.prog gl 35 spFailed := by
  refine fnOk (gh := []) mixed cxOk tabNil Tryd.func35 (by kernel_rfl) (by kernel_rfl) ?_
  intro xs ls K h
  unfold spFailed at h
  obtain ⟨nl, n, f, l, rfl, rfl, R, hl, h⟩ := h
  · obtain ⟨r, hr⟩ : ∃ r, r = failsF l := ⟨_, rfl⟩
    refine ⟨_, _, h r hr, fun D hD => ?_⟩
    clear h
    cbv
    obtain ⟨J, hJ⟩ : ∃ J, J = failedJ l f := ⟨_, rfl⟩
    refine ⟨[3, 6, 7, 8], J, ⟨rfl, l.length, ?_⟩, ?_⟩
    · cbv
      rw [hJ]
      subst hD
      exact ⟨0, _, _, _, _, _, rfl, rfl, ⟨Nat.zero_le _, R.n, rfl, R.n, rfl, rfl⟩⟩
    intro m vs hp h
    rw [hJ] at h
    unfold failedJ at h
    obtain ⟨i, nl', n', c, L, I, rfl, rfl, V⟩ := h
    cbv
    refine br hD (fun h => ?_) (fun h => ?_) <;> cbv
    · simp at h
      have hlt : i < l.length := by have := V.L; have := V.I; omega
      refine ⟨?_, fun j hj => ?_⟩
      · subst hD; have := V.L; have := V.I; have := V.n; exact ⟨by simp [dn]; omega, by simp [dn]; omega⟩
      have hji : j = i := by have := isJ hD hj; have := V.I; omega
      have hfi := R.f i l[i] (List.getElem?_eq_getElem hlt)
      have hstep := failsF_step l i l[i] (List.getElem?_eq_getElem hlt)
      generalize l[i] = b at hfi hstep
      rw [hji, hfi, encB]
      cbv
      refine br hD (fun h => ?_) (fun h => ?_) <;> cbv
      all_goals
        simp at h
        subst h
        refine ⟨l.length - (i + 1), ?_, ?_⟩
        · have := V.m; omega
        cbv
        rw [hJ]
        subst hD
        refine ⟨i + 1, _, _, _, _, _, rfl, rfl, ?_⟩
        have h1 := V.c; have h2 := V.L; have h3 := V.I; have h4 := V.n
        have hfl := failsF_le (l.take i)
        have hlen : (l.take i).length = i := by simp; omega
        rw [hlen] at hfl
        refine ⟨by omega, h4, ?_, h2, ?_, rfl⟩
        all_goals simp [dn] at hstep ⊢
        all_goals first | omega | (rw [wrap64 (by omega) (by omega)]; omega)
    · simp at h
      refine finInt hD ?_
      have h1 := V.c; have h2 := V.L; have h3 := V.I; have h4 := V.le
      have : i = l.length := by omega
      simp [hr, h1, this]

def turnF (s : BS) (st since : Int) : BS := ⟨s.w, s.fl, s.op, s.pr, st, since, s.now, IntKind.i64.wrap (s.ep + 1), true, [], 0, 0⟩
def spTurn : FSpec := fun _ xs ls K => ∃ (s : BS) (n : Int) (f : Nat → List SV) (st now : Int), xs = [.ptr 0 0, .int .i64 (.a st), .int .i64 (.a now)] ∧ ls = [.blk 26 (stC s n f)] ∧
  ∀ (s' : BS) (n' : Int) (f' : Nat → List SV), s' = turnF s st now → Rows encB s'.outs n' f' → K (.tup []) [.blk 26 (stC s' n' f')]
theorem leSt {a1 a2 a3 a4 a5 a6 a7 a8 a9 a10 n n' : Int} {nl : Bool} {f f' : Nat → List SV} {s : BS} (h1 : a1 = s.w) (h2 : a2 = s.fl) (h3 : a3 = s.op) (h4 : a4 = s.pr) (h5 : a5 = s.st) (h6 : a6 = s.since) (h7 : a7 = s.now) (h8 : a8 = s.ep) (hnl : nl = s.nl) (R : Rows encB s.outs n f) (R' : Rows encB s.outs n' f') (h9 : a9 = s.good) (h10 : a10 = s.probe) :
    LeL [.int .i64 (.a a1), .int .i64 (.a a2), .int .i64 (.a a3), .int .i64 (.a a4), .int .i64 (.a a5), .int .i64 (.a a6), .int .i64 (.a a7), .int .i64 (.a a8), .sl (.a nl) (.a n) 1 f, .int .i64 (.a a9), .int .i64 (.a a10)] (stC s n' f') := by
  subst h1 h2 h3 h4 h5 h6 h7 h8 h9 h10 hnl
  refine .cons (.refl _) (.cons (.refl _) (.cons (.refl _) (.cons (.refl _) (.cons (.refl _) (.cons (.refl _) (.cons (.refl _) (.cons (.refl _) (.cons (.sl rfl ?_ fun i hi => ?_) (.refl _)))))))))
  · simp [R.n, R'.n]
  · have hlt : i < s.outs.length := by have := R.n; simp at hi; omega
    rw [R.f i _ (List.getElem?_eq_getElem hlt), R'.f i _ (List.getElem?_eq_getElem hlt)]
theorem turn_ok : FnOk Tryd.prog gl 39 spTurn := by
  refine fnOk (gh := []) mixed cxOk tabNil Tryd.func39 (by kernel_rfl) (by kernel_rfl) ?_
  intro xs ls K h
  unfold spTurn at h
  obtain ⟨s, n, f, st, now, rfl, rfl, h⟩ := h
  obtain ⟨s', hs'⟩ : ∃ s', s' = turnF s st now := ⟨_, rfl⟩
  refine ⟨_, _, h s' 0 (fun _ => []) hs' ⟨by simp [hs', turnF], by simp [hs', turnF]⟩, fun D hD => ?_⟩
  clear h
  cbv
  subst hD hs'
  exact fin_eq rfl rfl
end Go.Proofs.YtkhbbppkghcbeaaDoor
namespace Go.Proofs.YtkhbbppkghcbeaaDoor
open Go.Sx
def outcomeF (s : BS) (g : Bool) : BS :=
  let next := (if (s.outs.length : Int) = s.w then s.outs.drop 1 else s.outs) ++ [g]
  let s1 : BS := ⟨s.w, s.fl, s.op, s.pr, s.st, s.since, s.now, s.ep, false, next, s.good, s.probe⟩
  if failsF next = s.fl then turnF s1 1 s.now else s1
def rowF (l : List Bool) (i : Nat) : List SV := encB (l.getD i false)
theorem rowF_ok (l : List Bool) : Rows encB l l.length (rowF l) := ⟨rfl, fun i x h => by simp [rowF, List.getD_eq_getElem?_getD, h]⟩
def spOutcome : FSpec := fun _ xs ls K => ∃ (s : BS) (n : Int) (f : Nat → List SV) (g : Bool), xs = [.ptr 0 0, .bool (.a g)] ∧ ls = [.blk 26 (stC s n f)] ∧ Rows encB s.outs n f ∧ s.outs.length ≤ 1000000 ∧ 1 ≤ s.w ∧
  ∀ (s' : BS) (n' : Int) (f' : Nat → List SV), s' = outcomeF s g → Rows encB s'.outs n' f' → K (.tup []) [.blk 26 (stC s' n' f')]
set_option maxRecDepth 10000
theorem outcomeF_eq (s : BS) (g : Bool) (l1 : List Bool) (h : l1 = if (s.outs.length : Int) = s.w then s.outs.drop 1 else s.outs) :
    outcomeF s g = (if failsF (l1 ++ [g]) = s.fl then turnF ⟨s.w, s.fl, s.op, s.pr, s.st, s.since, s.now, s.ep, false, l1 ++ [g], s.good, s.probe⟩ 1 s.now else ⟨s.w, s.fl, s.op, s.pr, s.st, s.since, s.now, s.ep, false, l1 ++ [g], s.good, s.probe⟩) := by
  subst h; rfl
theorem rows_drop {l : List Bool} {n n1 : Int} {f f1 : Nat → List SV} (R : Rows encB l n f) (h : SubRow f1 n1 f 1 n) (h0 : 1 ≤ l.length) : Rows encB (l.drop 1) n1 f1 := by
  refine ⟨?_, fun i x hx => ?_⟩
  · have := h.len; have := R.n; simp; omega
  · rw [h.row i (i + 1) (by omega)]
    exact R.f (i + 1) x (by rw [List.getElem?_drop] at hx; rw [← hx]; congr 1; omega)
/-- The row that is made, copied into, and set at its end. -/
theorem rows_next {l : List Bool} {n r N : Int} {j : Nat} {g : Bool} {f f2 f3 : Nat → List SV} (R : Rows encB l n f) (hc : Copied f2 r n N f fun _ => [.bool (.l false)]) (hN : N = n + 1) (hj : (j : Int) = n) (h3 : SetAt f3 f2 j [.bool (.a g)]) : Rows encB (l ++ [g]) N f3 := by
  have hn := R.n
  have hr := hc.len
  refine ⟨by simp; omega, fun i x hx => ?_⟩
  rw [List.getElem?_append] at hx
  split at hx
  · rename_i hi
    rw [h3.other i (by omega), hc.lo i (by omega)]
    exact R.f i x hx
  · have : i = j := by
      have := (List.getElem?_eq_some_iff.1 hx).1
      simp at this; omega
    subst this
    rw [h3.at_]
    have : i - l.length = 0 := by omega
    rw [this] at hx
    simp at hx
    rw [hx]; rfl
theorem row_zero {l : List Bool} {n r N : Int} {j : Nat} {f f2 : Nat → List SV} (R : Rows encB l n f) (hc : Copied f2 r n N f fun _ => [.bool (.l false)]) (hN : N = n + 1) (hj : (j : Int) = n) : f2 j = [.bool (.l false)] := by
  have hr := hc.len
  exact hc.hi j (by omega) (by omega)

theorem outcome_ok : FnOk Tryd.prog gl 42 spOutcome := by
  refine fnOk (gh := [(5, [.freeze 5])]) mixed cxOk (tabCons failed_ok (tabCons turn_ok tabNil)) Tryd.func42 (by kernel_rfl) (by kernel_rfl) ?_
  intro xs ls K h
  unfold spOutcome at h
  obtain ⟨s, n, f, g, rfl, rfl, R, hl, hw, h⟩ := h
  obtain ⟨s', hs'⟩ : ∃ s', s' = outcomeF s g := ⟨_, rfl⟩
  obtain ⟨n', f', R'⟩ : ∃ n' f', Rows encB s'.outs n' f' := ⟨_, _, rowF_ok _⟩
  refine ⟨_, _, h s' n' f' hs' R', fun D hD => ?_⟩
  clear h
  cbv
  refine br hD (fun h => ?_) (fun h => ?_) <;> cbv
  · simp at h
    have hn := R.n
    have h0 : 1 ≤ s.outs.length := by omega
    refine ⟨?_, fun f1 n1 hs1 => ?_⟩
    · subst hD; exact ⟨by simp [dn], by simp [dn]; omega, by simp [dn]⟩
    have R1 : Rows encB (s.outs.drop 1) n1 f1 := rows_drop R (by subst hD; exact hs1) h0
    have hl1 : (s.outs.drop 1).length ≤ 1000000 := by simp; omega
    have he := outcomeF_eq s g (s.outs.drop 1) (by rw [if_pos (by omega)])
    generalize s.outs.drop 1 = l1 at R1 hl1 he
    clear hs1 h hn h0
    cbv
    have hnn := R1.n
    have hN : ∀ {t : Sx.ST}, D.i (ST.bin BinOp.add IntKind.i64 t (ST.l 1)) = IntKind.i64.wrap (t.den + 1) := by subst hD; intro t; rfl
    have hA : ∀ x : Int, D.i (ST.a x) = x := by subst hD; intro x; rfl
    refine ⟨?_, ?_⟩
    · have := R1.n; subst hD; exact ⟨by simp [dn]; rw [wrap64 (by omega) (by omega)]; omega, by simp [dn]; rw [wrap64 (by omega) (by omega)]; omega, by simp [dn]; rw [wrap64 (by omega) (by omega)]; omega⟩
    intro f2 r hc
    cbv
    refine ⟨?_, fun j hj => ?_⟩
    · simp only [hA, hN, den_a]; have := R1.n; rw [wrap64 (by omega) (by omega)]; exact ⟨by omega, by omega⟩
    have hj1 := hj.h
    simp only [hA, hN, den_a] at hc hj1
    rw [wrap64 (by have := R1.n; omega) (by have := R1.n; omega)] at hc
    have hz : f2 j = [.bool (.l false)] := row_zero R1 hc rfl hj1
    cbv
    rw [hz]
    cbv
    refine ⟨?_, ?_⟩
    · refine ⟨?_⟩; simp only [hA, hN, den_a]; have := R1.n; have := hj.h; simp only [hA] at this; rw [wrap64 (by omega) (by omega)]; omega
    intro f3 hf3
    have RN : Rows encB (l1 ++ [g]) _ f3 := rows_next R1 hc rfl hj1 (by subst hD; exact hf3)
    cbv
    refine ⟨_, _, _, l1 ++ [g], rfl, rfl, (by simp only [hA, hN, den_a]; have := R1.n; rw [wrap64 (by omega) (by omega)]; exact RN), by simp; omega, fun c hcc => ?_⟩
    cbv
    refine br hD (fun h => ?_) (fun h => ?_) <;> cbv
    · simp at h
      refine ⟨⟨_, _, _, _, _, _, _, _, _, l1 ++ [g], _, _⟩, _, _, _, _, rfl, rfl, ?_⟩
      intro s2 n2 f2' hs2 R2
      have hs2 : s2 = turnF ⟨s.w, s.fl, s.op, s.pr, s.st, s.since, s.now, s.ep, false, l1 ++ [g], s.good, s.probe⟩ 1 s.now := by subst hD; exact hs2
      rw [if_pos (by omega), ← hs2] at he
      cbv
      rw [he] at hs'
      subst hs' hD
      refine finBlk (.refl _) (leSt rfl rfl rfl rfl rfl rfl rfl rfl rfl R2 R' rfl rfl)
    · simp at h
      rw [if_neg (by omega)] at he
      rw [he] at hs'
      subst hs' hD
      refine finBlk (.refl _) (leSt (s := ⟨s.w, s.fl, s.op, s.pr, s.st, s.since, s.now, s.ep, false, l1 ++ [g], s.good, s.probe⟩) rfl rfl rfl rfl rfl rfl rfl rfl ?_ ?_ R' rfl rfl)
      · rfl
      · simp only [hA, hN, den_a]; have := R1.n; rw [wrap64 (by omega) (by omega)]; exact RN
  · simp at h
    have hn := R.n
    have R1 := R
    have hl1 := hl
    have he := outcomeF_eq s g s.outs (by rw [if_neg (by omega)])
    clear hn h hl R
    generalize s.outs = l1 at R1 hl1 he
    cbv
    have hnn := R1.n
    have hN : ∀ {t : Sx.ST}, D.i (ST.bin BinOp.add IntKind.i64 t (ST.l 1)) = IntKind.i64.wrap (t.den + 1) := by subst hD; intro t; rfl
    have hA : ∀ x : Int, D.i (ST.a x) = x := by subst hD; intro x; rfl
    refine ⟨?_, ?_⟩
    · have := R1.n; subst hD; exact ⟨by simp [dn]; rw [wrap64 (by omega) (by omega)]; omega, by simp [dn]; rw [wrap64 (by omega) (by omega)]; omega, by simp [dn]; rw [wrap64 (by omega) (by omega)]; omega⟩
    intro f2 r hc
    cbv
    refine ⟨?_, fun j hj => ?_⟩
    · simp only [hA, hN, den_a]; have := R1.n; rw [wrap64 (by omega) (by omega)]; exact ⟨by omega, by omega⟩
    have hj1 := hj.h
    simp only [hA, hN, den_a] at hc hj1
    rw [wrap64 (by have := R1.n; omega) (by have := R1.n; omega)] at hc
    have hz : f2 j = [.bool (.l false)] := row_zero R1 hc rfl hj1
    cbv
    rw [hz]
    cbv
    refine ⟨?_, ?_⟩
    · refine ⟨?_⟩; simp only [hA, hN, den_a]; have := R1.n; have := hj.h; simp only [hA] at this; rw [wrap64 (by omega) (by omega)]; omega
    intro f3 hf3
    have RN : Rows encB (l1 ++ [g]) _ f3 := rows_next R1 hc rfl hj1 (by subst hD; exact hf3)
    cbv
    refine ⟨_, _, _, l1 ++ [g], rfl, rfl, (by simp only [hA, hN, den_a]; have := R1.n; rw [wrap64 (by omega) (by omega)]; exact RN), by simp; omega, fun c hcc => ?_⟩
    cbv
    refine br hD (fun h => ?_) (fun h => ?_) <;> cbv
    · simp at h
      refine ⟨⟨_, _, _, _, _, _, _, _, _, l1 ++ [g], _, _⟩, _, _, _, _, rfl, rfl, ?_⟩
      intro s2 n2 f2' hs2 R2
      have hs2 : s2 = turnF ⟨s.w, s.fl, s.op, s.pr, s.st, s.since, s.now, s.ep, false, l1 ++ [g], s.good, s.probe⟩ 1 s.now := by subst hD; exact hs2
      rw [if_pos (by omega), ← hs2] at he
      cbv
      rw [he] at hs'
      subst hs' hD
      refine finBlk (.refl _) (leSt rfl rfl rfl rfl rfl rfl rfl rfl rfl R2 R' rfl rfl)
    · simp at h
      rw [if_neg (by omega)] at he
      rw [he] at hs'
      subst hs' hD
      refine finBlk (.refl _) (leSt (s := ⟨s.w, s.fl, s.op, s.pr, s.st, s.since, s.now, s.ep, false, l1 ++ [g], s.good, s.probe⟩) rfl rfl rfl rfl rfl rfl rfl rfl ?_ ?_ R' rfl rfl)
      · rfl
      · simp only [hA, hN, den_a]; have := R1.n; rw [wrap64 (by omega) (by omega)]; exact RN
end Go.Proofs.YtkhbbppkghcbeaaDoor
namespace Go.Proofs.YtkhbbppkghcbeaaDoor
open Go.Sx
def checkEvF (e : BE) : Int :=
  if e.kind < 1 ∨ 6 ≤ e.kind then 2
  else if (¬ (1 ≤ e.kind ∧ e.kind ≤ 4) ∧ e.att ≠ 0) ∨ (¬ (2 ≤ e.kind ∧ e.kind ≤ 4) ∧ e.ep ≠ 0) then 2
  else if e.now < 0 ∨ 1000000000000 < e.now then 7
  else if (1 ≤ e.kind ∧ e.kind ≤ 4) ∧ (e.att < 1 ∨ 1000000000 < e.att) then 7
  else if (2 ≤ e.kind ∧ e.kind ≤ 4) ∧ (e.ep < 1 ∨ 1000000000 < e.ep) then 7
  else 0
def spCheckEv : FSpec := fun _ xs ls K => ∃ e : BE, xs = [.agg (evC e)] ∧ ls = [] ∧ ∀ r, r = checkEvF e → K (.int .i64 (.a r)) []
set_option maxRecDepth 10000
theorem checkEv_ok : FnOk Tryd.prog gl 38 spCheckEv := by
  refine fnOk (gh := []) mixed cxOk tabNil Tryd.func38 (by kernel_rfl) (by kernel_rfl) ?_
  intro xs ls K h
  unfold spCheckEv at h
  obtain ⟨⟨ek, en, ea, ee⟩, rfl, rfl, h⟩ := h
  obtain ⟨r, hr⟩ : ∃ r, r = checkEvF ⟨ek, en, ea, ee⟩ := ⟨_, rfl⟩
  refine ⟨_, _, h r hr, fun D hD => ?_⟩
  clear h
  unfold gl
  obtain ⟨uf, huf⟩ : ∃ uf, uf = usesF := ⟨_, rfl⟩
  rw [← huf]
  cbv
  refine br hD (fun h => ?_) (fun h => ?_) <;> cbv
  · refine finInt hD ?_
    simp at h ⊢
    rw [hr, checkEvF, if_pos (by show ek < 1 ∨ 6 ≤ ek; omega)]
  · simp at h
    refine ⟨?_, fun j hj => ?_⟩
    · subst hD; exact ⟨by simp [dn]; omega, by simp [dn]; omega⟩
    have hj := isJ hD hj
    have hf : uf j = [.bool (.a (decide (1 ≤ j ∧ j ≤ 4))), .bool (.a (decide (2 ≤ j ∧ j ≤ 4)))] := by rw [huf]; rfl
    obtain ⟨b1, hb1⟩ : ∃ b, b = decide (1 ≤ j ∧ j ≤ 4) := ⟨_, rfl⟩
    obtain ⟨b2, hb2⟩ : ∃ b, b = decide (2 ≤ j ∧ j ≤ 4) := ⟨_, rfl⟩
    rw [← hb1, ← hb2] at hf
    have hc1 : b1 = true ↔ 1 ≤ ek ∧ ek ≤ 4 := by rw [hb1]; simp; omega
    have hc2 : b2 = true ↔ 2 ≤ ek ∧ ek ≤ 4 := by rw [hb2]; simp; omega
    clear hb1 hb2 huf hj
    have hc : checkEvF ⟨ek, en, ea, ee⟩ = if (b1 = false ∧ ea ≠ 0) ∨ (b2 = false ∧ ee ≠ 0) then 2 else if en < 0 ∨ 1000000000000 < en then 7 else if b1 = true ∧ (ea < 1 ∨ 1000000000 < ea) then 7 else if b2 = true ∧ (ee < 1 ∨ 1000000000 < ee) then 7 else 0 := by
      rw [checkEvF, if_neg (by show ¬ (ek < 1 ∨ 6 ≤ ek); omega)]
      simp only [← hc1, ← hc2, Bool.not_eq_true]
    rw [hc] at hr
    clear hc hc1 hc2 h
    cbv
    rw [hf]
    cbv
    repeat' (refine br hD (fun h => ?_) (fun h => ?_) <;> cbv)
    all_goals
      refine finInt hD ?_
      simp only [den_l]
      rw [hr]
      clear hr hf
      cases b1 <;> cases b2 <;> simp at * <;> (repeat' split) <;> omega
end Go.Proofs.YtkhbbppkghcbeaaDoor
namespace Go.Proofs.YtkhbbppkghcbeaaDoor
open Go.Sx
def endF (s : BS) (e : BE) : BS × Int :=
  if s.st = 0 then (if e.kind = 4 then s else outcomeF s (e.kind == 2), 0)
  else if s.st = 1 ∨ s.probe ≠ e.att then (s, 4)
  else if e.kind = 3 then (turnF s 1 s.now, 0)
  else
    let g := if e.kind = 2 then IntKind.i64.wrap (s.good + 1) else s.good
    let s1 : BS := ⟨s.w, s.fl, s.op, s.pr, s.st, s.since, s.now, s.ep, s.nl, s.outs, g, 0⟩
    if g = s.pr then (turnF s1 0 s.now, 0) else (s1, 0)
def spEnd : FSpec := fun _ xs ls K => ∃ (s : BS) (n : Int) (f : Nat → List SV) (e : BE), xs = [.ptr 0 0, .agg (evC e)] ∧ ls = [.blk 26 (stC s n f)] ∧ Rows encB s.outs n f ∧ s.outs.length ≤ 1000000 ∧ 1 ≤ s.w ∧
  ∀ (s' : BS) (r : Int) (n' : Int) (f' : Nat → List SV), s' = (endF s e).1 → r = (endF s e).2 → Rows encB s'.outs n' f' → K (.int .i64 (.a r)) [.blk 26 (stC s' n' f')]
set_option maxRecDepth 10000
theorem end_ok : FnOk Tryd.prog gl 40 spEnd := by
  refine fnOk (gh := []) mixed cxOk (tabCons outcome_ok (tabCons turn_ok tabNil)) Tryd.func40 (by kernel_rfl) (by kernel_rfl) ?_
  intro xs ls K h
  unfold spEnd at h
  obtain ⟨⟨w, fl, op, pr, st, si, nw, ep, nl, outs, good, probe⟩, n, f, ⟨ek, en, ea, ee⟩, rfl, rfl, R, hl, hw, h⟩ := h
  obtain ⟨s', hs'⟩ : ∃ s', s' = (endF ⟨w, fl, op, pr, st, si, nw, ep, nl, outs, good, probe⟩ ⟨ek, en, ea, ee⟩).1 := ⟨_, rfl⟩
  obtain ⟨r, hr⟩ : ∃ r, r = (endF ⟨w, fl, op, pr, st, si, nw, ep, nl, outs, good, probe⟩ ⟨ek, en, ea, ee⟩).2 := ⟨_, rfl⟩
  obtain ⟨n', f', R'⟩ : ∃ n' f', Rows encB s'.outs n' f' := ⟨_, _, rowF_ok _⟩
  refine ⟨_, _, h s' r n' f' hs' hr R', fun D hD => ?_⟩
  clear h
  cbv
  refine br hD (fun h => ?_) (fun h => ?_) <;> cbv
  · simp at h
    refine br hD (fun h2 => ?_) (fun h2 => ?_) <;> cbv
    · simp at h2
      refine ⟨⟨_, _, _, _, _, _, _, _, _, outs, _, _⟩, _, _, _, rfl, rfl, by subst hD; exact R, hl, by subst hD; exact hw, fun s2 n2 f2 hs2 R2 => ?_⟩
      cbv
      have e1 : s' = s2 := by subst hD; rw [hs', endF, if_pos h, if_neg h2]; exact hs2.symm
      have e2 : r = 0 := by rw [hr, endF, if_pos h]
      subst hD e1 e2
      exact finBlk (leInt rfl) (leSt rfl rfl rfl rfl rfl rfl rfl rfl rfl R2 R' rfl rfl)
    · simp at h2
      have e1 : s' = ⟨w, fl, op, pr, st, si, nw, ep, nl, outs, good, probe⟩ := by rw [hs', endF, if_pos h, if_pos h2]
      have e2 : r = 0 := by rw [hr, endF, if_pos h]
      subst hD e1 e2
      exact finBlk (leInt rfl) (leSt (s := ⟨w, fl, op, pr, st, si, nw, ep, nl, outs, good, probe⟩) rfl rfl rfl rfl rfl rfl rfl rfl rfl R R' rfl rfl)
  · simp at h
    refine br hD (fun h2 => ?_) (fun h2 => ?_) <;> cbv
    · simp at h2
      have h2' : st = 1 ∨ probe ≠ ea := by omega
      have e1 : s' = ⟨w, fl, op, pr, st, si, nw, ep, nl, outs, good, probe⟩ := by rw [hs', endF, if_neg h, if_pos h2']
      have e2 : r = 4 := by rw [hr, endF, if_neg h, if_pos h2']
      subst hD e1 e2
      exact finBlk (leInt rfl) (leSt (s := ⟨w, fl, op, pr, st, si, nw, ep, nl, outs, good, probe⟩) rfl rfl rfl rfl rfl rfl rfl rfl rfl R R' rfl rfl)
    · simp at h2
      have h2' : ¬ (st = 1 ∨ probe ≠ ea) := by omega
      refine br hD (fun h3 => ?_) (fun h3 => ?_) <;> cbv
      · simp at h3
        refine ⟨⟨_, _, _, _, _, _, _, _, _, outs, _, _⟩, _, _, _, _, rfl, rfl, fun s2 n2 f2 hs2 R2 => ?_⟩
        cbv
        have e1 : s' = s2 := by subst hD; rw [hs', endF, if_neg h, if_neg h2', if_pos h3]; exact hs2.symm
        have e2 : r = 0 := by rw [hr, endF, if_neg h, if_neg h2', if_pos h3]
        subst hD e1 e2
        exact finBlk (leInt rfl) (leSt rfl rfl rfl rfl rfl rfl rfl rfl rfl R2 R' rfl rfl)
      · simp at h3
        refine br hD (fun h4 => ?_) (fun h4 => ?_) <;> cbv <;> refine br hD (fun h5 => ?_) (fun h5 => ?_) <;> cbv
        all_goals simp at h4 h5
        · have hE : endF ⟨w, fl, op, pr, st, si, nw, ep, nl, outs, good, probe⟩ ⟨ek, en, ea, ee⟩ = (turnF ⟨w, fl, op, pr, st, si, nw, ep, nl, outs, IntKind.i64.wrap (good + 1), 0⟩ 0 nw, 0) := by
            rw [endF, if_neg h, if_neg h2', if_neg h3]; dsimp only; rw [if_pos h4, if_pos h5]
          rw [hE] at hs' hr
          refine ⟨⟨_, _, _, _, _, _, _, _, _, outs, _, _⟩, _, _, _, _, rfl, rfl, fun s2 n2 f2 hs2 R2 => ?_⟩
          cbv
          have e1 : s' = s2 := by subst hD; rw [hs']; exact hs2.symm
          subst hD e1 hr
          exact finBlk (leInt rfl) (leSt rfl rfl rfl rfl rfl rfl rfl rfl rfl R2 R' rfl rfl)
        · have hE : endF ⟨w, fl, op, pr, st, si, nw, ep, nl, outs, good, probe⟩ ⟨ek, en, ea, ee⟩ = (⟨w, fl, op, pr, st, si, nw, ep, nl, outs, IntKind.i64.wrap (good + 1), 0⟩, 0) := by
            rw [endF, if_neg h, if_neg h2', if_neg h3]; dsimp only; rw [if_pos h4, if_neg h5]
          rw [hE] at hs' hr
          subst hD hs' hr
          exact finBlk (leInt rfl) (leSt (s := ⟨w, fl, op, pr, st, si, nw, ep, nl, outs, IntKind.i64.wrap (good + 1), 0⟩) rfl rfl rfl rfl rfl rfl rfl rfl rfl R R' rfl rfl)
        · have hE : endF ⟨w, fl, op, pr, st, si, nw, ep, nl, outs, good, probe⟩ ⟨ek, en, ea, ee⟩ = (turnF ⟨w, fl, op, pr, st, si, nw, ep, nl, outs, good, 0⟩ 0 nw, 0) := by
            rw [endF, if_neg h, if_neg h2', if_neg h3]; dsimp only; rw [if_neg h4, if_pos h5]
          rw [hE] at hs' hr
          refine ⟨⟨_, _, _, _, _, _, _, _, _, outs, _, _⟩, _, _, _, _, rfl, rfl, fun s2 n2 f2 hs2 R2 => ?_⟩
          cbv
          have e1 : s' = s2 := by subst hD; rw [hs']; exact hs2.symm
          subst hD e1 hr
          exact finBlk (leInt rfl) (leSt rfl rfl rfl rfl rfl rfl rfl rfl rfl R2 R' rfl rfl)
        · have hE : endF ⟨w, fl, op, pr, st, si, nw, ep, nl, outs, good, probe⟩ ⟨ek, en, ea, ee⟩ = (⟨w, fl, op, pr, st, si, nw, ep, nl, outs, good, 0⟩, 0) := by
            rw [endF, if_neg h, if_neg h2', if_neg h3]; dsimp only; rw [if_neg h4, if_neg h5]
          rw [hE] at hs' hr
          subst hD hs' hr
          exact finBlk (leInt rfl) (leSt (s := ⟨w, fl, op, pr, st, si, nw, ep, nl, outs, good, 0⟩) rfl rfl rfl rfl rfl rfl rfl rfl rfl R R' rfl rfl)
end Go.Proofs.YtkhbbppkghcbeaaDoor
namespace Go.Proofs.YtkhbbppkghcbeaaDoor
open Go.Sx
/-- What an event does, time having passed. -/
def restF (s : BS) (e : BE) : BS × Bool × Int :=
  if 1000000000 < s.ep then (s, false, 3)
  else if e.kind = 5 then (s, false, 0)
  else if e.kind = 1 ∧ s.st = 2 then (if s.probe ≠ 0 then (s, false, 0) else (⟨s.w, s.fl, s.op, s.pr, s.st, s.since, s.now, s.ep, s.nl, s.outs, s.good, e.att⟩, true, 0))
  else if e.kind = 1 then (s, s.st == 0, 0)
  else if e.ep = s.ep then
    (if (endF s e).2 ≠ 0 then ((endF s e).1, false, (endF s e).2) else if 1000000000 < (endF s e).1.ep then ((endF s e).1, false, 3) else ((endF s e).1, false, 0))
  else (s, false, 0)
def passF (s : BS) (now : Int) : BS :=
  let s1 : BS := ⟨s.w, s.fl, s.op, s.pr, s.st, s.since, now, s.ep, s.nl, s.outs, s.good, s.probe⟩
  if s.st = 1 ∧ IntKind.i64.wrap (s.since + s.op) ≤ now then turnF s1 2 (IntKind.i64.wrap (s.since + s.op)) else s1
def applyF (s : BS) (e : BE) : BS × Bool × Int :=
  if checkEvF e ≠ 0 then (s, false, checkEvF e)
  else if e.now < s.now then (s, false, 9)
  else restF (passF s e.now) e
def spApply : FSpec := fun _ xs ls K => ∃ (s : BS) (n : Int) (f : Nat → List SV) (e : BE), xs = [.ptr 0 0, .agg (evC e)] ∧ ls = [.blk 26 (stC s n f)] ∧ Rows encB s.outs n f ∧ s.outs.length ≤ 1000000 ∧ 1 ≤ s.w ∧
  ∀ (s' : BS) (b : Bool) (r : Int) (n' : Int) (f' : Nat → List SV), s' = (applyF s e).1 → b = (applyF s e).2.1 → r = (applyF s e).2.2 → Rows encB s'.outs n' f' → K (.tup [.bool (.a b), .int .i64 (.a r)]) [.blk 26 (stC s' n' f')]
set_option maxRecDepth 10000
set_option maxHeartbeats 1000000
theorem apply_ok : FnOk Tryd.prog gl 31 spApply := by
  refine fnOk (gh := []) mixed cxOk (tabCons checkEv_ok (tabCons end_ok (tabCons turn_ok tabNil))) Tryd.func31 (by kernel_rfl) (by kernel_rfl) ?_
  intro xs ls K h
  unfold spApply at h
  obtain ⟨⟨w, fl, op, pr, st, si, nw, ep, nl, outs, good, probe⟩, n, f, ⟨ek, en, ea, ee⟩, rfl, rfl, R, hl, hw, h⟩ := h
  obtain ⟨s', hs'⟩ : ∃ s', s' = (applyF ⟨w, fl, op, pr, st, si, nw, ep, nl, outs, good, probe⟩ ⟨ek, en, ea, ee⟩).1 := ⟨_, rfl⟩
  obtain ⟨b, hb⟩ : ∃ b, b = (applyF ⟨w, fl, op, pr, st, si, nw, ep, nl, outs, good, probe⟩ ⟨ek, en, ea, ee⟩).2.1 := ⟨_, rfl⟩
  obtain ⟨r, hr⟩ : ∃ r, r = (applyF ⟨w, fl, op, pr, st, si, nw, ep, nl, outs, good, probe⟩ ⟨ek, en, ea, ee⟩).2.2 := ⟨_, rfl⟩
  obtain ⟨n', f', R'⟩ : ∃ n' f', Rows encB s'.outs n' f' := ⟨_, _, rowF_ok _⟩
  refine ⟨_, _, h s' b r n' f' hs' hb hr R', fun D hD => ?_⟩
  clear h
  cbv
  refine ⟨⟨_, _, _, _⟩, rfl, rfl, fun c hc => ?_⟩
  have hc : c = checkEvF ⟨ek, en, ea, ee⟩ := by subst hD; exact hc
  cbv
  refine br hD (fun h => ?_) (fun h => ?_) <;> cbv
  · simp at h
    have hE : applyF ⟨w, fl, op, pr, st, si, nw, ep, nl, outs, good, probe⟩ ⟨ek, en, ea, ee⟩ = (⟨w, fl, op, pr, st, si, nw, ep, nl, outs, good, probe⟩, false, c) := by rw [applyF, ← hc, if_pos h]
    rw [hE] at hs' hb hr
    subst hD hs' hb hr
    exact finBlk (.tup (.cons (leBool rfl) (.cons (leInt rfl) .nil))) (leSt (s := ⟨w, fl, op, pr, st, si, nw, ep, nl, outs, good, probe⟩) rfl rfl rfl rfl rfl rfl rfl rfl rfl R R' rfl rfl)
  simp at h
  have h' : ¬ checkEvF ⟨ek, en, ea, ee⟩ ≠ 0 := by rw [← hc]; omega
  refine br hD (fun h2 => ?_) (fun h2 => ?_) <;> cbv
  · simp at h2
    have hE : applyF ⟨w, fl, op, pr, st, si, nw, ep, nl, outs, good, probe⟩ ⟨ek, en, ea, ee⟩ = (⟨w, fl, op, pr, st, si, nw, ep, nl, outs, good, probe⟩, false, 9) := by rw [applyF, if_neg h', if_pos h2]
    rw [hE] at hs' hb hr
    subst hD hs' hb hr
    exact finBlk (.tup (.cons (leBool rfl) (.cons (leInt rfl) .nil))) (leSt (s := ⟨w, fl, op, pr, st, si, nw, ep, nl, outs, good, probe⟩) rfl rfl rfl rfl rfl rfl rfl rfl rfl R R' rfl rfl)
  simp at h2
  have h2' : ¬ en < nw := by omega
  have hE : applyF ⟨w, fl, op, pr, st, si, nw, ep, nl, outs, good, probe⟩ ⟨ek, en, ea, ee⟩ = restF (passF ⟨w, fl, op, pr, st, si, nw, ep, nl, outs, good, probe⟩ en) ⟨ek, en, ea, ee⟩ := by rw [applyF, if_neg h', if_neg h2']
  rw [hE] at hs' hb hr
  clear hE h' hc h h2
  refine br hD (fun h => ?_) (fun h => ?_) <;> cbv
  · simp at h
    refine ⟨⟨_, _, _, _, _, _, _, _, _, outs, _, _⟩, _, _, _, _, rfl, rfl, fun s2 n2 f2 hs2 R2 => ?_⟩
    have hs2 : s2 = passF ⟨w, fl, op, pr, st, si, nw, ep, nl, outs, good, probe⟩ en := by subst hD; rw [passF, if_pos h]; exact hs2
    have hw2 : 1 ≤ s2.w := by rw [hs2, passF, if_pos h]; exact hw
    have hl2 : s2.outs.length ≤ 1000000 := by rw [hs2, passF, if_pos h]; simp [turnF]
    rw [← hs2] at hs' hb hr
    clear hs2 R hw hl
    obtain ⟨w2, fl2, op2, pr2, st2, si2, nw2, ep2, nl2, outs2, good2, probe2⟩ := s2
    cbv
    refine br hD (fun g1 => ?_) (fun g1 => ?_) <;> cbv
    · simp at g1
      have hE : restF ⟨w2, fl2, op2, pr2, st2, si2, nw2, ep2, nl2, outs2, good2, probe2⟩ ⟨ek, en, ea, ee⟩ = (⟨w2, fl2, op2, pr2, st2, si2, nw2, ep2, nl2, outs2, good2, probe2⟩, false, 3) := by rw [restF]; exact if_pos g1
      rw [hE] at hs' hb hr
      subst hD hs' hb hr
      exact finBlk (.tup (.cons (leBool rfl) (.cons (leInt rfl) .nil))) (leSt (s := ⟨w2, fl2, op2, pr2, st2, si2, nw2, ep2, nl2, outs2, good2, probe2⟩) rfl rfl rfl rfl rfl rfl rfl rfl rfl R2 R' rfl rfl)
    · simp at g1
      have g1' : ¬ 1000000000 < ep2 := by omega
      refine br hD (fun g2 => ?_) (fun g2 => ?_) <;> cbv
      · simp at g2
        have hE : restF ⟨w2, fl2, op2, pr2, st2, si2, nw2, ep2, nl2, outs2, good2, probe2⟩ ⟨ek, en, ea, ee⟩ = (⟨w2, fl2, op2, pr2, st2, si2, nw2, ep2, nl2, outs2, good2, probe2⟩, false, 0) := by rw [restF]; rw [if_neg g1', if_pos g2]
        rw [hE] at hs' hb hr
        subst hD hs' hb hr
        exact finBlk (.tup (.cons (leBool rfl) (.cons (leInt rfl) .nil))) (leSt (s := ⟨w2, fl2, op2, pr2, st2, si2, nw2, ep2, nl2, outs2, good2, probe2⟩) rfl rfl rfl rfl rfl rfl rfl rfl rfl R2 R' rfl rfl)
      · simp at g2
        refine br hD (fun g3 => ?_) (fun g3 => ?_) <;> cbv
        · simp at g3
          refine br hD (fun g4 => ?_) (fun g4 => ?_) <;> cbv
          · simp at g4
            have hE : restF ⟨w2, fl2, op2, pr2, st2, si2, nw2, ep2, nl2, outs2, good2, probe2⟩ ⟨ek, en, ea, ee⟩ = (⟨w2, fl2, op2, pr2, st2, si2, nw2, ep2, nl2, outs2, good2, probe2⟩, false, 0) := by rw [restF]; rw [if_neg g1', if_neg g2, if_pos g3, if_pos g4]
            rw [hE] at hs' hb hr
            subst hD hs' hb hr
            exact finBlk (.tup (.cons (leBool rfl) (.cons (leInt rfl) .nil))) (leSt (s := ⟨w2, fl2, op2, pr2, st2, si2, nw2, ep2, nl2, outs2, good2, probe2⟩) rfl rfl rfl rfl rfl rfl rfl rfl rfl R2 R' rfl rfl)
          · simp at g4
            have g4' : ¬ probe2 ≠ 0 := by omega
            have hE : restF ⟨w2, fl2, op2, pr2, st2, si2, nw2, ep2, nl2, outs2, good2, probe2⟩ ⟨ek, en, ea, ee⟩ = (⟨w2, fl2, op2, pr2, st2, si2, nw2, ep2, nl2, outs2, good2, ea⟩, true, 0) := by rw [restF]; rw [if_neg g1', if_neg g2, if_pos g3, if_neg g4']
            rw [hE] at hs' hb hr
            subst hD hs' hb hr
            exact finBlk (.tup (.cons (leBool rfl) (.cons (leInt rfl) .nil))) (leSt (s := ⟨w2, fl2, op2, pr2, st2, si2, nw2, ep2, nl2, outs2, good2, ea⟩) rfl rfl rfl rfl rfl rfl rfl rfl rfl R2 R' rfl rfl)
        · simp at g3
          have g3' : ¬ (ek = 1 ∧ st2 = 2) := by omega
          refine br hD (fun g5 => ?_) (fun g5 => ?_) <;> cbv
          · simp at g5
            have hE : restF ⟨w2, fl2, op2, pr2, st2, si2, nw2, ep2, nl2, outs2, good2, probe2⟩ ⟨ek, en, ea, ee⟩ = (⟨w2, fl2, op2, pr2, st2, si2, nw2, ep2, nl2, outs2, good2, probe2⟩, (st2 == 0), 0) := by rw [restF]; rw [if_neg g1', if_neg g2, if_neg g3', if_pos g5]
            rw [hE] at hs' hb hr
            subst hD hs' hb hr
            exact finBlk (.tup (.cons (leBool rfl) (.cons (leInt rfl) .nil))) (leSt (s := ⟨w2, fl2, op2, pr2, st2, si2, nw2, ep2, nl2, outs2, good2, probe2⟩) rfl rfl rfl rfl rfl rfl rfl rfl rfl R2 R' rfl rfl)
          · simp at g5
            refine br hD (fun g6 => ?_) (fun g6 => ?_) <;> cbv
            · simp at g6
              refine ⟨⟨_, _, _, _, _, _, _, _, _, outs2, _, _⟩, _, _, ⟨_, _, _, _⟩, rfl, rfl, by subst hD; exact R2, hl2, by subst hD; exact hw2, fun s3 c3 n3 f3 hs3 hc3 R3 => ?_⟩
              have hs3 : s3 = (endF ⟨w2, fl2, op2, pr2, st2, si2, nw2, ep2, nl2, outs2, good2, probe2⟩ ⟨ek, en, ea, ee⟩).1 := by subst hD; exact hs3
              have hc3 : c3 = (endF ⟨w2, fl2, op2, pr2, st2, si2, nw2, ep2, nl2, outs2, good2, probe2⟩ ⟨ek, en, ea, ee⟩).2 := by subst hD; exact hc3
              have hE : restF ⟨w2, fl2, op2, pr2, st2, si2, nw2, ep2, nl2, outs2, good2, probe2⟩ ⟨ek, en, ea, ee⟩ = if c3 ≠ 0 then (s3, false, c3) else if 1000000000 < s3.ep then (s3, false, 3) else (s3, false, 0) := by rw [restF, if_neg g1', if_neg g2, if_neg g3', if_neg g5, if_pos g6, hs3, hc3]
              clear hs3 hc3
              obtain ⟨w3, fl3, op3, pr3, st3, si3, nw3, ep3, nl3, outs3, good3, probe3⟩ := s3
              cbv
              refine br hD (fun g7 => ?_) (fun g7 => ?_) <;> cbv
              · simp at g7
                rw [if_pos g7] at hE
                rw [hE] at hs' hb hr
                subst hD hs' hb hr
                exact finBlk (.tup (.cons (leBool rfl) (.cons (leInt rfl) .nil))) (leSt (s := ⟨w3, fl3, op3, pr3, st3, si3, nw3, ep3, nl3, outs3, good3, probe3⟩) rfl rfl rfl rfl rfl rfl rfl rfl rfl R3 R' rfl rfl)
              · simp at g7
                have g7' : ¬ c3 ≠ 0 := by omega
                refine br hD (fun g8 => ?_) (fun g8 => ?_) <;> cbv
                · simp at g8
                  rw [if_neg g7', if_pos g8] at hE
                  rw [hE] at hs' hb hr
                  subst hD hs' hb hr
                  exact finBlk (.tup (.cons (leBool rfl) (.cons (leInt rfl) .nil))) (leSt (s := ⟨w3, fl3, op3, pr3, st3, si3, nw3, ep3, nl3, outs3, good3, probe3⟩) rfl rfl rfl rfl rfl rfl rfl rfl rfl R3 R' rfl rfl)
                · simp at g8
                  have g8' : ¬ 1000000000 < ep3 := by omega
                  rw [if_neg g7', if_neg g8'] at hE
                  rw [hE] at hs' hb hr
                  subst hD hs' hb hr
                  exact finBlk (.tup (.cons (leBool rfl) (.cons (leInt rfl) .nil))) (leSt (s := ⟨w3, fl3, op3, pr3, st3, si3, nw3, ep3, nl3, outs3, good3, probe3⟩) rfl rfl rfl rfl rfl rfl rfl rfl rfl R3 R' rfl rfl)
            · simp at g6
              have hE : restF ⟨w2, fl2, op2, pr2, st2, si2, nw2, ep2, nl2, outs2, good2, probe2⟩ ⟨ek, en, ea, ee⟩ = (⟨w2, fl2, op2, pr2, st2, si2, nw2, ep2, nl2, outs2, good2, probe2⟩, false, 0) := by rw [restF]; rw [if_neg g1', if_neg g2, if_neg g3', if_neg g5, if_neg g6]
              rw [hE] at hs' hb hr
              subst hD hs' hb hr
              exact finBlk (.tup (.cons (leBool rfl) (.cons (leInt rfl) .nil))) (leSt (s := ⟨w2, fl2, op2, pr2, st2, si2, nw2, ep2, nl2, outs2, good2, probe2⟩) rfl rfl rfl rfl rfl rfl rfl rfl rfl R2 R' rfl rfl)
  · simp at h
    have h3 : ¬ (st = 1 ∧ IntKind.i64.wrap (si + op) ≤ en) := by omega
    have hs2 : ⟨w, fl, op, pr, st, si, en, ep, nl, outs, good, probe⟩ = passF ⟨w, fl, op, pr, st, si, nw, ep, nl, outs, good, probe⟩ en := by rw [passF, if_neg h3]
    rw [← hs2] at hs' hb hr
    have R2 := R
    have hw2 := hw
    have hl2 := hl
    clear hs2 R hw hl
    refine br hD (fun g1 => ?_) (fun g1 => ?_) <;> cbv
    · simp at g1
      have hE : restF ⟨w, fl, op, pr, st, si, en, ep, nl, outs, good, probe⟩ ⟨ek, en, ea, ee⟩ = (⟨w, fl, op, pr, st, si, en, ep, nl, outs, good, probe⟩, false, 3) := by rw [restF]; exact if_pos g1
      rw [hE] at hs' hb hr
      subst hD hs' hb hr
      exact finBlk (.tup (.cons (leBool rfl) (.cons (leInt rfl) .nil))) (leSt (s := ⟨w, fl, op, pr, st, si, en, ep, nl, outs, good, probe⟩) rfl rfl rfl rfl rfl rfl rfl rfl rfl R2 R' rfl rfl)
    · simp at g1
      have g1' : ¬ 1000000000 < ep := by omega
      refine br hD (fun g2 => ?_) (fun g2 => ?_) <;> cbv
      · simp at g2
        have hE : restF ⟨w, fl, op, pr, st, si, en, ep, nl, outs, good, probe⟩ ⟨ek, en, ea, ee⟩ = (⟨w, fl, op, pr, st, si, en, ep, nl, outs, good, probe⟩, false, 0) := by rw [restF]; rw [if_neg g1', if_pos g2]
        rw [hE] at hs' hb hr
        subst hD hs' hb hr
        exact finBlk (.tup (.cons (leBool rfl) (.cons (leInt rfl) .nil))) (leSt (s := ⟨w, fl, op, pr, st, si, en, ep, nl, outs, good, probe⟩) rfl rfl rfl rfl rfl rfl rfl rfl rfl R2 R' rfl rfl)
      · simp at g2
        refine br hD (fun g3 => ?_) (fun g3 => ?_) <;> cbv
        · simp at g3
          refine br hD (fun g4 => ?_) (fun g4 => ?_) <;> cbv
          · simp at g4
            have hE : restF ⟨w, fl, op, pr, st, si, en, ep, nl, outs, good, probe⟩ ⟨ek, en, ea, ee⟩ = (⟨w, fl, op, pr, st, si, en, ep, nl, outs, good, probe⟩, false, 0) := by rw [restF]; rw [if_neg g1', if_neg g2, if_pos g3, if_pos g4]
            rw [hE] at hs' hb hr
            subst hD hs' hb hr
            exact finBlk (.tup (.cons (leBool rfl) (.cons (leInt rfl) .nil))) (leSt (s := ⟨w, fl, op, pr, st, si, en, ep, nl, outs, good, probe⟩) rfl rfl rfl rfl rfl rfl rfl rfl rfl R2 R' rfl rfl)
          · simp at g4
            have g4' : ¬ probe ≠ 0 := by omega
            have hE : restF ⟨w, fl, op, pr, st, si, en, ep, nl, outs, good, probe⟩ ⟨ek, en, ea, ee⟩ = (⟨w, fl, op, pr, st, si, en, ep, nl, outs, good, ea⟩, true, 0) := by rw [restF]; rw [if_neg g1', if_neg g2, if_pos g3, if_neg g4']
            rw [hE] at hs' hb hr
            subst hD hs' hb hr
            exact finBlk (.tup (.cons (leBool rfl) (.cons (leInt rfl) .nil))) (leSt (s := ⟨w, fl, op, pr, st, si, en, ep, nl, outs, good, ea⟩) rfl rfl rfl rfl rfl rfl rfl rfl rfl R2 R' rfl rfl)
        · simp at g3
          have g3' : ¬ (ek = 1 ∧ st = 2) := by omega
          refine br hD (fun g5 => ?_) (fun g5 => ?_) <;> cbv
          · simp at g5
            have hE : restF ⟨w, fl, op, pr, st, si, en, ep, nl, outs, good, probe⟩ ⟨ek, en, ea, ee⟩ = (⟨w, fl, op, pr, st, si, en, ep, nl, outs, good, probe⟩, (st == 0), 0) := by rw [restF]; rw [if_neg g1', if_neg g2, if_neg g3', if_pos g5]
            rw [hE] at hs' hb hr
            subst hD hs' hb hr
            exact finBlk (.tup (.cons (leBool rfl) (.cons (leInt rfl) .nil))) (leSt (s := ⟨w, fl, op, pr, st, si, en, ep, nl, outs, good, probe⟩) rfl rfl rfl rfl rfl rfl rfl rfl rfl R2 R' rfl rfl)
          · simp at g5
            refine br hD (fun g6 => ?_) (fun g6 => ?_) <;> cbv
            · simp at g6
              refine ⟨⟨_, _, _, _, _, _, _, _, _, outs, _, _⟩, _, _, ⟨_, _, _, _⟩, rfl, rfl, by subst hD; exact R2, hl2, by subst hD; exact hw2, fun s3 c3 n3 f3 hs3 hc3 R3 => ?_⟩
              have hs3 : s3 = (endF ⟨w, fl, op, pr, st, si, en, ep, nl, outs, good, probe⟩ ⟨ek, en, ea, ee⟩).1 := by subst hD; exact hs3
              have hc3 : c3 = (endF ⟨w, fl, op, pr, st, si, en, ep, nl, outs, good, probe⟩ ⟨ek, en, ea, ee⟩).2 := by subst hD; exact hc3
              have hE : restF ⟨w, fl, op, pr, st, si, en, ep, nl, outs, good, probe⟩ ⟨ek, en, ea, ee⟩ = if c3 ≠ 0 then (s3, false, c3) else if 1000000000 < s3.ep then (s3, false, 3) else (s3, false, 0) := by rw [restF, if_neg g1', if_neg g2, if_neg g3', if_neg g5, if_pos g6, hs3, hc3]
              clear hs3 hc3
              obtain ⟨w3, fl3, op3, pr3, st3, si3, nw3, ep3, nl3, outs3, good3, probe3⟩ := s3
              cbv
              refine br hD (fun g7 => ?_) (fun g7 => ?_) <;> cbv
              · simp at g7
                rw [if_pos g7] at hE
                rw [hE] at hs' hb hr
                subst hD hs' hb hr
                exact finBlk (.tup (.cons (leBool rfl) (.cons (leInt rfl) .nil))) (leSt (s := ⟨w3, fl3, op3, pr3, st3, si3, nw3, ep3, nl3, outs3, good3, probe3⟩) rfl rfl rfl rfl rfl rfl rfl rfl rfl R3 R' rfl rfl)
              · simp at g7
                have g7' : ¬ c3 ≠ 0 := by omega
                refine br hD (fun g8 => ?_) (fun g8 => ?_) <;> cbv
                · simp at g8
                  rw [if_neg g7', if_pos g8] at hE
                  rw [hE] at hs' hb hr
                  subst hD hs' hb hr
                  exact finBlk (.tup (.cons (leBool rfl) (.cons (leInt rfl) .nil))) (leSt (s := ⟨w3, fl3, op3, pr3, st3, si3, nw3, ep3, nl3, outs3, good3, probe3⟩) rfl rfl rfl rfl rfl rfl rfl rfl rfl R3 R' rfl rfl)
                · simp at g8
                  have g8' : ¬ 1000000000 < ep3 := by omega
                  rw [if_neg g7', if_neg g8'] at hE
                  rw [hE] at hs' hb hr
                  subst hD hs' hb hr
                  exact finBlk (.tup (.cons (leBool rfl) (.cons (leInt rfl) .nil))) (leSt (s := ⟨w3, fl3, op3, pr3, st3, si3, nw3, ep3, nl3, outs3, good3, probe3⟩) rfl rfl rfl rfl rfl rfl rfl rfl rfl R3 R' rfl rfl)
            · simp at g6
              have hE : restF ⟨w, fl, op, pr, st, si, en, ep, nl, outs, good, probe⟩ ⟨ek, en, ea, ee⟩ = (⟨w, fl, op, pr, st, si, en, ep, nl, outs, good, probe⟩, false, 0) := by rw [restF]; rw [if_neg g1', if_neg g2, if_neg g3', if_neg g5, if_neg g6]
              rw [hE] at hs' hb hr
              subst hD hs' hb hr
              exact finBlk (.tup (.cons (leBool rfl) (.cons (leInt rfl) .nil))) (leSt (s := ⟨w, fl, op, pr, st, si, en, ep, nl, outs, good, probe⟩) rfl rfl rfl rfl rfl rfl rfl rfl rfl R2 R' rfl rfl)
end Go.Proofs.YtkhbbppkghcbeaaDoor
namespace Go.Proofs.YtkhbbppkghcbeaaDoor
open Go.Sx
def ccF (a b c d : Int) : Int := if a < 1 ∨ a > 64 ∨ b < 1 ∨ b > a ∨ c < 1 ∨ c > 1000000000000 ∨ d < 1 ∨ d > 8 then 7 else 0
def spCC : FSpec := fun _ xs ls K => ∃ (a b c d : Int), xs = [.agg [.int .i64 (.a a), .int .i64 (.a b), .int .i64 (.a c), .int .i64 (.a d)]] ∧ ls = [] ∧ ∀ r, r = ccF a b c d → K (.int .i64 (.a r)) []
set_option maxRecDepth 10000
theorem cc_ok : FnOk Tryd.prog gl 25 spCC := by
  refine fnOk (gh := []) mixed cxOk tabNil Tryd.func25 (by kernel_rfl) (by kernel_rfl) ?_
  intro xs ls K h
  unfold spCC at h
  obtain ⟨a, b, c, d, rfl, rfl, h⟩ := h
  obtain ⟨r, hr⟩ : ∃ r, r = ccF a b c d := ⟨_, rfl⟩
  refine ⟨_, _, h r hr, fun D hD => ?_⟩
  clear h
  cbv
  repeat' (refine br hD (fun h => ?_) (fun h => ?_) <;> cbv)
  all_goals
    refine finInt hD ?_
    simp at *
    rw [hr, ccF]
    split <;> omega
def rightF (s : BS) : Prop :=
  (0 ≤ s.since ∧ s.since ≤ s.now ∧ s.now ≤ 1000000000000 ∧ 1 ≤ s.ep ∧ s.ep ≤ 1000000000) ∧
  ((s.st = 0 ∧ s.good = 0 ∧ s.probe = 0 ∧ s.outs.length ≤ s.w ∧ failsF s.outs < s.fl) ∨
   (s.st = 1 ∧ s.good = 0 ∧ s.probe = 0 ∧ s.outs.length = 0 ∧ s.now < IntKind.i64.wrap (s.since + s.op)) ∨
   (s.st = 2 ∧ s.outs.length = 0 ∧ 0 ≤ s.good ∧ s.good < s.pr ∧ 0 ≤ s.probe ∧ s.probe ≤ 1000000000))
instance (s : BS) : Decidable (rightF s) := by unfold rightF; infer_instance
def checkF (s : BS) : Int := if ccF s.w s.fl s.op s.pr ≠ 0 then ccF s.w s.fl s.op s.pr else if rightF s then 0 else 6
def spCheck : FSpec := fun _ xs ls K => ∃ (s : BS) (n : Int) (f : Nat → List SV), xs = [.agg (stC s n f)] ∧ ls = [] ∧ Rows encB s.outs n f ∧ s.outs.length ≤ 1000000 ∧ ∀ r, r = checkF s → K (.int .i64 (.a r)) []
set_option maxHeartbeats 1000000
theorem check_ok : FnOk Tryd.prog gl 19 spCheck := by
  refine fnOk (gh := []) mixed cxOk (tabCons cc_ok (tabCons failed_ok tabNil)) Tryd.func19 (by kernel_rfl) (by kernel_rfl) ?_
  intro xs ls K h
  unfold spCheck at h
  obtain ⟨⟨w, fl, op, pr, st, si, nw, ep, nl, outs, good, probe⟩, n, f, rfl, rfl, R, hl, h⟩ := h
  obtain ⟨r, hr⟩ : ∃ r, r = checkF ⟨w, fl, op, pr, st, si, nw, ep, nl, outs, good, probe⟩ := ⟨_, rfl⟩
  refine ⟨_, _, h r hr, fun D hD => ?_⟩
  clear h
  cbv
  refine ⟨_, _, _, _, rfl, rfl, fun c hc => ?_⟩
  have hc : c = ccF w fl op pr := by subst hD; exact hc
  have hck : r = if c ≠ 0 then c else if rightF ⟨w, fl, op, pr, st, si, nw, ep, nl, outs, good, probe⟩ then 0 else 6 := by rw [hr, checkF, ← hc]
  clear hr hc
  cbv
  refine br hD (fun h => ?_) (fun h => ?_) <;> cbv
  · refine finInt hD ?_
    simp at h ⊢
    rw [hck, if_pos h]
  simp at h
  rw [if_neg (by omega)] at hck
  refine br hD (fun h1 => ?_) (fun h1 => ?_) <;> cbv
  · simp at h1
    refine ⟨_, _, _, outs, rfl, rfl, by subst hD; exact R, by have : outs.length ≤ 1000000 := hl; omega, fun c1 hc1 => ?_⟩
    cbv
    refine br hD (fun h3 => ?_) (fun h3 => ?_) <;> cbv
    all_goals
      refine finInt hD ?_
      have hrf : rightF ⟨w, fl, op, pr, st, si, nw, ep, nl, outs, good, probe⟩ ↔ (0 ≤ si ∧ si ≤ nw ∧ nw ≤ 1000000000000 ∧ 1 ≤ ep ∧ ep ≤ 1000000000) ∧ good = 0 ∧ probe = 0 ∧ outs.length ≤ w ∧ c1 < fl := by simp [rightF, h1, hc1]
      have hn := R.n
      simp only [hrf] at hck
      simp at h3 hn ⊢
      rw [hck]
      split <;> omega
  simp at h1
  refine br hD (fun h2 => ?_) (fun h2 => ?_) <;> cbv
  · simp at h2
    have hrf : rightF ⟨w, fl, op, pr, st, si, nw, ep, nl, outs, good, probe⟩ ↔ (0 ≤ si ∧ si ≤ nw ∧ nw ≤ 1000000000000 ∧ 1 ≤ ep ∧ ep ≤ 1000000000) ∧ good = 0 ∧ probe = 0 ∧ outs.length = 0 ∧ nw < IntKind.i64.wrap (si + op) := by simp [rightF, h2]
    refine br hD (fun h3 => ?_) (fun h3 => ?_) <;> cbv
    all_goals
      refine finInt hD ?_
      have hn := R.n
      simp only [hrf] at hck
      simp at h3 hn ⊢
      rw [hck]
      split <;> omega
  simp at h2
  refine br hD (fun h4 => ?_) (fun h4 => ?_) <;> cbv
  · simp at h4
    have hrf : rightF ⟨w, fl, op, pr, st, si, nw, ep, nl, outs, good, probe⟩ ↔ (0 ≤ si ∧ si ≤ nw ∧ nw ≤ 1000000000000 ∧ 1 ≤ ep ∧ ep ≤ 1000000000) ∧ outs.length = 0 ∧ 0 ≤ good ∧ good < pr ∧ 0 ≤ probe ∧ probe ≤ 1000000000 := by simp [rightF, h4]
    refine br hD (fun h3 => ?_) (fun h3 => ?_) <;> cbv
    all_goals
      refine finInt hD ?_
      have hn := R.n
      simp only [hrf] at hck
      simp at h3 hn ⊢
      rw [hck]
      split <;> omega
  simp at h4
  have hrf : ¬ rightF ⟨w, fl, op, pr, st, si, nw, ep, nl, outs, good, probe⟩ := by simp [rightF, h1, h2, h4]
  rw [if_neg hrf] at hck
  refine finInt hD ?_
  simp [hck]
end Go.Proofs.YtkhbbppkghcbeaaDoor
namespace Go.Proofs.YtkhbbppkghcbeaaDoor
open Go.Sx
def zeroBS : BS := ⟨0, 0, 0, 0, 0, 0, 0, 0, true, [], 0, 0⟩
def ownF (s : BS) : BS := ⟨s.w, s.fl, s.op, s.pr, s.st, s.since, s.now, s.ep, decide (s.outs.length = 0), s.outs, s.good, s.probe⟩
def stepF (s : BS) (e : BE) : BS × Bool × Int :=
  if checkF s ≠ 0 then (zeroBS, false, checkF s)
  else if (applyF (ownF s) e).2.2 ≠ 0 then (zeroBS, false, (applyF (ownF s) e).2.2)
  else ((applyF (ownF s) e).1, (applyF (ownF s) e).2.1, 0)
theorem ccF_ok {a b c d : Int} (h : ccF a b c d = 0) : 1 ≤ a ∧ a ≤ 64 ∧ 1 ≤ b ∧ b ≤ a ∧ 1 ≤ c ∧ c ≤ 1000000000000 ∧ 1 ≤ d ∧ d ≤ 8 := by
  unfold ccF at h
  split at h <;> omega
theorem checkF_ok {s : BS} (h : checkF s = 0) : ccF s.w s.fl s.op s.pr = 0 ∧ rightF s := by
  unfold checkF at h
  split at h
  · omega
  · split at h
    · exact ⟨by omega, ‹_›⟩
    · omega
def spStep : FSpec := fun _ xs ls K => ∃ (s : BS) (n : Int) (f : Nat → List SV) (e : BE), xs = [.agg (stC s n f), .agg (evC e)] ∧ ls = [] ∧ Rows encB s.outs n f ∧ s.outs.length ≤ 1000000 ∧
  ∀ (s' : BS) (b : Bool) (r : Int) (n' : Int) (f' : Nat → List SV), s' = (stepF s e).1 → b = (stepF s e).2.1 → r = (stepF s e).2.2 → Rows encB s'.outs n' f' → K (.tup [.agg (stC s' n' f'), .bool (.a b), .int .i64 (.a r)]) []
set_option maxRecDepth 10000
set_option maxHeartbeats 1000000
theorem step_ok : FnOk Tryd.prog gl 16 spStep := by
  refine fnOk (gh := []) mixed cxOk (tabCons check_ok (tabCons apply_ok tabNil)) Tryd.func16 (by kernel_rfl) (by kernel_rfl) ?_
  intro xs ls K h
  unfold spStep at h
  obtain ⟨⟨w, fl, op, pr, st, si, nw, ep, nl, outs, good, probe⟩, n, f, ⟨ek, en, ea, ee⟩, rfl, rfl, R, hl, h⟩ := h
  obtain ⟨s', hs'⟩ : ∃ s', s' = (stepF ⟨w, fl, op, pr, st, si, nw, ep, nl, outs, good, probe⟩ ⟨ek, en, ea, ee⟩).1 := ⟨_, rfl⟩
  obtain ⟨b, hb⟩ : ∃ b, b = (stepF ⟨w, fl, op, pr, st, si, nw, ep, nl, outs, good, probe⟩ ⟨ek, en, ea, ee⟩).2.1 := ⟨_, rfl⟩
  obtain ⟨r, hr⟩ : ∃ r, r = (stepF ⟨w, fl, op, pr, st, si, nw, ep, nl, outs, good, probe⟩ ⟨ek, en, ea, ee⟩).2.2 := ⟨_, rfl⟩
  obtain ⟨n', f', R'⟩ : ∃ n' f', Rows encB s'.outs n' f' := ⟨_, _, rowF_ok _⟩
  refine ⟨_, _, h s' b r n' f' hs' hb hr R', fun D hD => ?_⟩
  clear h
  cbv
  refine ⟨⟨_, _, _, _, _, _, _, _, _, outs, _, _⟩, _, _, rfl, rfl, by subst hD; exact R, hl, fun c hc => ?_⟩
  have hc : c = checkF ⟨w, fl, op, pr, st, si, nw, ep, nl, outs, good, probe⟩ := by subst hD; exact hc
  cbv
  refine br hD (fun h => ?_) (fun h => ?_) <;> cbv
  · simp at h
    have hE : stepF ⟨w, fl, op, pr, st, si, nw, ep, nl, outs, good, probe⟩ ⟨ek, en, ea, ee⟩ = (zeroBS, false, c) := by rw [stepF, ← hc, if_pos h]
    rw [hE] at hs' hb hr
    subst hD hs' hb hr
    exact finV (.tup (.cons (.agg (leSt (s := zeroBS) rfl rfl rfl rfl rfl rfl rfl rfl rfl ⟨rfl, by intro i x hx; simp [zeroBS] at hx⟩ R' rfl rfl)) (.cons (leBool rfl) (.cons (leInt rfl) .nil))))
  simp at h
  have hok := checkF_ok (show checkF ⟨w, fl, op, pr, st, si, nw, ep, nl, outs, good, probe⟩ = 0 by rw [← hc]; exact h)
  have hw : 1 ≤ w := (ccF_ok hok.1).1
  have hE : stepF ⟨w, fl, op, pr, st, si, nw, ep, nl, outs, good, probe⟩ ⟨ek, en, ea, ee⟩ = if (applyF (ownF ⟨w, fl, op, pr, st, si, nw, ep, nl, outs, good, probe⟩) ⟨ek, en, ea, ee⟩).2.2 ≠ 0 then (zeroBS, false, (applyF (ownF ⟨w, fl, op, pr, st, si, nw, ep, nl, outs, good, probe⟩) ⟨ek, en, ea, ee⟩).2.2)
      else ((applyF (ownF ⟨w, fl, op, pr, st, si, nw, ep, nl, outs, good, probe⟩) ⟨ek, en, ea, ee⟩).1, (applyF (ownF ⟨w, fl, op, pr, st, si, nw, ep, nl, outs, good, probe⟩) ⟨ek, en, ea, ee⟩).2.1, 0) := by rw [stepF, if_neg (by rw [← hc]; omega)]
  rw [hE] at hs' hb hr
  clear hE hok hc
  refine ⟨?_, fun f1 n1 hA => ?_⟩
  · have hn := R.n; have hl2 : outs.length ≤ 1000000 := hl; subst hD; exact ⟨by simp [dn]; simp at hn; omega, by simp [dn]; simp at hn; omega⟩
  have R1 : Rows encB outs n1 f1 := by
    have hn := R.n
    subst hD
    refine ⟨hA.len.trans hn, fun i x hx => ?_⟩
    have hlt : i < outs.length := (List.getElem?_eq_some_iff.1 hx).1
    rw [hA.row i (by show (i : Int) < n; rw [hn]; exact Int.ofNat_lt.2 hlt)]
    exact R.f i x hx
  cbv
  refine ⟨⟨_, _, _, _, _, _, _, _, _, outs, _, _⟩, _, _, ⟨_, _, _, _⟩, rfl, rfl, by subst hD; exact R1, hl, by subst hD; exact hw, fun s2 b2 r2 n2 f2 hs2 hb2 hr2 R2 => ?_⟩
  have hnl : (n == 0) = decide (outs.length = 0) := by
    rw [R.n]
    by_cases h0 : outs.length = 0
    · simp [h0]
    · simp [h0]
  have hA2 : s2 = (applyF (ownF ⟨w, fl, op, pr, st, si, nw, ep, nl, outs, good, probe⟩) ⟨ek, en, ea, ee⟩).1 ∧ b2 = (applyF (ownF ⟨w, fl, op, pr, st, si, nw, ep, nl, outs, good, probe⟩) ⟨ek, en, ea, ee⟩).2.1 ∧ r2 = (applyF (ownF ⟨w, fl, op, pr, st, si, nw, ep, nl, outs, good, probe⟩) ⟨ek, en, ea, ee⟩).2.2 := by
    unfold ownF
    dsimp only
    rw [← hnl]
    subst hD
    exact ⟨hs2, hb2, hr2⟩
  obtain ⟨e1, e2, e3⟩ := hA2
  rw [← e1, ← e2, ← e3] at hs' hb hr
  clear hs2 hb2 hr2 e1 e2 e3
  obtain ⟨w2, fl2, op2, pr2, st2, si2, nw2, ep2, nl2, outs2, good2, probe2⟩ := s2
  cbv
  refine br hD (fun h2 => ?_) (fun h2 => ?_) <;> cbv
  · simp at h2
    rw [if_pos h2] at hs' hb hr
    subst hD hs' hb hr
    exact finV (.tup (.cons (.agg (leSt (s := zeroBS) rfl rfl rfl rfl rfl rfl rfl rfl rfl ⟨rfl, by intro i x hx; simp [zeroBS] at hx⟩ R' rfl rfl)) (.cons (leBool rfl) (.cons (leInt rfl) .nil))))
  · simp at h2
    have h2' : ¬ r2 ≠ 0 := by omega
    rw [if_neg h2'] at hs' hb hr
    subst hD hs' hb hr
    exact finV (.tup (.cons (.agg (leSt (s := ⟨w2, fl2, op2, pr2, st2, si2, nw2, ep2, nl2, outs2, good2, probe2⟩) rfl rfl rfl rfl rfl rfl rfl rfl rfl R2 R' rfl rfl)) (.cons (leBool rfl) (.cons (leInt rfl) .nil))))
end Go.Proofs.YtkhbbppkghcbeaaDoor
namespace Go.Proofs.YtkhbbppkghcbeaaDoor
open Go.Sx
def newF (a b c d : Int) : BS × Int := if ccF a b c d ≠ 0 then (zeroBS, ccF a b c d) else (⟨a, b, c, d, 0, 0, 0, 1, true, [], 0, 0⟩, 0)
def spNew : FSpec := fun _ xs ls K => ∃ (a b c d : Int), xs = [.agg [.int .i64 (.a a), .int .i64 (.a b), .int .i64 (.a c), .int .i64 (.a d)]] ∧ ls = [] ∧
  ∀ (s' : BS) (r n' : Int) (f' : Nat → List SV), s' = (newF a b c d).1 → r = (newF a b c d).2 → Rows encB s'.outs n' f' → K (.tup [.agg (stC s' n' f'), .int .i64 (.a r)]) []
set_option maxRecDepth 10000
theorem new_ok : FnOk Tryd.prog gl 18 spNew := by
  refine fnOk (gh := []) mixed cxOk (tabCons cc_ok tabNil) Tryd.func18 (by kernel_rfl) (by kernel_rfl) ?_
  intro xs ls K h
  unfold spNew at h
  obtain ⟨a, b, c, d, rfl, rfl, h⟩ := h
  obtain ⟨s', hs'⟩ : ∃ s', s' = (newF a b c d).1 := ⟨_, rfl⟩
  obtain ⟨r, hr⟩ : ∃ r, r = (newF a b c d).2 := ⟨_, rfl⟩
  obtain ⟨n', f', R'⟩ : ∃ n' f', Rows encB s'.outs n' f' := ⟨_, _, rowF_ok _⟩
  refine ⟨_, _, h s' r n' f' hs' hr R', fun D hD => ?_⟩
  clear h
  cbv
  refine ⟨_, _, _, _, rfl, rfl, fun c1 hc => ?_⟩
  have hc : c1 = ccF a b c d := by subst hD; exact hc
  cbv
  refine br hD (fun h => ?_) (fun h => ?_) <;> cbv
  · simp at h
    rw [newF, ← hc, if_pos h] at hs' hr
    subst hD hs' hr
    exact finV (.tup (.cons (.agg (leSt (s := zeroBS) rfl rfl rfl rfl rfl rfl rfl rfl rfl ⟨rfl, by intro i x hx; simp [zeroBS] at hx⟩ R' rfl rfl)) (.cons (leInt rfl) .nil)))
  · simp at h
    rw [newF, ← hc, if_neg (by omega)] at hs' hr
    subst hD hs' hr
    exact finV (.tup (.cons (.agg (leSt (s := ⟨a, b, c, d, 0, 0, 0, 1, true, [], 0, 0⟩) rfl rfl rfl rfl rfl rfl rfl rfl rfl ⟨rfl, by intro i x hx; simp at hx⟩ R' rfl rfl)) (.cons (leInt rfl) .nil)))
def nextF (s : BS) : Int × Int := if checkF s ≠ 0 then (0, checkF s) else if s.st ≠ 1 then (0, 4) else (IntKind.i64.wrap (s.since + s.op), 0)
def spNext : FSpec := fun _ xs ls K => ∃ (s : BS) (n : Int) (f : Nat → List SV), xs = [.agg (stC s n f)] ∧ ls = [] ∧ Rows encB s.outs n f ∧ s.outs.length ≤ 1000000 ∧ ∀ (x r : Int), x = (nextF s).1 → r = (nextF s).2 → K (.tup [.int .i64 (.a x), .int .i64 (.a r)]) []
theorem next_ok : FnOk Tryd.prog gl 21 spNext := by
  refine fnOk (gh := []) mixed cxOk (tabCons check_ok tabNil) Tryd.func21 (by kernel_rfl) (by kernel_rfl) ?_
  intro xs ls K h
  unfold spNext at h
  obtain ⟨⟨w, fl, op, pr, st, si, nw, ep, nl, outs, good, probe⟩, n, f, rfl, rfl, R, hl, h⟩ := h
  obtain ⟨x, hx⟩ : ∃ x, x = (nextF ⟨w, fl, op, pr, st, si, nw, ep, nl, outs, good, probe⟩).1 := ⟨_, rfl⟩
  obtain ⟨r, hr⟩ : ∃ r, r = (nextF ⟨w, fl, op, pr, st, si, nw, ep, nl, outs, good, probe⟩).2 := ⟨_, rfl⟩
  refine ⟨_, _, h x r hx hr, fun D hD => ?_⟩
  clear h
  cbv
  refine ⟨⟨_, _, _, _, _, _, _, _, _, outs, _, _⟩, _, _, rfl, rfl, by subst hD; exact R, hl, fun c hc => ?_⟩
  have hc : c = checkF ⟨w, fl, op, pr, st, si, nw, ep, nl, outs, good, probe⟩ := by subst hD; exact hc
  cbv
  refine br hD (fun h => ?_) (fun h => ?_) <;> cbv
  · simp at h
    rw [nextF, ← hc, if_pos h] at hx hr
    subst hD hx hr
    exact finV (.tup (.cons (leInt rfl) (.cons (leInt rfl) .nil)))
  simp at h
  rw [nextF, ← hc, if_neg (by omega)] at hx hr
  refine br hD (fun h2 => ?_) (fun h2 => ?_) <;> cbv
  · simp at h2
    rw [if_pos h2] at hx hr
    subst hD hx hr
    exact finV (.tup (.cons (leInt rfl) (.cons (leInt rfl) .nil)))
  · simp at h2
    rw [if_neg (by show ¬ st ≠ 1; omega)] at hx hr
    subst hD hx hr
    exact finV (.tup (.cons (leInt rfl) (.cons (leInt rfl) .nil)))
def shareF (s : BS) : Int × Int × Int := if checkF s ≠ 0 then (0, 0, checkF s) else (failsF s.outs, s.outs.length, 0)
def spShare : FSpec := fun _ xs ls K => ∃ (s : BS) (n : Int) (f : Nat → List SV), xs = [.agg (stC s n f)] ∧ ls = [] ∧ Rows encB s.outs n f ∧ s.outs.length ≤ 1000000 ∧ ∀ (x y r : Int), x = (shareF s).1 → y = (shareF s).2.1 → r = (shareF s).2.2 → K (.tup [.int .i64 (.a x), .int .i64 (.a y), .int .i64 (.a r)]) []
theorem share_ok : FnOk Tryd.prog gl 23 spShare := by
  refine fnOk (gh := []) mixed cxOk (tabCons check_ok (tabCons failed_ok tabNil)) Tryd.func23 (by kernel_rfl) (by kernel_rfl) ?_
  intro xs ls K h
  unfold spShare at h
  obtain ⟨⟨w, fl, op, pr, st, si, nw, ep, nl, outs, good, probe⟩, n, f, rfl, rfl, R, hl, h⟩ := h
  obtain ⟨x, hx⟩ : ∃ x, x = (shareF ⟨w, fl, op, pr, st, si, nw, ep, nl, outs, good, probe⟩).1 := ⟨_, rfl⟩
  obtain ⟨y, hy⟩ : ∃ y, y = (shareF ⟨w, fl, op, pr, st, si, nw, ep, nl, outs, good, probe⟩).2.1 := ⟨_, rfl⟩
  obtain ⟨r, hr⟩ : ∃ r, r = (shareF ⟨w, fl, op, pr, st, si, nw, ep, nl, outs, good, probe⟩).2.2 := ⟨_, rfl⟩
  refine ⟨_, _, h x y r hx hy hr, fun D hD => ?_⟩
  clear h
  cbv
  refine ⟨⟨_, _, _, _, _, _, _, _, _, outs, _, _⟩, _, _, rfl, rfl, by subst hD; exact R, hl, fun c hc => ?_⟩
  have hc : c = checkF ⟨w, fl, op, pr, st, si, nw, ep, nl, outs, good, probe⟩ := by subst hD; exact hc
  cbv
  refine br hD (fun h => ?_) (fun h => ?_) <;> cbv
  · simp at h
    rw [shareF, ← hc, if_pos h] at hx hy hr
    subst hD hx hy hr
    exact finV (.tup (.cons (leInt rfl) (.cons (leInt rfl) (.cons (leInt rfl) .nil))))
  simp at h
  rw [shareF, ← hc, if_neg (by omega)] at hx hy hr
  refine ⟨_, _, _, outs, rfl, rfl, by subst hD; exact R, by have : outs.length ≤ 1000000 := hl; omega, fun c2 hc2 => ?_⟩
  cbv
  have hn := R.n
  subst hD hx hy hr hc2
  exact finV (.tup (.cons (leInt rfl) (.cons (leInt hn) (.cons (leInt rfl) .nil))))
end Go.Proofs.YtkhbbppkghcbeaaDoor
namespace Go.Proofs.YtkhbbppkghcbeaaDoor
open Go.Sx
/-- A step. -/
structure RS where
  err : Int
  adm : Bool
  st : Int
  ep : Int
def rsC (r : RS) : List SV := [.int .i64 (.a r.err), .bool (.a r.adm), .int .i64 (.a r.st), .int .i64 (.a r.ep)]
def rowS (l : List RS) (i : Nat) : List SV := rsC (l.getD i ⟨0, false, 0, 0⟩)
theorem rowS_ok (l : List RS) : Rows rsC l l.length (rowS l) := ⟨rfl, fun i x h => by simp [rowS, List.getD_eq_getElem?_getD, h]⟩
def oneF (s : BS) (e : BE) : BS × RS := if (applyF s e).2.2 ≠ 0 then (s, ⟨(applyF s e).2.2, false, s.st, s.ep⟩) else ((applyF s e).1, ⟨0, (applyF s e).2.1, (applyF s e).1.st, (applyF s e).1.ep⟩)
def manyF (s : BS) : List BE → BS × List RS
  | [] => (s, [])
  | e :: l => ((manyF (oneF s e).1 l).1, (oneF s e).2 :: (manyF (oneF s e).1 l).2)
theorem manyF_snoc (e : BE) : ∀ (l : List BE) (s : BS), manyF s (l ++ [e]) = ((oneF (manyF s l).1 e).1, (manyF s l).2 ++ [(oneF (manyF s l).1 e).2])
  | [], s => by simp [manyF]
  | x :: l, s => by simp [manyF, manyF_snoc e l]
theorem manyF_len : ∀ (l : List BE) (s : BS), (manyF s l).2.length = l.length
  | [], s => rfl
  | x :: l, s => by simp [manyF, manyF_len l]
theorem outcomeF_keeps (s : BS) (g : Bool) : (outcomeF s g).w = s.w ∧ (outcomeF s g).outs.length ≤ s.outs.length + 1 := by
  have h : ∀ l1 : List Bool, l1.length ≤ s.outs.length → ∀ x : BS, x = (if failsF (l1 ++ [g]) = s.fl then turnF ⟨s.w, s.fl, s.op, s.pr, s.st, s.since, s.now, s.ep, false, l1 ++ [g], s.good, s.probe⟩ 1 s.now else ⟨s.w, s.fl, s.op, s.pr, s.st, s.since, s.now, s.ep, false, l1 ++ [g], s.good, s.probe⟩) → x.w = s.w ∧ x.outs.length ≤ s.outs.length + 1 := by
    intro l1 hl x hx
    split at hx
    · subst hx; simp [turnF]
    · subst hx; simp; omega
  refine h _ ?_ _ (outcomeF_eq s g _ rfl)
  split <;> simp
theorem leRow {α : Type} {enc : α → List SV} {l : List α} {sz : Nat} {n n' : Int} {nl nl' : Bool} {F F' : Nat → List SV} (h : nl = nl') (R : Rows enc l n F) (R' : Rows enc l n' F') : LeV (.sl (.a nl) (.a n) sz F) (.sl (.a nl') (.a n') sz F') := by
  subst h
  refine .sl rfl (by simp [R.n, R'.n]) fun i hi => ?_
  have hlt : i < l.length := by have := R.n; simp at hi; omega
  rw [R.f i _ (List.getElem?_eq_getElem hlt), R'.f i _ (List.getElem?_eq_getElem hlt)]
theorem isEmpty_dec {α : Type} (l : List α) : decide (l.length = 0) = l.isEmpty := by cases l <;> simp
theorem rows_snoc {α : Type} {enc : α → List SV} {l : List α} {x : α} {n n' : Int} {F F' G : Nat → List SV} (R : Rows enc l n F) (h : MoreRow F' n' n 1 F G) (hG : G 0 = enc x) : Rows enc (l ++ [x]) n' F' := by
  have hn := R.n
  have hl := h.len
  refine ⟨by simp; omega, fun i y hy => ?_⟩
  rw [List.getElem?_append] at hy
  split at hy
  · rename_i hi
    rw [h.lo i (by omega)]
    exact R.f i y hy
  · have hi : i = l.length := by
      have := (List.getElem?_eq_some_iff.1 hy).1
      simp at this; omega
    subst hi
    simp at hy
    subst hy
    rw [h.hi l.length 0 (by omega) (by omega)]
    exact hG
theorem endF_keeps (s : BS) (e : BE) : (endF s e).1.w = s.w ∧ (endF s e).1.outs.length ≤ s.outs.length + 1 := by
  unfold endF
  split
  · split
    · exact ⟨rfl, by simp⟩
    · exact outcomeF_keeps s _
  · split
    · exact ⟨rfl, by simp⟩
    · split
      · exact ⟨rfl, by simp [turnF]⟩
      · dsimp only
        generalize (if e.kind = 2 then IntKind.i64.wrap (s.good + 1) else s.good) = q
        split
        · exact ⟨rfl, by simp [turnF]⟩
        · exact ⟨rfl, by simp⟩
theorem restF_keeps (s : BS) (e : BE) : (restF s e).1.w = s.w ∧ (restF s e).1.outs.length ≤ s.outs.length + 1 := by
  have := endF_keeps s e
  unfold restF
  repeat' split
  all_goals simp <;> omega
theorem applyF_keeps (s : BS) (e : BE) : (applyF s e).1.w = s.w ∧ (applyF s e).1.outs.length ≤ s.outs.length + 1 := by
  unfold applyF
  split
  · simp
  · split
    · simp
    · have h1 := restF_keeps (passF s e.now) e
      have h2 : (passF s e.now).w = s.w ∧ (passF s e.now).outs.length ≤ s.outs.length := by
        unfold passF
        dsimp only
        split <;> simp [turnF]
      exact ⟨h1.1.trans h2.1, by omega⟩
theorem oneF_keeps (s : BS) (e : BE) : (oneF s e).1.w = s.w ∧ (oneF s e).1.outs.length ≤ s.outs.length + 1 := by
  unfold oneF
  split
  · simp
  · exact applyF_keeps s e
theorem manyF_keeps : ∀ (l : List BE) (s : BS), (manyF s l).1.w = s.w ∧ (manyF s l).1.outs.length ≤ s.outs.length + l.length
  | [], s => by simp [manyF]
  | x :: l, s => by
    have h1 := oneF_keeps s x
    have h2 := manyF_keeps l (oneF s x).1
    simp only [manyF, List.length_cons]
    exact ⟨h2.1.trans h1.1, by omega⟩
def runF (s : BS) (l : List BE) : List RS × BS × Int :=
  if checkF s ≠ 0 then ([], zeroBS, checkF s)
  else if 500 < l.length then ([], zeroBS, 3)
  else ((manyF (ownF s) l).2, (manyF (ownF s) l).1, 0)
def spRun : FSpec := fun _ xs ls K => ∃ (s : BS) (n : Int) (f : Nat → List SV) (l : List BE) (nl : Bool) (m : Int) (g : Nat → List SV), xs = [.agg (stC s n f), .sl (.a nl) (.a m) 4 g] ∧ ls = [] ∧ Rows encB s.outs n f ∧ s.outs.length ≤ 1000000 ∧ Rows evC l m g ∧
  ∀ (a : List RS) (s' : BS) (r : Int) (an : Int) (af : Nat → List SV) (n' : Int) (f' : Nat → List SV), a = (runF s l).1 → s' = (runF s l).2.1 → r = (runF s l).2.2 → Rows rsC a an af → Rows encB s'.outs n' f' →
    K (.tup [.sl (.a a.isEmpty) (.a an) 4 af, .agg (stC s' n' f'), .int .i64 (.a r)]) []
structure RInv (s0 : BS) (l : List BE) (i : Nat) (s : BS) (n : Int) (f : Nat → List SV) (out : List RS) (nl : Bool) (N : Int) (F : Nat → List SV) (L I : Int) (m : Nat) : Prop where
  le : i ≤ l.length
  run : manyF s0 (l.take i) = (s, out)
  rows : Rows encB s.outs n f
  outs : Rows rsC out N F
  nl : nl = decide (i = 0)
  L : L = l.length
  I : I = i
  m : m = l.length - i
def c8C (s : BS) (n : Int) (f : Nat → List SV) (c8 : SV) : Prop := c8 = .sl (.a s.nl) (.a n) 1 f ∨ c8 = .gsl (.a s.nl) (.a n) 1 f 2
def stC8 (s : BS) (c8 : SV) : List SV := [.int .i64 (.a s.w), .int .i64 (.a s.fl), .int .i64 (.a s.op), .int .i64 (.a s.pr), .int .i64 (.a s.st), .int .i64 (.a s.since), .int .i64 (.a s.now), .int .i64 (.a s.ep), c8, .int .i64 (.a s.good), .int .i64 (.a s.probe)]
def runJ (s0 : BS) (l : List BE) (g : Nat → List SV) (m : Nat) (vs : List (Option SV)) (hp : List Hl) : Prop :=
  ∃ (i : Nat) (s : BS) (n : Int) (f : Nat → List SV) (out : List RS) (nl : Bool) (N : Int) (F : Nat → List SV) (L I : Int) (nl1 : Bool) (c8 : SV) (z2 : Int), c8C s n f c8 ∧
    vs = [some (.ptr 0 0), some (.ptr 1 0), some (.int .i64 (.a 0)), some (.gsl (.a nl) (.a N) 4 F 3), some (.sl (.a nl1) (.a L) 4 g), some (.int .i64 (.a L)), some (.int .i64 (.a I))] ∧
    hp = [.blk 26 (stC8 s c8), Hl.blk 26 (stC zeroBS 0 fun _ => []), .tail 4 (.a z2) 1, .tail 64 (.a N) 4] ∧ RInv s0 l i s n f out nl N F L I m
set_option maxRecDepth 10000
set_option maxHeartbeats 1000000
theorem run_ok : FnOk Tryd.prog gl 12 spRun := by
  refine fnOk (gh := [(7, [.attach 8 64])]) mixed cxOk (tabCons check_ok (tabCons apply_ok tabNil)) Tryd.func12 (by kernel_rfl) (by kernel_rfl) ?_
  intro xs ls K h
  unfold spRun at h
  obtain ⟨⟨w, fl, op, pr, st, si, nw, ep, nl, outs, good, probe⟩, n, f, l, nl1, m1, g, rfl, rfl, R, hl, RL, h⟩ := h
  obtain ⟨a, ha⟩ : ∃ a, a = (runF ⟨w, fl, op, pr, st, si, nw, ep, nl, outs, good, probe⟩ l).1 := ⟨_, rfl⟩
  obtain ⟨s', hs'⟩ : ∃ s', s' = (runF ⟨w, fl, op, pr, st, si, nw, ep, nl, outs, good, probe⟩ l).2.1 := ⟨_, rfl⟩
  obtain ⟨r, hr⟩ : ∃ r, r = (runF ⟨w, fl, op, pr, st, si, nw, ep, nl, outs, good, probe⟩ l).2.2 := ⟨_, rfl⟩
  obtain ⟨an, af, RA⟩ : ∃ n' f', Rows rsC a n' f' := ⟨_, _, rowS_ok _⟩
  obtain ⟨n', f', R'⟩ : ∃ n' f', Rows encB s'.outs n' f' := ⟨_, _, rowF_ok _⟩
  obtain ⟨an0, han⟩ : ∃ b, b = a.isEmpty := ⟨_, rfl⟩
  refine ⟨.tup [.sl (.a an0) (.a an) 4 af, .agg (stC s' n' f'), .int .i64 (.a r)], _, by rw [han]; exact h a s' r an af n' f' ha hs' hr RA R', fun D hD => ?_⟩
  clear h
  cbv
  refine ⟨⟨_, _, _, _, _, _, _, _, _, outs, _, _⟩, _, _, rfl, rfl, by subst hD; exact R, hl, fun c hc => ?_⟩
  have hc : c = checkF ⟨w, fl, op, pr, st, si, nw, ep, nl, outs, good, probe⟩ := by subst hD; exact hc
  cbv
  refine br hD (fun h => ?_) (fun h => ?_) <;> cbv
  · simp at h
    have hE : runF ⟨w, fl, op, pr, st, si, nw, ep, nl, outs, good, probe⟩ l = ([], zeroBS, c) := by rw [runF, ← hc, if_pos h]
    rw [hE] at ha hs' hr
    subst hD ha hs' hr
    exact finV (.tup (.cons (leRow (l := ([] : List RS)) (by rw [han]; rfl) ⟨rfl, by intro i x hx; simp at hx⟩ RA) (.cons (.agg (leSt (s := zeroBS) rfl rfl rfl rfl rfl rfl rfl rfl rfl ⟨rfl, by intro i x hx; simp [zeroBS] at hx⟩ R' rfl rfl)) (.cons (leInt rfl) .nil))))
  simp at h
  refine br hD (fun h2 => ?_) (fun h2 => ?_) <;> cbv
  · simp at h2
    have h2' : 500 < l.length := by have := RL.n; omega
    have hE : runF ⟨w, fl, op, pr, st, si, nw, ep, nl, outs, good, probe⟩ l = ([], zeroBS, 3) := by rw [runF, ← hc, if_neg (by omega), if_pos h2']
    rw [hE] at ha hs' hr
    subst hD ha hs' hr
    exact finV (.tup (.cons (leRow (l := ([] : List RS)) (by rw [han]; rfl) ⟨rfl, by intro i x hx; simp at hx⟩ RA) (.cons (.agg (leSt (s := zeroBS) rfl rfl rfl rfl rfl rfl rfl rfl rfl ⟨rfl, by intro i x hx; simp [zeroBS] at hx⟩ R' rfl rfl)) (.cons (leInt rfl) .nil))))
  simp at h2
  have hok := checkF_ok (show checkF ⟨w, fl, op, pr, st, si, nw, ep, nl, outs, good, probe⟩ = 0 by rw [← hc]; exact h)
  have hcc := ccF_ok hok.1
  have hw : 1 ≤ w := hcc.1
  have ho : outs.length ≤ 64 := by
    have h64 : w ≤ 64 := hcc.2.1
    have hr2 := hok.2
    simp only [rightF] at hr2
    omega
  have h500 : l.length ≤ 500 := by have := RL.n; omega
  clear hok hcc
  refine ⟨?_, fun f1 n1 hA => ?_⟩
  · have hn := R.n; have hl2 : outs.length ≤ 1000000 := hl; subst hD; exact ⟨by simp [dn]; simp at hn; omega, by simp [dn]; simp at hn; omega⟩
  have R1 : Rows encB outs n1 f1 := by
    have hn := R.n
    subst hD
    refine ⟨hA.len.trans hn, fun i x hx => ?_⟩
    have hlt : i < outs.length := (List.getElem?_eq_some_iff.1 hx).1
    rw [hA.row i (by show (i : Int) < n; rw [hn]; exact Int.ofNat_lt.2 hlt)]
    exact R.f i x hx
  clear hA
  cbv
  obtain ⟨J, hJ⟩ : ∃ J, J = runJ (ownF ⟨w, fl, op, pr, st, si, nw, ep, nl, outs, good, probe⟩) l g := ⟨_, rfl⟩
  refine ⟨[2, 5, 6, 8, 28, 29, 30], J, ⟨rfl, l.length, ?_⟩, ?_⟩
  · cbv
    rw [hJ]
    have hnl : (n == 0) = decide (outs.length = 0) := by
      rw [R.n]
      by_cases h0 : outs.length = 0
      · simp [h0]
      · simp [h0]
    have hown : ownF ⟨w, fl, op, pr, st, si, nw, ep, nl, outs, good, probe⟩ = ⟨w, fl, op, pr, st, si, nw, ep, n == 0, outs, good, probe⟩ := by rw [hnl]; rfl
    rw [hown]
    subst hD
    exact ⟨0, ⟨w, fl, op, pr, st, si, nw, ep, n == 0, outs, good, probe⟩, n1, f1, [], true, 0, _, m1, 0, nl1, _, n1, .inr rfl, rfl, rfl, ⟨Nat.zero_le _, rfl, R1, ⟨rfl, by intro i x hx; simp at hx⟩, rfl, RL.n, rfl, rfl⟩⟩
  intro m vs hp hv
  rw [hJ] at hv
  unfold runJ at hv
  obtain ⟨i, s, n2, f2, out, nl2, N, F, L, I, nl3, c8, z2, hc8, rfl, rfl, V⟩ := hv
  obtain ⟨w2, fl2, op2, pr2, st2, si2, nw2, ep2, nl4, outs2, good2, probe2⟩ := s
  rcases hc8 with rfl | rfl
  · cbv
    refine br hD (fun h5 => ?_) (fun h5 => ?_) <;> cbv
    · simp at h5
      have hlt : i < l.length := by have := V.L; have := V.I; omega
      refine ⟨?_, fun j hj => ?_⟩
      · subst hD; have := V.L; have := V.I; exact ⟨by simp [dn]; omega, by simp [dn]; omega⟩
      have hji : j = i := by have := isJ hD hj; have := V.I; omega
      have hgi := RL.f i l[i] (List.getElem?_eq_getElem hlt)
      have htk : l.take (i + 1) = l.take i ++ [l[i]] := by rw [List.take_add_one, List.getElem?_eq_getElem hlt]; rfl
      have hmany := manyF_snoc l[i] (l.take i) (ownF ⟨w, fl, op, pr, st, si, nw, ep, nl, outs, good, probe⟩)
      rw [V.run, ← htk] at hmany
      obtain ⟨⟨ek, en, ea, ee⟩, hev⟩ : ∃ e : BE, e = l[i] := ⟨_, rfl⟩
      rw [← hev] at hgi hmany
      have hgj : g j = [.int .i64 (.a ek), .int .i64 (.a en), .int .i64 (.a ea), .int .i64 (.a ee)] := by rw [hji, hgi]; rfl
      clear hgi hev htk hji hj
      rw [hgj]
      cbv
      have hk := manyF_keeps (l.take i) (ownF ⟨w, fl, op, pr, st, si, nw, ep, nl, outs, good, probe⟩)
      rw [V.run] at hk
      have hk1 : w2 = w := hk.1
      have hk2 : outs2.length ≤ outs.length + (l.take i).length := hk.2
      have hk3 : (l.take i).length ≤ 500 := by have := List.length_take_le i l; omega
      refine ⟨⟨_, _, _, _, _, _, _, _, _, outs2, _, _⟩, _, _, ⟨_, _, _, _⟩, rfl, rfl, by subst hD; exact V.rows, by show outs2.length ≤ 1000000; omega, by subst hD; show 1 ≤ w2; omega, fun s3 b3 r3 n3 f3 hs3 hb3 hr3 R3 => ?_⟩
      have e1 : s3 = (applyF ⟨w2, fl2, op2, pr2, st2, si2, nw2, ep2, nl4, outs2, good2, probe2⟩ ⟨ek, en, ea, ee⟩).1 := by subst hD; exact hs3
      have e2 : b3 = (applyF ⟨w2, fl2, op2, pr2, st2, si2, nw2, ep2, nl4, outs2, good2, probe2⟩ ⟨ek, en, ea, ee⟩).2.1 := by subst hD; exact hb3
      have e3 : r3 = (applyF ⟨w2, fl2, op2, pr2, st2, si2, nw2, ep2, nl4, outs2, good2, probe2⟩ ⟨ek, en, ea, ee⟩).2.2 := by subst hD; exact hr3
      have hone : oneF ⟨w2, fl2, op2, pr2, st2, si2, nw2, ep2, nl4, outs2, good2, probe2⟩ ⟨ek, en, ea, ee⟩ = if r3 ≠ 0 then (⟨w2, fl2, op2, pr2, st2, si2, nw2, ep2, nl4, outs2, good2, probe2⟩, ⟨r3, false, st2, ep2⟩) else (s3, ⟨0, b3, s3.st, s3.ep⟩) := by rw [oneF, e1, e2, e3]
      dsimp only at hmany
      rw [hone] at hmany
      clear e1 e2 e3 hone hs3 hb3 hr3 hk hk1 hk2 hk3
      obtain ⟨w3, fl3, op3, pr3, st3, si3, nw3, ep3, nl5, outs3, good3, probe3⟩ := s3
      cbv
      refine br hD (fun h6 => ?_) (fun h6 => ?_) <;> cbv
      · simp at h6
        intro f4 hf4
        cbv
        refine ⟨?_, fun F' N' hM => ?_⟩
        · subst hD; have := V.outs.n; have hlen := manyF_len (l.take i) (ownF ⟨w, fl, op, pr, st, si, nw, ep, nl, outs, good, probe⟩); rw [V.run] at hlen; have hk3 : (l.take i).length ≤ 500 := (by have := List.length_take_le i l; omega); have hlen : out.length = (l.take i).length := hlen; exact ⟨rfl, by simp [dn]; omega, by simp [dn]; omega⟩
        have RO1 : Rows rsC (out ++ [⟨r3, false, st2, ep2⟩]) N' F' := by subst hD; exact rows_snoc V.outs hM (hf4.h 0 _ rfl)
        cbv
        refine ⟨l.length - (i + 1), by have := V.m; omega, ?_⟩
        rw [hJ]
        subst hD
        rw [if_pos h6] at hmany
        refine ⟨i + 1, ⟨w2, fl2, op2, pr2, st2, si2, nw2, ep2, nl4, outs2, good2, probe2⟩, n2, f2, _, _, N', F', L, _, nl3, _, z2, .inl rfl, rfl, rfl, ⟨hlt, hmany, V.rows, RO1, ?_, V.L, ?_, rfl⟩⟩
        · simp [dn]
        · have := V.I; simp [dn]; rw [wrap64 (by omega) (by omega)]; omega
      · simp at h6
        intro f4 hf4
        cbv
        refine ⟨?_, fun F' N' hM => ?_⟩
        · subst hD; have := V.outs.n; have hlen := manyF_len (l.take i) (ownF ⟨w, fl, op, pr, st, si, nw, ep, nl, outs, good, probe⟩); rw [V.run] at hlen; have hk3 : (l.take i).length ≤ 500 := (by have := List.length_take_le i l; omega); have hlen : out.length = (l.take i).length := hlen; exact ⟨rfl, by simp [dn]; omega, by simp [dn]; omega⟩
        have RO1 : Rows rsC (out ++ [⟨0, b3, st3, ep3⟩]) N' F' := by subst hD; exact rows_snoc V.outs hM (hf4.h 0 _ rfl)
        cbv
        refine ⟨l.length - (i + 1), by have := V.m; omega, ?_⟩
        rw [hJ]
        subst hD
        rw [if_neg (by omega)] at hmany
        refine ⟨i + 1, ⟨w3, fl3, op3, pr3, st3, si3, nw3, ep3, nl5, outs3, good3, probe3⟩, n3, f3, _, _, N', F', L, _, nl3, _, z2, .inl rfl, rfl, rfl, ⟨hlt, hmany, R3, RO1, ?_, V.L, ?_, rfl⟩⟩
        · simp [dn]
        · have := V.I; simp [dn]; rw [wrap64 (by omega) (by omega)]; omega
    · simp at h5
      have hi : i = l.length := by have := V.L; have := V.I; have := V.le; omega
      have hrun := V.run
      rw [hi, List.take_length] at hrun
      have hE : runF ⟨w, fl, op, pr, st, si, nw, ep, nl, outs, good, probe⟩ l = (out, ⟨w2, fl2, op2, pr2, st2, si2, nw2, ep2, nl4, outs2, good2, probe2⟩, 0) := by rw [runF, ← hc, if_neg (by omega), if_neg (by omega), hrun]
      rw [hE] at ha hs' hr
      have hnl := V.nl
      have hout := V.outs
      have hrows := V.rows
      have hlen := manyF_len l (ownF ⟨w, fl, op, pr, st, si, nw, ep, nl, outs, good, probe⟩)
      rw [hrun] at hlen
      subst hD ha hs' hr
      exact finV (.tup (.cons (leRow (by rw [han]; show nl2 = _; rw [hnl, hi, ← hlen]; exact isEmpty_dec _) hout RA) (.cons (.agg (leSt (s := ⟨w2, fl2, op2, pr2, st2, si2, nw2, ep2, nl4, outs2, good2, probe2⟩) rfl rfl rfl rfl rfl rfl rfl rfl rfl hrows R' rfl rfl)) (.cons (leInt rfl) .nil))))
  · cbv
    refine br hD (fun h5 => ?_) (fun h5 => ?_) <;> cbv
    · simp at h5
      have hlt : i < l.length := by have := V.L; have := V.I; omega
      refine ⟨?_, fun j hj => ?_⟩
      · subst hD; have := V.L; have := V.I; exact ⟨by simp [dn]; omega, by simp [dn]; omega⟩
      have hji : j = i := by have := isJ hD hj; have := V.I; omega
      have hgi := RL.f i l[i] (List.getElem?_eq_getElem hlt)
      have htk : l.take (i + 1) = l.take i ++ [l[i]] := by rw [List.take_add_one, List.getElem?_eq_getElem hlt]; rfl
      have hmany := manyF_snoc l[i] (l.take i) (ownF ⟨w, fl, op, pr, st, si, nw, ep, nl, outs, good, probe⟩)
      rw [V.run, ← htk] at hmany
      obtain ⟨⟨ek, en, ea, ee⟩, hev⟩ : ∃ e : BE, e = l[i] := ⟨_, rfl⟩
      rw [← hev] at hgi hmany
      have hgj : g j = [.int .i64 (.a ek), .int .i64 (.a en), .int .i64 (.a ea), .int .i64 (.a ee)] := by rw [hji, hgi]; rfl
      clear hgi hev htk hji hj
      rw [hgj]
      cbv
      have hk := manyF_keeps (l.take i) (ownF ⟨w, fl, op, pr, st, si, nw, ep, nl, outs, good, probe⟩)
      rw [V.run] at hk
      have hk1 : w2 = w := hk.1
      have hk2 : outs2.length ≤ outs.length + (l.take i).length := hk.2
      have hk3 : (l.take i).length ≤ 500 := by have := List.length_take_le i l; omega
      refine ⟨⟨_, _, _, _, _, _, _, _, _, outs2, _, _⟩, _, _, ⟨_, _, _, _⟩, rfl, rfl, by subst hD; exact V.rows, by show outs2.length ≤ 1000000; omega, by subst hD; show 1 ≤ w2; omega, fun s3 b3 r3 n3 f3 hs3 hb3 hr3 R3 => ?_⟩
      have e1 : s3 = (applyF ⟨w2, fl2, op2, pr2, st2, si2, nw2, ep2, nl4, outs2, good2, probe2⟩ ⟨ek, en, ea, ee⟩).1 := by subst hD; exact hs3
      have e2 : b3 = (applyF ⟨w2, fl2, op2, pr2, st2, si2, nw2, ep2, nl4, outs2, good2, probe2⟩ ⟨ek, en, ea, ee⟩).2.1 := by subst hD; exact hb3
      have e3 : r3 = (applyF ⟨w2, fl2, op2, pr2, st2, si2, nw2, ep2, nl4, outs2, good2, probe2⟩ ⟨ek, en, ea, ee⟩).2.2 := by subst hD; exact hr3
      have hone : oneF ⟨w2, fl2, op2, pr2, st2, si2, nw2, ep2, nl4, outs2, good2, probe2⟩ ⟨ek, en, ea, ee⟩ = if r3 ≠ 0 then (⟨w2, fl2, op2, pr2, st2, si2, nw2, ep2, nl4, outs2, good2, probe2⟩, ⟨r3, false, st2, ep2⟩) else (s3, ⟨0, b3, s3.st, s3.ep⟩) := by rw [oneF, e1, e2, e3]
      dsimp only at hmany
      rw [hone] at hmany
      clear e1 e2 e3 hone hs3 hb3 hr3 hk hk1 hk2 hk3
      obtain ⟨w3, fl3, op3, pr3, st3, si3, nw3, ep3, nl5, outs3, good3, probe3⟩ := s3
      cbv
      refine br hD (fun h6 => ?_) (fun h6 => ?_) <;> cbv
      · simp at h6
        intro f4 hf4
        cbv
        refine ⟨?_, fun F' N' hM => ?_⟩
        · subst hD; have := V.outs.n; have hlen := manyF_len (l.take i) (ownF ⟨w, fl, op, pr, st, si, nw, ep, nl, outs, good, probe⟩); rw [V.run] at hlen; have hk3 : (l.take i).length ≤ 500 := (by have := List.length_take_le i l; omega); have hlen : out.length = (l.take i).length := hlen; exact ⟨rfl, by simp [dn]; omega, by simp [dn]; omega⟩
        have RO1 : Rows rsC (out ++ [⟨r3, false, st2, ep2⟩]) N' F' := by subst hD; exact rows_snoc V.outs hM (hf4.h 0 _ rfl)
        cbv
        refine ⟨l.length - (i + 1), by have := V.m; omega, ?_⟩
        rw [hJ]
        subst hD
        rw [if_pos h6] at hmany
        refine ⟨i + 1, ⟨w2, fl2, op2, pr2, st2, si2, nw2, ep2, nl4, outs2, good2, probe2⟩, n2, f2, _, _, N', F', L, _, nl3, _, z2, .inr rfl, rfl, rfl, ⟨hlt, hmany, V.rows, RO1, ?_, V.L, ?_, rfl⟩⟩
        · simp [dn]
        · have := V.I; simp [dn]; rw [wrap64 (by omega) (by omega)]; omega
      · simp at h6
        intro f4 hf4
        cbv
        refine ⟨?_, fun F' N' hM => ?_⟩
        · subst hD; have := V.outs.n; have hlen := manyF_len (l.take i) (ownF ⟨w, fl, op, pr, st, si, nw, ep, nl, outs, good, probe⟩); rw [V.run] at hlen; have hk3 : (l.take i).length ≤ 500 := (by have := List.length_take_le i l; omega); have hlen : out.length = (l.take i).length := hlen; exact ⟨rfl, by simp [dn]; omega, by simp [dn]; omega⟩
        have RO1 : Rows rsC (out ++ [⟨0, b3, st3, ep3⟩]) N' F' := by subst hD; exact rows_snoc V.outs hM (hf4.h 0 _ rfl)
        cbv
        refine ⟨l.length - (i + 1), by have := V.m; omega, ?_⟩
        rw [hJ]
        subst hD
        rw [if_neg (by omega)] at hmany
        refine ⟨i + 1, ⟨w3, fl3, op3, pr3, st3, si3, nw3, ep3, nl5, outs3, good3, probe3⟩, n3, f3, _, _, N', F', L, _, nl3, _, z2, .inl rfl, rfl, rfl, ⟨hlt, hmany, R3, RO1, ?_, V.L, ?_, rfl⟩⟩
        · simp [dn]
        · have := V.I; simp [dn]; rw [wrap64 (by omega) (by omega)]; omega
    · simp at h5
      have hi : i = l.length := by have := V.L; have := V.I; have := V.le; omega
      have hrun := V.run
      rw [hi, List.take_length] at hrun
      have hE : runF ⟨w, fl, op, pr, st, si, nw, ep, nl, outs, good, probe⟩ l = (out, ⟨w2, fl2, op2, pr2, st2, si2, nw2, ep2, nl4, outs2, good2, probe2⟩, 0) := by rw [runF, ← hc, if_neg (by omega), if_neg (by omega), hrun]
      rw [hE] at ha hs' hr
      have hnl := V.nl
      have hout := V.outs
      have hrows := V.rows
      have hlen := manyF_len l (ownF ⟨w, fl, op, pr, st, si, nw, ep, nl, outs, good, probe⟩)
      rw [hrun] at hlen
      subst hD ha hs' hr
      exact finV (.tup (.cons (leRow (by rw [han]; show nl2 = _; rw [hnl, hi, ← hlen]; exact isEmpty_dec _) hout RA) (.cons (.agg (leSt (s := ⟨w2, fl2, op2, pr2, st2, si2, nw2, ep2, nl4, outs2, good2, probe2⟩) rfl rfl rfl rfl rfl rfl rfl rfl rfl hrows R' rfl rfl)) (.cons (leInt rfl) .nil))))

end Go.Proofs.YtkhbbppkghcbeaaDoor
