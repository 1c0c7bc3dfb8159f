/- Part of the proof of the statement: an evaluator of the code at closed data, run by the kernel, and that it is sound; it has no conditions of its own. -/
import Derived.AtR
import Derived.Test.YtljlcljlnhaniaaGreatDoorCva
set_option linter.unusedVariables false
set_option linter.unusedSimpArgs false
/- Values and heaps: what they stand for in the model. -/
namespace Go.Cv
open Go Go.RowKit

/-- Where an object's generation lies: the block; the number of the cell at its beginning; that behind its end. -/
structure Loc where
  blk : Nat
  lo : Nat
  en : Nat
abbrev Ip := Nat → Nat → Option Loc

inductive VR (ι : Ip) : CV → Value → Prop
  | bot (v : Value) : VR ι .bot v
  | u : VR ι .u undef
  | b (t : Bool) : VR ι (.b t) (.bool t)
  | i (k : IntKind) (n : Int) : VR ι (.i k n) (.int k n)
  | s {l n : Nat} (h : n < 256 ^ l) : VR ι (.s l n) (.string (strOf l n))
  | np : VR ι .np (.pointer none)
  | p {r g off : Nat} {L : Loc} (h : ι r g = some L) (hl : L.lo ≤ off) : VR ι (.p r g off) (.pointer (some ⟨L.blk, off - L.lo, none⟩))
  | ns : VR ι .ns (.slice none 0 0)
  | sl {r g off l sz cap : Nat} {L : Loc} {a : Addr} {c : Nat} (h : ι r g = some L) (hl : L.lo ≤ off) (hz : 0 < sz) (hc : off + c * sz ≤ L.en) (ha : 0 < c → a = ⟨L.blk, off - L.lo, none⟩) (hn : l ≤ c)
      (h0 : cap = 0 → c = (L.en - off) / sz) (h1 : ∀ k, cap = k + 1 → c = k) : VR ι (.sl r g off l sz cap) (.slice (some a) l c)
  | nm : VR ι .nm (.map none)
  | m {r : Nat} {L : Loc} (h : ι r 0 = some L) : VR ι (.m r) (.map (some L.blk))
  | nf : VR ι .nf .nilFunc
  | f {fn : Nat} {xs ys : List CV} {us vs : List Value} (h1 : xs.length = us.length) (h2 : ∀ (i : Nat) (x : CV) (v : Value), xs[i]? = some x → us[i]? = some v → VR ι x v) (h3 : ys.length = vs.length) (h4 : ∀ (i : Nat) (x : CV) (v : Value), ys[i]? = some x → vs[i]? = some v → VR ι x v) :
      VR ι (.f fn xs ys) (.func (.func fn) ⟨us⟩ ⟨vs⟩)
  | yl {l : Nat} {L : Loc} (h : ι l 0 = some L) : VR ι (.yl l) (.func (.yield L.blk) #[] #[])
  | ni : VR ι .ni .nilIface
  | ifc {t : Nat} {v : CV} {v' : Value} (h : VR ι v v') : VR ι (.ifc t v) (.iface t v')
  | agg {xs : List CV} {us : List Value} (h1 : xs.length = us.length) (h2 : ∀ (i : Nat) (x : CV) (v : Value), xs[i]? = some x → us[i]? = some v → VR ι x v) : VR ι (.agg xs) (.agg ⟨us⟩)
  | tup {xs : List CV} {us : List Value} (h1 : xs.length = us.length) (h2 : ∀ (i : Nat) (x : CV) (v : Value), xs[i]? = some x → us[i]? = some v → VR ι x v) : VR ι (.tup xs) (.tuple ⟨us⟩)

/-- Lists of values. -/
def VRL (ι : Ip) (xs : List CV) (us : List Value) : Prop := xs.length = us.length ∧ ∀ (i : Nat) (x : CV) (v : Value), xs[i]? = some x → us[i]? = some v → VR ι x v
section
variable {ι ι' : Ip} {xs ys : List CV} {us vs : List Value} {x : CV} {v : Value}
theorem VRL.nil : VRL ι [] [] := ⟨rfl, by simp⟩
theorem VRL.cons (h : VR ι x v) (hs : VRL ι xs us) : VRL ι (x :: xs) (v :: us) :=
  ⟨by simp [hs.1], fun i x' v' h1 h2 => by
    cases i with
    | zero => simp at h1 h2; subst h1 h2; exact h
    | succ i => exact hs.2 i x' v' (by simpa using h1) (by simpa using h2)⟩
theorem VRL.cons_inv (h : VRL ι (x :: xs) us) : ∃ v us', us = v :: us' ∧ VR ι x v ∧ VRL ι xs us' := by
  cases us with
  | nil => simp [VRL] at h
  | cons v us' => exact ⟨v, us', rfl, h.2 0 x v rfl rfl, by simpa using h.1, fun i x' v' h1 h2 => h.2 (i + 1) x' v' (by simpa using h1) (by simpa using h2)⟩
theorem VRL.nil_inv (h : VRL ι [] us) : us = [] := List.eq_nil_of_length_eq_zero h.1.symm
theorem VRL.app (h : VRL ι xs us) (h' : VRL ι ys vs) : VRL ι (xs ++ ys) (us ++ vs) :=
  ⟨by simp [h.1, h'.1], fun i x v a b => by
    rw [List.getElem?_append] at a b
    rw [h.1] at a
    split at a
    · rename_i hi; rw [if_pos hi] at b; exact h.2 i x v a b
    · rename_i hi; rw [if_neg hi] at b; exact h'.2 _ x v a b⟩
theorem VRL.take (n : Nat) (h : VRL ι xs us) : VRL ι (xs.take n) (us.take n) :=
  ⟨by simp [h.1], fun i x v a b => by
    rw [List.getElem?_take] at a b
    split at a
    · rename_i e; rw [if_pos e] at b; exact h.2 i x v a b
    · cases a⟩
theorem VRL.drop (n : Nat) (h : VRL ι xs us) : VRL ι (xs.drop n) (us.drop n) :=
  ⟨by simp [h.1], fun i x v a b => by
    rw [List.getElem?_drop] at a b
    exact h.2 _ x v a b⟩
theorem VRL.get {i : Nat} (h : VRL ι xs us) (hx : xs[i]? = some x) : ∃ v, us[i]? = some v ∧ VR ι x v := by
  have hlt : i < us.length := by rw [← h.1]; exact (List.getElem?_eq_some_iff.1 hx).1
  exact ⟨us[i], List.getElem?_eq_getElem hlt, h.2 i x _ hx (List.getElem?_eq_getElem hlt)⟩
theorem VR.agg' (h : VRL ι xs us) : VR ι (.agg xs) (.agg ⟨us⟩) := .agg h.1 h.2
theorem VR.tup' (h : VRL ι xs us) : VR ι (.tup xs) (.tuple ⟨us⟩) := .tup h.1 h.2
theorem VR.agg_inv (h : VR ι (.agg xs) v) : ∃ us, v = .agg ⟨us⟩ ∧ VRL ι xs us := by cases h with | agg h1 h2 => exact ⟨_, rfl, h1, h2⟩
theorem VR.tup_inv (h : VR ι (.tup xs) v) : ∃ us, v = .tuple ⟨us⟩ ∧ VRL ι xs us := by cases h with | tup h1 h2 => exact ⟨_, rfl, h1, h2⟩

/-- More places. -/
def Ex (ι ι' : Ip) : Prop := ∀ r g L, ι r g = some L → ι' r g = some L
theorem Ex.refl : Ex ι ι := fun _ _ _ h => h
theorem Ex.trans {ι'' : Ip} (h : Ex ι ι') (h' : Ex ι' ι'') : Ex ι ι'' := fun r g L e => h' r g L (h r g L e)
theorem VR.mono (x : Ex ι ι') {c : CV} {v : Value} (h : VR ι c v) : VR ι' c v := by
  induction h with
  | bot v => exact .bot v
  | u => exact .u
  | b t => exact .b t
  | i k n => exact .i k n
  | s h => exact .s h
  | np => exact .np
  | p h hl => exact .p (x _ _ _ h) hl
  | ns => exact .ns
  | sl h hl hz hc ha hn h0 h1 => exact .sl (x _ _ _ h) hl hz hc ha hn h0 h1
  | nm => exact .nm
  | m h => exact .m (x _ _ _ h)
  | nf => exact .nf
  | f h1 _ h3 _ ih2 ih4 => exact .f h1 ih2 h3 ih4
  | yl h => exact .yl (x _ _ _ h)
  | ni => exact .ni
  | ifc _ ih => exact .ifc ih
  | agg h1 _ ih => exact .agg h1 ih
  | tup h1 _ ih => exact .tup h1 ih
theorem VRL.mono (x : Ex ι ι') (h : VRL ι xs us) : VRL ι' xs us := ⟨h.1, fun i c v a b => (h.2 i c v a b).mono x⟩

theorem VR.b_inv {t : Bool} (h : VR ι (.b t) v) : v = .bool t := by cases h; rfl
theorem VR.i_inv {k : IntKind} {n : Int} (h : VR ι (.i k n) v) : v = .int k n := by cases h; rfl
theorem VR.s_inv {l n : Nat} (h : VR ι (.s l n) v) : v = .string (strOf l n) ∧ n < 256 ^ l := by cases h with | s h => exact ⟨rfl, h⟩
theorem VR.p_inv {r g off : Nat} (h : VR ι (.p r g off) v) : ∃ L, ι r g = some L ∧ L.lo ≤ off ∧ v = .pointer (some ⟨L.blk, off - L.lo, none⟩) := by cases h with | p h hl => exact ⟨_, h, hl, rfl⟩
theorem VR.f_inv {fn : Nat} (h : VR ι (.f fn xs ys) v) : ∃ us vs, v = .func (.func fn) ⟨us⟩ ⟨vs⟩ ∧ VRL ι xs us ∧ VRL ι ys vs := by cases h with | f h1 h2 h3 h4 => exact ⟨_, _, rfl, ⟨h1, h2⟩, ⟨h3, h4⟩⟩

theorem oneC_one (h : oneC x = true) (hr : VR ι x v) : v.oneCell' = true := by
  cases hr <;> first | rfl | simp [oneC] at h
theorem cells_rel (h : VR ι x v) (ha : ∀ us, v = .agg us → ∃ xs, x = .agg xs) : VRL ι x.cells v.cells.toList := by
  by_cases hx : ∃ xs, x = .agg xs
  · obtain ⟨xs, rfl⟩ := hx
    obtain ⟨us, rfl, hl⟩ := h.agg_inv
    exact hl
  · have h1 : x.cells = [x] := by cases x <;> first | rfl | exact (hx ⟨_, rfl⟩).elim
    have h2 : v.cells = #[v] := by
      cases v with
      | agg us => exact (hx (ha us rfl)).elim
      | _ => rfl
    rw [h1, h2]
    exact .cons h .nil
/-- The cells of a value that is to be stored. -/
theorem cells_ok (h : VR ι x v) (ho : allL oneC x.cells = true) : VRL ι x.cells v.cells.toList ∧ ∀ u ∈ v.cells.toList, u.oneCell' = true := by
  have hr : VRL ι x.cells v.cells.toList := cells_rel h (fun us e => by
    subst e
    cases h with
    | bot => simp [CV.cells, allL, oneC] at ho
    | agg h1 h2 => exact ⟨_, rfl⟩)
  refine ⟨hr, fun u hu => ?_⟩
  obtain ⟨i, hi⟩ := List.mem_iff_getElem?.1 hu
  have hlt : i < x.cells.length := by rw [hr.1]; exact (List.getElem?_eq_some_iff.1 hi).1
  exact oneC_one ((allL_iff _ _).1 ho _ (List.getElem_mem hlt)) (hr.2 i _ u (List.getElem?_eq_getElem hlt) hi)
end

/-! ### frames -/
def FR (ι : Ip) (fr : Tr CV) (tmps : Array Value) : Prop := ∀ t v, fr.get t = some v → VR ι v (tmps.getD t undef)
theorem FR.mono {ι ι' : Ip} (x : Ex ι ι') {fr : Tr CV} {tmps : Array Value} (h : FR ι fr tmps) : FR ι' fr tmps := fun t v e => (h t v e).mono x
theorem FR.getT {ι : Ip} {fr : Tr CV} {tmps : Array Value} (h : FR ι fr tmps) (t : Nat) : VR ι (getT fr t) (tmps.getD t undef) := by
  unfold Cv.getT
  split
  · rename_i v e; exact h t v e
  · exact .bot _
theorem FR.set {ι : Ip} {fr : Tr CV} {tmps : Array Value} (h : FR ι fr tmps) {t : Nat} {v : CV} {u : Value} (hv : VR ι v u) (ht : t < tmps.size) (hk : t < keyTop) : FR ι (fr.set t v) (tmps.setIfInBounds t u) := by
  intro t' v' e
  rw [Tr.get_set _ _ hk] at e
  split at e
  · rename_i he
    cases e; subst he
    simp [ht]; exact hv
  · rename_i he
    have := h t' v' e
    rw [Array.getD_eq_getD_getElem?, Array.getElem?_setIfInBounds_ne (Ne.symm he), ← Array.getD_eq_getD_getElem?]
    exact this

/-! ### objects -/
def stOf : Nat → LoopState
  | 0 => .ready
  | 1 => .busy
  | 2 => .done
  | _ => .exhausted
structure Sg where
  P : Program
  en : En
/-- A function's slots. -/
noncomputable def Sg.nt (S : Sg) (fn : Nat) : Nat := ntOf S.en fn

def OR (S : Sg) (ι : Ip) (w : World) (L : Loc) (g : Nat) : CO → Prop
  | .c ty tr n G fz _ mk => g ≤ G ∧ ∃ arr fz', w.heap[L.blk]? = some (.cells arr ty fz') ∧ L.en ≤ L.lo + arr.size ∧
      (∀ i c, tr.get i = some c → c.w ≤ G ∧ i < n ∧ i < keyTop ∧ (c.w ≤ g → L.lo ≤ i → ∃ v, arr[i - L.lo]? = some v ∧ VR ι c.v v ∧ v.oneCell' = true)) ∧
      (g = G → n ≤ L.en ∧ (if mk then fz' = (0, 0) ∨ fz' = (arr.size, arr.size + 1) else fz'.1 = 0 ∧ fz'.2 ≤ fz - L.lo))
  | .mp es => g = 0 ∧ ∃ ents clock, w.heap[L.blk]? = some (.map ents clock) ∧ es.length = ents.size ∧ ∀ (i : Nat) e m, es[i]? = some e → ents[i]? = some m → VR ι e.1 m.key ∧ VR ι e.2 m.val
  | .lp st pd fn fr ps asg body df => g = 0 ∧ ∃ Ld tmps, ι df 0 = some Ld ∧ tmps.size = S.nt fn ∧ FR ι fr tmps ∧
      w.heap[L.blk]? = some (.loop { state := stOf st, pending := pd, fn, tmps, params := ps.toArray, assign := asg, body, defers := Ld.blk })
  | .it l n i => g = 0 ∧ n < 256 ^ l ∧ w.heap[L.blk]? = some (.stringIter (strOf l n) i)
  | .df => g = 0 ∧ w.heap[L.blk]? = some (.deferred (some []))
  | .dead => True
def roB : CO → Bool
  | .c _ _ _ _ _ ro _ => ro
  | _ => false

theorem OR.mono {S : Sg} {ι ι' : Ip} (x : Ex ι ι') {w w' : World} {L : Loc} {g : Nat} {o : CO} (hw : w'.heap[L.blk]? = w.heap[L.blk]?) (h : OR S ι w L g o) : OR S ι' w' L g o := by
  cases o with
  | c ty tr n G fz ro mk =>
    obtain ⟨h0, arr, fz', h1, h2, h3, h4⟩ := h
    exact ⟨h0, arr, fz', by rw [hw]; exact h1, h2, fun i c e => ⟨(h3 i c e).1, (h3 i c e).2.1, (h3 i c e).2.2.1, fun a b => let ⟨v, q1, q2, q3⟩ := (h3 i c e).2.2.2 a b; ⟨v, q1, q2.mono x, q3⟩⟩, h4⟩
  | mp es =>
    obtain ⟨h0, ents, cl, h1, h2, h3⟩ := h
    exact ⟨h0, ents, cl, by rw [hw]; exact h1, h2, fun i e m a b => ⟨(h3 i e m a b).1.mono x, (h3 i e m a b).2.mono x⟩⟩
  | lp st pd fn fr ps asg body df =>
    obtain ⟨h0, Ld, tmps, h1, h2, h3, h4⟩ := h
    exact ⟨h0, Ld, tmps, x _ _ _ h1, h2, h3.mono x, by rw [hw]; exact h4⟩
  | it l n i => exact ⟨h.1, h.2.1, by rw [hw]; exact h.2.2⟩
  | df => exact ⟨h.1, by rw [hw]; exact h.2⟩
  | dead => trivial

/-- The heap. 'U': objects that the evaluator has drawn and the model has not yet. -/
structure HR (S : Sg) (base : Nat) (w0 : World) (U : Nat → Option CO) (ι : Ip) (hp : Tr CO) (nx : Nat) (w : World) : Prop where
  below : Below base w0 w
  top : base ≤ w.heap.size
  key : nx ≤ keyTop
  obj : ∀ r g L, ι r g = some L → ∃ o, hp.get r = some o ∧ OR S ι w L g o ∧ L.blk < w.heap.size ∧ (L.blk < base → roB o = true)
  inj : ∀ r g L r' g' L', ι r g = some L → ι r' g' = some L' → L.blk = L'.blk → r = r' ∧ L = L'
  dom : ∀ r g L, ι r g = some L → r < nx
  unb : ∀ r o, U r = some o → hp.get r = some o ∧ (∀ g, ι r g = none) ∧ r < nx
  lt : ∀ r o, hp.get r = some o → r < nx

section
variable {S : Sg} {base : Nat} {w0 w w' : World} {U : Nat → Option CO} {ι ι' : Ip} {hp hp' : Tr CO} {nx : Nat}
/-- A draw. -/
theorem HR.drew (h : HR S base w0 U ι hp nx w) : HR S base w0 U ι hp nx { w with drawn := w.drawn + 1 } :=
  ⟨h.below.drew, h.top, h.key, fun r g L e => let ⟨o, a, b, c, d⟩ := h.obj r g L e; ⟨o, a, b.mono Ex.refl rfl, c, d⟩, h.inj, h.dom, h.unb, h.lt⟩

/-- One more place. -/
def Ip.add (ι : Ip) (r g : Nat) (L : Loc) : Ip := fun r' g' => if r' = r ∧ g' = g then some L else ι r' g'
theorem Ip.add_ex {r g : Nat} {L : Loc} (h : ι r g = none) : Ex ι (ι.add r g L) := fun r' g' L' e => by
  unfold Ip.add
  split
  · rename_i he; rw [he.1, he.2, h] at e; cases e
  · exact e
theorem Ip.add_self (ι : Ip) (r g : Nat) (L : Loc) : ι.add r g L r g = some L := by simp [Ip.add]

/-- A new block for an object that has none yet. -/
theorem HR.born (h : HR S base w0 U ι hp nx w) {r en : Nat} {o : CO} {ob : Obj} (hr : ∀ g, ι r g = none) (hn : r < nx) (hg : hp.get r = some o)
    (ho : OR S (ι.add r 0 ⟨w.heap.size, 0, en⟩) (w.alloc ob) ⟨w.heap.size, 0, en⟩ 0 o) {U' : Nat → Option CO} (hU : ∀ r' o', U' r' = some o' → r' ≠ r ∧ U r' = some o') :
    HR S base w0 U' (ι.add r 0 ⟨w.heap.size, 0, en⟩) hp nx (w.alloc ob) := by
  have hx : Ex ι (ι.add r 0 ⟨w.heap.size, 0, en⟩) := Ip.add_ex (hr 0)
  have hs : (w.alloc ob).heap.size = w.heap.size + 1 := by simp
  refine ⟨h.below.alloc h.top ob, by have := h.top; omega, h.key, fun r' g L e => ?_, fun r1 g1 L1 r2 g2 L2 e1 e2 he => ?_, fun r' g L e => ?_, fun r' o' e => ?_, h.lt⟩
  · simp only [Ip.add] at e
    split at e
    · rename_i he
      cases e
      obtain ⟨rfl, rfl⟩ := he
      exact ⟨o, hg, ho, by rw [hs]; exact Nat.lt_succ_self _, fun hlt => absurd hlt (by have := h.top; show ¬ w.heap.size < base; omega)⟩
    · obtain ⟨o', a, b, c, d⟩ := h.obj r' g L e
      exact ⟨o', a, b.mono hx (Below.heap_alloc w ob L.blk c), by rw [hs]; omega, d⟩
  · simp only [Ip.add] at e1 e2
    split at e1 <;> split at e2
    · rename_i a b; cases e1; cases e2; exact ⟨by rw [a.1, b.1], rfl⟩
    · cases e1
      obtain ⟨_, _, _, c, _⟩ := h.obj r2 g2 L2 e2
      exact absurd he (by show ¬ w.heap.size = _; omega)
    · cases e2
      obtain ⟨_, _, _, c, _⟩ := h.obj r1 g1 L1 e1
      exact absurd he (by show ¬ _ = w.heap.size; omega)
    · exact h.inj r1 g1 L1 r2 g2 L2 e1 e2 he
  · simp only [Ip.add] at e
    split at e
    · rename_i he; rw [he.1]; exact hn
    · exact h.dom r' g L e
  · obtain ⟨hne, hu⟩ := hU r' o' e
    obtain ⟨a, b, c⟩ := h.unb r' o' hu
    exact ⟨a, fun g => by simp only [Ip.add]; rw [if_neg (by omega)]; exact b g, c⟩

/-- A new object, still without a block. -/
theorem HR.draw (h : HR S base w0 U ι hp nx w) (o : CO) (hk : nx + 2 ≤ keyTop) : HR S base w0 (fun r => if r = nx then some o else U r) ι (hp.set nx o) (nx + 1) w := by
  have hne : ∀ r g L, ι r g = some L → r ≠ nx := fun r g L e => by have := h.dom r g L e; omega
  refine ⟨h.below, h.top, by omega, fun r g L e => ?_, h.inj, fun r g L e => by have := h.dom r g L e; omega, fun r o' e => ?_, fun r o' e => ?_⟩
  · obtain ⟨o', a, b⟩ := h.obj r g L e
    exact ⟨o', by rw [Tr.get_set _ _ (by omega), if_neg (hne r g L e)]; exact a, b⟩
  · split at e
    · rename_i he; cases e; subst he
      exact ⟨by rw [Tr.get_set _ _ (by omega), if_pos rfl], fun g => by
        cases e' : ι r g with
        | none => rfl
        | some L => exact absurd rfl (hne r g L e'), by omega⟩
    · rename_i he
      obtain ⟨a, b, c⟩ := h.unb r o' e
      exact ⟨by rw [Tr.get_set _ _ (by omega), if_neg he]; exact a, b, by omega⟩
  · rw [Tr.get_set _ _ (by omega)] at e
    split at e
    · omega
    · have := h.lt r o' e; omega

/-- A new object and its block. -/
theorem HR.new (h : HR S base w0 U ι hp nx w) {en : Nat} {o : CO} {ob : Obj} (hk : nx + 2 ≤ keyTop)
    (ho : OR S (ι.add nx 0 ⟨w.heap.size, 0, en⟩) (w.alloc ob) ⟨w.heap.size, 0, en⟩ 0 o) :
    HR S base w0 U (ι.add nx 0 ⟨w.heap.size, 0, en⟩) (hp.set nx o) (nx + 1) (w.alloc ob) ∧ Ex ι (ι.add nx 0 ⟨w.heap.size, 0, en⟩) := by
  have hn : ∀ g, ι nx g = none := fun g => by
    cases e : ι nx g with
    | none => rfl
    | some L => have := h.dom nx g L e; omega
  refine ⟨(h.draw o hk).born hn (by omega) (by rw [Tr.get_set _ _ (by omega), if_pos rfl]) ho (fun r' o' e => ?_), Ip.add_ex (hn 0)⟩
  have : r' ≠ nx := by have := (h.unb r' o' e).2.2; omega
  exact ⟨this, by rw [if_neg this]; exact e⟩

/-- An object is written. -/
theorem HR.write (h : HR S base w0 U ι hp nx w) {r : Nat} {o' : CO} (hx : Ex ι ι') (hnew : ∀ r' g' L', ι' r' g' = some L' → ι r' g' = some L' ∨ r' = r)
    (hb : Below base w w') (hrn : r < nx) (hur : U r = none)
    (hsame : ∀ r' g' L', ι r' g' = some L' → r' ≠ r → w'.heap[L'.blk]? = w.heap[L'.blk]?)
    (hobj : ∀ g L, ι' r g = some L → OR S ι' w' L g o' ∧ L.blk < w'.heap.size ∧ (L.blk < base → roB o' = true))
    (hinj : ∀ g L r' g' L', ι' r g = some L → ι r' g' = some L' → r' ≠ r → L.blk ≠ L'.blk)
    (hself : ∀ g L g' L', ι' r g = some L → ι' r g' = some L' → L.blk = L'.blk → L = L') :
    HR S base w0 U ι' (hp.set r o') nx w' := by
  have hk : r < keyTop := by have := h.key; omega
  refine ⟨h.below.trans hb, by have := h.top; have := hb.size; omega, h.key, fun r' g L e => ?_, fun r1 g1 L1 r2 g2 L2 e1 e2 he => ?_, fun r' g L e => ?_, fun r' o e => ?_, fun r' o e => ?_⟩
  · by_cases hr : r' = r
    · subst hr
      exact ⟨o', by rw [Tr.get_set _ _ hk, if_pos rfl], hobj g L e⟩
    · have e' := (hnew r' g L e).resolve_right hr
      obtain ⟨o, a, b, c, d⟩ := h.obj r' g L e'
      exact ⟨o, by rw [Tr.get_set _ _ hk, if_neg hr]; exact a, b.mono hx (hsame r' g L e' hr), by have := hb.size; omega, d⟩
  · by_cases h1 : r1 = r <;> by_cases h2 : r2 = r
    · subst h1 h2; exact ⟨rfl, hself g1 L1 g2 L2 e1 e2 he⟩
    · subst h1
      exact absurd he (hinj g1 L1 r2 g2 L2 e1 ((hnew r2 g2 L2 e2).resolve_right h2) h2)
    · subst h2
      exact absurd he.symm (hinj g2 L2 r1 g1 L1 e2 ((hnew r1 g1 L1 e1).resolve_right h1) h1)
    · exact h.inj r1 g1 L1 r2 g2 L2 ((hnew r1 g1 L1 e1).resolve_right h1) ((hnew r2 g2 L2 e2).resolve_right h2) he
  · rcases hnew r' g L e with e' | e'
    · exact h.dom r' g L e'
    · subst e'; exact hrn
  · obtain ⟨a, b, c⟩ := h.unb r' o e
    have hne : r' ≠ r := fun e' => by subst e'; rw [hur] at e; cases e
    refine ⟨by rw [Tr.get_set _ _ hk, if_neg hne]; exact a, fun g => ?_, c⟩
    cases e' : ι' r' g with
    | none => rfl
    | some L => have := (hnew r' g L e').resolve_right hne; rw [b g] at this; cases this
  · rw [Tr.get_set _ _ hk] at e
    split at e
    · omega
    · exact h.lt r' o e

/-- An object that is there is none that is still to come. -/
theorem HR.born_not (h : HR S base w0 U ι hp nx w) {r g : Nat} {L : Loc} (e : ι r g = some L) : U r = none := by
  cases hu : U r with
  | none => rfl
  | some o => have := (h.unb r o hu).2.1 g; rw [this] at e; cases e

/-- In another world that is alike from below: other objects, further up, have changed. -/
theorem HR.other (h : HR S base w0 U ι hp nx w) {b' : Nat} (hb : Below w.heap.size w w') (hb' : b' = w.heap.size) : HR S base w0 U ι hp nx w' :=
  ⟨h.below.trans (hb.mono h.top), by have := h.top; have := hb.size; omega, h.key, fun r g L e => let ⟨o, a, b, c, d⟩ := h.obj r g L e; ⟨o, a, b.mono Ex.refl (hb.block _ c), by have := hb.size; omega, d⟩, h.inj, h.dom, h.unb, h.lt⟩
end

end Go.Cv
/- The table of types; operands; parts of values. -/
namespace Go.Cv
open Go Go.RowKit

def kindB (P : Program) : TK → TypeDesc → Bool
  | .int k, .int k' => k == k'
  | .bool, .bool => true
  | .string, .string => true
  | .ptr e, .pointer e' => e == e'
  | .slice e, .slice e' => e == e'
  | .struct fs, .struct fields => (fields.toList.map fun f => (f.offset, f.type)) == fs && fields.toList.all fun f => (P.info? f.type).isSome
  | .array n e, .array n' e' => n == n' && e == e'
  | .map k e, .map k' e' => k == k' && e == e'
  | .iface, .interface _ => true
  | .func, .func _ _ _ => true
  | .uptr, .unsafePointer => true
  | .other, .struct _ => false
  | .other, .array .. => false
  | .other, .interface _ => false
  | .other, _ => true
  | _, _ => false

def zB : CV → Value → Bool
  | .i k n, .int k' n' => k == k' && n == n'
  | .b b, .bool b' => b == b'
  | .s 0 0, .string s' => s'.data.toList.length == 0
  | .np, .pointer none => true
  | .ns, .slice none 0 0 => true
  | .ni, .nilIface => true
  | .nf, .nilFunc => true
  | .nm, .map none => true
  | .bot, .chan none => true
  | .bot, .float _ _ => true
  | _, _ => false
def zsB : List CV → List Value → Bool
  | [], [] => true
  | s :: ss, v :: vs => zB s v && zsB ss vs
  | _, _ => false
def aggK : TK → Bool
  | .struct _ | .array _ _ => true
  | _ => false
def tiB (P : Program) (t : TypeId) (ti : TI) : Bool :=
  match P.underlying t, P.info? t with
  | some d, some i => ti.zero.length == ti.size && kindB P ti.k d && i.size == ti.size && i.bytes == ti.bytes && (match i.zero with | some z => zsB ti.zero z.cells.toList && (match z with | .agg _ => aggK ti.k | _ => !aggK ti.k) | none => false)
  | _, _ => false

structure TIok (P : Program) (t : TypeId) (ti : TI) : Prop where
  zlen : ti.zero.length = ti.size
  und : ∃ d, P.underlying t = some d ∧ kindB P ti.k d = true
  info : ∃ i z, P.info? t = some i ∧ i.size = ti.size ∧ i.bytes = ti.bytes ∧ i.zero = some z ∧ zsB ti.zero z.cells.toList = true ∧ (match z with | .agg _ => aggK ti.k | _ => !aggK ti.k) = true

theorem tiB_ok {P : Program} {t : TypeId} {ti : TI} (h : tiB P t ti = true) : TIok P t ti := by
  unfold tiB at h
  split at h
  · rename_i d i hd hi
    simp only [Bool.and_eq_true, beq_iff_eq] at h
    obtain ⟨⟨⟨⟨h0, h1⟩, h2⟩, h3⟩, h4⟩ := h
    split at h4
    · rename_i z hz
      simp only [Bool.and_eq_true] at h4
      exact ⟨h0, ⟨d, hd, h1⟩, ⟨i, z, hi, h2, h3, hz, h4⟩⟩
    · simp at h4
  · simp at h

theorem zB_rel {ι : Ip} {s : CV} {v : Value} (h : zB s v = true) : VR ι s v ∧ v.oneCell' = true := by
  unfold zB at h
  split at h <;> simp at h
  · obtain ⟨rfl, rfl⟩ := h; exact ⟨.i _ _, rfl⟩
  · subst h; exact ⟨.b _, rfl⟩
  · rename_i s'
    refine ⟨?_, rfl⟩
    have : s' = strOf 0 0 := by
      apply ByteArray.ext
      have h2 : s'.data.toList = [] := List.eq_nil_of_length_eq_zero (by simpa using h)
      show s'.data = #[]
      rw [← Array.toList_inj]; exact h2
    rw [this]
    exact .s (by simp)
  · exact ⟨.np, rfl⟩
  · exact ⟨.ns, rfl⟩
  · exact ⟨.ni, rfl⟩
  · exact ⟨.nf, rfl⟩
  · exact ⟨.nm, rfl⟩
  · exact ⟨.bot _, rfl⟩
  · exact ⟨.bot _, rfl⟩
theorem zsB_rel {ι : Ip} : ∀ {ss : List CV} {vs : List Value}, zsB ss vs = true → VRL ι ss vs ∧ ∀ v ∈ vs, v.oneCell' = true
  | [], [], _ => ⟨.nil, by simp⟩
  | s :: ss, v :: vs, h => by
    simp only [zsB, Bool.and_eq_true] at h
    obtain ⟨h1, h2⟩ := zsB_rel (ι := ι) h.2
    obtain ⟨h3, h4⟩ := zB_rel (ι := ι) h.1
    exact ⟨.cons h3 h1, by simpa using ⟨h4, h2⟩⟩
  | [], _ :: _, h => by simp [zsB] at h
  | _ :: _, [], h => by simp [zsB] at h

section
variable {P : Program} {t : Nat} {ti : TI}
theorem run_und {P : Program} {t : TypeId} {d : TypeDesc} (h : P.underlying t = some d) (w : World) : (underlying t).run P w = .ok d w := by simp [underlying, h]
theorem TIok.sizeOf (h : TIok P t ti) (w : World) : (sizeOf t).run P w = .ok ti.size w := by
  obtain ⟨i, z, hi, h1, _⟩ := h.info
  simp [Go.sizeOf, typeInfo, hi, h1]
theorem TIok.isAgg (h : TIok P t ti) (w : World) : (Go.isAgg t).run P w = .ok (aggK ti.k) w := by
  obtain ⟨d, hd, hk⟩ := h.und
  unfold Go.isAgg
  simp only [Sem.run_bind, run_und hd, Result.andThen_ok]
  cases hti : ti.k <;> rw [hti] at hk <;> cases d <;> first | rfl | simp [kindB] at hk
theorem TIok.bytesIs (h : TIok P t ti) (w : World) : ∃ i, (typeInfo t).run P w = .ok i w ∧ i.bytes = ti.bytes ∧ i.size = ti.size := by
  obtain ⟨i, z, hi, h1, h2, _⟩ := h.info
  exact ⟨i, by simp [typeInfo, hi], h2, h1⟩
theorem TIok.zero (h : TIok P t ti) (ι : Ip) (w : World) : ∃ z, (zeroValue t).run P w = .ok z w ∧ VRL ι ti.zero z.cells.toList ∧ (∀ v ∈ z.cells.toList, v.oneCell' = true) ∧ z.cells.size = ti.size ∧
    VR ι (if aggK ti.k then .agg ti.zero else (ti.zero.headD .bot)) z := by
  obtain ⟨i, z, hi, h1, h2, h3, h4, h5⟩ := h.info
  obtain ⟨a, b⟩ := zsB_rel (ι := ι) h4
  have hsz : z.cells.size = ti.size := by rw [← h.zlen, a.1]; simp
  refine ⟨z, by simp [zeroValue, typeInfo, hi, h3], a, b, hsz, ?_⟩
  cases hk : aggK ti.k
  · rw [hk] at h5
    have hz : z.cells = #[z] := by cases z <;> first | rfl | simp at h5
    rw [hz] at a
    obtain ⟨s, hs⟩ : ∃ s, ti.zero = [s] := by
      have := a.1
      match h : ti.zero, this with
      | [s], _ => exact ⟨s, rfl⟩
    rw [hs] at a ⊢
    exact a.2 0 s z rfl rfl
  · rw [hk] at h5
    cases z <;> simp at h5
    exact .agg' (by simpa [Value.cells] using a)

theorem fields_get {fs : List (Nat × TypeId)} {fields : Array Field} (h : (fields.toList.map fun f => (f.offset, f.type)) = fs) {i fo ft : Nat} (hi : nth fs i = some (fo, ft)) :
    ∃ f, fields[i]? = some f ∧ f.offset = fo ∧ f.type = ft := by
  rw [nth_eq, ← h, List.getElem?_map] at hi
  cases hf : fields.toList[i]? with
  | none => rw [hf] at hi; cases hi
  | some f =>
    rw [hf] at hi
    simp only [Option.map_some, Option.some.injEq, Prod.mk.injEq] at hi
    exact ⟨f, by rw [← Array.getElem?_toList]; exact hf, hi.1, hi.2⟩
theorem TIok.struct (h : TIok P t ti) {fs : List (Nat × TypeId)} (hk : ti.k = .struct fs) :
    ∃ fields, P.underlying t = some (.struct fields) ∧ (fields.toList.map fun f => (f.offset, f.type)) = fs ∧ ∀ f ∈ fields.toList, ∃ i, P.info? f.type = some i := by
  obtain ⟨d, hd, hb⟩ := h.und
  rw [hk] at hb
  cases d <;> simp only [kindB, Bool.false_eq_true] at hb
  rename_i fields
  simp only [Bool.and_eq_true, beq_iff_eq, List.all_eq_true, Option.isSome_iff_exists] at hb
  exact ⟨fields, hd, hb.1, hb.2⟩
theorem TIok.slice (h : TIok P t ti) {e : TypeId} (hk : ti.k = .slice e) : P.underlying t = some (.slice e) := by
  obtain ⟨d, hd, hb⟩ := h.und
  rw [hk] at hb
  cases d <;> simp only [kindB, Bool.false_eq_true, beq_iff_eq] at hb
  rw [hd, hb]
theorem TIok.array (h : TIok P t ti) {n e : Nat} (hk : ti.k = .array n e) : P.underlying t = some (.array n e) := by
  obtain ⟨d, hd, hb⟩ := h.und
  rw [hk] at hb
  cases d <;> simp only [kindB, Bool.false_eq_true, beq_iff_eq, Bool.and_eq_true] at hb
  rw [hd, hb.1, hb.2]
theorem TIok.map (h : TIok P t ti) {k e : Nat} (hk : ti.k = .map k e) : P.underlying t = some (.map k e) := by
  obtain ⟨d, hd, hb⟩ := h.und
  rw [hk] at hb
  cases d <;> simp only [kindB, Bool.false_eq_true, beq_iff_eq, Bool.and_eq_true] at hb
  rw [hd, hb.1, hb.2]
theorem TIok.int (h : TIok P t ti) {k : IntKind} (hk : ti.k = .int k) : P.underlying t = some (.int k) := by
  obtain ⟨d, hd, hb⟩ := h.und
  rw [hk] at hb
  cases d <;> simp only [kindB, Bool.false_eq_true, beq_iff_eq] at hb
  rw [hd, hb]
theorem TIok.string (h : TIok P t ti) (hk : ti.k = .string) : P.underlying t = some .string := by
  obtain ⟨d, hd, hb⟩ := h.und
  rw [hk] at hb
  cases d <;> simp only [kindB, Bool.false_eq_true] at hb
  rw [hd]
theorem TIok.notIface (h : TIok P t ti) (hk : ti.k ≠ .iface) : ∃ d, P.underlying t = some d ∧ ∀ ms, d ≠ .interface ms := by
  obtain ⟨d, hd, hb⟩ := h.und
  refine ⟨d, hd, fun ms e => ?_⟩
  subst e
  cases hti : ti.k <;> rw [hti] at hb <;> first | exact hk hti | simp [kindB] at hb
end

/-- What is known of the tables. -/
structure SOk (S : Sg) : Prop where
  mixed : S.P.follows .mixedOrders = true
  T : ∀ t ti, S.en.T t = some ti → TIok S.P t ti
  cmp : ∀ t, (S.en.X (1000000 + t)).isSome = true → S.P.stoodInHeld t = false ∧ S.P.eqGuardType S.P.depth t = false ∧ ∀ f ∈ (S.P.fieldsOf t).toList, f.name ≠ "_"

section
variable {S : Sg}
theorem isAgg_eq (h : SOk S) {t : Nat} {b : Bool} {n : Nat} (e : Cv.isAgg S.en t = some (b, n)) : ∃ ti, S.en.T t = some ti ∧ aggK ti.k = b ∧ ti.size = n := by
  unfold Cv.isAgg at e
  split at e
  · rename_i fs n' a c hT; cases e; exact ⟨_, hT, rfl, rfl⟩
  · rename_i k' e' n' a c hT; cases e; exact ⟨_, hT, rfl, rfl⟩
  · rename_i k n' a' z' c hx hT
    cases e
    refine ⟨_, hT, ?_, rfl⟩
    cases k <;> first | rfl | exact (c _ rfl).elim | exact (hx _ _ rfl).elim
  · cases e
theorem sizeT_eq {t n : Nat} (e : sizeT S.en t = some n) : ∃ ti, S.en.T t = some ti ∧ ti.size = n := by
  unfold sizeT at e
  split at e
  · rename_i ti hT; cases e; exact ⟨ti, hT, rfl⟩
  · cases e

/-- Constants. -/
theorem ofC0_rel {ι : Ip} (v : Value) : VR ι (ofC0 v) v := by
  unfold ofC0
  split
  · exact .b _
  · exact .i _ _
  · rename_i s
    have := strOf_ofBytes s
    have h := VR.s (ι := ι) (ofBytes_lt s)
    rw [this] at h
    exact h
  · exact .np
  · exact .ns
  · exact .nm
  · exact .nf
  · exact .ni
  · exact .bot _
theorem ofC_rel {ι : Ip} (v : Value) : VR ι (ofC v) v := by
  have key : ∀ l : List Value, VRL ι (l.map ofC0) l := fun l => by
    induction l with
    | nil => exact .nil
    | cons x l ih => exact .cons (ofC0_rel x) ih
  unfold ofC
  split
  · rename_i cs; exact .agg' (key cs.toList)
  · rename_i cs; exact .tup' (key cs.toList)
  · exact ofC0_rel v

/-- Variables of the program. -/
def GR (S : Sg) (ι : Ip) : Prop := ∀ g r, S.en.G g = some r → ∃ en, ι r 0 = some ⟨g, 0, en⟩
theorem GR.mono {ι ι' : Ip} (x : Ex ι ι') (h : GR S ι) : GR S ι' := fun g r e => let ⟨en, h⟩ := h g r e; ⟨en, x _ _ _ h⟩

theorem ev_rel {ι : Ip} {fr : Tr CV} {a : Act} (hg : GR S ι) (h : FR ι fr a.tmps) (x : Operand) : VR ι (ev S.en fr x) (a.eval x) := by
  cases x with
  | tmp t => exact h.getT t
  | const v => exact ofC_rel v
  | global g =>
    simp only [ev, Act.eval]
    split
    · rename_i r e
      obtain ⟨en, hr⟩ := hg g r e
      exact .p hr (Nat.zero_le _)
    · exact .bot _
  | func f => exact .f rfl (by simp) rfl (by simp)
theorem evL_rel {ι : Ip} {fr : Tr CV} {a : Act} (hg : GR S ι) (h : FR ι fr a.tmps) : ∀ xs : List Operand, VRL ι (xs.map (ev S.en fr)) (xs.map a.eval)
  | [] => .nil
  | x :: xs => .cons (ev_rel hg h x) (evL_rel hg h xs)

/-! ### cells -/
theorem cellAt_inv {tr : Tr CW} {g i : Nat} {v : CV} (h : cellAt tr g i = some v) : ∃ c, tr.get i = some c ∧ c.w ≤ g ∧ c.v = v := by
  unfold cellAt at h
  split at h
  · rename_i c hc
    cases hb : Nat.ble c.w g
    · rw [hb] at h; cases h
    · rw [hb] at h; cases h; exact ⟨c, hc, Nat.le_of_ble_eq_true hb, rfl⟩
  · cases h
theorem cellsAt_inv {tr : Tr CW} {g : Nat} : ∀ (n i : Nat) (l : List CV), cellsAt tr g n i = some l → l.length = n ∧ ∀ j v, l[j]? = some v → cellAt tr g (i + j) = some v
  | 0, i, l, h => by cases h; simp
  | n + 1, i, l, h => by
    have h : (match cellAt tr g i with | none => none | some v => match cellsAt tr g n (i + 1) with | none => none | some vs => some (v :: vs)) = some l := h
    split at h
    · cases h
    · rename_i v hv
      split at h
      · cases h
      · rename_i vs hvs
        cases h
        obtain ⟨h1, h2⟩ := cellsAt_inv n (i + 1) vs hvs
        refine ⟨by simp [h1], fun j y hu => ?_⟩
        cases j with
        | zero => simp at hu; subst hu; exact hv
        | succ j => have := h2 j y (by simpa using hu); rw [show i + (j + 1) = i + 1 + j by omega]; exact this

theorem OR.cell {ι : Ip} {w : World} {L : Loc} {g ty n G fz : Nat} {tr : Tr CW} {ro mk : Bool} (h : OR S ι w L g (.c ty tr n G fz ro mk)) {i : Nat} {v : CV} (hl : L.lo ≤ i) (e : cellAt tr g i = some v) :
    ∃ u, w.cell? ⟨L.blk, i - L.lo, none⟩ = some u ∧ VR ι v u ∧ u.oneCell' = true := by
  obtain ⟨_, arr, fz', h1, _, h3, _⟩ := h
  obtain ⟨c, hc, hw, rfl⟩ := cellAt_inv e
  obtain ⟨u, hu, hr⟩ := (h3 i c hc).2.2.2 hw hl
  exact ⟨u, by simp [World.cell?, h1, hu], hr⟩
theorem OR.cells {ι : Ip} {w : World} {L : Loc} {g ty n G fz : Nat} {tr : Tr CW} {ro mk : Bool} (h : OR S ι w L g (.c ty tr n G fz ro mk)) {i k : Nat} {l : List CV} (hl : L.lo ≤ i) (e : cellsAt tr g k i = some l) :
    ∃ us, us.length = k ∧ VRL ι l us ∧ (∀ u ∈ us, u.oneCell' = true) ∧ ∀ (j : Nat) (u : Value), us[j]? = some u → w.cell? ⟨L.blk, i - L.lo + j, none⟩ = some u := by
  obtain ⟨h1, h2⟩ := cellsAt_inv k i l e
  have key : ∀ (l : List CV) (i : Nat), L.lo ≤ i → (∀ (j : Nat) (v : CV), l[j]? = some v → cellAt tr g (i + j) = some v) → ∃ us, us.length = l.length ∧ VRL ι l us ∧ (∀ u ∈ us, u.oneCell' = true) ∧ ∀ (j : Nat) (u : Value), us[j]? = some u → w.cell? ⟨L.blk, i - L.lo + j, none⟩ = some u := by
    intro l
    induction l with
    | nil => intro i _ _; exact ⟨[], rfl, .nil, by simp, by simp⟩
    | cons x l ih =>
      intro i hi hx
      obtain ⟨u, q1, q2, q3⟩ := h.cell hi (hx 0 x rfl)
      obtain ⟨us, p1, p2, p3, p4⟩ := ih (i + 1) (by omega) (fun j v hj => by rw [show i + 1 + j = i + (j + 1) by omega]; exact hx (j + 1) v (by simpa using hj))
      refine ⟨u :: us, by simp [p1], .cons q2 p2, by simpa using ⟨q3, p3⟩, fun j v hj => ?_⟩
      cases j with
      | zero => simp at hj; subst hj; exact q1
      | succ j => rw [show i - L.lo + (j + 1) = i + 1 - L.lo + j by omega]; exact p4 j v (by simpa using hj)
  obtain ⟨us, p1, p2⟩ := key l i hl h2
  exact ⟨us, by rw [p1, h1], p2⟩
end

theorem add_off' (b o n : Nat) : (⟨b, o, none⟩ : Addr).add n = ⟨b, o + n, none⟩ := by unfold Addr.add; split <;> simp_all

/-- Cells that are read. -/
theorem run_cells {P : Program} {w : World} {b o : Nat} {us : List Value} (h : ∀ (j : Nat) (u : Value), us[j]? = some u → w.cell? ⟨b, o + j, none⟩ = some u) : (loadCells ⟨b, o, none⟩ us.length).run P w = .ok ⟨us⟩ w := by
  have := run_loadCells_list (P := P) (w := w) ⟨b, o, none⟩ us (fun j u hj => by rw [add_off']; exact h j u hj)
  simpa using this

end Go.Cv
/- Operations that leave the heap alone do what the evaluator says. -/
namespace Go.Cv
open Go Go.RowKit

/-! ### integers -/
theorem maxK_in {k : IntKind} {n : Nat} (h : n ≤ maxK k) : k.wrap (n : Int) = n := by
  unfold IntKind.wrap
  cases k <;> simp [maxK] at h <;> simp [IntKind.bits, IntKind.signed] <;> omega
theorem addI_eq (k : IntKind) (x y : Int) : addI k x y = k.wrap (x + y) := by
  unfold addI
  split
  · rename_i a c
    cases h : Nat.ble (Nat.add a c) (maxK k)
    · rfl
    · exact (maxK_in (Nat.le_of_ble_eq_true h)).symm
  · rfl
theorem subI_eq (k : IntKind) (x y : Int) : subI k x y = k.wrap (x - y) := by
  unfold subI
  split
  · rename_i a c
    cases h : Nat.ble c a && Nat.ble a (maxK k)
    · rfl
    · simp only [Bool.and_eq_true] at h
      have h1 := Nat.le_of_ble_eq_true h.1
      have h2 := Nat.le_of_ble_eq_true h.2
      have : k.wrap ((a - c : Nat) : Int) = ((a - c : Nat) : Int) := maxK_in (by omega)
      show ((a - c : Nat) : Int) = k.wrap ((a : Int) - (c : Int))
      rw [← this]; congr 1; omega
  · rfl
theorem mulI_eq (k : IntKind) (x y : Int) : mulI k x y = k.wrap (x * y) := by
  unfold mulI
  split
  · rename_i a c
    cases h : Nat.ble (Nat.mul a c) (maxK k)
    · rfl
    · exact (maxK_in (Nat.le_of_ble_eq_true h)).symm
  · rfl
theorem cvI_eq (k : IntKind) (x : Int) : cvI k x = k.wrap x := by
  unfold cvI
  split
  · rename_i a
    cases h : Nat.ble a (maxK k)
    · rfl
    · exact (maxK_in (Nat.le_of_ble_eq_true h)).symm
  · rfl
theorem beq_iff (a b : Nat) : Nat.beq a b = true ↔ a = b := ⟨Nat.eq_of_beq_eq_true, fun e => e ▸ Nat.beq_refl a⟩
theorem ble_iff (a b : Nat) : Nat.ble a b = true ↔ a ≤ b := ⟨Nat.le_of_ble_eq_true, Nat.ble_eq_true_of_le⟩
theorem eqI_eq (x y : Int) : eqI x y = (x == y) := by
  rw [Bool.eq_iff_iff, beq_iff_eq]
  cases x <;> cases y <;> simp [eqI] <;> omega
theorem leI_eq (x y : Int) : leI x y = decide (x ≤ y) := by
  rw [Bool.eq_iff_iff, decide_eq_true_eq]
  cases x <;> cases y <;> simp only [leI, ble_iff, Int.ofNat_eq_natCast, Bool.false_eq_true, true_iff, false_iff] <;> omega
theorem eqK_iff {a c : IntKind} : eqK a c = true ↔ a = c := by
  cases a <;> cases c <;> simp [eqK, kNum]
theorem isZ_iff (x : Int) : isZ x = true ↔ x = 0 := by
  cases x with
  | ofNat a => simp [isZ]
  | negSucc a => simp [isZ]
theorem isNeg_iff (x : Int) : isNeg x = true ↔ x < 0 := by
  cases x with
  | ofNat a => simp [isNeg]
  | negSucc a => simp [isNeg]

section
variable {P : Program} {w : World} {ι : Ip}
theorem divOp_ok {op : BinOp} {k : IntKind} {x y : Int} {v : CV} (h : divOp op k x y = some v) (t : TypeId) : ∃ n, v = .i k n ∧ (binOp op t (.int k x) (.int k y)).run P w = .ok (.int k n) w := by
  unfold divOp at h
  split at h
  · cases hz : isZ y <;> rw [hz] at h <;> cases h
    have : y ≠ 0 := fun e => by rw [(isZ_iff y).2 e] at hz; cases hz
    exact ⟨_, rfl, by simp [binOp, Op.intDiv, this]⟩
  · cases hz : isZ y <;> rw [hz] at h <;> cases h
    have : y ≠ 0 := fun e => by rw [(isZ_iff y).2 e] at hz; cases hz
    exact ⟨_, rfl, by simp [binOp, Op.intDiv, this]⟩
  · cases h; exact ⟨_, rfl, by simp [binOp, Op.intBits]⟩
  · cases h; exact ⟨_, rfl, by simp [binOp, Op.intBits]⟩
  · cases h; exact ⟨_, rfl, by simp [binOp, Op.intBits]⟩
  · cases h; exact ⟨_, rfl, by simp [binOp, Op.intBits]⟩
  · cases h
theorem intOp_ok {op : BinOp} {k : IntKind} {x y : Int} {v : CV} (h : intOp op k x y = some v) (t : TypeId) : ∃ u, (binOp op t (.int k x) (.int k y)).run P w = .ok u w ∧ VR ι v u := by
  unfold intOp at h
  split at h <;> first | (cases h; done) | skip
  · cases h; exact ⟨.int k (k.wrap (x + y)), by simp [binOp, Op.intArith], by rw [addI_eq]; exact .i _ _⟩
  · cases h; exact ⟨.int k (k.wrap (x - y)), by simp [binOp, Op.intArith], by rw [subI_eq]; exact .i _ _⟩
  · cases h; exact ⟨.int k (k.wrap (x * y)), by simp [binOp, Op.intArith], by rw [mulI_eq]; exact .i _ _⟩
  · cases h; exact ⟨.bool (x == y), by simp [binOp, Op.intCmp], by rw [eqI_eq]; exact .b _⟩
  · cases h; exact ⟨.bool (x != y), by simp [binOp, Op.intCmp], by rw [eqI_eq]; exact .b _⟩
  · cases h; exact ⟨.bool (decide (x < y)), by simp [binOp, Op.intCmp], by rw [leI_eq, show (!decide (y ≤ x)) = decide (x < y) by rw [Bool.eq_iff_iff]; simp]; exact .b _⟩
  · cases h; exact ⟨.bool (decide (x ≤ y)), by simp [binOp, Op.intCmp], by rw [leI_eq]; exact .b _⟩
  · cases h; exact ⟨.bool (decide (x > y)), by simp [binOp, Op.intCmp], by rw [leI_eq, show (!decide (x ≤ y)) = decide (x > y) by rw [Bool.eq_iff_iff]; simp]; exact .b _⟩
  · cases h; exact ⟨.bool (decide (x ≥ y)), by simp [binOp, Op.intCmp], by rw [leI_eq]; exact .b _⟩
  · obtain ⟨n, rfl, hr⟩ := divOp_ok (P := P) (w := w) h t
    exact ⟨_, hr, .i _ _⟩
theorem shOp_ok {op : BinOp} {k k' : IntKind} {x y : Int} {v : CV} (h : shOp op k x y = some v) (t : TypeId) : ∃ u, (binOp op t (.int k x) (.int k' y)).run P w = .ok u w ∧ VR ι v u := by
  unfold shOp at h
  cases hn : isNeg y <;> rw [hn] at h <;> simp only [cond_true, cond_false] at h
  · have : ¬ y < 0 := fun e => by rw [(isNeg_iff y).2 e] at hn; cases hn
    split at h <;> cases h
    · exact ⟨.int k (k.wrap (x * 2 ^ (min y.toNat k.bits))), by simp [binOp, Op.shift, this], .i _ _⟩
    · exact ⟨.int k (x.fdiv (2 ^ (min y.toNat k.bits))), by simp [binOp, Op.shift, this], .i _ _⟩
  · cases h
theorem binI_ok {op : BinOp} {k : IntKind} {a : Int} {y v : CV} {uy : Value} (h : binI op k a y = some v) (hy : VR ι y uy) (t : TypeId) : ∃ u, (binOp op t (.int k a) uy).run P w = .ok u w ∧ VR ι v u ∧ ∃ k' c, uy = .int k' c := by
  unfold binI at h
  split at h
  · rename_i k' c
    rw [hy.i_inv]
    split at h
    · obtain ⟨u, h1, h2⟩ := shOp_ok (P := P) (w := w) (k' := k') (ι := ι) h t; exact ⟨u, h1, h2, _, _, rfl⟩
    · obtain ⟨u, h1, h2⟩ := shOp_ok (P := P) (w := w) (k' := k') (ι := ι) h t; exact ⟨u, h1, h2, _, _, rfl⟩
    · unfold intX at h
      cases hk : eqK k k' <;> rw [hk] at h
      · cases h
      · obtain rfl := eqK_iff.1 hk
        obtain ⟨u, h1, h2⟩ := intOp_ok (P := P) (w := w) (ι := ι) h t; exact ⟨u, h1, h2, _, _, rfl⟩
  · cases h

/-! ### strings -/
theorem toList_eq (s : ByteArray) : s.toList = s.data.toList := by
  exact Lib.toList_data s
theorem strOf_beq {l n l' n' : Nat} (h : n < 256 ^ l) (h' : n' < 256 ^ l') : ((strOf l n).toList == (strOf l' n').toList) = eqS l n l' n' := by
  rw [toList_eq, toList_eq, strOf_list, strOf_list, Bool.eq_iff_iff, beq_iff_eq]
  unfold eqS
  simp only [Bool.and_eq_true, beq_iff]
  exact ⟨dig_inj h h', fun e => by rw [e.1, e.2]⟩
theorem cat_lt {l n l' n' : Nat} (h : n < 256 ^ l) (h' : n' < 256 ^ l') : n + n' * 256 ^ l < 256 ^ (l + l') := by
  rw [Nat.pow_add, Nat.mul_comm (256 ^ l)]
  have : n' + 1 ≤ 256 ^ l' := h'
  calc n + n' * 256 ^ l < 256 ^ l + n' * 256 ^ l := by omega
    _ = (n' + 1) * 256 ^ l := by rw [Nat.add_mul]; omega
    _ ≤ 256 ^ l' * 256 ^ l := Nat.mul_le_mul_right _ this
theorem binS_ok {op : BinOp} {l n : Nat} {y v : CV} {uy : Value} (h : binS op l n y = some v) (hn : n < 256 ^ l) (hy : VR ι y uy) (t : TypeId) : ∃ u, (binOp op t (.string (strOf l n)) uy).run P w = .ok u w ∧ VR ι v u ∧ ∃ s, uy = .string s := by
  unfold binS at h
  split at h
  · rename_i l' n'
    obtain ⟨rfl, hn'⟩ := hy.s_inv
    split at h
    · cases hb : Nat.ble (Nat.add l l') 1000000000 <;> rw [hb] at h <;> cases h
      have hle := (ble_iff _ _).1 hb
      refine ⟨.string (strOf l n ++ strOf l' n'), ?_, ?_, _, rfl⟩
      · have hmax : IntKind.i64.max = 9223372036854775807 := by decide
        have : ¬ (((strOf l n).size + (strOf l' n').size : Nat) : Int) > IntKind.i64.max := by
          rw [strOf_size, strOf_size, hmax]
          have : l + l' ≤ 1000000000 := hle
          omega
        simp only [binOp, Op.stringOp, if_neg this]; rfl
      · rw [strOf_app hn]
        exact .s (cat_lt hn hn')
    · cases h
      refine ⟨.bool (eqS l n l' n'), ?_, .b _, _, rfl⟩
      simp only [binOp, Op.stringOp, strOf_beq hn hn']; rfl
    · cases h
      refine ⟨.bool (!eqS l n l' n'), ?_, .b _, _, rfl⟩
      simp only [binOp, Op.stringOp, strOf_beq hn hn']; rfl
    · cases h
  · cases h
end

/-! ### parts, loads -/
section
variable {S : Sg} {ι : Ip} {hp : Tr CO} {w : World} {fr : Tr CV} {a : Act}
/-- What is on the heap can be read. -/
def Rd (S : Sg) (ι : Ip) (hp : Tr CO) (w : World) : Prop := ∀ r g L, ι r g = some L → ∃ o, hp.get r = some o ∧ OR S ι w L g o
theorem HR.rd {base : Nat} {w0 : World} {U : Nat → Option CO} {nx : Nat} (h : HR S base w0 U ι hp nx w) : Rd S ι hp w := fun r g L e => let ⟨o, a, b, _⟩ := h.obj r g L e; ⟨o, a, b⟩
theorem Rd.of (h : Rd S ι hp w) {r g : Nat} {L : Loc} {o : CO} (e : ι r g = some L) (ho : hp.get r = some o) : OR S ι w L g o := by
  obtain ⟨o', a, b⟩ := h r g L e
  rw [a] at ho; cases ho; exact b

theorem partC_ok (hS : SOk S) {t off : Nat} {cs : List CV} {us : List Value} {v : CV} (h : partC S.en t cs off = some v) (hl : VRL ι cs us) : ∃ u, (part t ⟨us⟩ off).run S.P w = .ok u w ∧ VR ι v u := by
  unfold partC at h
  split at h
  · rename_i n e
    obtain ⟨ti, hT, hk, rfl⟩ := isAgg_eq hS e
    have hti := hS.T t ti hT
    cases hb : Nat.ble (Nat.add off ti.size) (len cs) <;> rw [hb] at h <;> cases h
    refine ⟨.agg ⟨(us.drop off).take ti.size⟩, ?_, ?_⟩
    · simp only [part, Sem.run_bind, hti.isAgg w, Result.andThen_ok, hk, if_true, hti.sizeOf w, Sem.run_pure]
      congr 2
      apply Array.ext'
      simp
    · rw [takeN_eq, dropN_eq]
      exact .agg' ((hl.drop off).take _)
  · rename_i n e
    obtain ⟨ti, hT, hk, rfl⟩ := isAgg_eq hS e
    have hti := hS.T t ti hT
    rw [nth_eq] at h
    obtain ⟨u, hu, hr⟩ := hl.get h
    exact ⟨u, by simp [part, hti.isAgg w, hk, hu], hr⟩
  · cases h

theorem loadC_ok (hS : SOk S) {t ty n G fz g off : Nat} {tr : Tr CW} {ro mk : Bool} {L : Loc} {v : CV} (h : loadC S.en t tr g off = some v) (ho : OR S ι w L g (.c ty tr n G fz ro mk)) (hl : L.lo ≤ off) :
    ∃ u, (loadVar t ⟨L.blk, off - L.lo, none⟩).run S.P w = .ok u w ∧ VR ι v u := by
  unfold loadC at h
  split at h
  · rename_i n' e
    obtain ⟨ti, hT, hk, rfl⟩ := isAgg_eq hS e
    have hti := hS.T t ti hT
    split at h
    · rename_i l hc
      cases h
      obtain ⟨us, h1, h2, _, h4⟩ := ho.cells hl hc
      refine ⟨.agg ⟨us⟩, ?_, .agg' h2⟩
      have hrun := run_cells (P := S.P) h4
      rw [h1] at hrun
      simp [loadVar, hti.isAgg w, hk, hti.sizeOf w, hrun]
    · cases h
  · rename_i n' e
    obtain ⟨ti, hT, hk, rfl⟩ := isAgg_eq hS e
    have hti := hS.T t ti hT
    obtain ⟨u, h1, h2, _⟩ := ho.cell hl h
    exact ⟨u, by simp [loadVar, hti.isAgg w, hk, h1], h2⟩
  · cases h
theorem loadP_ok (hS : SOk S) (hR : Rd S ι hp w) {t r g off : Nat} {v : CV} {L : Loc} (h : loadP S.en t hp r g off = some v) (hi : ι r g = some L) (hl : L.lo ≤ off) :
    ∃ u, (loadVar t ⟨L.blk, off - L.lo, none⟩).run S.P w = .ok u w ∧ VR ι v u := by
  unfold loadP at h
  split at h
  · rename_i ho; exact loadC_ok hS h (hR.of hi ho) hl
  · cases h
end

end Go.Cv
/- Operations that leave the heap alone, on. -/
namespace Go.Cv
open Go Go.RowKit
section
variable {S : Sg} {ι : Ip} {hp : Tr CO} {w : World} {fr : Tr CV} {a : Act}

theorem VR.np_inv {v : Value} (h : VR ι .np v) : v = .pointer none := by cases h; rfl
theorem VR.ns_inv {v : Value} (h : VR ι .ns v) : v = .slice none 0 0 := by cases h; rfl
theorem VR.nm_inv {v : Value} (h : VR ι .nm v) : v = .map none := by cases h; rfl
theorem VR.m_inv {r : Nat} {v : Value} (h : VR ι (.m r) v) : ∃ L, ι r 0 = some L ∧ v = .map (some L.blk) := by cases h with | m h => exact ⟨_, h, rfl⟩
theorem VR.sl_inv {r g off l sz cap : Nat} {v : Value} (h : VR ι (.sl r g off l sz cap) v) : ∃ L ad c, ι r g = some L ∧ L.lo ≤ off ∧ 0 < sz ∧ off + c * sz ≤ L.en ∧ (0 < c → ad = ⟨L.blk, off - L.lo, none⟩) ∧ l ≤ c ∧ (cap = 0 → c = (L.en - off) / sz) ∧ (∀ k, cap = k + 1 → c = k) ∧ v = .slice (some ad) l c := by
  cases h with | sl h hl hz hc ha hn h0 h1 => exact ⟨_, _, _, h, hl, hz, hc, ha, hn, h0, h1, rfl⟩

/-! ### equality -/
theorem eqT_ok (hS : SOk S) : ∀ (d m t : Nat) (x y : CV) (u v : Value) (b : Bool), d ≤ m → eqT S.en d t x y = some b → VR ι x u → VR ι y v → (Op.equalIn m t u v).run S.P w = .ok b w := by
  intro d
  induction d with
  | zero => intro m t x y u v b _ h; cases h
  | succ d ih =>
    intro m t x y u v b hm h hx hy
    obtain ⟨m, rfl⟩ : ∃ m', m = m' + 1 := ⟨m - 1, by omega⟩
    replace h : (match S.en.T t with | some ti => eqK2 S.en (eqT S.en d) t ti.k x y | none => none) = some b := h
    split at h
    · rename_i ti hT
      have hti := hS.T t ti hT
      unfold eqK2 at h
      split at h
      · rename_i hk
        obtain ⟨dd, hd, hb⟩ := hti.und
        rw [hk] at hb
        cases dd <;> simp only [kindB, Bool.false_eq_true] at hb
        unfold eqBool at h
        split at h <;> cases h
        rename_i s t'
        rw [hx.b_inv, hy.b_inv]
        simp only [Op.equalIn, Sem.run_bind, run_und hd, Result.andThen_ok, Sem.run_pure]
        cases s <;> cases t' <;> rfl
      · rename_i k hk
        unfold eqInt at h
        split at h
        · rename_i j a k' c
          cases hj : eqK j k' <;> rw [hj] at h <;> cases h
          obtain rfl := eqK_iff.1 hj
          rw [hx.i_inv, hy.i_inv]
          simp [Op.equalIn, run_und (hti.int hk), eqI_eq]
        · cases h
      · rename_i hk
        unfold eqStr at h
        split at h
        · rename_i l n l' n'
          cases h
          obtain ⟨rfl, h1⟩ := hx.s_inv
          obtain ⟨rfl, h2⟩ := hy.s_inv
          have hb := strOf_beq h1 h2
          have hb2 : (strOf l n == strOf l' n') = eqS l n l' n' := by rw [beq_toListBytes]; exact hb
          simp [Op.equalIn, run_und (hti.string hk), hb2]
        · cases h
      · rename_i e hk
        obtain ⟨dd, hd, hb⟩ := hti.und
        rw [hk] at hb
        cases dd <;> simp only [kindB, Bool.false_eq_true, beq_iff_eq] at hb
        subst hb
        split at h
        · rename_i sz he
          obtain ⟨te, hTe, hsz⟩ := sizeT_eq he
          have hsize := (hS.T e te hTe).sizeOf w
          unfold eqPtr at h
          split at h
          · split at h <;> cases h
            · rw [hx.np_inv, hy.np_inv]; simp [Op.equalIn, run_und hd]
            · obtain ⟨L, _, _, rfl⟩ := hy.p_inv
              rw [hx.np_inv]; simp [Op.equalIn, run_und hd]
          · split at h
            · cases h
              obtain ⟨L, _, _, rfl⟩ := hx.p_inv
              rw [hy.np_inv]; simp [Op.equalIn, run_und hd]
            · rename_i _ r g o _ r' g' o'
              cases hb : Nat.beq r r' && Nat.beq g g' <;> rw [hb] at h <;> cases h
              simp only [Bool.and_eq_true, beq_iff] at hb
              obtain ⟨rfl, rfl⟩ := hb
              obtain ⟨L, hL, hlo, rfl⟩ := hx.p_inv
              obtain ⟨L', hL', hlo', rfl⟩ := hy.p_inv
              rw [hL] at hL'; cases hL'
              have hbe : Nat.beq o o' = ((⟨L.blk, o - L.lo, none⟩ : Addr) == ⟨L.blk, o' - L.lo, none⟩) := by
                rw [Bool.eq_iff_iff, beq_iff, beq_iff_eq, Addr.mk.injEq]
                constructor
                · intro e; subst e; simp
                · rintro ⟨_, e, _⟩; omega
              simp [Op.equalIn, run_und hd, hsize, hsz, sameAddr, hbe]
            · cases h
          · cases h
        · cases h
      · rename_i e hk
        have hd := hti.slice hk
        unfold eqSl at h
        split at h
        · split at h <;> cases h
          · rw [hx.ns_inv, hy.ns_inv]; simp [Op.equalIn, run_und hd]
          · obtain ⟨_, _, _, _, _, _, _, _, _, _, _, rfl⟩ := hy.sl_inv
            rw [hx.ns_inv]; simp [Op.equalIn, run_und hd]
        · split at h <;> cases h
          obtain ⟨_, _, _, _, _, _, _, _, _, _, _, rfl⟩ := hx.sl_inv
          rw [hy.ns_inv]; simp [Op.equalIn, run_und hd]
        · cases h
      · rename_i k e hk
        have hd := hti.map hk
        unfold eqMp at h
        split at h
        · split at h <;> cases h
          · rw [hx.nm_inv, hy.nm_inv]; simp [Op.equalIn, run_und hd]
          · obtain ⟨_, _, rfl⟩ := hy.m_inv
            rw [hx.nm_inv]; simp [Op.equalIn, run_und hd]
        · split at h <;> cases h
          obtain ⟨_, _, rfl⟩ := hx.m_inv
          rw [hy.nm_inv]; simp [Op.equalIn, run_und hd]
        · cases h
      · rename_i hk
        obtain ⟨dd, hd, hb⟩ := hti.und
        rw [hk] at hb
        cases dd <;> simp only [kindB, Bool.false_eq_true] at hb
        unfold eqFn at h
        split at h
        · split at h <;> cases h
          · cases hx; cases hy; simp [Op.equalIn, run_und hd]
          · obtain ⟨_, _, rfl, _⟩ := hy.f_inv
            cases hx; simp [Op.equalIn, run_und hd]
        · split at h <;> cases h
          obtain ⟨_, _, rfl, _⟩ := hx.f_inv
          cases hy; simp [Op.equalIn, run_und hd]
        · cases h
      · rename_i hk
        obtain ⟨dd, hd, hb⟩ := hti.und
        rw [hk] at hb
        cases dd <;> simp only [kindB, Bool.false_eq_true] at hb
        unfold eqIf at h
        split at h
        · split at h <;> cases h
          · cases hx; cases hy; simp [Op.equalIn, run_und hd]
          · cases hx; cases hy; simp [Op.equalIn, run_und hd]
        · split at h <;> cases h
          cases hx; cases hy; simp [Op.equalIn, run_und hd]
        · cases h
      · rename_i fs hk
        unfold eqSt at h
        split at h
        · rename_i xs ys
          split at h
          · rename_i c hc
            obtain ⟨us, rfl, hxs⟩ := hx.agg_inv
            obtain ⟨vs, rfl, hys⟩ := hy.agg_inv
            obtain ⟨fields, hd, hfs, _⟩ := hti.struct hk
            have hX := hS.cmp t (by rw [show S.en.X (1000000 + t) = some c from hc]; rfl)
            have hfo : S.P.fieldsOf t = fields := by simp [Program.fieldsOf, hd]
            have hnm := hX.2.2
            rw [run_equalIn_struct w m t ⟨us⟩ ⟨vs⟩ (by rw [hfo]; exact hd) hX.1]
            rw [hfo] at hnm ⊢
            rw [← hfs] at h
            clear hd hfs hfo hx hy
            generalize fields.toList = fl at h hnm
            induction fl generalizing b with
            | nil =>
              have h : some true = some b := h
              cases h; rfl
            | cons f fl ihf =>
              have h : (match partC S.en f.type xs f.offset, partC S.en f.type ys f.offset with
                | some a, some c => match eqT S.en d f.type a c with
                  | some true => eqFs S.en (eqT S.en d) xs ys (fl.map fun f => (f.offset, f.type))
                  | some false => some false
                  | none => none
                | _, _ => none) = some b := h
              have hn : f.name ≠ "_" := hnm f (List.mem_cons_self ..)
              split at h
              · rename_i p q hp hq
                obtain ⟨pu, r1, k1⟩ := partC_ok hS (w := w) hp hxs
                obtain ⟨qu, r2, k2⟩ := partC_ok hS (w := w) hq hys
                split at h
                · rename_i he
                  have r3 := ih m f.type p q pu qu true (by omega) he k1 k2
                  simp only [Op.eqFields, ne_eq, hn, not_false_eq_true, if_true, Sem.run_bind, r1, r2, r3, Result.andThen_ok]
                  simpa using ihf b h (fun g hg => hnm g (List.mem_cons_of_mem _ hg))
                · rename_i he
                  have r3 := ih m f.type p q pu qu false (by omega) he k1 k2
                  cases h
                  simp only [Op.eqFields, ne_eq, hn, not_false_eq_true, if_true, Sem.run_bind, r1, r2, r3, Result.andThen_ok]
                  simp
                · cases h
              · cases h
          · cases h
        · cases h
      · cases h
    · cases h
end
end Go.Cv
/- Operations that leave the heap alone: each of them. -/
namespace Go.Cv
open Go Go.RowKit
section
variable {S : Sg} {ι : Ip} {hp : Tr CO} {w : World} {fr : Tr CV} {a : Act}

/-- What an operation is to give. -/
def Gives (S : Sg) (ι : Ip) (w : World) (a : Act) (o : Oper) (v : CV) : Prop := ∃ u, (execOp a.eval o).run S.P w = .ok (.value u) w ∧ VR ι v u

theorem Gives.of {o : Oper} {v : CV} {s : Sem Value} (h : ∃ u, s.run S.P w = .ok u w ∧ VR ι v u) (e : execOp a.eval o = (do pure (.value (← s)))) : Gives S ι w a o v := by
  obtain ⟨u, h1, h2⟩ := h
  exact ⟨u, by rw [e]; simp [h1], h2⟩

theorem natC_inv {x : CV} {n : Nat} (h : natC x = some n) : ∃ k, x = .i k (n : Int) := by
  unfold natC at h
  split at h
  · rename_i k i
    cases i with
    | ofNat m => cases h; exact ⟨k, rfl⟩
    | negSucc m => cases h
  · cases h
theorem natC_rel {x : CV} {n : Nat} {v : Value} (h : natC x = some n) (hr : VR ι x v) : ∃ k, v = .int k (n : Int) := by
  obtain ⟨k, rfl⟩ := natC_inv h
  exact ⟨k, hr.i_inv⟩

theorem eqT_k {en : En} {d t : Nat} {x y : CV} {b : Bool} (h : eqT en (d + 1) t x y = some b) : ∃ ti, en.T t = some ti ∧ eqK2 en (eqT en d) t ti.k x y = some b := by
  replace h : (match en.T t with | some ti => eqK2 en (eqT en d) t ti.k x y | none => none) = some b := h
  split at h
  · rename_i ti hT; exact ⟨ti, hT, h⟩
  · cases h
theorem eqT_bot {en : En} {d t : Nat} {y : CV} {b : Bool} (h : eqT en (d + 1) t .bot y = some b) : False := by
  obtain ⟨ti, _, h⟩ := eqT_k h
  unfold eqK2 at h
  split at h <;> first | (cases h; done) | skip
  split at h <;> cases h
theorem eqT_ni_bot {en : En} {d t : Nat} {b : Bool} (h : eqT en (d + 1) t .ni .bot = some b) : False := by
  obtain ⟨ti, _, h⟩ := eqT_k h
  unfold eqK2 at h
  split at h <;> first | (cases h; done) | skip
  split at h <;> cases h
theorem eqT_agg {en : En} {d t : Nat} {xs : List CV} {y : CV} {b : Bool} (h : eqT en (d + 1) t (.agg xs) y = some b) : (∃ ys, y = .agg ys) ∧ (en.X (1000000 + t)).isSome = true := by
  obtain ⟨ti, _, h⟩ := eqT_k h
  unfold eqK2 at h
  split at h <;> first | (cases h; done) | skip
  · split at h <;> cases h
  · unfold eqSt at h
    split at h
    · rename_i xs' ys e1 h'
      split at h
      · rename_i c hc
        exact ⟨⟨_, rfl⟩, by rw [show en.X (1000000 + t) = some c from hc]; rfl⟩
      · cases h
    · cases h
theorem isConst_iff (X : Operand) : Region.isConst X = (match X with | .const _ => true | _ => false) := by cases X <;> rfl

theorem guard_ok (hS : SOk S) {op : BinOp} {t : Nat} {x y : CV} {X Y : Operand} {u v : Value} {b : Bool} (hg : guardOk (Region.isConst X || Region.isConst Y) x y = true) (hx : VR ι x u) (hy : VR ι y v) (he : eqT S.en 10 t x y = some b) :
    (eqGuard op t X Y u v).run S.P w = .ok () w := by
  unfold eqGuard
  have key : ∀ s : Sem Unit, s.run S.P w = .ok () w → ((if !(match op with | .eql => true | .neq => true | _ => false) then (pure () : Sem Unit) else s)).run S.P w = .ok () w := fun s hs => by
    split <;> first | rfl | exact hs | skip
    all_goals split <;> first | rfl | exact hs
  cases hx <;> first | (refine key _ ?_; rfl) | (exact (eqT_bot he).elim) | skip
  · cases hy <;> first | (refine key _ ?_; rfl) | (exact (eqT_ni_bot he).elim) | skip
    refine key _ ?_
    have hc : (Region.isConst X || Region.isConst Y) = true := hg
    rw [isConst_iff, isConst_iff, Bool.or_eq_true] at hc
    cases X <;> cases Y <;> first | rfl | simp at hc
  · rename_i xs us h1 h2
    obtain ⟨⟨ys, rfl⟩, hX⟩ := eqT_agg he
    obtain ⟨vs, rfl, _⟩ := hy.agg_inv
    refine key _ ?_
    have := (hS.cmp t hX).2.1
    simp [this]

theorem guard_plain {op : BinOp} {t : Nat} {X Y : Operand} {u v : Value} (h : (∀ x, u ≠ .agg x) ∧ u ≠ .nilIface) : (eqGuard op t X Y u v).run S.P w = .ok () w := by
  unfold eqGuard
  have key : ∀ s : Sem Unit, s.run S.P w = .ok () w → ((if !(match op with | .eql => true | .neq => true | _ => false) then (pure () : Sem Unit) else s)).run S.P w = .ok () w := fun s hs => by
    split <;> first | rfl | exact hs | skip
    all_goals split <;> first | rfl | exact hs
  refine key _ ?_
  split <;> first | rfl | (exact (h.2 rfl).elim) | (exact (h.1 _ rfl).elim)

def plainU : Value → Prop
  | .int _ _ | .float _ _ | .complex _ _ _ | .string _ => False
  | _ => True
theorem binOp_eql {t : Nat} {u v : Value} (h : plainU u) : binOp .eql t u v = (do pure (.bool (← Op.equal t u v))) := by
  cases u <;> first | rfl | exact h.elim
theorem binOp_neq {t : Nat} {u v : Value} (h : plainU u) : binOp .neq t u v = (do pure (.bool (!(← Op.equal t u v)))) := by
  cases u <;> first | rfl | exact h.elim

theorem g_bin (hS : SOk S) (hg : GR S ι) (hf : FR ι fr a.tmps) {o : Oper} {op : BinOp} {t yt : Nat} {X Y : Operand} {v : CV} (ho : o.op = .binOp op t X Y yt)
    (h : binC S.en (Region.isConst X || Region.isConst Y) op t (ev S.en fr X) (ev S.en fr Y) = some v) : Gives S ι w a o v := by
  have hx := ev_rel hg hf X
  have hy := ev_rel hg hf Y
  have he : execOp a.eval o = (do pure (.value (← (do eqGuard op t X Y (a.eval X) (a.eval Y); binOp op t (a.eval X) (a.eval Y))))) := by simp [execOp, ho]
  refine Gives.of ?_ he
  generalize ev S.en fr X = x at h hx
  generalize ev S.en fr Y = y at h hy
  unfold binC at h
  split at h
  · obtain ⟨u, h1, h2, k', c, hc⟩ := binI_ok (P := S.P) (w := w) h hy t
    have hu := hx.i_inv
    rw [hu] at *
    exact ⟨u, by simp [guard_plain (S := S) (w := w) (op := op) (t := t) (X := X) (Y := Y) (v := a.eval Y) (u := .int _ _) ⟨by simp, by simp⟩, h1], h2⟩
  · obtain ⟨hu, hn⟩ := hx.s_inv
    obtain ⟨u, h1, h2, s, hs⟩ := binS_ok (P := S.P) (w := w) h hn hy t
    rw [hu]
    exact ⟨u, by simp [guard_plain (S := S) (w := w) (op := op) (t := t) (X := X) (Y := Y) (v := a.eval Y) (u := .string _) ⟨by simp, by simp⟩, h1], h2⟩
  · rename_i hni hns
    cases hgd : guardOk (Region.isConst X || Region.isConst Y) x y <;> rw [hgd] at h <;> simp only [cond_true, cond_false] at h
    · cases h
    · have hpl : (∃ b, eqT S.en 10 t x y = some b) → plainU (a.eval X) := by
        rintro ⟨b, hb⟩
        generalize a.eval X = ux at hx
        cases hx <;> first | trivial | (exact (eqT_bot hb).elim) | exact (hni _ _ rfl).elim | exact (hns _ _ rfl).elim
      unfold binE at h
      split at h
      · split at h
        · rename_i b hb
          cases h
          have h1 := guard_ok hS (w := w) (op := .eql) hgd hx hy hb
          have h2 := eqT_ok hS (w := w) 10 10000 t x y _ _ b (by omega) hb hx hy
          refine ⟨.bool b, ?_, .b _⟩
          rw [binOp_eql (hpl ⟨b, hb⟩)]
          simp [h1, Op.equal, Op.maxDepth, h2]
        · cases h
      · split at h
        · rename_i b hb
          cases h
          have h1 := guard_ok hS (w := w) (op := .neq) hgd hx hy hb
          have h2 := eqT_ok hS (w := w) 10 10000 t x y _ _ b (by omega) hb hx hy
          refine ⟨.bool (!b), ?_, .b _⟩
          rw [binOp_neq (hpl ⟨b, hb⟩)]
          simp [h1, Op.equal, Op.maxDepth, h2]
        · cases h
      · cases h

theorem g_un (hg : GR S ι) (hf : FR ι fr a.tmps) {o : Oper} {op : UnOp} {t : Nat} {X : Operand} {v : CV} (ho : o.op = .unOp op t X) (h : unC op (ev S.en fr X) = some v) : Gives S ι w a o v := by
  have hx := ev_rel hg hf X
  generalize ev S.en fr X = x at h hx
  refine Gives.of (s := Op.unary op (a.eval X)) ?_ (by simp [execOp, ho])
  unfold unC at h
  split at h
  · unfold notC at h
    split at h <;> cases h
    rw [hx.b_inv]; exact ⟨_, rfl, .b _⟩
  · unfold negC at h
    split at h <;> cases h
    rw [hx.i_inv, subI_eq]; exact ⟨_, by simp [Op.unary, Op.intArith], .i _ _⟩
  · cases h

theorem g_pick (hg : GR S ι) (hf : FR ι fr a.tmps) {o : Oper} {C X Y : Operand} {v : CV} (ho : o.op = .pick C X Y) (h : fPick S.en C X Y fr = some v) : Gives S ι w a o v := by
  have hc := ev_rel hg hf C
  unfold fPick at h
  split at h
  · rename_i t e
    rw [e] at hc
    cases h
    have hcv := hc.b_inv
    refine ⟨if t then a.eval X else a.eval Y, by simp [execOp, ho, hcv, asBool], ?_⟩
    cases t
    · exact ev_rel hg hf Y
    · exact ev_rel hg hf X
  · cases h

theorem g_load (hS : SOk S) (hR : Rd S ι hp w) (hg : GR S ι) (hf : FR ι fr a.tmps) {o : Oper} {t : Nat} {X : Operand} {v : CV} (ho : o.op = .load t X) (h : fLoad S.en t X hp fr = some v) : Gives S ι w a o v := by
  have hx := ev_rel hg hf X
  unfold fLoad at h
  split at h
  · rename_i r g off e
    rw [e] at hx
    obtain ⟨L, hL, hlo, hv⟩ := hx.p_inv
    obtain ⟨u, h1, h2⟩ := loadP_ok hS hR h hL hlo
    exact Gives.of (s := Instr.loadAt t (a.eval X)) ⟨u, by simp [Instr.loadAt, hv, Instr.sureAddr, h1], h2⟩ (by simp [execOp, ho])
  · cases h

theorem fieldT_ok (hS : SOk S) {t f fo ft : Nat} (h : fieldT S.en t f = some (fo, ft)) : ∃ fields fd, S.P.underlying t = some (.struct fields) ∧ fields[f]? = some fd ∧ fd.offset = fo ∧ fd.type = ft := by
  unfold fieldT at h
  split at h
  · rename_i fs n b z hT
    obtain ⟨fields, hd, he, _⟩ := (hS.T t _ hT).struct rfl
    obtain ⟨fd, h1, h2, h3⟩ := fields_get he h
    exact ⟨fields, fd, hd, h1, h2, h3⟩
  · cases h
theorem g_fieldA (hS : SOk S) (hg : GR S ι) (hf : FR ι fr a.tmps) {o : Oper} {t f : Nat} {X : Operand} {v : CV} (ho : o.op = .fieldAddr t X f) (h : fFieldA S.en t X f fr = some v) : Gives S ι w a o v := by
  have hx := ev_rel hg hf X
  unfold fFieldA at h
  split at h
  · rename_i fo hfo
    unfold fieldO at hfo
    split at hfo
    · rename_i fo' ft hft
      split at hfo
      · rename_i m hm
        cases hfo
        obtain ⟨fields, fd, hd, h1, rfl, rfl⟩ := fieldT_ok hS hft
        obtain ⟨ti, hT, hsz⟩ := sizeT_eq hm
        have hsize := (hS.T _ ti hT).sizeOf w
        split at h
        · rename_i r g off e
          rw [e] at hx
          cases h
          obtain ⟨L, hL, hlo, hv⟩ := hx.p_inv
          refine Gives.of (s := Instr.fieldAt t (a.eval X) f) ⟨.pointer (some ⟨L.blk, off + fd.offset - L.lo, none⟩), ?_, .p hL (Nat.le_trans hlo (Nat.le_add_right _ _))⟩ (by simp [execOp, ho])
          have : off - L.lo + fd.offset = off + fd.offset - L.lo := by omega
          simp [Instr.fieldAt, run_und hd, h1, hv, Instr.sureAddr, fieldPlace, hsize, hsz, add_off', this]
        · cases h
      · cases hfo
    · cases hfo
  · cases h
theorem g_field (hS : SOk S) (hg : GR S ι) (hf : FR ι fr a.tmps) {o : Oper} {t f : Nat} {X : Operand} {v : CV} (ho : o.op = .field t X f) (h : fField S.en t X f fr = some v) : Gives S ι w a o v := by
  have hx := ev_rel hg hf X
  unfold fField at h
  split at h
  · rename_i fo ft hft
    obtain ⟨fields, fd, hd, h1, rfl, rfl⟩ := fieldT_ok hS hft
    split at h
    · rename_i cs e
      rw [e] at hx
      obtain ⟨us, hv, hl⟩ := hx.agg_inv
      obtain ⟨u, h2, h3⟩ := partC_ok hS (w := w) h hl
      exact Gives.of (s := Instr.field t (a.eval X) f) ⟨u, by simp [Instr.field, run_und hd, h1, hv, asAgg, h2], h3⟩ (by simp [execOp, ho])
    · cases h
  · cases h

theorem szOk_ok {e sz : Nat} (h : szOk S.en e sz = true) : ∃ te, S.en.T e = some te ∧ te.size = sz := by
  unfold szOk at h
  split at h
  · rename_i n hn
    obtain ⟨te, hT, hsz⟩ := sizeT_eq hn
    exact ⟨te, hT, by rw [hsz]; exact ((beq_iff _ _).1 h).symm⟩
  · cases h
theorem g_indexA (hS : SOk S) (hg : GR S ι) (hf : FR ι fr a.tmps) {o : Oper} {t : Nat} {X Y : Operand} {v : CV} (ho : o.op = .indexAddr t X Y) (h : fIndexA S.en t X Y fr = some v) : Gives S ι w a o v := by
  have hx := ev_rel hg hf X
  have hy := ev_rel hg hf Y
  unfold fIndexA at h
  split at h
  · cases h
  · rename_i i hi
    obtain ⟨k, hk⟩ := natC_rel hi hy
    refine Gives.of (s := Instr.indexAt t (a.eval X) (a.eval Y)) ?_ (by simp [execOp, ho])
    split at h
    · rename_i e n b z hT
      have hd := (hS.T t _ hT).slice rfl
      split at h
      · rename_i r g off l sz cap he
        rw [he] at hx
        cases hs : szOk S.en e sz <;> rw [hs] at h <;> simp only [cond_true, cond_false] at h
        · cases h
        obtain ⟨te, hTe, rfl⟩ := szOk_ok hs
        have hsize := (hS.T e te hTe).sizeOf w
        unfold ixSl at h
        cases hb : Nat.ble (Nat.succ i) l <;> rw [hb] at h <;> cases h
        have hlt : i < l := (ble_iff _ _).1 hb
        obtain ⟨L, ad, c, hL, hlo, hz, hen, had, hlc, _, _, hv⟩ := hx.sl_inv
        have hc : 0 < c := by omega
        have had := had hc
        subst had
        refine ⟨.pointer (some ⟨L.blk, off + i * te.size - L.lo, none⟩), ?_, .p hL (Nat.le_trans hlo (Nat.le_add_right _ _))⟩
        have e1 : off - L.lo + i * te.size = off + i * te.size - L.lo := by omega
        simp [Instr.indexAt, hk, hv, asIntOf, run_und hd, hlt, hsize, add_off', e1]
      · cases h
    · rename_i n e n' b z hT
      have hd := (hS.T t _ hT).array rfl
      split at h
      · rename_i r g off he
        rw [he] at hx
        unfold ixArr at h
        split at h
        · rename_i sz hsz
          obtain ⟨te, hTe, hsz'⟩ := sizeT_eq hsz
          have hsize := (hS.T e te hTe).sizeOf w
          cases hb : Nat.ble (Nat.succ i) n <;> rw [hb] at h <;> cases h
          have hlt : i < n := (ble_iff _ _).1 hb
          obtain ⟨L, hL, hlo, hv⟩ := hx.p_inv
          refine ⟨.pointer (some ⟨L.blk, off + i * (sz + 1) - L.lo, none⟩), ?_, .p hL (Nat.le_trans hlo (Nat.le_add_right _ _))⟩
          have e1 : off - L.lo + i * (sz + 1) = off + i * (sz + 1) - L.lo := by omega
          simp [Instr.indexAt, hk, hv, asIntOf, run_und hd, Instr.sureAddr, hlt, hsize, hsz', add_off', e1]
        · cases h
      · cases h
    · cases h

theorem g_index (hS : SOk S) (hg : GR S ι) (hf : FR ι fr a.tmps) {o : Oper} {t : Nat} {X Y : Operand} {v : CV} (ho : o.op = .index t X Y) (h : fIndex S.en t X Y fr = some v) : Gives S ι w a o v := by
  have hx := ev_rel hg hf X
  have hy := ev_rel hg hf Y
  unfold fIndex at h
  split at h
  · cases h
  · rename_i i hi
    obtain ⟨k, hk⟩ := natC_rel hi hy
    refine Gives.of (s := Instr.index t (a.eval X) (a.eval Y)) ?_ (by simp [execOp, ho])
    split at h
    · rename_i n b z hT
      have hd := (hS.T t _ hT).string rfl
      split at h
      · rename_i l m he
        rw [he] at hx
        obtain ⟨hv, hm⟩ := hx.s_inv
        unfold ixStr at h
        cases hb : Nat.ble (Nat.succ i) l <;> rw [hb] at h <;> cases h
        have hlt : i < l := (ble_iff _ _).1 hb
        have hdg := dig_get l m i hlt
        cases hd2 : (dig l m)[i]? with
        | none => rw [hd2] at hdg; cases hdg
        | some c =>
          rw [hd2] at hdg
          have hdg : c.toNat = byteS m i := by simpa using hdg
          have hget : (strOf l m)[i]? = some c := by
            have hi2 : i < (strOf l m).size := by rw [strOf_size]; exact hlt
            have h2 : (strOf l m).data.toList[i]? = some c := by rw [strOf_list]; exact hd2
            rw [Array.getElem?_toList, Array.getElem?_eq_some_iff] at h2
            rw [getElem?_pos (strOf l m) i hi2]
            congr 1
            exact h2.2
          refine ⟨.int .u8 c.toNat, ?_, ?_⟩
          · simp [Instr.index, hk, hv, asIntOf, run_und hd, hget]
          · rw [hdg]; exact .i _ _
      · cases h
    · rename_i n e n' b z hT
      have hd := (hS.T t _ hT).array rfl
      split at h
      · rename_i cs he
        rw [he] at hx
        obtain ⟨us, hv, hl⟩ := hx.agg_inv
        unfold ixAgg at h
        split at h
        · rename_i sz hsz
          obtain ⟨te, hTe, rfl⟩ := sizeT_eq hsz
          have hsize := (hS.T e te hTe).sizeOf w
          cases hb : Nat.ble (Nat.succ i) n <;> rw [hb] at h <;> simp only [cond_true, cond_false] at h
          · cases h
          have hlt : i < n := (ble_iff _ _).1 hb
          obtain ⟨u, h2, h3⟩ := partC_ok hS (w := w) h hl
          have h2' : (part e ⟨us⟩ (i * te.size)).run S.P w = .ok u w := h2
          exact ⟨u, by simp [Instr.index, hk, hv, asIntOf, run_und hd, hlt, hsize, h2'], h3⟩
        · cases h
      · cases h
    · cases h

theorem g_extract (hg : GR S ι) (hf : FR ι fr a.tmps) {o : Oper} {X : Operand} {i : Nat} {v : CV} (ho : o.op = .extract X i) (h : fExtract S.en X i fr = some v) : Gives S ι w a o v := by
  have hx := ev_rel hg hf X
  unfold fExtract at h
  split at h
  · rename_i vs e
    rw [e] at hx
    obtain ⟨us, hv, hl⟩ := hx.tup_inv
    rw [nth_eq] at h
    obtain ⟨u, hu, hr⟩ := hl.get h
    exact Gives.of (s := Instr.extract (a.eval X) i) ⟨u, by simp [Instr.extract, hv, hu], hr⟩ (by simp [execOp, ho])
  · cases h
theorem g_nil (hg : GR S ι) (hf : FR ι fr a.tmps) {o : Oper} {X : Operand} {v : CV} (ho : o.op = .nilCheck X) (h : fNil S.en X fr = some v) : Gives S ι w a o v := by
  have hx := ev_rel hg hf X
  unfold fNil at h
  split at h
  · rename_i r g off e
    rw [e] at hx
    cases h
    obtain ⟨L, hL, hlo, hv⟩ := hx.p_inv
    exact ⟨a.eval X, by simp [execOp, ho, hv], hx⟩
  · rename_i f xs ys e
    rw [e] at hx
    cases h
    obtain ⟨us, vs, hv, _⟩ := hx.f_inv
    exact ⟨a.eval X, by simp [execOp, ho, hv], hx⟩
  · cases h
end
end Go.Cv
/- Operations that leave the heap alone: the rest of them. -/
namespace Go.Cv
open Go Go.RowKit
section
variable {S : Sg} {ι : Ip} {hp : Tr CO} {w : World} {fr : Tr CV} {a : Act}

theorem run_bound {P : Program} {w : World} {k : IntKind} {n y : Nat} {code : BoundsCode} (h : n ≤ y) : (Instr.sliceBound (.int k (n : Int)) y code).run P w = .ok n w := by
  have : (0 : Int) ≤ (n : Int) ∧ (n : Int) ≤ (y : Int) := by omega
  simp [Instr.sliceBound, asIntOf, h]
theorem optC_rel (hg : GR S ι) (hf : FR ι fr a.tmps) {d n : Nat} {x : Option Operand} (h : optC S.en fr d x = some n) : (x = none ∧ n = d) ∨ ∃ X k, x = some X ∧ a.eval X = .int k (n : Int) := by
  cases x with
  | none => cases h; exact .inl ⟨rfl, rfl⟩
  | some X =>
    obtain ⟨k, hk⟩ := natC_rel h (ev_rel hg hf X)
    exact .inr ⟨X, k, rfl, hk⟩
theorem run_bounds (hg : GR S ι) (hf : FR ι fr a.tmps) {isS : Bool} {l c h b : Nat} {lo hi : Option Operand} (h1 : optC S.en fr l hi = some h) (h2 : optC S.en fr 0 lo = some b) (hc : h ≤ c) (hb : b ≤ h) :
    (Instr.sliceBounds isS l c (lo.map a.eval) (hi.map a.eval) none).run S.P w = .ok (b, h, c) w := by
  unfold Instr.sliceBounds
  rcases optC_rel hg hf h1 with ⟨rfl, rfl⟩ | ⟨X, k, rfl, hX⟩ <;> rcases optC_rel hg hf h2 with ⟨rfl, rfl⟩ | ⟨Y, k', rfl, hY⟩ <;> simp_all [run_bound]
theorem run_bounds3 (hg : GR S ι) (hf : FR ι fr a.tmps) {l c h b m : Nat} {k0 : IntKind} {lo : Option Operand} {H M : Operand} (h1 : optC S.en fr l (some H) = some h) (h2 : optC S.en fr 0 lo = some b) (hM : a.eval M = .int k0 (m : Int)) (hm : m ≤ c) (hc : h ≤ m) (hb : b ≤ h) :
    (Instr.sliceBounds true l c (lo.map a.eval) (some (a.eval H)) (some (a.eval M))).run S.P w = .ok (b, h, m) w := by
  unfold Instr.sliceBounds
  rcases optC_rel hg hf h1 with ⟨h, _⟩ | ⟨X, k, hX, hX'⟩
  · cases h
  · cases hX
    rcases optC_rel hg hf h2 with ⟨rfl, rfl⟩ | ⟨Y, k', rfl, hY⟩ <;> simp_all [run_bound]

theorem extract_strOf {l n b h : Nat} (hh : h ≤ l) (hb : b ≤ h) : (strOf l n).extract b h = strOf (h - b) (n / 256 ^ b % 256 ^ (h - b)) := by
  apply ByteArray.ext
  rw [ByteArray.data_extract]
  apply Array.ext'
  show _ = (dig (h - b) _).toArray.toList
  rw [Array.toList_extract, strOf_list]
  simp only [List.extract_eq_take_drop]
  rw [dig_drop b l n (by omega), dig_take (h - b) (l - b) _ (by omega)]

/-- A slice from b to h, of one that has c elements of room. -/
theorem sl_part {r g off sz h b m c : Nat} {L : Loc} {ad : Addr} (hL : ι r g = some L) (hlo : L.lo ≤ off) (hz : 0 < sz) (hen : off + c * sz ≤ L.en) (had : 0 < c → ad = ⟨L.blk, off - L.lo, none⟩)
    (hm : m ≤ c) (hh : h ≤ m) (hb : b ≤ h) {cap' : Nat} (h0 : cap' = 0 → m = (L.en - off) / sz) (h1 : ∀ k, cap' = k + 1 → m - b = k) :
    VR ι (.sl r g (off + b * sz) (h - b) sz cap') (.slice (if m = b then some ad else (some ad).map (·.add (b * sz))) (h - b) (m - b)) := by
  have e1 : m * sz ≤ c * sz := Nat.mul_le_mul_right _ hm
  have e2 : b * sz + (m - b) * sz = m * sz := by rw [← Nat.add_mul]; congr 1; omega
  have hcap0 : cap' = 0 → m - b = (L.en - (off + b * sz)) / sz := fun e => by
    rw [show L.en - (off + b * sz) = (L.en - off) - b * sz by omega, Nat.mul_comm b, Nat.sub_mul_div, ← h0 e]
  by_cases hmb : m = b
  · rw [if_pos hmb]
    exact .sl hL (Nat.le_trans hlo (Nat.le_add_right _ _)) hz (by rw [Nat.add_assoc, e2]; omega) (fun h => by omega) (by omega) hcap0 h1
  · rw [if_neg hmb]
    have := had (by omega)
    subst this
    rw [Option.map_some, add_off', show off - L.lo + b * sz = off + b * sz - L.lo by omega]
    exact .sl hL (Nat.le_trans hlo (Nat.le_add_right _ _)) hz (by rw [Nat.add_assoc, e2]; omega) (fun _ => rfl) (by omega) hcap0 h1

theorem room_ok (hR : Rd S ι hp w) {r g off sz k : Nat} {L : Loc} (hL : ι r g = some L) (h : k ≤ roomC hp r g off sz) (hk : 0 < k) : off + k * sz ≤ L.en := by
  unfold roomC at h
  split at h
  · rename_i ty tr n G fz ro mk hr
    cases hG : Nat.beq g G <;> rw [hG] at h
    · simp at h; omega
    · obtain rfl := (beq_iff _ _).1 hG
      obtain ⟨_, arr, fz', _, h3, _, h5⟩ := hR.of hL hr
      have h6 := (h5 rfl).1
      have h7 : k ≤ (n - off) / sz := h
      have h8 : k * sz ≤ n - off := Nat.le_trans (Nat.mul_le_mul_right _ h7) (Nat.div_mul_le_self _ _)
      have : sz ≠ 0 := fun e => by subst e; simp at h7; omega
      have : 0 < k * sz := Nat.mul_pos hk (by omega)
      omega
  · omega
theorem g_slice (hS : SOk S) (hR : Rd S ι hp w) (hg : GR S ι) (hf : FR ι fr a.tmps) {o : Oper} {t : Nat} {X : Operand} {lo hi mx : Option Operand} {v : CV} (ho : o.op = .slice t X lo hi mx) (h : slC S.en hp t (ev S.en fr X) lo hi mx fr = some v) : Gives S ι w a o v := by
  have hx := ev_rel hg hf X
  refine Gives.of (s := Instr.sliceAt t (a.eval X) (lo.map a.eval) (hi.map a.eval) (mx.map a.eval)) ?_ (by simp [execOp, ho])
  generalize ev S.en fr X = x at h hx
  unfold slC at h
  split at h
  · rename_i n b z hT
    have hd := (hS.T t _ hT).string rfl
    split at h
    · rename_i l m
      obtain ⟨hv, hm⟩ := hx.s_inv
      unfold slS at h
      split at h
      · rename_i e1 e2
        unfold partS at h
        rename_i hh bb
        cases hb : Nat.ble hh l && Nat.ble bb hh <;> rw [hb] at h <;> cases h
        simp only [Bool.and_eq_true, ble_iff] at hb
        refine ⟨.string ((strOf l m).extract bb hh), ?_, ?_⟩
        · have hr := run_bounds (S := S) (w := w) (isS := false) (l := l) (c := l) hg hf e1 e2 hb.1 hb.2
          simp [Instr.sliceAt, Instr.slice, run_und hd, hv, strOf_size, hr]
        · rw [extract_strOf hb.1 hb.2]
          exact .s (Nat.mod_lt _ (Nat.pos_of_ne_zero (by simp)))
      · cases h
    · cases h
  · rename_i e n b z hT
    have hd := (hS.T t _ hT).slice rfl
    unfold slE at h
    split at h
    · split at h
      case h_2 => cases h
      rename_i sz hsz0
      obtain ⟨te, hTe, _⟩ := sizeT_eq hsz0
      have hsz := (hS.T e te hTe).sizeOf w
      unfold slN at h
      split at h
      · rename_i hh bb e1 e2
        unfold partN at h
        cases hb : Nat.beq hh 0 && Nat.beq bb 0 <;> rw [hb] at h <;> cases h
        simp only [Bool.and_eq_true, beq_iff] at hb
        obtain ⟨rfl, rfl⟩ := hb
        have hr := run_bounds (S := S) (w := w) (isS := true) (l := 0) (c := 0) hg hf e1 e2 (Nat.le_refl _) (Nat.le_refl _)
        exact ⟨.slice none 0 0, by simp [Instr.sliceAt, Instr.slice, run_und hd, hx.ns_inv, hr, hsz], .ns⟩
      · cases h
    · rename_i r g off l sz cap
      cases hs : szOk S.en e sz <;> rw [hs] at h <;> simp only [cond_true, cond_false] at h
      · cases h
      obtain ⟨te, hTe, rfl⟩ := szOk_ok hs
      have hsize := (hS.T e te hTe).sizeOf w
      obtain ⟨L, ad, c, hL, hlo, hz, hen, had, hlc, hc0, hc1, hv⟩ := hx.sl_inv
      unfold slV at h
      split at h
      · rename_i hh bb e1 e2
        split at h
        · rename_i m
          split at h
          · rename_i mm H e3
            obtain ⟨k0, hM⟩ := natC_rel e3 (ev_rel hg hf m)
            unfold part3 at h
            cases hb : (Nat.ble mm (bif Nat.beq cap 0 then l else Nat.sub cap 1) && Nat.ble hh mm && Nat.ble bb hh) <;> rw [hb] at h <;> cases h
            simp only [Bool.and_eq_true, ble_iff] at hb
            obtain ⟨⟨b1, b2⟩, b3⟩ := hb
            have hmc : mm ≤ c := by
              cases hz0 : Nat.beq cap 0
              · rw [hz0] at b1
                obtain ⟨k, rfl⟩ : ∃ k, cap = k + 1 := ⟨cap - 1, by
                  have : cap ≠ 0 := fun e => by subst e; cases hz0
                  omega⟩
                rw [hc1 k rfl]; exact b1
              · rw [hz0] at b1; exact Nat.le_trans b1 hlc
            have hr := run_bounds3 (S := S) (w := w) (l := l) (c := c) hg hf e1 e2 hM hmc b2 b3
            exact ⟨_, by simp [Instr.sliceAt, Instr.slice, run_und hd, hv, hr, hsize], sl_part hL hlo hz hen had hmc b2 b3 (fun e => by cases e) (fun k e => by simpa using e)⟩
          · cases h
        · unfold part2 at h
          cases hz0 : Nat.beq cap 0 <;> rw [hz0] at h <;> simp only [cond_true, cond_false] at h
          · cases hb : (Nat.ble hh (Nat.sub cap 1) && Nat.ble bb hh) <;> rw [hb] at h <;> cases h
            simp only [Bool.and_eq_true, ble_iff] at hb
            obtain ⟨k, rfl⟩ : ∃ k, cap = k + 1 := ⟨cap - 1, by
              have : cap ≠ 0 := fun e => by subst e; cases hz0
              omega⟩
            obtain rfl := hc1 k rfl
            have b1 : hh ≤ c := hb.1
            have hr := run_bounds (S := S) (w := w) (isS := true) (l := l) (c := c) hg hf e1 e2 b1 hb.2
            exact ⟨_, by simp [Instr.sliceAt, Instr.slice, run_und hd, hv, hr, hsize], sl_part hL hlo hz hen had (Nat.le_refl _) b1 hb.2 (fun e => by have e : c + 1 - bb = 0 := e; omega) (fun k e => by have e : c + 1 - bb = k + 1 := e; omega)⟩
          · cases hb : ((bif Nat.ble hh l then true else Nat.ble hh (roomC hp r g off te.size)) && Nat.ble bb hh) <;> rw [hb] at h <;> cases h
            simp only [Bool.and_eq_true] at hb
            have hcap := (beq_iff _ _).1 hz0
            have b1 : hh ≤ c := by
              cases hl : Nat.ble hh l <;> rw [hl] at hb
              · have h1 : hh ≤ roomC hp r g off te.size := (ble_iff _ _).1 hb.1
                unfold roomC at h1
                split at h1
                · rename_i ty tr n G fz ro mk hr
                  cases hG : Nat.beq g G <;> rw [hG] at h1
                  · simp at h1; omega
                  · obtain rfl := (beq_iff _ _).1 hG
                    obtain ⟨_, arr, fz', _, h3, _, h5⟩ := hR.of hL hr
                    have h6 := (h5 rfl).1
                    rw [hc0 hcap]
                    exact Nat.le_trans h1 (Nat.div_le_div_right (Nat.sub_le_sub_right h6 off))
                · omega
              · exact Nat.le_trans ((ble_iff _ _).1 hl) hlc
            replace hb : _ ∧ bb ≤ hh := ⟨hb.1, (ble_iff _ _).1 hb.2⟩
            have hr := run_bounds (S := S) (w := w) (isS := true) (l := l) (c := c) hg hf e1 e2 b1 hb.2
            exact ⟨_, by simp [Instr.sliceAt, Instr.slice, run_und hd, hv, hr, hsize], sl_part hL hlo hz hen had (Nat.le_refl _) b1 hb.2 (fun _ => hc0 hcap) (fun k e => by cases e)⟩
      · cases h
    · cases h
  · rename_i n e n' b z hT
    have hd := (hS.T t _ hT).array rfl
    split at h
    · rename_i r g off
      unfold slA at h
      split at h
      · rename_i sz hh bb hsz0 e1 e2
        obtain ⟨te, hTe, hsz⟩ := sizeT_eq hsz0
        have hsize := (hS.T e te hTe).sizeOf w
        obtain ⟨L, hL, hlo, hv⟩ := hx.p_inv
        cases hrm : (Nat.ble n (roomC hp r g off (Nat.succ sz)) && Nat.ble 1 n) <;> rw [hrm] at h <;> simp only [cond_true, cond_false] at h
        · cases h
        simp only [Bool.and_eq_true, ble_iff] at hrm
        have hen := room_ok hR hL hrm.1 hrm.2
        unfold partA at h
        cases hb : (Nat.ble hh n && Nat.ble bb hh) <;> rw [hb] at h <;> cases h
        simp only [Bool.and_eq_true, ble_iff] at hb
        have hr := run_bounds (S := S) (w := w) (isS := false) (l := n) (c := n) hg hf e1 e2 hb.1 hb.2
        have hp := sl_part (ι := ι) (ad := ⟨L.blk, off - L.lo, none⟩) (c := n) (m := n) (cap' := Nat.succ (Nat.sub n bb)) hL hlo (Nat.succ_pos sz) hen (fun _ => rfl) (Nat.le_refl _) hb.1 hb.2 (fun e => by cases e) (fun k e => by have e : n - bb + 1 = k + 1 := e; omega)
        refine ⟨_, ?_, hp⟩
        simp only [Instr.sliceAt, Sem.run_bind, run_und hd, Result.andThen_ok, hv, Instr.sureAddr, Sem.run_pure, Option.map_none, hr, hsize, hsz]
        split <;> rfl
      · cases h
    · cases h
  · cases h

/-! ### conversions -/
theorem byteC_inv {x : CV} {m : Nat} (h : byteC x = some m) : x = .i .u8 (m : Int) ∧ m < 256 := by
  unfold byteC at h
  split at h
  · rename_i n
    unfold byteN at h
    split at h
    · rename_i q
      cases hb : Nat.ble q 255 <;> rw [hb] at h <;> cases h
      exact ⟨rfl, by have := (ble_iff _ _).1 hb; omega⟩
    · cases h
  · cases h
theorem mapO_byte {l : List CV} {ns : List Nat} {us : List Value} (h : mapO byteC l = some ns) (hl : VRL ι l us) : ns.length = us.length ∧ ∀ (i n : Nat), ns[i]? = some n → us[i]? = some (Value.int .u8 (n : Int)) ∧ n < 256 := by
  obtain ⟨h1, h2⟩ := mapO_some byteC l ns h
  refine ⟨by rw [h1, hl.1], fun i n hn => ?_⟩
  have hlt : i < l.length := by rw [← h1]; exact (List.getElem?_eq_some_iff.1 hn).1
  have hx := h2 i l[i] (List.getElem?_eq_getElem hlt)
  rw [hn] at hx
  obtain ⟨u, hu, hr⟩ := hl.get (List.getElem?_eq_getElem hlt)
  rw [hu]
  generalize l[i] = x at hx hr
  obtain ⟨rfl, hm⟩ := byteC_inv hx
  exact ⟨by rw [hr.i_inv], hm⟩
theorem numL_digits : ∀ (ns : List Nat), (∀ n ∈ ns, n < 256) → numL ns < 256 ^ ns.length ∧ dig ns.length (numL ns) = ns.map UInt8.ofNat
  | [], _ => ⟨by simp [numL], rfl⟩
  | n :: ns, h => by
    obtain ⟨h1, h2⟩ := numL_digits ns (fun m hm => h m (List.mem_cons_of_mem _ hm))
    have hn := h n (List.mem_cons_self ..)
    have e : numL (n :: ns) = n + 256 * numL ns := rfl
    refine ⟨by rw [e, List.length_cons, Nat.pow_succ]; omega, ?_⟩
    simp only [List.length_cons, dig, List.map_cons]
    rw [e, show (n + 256 * numL ns) % 256 = n by omega, show (n + 256 * numL ns) / 256 = numL ns by omega, h2]

/-- A row of bytes, read. -/
theorem rowS_ok (hR : Rd S ι hp w) {r g off l n : Nat} {L : Loc} (h : rowS hp r g off l = some n) (hL : ι r g = some L) (hlo : L.lo ≤ off) :
    ∃ ns : List Nat, ns.length = l ∧ numL ns = n ∧ ∀ (i m : Nat), ns[i]? = some m → w.cell? ⟨L.blk, off - L.lo + i, none⟩ = some (Value.int .u8 (m : Int)) ∧ m < 256 := by
  unfold rowS at h
  split at h
  · rename_i ho
    split at h
    · rename_i cs hc
      split at h
      · rename_i ns hns
        cases h
        obtain ⟨us, h1, h2, _, h4⟩ := (hR.of hL ho).cells hlo hc
        obtain ⟨h5, h6⟩ := mapO_byte hns h2
        exact ⟨ns, by rw [h5, h1], rfl, fun i m hm => ⟨h4 i _ (h6 i m hm).1, (h6 i m hm).2⟩⟩
      · cases h
    · cases h
  · cases h

theorem run_toString {P : Program} (w : World) : ∀ (ns : List Nat) (acc : ByteArray), (forIn (ns.map fun (m : Nat) => Value.int .u8 (m : Int)) acc fun (c : Value) (s : ByteArray) => (match c with
      | .int .u8 n => pure (ForInStep.yield (s.push (UInt8.ofNat n.toNat)))
      | _ => (do
        let _ ← (stuck "bytesToString: byte expected" : Sem PUnit)
        pure (ForInStep.yield s)) : Sem (ForInStep ByteArray))).run P w = .ok ⟨acc.data ++ (ns.map UInt8.ofNat).toArray⟩ w := by
  intro ns
  induction ns with
  | nil => intro acc; simp
  | cons n ns ih =>
    intro acc
    simp only [List.map_cons, List.forIn_cons, Sem.run_bind, Sem.run_pure, Result.andThen_ok]
    have := ih (acc.push (UInt8.ofNat n))
    simp only [Int.toNat_natCast] at this ⊢
    rw [this]
    congr 1
    apply ByteArray.ext
    simp [ByteArray.push]

theorem convB_ok (hR : Rd S ι hp w) {x v : CV} {u : Value} (h : convB hp x = some v) (hx : VR ι x u) : ∃ u', (Conv.bytesToString u).run S.P w = .ok u' w ∧ VR ι v u' := by
  unfold convB at h
  split at h
  · cases h
    rw [hx.ns_inv]
    refine ⟨.string .empty, rfl, ?_⟩
    have : (ByteArray.empty : ByteArray) = strOf 0 0 := rfl
    rw [this]
    exact .s (by simp)
  · rename_i r g off l sz cap
    split at h
    · rename_i n hn
      cases h
      obtain ⟨L, ad, c, hL, hlo, hz, hen, had, hlc, _, _, rfl⟩ := hx.sl_inv
      obtain ⟨ns, h1, rfl, h3⟩ := rowS_ok hR hn hL hlo
      have hbd : ∀ m ∈ ns, m < 256 := fun m hm => by
        obtain ⟨i, hi⟩ := List.mem_iff_getElem?.1 hm
        exact (h3 i m hi).2
      obtain ⟨d1, d2⟩ := numL_digits ns hbd
      refine ⟨.string (strOf l (numL ns)), ?_, .s (by rw [← h1]; exact d1)⟩
      have hload : (loadCells ad l).run S.P w = .ok ⟨ns.map fun (m : Nat) => Value.int .u8 (m : Int)⟩ w := by
        by_cases hl0 : l = 0
        · subst hl0
          have : ns = [] := List.eq_nil_of_length_eq_zero h1
          subst this; rfl
        · have := had (by omega)
          subst this
          have := run_cells (P := S.P) (w := w) (b := L.blk) (o := off - L.lo) (us := ns.map fun (m : Nat) => Value.int .u8 (m : Int)) (fun j u hj => by
            rw [List.getElem?_map] at hj
            cases hm : ns[j]? with
            | none => rw [hm] at hj; cases hj
            | some m => rw [hm] at hj; cases hj; exact (h3 j m hm).1)
          rw [List.length_map, h1] at this
          exact this
      have hr := run_toString (P := S.P) w ns .empty
      simp only [Conv.bytesToString, Sem.run_bind, hload, Result.andThen_ok]
      rw [← Array.forIn_toList]
      erw [hr]
      simp only [Result.andThen_ok, Sem.run_pure]
      congr 2
      apply ByteArray.ext
      show _ = (dig l (numL ns)).toArray
      rw [← h1, d2]
      simp
    · cases h
  · cases h
end
end Go.Cv
