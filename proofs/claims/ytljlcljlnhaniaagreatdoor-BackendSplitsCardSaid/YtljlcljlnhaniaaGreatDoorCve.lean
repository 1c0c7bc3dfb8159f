/- Part of the proof of the statement: an evaluator of the code at closed data, run by the kernel, and that it is sound; it has no conditions of its own. -/
import Derived.CallsIn
import Derived.RangeFuncNested
import Derived.Lib.BytesEntry
import Derived.Orders
import Derived.Test.YtljlcljlnhaniaaGreatDoorCvd
set_option linter.unusedVariables false
set_option linter.unusedSimpArgs false
/- The machine: what its states stand for; the steps of plain code. -/
namespace Go.Cv
open Go Go.RowKit

/-! ### what is still to be done -/
inductive TDR (ι : Ip) : TD → List Item → Prop
  | nil : TDR ι .nil []
  | code {c : Code} {t : TD} {k : List Item} (h : TDR ι t k) : TDR ι (.code c t) (.code c :: k)
  | blk {id : Nat} {t : TD} {k : List Item} (h : TDR ι t k) : TDR ι (.blk id t) (.inBlock id :: k)
  | loop {c : Code} {t : TD} {k : List Item} (h : TDR ι t k) : TDR ι (.loop c t) (.inLoop c :: k)
  | scope {c : Code} {t : TD} {k : List Item} (h : TDR ι t k) : TDR ι (.scope c t) (.inScope c :: k)
  | rl {ops : Array Oper} {l : List Oper} {is : List Nat} {t : TD} {k : List Item} (h : TDR ι t k) (hl : l.length = is.length) (hi : ∀ (j i : Nat) (o : Oper), is[j]? = some i → l[j]? = some o → ops[i]? = some o) : TDR ι (.rl ops l t) (.inRegion ops is :: k)
  | rf {l : Nat} {L : Loc} {t : TD} {k : List Item} (hL : ι l 0 = some L) (h : TDR ι t k) : TDR ι (.rf l t) (.inRangeFunc L.blk :: k)
  | erf {l : Nat} {L : Loc} {t : TD} {k : List Item} (hL : ι l 0 = some L) (h : TDR ι t k) : TDR ι (.erf l t) (.endRangeFunc L.blk :: k)
  | br {t : TD} {k : List Item} (h : TDR ι t k) : TDR ι (.br t) (.beginRound :: k)
section
variable {ι ι' : Ip} {td : TD} {k : List Item}
theorem TDR.mono (x : Ex ι ι') (h : TDR ι td k) : TDR ι' td k := by
  induction h with
  | nil => exact .nil
  | code _ ih => exact .code ih
  | blk _ ih => exact .blk ih
  | loop _ ih => exact .loop ih
  | scope _ ih => exact .scope ih
  | rl _ hl hi ih => exact .rl ih hl hi
  | rf hL _ ih => exact .rf (x _ _ _ hL) ih
  | erf hL _ ih => exact .erf (x _ _ _ hL) ih
  | br _ ih => exact .br ih
theorem TDR.exit {id : Nat} (h : TDR ι td k) : (exitA id td = none ∧ exitTo id k = none) ∨ ∃ t' k', exitA id td = some t' ∧ exitTo id k = some k' ∧ TDR ι t' k' := by
  induction h with
  | nil => exact .inl ⟨rfl, rfl⟩
  | code _ ih => exact ih
  | @blk j t k h ih =>
    have e1 : exitA id (.blk j t) = bif Nat.beq j id then some t else exitA id t := rfl
    have e2 : exitTo id (.inBlock j :: k) = if j == id then some k else exitTo id k := rfl
    rw [e1, e2]
    cases hb : Nat.beq j id
    · rw [if_neg (by rw [beq_iff_eq]; intro e; rw [(beq_iff j id).2 e] at hb; cases hb)]
      exact ih
    · rw [if_pos (by rw [beq_iff_eq]; exact (beq_iff _ _).1 hb)]
      exact .inr ⟨_, _, rfl, rfl, h⟩
  | loop _ ih => exact ih
  | scope _ ih => exact ih
  | rl _ _ _ ih => exact ih
  | rf _ _ ih => exact ih
  | erf _ _ ih => exact ih
  | br _ ih => exact ih
theorem TDR.goto {l : Nat} (h : TDR ι td k) : (gotoA l td = none ∧ gotoIn l k = none) ∨ ∃ t' k', gotoA l td = some t' ∧ gotoIn l k = some k' ∧ TDR ι t' k' := by
  induction h with
  | nil => exact .inl ⟨rfl, rfl⟩
  | code _ ih => exact ih
  | blk _ ih => exact ih
  | loop _ ih => exact ih
  | @scope c t k h ih =>
    have e1 : gotoA l (.scope c t) = match findLabel c l with | some rest => some (.code rest (.scope c t)) | none => gotoA l t := rfl
    have e2 : gotoIn l (.inScope c :: k) = match findLabel c l with | some rest => some (.code rest :: .inScope c :: k) | none => gotoIn l k := rfl
    rw [e1, e2]
    cases hf : findLabel c l with
    | none => exact ih
    | some rest => exact .inr ⟨_, _, rfl, rfl, .code (.scope h)⟩
  | rl _ _ _ ih => exact ih
  | rf _ _ ih => exact ih
  | erf _ _ ih => exact ih
  | br _ ih => exact ih
end

/-! ### frames -/
/-- The marks of loops over functions. -/
def DsR (ι : Ip) (ds : List Nat) (df : List Deferred) : Prop := ds.length = df.length ∧ ∀ (i r : Nat) (d : Deferred), ds[i]? = some r → df[i]? = some d → ∃ L, ι r 0 = some L ∧ d = { target := .collected L.blk, args := #[] }
def RoR (ι : Ip) (ro mo : Option Nat) : Prop := match ro with
  | none => mo = none
  | some l => ∃ L, ι l 0 = some L ∧ mo = some L.blk
/-- The relation of a region whose order is drawn: given later. 'U': the objects that this frame has still to come. -/
abbrev DrawR := Ip → (Nat → Option CO) → Array Oper → List PE → List Nat → Tr CV → Array Value → Prop
structure FrR (S : Sg) (D : DrawR) (ι : Ip) (U : Nat → Option CO) (fn : Nat) (fr : Tr CV) (td : TD) (ds : List Nat) (ro : Option Nat) (f : Frame) : Prop where
  fnE : f.fn = fn
  size : f.tmps.size = S.nt fn
  kind : f.kind = .normal
  df : DsR ι ds f.defers
  ro : RoR ι ro f.roundOf
  at_ : (td = .rt ∧ f.mode = .returning ∧ f.roundOf = none ∧ FR ι fr f.tmps) ∨ (f.mode = .run ∧ TDR ι td f.todo ∧ FR ι fr f.tmps) ∨
    (f.mode = .run ∧ ∃ ops l t is k, td = .rd ops l t ∧ f.todo = .inRegion ops is :: k ∧ TDR ι t k ∧ D ι U ops l is fr f.tmps)
/-- The frames that wait; 'V': what each, counted from below, has still to come; 'fn': the function of the frame above them; the lowest frame is one of 'f0'. -/
inductive StkR (S : Sg) (D : DrawR) (ι : Ip) (V : Nat → Nat → Option CO) (cs0 : List Frame) (f0 : Nat) : Nat → Nat → Stk → List Frame → Prop
  | nil : StkR S D ι V cs0 f0 0 f0 .nil cs0
  | cons {n top fn : Nat} {fr : Tr CV} {td : TD} {ds : List Nat} {ro : Option Nat} {k : Stk} {f : Frame} {cs : List Frame} (h : FrR S D ι (V n) fn fr td ds ro f) (hs : StkR S D ι V cs0 f0 n fn k cs) : StkR S D ι V cs0 f0 (n + 1) top (.cons fn fr td ds ro k) (f :: cs)
/-- All that is still to come. -/
def UV (U : Nat → Option CO) (V : Nat → Nat → Option CO) : Prop := (∀ r o, U r = some o ↔ ∃ d, V d r = some o) ∧ ∀ d d' r o o', V d r = some o → V d' r = some o' → d = d'
/-- The two relations of drawn regions: of frames that wait, of the frame ahead. -/
structure DD where
  d0 : DrawR
  d1 : Tr CO → DrawR
/-- A state of the evaluator, and one of the model's machine. -/
def SimR (S : Sg) (D : DD) (base : Nat) (w0 : World) (cs0 : List Frame) (f0 : Nat) (m : AM) (M : Machine) : Prop := match m with
  | .run fn fr td ds ro k hp nx => ∃ ι U V n f cs w, M = lone f cs w ∧ HR S base w0 U ι hp nx w ∧ UV U V ∧ GR S ι ∧ FrR S (D.d1 hp) ι (V n) fn fr td ds ro f ∧ StkR S D.d0 ι V cs0 f0 n fn k cs
  | .fin v hp nx => ∃ ι U f w u, M = lone f cs0 w ∧ HR S base w0 U ι hp nx w ∧ f.leaving S.P w (.returned u) ∧ f.fn = f0 ∧ VR ι v u
  | .bad _ => True
/-- From there the model goes on to what 'm' stands for. -/
def Goes (S : Sg) (D : DD) (base : Nat) (w0 : World) (cs0 : List Frame) (f0 : Nat) (M : Machine) (m : AM) : Prop := ∃ M', Steps S.P M M' ∧ SimR S D base w0 cs0 f0 m M'
section
variable {S : Sg} {D : DD} {base : Nat} {w0 w w' : World} {cs0 cs : List Frame} {f0 : Nat} {ι : Ip} {U : Nat → Option CO} {V : Nat → Nat → Option CO} {n : Nat} {hp : Tr CO} {nx fn : Nat} {fr : Tr CV} {td t : TD} {ds : List Nat} {ro : Option Nat} {k : Stk} {m : AM} {f f' : Frame}

theorem Goes.head {M M1 : Machine} (h : Go.step S.P M = .next M1) (h' : Goes S D base w0 cs0 f0 M1 m) : Goes S D base w0 cs0 f0 M m := by
  obtain ⟨M', h1, h2⟩ := h'
  exact ⟨M', .head h h1, h2⟩
theorem Goes.stay {M : Machine} (h : SimR S D base w0 cs0 f0 m M) : Goes S D base w0 cs0 f0 M m := ⟨M, .refl _ _, h⟩
theorem Goes.bad {M : Machine} {n : Nat} : Goes S D base w0 cs0 f0 M (.bad n) := .stay trivial

/-- A frame in plain code: as 'atR' has it. -/
def actOf (f : Frame) : Act := ⟨f.tmps, f.defers⟩
theorem atR_self {f : Frame} (h : f.mode = .run) : f.atR (actOf f) f.todo = f := by
  cases f; simp only at h; subst h; rfl
/-- Only what is to be done changes. -/
theorem FrR.todo (h : FrR S (D.d1 hp) ι (V n) fn fr td ds ro f) (hm : f.mode = .run) (hf : FR ι fr f.tmps) {k' : List Item} (ht : TDR ι t k') : FrR S (D.d1 hp) ι (V n) fn fr t ds ro (f.atR (actOf f) k') :=
  ⟨h.fnE, h.size, h.kind, h.df, h.ro, .inr (.inl ⟨rfl, ht, hf⟩)⟩
/-- One step of the model, in the same frame, and the heap as it was. -/
theorem Goes.turn {k' kk : List Item} (hh : HR S base w0 U ι hp nx w) (hu : UV U V) (hg : GR S ι) (h : FrR S (D.d1 hp) ι (V n) fn fr td ds ro f) (hm : f.mode = .run) (hf : FR ι fr f.tmps) (hs : StkR S D.d0 ι V cs0 f0 n fn k cs) (htd : f.todo = k')
    (hst : Go.step S.P (lone (f.atR (actOf f) k') cs w) = .next (lone (f.atR (actOf f) kk) cs w)) (ht : TDR ι t kk) : Goes S D base w0 cs0 f0 (lone f cs w) (.run fn fr t ds ro k hp nx) := by
  rw [← htd, atR_self hm] at hst
  exact .head hst (.stay ⟨ι, U, V, n, _, cs, w, rfl, hh, hu, hg, h.todo hm hf ht, hs⟩)
theorem eval_act (h : FrR S (D.d1 hp) ι (V n) fn fr td ds ro f) (hg : GR S ι) (hf : FR ι fr f.tmps) (x : Operand) : VR ι (ev S.en fr x) ((actOf f).eval x) := ev_rel hg hf x

/-- Returning: no deferred call of ours is anything but a mark. -/
theorem Goes.ret {todo' : List Item} (hh : HR S base w0 U ι hp nx w) (hu : UV U V) (hg : GR S ι) (h : FrR S (D.d1 hp) ι (V n) fn fr td ds none f) (hm : f.mode = .run) (hf : FR ι fr f.tmps) (hs : StkR S D.d0 ι V cs0 f0 n fn k cs)
    (hst : Go.step S.P (lone f cs w) = .next (lone { f with mode := .returning } cs w)) : Goes S D base w0 cs0 f0 (lone f cs w) (.run fn fr .rt ds none k hp nx) :=
  .head hst (.stay ⟨ι, U, V, n, _, cs, w, rfl, hh, hu, hg, ⟨h.fnE, h.size, h.kind, h.df, h.ro, .inl ⟨rfl, rfl, h.ro, hf⟩⟩, hs⟩)

theorem stepR_scope {P : Program} {b : Frame} {a : Act} {c : Code} {k : List Item} : Go.step P (lone (b.atR a (.code (.scope c) :: k)) cs w) = .next (lone (b.atR a (.code c :: .inScope c :: k)) cs w) :=
  step_lone_go (by simp [stepG, stepG.exec, Frame.atR])
theorem stepR_inScope {P : Program} {b : Frame} {a : Act} {c : Code} {k : List Item} : Go.step P (lone (b.atR a (.inScope c :: k)) cs w) = .next (lone (b.atR a k) cs w) :=
  step_lone_go (by simp [stepG, stepG.exec, Frame.atR])
/-- Plain code. 'leave' and what calls, draws, ranges: elsewhere. -/
theorem code_ok {c : Code} {k' : List Item} (hh : HR S base w0 U ι hp nx w) (hu : UV U V) (hg : GR S ι) (h : FrR S (D.d1 hp) ι (V n) fn fr (.code c t) ds ro f) (hm : f.mode = .run) (hf : FR ι fr f.tmps) (hs : StkR S D.d0 ι V cs0 f0 n fn k cs) (htd : f.todo = .code c :: k') (ht : TDR ι t k')
    (hleave : ∀ j, (j = .ret ∨ (∃ id, j = .exit id ∧ exitTo id k' = none) ∨ ∃ l, j = .goto l ∧ gotoIn l k' = none) → c = j → Goes S D base w0 cs0 f0 (lone f cs w) (leave S.en (some j) fn fr ds ro k hp nx))
    (hdraw : ∀ id ops, c = .region id ops true → Goes S D base w0 cs0 f0 (lone f cs w) ((drawX S.en ops).f fn fr t ds ro k hp nx))
    (hrange : ∀ x ps asg body, c = .rangeFunc x ps asg body → Goes S D base w0 cs0 f0 (lone f cs w) (rangeV S.en (ev S.en fr x) ps.toList asg body t fn fr ds ro k hp nx)) :
    Goes S D base w0 cs0 f0 (lone f cs w) ((codX S.en c).f fn fr t ds ro k hp nx) := by
  cases c with
  | skip => exact .turn hh hu hg h hm hf hs htd stepR_skip ht
  | label l => exact .turn hh hu hg h hm hf hs htd stepR_label ht
  | seq a b => exact .turn hh hu hg h hm hf hs htd stepR_seq (.code (.code ht))
  | cond x a b =>
    show Goes S D base w0 cs0 f0 (lone f cs w) (match ev S.en fr x with | .b s => .run fn fr (.code (bif s then a else b) t) ds ro k hp nx | _ => .bad 17)
    have hx := eval_act h hg hf x
    split
    · rename_i s hs'
      rw [hs'] at hx
      have hv := hx.b_inv
      refine .turn hh hu hg h hm hf hs htd (stepR_cond hv) ?_
      cases s <;> exact .code ht
    · exact .bad
  | block id c => exact .turn hh hu hg h hm hf hs htd stepR_block (.code (.blk ht))
  | loop c => exact .turn hh hu hg h hm hf hs htd stepR_loop (.code (.loop ht))
  | scope c =>
    exact .turn hh hu hg h hm hf hs htd stepR_scope (.code (.scope ht))
  | exit id =>
    show Goes S D base w0 cs0 f0 (lone f cs w) (jmpA (exitA id t) (leave S.en (some (.exit id)) fn fr ds ro k hp nx) fun t => .run fn fr t ds ro k hp nx)
    rcases ht.exit (id := id) with ⟨e1, e2⟩ | ⟨t', k2, e1, e2, e3⟩
    · rw [e1]; exact hleave _ (.inr (.inl ⟨id, rfl, e2⟩)) rfl
    · rw [e1]; exact .turn hh hu hg h hm hf hs htd (stepR_exit e2) e3
  | goto l =>
    show Goes S D base w0 cs0 f0 (lone f cs w) (jmpA (gotoA l t) (leave S.en (some (.goto l)) fn fr ds ro k hp nx) fun t => .run fn fr t ds ro k hp nx)
    rcases ht.goto (l := l) with ⟨e1, e2⟩ | ⟨t', k2, e1, e2, e3⟩
    · rw [e1]; exact hleave _ (.inr (.inr ⟨l, rfl, e2⟩)) rfl
    · rw [e1]; exact .turn hh hu hg h hm hf hs htd (stepR_goto e2) e3
  | ret => exact hleave _ (.inl rfl) rfl
  | region id ops draw =>
    cases draw
    · refine .turn hh hu hg h hm hf hs htd stepR_region (.rl ht (by simp) fun j i o h1 h2 => ?_)
      have hj : j < ops.size := by
        have := (List.getElem?_eq_some_iff.1 h1).1
        simpa using this
      rw [List.getElem?_range hj] at h1
      cases h1
      rw [Array.getElem?_toList] at h2; exact h2
    · exact hdraw id ops rfl
  | rangeFunc x ps asg body => exact hrange x ps asg body rfl
  | refuse why => exact .bad

/-- What stands ahead is no code and no operation. -/
theorem item_ok (hh : HR S base w0 U ι hp nx w) (hu : UV U V) (hg : GR S ι) (h : FrR S (D.d1 hp) ι (V n) fn fr td ds ro f) (hm : f.mode = .run) (hf : FR ι fr f.tmps) (hs : StkR S D.d0 ι V cs0 f0 n fn k cs) (ht : TDR ι td f.todo) :
    (∀ id t, td = .blk id t → Goes S D base w0 cs0 f0 (lone f cs w) (.run fn fr t ds ro k hp nx)) ∧ (∀ c t, td = .scope c t → Goes S D base w0 cs0 f0 (lone f cs w) (.run fn fr t ds ro k hp nx)) ∧
    (∀ c t, td = .loop c t → Goes S D base w0 cs0 f0 (lone f cs w) (.run fn fr (.code c (.loop c t)) ds ro k hp nx)) ∧ (∀ ops t, td = .rl ops [] t → Goes S D base w0 cs0 f0 (lone f cs w) (.run fn fr t ds ro k hp nx)) := by
  refine ⟨fun id t e => ?_, fun c t e => ?_, fun c t e => ?_, fun ops t e => ?_⟩
  all_goals (subst e; generalize htd : f.todo = k' at ht; cases ht)
  · rename_i kk ht; exact .turn hh hu hg h hm hf hs htd stepR_inBlock ht
  · rename_i kk ht; exact .turn hh hu hg h hm hf hs htd stepR_inScope ht
  · rename_i kk ht; exact .turn hh hu hg h hm hf hs htd stepR_inLoop (.code (.loop ht))
  · rename_i is kk hl hi ht
    have : is = [] := List.eq_nil_of_length_eq_zero hl.symm
    subst this
    exact .turn hh hu hg h hm hf hs htd stepR_region_end ht
end
end Go.Cv
/- The machine: operations one after another. -/
namespace Go.Cv
open Go Go.RowKit
section
variable {S : Sg} {D : DD} {D' : DrawR} {base : Nat} {w0 w w' : World} {cs0 cs : List Frame} {f0 : Nat} {ι ι' : Ip} {U : Nat → Option CO} {V : Nat → Nat → Option CO} {n : Nat} {hp : Tr CO} {nx fn : Nat} {fr : Tr CV} {td t : TD} {ds : List Nat} {ro : Option Nat} {k : Stk} {m : AM} {f f' : Frame}

/-- What the drawn regions' relations are to keep. -/
structure DDok (S : Sg) (D : DD) : Prop where
  mono0 : ∀ {ι ι' : Ip} {U ops l is fr tmps}, Ex ι ι' → D.d0 ι U ops l is fr tmps → D.d0 ι' U ops l is fr tmps
  rdF : ∀ {base : Nat} {w0 w : World} {cs0 cs : List Frame} {f0 : Nat} {ι : Ip} {U : Nat → Option CO} {V : Nat → Nat → Option CO} {n : Nat} {hp : Tr CO} {nx fn : Nat} {fr : Tr CV} {ops : Array Oper} {l : List PE} {t : TD} {ds : List Nat} {ro : Option Nat} {k : Stk} {f : Frame} {v : CV} {u : Value},
    HR S base w0 U ι hp nx w → UV U V → GR S ι → FrR S D.d0 ι (V n) fn fr (.rd ops l t) ds ro f → StkR S D.d0 ι V cs0 f0 n fn k cs → VR ι v u → SimR S D base w0 cs0 f0 (finish S.en v fn fr (.rd ops l t) ds ro k hp nx) (lone (f.finish u) cs w)
theorem DsR.mono (x : Ex ι ι') {df : List Deferred} (h : DsR ι ds df) : DsR ι' ds df := ⟨h.1, fun i r d a b => let ⟨L, h1, h2⟩ := h.2 i r d a b; ⟨L, x _ _ _ h1, h2⟩⟩
theorem RoR.mono (x : Ex ι ι') {mo : Option Nat} (h : RoR ι ro mo) : RoR ι' ro mo := by
  cases ro with
  | none => exact h
  | some l => obtain ⟨L, h1, h2⟩ := h; exact ⟨L, x _ _ _ h1, h2⟩
theorem FrR.mono (hD : ∀ {U ops l is fr tmps}, D' ι U ops l is fr tmps → D' ι' U ops l is fr tmps) (x : Ex ι ι') {U : Nat → Option CO} (h : FrR S D' ι U fn fr td ds ro f) : FrR S D' ι' U fn fr td ds ro f := by
  refine ⟨h.fnE, h.size, h.kind, h.df.mono x, h.ro.mono x, ?_⟩
  rcases h.at_ with ⟨a, b, c, d⟩ | ⟨a, b, c⟩ | ⟨a, ops, l, t, is, k, b, c, d, e⟩
  · exact .inl ⟨a, b, c, d.mono x⟩
  · exact .inr (.inl ⟨a, b.mono x, c.mono x⟩)
  · exact .inr (.inr ⟨a, ops, l, t, is, k, b, c, d.mono x, hD e⟩)
theorem StkR.mono (hD : DDok S D) (x : Ex ι ι') (h : StkR S D.d0 ι V cs0 f0 n fn k cs) : StkR S D.d0 ι' V cs0 f0 n fn k cs := by
  induction h with
  | nil => exact .nil
  | cons h _ ih => exact .cons (h.mono (fun e => hD.mono0 x e) x) ih

/-- A frame that has got what it waited for. -/
theorem finish_ok (hD : DDok S D) {v : CV} {u : Value} (hh : HR S base w0 U ι hp nx w) (hu : UV U V) (hg : GR S ι) (h : FrR S D.d0 ι (V n) fn fr td ds ro f) (hs : StkR S D.d0 ι V cs0 f0 n fn k cs) (hv : VR ι v u) :
    SimR S D base w0 cs0 f0 (finish S.en v fn fr td ds ro k hp nx) (lone (f.finish u) cs w) := by
  cases td with
  | rd ops l t => exact hD.rdF hh hu hg h hs hv
  | rl ops l t =>
    cases l with
    | nil => trivial
    | cons o l =>
      rcases h.at_ with ⟨a, _⟩ | ⟨hm, ht, hf⟩ | ⟨_, _, _, _, _, _, b, _⟩
      · cases a
      · generalize htd : f.todo = todo at ht
        cases ht with
        | @rl _ _ is _ kk ht hl hi =>
          cases is with
          | nil => cases hl
          | cons i is =>
            have ho : ops[i]? = some o := hi 0 i o rfl rfl
            have htail : TDR ι (.rl ops l t) (.inRegion ops is :: kk) := .rl ht (by simpa using hl) fun j i' o' h1 h2 => hi (j + 1) i' o' (by simpa using h1) (by simpa using h2)
            show SimR S D base w0 cs0 f0 (putD (.bad 1) (ntOf S.en fn) fr o.dst v fun fr => .run fn fr (.rl ops l t) ds ro k hp nx) _
            unfold putD
            cases hd : o.dst with
            | none =>
              have hfin : f.finish u = { f with todo := .inRegion ops is :: kk } := by
                simp [Frame.finish, htd, ho, hd]
              rw [hfin]
              exact ⟨ι, U, V, n, _, cs, w, rfl, hh, hu, hg, ⟨h.fnE, h.size, h.kind, h.df, h.ro, .inr (.inl ⟨hm, htail, hf⟩)⟩, hs⟩
            | some d =>
              have hfin : f.finish u = { f with tmps := f.tmps.setIfInBounds d u, todo := .inRegion ops is :: kk } := by
                simp [Frame.finish, htd, ho, hd]
              rw [hfin]
              cases hb : (Nat.ble (Nat.succ d) (ntOf S.en fn) && Nat.ble (Nat.succ d) keyTop)
              · simp only [hb]; trivial
              · simp only [hb]
                simp only [Bool.and_eq_true, ble_iff] at hb
                show SimR S D base w0 cs0 f0 (frc v fun v => Tr.setK fr d v fun fr => .run fn fr (.rl ops l t) ds ro k hp nx) _
                rw [frc_eq, Tr.setK_eq]
                exact ⟨ι, U, V, n, _, cs, w, rfl, hh, hu, hg, ⟨h.fnE, by simpa using h.size, h.kind, h.df, h.ro, .inr (.inl ⟨hm, htail, hf.set hv (by rw [h.size]; exact hb.1) hb.2⟩)⟩, hs⟩
      · cases b
  | rf l t =>
    rcases h.at_ with ⟨a, _⟩ | ⟨hm, ht, hf⟩ | ⟨_, _, _, _, _, _, b, _⟩
    · cases a
    · generalize htd : f.todo = todo at ht
      cases ht with
      | @rf _ L _ kk hL ht =>
        have hfin : f.finish u = { f with todo := .endRangeFunc L.blk :: kk } := by simp [Frame.finish, htd]
        rw [hfin]
        exact ⟨ι, U, V, n, _, cs, w, rfl, hh, hu, hg, ⟨h.fnE, h.size, h.kind, h.df, h.ro, .inr (.inl ⟨hm, .erf hL ht, hf⟩)⟩, hs⟩
    · cases b
  | _ => trivial

/-- An operation of the model that has given a value, or none. -/
theorem step_val {P : Program} {ops : Array Oper} {i : Nat} {rest : List Nat} {kk : List Item} {o : Oper} {u : Value} (hm : f.mode = .run) (htd : f.todo = .inRegion ops (i :: rest) :: kk) (ho : ops[i]? = some o) (hd : ∀ c, o.op ≠ .defer c)
    (hw : Region.wanted o (yielded ops f.tmps) = true) (hr : Res ((execOp (actOf f).eval o).run P w) u w') : Go.step P (lone f cs w) = .next (lone (f.finish u) cs w') := by
  have hg := stepGR_op (P := P) (b := f) (a := actOf f) (k := kk) (cs := cs) (w := w) (rest := rest) ho hw
  rw [← htd, atR_self hm, Oper.semAt_eq _ _ _ hd] at hg
  rcases hr with hr | ⟨hr, rfl⟩
  · exact step_lone_go (by rw [hg]; simp [stepG.apply, hr])
  · exact step_lone_go (by rw [hg]; simp [stepG.apply, hr])
theorem step_skip {P : Program} {ops : Array Oper} {i : Nat} {rest : List Nat} {kk : List Item} {o : Oper} (hm : f.mode = .run) (htd : f.todo = .inRegion ops (i :: rest) :: kk) (ho : ops[i]? = some o)
    (hw : Region.wanted o (yielded ops f.tmps) = false) : Go.step P (lone f cs w) = .next (lone (f.finish undef) cs w) := by
  have := stepR_op_skip (P := P) (b := f) (a := actOf f) (k := kk) (cs := cs) (w := w) (ops := ops) (i := i) (rest := rest) (by simp [ho]; exact hw)
  rw [← Frame.finish_atR, ← htd, atR_self hm] at this
  exact this
end
end Go.Cv
/- The machine: an operation. -/
namespace Go.Cv
open Go Go.RowKit
section
variable {S : Sg} {D : DD} {base : Nat} {w0 w w' : World} {cs0 cs : List Frame} {f0 : Nat} {ι ι' : Ip} {U : Nat → Option CO} {V : Nat → Nat → Option CO} {n : Nat} {hp : Tr CO} {nx fn : Nat} {fr fr' : Tr CV} {td t : TD} {ds : List Nat} {ro : Option Nat} {k : Stk} {m : AM} {f f' : Frame}

theorem VR.u_inv {v : Value} (h : VR ι .u v) : v = undef := by cases h; rfl
theorem bad_or (m : AM) : (∃ n, m = .bad n) ∨ nb m := by
  cases m with
  | bad n => exact .inl ⟨n, rfl⟩
  | _ => exact .inr fun n e => by cases e
theorem dstAt_eq {ops : Array Oper} {g t : Nat} (h : dstAt ops.toList g = some t) : (ops[g]?).bind (·.dst) = some t := by
  unfold dstAt at h
  rw [nth_eq, Array.getElem?_toList] at h
  cases ho : ops[g]? with
  | none => rw [ho] at h; cases h
  | some o => rw [ho] at h; exact h
theorem undef_nb {s : Bool} : undef ≠ .bool s := by intro e; cases e
theorem yield_b {ops : Array Oper} {g t : Nat} {tmps : Array Value} {s : Bool} (h : dstAt ops.toList g = some t) (hv : tmps.getD t undef = .bool s) : yielded ops tmps g = some s := by
  unfold yielded
  rw [dstAt_eq h]
  show (match tmps[t]? with | some (.bool b) => some b | _ => none) = _
  rw [Array.getD_eq_getD_getElem?] at hv
  cases ht : tmps[t]? with
  | none => rw [ht] at hv; exact (undef_nb hv).elim
  | some v => rw [ht] at hv; have hv : v = .bool s := hv; rw [hv]
theorem yield_u {ops : Array Oper} {g t : Nat} {tmps : Array Value} (h : dstAt ops.toList g = some t) (hv : tmps.getD t undef = undef) : yielded ops tmps g = none := by
  unfold yielded
  rw [dstAt_eq h]
  show (match tmps[t]? with | some (.bool b) => some b | _ => none) = _
  rw [Array.getD_eq_getD_getElem?] at hv
  cases ht : tmps[t]? with
  | none => rfl
  | some v => rw [ht] at hv; have hv : v = undef := hv; rw [hv]; rfl

theorem ex_ok (hS : SOk S) (hD : DDok S D) {fin : KA} {o : Oper} {ops : Array Oper} {i : Nat} {is : List Nat} {kk : List Item} (hh : HR S base w0 U ι hp nx w) (hu : UV U V) (hg : GR S ι) (h : FrR S D.d0 ι (V n) fn fr td ds ro f) (hm : f.mode = .run) (htd : f.todo = .inRegion ops (i :: is) :: kk) (ho : ops[i]? = some o)
    (hf : FR ι fr' f.tmps) (hal : Alike S.en fr fr' o.op.operands.toList) (hs : StkR S D.d0 ι V cs0 f0 n fn k cs) (hfin : ∀ v hp nx, fin v hp nx = finish S.en v fn fr td ds ro k hp nx) (hw : Region.wanted o (yielded ops f.tmps) = true)
    (hcall : ∀ x c, o.op = .call c → c.callee = .value x → Goes S D base w0 cs0 f0 (lone f cs w) (callV S.en (ev S.en fr x) (c.args.toList.map (ev S.en fr)) fn fr td ds ro k hp nx)) :
    Goes S D base w0 cs0 f0 (lone f cs w) ((exX S.en o.op).f fin fn fr td ds ro k hp nx) := by
  have main : Goes S D base w0 cs0 f0 (lone f cs w) (chg (.bad (Nat.add 1000 fn)) S.en hp nx fr o fin) := by
    rw [chg_congr hal]
    rcases bad_or (chg (.bad (Nat.add 1000 fn)) S.en hp nx fr' o fin) with ⟨b, hb⟩ | hnb
    · rw [hb]; exact .bad
    · have hd : ∀ c, o.op ≠ .defer c := fun c e => hnb (Nat.add 1000 fn) (by unfold chg; rw [e]; rfl)
      obtain ⟨v, hp', nx', e, ι', u, w', hx, hh', hr, hv⟩ := chg_ok (a := actOf f) hS hh hg hf hnb ⟨_, rfl⟩ rfl
      rw [e, hfin]
      exact .head (step_val hm htd ho hd hw hr) (.stay (finish_ok hD hh' hu (hg.mono hx) (h.mono (fun e => hD.mono0 hx e) hx) (hs.mono hD hx) hv))
  unfold exX
  cases hop : o.op with
  | call c =>
    show Goes S D base w0 cs0 f0 (lone f cs w) ((exC S.en c).f fin fn fr td ds ro k hp nx)
    unfold exC
    cases hc : c.callee with
    | value x => exact hcall x c hop hc
    | builtin b =>
      have : chg (.bad (Nat.add 1000 fn)) S.en hp nx fr o fin = (chgB S.en b c.args.toList c.argTypes.toList).f (.bad (Nat.add 1000 fn)) hp nx fr fin := by
        unfold chg; rw [hop]; simp only [chgX, hc]
      rw [this] at main
      exact main
    | invoke r nm => exact .bad
  | _ =>
    unfold chg at main
    rw [hop] at main
    exact main

theorem op_ok (hS : SOk S) (hD : DDok S D) {fin : KA} {o : Oper} {ops : Array Oper} {i : Nat} {is : List Nat} {kk : List Item} (hh : HR S base w0 U ι hp nx w) (hu : UV U V) (hg : GR S ι) (h : FrR S D.d0 ι (V n) fn fr td ds ro f) (hm : f.mode = .run) (htd : f.todo = .inRegion ops (i :: is) :: kk) (ho : ops[i]? = some o)
    (hf : FR ι fr' f.tmps) (hal : Alike S.en fr fr' o.op.operands.toList) (hgd : ∀ g wt t, o.guard = some (g, wt) → dstAt ops.toList g = some t → getT fr t = getT fr' t) (hs : StkR S D.d0 ι V cs0 f0 n fn k cs) (hfin : ∀ v hp nx, fin v hp nx = finish S.en v fn fr td ds ro k hp nx)
    (hcall : ∀ x c, o.op = .call c → c.callee = .value x → Region.wanted o (yielded ops f.tmps) = true → Goes S D base w0 cs0 f0 (lone f cs w) (callV S.en (ev S.en fr x) (c.args.toList.map (ev S.en fr)) fn fr td ds ro k hp nx)) :
    Goes S D base w0 cs0 f0 (lone f cs w) ((opX S.en ops.toList o).f fin fn fr td ds ro k hp nx) := by
  unfold opX
  cases hgu : o.guard with
  | none =>
    have hw : Region.wanted o (yielded ops f.tmps) = true := by simp [Region.wanted, hgu]
    exact ex_ok hS hD hh hu hg h hm htd ho hf hal hs hfin hw fun x c a b => hcall x c a b hw
  | some q =>
    obtain ⟨g, wt⟩ := q
    show Goes S D base w0 cs0 f0 (lone f cs w) ((match dstAt ops.toList g with
      | none => (⟨fun _ _ _ _ _ _ _ _ _ => .bad 23⟩ : XE)
      | some t => ⟨fun fin fn fr td ds ro k hp nx => match wantB wt (getT fr t) with
        | some true => (exX S.en o.op).f fin fn fr td ds ro k hp nx
        | some false => fin .u hp nx
        | none => .bad 24⟩).f fin fn fr td ds ro k hp nx)
    cases hdt : dstAt ops.toList g with
    | none => exact .bad
    | some t =>
      show Goes S D base w0 cs0 f0 (lone f cs w) (match wantB wt (getT fr t) with
        | some true => (exX S.en o.op).f fin fn fr td ds ro k hp nx
        | some false => fin .u hp nx
        | none => .bad 24)
      have hv := hf.getT t
      rw [← hgd g wt t hgu hdt] at hv
      have hskip : Region.wanted o (yielded ops f.tmps) = false → Goes S D base w0 cs0 f0 (lone f cs w) (fin .u hp nx) := fun hw => by
        rw [hfin]
        exact .head (step_skip hm htd ho hw) (.stay (finish_ok hD hh hu hg h hs .u))
      generalize hq : getT fr t = q at hv
      cases q with
      | b s =>
        have hy := yield_b hdt hv.b_inv
        have hws : Region.wanted o (yielded ops f.tmps) = (bif wt then s else !s) := by
          simp only [Region.wanted, hgu, hy]
          cases wt <;> cases s <;> rfl
        show Goes S D base w0 cs0 f0 (lone f cs w) (match some (bif wt then s else !s) with
          | some true => (exX S.en o.op).f fin fn fr td ds ro k hp nx
          | some false => fin .u hp nx
          | none => .bad 24)
        rw [← hws]
        cases hw : Region.wanted o (yielded ops f.tmps) with
        | true => exact ex_ok hS hD hh hu hg h hm htd ho hf hal hs hfin hw fun x c a b => hcall x c a b hw
        | false => exact hskip hw
      | u =>
        have hy := yield_u hdt hv.u_inv
        exact hskip (by simp [Region.wanted, hgu, hy])
      | _ => exact .bad
end
end Go.Cv
/- The machine: returns. -/
namespace Go.Cv
open Go Go.RowKit
/-- The table of functions says what the program has. -/
structure FOk (S : Sg) : Prop where
  F : ∀ f fi, S.en.F f = some fi → ∃ fn, S.P.funcs[f]? = some fn ∧ fn.body = some fi.body ∧ fn.ntmps = fi.ntmps ∧ fn.results.toList = fi.results ∧ (fn.name == "runtime.NumGoroutine") = false
section
variable {S : Sg} {D : DD} {base : Nat} {w0 w w' : World} {cs0 cs : List Frame} {f0 : Nat} {ι ι' : Ip} {U : Nat → Option CO} {V : Nat → Nat → Option CO} {n : Nat} {hp : Tr CO} {nx fn : Nat} {fr fr' : Tr CV} {td t : TD} {ds : List Nat} {ro : Option Nat} {k : Stk} {m : AM} {f f' : Frame}

noncomputable def resRow (tmps : Array Value) (r : ResultVar) : Sem Value := match r with
  | .tmp t => pure (tmps.getD t undef)
  | .cell a t => do loadVar t (← asAddr (tmps.getD a undef))
theorem results_eq (fn : Func) (tmps : Array Value) : results fn tmps = (do let vs ← fn.results.mapM (resRow tmps); pure (if h : vs.size = 1 then vs[0] else .tuple vs)) := by
  unfold results
  congr 2
theorem mapO_cons {α β : Type} (g : α → Option β) (x : α) (l : List α) : mapO g (x :: l) = match g x with | none => none | some y => match mapO g l with | none => none | some ys => some (y :: ys) := rfl
theorem rows_ok (hS : SOk S) (hR : Rd S ι hp w) (hf : FR ι fr f.tmps) : ∀ (rs : List ResultVar) (vs : List CV), mapO (resV S.en fr hp) rs = some vs → ∃ us, (rs.mapM (resRow f.tmps)).run S.P w = .ok us w ∧ VRL ι vs us
  | [], vs, h => by cases h; exact ⟨[], rfl, .nil⟩
  | r :: rs, vs, h => by
    rw [mapO_cons] at h
    split at h
    · cases h
    · rename_i v hv
      split at h
      · cases h
      · rename_i ys hys
        cases h
        obtain ⟨us, h1, h2⟩ := rows_ok hS hR hf rs ys hys
        have hone : ∃ u, (resRow f.tmps r).run S.P w = .ok u w ∧ VR ι v u := by
          cases r with
          | tmp t =>
            have hv : some (getT fr t) = some v := hv
            cases hv
            exact ⟨_, rfl, hf.getT t⟩
          | cell a t =>
            replace hv : (match getT fr a with | .p r g off => loadP S.en t hp r g off | _ => none) = some v := hv
            have ha := hf.getT a
            split at hv
            · rename_i r g off hq
              rw [hq] at ha
              obtain ⟨L, hL, hlo, he⟩ := ha.p_inv
              obtain ⟨u, h1, h2⟩ := loadP_ok hS hR hv hL hlo
              exact ⟨u, by simp only [resRow, Sem.run_bind, he, asAddr, Sem.run_pure, Result.andThen_ok]; exact h1, h2⟩
            · cases hv
        obtain ⟨u, h3, h4⟩ := hone
        exact ⟨u :: us, by simp only [List.mapM_cons, Sem.run_bind, h3, h1, Result.andThen_ok, Sem.run_pure], .cons h4 h2⟩
theorem oneV_ok {vs : List CV} {us : List Value} (h : VRL ι vs us) : VR ι (oneV vs) (if h : (⟨us⟩ : Array Value).size = 1 then (⟨us⟩ : Array Value)[0] else .tuple ⟨us⟩) := by
  match vs, h with
  | [v], h =>
    obtain ⟨u, us', rfl, h1, h2⟩ := h.cons_inv
    have := h2.nil_inv
    subst this
    exact h1
  | [], h =>
    have := h.nil_inv
    subst this
    exact .tup' h
  | v :: v' :: vs, h =>
    obtain ⟨u, us', rfl, h1, h2⟩ := h.cons_inv
    obtain ⟨u', us2, rfl, h3, h4⟩ := h2.cons_inv
    rw [dif_neg (by simp)]
    exact .tup' h

theorem unw_ok (hS : SOk S) (hD : DDok S D) (hF : FOk S) (hh : HR S base w0 U ι hp nx w) (hu : UV U V) (hg : GR S ι) {D' : DrawR} (h : FrR S D' ι (V n) fn fr .rt ds ro f) (hs : StkR S D.d0 ι V cs0 f0 n fn k cs) :
    Goes S D base w0 cs0 f0 (lone f cs w) (unw S.en fn fr ds ro k hp nx) := by
  obtain ⟨hm, hro, hf⟩ : f.mode = .returning ∧ f.roundOf = none ∧ FR ι fr f.tmps := by
    rcases h.at_ with ⟨_, a, b, c⟩ | ⟨_, b, _⟩ | ⟨_, _, _, _, _, _, b, _⟩
    · exact ⟨a, b, c⟩
    · cases b
    · cases b
  cases ds with
  | cons r ds =>
    show Goes S D base w0 cs0 f0 (lone f cs w) (match hp.get r with
      | some .df => Tr.setK hp r .dead fun hp => .run fn fr .rt ds ro k hp nx
      | _ => .bad 14)
    split
    · rename_i hr
      rw [Tr.setK_eq]
      cases hdf : f.defers with
      | nil => have := h.df.1; rw [hdf] at this; cases this
      | cons d df =>
        obtain ⟨L, hL, rfl⟩ := h.df.2 0 r d rfl (by rw [hdf]; rfl)
        obtain ⟨_, hb⟩ := hh.rd.of hL hr
        have hlt : L.blk < w.heap.size := (Array.getElem?_eq_some_iff.1 hb).1
        have hst : Go.step S.P (lone f cs w) = .next (lone { f with defers := df } cs (w.putObj L.blk (.deferred none))) :=
          step_lone_go (by simp [stepG, hm, unwind, hdf, run_takeDeferred hb])
        have hnew := hh.setObj (o' := .dead) (ob := .deferred none) hL hr rfl trivial
        refine .head hst (.stay ⟨ι, U, V, n, _, cs, _, rfl, hnew, hu, hg, ⟨h.fnE, h.size, h.kind, ⟨?_, fun i r' d' a b => ?_⟩, h.ro, .inl ⟨rfl, hm, hro, hf⟩⟩, hs⟩)
        · have := h.df.1; rw [hdf] at this; simpa using this
        · exact h.df.2 (i + 1) r' d' (by simpa using a) (by rw [hdf]; simpa using b)
    · exact .bad
  | nil =>
    have hdf : f.defers = [] := List.eq_nil_of_length_eq_zero h.df.1.symm
    show Goes S D base w0 cs0 f0 (lone f cs w) (retF S.en fn fr k hp nx)
    unfold retF
    split
    · exact .bad
    · rename_i fi hfi
      split
      · exact .bad
      · rename_i vs hvs
        obtain ⟨F, hF1, hF2, hF3, hF4, hF5⟩ := hF.F fn fi hfi
        rw [← hF4] at hvs
        obtain ⟨us, h1, h2⟩ := rows_ok hS hh.rd hf _ vs hvs
        have hres : (results F f.tmps).run S.P w = .ok (if h : (⟨us⟩ : Array Value).size = 1 then (⟨us⟩ : Array Value)[0] else .tuple ⟨us⟩) w := by
          rw [results_eq]
          simp only [Array.mapM_eq_mapM_toList, Sem.run_bind, Sem.run_map, h1, Result.andThen_ok, Sem.run_pure]
        have hv := oneV_ok h2
        generalize (if h : (⟨us⟩ : Array Value).size = 1 then (⟨us⟩ : Array Value)[0] else .tuple ⟨us⟩) = u at hres hv
        have hleave : f.leaving S.P w (.returned u) := ⟨hm, hdf, h.kind, F, by rw [h.fnE]; exact hF1, hres⟩
        unfold back
        cases hs with
        | nil => exact .stay ⟨ι, U, f, w, u, rfl, hh, hleave, h.fnE, hv⟩
        | cons hfr hs => exact .head (step_leave_returned hleave) (.stay (finish_ok hD hh hu hg hfr hs hv))
end
end Go.Cv
/- The machine: rounds of loops over functions, their begin and end. -/
namespace Go.Cv
open Go Go.RowKit
section
variable {S : Sg} {D : DD} {base : Nat} {w0 w w' : World} {cs0 cs : List Frame} {f0 : Nat} {ι ι' : Ip} {U : Nat → Option CO} {V : Nat → Nat → Option CO} {n : Nat} {hp : Tr CO} {nx fn : Nat} {fr fr' : Tr CV} {td t : TD} {ds : List Nat} {ro : Option Nat} {k : Stk} {m : AM} {f f' : Frame}

/-- Why a frame's code is left. -/
def Lv (f : Frame) (jump : Option Code) : Prop := (jump = none ∧ f.todo = []) ∨ ∃ j k', jump = some j ∧ f.todo = .code j :: k' ∧ (j = .ret ∨ (∃ id, j = .exit id ∧ exitTo id k' = none) ∨ ∃ l, j = .goto l ∧ gotoIn l k' = none)

theorem leave_ok (hD : DDok S D) {jump : Option Code} (hh : HR S base w0 U ι hp nx w) (hu : UV U V) (hg : GR S ι) {D' : DrawR} (h : FrR S D' ι (V n) fn fr td ds ro f) (hm : f.mode = .run) (hf : FR ι fr f.tmps) (hs : StkR S D.d0 ι V cs0 f0 n fn k cs) (hl : Lv f jump) :
    Goes S D base w0 cs0 f0 (lone f cs w) (leave S.en jump fn fr ds ro k hp nx) := by
  have hself := atR_self hm
  cases ro with
  | none =>
    have hro : f.roundOf = none := h.ro
    have hret : Go.step S.P (lone f cs w) = .next (lone { f with mode := .returning } cs w) → Goes S D base w0 cs0 f0 (lone f cs w) (.run fn fr .rt ds none k hp nx) := fun hst =>
      .head hst (.stay ⟨ι, U, V, n, _, cs, w, rfl, hh, hu, hg, ⟨h.fnE, h.size, h.kind, h.df, h.ro, .inl ⟨rfl, rfl, hro, hf⟩⟩, hs⟩)
    rcases hl with ⟨rfl, ht⟩ | ⟨j, k', rfl, ht, hj⟩
    · have := stepR_end (P := S.P) (a := actOf f) (cs := cs) (w := w) hro
      rw [← ht, hself] at this
      exact hret this
    · rcases hj with rfl | ⟨id, rfl, _⟩ | ⟨l, rfl, _⟩
      · have := stepR_ret (P := S.P) (a := actOf f) (k := k') (cs := cs) (w := w) hro
        rw [← ht, hself] at this
        exact hret this
      · exact .bad
      · exact .bad
  | some l =>
    obtain ⟨L, hL, hro⟩ := h.ro
    show Goes S D base w0 cs0 f0 (lone f cs w) (leaveR S.en l jump k hp nx)
    unfold leaveR
    split
    · rename_i st pd fn' fr' ps asg body df hr
      cases hs with
      | nil => exact .bad
      | @cons n2 _ fn2 fr2 td2 ds2 ro2 k2 f2 cs2 hfr hs2 =>
        obtain ⟨_, Ld, tmps, hLd, hsz, hfr', hb⟩ := hh.rd.of hL hr
        have hlt : L.blk < w.heap.size := (Array.getElem?_eq_some_iff.1 hb).1
        have hrun := run_endRound (P := S.P) jump hb
        have hst : Go.step S.P (lone f (f2 :: cs2) w) = .next (lone (f2.finish (.bool jump.isNone)) cs2 (w.putObj L.blk (.loop { state := if jump.isNone then .ready else .done, pending := jump, fn := fn', tmps, params := ps.toArray, assign := asg, body, defers := Ld.blk }))) := by
          rcases hl with ⟨rfl, ht⟩ | ⟨j, k', rfl, ht, hj⟩
          · have := stepR_round_end (P := S.P) (b := f) (a := actOf f) (c := f2) (cs := cs2) (w := w) hro h.kind hrun
            rw [← ht, hself] at this
            exact this
          · rcases hj with rfl | ⟨id, rfl, hx⟩ | ⟨q, rfl, hx⟩
            · have := stepR_round_ret (P := S.P) (b := f) (a := actOf f) (k := k') (c := f2) (cs := cs2) (w := w) hro h.kind hrun
              rw [← ht, hself] at this
              exact this
            · have := stepR_round_exit (P := S.P) (b := f) (a := actOf f) (k := k') (c := f2) (cs := cs2) (w := w) hro h.kind hx hrun
              rw [← ht, hself] at this
              exact this
            · have := stepR_round_goto (P := S.P) (b := f) (a := actOf f) (k := k') (c := f2) (cs := cs2) (w := w) hro h.kind hx hrun
              rw [← ht, hself] at this
              exact this
        cases jump with
        | none =>
          show Goes S D base w0 cs0 f0 (lone f (f2 :: cs2) w) (Tr.setK hp l (.lp 0 none fn' fr' ps asg body df) fun hp => finish S.en (.b true) fn2 fr2 td2 ds2 ro2 k2 hp nx)
          rw [Tr.setK_eq]
          have hnew := hh.setObj (o' := .lp 0 none fn' fr' ps asg body df) (ob := .loop { state := .ready, pending := none, fn := fn', tmps, params := ps.toArray, assign := asg, body, defers := Ld.blk }) hL hr rfl
            ⟨rfl, Ld, tmps, hLd, hsz, hfr', World.putObj_heap_same hlt⟩
          exact .head hst (.stay (finish_ok hD hnew hu hg hfr hs2 (.b _)))
        | some j =>
          show Goes S D base w0 cs0 f0 (lone f (f2 :: cs2) w) (Tr.setK hp l (.lp 2 (some j) fn' fr' ps asg body df) fun hp => finish S.en (.b false) fn2 fr2 td2 ds2 ro2 k2 hp nx)
          rw [Tr.setK_eq]
          have hnew := hh.setObj (o' := .lp 2 (some j) fn' fr' ps asg body df) (ob := .loop { state := .done, pending := (some j), fn := fn', tmps, params := ps.toArray, assign := asg, body, defers := Ld.blk }) hL hr rfl
            ⟨rfl, Ld, tmps, hLd, hsz, hfr', World.putObj_heap_same hlt⟩
          exact .head hst (.stay (finish_ok hD hnew hu hg hfr hs2 (.b _)))
    · exact .bad

/-- A round begins. -/
theorem beg_ok (hh : HR S base w0 U ι hp nx w) (hu : UV U V) (hg : GR S ι) {D' : DrawR} (h : FrR S D' ι (V n) fn fr (.br t) ds ro f) (hm : f.mode = .run) (hf : FR ι fr f.tmps) (ht : TDR ι (.br t) f.todo) (hs : StkR S D.d0 ι V cs0 f0 n fn k cs) :
    Goes S D base w0 cs0 f0 (lone f cs w) (begL t fn fr ds ro k hp nx) := by
  unfold begL
  cases ro with
  | none => exact .bad
  | some l =>
    obtain ⟨L, hL, hro⟩ := h.ro
    show Goes S D base w0 cs0 f0 (lone f cs w) (match hp.get l with
      | some (.lp st pd fn' fr' ps asg body df) => bif Nat.beq st 0 then Tr.setK hp l (.lp 1 pd fn' fr' ps asg body df) fun hp => .run fn fr t ds (some l) k hp nx else .bad 28
      | _ => .bad 28)
    split
    · rename_i st pd fn' fr' ps asg body df hr
      cases hb0 : Nat.beq st 0
      · exact .bad
      · rw [beq_iff] at hb0
        subst hb0
        show Goes S D base w0 cs0 f0 (lone f cs w) (Tr.setK hp l (.lp 1 pd fn' fr' ps asg body df) fun hp => .run fn fr t ds (some l) k hp nx)
        rw [Tr.setK_eq]
        obtain ⟨_, Ld, tmps, hLd, hsz, hfr', hb⟩ := hh.rd.of hL hr
        have hlt : L.blk < w.heap.size := (Array.getElem?_eq_some_iff.1 hb).1
        have hrun := run_beginRound (P := S.P) hb rfl
        generalize htd : f.todo = todo at ht
        cases ht with
        | @br _ kk ht =>
          have := stepR_beginRound (P := S.P) (b := f) (a := actOf f) (k := kk) (cs := cs) (w := w) hro hrun
          rw [← htd, atR_self hm] at this
          have hnew := hh.setObj (o' := .lp 1 pd fn' fr' ps asg body df) (ob := .loop { state := .busy, pending := pd, fn := fn', tmps, params := ps.toArray, assign := asg, body, defers := Ld.blk }) hL hr rfl
            ⟨rfl, Ld, tmps, hLd, hsz, hfr', World.putObj_heap_same hlt⟩
          exact .head this (.stay ⟨ι, U, V, n, _, cs, _, rfl, hnew, hu, hg, ⟨h.fnE, h.size, h.kind, h.df, ⟨L, hL, hro⟩, .inr (.inl ⟨rfl, ht, hf⟩)⟩, hs⟩)
    · exact .bad

/-- A loop over a function is done. -/
theorem end_ok {l : Nat} (hh : HR S base w0 U ι hp nx w) (hu : UV U V) (hg : GR S ι) {D' : DrawR} (h : FrR S D' ι (V n) fn fr (.erf l t) ds ro f) (hm : f.mode = .run) (hf : FR ι fr f.tmps) (ht : TDR ι (.erf l t) f.todo) (hs : StkR S D.d0 ι V cs0 f0 n fn k cs) :
    Goes S D base w0 cs0 f0 (lone f cs w) (endL l t fn fr ds ro k hp nx) := by
  unfold endL
  split
  · rename_i st pd fn' fr' ps asg body df hr
    cases hb0 : Nat.beq st 1
    · have hgo : Goes S D base w0 cs0 f0 (lone f cs w) (match pd with
          | none => .run fn fr t ds ro k (hp.set l (.lp 3 pd fn' fr' ps asg body df)) nx
          | some c => .run fn fr (.code c t) ds ro k (hp.set l (.lp 3 pd fn' fr' ps asg body df)) nx) := by
        generalize htd : f.todo = todo at ht
        cases ht with
        | @erf _ L _ kk hL ht =>
          obtain ⟨_, Ld, tmps, hLd, hsz, hfr', hb⟩ := hh.rd.of hL hr
          have hlt : L.blk < w.heap.size := (Array.getElem?_eq_some_iff.1 hb).1
          have hrun := run_endLoop (P := S.P) hb (by
            have : st ≠ 1 := fun e => by rw [e] at hb0; cases hb0
            show stOf st ≠ .busy
            match st, this with
            | 0, _ => intro e; cases e
            | 2, _ => intro e; cases e
            | _ + 3, _ => intro e; cases e)
          have hst : Go.step S.P (lone f cs w) = .next (lone { f with todo := (pd.map Item.code).toList ++ kk } cs (w.putObj L.blk (.loop { state := .exhausted, pending := pd, fn := fn', tmps, params := ps.toArray, assign := asg, body, defers := Ld.blk }))) :=
            step_lone_go (by simp [stepG, stepG.exec, hm, htd, Sem.runT_eq, hrun])
          have hnew := hh.setObj (o' := .lp 3 pd fn' fr' ps asg body df) (ob := .loop { state := .exhausted, pending := pd, fn := fn', tmps, params := ps.toArray, assign := asg, body, defers := Ld.blk }) hL hr rfl
              ⟨rfl, Ld, tmps, hLd, hsz, hfr', World.putObj_heap_same hlt⟩
          cases pd with
          | none => exact .head hst (.stay ⟨ι, U, V, n, _, cs, _, rfl, hnew, hu, hg, ⟨h.fnE, h.size, h.kind, h.df, h.ro, .inr (.inl ⟨hm, ht, hf⟩)⟩, hs⟩)
          | some c => exact .head hst (.stay ⟨ι, U, V, n, _, cs, _, rfl, hnew, hu, hg, ⟨h.fnE, h.size, h.kind, h.df, h.ro, .inr (.inl ⟨hm, .code ht, hf⟩)⟩, hs⟩)
      cases pd with
      | none =>
        show Goes S D base w0 cs0 f0 (lone f cs w) (Tr.setK hp l (.lp 3 none fn' fr' ps asg body df) fun hp => .run fn fr t ds ro k hp nx)
        rw [Tr.setK_eq]; exact hgo
      | some c =>
        show Goes S D base w0 cs0 f0 (lone f cs w) (Tr.setK hp l (.lp 3 (some c) fn' fr' ps asg body df) fun hp => .run fn fr (.code c t) ds ro k hp nx)
        rw [Tr.setK_eq]; exact hgo
    · exact .bad
  · exact .bad
end
end Go.Cv
/- The machine: calls. -/
namespace Go.Cv
open Go Go.RowKit
/-- The table of facts says what the program does. -/
def MOk (S : Sg) (base : Nat) (w0 : World) : Prop := ∀ f args v, recall args (S.en.M f) = some v → ∀ (ι : Ip) (us : List Value) (w : World), VRL ι args us → Below base w0 w → base ≤ w.heap.size →
  (callFunc f us.toArray).run S.P w = .ok (.enter f us.toArray) w ∧ ∃ u, VR ι v u ∧ Calls S.P f us.toArray w fun e w' => e = .returned u ∧ Below w.heap.size w w'
section
variable {S : Sg} {D : DD} {base : Nat} {w0 w w' : World} {cs0 cs : List Frame} {f0 : Nat} {ι ι' : Ip} {U : Nat → Option CO} {V : Nat → Nat → Option CO} {n : Nat} {hp : Tr CO} {nx fn : Nat} {fr fr' : Tr CV} {td t : TD} {ds : List Nat} {ro : Option Nat} {k : Stk} {m : AM} {f f' fw : Frame}

theorem setArgs_ok {tmps : Array Value} : ∀ (args : List CV) (us : List Value) (fr : Tr CV) (i : Nat) (K : Tr CV → AM), VRL ι args us → FR ι fr tmps → (∀ (j : Nat) (u : Value), us[j]? = some u → tmps.getD (i + j) undef = u) → i + args.length ≤ keyTop →
    ∃ fr', setArgs args fr i K = K fr' ∧ FR ι fr' tmps
  | [], us, fr, i, K, _, hf, _, _ => ⟨fr, rfl, hf⟩
  | v :: args, us, fr, i, K, h, hf, ht, hk => by
    obtain ⟨u, us', rfl, h1, h2⟩ := h.cons_inv
    simp only [List.length_cons] at hk
    obtain ⟨fr', e, hf'⟩ := setArgs_ok args us' (fr.set i v) (i + 1) K h2 (fun t v' e => by
        rw [Tr.get_set _ _ (by omega)] at e
        split at e
        · rename_i he; cases e; subst he
          have := ht 0 u rfl
          rw [Nat.add_zero] at this
          rw [this]; exact h1
        · exact hf t v' e) (fun j u' hj => by
        have := ht (j + 1) u' (by simpa using hj)
        rw [show i + 1 + j = i + (j + 1) by omega]; exact this) (by omega)
    refine ⟨fr', ?_, hf'⟩
    show frc v (fun v => Tr.setK fr i v fun fr => setArgs args fr (i + 1) K) = _
    rw [frc_eq, Tr.setK_eq]; exact e
theorem setPs_ok : ∀ (ps : List Nat) (vs : List CV) (us : List Value) (fr : Tr CV) (tmps : Array Value) (K : Tr CV → AM) (z : AM), VRL ι vs us → FR ι fr tmps → (setPs tmps.size ps vs fr K z = z) ∨ (us.length = ps.length ∧ ∃ fr', setPs tmps.size ps vs fr K z = K fr' ∧ FR ι fr' ((ps.zip us).foldl (fun (tmps : Array Value) (q : Nat × Value) => tmps.setIfInBounds q.1 q.2) tmps))
  | [], vs, us, fr, tmps, K, z, h, hf => by
    cases vs with
    | nil =>
      have := h.nil_inv
      subst this
      exact .inr ⟨rfl, fr, rfl, hf⟩
    | cons v vs => exact .inl rfl
  | p :: ps, vs, us, fr, tmps, K, z, h, hf => by
    cases vs with
    | nil => exact .inl rfl
    | cons v vs =>
      obtain ⟨u, us', rfl, h1, h2⟩ := h.cons_inv
      have he0 : setPs tmps.size (p :: ps) (v :: vs) fr K z = bif Nat.ble (Nat.succ p) keyTop && Nat.ble (Nat.succ p) tmps.size then frc v fun v => Tr.setK fr p v fun fr => setPs tmps.size ps vs fr K z else z := rfl
      rw [he0]
      cases hb : (Nat.ble (Nat.succ p) keyTop && Nat.ble (Nat.succ p) tmps.size)
      · exact .inl rfl
      · simp only [Bool.and_eq_true, ble_iff] at hb
        have hsz : (tmps.setIfInBounds p u).size = tmps.size := by simp
        have := setPs_ok ps vs us' (fr.set p v) (tmps.setIfInBounds p u) K z h2 (hf.set h1 hb.2 hb.1)
        rw [hsz] at this
        show (frc v (fun v => Tr.setK fr p v fun fr => setPs tmps.size ps vs fr K z) = z) ∨ _ ∧ ∃ fr', frc v (fun v => Tr.setK fr p v fun fr => setPs tmps.size ps vs fr K z) = _ ∧ _
        rw [frc_eq, Tr.setK_eq]
        rcases this with h3 | ⟨h3, fr', e1, e2⟩
        · exact .inl h3
        · exact .inr ⟨by simp [h3], fr', e1, by simpa using e2⟩

/-- A call of a function. -/
theorem callF_ok (hD : DDok S D) (hF : FOk S) (hM : MOk S base w0) {fnum : Nat} {args : List CV} {us : List Value} {M : Machine} (hh : HR S base w0 U ι hp nx w) (hu : UV U V) (hg : GR S ι) (hfw : FrR S D.d0 ι (V n) fn fr td ds ro fw) (hs : StkR S D.d0 ι V cs0 f0 n fn k cs) (hargs : VRL ι args us)
    (hE : (callFunc fnum us.toArray).run S.P w = .ok (.enter fnum us.toArray) w → Go.step S.P M = .next (lone (Frame.enter S.P fnum us.toArray .normal) (fw :: cs) w))
    (hext : ∀ code, fnum < 1000000 → S.en.X fnum = some code → Goes S D base w0 cs0 f0 M (extF S.en fnum code args fn fr td ds ro k hp nx)) :
    Goes S D base w0 cs0 f0 M (callF S.en fnum args fn fr td ds ro k hp nx) := by
  unfold callF
  cases hr : recall args (S.en.M fnum) with
  | some v =>
    obtain ⟨h1, u, h2, h3⟩ := hM fnum args v hr ι us w hargs hh.below hh.top
    obtain ⟨e, w'', fr'', ⟨rfl, hbel⟩, hcomes, hfn, hleave⟩ := h3 (fw :: cs)
    have hst : Steps S.P M (lone fr'' (fw :: cs) w'') := .head (hE h1) hcomes
    have hh2 := hh.other hbel rfl
    exact ⟨_, Steps.trans hst (.one (step_leave_returned hleave)), finish_ok hD hh2 hu hg hfw hs h2⟩
  | none =>
    cases hx : S.en.X fnum with
    | some code =>
      show Goes S D base w0 cs0 f0 M (bif Nat.ble 1000000 fnum then .bad 31 else extF S.en fnum code args fn fr td ds ro k hp nx)
      cases hb : Nat.ble 1000000 fnum
      · have : ¬ 1000000 ≤ fnum := fun hle => by have := (ble_iff _ _).2 hle; rw [hb] at this; cases this
        exact hext code (by omega) hx
      · exact .bad
    | none =>
      cases hfi : S.en.F fnum with
      | none => exact .bad
      | some fi =>
        show Goes S D base w0 cs0 f0 M (enterF fi fnum args fn fr td ds ro k hp nx)
        unfold enterF
        cases hb : (Nat.ble (len args) fi.ntmps && Nat.ble (len args) 1000000)
        · exact .bad
        · simp only [Bool.and_eq_true, ble_iff, len_eq] at hb
          obtain ⟨F, g1, g2, g3, g4, g5⟩ := hF.F fnum fi hfi
          have hcf : (callFunc fnum us.toArray).run S.P w = .ok (.enter fnum us.toArray) w := by
            have g5' : ¬ F.name = "runtime.NumGoroutine" := by simpa using g5
            simp [callFunc, g1, g5', g2]
          have hbody : (S.P.funcs[fnum]?.bind (·.body)) = some fi.body := by rw [g1]; exact g2
          let tm : Array Value := us.toArray ++ Array.replicate (F.ntmps - us.toArray.size) undef
          have hen : Frame.enter S.P fnum us.toArray .normal = { fn := fnum, tmps := tm, todo := [.code fi.body], defers := [], mode := .run, kind := .normal } := by
            simp [Frame.enter, g1, g2, tm]
          show Goes S D base w0 cs0 f0 M (setArgs args .e 0 fun fr' => .run fnum fr' (.code fi.body .nil) [] none (.cons fn fr td ds ro k) hp nx)
          obtain ⟨fr', e1, e2⟩ := setArgs_ok (tmps := tm) args us .e 0 (fun fr' => .run fnum fr' (.code fi.body .nil) [] none (.cons fn fr td ds ro k) hp nx) hargs (fun t v e => by cases e) (fun j u hj => by
            have hlt := (List.getElem?_eq_some_iff.1 hj).1
            rw [Nat.zero_add, Array.getD_eq_getD_getElem?, Array.getElem?_append_left (by simpa using hlt)]
            simp [hj]) (by unfold keyTop; omega)
          rw [e1]
          have hst := hE hcf
          rw [hen] at hst
          refine .head hst (.stay ⟨ι, U, V, n + 1, _, fw :: cs, w, rfl, hh, hu, hg, ⟨rfl, ?_, rfl, ⟨rfl, fun i r d a => by cases a⟩, rfl, .inr (.inl ⟨rfl, .code .nil, e2⟩)⟩, .cons hfw hs⟩)
          show tm.size = S.nt fnum
          have : us.length ≤ F.ntmps := by rw [g3, ← hargs.1]; exact hb.1
          simp [tm, Sg.nt, ntOf, hfi, g3]
          omega
end
end Go.Cv
/- The machine: calls of yield; the calls of an operation. -/
namespace Go.Cv
open Go Go.RowKit
section
variable {S : Sg} {D : DD} {base : Nat} {w0 w w' : World} {cs0 cs : List Frame} {f0 : Nat} {ι ι' : Ip} {U : Nat → Option CO} {V : Nat → Nat → Option CO} {n : Nat} {hp : Tr CO} {nx fn : Nat} {fr fr' : Tr CV} {td t : TD} {ds : List Nat} {ro : Option Nat} {k : Stk} {m : AM} {f f' fw : Frame}

theorem VR.yl_inv {l : Nat} {v : Value} (h : VR ι (.yl l) v) : ∃ L, ι l 0 = some L ∧ v = .func (.yield L.blk) #[] #[] := by cases h with | yl h => exact ⟨_, h, rfl⟩
theorem zip_fold (ps : List Nat) (us : List Value) (tmps : Array Value) : (ps.toArray.zip us.toArray).foldl (fun (tmps : Array Value) (q : Nat × Value) => tmps.setIfInBounds q.1 q.2) tmps = (ps.zip us).foldl (fun (tmps : Array Value) (q : Nat × Value) => tmps.setIfInBounds q.1 q.2) tmps := by
  simp
theorem callY_ok (hD : DDok S D) {l : Nat} {L : Loc} {args : List CV} {us : List Value} {M : Machine} (hh : HR S base w0 U ι hp nx w) (hu : UV U V) (hg : GR S ι) (hfw : FrR S D.d0 ι (V n) fn fr td ds ro fw) (hs : StkR S D.d0 ι V cs0 f0 n fn k cs) (hL : ι l 0 = some L) (hargs : VRL ι args us)
    (hR : ∀ fn' tmps asg body, (Instr.yield L.blk us.toArray).run S.P w = .ok (.round L.blk fn' tmps asg body) w → Go.step S.P M = .next (lone (Frame.round L.blk fn' tmps asg body .normal) (fw :: cs) w)) :
    Goes S D base w0 cs0 f0 M (callY S.en l args fn fr td ds ro k hp nx) := by
  unfold callY
  split
  · rename_i st pd fn' frL ps asg body df hr
    cases hb0 : Nat.beq st 0
    · exact .bad
    · rw [beq_iff] at hb0
      subst hb0
      obtain ⟨_, Ld, tmps, hLd, hsz, hfr', hb⟩ := hh.rd.of hL hr
      show Goes S D base w0 cs0 f0 M (setPs (ntOf S.en fn') ps args frL (fun fr' => .run fn' fr' (.code asg (.br (.code body .nil))) [] (some l) (.cons fn fr td ds ro k) hp nx) (.bad 8))
      have hsz' : ntOf S.en fn' = tmps.size := hsz.symm
      rw [hsz']
      rcases setPs_ok ps args us frL tmps (fun fr' => .run fn' fr' (.code asg (.br (.code body .nil))) [] (some l) (.cons fn fr td ds ro k) hp nx) (.bad 8) hargs hfr' with h3 | ⟨h3, fr2, e1, e2⟩
      · rw [h3]; exact .bad
      · rw [e1]
        have hrun := run_yield (P := S.P) (args := us.toArray) hb (by simp [h3])
        have hst := hR _ _ _ _ hrun
        refine .head hst (.stay ⟨ι, U, V, n + 1, _, fw :: cs, w, rfl, hh, hu, hg, ⟨rfl, ?_, rfl, ⟨rfl, fun i r d a => by cases a⟩, ⟨L, hL, rfl⟩, .inr (.inl ⟨rfl, .code (.br (.code .nil)), ?_⟩)⟩, .cons hfw hs⟩)
        · show (Array.foldl _ tmps _).size = S.nt fn'
          rw [← hsz]
          have : ∀ (l : List (Nat × Value)) (tm : Array Value), (l.foldl (fun (tmps : Array Value) (q : Nat × Value) => tmps.setIfInBounds q.1 q.2) tm).size = tm.size := by
            intro l
            induction l with
            | nil => intro tm; rfl
            | cons q l ih => intro tm; simp only [List.foldl_cons]; rw [ih]; simp
          have hz := zip_fold ps us tmps
          exact (congrArg Array.size hz).trans (this _ _)
        · have hz := zip_fold ps us tmps
          show FR ι fr2 (Array.foldl _ tmps _)
          exact hz ▸ e2
  · exact .bad

theorem step_enter {P : Program} {ops : Array Oper} {i : Nat} {rest : List Nat} {kk : List Item} {o : Oper} {g : Nat} {as : Array Value} (hm : f.mode = .run) (htd : f.todo = .inRegion ops (i :: rest) :: kk) (ho : ops[i]? = some o) (hd : ∀ c, o.op ≠ .defer c)
    (hw : Region.wanted o (yielded ops f.tmps) = true) (hr : (execOp (actOf f).eval o).run P w = .ok (.enter g as) w') : Go.step P (lone f cs w) = .next (lone (Frame.enter P g as .normal) (f :: cs) w') := by
  have hg := stepGR_op (P := P) (b := f) (a := actOf f) (k := kk) (cs := cs) (w := w) (rest := rest) ho hw
  rw [← htd, atR_self hm, Oper.semAt_eq _ _ _ hd] at hg
  exact step_lone_go (by rw [hg]; simp [stepG.apply, hr, htd])
theorem step_round {P : Program} {ops : Array Oper} {i : Nat} {rest : List Nat} {kk : List Item} {o : Oper} {l g : Nat} {tm : Array Value} {asg body : Code} (hm : f.mode = .run) (htd : f.todo = .inRegion ops (i :: rest) :: kk) (ho : ops[i]? = some o) (hd : ∀ c, o.op ≠ .defer c)
    (hw : Region.wanted o (yielded ops f.tmps) = true) (hr : (execOp (actOf f).eval o).run P w = .ok (.round l g tm asg body) w') : Go.step P (lone f cs w) = .next (lone (Frame.round l g tm asg body .normal) (f :: cs) w') := by
  have hg := stepGR_op (P := P) (b := f) (a := actOf f) (k := kk) (cs := cs) (w := w) (rest := rest) ho hw
  rw [← htd, atR_self hm, Oper.semAt_eq _ _ _ hd] at hg
  exact step_lone_go (by rw [hg]; simp [stepG.apply, hr, htd])

/-- A call of a value. -/
theorem callV_ok (hD : DDok S D) (hF : FOk S) (hM : MOk S base w0) {ops : Array Oper} {i : Nat} {rest : List Nat} {kk : List Item} {o : Oper} {x : Operand} {c : Call} (hh : HR S base w0 U ι hp nx w) (hu : UV U V) (hg : GR S ι) (h : FrR S D.d0 ι (V n) fn fr td ds ro f) (hs : StkR S D.d0 ι V cs0 f0 n fn k cs)
    (hm : f.mode = .run) (htd : f.todo = .inRegion ops (i :: rest) :: kk) (ho : ops[i]? = some o) (hw : Region.wanted o (yielded ops f.tmps) = true) (hop : o.op = .call c) (hcal : c.callee = .value x) (hf : FR ι fr' f.tmps) (hal : Alike S.en fr fr' o.op.operands.toList)
    (hext : ∀ fnum args us code, VRL ι args us → fnum < 1000000 → S.en.X fnum = some code → (execOp (actOf f).eval o = callFunc fnum us.toArray) → Goes S D base w0 cs0 f0 (lone f cs w) (extF S.en fnum code args fn fr td ds ro k hp nx)) :
    Goes S D base w0 cs0 f0 (lone f cs w) (callV S.en (ev S.en fr x) (c.args.toList.map (ev S.en fr)) fn fr td ds ro k hp nx) := by
  have hxx : ev S.en fr x = ev S.en fr' x := hal x (by simp [hop, Op.operands, Call.operands, hcal])
  have hxs : Alike S.en fr fr' c.args.toList := hal.sub fun y hy => by simp [hop, Op.operands, Call.operands, hcal] at hy ⊢; exact .inr hy
  rw [hxs.map, hxx]
  have hX := ev_rel (a := actOf f) hg hf x
  have hA := evL_rel (a := actOf f) hg hf c.args.toList
  have hargs : c.args.map (actOf f).eval = (c.args.toList.map (actOf f).eval).toArray := args_list
  have hd : ∀ q, o.op ≠ .defer q := fun q e => by rw [hop] at e; cases e
  generalize hv : ev S.en fr' x = v at hX
  cases v with
  | f g xs ys =>
    obtain ⟨us1, us2, he, r1, r2⟩ := hX.f_inv
    have hall : VRL ι (xs ++ (c.args.toList.map (ev S.en fr') ++ ys)) (us1 ++ (c.args.toList.map (actOf f).eval ++ us2)) := r1.app (hA.app r2)
    have hexec : execOp (actOf f).eval o = callFunc g (us1 ++ (c.args.toList.map (actOf f).eval ++ us2)).toArray := by
      simp only [execOp, hop, resolve, hcal, he, Deferred.ofValue]
      simp only [pure_bind, invoke]
      rw [hargs]
      congr 1
      apply Array.ext'
      simp
    show Goes S D base w0 cs0 f0 (lone f cs w) (callF S.en g (app xs (app (c.args.toList.map (ev S.en fr')) ys)) fn fr td ds ro k hp nx)
    rw [app_eq, app_eq]
    exact callF_ok hD hF hM hh hu hg h hs hall (fun hcf => step_enter hm htd ho hd hw (by rw [hexec]; exact hcf)) fun code hlt hc => hext _ _ _ code hall hlt hc hexec
  | yl l =>
    obtain ⟨L, hL, he⟩ := hX.yl_inv
    have hexec : execOp (actOf f).eval o = Instr.yield L.blk (c.args.toList.map (actOf f).eval).toArray := by
      simp only [execOp, hop, resolve, hcal, he, Deferred.ofValue]
      simp only [pure_bind, invoke]
      rw [hargs]
      congr 1
      apply Array.ext'
      simp
    exact callY_ok hD hh hu hg h hs hL hA fun fn' tmps asg body hr => step_round hm htd ho hd hw (by rw [hexec]; exact hr)
  | _ => exact .bad
end
end Go.Cv
/- The machine: loops over functions begin. -/
namespace Go.Cv
open Go Go.RowKit
section
variable {S : Sg} {D : DD} {base : Nat} {w0 w w' : World} {cs0 cs : List Frame} {f0 : Nat} {ι ι' : Ip} {U : Nat → Option CO} {V : Nat → Nat → Option CO} {n : Nat} {hp : Tr CO} {nx fn : Nat} {fr fr' : Tr CV} {td t : TD} {ds : List Nat} {ro : Option Nat} {k : Stk} {m : AM} {f f' fw : Frame}

theorem step_range {P : Program} {x : Operand} {ps : Array Tmp} {asg body : Code} {k' : List Item} {l g : Nat} {mark : List Deferred} {first cap as : Array Value} {w2 : World} (hm : f.mode = .run) (htd : f.todo = .code (.rangeFunc x ps asg body) :: k')
    (hrun : (Instr.enterLoop f.fn f.tmps ps asg body f.roundOf).run P w = .ok (l, mark) w2) (he : (actOf f).eval x = .func (.func g) first cap) (ha : as = first ++ #[.func (.yield l) #[] #[]] ++ cap) (hcf : (callFunc g as).run P w2 = .ok (.enter g as) w2) :
    Go.step P (lone f cs w) = .next (lone (Frame.enter P g as .normal) ({ f with todo := .inRangeFunc l :: k', defers := mark ++ f.defers } :: cs) w2) := by
  obtain ⟨ffn, ftmps, ftodo, fdefers, fmode, fkind, fround⟩ := f
  simp only at hm htd hrun
  subst hm htd
  have hev : (⟨ffn, ftmps, .inRangeFunc l :: k', mark ++ fdefers, .run, fkind, fround⟩ : Frame).eval x = .func (.func g) first cap := by
    rw [← he]; cases x <;> rfl
  have hcall : (do let d ← resolve (⟨ffn, ftmps, .inRangeFunc l :: k', mark ++ fdefers, .run, fkind, fround⟩ : Frame).eval { callee := .value x, args := #[.const (.func (.yield l) #[] #[])], argTypes := #[] } 0; invoke d.target d.args) = callFunc g as := by
    simp only [resolve, hev, Deferred.ofValue, pure_bind, invoke]
    rw [ha]
    congr 2
    simp [Frame.eval]
  refine step_lone_go ?_
  simp only [stepG, stepG.exec, Sem.runT_eq, hrun, GStep.bare_after]
  rw [hcall]
  simp [stepG.apply, hcf]

/-- A loop over a function begins. -/
theorem range_ok (hD : DDok S D) (hF : FOk S) (hM : MOk S base w0) {x : Operand} {ps : Array Tmp} {asg body : Code} {k' : List Item} (hh : HR S base w0 U ι hp nx w) (hu : UV U V) (hg : GR S ι) {D' : DrawR} (h : FrR S D' ι (V n) fn fr (.code (.rangeFunc x ps asg body) t) ds ro f) (hm : f.mode = .run) (hf : FR ι fr f.tmps) (hs : StkR S D.d0 ι V cs0 f0 n fn k cs) (htd : f.todo = .code (.rangeFunc x ps asg body) :: k') (ht : TDR ι t k') :
    Goes S D base w0 cs0 f0 (lone f cs w) (rangeV S.en (ev S.en fr x) ps.toList asg body t fn fr ds ro k hp nx) := by
  have hX := ev_rel (a := actOf f) hg hf x
  unfold rangeV
  split
  · rename_i g xs ys hq
    rw [hq] at hX
    obtain ⟨us1, us2, he, r1, r2⟩ := hX.f_inv
    have hps : ps.toList.toArray = ps := by simp
    -- from the record on
    have main : ∀ (ι1 : Ip) (hp1 : Tr CO) (nx1 : Nat) (w1 : World) (df : Nat) (Ld : Loc) (ds1 : List Nat) (mark : List Deferred), Ex ι ι1 → HR S base w0 U ι1 hp1 nx1 w1 → ι1 df 0 = some Ld → DsR ι1 ds1 (mark ++ f.defers) →
        (Instr.enterLoop f.fn f.tmps ps asg body f.roundOf).run S.P w = .ok (w1.heap.size, mark) (w1.alloc (.loop { state := .ready, pending := none, fn := f.fn, tmps := f.tmps, params := ps, assign := asg, body, defers := Ld.blk })) →
        Goes S D base w0 cs0 f0 (lone f cs w) (rangeL S.en g xs ys ps.toList asg body t df fn fr ds1 ro k hp1 nx1) := by
      intro ι1 hp1 nx1 w1 df Ld ds1 mark hx1 hh1 hLd hds hrun
      unfold rangeL
      generalize hme : newC (.bad 19) (.lp 0 none fn fr ps.toList asg body df) hp1 nx1 _ = mm
      rcases bad_or mm with ⟨b, hb⟩ | hnb
      · rw [hb]; exact .bad
      obtain ⟨hk, e⟩ := newC_ok hnb ⟨19, rfl⟩ hme
      rw [e]
      obtain ⟨q1, q2⟩ := hh1.new (en := 0) (ob := .loop { state := .ready, pending := none, fn := f.fn, tmps := f.tmps, params := ps, assign := asg, body, defers := Ld.blk }) (o := .lp 0 none fn fr ps.toList asg body df) hk (by
        have hx2 : Ex ι1 (ι1.add nx1 0 ⟨w1.heap.size, 0, 0⟩) := Ip.add_ex (by
          cases e : ι1 nx1 0 with
          | none => rfl
          | some L => have := hh1.dom nx1 0 L e; omega)
        refine ⟨rfl, Ld, f.tmps, hx2 _ _ _ hLd, h.size, (hf.mono hx1).mono hx2, ?_⟩
        show (w1.alloc _).heap[w1.heap.size]? = _
        rw [World.alloc_heap_new, h.fnE, hps]
        rfl)
      have hL2 : (ι1.add nx1 0 ⟨w1.heap.size, 0, 0⟩) nx1 0 = some ⟨w1.heap.size, 0, 0⟩ := Ip.add_self _ _ _ _
      have hxx := hx1.trans q2
      cases hXg : S.en.X g with
      | some _ => exact .bad
      | none =>
      show Goes S D base w0 cs0 f0 (lone f cs w) (callF S.en g (app xs (app [.yl nx1] ys)) fn fr (.rf nx1 t) ds1 ro k _ _)
      rw [app_eq, app_eq]
      have hargs : VRL (ι1.add nx1 0 ⟨w1.heap.size, 0, 0⟩) (xs ++ ([.yl nx1] ++ ys)) (us1 ++ ([.func (.yield w1.heap.size) #[] #[]] ++ us2)) := (r1.mono hxx).app ((VRL.cons (.yl hL2) .nil).app (r2.mono hxx))
      have hfw : FrR S D.d0 (ι1.add nx1 0 ⟨w1.heap.size, 0, 0⟩) (V n) fn fr (.rf nx1 t) ds1 ro { f with todo := .inRangeFunc w1.heap.size :: k', defers := mark ++ f.defers } :=
        ⟨h.fnE, h.size, h.kind, hds.mono q2, h.ro.mono hxx, .inr (.inl ⟨hm, .rf hL2 (ht.mono hxx), hf.mono hxx⟩)⟩
      exact callF_ok hD hF hM q1 hu (hg.mono hxx) hfw (hs.mono hD hxx) hargs (fun hcf => step_range hm htd hrun he (by apply Array.ext'; simp) hcf) fun code _ hc => by rw [hXg] at hc; cases hc
    cases hro : ro with
    | none =>
      subst hro
      show Goes S D base w0 cs0 f0 (lone f cs w) (newC (.bad 19) .df hp nx fun hp nx' => rangeL S.en g xs ys ps.toList asg body t nx fn fr (nx :: ds) none k hp nx')
      rcases bad_or (newC (.bad 19) .df hp nx fun hp nx' => rangeL S.en g xs ys ps.toList asg body t nx fn fr (nx :: ds) none k hp nx') with ⟨b, hb⟩ | hnb
      · rw [hb]; exact .bad
      obtain ⟨hk, e⟩ := newC_ok hnb ⟨19, rfl⟩ rfl
      rw [e]
      obtain ⟨q1, q2⟩ := hh.new (en := 0) (ob := .deferred (some [])) (o := .df) hk ⟨rfl, World.alloc_heap_new _ _⟩
      have hfr : f.roundOf = none := h.ro
      refine main _ _ _ _ nx ⟨w.heap.size, 0, 0⟩ (nx :: ds) [{ target := .collected w.heap.size, args := #[] }] q2 q1 (Ip.add_self _ _ _ _) ?_ ?_
      · have hd := h.df.mono q2
        refine ⟨by simp [hd.1], fun i r d a b => ?_⟩
        cases i with
        | zero =>
          cases a; cases b
          exact ⟨_, Ip.add_self _ _ _ _, rfl⟩
        | succ i => exact hd.2 i r d (by simpa using a) (by simpa using b)
      · rw [hfr, run_enterLoop_outer]
        simp
    | some l =>
      subst hro
      show Goes S D base w0 cs0 f0 (lone f cs w) (match hp.get l with
        | some (.lp _ _ _ _ _ _ _ df) => rangeL S.en g xs ys ps.toList asg body t df fn fr ds (some l) k hp nx
        | _ => .bad 20)
      split
      · rename_i st pd fn' frL ps' asg' body' df hr
        obtain ⟨L, hL, hfr⟩ := h.ro
        obtain ⟨_, Ld, tmps, hLd, hsz, hfr', hb⟩ := hh.rd.of hL hr
        refine main ι hp nx w df Ld ds [] Ex.refl hh hLd (by simpa using h.df) ?_
        rw [hfr, run_enterLoop_inner hb]
      · exact .bad
  · exact .bad
end
end Go.Cv
/- The machine: a step. -/
namespace Go.Cv
open Go Go.RowKit
section
variable {S : Sg} {D : DD} {base : Nat} {w0 w w' : World} {cs0 cs : List Frame} {f0 : Nat} {ι ι' : Ip} {U : Nat → Option CO} {V : Nat → Nat → Option CO} {n : Nat} {hp : Tr CO} {nx fn : Nat} {fr fr' : Tr CV} {td t : TD} {ds : List Nat} {ro : Option Nat} {k : Stk} {m : AM} {f f' fw : Frame}

/-- What is still wanted: the externs, and the regions whose order is drawn. -/
structure Rest (S : Sg) (D : DD) (base : Nat) (w0 : World) (cs0 : List Frame) (f0 : Nat) : Prop where
  ext : ∀ {ι U V n hp nx fn fr td ds ro k f cs w} {ops : Array Oper} {i : Nat} {rest : List Nat} {kk : List Item} {o : Oper}, HR S base w0 U ι hp nx w → UV U V → GR S ι → FrR S D.d0 ι (V n) fn fr td ds ro f → StkR S D.d0 ι V cs0 f0 n fn k cs → f.mode = .run → f.todo = .inRegion ops (i :: rest) :: kk → ops[i]? = some o →
    Region.wanted o (yielded ops f.tmps) = true → (∀ c, o.op ≠ .defer c) → ∀ fnum args us code, VRL ι args us → fnum < 1000000 → S.en.X fnum = some code → (execOp (actOf f).eval o = callFunc fnum us.toArray) → Goes S D base w0 cs0 f0 (lone f cs w) (extF S.en fnum code args fn fr td ds ro k hp nx)
  draw : ∀ {ι U V n hp nx fn fr t ds ro k f cs w} {id : Nat} {ops : Array Oper} {k' : List Item}, HR S base w0 U ι hp nx w → UV U V → GR S ι → FrR S (D.d1 hp) ι (V n) fn fr (.code (.region id ops true) t) ds ro f → FR ι fr f.tmps → StkR S D.d0 ι V cs0 f0 n fn k cs → f.mode = .run → f.todo = .code (.region id ops true) :: k' → TDR ι t k' →
    Goes S D base w0 cs0 f0 (lone f cs w) ((drawX S.en ops).f fn fr t ds ro k hp nx)
  rd : ∀ {ι U V n hp nx fn fr ops l t ds ro k f cs w} {is : List Nat} {k' : List Item}, HR S base w0 U ι hp nx w → UV U V → GR S ι → FrR S (D.d1 hp) ι (V n) fn fr (.rd ops l t) ds ro f → StkR S D.d0 ι V cs0 f0 n fn k cs → f.mode = .run → f.todo = .inRegion ops is :: k' → TDR ι t k' → D.d1 hp ι (V n) ops l is fr f.tmps →
    Goes S D base w0 cs0 f0 (lone f cs w) (stepRd S.en ops l t fn fr ds ro k hp nx)

theorem FrR.to0 {D' : DrawR} {U : Nat → Option CO} (h : FrR S D' ι U fn fr td ds ro f) (hm : f.mode = .run) (ht : TDR ι td f.todo) (hf : FR ι fr f.tmps) {D2 : DrawR} : FrR S D2 ι U fn fr td ds ro f :=
  ⟨h.fnE, h.size, h.kind, h.df, h.ro, .inr (.inl ⟨hm, ht, hf⟩)⟩

theorem step_ok (hS : SOk S) (hD : DDok S D) (hF : FOk S) (hM : MOk S base w0) (hR : Rest S D base w0 cs0 f0) {M : Machine} (h : SimR S D base w0 cs0 f0 m M) : Goes S D base w0 cs0 f0 M (Cv.step S.en m) := by
  cases m with
  | fin v hp nx => exact .stay h
  | bad b => exact .bad
  | run fn fr td ds ro k hp nx =>
    obtain ⟨ι, U, V, n, f, cs, w, rfl, hh, hu, hg, hfr, hs⟩ := h
    show Goes S D base w0 cs0 f0 (lone f cs w) (step1 S.en fn fr td ds ro k hp nx)
    rcases hfr.at_ with ⟨rfl, hm, hro, hf⟩ | ⟨hm, ht, hf⟩ | ⟨hm, ops, l, t, is, k', rfl, htd, ht, hd⟩
    · exact unw_ok hS hD hF hh hu hg hfr hs
    · have hitem := item_ok (f0 := f0) hh hu hg hfr hm hf hs ht
      generalize htd : f.todo = todo at ht
      have ht0 : TDR ι td f.todo := by rw [htd]; exact ht
      cases ht with
      | nil => exact leave_ok hD hh hu hg hfr hm hf hs (.inl ⟨rfl, htd⟩)
      | @code c t k' ht =>
        exact code_ok hh hu hg hfr hm hf hs htd ht (fun j hj e => leave_ok hD hh hu hg hfr hm hf hs (.inr ⟨j, k', rfl, by rw [htd, e], hj⟩))
          (fun id ops e => by subst e; exact hR.draw hh hu hg hfr hf hs hm htd ht) (fun x ps asg body e => by subst e; exact range_ok hD hF hM hh hu hg hfr hm hf hs htd ht)
      | @blk id t k' ht => exact hitem.1 id t rfl
      | @scope c t k' ht => exact hitem.2.1 c t rfl
      | @loop c t k' ht => exact hitem.2.2.1 c t rfl
      | @rl ops l is t k' ht hl hi =>
        show Goes S D base w0 cs0 f0 (lone f cs w) (stepRl S.en ops l t fn fr ds ro k hp nx)
        cases l with
        | nil => exact hitem.2.2.2 ops t rfl
        | cons o l =>
          cases is with
          | nil => cases hl
          | cons i is =>
            have ho : ops[i]? = some o := hi 0 i o rfl rfl
            have h0 : FrR S D.d0 ι (V n) fn fr (.rl ops (o :: l) t) ds ro f := hfr.to0 hm ht0 hf
            exact op_ok hS hD hh hu hg h0 hm htd ho hf (fun _ _ => rfl) (fun _ _ _ _ _ => rfl) hs (fun _ _ _ => rfl)
              fun x c hop hcal hw => callV_ok hD hF hM hh hu hg h0 hs hm htd ho hw hop hcal hf (fun _ _ => rfl)
                fun fnum args us code ha hlt hx he => hR.ext hh hu hg h0 hs hm htd ho hw (fun c e => by rw [hop] at e; cases e) fnum args us code ha hlt hx he
      | @rf l L t k' hL ht => exact .bad
      | @erf l L t k' hL ht => exact end_ok hh hu hg hfr hm hf ht0 hs
      | @br t k' ht => exact beg_ok hh hu hg hfr hm hf ht0 hs
    · exact hR.rd hh hu hg hfr hs hm htd ht hd

theorem Goes.trans {M M1 : Machine} (h : Steps S.P M M1) (h' : Goes S D base w0 cs0 f0 M1 m) : Goes S D base w0 cs0 f0 M m := by
  obtain ⟨M', h1, h2⟩ := h'
  exact ⟨M', Steps.trans h h1, h2⟩
theorem runs_ok (hS : SOk S) (hD : DDok S D) (hF : FOk S) (hM : MOk S base w0) (hR : Rest S D base w0 cs0 f0) : ∀ (q : Nat) (m : AM) (M : Machine), SimR S D base w0 cs0 f0 m M → Goes S D base w0 cs0 f0 M (runs S.en q m)
  | 0, m, M, h => .stay h
  | q + 1, m, M, h => by
    cases m with
    | fin v hp nx => exact .stay h
    | bad b => exact .bad
    | run fn fr td ds ro k hp nx =>
      obtain ⟨M', h1, h2⟩ := step_ok hS hD hF hM hR h
      exact .trans h1 (runs_ok hS hD hF hM hR q _ M' h2)
/-- **A run that ends is a call that returns.** -/
theorem calls_of (hS : SOk S) (hD : DDok S D) (hF : FOk S) (hM : MOk S base w0) {fi : FI} {args : List CV} {us : List Value} (hR : ∀ cs0, Rest S D base w0 cs0 f0) (hfi : S.en.F f0 = some fi) (hh : HR S base w0 U ι hp nx w) (hu : UV U V) (hg : GR S ι) (hargs : VRL ι args us) (hn : args.length ≤ fi.ntmps) (hk : args.length ≤ 1000000) {q : Nat} {v : CV} {hp' : Tr CO} {nx' : Nat}
    (hrun : setArgs args .e 0 (fun fr => runs S.en q (.run f0 fr (.code fi.body .nil) [] none .nil hp nx)) = .fin v hp' nx') :
    Calls S.P f0 us.toArray w fun e w' => ∃ ι' u, e = .returned u ∧ VR ι' v u ∧ Below base w0 w' := by
  intro cs0
  obtain ⟨F, g1, g2, g3, g4, g5⟩ := hF.F f0 fi hfi
  let tm : Array Value := us.toArray ++ Array.replicate (F.ntmps - us.toArray.size) undef
  have hen : Frame.enter S.P f0 us.toArray .normal = { fn := f0, tmps := tm, todo := [.code fi.body], defers := [], mode := .run, kind := .normal } := by
    simp [Frame.enter, g1, g2, tm]
  obtain ⟨fr', e1, e2⟩ := setArgs_ok (tmps := tm) args us .e 0 (fun fr => runs S.en q (.run f0 fr (.code fi.body .nil) [] none .nil hp nx)) hargs (fun t v e => by cases e) (fun j u hj => by
    have hlt := (List.getElem?_eq_some_iff.1 hj).1
    rw [Nat.zero_add, Array.getD_eq_getD_getElem?, Array.getElem?_append_left (by simpa using hlt)]
    simp [hj]) (by unfold keyTop; omega)
  rw [e1] at hrun
  have hsim : SimR S D base w0 cs0 f0 (.run f0 fr' (.code fi.body .nil) [] none .nil hp nx) (lone (Frame.enter S.P f0 us.toArray .normal) cs0 w) := by
    rw [hen]
    refine ⟨ι, U, V, 0, _, cs0, w, rfl, hh, hu, hg, ⟨rfl, ?_, rfl, ⟨rfl, fun i r d a => by cases a⟩, rfl, .inr (.inl ⟨rfl, .code .nil, e2⟩)⟩, .nil⟩
    show tm.size = S.nt f0
    have : us.length ≤ F.ntmps := by rw [g3, ← hargs.1]; exact hn
    simp [tm, Sg.nt, ntOf, hfi, g3]
    omega
  obtain ⟨M', h1, h2⟩ := runs_ok hS hD hF hM (hR cs0) q _ _ hsim
  rw [hrun] at h2
  obtain ⟨ι', U', f, w', u, rfl, hh', hleave, hfn, hv⟩ := h2
  exact ⟨.returned u, w', f, ⟨ι', u, rfl, hv, hh'.below⟩, h1, hfn, hleave⟩
end
end Go.Cv
/- The machine: functions without a body. -/
namespace Go.Cv
open Go Go.RowKit
/-- The table of externs says what the program has. -/
structure XOk (S : Sg) : Prop where
  ib : ∀ f, f < 1000000 → (S.en.X f = some 1 ∨ S.en.X f = some 2) → ∀ as w r, (Extern.BytealgIndexByte.indexByte as).run S.P w = .ok r w → (callFunc f as).run S.P w = .ok (.value r) w
  ne : ∀ f, f < 1000000 → S.en.X f = some 3 → ∀ x w, (callFunc f #[x]).run S.P w = .ok (.value x) w
  mz : ∀ f e, f < 1000000 → S.en.X f = some 4 → S.en.X (3000000 + f) = some e → ∀ (n : Nat) (w : World), n ≤ 1000000000 → ∃ cap arr, n ≤ cap ∧ arr.size = cap ∧ (callFunc f #[.int .i64 n]).run S.P w = .ok (.value (.slice (some ⟨w.heap.size, 0, none⟩) n cap)) (w.drew.drew.alloc (.cells arr e))
section
variable {S : Sg} {D : DD} {base : Nat} {w0 w w' : World} {cs0 cs : List Frame} {f0 : Nat} {ι ι' : Ip} {U : Nat → Option CO} {V : Nat → Nat → Option CO} {n : Nat} {hp : Tr CO} {nx fn : Nat} {fr fr' : Tr CV} {td t : TD} {ds : List Nat} {ro : Option Nat} {k : Stk} {m : AM} {f f' fw : Frame}

theorem findB_eq (n c : Nat) : ∀ (l i : Nat), findB n c l i = (List.range' i l).find? fun j => Nat.beq (byteS n j) c
  | 0, i => rfl
  | l + 1, i => by
    have e : findB n c (l + 1) i = bif Nat.beq (byteS n i) c then some i else findB n c l (i + 1) := rfl
    rw [e, findB_eq n c l (i + 1), List.range'_succ, List.find?_cons]
    cases Nat.beq (byteS n i) c <;> rfl
theorem find_congr {p q : Nat → Bool} : ∀ (xs : List Nat), (∀ j ∈ xs, p j = q j) → xs.find? p = xs.find? q
  | [], _ => rfl
  | x :: xs, h => by
    rw [List.find?_cons, List.find?_cons, h x (by simp), find_congr xs fun j hj => h j (by simp [hj])]
theorem find_str {l n c : Nat} (hc : c < 256) : ((List.range (strOf l n).size).find? fun i => (strOf l n)[i]! == (c : Int).toNat.toUInt8) = findB n c l 0 := by
  rw [findB_eq, strOf_size, List.range_eq_range']
  refine find_congr _ fun j hj => ?_
  have hj : j < l := by have := List.mem_range'_1.1 hj; omega
  have h1 := strOf_get! (n := n) hj
  have h2 : (strOf l n)[j]! = (strOf l n).get! j := by
    rw [getElem!_pos (strOf l n) j (by rw [strOf_size]; exact hj)]
    show _ = (strOf l n).data[j]!
    rw [getElem!_pos (strOf l n).data j (by show j < (strOf l n).size; rw [strOf_size]; exact hj)]
    rfl
  rw [h2]
  have h3 : (c : Int).toNat.toUInt8.toNat = c := by
    rw [Int.toNat_natCast]
    show (UInt8.ofNat c).toNat = c
    rw [UInt8.toNat_ofNat']; omega
  cases hb : Nat.beq (byteS n j) c
  · rw [beq_eq_false_iff_ne]
    intro e
    rw [e, h3] at h1
    rw [(beq_iff _ _).2 h1.symm] at hb; cases hb
  · rw [beq_iff_eq]
    apply UInt8.toNat_inj.1
    rw [h1, h3]; exact (beq_iff _ _).1 hb
theorem ixO_ok {o : Option Nat} : VR ι (ixO o) (match o with | some i => goInt i | none => goInt (-1)) := by
  cases o with
  | none => exact .i _ _
  | some i => exact .i _ _
/-- bytealg.IndexByte of a string's bytes. -/
theorem ib_str {l n c : Nat} {b : Value} (hc : c < 256) (hb : (Extern.Bytes.bytesOf b).run S.P w = .ok (strOf l n) w) : (Extern.BytealgIndexByte.indexByte #[b, .int .u8 c]).run S.P w = .ok (match findB n c l 0 with | some i => goInt i | none => goInt (-1)) w := by
  have e : Extern.BytealgIndexByte.indexByte #[b, .int .u8 c] = (do
      let b ← Extern.Bytes.bytesOf b
      let c ← Extern.Bytes.asByte (.int .u8 c)
      match (List.range b.size).find? fun i => b[i]! == c with
      | some i => pure (goInt i)
      | none => pure (goInt (-1))) := rfl
  rw [e]
  simp only [Sem.run_bind, hb, Extern.Bytes.asByte, Sem.run_pure, Result.andThen_ok]
  rw [find_str hc]
  cases findB n c l 0 <;> rfl
theorem extS_ok {l n : Nat} {c v : CV} {b u : Value} (h : extS l n c = some v) (hc : VR ι c u) (hb : (Extern.Bytes.bytesOf b).run S.P w = .ok (strOf l n) w) : ∃ r, (Extern.BytealgIndexByte.indexByte #[b, u]).run S.P w = .ok r w ∧ VR ι v r := by
  unfold extS at h
  split at h
  · rename_i m hm
    cases h
    obtain ⟨rfl, hlt⟩ := byteC_inv hm
    rw [hc.i_inv]
    exact ⟨_, ib_str hlt hb, ixO_ok⟩
  · cases h
theorem extC_ok (hX : XOk S) (hR : Rd S ι hp w) {g code : Nat} {args : List CV} {us : List Value} {v : CV} (hlt : g < 1000000) (hx : S.en.X g = some code) (ha : VRL ι args us) (h : extC hp code args = some v) : ∃ r, (callFunc g us.toArray).run S.P w = .ok (.value r) w ∧ VR ι v r := by
  unfold extC at h
  split at h
  · split at h
    · rename_i x c
      obtain ⟨u, us', rfl, h1, h2⟩ := ha.cons_inv
      obtain ⟨u2, us', rfl, h3, h4⟩ := h2.cons_inv
      have := h4.nil_inv
      subst this
      split at h
      · rename_i l n
        obtain ⟨rfl, hn⟩ := h1.s_inv
        obtain ⟨r, q1, q2⟩ := extS_ok (b := .string (strOf l n)) h h3 (by simp [Extern.Bytes.bytesOf])
        exact ⟨r, hX.ib g hlt (.inl hx) _ w r q1, q2⟩
      · cases h
    · cases h
  · split at h
    · rename_i x c
      obtain ⟨u, us', rfl, h1, h2⟩ := ha.cons_inv
      obtain ⟨u2, us', rfl, h3, h4⟩ := h2.cons_inv
      have := h4.nil_inv
      subst this
      unfold extR at h
      split at h
      · split at h
        · rename_i m hm
          cases h
          obtain ⟨rfl, hlt2⟩ := byteC_inv hm
          rw [h1.ns_inv, h3.i_inv]
          have := ib_str (S := S) (w := w) (l := 0) (n := 0) (c := m) (b := .slice none 0 0) hlt2 (by simp [Extern.Bytes.bytesOf]; rfl)
          exact ⟨_, hX.ib g hlt (.inr hx) _ w _ this, .i _ _⟩
        · cases h
      · rename_i r g' off l sz cap
        split at h
        · rename_i n hn
          obtain ⟨L, ad, c', hL, hlo, hz, hen, had, hlc, _, _, rfl⟩ := h1.sl_inv
          obtain ⟨ns, p1, rfl, p3⟩ := rowS_ok hR hn hL hlo
          have hbd : ∀ m ∈ ns, m < 256 := fun m hm => by
            obtain ⟨i, hi⟩ := List.mem_iff_getElem?.1 hm
            exact (p3 i m hi).2
          obtain ⟨d1, d2⟩ := numL_digits ns hbd
          have hload : (Extern.Bytes.bytesOf (.slice (some ad) l c')).run S.P w = .ok (strOf l (numL ns)) w := by
            show (Extern.Bytes.loadBytes ad l .empty).run S.P w = _
            by_cases hl0 : l = 0
            · subst hl0
              have : ns = [] := List.eq_nil_of_length_eq_zero p1
              subst this
              rfl
            · have := had (by omega)
              subst this
              have hrun := Lib.run_loadBytesX (P := S.P) (w := w) (ns.map fun (m : Nat) => (m : Int)) ⟨L.blk, off - L.lo, none⟩ .empty (fun j x hj => by
                rw [List.getElem?_map] at hj
                cases hm : ns[j]? with
                | none => rw [hm] at hj; cases hj
                | some m =>
                  rw [hm] at hj; cases hj
                  rw [add_off']
                  exact (p3 j m hm).1)
              rw [List.length_map, p1] at hrun
              rw [hrun]
              congr 1
              apply ByteArray.ext
              show _ = (dig l (numL ns)).toArray
              rw [← p1, d2]
              simp [Lib.bytesOf]
          obtain ⟨r, q1, q2⟩ := extS_ok (b := .slice (some ad) l c') h h3 hload
          exact ⟨r, hX.ib g hlt (.inr hx) _ w r q1, q2⟩
        · cases h
      · cases h
    · cases h
  · split at h
    · rename_i x
      cases h
      obtain ⟨u, us', rfl, h1, h2⟩ := ha.cons_inv
      have := h2.nil_inv
      subst this
      exact ⟨u, hX.ne g hlt hx u w, h1⟩
    · cases h
  · cases h

theorem h_drew2 (hh : HR S base w0 U ι hp nx w) : HR S base w0 U ι hp nx w.drew.drew := hh.drew.drew
theorem ext_ok (hD : DDok S D) (hX : XOk S) {ops : Array Oper} {i : Nat} {rest : List Nat} {kk : List Item} {o : Oper} (hh : HR S base w0 U ι hp nx w) (hu : UV U V) (hg : GR S ι) (h : FrR S D.d0 ι (V n) fn fr td ds ro f) (hs : StkR S D.d0 ι V cs0 f0 n fn k cs) (hm : f.mode = .run) (htd : f.todo = .inRegion ops (i :: rest) :: kk) (ho : ops[i]? = some o)
    (hw : Region.wanted o (yielded ops f.tmps) = true) (hd : ∀ c, o.op ≠ .defer c) (fnum : Nat) (args : List CV) (us : List Value) (code : Nat) (ha : VRL ι args us) (hlt : fnum < 1000000) (hx : S.en.X fnum = some code) (he : execOp (actOf f).eval o = callFunc fnum us.toArray) : Goes S D base w0 cs0 f0 (lone f cs w) (extF S.en fnum code args fn fr td ds ro k hp nx) := by
  unfold extF
  cases hb : Nat.beq code 4
  · show Goes S D base w0 cs0 f0 (lone f cs w) (match extC hp code args with | some v => finish S.en v fn fr td ds ro k hp nx | none => .bad 5)
    split
    · rename_i v hv
      obtain ⟨r, q1, q2⟩ := extC_ok hX hh.rd hlt hx ha hv
      exact .head (step_val (w' := w) hm htd ho hd hw (.inl (by rw [he]; exact q1))) (.stay (finish_ok hD hh hu hg h hs q2))
    · exact .bad
  · have h4 : code = 4 := (beq_iff _ _).1 hb
    subst h4
    show Goes S D base w0 cs0 f0 (lone f cs w) (mkNoZ S.en fnum args fn fr td ds ro k hp nx)
    unfold mkNoZ
    split
    · rename_i x e hXe
      split
      · rename_i q hq
        obtain ⟨u, us', rfl, h1, h2⟩ := ha.cons_inv
        have := h2.nil_inv
        subst this
        have hxv := i64C_rel hq h1
        subst hxv
        cases hb9 : Nat.ble q 1000000000
        · exact .bad
        · have hq9 := (ble_iff _ _).1 hb9
          show Goes S D base w0 cs0 f0 (lone f cs w) (newC (.bad 5) (.c e .e 0 0 0 false false) hp nx fun hp nx' => finish S.en (.sl nx 0 0 q 1 0) fn fr td ds ro k hp nx')
          generalize hme : newC (.bad 5) (.c e .e 0 0 0 false false) hp nx _ = mm
          rcases bad_or mm with ⟨b, hb⟩ | hnb
          · rw [hb]; exact .bad
          obtain ⟨hk, e1⟩ := newC_ok hnb ⟨5, rfl⟩ hme
          rw [e1]
          obtain ⟨cap, arr, r1, r2, r3⟩ := hX.mz fnum e hlt hx hXe q w hq9
          have hd2 : HR S base w0 U ι hp nx w.drew.drew := h_drew2 hh
          obtain ⟨q1, q2⟩ := hd2.new (en := cap) (ob := .cells arr e) (o := .c e .e 0 0 0 false false) hk ⟨Nat.le_refl _, arr, (0, 0), World.alloc_heap_new _ _, by rw [r2]; show cap ≤ 0 + cap; omega, fun i c hc => (by cases hc), fun _ => ⟨Nat.zero_le _, rfl, Nat.zero_le _⟩⟩
          exact .head (step_val hm htd ho hd hw (.inl (by rw [he]; exact r3))) (.stay (finish_ok hD q1 hu (hg.mono q2) (h.mono (fun e => hD.mono0 q2 e) q2) (hs.mono hD q2)
            (.sl (Ip.add_self _ _ _ _) (Nat.le_refl _) (by omega) (by show 0 + cap * 1 ≤ cap; omega) (fun _ => rfl) r1 (fun _ => by show cap = (cap - 0) / 1; simp) (fun k e => by cases e))))
      · exact .bad
    · exact .bad
end
end Go.Cv
/- Drawn regions: the orders that the model may draw. -/
namespace Go.Cv
open Go Go.RowKit

/-- May this one come, where these have been? -/
def Rdy (ops : Array Oper) (done : Nat → Bool) (i : Nat) : Prop := i < ops.size ∧ done i = false ∧ ∀ o, ops[i]? = some o → ∀ e ∈ o.after, Region.binds .any e = true → done e.on = true
def upd (done : Nat → Bool) (i : Nat) : Nat → Bool := fun j => if j = i then true else done j
/-- What is still to be run, in an order that may be drawn, where these have been. -/
inductive Sched (ops : Array Oper) : (Nat → Bool) → List Nat → Prop
  | nil {done : Nat → Bool} (h : ∀ i, ¬ Rdy ops done i) : Sched ops done []
  | cons {done : Nat → Bool} {i : Nat} {is : List Nat} (h : Rdy ops done i) (hs : Sched ops (upd done i) is) : Sched ops done (i :: is)

theorem mem_ready {ops : Array Oper} {listed : Array Bool} (hsz : listed.size = ops.size) (i : Nat) : i ∈ Region.ready .any ops listed ↔ Rdy ops (fun j => listed.getD j false) i := by
  unfold Region.ready Rdy
  rw [List.mem_filter, List.mem_range]
  constructor
  · rintro ⟨h1, h2⟩
    rw [Bool.and_eq_true, Bool.not_eq_true'] at h2
    refine ⟨h1, ?_, fun o ho e he hb => ?_⟩
    · have := h2.1
      show listed.getD i false = false
      rw [Array.getD_eq_getD_getElem?, Array.getElem?_eq_getElem (by omega)] at this ⊢
      exact this
    · have := h2.2
      rw [ho] at this
      simp only [Option.map_some, Option.getD_some, Array.all_eq_true_iff_forall_mem] at this
      have := this e he
      rw [hb] at this
      simpa using this
  · rintro ⟨h1, h2, h3⟩
    refine ⟨h1, ?_⟩
    rw [Bool.and_eq_true, Bool.not_eq_true']
    constructor
    · replace h2 : listed.getD i false = false := h2
      rw [Array.getD_eq_getD_getElem?, Array.getElem?_eq_getElem (by omega)] at h2 ⊢
      exact h2
    · rw [Array.getElem?_eq_getElem h1]
      simp only [Option.map_some, Option.getD_some, Array.all_eq_true_iff_forall_mem]
      intro e he
      cases hb : Region.binds .any e
      · rfl
      · simpa using h3 _ (Array.getElem?_eq_getElem h1) e he hb
theorem sched_congr {ops : Array Oper} {done done' : Nat → Bool} {is : List Nat} (h : Sched ops done is) (e : ∀ j, done j = done' j) : Sched ops done' is := by
  have : done = done' := funext e
  exact this ▸ h
/-- How many have not been. -/
def left (listed : Array Bool) : Nat := (listed.toList.filter fun b => !b).length
theorem left_set {listed : Array Bool} {i : Nat} (hi : i < listed.size) (h : listed.getD i false = false) : left (listed.setIfInBounds i true) + 1 = left listed := by
  unfold left
  rw [Array.toList_setIfInBounds]
  have hlt : i < listed.toList.length := by simpa using hi
  have hv : listed.toList[i]? = some false := by
    rw [Array.getElem?_toList, Array.getElem?_eq_getElem hi]
    rw [Array.getD_eq_getD_getElem?, Array.getElem?_eq_getElem hi] at h
    exact congrArg some h
  generalize listed.toList = l at hlt hv
  clear h hi
  induction l generalizing i with
  | nil => cases hv
  | cons b l ih =>
    cases i with
    | zero => cases hv; simp
    | succ i =>
      have := ih (i := i) (by simpa using hlt) (by simpa using hv)
      cases b <;> simp only [List.set_cons_succ, List.filter_cons, Bool.not_false, Bool.not_true, if_true, if_false, List.length_cons, Bool.false_eq_true] <;> omega
theorem go_sched (ops : Array Oper) : ∀ (fuel t : Nat) (listed : Array Bool), listed.size = ops.size → left listed ≤ fuel → Sched ops (fun j => listed.getD j false) (Region.linearise.go .any ops fuel t listed [])
  | 0, t, listed, hsz, hl => by
    refine .nil fun i hr => ?_
    have h0 : left listed = 0 := by omega
    unfold left at h0
    rw [List.length_eq_zero_iff, List.filter_eq_nil_iff] at h0
    have hi : i < listed.size := by rw [hsz]; exact hr.1
    have := h0 listed[i] (by simp)
    have h2 : listed.getD i false = false := hr.2.1
    rw [Array.getD_eq_getD_getElem?, Array.getElem?_eq_getElem hi] at h2
    have h2 : listed[i] = false := h2
    rw [h2] at this
    exact this rfl
  | fuel + 1, t, listed, hsz, hl => by
    show Sched ops _ (match (Region.ready .any ops listed)[t % (Region.ready .any ops listed).length]? with
      | some i => Region.linearise.go .any ops fuel (t / (Region.ready .any ops listed).length) (listed.setIfInBounds i true) [i]
      | none => [].reverse)
    cases hi : (Region.ready .any ops listed)[t % (Region.ready .any ops listed).length]? with
    | none =>
      refine .nil fun i hr => ?_
      have hm := (mem_ready hsz i).2 hr
      have hpos : 0 < (Region.ready .any ops listed).length := List.length_pos_of_mem hm
      have := Nat.mod_lt t hpos
      rw [List.getElem?_eq_getElem this] at hi
      cases hi
    | some i =>
      have hr := (mem_ready hsz i).1 (List.mem_of_getElem? hi)
      show Sched ops _ (Region.linearise.go .any ops fuel _ (listed.setIfInBounds i true) [i])
      rw [linearise_go_acc, List.reverse_singleton, List.singleton_append]
      have hlt : i < listed.size := by rw [hsz]; exact hr.1
      have hls := left_set hlt hr.2.1
      refine .cons hr (sched_congr (go_sched ops fuel _ _ (by simpa using hsz) (by omega)) fun j => ?_)
      unfold upd
      rw [Array.getD_eq_getD_getElem?]
      by_cases hj : j = i
      · subst hj; rw [if_pos rfl]; simp [hlt]
      · rw [if_neg hj, Array.getElem?_setIfInBounds_ne (Ne.symm hj), ← Array.getD_eq_getD_getElem?]
theorem schedule_sched {P : Program} (hm : P.follows .mixedOrders = true) (ops : Array Oper) (t : Nat) : Sched ops (fun _ => false) (Region.schedule (P.follows .mixedOrders) ops t) := by
  simp only [Region.schedule, hm, Bool.true_or, if_true]
  have hsz : (Array.replicate ops.size false).size = ops.size := by simp
  refine sched_congr (go_sched ops ops.size t _ hsz (by unfold left; refine Nat.le_trans (List.length_filter_le _ _) ?_; simp)) fun j => ?_
  rw [Array.getD_eq_getD_getElem?, Array.getElem?_replicate]
  split <;> rfl
end Go.Cv
