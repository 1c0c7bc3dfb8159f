/- Part of the proof of the statement: an evaluator of the code at closed data, run by the kernel, and that it is sound; it has no conditions of its own. -/
import Derived.Laws.Externs
import Derived.Room.MakeNoZero
import Derived.KernelRfl
import Derived.LaidLaws
import Derived.LaidHandle
import Derived.LaidMore
import Derived.Lay
import Derived.Stop.Joined
import Derived.Stop.LaidErr
import Derived.ProofKit
import Derived.Below
import Derived.Carry
import Derived.ChangeOld
import Derived.ChangeArms
import Derived.OpenShut
import Derived.MakeChecks
import Derived.Lib.SmallJoins
import Derived.Test.YtljlcljlnhaniaaGreatDoorCvf
set_option linter.unusedVariables false
set_option linter.unusedSimpArgs false
/- Facts about calls: closed values; a run of the evaluator is a fact. -/
namespace Go.Cv
open Go Go.RowKit

/-! ### closed values -/
noncomputable def cloB (d : Nat) : CV → Bool :=
  @Nat.rec (fun _ => CV → Bool) (fun _ => false) (fun _ ih x => match x with
    | .b _ | .i _ _ | .s _ _ | .np | .ns | .nm | .nf | .ni | .u => true
    | .agg xs => allL ih xs
    | .tup xs => allL ih xs
    | _ => false) d
section
variable {ι ι' : Ip}
theorem VRL.map_of {xs : List CV} {us : List Value} (h : VRL ι xs us) (hx : ∀ x ∈ xs, ∀ v, VR ι x v → VR ι' x v) : VRL ι' xs us :=
  ⟨h.1, fun i x v a b => hx x (List.mem_of_getElem? a) v (h.2 i x v a b)⟩
theorem clo_mono : ∀ (d : Nat) (x : CV) (v : Value), cloB d x = true → VR ι x v → VR ι' x v
  | 0, x, v, h, _ => by cases h
  | d + 1, x, v, h, hv => by
    cases x with
    | u => cases hv; exact .u
    | b t => cases hv; exact .b t
    | i k n => cases hv; exact .i k n
    | s l n => cases hv with | s hh => exact .s hh
    | np => cases hv; exact .np
    | ns => cases hv; exact .ns
    | nm => cases hv; exact .nm
    | nf => cases hv; exact .nf
    | ni => cases hv; exact .ni
    | agg xs =>
      have h : allL (cloB d) xs = true := h
      obtain ⟨us, rfl, hl⟩ := hv.agg_inv
      exact .agg' (hl.map_of fun x hx v => clo_mono d x v ((allL_iff _ _).1 h x hx))
    | tup xs =>
      have h : allL (cloB d) xs = true := h
      obtain ⟨us, rfl, hl⟩ := hv.tup_inv
      exact .tup' (hl.map_of fun x hx v => clo_mono d x v ((allL_iff _ _).1 h x hx))
    | _ => cases h
theorem clo_uniq : ∀ (d : Nat) (x : CV) (v v' : Value), cloB d x = true → VR ι x v → VR ι' x v' → v = v'
  | 0, x, v, v', h, _, _ => by cases h
  | d + 1, x, v, v', h, hv, hv' => by
    have key : ∀ (xs : List CV) (us us' : List Value), allL (cloB d) xs = true → VRL ι xs us → VRL ι' xs us' → us = us' := fun xs us us' h hl hl' => by
      apply List.ext_getElem?
      intro i
      cases hx : xs[i]? with
      | none =>
        have hi := List.getElem?_eq_none_iff.1 hx
        rw [List.getElem?_eq_none (by rw [← hl.1]; exact hi), List.getElem?_eq_none (by rw [← hl'.1]; exact hi)]
      | some x =>
        obtain ⟨u, hu, q⟩ := hl.get hx
        obtain ⟨u', hu', q'⟩ := hl'.get hx
        rw [hu, hu', clo_uniq d x u u' ((allL_iff _ _).1 h x (List.mem_of_getElem? hx)) q q']
    cases x with
    | agg xs =>
      obtain ⟨us, rfl, hl⟩ := hv.agg_inv
      obtain ⟨us', rfl, hl'⟩ := hv'.agg_inv
      rw [key xs us us' h hl hl']
    | tup xs =>
      obtain ⟨us, rfl, hl⟩ := hv.tup_inv
      obtain ⟨us', rfl, hl'⟩ := hv'.tup_inv
      rw [key xs us us' h hl hl']
    | bot => cases h
    | p => cases h
    | sl => cases h
    | m => cases h
    | f => cases h
    | yl => cases h
    | ifc => cases h
    | _ => cases hv; cases hv'; rfl
theorem cloL_mono {d : Nat} {xs : List CV} {us : List Value} (h : allL (cloB d) xs = true) (hl : VRL ι xs us) : VRL ι' xs us :=
  hl.map_of fun x hx v => clo_mono d x v ((allL_iff _ _).1 h x hx)
end
theorem eqS_eq {l n l' n' : Nat} (h : eqS l n l' n' = true) : l = l' ∧ n = n' := by
  unfold eqS at h
  rw [Bool.and_eq_true, beq_iff, beq_iff] at h
  exact h
noncomputable def eqQ (ih : CV → CV → Option Bool) (xs : List CV) : List CV → Option Bool := @List.rec CV (fun _ => List CV → Option Bool) (fun ys => match ys with | [] => some true | _ => none)
        (fun x _ rec ys => match ys with | [] => none | y :: ys => match ih x y with | some true => rec ys | some false => some false | none => none) xs
theorem eqQ_eq {ih : CV → CV → Option Bool} (hi : ∀ x y, ih x y = some true → x = y) : ∀ xs ys : List CV, eqQ ih xs ys = some true → xs = ys
  | [], [], _ => rfl
  | [], _ :: _, h => by cases h
  | _ :: _, [], h => by cases h
  | x :: xs, y :: ys, h => by
    have h : (match ih x y with | some true => eqQ ih xs ys | some false => some false | none => none) = some true := h
    split at h
    · rename_i hq
      rw [hi x y hq, eqQ_eq hi xs ys h]
    · cases h
    · cases h
theorem eqC_eq : ∀ (d : Nat) (x y : CV), eqC d x y = some true → x = y
  | 0, x, y, h => by cases h
  | d + 1, x, y, h => by
    cases x <;> cases y <;> first | (cases h; done) | rfl | skip
    case b.b s t => cases s <;> cases t <;> first | rfl | cases h
    case i.i j a k c =>
      replace h : (bif eqK j k then some (eqI a c) else none) = some true := h
      cases hb : eqK j k <;> rw [hb] at h
      · cases h
      · have h : some (eqI a c) = some true := h
        have h := Option.some.inj h
        rw [eqI_eq, beq_iff_eq] at h
        rw [eqK_iff.1 hb, h]
    case s.s l n l' n' =>
      have h : some (eqS l n l' n') = some true := h
      obtain ⟨rfl, rfl⟩ := eqS_eq (Option.some.inj h)
      rfl
    case agg.agg xs ys =>
      have h : eqQ (eqC d) xs ys = some true := h
      rw [eqQ_eq (eqC_eq d) xs ys h]
theorem eqA_eq : ∀ (xs ys : List CV), eqA xs ys = true → xs = ys
  | [], [], _ => rfl
  | [], _ :: _, h => by cases h
  | _ :: _, [], h => by cases h
  | x :: xs, y :: ys, h => by
    have h : (match eqC 6 x y with | some true => eqA xs ys | _ => false) = true := h
    split at h
    · rename_i hq
      rw [eqC_eq 6 x y hq, eqA_eq xs ys h]
    · cases h
theorem recall_mem {args : List CV} {v : CV} : ∀ {l : List (List CV × CV)}, recall args l = some v → (args, v) ∈ l
  | [], h => by cases h
  | e :: l, h => by
    have h : (bif eqA e.1 args then some e.2 else recall args l) = some v := h
    cases hb : eqA e.1 args <;> rw [hb] at h
    · exact List.mem_cons_of_mem _ (recall_mem h)
    · cases h
      rw [← eqA_eq _ _ hb]
      exact List.mem_cons_self

/-! ### facts -/
/-- A call with these arguments gives that value. -/
def Fact (P : Program) (base : Nat) (w0 : World) (f : Nat) (args : List CV) (v : CV) : Prop := ∀ (ι : Ip) (us : List Value) (w : World), VRL ι args us → Below base w0 w → base ≤ w.heap.size →
  (callFunc f us.toArray).run P w = .ok (.enter f us.toArray) w ∧ ∃ u, VR ι v u ∧ Calls P f us.toArray w fun e w' => e = .returned u ∧ Below w.heap.size w w'
/-- Tables of facts. -/
abbrev MT := List (Nat × List (List CV × CV))
noncomputable def lookF (f : Nat) (l : MT) : List (List CV × CV) := @List.rec (Nat × List (List CV × CV)) (fun _ => List (List CV × CV)) [] (fun e _ ih => bif Nat.beq e.1 f then e.2 else ih) l
def Facts (P : Program) (base : Nat) (w0 : World) (l : MT) : Prop := ∀ p ∈ l, ∀ e ∈ p.2, Fact P base w0 p.1 e.1 e.2
theorem Facts.nil {P : Program} {base : Nat} {w0 : World} : Facts P base w0 [] := fun p h => by cases h
theorem Facts.cons {P : Program} {base : Nat} {w0 : World} {f : Nat} {es : List (List CV × CV)} {l : MT} (h : ∀ e ∈ es, Fact P base w0 f e.1 e.2) (hs : Facts P base w0 l) : Facts P base w0 ((f, es) :: l) := fun p hp => by
  rcases List.mem_cons.1 hp with rfl | hp
  · exact h
  · exact hs p hp
theorem fnil {P : Program} {base : Nat} {w0 : World} {f : Nat} : ∀ e ∈ ([] : List (List CV × CV)), Fact P base w0 f e.1 e.2 := fun e h => by cases h
theorem fcons {P : Program} {base : Nat} {w0 : World} {f : Nat} {args : List CV} {v : CV} {es : List (List CV × CV)} (h : Fact P base w0 f args v) (hs : ∀ e ∈ es, Fact P base w0 f e.1 e.2) : ∀ e ∈ (args, v) :: es, Fact P base w0 f e.1 e.2 := fun e he => by
  rcases List.mem_cons.1 he with rfl | he
  · exact h
  · exact hs e he
theorem lookF_mem {f : Nat} {e : List CV × CV} : ∀ {l : MT}, e ∈ lookF f l → ∃ p ∈ l, p.1 = f ∧ e ∈ p.2
  | [], h => by cases h
  | p :: l, h => by
    have h : e ∈ (bif Nat.beq p.1 f then p.2 else lookF f l) := h
    cases hb : Nat.beq p.1 f <;> rw [hb] at h
    · obtain ⟨q, h1, h2⟩ := lookF_mem h
      exact ⟨q, List.mem_cons_of_mem _ h1, h2⟩
    · exact ⟨p, List.mem_cons_self, (beq_iff _ _).1 hb, h⟩
theorem facts_mok {S : Sg} {base : Nat} {w0 : World} {l : MT} (hM : S.en.M = fun f => lookF f l) (h : Facts S.P base w0 l) : MOk S base w0 := fun f args v hr => by
  rw [hM] at hr
  obtain ⟨p, hp, rfl, he⟩ := lookF_mem (recall_mem hr)
  exact h p hp _ he
theorem Fact.mono {P : Program} {base base' : Nat} {w0 w1 : World} {f : Nat} {args : List CV} {v : CV} (h : Fact P base w0 f args v) (hb : Below base w0 w1) (hle : base ≤ base') : Fact P base' w1 f args v :=
  fun ι us w ha hw hs => h ι us w ha (hb.trans (hw.mono hle)) (by omega)
theorem Facts.mono {P : Program} {base base' : Nat} {w0 w1 : World} {l : MT} (h : Facts P base w0 l) (hb : Below base w0 w1) (hle : base ≤ base') : Facts P base' w1 l := fun p hp e he => (h p hp e he).mono hb hle

/-- How it begins: the program's variables. -/
def Init (S : Sg) (base : Nat) (w0 : World) (H0 : Tr CO) (nx0 : Nat) : Prop := ∀ w, Below base w0 w → base ≤ w.heap.size → ∃ ι, HR S w.heap.size w (fun _ => none) ι H0 nx0 w ∧ GR S ι
/-- It ends with that value. -/
noncomputable def finB (v : CV) (m : AM) : Bool := match m with
  | .fin v' _ _ => sameC 9 v' v
  | _ => false
noncomputable def chk (en : En) (H0 : Tr CO) (nx0 q f : Nat) (args : List CV) (v : CV) : Bool := match en.F f with
  | some fi => bif Nat.ble (len args) fi.ntmps && Nat.ble (len args) 1000000 && allL (cloB 6) args && cloB 6 v then finB v (setArgs args .e 0 fun fr => runs en q (.run f fr (.code fi.body .nil) [] none .nil H0 nx0)) else false
  | none => false
theorem finB_ok {v : CV} {m : AM} (h : finB v m = true) : ∃ hp nx, m = .fin v hp nx := by
  unfold finB at h
  split at h
  · rw [← sameC_eq _ _ _ h]; exact ⟨_, _, rfl⟩
  · cases h
/-- **A run of the evaluator is a fact.** -/
theorem fact_run {S : Sg} {base : Nat} {w0 : World} {l : MT} {H0 : Tr CO} {nx0 q f : Nat} {args : List CV} {v : CV} (hS : SOk S) (hF : FOk S) (hX : XOk S) (hM : S.en.M = fun f => lookF f l) (hl : Facts S.P base w0 l) (hI : Init S base w0 H0 nx0) (h : chk S.en H0 nx0 q f args v = true) : Fact S.P base w0 f args v := by
  intro ι us w ha hw hs
  unfold chk at h
  cases hfi : S.en.F f with
  | none => rw [hfi] at h; cases h
  | some fi =>
    rw [hfi] at h
    have h : (bif Nat.ble (len args) fi.ntmps && Nat.ble (len args) 1000000 && allL (cloB 6) args && cloB 6 v then finB v (setArgs args .e 0 fun fr => runs S.en q (.run f fr (.code fi.body .nil) [] none .nil H0 nx0)) else false) = true := h
    cases hb : (Nat.ble (len args) fi.ntmps && Nat.ble (len args) 1000000 && allL (cloB 6) args && cloB 6 v) <;> rw [hb] at h
    · cases h
    · simp only [Bool.and_eq_true, ble_iff, len_eq] at hb
      obtain ⟨⟨⟨b1, b2⟩, b3⟩, b4⟩ := hb
      obtain ⟨hp', nx', hrun⟩ := finB_ok h
      obtain ⟨F, g1, g2, g3, g4, g5⟩ := hF.F f fi hfi
      have hcf : (callFunc f us.toArray).run S.P w = .ok (.enter f us.toArray) w := by
        have g5' : ¬ F.name = "runtime.NumGoroutine" := by simpa using g5
        simp [callFunc, g1, g5', g2]
      refine ⟨hcf, ?_⟩
      obtain ⟨ι0, hH, hG⟩ := hI w hw hs
      have hM' : MOk S w.heap.size w := facts_mok hM (hl.mono hw hs)
      have hcalls := calls_of (V := fun _ _ => none) hS (drD_ok S) hF hM' (fun cs0 => rest_ok hS hF hM' hX) hfi hH ⟨fun r o => ⟨fun e => (by cases e), fun ⟨d, e⟩ => (by cases e)⟩, fun d d' r o o' e => by cases e⟩ hG (cloL_mono b3 ha) b1 b2 hrun
      obtain ⟨e0, w0', f0, ⟨ι1, u, rfl, hv, _⟩, _⟩ := hcalls []
      refine ⟨u, clo_mono 6 v u b4 hv, hcalls.mono fun e w' hq => ?_⟩
      obtain ⟨ι2, u2, rfl, hv2, hbel⟩ := hq
      rw [clo_uniq 6 v u2 u b4 hv2 hv]
      exact ⟨rfl, hbel⟩
end Go.Cv
/- The tables: checks. How it begins. -/
namespace Go.Cv
open Go Go.RowKit
def optB {α : Type} (p : α → Bool) : Option α → Bool
  | some x => p x
  | none => true
/-- All that a tree holds. -/
def allTr {α : Type} : Nat → (Nat → α → Bool) → Tr α → Bool
  | _, _, .e => true
  | 0, _, .n _ _ _ => false
  | d + 1, p, .n v l r => optB (p 0) v && (allTr d (fun q => p (2 * q + 1)) l && allTr d (fun q => p (2 * q + 2)) r)
theorem allTr_ok {α : Type} : ∀ (d : Nat) (p : Nat → α → Bool) (t : Tr α), allTr d p t = true → ∀ k v, t.getP (pathF d k) = some v → p k v = true
  | d, p, .e, _, k, v, h => by cases hp : pathF d k <;> rw [hp] at h <;> cases h
  | 0, p, .n x l r, h, k, v, e => by cases h
  | d + 1, p, .n x l r, h, k, v, e => by
    have h : (optB (p 0) x && (allTr d (fun q => p (2 * q + 1)) l && allTr d (fun q => p (2 * q + 2)) r)) = true := h
    rw [Bool.and_eq_true, Bool.and_eq_true] at h
    cases k with
    | zero =>
      have e : x = some v := e
      rw [e] at h
      exact h.1
    | succ m =>
      have hp : pathF (d + 1) (m + 1) = bif Nat.beq (Nat.mod m 2) 0 then .l (pathF d (Nat.div m 2)) else .r (pathF d (Nat.div m 2)) := by
        show @Bool.rec (fun _ => Pa) (.r (pathF d (Nat.div m 2))) (.l (pathF d (Nat.div m 2))) (Nat.beq (Nat.mod m 2) 0) = _
        cases Nat.beq (Nat.mod m 2) 0 <;> rfl
      rw [hp] at e
      cases hb : Nat.beq (Nat.mod m 2) 0 <;> rw [hb] at e
      · have e : r.getP (pathF d (Nat.div m 2)) = some v := e
        have := allTr_ok d _ r h.2.2 _ _ e
        have hm : m % 2 = 1 := by
          rcases Nat.mod_two_eq_zero_or_one m with h0 | h0
          · have := (beq_iff (Nat.mod m 2) 0).2 h0
            rw [this] at hb; cases hb
          · exact h0
        have hk : 2 * Nat.div m 2 + 2 = m + 1 := by have := Nat.div_add_mod m 2; show 2 * (m / 2) + 2 = m + 1; omega
        rw [hk] at this; exact this
      · have e : l.getP (pathF d (Nat.div m 2)) = some v := e
        have := allTr_ok d _ l h.2.1 _ _ e
        have hm : m % 2 = 0 := (beq_iff _ _).1 hb
        have hk : 2 * Nat.div m 2 + 1 = m + 1 := by have := Nat.div_add_mod m 2; show 2 * (m / 2) + 1 = m + 1; omega
        rw [hk] at this; exact this
theorem allTr_get {α : Type} {p : Nat → α → Bool} {t : Tr α} (h : allTr 40 p t = true) {k : Nat} {v : α} (e : t.get k = some v) : p k v = true := allTr_ok 40 p t h k v e

/-- Functions as the program has them. -/
noncomputable def fiOf (P : Program) (f : Nat) : Option FI := match P.funcs[f]? with
  | some fn => match fn.body with
    | some c => some ⟨fn.ntmps, fn.results.toList, c⟩
    | none => none
  | none => none
theorem fok_of {S : Sg} (hF : S.en.F = fiOf S.P) (h : (S.P.funcs.toList.all fun fn => !(fn.name == "runtime.NumGoroutine")) = true) : FOk S := ⟨fun f fi e => by
  rw [hF] at e
  unfold fiOf at e
  split at e
  · rename_i fn hfn
    split at e
    · rename_i c hc
      cases e
      have := List.all_eq_true.1 h fn (by
        rw [← Array.getElem?_toList] at hfn
        exact List.mem_of_getElem? hfn)
      exact ⟨fn, hfn, hc, rfl, rfl, by simpa using this⟩
    · cases e
  · cases e⟩
/-- Structs that are compared. -/
def cmpB (P : Program) (t : Nat) : Bool := !P.stoodInHeld t && !P.eqGuardType P.depth t && (P.fieldsOf t).toList.all fun f => f.name != "_"
theorem cmpB_ok {P : Program} {t : Nat} (h : cmpB P t = true) : P.stoodInHeld t = false ∧ P.eqGuardType P.depth t = false ∧ ∀ f ∈ (P.fieldsOf t).toList, f.name ≠ "_" := by
  unfold cmpB at h
  simp only [Bool.and_eq_true, Bool.not_eq_true', List.all_eq_true, bne_iff_ne] at h
  exact ⟨h.1.1, h.1.2, h.2⟩
theorem sok_of {S : Sg} {TT : Tr TI} {XT : Tr Nat} (h0 : S.P.follows .mixedOrders = true) (hT : S.en.T = TT.get) (hX : S.en.X = XT.get) (h1 : allTr 40 (fun t ti => tiB S.P t ti) TT = true) (h2 : allTr 40 (fun k _ => bif Nat.ble 1000000 k then cmpB S.P (k - 1000000) else true) XT = true) : SOk S where
  mixed := h0
  T t ti e := by
    rw [hT] at e
    exact tiB_ok (allTr_get (p := fun t ti => tiB S.P t ti) h1 e)
  cmp t h := by
    rw [hX] at h
    cases hx : XT.get (1000000 + t) with
    | none => rw [hx] at h; cases h
    | some v =>
      have := allTr_get (p := fun k _ => bif Nat.ble 1000000 k then cmpB S.P (k - 1000000) else true) h2 hx
      have hb : Nat.ble 1000000 (1000000 + t) = true := (ble_iff _ _).2 (Nat.le_add_right _ _)
      have : (bif Nat.ble 1000000 (1000000 + t) then cmpB S.P (1000000 + t - 1000000) else true) = true := this
      rw [hb, Nat.add_sub_cancel_left] at this
      exact cmpB_ok this

/-! ### functions without a body -/
inductive XEnt (S : Sg) (f : Nat) : Nat → Prop
  | ib {c : Nat} {fn : Func} (hc : c = 1 ∨ c = 2) (hf : S.P.funcs[f]? = some fn) (hn : (fn.name == "runtime.NumGoroutine") = false) (hb : fn.body.isNone = true) (h1 : Extern.findNext fn = none) (h2 : Extern.find fn = some Extern.BytealgIndexByte.indexByte) : XEnt S f c
  | ne {fn : Func} (hf : S.P.funcs[f]? = some fn) (hn : (fn.name == "runtime.NumGoroutine") = false) (hb : fn.body.isNone = true) (h1 : Extern.findNext fn = none) (h2 : Extern.find fn = some Extern.AbiNoEscape.same) : XEnt S f 3
  | mz {fn : Func} {ps : Array TypeId} {t e : TypeId} (hf : S.P.funcs[f]? = some fn) (hn : (fn.name == "runtime.NumGoroutine") = false) (hb : fn.body.isNone = true) (h1 : Extern.findNext fn = none) (h2 : Extern.find fn = some (Extern.BytealgMakeNoZero.makeNoZero ps #[t])) (ht : S.P.underlying t = some (.slice e)) (hx : S.en.X (3000000 + f) = some e) : XEnt S f 4
def memB (l : List (Nat × Nat)) (k v : Nat) : Bool := l.any fun p => Nat.beq p.1 k && Nat.beq p.2 v
theorem memB_ok {l : List (Nat × Nat)} {k v : Nat} (h : memB l k v = true) : (k, v) ∈ l := by
  unfold memB at h
  obtain ⟨p, hp, hq⟩ := List.any_eq_true.1 h
  rw [Bool.and_eq_true, beq_iff, beq_iff] at hq
  rw [← hq.1, ← hq.2]; exact hp
theorem xok_of {S : Sg} {XT : Tr Nat} {l : List (Nat × Nat)} (hX : S.en.X = XT.get) (h1 : allTr 40 (fun k v => bif Nat.ble 1000000 k then true else memB l k v) XT = true) (hl : ∀ p ∈ l, XEnt S p.1 p.2) : XOk S := by
  have key : ∀ f c, f < 1000000 → S.en.X f = some c → XEnt S f c := fun f c hlt e => by
    rw [hX] at e
    have := allTr_get (p := fun k v => bif Nat.ble 1000000 k then true else memB l k v) h1 e
    have hb : Nat.ble 1000000 f = false := by
      cases hb : Nat.ble 1000000 f
      · rfl
      · have := (ble_iff _ _).1 hb; omega
    have : (bif Nat.ble 1000000 f then true else memB l f c) = true := this
    rw [hb] at this
    exact hl _ (memB_ok this)
  constructor
  · intro f hlt hx as w r hr
    have hE : ∃ c, (c = 1 ∨ c = 2) ∧ XEnt S f c := hx.elim (fun e => ⟨1, .inl rfl, key f 1 hlt e⟩) (fun e => ⟨2, .inr rfl, key f 2 hlt e⟩)
    obtain ⟨c, hc, hE⟩ := hE
    cases hE with
    | ib _ hf hn hb h1 h2 => rw [run_callFunc_extern hf hn hb h1 h2, hr]; rfl
    | ne => rcases hc with hc | hc <;> cases hc
    | mz => rcases hc with hc | hc <;> cases hc
  · intro f hlt hx x w
    have hE := key f 3 hlt hx
    generalize hc : (3 : Nat) = c at hE
    cases hE with
    | ib hq => rcases hq with hq | hq <;> rw [hq] at hc <;> cases hc
    | ne hf hn hb h1 h2 => rw [run_callFunc_extern hf hn hb h1 h2]; rfl
    | mz => cases hc
  · intro f e hlt hx hx2 n w hn9
    have hE := key f 4 hlt hx
    generalize hc : (4 : Nat) = c at hE
    cases hE with
    | ib hq => rcases hq with hq | hq <;> rw [hq] at hc <;> cases hc
    | ne => cases hc
    | @mz fn ps t e' hf hn hb h1 h2 ht hx3 =>
      rw [hx2] at hx3
      cases hx3
      obtain ⟨cs, r1, r2, _, _⟩ := Lib.run_makeNoZero_cap (P := S.P) w ps t e ht n (by omega)
      refine ⟨cs.size, cs, r2, rfl, ?_⟩
      rw [run_callFunc_extern hf hn hb h1 h2, r1]
      rfl

theorem ents_nil {S : Sg} : ∀ p ∈ ([] : List (Nat × Nat)), XEnt S p.1 p.2 := fun p h => by cases h
theorem ents_cons {S : Sg} {f c : Nat} {l : List (Nat × Nat)} (h : XEnt S f c) (hs : ∀ p ∈ l, XEnt S p.1 p.2) : ∀ p ∈ (f, c) :: l, XEnt S p.1 p.2 := fun p hp => by
  rcases List.mem_cons.1 hp with rfl | hp
  · exact h
  · exact hs p hp

/-! ### how it begins -/
/-- The program's variables: the block, the type, the cells. -/
abbrev GL := List (Nat × Nat × List CV)
noncomputable def hpOf : GL → Nat → Tr CO
  | [], _ => .e
  | (_, ty, cs) :: l, r => (hpOf l (r + 1)).set r (.c ty (trL cs 0) (len cs) 1 0 true false)
def ipOf (l : GL) : Ip := fun r g => if g = 0 then (match l[r]? with | some x => some ⟨x.1, 0, x.2.2.length⟩ | none => none) else none
/-- What a world has of them. -/
def GHas (w : World) (l : GL) : Prop := ∀ x ∈ l, ∃ arr fz us, w.heap[x.1]? = some (.cells arr x.2.1 fz) ∧ VRL (fun _ _ => none) x.2.2 us ∧ (∀ u ∈ us, u.oneCell' = true) ∧ ∀ (i : Nat) (u : Value), us[i]? = some u → arr[i]? = some u
theorem lt_nil {n : Nat} : ∀ x ∈ ([] : GL), x.1 < n := fun x h => by cases h
theorem lt_cons {n g ty : Nat} {cs : List CV} {l : GL} (h : g < n) (hs : ∀ x ∈ l, x.1 < n) : ∀ x ∈ (g, ty, cs) :: l, x.1 < n := fun x hx => by
  rcases List.mem_cons.1 hx with rfl | hx
  · exact h
  · exact hs x hx
theorem hpOf_get : ∀ (l : GL) (r k : Nat), r + l.length < keyTop → ((hpOf l r).get k = if r ≤ k then (match l[k - r]? with | some x => some (.c x.2.1 (trL x.2.2 0) (len x.2.2) 1 0 true false) | none => none) else none)
  | [], r, k, _ => by
    show (Tr.e : Tr CO).get k = _
    rw [Tr.get_e]
    split
    · simp
    · rfl
  | (g, ty, cs) :: l, r, k, h => by
    simp only [List.length_cons] at h
    show ((hpOf l (r + 1)).set r (.c ty (trL cs 0) (len cs) 1 0 true false)).get k = _
    rw [Tr.get_set _ _ (by omega), hpOf_get l (r + 1) k (by omega)]
    by_cases h1 : k = r
    · subst h1
      rw [if_pos rfl, if_pos (Nat.le_refl _), Nat.sub_self]
      rfl
    · rw [if_neg h1]
      by_cases h2 : r ≤ k
      · rw [if_pos h2, if_pos (by omega : r + 1 ≤ k), show k - r = (k - (r + 1)) + 1 by omega, List.getElem?_cons_succ]
      · rw [if_neg h2, if_neg (by omega)]
theorem init_of {S : Sg} {base : Nat} {w0 : World} {H0 : Tr CO} {nx0 : Nat} {l : GL} {GT : Tr Nat} (hG : S.en.G = GT.get) (hH : H0 = hpOf l 0) (hn : nx0 = l.length) (hk : l.length ≤ 1000) (hg : allTr 40 (fun g r => match l[r]? with | some x => Nat.beq x.1 g | none => false) GT = true)
    (hd : (l.map (·.1)).Nodup) (hlen : ∀ x ∈ l, x.2.2.length ≤ 100000) (hb : ∀ x ∈ l, x.1 < base) (hw : GHas w0 l) : Init S base w0 H0 nx0 := by
  intro w hbel hsz
  have hkt : l.length < keyTop := by unfold keyTop; omega
  have hget : ∀ k, H0.get k = match l[k]? with | some x => some (.c x.2.1 (trL x.2.2 0) (len x.2.2) 1 0 true false) | none => none := fun k => by
    rw [hH, hpOf_get l 0 k (by omega), if_pos (Nat.zero_le _), Nat.sub_zero]
  have hip : ∀ r g L, ipOf l r g = some L → g = 0 ∧ ∃ x, l[r]? = some x ∧ L = ⟨x.1, 0, x.2.2.length⟩ := fun r g L e => by
    unfold ipOf at e
    split at e
    · rename_i hg0
      split at e
      · rename_i x hx
        cases e
        exact ⟨hg0, x, hx, rfl⟩
      · cases e
    · cases e
  refine ⟨ipOf l, ⟨Below.refl _ _, Nat.le_refl _, by rw [hn]; omega, fun r g L e => ?_, fun r g L r' g' L' e e' he => ?_, fun r g L e => ?_, fun r o e => (by cases e), fun r o e => ?_⟩, fun g r e => ?_⟩
  · obtain ⟨rfl, x, hx, rfl⟩ := hip r g L e
    have hm := List.mem_of_getElem? hx
    obtain ⟨arr, fz, us, q1, q2, q3, q4⟩ := hw x hm
    have q1' : w.heap[x.1]? = some (.cells arr x.2.1 fz) := by rw [hbel.block x.1 (hb x hm)]; exact q1
    have hlt : x.1 < w.heap.size := (Array.getElem?_eq_some_iff.1 q1').1
    have hle : x.2.2.length ≤ arr.size := by
      cases hl : us.length with
      | zero => rw [q2.1, hl]; exact Nat.zero_le _
      | succ m =>
        have hu : us[m]? = some us[m] := List.getElem?_eq_getElem (by omega)
        have := (Array.getElem?_eq_some_iff.1 (q4 m _ hu)).1
        rw [q2.1, hl]; omega
    refine ⟨_, by rw [hget, hx], ?_, hlt, fun _ => rfl⟩
    refine ⟨Nat.zero_le _, arr, fz, q1', by show x.2.2.length ≤ 0 + arr.size; omega, fun i c hc => ?_, fun h => by cases h⟩
    have hlx := hlen x hm
    rw [trL_get _ _ _ (by unfold keyTop; omega)] at hc
    split at hc
    · rename_i hi
      cases hci : x.2.2[i - 0]? with
      | none => rw [hci] at hc; cases hc
      | some y =>
        rw [hci] at hc; cases hc
        refine ⟨Nat.zero_le _, by rw [len_eq]; omega, by unfold keyTop; omega, fun _ _ => ?_⟩
        obtain ⟨u, hu, hr⟩ := q2.get hci
        exact ⟨u, q4 _ u hu, hr.mono (fun r g L e => by cases e), q3 u (List.mem_of_getElem? hu)⟩
    · cases hc
  · obtain ⟨rfl, x, hx, rfl⟩ := hip r g L e
    obtain ⟨rfl, x', hx', rfl⟩ := hip r' g' L' e'
    have he : x.1 = x'.1 := he
    have h1 : (l.map (·.1))[r]? = some x.1 := by rw [List.getElem?_map, hx]; rfl
    have h2 : (l.map (·.1))[r']? = some x'.1 := by rw [List.getElem?_map, hx']; rfl
    have hr : r = r' := by
      obtain ⟨a1, a2⟩ := List.getElem?_eq_some_iff.1 h1
      obtain ⟨b1, b2⟩ := List.getElem?_eq_some_iff.1 h2
      rcases Nat.lt_trichotomy r r' with hlt | hlt | hlt
      · exact (List.pairwise_iff_getElem.1 hd r r' a1 b1 hlt (by rw [a2, b2, he])).elim
      · exact hlt
      · exact (List.pairwise_iff_getElem.1 hd r' r b1 a1 hlt (by rw [a2, b2, he])).elim
    subst hr
    rw [hx] at hx'
    cases hx'
    exact ⟨rfl, rfl⟩
  · obtain ⟨rfl, x, hx, rfl⟩ := hip r g L e
    rw [hn]; exact (List.getElem?_eq_some_iff.1 hx).1
  · rw [hget] at e
    split at e
    · rename_i x hx
      rw [hn]; exact (List.getElem?_eq_some_iff.1 hx).1
    · cases e
  · rw [hG] at e
    have := allTr_get (p := fun g r => match l[r]? with | some x => Nat.beq x.1 g | none => false) hg e
    have : (match l[r]? with | some x => Nat.beq x.1 g | none => false) = true := this
    split at this
    · rename_i x hx
      refine ⟨x.2.2.length, ?_⟩
      unfold ipOf
      rw [if_pos rfl, hx, ← (beq_iff _ _).1 this]
    · cases this
end Go.Cv
/- The door: variables that are listed as data; the end of a law's proof. -/
namespace Go.Cv
open Go Go.ChangeShapes Go.WideShapes Go.RowKit

/-! ### data without references -/
def flatL (c : TypeId → Nat) (r : TypeId → DataW Unit → Option (List Value)) : Nat → List (Nat × TypeId) → List (DataW Unit) → Option (List Value × Nat)
  | off, [], [] => some ([], off)
  | off, (o, t) :: l, d :: ds => bif Nat.beq o off then (match r t d with
    | some v => match flatL c r (off + c t) l ds with
      | some (vs, e) => some (v ++ vs, e)
      | none => none
    | none => none) else none
  | _, _, _ => none
def wholeL (tot : Nat) : Option (List Value × Nat) → Option (List Value)
  | some (vs, e) => bif Nat.beq e tot then some vs else none
  | none => none
def flatC (P : Program) : Nat → TypeId → DataW Unit → Option (List Value)
  | 0, _, _ => none
  | n + 1, t, d => match P.underlying t with
    | some (.int _) => match d with
      | .lit (.int k m) => some [.int k m]
      | _ => none
    | some .bool => match d with
      | .lit (.bool b) => some [.bool b]
      | _ => none
    | some .string => match d with
      | .lit (.string s) => some [.string ⟨s.toArray⟩]
      | _ => none
    | some (.array m e) => match d with
      | .agg ds => wholeL (P.cellsOf t) (flatL P.cellsOf (flatC P n) 0 ((List.range m).map fun i => (i * P.cellsOf e, e)) ds)
      | _ => none
    | some (.struct fs) => match d with
      | .agg ds => wholeL (P.cellsOf t) (flatL P.cellsOf (flatC P n) 0 (fs.toList.map fun f => (f.offset, f.type)) ds)
      | _ => none
    | _ => none
theorem flatL_ok {c : TypeId → Nat} {r : TypeId → DataW Unit → Option (List Value)} {cs : List Value} : ∀ (l : List (Nat × TypeId)) (ds : List (DataW Unit)) (off : Nat) (vs : List Value) (e : Nat), flatL c r off l ds = some (vs, e) →
    (∀ (i o : Nat) (t : TypeId) (d : DataW Unit) (v : List Value), l[i]? = some (o, t) → ds[i]? = some d → r t d = some v → (cs.drop o).take (c t) = v) → cs.length = e → cs.drop off = vs
  | [], [], off, vs, e, h, _, hl => by
    cases h
    exact List.drop_eq_nil_of_le (by omega)
  | [], _ :: _, _, _, _, h, _, _ => by cases h
  | _ :: _, [], _, _, _, h, _, _ => by cases h
  | (o, t) :: l, d :: ds, off, vs, e, h, hr, hl => by
    have h : (bif Nat.beq o off then (match r t d with
      | some v => match flatL c r (off + c t) l ds with
        | some (vs, e) => some (v ++ vs, e)
        | none => none
      | none => none) else none) = some (vs, e) := h
    cases hb : Nat.beq o off <;> rw [hb] at h
    · cases h
    · have ho := (beq_iff _ _).1 hb
      subst ho
      have h : (match r t d with
        | some v => match flatL c r (o + c t) l ds with
          | some (vs, e) => some (v ++ vs, e)
          | none => none
        | none => none) = some (vs, e) := h
      cases hv : r t d with
      | none => rw [hv] at h; cases h
      | some v =>
        rw [hv] at h
        have h : (match flatL c r (o + c t) l ds with
          | some (vs, e) => some (v ++ vs, e)
          | none => none) = some (vs, e) := h
        cases hq : flatL c r (o + c t) l ds with
        | none => rw [hq] at h; cases h
        | some x =>
          obtain ⟨vs', e'⟩ := x
          rw [hq] at h
          cases h
          have ih := flatL_ok (cs := cs) l ds (o + c t) vs' _ hq (fun i o' t' d' v' a b => hr (i + 1) o' t' d' v' (by simpa using a) (by simpa using b)) hl
          have h0 := hr 0 o t d v rfl rfl hv
          rw [← ih, ← h0, ← List.drop_drop, List.take_append_drop]
theorem wholeL_inv {tot : Nat} {o : Option (List Value × Nat)} {vs : List Value} (h : wholeL tot o = some vs) : o = some (vs, tot) := by
  unfold wholeL at h
  split at h
  · rename_i vs' e
    cases hb : Nat.beq e tot <;> rw [hb] at h
    · cases h
    · cases h
      rw [(beq_iff _ _).1 hb]
  · cases h
theorem trod_flat {P : Program} {w : World} {base : Nat} {spare : Nat → Bool} {held : Bool} : ∀ (n : Nat) (t : TypeId) (d : DataW Unit) (vs : List Value) (fuel : Nat) (cs : List Value) (p : List MemPlace), flatC P n t d = some vs → DataW.trod (fun _ => ()) P w base spare held fuel t cs = some (d, p) → cs = vs
  | 0, _, _, _, _, _, _, h, _ => by cases h
  | n + 1, t, d, vs, fuel, cs, p, h, ht => by
    unfold flatC at h
    split at h
    · rename_i k hu
      obtain ⟨m, rfl, hx, _⟩ := DataW.trod_int hu ht
      cases hx
      cases h; rfl
    · rename_i hu
      obtain ⟨b, rfl, hx⟩ := DataW.trod_bool hu ht
      cases hx
      cases h; rfl
    · rename_i hu
      obtain ⟨s, rfl, hx, _⟩ := DataW.trod_string hu ht
      cases hx
      cases h
      simp
    · rename_i m e hu
      obtain ⟨xs, fu, rfl, hx, hl, hxl, hel⟩ := DataW.trod_array hu ht
      cases hx
      have h : wholeL (P.cellsOf t) (flatL P.cellsOf (flatC P n) 0 ((List.range m).map fun i => (i * P.cellsOf e, e)) (xs.map (·.1))) = some vs := h
      refine (List.drop_zero (l := cs)).symm.trans (flatL_ok (cs := cs) _ _ 0 vs _ (wholeL_inv h) (fun i o t' d' v a b c => ?_) hl)
      rw [List.getElem?_map] at a b
      cases hr : (List.range m)[i]? with
      | none => rw [hr] at a; cases a
      | some j =>
        rw [hr] at a; cases a
        have hi : i < m := by have := (List.getElem?_eq_some_iff.1 hr).1; simpa using this
        rw [List.getElem?_range hi] at hr; cases hr
        cases hxi : xs[i]? with
        | none => rw [hxi] at b; cases b
        | some x =>
          rw [hxi] at b; cases b
          have := hel i hi
          rw [hxi] at this
          exact trod_flat n e x.1 v fu _ x.2 c this
    · rename_i fs hu
      obtain ⟨xs, fu, rfl, hx, hl, hxl, hel⟩ := DataW.trod_struct hu ht
      cases hx
      have h : wholeL (P.cellsOf t) (flatL P.cellsOf (flatC P n) 0 (fs.toList.map fun f => (f.offset, f.type)) (xs.map (·.1))) = some vs := h
      refine (List.drop_zero (l := cs)).symm.trans (flatL_ok (cs := cs) _ _ 0 vs _ (wholeL_inv h) (fun i o t' d' v a b c => ?_) hl)
      rw [List.getElem?_map] at a b
      cases hr : fs.toList[i]? with
      | none => rw [hr] at a; cases a
      | some f =>
        rw [hr] at a; cases a
        cases hxi : xs[i]? with
        | none => rw [hxi] at b; cases b
        | some x =>
          rw [hxi] at b; cases b
          have := hel i f (by rw [← Array.getElem?_toList]; exact hr)
          rw [hxi] at this
          exact trod_flat n f.type x.1 v fu _ x.2 c this
    · cases h
/-- A variable that is listed holds what is listed. -/
theorem laid_flat {P : Program} {nm : String} {d : DataW Unit} {r : List (String × DataW Unit)} {W : World} {g t : Nat} {vs : List Value} (h : laidMet P ((nm, d) :: r) W) (hg : P.globalNamed nm = some g) (ht : (P.globals[g]?).map (·.type) = some t) (hf : flatC P 10 t d = some vs) :
    ∃ arr ty fz, W.heap[g]? = some (.cells arr ty fz) ∧ arr.toList = vs := by
  obtain ⟨ps, ⟨g0, t0, cs0, f0, p0, q0, hg0, ht0, hv0, hd0, _, _⟩, _, _⟩ := h
  obtain rfl := Option.some.inj (hg.symm.trans hg0)
  obtain rfl := Option.some.inj (ht.symm.trans ht0)
  have hcs := trod_flat 10 t d vs f0 _ p0 hf hd0
  unfold World.var? at hv0
  rw [hg] at hv0
  simp only [Option.bind_some] at hv0
  split at hv0
  · rename_i cs ty fz hc
    cases hv0
    exact ⟨_, ty, fz, hc, hcs⟩
  · cases hv0
/-- The evaluator's cells of such a variable. -/
def cellB : CV → Value → Bool
  | .i k n, .int k' n' => eqK k k' && eqI n n'
  | .b b, .bool b' => b == b'
  | .s l n, .string s => Nat.beq l (ofBytes s).1 && Nat.beq n (ofBytes s).2
  | _, _ => false
def cellsB : List CV → List Value → Bool
  | [], [] => true
  | c :: cs, v :: vs => cellB c v && cellsB cs vs
  | _, _ => false
theorem cellB_ok {ι : Ip} {c : CV} {v : Value} (h : cellB c v = true) : VR ι c v ∧ v.oneCell' = true := by
  unfold cellB at h
  split at h
  · rw [Bool.and_eq_true, eqI_eq, beq_iff_eq] at h
    rw [eqK_iff.1 h.1, h.2]
    exact ⟨.i _ _, rfl⟩
  · rw [beq_iff_eq] at h
    rw [h]; exact ⟨.b _, rfl⟩
  · rename_i l n s
    rw [Bool.and_eq_true, beq_iff, beq_iff] at h
    refine ⟨?_, rfl⟩
    have := ofC0_rel (ι := ι) (.string s)
    have this : VR ι (.s (ofBytes s).1 (ofBytes s).2) (.string s) := this
    rw [h.1, h.2]; exact this
  · cases h
theorem cellsB_ok {ι : Ip} : ∀ {cs : List CV} {vs : List Value}, cellsB cs vs = true → VRL ι cs vs ∧ ∀ v ∈ vs, v.oneCell' = true
  | [], [], _ => ⟨.nil, by simp⟩
  | [], _ :: _, h => by cases h
  | _ :: _, [], h => by cases h
  | c :: cs, v :: vs, h => by
    have h : (cellB c v && cellsB cs vs) = true := h
    rw [Bool.and_eq_true] at h
    obtain ⟨h1, h2⟩ := cellB_ok (ι := ι) h.1
    obtain ⟨h3, h4⟩ := cellsB_ok (ι := ι) h.2
    exact ⟨.cons h1 h3, by simpa using ⟨h2, h4⟩⟩
/-- The type of a block. -/
def tyAt (W : World) (g : Nat) : Nat := match W.heap[g]? with
  | some (.cells _ ty _) => ty
  | _ => 0
def flatB (P : Program) (t : Nat) (d : DataW Unit) (cs : List CV) : Bool := match flatC P 10 t d with
  | some vs => cellsB cs vs
  | none => false
theorem laid_has {P : Program} {nm : String} {d : DataW Unit} {r : List (String × DataW Unit)} {W : World} {g t : Nat} {cs : List CV} (h : laidMet P ((nm, d) :: r) W) (hg : P.globalNamed nm = some g) (ht : (P.globals[g]?).map (·.type) = some t) (hf : flatB P t d cs = true) :
    g < W.heap.size ∧ ∃ arr fz us, W.heap[g]? = some (.cells arr (tyAt W g) fz) ∧ VRL (fun _ _ => none) cs us ∧ (∀ u ∈ us, u.oneCell' = true) ∧ ∀ (i : Nat) (u : Value), us[i]? = some u → arr[i]? = some u := by
  unfold flatB at hf
  split at hf
  · rename_i vs hvs
    obtain ⟨arr, ty, fz, hh, ha⟩ := laid_flat h hg ht hvs
    obtain ⟨h1, h2⟩ := cellsB_ok (ι := fun _ _ => none) hf
    refine ⟨(Array.getElem?_eq_some_iff.1 hh).1, arr, fz, vs, ?_, h1, h2, fun i u hu => ?_⟩
    · unfold tyAt; rw [hh]
    · rw [← Array.getElem?_toList, ha]; exact hu
  · cases hf
theorem ghas_nil {W : World} : GHas W [] := fun x h => by cases h
theorem ghas_cons {W : World} {x : Nat × Nat × List CV} {l : GL} (h : ∃ arr fz us, W.heap[x.1]? = some (.cells arr x.2.1 fz) ∧ VRL (fun _ _ => none) x.2.2 us ∧ (∀ u ∈ us, u.oneCell' = true) ∧ ∀ (i : Nat) (u : Value), us[i]? = some u → arr[i]? = some u) (hs : GHas W l) : GHas W (x :: l) := fun y hy => by
  rcases List.mem_cons.1 hy with rfl | hy
  · exact h
  · exact hs y hy

/-! ### the end -/
section
variable {P : Program} {H : Type} {enc : TypeId × Value → H}
theorem post_of_below {f : Func} {s : ChangeSpec} {apart fresh handsOn again : Bool} {W W' : World} {args : Array Value} {v : Value} {ds gs : List (DataW H)} {before pa pv : List MemPlace}
    (hW : DataW.Whole enc P f.params.toList s.vars apart W args.toList ds gs before)
    (hres : ∀ (b : Nat) (sp : Nat → Bool) (hd : Bool), DataW.TrodAll enc P W' b sp hd f.resultTypes.toList (v.resultList f.resultTypes.size) (s.fn H (ds ++ gs)).results [])
    (hargs : ∀ sp : Nat → Bool, (∀ p ∈ before, sp p.block = true) → DataW.TrodAll enc P W' 0 sp true f.params.toList args.toList (s.fn H (ds ++ gs)).args pa)
    (hvars : ∀ sp : Nat → Bool, (∀ p ∈ before, sp p.block = true) → DataW.TrodVars enc P W' sp s.vars (s.fn H (ds ++ gs)).vars pv)
    (hps : before = pa ++ pv) (hb : Below W.heap.size W W')
    (hok : ∀ (j : Nat) (t : TypeId) (r : Value), f.resultTypes[j]? = some t → (v.resultList f.resultTypes.size)[j]? = some r → Value.okWide P W' .any 0 t r) :
    s.post enc P f apart fresh handsOn again W args v W' := by
  have hlt : ∀ p ∈ before, p.block < W.heap.size := fun p hp => hW.lt p hp
  have hold : ∀ p ∈ before, (fun b => decide (b < W.heap.size)) p.block = true := fun p hp => by simpa using hlt p hp
  refine ⟨ds, gs, before, [], pa, pv, hW, hres _ _ _, hargs _ hold, hvars _ hold, World.keptBut_mono (fun p hp => ⟨hp, ?_⟩) (hb.frame (· ∈ before)), fun _ => ?_⟩
  · rw [hps, List.mem_append] at hp
    exact Or.inr hp
  · obtain ⟨_, _, _, _, _, hz, hn⟩ := hW
    refine ⟨hok, _, _, ([] ++ pa) ++ pv, ⟨[] ++ pa, pv, trodAll_append (hargs _ (fun _ _ => rfl)) (hres _ _ _), hvars _ (fun _ _ => rfl), rfl, ?_, ?_⟩, ?_⟩
    · intro b off hp
      have hin : MemPlace.cell b off ∈ before := by rw [hps]; simpa using hp
      rw [hb.frozen (hlt _ hin)]
      exact hz b off hin
    · intro ha
      have := hn ha
      rw [hps] at this
      simpa using this
    · intro p hp _
      rw [hps]
      simpa using hp

theorem trodAll_below (hl : laidOutB P = true) {W W' : World} {sp : Nat → Bool} (hb : Below W.heap.size W W') : ∀ {ts : List TypeId} {vs : List Value} {ds : List (DataW H)} {ps : List MemPlace}, (∀ t ∈ ts, P.readableRec t = true ∧ t < P.types.size) →
    DataW.TrodAll enc P W 0 (fun _ => true) true ts vs ds ps → (∀ p ∈ ps, p.block < W.heap.size) → (∀ p ∈ ps, sp p.block = true) → DataW.TrodAll enc P W' 0 sp true ts vs ds ps
  | [], [], [], _, _, h, _, _ => h
  | t :: ts, v :: vs, d :: ds, ps, ht, h, hlt, hs => by
    obtain ⟨p, q, h1, h2, rfl⟩ := h
    refine ⟨p, q, WideElems.Trod_stays hl (ht t (List.mem_cons_self ..)).1 (ht t (List.mem_cons_self ..)).2 h1 (fun x hx => hb.same (hlt x (List.mem_append_left _ hx))) (fun x hx => hs x (List.mem_append_left _ hx)), ?_, rfl⟩
    exact trodAll_below hl hb (fun t h => ht t (List.mem_cons_of_mem _ h)) h2 (fun x hx => hlt x (List.mem_append_right _ hx)) (fun x hx => hs x (List.mem_append_right _ hx))
  | [], _ :: _, _, _, _, h, _, _ => h.elim
  | [], [], _ :: _, _, _, h, _, _ => h.elim
  | _ :: _, [], _, _, _, h, _, _ => h.elim
  | _ :: _, _ :: _, [], _, _, h, _, _ => h.elim

/-- The end of a law's proof. -/
theorem law_post (hl : laidOutB P = true) {fn : Func} {s : ChangeSpec} {apart fresh handsOn again : Bool} {W W' : World} {args : Array Value} {ds gs : List (DataW H)} {before : List MemPlace} {tb : TypeId}
    (hts : ∀ t ∈ fn.params.toList, P.readableRec t = true ∧ t < P.types.size) (hv : s.vars = []) (hres : fn.resultTypes = #[tb]) (htb : P.underlying tb = some .bool)
    (hW : DataW.Whole enc P fn.params.toList s.vars apart W args.toList ds gs before) (hfn : (s.fn H (ds ++ gs)) = { results := [.lit (.bool true)], args := ds }) (hb : Below W.heap.size W W') :
    s.post enc P fn apart fresh handsOn again W args (.bool true) W' := by
  have hW' := hW
  obtain ⟨p, q, hA, hV, rfl, hz, hn⟩ := hW
  have hlt : ∀ x ∈ p ++ q, x.block < W.heap.size := fun x hx => hW'.lt x hx
  have hq : gs = [] ∧ q = [] := by rw [hv] at hV; exact trodVars_none hV
  obtain ⟨rfl, rfl⟩ := hq
  refine post_of_below (pa := p) (pv := []) hW' (fun b sp hd => ?_) (fun sp hs => ?_) (fun sp hs => ?_) (by simp) hb (ok_one hres rfl (okWide_bool_mk htb _))
  · rw [hfn, hres]
    exact trodAll_mk1 (shut_bool htb true)
  · rw [hfn]
    exact trodAll_below hl hb hts hA (fun x hx => hlt x (by simp [hx])) (fun x hx => hs x (by simp [hx]))
  · rw [hfn, hv]
    rfl
end

/-- A law without arguments. -/
theorem law_fact {P : Program} {f : FuncId} {W : World} (h : Fact P W.heap.size W f [] (.b true)) : Calls P f #[] W fun e W' => e = .returned (.bool true) ∧ Below W.heap.size W W' := by
  obtain ⟨_, u, hu, hc⟩ := h (fun _ _ => none) [] W VRL.nil (Below.refl _ _) (Nat.le_refl _)
  have := hu.b_inv
  subst this
  exact hc
end Go.Cv
