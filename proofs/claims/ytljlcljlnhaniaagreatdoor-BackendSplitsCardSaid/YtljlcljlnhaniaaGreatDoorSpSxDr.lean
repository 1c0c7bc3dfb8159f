/- Part of the proof of the statement: an evaluator of the code at closed data, run by the kernel, and that it is sound; it has no conditions of its own. -/
import Derived.ProofKit
import Derived.Below
import Derived.Carry
import Derived.ChangeOld
import Derived.ChangeArms
import Derived.OpenShut
import Derived.MakeChecks
import Derived.Test.YtljlcljlnhaniaaGreatDoorSxg
set_option linter.unusedVariables false
set_option linter.unusedSimpArgs false
/- From contracts to laws: what is read as data, as the executor's values; a law that answers true. -/
namespace Go.Sx
open Go Go.ChangeShapes Go.WideShapes Go.RowKit

/-- The old blocks' cells: nobody writes them. -/
def oldI (W : World) : Nat → Nat → Prop := fun b _ => b < W.heap.size

def ROL (I : Nat → Nat → Prop) (w : World) (cs : List SV) (vs : List Value) : Prop := cs.length = vs.length ∧ (∀ (i : Nat) (s : SV) (v : Value), cs[i]? = some s → vs[i]? = some v → RO I w s v) ∧ ∀ v ∈ vs, v.oneCell' = true
theorem ROL.one {I : Nat → Nat → Prop} {w : World} {s : SV} {v : Value} (h : RO I w s v) (h1 : v.oneCell' = true) : ROL I w [s] [v] :=
  ⟨rfl, fun i s' v' a b => by cases i with | zero => simp at a b; subst a b; exact h | succ i => simp at a, by simpa using h1⟩
theorem ROL.nil {I : Nat → Nat → Prop} {w : World} : ROL I w [] [] := ⟨rfl, by simp, by simp⟩
theorem ROL.app {I : Nat → Nat → Prop} {w : World} {cs cs' : List SV} {vs vs' : List Value} (h : ROL I w cs vs) (h' : ROL I w cs' vs') : ROL I w (cs ++ cs') (vs ++ vs') := by
  refine ⟨by simp [h.1, h'.1], fun i s v a b => ?_, fun v hv => ?_⟩
  · rw [List.getElem?_append] at a b
    rw [h.1] at a
    split at a
    · rename_i hi
      rw [if_pos hi] at b
      exact h.2.1 i s v a b
    · rename_i hi
      rw [if_neg hi] at b
      exact h'.2.1 _ s v a b
  · rcases List.mem_append.1 hv with hv | hv
    · exact h.2.2 v hv
    · exact h'.2.2 v hv

section
variable {P : Program}

/-- Whatever reads as a datum of a type is a value that is encoded so. -/
def OpenT (P : Program) (t : TypeId) {α : Type} (enc : α → List SV) : Prop :=
  ∀ (H : Type) (tok : TypeId × Value → H) (W : World) (spare : Nat → Bool) (held : Bool) (fuel : Nat) (cs : List Value) (x : DataW H × List MemPlace), DataW.trod tok P W 0 spare held fuel t cs = some x → ∃ a, ROL (oldI W) W (enc a) cs

theorem OpenT.int {t : TypeId} {k : IntKind} (ht : P.underlying t = some (.int k)) : OpenT P t (fun n : Int => [.int k (.a n)]) := by
  intro H tok W spare held fuel cs x h
  obtain ⟨n, rfl, _, _⟩ := DataW.trod_int ht h
  exact ⟨n, .one (.int rfl) rfl⟩
/-- With its bounds. -/
theorem OpenT.intB {t : TypeId} {k : IntKind} (ht : P.underlying t = some (.int k)) : OpenT P t (fun n : {n : Int // (Lit.int k n).wf = true} => [.int k (.a n.1)]) := by
  intro H tok W spare held fuel cs x h
  obtain ⟨n, rfl, _, hw⟩ := DataW.trod_int ht h
  exact ⟨⟨n, hw⟩, .one (.int rfl) rfl⟩
theorem OpenT.bool {t : TypeId} (ht : P.underlying t = some .bool) : OpenT P t (fun b : Bool => [.bool (.a b)]) := by
  intro H tok W spare held fuel cs x h
  obtain ⟨n, rfl, _⟩ := DataW.trod_bool ht h
  exact ⟨n, .one (.bool rfl) rfl⟩
theorem OpenT.str {t : TypeId} (ht : P.underlying t = some .string) : OpenT P t (fun s : {s : List UInt8 // s.length ≤ maxLen} => [.str s.1]) := by
  intro H tok W spare held fuel cs x h
  obtain ⟨s, rfl, _, hs⟩ := DataW.trod_string ht h
  exact ⟨⟨s.data.toList, by simpa using hs⟩, .one (.str (by simp [bytes])) rfl⟩
theorem OpenT.map {t : TypeId} {α β : Type} {enc : α → List SV} {enc' : β → List SV} (h : OpenT P t enc) (f : α → β) (hf : ∀ a, enc' (f a) = enc a) : OpenT P t enc' := by
  intro H tok W spare held fuel cs x hx
  obtain ⟨a, ha⟩ := h H tok W spare held fuel cs x hx
  exact ⟨f a, by rw [hf]; exact ha⟩

theorem cells_get {W : World} {base : Nat} {a : Addr} {n : Nat} {cs : List Value} (h : W.cells? base a n = some cs) : cs.length = n ∧ ∀ i, i < n → W.cell? (a.add i) = cs[i]? := by
  unfold World.cells? at h
  split at h
  · have h2 := mapM_some_get h
    have h1 : cs.length = n := by simpa using mapM_some_length h
    refine ⟨h1, fun i hi => ?_⟩
    exact h2 i i (by simp [hi])
  · cases h
theorem cell_lt {W : World} {b o : Nat} {sp : Option Nat} {v : Value} (h : W.cell? ⟨b, o, sp⟩ = some v) : b < W.heap.size ∧ sp = none := by
  unfold World.cell? at h
  split at h
  · rename_i c _ _ hc
    split at h
    · cases h
    · rename_i hs
      exact ⟨(Array.getElem?_eq_some_iff.1 hc).1, by cases sp <;> simp at hs ⊢⟩
  · cases h

/-- A slice's rows. -/
def rowOfL {α : Type} (enc : α → List SV) (l : List α) (i : Nat) : List SV := match l[i]? with
  | some a => enc a
  | none => []
def slC {α : Type} (sz : Nat) (enc : α → List SV) (x : Bool × List α) : List SV := [.sl (.a x.1) (.a x.2.length) sz (rowOfL enc x.2)]

theorem OpenT.slice {t e : TypeId} {α : Type} {sz : Nat} {enc : α → List SV} (ht : P.underlying t = some (.slice e)) (hz : P.cellsOf e = sz) (h0 : 0 < sz) (he : OpenT P e enc) : OpenT P t (fun x : {x : Bool × List α // x.1 = true → x.2 = []} => slC sz enc x.1) := by
  intro H tok W spare held fuel cs x h
  rcases DataW.trod_slice ht h with ⟨rfl, _⟩ | ⟨a, len, cap, elems, rest, n, _, rfl, _, _, hle, hcap, hlen, hel, _, _⟩
  · exact ⟨⟨(true, []), fun _ => rfl⟩, .one (.slnil rfl rfl) rfl⟩
  · rw [hz] at hel
    have key : ∀ i, i < len → ∃ (al : α) (vs : List Value), ROL (oldI W) W (enc al) vs ∧ vs.length = sz ∧ ∀ j, j < sz → W.cell? ((a.add (i * sz)).add j) = vs[j]? := by
      intro i hi
      have h1 := hel i hi
      rw [List.getElem?_eq_getElem (by omega)] at h1
      cases hc : W.cells? 0 (a.add (i * sz)) sz with
      | none => rw [hc] at h1; cases h1
      | some vs =>
        rw [hc] at h1
        obtain ⟨al, hal⟩ := he H tok W _ _ _ vs _ h1
        have hg := cells_get hc
        exact ⟨al, vs, hal, hg.1, hg.2⟩
    have gen : ∀ len : Nat, (∀ i, i < len → ∃ (al : α) (vs : List Value), ROL (oldI W) W (enc al) vs ∧ vs.length = sz ∧ ∀ j, j < sz → W.cell? ((a.add (i * sz)).add j) = vs[j]?) → ∃ (l : List α) (g : Nat → Nat → Value), l.length = len ∧ ∀ i al, l[i]? = some al → (enc al).length = sz ∧ (∀ j, j < sz → W.cell? ((a.add (i * sz)).add j) = some (g i j) ∧ (g i j).oneCell' = true) ∧ ∀ j s, (enc al)[j]? = some s → RO (oldI W) W s (g i j) := by
      clear key hel hlen hcap hle h
      intro len key
      induction len with
      | zero => exact ⟨[], fun _ _ => undef, rfl, by simp⟩
      | succ len ih =>
        obtain ⟨l, g, hl, hg⟩ := ih (fun i hi => key i (by omega))
        obtain ⟨al, vs, k1, k2, k3⟩ := key len (by omega)
        refine ⟨l ++ [al], fun i j => if i = len then vs.getD j undef else g i j, by simp [hl], fun i al' hi => ?_⟩
        rw [List.getElem?_append] at hi
        split at hi
        · rename_i hlt
          have hne : i ≠ len := by omega
          obtain ⟨g1, g2, g3⟩ := hg i al' hi
          exact ⟨g1, fun j hj => by simpa only [if_neg hne] using g2 j hj, fun j s hs => by simpa only [if_neg hne] using g3 j s hs⟩
        · rename_i hlt
          have hil : i = len := by
            have := (List.getElem?_eq_some_iff.1 hi).1
            simp at this; omega
          subst hil
          have h00 : i - l.length = 0 := by omega
          rw [h00] at hi
          simp at hi
          subst hi
          refine ⟨by rw [k1.1, k2], fun j hj => ?_, fun j s hs => ?_⟩
          · simp only [if_pos]
            have hjv : vs[j]? = some vs[j] := List.getElem?_eq_getElem (by omega)
            rw [k3 j hj, hjv]
            simp only [List.getD_eq_getElem?_getD, hjv, Option.getD_some, true_and]
            exact k1.2.2 _ (List.getElem_mem _)
          · simp only [if_pos]
            have hjl : j < vs.length := by rw [← k1.1]; exact (List.getElem?_eq_some_iff.1 hs).1
            have hjv : vs[j]? = some vs[j] := List.getElem?_eq_getElem hjl
            simp only [List.getD_eq_getElem?_getD, hjv, Option.getD_some]
            exact k1.2.1 j s _ hs hjv
    obtain ⟨l, g, hl, hg⟩ := gen len key
    have hspot : 0 < len → a.spot = none := fun hpos => by
      obtain ⟨al, hal⟩ : ∃ al, l[0]? = some al := ⟨_, List.getElem?_eq_getElem (by omega)⟩
      obtain ⟨_, g2, _⟩ := hg 0 al hal
      have := (g2 0 h0).1
      obtain ⟨b, o, sp⟩ := a
      simp only [Nat.zero_mul, Addr.add, if_pos] at this
      exact (cell_lt this).2
    refine ⟨⟨(false, l), fun h => by cases h⟩, .one (.sl g rfl (by simp [ST.den, hl]) hle hcap hspot (fun i hi => ?_) (fun i j hi hj => ?_) (fun i j hi hj => ?_) (fun i j s hi hs => ?_)) rfl⟩
    · obtain ⟨al, hal⟩ : ∃ al, l[i]? = some al := ⟨_, List.getElem?_eq_getElem (by omega)⟩
      simp only [rowOfL, hal]
      exact (hg i al hal).1
    · obtain ⟨al, hal⟩ : ∃ al, l[i]? = some al := ⟨_, List.getElem?_eq_getElem (by omega)⟩
      exact ((hg i al hal).2.1 j hj).2
    · obtain ⟨al, hal⟩ : ∃ al, l[i]? = some al := ⟨_, List.getElem?_eq_getElem (by omega)⟩
      have hc := ((hg i al hal).2.1 j hj).1
      have e : (a.add (i * sz)).add j = ⟨a.block, a.off + (i * sz + j), none⟩ := by
        have hs := hspot (by omega)
        obtain ⟨b, o, sp⟩ := a
        simp only at hs
        subst hs
        simp only [add_lit]
        congr 1
        omega
      rw [e] at hc
      exact ⟨hc, (cell_lt hc).1⟩
    · obtain ⟨al, hal⟩ : ∃ al, l[i]? = some al := ⟨_, List.getElem?_eq_getElem (by omega)⟩
      simp only [rowOfL, hal] at hs
      exact (hg i al hal).2.2 j s hs

/-- Fields, from a place on. -/
def OpenF (P : Program) (fs : List (Nat × TypeId)) (o len : Nat) {α : Type} (enc : α → List SV) : Prop :=
  ∀ (H : Type) (tok : TypeId × Value → H) (W : World) (spare : Nat → Bool) (held : Bool) (cs : List Value), cs.length = o + len → (∀ p ∈ fs, ∃ fuel x, DataW.trod tok P W 0 spare held fuel p.2 ((cs.drop p.1).take (P.cellsOf p.2)) = some x) → ∃ a, ROL (oldI W) W (enc a) (cs.drop o)
theorem OpenF.nil {o : Nat} : OpenF P [] o 0 (fun _ : Unit => []) := by
  intro H tok W spare held cs hl _
  rw [List.drop_of_length_le (by omega)]
  exact ⟨(), .nil⟩
theorem OpenF.cons {fs : List (Nat × TypeId)} (o n len : Nat) {t : TypeId} {α β : Type} {enc : α → List SV} {enc' : β → List SV} (hn : P.cellsOf t = n) (h : OpenT P t enc) (hs : OpenF P fs (o + n) len enc') : OpenF P ((o, t) :: fs) o (n + len) (fun x : α × β => enc x.1 ++ enc' x.2) := by
  intro H tok W spare held cs hl hx
  obtain ⟨fuel, x, h1⟩ := hx (o, t) (List.mem_cons_self ..)
  simp only [hn] at h1
  obtain ⟨a, ha⟩ := h H tok W _ _ _ _ _ h1
  obtain ⟨b, hb⟩ := hs H tok W spare held cs (by omega) fun p hp => hx p (List.mem_cons_of_mem _ hp)
  refine ⟨(a, b), ?_⟩
  have e : cs.drop o = (cs.drop o).take n ++ cs.drop (o + n) := by rw [← List.drop_drop, List.take_append_drop]
  rw [e]
  exact ha.app hb
theorem OpenT.struct {t : TypeId} {fields : Array Field} {fs : List (Nat × TypeId)} {len : Nat} {α : Type} {enc : α → List SV} (ht : P.underlying t = some (.struct fields)) (hfs : (fields.toList.map fun f => (f.offset, f.type)) = fs) (hlen : P.cellsOf t = len) (h : OpenF P fs 0 len enc) : OpenT P t enc := by
  intro H tok W spare held fuel cs x hx
  obtain ⟨xs, n, _, _, hl, hxl, hf⟩ := DataW.trod_struct ht hx
  have := h H tok W spare held cs (by omega) fun p hp => ?_
  · simpa using this
  · rw [← hfs, List.mem_map] at hp
    obtain ⟨f, hf1, rfl⟩ := hp
    obtain ⟨i, hi, hfi⟩ := List.mem_iff_getElem.1 hf1
    have hi' : i < fields.size := by simpa using hi
    have := hf i f (by rw [← hfi]; simp [hi'])
    rw [List.getElem?_eq_getElem (by omega)] at this
    exact ⟨n, _, this⟩

/-- A law's call: it answers true, and leaves the old blocks alone. -/
theorem law_run {gl : List (Nat × SV)} {f : FuncId} {as : List SV} {W : World} {args : List Value} (h : CallsTo P gl f as [] (.bool (.a true)) [])
    (hgl : ∀ g s, look g gl = some s → RO (oldI W) W s (.pointer (some ⟨g, 0, none⟩)) ∧ g < W.heap.size ∧ glBlk W g s) (hl : as.length = args.length) (hr : ∀ (i : Nat) (s : SV) (v : Value), as[i]? = some s → args[i]? = some v → RO (oldI W) W s v) :
    Calls P f ⟨args⟩ W fun e W' => e = .returned (.bool true) ∧ Below W.heap.size W W' := by
  refine (h ⟨W, fun _ => False, oldI W, fun _ => none, fun _ => none, fun _ => none⟩ ⟨fun _ => none, fun _ => none, fun _ => none, fun _ => none, fun _ => none, oldI W⟩ W args rfl (fun _ _ h => h) (fun _ h => absurd h (by simp)) ⟨rfl, rfl, rfl, Nat.le_refl _, fun _ _ _ => rfl, fun _ _ h => ⟨h, rfl⟩, fun _ _ h => h, fun _ _ h => .inl h, fun _ _ h => (by cases h), ⟨fun _ _ h => (by cases h), fun _ _ h => (by cases h), fun _ _ h => (by cases h)⟩⟩ (fun g s h => ⟨(hgl g s h).1, (hgl g s h).2.1, fun h => h, (hgl g s h).2.2⟩) (fun h => ?_) ⟨hl, fun i s v a b => .ro (hr i s v a b)⟩).mono fun e W' hq => ?_
  · simp only [hfOf, nth]
    exact ⟨rfl, rfl, rfl, rfl⟩
  · obtain ⟨v, E', rfl, hb, _, hv⟩ := hq
    rw [hv.bool_inv]
    exact ⟨rfl, ⟨hb.os, hb.tape, hb.output, hb.size, fun k hk => hb.old k hk (fun h => h)⟩⟩

section
variable {H : Type} {enc : TypeId × Value → H}
theorem post_of_below {f : Func} {s : ChangeSpec} {apart fresh handsOn again : Bool} {W W' : World} {args : Array Value} {v : Value} {ds gs : List (DataW H)} {before pa pv : List MemPlace}
    (hW : DataW.Whole enc P f.params.toList s.vars apart W args.toList ds gs before)
    (hres : ∀ (b : Nat) (sp : Nat → Bool) (hd : Bool), DataW.TrodAll enc P W' b sp hd f.resultTypes.toList (v.resultList f.resultTypes.size) (s.fn H (ds ++ gs)).results [])
    (hargs : ∀ sp : Nat → Bool, (∀ p ∈ before, sp p.block = true) → DataW.TrodAll enc P W' 0 sp true f.params.toList args.toList (s.fn H (ds ++ gs)).args pa)
    (hvars : ∀ sp : Nat → Bool, (∀ p ∈ before, sp p.block = true) → DataW.TrodVars enc P W' sp s.vars (s.fn H (ds ++ gs)).vars pv)
    (hps : before = pa ++ pv) (hb : Below W.heap.size W W')
    (hok : ∀ (j : Nat) (t : TypeId) (r : Value), f.resultTypes[j]? = some t → (v.resultList f.resultTypes.size)[j]? = some r → Value.okWide P W' .any 0 t r) :
    s.post enc P f apart fresh handsOn again W args v W' := by
  have hlt : ∀ p ∈ before, p.block < W.heap.size := fun p hp => hW.lt p hp
  have hold : ∀ p ∈ before, (fun b => decide (b < W.heap.size)) p.block = true := fun p hp => by simpa using hlt p hp
  refine ⟨ds, gs, before, [], pa, pv, hW, hres _ _ _, hargs _ hold, hvars _ hold, World.keptBut_mono (fun p hp => ⟨hp, ?_⟩) (hb.frame (· ∈ before)), fun _ => ?_⟩
  · rw [hps, List.mem_append] at hp
    exact Or.inr hp
  · obtain ⟨_, _, _, _, _, hz, hn⟩ := hW
    refine ⟨hok, _, _, ([] ++ pa) ++ pv, ⟨[] ++ pa, pv, trodAll_append (hargs _ (fun _ _ => rfl)) (hres _ _ _), hvars _ (fun _ _ => rfl), rfl, ?_, ?_⟩, ?_⟩
    · intro b off hp
      have hin : MemPlace.cell b off ∈ before := by rw [hps]; simpa using hp
      rw [hb.frozen (hlt _ hin)]
      exact hz b off hin
    · intro ha
      have := hn ha
      rw [hps] at this
      simpa using this
    · intro p hp _
      rw [hps]
      simpa using hp

theorem trodAll_below (hl : laidOutB P = true) {W W' : World} {sp : Nat → Bool} (hb : Below W.heap.size W W') : ∀ {ts : List TypeId} {vs : List Value} {ds : List (DataW H)} {ps : List MemPlace}, (∀ t ∈ ts, P.readableRec t = true ∧ t < P.types.size) →
    DataW.TrodAll enc P W 0 (fun _ => true) true ts vs ds ps → (∀ p ∈ ps, p.block < W.heap.size) → (∀ p ∈ ps, sp p.block = true) → DataW.TrodAll enc P W' 0 sp true ts vs ds ps
  | [], [], [], _, _, h, _, _ => h
  | t :: ts, v :: vs, d :: ds, ps, ht, h, hlt, hs => by
    obtain ⟨p, q, h1, h2, rfl⟩ := h
    refine ⟨p, q, WideElems.Trod_stays hl (ht t (List.mem_cons_self ..)).1 (ht t (List.mem_cons_self ..)).2 h1 (fun x hx => hb.same (hlt x (List.mem_append_left _ hx))) (fun x hx => hs x (List.mem_append_left _ hx)), ?_, rfl⟩
    exact trodAll_below hl hb (fun t h => ht t (List.mem_cons_of_mem _ h)) h2 (fun x hx => hlt x (List.mem_append_right _ hx)) (fun x hx => hs x (List.mem_append_right _ hx))
  | [], _ :: _, _, _, _, h, _, _ => h.elim
  | [], [], _ :: _, _, _, h, _, _ => h.elim
  | _ :: _, [], _, _, _, h, _, _ => h.elim
  | _ :: _, _ :: _, [], _, _, h, _, _ => h.elim

/-- The end of a law's proof. -/
theorem law_post (hl : laidOutB P = true) {fn : Func} {s : ChangeSpec} {apart fresh handsOn again : Bool} {W W' : World} {args : Array Value} {ds gs : List (DataW H)} {before : List MemPlace} {tb : TypeId}
    (hts : ∀ t ∈ fn.params.toList, P.readableRec t = true ∧ t < P.types.size) (hv : s.vars = []) (hres : fn.resultTypes = #[tb]) (htb : P.underlying tb = some .bool)
    (hW : DataW.Whole enc P fn.params.toList s.vars apart W args.toList ds gs before) (hfn : (s.fn H (ds ++ gs)) = { results := [.lit (.bool true)], args := ds }) (hb : Below W.heap.size W W') :
    s.post enc P fn apart fresh handsOn again W args (.bool true) W' := by
  have hW' := hW
  obtain ⟨p, q, hA, hV, rfl, hz, hn⟩ := hW
  have hlt : ∀ x ∈ p ++ q, x.block < W.heap.size := fun x hx => hW'.lt x hx
  have hq : gs = [] ∧ q = [] := by rw [hv] at hV; exact trodVars_none hV
  obtain ⟨rfl, rfl⟩ := hq
  refine post_of_below (pa := p) (pv := []) hW' (fun b sp hd => ?_) (fun sp hs => ?_) (fun sp hs => ?_) (by simp) hb (ok_one hres rfl (okWide_bool_mk htb _))
  · rw [hfn, hres]
    exact trodAll_mk1 (shut_bool htb true)
  · rw [hfn]
    exact trodAll_below hl hb hts hA (fun x hx => hlt x (by simp [hx])) (fun x hx => hs x (by simp [hx]))
  · rw [hfn, hv]
    rfl
end

/-- Arguments that are read as data. -/
theorem open_args {H : Type} {tok : TypeId × Value → H} {W : World} {ts : List TypeId} {vs : List Value} {ds : List (DataW H)} {ps : List MemPlace} (h : DataW.TrodAll tok P W 0 (fun _ => true) true ts vs ds ps) :
    ts.length = vs.length ∧ ∀ (i : Nat) (t : TypeId) (v : Value), ts[i]? = some t → vs[i]? = some v → ∃ fuel x, DataW.trod tok P W 0 (fun _ => true) true fuel t v.cells.toList = some x := by
  induction ts generalizing vs ds ps with
  | nil => cases vs <;> cases ds <;> first | exact h.elim | simp
  | cons t ts ih =>
    cases vs with
    | nil => exact h.elim
    | cons v vs =>
      cases ds with
      | nil => exact h.elim
      | cons d ds =>
        obtain ⟨p, q, ⟨fuel, h1⟩, h2, _⟩ := h
        have := ih h2
        refine ⟨by simp [this.1], fun i t' v' a b => ?_⟩
        cases i with
        | zero => simp at a b; subst a b; exact ⟨fuel, _, h1⟩
        | succ i => exact this.2 i t' v' (by simpa using a) (by simpa using b)
/-- One that is one cell. -/
theorem arg_one {I : Nat → Nat → Prop} {W : World} {s : SV} {v : Value} (hn : ∀ a, v ≠ .agg a) (h : ROL I W [s] v.cells.toList) : RO I W s v := by
  cases v with
  | agg a => exact absurd rfl (hn a)
  | _ => exact h.2.1 0 s _ rfl (by simp [Value.cells])
theorem arg_slice {I : Nat → Nat → Prop} {W : World} {r : Reach} {base : Nat} {t e : TypeId} {s : SV} {v : Value} (ht : P.underlying t = some (.slice e)) (hv : Value.okWide P W r base t v) (h : ROL I W [s] v.cells.toList) : RO I W s v := by
  obtain ⟨a, len, cap, rfl⟩ := okWide_slice ht hv
  exact arg_one (fun _ h => by cases h) h
theorem arg_int {I : Nat → Nat → Prop} {W : World} {r : Reach} {base : Nat} {t : TypeId} {k : IntKind} {s : SV} {v : Value} (ht : P.underlying t = some (.int k)) (hv : Value.okWide P W r base t v) (h : ROL I W [s] v.cells.toList) : RO I W s v := by
  obtain ⟨n, rfl⟩ := okWide_int ht hv
  exact arg_one (fun _ h => by cases h) h
theorem arg_bool {I : Nat → Nat → Prop} {W : World} {r : Reach} {base : Nat} {t : TypeId} {s : SV} {v : Value} (ht : P.underlying t = some .bool) (hv : Value.okWide P W r base t v) (h : ROL I W [s] v.cells.toList) : RO I W s v := by
  obtain ⟨n, rfl⟩ := okWide_bool ht hv
  exact arg_one (fun _ h => by cases h) h
theorem arg_string {I : Nat → Nat → Prop} {W : World} {r : Reach} {base : Nat} {t : TypeId} {s : SV} {v : Value} (ht : P.underlying t = some .string) (hv : Value.okWide P W r base t v) (h : ROL I W [s] v.cells.toList) : RO I W s v := by
  obtain ⟨n, rfl⟩ := okWide_string ht hv
  exact arg_one (fun _ h => by cases h) h
theorem arg_struct {I : Nat → Nat → Prop} {W : World} {r : Reach} {base : Nat} {t : TypeId} {fs : Array Field} {cs : List SV} {v : Value} (ht : P.underlying t = some (.struct fs)) (hv : Value.okWide P W r base t v) (h : ROL I W cs v.cells.toList) : RO I W (.agg cs) v := by
  obtain ⟨a, rfl, _⟩ := okWide_struct ht hv
  exact .agg (vs := a.toList) h.1 h.2.1
/-- A struct, an array. -/
theorem arg_agg {I : Nat → Nat → Prop} {W : World} {cs : List SV} {a : Array Value} (h : ROL I W cs a.toList) : RO I W (.agg cs) (.agg a) := .agg (vs := a.toList) h.1 h.2.1
end
end Go.Sx
