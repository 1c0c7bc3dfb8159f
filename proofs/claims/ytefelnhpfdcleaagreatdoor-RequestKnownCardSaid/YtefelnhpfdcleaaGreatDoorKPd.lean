/- Part of the proofs of the statements about requests (layer 7): a symbolic executor over the code, that it is sound, and contracts of functions; it has no conditions of its own. -/
import Derived.ScopeJumps
import Derived.Below
import Derived.Lib.ItoaNum
import Derived.Test.YtefelnhpfdcleaaGreatDoorProg
import Derived.Shelf.Strings.SlTrimAscii
import Derived.Shelf.Strings.Builder1
import Derived.Shelf.Strings.Builder2
import Derived.Shelf.Strings.OnBuilder
import Derived.Shelf.Strings.Trim
import Derived.Shelf.Small.Utf8
import Derived.Shelf.Small.Strs
import Derived.Shelf.Small.Wraps
import Derived.Shelf.Strings.BuilderF
import Derived.Shelf.Strings.BuilderK
import Derived.Shelf.Strings.Builder2Cap
import Derived.Shelf.Strconv.Itoa0
import Derived.Shelf.Strconv.Itoa1
import Derived.Shelf.LaysM
import Derived.Shelf.Strconv.Itoa2
import Derived.Shelf.Strconv.Itoa3
import Derived.Shelf.Strconv.Itoa4
import Derived.Shelf.Strconv.ParseIntEmpty
import Derived.Shelf.Strconv.Clone
import Derived.Shelf.Strconv.SyntaxError
import Derived.Shelf.Strconv.Lower
import Derived.Shelf.Strconv.ParseUint10
import Derived.Shelf.Strconv.ParseUint10Empty
import Derived.Shelf.Strconv.RangeError
import Derived.Shelf.Strconv.ParseUintEmpty
import Derived.Shelf.Strconv.ParseUint10b64
import Derived.Shelf.Strconv.ParseUint10b32
import Derived.Shelf.Strconv.ParseUint10b16
import Derived.Shelf.Strconv.ParseUint10b8
import Derived.Shelf.Strings.Search1
import Derived.Shelf.Strings.Search2
import Derived.Shelf.Strings.Search3
import Derived.Shelf.Strings.Cut
import Derived.Shelf.Strings.Shaped
import Derived.Shelf.Strings.Prefix
import Derived.Shelf.Unicode.Decode
import Derived.Shelf.Strings.Runes
import Derived.Shelf.Strings.AsciiSet
import Derived.Shelf.Unicode.DecodeSlow
import Derived.Shelf.Unicode.DecodeAny
import Derived.Shelf.Unicode.DecodeLast
import Derived.Ground.SlgfProg
import Derived.Shelf.SlicesE.IndexFunc
import Derived.Shelf.SlicesE.DeleteFunc
import Derived.Shelf.Bytes.IndexByte
import Derived.Lib.Walk
import Derived.WalkKit
import Derived.Shelf.LaysC
import Derived.Shelf.Strconv.ToError
import Derived.Shelf.Strconv.ParseUint10Any
import Derived.Shelf.Strconv.ParseInt10
import Derived.Shelf.Strconv.ToErrorRange
import Derived.Shelf.Strconv.ParseUint10At
import Derived.Shelf.Strconv.ParseInt10At64
import Derived.Shelf.Strconv.ParseInt10At32
import Derived.Shelf.Strconv.ParseInt10At16
import Derived.Shelf.Strconv.ParseInt10At8
import Derived.Shelf.Strconv.ParseInt10All
import Derived.Shelf.Strconv.ParseIntPublic10
import Derived.Shelf.Strconv.ErrVarParseInt
import Derived.Shelf.GgClosure.StringsIndexFunc
import Derived.Ground.GgwProg
import Derived.Shelf.GgClosure.StringsIndexFuncTop
import Derived.Shelf.Strings.FuncGrows
import Derived.Shelf.Strings.BuilderCap
import Derived.Test.YtefelnhpfdcleaaGreatDoorKPc
/- Functions. -/
namespace Go.Sx
open Go
theorem LeV.refl (s : SV) : LeV s s := fun _ _ _ h => h
theorem LeH.refl (ls : List Hl) : LeH ls ls := fun _ _ _ h => h
section
variable {P : Program} {cx : Cx}
def resRow (tmps : Array Value) : ResultVar → Sem Value
  | .tmp t => pure (tmps.getD t undef)
  | .cell ad t => do loadVar t (← asAddr (tmps.getD ad undef))
theorem results_eq (fn : Func) (tmps : Array Value) : results fn tmps = (do let vs ← fn.results.mapM (resRow tmps); pure (if h : vs.size = 1 then vs[0] else .tuple vs)) := by
  unfold results
  congr 1
/-- What a body's end asks. -/
theorem resVs_sound (hc : CxOk P cx) {B : Bs} {N : Nat} (hg : glOk B cx.gl) {E : Env} {a : Act} {w : World} {σ : Sy} (hs : StY B N E a w σ) : ∀ (rs : List ResultVar) (vs : List SV), resVs cx σ rs = some vs →
    ∃ us, (rs.mapM (resRow a.tmps)).run P w = .ok us w ∧ RelL E w vs us
  | [], vs, h => by simp [resVs] at h; subst h; exact ⟨[], rfl, .nil⟩
  | .tmp t :: rs, vs, h => by
    simp only [resVs] at h
    split at h
    · rename_i v vs' hv hvs
      cases h
      obtain ⟨us, h1, h2⟩ := resVs_sound hc hg hs rs vs' hvs
      have hr := rd_sound hv hg hs.st (fun _ _ => rfl) trivial
      exact ⟨a.tmps.getD t undef :: us, by simp only [List.mapM_cons, resRow, Sem.run_bind, Sem.run_pure, Result.andThen_ok, h1], .cons hr h2⟩
    · cases h
  | .cell ad t :: rs, vs, h => by
    simp only [resVs] at h
    split at h
    · rename_i hd off n vs' hv hn hvs
      split at h
      · rename_i ty cs hh
        split at h
        · rename_i hb
          split at h
          · rename_i v hp
            cases h
            rw [lenN_eq] at hb
            have hle := Nat.le_of_ble_eq_true hb
            rw [takeN_eq, dropN_eq] at hp
            obtain ⟨us, h1, h2⟩ := resVs_sound hc hg hs rs vs' hvs
            obtain ⟨b, hβ, hx⟩ := (rd_sound hv hg hs.st (fun _ _ => rfl) trivial).ptr_inv
            have hk := hs.st.heap hd
            rw [nth_hf hh] at hk
            obtain ⟨b', C, k1, _, k3, k4, _, _⟩ := hk.blk_inv
            obtain rfl : b = b' := Option.some.inj (hβ.symm.trans k1)
            obtain ⟨ti, hti, hsz⟩ := size?_ti hn
            have hsub := sub_RelL (off := off) (n := n) k4 rfl (fun _ _ _ => rfl)
            obtain ⟨p1, p2⟩ := pack_rel hp hsub
            have hlen : ((C.toList.drop off).take n).length = n := by rw [← hsub.1]; simp; omega
            have hrun := run_loadAt (hc.ti hti) (w := w) (b := b) (off := off) (vs := (C.toList.drop off).take n) (fun j v hj => by
              rw [List.getElem?_take] at hj
              split at hj
              · rw [List.getElem?_drop] at hj
                rw [cell_of_row w b (off + j) C ty (0, 0) k3]
                simpa using hj
              · cases hj) (by rw [hlen, hsz]) (isAgg?_eq hti) p1
            have hx : a.tmps.getD ad undef = .pointer (some ⟨b, off, none⟩) := hx
            have hl : (loadVar t ⟨b, off, none⟩).run P w = .ok (if isAgg? cx t then .agg ⟨(C.toList.drop off).take n⟩ else ((C.toList.drop off).take n).headD undef) w := by
              simpa only [Instr.loadAt, Instr.sureAddr, Sem.run_bind, Sem.run_pure, Result.andThen_ok] using hrun
            refine ⟨_ :: us, ?_, .cons p2 h2⟩
            have hrow : (resRow a.tmps (.cell ad t)).run P w = .ok (if isAgg? cx t then .agg ⟨(C.toList.drop off).take n⟩ else ((C.toList.drop off).take n).headD undef) w := by
              simp only [resRow, hx, asAddr, Sem.run_bind, Sem.run_pure, Result.andThen_ok, hl]
            simp only [List.mapM_cons, Sem.run_bind, hrow, Result.andThen_ok, h1, Sem.run_pure]
          · cases h
        · cases h
      · cases h
    · cases h
theorem HOk.normH {E : Env} {w : World} {hp : List Hl} {h : Nat} (hk : HOk E w h (hfOf hp h)) : HOk E w h (hfOf (normH dn hp) h) := by
  simp only [hfOf, nth_eq, normH_get] at hk ⊢
  cases hl : hp[h]? with
  | none => rw [hl] at hk; exact hk
  | some l =>
    rw [hl] at hk
    cases l with
    | blk ty cs =>
      simp only [Option.map_some, Option.getD_some] at hk ⊢
      obtain ⟨b, C, k1, k2, k3, k4, k5, k6⟩ := hk.blk_inv
      have hn : RelL E w (loose.looseL (norm.normL dn cs)) C.toList := by
        rw [looseL_eq, normL_eq]
        exact (k4.map _ fun s v _ h => h.norm).map _ fun s v _ h => h.loose
      exact ⟨b, C, k1, k2, k3, by have := hn.1; simpa using this.symm, fun i s v p q => hn.2 i s v p (by simpa using q), fun v hv => k5 v (by simpa using hv), k6⟩
    | _ => exact hk
theorem getO_start (ntmps : Nat) (args : List SV) (s : Nat) (g : G) (h : getO (startFr ntmps args) s = some g) : ∃ v, args[s]? = some v ∧ g = ⟨[], none, none, v⟩ := by
  rw [getO_eq] at h
  unfold startFr at h
  by_cases hlt : s < args.length
  · rw [List.getElem?_append_left (by simpa using hlt)] at h
    simp [hlt] at h
    exact ⟨args[s], by simp [hlt], h.symm⟩
  · rw [List.getElem?_append_right (by simp; omega)] at h
    rw [List.getElem?_replicate] at h
    split at h <;> simp at h
theorem ownTo_rel {E E' : Env} {w : World} {h k : Nat} (hI : E'.I = E.I) (hτ : E'.τ k = E.τ h) : ∀ {vs : List SV} {us : List Value}, ownOk h vs = true → RelL E w vs us → RelL E' w (ownTo h k vs) us
  | [], us, _, hr => ⟨hr.1, by simp [ownTo]⟩
  | v :: vs, [], _, hr => absurd hr.1 (by simp)
  | v :: vs, u :: us, ho, hr => by
    have htl : RelL E w vs us := ⟨by have := hr.1; simpa using this, fun i s v a b => hr.2 (i + 1) s v a b⟩
    have hhd := hr.2 0 v u rfl rfl
    by_cases hv : ∃ nl n h', v = .osl nl n h'
    · obtain ⟨nl, n, h', rfl⟩ := hv
      simp only [ownOk, Bool.and_eq_true, beq_iff_eq] at ho
      obtain ⟨rfl, ho⟩ := ho
      obtain ⟨ht, a, m, c, t1, t2⟩ := hhd.osl_inv
      exact .cons (.osl ht ⟨a, m, c, by rw [hτ]; exact t1, t2⟩) (ownTo_rel hI hτ ho htl)
    · have h1 : ownOk h (v :: vs) = (plainV v && ownOk h vs) := by
        cases v <;> first | rfl | exact absurd ⟨_, _, _, rfl⟩ hv
      have h2 : ownTo h k (v :: vs) = v :: ownTo h k vs := by
        cases v <;> first | rfl | exact absurd ⟨_, _, _, rfl⟩ hv
      rw [h1, Bool.and_eq_true] at ho
      rw [h2]
      exact .cons (hhd.plain hI ho.1) (ownTo_rel hI hτ ho.2 htl)
/-- A body's end. -/
theorem end_sound (hc : CxOk P cx) {B : Bs} {N : Nat} (hg : glOk B cx.gl) {E' : Env} {a' : Act} {w' : World} {σ' : Sy} (hs' : StY B N E' a' w' σ') {fn : Func} {m : Nat} (hdom : ∀ h, B.β0 h ≠ none ∨ B.τ0 h ≠ none ∨ B.ζ0 h ≠ none → h < m) {r : SV} {ls' : List Hl} (hk : match resVs cx σ' fn.results.toList with
        | some vs => endK cx m vs σ' fun r' ls'' => Fin r' r ls'' ls'
        | none => False) : ∃ v, (results fn a'.tmps).run P w' = .ok v w' ∧ ∃ v_1 E', Ending.returned v = .returned v_1 ∧ Base B E' w' ∧ (∀ h, h < ls'.length → HOk E' w' h (hfOf ls' h)) ∧ Rel E' w' r v_1 := by
  split at hk
  · rename_i vs hvs
    obtain ⟨us, u1, u2⟩ := resVs_sound hc hg hs' fn.results.toList vs hvs
    have hbase := hs'.st.base
    have hres : (results fn a'.tmps).run P w' = .ok (if h : (⟨us⟩ : Array Value).size = 1 then (⟨us⟩ : Array Value)[0] else .tuple ⟨us⟩) w' := by
      rw [results_eq, Array.mapM_eq_mapM_toList]
      simp only [Sem.run_bind, Sem.run_map, u1, Result.andThen_ok, Sem.run_pure]
    unfold endK at hk
    rw [hc.D] at hk
    split at hk
    · obtain ⟨k1, k2, k3⟩ := hk
      refine ⟨_, hres, _, E', rfl, hbase, fun h hlt => ?_, ?_⟩
      · refine k2 h E' w' ?_
        refine HOk.normH ?_
        have := hs'.st.heap h
        have hlt2 : h < m := by
          rw [len_normH, takeN_eq, List.length_take] at k3; omega
        simp only [hfOf, nth_eq, takeN_eq] at this ⊢
        rw [List.getElem?_take, if_pos hlt2]
        exact this
      · exact k1 E' w' _ (pack1_rel u2).norm.loose
    · rename_i h _
      split at hk
      · rename_i ty n sz gr f hcond hh
        simp only [Bool.and_eq_true] at hcond
        obtain ⟨⟨c1, c2⟩, c3⟩ := hcond
        have c1 := Nat.le_of_ble_eq_true c1
        obtain ⟨k1, k2, k3⟩ := hk
        have hm : m ≤ σ'.hp.length := by
          rw [nth_eq] at hh
          have := (List.getElem?_eq_some_iff.1 hh).1
          omega
        let O2 : Nat → Option Nat := fun b => (E'.O b).bind fun j => if j < m then some j else if j = h then some m else none
        let E2 : Env := ⟨fun k => if k < m then E'.β k else if k = m then E'.β h else none, fun k => if k < m then E'.τ k else if k = m then E'.τ h else none, O2, fun k => if k < m then E'.κ k else none, fun k => if k < m then E'.ζ k else if k = m then E'.ζ h else none, E'.I⟩
        have hbase2 : Base B E2 w' := by
          refine ⟨hbase.os, hbase.tape, hbase.output, hbase.size, hbase.old, hbase.I0, hbase.Ibd, hbase.Inew, fun b j hO => ?_, ⟨fun k b hk => ?_, fun k v hk => ?_, fun k z hk => ?_⟩⟩
          · have hO : (E'.O b).bind (fun j => if j < m then some j else if j = h then some m else none) = some j := hO
            cases hEO : E'.O b with
            | none => rw [hEO] at hO; cases hO
            | some q => exact hbase.Obd b q hEO
          · show (if k < m then E'.β k else if k = m then E'.β h else none) = some b
            rw [if_pos (hdom k (.inl (by rw [hk]; simp)))]; exact hbase.β0.β k b hk
          · show TauLe v (if k < m then E'.τ k else if k = m then E'.τ h else none)
            rw [if_pos (hdom k (.inr (.inl (by rw [hk]; simp))))]; exact hbase.β0.τ k v hk
          · show (if k < m then E'.ζ k else if k = m then E'.ζ h else none) = some z
            rw [if_pos (hdom k (.inr (.inr (by rw [hk]; simp))))]; exact hbase.β0.ζ k z hk
        have hO1 : ∀ b k, k < m → E'.O b = some k → O2 b = some k := fun b k hk hb => by simp [O2, hb, hk]
        have hO2 : ∀ b, E'.O b = some h → O2 b = some m := fun b hb => by
          simp only [O2, hb, Option.bind_some]
          rw [if_neg (by omega)]
          simp
        refine ⟨_, hres, _, E2, rfl, hbase2, fun k hlt => ?_, ?_⟩
        · refine k2 k E2 w' ?_
          have hlen : (normH dn (takeN m σ'.hp ++ [.own ty n sz gr f])).length = m + 1 := by
            rw [len_normH, takeN_eq, List.length_append, List.length_take, Nat.min_eq_left hm]; rfl
          rw [hlen] at k3
          have htl : (takeN m σ'.hp).length = m := by rw [takeN_eq, List.length_take, Nat.min_eq_left hm]
          have hkk := hs'.st.heap
          by_cases hkm : k < m
          · have h1 : hfOf (normH dn (takeN m σ'.hp ++ [.own ty n sz gr f])) k = hfOf (normH dn (takeN m σ'.hp)) k := by
              simp only [hfOf, nth_eq, normH_get]
              rw [List.getElem?_append_left (by omega)]
            rw [h1]
            have h2 : HOk E' w' k (hfOf (normH dn (takeN m σ'.hp)) k) := by
              refine HOk.normH ?_
              have := hkk k
              simp only [hfOf, nth_eq, takeN_eq] at this ⊢
              rw [List.getElem?_take, if_pos hkm]
              exact this
            obtain ⟨l, hl⟩ : ∃ l, (normH dn (takeN m σ'.hp))[k]? = some l := ⟨_, List.getElem?_eq_getElem (by rw [len_normH]; omega)⟩
            have hle : hfOf (normH dn (takeN m σ'.hp)) k = l := by simp only [hfOf, nth_eq, hl, Option.getD_some]
            rw [hle] at h2 ⊢
            exact h2.move (plainH_get c3 hl) rfl (if_pos hkm) (if_pos hkm) (if_pos hkm) fun b hb => hO1 b k hkm hb
          · obtain rfl : k = m := by omega
            have h1 : hfOf (normH dn (takeN k σ'.hp ++ [.own ty n sz gr f])) k = .own ty (.a (dn.i n)) sz gr f := by
              simp only [hfOf, nth_eq, normH_get]
              rw [List.getElem?_append_right (by omega), htl, Nat.sub_self]
              rfl
            rw [h1]
            have h2 := hkk h
            rw [nth_hf hh] at h2
            have h3 : HOk E' w' h (.own ty (.a (dn.i n)) sz gr f) := h2
            refine h3.move trivial rfl ?_ ?_ ?_ hO2
            · show (if k < k then E'.β k else if k = k then E'.β h else none) = E'.β h
              rw [if_neg (by omega), if_pos rfl]
            · show (if k < k then E'.τ k else if k = k then E'.τ h else none) = E'.τ h
              rw [if_neg (by omega), if_pos rfl]
            · show (if k < k then E'.ζ k else if k = k then E'.ζ h else none) = E'.ζ h
              rw [if_neg (by omega), if_pos rfl]
        · have hτm : E2.τ m = E'.τ h := by
            show (if m < m then E'.τ m else if m = m then E'.τ h else none) = E'.τ h
            rw [if_neg (by omega), if_pos rfl]
          have hrel : RelL E2 w' (ownTo h m vs) us := ownTo_rel (E := E') (E' := E2) rfl hτm c2 u2
          exact k1 E2 w' _ (pack1_rel hrel).norm.loose
      · exact hk.elim
  · exact hk.elim
/-- A body's end, whatever is handed back. -/
theorem end_soundG (hc : CxOk P cx) {B : Bs} {N : Nat} (hg : glOk B cx.gl) {E' : Env} {a' : Act} {w' : World} {σ' : Sy} (hs' : StY B N E' a' w' σ') {fn : Func} {m : Nat} (hdom : ∀ h, B.β0 h ≠ none ∨ B.τ0 h ≠ none ∨ B.ζ0 h ≠ none → h < m) {r : SV} {ls' : List Hl} (hk : match resVs cx σ' fn.results.toList with
        | some vs => endG cx m vs σ' fun r' ls'' => Fin r' r ls'' ls'
        | none => False) : ∃ v, (results fn a'.tmps).run P w' = .ok v w' ∧ ∃ v_1 E', Ending.returned v = .returned v_1 ∧ Base B E' w' ∧ (∀ h, h < ls'.length → HOk E' w' h (hfOf ls' h)) ∧ Rel E' w' r v_1 := by
  split at hk
  · rename_i vs hvs
    obtain ⟨us, u1, u2⟩ := resVs_sound hc hg hs' fn.results.toList vs hvs
    have hbase := hs'.st.base
    have hres : (results fn a'.tmps).run P w' = .ok (if h : (⟨us⟩ : Array Value).size = 1 then (⟨us⟩ : Array Value)[0] else .tuple ⟨us⟩) w' := by
      rw [results_eq, Array.mapM_eq_mapM_toList]
      simp only [Sem.run_bind, Sem.run_map, u1, Result.andThen_ok, Sem.run_pure]
    obtain ⟨E2, q1, q2, q3⟩ := endG_core hc hs' hdom u2 hk
    exact ⟨_, hres, _, E2, rfl, q1, q2, q3⟩
  · exact hk.elim
theorem start_sound {B : Bs} {E : Env} {w : World} {vals : List Value} {fn : Func} {as : List SV} {ls : List Hl} (hdl : B.dl = []) (hdom : ∀ h, B.β0 h ≠ none ∨ B.τ0 h ≠ none ∨ B.ζ0 h ≠ none → h < ls.length) (hb : Base B E w) (hh : ∀ h, HOk E w h (hfOf ls h)) (hr : RelL E w as vals) :
    StY B (startFr fn.ntmps as).length E { tmps := (⟨vals⟩ : Array Value) ++ Array.replicate (fn.ntmps - (⟨vals⟩ : Array Value).size) undef, defers := [] } w ⟨startFr fn.ntmps as, ls, []⟩ := by
  refine ⟨⟨hb, hh, fun s => ?_, ?_, by rw [hdl]; rfl⟩, rfl, ⟨fun s g hs i hi => ?_, fun s g i hs hi => ?_, fun s g i hs hi => ?_⟩, hdom⟩
  · simp only [ffOf]
    cases hs : getO (startFr fn.ntmps as) s with
    | none => trivial
    | some g =>
      obtain ⟨v, hv, rfl⟩ := getO_start _ _ _ _ hs
      have hlt : s < as.length := (List.getElem?_eq_some_iff.1 hv).1
      have hlt2 : s < vals.length := by rw [← hr.1]; exact hlt
      have hget : ((⟨vals⟩ : Array Value) ++ Array.replicate (fn.ntmps - (⟨vals⟩ : Array Value).size) undef).getD s undef = vals[s] := by
        rw [Array.getD_eq_getD_getElem?, Array.getElem?_append_left (by simpa using hlt2)]
        simp [hlt2]
      refine ⟨by simp; omega, fun _ => ?_, fun h => absurd trivial h⟩
      rw [hget]
      exact hr.2 s v _ hv (List.getElem?_eq_getElem hlt2)
  · simp [startFr, lenN_eq, hr.1]
  · obtain ⟨v, _, rfl⟩ := getO_start _ _ _ _ hs; simp at hi
  · obtain ⟨v, _, rfl⟩ := getO_start _ _ _ _ hs; simp at hi
  · obtain ⟨v, _, rfl⟩ := getO_start _ _ _ _ hs; simp at hi
/-! ### marks at a function's end -/
def shut : List Nat → World → World
  | [], w => w
  | r :: rs, w => shut rs (w.putObj r (.deferred none))
theorem leaves_marks {F : Fence} {n : Nat} {fn : Func} {tmps : Array Value} {R : Ending → World → Prop} : ∀ (dl : List Nat) (w : World), dl.Nodup → (∀ r ∈ dl, w.heap[r]? = some (.deferred (some []))) →
    (∃ v, (results fn tmps).run P (shut dl w) = .ok v (shut dl w) ∧ R (.returned v) (shut dl w)) → LeavesInM F n P fn tmps R (dl.map markOf) .returning w
  | [], w, _, _, h => h
  | r :: rs, w, hn, hd, h => by
    obtain ⟨n1, n2⟩ := List.nodup_cons.1 hn
    refine ⟨by simp, .inl ⟨r, _, rfl, run_takeDeferred (hd r (List.mem_cons_self ..)), leaves_marks rs _ n2 (fun k hk => ?_) h⟩⟩
    rw [World.putObj_heap_other (fun (e : k = r) => n1 (by rw [← e]; exact hk))]
    exact hd k (List.mem_cons_of_mem _ hk)
theorem put_raw {B : Bs} {N : Nat} {E : Env} {a : Act} {w : World} {ff : Nat → SG} {hf : Nat → Hl} (st : St B N E a w ff hf) {r : Nat} {x : Option (List Deferred)} (hr : B.w0.heap.size ≤ r) (hO : ∀ k, E.O r ≠ some k) (hd : w.heap[r]? = some (.deferred x)) (y : Option (List Deferred)) : St B N E a (w.putObj r (.deferred y)) ff hf := by
  have hb := st.base
  have hlt : r < w.heap.size := (Array.getElem?_eq_some_iff.1 hd).1
  have hcell : ∀ b o, (w.putObj r (.deferred y)).cell? ⟨b, o, none⟩ = w.cell? ⟨b, o, none⟩ := by
    intro b o
    simp only [World.cell?]
    by_cases e : b = r
    · subst e; rw [World.putObj_heap_same hlt, hd]
    · rw [World.putObj_heap_other e]
  have hx : Ext E w E (w.putObj r (.deferred y)) := ⟨fun _ _ h => h, fun _ _ h => .inl h, fun _ _ h => h, fun _ _ h => h, fun _ _ h => h, fun b o _ => hcell b o⟩
  refine st.step hx ⟨hb.os, hb.tape, hb.output, ?_, ?_, ?_, ?_, hb.Inew, ?_, hb.β0⟩ fun k => ?_
  · rw [World.putObj_size]; exact hb.size
  · intro b hlt hX; rw [World.putObj_heap_other (by omega)]; exact hb.old b hlt hX
  · intro b o hi
    obtain ⟨i1, i2⟩ := hb.I0 b o hi
    exact ⟨i1, by rw [hcell]; exact i2⟩
  · intro b o hi; rw [World.putObj_size]; exact hb.Ibd b o hi
  · intro b k hO; rw [World.putObj_size]; exact hb.Obd b k hO
  · refine HOk.keep hx (st.heap k) rfl rfl rfl rfl fun b hb2 => ⟨hb2, ?_, fun _ h => h⟩
    exact World.putObj_heap_other (fun e => hO k (by rw [← e]; exact hb2))
theorem shut_raw {B : Bs} {N : Nat} {E : Env} {a : Act} {ff : Nat → SG} {hf : Nat → Hl} : ∀ (dl : List Nat) (w : World), dl.Nodup → St B N E a w ff hf → (∀ r ∈ dl, B.w0.heap.size ≤ r ∧ (∀ k, E.O r ≠ some k) ∧ w.heap[r]? = some (.deferred (some []))) → St B N E a (shut dl w) ff hf
  | [], _, _, st, _ => st
  | r :: rs, w, hn, st, h => by
    obtain ⟨n1, n2⟩ := List.nodup_cons.1 hn
    obtain ⟨h1, h2, h3⟩ := h r (List.mem_cons_self ..)
    refine shut_raw rs _ n2 (put_raw st h1 h2 h3 none) fun k hk => ?_
    obtain ⟨k1, k2, k3⟩ := h k (List.mem_cons_of_mem _ hk)
    exact ⟨k1, k2, by rw [World.putObj_heap_other (fun (e : k = r) => n1 (by rw [← e]; exact hk))]; exact k3⟩
/-- A body's end, seen from its start. -/
theorem StY.shut {B B1 : Bs} {N : Nat} {E : Env} {a : Act} {w : World} {σ : Sy} (hr : Reb B B1) (h0 : B.dl = []) (hs : StY B1 N E a w σ) :
    B1.dl.Nodup ∧ (∀ r ∈ B1.dl, w.heap[r]? = some (.deferred (some []))) ∧ StY B N E { a with defers := [] } (Sx.shut B1.dl w) σ := by
  have hm : MarkOk B1 := hr.marks ⟨by rw [h0]; exact List.nodup_nil, by rw [h0]; simp⟩
  have hb := hs.st.base
  have hd : ∀ r ∈ B1.dl, B.w0.heap.size ≤ r ∧ (∀ k, E.O r ≠ some k) ∧ w.heap[r]? = some (.deferred (some [])) := by
    intro r hrm
    obtain ⟨m1, m2, m3⟩ := hm.lie r hrm
    refine ⟨?_, fun k hk => ?_, (hb.old r m1 m2).trans m3⟩
    · rcases hr.new r hrm with h | h
      · rw [h0] at h; cases h
      · exact h
    · rcases (hb.Obd r k hk).2 with h | h
      · omega
      · exact m2 h
  have hst : St B N E { a with defers := [] } w (ffOf σ) (hfOf σ.hp) := ⟨hr.base hb, hs.st.heap, hs.st.slot, hs.st.size, by rw [h0]; rfl⟩
  refine ⟨hm.nodup, fun r hrm => (hd r hrm).2.2, shut_raw B1.dl w hm.nodup hst hd, hs.len, hs.wf, fun k hk => hs.ge k ?_⟩
  rw [hr.β0, hr.τ0, hr.ζ0]; exact hk
/-- Without marks. -/
def Bs.bare (B : Bs) : Bs := { B with dl := [] }
theorem Base.bare {B : Bs} {E : Env} {w : World} (h : Base B E w) : Base B.bare E w := ⟨h.os, h.tape, h.output, h.size, h.old, h.I0, h.Ibd, h.Inew, h.Obd, ⟨h.β0.β, h.β0.τ, h.β0.ζ⟩⟩
theorem Base.unbare {B : Bs} {E : Env} {w : World} (h : Base B.bare E w) : Base B E w := ⟨h.os, h.tape, h.output, h.size, h.old, h.I0, h.Ibd, h.Inew, h.Obd, ⟨h.β0.β, h.β0.τ, h.β0.ζ⟩⟩
/-- A function by its body. -/
theorem callsTo_of_body (hd : DrawOk P) (hc : CxOk P cx) (htab : TabOk P cx.gl cx.tab) (hrg : RgOk P cx) {f : FuncId} {fn : Func} (hf : P.funcs[f]? = some fn) {as : List SV} {ls : List Hl} {r : SV} {ls' : List Hl}
    (h : body cx fn as ls fun r' ls'' => Fin r' r ls'' ls') : CallsTo P cx.gl f as ls r ls' := by
  intro B E w vals hw0 hI0 hdom hb hg hh hr
  unfold body at h
  split at h
  · rename_i c hbody
    refine callsIn_wide.1 (callsIn_of_wp_marks (F := Fence.wide) (n := 0) hf hbody trivial ?_)
    refine wpIn_mono (F := Fence.wide) (exec_sound hd hc htab hrg c _ _ h none 0 (.inl rfl) B.bare hg E _ w (start_sound (B := B.bare) rfl hdom hb.bare hh hr)) fun e a' w' hq => ?_
    obtain ⟨B1, E', σ', hr1, hs', hk⟩ := hq
    obtain ⟨m1, m2, m3⟩ := hs'.shut hr1 rfl
    rw [← lenN_eq ls] at hdom
    have done : (∃ v, (results fn a'.tmps).run P (shut B1.dl w') = .ok v (shut B1.dl w') ∧ ∃ v_1 E', Ending.returned v = .returned v_1 ∧ Base B.bare E' (shut B1.dl w') ∧ (∀ h, h < ls'.length → HOk E' (shut B1.dl w') h (hfOf ls' h)) ∧ Rel E' (shut B1.dl w') r v_1) → LeavesInM Fence.wide 0 P fn a'.tmps (fun e w' => ∃ v E', e = .returned v ∧ Base B E' w' ∧ (∀ h, h < ls'.length → HOk E' w' h (hfOf ls' h)) ∧ Rel E' w' r v) a'.defers .returning w' := by
      rintro ⟨v, q1, v1, E2, q2, q3, q4, q5⟩
      rw [hs'.st.defers]
      exact leaves_marks B1.dl w' m1 m2 ⟨v, q1, v1, E2, q2, q3.unbare, q4, q5⟩
    cases e with
    | normal => exact done (end_sound (B := B.bare) hc hg m3 hdom hk)
    | ret => exact done (end_sound (B := B.bare) hc hg m3 hdom hk)
    | exit i => exact hk.elim
    | goto l => exact hk.elim
    | panic c => exact hk.elim
    | outgrown => exact hk.elim
  · exact h.elim
/-- A function by its body, with that end. -/
theorem callsTo_of_bodyG (hd : DrawOk P) (hc : CxOk P cx) (htab : TabOk P cx.gl cx.tab) (hrg : RgOk P cx) {f : FuncId} {fn : Func} (hf : P.funcs[f]? = some fn) {as : List SV} {ls : List Hl} {r : SV} {ls' : List Hl}
    (h : bodyG cx fn as ls fun r' ls'' => Fin r' r ls'' ls') : CallsTo P cx.gl f as ls r ls' := by
  intro B E w vals hw0 hI0 hdom hb hg hh hr
  unfold bodyG at h
  split at h
  · rename_i c hbody
    refine callsIn_wide.1 (callsIn_of_wp_marks (F := Fence.wide) (n := 0) hf hbody trivial ?_)
    refine wpIn_mono (F := Fence.wide) (exec_sound hd hc htab hrg c _ _ h none 0 (.inl rfl) B.bare hg E _ w (start_sound (B := B.bare) rfl hdom hb.bare hh hr)) fun e a' w' hq => ?_
    obtain ⟨B1, E', σ', hr1, hs', hk⟩ := hq
    obtain ⟨m1, m2, m3⟩ := hs'.shut hr1 rfl
    rw [← lenN_eq ls] at hdom
    have done : (∃ v, (results fn a'.tmps).run P (shut B1.dl w') = .ok v (shut B1.dl w') ∧ ∃ v_1 E', Ending.returned v = .returned v_1 ∧ Base B.bare E' (shut B1.dl w') ∧ (∀ h, h < ls'.length → HOk E' (shut B1.dl w') h (hfOf ls' h)) ∧ Rel E' (shut B1.dl w') r v_1) → LeavesInM Fence.wide 0 P fn a'.tmps (fun e w' => ∃ v E', e = .returned v ∧ Base B E' w' ∧ (∀ h, h < ls'.length → HOk E' w' h (hfOf ls' h)) ∧ Rel E' w' r v) a'.defers .returning w' := by
      rintro ⟨v, q1, v1, E2, q2, q3, q4, q5⟩
      rw [hs'.st.defers]
      exact leaves_marks B1.dl w' m1 m2 ⟨v, q1, v1, E2, q2, q3.unbare, q4, q5⟩
    cases e with
    | normal => exact done (end_soundG (B := B.bare) hc hg m3 hdom hk)
    | ret => exact done (end_soundG (B := B.bare) hc hg m3 hdom hk)
    | exit i => exact hk.elim
    | goto l => exact hk.elim
    | panic c => exact hk.elim
    | outgrown => exact hk.elim
  · exact h.elim
/-- A scope in which the run jumps back to one label, with a measure that need not be read off the frame. -/
theorem wp_scopeN {c rest : Code} {Q : Exit → Act → World → Prop} {a : Act} {w : World} (l : Nat) (hf : findLabel c l = some rest) (R : Nat → Act → World → Prop)
    (first : c.wp P (Exit.jump l (fun a w => ∃ n, R n a w) Q) a w)
    (pass : ∀ n a w, R n a w → rest.wp P (Exit.jump l (fun a' w' => ∃ n', n' < n ∧ R n' a' w') Q) a w) : (Code.scope c).wp P Q a w := by
  classical
  let μ : Act → World → Nat := fun a w => if h : ∃ n, R n a w then Classical.choose (exists_min h) else 0
  have hμ : ∀ a w, (∃ n, R n a w) → R (μ a w) a w ∧ ∀ m, R m a w → μ a w ≤ m := by
    intro a w h
    have : μ a w = Classical.choose (exists_min h) := by simp only [μ]; rw [dif_pos h]
    rw [this]
    exact Classical.choose_spec (exists_min h)
  refine wp_scope_jumps l (fun a w => ∃ n, R n a w) μ hf first fun a w hI => ?_
  obtain ⟨h1, h2⟩ := hμ a w hI
  refine wp_mono (pass _ a w h1) fun e a' w' hq => ?_
  cases e with
  | goto l' =>
    obtain ⟨rfl, n', hlt, hr⟩ := hq
    exact ⟨rfl, ⟨n', hr⟩, Nat.lt_of_le_of_lt ((hμ a' w' ⟨n', hr⟩).2 n' hr) hlt⟩
  | _ => exact hq
/-- A function by its body that jumps back to one label. -/
theorem callsTo_of_bodyJ (hd : DrawOk P) (hc : CxOk P cx) (htab : TabOk P cx.gl cx.tab) (hrg : RgOk P cx) {f : FuncId} {fn : Func} (hf : P.funcs[f]? = some fn) {l : Nat} {pre c rest : Code} (hbody : fn.body = some (.seq pre (.scope c))) (hl : findLabel c l = some rest) {as : List SV} {ls : List Hl} {r : SV} {ls' : List Hl}
    (h : bodyJ cx fn pre c l rest as ls fun r' ls'' => Fin r' r ls'' ls') : CallsTo P cx.gl f as ls r ls' := by
  intro B E w vals hw0 hI0 hdom hb hg hh hr
  obtain ⟨keep, J, h1, h2⟩ := h
  rw [hc.D] at h1 h2
  have hdom' := hdom
  rw [← lenN_eq ls] at hdom'
  have hcw : (Code.seq pre (.scope c)).wp P (bodyPostM Fence.wide 0 P fn (fun e w' => ∃ v E', e = .returned v ∧ Base B E' w' ∧ (∀ h, h < ls'.length → HOk E' w' h (hfOf ls' h)) ∧ Rel E' w' r v)) { tmps := (⟨vals⟩ : Array Value) ++ Array.replicate (fn.ntmps - (⟨vals⟩ : Array Value).size) undef, defers := [] } w := ?_
  · exact callsIn_wide.1 (callsIn_of_wp_marks (F := Fence.wide) (n := 0) hf hbody trivial (wpIn_wide.2 hcw))
  have done : ∀ {B1 : Bs} {E' : Env} {a' : Act} {w' : World} {σ' : Sy}, Reb B.bare B1 → StY B1 (startFr fn.ntmps as).length E' a' w' σ' → (match resVs cx σ' fn.results.toList with
        | some vs => endK cx (lenN ls) vs σ' fun r' ls'' => Fin r' r ls'' ls'
        | none => False) → LeavesInM Fence.wide 0 P fn a'.tmps (fun e w' => ∃ v E', e = .returned v ∧ Base B E' w' ∧ (∀ h, h < ls'.length → HOk E' w' h (hfOf ls' h)) ∧ Rel E' w' r v) a'.defers .returning w' := by
    intro B1 E' a' w' σ' hr1 hs' hk
    obtain ⟨m1, m2, m3⟩ := hs'.shut hr1 rfl
    obtain ⟨v, q1, v1, E2, q2, q3, q4, q5⟩ := end_sound (B := B.bare) hc hg m3 hdom' hk
    rw [hs'.st.defers]
    exact leaves_marks B1.dl w' m1 m2 ⟨v, q1, v1, E2, q2, q3.unbare, q4, q5⟩
  refine wp_seq (wp_mono (exec_wp hd hc htab hrg (B := B.bare) hg pre _ _ h1 E _ w (start_sound (B := B.bare) rfl hdom hb.bare hh hr)) fun e0 a0 w0 hq0 => ?_)
  obtain ⟨B0, E0, σ0, hr0, hs0, hk0⟩ := hq0
  cases e0 with
  | ret => exact hk0.elim
  | exit i => exact hk0.elim
  | goto l => exact hk0.elim
  | panic c => exact hk0.elim
  | outgrown => exact hk0.elim
  | normal =>
  have h1 := hk0
  refine wp_scopeN l hl (fun m a w => ∃ B1 vs hp E, Reb B.bare B1 ∧ J m vs hp ∧ StY B1 (startFr fn.ntmps as).length E a w ⟨mkfr (zipN keep vs) (blank (startFr fn.ntmps as)), hp, []⟩) ?_ ?_
  · refine wp_mono (exec_wp hd hc htab hrg (hr0.gl hg) c _ _ h1 E0 _ w0 hs0) fun e a' w' hq => ?_
    obtain ⟨B1, E', σ', hr1, hs', hk⟩ := hq
    have hr1 := hr0.trans hr1
    cases e with
    | normal => exact done hr1 hs' hk
    | ret => exact done hr1 hs' hk
    | exit i => exact hk.elim
    | goto l' =>
      obtain ⟨rfl, hb2, m2, hJ2⟩ := hk
      exact ⟨rfl, m2, _, _, _, _, hr1, hJ2, hs'.head rfl hb2 (hr1.dom hdom')⟩
    | panic c => exact hk.elim
    | outgrown => exact hk.elim
  · rintro m a1 w1 ⟨B1, vs, hp, E1, hr1, hJ, hs1⟩
    refine wp_mono (exec_wp hd hc htab hrg (hr1.gl hg) rest _ _ (h2 m vs hp hJ) E1 a1 w1 hs1) fun e a' w' hq => ?_
    obtain ⟨B2, E', σ', hr2, hs', hk⟩ := hq
    have hr2 := hr1.trans hr2
    cases e with
    | normal => exact done hr2 hs' hk
    | ret => exact done hr2 hs' hk
    | exit i => exact hk.elim
    | goto l' =>
      obtain ⟨rfl, hb2, m2, hlt, hJ2⟩ := hk
      exact ⟨rfl, m2, hlt, _, _, _, _, hr2, hJ2, hs'.head rfl hb2 (hr2.dom hdom')⟩
    | panic c => exact hk.elim
    | outgrown => exact hk.elim
end
end Go.Sx
/- Regions that draw their order: one run in the order of the text serves every order. -/
namespace Go.Sx
open Go
abbrev Rec := Option (Sy × List Nat × Out)
abbrev X := (Nat → SG) × (Nat → Hl)
def updB (N : Nat) (f : Nat → SG) (d : Option Nat) (g : SG) : Nat → SG := fun s => if d = some s ∧ s < N then g else f s
def efAt (h : Nat) : Ef → Hl → Hl
  | .set h' off vs, x => if h' = h then (match x with | .blk ty cs => .blk ty (putN cs off vs) | x => x) else x
  | .put h' hl, x => if h' = h then hl else x
def efsAt (h : Nat) : List Ef → Hl → Hl
  | [], x => x
  | e :: es, x => efsAt h es (efAt h e x)
theorem efF_at (hf : Nat → Hl) (e : Ef) (h : Nat) : efF hf e h = efAt h e (hf h) := by
  cases e with
  | set h' off vs =>
    simp only [efF, efAt]
    by_cases e : h' = h
    · subst e
      rw [if_pos rfl]
      cases hx : hf h' <;> simp [upd, hx]
    · rw [if_neg e]
      cases hx : hf h' <;> simp [upd, Ne.symm e]
  | put h' hl =>
    simp only [efF, efAt, upd]
    by_cases e : h' = h
    · subst e; simp
    · rw [if_neg e, if_neg (fun h => e h.symm)]
theorem efsF_at (h : Nat) : ∀ (es : List Ef) (hf : Nat → Hl), efsF hf es h = efsAt h es (hf h)
  | [], _ => rfl
  | e :: es, hf => by
    show efsF (efF hf e) es h = efsAt h es (efAt h e (hf h))
    rw [efsF_at h es, efF_at]
def appR (N : Nat) (gm : List BT) (o : Oper) (rec : Rec) (x : X) : X :=
  match rec with
  | none => (updB N x.1 o.dst none, x.2)
  | some (_, T, r) => (updB N x.1 o.dst (some (condsOf gm T, r.v)), efsF x.2 r.efs)
def foldS (N : Nat) (gm : List BT) (S : Nat → Bool) : List (Oper × Rec) → Nat → X → X
  | [], _, x => x
  | p :: l, i, x => foldS N gm S l (i + 1) (if S i then appR N gm p.1 p.2 x else x)
def foldAll (N : Nat) (gm : List BT) : List (Oper × Rec) → X → X
  | [], x => x
  | p :: l, x => foldAll N gm l (appR N gm p.1 p.2 x)
theorem foldS_all {N : Nat} {gm : List BT} {S : Nat → Bool} : ∀ (L : List (Oper × Rec)) (k : Nat) (x : X), (∀ j, j < L.length → S (k + j) = true) → foldS N gm S L k x = foldAll N gm L x
  | [], _, _, _ => rfl
  | p :: L, k, x, h => by
    have h0 := h 0 (by simp)
    simp only [Nat.add_zero] at h0
    simp only [foldS, foldAll, h0, if_true]
    exact foldS_all L (k + 1) _ fun j hj => by have := h (j + 1) (by simpa using hj); rwa [show k + 1 + j = k + (j + 1) by omega]
theorem foldS_none {N : Nat} {gm : List BT} {S : Nat → Bool} : ∀ (L : List (Oper × Rec)) (k : Nat) (x : X), (∀ j, j < L.length → S (k + j) = false) → foldS N gm S L k x = x
  | [], _, _, _ => rfl
  | p :: L, k, x, h => by
    have h0 := h 0 (by simp)
    simp only [Nat.add_zero] at h0
    simp only [foldS, h0, Bool.false_eq_true, if_false]
    exact foldS_none L (k + 1) _ fun j hj => by have := h (j + 1) (by simpa using hj); rwa [show k + 1 + j = k + (j + 1) by omega]
theorem foldS_take {N : Nat} {gm : List BT} : ∀ (L : List (Oper × Rec)) (i k : Nat) (x : X), foldS N gm (fun j => decide (j < k + i)) L k x = foldAll N gm (L.take i) x
  | [], i, k, x => by simp [foldS, foldAll]
  | p :: L, 0, k, x => by
    simp only [List.take_zero, foldAll]
    exact foldS_none _ _ _ fun j _ => by simp
  | p :: L, i + 1, k, x => by
    simp only [foldS, List.take_succ_cons, foldAll]
    rw [if_pos (by simp)]
    have := foldS_take (N := N) (gm := gm) L i (k + 1) (appR N gm p.1 p.2 x)
    rw [← this]
    congr 1
    funext j
    congr 1
    exact propext (by omega)
/-! ### what the run gives -/
def StepAt (P : Program) (gl : List (Nat × SV)) (all : List Oper) (o : Oper) (gm : List BT) (σ : Sy) : Rec → Prop
  | none => guardOf all σ o.guard = some none
  | some (σ1, T, r) => guardOf all σ o.guard = some (some (σ1, T)) ∧ LocalY P gl σ1 T o r ∧ okEfs σ1.hp r.efs = true ∧ ((T = [] ∨ r.efs = [] ∨ allT (condsOf σ1.gm T)) ∧ ∀ c, o.op ≠ .defer c) ∧ condsOf gm T = condsOf σ1.gm T
theorem condsOf_app {gm y : List BT} : ∀ {T : List Nat}, (∀ i ∈ T, i < gm.length) → condsOf (gm ++ y) T = condsOf gm T
  | [], _ => rfl
  | i :: T, h => by
    have h1 := condsOf_app (gm := gm) (y := y) (T := T) fun j hj => h j (List.mem_cons_of_mem _ hj)
    have h2 : nth (gm ++ y) i = nth gm i := by rw [nth_eq, nth_eq, List.getElem?_append_left (h i (List.mem_cons_self ..))]
    simp only [condsOf, List.filterMap_cons, h2] at *
    rw [h1]
theorem ffOf_setD (σ : Sy) (d : Option Nat) (g : Option G) (hp : List Hl) : ffOf ⟨setD σ.fr d g, hp, σ.gm⟩ = updB σ.fr.length (ffOf σ) d (g.map fun g => (condsOf σ.gm g.tg, g.v)) := by
  funext s
  cases d with
  | none => simp [setD, updB, ffOf]
  | some k =>
    simp only [setD, updB, ffOf, getO_set]
    by_cases e : s = k ∧ k < σ.fr.length
    · obtain ⟨rfl, h⟩ := e; simp [h]
    · rw [if_neg e, if_neg (fun h => e ⟨(Option.some.inj h.1).symm, by rw [Option.some.inj h.1]; exact h.2⟩)]
theorem runs_get {P : Program} {gl : List (Nat × SV)} {ops : Array Oper} {os : List Oper} {σ σ' : Sy} {rs : List Rec} (h : Runs P gl ops.toList os σ rs σ') : WfG σ → ∀ N, σ.fr.length = N →
    rs.length = os.length ∧ WfG σ' ∧ σ'.fr.length = N ∧ σ.hp.length ≤ σ'.hp.length ∧ (∃ y, σ'.gm = σ.gm ++ y) ∧ (ffOf σ', hfOf σ'.hp) = foldAll N σ'.gm (os.zip rs) (ffOf σ, hfOf σ.hp) ∧
    ∀ (i : Nat) (o : Oper) (rec : Rec), os[i]? = some o → rs[i]? = some rec → ∃ σi, WfG σi ∧ σi.fr.length = N ∧ (ffOf σi, hfOf σi.hp) = foldAll N σ'.gm ((os.zip rs).take i) (ffOf σ, hfOf σ.hp) ∧ StepAt P gl ops.toList o σ'.gm σi rec := by
  induction h with
  | nil σ => intro wf N hN; exact ⟨rfl, wf, hN, Nat.le_refl _, ⟨[], by simp⟩, rfl, by simp⟩
  | @skip o os σ σ' rs hg h ih =>
    intro wf N hN
    obtain ⟨h1, h2, h3, h4, ⟨y, h5⟩, h6, h7⟩ := ih (wf.setD o.dst none (by simp) σ.hp) N (by rw [len_setD]; exact hN)
    have hx : appR N σ'.gm o none (ffOf σ, hfOf σ.hp) = (ffOf ⟨setD σ.fr o.dst none, σ.hp, σ.gm⟩, hfOf σ.hp) := by
      simp only [appR]
      rw [ffOf_setD, hN]
      rfl
    refine ⟨by simp [h1], h2, h3, h4, ⟨y, h5⟩, ?_, fun i o' rec hi hr => ?_⟩
    · simp only [List.zip_cons_cons, foldAll]
      rw [hx]; exact h6
    · cases i with
      | zero =>
        simp at hi hr
        subst hi hr
        exact ⟨σ, wf, hN, rfl, hg⟩
      | succ i =>
        simp at hi hr
        obtain ⟨σi, w1, w2, w3, w4⟩ := h7 i o' rec hi hr
        refine ⟨σi, w1, w2, ?_, w4⟩
        simp only [List.zip_cons_cons, List.take_succ_cons, foldAll]
        rw [hx]; exact w3
  | @step o os σ σ1 σ' T r rs hg hl he hte h ih =>
    intro wf N hN
    obtain ⟨w1, w2, w3, w4, w5, ⟨z, w6⟩, _, _⟩ := guardOf_some (ops := ops) rfl hg wf
    obtain ⟨h1, h2, h3, h4, ⟨y, h5⟩, h6, h7⟩ := ih (w1.setD o.dst (some ⟨T, none, none, r.v⟩) (by rintro g' ⟨⟩; exact ⟨w5, rfl, rfl⟩) _) N (by rw [len_setD, w4]; exact hN)
    have hT : condsOf σ'.gm T = condsOf σ1.gm T := by rw [h5]; exact condsOf_app w5
    have hx : appR N σ'.gm o (some (σ1, T, r)) (ffOf σ, hfOf σ.hp) = (ffOf ⟨setD σ1.fr o.dst (some ⟨T, none, none, r.v⟩), efsH σ1.hp r.efs, σ1.gm⟩, hfOf (efsH σ1.hp r.efs)) := by
      simp only [appR]
      rw [ffOf_setD, hfOf_efsH _ _ he, w4, hN, w2, w3, hT]
      rfl
    refine ⟨by simp [h1], h2, h3, Nat.le_trans (by rw [← w3]; exact len_efsH _ _) h4, ⟨z ++ y, by rw [h5, w6, List.append_assoc]⟩, ?_, fun i o' rec hi hr => ?_⟩
    · simp only [List.zip_cons_cons, foldAll]
      rw [hx]; exact h6
    · cases i with
      | zero =>
        simp at hi hr
        subst hi hr
        exact ⟨σ, wf, hN, rfl, hg, hl, he, hte, hT⟩
      | succ i =>
        simp at hi hr
        obtain ⟨σi, q1, q2, q3, q4⟩ := h7 i o' rec hi hr
        refine ⟨σi, q1, q2, ?_, q4⟩
        simp only [List.zip_cons_cons, List.take_succ_cons, foldAll]
        rw [hx]; exact q3
/-! ### slots -/
theorem appR_slot {N : Nat} {gm : List BT} {o : Oper} {rec : Rec} {x : X} {s : Nat} (h : o.dst ≠ some s) : (appR N gm o rec x).1 s = x.1 s := by
  cases rec with
  | none => simp [appR, updB, h]
  | some p => obtain ⟨σ, T, r⟩ := p; simp [appR, updB, h]
theorem appR_slot_eq {N : Nat} {gm : List BT} {o : Oper} {rec : Rec} {x y : X} {s : Nat} (h : x.1 s = y.1 s) : (appR N gm o rec x).1 s = (appR N gm o rec y).1 s := by
  cases rec with
  | none => simp only [appR, updB]; split <;> simp [h]
  | some p => obtain ⟨σ, T, r⟩ := p; simp only [appR, updB]; split <;> simp [h]
theorem foldS_slot {N : Nat} {gm : List BT} {S S' : Nat → Bool} {s : Nat} : ∀ (L : List (Oper × Rec)) (k : Nat) (x y : X), x.1 s = y.1 s → (∀ (j : Nat) (p : Oper × Rec), L[j]? = some p → p.1.dst = some s → S (k + j) = S' (k + j)) →
    (foldS N gm S L k x).1 s = (foldS N gm S' L k y).1 s
  | [], _, _, _, h, _ => h
  | p :: L, k, x, y, h, hS => by
    simp only [foldS]
    refine foldS_slot L (k + 1) _ _ ?_ fun j q hq hd => by have := hS (j + 1) q (by simpa using hq) hd; rwa [show k + (j + 1) = k + 1 + j by omega] at this
    by_cases hd : p.1.dst = some s
    · have := hS 0 p rfl hd
      simp only [Nat.add_zero] at this
      rw [this]
      split
      · exact appR_slot_eq h
      · exact h
    · have a1 : (if S k then appR N gm p.1 p.2 x else x).1 s = x.1 s := by split; exact appR_slot hd; rfl
      have a2 : (if S' k then appR N gm p.1 p.2 y else y).1 s = y.1 s := by split; exact appR_slot hd; rfl
      rw [a1, a2, h]
/-! ### the heap, a heaplet at a time -/
def efsR : Rec → List Ef
  | none => []
  | some (_, _, r) => r.efs
theorem appR_heap {N : Nat} {gm : List BT} {o : Oper} {rec : Rec} {x : X} {h : Nat} : (appR N gm o rec x).2 h = efsAt h (efsR rec) (x.2 h) := by
  cases rec with
  | none => rfl
  | some p => obtain ⟨σ, T, r⟩ := p; exact efsF_at h r.efs x.2
def foldH (h : Nat) (S : Nat → Bool) : List (Oper × Rec) → Nat → Hl → Hl
  | [], _, x => x
  | p :: l, i, x => foldH h S l (i + 1) (if S i then efsAt h (efsR p.2) x else x)
theorem foldS_heap {N : Nat} {gm : List BT} {S : Nat → Bool} {h : Nat} : ∀ (L : List (Oper × Rec)) (k : Nat) (x : X), (foldS N gm S L k x).2 h = foldH h S L k (x.2 h)
  | [], _, _ => rfl
  | p :: L, k, x => by
    simp only [foldS, foldH]
    rw [foldS_heap L]
    congr 1
    split
    · exact appR_heap
    · rfl
theorem anyR_false {x : Nat × Option (Nat × Nat)} : ∀ {l : List (Nat × Option (Nat × Nat))}, anyR x l = false → ∀ y ∈ l, meetsR x y = false
  | [], _, y, hy => by cases hy
  | z :: l, h, y, hy => by
    simp only [anyR, Bool.or_eq_false_iff] at h
    rcases List.mem_cons.1 hy with rfl | hy
    · exact h.1
    · exact anyR_false h.2 y hy
theorem meetsW_false {t : List (Nat × Option (Nat × Nat))} : ∀ {l : List (Nat × Option (Nat × Nat))}, meetsW l t = false → ∀ x ∈ l, ∀ y ∈ t, meetsR x y = false
  | [], _, x, hx, _, _ => by cases hx
  | z :: l, h, x, hx, y, hy => by
    simp only [meetsW, Bool.or_eq_false_iff] at h
    rcases List.mem_cons.1 hx with rfl | hx
    · exact anyR_false h.1 y hy
    · exact meetsW_false h.2 x hx y hy
theorem meetsR_comm (x y : Nat × Option (Nat × Nat)) : meetsR x y = meetsR y x := by
  obtain ⟨h, a⟩ := x
  obtain ⟨k, b⟩ := y
  simp only [meetsR]
  have e : (h == k) = (k == h) := BEq.comm
  rw [e]
  congr 1
  cases a with
  | none => cases b <;> rfl
  | some a => cases b with
    | none => rfl
    | some b => simp [Bool.and_comm]
def same (x y : Hl) (U : Nat → Prop) : Prop := x = y ∨ ∃ ty cs cs', x = .blk ty cs ∧ y = .blk ty cs' ∧ cs'.length = cs.length ∧ ∀ j, U j → cs'[j]? = cs[j]?
theorem get_putN_out {α : Type} : ∀ (vs l : List α) (off i : Nat), (i < off ∨ off + vs.length ≤ i) → (putN l off vs)[i]? = l[i]?
  | [], _, _, _, _ => rfl
  | v :: vs, l, off, i, h => by
    simp only [List.length_cons] at h
    rw [putN, get_putN_out vs _ (off + 1) i (by omega), setN_eq, List.getElem?_set_ne (by omega)]
theorem get_putN_same {α : Type} : ∀ (vs l l' : List α) (off i : Nat), l'.length = l.length → l'[i]? = l[i]? → (putN l' off vs)[i]? = (putN l off vs)[i]?
  | [], _, _, _, _, _, h => h
  | v :: vs, l, l', off, i, hl, h => by
    rw [putN, putN]
    refine get_putN_same vs _ _ (off + 1) i (by simp [setN_eq, hl]) ?_
    rw [setN_eq, setN_eq, List.getElem?_set, List.getElem?_set, hl, h]
/-- One and the same change on both sides. -/
theorem same_both {h : Nat} {U : Nat → Prop} : ∀ (es : List Ef) {x y : Hl}, same x y U → same (efsAt h es x) (efsAt h es y) U
  | [], _, _, hs => hs
  | e :: es, x, y, hs => by
    refine same_both es ?_
    rcases hs with rfl | ⟨ty, cs, cs', rfl, rfl, hl, hU⟩
    · exact .inl rfl
    · cases e with
      | set h' off vs =>
        simp only [efAt]
        split
        · exact .inr ⟨ty, _, _, rfl, rfl, by rw [len_putN, len_putN, hl], fun j hj => get_putN_same vs _ _ off j hl (hU j hj)⟩
        · exact .inr ⟨ty, cs, cs', rfl, rfl, hl, hU⟩
      | put h' hl' =>
        simp only [efAt]
        split
        · exact .inl rfl
        · exact .inr ⟨ty, cs, cs', rfl, rfl, hl, hU⟩
theorem same_trans {x y z : Hl} {U : Nat → Prop} (h1 : same x y U) (h2 : same y z U) : same x z U := by
  rcases h1 with rfl | ⟨ty, cs, cs', rfl, rfl, hl, hU⟩
  · exact h2
  · rcases h2 with rfl | ⟨ty2, cs2, cs3, e, rfl, hl2, hU2⟩
    · exact .inr ⟨ty, cs, cs', rfl, rfl, hl, hU⟩
    · cases e
      exact .inr ⟨ty, cs, cs3, rfl, rfl, by rw [hl2, hl], fun j hj => by rw [hU2 j hj, hU j hj]⟩
theorem same_symm {x y : Hl} {U : Nat → Prop} (h1 : same x y U) : same y x U := by
  rcases h1 with rfl | ⟨ty, cs, cs', rfl, rfl, hl, hU⟩
  · exact .inl rfl
  · exact .inr ⟨ty, cs', cs, rfl, rfl, hl.symm, fun j hj => (hU j hj).symm⟩
def inR (ρ : Nat × Option (Nat × Nat)) (j : Nat) : Prop := match ρ.2 with
  | none => True
  | some (off, n) => off ≤ j ∧ j < off + n
/-- A change that does not meet the region. -/
theorem same_apart {ρ : Nat × Option (Nat × Nat)} : ∀ (es : List Ef) (x : Hl), (∀ y ∈ efW es, meetsR y ρ = false) → same x (efsAt ρ.1 es x) (inR ρ) ∧ (ρ.2 = none → efsAt ρ.1 es x = x)
  | [], x, _ => ⟨.inl rfl, fun _ => rfl⟩
  | e :: es, x, h => by
    have head : same x (efAt ρ.1 e x) (inR ρ) ∧ (ρ.2 = none → efAt ρ.1 e x = x) := by
      obtain ⟨hh, a⟩ := ρ
      cases e with
      | set h' off vs =>
        have hm := h (h', some (off, lenN vs)) (by simp [efW])
        simp only [efAt]
        by_cases e : h' = hh
        · subst e
          rw [if_pos rfl]
          cases x <;> try exact ⟨.inl rfl, fun _ => rfl⟩
          rename_i ty cs
          cases a with
          | none => simp [meetsR] at hm
          | some a =>
            obtain ⟨o2, n2⟩ := a
            simp only [meetsR, beq_self_eq_true, Bool.true_and, lenN_eq, Bool.and_eq_false_iff] at hm
            refine ⟨.inr ⟨ty, cs, _, rfl, rfl, len_putN _ _ _, fun j hj => get_putN_out _ _ _ _ ?_⟩, fun h => by cases h⟩
            simp only [inR] at hj
            rcases hm with hm | hm
            · have : ¬ off < o2 + n2 := by intro hlt; rw [(Nat.blt_eq ▸ hlt : Nat.blt _ _ = true)] at hm; cases hm
              omega
            · have : ¬ o2 < off + vs.length := by intro hlt; rw [(Nat.blt_eq ▸ hlt : Nat.blt _ _ = true)] at hm; cases hm
              omega
        · rw [if_neg e]; exact ⟨.inl rfl, fun _ => rfl⟩
      | put h' hl =>
        have hm := h (h', none) (by simp [efW])
        simp only [efAt]
        by_cases e : h' = hh
        · subst e; simp [meetsR] at hm
        · rw [if_neg e]; exact ⟨.inl rfl, fun _ => rfl⟩
    have htl : ∀ y ∈ efW es, meetsR y ρ = false := fun y hy => h y (by cases e <;> simp [efW, hy])
    obtain ⟨t1, t2⟩ := same_apart es (efAt ρ.1 e x) htl
    exact ⟨same_trans head.1 t1, fun hn => by show efsAt ρ.1 es (efAt ρ.1 e x) = x; rw [t2 hn, head.2 hn]⟩
theorem foldH_agree {ρ : Nat × Option (Nat × Nat)} {S S' : Nat → Bool} : ∀ (L : List (Oper × Rec)) (k : Nat) (x y : Hl), same x y (inR ρ) → (ρ.2 = none → x = y) → (∀ (j : Nat) (p : Oper × Rec), L[j]? = some p → S (k + j) ≠ S' (k + j) → ∀ z ∈ efW (efsR p.2), meetsR z ρ = false) →
    same (foldH ρ.1 S L k x) (foldH ρ.1 S' L k y) (inR ρ) ∧ (ρ.2 = none → foldH ρ.1 S L k x = foldH ρ.1 S' L k y)
  | [], _, _, _, h, hn, _ => ⟨h, hn⟩
  | p :: L, k, x, y, h, hn, hS => by
    simp only [foldH]
    have hrec := fun (x' y' : Hl) (hs : same x' y' (inR ρ)) (he : ρ.2 = none → x' = y') => foldH_agree (ρ := ρ) (S := S) (S' := S') L (k + 1) x' y' hs he fun j q hq hd => hS (j + 1) q (by simpa using hq) (by rwa [show k + (j + 1) = k + 1 + j by omega])
    have h0 := hS 0 p rfl
    simp only [Nat.add_zero] at h0
    cases hSk : S k <;> cases hSk' : S' k
    · exact hrec x y h hn
    · obtain ⟨a1, a2⟩ := same_apart (ρ := ρ) (efsR p.2) y (h0 (by rw [hSk, hSk']; decide))
      exact hrec x _ (same_trans h a1) (fun e => by rw [if_pos rfl, a2 e]; exact hn e)
    · obtain ⟨a1, a2⟩ := same_apart (ρ := ρ) (efsR p.2) x (h0 (by rw [hSk, hSk']; decide))
      exact hrec _ y (same_trans (same_symm a1) h) (fun e => by rw [if_pos rfl, a2 e]; exact hn e)
    · exact hrec _ _ (same_both _ h) (fun e => by rw [hn e])
/-! ### changes that do not meet may come in either order -/
theorem putN_setN {α : Type} : ∀ (vs l : List α) (off i : Nat) (v : α), (i < off ∨ off + vs.length ≤ i) → putN (setN l i v) off vs = setN (putN l off vs) i v
  | [], _, _, _, _, _ => rfl
  | u :: vs, l, off, i, v, h => by
    simp only [List.length_cons] at h
    rw [putN, putN, ← putN_setN vs _ (off + 1) i v (by omega)]
    congr 1
    rw [setN_eq, setN_eq, setN_eq, setN_eq, List.set_comm _ _ (by omega)]
theorem putN_putN {α : Type} : ∀ (us vs l : List α) (o1 o2 : Nat), (o1 + us.length ≤ o2 ∨ o2 + vs.length ≤ o1 ∨ us = [] ∨ vs = []) → putN (putN l o1 us) o2 vs = putN (putN l o2 vs) o1 us
  | [], vs, l, o1, o2, _ => rfl
  | u :: us, [], l, o1, o2, _ => rfl
  | u :: us, v :: vs, l, o1, o2, h => by
    have h : o1 + (us.length + 1) ≤ o2 ∨ o2 + (vs.length + 1) ≤ o1 := by
      rcases h with h | h | h | h
      · exact .inl h
      · exact .inr h
      · cases h
      · cases h
    rw [show putN l o1 (u :: us) = putN (setN l o1 u) (o1 + 1) us from rfl, putN_putN us (v :: vs) (setN l o1 u) (o1 + 1) o2 (by simp only [List.length_cons]; omega)]
    rw [putN_setN (v :: vs) l o2 o1 u (by simp only [List.length_cons]; omega)]
    rfl
theorem efAt_comm {h : Nat} {e e' : Ef} {y y' : Nat × Option (Nat × Nat)} (hy : efW [e] = [y]) (hy' : efW [e'] = [y']) (hm : meetsR y y' = false) (x : Hl) : efAt h e (efAt h e' x) = efAt h e' (efAt h e x) := by
  cases e with
  | set h1 o1 us =>
    cases e' with
    | set h2 o2 vs =>
      simp only [efAt]
      by_cases e1 : h1 = h <;> by_cases e2 : h2 = h <;> simp only [e1, e2, if_true, if_false]
      subst e1
      cases x <;> try rfl
      simp only [efW, List.cons.injEq, and_true] at hy hy'
      subst hy hy'
      subst e2
      simp only [meetsR, beq_self_eq_true, Bool.true_and, Bool.and_eq_false_iff, lenN_eq] at hm
      refine congrArg (Hl.blk _) (putN_putN us vs _ o1 o2 ?_).symm
      rcases hm with hm | hm
      · have : ¬ o1 < o2 + vs.length := by intro hlt; rw [(Nat.blt_eq ▸ hlt : Nat.blt _ _ = true)] at hm; cases hm
        exact .inr (.inl (by omega))
      · have : ¬ o2 < o1 + us.length := by intro hlt; rw [(Nat.blt_eq ▸ hlt : Nat.blt _ _ = true)] at hm; cases hm
        exact .inl (by omega)
    | put h2 hl =>
      simp only [efAt]
      by_cases e1 : h1 = h <;> by_cases e2 : h2 = h <;> simp only [e1, e2, if_true, if_false]
      simp only [efW, List.cons.injEq, and_true] at hy hy'
      subst hy hy'
      simp [meetsR, e1, e2] at hm
  | put h1 hl =>
    cases e' with
    | set h2 o2 vs =>
      simp only [efAt]
      by_cases e1 : h1 = h <;> by_cases e2 : h2 = h <;> simp only [e1, e2, if_true, if_false]
      simp only [efW, List.cons.injEq, and_true] at hy hy'
      subst hy hy'
      simp [meetsR, e1, e2] at hm
    | put h2 hl2 =>
      simp only [efAt]
      by_cases e1 : h1 = h <;> by_cases e2 : h2 = h <;> simp only [e1, e2, if_true, if_false]
      simp only [efW, List.cons.injEq, and_true] at hy hy'
      subst hy hy'
      simp [meetsR, e1, e2] at hm
theorem efW_one (e : Ef) : ∃ y, efW [e] = [y] := by cases e <;> exact ⟨_, rfl⟩
theorem efW_cons (e : Ef) (es : List Ef) {y : Nat × Option (Nat × Nat)} (hy : efW [e] = [y]) : efW (e :: es) = y :: efW es := by
  cases e <;> simp only [efW, List.cons.injEq, and_true] at hy ⊢ <;> exact hy
theorem efsAt_ef {h : Nat} {e : Ef} {y : Nat × Option (Nat × Nat)} (hy : efW [e] = [y]) : ∀ (es : List Ef) (x : Hl), (∀ z ∈ efW es, meetsR y z = false) → efsAt h es (efAt h e x) = efAt h e (efsAt h es x)
  | [], _, _ => rfl
  | e' :: es, x, hm => by
    obtain ⟨y', hy'⟩ := efW_one e'
    rw [efW_cons e' es hy'] at hm
    show efsAt h es (efAt h e' (efAt h e x)) = efAt h e (efsAt h es (efAt h e' x))
    rw [← efsAt_ef hy es (efAt h e' x) fun z hz => hm z (List.mem_cons_of_mem _ hz)]
    rw [efAt_comm hy hy' (hm y' (List.mem_cons_self ..))]
theorem efsAt_comm {h : Nat} : ∀ (es es' : List Ef) (x : Hl), (∀ y ∈ efW es, ∀ z ∈ efW es', meetsR y z = false) → efsAt h es' (efsAt h es x) = efsAt h es (efsAt h es' x)
  | [], _, _, _ => rfl
  | e :: es, es', x, hm => by
    obtain ⟨y, hy⟩ := efW_one e
    rw [efW_cons e es hy] at hm
    show efsAt h es' (efsAt h es (efAt h e x)) = efsAt h es (efAt h e (efsAt h es' x))
    rw [efsAt_comm es es' _ fun y hy => hm y (List.mem_cons_of_mem _ hy)]
    rw [efsAt_ef hy es' x (hm y (List.mem_cons_self ..))]
theorem foldH_comm {h : Nat} {S : Nat → Bool} {es : List Ef} : ∀ (L : List (Oper × Rec)) (k : Nat) (x : Hl), (∀ (j : Nat) (p : Oper × Rec), L[j]? = some p → S (k + j) = true → ∀ y ∈ efW es, ∀ z ∈ efW (efsR p.2), meetsR y z = false) →
    foldH h S L k (efsAt h es x) = efsAt h es (foldH h S L k x)
  | [], _, _, _ => rfl
  | p :: L, k, x, hm => by
    simp only [foldH]
    have hrec := fun x => foldH_comm (h := h) (S := S) (es := es) L (k + 1) x fun j q hq hd => hm (j + 1) q (by simpa using hq) (by rwa [show k + (j + 1) = k + 1 + j by omega])
    cases hSk : S k with
    | false => exact hrec x
    | true =>
      simp only [if_true]
      rw [efsAt_comm es (efsR p.2) x (hm 0 p rfl (by simpa using hSk)), hrec]
theorem foldH_insert {h : Nat} {S S' : Nat → Bool} : ∀ (L : List (Oper × Rec)) (i k : Nat) (x : Hl) (p : Oper × Rec), L[i]? = some p → S (k + i) = false → S' (k + i) = true → (∀ j, j ≠ k + i → S' j = S j) →
    (∀ (j : Nat) (q : Oper × Rec), i < j → L[j]? = some q → S (k + j) = true → ∀ y ∈ efW (efsR p.2), ∀ z ∈ efW (efsR q.2), meetsR y z = false) →
    foldH h S' L k x = efsAt h (efsR p.2) (foldH h S L k x)
  | [], i, _, _, _, h, _, _, _, _ => by simp at h
  | q :: L, 0, k, x, p, hp, h1, h2, hS, hm => by
    simp at hp
    subst hp
    simp only [Nat.add_zero] at h1 h2
    simp only [foldH, h1, h2, if_true, Bool.false_eq_true, if_false]
    have e : foldH h S' L (k + 1) (efsAt h (efsR q.2) x) = foldH h S L (k + 1) (efsAt h (efsR q.2) x) := by
      have : ∀ (L : List (Oper × Rec)) (m : Nat) (x : Hl), k < m → foldH h S' L m x = foldH h S L m x := by
        intro L
        induction L with
        | nil => intro m x _; rfl
        | cons r L ih => intro m x hlt; simp only [foldH]; rw [hS m (by omega)]; exact ih _ _ (by omega)
      exact this L (k + 1) _ (by omega)
    rw [e]
    exact foldH_comm L (k + 1) x fun j r hr hd => hm (j + 1) r (by omega) (by simpa using hr) (by rwa [show k + (j + 1) = k + 1 + j by omega])
  | q :: L, i + 1, k, x, p, hp, h1, h2, hS, hm => by
    simp only [foldH]
    rw [hS k (by omega)]
    exact foldH_insert L i (k + 1) _ p (by simpa using hp) (by rwa [show k + 1 + i = k + (i + 1) by omega]) (by rwa [show k + 1 + i = k + (i + 1) by omega]) (fun j hj => hS j (by omega))
      fun j r hj hr hd => hm (j + 1) r (by omega) (by simpa using hr) (by rwa [show k + (j + 1) = k + 1 + j by omega])
end Go.Sx
/- Any order. -/
namespace Go.Sx
open Go
/-! ### what comes before what -/
theorem mem_edgesL {n : Nat} : ∀ {es : List Edge}, n ∈ edgesL es → ∃ e ∈ es, Region.binds .any e = true ∧ e.on = n
  | [], h => by simp [edgesL] at h
  | e :: es, h => by
    simp only [edgesL, List.mem_append] at h
    rcases h with h | h
    · refine ⟨e, List.mem_cons_self .., ?_⟩
      cases hg : e.ground <;> simp only [hg, List.mem_singleton, List.not_mem_nil] at h <;> exact ⟨by simp [Region.binds, hg], h.symm⟩
    · obtain ⟨e', h1, h2⟩ := mem_edgesL h
      exact ⟨e', List.mem_cons_of_mem _ h1, h2⟩
theorem edgesL_mem {e : Edge} : ∀ {es : List Edge}, e ∈ es → Region.binds .any e = true → e.on ∈ edgesL es
  | [], h, _ => by cases h
  | e' :: es, h, hb => by
    simp only [edgesL, List.mem_append]
    rcases List.mem_cons.1 h with rfl | h
    · left
      cases hg : e.ground <;> simp [Region.binds, hg] at hb ⊢
    · exact .inr (edgesL_mem h hb)
theorem mem_unionN {x : Nat} : ∀ {l t : List Nat}, x ∈ unionN l t → x ∈ l ∨ x ∈ t
  | [], _, h => .inr h
  | y :: l, t, h => by
    rcases mem_unionN (l := l) h with h | h
    · exact .inl (List.mem_cons_of_mem _ h)
    · unfold addN at h
      split at h
      · exact .inr h
      · rcases List.mem_cons.1 h with rfl | h
        · exact .inl (List.mem_cons_self ..)
        · exact .inr h
theorem mem_addN {x y : Nat} {l : List Nat} (h : x ∈ addN y l) : x = y ∨ x ∈ l := by
  unfold addN at h
  split at h
  · exact .inr h
  · exact List.mem_cons.1 h
theorem mem_backed {acc : List (List Nat)} {x : Nat} : ∀ {l : List Nat}, x ∈ backed acc l → ∃ i ∈ l, x = i ∨ x ∈ (nth acc i).getD []
  | [], h => by simp [backed] at h
  | i :: l, h => by
    simp only [backed] at h
    rcases mem_unionN h with h | h
    · exact ⟨i, List.mem_cons_self .., mem_addN h⟩
    · obtain ⟨j, h1, h2⟩ := mem_backed h
      exact ⟨j, List.mem_cons_of_mem _ h1, h2⟩
theorem lowAll_iff {n : Nat} : ∀ {l : List Nat}, lowAll n l = true → ∀ x ∈ l, x < n
  | [], _, x, h => by cases h
  | y :: l, h, x, hx => by
    simp only [lowAll, Bool.and_eq_true, Nat.blt_eq] at h
    rcases List.mem_cons.1 hx with rfl | hx
    · exact h.1
    · exact lowAll_iff h.2 x hx
theorem edgesOk_get : ∀ {os : List Oper} {k : Nat}, edgesOk os k = true → ∀ {j : Nat} {o : Oper}, os[j]? = some o → ∀ x ∈ edgesL o.after.toList, x < k + j
  | [], _, _, j, o, h => by simp at h
  | o0 :: os, k, hk, j, o, h => by
    simp only [edgesOk, Bool.and_eq_true] at hk
    cases j with
    | zero => simp at h; subst h; exact lowAll_iff hk.1
    | succ j =>
      simp at h
      intro x hx
      have := edgesOk_get hk.2 h x hx
      omega
/-- What must come before has come. -/
theorem befores_in {S : Nat → Prop} {all : List Oper} (hdown : ∀ (k : Nat) (o : Oper), all[k]? = some o → S k → ∀ x ∈ edgesL o.after.toList, S x) (hok : edgesOk all 0 = true) :
    ∀ (os : List Oper) (acc : List (List Nat)), (∀ (j : Nat) (o : Oper), os[j]? = some o → all[acc.length + j]? = some o) →
      (∀ (j : Nat) (o : Oper) (l : List Nat), all[j]? = some o → acc[j]? = some l → (∀ x ∈ edgesL o.after.toList, S x) → ∀ x ∈ l, S x) →
      ∀ (j : Nat) (o : Oper) (l : List Nat), all[j]? = some o → (befores os acc)[j]? = some l → (∀ x ∈ edgesL o.after.toList, S x) → ∀ x ∈ l, S x
  | [], acc, _, hacc => fun j o l ho hl => hacc j o l ho hl
  | o0 :: os, acc, hal, hacc => by
    have h0 := hal 0 o0 rfl
    simp only [Nat.add_zero] at h0
    refine befores_in hdown hok os (acc ++ [backed acc (edgesL o0.after.toList)]) (fun j o h => ?_) (fun j o l ho hl he x hx => ?_)
    · have := hal (j + 1) o (by simpa using h)
      simp only [List.length_append, List.length_singleton]
      rwa [show acc.length + 1 + j = acc.length + (j + 1) by omega]
    · by_cases hj : j < acc.length
      · rw [List.getElem?_append_left hj] at hl
        exact hacc j o l ho hl he x hx
      · have hje : j = acc.length := by
          have := (List.getElem?_eq_some_iff.1 hl).1
          simp at this
          omega
        subst hje
        rw [h0] at ho
        cases ho
        simp at hl
        subst hl
        obtain ⟨i, hi, hx⟩ := mem_backed hx
        have hSi := he i hi
        rcases hx with rfl | hx
        · exact hSi
        · have hlt : i < acc.length := by have := edgesOk_get hok h0 i hi; omega
          have hai : all[i]? = some (all[i]'(by have := (List.getElem?_eq_some_iff.1 h0).1; omega)) := List.getElem?_eq_getElem _
          rw [nth_eq, List.getElem?_eq_getElem hlt] at hx
          exact hacc i _ _ hai (List.getElem?_eq_getElem hlt) (hdown i _ hai hSi) x hx
theorem apartFrom_get {all : List Oper} {bs : List (List Nat)} {i : Nat} {o : Oper} {f : FP} : ∀ {os : List Oper} {fs : List FP} {j : Nat}, apartFrom all bs i o f os fs j = true → ∀ {m : Nat} {o' : Oper} {f' : FP}, os[m]? = some o' → fs[m]? = some f' →
    clash all o f o' f' = false ∨ i ∈ (nth bs (j + m)).getD []
  | [], _, _, _, m, o', f', h, _ => by simp at h
  | _ :: _, [], _, _, m, o', f', _, h => by simp at h
  | o1 :: os, f1 :: fs, j, h, m, o', f', h1, h2 => by
    simp only [apartFrom, Bool.and_eq_true, Bool.or_eq_true, Bool.not_eq_true', hasN_iff] at h
    cases m with
    | zero => simp at h1 h2; subst h1 h2; exact h.1
    | succ m =>
      simp at h1 h2
      have := apartFrom_get h.2 h1 h2
      rwa [show j + 1 + m = j + (m + 1) by omega] at this
theorem indep_get {all : List Oper} {bs : List (List Nat)} : ∀ {os : List Oper} {fs : List FP} {k : Nat}, indep all bs os fs k = true → ∀ {i j : Nat} {o o' : Oper} {f f' : FP}, i < j → os[i]? = some o → os[j]? = some o' → fs[i]? = some f → fs[j]? = some f' →
    clash all o f o' f' = false ∨ (k + i) ∈ (nth bs (k + j)).getD []
  | [], _, _, _, i, j, o, o', f, f', _, h, _, _, _ => by simp at h
  | _ :: _, [], _, _, i, j, o, o', f, f', _, _, _, h, _ => by simp at h
  | o1 :: os, f1 :: fs, k, h, i, j, o, o', f, f', hij, h1, h2, h3, h4 => by
    simp only [indep, Bool.and_eq_true] at h
    obtain ⟨m, rfl⟩ : ∃ m, j = m + 1 := ⟨j - 1, by omega⟩
    simp at h2 h4
    cases i with
    | zero =>
      simp at h1 h3
      subst h1 h3
      have := apartFrom_get h.1 h2 h4
      simpa [show k + 1 + m = k + (m + 1) by omega] using this
    | succ i =>
      simp at h1 h3
      have := indep_get h.2 (i := i) (j := m) (by omega) h1 h2 h3 h4
      rwa [show k + 1 + i = k + (i + 1) by omega, show k + 1 + m = k + (m + 1) by omega] at this
theorem mem_slotsL {s : Nat} : ∀ {xs : List Operand}, s ∈ xs.flatMap opSlots → s ∈ slotsL xs
  | [], h => by simp at h
  | x :: xs, h => by
    simp only [List.flatMap_cons, List.mem_append] at h
    simp only [slotsL, List.mem_append]
    rcases h with h | h
    · left
      cases x with
      | tmp _ => simpa [opSlots, opSlot] using h
      | _ => simp [opSlots] at h
    · exact .inr (mem_slotsL h)
theorem meetsN_false {t : List Nat} : ∀ {l : List Nat}, meetsN l t = false → ∀ x ∈ l, x ∉ t
  | [], _, x, h => by cases h
  | y :: l, h, x, hx => by
    simp only [meetsN, Bool.or_eq_false_iff] at h
    rcases List.mem_cons.1 hx with rfl | hx
    · intro hm; rw [(hasN_iff _ _).2 hm] at h; cases h.1
    · exact meetsN_false h.2 x hx
theorem guardSlot_mem {all : List Oper} {o : Oper} {j : Nat} {want : Bool} {s : Nat} (hg : o.guard = some (j, want)) (h : (nth all j).bind (·.dst) = some s) : s ∈ guardSlot all o.guard := by
  rw [hg]
  simp only [guardSlot]
  cases hj : nth all j with
  | none => rw [hj] at h; cases h
  | some oj =>
    rw [hj] at h
    simp only [Option.bind_some] at h
    simp [h]
section
variable {P : Program} {ops : Array Oper} {gl : List (Nat × SV)} {B : Bs} {N : Nat} {σ σ' : Sy} {rs : List Rec}
/-- All that the run and the check give, at once. -/
structure Ctx (P : Program) (ops : Array Oper) (gl : List (Nat × SV)) (N : Nat) (σ σ' : Sy) (rs : List Rec) : Prop where
  len : rs.length = ops.size
  step : ∀ (i : Nat) (o : Oper) (rec : Rec), ops[i]? = some o → rs[i]? = some rec → ∃ σi, WfG σi ∧ σi.fr.length = N ∧ (ffOf σi, hfOf σi.hp) = foldAll N σ'.gm ((ops.toList.zip rs).take i) (ffOf σ, hfOf σ.hp) ∧ StepAt P gl ops.toList o σ'.gm σi rec
  edges : edgesOk ops.toList 0 = true
  ind : indep ops.toList (befores ops.toList []) ops.toList (rs.map fpR) 0 = true
def xS (N : Nat) (ops : Array Oper) (σ σ' : Sy) (rs : List Rec) (S : Nat → Bool) : X := foldS N σ'.gm S (ops.toList.zip rs) 0 (ffOf σ, hfOf σ.hp)
/-- Nothing that is not in place is in the way. -/
structure Down (ops : Array Oper) (S : Nat → Bool) : Prop where
  down : ∀ (k : Nat) (o : Oper), ops[k]? = some o → S k = true → ∀ x ∈ edgesL o.after.toList, S x = true
theorem before_S (h : Ctx P ops gl N σ σ' rs) {S : Nat → Bool} (hd : Down ops S) {j : Nat} {o : Oper} (ho : ops[j]? = some o) (he : ∀ x ∈ edgesL o.after.toList, S x = true) {i : Nat} (hi : i ∈ (nth (befores ops.toList []) j).getD []) : S i = true := by
  rw [nth_eq] at hi
  cases hl : (befores ops.toList [])[j]? with
  | none => rw [hl] at hi; simp at hi
  | some l =>
    rw [hl] at hi
    refine befores_in (S := fun i => S i = true) (all := ops.toList) (fun k o ho hs => hd.down k o (by rw [← Array.getElem?_toList]; exact ho) hs) h.edges ops.toList [] (by simp) (by simp) j o l (by rw [Array.getElem?_toList]; exact ho) hl he i hi
theorem fpR_wr (rec : Rec) : (fpR rec).wr = efW (efsR rec) := by
  cases rec with
  | none => rfl
  | some p => obtain ⟨a, b, c⟩ := p; rfl
/-- An operation that may come now: it is apart from each that differs between what has come and what comes before it in the text. -/
theorem apart_of (h : Ctx P ops gl N σ σ' rs) {S : Nat → Bool} (hd : Down ops S) {i : Nat} {o : Oper} {rec : Rec} (ho : ops[i]? = some o) (hr : rs[i]? = some rec) (hi : S i = false) (he : ∀ x ∈ edgesL o.after.toList, S x = true)
    {k : Nat} {p : Oper × Rec} (hk : (ops.toList.zip rs)[k]? = some p) (hdiff : S k ≠ decide (k < i)) :
    (∀ s, p.1.dst = some s → s ∉ looks ops.toList o) ∧ (∀ z ∈ efW (efsR p.2), ∀ y ∈ rdR (fpR rec), meetsR z y = false) ∧ (∀ z ∈ efW (efsR p.2), ∀ y ∈ efW (efsR rec), meetsR z y = false) ∧ (k ≠ i → ∀ s, p.1.dst = some s → o.dst ≠ some s) ∧ k ≠ i := by
  have hki : k ≠ i := by rintro rfl; apply hdiff; rw [hi]; simp
  rw [List.getElem?_zip_eq_some] at hk
  obtain ⟨hk1, hk2⟩ := hk
  have hk1' : ops[k]? = some p.1 := by rw [← Array.getElem?_toList]; exact hk1
  by_cases hlt : k < i
  · have hSk : S k = false := by
      cases hs : S k with
      | false => rfl
      | true => exact absurd (by rw [hs]; simp [hlt]) hdiff
    rcases indep_get h.ind hlt hk1 (by rw [Array.getElem?_toList]; exact ho) (by rw [List.getElem?_map, hk2]; rfl) (by rw [List.getElem?_map, hr]; rfl) with hc | hc
    · simp only [clash, Bool.or_eq_false_iff] at hc
      obtain ⟨⟨⟨⟨⟨c1, c2⟩, c3⟩, c4⟩, c5⟩, c6⟩ := hc
      rw [fpR_wr] at c4 c5
      rw [fpR_wr] at c5
      exact ⟨fun s hs => meetsN_false c1 s (by simp [hs, optL]), fun z hz y hy => meetsW_false c4 z hz y hy, fun z hz y hy => meetsW_false c5 z hz y hy, fun _ s hs e => meetsN_false c2 s (by simp [hs, optL]) (by simp [e, optL]), hki⟩
    · simp only [Nat.zero_add] at hc
      rw [before_S h hd ho he hc] at hSk
      cases hSk
  · have hgt : i < k := by omega
    have hSk : S k = true := by
      cases hs : S k with
      | true => rfl
      | false => exact absurd (by rw [hs]; simp [hlt]) hdiff
    rcases indep_get h.ind hgt (by rw [Array.getElem?_toList]; exact ho) hk1 (by rw [List.getElem?_map, hr]; rfl) (by rw [List.getElem?_map, hk2]; rfl) with hc | hc
    · simp only [clash, Bool.or_eq_false_iff] at hc
      obtain ⟨⟨⟨⟨⟨c1, c2⟩, c3⟩, c4⟩, c5⟩, c6⟩ := hc
      rw [fpR_wr] at c4 c5
      rw [fpR_wr] at c5 c6
      refine ⟨fun s hs => meetsN_false c3 s (by simp [hs, optL]), fun z hz y hy => meetsW_false c6 z hz y hy, fun z hz y hy => by rw [meetsR_comm]; exact meetsW_false c5 y hy z hz, fun _ s hs e => meetsN_false c2 s (by simp [e, optL]) (by simp [hs, optL]), hki⟩
    · simp only [Nat.zero_add] at hc
      have := before_S h hd hk1' (hd.down k _ hk1' hSk) hc
      rw [this] at hi
      cases hi
theorem xS_slot (h : Ctx P ops gl N σ σ' rs) {S : Nat → Bool} (hd : Down ops S) {i : Nat} {o : Oper} {rec : Rec} (ho : ops[i]? = some o) (hr : rs[i]? = some rec) (hi : S i = false) (he : ∀ x ∈ edgesL o.after.toList, S x = true) {s : Nat} (hs : s ∈ looks ops.toList o) :
    (xS N ops σ σ' rs S).1 s = (foldAll N σ'.gm ((ops.toList.zip rs).take i) (ffOf σ, hfOf σ.hp)).1 s := by
  rw [← foldS_take (ops.toList.zip rs) i 0]
  refine foldS_slot _ 0 _ _ rfl fun k p hk hdst => ?_
  simp only [Nat.zero_add]
  by_cases e : S k = decide (k < i)
  · exact e
  · exact absurd hs ((apart_of h hd ho hr hi he hk e).1 s hdst)
theorem xS_heap (h : Ctx P ops gl N σ σ' rs) {S : Nat → Bool} (hd : Down ops S) {i : Nat} {o : Oper} {rec : Rec} (ho : ops[i]? = some o) (hr : rs[i]? = some rec) (hi : S i = false) (he : ∀ x ∈ edgesL o.after.toList, S x = true) {ρ : Nat × Option (Nat × Nat)}
    (hρ : ρ ∈ rdR (fpR rec) ∨ ρ ∈ efW (efsR rec)) : same ((xS N ops σ σ' rs S).2 ρ.1) ((foldAll N σ'.gm ((ops.toList.zip rs).take i) (ffOf σ, hfOf σ.hp)).2 ρ.1) (inR ρ) ∧
      (ρ.2 = none → (xS N ops σ σ' rs S).2 ρ.1 = (foldAll N σ'.gm ((ops.toList.zip rs).take i) (ffOf σ, hfOf σ.hp)).2 ρ.1) := by
  rw [← foldS_take (ops.toList.zip rs) i 0, xS, foldS_heap, foldS_heap]
  refine foldH_agree _ 0 _ _ (.inl rfl) (fun _ => rfl) fun k p hk hdiff z hz => ?_
  simp only [Nat.zero_add] at hdiff
  obtain ⟨_, a2, a3, _⟩ := apart_of h hd ho hr hi he hk hdiff
  rcases hρ with hρ | hρ
  · exact a2 z hz ρ hρ
  · exact a3 z hz ρ hρ
/-- To take one more operation is to change what has come by it. -/
theorem xS_insert (h : Ctx P ops gl N σ σ' rs) {S S' : Nat → Bool} (hd : Down ops S) {i : Nat} {o : Oper} {rec : Rec} (ho : ops[i]? = some o) (hr : rs[i]? = some rec) (hi : S i = false) (he : ∀ x ∈ edgesL o.after.toList, S x = true) (hi' : S' i = true) (hS : ∀ j, j ≠ i → S' j = S j) :
    xS N ops σ σ' rs S' = appR N σ'.gm o rec (xS N ops σ σ' rs S) := by
  have hlt : i < rs.length := (List.getElem?_eq_some_iff.1 hr).1
  have hp : (ops.toList.zip rs)[i]? = some (o, rec) := by rw [List.getElem?_zip_eq_some]; exact ⟨by rw [Array.getElem?_toList]; exact ho, hr⟩
  apply Prod.ext
  · funext s
    by_cases hds : o.dst = some s ∧ s < N
    · -- the slot that it writes
      have key : ∀ (L : List (Oper × Rec)) (i k : Nat) (x : X), L[i]? = some (o, rec) → S' (k + i) = true → (∀ (j : Nat) (q : Oper × Rec), i < j → L[j]? = some q → q.1.dst = some s → S' (k + j) = false) → (foldS N σ'.gm S' L k x).1 s = (appR N σ'.gm o rec x).1 s := by
        intro L
        induction L with
        | nil => intro i k x h; simp at h
        | cons q L ih =>
          intro i k x hL h1 h2
          cases i with
          | zero =>
            simp at hL
            subst hL
            simp only [Nat.add_zero] at h1
            simp only [foldS, h1, if_true]
            have : (foldS N σ'.gm S' L (k + 1) (appR N σ'.gm o rec x)).1 s = (foldS N σ'.gm (fun _ => false) L (k + 1) (appR N σ'.gm o rec x)).1 s :=
              foldS_slot L (k + 1) _ _ rfl fun j q hq hdq => by have := h2 (j + 1) q (by omega) (by simpa using hq) hdq; rwa [show k + (j + 1) = k + 1 + j by omega] at this
            rw [this, foldS_none L (k + 1) _ fun _ _ => rfl]
          | succ i =>
            simp only [foldS]
            rw [ih i (k + 1) _ (by simpa using hL) (by rwa [show k + 1 + i = k + (i + 1) by omega]) fun j q hj hq hdq => by have := h2 (j + 1) q (by omega) (by simpa using hq) hdq; rwa [show k + (j + 1) = k + 1 + j by omega] at this]
            cases rec with
            | none => simp [appR, updB, hds.1, hds.2]
            | some p => obtain ⟨a, b, c⟩ := p; simp [appR, updB, hds.1, hds.2]
      have := key (ops.toList.zip rs) i 0 (ffOf σ, hfOf σ.hp) hp (by simpa using hi') fun j q hj hq hdq => by
        simp only [Nat.zero_add]
        rw [hS j (by omega)]
        cases hs : S j with
        | false => rfl
        | true =>
          obtain ⟨_, _, _, a4, _⟩ := apart_of h hd ho hr hi he hq (by rw [hs]; simp; omega)
          exact absurd hds.1 (a4 (by omega) s hdq)
      rw [xS, this]
      cases rec with
      | none => simp [appR, updB, hds.1, hds.2]
      | some p => obtain ⟨a, b, c⟩ := p; simp [appR, updB, hds.1, hds.2]
    · have e1 : (appR N σ'.gm o rec (xS N ops σ σ' rs S)).1 s = (xS N ops σ σ' rs S).1 s := by
        cases rec with
        | none => simp only [appR, updB, if_neg hds]
        | some p => obtain ⟨a, b, c⟩ := p; simp only [appR, updB, if_neg hds]
      rw [e1]
      -- a slot that it does not write
      have key : ∀ (L : List (Oper × Rec)) (i k : Nat) (x y : X), x.1 s = y.1 s → L[i]? = some (o, rec) → (∀ j, j ≠ k + i → S' j = S j) → (foldS N σ'.gm S' L k x).1 s = (foldS N σ'.gm S L k y).1 s := by
        intro L
        induction L with
        | nil => intro i k x y _ h; simp at h
        | cons q L ih =>
          intro i k x y hxy hL h2
          have happ : ∀ z : X, q = (o, rec) → (appR N σ'.gm q.1 q.2 z).1 s = z.1 s := by
            rintro z rfl
            cases rec with
            | none => simp only [appR, updB, if_neg hds]
            | some p => obtain ⟨a, b, c⟩ := p; simp only [appR, updB, if_neg hds]
          cases i with
          | zero =>
            simp at hL
            simp only [foldS]
            refine foldS_slot L (k + 1) _ _ ?_ fun j q' _ _ => h2 _ (by omega)
            have a1 : (if S' k then appR N σ'.gm q.1 q.2 x else x).1 s = x.1 s := by split; exact happ x hL; rfl
            have a2 : (if S k then appR N σ'.gm q.1 q.2 y else y).1 s = y.1 s := by split; exact happ y hL; rfl
            rw [a1, a2, hxy]
          | succ i =>
            simp only [foldS]
            rw [h2 k (by omega)]
            refine ih i (k + 1) _ _ ?_ (by simpa using hL) fun j hj => h2 j (by omega)
            split
            · exact appR_slot_eq hxy
            · exact hxy
      exact key _ i 0 _ _ rfl hp (by simpa using hS)
  · funext k
    rw [appR_heap, xS, xS, foldS_heap, foldS_heap]
    refine foldH_insert _ i 0 _ (o, rec) hp (by simpa using hi) (by simpa using hi') (by simpa using hS) fun j q hj hq hs y hy z hz => ?_
    simp only [Nat.zero_add] at hs
    obtain ⟨_, _, a3, _⟩ := apart_of h hd ho hr hi he hq (by rw [hs]; simp; omega)
    rw [meetsR_comm]
    exact a3 z hz y hy
end
end Go.Sx
/- Any order: the end. -/
namespace Go.Sx
open Go
section
variable {P : Program} {ops : Array Oper} {gl : List (Nat × SV)} {B : Bs} {N : Nat} {σ σ' : Sy} {rs : List Rec}
theorem mem_ready {listed : Array Bool} {i : Nat} : i ∈ Region.ready .any ops listed ↔ ∃ o, ops[i]? = some o ∧ listed.getD i true = false ∧ ∀ x ∈ edgesL o.after.toList, listed.getD x false = true := by
  unfold Region.ready
  simp only [List.mem_filter, List.mem_range, Bool.and_eq_true, Bool.not_eq_true']
  constructor
  · rintro ⟨h1, h2, h3⟩
    have ho : ops[i]? = some ops[i] := by simp [h1]
    rw [ho] at h3
    refine ⟨_, ho, h2, fun x hx => ?_⟩
    obtain ⟨e, he, hb, rfl⟩ := mem_edgesL hx
    simp only [Option.map_some, Option.getD_some, Array.all_eq_true_iff_forall_mem] at h3
    have := h3 e (by simpa using he)
    simpa [hb] using this
  · rintro ⟨o, ho, h2, h3⟩
    refine ⟨(Array.getElem?_eq_some_iff.1 ho).1, h2, ?_⟩
    rw [ho]
    simp only [Option.map_some, Option.getD_some, Array.all_eq_true_iff_forall_mem]
    intro e he
    cases hb : Region.binds .any e with
    | false => simp
    | true => simp only [Bool.not_true, Bool.false_or]; exact h3 _ (edgesL_mem (by simpa using he) hb)
/-- How many have not come. -/
def left (n : Nat) (listed : Array Bool) : Nat := ((List.range n).filter fun i => !listed.getD i true).length
theorem left_set {n i : Nat} {listed : Array Bool} (hi : i < n) (hs : listed.size = n) (h : listed.getD i true = false) : left n (listed.setIfInBounds i true) + 1 = left n listed := by
  have hget : ∀ j, (listed.setIfInBounds i true).getD j true = if j = i then true else listed.getD j true := by
    intro j
    simp only [Array.getD_eq_getD_getElem?]
    by_cases e : i = j
    · subst e; rw [if_pos rfl, Array.getElem?_setIfInBounds_self_of_lt (by omega)]; rfl
    · rw [if_neg (fun h => e h.symm), Array.getElem?_setIfInBounds_ne e]
  unfold left
  have key : ∀ (l : List Nat), l.Nodup → i ∈ l → (l.filter fun j => !(listed.setIfInBounds i true).getD j true).length + 1 = (l.filter fun j => !listed.getD j true).length := by
    intro l
    induction l with
    | nil => intro _ h; cases h
    | cons j l ih =>
      intro hn hm
      rw [List.nodup_cons] at hn
      simp only [List.filter_cons, hget j]
      by_cases e : j = i
      · subst e
        rw [if_pos rfl]
        simp only [Bool.not_true, Bool.false_eq_true, if_false, h, Bool.not_false, if_true, List.length_cons]
        congr 2
        refine List.filter_congr fun k hk => ?_
        rw [hget k, if_neg (fun e => hn.1 (by rw [← e]; exact hk))]
      · rw [if_neg e]
        have := ih hn.2 (by rcases List.mem_cons.1 hm with h | h; exact absurd h.symm e; exact h)
        split
        · simp only [List.length_cons]; omega
        · exact this
  exact key _ List.nodup_range (by simpa using hi)
theorem left_zero {n : Nat} {listed : Array Bool} (h : left n listed = 0) : ∀ i, i < n → listed.getD i true = true := by
  intro i hi
  unfold left at h
  have := List.eq_nil_of_length_eq_zero h
  rw [List.filter_eq_nil_iff] at this
  have := this i (by simpa using hi)
  simpa using this
/-- If nothing may come, all have come. -/
theorem all_listed (hok : edgesOk ops.toList 0 = true) {listed : Array Bool} (hs : listed.size = ops.size) (h : Region.ready .any ops listed = []) : ∀ i, i < ops.size → listed.getD i true = true := by
  intro i
  induction i using Nat.strongRecOn with
  | _ i ih =>
    intro hi
    cases hl : listed.getD i true with
    | true => rfl
    | false =>
      have hm : i ∈ Region.ready .any ops listed := by
        refine mem_ready.2 ⟨ops[i], by simp [hi], hl, fun x hx => ?_⟩
        have hlt := edgesOk_get hok (j := i) (o := ops[i]) (by simp [hi]) x hx
        have := ih x (by omega) (by omega)
        rw [Array.getD_eq_getD_getElem?] at this ⊢
        rw [Array.getElem?_eq_getElem (by omega)] at this ⊢
        simpa using this
      rw [h] at hm
      cases hm
def sOf (listed : Array Bool) : Nat → Bool := fun i => listed.getD i false
theorem sOf_eq {n : Nat} {listed : Array Bool} (hs : listed.size = n) {i : Nat} (hi : i < n) : sOf listed i = listed.getD i true := by
  simp [sOf, Array.getD_eq_getD_getElem?, Array.getElem?_eq_getElem (show i < listed.size by omega)]
theorem ffPair {f g : Nat → SG} {a b : Nat → Hl} (h : (f, a) = (g, b)) : f = g ∧ a = b := by
  simp only [Prod.mk.injEq] at h; exact h
theorem putSt {B : Bs} {E : Env} {a : Act} {w : World} {ff : Nat → SG} {hf : Nat → Hl} (st : St B N E a w ff hf) (d : Option Nat) (v : Value) (g : SG)
    (hg : ∀ cs s, g = some (cs, s) → (allT cs → Rel E w s v) ∧ (¬ allT cs → v = undef)) : St B N E (a.put d v) w (updB N ff d g) hf := by
  cases d with
  | none =>
    have : updB N ff none g = ff := by funext s; simp [updB]
    rw [this]; exact st
  | some k =>
    by_cases hk : k < N
    · have := st.put (some k) v g hg (fun j hj => by cases hj; exact hk)
      have e : updO ff (some k) g = updB N ff (some k) g := by
        funext s
        simp only [updO, upd, updB, Option.some.injEq]
        by_cases e : s = k
        · subst e; simp [hk]
        · rw [if_neg e, if_neg (fun h => e h.1.symm)]
      rw [← e]; exact this
    · rw [put_out (by rw [st.size]; omega)]
      have e : updB N ff (some k) g = ff := by
        funext s
        simp only [updB, Option.some.injEq]
        rw [if_neg (fun h => hk (by rw [h.1]; exact h.2))]
      rw [e]; exact st
theorem any_order {ro : Option Nat} {nn : Nat} (h : Ctx P ops gl N σ σ' rs) (hg : glOk B gl) {Q : Exit → Act → World → Prop} (hfin : ∀ E a w, St B N E a w (foldAll N σ'.gm (ops.toList.zip rs) (ffOf σ, hfOf σ.hp)).1 (foldAll N σ'.gm (ops.toList.zip rs) (ffOf σ, hfOf σ.hp)).2 → Q .normal a w) :
    ∀ (fuel : Nat) (listed : Array Bool) (E : Env) (a : Act) (w : World), listed.size = ops.size → left ops.size listed = fuel → Down ops (sOf listed) → St B N E a w (xS N ops σ σ' rs (sOf listed)).1 (xS N ops σ σ' rs (sOf listed)).2 → wpAnyIn (Fr ro) nn P .any ops Q fuel listed a w := by
  have done : ∀ (listed : Array Bool) (E : Env) (a : Act) (w : World), listed.size = ops.size → (∀ i, i < ops.size → listed.getD i true = true) → St B N E a w (xS N ops σ σ' rs (sOf listed)).1 (xS N ops σ σ' rs (sOf listed)).2 → Q .normal a w := by
    intro listed E a w hs hall st
    refine hfin E a w ?_
    have : xS N ops σ σ' rs (sOf listed) = foldAll N σ'.gm (ops.toList.zip rs) (ffOf σ, hfOf σ.hp) := by
      refine foldS_all _ _ _ fun j hj => ?_
      simp only [Nat.zero_add]
      have hj : j < ops.size := by simp at hj; omega
      rw [sOf_eq hs hj]; exact hall j hj
    rw [← this]; exact st
  intro fuel
  induction fuel with
  | zero =>
    intro listed E a w hs hl hd st
    have hall := left_zero hl
    refine ⟨?_, done listed E a w hs hall st⟩
    rw [List.eq_nil_iff_forall_not_mem]
    intro i hi
    obtain ⟨o, ho, h1, _⟩ := mem_ready.1 hi
    rw [hall i (Array.getElem?_eq_some_iff.1 ho).1] at h1
    cases h1
  | succ fuel ih =>
    intro listed E a w hs hl hd st
    refine ⟨fun h0 => done listed E a w hs (all_listed h.edges hs h0) st, fun i hi => ?_⟩
    obtain ⟨o, ho, h1, h2⟩ := mem_ready.1 hi
    have hin : i < ops.size := (Array.getElem?_eq_some_iff.1 ho).1
    have hSi : sOf listed i = false := by rw [sOf_eq hs hin]; exact h1
    have he : ∀ x ∈ edgesL o.after.toList, sOf listed x = true := h2
    have hr : rs[i]? = some (rs[i]'(by rw [h.len]; exact hin)) := List.getElem?_eq_getElem _
    generalize rs[i]'(by rw [h.len]; exact hin) = rec at hr
    obtain ⟨σi, w1, w2, w3, w4⟩ := h.step i o rec ho hr
    obtain ⟨f1, f2⟩ := ffPair w3
    have hagS : ∀ s ∈ looks ops.toList o, (xS N ops σ σ' rs (sOf listed)).1 s = ffOf σi s := fun s hs' => by
      rw [xS_slot h hd ho hr hSi he hs', f1]
    have hguard : ∀ j want s, o.guard = some (j, want) → (nth ops.toList j).bind (·.dst) = some s → (xS N ops σ σ' rs (sOf listed)).1 s = ffOf σi s := fun j want s hgd hb =>
      hagS s (by unfold looks; exact List.mem_append.2 (.inr (guardSlot_mem hgd hb)))
    -- what has come behind it
    have hsz : (listed.setIfInBounds i true).size = ops.size := by simp [hs]
    have hset : ∀ j, sOf (listed.setIfInBounds i true) j = if j = i then true else sOf listed j := by
      intro j
      simp only [sOf, Array.getD_eq_getD_getElem?]
      by_cases e : i = j
      · subst e; rw [if_pos rfl, Array.getElem?_setIfInBounds_self_of_lt (by omega)]; rfl
      · rw [if_neg (fun h => e h.symm), Array.getElem?_setIfInBounds_ne e]
    have hd' : Down ops (sOf (listed.setIfInBounds i true)) := by
      refine ⟨fun k ok hok hk x hx => ?_⟩
      rw [hset]
      split
      · rfl
      · rw [hset] at hk
        split at hk
        · rename_i e
          subst e
          rw [ho] at hok
          cases hok
          exact he x hx
        · exact hd.down k ok hok hk x hx
    have hx := xS_insert h hd ho hr hSi he (S' := sOf (listed.setIfInBounds i true)) (by rw [hset, if_pos rfl]) (fun j hj => by rw [hset, if_neg hj])
    have hleft : left ops.size (listed.setIfInBounds i true) = fuel := by have := left_set hin hs h1; omega
    have next : ∀ (E' : Env) (a' : Act) (w' : World), St B N E' a' w' (appR N σ'.gm o rec (xS N ops σ σ' rs (sOf listed))).1 (appR N σ'.gm o rec (xS N ops σ σ' rs (sOf listed))).2 → wpAnyIn (Fr ro) nn P .any ops Q fuel (listed.setIfInBounds i true) a' w' := by
      intro E' a' w' st'
      refine ih _ E' a' w' hsz hleft hd' ?_
      rw [hx]; exact st'
    unfold wpOpIn
    rw [ho]
    simp only
    cases rec with
    | none =>
      have hw := guardOf_skip (ops := ops) rfl w4 st hguard
      rw [if_neg (by simp [hw])]
      exact ⟨fun _ _ => trivial, next E _ w (putSt st _ _ none (by simp))⟩
    | some p =>
      obtain ⟨σ1, T, r⟩ := p
      obtain ⟨q1, q2, q3, q4, q5⟩ := w4
      obtain ⟨g1, g2, g3, g4, g5, _, _, g8⟩ := guardOf_some (ops := ops) rfl q1 w1
      have hwant := g8 B N E a w _ _ st hguard
      by_cases hT : allT (condsOf σ1.gm T)
      · rw [if_pos (hwant.2 hT)]
        have hag : AgS σ1 (xS N ops σ σ' rs (sOf listed)).1 o := fun s hs' => by
          rw [g2]
          exact hagS s (by unfold looks; exact List.mem_append.2 (.inl (mem_slotsL hs')))
        have hagH : AgH σ1.hp (xS N ops σ σ' rs (sOf listed)).2 r := by
          rw [g3]
          refine ⟨fun k hk => ?_, fun x hx => ?_, fun e he' => ?_⟩
          · have := (xS_heap h hd ho hr hSi he (ρ := (k, none)) (.inl (by simp [rdR, fpR, fpOf]; exact hk))).2 rfl
            rw [this, ← f2]
          · obtain ⟨hh, off, n⟩ := x
            have := (xS_heap h hd ho hr hSi he (ρ := (hh, some (off, n))) (.inl (by simp [rdR, fpR, fpOf]; exact ⟨hh, off, n, hx, rfl, rfl, rfl⟩))).1
            rw [← f2] at this
            intro ty cs hcs
            simp only at hcs this ⊢
            rcases this with e | ⟨ty', c1, c2, e1, e2, e3, e4⟩
            · exact ⟨cs, by rw [e, hcs], rfl, fun _ _ _ => rfl⟩
            · rw [hcs] at e2
              cases e2
              exact ⟨c1, e1, e3.symm, fun j j1 j2 => (e4 j ⟨j1, j2⟩).symm⟩
          · have hmem : ∀ (es : List Ef), e ∈ es → match e with | .set k off vs => (k, some (off, lenN vs)) ∈ efW es | .put k _ => (k, none) ∈ efW es := by
              intro es
              induction es with
              | nil => intro h; cases h
              | cons e' es ih =>
                intro hm
                rcases List.mem_cons.1 hm with rfl | hm
                · cases e <;> simp [efW]
                · have := ih hm
                  cases e <;> cases e' <;> simp only [efW, List.mem_cons] at this ⊢ <;> exact Or.inr this
            have hm := hmem r.efs he'
            cases e with
            | set k off vs =>
              simp only at hm
              have := (xS_heap h hd ho hr hSi he (ρ := (k, some (off, lenN vs))) (.inr hm)).1
              rw [← f2] at this
              intro ty cs hcs
              rcases this with e | ⟨ty', c1, c2, e1, e2, e3, e4⟩
              · exact ⟨cs, by rw [e, hcs], rfl⟩
              · rw [hcs] at e2
                cases e2
                exact ⟨c1, e1, e3.symm⟩
            | put k hl =>
              simp only at hm
              have := (xS_heap h hd ho hr hSi he (ρ := (k, none)) (.inr hm)).2 rfl
              show (xS N ops σ σ' rs (sOf listed)).2 k = hfOf σi.hp k
              rw [this, ← f2]
        refine q2 B N E a w _ _ hg st hag hagH hT _ _ _ _ fun v w' E' x1 x2 x3 x4 => ?_
        refine next E' _ w' ?_
        simp only [appR, q5]
        exact putSt (st.step x1 x2 x3) _ _ _ (by rintro cs s ⟨⟩; exact ⟨fun _ => x4, fun h => absurd hT h⟩)
      · rw [if_neg (fun h => hT (hwant.1 h))]
        refine ⟨fun _ _ => trivial, next E _ w ?_⟩
        have hef : r.efs = [] := by
          rcases q4.1 with h | h | h
          · subst h; exact absurd trivial hT
          · exact h
          · exact absurd h hT
        simp only [appR, q5, hef, efsF]
        exact putSt st _ _ _ (by rintro cs s ⟨⟩; exact ⟨fun h => absurd h hT, fun _ => rfl⟩)
/-- **Whatever order is drawn.** -/
theorem drawOk (hm : P.follows .mixedOrders = true) : DrawOk P := by
  intro ro nn gl id ops B N σ σ' rs hg hruns hedges hind Q E a w hs hQ
  obtain ⟨r1, r2, r3, r4, r5, r6, r7⟩ := runs_get hruns hs.wf N hs.len
  have hctx : Ctx P ops gl N σ σ' rs := ⟨by rw [r1]; simp, fun i o rec ho hr => r7 i o rec (by rw [Array.getElem?_toList]; exact ho) hr, hedges, hind⟩
  obtain ⟨e1, e2⟩ := ffPair r6
  refine wpIn_region_any hm ?_
  have hbase := hs.st.base
  have hst : St B N E a { w with drawn := w.drawn + 1 } (ffOf σ) (hfOf σ.hp) :=
    hs.st.step (E' := E) (w' := { w with drawn := w.drawn + 1 }) ⟨fun _ _ h => h, fun _ _ h => .inl h, fun _ _ h => h, fun _ _ h => h, fun _ _ h => h, fun _ _ _ => rfl⟩ ⟨hbase.os, hbase.tape, hbase.output, hbase.size, hbase.old, hbase.I0, hbase.Ibd, hbase.Inew, hbase.Obd, hbase.β0⟩
      fun k => HOk.keep (E := E) (w := w) (E' := E) (w' := { w with drawn := w.drawn + 1 }) ⟨fun _ _ h => h, fun _ _ h => .inl h, fun _ _ h => h, fun _ _ h => h, fun _ _ h => h, fun _ _ _ => rfl⟩ (hs.st.heap k) rfl rfl rfl rfl fun b hO => ⟨hO, rfl, fun _ h => h⟩
  refine any_order (B := B) hctx hg (fun E' a' w' st' => ?_) ops.size _ E a _ (by simp) ?_ ⟨fun k o _ hk => ?_⟩ ?_
  · refine hQ E' a' w' ⟨?_, r3, r2, fun k hk => Nat.lt_of_lt_of_le (hs.ge k hk) r4⟩
    rw [e1, e2]; exact st'
  · unfold left
    rw [List.filter_eq_self.2]
    · simp
    · intro i hi; simp at hi; simp [Array.getD_eq_getD_getElem?, hi]
  · exfalso
    simp only [sOf, Array.getD_eq_getD_getElem?, Array.getElem?_replicate] at hk
    split at hk <;> simp at hk
  · have : xS N ops σ σ' rs (sOf (Array.replicate ops.size false)) = (ffOf σ, hfOf σ.hp) := by
      refine foldS_none _ _ _ fun j _ => ?_
      simp only [sOf, Array.getD_eq_getD_getElem?, Array.getElem?_replicate]
      split <;> rfl
    rw [this]; exact hst
end
end Go.Sx
/- How a contract is proved. -/
namespace Go.Sx
open Go
theorem rgNil {P : Program} {D : Dn} {tt : List (Nat × TI)} {tab : List (Nat × FSpec)} {gl : List (Nat × SV)} {eqs : List TypeId} {gh : List (Nat × List Gh)} : RgOk P ⟨D, tt, tab, gl, eqs, gh, [], []⟩ := ⟨fun _ h => (by cases h), fun _ h => (by cases h)⟩
theorem fnOk {P : Program} (hm : P.follows .mixedOrders = true) {tt : List (Nat × TI)} {tab : List (Nat × FSpec)} {gl : List (Nat × SV)} {eqs : List TypeId} {gh : List (Nat × List Gh)} (hc : CxOk P ⟨dn, tt, tab, gl, eqs, gh, [], []⟩) (htab : TabOk P gl tab) {f : FuncId} {fn : Func} (hf : P.funcs[f]? = some fn) (hgood : (fn.name == "runtime.NumGoroutine") = false) (hb : fn.body.isSome = true) {sp : FSpec}
    (h : ∀ (as : List SV) (ls : List Hl) (K : SV → List Hl → Prop), sp dn as ls K → ∃ r ls', K r ls' ∧ ∀ D, D = dn → body ⟨D, tt, tab, gl, eqs, gh, [], []⟩ fn as ls fun r' ls'' => Fin r' r ls'' ls') : FnOk P gl f sp := by
  refine ⟨?_, fun as ls K hs => ?_⟩
  · obtain ⟨c, hc⟩ := Option.isSome_iff_exists.1 hb
    exact ⟨fn, c, hf, hc, hgood⟩
  · obtain ⟨r, ls', hK, hbody⟩ := h as ls K hs
    exact ⟨r, ls', hK, callsTo_of_body (drawOk hm) hc htab rgNil hf (hbody dn rfl)⟩
theorem fnOkG {P : Program} (hm : P.follows .mixedOrders = true) {tt : List (Nat × TI)} {tab : List (Nat × FSpec)} {gl : List (Nat × SV)} {eqs : List TypeId} {gh : List (Nat × List Gh)} (hc : CxOk P ⟨dn, tt, tab, gl, eqs, gh, [], []⟩) (htab : TabOk P gl tab) {f : FuncId} {fn : Func} (hf : P.funcs[f]? = some fn) (hgood : (fn.name == "runtime.NumGoroutine") = false) (hb : fn.body.isSome = true) {sp : FSpec}
    (h : ∀ (as : List SV) (ls : List Hl) (K : SV → List Hl → Prop), sp dn as ls K → ∃ r ls', K r ls' ∧ ∀ D, D = dn → bodyG ⟨D, tt, tab, gl, eqs, gh, [], []⟩ fn as ls fun r' ls'' => Fin r' r ls'' ls') : FnOk P gl f sp := by
  refine ⟨?_, fun as ls K hs => ?_⟩
  · obtain ⟨c, hc⟩ := Option.isSome_iff_exists.1 hb
    exact ⟨fn, c, hf, hc, hgood⟩
  · obtain ⟨r, ls', hK, hbody⟩ := h as ls K hs
    exact ⟨r, ls', hK, callsTo_of_bodyG (drawOk hm) hc htab rgNil hf (hbody dn rfl)⟩
/-- With loops over functions. -/
theorem fnOkI {P : Program} (hm : P.follows .mixedOrders = true) {tt : List (Nat × TI)} {tab : List (Nat × FSpec)} {gl : List (Nat × SV)} {eqs : List TypeId} {gh : List (Nat × List Gh)} {its : List (Nat × (FSpec → FSpec))} {yl : List FSpec} (hc : CxOk P ⟨dn, tt, tab, gl, eqs, gh, its, yl⟩) (htab : TabOk P gl tab) (hrg : RgOk P ⟨dn, tt, tab, gl, eqs, gh, its, yl⟩) {f : FuncId} {fn : Func} (hf : P.funcs[f]? = some fn) (hgood : (fn.name == "runtime.NumGoroutine") = false) (hb : fn.body.isSome = true) {sp : FSpec}
    (h : ∀ (as : List SV) (ls : List Hl) (K : SV → List Hl → Prop), sp dn as ls K → ∃ r ls', K r ls' ∧ ∀ D, D = dn → bodyG ⟨D, tt, tab, gl, eqs, gh, its, yl⟩ fn as ls fun r' ls'' => Fin r' r ls'' ls') : FnOk P gl f sp := by
  refine ⟨?_, fun as ls K hs => ?_⟩
  · obtain ⟨c, hc⟩ := Option.isSome_iff_exists.1 hb
    exact ⟨fn, c, hf, hc, hgood⟩
  · obtain ⟨r, ls', hK, hbody⟩ := h as ls K hs
    exact ⟨r, ls', hK, callsTo_of_bodyG (drawOk hm) hc htab hrg hf (hbody dn rfl)⟩
theorem fnOkJ {P : Program} (hm : P.follows .mixedOrders = true) {tt : List (Nat × TI)} {tab : List (Nat × FSpec)} {gl : List (Nat × SV)} {eqs : List TypeId} {gh : List (Nat × List Gh)} (hc : CxOk P ⟨dn, tt, tab, gl, eqs, gh, [], []⟩) (htab : TabOk P gl tab) {f : FuncId} {fn : Func} (hf : P.funcs[f]? = some fn) (hgood : (fn.name == "runtime.NumGoroutine") = false) {l : Nat} {pre c rest : Code} (hb : fn.body = some (.seq pre (.scope c))) (hl : findLabel c l = some rest) {sp : FSpec}
    (h : ∀ (as : List SV) (ls : List Hl) (K : SV → List Hl → Prop), sp dn as ls K → ∃ r ls', K r ls' ∧ ∀ D, D = dn → bodyJ ⟨D, tt, tab, gl, eqs, gh, [], []⟩ fn pre c l rest as ls fun r' ls'' => Fin r' r ls'' ls') : FnOk P gl f sp := by
  refine ⟨⟨fn, _, hf, hb, hgood⟩, fun as ls K hs => ?_⟩
  obtain ⟨r, ls', hK, hbody⟩ := h as ls K hs
  exact ⟨r, ls', hK, callsTo_of_bodyJ (drawOk hm) hc htab rgNil hf hb hl (hbody dn rfl)⟩
theorem tabNil {P : Program} {gl : List (Nat × SV)} : TabOk P gl [] := by intro x h; cases h
theorem tabCons {P : Program} {gl : List (Nat × SV)} {tab : List (Nat × FSpec)} {f : Nat} {sp : FSpec} (h : FnOk P gl f sp) (ht : TabOk P gl tab) (hf : Nat.blt f 1000000 = true := by decide) : TabOk P gl ((f, sp) :: tab) := by
  intro x hx
  rcases List.mem_cons.1 hx with rfl | hx
  · show FnOk P gl (fnOf f) sp
    rw [fnOf, if_pos hf]; exact h
  · exact ht x hx
/-- With whatever heaplets the arguments reach. -/
theorem tabConsG {P : Program} {gl : List (Nat × SV)} {tab : List (Nat × FSpec)} {f : Nat} {sp : FSpec} (h : FnOk P gl f sp) (ht : TabOk P gl tab) : TabOk P gl ((f + 1000000, sp) :: tab) := by
  intro x hx
  rcases List.mem_cons.1 hx with rfl | hx
  · show FnOk P gl (fnOf (f + 1000000)) sp
    have e : fnOf (f + 1000000) = f := by
      unfold fnOf
      rw [if_neg (by rw [Nat.blt_eq]; omega), Nat.add_sub_cancel]
    rw [e]; exact h
  · exact ht x hx
/-- Both ways of a test. -/
theorem br {D : Dn} (hD : D = dn) {b : BT} {A B : Prop} (ht : b.den = true → A) (hf : b.den = false → B) : (D.b b = true → A) ∧ (D.b b = false → B) := by subst hD; exact ⟨ht, hf⟩
theorem fin_eq {s s' : SV} {ls ls' : List Hl} (h : s = s') (hl : ls = ls') : Fin s s' ls ls' := by subst h hl; exact ⟨LeV.refl s, LeH.refl ls, Nat.le_refl _⟩
theorem int_eq {D : Dn} (hD : D = dn) {k : IntKind} {t : ST} {n : Int} (h : t.den = n) : SV.int k (.a (D.i t)) = .int k (.a n) := by subst hD h; rfl
theorem bool_eq {D : Dn} (hD : D = dn) {t : BT} {b : Bool} (h : t.den = b) : SV.bool (.a (D.b t)) = .bool (.a b) := by subst hD h; rfl
theorem finInt {D : Dn} (hD : D = dn) {k : IntKind} {t : ST} {n : Int} {ls : List Hl} (h : t.den = n) : Fin (.int k (.a (D.i t))) (.int k (.a n)) ls ls := fin_eq (int_eq hD h) rfl
theorem finBool {D : Dn} (hD : D = dn) {t : BT} {b : Bool} {ls : List Hl} (h : t.den = b) : Fin (.bool (.a (D.b t))) (.bool (.a b)) ls ls := fin_eq (bool_eq hD h) rfl
/-! ### what tests and terms mean -/
@[simp] theorem den_a (n : Int) : (ST.a n).den = n := rfl
@[simp] theorem den_l (n : Int) : (ST.l n).den = n := rfl
@[simp] theorem den_len (s : List UInt8) : (ST.len s).den = s.length := rfl
@[simp] theorem den_add (k : IntKind) (x y : ST) : (ST.bin .add k x y).den = k.wrap (x.den + y.den) := rfl
@[simp] theorem den_sub (k : IntKind) (x y : ST) : (ST.bin .sub k x y).den = k.wrap (x.den - y.den) := rfl
@[simp] theorem den_mul (k : IntKind) (x y : ST) : (ST.bin .mul k x y).den = k.wrap (x.den * y.den) := rfl
@[simp] theorem den_quo (k : IntKind) (x y : ST) : (ST.bin .quo k x y).den = k.wrap (x.den.tdiv y.den) := rfl
@[simp] theorem den_rem (k : IntKind) (x y : ST) : (ST.bin .rem k x y).den = x.den.tmod y.den := rfl
@[simp] theorem den_cv (k : IntKind) (x : ST) : (ST.cv k x).den = k.wrap x.den := rfl
@[simp] theorem bden_a (b : Bool) : (BT.a b).den = b := rfl
@[simp] theorem bden_l (b : Bool) : (BT.l b).den = b := rfl
@[simp] theorem bden_lss (x y : ST) : (BT.cmp .lss x y).den = true ↔ x.den < y.den := by simp [BT.den, cmpDen]
@[simp] theorem bden_lss' (x y : ST) : (BT.cmp .lss x y).den = false ↔ y.den ≤ x.den := by simp [BT.den, cmpDen]
@[simp] theorem bden_leq (x y : ST) : (BT.cmp .leq x y).den = true ↔ x.den ≤ y.den := by simp [BT.den, cmpDen]
@[simp] theorem bden_leq' (x y : ST) : (BT.cmp .leq x y).den = false ↔ y.den < x.den := by simp [BT.den, cmpDen]
@[simp] theorem bden_gtr (x y : ST) : (BT.cmp .gtr x y).den = true ↔ y.den < x.den := by simp [BT.den, cmpDen]
@[simp] theorem bden_gtr' (x y : ST) : (BT.cmp .gtr x y).den = false ↔ x.den ≤ y.den := by simp [BT.den, cmpDen]
@[simp] theorem bden_geq (x y : ST) : (BT.cmp .geq x y).den = true ↔ y.den ≤ x.den := by simp [BT.den, cmpDen]
@[simp] theorem bden_geq' (x y : ST) : (BT.cmp .geq x y).den = false ↔ x.den < y.den := by simp [BT.den, cmpDen]
@[simp] theorem bden_eql (x y : ST) : (BT.cmp .eql x y).den = true ↔ x.den = y.den := by simp [BT.den, cmpDen]
@[simp] theorem bden_eql' (x y : ST) : (BT.cmp .eql x y).den = false ↔ x.den ≠ y.den := by simp [BT.den, cmpDen]
@[simp] theorem bden_neq (x y : ST) : (BT.cmp .neq x y).den = true ↔ x.den ≠ y.den := by simp [BT.den, cmpDen]
@[simp] theorem bden_neq' (x y : ST) : (BT.cmp .neq x y).den = false ↔ x.den = y.den := by simp [BT.den, cmpDen]
@[simp] theorem bden_not (x : BT) : (BT.not x).den = true ↔ x.den = false := by simp [BT.den]
@[simp] theorem bden_not' (x : BT) : (BT.not x).den = false ↔ x.den = true := by simp [BT.den]
@[simp] theorem bden_and (x y : BT) : (BT.and x y).den = true ↔ x.den = true ∧ y.den = true := by simp [BT.den]
@[simp] theorem bden_and' (x y : BT) : (BT.and x y).den = false ↔ (x.den = true → y.den = false) := by simp only [BT.den]; cases x.den <;> simp
@[simp] theorem bden_or (x y : BT) : (BT.or x y).den = true ↔ (x.den = false → y.den = true) := by simp only [BT.den]; cases x.den <;> simp
@[simp] theorem bden_or' (x y : BT) : (BT.or x y).den = false ↔ x.den = false ∧ y.den = false := by simp [BT.den]
@[simp] theorem bden_beq (x y : BT) : (BT.beq x y).den = true ↔ x.den = y.den := by simp [BT.den]
@[simp] theorem bden_beq' (x y : BT) : (BT.beq x y).den = false ↔ x.den = !y.den := by simp only [BT.den]; cases x.den <;> cases y.den <;> simp
@[simp] theorem bden_seq (s t : List UInt8) : (BT.seq s t).den = true ↔ s = t := by simp [BT.den]
@[simp] theorem bden_seq' (s t : List UInt8) : (BT.seq s t).den = false ↔ s ≠ t := by simp [BT.den]
theorem wrap64 {n : Int} (h1 : -9223372036854775808 ≤ n) (h2 : n ≤ 9223372036854775807) : IntKind.i64.wrap n = n := IntWalk.i64_in _ ⟨by omega, by omega⟩
end Go.Sx
/- Contracts of the kit's shelf, taken over. -/
namespace Go.Sx
open Go Go.RowKit
theorem callsTo_below {P : Program} {gl : List (Nat × SV)} {f : FuncId} {as : List SV} {r : SV}
    (h : ∀ (E : Env) (B : Bs) (w : World) (vals : List Value), glOk B gl → Base B E w → B.w0 = w → RelL E w as vals → Calls P f ⟨vals⟩ w fun e w' => ∃ v, e = .returned v ∧ (∀ E, Rel E w' r v) ∧ Below w.heap.size w w') : CallsTo P gl f as [] r [] := by
  intro B E w vals hw0 hI hdom hb hg hh hr
  refine (h E B w vals hg hb hw0 hr).mono fun e w' hq => ?_
  obtain ⟨v, rfl, hv, hB⟩ := hq
  refine ⟨v, E, rfl, ?_, fun h hlt => absurd hlt (by simp), hv E⟩
  refine ⟨hB.os.trans hb.os, hB.tape.trans hb.tape, hB.output.trans hb.output, Nat.le_trans hb.size hB.size, fun b hlt hx => ?_, fun b o h0 => ?_, fun b o hi => Nat.lt_of_lt_of_le (hb.Ibd b o hi) hB.size, hb.Inew, fun b h ho => ⟨Nat.lt_of_lt_of_le (hb.Obd b h ho).1 hB.size, (hb.Obd b h ho).2⟩, hb.β0⟩
  · rw [hB.block b (by rw [← hw0]; exact hlt)]; exact hb.old b hlt hx
  · have h1 := hb.I0 b o h0
    refine ⟨h1.1, ?_⟩
    rw [hB.cell (p := ⟨b, o, none⟩) (hb.Ibd b o h1.1)]
    exact h1.2
/-- What values of plain kinds are. -/
theorem rel_str {E : Env} {w : World} {s : List UInt8} {v : Value} (h : Rel E w (.str s) v) : v = .string (bytes s) := by
  cases h with
  | ro h => cases h with
    | str h => exact h
theorem rel_int {E : Env} {w : World} {k : IntKind} {t : ST} {v : Value} (h : Rel E w (.int k t) v) : v = .int k t.den := by
  cases h with
  | ro h => cases h with
    | int h => rw [h]
theorem relL_one {E : Env} {w : World} {a : SV} {vals : List Value} (h : RelL E w [a] vals) : ∃ v, vals = [v] ∧ Rel E w a v := by
  match vals, h with
  | [v], h => exact ⟨v, rfl, h.2 0 a v rfl rfl⟩
  | [], h => exact absurd h.1 (by simp)
  | _ :: _ :: _, h => exact absurd h.1 (by simp)
theorem relL_two {E : Env} {w : World} {a b : SV} {vals : List Value} (h : RelL E w [a, b] vals) : ∃ v u, vals = [v, u] ∧ Rel E w a v ∧ Rel E w b u := by
  match vals, h with
  | [v, u], h => exact ⟨v, u, rfl, h.2 0 a v rfl rfl, h.2 1 b u rfl rfl⟩
  | [], h => exact absurd h.1 (by simp)
  | [_], h => exact absurd h.1 (by simp)
  | _ :: _ :: _ :: _, h => exact absurd h.1 (by simp)
end Go.Sx
/- Ends of bodies: one reading for another. -/
namespace Go.Sx
open Go
def LeL (cs cs' : List SV) : Prop := ∀ (E : Env) (w : World) (vs : List Value), RelL E w cs vs → RelL E w cs' vs
theorem LeL.nil : LeL [] [] := fun _ _ _ h => h
theorem LeL.refl (cs : List SV) : LeL cs cs := fun _ _ _ h => h
theorem LeL.cons {c c' : SV} {cs cs' : List SV} (h : LeV c c') (hs : LeL cs cs') : LeL (c :: cs) (c' :: cs') := by
  intro E w vs hr
  match vs, hr with
  | v :: vs, hr =>
    exact .cons (h E w v (hr.2 0 c v rfl rfl)) (hs E w vs ⟨by have := hr.1; simpa using this, fun i s v a b => hr.2 (i + 1) s v (by simpa using a) (by simpa using b)⟩)
  | [], hr => exact absurd hr.1 (by simp)
theorem LeV.agg {cs cs' : List SV} (h : LeL cs cs') : LeV (.agg cs) (.agg cs') := by
  intro E w v hr
  obtain ⟨vs, rfl, hl⟩ := hr.agg_inv
  exact (h E w vs hl).agg
theorem LeV.tup {cs cs' : List SV} (h : LeL cs cs') : LeV (.tup cs) (.tup cs') := by
  intro E w v hr
  obtain ⟨vs, rfl, hl⟩ := hr.tup_inv
  have := h E w vs hl
  exact .tup this.1 this.2
theorem LeV.sl {nl nl' : BT} {n n' : ST} {sz : Nat} {f f' : Nat → List SV} (h1 : nl.den = nl'.den) (h2 : n.den = n'.den) (h : ∀ i : Nat, (i : Int) < n.den → f i = f' i) : LeV (.sl nl n sz f) (.sl nl' n' sz f') := by
  intro E w v hr
  have hr := hr.sl_inv
  rcases hr.sl_inv with ⟨rfl, e0, e1⟩ | ⟨a, m, cap, g, rfl, e1, e2, e3, e3', e4, e5, e5', e6, e7⟩
  · exact .ro (.slnil (by rw [← h1]; exact e1) (by rw [← h2]; exact e0))
  · have hf : ∀ i, i < m → f' i = f i := fun i hi => (h i (by omega)).symm
    exact .ro (.sl g (by rw [← h1]; exact e1) (by rw [← h2]; exact e2) e3 e3' e4 (fun i hi => by rw [hf i hi]; exact e5 i hi) e5' e6 (fun i j s hi hs => by rw [hf i hi] at hs; exact e7 i j s hi hs))
theorem LeH.nil : LeH [] [] := LeH.refl []
theorem LeH.cons {l l' : Hl} {ls ls' : List Hl} (h : ∀ (k : Nat) (E : Env) (w : World), HOk E w k l → HOk E w k l') (hs : ∀ (k i : Nat) (E : Env) (w : World), HOk E w k (hfOf ls i) → HOk E w k (hfOf ls' i)) : ∀ (k i : Nat) (E : Env) (w : World), HOk E w k (hfOf (l :: ls) i) → HOk E w k (hfOf (l' :: ls') i)
  | k, 0, E, w, hk => h k E w hk
  | k, i + 1, E, w, hk => hs k i E w hk
theorem leH_of {ls ls' : List Hl} (hs : ∀ (k i : Nat) (E : Env) (w : World), HOk E w k (hfOf ls i) → HOk E w k (hfOf ls' i)) : LeH ls ls' := fun h E w hk => hs h h E w hk
theorem leH_blk {ty : TypeId} {cs cs' : List SV} (h : LeL cs cs') (k : Nat) (E : Env) (w : World) (hk : HOk E w k (.blk ty cs)) : HOk E w k (.blk ty cs') := by
  obtain ⟨b, C, k1, k2, k3, k4, k5, k6⟩ := hk.blk_inv
  have hn := h E w _ k4
  exact ⟨b, C, k1, k2, k3, by have := hn.1; simpa using this.symm, fun i s v p q => hn.2 i s v p (by simpa using q), fun v hv => k5 v (by simpa using hv), k6⟩
theorem finV {s s' : SV} (h : LeV s s') : Fin s s' [] [] := ⟨h, LeH.refl [], Nat.le_refl _⟩
theorem leOsl {nl nl' : BT} {n n' : ST} {h : Nat} (h1 : nl.den = nl'.den) (h2 : n.den = n'.den) : LeV (.osl nl n h) (.osl nl' n' h) := by
  intro E w v hr
  obtain ⟨⟨a, m, c, t1, t2, t3⟩, a0, m0, c0, q1, q2, q3⟩ := hr.osl_inv
  exact .osl ⟨a, m, c, t1, by rw [← h2]; exact t2, by rw [← h1]; exact t3⟩ ⟨a0, m0, c0, q1, by rw [← h2]; exact q2, by rw [← h2]; exact q3⟩
theorem leH_own {ty : TypeId} {n n' : ST} {sz : Nat} {gr : Bool} {f f' : Nat → List SV} (h2 : n.den = n'.den) (h : ∀ i : Nat, (i : Int) < n.den → f i = f' i) (k : Nat) (E : Env) (w : World) (hk : HOk E w k (.own ty n sz gr f)) : HOk E w k (.own ty n' sz gr f') := by
  obtain ⟨v, m, xs, k1, kz, k2, k3, k4, k5, k6⟩ := hk
  have hf : ∀ i, i < m → f' i = f i := fun i hi => (h i (by omega)).symm
  exact ⟨v, m, xs, k1, kz, k2, by rw [← h2]; exact k3, k4, ⟨fun i hi => by rw [hf i hi]; exact k5.1 i hi, fun i j s u hi hs => by rw [hf i hi] at hs; exact k5.2 i j s u hi hs⟩, k6⟩
theorem leVsl {nl nl' : BT} {n n' g g' : ST} {h : Nat} (h1 : nl.den = nl'.den) (h2 : n.den = n'.den) (h3 : g.den = g'.den) : LeV (.vsl nl n g h) (.vsl nl' n' g' h) := by
  intro E w v hr
  obtain ⟨⟨a, m, c, t1, t2, t3⟩, a0, m0, c0, q1, q2, q3⟩ := hr.vsl_inv
  exact .vsl ⟨a, m, c, t1, by rw [← h2]; exact t2, by rw [← h1]; exact t3⟩ ⟨a0, m0, c0, q1, by rw [← h3]; exact q2, by rw [← h3, ← h2]; exact q3⟩
theorem leH_vec {ty : TypeId} {n n' g g' : ST} {sz : Nat} {f f' : Nat → List SV} (h2 : n.den = n'.den) (h3 : g.den = g'.den) (h : ∀ i : Nat, (i : Int) < n.den → f i = f' i) (k : Nat) (E : Env) (w : World) (hk : HOk E w k (.vec ty n g sz f)) : HOk E w k (.vec ty n' g' sz f') := by
  obtain ⟨a, c, m, G, xs, k1, k2, k3, kg, k4, k5, k6⟩ := hk
  have hf : ∀ i, i < m → f' i = f i := fun i hi => (h i (by omega)).symm
  exact ⟨a, c, m, G, xs, k1, k2, by rw [← h2]; exact k3, by rw [← h3]; exact kg, k4, ⟨fun i hi => by rw [hf i hi]; exact k5.1 i hi, fun i j s u hi hs => by rw [hf i hi] at hs; exact k5.2 i j s u hi hs⟩, k6⟩
theorem finOwn {s s' : SV} {ty : TypeId} {n n' : ST} {sz : Nat} {gr : Bool} {f f' : Nat → List SV} (h : LeV s s') (h2 : n.den = n'.den) (hf : ∀ i : Nat, (i : Int) < n.den → f i = f' i) : Fin s s' [.own ty n sz gr f] [.own ty n' sz gr f'] :=
  ⟨h, leH_of (LeH.cons (leH_own h2 hf) fun _ _ _ _ h => h), Nat.le_refl _⟩
theorem leInt {k : IntKind} {t t' : ST} (h : t.den = t'.den) : LeV (.int k t) (.int k t') := by
  intro E w v hr
  rw [hr.int_inv]
  exact .int h.symm
theorem leBool {t t' : BT} (h : t.den = t'.den) : LeV (.bool t) (.bool t') := by
  intro E w v hr
  rw [hr.bool_inv]
  exact .bool h.symm
end Go.Sx
namespace Go.Proofs.YtefelnhpfdcleaaGreatDoor
open Go.Sx
set_option maxRecDepth 10000
def tt : List (Nat × TI) := [
  (2, ⟨.int .i64, 1, 8, [.int .i64 (.l 0)]⟩),
  (3, ⟨.int .i64, 1, 8, [.int .i64 (.l 0)]⟩),
  (4, ⟨.bool, 1, 1, [.bool (.l false)]⟩),
  (5, ⟨.int .u8, 1, 1, [.int .u8 (.l 0)]⟩),
  (9, ⟨.string, 1, 16, [.str []]⟩),
  (23, ⟨.int .i64, 1, 8, [.int .i64 (.l 0)]⟩),
  (29, ⟨.slice 69, 1, 24, [(.sl (.l true) (.l 0) 2 fun _ => [])]⟩),
  (31, ⟨.struct [(0, 2), (1, 9), (2, 9), (3, 9), (4, 29), (5, 9)], 6, 96, [.int .i64 (.l 0), .str [], .str [], .str [], (.sl (.l true) (.l 0) 2 fun _ => []), .str []]⟩),
  (36, ⟨.slice 5, 1, 24, [(.sl (.l true) (.l 0) 1 fun _ => [])]⟩),
  (41, ⟨.int .u16, 1, 2, [.int .u16 (.l 0)]⟩),
  (50, ⟨.slice 31, 1, 24, [(.sl (.l true) (.l 0) 6 fun _ => [])]⟩),
  (55, ⟨.slice 41, 1, 24, [(.sl (.l true) (.l 0) 1 fun _ => [])]⟩),
  (61, ⟨.slice 9, 1, 24, [(.sl (.l true) (.l 0) 1 fun _ => [])]⟩),
  (69, ⟨.struct [(0, 9), (1, 9)], 2, 32, [.str [], .str []]⟩),
  (80, ⟨.struct [(0, 61), (1, 61), (2, 61), (3, 4), (4, 29)], 5, 104, [(.sl (.l true) (.l 0) 1 fun _ => []), (.sl (.l true) (.l 0) 1 fun _ => []), (.sl (.l true) (.l 0) 1 fun _ => []), .bool (.l false), (.sl (.l true) (.l 0) 2 fun _ => [])]⟩),
  (91, ⟨.struct [(0, 9), (1, 4), (2, 4), (3, 4)], 4, 24, [.str [], .bool (.l false), .bool (.l false), .bool (.l false)]⟩),
  (107, ⟨.iface, 1, 16, [.raw .nilIface]⟩),
  (102, ⟨.pointer 104, 1, 8, [.nilp]⟩),
  (104, ⟨.struct [(0, 102), (1, 36)], 2, 32, [.nilp, (.sl (.l true) (.l 0) 1 fun _ => [])]⟩),
  (156, ⟨.map 9 4, 1, 8, [.raw (.map none)]⟩)]
def eqs : List TypeId := [69]
/-- The variables that are laid: the methods, ErrRange, the powers of ten. -/
def methodCells : List SV := [
  .str [71, 69, 84], .bool (.l true), .bool (.l true), .bool (.l true),
  .str [72, 69, 65, 68], .bool (.l true), .bool (.l true), .bool (.l true),
  .str [79, 80, 84, 73, 79, 78, 83], .bool (.l true), .bool (.l true), .bool (.l false),
  .str [84, 82, 65, 67, 69], .bool (.l true), .bool (.l true), .bool (.l true),
  .str [80, 85, 84], .bool (.l false), .bool (.l true), .bool (.l false),
  .str [68, 69, 76, 69, 84, 69], .bool (.l false), .bool (.l true), .bool (.l false)]
def errRow (_ : Nat) : List SV := [.ifc (.l false)]
def powRow (i : Nat) : List SV := [.int .u64 (.a (Go.Lib.pow10Tab.getD i 0))]
def gl : List (Nat × SV) := [(0, .rptr methodCells), (5, .rarr 1 1 errRow), (6, .rarr 20 1 powRow)]
theorem fnOk_nil {f : Go.FuncId} {sp : FSpec} (h : FnOk Tryz.prog [] f sp) : FnOk Tryz.prog gl f sp :=
  ⟨h.1, fun xs ls K hs => let ⟨r, ls', hk, hc⟩ := h.2 xs ls K hs; ⟨r, ls', hk, fun B E w vals a b c d _ => hc B E w vals a b c d (fun _ _ hh => nomatch hh)⟩⟩
theorem tt_ok : ttB Tryz.prog tt = true := by kernel_rfl
theorem mixed : Tryz.prog.follows .mixedOrders = true := by kernel_rfl
theorem cxOk {tab : List (Nat × FSpec)} {gl : List (Nat × SV)} {gh : List (Nat × List Gh)} {its : List (Nat × (FSpec → FSpec))} {yl : List FSpec} : CxOk Tryz.prog ⟨dn, tt, tab, gl, eqs, gh, its, yl⟩ := by
  refine ⟨rfl, tt_ok, fun t ht => ?_⟩
  simp only [eqs, List.mem_cons, List.mem_nil_iff, or_false] at ht
  rcases ht with rfl
  all_goals
    refine ⟨?_, ?_, ?_⟩
    · kernel_rfl
    · kernel_rfl
    · decide
/-- With arrays. -/
end Go.Proofs.YtefelnhpfdcleaaGreatDoor
namespace Go.Proofs.YtefelnhpfdcleaaGreatDoor
open Go.Sx
set_option maxRecDepth 10000
set_option maxHeartbeats 2000000
def kindsL : List UInt8 := [48, 48, 48, 48, 48, 48, 48, 48, 48, 50, 48, 48, 48, 48, 48, 48, 48, 48, 48, 48, 48, 48, 48, 48, 48, 48, 48, 48, 48, 48, 48, 48, 50, 51, 49, 51, 51, 51, 51, 51, 49, 49, 51, 51, 49, 51, 51, 49, 51, 51, 51, 51, 51, 51, 51, 51, 51, 51, 49, 49, 49, 49, 49, 49, 49, 51, 51, 51, 51, 51, 51, 51, 51, 51, 51, 51, 51, 51, 51, 51, 51, 51, 51, 51, 51, 51, 51, 51, 51, 51, 51, 49, 49, 49, 51, 51, 51, 51, 51, 51, 51, 51, 51, 51, 51, 51, 51, 51, 51, 51, 51, 51, 51, 51, 51, 51, 51, 51, 51, 51, 51, 51, 51, 49, 51, 49, 51, 48]
def kindI (c : Int) : Int := if 128 ≤ c then 0 else ((kindsL.getD c.toNat 48).toNat : Int) - 48
def spKind : FSpec := fun _ xs ls K => ∃ (c : Int), xs = [.int .u8 (.a c)] ∧ ls = [] ∧ (0 ≤ c ∧ c ≤ 255) ∧ ∀ r, r = kindI c → K (.int .i64 (.a r)) []
theorem kindsL_ok : ∀ i : Fin 128, 48 ≤ (kindsL.getD i.1 0).toNat ∧ (kindsL.getD i.1 0).toNat ≤ 51 ∧ kindsL.getD i.1 0 = kindsL.getD i.1 48 := by decide
theorem wrap8 {n : Int} (h1 : 0 ≤ n) (h2 : n ≤ 255) : IntKind.u8.wrap n = n := IntWalk.u8_in _ ⟨by omega, by omega⟩
theorem kind_ok : FnOk Tryz.prog gl 88 spKind := by
  refine fnOk (gh := []) mixed cxOk tabNil Tryz.func88 (by kernel_rfl) (by kernel_rfl) ?_
  intro xs ls K h
  unfold spKind at h
  obtain ⟨c, rfl, rfl, hb, h⟩ := h
  obtain ⟨k, hk⟩ : ∃ k, k = kindI c := ⟨_, rfl⟩
  refine ⟨_, _, h k hk, fun D hD => ?_⟩
  clear h
  have w : IntKind.i64.wrap c = c := wrap64 (by omega) (by omega)
  cbv
  refine br hD (fun h => ?_) (fun h => ?_) <;> cbv
  · refine finInt hD ?_
    simp [w] at h
    rw [hk, kindI, if_pos h]
    rfl
  · have hc : c < 128 := by simp [BT.den, cmpDen, ST.den, w] at h; omega
    clear h
    refine ⟨by subst hD; exact ⟨hb.1, hc⟩, fun c' hc' => ?_⟩
    cbv
    refine finInt hD ?_
    have e1 : c' = ((kindsL.getD c.toNat 0).toNat : Int) := by subst hD; exact hc'.h
    obtain ⟨t1, t2, t3⟩ := kindsL_ok ⟨c.toNat, by omega⟩
    simp only at t1 t2 t3
    show IntKind.i64.wrap (IntKind.u8.wrap (c' - 48)) = k
    rw [wrap8 (by omega) (by omega), wrap64 (by omega) (by omega), hk, kindI, if_neg (by omega), ← t3, e1]
def plainI (c : Int) : Bool := c == 9 || (decide (32 ≤ c) && decide (c ≤ 126))
structure CharAt (c : Int) (s : List UInt8) (i : Nat) : Prop where
  h : c = ((s.getD i 0).toNat : Int)
theorem isJ {D : Dn} (hD : D = dn) {j : Nat} {I : Int} (h : IsJ j (D.i (.a I))) : (j : Int) = I := by subst hD; exact h.h
structure TokI (s : List UInt8) (i : Nat) (I L : Int) (m : Nat) : Prop where
  L : L = s.length
  le : i ≤ s.length
  I : I = i
  all : ∀ j : Nat, j < i → kindI ((s.getD j 0).toNat : Int) = 3
  m : m = s.length - i
def tokenF (s : List UInt8) : Bool := (s.all fun c => kindI (c.toNat : Int) == 3) && (decide (0 < s.length) && decide (s.length ≤ 64))
theorem tokenF_no {s : List UInt8} {j : Nat} (hj : j < s.length) (h : kindI ((s.getD j 0).toNat : Int) ≠ 3) : tokenF s = false := by
  unfold tokenF
  rw [Bool.and_eq_false_iff]
  left
  rw [List.all_eq_false]
  refine ⟨s[j], List.getElem_mem hj, ?_⟩
  rw [List.getD_eq_getElem?_getD, List.getElem?_eq_getElem hj] at h
  simpa using h
theorem tokenF_yes {s : List UInt8} (h : ∀ j : Nat, j < s.length → kindI ((s.getD j 0).toNat : Int) = 3) : tokenF s = (decide (0 < s.length) && decide (s.length ≤ 64)) := by
  unfold tokenF
  have : (s.all fun c => kindI (c.toNat : Int) == 3) = true := by
    rw [List.all_eq_true]
    intro c hc
    obtain ⟨j, hj, rfl⟩ := List.mem_iff_getElem.1 hc
    have := h j hj
    rw [List.getD_eq_getElem?_getD, List.getElem?_eq_getElem hj] at this
    simpa using this
  rw [this]; simp
def spToken : FSpec := fun _ xs ls K => ∃ (s : List UInt8), xs = [.str s] ∧ ls = [] ∧ s.length ≤ 9223372036854775807 ∧ ∀ r, r = tokenF s → K (.bool (.a r)) []
def tokJ (s : List UInt8) (f : Nat → List SV) (m : Nat) (vs : List (Option SV)) (hp : List Hl) : Prop :=
  ∃ (i : Nat) (I L : Int), vs = [some (.str s), some (.sl (.a false) (.a L) 1 f), some (.int .i64 (.a L)), some (.int .i64 (.a I))] ∧ hp = [] ∧ TokI s i I L m
theorem token_ok : FnOk Tryz.prog gl 47 spToken := by
  refine fnOk (gh := []) mixed cxOk (tabCons kind_ok tabNil) Tryz.func47 (by kernel_rfl) (by kernel_rfl) ?_
  intro xs ls K h
  unfold spToken at h
  obtain ⟨s, rfl, rfl, hl, h⟩ := h
  obtain ⟨k, hk⟩ : ∃ k, k = tokenF s := ⟨_, rfl⟩
  refine ⟨_, _, h k hk, fun D hD => ?_⟩
  clear h
  cbv
  refine ⟨⟨hl⟩, fun f hf => ?_⟩
  cbv
  obtain ⟨J, hJ⟩ : ∃ J, J = tokJ s f := ⟨_, rfl⟩
  refine ⟨[0, 6, 7, 8], J, ⟨rfl, s.length, ?_⟩, ?_⟩
  · rw [hJ]
    subst hD
    exact ⟨0, 0, _, rfl, rfl, ⟨rfl, Nat.zero_le _, rfl, by omega, rfl⟩⟩
  intro m vs hp hv
  rw [hJ] at hv
  unfold tokJ at hv
  obtain ⟨i, I, L, rfl, rfl, V⟩ := hv
  cbv
  refine br hD (fun h => ?_) (fun h => ?_) <;> cbv
  · have hlt : i < s.length := by simp at h; have := V.I; have := V.L; omega
    clear h
    refine ⟨?_, fun j hj => ?_⟩
    · have := V.I; have := V.L; subst hD; exact ⟨by simp [dn]; omega, by simp [dn]; omega⟩
    have hji : j = i := by have := isJ hD hj; have := V.I; omega
    obtain ⟨c, hc⟩ : ∃ c : Int, c = ((s.getD i 0).toNat : Int) := ⟨_, rfl⟩
    have hb : 0 ≤ c ∧ c ≤ 255 := by have := (s.getD i 0).toNat_lt; omega
    have hfj : f i = [.int .u8 (.a c)] := by rw [hf.h, hc]; rfl
    have hc : CharAt c s i := ⟨hc⟩
    subst hji
    clear hj
    cbv
    rw [hfj]
    cbv
    refine ⟨_, rfl, rfl, by subst hD; exact hb, fun r hr => ?_⟩
    have hr : r = kindI c := by subst hD; exact hr
    cbv
    refine br hD (fun h => ?_) (fun h => ?_) <;> cbv
    · refine finBool hD ?_
      have : r ≠ 3 := by simpa [BT.den, cmpDen, ST.den] using h
      rw [hk, tokenF_no hlt (by rw [← hc.h, ← hr]; exact this)]
      rfl
    · have h3 : r = 3 := by simpa [BT.den, cmpDen, ST.den] using h
      refine ⟨s.length - (j + 1), by have := V.m; omega, ?_⟩
      rw [hJ]
      subst hD
      have hI := V.I
      refine ⟨j + 1, _, _, rfl, rfl, ⟨V.L, by omega, ?_, fun q hq => ?_, rfl⟩⟩
      · simp [dn]
        rw [wrap64 (by omega) (by omega)]
        omega
      · by_cases hqj : q = j
        · subst hqj
          rw [← hc.h]
          exact hr.symm.trans h3
        · exact V.all q (by omega)
  · have hi : i = s.length := by simp at h; have := V.I; have := V.L; have := V.le; omega
    clear h
    have hy := tokenF_yes (s := s) (fun j hj => V.all j (by omega))
    refine finBool hD ?_
    rw [hk, hy]
    show (decide ((0 : Int) < (s.length : Int)) && decide ((s.length : Int) ≤ 64)) = _
    congr 1 <;> exact decide_eq_decide.2 (by omega)
end Go.Proofs.YtefelnhpfdcleaaGreatDoor
namespace Go.Proofs.YtefelnhpfdcleaaGreatDoor
open Go.Sx
set_option maxRecDepth 10000
set_option maxHeartbeats 2000000
/-- A predicate of bytes. -/
def anyB (p : Int → Bool) (s : List UInt8) : Bool := s.any fun c => p (c.toNat : Int)
structure IdxI (p : Int → Bool) (s : List UInt8) (i : Nat) (I L : Int) (m : Nat) : Prop where
  L : L = s.length
  le : i ≤ s.length
  I : I = i
  all : ∀ j : Nat, j < i → p ((s.getD j 0).toNat : Int) = false
  m : m = s.length - i
theorem getD_lt {s : List UInt8} {j : Nat} (hj : j < s.length) : s.getD j 0 = s[j] := by
  rw [List.getD_eq_getElem?_getD, List.getElem?_eq_getElem hj]
  rfl
structure RowB (f : Nat → List SV) (n : Int) (s : List UInt8) : Prop where
  n : n = s.length
  f : f = byteRow s
  len : s.length ≤ 9223372036854775807
end Go.Proofs.YtefelnhpfdcleaaGreatDoor
namespace Go.Proofs.YtefelnhpfdcleaaGreatDoor
open Go.Sx
set_option maxRecDepth 10000
set_option maxHeartbeats 2000000
end Go.Proofs.YtefelnhpfdcleaaGreatDoor
namespace Go.Proofs.YtefelnhpfdcleaaGreatDoor
open Go.Sx
set_option maxRecDepth 10000
set_option maxHeartbeats 2000000
structure AllI (p : Int → Bool) (s : List UInt8) (i : Nat) (I : Int) (m : Nat) : Prop where
  le : i ≤ s.length
  I : I = i
  all : ∀ j : Nat, j < i → p ((s.getD j 0).toNat : Int) = true
  m : m = s.length - i
  len : s.length ≤ 9223372036854775807
theorem charOf {D : Dn} (hD : D = dn) {c I : Int} {s : List UInt8} {i : Nat} (hI : I = i) (h : ByteOf c s (D.i (.a I))) : CharAt c s i := by
  subst hD
  refine ⟨?_⟩
  have h := h.h
  show c = _
  rw [h]
  show (((s.getD I.toNat 0).toNat : Nat) : Int) = _
  rw [hI, Int.toNat_natCast]
theorem CharAt.le {c : Int} {s : List UInt8} {i : Nat} (h : CharAt c s i) : 0 ≤ c ∧ c ≤ 255 := by
  have h1 := h.h
  have := (s.getD i 0).toNat_lt
  omega
end Go.Proofs.YtefelnhpfdcleaaGreatDoor
namespace Go.Proofs.YtefelnhpfdcleaaGreatDoor
open Go.Sx
set_option maxRecDepth 10000
set_option maxHeartbeats 2000000
/-! ### a place in a string -/
structure At (s : List UInt8) (i : Nat) (I : Int) (m : Nat) : Prop where
  le : i ≤ s.length
  I : I = i
  m : m = s.length - i
  len : s.length ≤ 9223372036854775807
theorem At.zero {s : List UInt8} (h : s.length ≤ 9223372036854775807) : At s 0 0 s.length := ⟨Nat.zero_le _, rfl, by omega, h⟩
theorem drop_at {s : List UInt8} {i : Nat} (h : i < s.length) : s.drop i = s.getD i 0 :: s.drop (i + 1) := by
  rw [getD_lt h]; exact List.drop_eq_getElem_cons h
theorem At.lt {s : List UInt8} {i : Nat} {I : Int} {m : Nat} (V : At s i I m) (h : I < (s.length : Int)) : i < s.length := by have := V.I; omega
theorem At.eq {s : List UInt8} {i : Nat} {I : Int} {m : Nat} (V : At s i I m) (h : ¬ I < (s.length : Int)) : i = s.length := by have := V.I; have := V.le; omega
theorem At.inS {D : Dn} (hD : D = dn) {s : List UInt8} {i : Nat} {I : Int} {m : Nat} (V : At s i I m) (h : i < s.length) : InS (D.i (.a I)) s := by
  have := V.I; subst hD; exact ⟨by show 0 ≤ I; omega, by show I < s.length; omega⟩
/-- One further. -/
theorem At.step {D : Dn} (hD : D = dn) {s : List UInt8} {i : Nat} {I : Int} {m : Nat} (V : At s i I m) (h : i < s.length) : s.length - (i + 1) < m ∧ At s (i + 1) (D.i (.bin .add .i64 (.a I) (.l 1))) (s.length - (i + 1)) := by
  have h1 := V.I; have h2 := V.len; have h3 := V.m
  subst hD
  refine ⟨by omega, by omega, ?_, rfl, h2⟩
  show IntKind.i64.wrap (I + 1) = _
  rw [wrap64 (by omega) (by omega)]; omega
theorem CharAt.of {c : Int} {s : List UInt8} {i : Nat} (h : CharAt c s i) : ((s.getD i 0).toNat : Int) = c := h.h.symm
def lettersL : List UInt8 := [33, 35, 36, 37, 38, 39, 42, 43, 45, 46, 94, 95, 96, 124, 126]
def rangeI (c : Int) : Bool := ((decide (97 ≤ c) && decide (c ≤ 122)) || (decide (65 ≤ c) && decide (c ≤ 90))) || (decide (48 ≤ c) && decide (c ≤ 57))
def letterI (c : Int) : Bool := rangeI c || anyB (fun x => x == c) lettersL
end Go.Proofs.YtefelnhpfdcleaaGreatDoor
namespace Go.Proofs.YtefelnhpfdcleaaGreatDoor
open Go.Sx
set_option maxRecDepth 10000
set_option maxHeartbeats 2000000
/-- A row of strings. -/
structure RowS (f : Nat → List SV) (n : Int) (a : List (List UInt8)) : Prop where
  n : n = a.length
  f : ∀ i, i < a.length → f i = [.str (a.getD i [])]
  len : a.length ≤ 9223372036854775807
structure AtR {α : Type} (s : List α) (i : Nat) (I : Int) (m : Nat) : Prop where
  le : i ≤ s.length
  I : I = i
  m : m = s.length - i
  len : s.length ≤ 9223372036854775807
theorem AtR.zero {α : Type} {s : List α} (h : s.length ≤ 9223372036854775807) : AtR s 0 0 s.length := ⟨Nat.zero_le _, rfl, by omega, h⟩
theorem AtR.lt {α : Type} {s : List α} {i : Nat} {I n : Int} {m : Nat} (V : AtR s i I m) (hn : n = s.length) (h : I < n) : i < s.length := by have := V.I; omega
theorem AtR.eq {α : Type} {s : List α} {i : Nat} {I n : Int} {m : Nat} (V : AtR s i I m) (hn : n = s.length) (h : ¬ I < n) : i = s.length := by have := V.I; have := V.le; omega
theorem AtR.inB {D : Dn} (hD : D = dn) {α : Type} {s : List α} {i : Nat} {I n : Int} {m : Nat} (V : AtR s i I m) (hn : n = s.length) (h : i < s.length) : InB (D.i (.a I)) (D.i (.a n)) := by
  have := V.I; subst hD; exact ⟨by show 0 ≤ I; omega, by show I < n; omega⟩
theorem AtR.step {D : Dn} (hD : D = dn) {α : Type} {s : List α} {i : Nat} {I : Int} {m : Nat} (V : AtR s i I m) (h : i < s.length) : s.length - (i + 1) < m ∧ AtR s (i + 1) (D.i (.bin .add .i64 (.a I) (.l 1))) (s.length - (i + 1)) := by
  have h1 := V.I; have h2 := V.len; have h3 := V.m
  subst hD
  refine ⟨by omega, by omega, ?_, rfl, h2⟩
  show IntKind.i64.wrap (I + 1) = _
  rw [wrap64 (by omega) (by omega)]; omega
theorem AtR.j {D : Dn} (hD : D = dn) {α : Type} {s : List α} {i j : Nat} {I : Int} {m : Nat} (V : AtR s i I m) (h : IsJ j (D.i (.a I))) : j = i := by
  have := isJ hD h; have := V.I; omega
theorem dropR {α : Type} {s : List α} {i : Nat} {d : α} (h : i < s.length) : s.drop i = s.getD i d :: s.drop (i + 1) := by
  rw [List.drop_eq_getElem_cons h, List.getD_eq_getElem?_getD, List.getElem?_eq_getElem h]; rfl
end Go.Proofs.YtefelnhpfdcleaaGreatDoor
namespace Go.Proofs.YtefelnhpfdcleaaGreatDoor
open Go.Sx
set_option maxRecDepth 10000
set_option maxHeartbeats 2000000
def foldI (c : Int) : Int := if 65 ≤ c ∧ c ≤ 90 then c + 32 else c
def foldB (b : UInt8) : UInt8 := if 65 ≤ b.toNat ∧ b.toNat ≤ 90 then b + 32 else b
def foldF (s : List UInt8) : List UInt8 := s.map foldB
theorem foldB_nat (b : UInt8) : ((foldB b).toNat : Int) = foldI (b.toNat : Int) := by
  unfold foldB foldI
  have := b.toNat_lt
  by_cases h : 65 ≤ b.toNat ∧ b.toNat ≤ 90
  · rw [if_pos h, if_pos (by omega)]
    rw [UInt8.toNat_add]
    simp; omega
  · rw [if_neg h, if_neg (by omega)]
structure FoldI (s : List UInt8) (f : Nat → List SV) (i : Nat) (L : Int) : Prop where
  L : L = s.length
  f : ∀ j, f j = [.int .u8 (.a (if j < i then foldI ((s.getD j 0).toNat : Int) else ((s.getD j 0).toNat : Int)))]
theorem FoldI.zero {s : List UInt8} {f : Nat → List SV} (h : f = byteRow s) : FoldI s f 0 s.length := by
  refine ⟨rfl, fun j => ?_⟩
  rw [h]; simp [byteRow]
theorem FoldI.same {s : List UInt8} {f : Nat → List SV} {i : Nat} {L : Int} (V : FoldI s f i L) (h : ¬ (65 ≤ ((s.getD i 0).toNat : Int) ∧ ((s.getD i 0).toNat : Int) ≤ 90)) : FoldI s f (i + 1) L := by
  refine ⟨V.L, fun j => ?_⟩
  rw [V.f j]
  by_cases e : j = i
  · subst e
    rw [if_neg (Nat.lt_irrefl _), if_pos (Nat.lt_succ_self _), foldI, if_neg h]
  · have : (j < i) = (j < i + 1) := by simp; omega
    simp only [this]
theorem FoldI.set {s : List UInt8} {f f' : Nat → List SV} {i : Nat} {L v : Int} (V : FoldI s f i L) (h : SetAt f' f i [.int .u8 (.a v)]) (hv : v = foldI ((s.getD i 0).toNat : Int)) : FoldI s f' (i + 1) L := by
  refine ⟨V.L, fun j => ?_⟩
  by_cases e : j = i
  · subst e
    rw [h.at_, if_pos (Nat.lt_succ_self _), hv]
  · rw [h.other j e, V.f j]
    have : (j < i) = (j < i + 1) := by simp; omega
    simp only [this]
theorem FoldI.byteRow {s : List UInt8} {f : Nat → List SV} {i : Nat} {L : Int} (V : FoldI s f i L) : ByteRow L f := by
  refine ⟨by have := V.L; omega, fun j _ => ⟨_, V.f j, ?_⟩⟩
  show 0 ≤ (if j < i then foldI ((s.getD j 0).toNat : Int) else ((s.getD j 0).toNat : Int)) ∧ (if j < i then foldI ((s.getD j 0).toNat : Int) else ((s.getD j 0).toNat : Int)) < 256
  have := (s.getD j 0).toNat_lt
  unfold foldI
  split
  · split <;> omega
  · omega
theorem FoldI.str {s r : List UInt8} {f : Nat → List SV} {i : Nat} {L : Int} (V : FoldI s f i L) (hi : i = s.length) (h : StrRow r L f) : r = foldF s := by
  have hl : r.length = s.length := by have := h.len; have := V.L; omega
  refine List.ext_getElem (by simp [foldF, hl]) fun j h1 h2 => ?_
  have hj : j < s.length := by omega
  have := h.row j _ (by rw [V.L]; omega) (V.f j)
  rw [if_pos (by omega), getD_lt h1, getD_lt hj] at this
  simp only [foldF, List.getElem_map]
  refine UInt8.toNat_inj.1 ?_
  have e2 := foldB_nat s[j]
  have e3 : ((r[j].toNat : Nat) : Int) = foldI (s[j].toNat : Int) := this
  omega
def spFold : FSpec := fun _ xs ls K => ∃ (s : List UInt8), xs = [.str s] ∧ ls = [] ∧ s.length ≤ 9223372036854775807 ∧ ∀ r, r = foldF s → K (.str r) []
theorem up8 : ∀ n : Fin 26, binDen .or .u8 (65 + (n.1 : Int)) 32 = 65 + (n.1 : Int) + 32 := by decide
theorem or8 {c : Int} (h1 : 65 ≤ c) (h2 : c ≤ 90) : binDen .or .u8 c 32 = c + 32 := by
  have := up8 ⟨(c - 65).toNat, by omega⟩
  have e : 65 + (((c - 65).toNat : Nat) : Int) = c := by omega
  simp only [e] at this
  exact this
theorem and_false {c : Int} (h : (decide (65 ≤ c) && decide (c ≤ 90)) = false) : ¬ (65 ≤ c ∧ c ≤ 90) := by simpa using h
def foldJ (s : List UInt8) (m : Nat) (vs : List (Option SV)) (hp : List Hl) : Prop :=
  ∃ (i : Nat) (I L : Int) (nl : Bool) (f : Nat → List SV), vs = [some (.osl (.a nl) (.a L) 0), some (.osl (.a nl) (.a L) 0), some (.int .i64 (.a L)), some (.int .i64 (.a I))] ∧ hp = [.own 5 (.a L) 1 false f] ∧ At s i I m ∧ FoldI s f i L
theorem fold_ok : FnOk Tryz.prog gl 48 spFold := by
  refine fnOk (gh := [(999983, [])]) mixed cxOk tabNil Tryz.func48 (by kernel_rfl) (by kernel_rfl) ?_
  intro xs ls K h
  unfold spFold at h
  obtain ⟨s, rfl, rfl, hl, h⟩ := h
  obtain ⟨k, hk⟩ : ∃ k, k = foldF s := ⟨_, rfl⟩
  refine ⟨_, _, h k hk, fun D hD => ?_⟩
  clear h
  cbv
  refine ⟨⟨hl⟩, fun f hf => ?_⟩
  cbv
  obtain ⟨J, hJ⟩ : ∃ J, J = foldJ s := ⟨_, rfl⟩
  refine ⟨[3, 8, 9, 10], J, ⟨rfl, s.length, ?_⟩, ?_⟩
  · rw [hJ]
    subst hD
    exact ⟨0, 0, _, _, f, rfl, rfl, At.zero hl, FoldI.zero hf.h⟩
  clear hf
  intro m vs hp' hv
  rw [hJ] at hv
  unfold foldJ at hv
  obtain ⟨i, I, L, nl, f, rfl, rfl, V, F⟩ := hv
  cbv
  refine br hD (fun h => ?_) (fun h => ?_) <;> cbv
  · have hlt := V.lt (by have h := of_decide_eq_true (p := I < L) h; have := F.L; omega)
    clear h
    refine ⟨⟨rfl⟩, ?_, fun j hj => ?_⟩
    · have := V.I; have := F.L; subst hD; exact ⟨by show 0 ≤ I; omega, by show I < L; omega⟩
    have hji : j = i := by have := isJ hD hj; have := V.I; omega
    subst hji
    clear hj
    obtain ⟨c, hc⟩ : ∃ c : Int, c = ((s.getD j 0).toNat : Int) := ⟨_, rfl⟩
    have hfj : f j = [.int .u8 (.a c)] := by rw [F.f j, if_neg (Nat.lt_irrefl _), hc]
    have hc : CharAt c s j := ⟨hc⟩
    have hb := hc.le
    cbv
    refine ⟨⟨rfl⟩, ?_, ?_⟩
    · have := V.I; have := F.L; subst hD; exact ⟨by show (j : Int) < L; omega⟩
    rw [hfj]
    cbv
    refine br hD (fun h => ?_) (fun h => ?_) <;> cbv
    · have hcc : 65 ≤ c ∧ c ≤ 90 := by
        have h : (decide (65 ≤ c) && decide (c ≤ 90)) = true := h
        simpa using h
      clear h
      refine ⟨⟨rfl⟩, ?_, fun j3 hj3 => ?_⟩
      · have := V.I; have := F.L; subst hD; exact ⟨by show 0 ≤ I; omega, by show I < L; omega⟩
      have hj3' : j3 = j := by have := isJ hD hj3; have := V.I; omega
      clear hj3
      subst hj3'
      cbv
      refine ⟨⟨rfl⟩, ?_, ?_⟩
      · have := V.I; have := F.L; subst hD; exact ⟨by show (j3 : Int) < L; omega⟩
      rw [hfj]
      cbv
      intro f' hf'
      cbv
      refine ⟨_, (V.step hD hlt).1, ?_⟩
      rw [hJ]
      subst hD
      refine ⟨j3 + 1, _, _, _, f', rfl, rfl, (V.step rfl hlt).2, F.set hf' ?_⟩
      rw [hc.of, foldI, if_pos hcc]
      exact or8 hcc.1 hcc.2
    · have hn : ¬ (65 ≤ ((s.getD j 0).toNat : Int) ∧ ((s.getD j 0).toNat : Int) ≤ 90) := by
        rw [hc.of]
        exact and_false h
      refine ⟨_, (V.step hD hlt).1, ?_⟩
      rw [hJ]
      subst hD
      exact ⟨j + 1, _, _, _, f, rfl, rfl, (V.step rfl hlt).2, F.same hn⟩
  · have hi := V.eq (fun h' => by have h := of_decide_eq_false (p := I < L) h; have := F.L; omega)
    clear h
    refine ⟨⟨rfl⟩, by subst hD; exact F.byteRow, fun r hr => ?_⟩
    cbv
    have hr2 : r = k := by subst hD; rw [hk]; exact F.str hi hr
    rw [hr2]
    exact finV (LeV.refl _)
end Go.Proofs.YtefelnhpfdcleaaGreatDoor
namespace Go.Proofs.YtefelnhpfdcleaaGreatDoor
open Go.Sx
set_option maxRecDepth 10000
set_option maxHeartbeats 2000000
/-- What stands behind an opening quote: how many bytes, the closing one with them, and the text. -/
def qdF (p : Int → Bool) : List UInt8 → Option (Nat × List UInt8)
  | [] => none
  | c :: r =>
    if !p (c.toNat : Int) then none
    else if (c.toNat : Int) = 34 then some (1, [])
    else if (c.toNat : Int) = 92 then (match r with
      | [] => none
      | d :: r' => if !p (d.toNat : Int) then none else (qdF p r').map fun x => (x.1 + 2, d :: x.2))
    else (qdF p r).map fun x => (x.1 + 1, c :: x.2)
def charI (s : List UInt8) (i : Nat) : Int := ((s.getD i 0).toNat : Int)
theorem qdF_cons (p : Int → Bool) (c : UInt8) (r : List UInt8) : qdF p (c :: r) = (if !p (c.toNat : Int) then none
    else if (c.toNat : Int) = 34 then some (1, [])
    else if (c.toNat : Int) = 92 then (match r with
      | [] => none
      | d :: r' => if !p (d.toNat : Int) then none else (qdF p r').map fun x => (x.1 + 2, d :: x.2))
    else (qdF p r).map fun x => (x.1 + 1, c :: x.2)) := by rw [qdF.eq_def]
theorem qdF_bad {p : Int → Bool} {s : List UInt8} {i : Nat} (h : i < s.length) (hb : p (charI s i) = false) : qdF p (s.drop i) = none := by
  rw [drop_at h, qdF_cons]
  unfold charI at hb
  rw [hb]; rfl
theorem qdF_end {p : Int → Bool} {s : List UInt8} {i : Nat} (h : s.length ≤ i) : qdF p (s.drop i) = none := by
  rw [List.drop_eq_nil_of_le h]; rfl
theorem qdF_quote {p : Int → Bool} {s : List UInt8} {i : Nat} (h : i < s.length) (hb : p (charI s i) = true) (hq : charI s i = 34) : qdF p (s.drop i) = some (1, []) := by
  rw [drop_at h, qdF_cons]
  unfold charI at hb hq
  rw [hb, if_neg (by simp), if_pos hq]
theorem qdF_esc {p : Int → Bool} {s : List UInt8} {i : Nat} (h : i < s.length) (hb : p (charI s i) = true) (hq : charI s i = 92) (h2 : i + 1 < s.length) (hb2 : p (charI s (i + 1)) = true) : qdF p (s.drop i) = (qdF p (s.drop (i + 2))).map fun x => (x.1 + 2, s.getD (i + 1) 0 :: x.2) := by
  rw [drop_at h, drop_at h2, qdF_cons]
  unfold charI at hb hq hb2
  rw [hb, if_neg (by simp), if_neg (by omega), if_pos hq]
  simp only
  rw [hb2]
  simp
theorem qdF_esc0 {p : Int → Bool} {s : List UInt8} {i : Nat} (h : i < s.length) (hb : p (charI s i) = true) (hq : charI s i = 92) (h2 : ¬ (i + 1 < s.length ∧ p (charI s (i + 1)) = true)) : qdF p (s.drop i) = none := by
  by_cases h3 : i + 1 < s.length
  · have hb2 : p (charI s (i + 1)) = false := by simpa [h3] using h2
    rw [drop_at h, drop_at h3, qdF_cons]
    unfold charI at hb hq hb2
    rw [hb, if_neg (by simp), if_neg (by omega), if_pos hq]
    simp only
    rw [hb2]
    simp
  · rw [drop_at h, List.drop_eq_nil_of_le (by omega), qdF_cons]
    unfold charI at hb hq
    rw [hb, if_neg (by simp), if_neg (by omega), if_pos hq]
theorem qdF_more {p : Int → Bool} {s : List UInt8} {i : Nat} (h : i < s.length) (hb : p (charI s i) = true) (hq : charI s i ≠ 34) (hq2 : charI s i ≠ 92) : qdF p (s.drop i) = (qdF p (s.drop (i + 1))).map fun x => (x.1 + 1, s.getD i 0 :: x.2) := by
  rw [drop_at h, qdF_cons]
  unfold charI at hb hq hq2
  rw [hb, if_neg (by simp), if_neg hq, if_neg hq2]
def someI (c : Int) : Bool := !(kindI c == 0)
/-- Where the quoted string ends whose bytes up to i have been read; 0: nowhere. -/
def qAt (p : Int → Bool) (s : List UInt8) (i : Nat) : Int := match qdF p (s.drop (i + 1)) with
  | none => 0
  | some x => ((i + 1 + x.1 : Nat) : Int)
def quotedF (s : List UInt8) : Int := qAt someI s 0
theorem qAt_none {p : Int → Bool} {s : List UInt8} {i : Nat} (h : qdF p (s.drop (i + 1)) = none) : qAt p s i = 0 := by rw [qAt, h]
theorem qAt_quote {p : Int → Bool} {s : List UInt8} {i : Nat} (h : i + 1 < s.length) (hb : p (charI s (i + 1)) = true) (hq : charI s (i + 1) = 34) : qAt p s i = ((i + 2 : Nat) : Int) := by
  rw [qAt, qdF_quote h hb hq]; rfl
theorem qAt_esc {p : Int → Bool} {s : List UInt8} {i : Nat} (h : i + 1 < s.length) (hb : p (charI s (i + 1)) = true) (hq : charI s (i + 1) = 92) (h2 : i + 2 < s.length) (hb2 : p (charI s (i + 2)) = true) : qAt p s i = qAt p s (i + 2) := by
  rw [qAt, qdF_esc h hb hq h2 hb2, qAt]
  cases qdF p (s.drop (i + 1 + 2)) with
  | none => rfl
  | some x => simp only [Option.map_some]; congr 1; omega
theorem qAt_more {p : Int → Bool} {s : List UInt8} {i : Nat} (h : i + 1 < s.length) (hb : p (charI s (i + 1)) = true) (hq : charI s (i + 1) ≠ 34) (hq2 : charI s (i + 1) ≠ 92) : qAt p s i = qAt p s (i + 1) := by
  rw [qAt, qdF_more h hb hq hq2, qAt]
  cases qdF p (s.drop (i + 1 + 1)) with
  | none => rfl
  | some x => simp only [Option.map_some]; congr 1; omega
structure QI (s : List UInt8) (i : Nat) (I : Int) (m : Nat) : Prop where
  I : I = i
  lt : i < s.length ∨ i = 0
  m : m = s.length - i
  len : s.length ≤ 9223372036854775807
def quotedJ (s : List UInt8) (k : Int) (m : Nat) (vs : List (Option SV)) (hp : List Hl) : Prop :=
  ∃ (i : Nat) (I : Int), vs = [some (.str s), some (.int .i64 (.a I))] ∧ hp = [] ∧ QI s i I m ∧ k = qAt someI s i
def spStrI (F : List UInt8 → Int) : FSpec := fun _ xs ls K => ∃ (s : List UInt8), xs = [.str s] ∧ ls = [] ∧ s.length ≤ 9223372036854775807 ∧ ∀ r, r = F s → K (.int .i64 (.a r)) []
noncomputable def qPre : Code := match Tryz.f193.body with
  | some (.seq a (.scope _)) => a
  | _ => .skip
noncomputable def qScope : Code := match Tryz.f193.body with
  | some (.seq _ (.scope c)) => c
  | _ => .skip
noncomputable def qRest : Code := (findLabel qScope 0).getD .skip
theorem QI.one {s : List UInt8} {i : Nat} {I : Int} {m : Nat} (V : QI s i I m) : ST.den (.bin .add .i64 (.a I) (.l 1)) = ((i + 1 : Nat) : Int) := by
  have h1 := V.I; have h2 := V.len; have h3 := V.lt
  show IntKind.i64.wrap (I + 1) = _
  rw [wrap64 (by omega) (by omega)]; omega
theorem QI.two {s : List UInt8} {i : Nat} {I : Int} {m : Nat} (V : QI s i I m) (h : i + 1 < s.length) : ST.den (.bin .add .i64 (.bin .add .i64 (.a I) (.l 1)) (.l 1)) = ((i + 2 : Nat) : Int) := by
  have h0 := V.one; have h2 := V.len
  show IntKind.i64.wrap (ST.den (.bin .add .i64 (.a I) (.l 1)) + 1) = _
  rw [h0, wrap64 (by omega) (by omega)]; omega
theorem inS_of {s : List UInt8} {i : Nat} {e : ST} (he : e.den = (i : Int)) (h : i < s.length) : InS (dn.i e) s := ⟨by show 0 ≤ e.den; omega, by show e.den < s.length; omega⟩
theorem byteAt {D : Dn} (hD : D = dn) {c : Int} {s : List UInt8} {i : Nat} {e : ST} (he : e.den = (i : Int)) (h : ByteOf c s (D.i e)) : CharAt c s i := by
  subst hD
  refine ⟨?_⟩
  have h := h.h
  have e2 : dn.i e = (i : Int) := he
  rw [e2] at h
  rw [h, Int.toNat_natCast]
theorem CharAt.charI {c : Int} {s : List UInt8} {i : Nat} (h : CharAt c s i) : c = charI s i := h.h
theorem qd_stop {c : Int} {s : List UInt8} {i : Nat} (hc : CharAt c s i) (h : (decide ((s.length : Int) ≤ ((i : Nat) : Int)) || kindI c == 0) = true) : qdF someI (s.drop i) = none := by
  by_cases hlt : i < s.length
  · refine qdF_bad hlt ?_
    rw [← hc.charI, someI]
    have : ¬ ((s.length : Int) ≤ (i : Int)) := by omega
    simp [this] at h
    simp [h]
  · exact qdF_end (by omega)
theorem qd_stop2 {c : Int} {s : List UInt8} {i : Nat} (hc : CharAt c s i) (h : (decide ((s.length : Int) ≤ ((i : Nat) : Int)) || kindI c == 0) = true) : ¬ (i < s.length ∧ someI (charI s i) = true) := by
  rintro ⟨h1, h2⟩
  rw [← hc.charI, someI] at h2
  have : ¬ ((s.length : Int) ≤ (i : Int)) := by omega
  simp [this] at h
  simp [h] at h2
theorem qd_go {c : Int} {s : List UInt8} {i : Nat} (hc : CharAt c s i) (h : (decide ((s.length : Int) ≤ ((i : Nat) : Int)) || kindI c == 0) = false) : i < s.length ∧ someI (charI s i) = true := by
  rw [← hc.charI, someI]
  simp at h
  refine ⟨by omega, ?_⟩
  simp [h.2]
theorem quoted_ok : FnOk Tryz.prog gl 193 (spStrI quotedF) := by
  refine fnOkJ (gh := []) mixed cxOk (tabCons kind_ok tabNil) Tryz.func193 (l := 0) (pre := qPre) (c := qScope) (rest := qRest) (by kernel_rfl) (by kernel_rfl) (by kernel_rfl) ?_
  intro xs ls K h
  unfold spStrI at h
  obtain ⟨s, rfl, rfl, hl, h⟩ := h
  obtain ⟨k, hk⟩ : ∃ k, k = quotedF s := ⟨_, rfl⟩
  refine ⟨_, _, h k hk, fun D hD => ?_⟩
  clear h
  rw [quotedF] at hk
  obtain ⟨J, hJ⟩ : ∃ J, J = quotedJ s k := ⟨_, rfl⟩
  refine ⟨[0, 3], J, ?_, ?_⟩
  · cbv
    have V : QI s 0 0 s.length := ⟨rfl, .inr rfl, rfl, hl⟩
    have hk2 := hk
    have hE1 : ST.den (.l 1) = ((0 + 1 : Nat) : Int) := rfl
    refine ⟨fun hg => ?_, fun c hc => ?_⟩
    · subst hD; exact inS_of hE1 (by have hg : (!decide ((s.length : Int) ≤ ST.den (.l 1))) = true := hg; rw [hE1] at hg; simp only [Bool.not_eq_true', decide_eq_false_iff_not] at hg; omega)
    have hc2 := byteAt hD hE1 hc
    clear hc
    cbv
    refine ⟨_, rfl, rfl, by subst hD; exact hc2.le, fun r hr => ?_⟩
    have hr2 : r = kindI c := by subst hD; exact hr
    clear hr
    cbv
    refine br hD (fun h => ?_) (fun h => ?_) <;> cbv
    · have h : (decide ((s.length : Int) ≤ ST.den (.l 1)) || r == 0) = true := h
      rw [hE1, hr2] at h
      refine finInt hD ?_
      rw [hk2, qAt_none (qd_stop hc2 h)]
      rfl
    have h : (decide ((s.length : Int) ≤ ST.den (.l 1)) || r == 0) = false := h
    rw [hE1, hr2] at h
    obtain ⟨hlt, hp⟩ := qd_go hc2 h
    clear h
    refine ⟨by subst hD; exact inS_of hE1 hlt, fun c' hc' => ?_⟩
    have hcc : c' = c := by have := byteAt hD hE1 hc'; rw [this.h, hc2.h]
    subst hcc
    clear hc'
    cbv
    refine br hD (fun h => ?_) (fun h => ?_) <;> cbv
    · have h34 : c' = 34 := by have h : (c' == 34) = true := h; simpa using h
      refine finInt hD ?_
      rw [hk2, qAt_quote hlt hp (by rw [← hc2.charI]; exact h34)]
      exact rfl
    have h34 : charI s (0 + 1) ≠ 34 := by rw [← hc2.charI]; have h : (c' == 34) = false := h; simpa using h
    clear h
    refine br hD (fun h => ?_) (fun h => ?_) <;> cbv
    · have h92 : charI s (0 + 1) = 92 := by rw [← hc2.charI]; have h : (c' == 92) = true := h; simpa using h
      clear h
      have hE2' : ST.den (.l 2) = ((0 + 2 : Nat) : Int) := rfl
      refine ⟨fun hg => ?_, fun d hd => ?_⟩
      · subst hD; exact inS_of hE2' (by have hg : (!decide ((s.length : Int) ≤ ST.den (.l 2))) = true := hg; rw [hE2'] at hg; simp only [Bool.not_eq_true', decide_eq_false_iff_not] at hg; omega)
      have hd2 := byteAt hD hE2' hd
      clear hd
      cbv
      refine ⟨_, rfl, rfl, by subst hD; exact hd2.le, fun q hq => ?_⟩
      have hq2 : q = kindI d := by subst hD; exact hq
      clear hq
      cbv
      refine br hD (fun h => ?_) (fun h => ?_) <;> cbv
      · have h : (decide ((s.length : Int) ≤ ST.den (.l 2)) || q == 0) = true := h
        rw [hE2', hq2] at h
        refine finInt hD ?_
        rw [hk2, qAt_none (qdF_esc0 hlt hp h92 (qd_stop2 hd2 h))]
        rfl
      have h : (decide ((s.length : Int) ≤ ST.den (.l 2)) || q == 0) = false := h
      rw [hE2', hq2] at h
      obtain ⟨hlt2, hp2⟩ := qd_go hd2 h
      refine ⟨s.length - (0 + 2), ?_⟩
      rw [hJ]
      subst hD
      exact ⟨0 + 2, _, rfl, rfl, ⟨hE2', .inl hlt2, rfl, hl⟩, by rw [hk2, qAt_esc hlt hp h92 hlt2 hp2]⟩
    · have h92 : charI s (0 + 1) ≠ 92 := by rw [← hc2.charI]; have h : (c' == 92) = false := h; simpa using h
      refine ⟨s.length - (0 + 1), ?_⟩
      rw [hJ]
      subst hD
      exact ⟨0 + 1, _, rfl, rfl, ⟨hE1, .inl hlt, rfl, hl⟩, by rw [hk2, qAt_more hlt hp h34 h92]⟩
  · intro m vs hp' hv
    rw [hJ] at hv
    unfold quotedJ at hv
    obtain ⟨i, I, hvs, hhp, V, hk2⟩ := hv
    rw [hvs, hhp]
    clear hvs hhp vs hp' hk
    cbv
    have hE1 : ST.den (.bin .add .i64 (.a I) (.l 1)) = ((i + 1 : Nat) : Int) := V.one
    refine ⟨fun hg => ?_, fun c hc => ?_⟩
    · subst hD; exact inS_of hE1 (by have hg : (!decide ((s.length : Int) ≤ ST.den (.bin .add .i64 (.a I) (.l 1)))) = true := hg; rw [hE1] at hg; simp only [Bool.not_eq_true', decide_eq_false_iff_not] at hg; omega)
    have hc2 := byteAt hD hE1 hc
    clear hc
    cbv
    refine ⟨_, rfl, rfl, by subst hD; exact hc2.le, fun r hr => ?_⟩
    have hr2 : r = kindI c := by subst hD; exact hr
    clear hr
    cbv
    refine br hD (fun h => ?_) (fun h => ?_) <;> cbv
    · have h : (decide ((s.length : Int) ≤ ST.den (.bin .add .i64 (.a I) (.l 1))) || r == 0) = true := h
      rw [hE1, hr2] at h
      refine finInt hD ?_
      rw [hk2, qAt_none (qd_stop hc2 h)]
      rfl
    have h : (decide ((s.length : Int) ≤ ST.den (.bin .add .i64 (.a I) (.l 1))) || r == 0) = false := h
    rw [hE1, hr2] at h
    obtain ⟨hlt, hp⟩ := qd_go hc2 h
    clear h
    refine ⟨by subst hD; exact inS_of hE1 hlt, fun c' hc' => ?_⟩
    have hcc : c' = c := by have := byteAt hD hE1 hc'; rw [this.h, hc2.h]
    subst hcc
    clear hc'
    cbv
    refine br hD (fun h => ?_) (fun h => ?_) <;> cbv
    · have h34 : c' = 34 := by have h : (c' == 34) = true := h; simpa using h
      refine finInt hD ?_
      rw [hk2, qAt_quote hlt hp (by rw [← hc2.charI]; exact h34)]
      exact V.two hlt
    have h34 : charI s (i + 1) ≠ 34 := by rw [← hc2.charI]; have h : (c' == 34) = false := h; simpa using h
    clear h
    refine br hD (fun h => ?_) (fun h => ?_) <;> cbv
    · have h92 : charI s (i + 1) = 92 := by rw [← hc2.charI]; have h : (c' == 92) = true := h; simpa using h
      clear h
      have hE2' : ST.den (.bin .add .i64 (.bin .add .i64 (.a I) (.l 1)) (.l 1)) = ((i + 2 : Nat) : Int) := V.two hlt
      refine ⟨fun hg => ?_, fun d hd => ?_⟩
      · subst hD; exact inS_of hE2' (by have hg : (!decide ((s.length : Int) ≤ ST.den (.bin .add .i64 (.bin .add .i64 (.a I) (.l 1)) (.l 1)))) = true := hg; rw [hE2'] at hg; simp only [Bool.not_eq_true', decide_eq_false_iff_not] at hg; omega)
      have hd2 := byteAt hD hE2' hd
      clear hd
      cbv
      refine ⟨_, rfl, rfl, by subst hD; exact hd2.le, fun q hq => ?_⟩
      have hq2 : q = kindI d := by subst hD; exact hq
      clear hq
      cbv
      refine br hD (fun h => ?_) (fun h => ?_) <;> cbv
      · have h : (decide ((s.length : Int) ≤ ST.den (.bin .add .i64 (.bin .add .i64 (.a I) (.l 1)) (.l 1))) || q == 0) = true := h
        rw [hE2', hq2] at h
        refine finInt hD ?_
        rw [hk2, qAt_none (qdF_esc0 hlt hp h92 (qd_stop2 hd2 h))]
        rfl
      have h : (decide ((s.length : Int) ≤ ST.den (.bin .add .i64 (.bin .add .i64 (.a I) (.l 1)) (.l 1))) || q == 0) = false := h
      rw [hE2', hq2] at h
      obtain ⟨hlt2, hp2⟩ := qd_go hd2 h
      refine ⟨s.length - (i + 2), by have := V.m; omega, ?_⟩
      rw [hJ]
      subst hD
      exact ⟨i + 2, _, rfl, rfl, ⟨hE2', .inl hlt2, rfl, hl⟩, by rw [hk2, qAt_esc hlt hp h92 hlt2 hp2]⟩
    · have h92 : charI s (i + 1) ≠ 92 := by rw [← hc2.charI]; have h : (c' == 92) = false := h; simpa using h
      refine ⟨s.length - (i + 1), by have := V.m; omega, ?_⟩
      rw [hJ]
      subst hD
      exact ⟨i + 1, _, rfl, rfl, ⟨hE1, .inl hlt, rfl, hl⟩, by rw [hk2, qAt_more hlt hp h34 h92]⟩
end Go.Proofs.YtefelnhpfdcleaaGreatDoor
namespace Go.Proofs.YtefelnhpfdcleaaGreatDoor
open Go.Sx
set_option maxRecDepth 10000
set_option maxHeartbeats 2000000
structure RqI (s t : List UInt8) (i : Nat) (I : Int) (m : Nat) : Prop where
  at_ : At s i I m
  t : t.length ≤ i
theorem At.one {s : List UInt8} {i : Nat} {I : Int} {m : Nat} (V : At s i I m) (h : i < s.length) : ST.den (.bin .add .i64 (.a I) (.l 1)) = ((i + 1 : Nat) : Int) := by
  have h1 := V.I; have h2 := V.len
  show IntKind.i64.wrap (I + 1) = _
  rw [wrap64 (by omega) (by omega)]; omega
theorem At.two {s : List UInt8} {i : Nat} {I : Int} {m : Nat} (V : At s i I m) (h : i + 1 < s.length) : ST.den (.bin .add .i64 (.bin .add .i64 (.a I) (.l 1)) (.l 1)) = ((i + 2 : Nat) : Int) := by
  have h0 := V.one (by omega); have h2 := V.len
  show IntKind.i64.wrap (ST.den (.bin .add .i64 (.a I) (.l 1)) + 1) = _
  rw [h0, wrap64 (by omega) (by omega)]; omega
theorem At.den {s : List UInt8} {i : Nat} {I : Int} {m : Nat} (V : At s i I m) : ST.den (.a I) = (i : Int) := V.I
/-- One byte as a string. -/
theorem subS_of {s : List UInt8} {i j : Nat} {a b : ST} (ha : a.den = (i : Int)) (hb : b.den = (j : Int)) (h : i ≤ j) (h2 : j ≤ s.length) : SubS (dn.i a) (dn.i b) s := ⟨by show 0 ≤ a.den; omega, by show a.den ≤ b.den; omega, by show b.den ≤ _; omega⟩
end Go.Proofs.YtefelnhpfdcleaaGreatDoor
namespace Go.Proofs.YtefelnhpfdcleaaGreatDoor
open Go.Sx
set_option maxRecDepth 10000
set_option maxHeartbeats 2000000
structure QuI (s t : List UInt8) (i : Nat) (I : Int) (m : Nat) : Prop where
  at_ : At s i I m
  t : t.length ≤ 2 * i + 1
  s : s.length ≤ 500
end Go.Proofs.YtefelnhpfdcleaaGreatDoor
namespace Go.Proofs.YtefelnhpfdcleaaGreatDoor
open Go.Sx
set_option maxRecDepth 10000
set_option maxHeartbeats 2000000
def blankI (c : Int) : Bool := c == 9 || c == 32
def blankB (c : UInt8) : Bool := blankI (c.toNat : Int)
def trimL (s : List UInt8) : List UInt8 := s.dropWhile blankB
def trimR (s : List UInt8) : List UInt8 := (s.reverse.dropWhile blankB).reverse
def trimF (s : List UInt8) : List UInt8 := trimR (trimL s)
theorem trimL_cons {c : UInt8} {r : List UInt8} (h : blankB c = true) : trimL (c :: r) = trimL r := by
  rw [trimL, List.dropWhile_cons_of_pos h]; rfl
theorem sub_of {D : Dn} (hD : D = dn) {r s : List UInt8} {i j : Nat} {a b : ST} (ha : a.den = (i : Int)) (hb : b.den = (j : Int)) (hr : SubOf r s (D.i a) (D.i b)) : r = (s.drop i).take (j - i) := by
  subst hD
  have hr := hr.h
  have e1 : dn.i a = (i : Int) := ha
  have e2 : dn.i b = (j : Int) := hb
  rw [hr, e1, e2, Int.toNat_natCast, Int.toNat_natCast]
structure TrI (s : List UInt8) (m : Nat) : Prop where
  m : m = s.length
  len : s.length ≤ 9223372036854775807
def spStrS (F : List UInt8 → List UInt8) : FSpec := fun _ xs ls K => ∃ (s : List UInt8), xs = [.str s] ∧ ls = [] ∧ s.length ≤ 9223372036854775807 ∧ ∀ r, r = F s → K (.str r) []
theorem finStr {r k : List UInt8} (h : r = k) : Fin (.str r) (.str k) [] [] := by subst h; exact finV (LeV.refl _)
end Go.Proofs.YtefelnhpfdcleaaGreatDoor
namespace Go.Proofs.YtefelnhpfdcleaaGreatDoor
open Go.Sx
set_option maxRecDepth 10000
set_option maxHeartbeats 2000000
/-- What stands between separators that are in no quoted strings. The mode: 0 outside, 1 in quotes, 2 behind a backslash. -/
def partsM (p : Int → Bool) (y : Int) : List UInt8 → Nat → List UInt8 → Option (List (List UInt8))
  | [], md, cur => if md = 0 then some [cur] else none
  | c :: r, md, cur =>
    if !p (c.toNat : Int) then none
    else if md = 0 then
      (if (c.toNat : Int) = 34 then partsM p y r 1 (cur ++ [c])
       else if (c.toNat : Int) = y then (partsM p y r 0 []).map (cur :: ·)
       else partsM p y r 0 (cur ++ [c]))
    else if md = 1 then
      (if (c.toNat : Int) = 34 then partsM p y r 0 (cur ++ [c])
       else if (c.toNat : Int) = 92 then partsM p y r 2 (cur ++ [c])
       else partsM p y r 1 (cur ++ [c]))
    else partsM p y r 1 (cur ++ [c])
theorem partsM_q (p : Int → Bool) (y : Int) : ∀ (n : Nat) (r cur : List UInt8), r.length ≤ n → partsM p y r 1 cur = match qdF p r with
    | none => none
    | some x => partsM p y (r.drop x.1) 0 (cur ++ r.take x.1)
  | n, [], cur, _ => by simp [partsM, qdF]
  | 0, c :: r, cur, h => by simp at h
  | n + 1, c :: r, cur, h => by
    simp only [List.length_cons] at h
    rw [qdF_cons]
    simp only [partsM]
    by_cases h1 : p (c.toNat : Int) = true
    · rw [h1]
      simp only [Bool.not_true, Bool.false_eq_true, if_false, if_true, Nat.one_ne_zero]
      by_cases h2 : (c.toNat : Int) = 34
      · simp only [if_pos h2, List.drop_succ_cons, List.drop_zero, List.take_succ_cons, List.take_zero]
      · simp only [if_neg h2]
        by_cases h3 : (c.toNat : Int) = 92
        · simp only [if_pos h3]
          cases r with
          | nil => simp [partsM]
          | cons d r' =>
            simp only [partsM]
            by_cases h4 : p (d.toNat : Int) = true
            · rw [h4]
              simp only [Bool.not_true, Bool.false_eq_true, if_false, (by decide : ¬ (2 : Nat) = 0), (by decide : ¬ (2 : Nat) = 1)]
              rw [partsM_q p y n r' _ (by simp at h; omega)]
              cases qdF p r' with
              | none => rfl
              | some x => simp
            · have h4 : p (d.toNat : Int) = false := by simpa using h4
              rw [h4]; simp
        · simp only [if_neg h3]
          rw [partsM_q p y n r _ (by omega)]
          cases qdF p r with
          | none => rfl
          | some x => simp
    · have h1 : p (c.toNat : Int) = false := by simpa using h1
      rw [h1]; simp
/-- The bytes from one place to another. -/
def cut (s : List UInt8) (a b : Nat) : List UInt8 := (s.drop a).take (b - a)
theorem cut_snoc {s : List UInt8} {a i : Nat} (h : i < s.length) (ha : a ≤ i) : cut s a i ++ [s.getD i 0] = cut s a (i + 1) := by
  unfold cut
  rw [show i + 1 - a = (i - a) + 1 by omega, List.take_add_one]
  congr 1
  rw [List.getElem?_drop, show a + (i - a) = i by omega, List.getElem?_eq_getElem h, getD_lt h]; rfl
theorem cut_app {s : List UInt8} {a i n : Nat} (ha : a ≤ i) : cut s a i ++ (s.drop i).take n = cut s a (i + n) := by
  unfold cut
  rw [show i + n - a = (i - a) + n by omega, List.take_add, List.drop_drop, show a + (i - a) = i by omega]
theorem cut_self {s : List UInt8} {a : Nat} : cut s a a = [] := by simp [cut]
theorem cut_all {s : List UInt8} {a : Nat} : cut s a s.length = s.drop a := by
  unfold cut; exact List.take_of_length_le (by simp)
def pAt (y : Int) (s : List UInt8) (out : List (List UInt8)) (a i : Nat) : Option (List (List UInt8)) := (partsM plainI y (s.drop i) 0 (cut s a i)).map (out ++ ·)
theorem pAt_bad {y : Int} {s : List UInt8} {out : List (List UInt8)} {a i : Nat} (h : i < s.length) (hb : plainI (charI s i) = false) : pAt y s out a i = none := by
  unfold charI at hb
  rw [pAt, drop_at h, partsM, hb]; rfl
theorem pAt_sep {y : Int} {s : List UInt8} {out : List (List UInt8)} {a i : Nat} (h : i < s.length) (hb : plainI (charI s i) = true) (h34 : charI s i ≠ 34) (hy : charI s i = y) : pAt y s out a i = pAt y s (out ++ [cut s a i]) (i + 1) (i + 1) := by
  unfold charI at hb h34 hy
  rw [pAt, pAt, drop_at h, partsM, hb, cut_self]
  simp only [Bool.not_true, Bool.false_eq_true, if_false, if_true, if_neg h34, if_pos hy]
  cases partsM plainI y (s.drop (i + 1)) 0 [] <;> simp
theorem pAt_more {y : Int} {s : List UInt8} {out : List (List UInt8)} {a i : Nat} (h : i < s.length) (ha : a ≤ i) (hb : plainI (charI s i) = true) (h34 : charI s i ≠ 34) (hy : charI s i ≠ y) : pAt y s out a i = pAt y s out a (i + 1) := by
  have e := cut_snoc h ha
  unfold charI at hb h34 hy
  rw [pAt, pAt, drop_at h, partsM, hb]
  simp only [Bool.not_true, Bool.false_eq_true, if_false, if_true, if_neg h34, if_neg hy]
  rw [e]
theorem pAt_quote {y : Int} {s : List UInt8} {out : List (List UInt8)} {a i : Nat} (h : i < s.length) (ha : a ≤ i) (hb : plainI (charI s i) = true) (h34 : charI s i = 34) : pAt y s out a i = match qdF plainI (s.drop (i + 1)) with
    | none => none
    | some x => pAt y s out a (i + 1 + x.1) := by
  have e := cut_snoc h ha
  unfold charI at hb h34
  rw [pAt, drop_at h, partsM, hb]
  simp only [Bool.not_true, Bool.false_eq_true, if_false, if_true, if_pos h34]
  rw [e, partsM_q plainI y _ _ _ (Nat.le_refl _)]
  cases qdF plainI (s.drop (i + 1)) with
  | none => rfl
  | some x =>
    simp only [pAt]
    rw [List.drop_drop, cut_app (by omega)]
theorem pAt_end {y : Int} {s : List UInt8} {out : List (List UInt8)} {a i : Nat} (h : i = s.length) : pAt y s out a i = some (out ++ [s.drop a]) := by
  rw [pAt, h, List.drop_length, cut_all]; rfl
theorem qdF_len {p : Int → Bool} : ∀ (n : Nat) (r : List UInt8) (x : Nat × List UInt8), r.length ≤ n → qdF p r = some x → 0 < x.1 ∧ x.1 ≤ r.length
  | n, [], x, _, h => by simp [qdF] at h
  | 0, c :: r, x, hl, h => by simp at hl
  | n + 1, c :: r, x, hl, h => by
    simp only [List.length_cons] at hl ⊢
    rw [qdF_cons] at h
    split at h
    · cases h
    split at h
    · cases h; exact ⟨by omega, by simp⟩
    split at h
    · cases r with
      | nil => cases h
      | cons d r' =>
        simp only at h
        split at h
        · cases h
        · obtain ⟨z, hz, rfl⟩ := Option.map_eq_some_iff.1 h
          have := qdF_len n r' z (by simp at hl; omega) hz
          simp only [List.length_cons]
          omega
    · obtain ⟨z, hz, rfl⟩ := Option.map_eq_some_iff.1 h
      have := qdF_len n r z (by omega) hz
      omega
theorem RowS.more {f f' g : Nat → List SV} {n n' : Int} {a : List (List UInt8)} {x : List UInt8} (R : RowS f n a) (hg : g 0 = [.str x]) (h : MoreRow f' n' n 1 f g) (hl : a.length < 9223372036854775807) : RowS f' n' (a ++ [x]) := by
  have h1 := R.n
  refine ⟨by rw [h.len, h1]; simp, fun i hi => ?_, by simp; omega⟩
  simp only [List.length_append, List.length_singleton] at hi
  by_cases e : i < a.length
  · rw [h.lo i (by omega), R.f i e, List.getD_eq_getElem?_getD, List.getD_eq_getElem?_getD, List.getElem?_append_left e]
  · have : i = a.length := by omega
    subst this
    rw [h.hi a.length 0 (by rw [h1]; simp) (by simp), hg]
    simp
theorem RowS.nil : RowS (fun _ => []) 0 [] := ⟨rfl, by simp, by simp⟩
/-- The row of a list of strings. -/
def strRow (l : List (List UInt8)) (i : Nat) : List SV := [.str (l.getD i [])]
theorem RowS.row {l : List (List UInt8)} (h : l.length ≤ 9223372036854775807) : RowS (strRow l) l.length l := ⟨rfl, fun _ _ => rfl, h⟩
structure PaI (s : List UInt8) (out : List (List UInt8)) (a i : Nat) (A I : Int) (m : Nat) : Prop where
  at_ : At s i I m
  ale : a ≤ i
  A : ST.den (.a A) = (a : Int)
  out : out.length ≤ i
  s : s.length ≤ 100000
def partsF (y : Int) (s : List UInt8) : Option (List (List UInt8)) := partsM plainI y s 0 []
end Go.Proofs.YtefelnhpfdcleaaGreatDoor
namespace Go.Proofs.YtefelnhpfdcleaaGreatDoor
open Go.Sx
set_option maxRecDepth 10000
set_option maxHeartbeats 2000000
theorem partsM_len (p : Int → Bool) (y : Int) : ∀ (r : List UInt8) (md : Nat) (cur : List UInt8) (l : List (List UInt8)), partsM p y r md cur = some l → l.length ≤ r.length + 1 ∧ 0 < l.length ∧ ∀ x ∈ l, x.length ≤ cur.length + r.length
  | [], md, cur, l, h => by
    simp only [partsM] at h
    split at h
    · cases h; simp
    · cases h
  | c :: r, md, cur, l, h => by
    have push : ∀ md', partsM p y r md' (cur ++ [c]) = some l → l.length ≤ (c :: r).length + 1 ∧ 0 < l.length ∧ ∀ x ∈ l, x.length ≤ cur.length + (c :: r).length := by
      intro md' h
      obtain ⟨h1, h2, h3⟩ := partsM_len p y r md' _ l h
      refine ⟨by simp; omega, h2, fun x hx => ?_⟩
      have := h3 x hx
      simp at this ⊢; omega
    simp only [partsM] at h
    split at h
    · cases h
    split at h
    · split at h
      · exact push _ h
      · split at h
        · obtain ⟨l', h', rfl⟩ := Option.map_eq_some_iff.1 h
          obtain ⟨h1, h2, h3⟩ := partsM_len p y r 0 [] l' h'
          refine ⟨by simp; omega, by simp, fun x hx => ?_⟩
          rcases List.mem_cons.1 hx with rfl | hx
          · simp
          · have := h3 x hx; simp at this ⊢; omega
        · exact push _ h
    · split at h
      · split at h
        · exact push _ h
        · split at h
          · exact push _ h
          · exact push _ h
      · exact push _ h
theorem partsF_len {y : Int} {s : List UInt8} {l : List (List UInt8)} (h : partsF y s = some l) : l.length ≤ s.length + 1 ∧ 0 < l.length ∧ ∀ x ∈ l, x.length ≤ s.length := by
  have := partsM_len _ _ _ _ _ _ h
  simpa using this
theorem dropWhile_len {p : UInt8 → Bool} (s : List UInt8) : (s.dropWhile p).length ≤ s.length := by
  induction s with
  | nil => simp
  | cons c r ih =>
    rw [List.dropWhile_cons]
    split
    · simp; omega
    · simp
theorem trimF_len (s : List UInt8) : (trimF s).length ≤ s.length := by
  unfold trimF trimR trimL
  rw [List.length_reverse]
  refine Nat.le_trans (dropWhile_len _) ?_
  rw [List.length_reverse]
  exact dropWhile_len _
def neB (x : List UInt8) : Bool := !(x == [])
def keepF (l : List (List UInt8)) : List (List UInt8) := (l.map trimF).filter neB
def refElementsF (s : List UInt8) : List (List UInt8) × Int :=
  if 2000 < (s.length : Int) then ([], 3) else match partsF 44 s with
    | none => ([], 6)
    | some l => (keepF l, 0)
theorem refElementsF_len (s : List UInt8) : (refElementsF s).1.length ≤ 2001 ∧ ∀ x ∈ (refElementsF s).1, x.length ≤ 2000 := by
  unfold refElementsF
  split
  · simp
  · rename_i h
    cases hp : partsF 44 s with
    | none => simp
    | some l =>
      obtain ⟨h1, h2, h3⟩ := partsF_len hp
      have h4 : (keepF l).length ≤ l.length := by
        unfold keepF
        refine Nat.le_trans (List.length_filter_le _ _) (by simp)
      refine ⟨by show (keepF l).length ≤ _; omega, fun x hx => ?_⟩
      have hx : x ∈ keepF l := hx
      unfold keepF at hx
      obtain ⟨z, hz, rfl⟩ := List.mem_map.1 (List.mem_filter.1 hx).1
      have := trimF_len z
      have := h3 z hz
      omega
def spElems (F : List UInt8 → List (List UInt8) × Int) (N : List UInt8 → Bool) : FSpec := fun _ xs ls K => ∃ (s : List UInt8), xs = [.str s] ∧ ls = [] ∧ s.length ≤ 9223372036854775807 ∧ ∀ l e n nb, (l, e) = F s → n = (l.length : Int) → nb = N s → K (.tup [.sl (.a nb) (.a n) 1 (strRow l), .int .i64 (.a e)]) []
theorem finEl {D : Dn} (hD : D = dn) {l l' : List (List UInt8)} {ke kn e' : Int} {knb : Bool} {kr f : Nat → List SV} (hk : (l, ke) = (l', e')) (hkn : kn = (l.length : Int)) (hkr : kr = strRow l)
    {n : Int} (R : RowS f n l') {x : BT} {y z : ST} (hy : y.den = n) (hx : x.den = knb) (hz : z.den = e') : Fin (.tup [.sl (.a (D.b x)) (.a (D.i y)) 1 f, .int .i64 (.a (D.i z))]) (.tup [.sl (.a knb) (.a kn) 1 kr, .int .i64 (.a ke)]) [] [] := by
  subst hD
  simp only [Prod.mk.injEq] at hk
  obtain ⟨rfl, rfl⟩ := hk
  refine finV (.tup (.cons (.sl hx ?_ ?_) (.cons (leInt hz) .nil)))
  · rw [hkn]; show y.den = _; rw [hy]; exact R.n
  · intro i hi
    have hi : (i : Int) < y.den := hi
    rw [R.f i (by have := R.n; omega), hkr]; rfl
structure ElI (l out : List (List UInt8)) (i : Nat) (I : Int) (nl : Bool) (m : Nat) : Prop where
  at_ : AtR l i I m
  ol : out.length ≤ i
  nl : nl = out.isEmpty
  ll : l.length ≤ 100001
  el : ∀ x ∈ l, x.length ≤ 9223372036854775807
end Go.Proofs.YtefelnhpfdcleaaGreatDoor
namespace Go.Proofs.YtefelnhpfdcleaaGreatDoor
open Go.Sx
set_option maxRecDepth 100000
set_option maxHeartbeats 2000000
/-! The program's bytes are the document's. -/
theorem kinds_eq : ∀ n : Fin 256, someI (n.1 : Int) = plainI (n.1 : Int) ∧ (kindI (n.1 : Int) == 3) = letterI (n.1 : Int) := by decide
theorem someI_byte (c : UInt8) : someI (c.toNat : Int) = plainI (c.toNat : Int) := (kinds_eq ⟨c.toNat, c.toNat_lt⟩).1
theorem qdF_congr {p q : Int → Bool} (h : ∀ c : UInt8, p (c.toNat : Int) = q (c.toNat : Int)) : ∀ (n : Nat) (r : List UInt8), r.length ≤ n → qdF p r = qdF q r
  | _, [], _ => rfl
  | 0, c :: r, hl => by simp at hl
  | n + 1, c :: r, hl => by
    simp only [List.length_cons] at hl
    rw [qdF_cons, qdF_cons, h c, qdF_congr h n r (by omega)]
    cases r with
    | nil => rfl
    | cons d r' =>
      simp only
      rw [h d, qdF_congr h n r' (by simp at hl; omega)]
theorem qdF_some (r : List UInt8) : qdF someI r = qdF plainI r := qdF_congr someI_byte _ r (Nat.le_refl _)
end Go.Proofs.YtefelnhpfdcleaaGreatDoor
namespace Go.Proofs.YtefelnhpfdcleaaGreatDoor
open Go.Sx
set_option maxRecDepth 100000
set_option maxHeartbeats 2000000
/-! Reading a quoted string whose end is the string's end. -/
structure UqL (s : List UInt8) (i : Nat) (u : List UInt8) : Prop where
  h : qdF plainI (s.drop i) = some (s.length - i, u)
theorem UqL.lt {s u : List UInt8} {i : Nat} (h : UqL s i u) : i < s.length := by
  have := qdF_len _ _ _ (Nat.le_refl _) h.h
  rw [List.length_drop] at this
  simp only at this
  omega
theorem UqL.plain {s u : List UInt8} {i : Nat} (h : UqL s i u) : plainI (charI s i) = true := by
  cases hb : plainI (charI s i) with
  | true => rfl
  | false => have := h.h; rw [qdF_bad h.lt hb] at this; cases this
theorem UqL.more {s u : List UInt8} {i : Nat} (h : UqL s i u) (hi : i + 1 < s.length) (h92 : charI s i ≠ 92) : ∃ u', u = s.getD i 0 :: u' ∧ UqL s (i + 1) u' := by
  have h1 := h.h
  by_cases h34 : charI s i = 34
  · rw [qdF_quote h.lt h.plain h34] at h1
    simp only [Option.some.injEq, Prod.mk.injEq] at h1
    omega
  · rw [qdF_more h.lt h.plain h34 h92] at h1
    obtain ⟨x, hx, hx2⟩ := Option.map_eq_some_iff.1 h1
    simp only [Prod.mk.injEq] at hx2
    have e : x = (s.length - (i + 1), x.2) := Prod.ext (by simp only; omega) rfl
    exact ⟨x.2, hx2.2.symm, ⟨by rw [hx, ← e]⟩⟩
/-- The text of a string that is quoted as a whole. -/
end Go.Proofs.YtefelnhpfdcleaaGreatDoor
namespace Go.Proofs.YtefelnhpfdcleaaGreatDoor
open Go.Sx
set_option maxRecDepth 10000
set_option maxHeartbeats 2000000
/-! Quote. -/
structure QwI (s t : List UInt8) (i : Nat) (I L : Int) (m : Nat) : Prop where
  at_ : At s i I m
  L : L = s.length
  t : t.length ≤ 2 * i + 1
  s : s.length ≤ 500
end Go.Proofs.YtefelnhpfdcleaaGreatDoor
namespace Go.Proofs.YtefelnhpfdcleaaGreatDoor
open Go.Sx
set_option maxRecDepth 10000
set_option maxHeartbeats 2000000
/-! Unquote. -/
structure UwI (s t u : List UInt8) (i : Nat) (I : Int) (m : Nat) : Prop where
  at_ : At s i I m
  u : UqL s i u
  t : t.length ≤ i
  s : s.length ≤ 100000
end Go.Proofs.YtefelnhpfdcleaaGreatDoor
namespace Go.Proofs.YtefelnhpfdcleaaGreatDoor
open Go.Sx
set_option maxRecDepth 10000
set_option maxHeartbeats 2000000
/-! ContainsFunc of Has. -/
structure IxS (l : List (List UInt8)) (i : Nat) (I L : Int) (m : Nat) : Prop where
  at_ : AtR l i I m
  L : L = l.length
end Go.Proofs.YtefelnhpfdcleaaGreatDoor
/-! What the shelf of library contracts says of this program (written by the kit's tool). -/
namespace Go.Proofs.YtefelnhpfdcleaaGreatDoor
open Go Go.Shelf Go.RowKit Go.Sort
set_option maxRecDepth 100000
set_option maxHeartbeats 4000000
def sh_lays156_ren : Go.Shelf.Ren := ⟨fun | 156 => 40 | 165 => 79 | 166 => 80 | 169 => 81 | 240 => 108 | 241 => 109 | 276 => 136 | 277 => 137 | n => n, fun | 31 => 61 | 9 => 9 | 3 => 3 | 4 => 4 | 0 => 0 | 20 => 20 | 72 => 104 | 76 => 108 | 70 => 102 | 37 => 36 | 75 => 107 | 127 => 124 | 164 => 141 | 5 => 5 | 80 => 110 | n => n, fun | n => n⟩
theorem sh_lays156 : Go.Proofs.Lays.n156 Tryz.prog sh_lays156_ren := {
  mixed := by kernel_rfl
  f156 := Tryz.func40.trans (congrArg some (by kernel_rfl))
  f165 := Tryz.func79.trans (congrArg some (by kernel_rfl))
  f166 := Tryz.func80.trans (congrArg some (by kernel_rfl))
  f169 := Tryz.func81.trans (congrArg some (by kernel_rfl))
  f240 := Tryz.func108.trans (congrArg some (by kernel_rfl))
  f241 := Tryz.func109.trans (congrArg some (by kernel_rfl))
  f276 := Tryz.func136.trans (congrArg some (by kernel_rfl))
  f277 := Tryz.func137.trans (congrArg some (by kernel_rfl))
  t0 := Tryz.underlying0
  a0 := Tryz.isAgg0
  z0 := Tryz.sizeOf0
  v0 := Tryz.zeroValue0
  t3 := Tryz.underlying3
  a3 := Tryz.isAgg3
  z3 := Tryz.sizeOf3
  v3 := Tryz.zeroValue3
  t4 := Tryz.underlying4
  a4 := Tryz.isAgg4
  z4 := Tryz.sizeOf4
  v4 := Tryz.zeroValue4
  t9 := Tryz.underlying9
  a9 := Tryz.isAgg9
  z9 := Tryz.sizeOf9
  v9 := Tryz.zeroValue9
  t20 := Tryz.underlying20
  a20 := Tryz.isAgg20
  z20 := Tryz.sizeOf20
  v20 := Tryz.zeroValue20
  t31 := Tryz.underlying61
  a31 := Tryz.isAgg61
  z31 := Tryz.sizeOf61
  v31 := Tryz.zeroValue61
  t37 := Tryz.underlying36
  a37 := Tryz.isAgg36
  z37 := Tryz.sizeOf36
  v37 := Tryz.zeroValue36
  t70 := Tryz.underlying102
  a70 := Tryz.isAgg102
  z70 := Tryz.sizeOf102
  v70 := Tryz.zeroValue102
  t72 := Tryz.underlying104
  a72 := Tryz.isAgg104
  z72 := Tryz.sizeOf104
  v72 := Tryz.zeroValue104
  t75 := Tryz.underlying107
  a75 := Tryz.isAgg107
  z75 := Tryz.sizeOf107
  v75 := Tryz.zeroValue107
  t76 := Tryz.underlying108
  a76 := Tryz.isAgg108
  z76 := Tryz.sizeOf108
  v76 := Tryz.zeroValue108
  t127 := Tryz.underlying124
  a127 := Tryz.isAgg124
  z127 := Tryz.sizeOf124
  v127 := Tryz.zeroValue124
  t164 := Tryz.underlying141
  a164 := Tryz.isAgg141
  z164 := Tryz.sizeOf141
  v164 := Tryz.zeroValue141 }
theorem sh_Builder_Extra_156 : Builder.Extra Tryz.prog sh_lays156_ren := {
  sizeBuilder := by kernel_rfl
  liesBuilder := by kernel_rfl
  t5 := Tryz.underlying5
  a5 := Tryz.isAgg5
  z5 := Tryz.sizeOf5
  v5 := Tryz.zeroValue5
  infoByte := by kernel_rfl
  cellsByte := by kernel_rfl
  sizeByte := by kernel_rfl
  neB5 := by decide }
/-- No element: the empty string; the world is as it was. (Whatever the slice's address and capacity: a nil slice too.) (LAID: no walk: one application.) -/
theorem sh_strings_Join_none (a : Option Addr) (c : Nat) (sep : ByteArray) (w : World) :
    Calls Tryz.prog 40 #[.slice a 0 c, .string sep] w fun e w' => e = .returned (.string ⟨#[]⟩) ∧ w' = w := Any.strings_Join_none sh_lays156 sh_Builder_Extra_156 a c sep w
/-- strings.Join: "Join concatenates the elements of its first argument to create a single string. The separator string sep is placed between elements in the resulting string.": HOWEVER MANY ELEMENTS. Below the heap's end the world is as it was. (LAID: no walk: one application.) -/
theorem sh_strings_Join (bk o c : Nat) (xs : List ByteArray) (sep : ByteArray) (w : World) (hcells : ∀ (j : Nat) x, xs[j]? = some x → w.cell? ⟨bk, o + j, none⟩ = some (.string x)) (hbk : bk < w.heap.size) (hN : xs.length ≤ 140737488355328) (hcap : xs.length ≤ c) (hlen : (Lib.join (xs.map (·.data.toList)) sep.data.toList).length ≤ 140737488355328) :
    Calls Tryz.prog 40 #[.slice (some ⟨bk, o, none⟩) xs.length c, .string sep] w fun e w' => e = .returned (.string ⟨(Lib.join (xs.map (·.data.toList)) sep.data.toList).toArray⟩) ∧ Below w.heap.size w w' := Any.strings_Join sh_lays156 sh_Builder_Extra_156 bk o c xs sep w hcells hbk hN hcap hlen
def sh_lays160_ren : Go.Shelf.Ren := ⟨fun | 160 => 94 | 232 => 119 | 231 => 118 | 227 => 120 | 234 => 122 | 233 => 121 | 236 => 124 | 235 => 123 | 228 => 143 | 271 => 146 | 151 => 145 | 197 => 144 | 120 => 165 | 152 => 164 | 260 => 163 | 137 => 105 | 119 => 179 | 224 => 134 | 225 => 133 | 217 => 132 | 266 => 154 | n => n, fun | 9 => 9 | 4 => 4 | 3 => 3 | 5 => 5 | 117 => 131 | 116 => 130 | 0 => 0 | 124 => 134 | 21 => 21 | 105 => 147 | 46 => 101 | 119 => 93 | 139 => 182 | 138 => 181 | n => n, fun | 3 => 2 | 4 => 3 | n => n⟩
theorem sh_lays160 : Go.Proofs.Lays.n160 Tryz.prog sh_lays160_ren := {
  mixed := by kernel_rfl
  f119 := Tryz.func179.trans (congrArg some (by kernel_rfl))
  f120 := Tryz.func165.trans (congrArg some (by kernel_rfl))
  f137 := Tryz.func105.trans (congrArg some (by kernel_rfl))
  f151 := Tryz.func145.trans (congrArg some (by kernel_rfl))
  f152 := Tryz.func164.trans (congrArg some (by kernel_rfl))
  f160 := Tryz.func94.trans (congrArg some (by kernel_rfl))
  f197 := Tryz.func144.trans (congrArg some (by kernel_rfl))
  f217 := Tryz.func132.trans (congrArg some (by kernel_rfl))
  f224 := Tryz.func134.trans (congrArg some (by kernel_rfl))
  f225 := Tryz.func133.trans (congrArg some (by kernel_rfl))
  f227 := Tryz.func120.trans (congrArg some (by kernel_rfl))
  f228 := Tryz.func143.trans (congrArg some (by kernel_rfl))
  f231 := Tryz.func118.trans (congrArg some (by kernel_rfl))
  f232 := Tryz.func119.trans (congrArg some (by kernel_rfl))
  f233 := Tryz.func121.trans (congrArg some (by kernel_rfl))
  f234 := Tryz.func122.trans (congrArg some (by kernel_rfl))
  f235 := Tryz.func123.trans (congrArg some (by kernel_rfl))
  f236 := Tryz.func124.trans (congrArg some (by kernel_rfl))
  f260 := Tryz.func163.trans (congrArg some (by kernel_rfl))
  f266 := Tryz.func154.trans (congrArg some (by kernel_rfl))
  f271 := Tryz.func146.trans (congrArg some (by kernel_rfl))
  t0 := Tryz.underlying0
  a0 := Tryz.isAgg0
  z0 := Tryz.sizeOf0
  v0 := Tryz.zeroValue0
  t3 := Tryz.underlying3
  a3 := Tryz.isAgg3
  z3 := Tryz.sizeOf3
  v3 := Tryz.zeroValue3
  t4 := Tryz.underlying4
  a4 := Tryz.isAgg4
  z4 := Tryz.sizeOf4
  v4 := Tryz.zeroValue4
  t5 := Tryz.underlying5
  a5 := Tryz.isAgg5
  z5 := Tryz.sizeOf5
  v5 := Tryz.zeroValue5
  t9 := Tryz.underlying9
  a9 := Tryz.isAgg9
  z9 := Tryz.sizeOf9
  v9 := Tryz.zeroValue9
  t21 := Tryz.underlying21
  a21 := Tryz.isAgg21
  z21 := Tryz.sizeOf21
  v21 := Tryz.zeroValue21
  t46 := Tryz.underlying101
  a46 := Tryz.isAgg101
  z46 := Tryz.sizeOf101
  v46 := Tryz.zeroValue101
  t105 := Tryz.underlying147
  a105 := Tryz.isAgg147
  z105 := Tryz.sizeOf147
  v105 := Tryz.zeroValue147
  t116 := Tryz.underlying130
  a116 := Tryz.isAgg130
  z116 := Tryz.sizeOf130
  t117 := Tryz.underlying131
  a117 := Tryz.isAgg131
  z117 := Tryz.sizeOf131
  v117 := Tryz.zeroValue131
  t119 := Tryz.underlying93
  a119 := Tryz.isAgg93
  z119 := Tryz.sizeOf93
  t124 := Tryz.underlying134
  a124 := Tryz.isAgg134
  z124 := Tryz.sizeOf134
  v124 := Tryz.zeroValue134
  t138 := Tryz.underlying181
  a138 := Tryz.isAgg181
  z138 := Tryz.sizeOf181
  v138 := Tryz.zeroValue181
  t139 := Tryz.underlying182
  a139 := Tryz.isAgg182
  z139 := Tryz.sizeOf182
  v139 := Tryz.zeroValue182
  g3 := by kernel_rfl
  g4 := by kernel_rfl }
/-- strings.Trim: "Trim returns a slice of the string s with all leading and trailing Unicode code points contained in cutset removed.": AT A cutset OF ONE ASCII BYTE. THE WORLD BEHIND IT: as it was, or (where s is not empty) with ONE DRAW MORE off the tape: the statement 'return trimLeftByte(trimRightByte(s, c), c)' draws its order of evaluation. (LAID: no walk: one application.) -/
def sh_lays137_ren : Go.Shelf.Ren := ⟨fun | 137 => 105 | 217 => 132 | 266 => 154 | n => n, fun | 9 => 9 | 5 => 5 | 3 => 3 | n => n, fun | n => n⟩
theorem sh_lays137 : Go.Proofs.Lays.n137 Tryz.prog sh_lays137_ren := {
  mixed := by kernel_rfl
  f137 := Tryz.func105.trans (congrArg some (by kernel_rfl))
  f217 := Tryz.func132.trans (congrArg some (by kernel_rfl))
  f266 := Tryz.func154.trans (congrArg some (by kernel_rfl))
  t3 := Tryz.underlying3
  a3 := Tryz.isAgg3
  z3 := Tryz.sizeOf3
  v3 := Tryz.zeroValue3
  t5 := Tryz.underlying5
  a5 := Tryz.isAgg5
  z5 := Tryz.sizeOf5
  v5 := Tryz.zeroValue5
  t9 := Tryz.underlying9
  a9 := Tryz.isAgg9
  z9 := Tryz.sizeOf9
  v9 := Tryz.zeroValue9 }
/-- strings.IndexByte: "IndexByte returns the index of the first instance of c in s, or -1 if c is not present in s.": IT RETURNS 'Lib.indexByte s c'; the world is as it was. (LAID: no walk: one application.) -/
theorem sh_strings_IndexByte (s : ByteArray) (c : Int) (w : World) :
    Calls Tryz.prog 105 #[.string s, .int .u8 c] w fun e w' => e = .returned (.int .i64 (Lib.indexByte s.data.toList c.toNat.toUInt8)) ∧ w' = w := Any.strings_IndexByte sh_lays137 s c w
def sh_lays104_ren : Go.Shelf.Ren := ⟨fun | 104 => 90 | 211 => 113 | 207 => 141 | n => n, fun | 9 => 9 | 4 => 4 | 24 => 114 | 3 => 3 | n => n, fun | n => n⟩
theorem sh_lays104 : Go.Proofs.Lays.n104 Tryz.prog sh_lays104_ren := {
  mixed := by kernel_rfl
  f104 := Tryz.func90.trans (congrArg some (by kernel_rfl))
  f207 := Tryz.func141.trans (congrArg some (by kernel_rfl))
  f211 := Tryz.func113.trans (congrArg some (by kernel_rfl))
  t3 := Tryz.underlying3
  a3 := Tryz.isAgg3
  z3 := Tryz.sizeOf3
  v3 := Tryz.zeroValue3
  t4 := Tryz.underlying4
  a4 := Tryz.isAgg4
  z4 := Tryz.sizeOf4
  v4 := Tryz.zeroValue4
  t9 := Tryz.underlying9
  a9 := Tryz.isAgg9
  z9 := Tryz.sizeOf9
  v9 := Tryz.zeroValue9
  t24 := Tryz.underlying114
  a24 := Tryz.isAgg114
  z24 := Tryz.sizeOf114
  v24 := Tryz.zeroValue114 }
/-- strings.CutSuffix: "CutSuffix returns s without the provided ending suffix string and reports whether it found the suffix. If s doesn't end with suffix, CutSuffix returns s, false. If suffix is the empty string, CutSuffix returns s, true.": IT RETURNS '(Lib.trimSuffix s p, Lib.hasSuffix s p)'; the world is as it was. (LAID: no walk: one application.) -/
theorem sh_strings_CutSuffix (s p : ByteArray) (w : World) (hs : s.size ≤ 9223372036854775807) :
    Calls Tryz.prog 90 #[.string s, .string p] w fun e w' => e = .returned (.tuple #[.string ⟨(Lib.trimSuffix s.data.toList p.data.toList).toArray⟩, .bool (Lib.hasSuffix s.data.toList p.data.toList)]) ∧ w' = w := Any.strings_CutSuffix sh_lays104 s p w hs
def sh_laysM171_ren : Go.Shelf.Ren := ⟨fun | 171 => 140 | 243 => 161 | 246 => 160 | 283 => 175 | 284 => 176 | 285 => 177 | 286 => 178 | 129 => 189 | 317 => 188 | 318 => 190 | 319 => 191 | 320 => 192 | 337 => 196 | 338 => 197 | n => n, fun | 3 => 3 | 9 => 9 | 2 => 2 | 4 => 4 | 171 => 175 | 0 => 0 | 53 => 165 | 37 => 36 | 5 => 5 | 173 => 178 | 212 => 190 | 51 => 153 | 20 => 20 | 213 => 191 | 46 => 101 | 232 => 200 | 233 => 201 | n => n, fun | 17 => 6 | 18 => 7 | 19 => 8 | n => n⟩
theorem sh_laysM171 : Go.Proofs.LaysM.n171 Tryz.prog sh_laysM171_ren := {
  mixed := by kernel_rfl
  f129 := Tryz.func189.trans (congrArg some (by kernel_rfl))
  f171 := Tryz.func140.trans (congrArg some (by kernel_rfl))
  f243 := Tryz.func161.trans (congrArg some (by kernel_rfl))
  f246 := Tryz.func160.trans (congrArg some (by kernel_rfl))
  f283 := Tryz.func175.trans (congrArg some (by kernel_rfl))
  f284 := Tryz.func176.trans (congrArg some (by kernel_rfl))
  f285 := Tryz.func177.trans (congrArg some (by kernel_rfl))
  f286 := Tryz.func178.trans (congrArg some (by kernel_rfl))
  f317 := Tryz.func188.trans (congrArg some (by kernel_rfl))
  f318 := Tryz.func190.trans (congrArg some (by kernel_rfl))
  f319 := Tryz.func191.trans (congrArg some (by kernel_rfl))
  f320 := Tryz.func192.trans (congrArg some (by kernel_rfl))
  f337 := Tryz.func196.trans (congrArg some (by kernel_rfl))
  f338 := Tryz.func197.trans (congrArg some (by kernel_rfl))
  t0 := Tryz.underlying0
  a0 := Tryz.isAgg0
  z0 := Tryz.sizeOf0
  v0 := Tryz.zeroValue0
  t2 := Tryz.underlying2
  a2 := Tryz.isAgg2
  z2 := Tryz.sizeOf2
  v2 := Tryz.zeroValue2
  t3 := Tryz.underlying3
  a3 := Tryz.isAgg3
  z3 := Tryz.sizeOf3
  v3 := Tryz.zeroValue3
  t4 := Tryz.underlying4
  a4 := Tryz.isAgg4
  z4 := Tryz.sizeOf4
  v4 := Tryz.zeroValue4
  t5 := Tryz.underlying5
  a5 := Tryz.isAgg5
  z5 := Tryz.sizeOf5
  v5 := Tryz.zeroValue5
  t9 := Tryz.underlying9
  a9 := Tryz.isAgg9
  z9 := Tryz.sizeOf9
  v9 := Tryz.zeroValue9
  t20 := Tryz.underlying20
  a20 := Tryz.isAgg20
  z20 := Tryz.sizeOf20
  v20 := Tryz.zeroValue20
  t37 := Tryz.underlying36
  a37 := Tryz.isAgg36
  z37 := Tryz.sizeOf36
  v37 := Tryz.zeroValue36
  t46 := Tryz.underlying101
  a46 := Tryz.isAgg101
  z46 := Tryz.sizeOf101
  v46 := Tryz.zeroValue101
  t51 := Tryz.underlying153
  a51 := Tryz.isAgg153
  z51 := Tryz.sizeOf153
  v51 := Tryz.zeroValue153
  t53 := Tryz.underlying165
  a53 := Tryz.isAgg165
  z53 := Tryz.sizeOf165
  v53 := Tryz.zeroValue165
  t171 := Tryz.underlying175
  a171 := Tryz.isAgg175
  z171 := Tryz.sizeOf175
  v171 := Tryz.zeroValue175
  t173 := Tryz.underlying178
  a173 := Tryz.isAgg178
  z173 := Tryz.sizeOf178
  v173 := Tryz.zeroValue178
  t212 := Tryz.underlying190
  a212 := Tryz.isAgg190
  z212 := Tryz.sizeOf190
  v212 := Tryz.zeroValue190
  t213 := Tryz.underlying191
  a213 := Tryz.isAgg191
  z213 := Tryz.sizeOf191
  t232 := Tryz.underlying200
  a232 := Tryz.isAgg200
  z232 := Tryz.sizeOf200
  v232 := Tryz.zeroValue200
  t233 := Tryz.underlying201
  a233 := Tryz.isAgg201
  z233 := Tryz.sizeOf201
  v233 := Tryz.zeroValue201
  g17 := by kernel_rfl
  g18 := by kernel_rfl
  g19 := by kernel_rfl
  i0 := by kernel_rfl
  i2 := by kernel_rfl
  i3 := by kernel_rfl
  i4 := by kernel_rfl
  i5 := by kernel_rfl
  i9 := by kernel_rfl
  i20 := by kernel_rfl
  i37 := by kernel_rfl
  i46 := by kernel_rfl
  i51 := by kernel_rfl
  i53 := by kernel_rfl
  i171 := by kernel_rfl
  i173 := by kernel_rfl
  i212 := by kernel_rfl
  i232 := by kernel_rfl
  i233 := by kernel_rfl
  m17 := by kernel_rfl
  m18 := by kernel_rfl
  m19 := by kernel_rfl }
/-- strconv.Itoa: "Itoa is equivalent to FormatInt(int64(i), 10).": i's DECIMAL NUMERAL ('Lib.itoa': a '-' where i is negative, then the digits), FOR EVERY int. The world behind the call: the world before it, new blocks behind the heap (the library's 'var a [24]byte'), draws. (LAID: no walk: one application.) -/
theorem sh_strconv_Itoa (n : Int) (h0 : -9223372036854775808 ≤ n) (h1 : n ≤ 9223372036854775807) (w : World) (htab : Lib.TabIs Tryz.prog w "internal/strconv.uint64pow10" .u64 Lib.pow10Tab) :
    Calls Tryz.prog 140 #[.int .i64 n] w fun e w' => e = .returned (.string ⟨(Lib.itoa n).toArray⟩) ∧ ∃ k os, w' = grow (w.drewN k) os := Any.strconv_Itoa sh_laysM171 n h0 h1 w htab
def sh_laysM173_ren : Go.Shelf.Ren := ⟨fun | 173 => 139 | 246 => 160 | 283 => 175 | 284 => 176 | 285 => 177 | 286 => 178 | 129 => 189 | 317 => 188 | 318 => 190 | 319 => 191 | 320 => 192 | 337 => 196 | 338 => 197 | n => n, fun | 2 => 2 | 3 => 3 | 9 => 9 | 4 => 4 | 171 => 175 | 0 => 0 | 53 => 165 | 37 => 36 | 5 => 5 | 173 => 178 | 212 => 190 | 51 => 153 | 20 => 20 | 213 => 191 | 46 => 101 | 232 => 200 | 233 => 201 | n => n, fun | 17 => 6 | 18 => 7 | 19 => 8 | n => n⟩
theorem sh_laysM173 : Go.Proofs.LaysM.n173 Tryz.prog sh_laysM173_ren := {
  mixed := by kernel_rfl
  f129 := Tryz.func189.trans (congrArg some (by kernel_rfl))
  f173 := Tryz.func139.trans (congrArg some (by kernel_rfl))
  f246 := Tryz.func160.trans (congrArg some (by kernel_rfl))
  f283 := Tryz.func175.trans (congrArg some (by kernel_rfl))
  f284 := Tryz.func176.trans (congrArg some (by kernel_rfl))
  f285 := Tryz.func177.trans (congrArg some (by kernel_rfl))
  f286 := Tryz.func178.trans (congrArg some (by kernel_rfl))
  f317 := Tryz.func188.trans (congrArg some (by kernel_rfl))
  f318 := Tryz.func190.trans (congrArg some (by kernel_rfl))
  f319 := Tryz.func191.trans (congrArg some (by kernel_rfl))
  f320 := Tryz.func192.trans (congrArg some (by kernel_rfl))
  f337 := Tryz.func196.trans (congrArg some (by kernel_rfl))
  f338 := Tryz.func197.trans (congrArg some (by kernel_rfl))
  t0 := Tryz.underlying0
  a0 := Tryz.isAgg0
  z0 := Tryz.sizeOf0
  v0 := Tryz.zeroValue0
  t2 := Tryz.underlying2
  a2 := Tryz.isAgg2
  z2 := Tryz.sizeOf2
  v2 := Tryz.zeroValue2
  t3 := Tryz.underlying3
  a3 := Tryz.isAgg3
  z3 := Tryz.sizeOf3
  v3 := Tryz.zeroValue3
  t4 := Tryz.underlying4
  a4 := Tryz.isAgg4
  z4 := Tryz.sizeOf4
  v4 := Tryz.zeroValue4
  t5 := Tryz.underlying5
  a5 := Tryz.isAgg5
  z5 := Tryz.sizeOf5
  v5 := Tryz.zeroValue5
  t9 := Tryz.underlying9
  a9 := Tryz.isAgg9
  z9 := Tryz.sizeOf9
  v9 := Tryz.zeroValue9
  t20 := Tryz.underlying20
  a20 := Tryz.isAgg20
  z20 := Tryz.sizeOf20
  v20 := Tryz.zeroValue20
  t37 := Tryz.underlying36
  a37 := Tryz.isAgg36
  z37 := Tryz.sizeOf36
  v37 := Tryz.zeroValue36
  t46 := Tryz.underlying101
  a46 := Tryz.isAgg101
  z46 := Tryz.sizeOf101
  v46 := Tryz.zeroValue101
  t51 := Tryz.underlying153
  a51 := Tryz.isAgg153
  z51 := Tryz.sizeOf153
  v51 := Tryz.zeroValue153
  t53 := Tryz.underlying165
  a53 := Tryz.isAgg165
  z53 := Tryz.sizeOf165
  v53 := Tryz.zeroValue165
  t171 := Tryz.underlying175
  a171 := Tryz.isAgg175
  z171 := Tryz.sizeOf175
  v171 := Tryz.zeroValue175
  t173 := Tryz.underlying178
  a173 := Tryz.isAgg178
  z173 := Tryz.sizeOf178
  v173 := Tryz.zeroValue178
  t212 := Tryz.underlying190
  a212 := Tryz.isAgg190
  z212 := Tryz.sizeOf190
  v212 := Tryz.zeroValue190
  t213 := Tryz.underlying191
  a213 := Tryz.isAgg191
  z213 := Tryz.sizeOf191
  t232 := Tryz.underlying200
  a232 := Tryz.isAgg200
  z232 := Tryz.sizeOf200
  v232 := Tryz.zeroValue200
  t233 := Tryz.underlying201
  a233 := Tryz.isAgg201
  z233 := Tryz.sizeOf201
  v233 := Tryz.zeroValue201
  g17 := by kernel_rfl
  g18 := by kernel_rfl
  g19 := by kernel_rfl
  i0 := by kernel_rfl
  i2 := by kernel_rfl
  i3 := by kernel_rfl
  i4 := by kernel_rfl
  i5 := by kernel_rfl
  i9 := by kernel_rfl
  i20 := by kernel_rfl
  i37 := by kernel_rfl
  i46 := by kernel_rfl
  i51 := by kernel_rfl
  i53 := by kernel_rfl
  i171 := by kernel_rfl
  i173 := by kernel_rfl
  i212 := by kernel_rfl
  i232 := by kernel_rfl
  i233 := by kernel_rfl
  m17 := by kernel_rfl
  m18 := by kernel_rfl
  m19 := by kernel_rfl }
/-- strconv.FormatInt: "FormatInt returns the string representation of i in the given base": AT BASE 10: i's decimal numeral, for every int64. (LAID: no walk: one application.) -/
theorem sh_strconv_FormatInt_10 (n : Int) (h0 : -9223372036854775808 ≤ n) (h1 : n ≤ 9223372036854775807) (w : World) (htab : Lib.TabIs Tryz.prog w "internal/strconv.uint64pow10" .u64 Lib.pow10Tab) :
    Calls Tryz.prog 139 #[.int .i64 n, .int .i64 10] w fun e w' => e = .returned (.string ⟨(Lib.itoa n).toArray⟩) ∧ ∃ k os, w' = grow (w.drewN k) os := Any.strconv_FormatInt_10 sh_laysM173 n h0 h1 w htab
def sh_lays219_ren : Go.Shelf.Ren := ⟨fun | 219 => 107 | 217 => 132 | 225 => 133 | 224 => 134 | 267 => 135 | 266 => 154 | 314 => 155 | n => n, fun | 9 => 9 | 3 => 3 | 4 => 4 | 5 => 5 | 46 => 101 | 146 => 154 | 51 => 153 | n => n, fun | 1 => 1 | n => n⟩
theorem sh_lays219 : Go.Proofs.Lays.n219 Tryz.prog sh_lays219_ren := {
  mixed := by kernel_rfl
  f217 := Tryz.func132.trans (congrArg some (by kernel_rfl))
  f219 := Tryz.func107.trans (congrArg some (by kernel_rfl))
  f224 := Tryz.func134.trans (congrArg some (by kernel_rfl))
  f225 := Tryz.func133.trans (congrArg some (by kernel_rfl))
  f266 := Tryz.func154.trans (congrArg some (by kernel_rfl))
  f267 := Tryz.func135.trans (congrArg some (by kernel_rfl))
  f314 := Tryz.func155.trans (congrArg some (by kernel_rfl))
  t3 := Tryz.underlying3
  a3 := Tryz.isAgg3
  z3 := Tryz.sizeOf3
  v3 := Tryz.zeroValue3
  t4 := Tryz.underlying4
  a4 := Tryz.isAgg4
  z4 := Tryz.sizeOf4
  v4 := Tryz.zeroValue4
  t5 := Tryz.underlying5
  a5 := Tryz.isAgg5
  z5 := Tryz.sizeOf5
  v5 := Tryz.zeroValue5
  t9 := Tryz.underlying9
  a9 := Tryz.isAgg9
  z9 := Tryz.sizeOf9
  v9 := Tryz.zeroValue9
  t46 := Tryz.underlying101
  a46 := Tryz.isAgg101
  z46 := Tryz.sizeOf101
  v46 := Tryz.zeroValue101
  t51 := Tryz.underlying153
  a51 := Tryz.isAgg153
  z51 := Tryz.sizeOf153
  v51 := Tryz.zeroValue153
  t146 := Tryz.underlying154
  a146 := Tryz.isAgg154
  z146 := Tryz.sizeOf154
  v146 := Tryz.zeroValue154
  g1 := by kernel_rfl }
/-- internal/stringslite.Index (what strings.Index calls) AT A substr OF ONE BYTE c: IT RETURNS 'Lib.indexByte s c'; the world is as it was. (LAID: no walk: one application.) -/
theorem sh_stringslite_Index_one (s : ByteArray) (c : UInt8) (w : World) :
    Calls Tryz.prog 107 #[.string s, .string ⟨#[c]⟩] w fun e w' => e = .returned (.int .i64 (Lib.indexByte s.data.toList c)) ∧ w' = w := Any.stringslite_Index_one sh_lays219 s c w
/-- strings.Index: "Index returns the index of the first instance of substr in s, or -1 if substr is not present in s.": AT A substr OF ONE BYTE c: IT RETURNS 'Lib.indexByte s c'; the world is as it was. (LAID: no walk: one application.) -/
def sh_lays144_ren : Go.Shelf.Ren := ⟨fun | 144 => 91 | 143 => 114 | 219 => 107 | 217 => 132 | 225 => 133 | 224 => 134 | 267 => 135 | 266 => 154 | 314 => 155 | n => n, fun | 9 => 9 | 4 => 4 | 3 => 3 | 5 => 5 | 46 => 101 | 146 => 154 | 51 => 153 | n => n, fun | 1 => 1 | n => n⟩
theorem sh_lays144 : Go.Proofs.Lays.n144 Tryz.prog sh_lays144_ren := {
  mixed := by kernel_rfl
  f143 := Tryz.func114.trans (congrArg some (by kernel_rfl))
  f144 := Tryz.func91.trans (congrArg some (by kernel_rfl))
  f217 := Tryz.func132.trans (congrArg some (by kernel_rfl))
  f219 := Tryz.func107.trans (congrArg some (by kernel_rfl))
  f224 := Tryz.func134.trans (congrArg some (by kernel_rfl))
  f225 := Tryz.func133.trans (congrArg some (by kernel_rfl))
  f266 := Tryz.func154.trans (congrArg some (by kernel_rfl))
  f267 := Tryz.func135.trans (congrArg some (by kernel_rfl))
  f314 := Tryz.func155.trans (congrArg some (by kernel_rfl))
  t3 := Tryz.underlying3
  a3 := Tryz.isAgg3
  z3 := Tryz.sizeOf3
  v3 := Tryz.zeroValue3
  t4 := Tryz.underlying4
  a4 := Tryz.isAgg4
  z4 := Tryz.sizeOf4
  v4 := Tryz.zeroValue4
  t5 := Tryz.underlying5
  a5 := Tryz.isAgg5
  z5 := Tryz.sizeOf5
  v5 := Tryz.zeroValue5
  t9 := Tryz.underlying9
  a9 := Tryz.isAgg9
  z9 := Tryz.sizeOf9
  v9 := Tryz.zeroValue9
  t46 := Tryz.underlying101
  a46 := Tryz.isAgg101
  z46 := Tryz.sizeOf101
  v46 := Tryz.zeroValue101
  t51 := Tryz.underlying153
  a51 := Tryz.isAgg153
  z51 := Tryz.sizeOf153
  v51 := Tryz.zeroValue153
  t146 := Tryz.underlying154
  a146 := Tryz.isAgg154
  z146 := Tryz.sizeOf154
  v146 := Tryz.zeroValue154
  g1 := by kernel_rfl }
/-- strings.Contains: "Contains reports whether substr is within s.": AT A substr OF ONE BYTE c: IT RETURNS 'decide (0 ≤ Lib.indexByte s c)'; the world is as it was. (LAID: no walk: one application.) -/
theorem sh_strings_Contains_one (s : ByteArray) (c : UInt8) (w : World) :
    Calls Tryz.prog 91 #[.string s, .string ⟨#[c]⟩] w fun e w' => e = .returned (.bool (decide (0 ≤ Lib.indexByte s.data.toList c))) ∧ w' = w := Any.strings_Contains_one sh_lays144 s c w
def sh_lays99_ren : Go.Shelf.Ren := ⟨fun | 99 => 71 | 206 => 104 | n => n, fun | 9 => 9 | 4 => 4 | 3 => 3 | n => n, fun | n => n⟩
theorem sh_lays99 : Go.Proofs.Lays.n99 Tryz.prog sh_lays99_ren := {
  mixed := by kernel_rfl
  f99 := Tryz.func71.trans (congrArg some (by kernel_rfl))
  f206 := Tryz.func104.trans (congrArg some (by kernel_rfl))
  t3 := Tryz.underlying3
  a3 := Tryz.isAgg3
  z3 := Tryz.sizeOf3
  v3 := Tryz.zeroValue3
  t4 := Tryz.underlying4
  a4 := Tryz.isAgg4
  z4 := Tryz.sizeOf4
  v4 := Tryz.zeroValue4
  t9 := Tryz.underlying9
  a9 := Tryz.isAgg9
  z9 := Tryz.sizeOf9
  v9 := Tryz.zeroValue9 }
/-- strings.HasPrefix: "HasPrefix reports whether the string s begins with prefix.": IT RETURNS 'Lib.hasPrefix s prefix'; the world is as it was. (LAID: no walk: one application.) -/
theorem sh_strings_HasPrefix (s p : ByteArray) (w : World) :
    Calls Tryz.prog 71 #[.string s, .string p] w fun e w' => e = .returned (.bool (Lib.hasPrefix s.data.toList p.data.toList)) ∧ w' = w := Any.strings_HasPrefix sh_lays99 s p w
def sh_laysSlH10_f186_ren : Go.Shelf.Ren := ⟨fun | 10 => 186 | 6 => 195 | n => n, fun | 22 => 61 | 23 => 9 | 25 => 28 | 3 => 3 | 4 => 4 | 0 => 0 | n => n, fun | n => n⟩
theorem sh_laysSlH10_f186 : Go.Proofs.SlLaysH.n10 Tryz.prog sh_laysSlH10_f186_ren := {
  mixed := by kernel_rfl
  f6 := ⟨Tryz.f195.name, by decide, Tryz.func195.trans (congrArg some (by kernel_rfl))⟩
  f10 := ⟨Tryz.f186.name, by decide, Tryz.func186.trans (congrArg some (by kernel_rfl))⟩
  t0 := Tryz.underlying0
  a0 := Tryz.isAgg0
  z0 := Tryz.sizeOf0
  v0 := Tryz.zeroValue0
  t3 := Tryz.underlying3
  a3 := Tryz.isAgg3
  z3 := Tryz.sizeOf3
  v3 := Tryz.zeroValue3
  t4 := Tryz.underlying4
  a4 := Tryz.isAgg4
  z4 := Tryz.sizeOf4
  v4 := Tryz.zeroValue4
  t22 := Tryz.underlying61
  a22 := Tryz.isAgg61
  z22 := Tryz.sizeOf61
  v22 := Tryz.zeroValue61
  a23 := Tryz.isAgg9
  z23 := Tryz.sizeOf9
  t25 := Tryz.underlying28
  a25 := Tryz.isAgg28
  z25 := Tryz.sizeOf28
  v25 := Tryz.zeroValue28 }
theorem sh_slices_DeleteFunc {α : Type} [Inhabited α] (enc : α → Value) (hO : OneCell enc) (p : α → Bool) (g : Nat) (lb : Array Value) (eg : ∀ args w, (callFunc g args).run Tryz.prog w = .ok (.enter g args) w) (zr : α) (v23 : ∀ w, (zeroValue 9).run Tryz.prog w = .ok (enc zr) w) (blk off cap : Nat) (d : Array α) (w : World) (hp : PredAt Tryz.prog g lb enc p w) (hpo : PredOver Tryz.prog g lb enc p blk off d.size w) (hH : Holds enc w blk off d) (hsz : d.size ≤ 9223372036854775807) (hcap : d.size ≤ cap) :
    Calls Tryz.prog 186 #[.slice (some ⟨blk, off, none⟩) d.size cap, .func (.func g) #[] lb] w fun e w' => e = .returned (.slice (some ⟨blk, off, none⟩) (d.toList.filter fun x => !p x).length cap) ∧ ∃ q, w' = putRow enc (Sort.ahead w q) blk off ((d.toList.filter fun x => !p x) ++ List.replicate (d.size - (d.toList.filter fun x => !p x).length) zr).toArray := AnyE.slices_DeleteFunc sh_laysSlH10_f186 enc hO p g lb eg zr v23 blk off cap d w hp hpo hH hsz hcap
def sh_lays187_ren : Go.Shelf.Ren := ⟨fun | 187 => 92 | 255 => 115 | n => n, fun | 37 => 36 | 5 => 5 | 3 => 3 | n => n, fun | n => n⟩
theorem sh_lays187 : Go.Proofs.Lays.n187 Tryz.prog sh_lays187_ren := {
  mixed := by kernel_rfl
  f187 := Tryz.func92.trans (congrArg some (by kernel_rfl))
  f255 := Tryz.func115.trans (congrArg some (by kernel_rfl))
  t3 := Tryz.underlying3
  a3 := Tryz.isAgg3
  z3 := Tryz.sizeOf3
  v3 := Tryz.zeroValue3
  t5 := Tryz.underlying5
  a5 := Tryz.isAgg5
  z5 := Tryz.sizeOf5
  v5 := Tryz.zeroValue5
  t37 := Tryz.underlying36
  a37 := Tryz.isAgg36
  z37 := Tryz.sizeOf36
  v37 := Tryz.zeroValue36 }
/-- bytes.IndexByte: "IndexByte returns the index of the first instance of c in b, or -1 if c is not present in b.": IT RETURNS 'Lib.indexByte (the bytes of b) c'; the world is as it was. 'xs': the numbers that the slice's cells hold. (LAID: no walk: one application.) -/
/-- bytes.IndexByte AT nil: -1. (LAID: no walk: one application.) -/
theorem sh_bytes_IndexByte_nil (cv : Int) (w : World) :
    Calls Tryz.prog 92 #[.slice none 0 0, .int .u8 cv] w fun e w' => e = .returned (.int .i64 (-1)) ∧ w' = w := Any.bytes_IndexByte_nil sh_lays187 cv w
end Go.Proofs.YtefelnhpfdcleaaGreatDoor
namespace Go.Proofs.YtefelnhpfdcleaaGreatDoor
open Go Go.Sx
set_option maxRecDepth 10000
set_option maxHeartbeats 2000000
/-! trim, by the shelf's strings.Trim. -/
theorem trimR_cons (c : UInt8) (r : List UInt8) : trimR (c :: r) = if (trimR r).isEmpty then (if blankB c then [] else [c]) else c :: trimR r := by
  unfold trimR
  rw [List.reverse_cons, List.dropWhile_append, List.isEmpty_reverse]
  split
  · by_cases h : blankB c = true
    · rw [if_pos h, List.dropWhile_cons_of_pos h]; rfl
    · rw [if_neg h, List.dropWhile_cons_of_neg h]; rfl
  · rw [List.reverse_append]; rfl
theorem trim_comm (s : List UInt8) : trimR (trimL s) = trimL (trimR s) := by
  induction s with
  | nil => rfl
  | cons c r ih =>
    by_cases h : blankB c = true
    · rw [trimL_cons h, ih, trimR_cons]
      split
      · rename_i he
        rw [List.isEmpty_iff.1 he]
      · rw [trimL_cons h]
    · have e : trimL (c :: r) = c :: r := by rw [trimL, List.dropWhile_cons_of_neg h]
      rw [e, trimR_cons]
      split
      · rw [trimL, List.dropWhile_cons_of_neg h]
      · rw [trimL, List.dropWhile_cons_of_neg h]
theorem blank_in (c : UInt8) : [32, 9].contains c = blankB c := by
  have : ∀ n : Fin 256, [32, 9].contains (UInt8.ofNat n.1) = blankI (n.1 : Int) := by decide
  have h := this ⟨c.toNat, c.toNat_lt⟩
  simp only [UInt8.ofNat_toNat] at h
  exact h
theorem trimS_eq (s : List UInt8) : Lib.trimS s [32, 9] = trimF s := by
  rw [trimF, trim_comm]
  unfold Lib.trimS Lib.trimLeftS Lib.trimRightS trimL trimR
  have e : (fun x => [32, 9].contains x) = blankB := funext blank_in
  rw [e]
def spTrim64 : FSpec := fun _ xs ls K => ∃ (s c : List UInt8), xs = [.str s, .str c] ∧ ls = [] ∧ s.length ≤ 9223372036854775807 ∧ c.length < 1000 ∧ (c.all fun b => decide (b.toNat < 128)) = true ∧ ∀ r, r = Lib.trimS s c → K (.str r) []
theorem trim64_ok : FnOk Tryz.prog gl 94 spTrim64 := by
  refine ⟨⟨Tryz.f94, _, Tryz.func94, rfl, by kernel_rfl⟩, fun xs ls K h => ?_⟩
  obtain ⟨s, c, rfl, rfl, hs, hc, ha, h⟩ := h
  refine ⟨_, _, h _ rfl, callsTo_below fun E B w vals _ _ _ hr => ?_⟩
  obtain ⟨v, u, rfl, hv, hu⟩ := relL_two hr
  rw [rel_str hv, rel_str hu]
  refine (Any.strings_Trim_laid sh_lays160 (by kernel_rfl) ⟨s.toArray⟩ ⟨c.toArray⟩ w (by simpa [ByteArray.size] using hs) (by simp [ByteArray.size]; omega) (ascii_of_all (by simpa using ha))).mono ?_
  rintro e w' ⟨rfl, hB⟩
  exact ⟨_, rfl, fun E => .ro (.str rfl), hB⟩
theorem trim_ok : FnOk Tryz.prog gl 194 (spStrS trimF) := by
  refine fnOk (gh := []) mixed cxOk (tabCons trim64_ok tabNil) Tryz.func194 (by kernel_rfl) (by kernel_rfl) ?_
  intro xs ls K h
  unfold spStrS at h
  obtain ⟨s, rfl, rfl, hl, h⟩ := h
  obtain ⟨k, hk⟩ : ∃ k, k = trimF s := ⟨_, rfl⟩
  refine ⟨_, _, h k hk, fun D hD => ?_⟩
  clear h
  cbv
  refine ⟨s, [32, 9], rfl, rfl, hl, by decide, by decide, fun r hr => ?_⟩
  cbv
  exact finStr (by rw [hr, hk, trimS_eq])
end Go.Proofs.YtefelnhpfdcleaaGreatDoor
namespace Go.Proofs.YtefelnhpfdcleaaGreatDoor
open Go.Sx
set_option maxRecDepth 10000
set_option maxHeartbeats 2000000
/-! split. -/
def spSplit : FSpec := fun _ xs ls K => ∃ (s : List UInt8) (y : Int), xs = [.str s, .int .u8 (.a y)] ∧ ls = [] ∧ s.length ≤ 100000 ∧ ∀ (k : Option (List (List UInt8))) (l : List (List UInt8)) (n : Int) (b nb : Bool) (f : Nat → List SV), k = partsF y s → l = (k.getD []).map trimF → n = (l.length : Int) → b = k.isSome → nb = k.isNone → f = strRow l → K (.tup [.osl (.a nb) (.a n) 0, .bool (.a b)]) [.own 9 (.a n) 1 true f]
structure SpI (s : List UInt8) (out : List (List UInt8)) (a i : Nat) (A I : Int) (m : Nat) : Prop where
  at_ : At s i I m
  ale : a ≤ i
  A : ST.den (.a A) = (a : Int)
  out : out.length ≤ i
  s : s.length ≤ 100000
def splJ (s : List UInt8) (y : Int) (k : Option (List (List UInt8))) (m : Nat) (vs : List (Option SV)) (hp : List Hl) : Prop :=
  ∃ (i a : Nat) (I A n : Int) (nl : Bool) (f : Nat → List SV) (out : List (List UInt8)), vs = [some (.str s), some (.int .u8 (.a y)), some (.osl (.a nl) (.a n) 0), some (.int .i64 (.a A)), some (.int .i64 (.a I))] ∧ hp = [.own 9 (.a n) 1 true f] ∧
    SpI s out a i A I m ∧ RowS f n (out.map trimF) ∧ k = pAt y s out a i
def qOf : Option (Nat × List UInt8) → Int
  | none => 0
  | some x => ((1 + x.1 : Nat) : Int)
theorem qOf_zero {o : Option (Nat × List UInt8)} (h : (qOf o == 0) = true) : o = none := by
  cases o with
  | none => rfl
  | some x => simp only [qOf, beq_iff_eq] at h; omega
theorem qOf_some {o : Option (Nat × List UInt8)} (h : (qOf o == 0) = false) : ∃ x, o = some x ∧ qOf o = ((1 + x.1 : Nat) : Int) := by
  cases o with
  | none => simp [qOf] at h
  | some x => exact ⟨x, rfl, rfl⟩
theorem quotedF_drop {s : List UInt8} {i : Nat} : quotedF (s.drop i) = qOf (qdF plainI (s.drop (i + 1))) := by
  rw [quotedF, qAt, qdF_some, List.drop_drop, show i + (0 + 1) = i + 1 by omega]
  cases qdF plainI (s.drop (i + 1)) with
  | none => rfl
  | some x => simp only [qOf]
theorem finSpl0 {D : Dn} (hD : D = dn) {k : Option (List (List UInt8))} {kl : List (List UInt8)} {kn : Int} {kb knb : Bool} {kr g : Nat → List SV} (hk : k = none) (hkl : kl = (k.getD []).map trimF) (hkn : kn = (kl.length : Int)) (hkb : kb = k.isSome) (hknb : knb = k.isNone) :
    Fin (.tup [.osl (.a (D.b (.l true))) (.a (D.i (.l 0))) 0, .bool (.a (D.b (.l false)))]) (.tup [.osl (.a knb) (.a kn) 0, .bool (.a kb)]) [.own 9 (.a (D.i (.l 0))) 1 true g] [.own 9 (.a kn) 1 true kr] := by
  subst hD hk
  have e : kn = 0 := by rw [hkn, hkl]; rfl
  refine finOwn (.tup (.cons (leOsl (by rw [hknb]; rfl) (by rw [e]; rfl)) (.cons (leBool (by rw [hkb]; rfl)) .nil))) (by rw [e]; rfl) fun i hi => ?_
  have hi : (i : Int) < 0 := hi
  omega
theorem finSpl1 {D : Dn} (hD : D = dn) {k : Option (List (List UInt8))} {l kl : List (List UInt8)} {kn : Int} {kb knb : Bool} {kr f : Nat → List SV} (hk : k = some l) (hkl : kl = (k.getD []).map trimF) (hkn : kn = (kl.length : Int)) (hkb : kb = k.isSome) (hknb : knb = k.isNone) (hkr : kr = strRow kl)
    {n : Int} (R : RowS f n (l.map trimF)) {x : BT} {y : ST} (hy : y.den = n) (hx : x.den = false) : Fin (.tup [.osl (.a (D.b x)) (.a (D.i y)) 0, .bool (.a (D.b (.l true)))]) (.tup [.osl (.a knb) (.a kn) 0, .bool (.a kb)]) [.own 9 (.a (D.i y)) 1 true f] [.own 9 (.a kn) 1 true kr] := by
  subst hD hk
  have hkl : kl = l.map trimF := hkl
  have e : dn.i y = kn := by show y.den = _; rw [hy, R.n, hkn, hkl]
  refine finOwn (.tup (.cons (leOsl ?_ e) (.cons (leBool (by rw [hkb]; rfl)) .nil))) e fun i hi => ?_
  · rw [hknb]; exact hx
  · have hi : (i : Int) < dn.i y := hi
    rw [R.f i (by rw [e, hkn, hkl] at hi; omega), hkr, hkl]; rfl
theorem split_ok : FnOk Tryz.prog gl 185 spSplit := by
  refine fnOk (gh := [(1, [.own 6 9]), (9, [.own 4 9]), (12, [.own 4 9])]) mixed cxOk (tabCons kind_ok (tabCons quoted_ok (tabCons trim_ok tabNil))) Tryz.func185 (by kernel_rfl) (by kernel_rfl) ?_
  intro xs ls K h
  unfold spSplit at h
  obtain ⟨s, y, rfl, rfl, hl, h⟩ := h
  obtain ⟨k, hk⟩ : ∃ k, k = partsF y s := ⟨_, rfl⟩
  obtain ⟨kl, hkl⟩ : ∃ kl, kl = (k.getD []).map trimF := ⟨_, rfl⟩
  obtain ⟨kn, hkn⟩ : ∃ kn : Int, kn = (kl.length : Int) := ⟨_, rfl⟩
  obtain ⟨kb, hkb⟩ : ∃ kb, kb = k.isSome := ⟨_, rfl⟩
  obtain ⟨knb, hknb⟩ : ∃ knb, knb = k.isNone := ⟨_, rfl⟩
  obtain ⟨kr, hkr⟩ : ∃ kr, kr = strRow kl := ⟨_, rfl⟩
  refine ⟨_, _, h k kl kn kb knb kr hk hkl hkn hkb hknb hkr, fun D hD => ?_⟩
  clear h
  have hk : k = pAt y s [] 0 0 := by
    rw [hk, partsF, pAt, cut_self]
    simp
  cbv
  obtain ⟨J, hJ⟩ : ∃ J, J = splJ s y k := ⟨_, rfl⟩
  refine ⟨[0, 1, 6, 7, 8], J, ⟨rfl, s.length, ?_⟩, ?_⟩
  · rw [hJ]
    subst hD
    exact ⟨0, 0, _, _, _, _, _, [], rfl, rfl, ⟨At.zero (by omega), by omega, rfl, by simp, hl⟩, RowS.nil, hk⟩
  clear hk
  intro m vs hp' hv
  rw [hJ] at hv
  unfold splJ at hv
  obtain ⟨i, a, I, A, n, nl, f, out, rfl, rfl, V, R, hk⟩ := hv
  cbv
  refine br hD (fun h => ?_) (fun h => ?_) <;> cbv
  · have hlt := V.at_.lt (of_decide_eq_true (p := I < (s.length : Int)) h)
    clear h
    refine ⟨V.at_.inS hD hlt, fun c hc => ?_⟩
    have hc2 := byteAt hD V.at_.den hc
    clear hc
    cbv
    refine br hD (fun h => ?_) (fun h => ?_) <;> cbv
    · have h34 : charI s i = 34 := by rw [← hc2.charI]; have h : (c == 34) = true := h; simpa using h
      clear h
      rw [pAt_quote hlt V.ale (by rw [h34]; decide) h34] at hk
      refine ⟨by subst hD; exact subS_of (s := s) (j := s.length) (b := .len s) V.at_.den rfl (by omega) (Nat.le_refl _), fun r1 hr1 => ?_⟩
      have hr1' : r1 = s.drop i := by
        have := sub_of (j := s.length) (b := .len s) hD V.at_.den rfl hr1
        rw [this]; exact List.take_of_length_le (by simp)
      clear hr1
      cbv
      refine ⟨_, rfl, rfl, by have := V.s; rw [hr1', List.length_drop]; omega, fun q hq => ?_⟩
      have hq2 : q = qOf (qdF plainI (s.drop (i + 1))) := by subst hD; rw [hq, hr1']; exact quotedF_drop
      clear hq
      cbv
      refine br hD (fun h => ?_) (fun h => ?_) <;> cbv
      · have h : (q == 0) = true := h
        rw [hq2] at h
        rw [qOf_zero h] at hk
        exact finSpl0 hD hk hkl hkn hkb hknb
      · have h : (q == 0) = false := h
        rw [hq2] at h
        obtain ⟨x, hx, hqx⟩ := qOf_some h
        rw [hx] at hk
        simp only at hk
        have hlen := qdF_len _ _ x (Nat.le_refl _) hx
        rw [List.length_drop] at hlen
        have hq3 : ST.den (.bin .add .i64 (.a I) (.a q)) = ((i + 1 + x.1 : Nat) : Int) := by
          have h1 := V.at_.I; have h2 := V.s
          show IntKind.i64.wrap (I + q) = _
          rw [hq2, hqx, wrap64 (by omega) (by omega)]; omega
        clear h
        refine ⟨s.length - (i + 1 + x.1), by have := V.at_.m; omega, ?_⟩
        rw [hJ]
        subst hD
        refine ⟨i + 1 + x.1, a, _, _, _, _, f, out, rfl, rfl, ⟨⟨by omega, hq3, rfl, V.at_.len⟩, by have := V.ale; omega, V.A, by have := V.out; omega, V.s⟩, R, hk⟩
    have h34 : charI s i ≠ 34 := by rw [← hc2.charI]; have h : (c == 34) = false := h; simpa using h
    clear h
    refine ⟨_, rfl, rfl, by subst hD; exact hc2.le, fun r hr => ?_⟩
    have hr2 : r = kindI c := by subst hD; exact hr
    clear hr
    have hsm : plainI (charI s i) = !(kindI c == 0) := by rw [hc2.charI]; unfold charI; rw [← someI_byte, someI]
    rw [← hr2] at hsm
    cbv
    refine br hD (fun h => ?_) (fun h => ?_) <;> cbv
    · have h : (r == 0) = true := h
      rw [pAt_bad hlt (by rw [hsm, h]; rfl)] at hk
      exact finSpl0 hD hk hkl hkn hkb hknb
    have hp : plainI (charI s i) = true := by have h : (r == 0) = false := h; rw [hsm, h]; rfl
    clear h
    refine br hD (fun h => ?_) (fun h => ?_) <;> cbv
    · have hy : charI s i = y := by rw [← hc2.charI]; have h : (c == y) = true := h; simpa using h
      clear h
      rw [pAt_sep hlt hp h34 hy] at hk
      refine ⟨by subst hD; exact subS_of V.A V.at_.den V.ale (by omega), fun r1 hr1 => ?_⟩
      have hr1' : r1 = cut s a i := sub_of hD V.A V.at_.den hr1
      clear hr1
      cbv
      refine ⟨_, rfl, rfl, by have := V.s; rw [hr1', cut, List.length_take, List.length_drop]; omega, fun t ht => ?_⟩
      have ht2 : t = trimF (cut s a i) := by rw [ht, hr1']
      clear ht
      cbv
      intro g hg
      have hg0 : g 0 = [.str t] := hg.h 0 _ rfl
      clear hg
      cbv
      refine ⟨?_, fun f' n' hf' => ?_⟩
      · have := V.out; have := V.s; have h := R.n; rw [List.length_map] at h; subst hD; exact ⟨rfl, by show (n + 1) * 16 ≤ _; omega, by show n + 1 ≤ _; omega⟩
      have R' : RowS f' n' ((out ++ [cut s a i]).map trimF) := by
        subst hD
        rw [List.map_append, List.map_singleton]
        exact R.more (by rw [hg0, ht2]) hf' (by have := V.out; have := V.s; rw [List.length_map]; omega)
      clear hf' hg0
      cbv
      refine ⟨s.length - (i + 1), (V.at_.step hD hlt).1, ?_⟩
      rw [hJ]
      subst hD
      exact ⟨i + 1, i + 1, _, _, _, _, f', _, rfl, rfl, ⟨(V.at_.step rfl hlt).2, Nat.le_refl _, (V.at_.step rfl hlt).2.I, by have := V.out; simp; omega, V.s⟩, R', hk⟩
    · have hy : charI s i ≠ y := by rw [← hc2.charI]; have h : (c == y) = false := h; simpa using h
      clear h
      rw [pAt_more hlt V.ale hp h34 hy] at hk
      refine ⟨s.length - (i + 1), (V.at_.step hD hlt).1, ?_⟩
      rw [hJ]
      subst hD
      exact ⟨i + 1, a, _, _, _, _, f, out, rfl, rfl, ⟨(V.at_.step rfl hlt).2, by have := V.ale; omega, V.A, by have := V.out; omega, V.s⟩, R, hk⟩
  · have hi := V.at_.eq (of_decide_eq_false (p := I < (s.length : Int)) h)
    clear h
    rw [pAt_end hi] at hk
    refine ⟨by subst hD; exact subS_of (s := s) (j := s.length) (b := .len s) V.A rfl (by have := V.ale; omega) (Nat.le_refl _), fun r1 hr1 => ?_⟩
    have hr1' : r1 = s.drop a := by
      have := sub_of (j := s.length) (b := .len s) hD V.A rfl hr1
      rw [this]; exact List.take_of_length_le (by simp)
    clear hr1
    cbv
    refine ⟨_, rfl, rfl, by have := V.s; rw [hr1', List.length_drop]; omega, fun t ht => ?_⟩
    have ht2 : t = trimF (s.drop a) := by rw [ht, hr1']
    clear ht
    cbv
    intro g hg
    have hg0 : g 0 = [.str t] := hg.h 0 _ rfl
    clear hg
    cbv
    refine ⟨?_, fun f' n' hf' => ?_⟩
    · have := V.out; have := V.s; have h := R.n; rw [List.length_map] at h; subst hD; exact ⟨rfl, by show (n + 1) * 16 ≤ _; omega, by show n + 1 ≤ _; omega⟩
    have R' : RowS f' n' ((out ++ [s.drop a]).map trimF) := by
      subst hD
      rw [List.map_append, List.map_singleton]
      exact R.more (by rw [hg0, ht2]) hf' (by have := V.out; have := V.s; rw [List.length_map]; omega)
    clear hf' hg0
    cbv
    exact finSpl1 hD hk hkl hkn hkb hknb hkr R' rfl (by show (nl && false) = false; simp)
end Go.Proofs.YtefelnhpfdcleaaGreatDoor
namespace Go.Proofs.YtefelnhpfdcleaaGreatDoor
open Go Go.RowKit Go.Sx Go.Sort
set_option maxRecDepth 100000
set_option maxHeartbeats 2000000
/-! DeleteFunc of the empty strings, by the shelf. -/
def emptyP (x : ByteArray) : Bool := x.toList.isEmpty
theorem del1_run (x : ByteArray) (w : World) : Calls Tryz.prog 187 #[.string x] w fun e w' => e = .returned (.bool (emptyP x)) ∧ ∃ q, w' = w.drewN q := by
  go_enter Tryz.func187, Tryz.ntmps51
  go_wp2
  go_ret
  exact ⟨rfl, 0, rfl⟩
theorem emptyP_bytes (x : List UInt8) : (!emptyP (Sx.bytes x)) = neB x := by
  unfold emptyP neB Sx.bytes
  rw [Lib.toList_data]
  cases x <;> rfl
theorem filter_bytes (l : List (List UInt8)) : (l.map Sx.bytes).filter (fun x => !emptyP x) = (l.filter neB).map Sx.bytes := by
  rw [List.filter_map]
  congr 1
  refine List.filter_congr fun x _ => emptyP_bytes x
theorem bEnter51 : ∀ args w, (callFunc 187 args).run Tryz.prog w = .ok (.enter 187 args) w := enters_of Tryz.func187 (by kernel_rfl) rfl
theorem putRow_heap {α : Type} [Inhabited α] (enc : α → Value) (w : World) (blk off : Nat) (d : Array α) (k : Nat) : (putRow enc w blk off d).heap[k]? = if blk = k then (w.heap[k]?).map (onCells (putCells enc off d)) else w.heap[k]? := by
  unfold putRow mapBlock
  simp only [Array.getElem?_modify]
theorem delPut {w : World} {q b : Nat} {cur : Array Value} {fr : Nat × Nat} {t : TypeId} (hg : w.heap[b]? = some (.cells cur t fr)) (N : Array ByteArray) {i : Nat} (hi : i < N.size) (hc : N.size ≤ cur.size) : (putRow Value.string (Go.Sort.ahead w q) b 0 N).cell? ⟨b, i, none⟩ = some (.string N[i]!) := by
  have h1 : (putRow Value.string (Go.Sort.ahead w q) b 0 N).heap[b]? = some (.cells (putCells Value.string 0 N cur) t fr) := by
    rw [putRow_heap, if_pos rfl]
    have : (Go.Sort.ahead w q).heap[b]? = w.heap[b]? := rfl
    rw [this, hg]; rfl
  rw [cell_of_row _ b _ _ _ _ h1]
  simp only [putCells, Array.getElem?_mapIdx]
  rw [Array.getElem?_eq_getElem (by omega), Option.map_some, if_pos ⟨Nat.zero_le _, by omega⟩]
  rfl
def spDel : FSpec := fun _ xs ls K => ∃ (l : List (List UInt8)) (nb : Bool) (n : Int) (f : Nat → List SV), xs = [.osl (.a nb) (.a n) 0, .fn 187] ∧ ls = [.own 9 (.a n) 1 true f] ∧ RowS f n l ∧ 0 < l.length ∧ ∀ l' n', l' = l.filter neB → n' = (l'.length : Int) → K (.sl (.a false) (.a n') 1 (strRow l')) [.gone]
theorem delete_ok : FnOk Tryz.prog gl 186 spDel := by
  refine ⟨⟨Tryz.f186, _, Tryz.func186, rfl, by kernel_rfl⟩, fun xs ls K h => ?_⟩
  obtain ⟨l, nb, n, f, rfl, rfl, R, h0, h⟩ := h
  refine ⟨_, _, h _ _ rfl rfl, ?_⟩
  intro B E w vals hw0 hI0 hdom hb hg hh hr
  obtain ⟨v, m, xs, k1, kz, k2, k3, k4, k5, k6⟩ := hh 0
  have k3' : n = (m : Int) := k3
  have hm : m = l.length := by have := R.n; omega
  obtain ⟨u, g, rfl, hu, hgv⟩ := relL_two hr
  obtain ⟨huv, hnl⟩ := osl_val hu k1 k2 k3 rfl
  subst huv
  obtain rfl : g = .func (.func 187) #[] #[] := by
    cases hgv with
    | ro h => cases h with
      | fn h => exact h
  rcases k2.2 with ⟨e0, e1⟩ | ⟨b, cap, cur, fr, e0, hg2, hfr, hmc, hcm, hcs, htake⟩
  · omega
  subst e0
  obtain rfl : fr = (0, 0) := by
    rcases hfr with h | ⟨h, _⟩
    · exact h
    · cases h
  have hxl : xs.length = l.length := by rw [k2.1, hm]; simp
  have hxs : xs = l.map fun x => Value.string (Sx.bytes x) := by
    refine List.ext_getElem (by rw [hxl]; simp) fun i h1 h2 => ?_
    have hi : i < l.length := by omega
    have := k5.2 i 0 (.str (l.getD i [])) xs[i] (by omega) (by rw [R.f i hi]; rfl) (by simp [List.getElem?_eq_getElem h1])
    cases this with
    | str h =>
      rw [h, List.getElem_map, List.getD_eq_getElem?_getD, List.getElem?_eq_getElem hi]; rfl
  obtain ⟨hO, hnI⟩ := k6 b rfl
  have hlt : b < w.heap.size := (hb.Obd b 0 hO).1
  obtain ⟨d, hd⟩ : ∃ d, d = (l.map Sx.bytes).toArray := ⟨_, rfl⟩
  have hds : d.size = m := by rw [hd, hm]; simp
  have hdl : d.toList = l.map Sx.bytes := by rw [hd]
  have hH : Holds Value.string w b 0 d := by
    intro j hj
    have hj' : j < l.length := by omega
    refine ⟨?_, Lib.frozen_of_heap hg2 _⟩
    rw [cell_of_row w b _ cur _ _ hg2, Nat.zero_add]
    have h1 : cur.toList[j]? = some (Value.string (Sx.bytes l[j])) := by
      have : (cur.toList.take (m * 1))[j]? = xs[j]? := by rw [htake]
      rw [List.getElem?_take, if_pos (by omega), hxs] at this
      rw [this]
      simp [List.getElem?_eq_getElem hj']
    rw [← Array.getElem?_toList, h1, getElem!_pos d j hj]
    simp [hd]
  have hF : (d.toList.filter fun x => !emptyP x) = (l.filter neB).map Sx.bytes := by rw [hdl]; exact filter_bytes l
  have run := sh_slices_DeleteFunc Value.string (fun _ => rfl) emptyP 187 #[] bEnter51 ⟨#[]⟩ Tryz.zeroValue9 b 0 cap d w (fun W x _ => by simpa [FnGives] using del1_run x W) (fun q os dk x _ => by simpa [FnGives] using del1_run x _) hH (by have := R.len; omega) (by omega)
  rw [hF, hds] at run
  refine run.mono ?_
  clear run
  rintro e w' ⟨rfl, q, rfl⟩
  obtain ⟨l', hl'⟩ : ∃ l', l' = l.filter neB := ⟨_, rfl⟩
  rw [← hl']
  have hle : l'.length ≤ l.length := by rw [hl']; exact List.length_filter_le _ _
  obtain ⟨N, hN⟩ : ∃ N, N = (l'.map Sx.bytes ++ List.replicate (m - (l'.map Sx.bytes).length) (⟨#[]⟩ : ByteArray)).toArray := ⟨_, rfl⟩
  rw [← hN]
  have hNs : N.size = m := by rw [hN]; simp; omega
  have hNi : ∀ i, i < l'.length → N[i]! = Sx.bytes (l'.getD i []) := by
    intro i hi
    rw [getElem!_pos N i (by omega), List.getD_eq_getElem?_getD, List.getElem?_eq_getElem hi]
    simp only [hN, List.getElem_toArray]
    rw [List.getElem_append_left (by simpa using hi)]
    simp
  have hcell : ∀ i, i < l'.length → (putRow Value.string (Go.Sort.ahead w q) b 0 N).cell? ⟨b, i, none⟩ = some (.string (Sx.bytes (l'.getD i []))) := by
    intro i hi
    rw [delPut hg2 N (by omega) (by omega), hNi i hi]
  have hheap : ∀ k, k ≠ b → (putRow Value.string (Go.Sort.ahead w q) b 0 N).heap[k]? = w.heap[k]? := fun k hk => by rw [putRow_heap, if_neg (fun e => hk e.symm)]; rfl
  have hc2 : ∀ b2 o, b2 ≠ b → (putRow Value.string (Go.Sort.ahead w q) b 0 N).cell? ⟨b2, o, none⟩ = w.cell? ⟨b2, o, none⟩ := fun b2 o hb2 => by simp only [World.cell?]; rw [hheap b2 hb2]
  have hsz : (putRow Value.string (Go.Sort.ahead w q) b 0 N).heap.size = w.heap.size := by simp [putRow, mapBlock, Go.Sort.ahead]
  have hX := (hb.Obd b 0 hO).2
  let E' : Env := ⟨E.β, E.τ, E.O, E.κ, E.ζ, fun b2 o => E.I b2 o ∨ (b2 = b ∧ o < l'.length)⟩
  refine ⟨_, E', rfl, ⟨hb.os, hb.tape, hb.output, by rw [hsz]; exact hb.size, fun b2 hlt2 hnX => ?_, fun b2 o hi => ?_, fun b2 o hi => ?_, fun b2 o hi => ?_, fun b2 j hO2 => ?_, ⟨hb.β0.β, hb.β0.τ, hb.β0.ζ⟩⟩, fun k hk => ?_, ?_⟩
  · rw [hheap b2 (fun e => ?_)]
    · exact hb.old b2 hlt2 hnX
    · subst e
      rcases hX with h | h
      · omega
      · exact hnX h
  · obtain ⟨i1, i2⟩ := hb.I0 b2 o hi
    refine ⟨.inl i1, ?_⟩
    rw [hc2 b2 o (fun e => hnI o (by rw [← e]; exact i1))]; exact i2
  · rw [hsz]
    rcases hi with hi | ⟨rfl, _⟩
    · exact hb.Ibd b2 o hi
    · exact hlt
  · rcases hi with hi | ⟨rfl, _⟩
    · exact hb.Inew b2 o hi
    · exact .inr hX
  · rw [hsz]; exact hb.Obd b2 j hO2
  · obtain rfl : k = 0 := by simpa using hk
    trivial
  · refine .ro (.sl (fun i j => .string (Sx.bytes (l'.getD i []))) rfl ?_ ?_ hcm (fun _ => rfl) (fun i hi => rfl) (fun i j hi hj => rfl) (fun i j hi hj => ?_) (fun i j s hi hs => ?_))
    · show (l'.length : Int) = _
      simp
    · simp; omega
    · obtain rfl : j = 0 := by omega
      have hi : i < l'.length := by simpa using hi
      refine ⟨?_, .inr ⟨rfl, by simpa using hi⟩⟩
      simpa using hcell i hi
    · match j, hs with
      | 0, hs =>
        have hs : some (SV.str (l'.getD i [])) = some s := hs
        cases hs
        exact .str rfl
      | j + 1, hs => simp [strRow] at hs
end Go.Proofs.YtefelnhpfdcleaaGreatDoor
namespace Go.Proofs.YtefelnhpfdcleaaGreatDoor
open Go.Sx
set_option maxRecDepth 10000
set_option maxHeartbeats 2000000
/-! Elements, Has. -/
def elemsNil (s : List UInt8) : Bool := (refElementsF s).2 != 0
theorem elements_ok : FnOk Tryz.prog gl 173 (spElems refElementsF elemsNil) := by
  refine fnOk (gh := []) mixed cxOk (tabCons split_ok (tabCons delete_ok tabNil)) Tryz.func173 (by kernel_rfl) (by kernel_rfl) ?_
  intro xs ls K h
  unfold spElems at h
  obtain ⟨s, rfl, rfl, hl, h⟩ := h
  obtain ⟨k, hk⟩ : ∃ k, k = refElementsF s := ⟨_, rfl⟩
  obtain ⟨kl, ke⟩ := k
  obtain ⟨kn, hkn⟩ : ∃ kn : Int, kn = (kl.length : Int) := ⟨_, rfl⟩
  obtain ⟨knb, hknb⟩ : ∃ knb : Bool, knb = (ke != 0) := ⟨_, rfl⟩
  refine ⟨_, _, h kl ke kn knb hk hkn (by rw [hknb, elemsNil, ← hk]), fun D hD => ?_⟩
  clear h
  obtain ⟨kr, hkr⟩ : ∃ kr, kr = strRow kl := ⟨_, rfl⟩
  rw [← hkr]
  rw [refElementsF] at hk
  cbv
  refine br hD (fun h => ?_) (fun h => ?_) <;> cbv
  · have h : decide (2000 < (s.length : Int)) = true := h
    rw [if_pos (by simpa using h)] at hk
    exact finEl (f := fun _ => []) hD hk hkn hkr RowS.nil rfl (by simp only [Prod.mk.injEq] at hk; rw [hknb, hk.2]; rfl) rfl
  have h : decide (2000 < (s.length : Int)) = false := h
  have h2 : ¬ (2000 < (s.length : Int)) := by simpa using h
  rw [if_neg h2] at hk
  have hs : s.length ≤ 2000 := by omega
  clear h h2
  refine ⟨s, _, rfl, rfl, by omega, fun k l n b nb f hp0 hl' hn hb hnb hf => ?_⟩
  have hp : k = partsF 44 s := by subst hD; exact hp0
  clear hp0
  rw [← hp] at hk
  cbv
  refine br hD (fun h => ?_) (fun h => ?_) <;> cbv
  · have h : (!b) = true := h
    have hn0 : k = none := by
      cases k with
      | none => rfl
      | some l => rw [hb] at h; cases h
    rw [hn0] at hk
    exact finEl (f := fun _ => []) hD hk hkn hkr RowS.nil rfl (by simp only [Prod.mk.injEq] at hk; rw [hknb, hk.2]; rfl) rfl
  have h : (!b) = false := h
  obtain ⟨l0, rfl⟩ : ∃ l, k = some l := by
    cases k with
    | none => rw [hb] at h; cases h
    | some l => exact ⟨l, rfl⟩
  clear h
  obtain ⟨h1, h2, h3⟩ := partsF_len hp.symm
  simp only [Option.getD_some] at hl'
  have hll : l.length = l0.length := by rw [hl', List.length_map]
  have RL : RowS f n l := by rw [hf, hn]; exact RowS.row (by omega)
  have hl2e : l.filter neB = keepF l0 := by rw [hl', keepF]
  have hk2 : l.filter neB = kl ∧ ke = 0 := by simp only [Prod.mk.injEq] at hk; rw [hl2e]; exact ⟨hk.1.symm, hk.2⟩
  refine ⟨l, _, _, f, rfl, rfl, by subst hD; exact RL, by omega, fun l2 n2 hl2 hn2 => ?_⟩
  have hl3 : l2 = kl := by rw [hl2, hk2.1]
  have R2 : RowS (strRow l2) n2 l2 := by
    rw [hn2]; refine RowS.row ?_
    have : (l.filter neB).length ≤ l.length := List.length_filter_le _ _
    rw [hl2]; omega
  obtain ⟨g, hg⟩ : ∃ g, g = strRow l2 := ⟨_, rfl⟩
  rw [← hg] at R2 ⊢
  cbv
  exact finEl (f := g) (l' := l2) (e' := 0) hD (by rw [hl3, hk2.2]) hkn hkr R2 rfl (by rw [hknb, hk2.2]; rfl) rfl
/-! Has. -/
end Go.Proofs.YtefelnhpfdcleaaGreatDoor
namespace Go.Proofs.YtefelnhpfdcleaaGreatDoor
open Go Go.Sx
set_option maxRecDepth 10000
set_option maxHeartbeats 2000000
/-! Cut at one byte. -/
def cutF (c : UInt8) : List UInt8 → List UInt8 × List UInt8 × Bool
  | [] => ([], [], false)
  | b :: r => if b == c then ([], r, true) else (b :: (cutF c r).1, (cutF c r).2)
theorem cutF_no {c : UInt8} {s : List UInt8} (h : (cutF c s).2.2 = false) : (cutF c s).1 = s ∧ (cutF c s).2.1 = [] ∧ Lib.indexByte s c = -1 := by
  induction s with
  | nil => exact ⟨rfl, rfl, rfl⟩
  | cons b r ih =>
    simp only [cutF] at h ⊢
    split at h
    · cases h
    · rename_i hb
      obtain ⟨h1, h2, h3⟩ := ih h
      rw [if_neg hb]
      refine ⟨by rw [h1], h2, ?_⟩
      rw [Lib.indexByte, if_neg hb, h3]; rfl
theorem cutF_yes {c : UInt8} {s : List UInt8} (h : (cutF c s).2.2 = true) : Lib.indexByte s c = ((cutF c s).1.length : Int) ∧ (cutF c s).1 = s.take (cutF c s).1.length ∧ (cutF c s).2.1 = s.drop ((cutF c s).1.length + 1) ∧ (cutF c s).1.length < s.length := by
  induction s with
  | nil => cases h
  | cons b r ih =>
    simp only [cutF] at h ⊢
    by_cases hb : (b == c) = true
    · simp only [if_pos hb]
      rw [Lib.indexByte, if_pos hb]
      simp
    · rw [if_neg hb] at h ⊢
      obtain ⟨h1, h2, h3, h4⟩ := ih h
      rw [Lib.indexByte, if_neg hb, h1]
      refine ⟨?_, ?_, ?_, by simp; omega⟩
      · rw [if_neg (by simp)]; simp
      · simp only [List.length_cons, List.take_succ_cons]; rw [← h2]
      · simp only [List.length_cons, List.drop_succ_cons]; exact h3
def spIdx1 : FSpec := fun _ xs ls K => ∃ (s : List UInt8) (c : UInt8), xs = [.str s, .str [c]] ∧ ls = [] ∧ ∀ r : Int, r = Lib.indexByte s c → K (.int .i64 (.a r)) []
theorem index1_ok : FnOk Tryz.prog gl 107 spIdx1 := by
  refine ⟨⟨Tryz.f107, _, Tryz.func107, rfl, by kernel_rfl⟩, fun xs ls K h => ?_⟩
  obtain ⟨s, c, rfl, rfl, h⟩ := h
  refine ⟨_, _, h _ rfl, callsTo_below fun E B w vals _ _ _ hr => ?_⟩
  obtain ⟨v, u, rfl, hv, hu⟩ := relL_two hr
  rw [rel_str hv, rel_str hu]
  refine (sh_stringslite_Index_one ⟨s.toArray⟩ c w).mono ?_
  rintro e w' ⟨rfl, rfl⟩
  exact ⟨_, rfl, fun E => .ro (.int rfl), RowKit.Below.refl _ _⟩
def spCut : FSpec := fun _ xs ls K => ∃ (s : List UInt8) (c : UInt8), xs = [.str s, .str [c]] ∧ ls = [] ∧ s.length ≤ 100000 ∧ ∀ a b t, (a, b, t) = cutF c s → K (.tup [.str a, .str b, .bool (.a t)]) []
theorem finCut {D : Dn} (hD : D = dn) {a b a' b' : List UInt8} {t : Bool} {x : BT} (h : (a, b, t) = (a', b', x.den)) : Fin (.tup [.str a', .str b', .bool (.a (D.b x))]) (.tup [.str a, .str b, .bool (.a t)]) [] [] := by
  subst hD
  simp only [Prod.mk.injEq] at h
  obtain ⟨rfl, rfl, rfl⟩ := h
  exact finV (LeV.refl _)
theorem cut90_ok : FnOk Tryz.prog gl 74 spCut := by
  refine fnOk (gh := []) mixed cxOk (tabCons index1_ok tabNil) Tryz.func74 (by kernel_rfl) (by kernel_rfl) ?_
  intro xs ls K h
  unfold spCut at h
  obtain ⟨s, c, rfl, rfl, hl, h⟩ := h
  obtain ⟨k, hk⟩ : ∃ k, k = cutF c s := ⟨_, rfl⟩
  obtain ⟨ka, kb, kt⟩ := k
  refine ⟨_, _, h ka kb kt hk, fun D hD => ?_⟩
  clear h
  cbv
  refine ⟨s, c, rfl, rfl, fun r hr => ?_⟩
  cbv
  refine br hD (fun h => ?_) (fun h => ?_) <;> cbv
  · have h0 : 0 ≤ r := of_decide_eq_true (p := 0 ≤ r) h
    have hy : (cutF c s).2.2 = true := by
      cases hb : (cutF c s).2.2 with
      | true => rfl
      | false => rw [(cutF_no hb).2.2] at hr; omega
    obtain ⟨y1, y2, y3, y4⟩ := cutF_yes hy
    rw [← hk] at y1 y2 y3 y4 hy
    simp only at y1 y2 y3 y4 hy
    rw [← hr] at y1
    have hk' : (ka, kb, kt) = (ka, kb, true) := by rw [hy]
    clear hk hy h h0 hr
    have yr : ST.den (.a r) = ((ka.length : Nat) : Int) := y1
    have yr2 : ST.den (.bin .add .i64 (.a r) (.len [c])) = ((ka.length + 1 : Nat) : Int) := by
      show IntKind.i64.wrap (r + (([c] : List UInt8).length : Int)) = _
      rw [y1, List.length_singleton, wrap64 (by omega) (by omega)]; omega
    refine ⟨by subst hD; exact subS_of (s := s) (i := 0) (a := .l 0) rfl yr (by omega) (by omega), fun r1 hr1 => ?_⟩
    have hr1' : r1 = ka := by
      have := sub_of (i := 0) (a := .l 0) hD rfl yr hr1
      rw [this]; exact y2.symm
    clear hr1
    cbv
    refine ⟨by subst hD; exact subS_of (s := s) (j := s.length) (b := .len s) yr2 rfl (by omega) (Nat.le_refl _), fun r2 hr2 => ?_⟩
    have hr2' : r2 = kb := by
      have := sub_of (j := s.length) (b := .len s) hD yr2 rfl hr2
      rw [this, y3]; exact List.take_of_length_le (by simp)
    clear hr2
    cbv
    refine finCut (x := .l true) hD ?_
    rw [hk', hr1', hr2']; rfl
  · have h0 : ¬ 0 ≤ r := of_decide_eq_false (p := 0 ≤ r) h
    have hy : (cutF c s).2.2 = false := by
      cases hb : (cutF c s).2.2 with
      | false => rfl
      | true => rw [(cutF_yes hb).1] at hr; omega
    obtain ⟨y1, y2, y3⟩ := cutF_no hy
    refine finCut (x := .l false) hD ?_
    rw [hk]
    exact Prod.ext y1 (Prod.ext y2 hy)
theorem cut_ok : FnOk Tryz.prog gl 36 spCut := by
  refine fnOk (gh := []) mixed cxOk (tabCons cut90_ok tabNil) Tryz.func36 (by kernel_rfl) (by kernel_rfl) ?_
  intro xs ls K h
  unfold spCut at h
  obtain ⟨s, c, rfl, rfl, hl, h⟩ := h
  obtain ⟨k, hk⟩ : ∃ k, k = cutF c s := ⟨_, rfl⟩
  obtain ⟨ka, kb, kt⟩ := k
  refine ⟨_, _, h ka kb kt hk, fun D hD => ?_⟩
  clear h
  cbv
  refine ⟨s, c, rfl, rfl, hl, fun a b t he => ?_⟩
  cbv
  exact finCut hD (by rw [hk, ← he]; rfl)
end Go.Proofs.YtefelnhpfdcleaaGreatDoor
namespace Go.Proofs.YtefelnhpfdcleaaGreatDoor
open Go Go.Sx
set_option maxRecDepth 100000
set_option maxHeartbeats 8000000
/-! request: kinds of bytes. -/
/-- 0 never, 1 always, 2 may. -/
def kindN (c : Nat) : Int :=
  if (48 ≤ c ∧ c ≤ 57) ∨ (65 ≤ c ∧ c ≤ 90) ∨ (97 ≤ c ∧ c ≤ 122) ∨ c = 45 ∨ c = 46 ∨ c = 95 ∨ c = 126 then 1
  else if c = 33 ∨ c = 36 ∨ (38 ≤ c ∧ c ≤ 44) ∨ c = 47 ∨ c = 58 ∨ c = 59 ∨ c = 61 ∨ c = 64 then 2 else 0
def kindCells : List SV := (List.range 256).map fun c => .int .u8 (.a (kindN c))
/-- With the index as a literal. -/
def spIdxB : FSpec := fun _ xs ls K => ∃ (s : List UInt8) (c : Int), xs = [.str s, .int .u8 (.a c)] ∧ ls = [] ∧ (0 ≤ c ∧ c ≤ 255) ∧ ∀ r, r = Lib.indexByte s (UInt8.ofNat c.toNat) → K (.int .i64 (.a r)) []
end Go.Proofs.YtefelnhpfdcleaaGreatDoor
/-! What the shelf of library contracts says of this program (written by the kit's tool). -/
namespace Go.Proofs.YtefelnhpfdcleaaGreatDoor
open Go Go.Shelf Go.RowKit Go.Sort Go.Lib
set_option maxRecDepth 100000
set_option maxHeartbeats 4000000
def sh_laysC174_ren : Go.Shelf.Ren := ⟨fun | 174 => 126 | 247 => 148 | 245 => 149 | 287 => 167 | 279 => 168 | 280 => 169 | 281 => 170 | 282 => 171 | 321 => 180 | 322 => 181 | 316 => 182 | 171 => 140 | 205 => 183 | 243 => 161 | 246 => 160 | 283 => 175 | 284 => 176 | 285 => 177 | 286 => 178 | 129 => 189 | 317 => 188 | 318 => 190 | 319 => 191 | 320 => 192 | 337 => 196 | 338 => 197 | n => n, fun | 9 => 9 | 3 => 3 | 2 => 2 | 75 => 107 | 85 => 135 | 4 => 4 | 167 => 164 | 5 => 5 | 53 => 165 | 175 => 166 | 46 => 101 | 168 => 168 | 37 => 36 | 0 => 0 | 210 => 185 | 21 => 21 | 127 => 124 | 145 => 196 | 143 => 194 | 171 => 175 | 173 => 178 | 212 => 190 | 51 => 153 | 20 => 20 | 213 => 191 | 232 => 200 | 233 => 201 | 80 => 110 | n => n, fun | 15 => 4 | 16 => 5 | 17 => 6 | 18 => 7 | 19 => 8 | n => n⟩
theorem sh_laysC174 : Go.Proofs.LaysC.n174 Tryz.prog sh_laysC174_ren := {
  mixed := by kernel_rfl
  f129 := Tryz.func189.trans (congrArg some (by kernel_rfl))
  f171 := Tryz.func140.trans (congrArg some (by kernel_rfl))
  f174 := Tryz.func126.trans (congrArg some (by kernel_rfl))
  f205 := Tryz.func183.trans (congrArg some (by kernel_rfl))
  f243 := Tryz.func161.trans (congrArg some (by kernel_rfl))
  f245 := Tryz.func149.trans (congrArg some (by kernel_rfl))
  f246 := Tryz.func160.trans (congrArg some (by kernel_rfl))
  f247 := Tryz.func148.trans (congrArg some (by kernel_rfl))
  f279 := Tryz.func168.trans (congrArg some (by kernel_rfl))
  f280 := Tryz.func169.trans (congrArg some (by kernel_rfl))
  f281 := Tryz.func170.trans (congrArg some (by kernel_rfl))
  f282 := Tryz.func171.trans (congrArg some (by kernel_rfl))
  f283 := Tryz.func175.trans (congrArg some (by kernel_rfl))
  f284 := Tryz.func176.trans (congrArg some (by kernel_rfl))
  f285 := Tryz.func177.trans (congrArg some (by kernel_rfl))
  f286 := Tryz.func178.trans (congrArg some (by kernel_rfl))
  f287 := Tryz.func167.trans (congrArg some (by kernel_rfl))
  f316 := Tryz.func182.trans (congrArg some (by kernel_rfl))
  f317 := Tryz.func188.trans (congrArg some (by kernel_rfl))
  f318 := Tryz.func190.trans (congrArg some (by kernel_rfl))
  f319 := Tryz.func191.trans (congrArg some (by kernel_rfl))
  f320 := Tryz.func192.trans (congrArg some (by kernel_rfl))
  f321 := Tryz.func180.trans (congrArg some (by kernel_rfl))
  f322 := Tryz.func181.trans (congrArg some (by kernel_rfl))
  f337 := Tryz.func196.trans (congrArg some (by kernel_rfl))
  f338 := Tryz.func197.trans (congrArg some (by kernel_rfl))
  t0 := Tryz.underlying0
  a0 := Tryz.isAgg0
  z0 := Tryz.sizeOf0
  v0 := Tryz.zeroValue0
  t2 := Tryz.underlying2
  a2 := Tryz.isAgg2
  z2 := Tryz.sizeOf2
  v2 := Tryz.zeroValue2
  t3 := Tryz.underlying3
  a3 := Tryz.isAgg3
  z3 := Tryz.sizeOf3
  v3 := Tryz.zeroValue3
  t4 := Tryz.underlying4
  a4 := Tryz.isAgg4
  z4 := Tryz.sizeOf4
  v4 := Tryz.zeroValue4
  t5 := Tryz.underlying5
  a5 := Tryz.isAgg5
  z5 := Tryz.sizeOf5
  v5 := Tryz.zeroValue5
  t9 := Tryz.underlying9
  a9 := Tryz.isAgg9
  z9 := Tryz.sizeOf9
  v9 := Tryz.zeroValue9
  t20 := Tryz.underlying20
  a20 := Tryz.isAgg20
  z20 := Tryz.sizeOf20
  v20 := Tryz.zeroValue20
  t21 := Tryz.underlying21
  a21 := Tryz.isAgg21
  z21 := Tryz.sizeOf21
  v21 := Tryz.zeroValue21
  t37 := Tryz.underlying36
  a37 := Tryz.isAgg36
  z37 := Tryz.sizeOf36
  v37 := Tryz.zeroValue36
  t46 := Tryz.underlying101
  a46 := Tryz.isAgg101
  z46 := Tryz.sizeOf101
  v46 := Tryz.zeroValue101
  t51 := Tryz.underlying153
  a51 := Tryz.isAgg153
  z51 := Tryz.sizeOf153
  v51 := Tryz.zeroValue153
  t53 := Tryz.underlying165
  a53 := Tryz.isAgg165
  z53 := Tryz.sizeOf165
  v53 := Tryz.zeroValue165
  t75 := Tryz.underlying107
  a75 := Tryz.isAgg107
  z75 := Tryz.sizeOf107
  v75 := Tryz.zeroValue107
  t85 := Tryz.underlying135
  a85 := Tryz.isAgg135
  z85 := Tryz.sizeOf135
  v85 := Tryz.zeroValue135
  t127 := Tryz.underlying124
  a127 := Tryz.isAgg124
  z127 := Tryz.sizeOf124
  v127 := Tryz.zeroValue124
  t143 := Tryz.underlying194
  a143 := Tryz.isAgg194
  z143 := Tryz.sizeOf194
  v143 := Tryz.zeroValue194
  t145 := Tryz.underlying196
  a145 := Tryz.isAgg196
  z145 := Tryz.sizeOf196
  v145 := Tryz.zeroValue196
  t167 := Tryz.underlying164
  a167 := Tryz.isAgg164
  z167 := Tryz.sizeOf164
  v167 := Tryz.zeroValue164
  t168 := Tryz.underlying168
  a168 := Tryz.isAgg168
  z168 := Tryz.sizeOf168
  v168 := Tryz.zeroValue168
  t171 := Tryz.underlying175
  a171 := Tryz.isAgg175
  z171 := Tryz.sizeOf175
  v171 := Tryz.zeroValue175
  t173 := Tryz.underlying178
  a173 := Tryz.isAgg178
  z173 := Tryz.sizeOf178
  v173 := Tryz.zeroValue178
  t175 := Tryz.underlying166
  a175 := Tryz.isAgg166
  z175 := Tryz.sizeOf166
  v175 := Tryz.zeroValue166
  t210 := Tryz.underlying185
  a210 := Tryz.isAgg185
  z210 := Tryz.sizeOf185
  v210 := Tryz.zeroValue185
  t212 := Tryz.underlying190
  a212 := Tryz.isAgg190
  z212 := Tryz.sizeOf190
  v212 := Tryz.zeroValue190
  t213 := Tryz.underlying191
  a213 := Tryz.isAgg191
  z213 := Tryz.sizeOf191
  t232 := Tryz.underlying200
  a232 := Tryz.isAgg200
  z232 := Tryz.sizeOf200
  v232 := Tryz.zeroValue200
  t233 := Tryz.underlying201
  a233 := Tryz.isAgg201
  z233 := Tryz.sizeOf201
  v233 := Tryz.zeroValue201
  g15 := by kernel_rfl
  g16 := by kernel_rfl
  g17 := by kernel_rfl
  g18 := by kernel_rfl
  g19 := by kernel_rfl
  t80 := Tryz.underlying110
  a80 := Tryz.isAgg110
  z80 := Tryz.sizeOf110
  v80 := Tryz.zeroValue110
  i0 := by kernel_rfl
  i2 := by kernel_rfl
  i3 := by kernel_rfl
  i4 := by kernel_rfl
  i5 := by kernel_rfl
  i9 := by kernel_rfl
  i20 := by kernel_rfl
  i21 := by kernel_rfl
  i37 := by kernel_rfl
  i46 := by kernel_rfl
  i51 := by kernel_rfl
  i53 := by kernel_rfl
  i75 := by kernel_rfl
  i80 := by kernel_rfl
  i85 := by kernel_rfl
  i127 := by kernel_rfl
  i143 := by kernel_rfl
  i145 := by kernel_rfl
  i167 := by kernel_rfl
  i168 := by kernel_rfl
  i171 := by kernel_rfl
  i173 := by kernel_rfl
  i175 := by kernel_rfl
  i210 := by kernel_rfl
  i212 := by kernel_rfl
  i232 := by kernel_rfl
  i233 := by kernel_rfl
  m15 := by kernel_rfl
  m16 := by kernel_rfl
  m17 := by kernel_rfl
  m18 := by kernel_rfl
  m19 := by kernel_rfl
  c0 := by kernel_rfl
  c2 := by kernel_rfl
  c3 := by kernel_rfl
  c4 := by kernel_rfl
  c5 := by kernel_rfl
  c9 := by kernel_rfl
  c20 := by kernel_rfl
  c21 := by kernel_rfl
  c37 := by kernel_rfl
  c46 := by kernel_rfl
  c51 := by kernel_rfl
  c53 := by kernel_rfl
  c75 := by kernel_rfl
  c80 := by kernel_rfl
  c85 := by kernel_rfl
  c127 := by kernel_rfl
  c143 := by kernel_rfl
  c145 := by kernel_rfl
  c167 := by kernel_rfl
  c168 := by kernel_rfl
  c171 := by kernel_rfl
  c173 := by kernel_rfl
  c175 := by kernel_rfl
  c210 := by kernel_rfl
  c212 := by kernel_rfl
  c213 := by kernel_rfl
  c232 := by kernel_rfl
  c233 := by kernel_rfl }
/-- strconv.ParseInt(s, 10, 64), AT EVERY STRING THAT SPELLS AN int64 ('Lib.parseIntB 64 s.data.toList = .ok v'): v, AND NO ERROR. (LAID: no walk: one application.) -/
theorem sh_strconv_ParseInt_10_at64_ok (s : ByteArray) (hmax : s.size ≤ 9223372036854775806) (v : Int) (h : Lib.parseIntB 64 s.data.toList = .ok v) (w : World) :
    Calls Tryz.prog 126 #[.string s, .int .i64 10, .int .i64 64] w fun e w' => e = .returned (.tuple #[.int .i64 v, .nilIface]) ∧ (w' = w ∨ ∃ t, w' = Lib.bytesWorld w 5 t) := Any.strconv_ParseInt_10_at64_ok sh_laysC174 s hmax v h w
theorem sh_strconv_ParseInt_10_at64_range_var (s : ByteArray) (hlim : s.size ≤ 281474976710656) (h : Lib.parseIntB 64 s.data.toList = .range) (tp : TypeId) (p : Value) (w : World) (hvar : w.var? Tryz.prog "strconv.ErrRange" = some #[.iface tp p]) :
    Calls Tryz.prog 126 #[.string s, .int .i64 10, .int .i64 64] w fun e w' => ∃ N, e = .returned (.tuple #[.int .i64 (Lib.intSat 64 s.data.toList), .iface 168 (.pointer (some ⟨N, 0, none⟩))]) ∧ w.heap.size ≤ N ∧ w'.heap[N]? = some (.cells #[.string ⟨#[80, 97, 114, 115, 101, 73, 110, 116]⟩, .string s, .iface tp p] 185 (0, 0)) ∧ Below w.heap.size w w' := Any.strconv_ParseInt_10_at64_range_var sh_laysC174 s hlim h tp p w hvar
def sh_laysGw17_ren : Go.Shelf.Ren := ⟨fun | 17 => 116 | 15 => 142 | 20 => 162 | n => n, fun | 9 => 9 | 23 => 127 | 4 => 4 | 3 => 3 | 0 => 0 | 21 => 21 | n => n, fun | n => n⟩
theorem sh_laysGw17 : Go.Proofs.LaysGw.n17 Tryz.prog sh_laysGw17_ren := {
  mixed := by kernel_rfl
  f15 := Tryz.func142.trans (congrArg some (by kernel_rfl))
  f17 := Tryz.func116.trans (congrArg some (by kernel_rfl))
  f20 := Tryz.func162.trans (congrArg some (by kernel_rfl))
  t0 := Tryz.underlying0
  a0 := Tryz.isAgg0
  z0 := Tryz.sizeOf0
  v0 := Tryz.zeroValue0
  i0 := by kernel_rfl
  t3 := Tryz.underlying3
  a3 := Tryz.isAgg3
  z3 := Tryz.sizeOf3
  v3 := Tryz.zeroValue3
  i3 := by kernel_rfl
  t4 := Tryz.underlying4
  a4 := Tryz.isAgg4
  z4 := Tryz.sizeOf4
  v4 := Tryz.zeroValue4
  i4 := by kernel_rfl
  t9 := Tryz.underlying9
  a9 := Tryz.isAgg9
  z9 := Tryz.sizeOf9
  v9 := Tryz.zeroValue9
  i9 := by kernel_rfl
  t21 := Tryz.underlying21
  a21 := Tryz.isAgg21
  z21 := Tryz.sizeOf21
  v21 := Tryz.zeroValue21
  i21 := by kernel_rfl
  t23 := Tryz.underlying127
  a23 := Tryz.isAgg127
  z23 := Tryz.sizeOf127
  v23 := Tryz.zeroValue127
  i23 := by kernel_rfl }
theorem sh_strings_ContainsFunc_grows (g : Nat) (lb : Array Value) (eg : ∀ args w, (callFunc g args).run Tryz.prog w = .ok (.enter g args) w) (p : Nat → Bool) (s : ByteArray) (w : World) (hp : PredGrows Tryz.prog g lb p w) :
    Calls Tryz.prog 116 #[.string s, .func (.func g) #[] lb] w fun e w' => e = .returned (.bool (decide (0 ≤ Lib.idxFunc p true s))) ∧ Below w.heap.size w w' := Any.strings_ContainsFunc_grows sh_laysGw17 g lb eg p s w hp
end Go.Proofs.YtefelnhpfdcleaaGreatDoor
