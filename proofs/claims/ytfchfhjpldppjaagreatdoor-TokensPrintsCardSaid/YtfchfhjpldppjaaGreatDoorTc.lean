/- Part of the proofs of the statements about tokens (layer 5): contracts of functions; it has no conditions of its own. -/
import Derived.Lib.Walk
import Derived.WalkKit
import Derived.Test.YtfchfhjpldppjaaGreatDoorTb
namespace Go.Proofs.YtfchfhjpldppjaaGreatDoor
open Go.Sx
set_option maxRecDepth 10000
set_option maxHeartbeats 2000000
/-! ContainsFunc of Has. -/
def foldEq (t s : List UInt8) : Bool := foldF s == foldF t
def spHas1 : FSpec := fun _ xs ls K => ∃ (s t : List UInt8), xs = [.str s, .ptr 0 0] ∧ ls = [.blk 9 [.str t]] ∧ s.length ≤ 9223372036854775807 ∧ t.length ≤ 9223372036854775807 ∧ ∀ r : Bool, r = foldEq t s → K (.bool (.a r)) [.blk 9 [.str t]]
theorem has1_ok : FnOk Tryz.prog gl 55 spHas1 := by
  refine fnOk (gh := []) mixed cxOk (tabCons fold_ok tabNil) Tryz.func55 (by kernel_rfl) (by kernel_rfl) ?_
  intro xs ls K h
  unfold spHas1 at h
  obtain ⟨s, t, rfl, rfl, hs, ht, h⟩ := h
  obtain ⟨k, hk⟩ : ∃ k, k = foldEq t s := ⟨_, rfl⟩
  refine ⟨_, _, h k hk, fun D hD => ?_⟩
  clear h
  cbv
  refine ⟨_, rfl, rfl, hs, fun a ha => ?_⟩
  cbv
  refine ⟨_, rfl, rfl, ht, fun b hb => ?_⟩
  cbv
  refine ⟨leBool ?_, LeH.refl _, Nat.le_refl _⟩
  subst hD
  show (a == b) = k
  rw [hk, ha, hb, foldEq]
def idxS (p : List UInt8 → Bool) (l : List (List UInt8)) (i : Nat) : Int := match (l.drop i).findIdx? p with
  | none => -1
  | some j => ((i + j : Nat) : Int)
theorem idxS_yes {p : List UInt8 → Bool} {l : List (List UInt8)} {i : Nat} (h : i < l.length) (hp : p (l.getD i []) = true) : idxS p l i = (i : Int) := by
  rw [idxS, dropR (d := []) h, List.findIdx?_cons, hp]; rfl
theorem idxS_no {p : List UInt8 → Bool} {l : List (List UInt8)} {i : Nat} (h : i < l.length) (hp : p (l.getD i []) = false) : idxS p l i = idxS p l (i + 1) := by
  rw [idxS, dropR (d := []) h, List.findIdx?_cons, hp, idxS]
  cases (l.drop (i + 1)).findIdx? p with
  | none => rfl
  | some j => simp; omega
theorem idxS_end {p : List UInt8 → Bool} {l : List (List UInt8)} {i : Nat} (h : i = l.length) : idxS p l i = -1 := by
  rw [idxS, h, List.drop_length]; rfl
theorem idxS_any (p : List UInt8 → Bool) (l : List (List UInt8)) : decide (0 ≤ idxS p l 0) = l.any p := by
  rw [idxS, List.drop_zero]
  cases h : l.findIdx? p with
  | none =>
    rw [List.findIdx?_eq_none_iff] at h
    have : l.any p = false := by rw [List.any_eq_false]; intro x hx; simp [h x hx]
    rw [this]; rfl
  | some j =>
    have : l.any p = true := by
      rw [List.findIdx?_eq_some_iff_getElem] at h
      obtain ⟨hj, h1, _⟩ := h
      exact List.any_eq_true.2 ⟨_, List.getElem_mem hj, h1⟩
    rw [this]
    simp
structure IxS (l : List (List UInt8)) (i : Nat) (I L : Int) (m : Nat) : Prop where
  at_ : AtR l i I m
  L : L = l.length
def ixsJ (k : Int) (t : List UInt8) (l : List (List UInt8)) (f : Nat → List SV) (nl : Bool) (n : Int) (m : Nat) (vs : List (Option SV)) (hp : List Hl) : Prop :=
  ∃ (i : Nat) (I L : Int), vs = [some (.sl (.a nl) (.a n) 1 f), some (.clo 55 [.ptr 0 0]), some (.int .i64 (.a L)), some (.int .i64 (.a I))] ∧ hp = [.blk 9 [.str t]] ∧ IxS l i I L m ∧ k = idxS (foldEq t) l i
def spIdxS : FSpec := fun _ xs ls K => ∃ (l : List (List UInt8)) (t : List UInt8) (nl : Bool) (n : Int) (f : Nat → List SV), xs = [.sl (.a nl) (.a n) 1 f, .clo 55 [.ptr 0 0]] ∧ ls = [.blk 9 [.str t]] ∧ RowS f n l ∧ (∀ x ∈ l, x.length ≤ 9223372036854775807) ∧ t.length ≤ 9223372036854775807 ∧ ∀ r : Int, r = idxS (foldEq t) l 0 → K (.int .i64 (.a r)) [.blk 9 [.str t]]
theorem idx55_ok : FnOk Tryz.prog gl 80 spIdxS := by
  refine fnOk (gh := []) mixed cxOk (tabCons has1_ok tabNil) Tryz.func80 (by kernel_rfl) (by kernel_rfl) ?_
  intro xs ls K h
  unfold spIdxS at h
  obtain ⟨l, t, nl, n, f, rfl, rfl, R, hl, ht, h⟩ := h
  obtain ⟨k, hk⟩ : ∃ k, k = idxS (foldEq t) l 0 := ⟨_, rfl⟩
  refine ⟨_, _, h k hk, fun D hD => ?_⟩
  clear h
  cbv
  obtain ⟨J, hJ⟩ : ∃ J, J = ixsJ k t l f nl n := ⟨_, rfl⟩
  refine ⟨[0, 1, 7, 8], J, ⟨rfl, l.length, ?_⟩, ?_⟩
  · rw [hJ]
    subst hD
    exact ⟨0, 0, _, rfl, rfl, ⟨AtR.zero R.len, R.n⟩, hk⟩
  clear hk
  intro m vs hp' hv
  rw [hJ] at hv
  unfold ixsJ at hv
  obtain ⟨i, I, L, rfl, rfl, V, hk⟩ := hv
  cbv
  refine br hD (fun h => ?_) (fun h => ?_) <;> cbv
  · have hlt := V.at_.lt V.L (of_decide_eq_true (p := I < L) h)
    clear h
    refine ⟨V.at_.inB hD R.n hlt, fun j hj => ?_⟩
    obtain rfl := V.at_.j hD hj
    clear hj
    have e1 := R.f j hlt
    have hxl := hl (l.getD j []) (by rw [List.getD_eq_getElem?_getD, List.getElem?_eq_getElem hlt]; exact List.getElem_mem hlt)
    have hyes := idxS_yes (p := foldEq t) hlt
    have hno := idxS_no (p := foldEq t) hlt
    obtain ⟨x, hx⟩ : ∃ x, x = l.getD j [] := ⟨_, rfl⟩
    rw [← hx] at e1 hxl hyes hno
    cbv
    rw [e1]
    cbv
    refine ⟨x, t, rfl, rfl, hxl, ht, fun r hr => ?_⟩
    cbv
    refine br hD (fun h => ?_) (fun h => ?_) <;> cbv
    · have h : r = true := h
      refine ⟨leInt ?_, LeH.refl _, Nat.le_refl _⟩
      subst hD
      rw [hk, hyes (by rw [← hr]; exact h)]
      exact V.at_.I
    · have h : r = false := h
      rw [hno (by rw [← hr]; exact h)] at hk
      refine ⟨l.length - (j + 1), (V.at_.step hD hlt).1, ?_⟩
      rw [hJ]
      subst hD
      exact ⟨j + 1, _, _, rfl, rfl, ⟨(V.at_.step rfl hlt).2, V.L⟩, hk⟩
  · have hi := V.at_.eq V.L (of_decide_eq_false (p := I < L) h)
    refine ⟨leInt ?_, LeH.refl _, Nat.le_refl _⟩
    subst hD
    rw [hk, idxS_end hi]; rfl
def spAnyS : FSpec := fun _ xs ls K => ∃ (l : List (List UInt8)) (t : List UInt8) (nl : Bool) (n : Int) (f : Nat → List SV), xs = [.sl (.a nl) (.a n) 1 f, .clo 55 [.ptr 0 0]] ∧ ls = [.blk 9 [.str t]] ∧ RowS f n l ∧ (∀ x ∈ l, x.length ≤ 9223372036854775807) ∧ t.length ≤ 9223372036854775807 ∧ ∀ r : Bool, r = l.any (foldEq t) → K (.bool (.a r)) [.blk 9 [.str t]]
theorem contains55_ok : FnOk Tryz.prog gl 54 spAnyS := by
  refine fnOk (gh := []) mixed cxOk (tabCons idx55_ok tabNil) Tryz.func54 (by kernel_rfl) (by kernel_rfl) ?_
  intro xs ls K h
  unfold spAnyS at h
  obtain ⟨l, t, nl, n, f, rfl, rfl, R, hl, ht, h⟩ := h
  obtain ⟨k, hk⟩ : ∃ k, k = l.any (foldEq t) := ⟨_, rfl⟩
  refine ⟨_, _, h k hk, fun D hD => ?_⟩
  clear h
  cbv
  refine ⟨l, t, _, _, _, rfl, rfl, by subst hD; exact R, hl, ht, fun r hr => ?_⟩
  cbv
  refine ⟨leBool ?_, LeH.refl _, Nat.le_refl _⟩
  subst hD
  rw [hk, ← idxS_any, ← hr]; rfl
end Go.Proofs.YtfchfhjpldppjaaGreatDoor
namespace Go.Proofs.YtfchfhjpldppjaaGreatDoor
open Go Go.Sx
set_option maxRecDepth 10000
set_option maxHeartbeats 2000000
/-! trim, by the shelf's strings.Trim. -/
theorem trimR_cons (c : UInt8) (r : List UInt8) : trimR (c :: r) = if (trimR r).isEmpty then (if blankB c then [] else [c]) else c :: trimR r := by
  unfold trimR
  rw [List.reverse_cons, List.dropWhile_append, List.isEmpty_reverse]
  split
  · by_cases h : blankB c = true
    · rw [if_pos h, List.dropWhile_cons_of_pos h]; rfl
    · rw [if_neg h, List.dropWhile_cons_of_neg h]; rfl
  · rw [List.reverse_append]; rfl
theorem trim_comm (s : List UInt8) : trimR (trimL s) = trimL (trimR s) := by
  induction s with
  | nil => rfl
  | cons c r ih =>
    by_cases h : blankB c = true
    · rw [trimL_cons h, ih, trimR_cons]
      split
      · rename_i he
        rw [List.isEmpty_iff.1 he]
      · rw [trimL_cons h]
    · have e : trimL (c :: r) = c :: r := by rw [trimL, List.dropWhile_cons_of_neg h]
      rw [e, trimR_cons]
      split
      · rw [trimL, List.dropWhile_cons_of_neg h]
      · rw [trimL, List.dropWhile_cons_of_neg h]
theorem blank_in (c : UInt8) : [32, 9].contains c = blankB c := by
  have : ∀ n : Fin 256, [32, 9].contains (UInt8.ofNat n.1) = blankI (n.1 : Int) := by decide
  have h := this ⟨c.toNat, c.toNat_lt⟩
  simp only [UInt8.ofNat_toNat] at h
  exact h
theorem trimS_eq (s : List UInt8) : Lib.trimS s [32, 9] = trimF s := by
  rw [trimF, trim_comm]
  unfold Lib.trimS Lib.trimLeftS Lib.trimRightS trimL trimR
  have e : (fun x => [32, 9].contains x) = blankB := funext blank_in
  rw [e]
def spTrim64 : FSpec := fun _ xs ls K => ∃ (s c : List UInt8), xs = [.str s, .str c] ∧ ls = [] ∧ s.length ≤ 9223372036854775807 ∧ c.length < 1000 ∧ (c.all fun b => decide (b.toNat < 128)) = true ∧ ∀ r, r = Lib.trimS s c → K (.str r) []
theorem trim64_ok : FnOk Tryz.prog gl 64 spTrim64 := by
  refine ⟨⟨Tryz.f64, _, Tryz.func64, rfl, by kernel_rfl⟩, fun xs ls K h => ?_⟩
  obtain ⟨s, c, rfl, rfl, hs, hc, ha, h⟩ := h
  refine ⟨_, _, h _ rfl, callsTo_below fun E B w vals _ _ _ hr => ?_⟩
  obtain ⟨v, u, rfl, hv, hu⟩ := relL_two hr
  rw [rel_str hv, rel_str hu]
  refine (Any.strings_Trim_laid tlays160 (by kernel_rfl) ⟨s.toArray⟩ ⟨c.toArray⟩ w (by simpa [ByteArray.size] using hs) (by simp [ByteArray.size]; omega) (ascii_of_all (by simpa using ha))).mono ?_
  rintro e w' ⟨rfl, hB⟩
  exact ⟨_, rfl, fun E => .ro (.str rfl), hB⟩
theorem trim_ok : FnOk Tryz.prog gl 79 (spStrS trimF) := by
  refine fnOk (gh := []) mixed cxOk (tabCons trim64_ok tabNil) Tryz.func79 (by kernel_rfl) (by kernel_rfl) ?_
  intro xs ls K h
  unfold spStrS at h
  obtain ⟨s, rfl, rfl, hl, h⟩ := h
  obtain ⟨k, hk⟩ : ∃ k, k = trimF s := ⟨_, rfl⟩
  refine ⟨_, _, h k hk, fun D hD => ?_⟩
  clear h
  cbv
  refine ⟨s, [32, 9], rfl, rfl, hl, by decide, by decide, fun r hr => ?_⟩
  cbv
  exact finStr (by rw [hr, hk, trimS_eq])
end Go.Proofs.YtfchfhjpldppjaaGreatDoor
namespace Go.Proofs.YtfchfhjpldppjaaGreatDoor
open Go.Sx
set_option maxRecDepth 10000
set_option maxHeartbeats 2000000
/-! split. -/
def spI (y : Int) (s : List UInt8) : Option (List (List UInt8)) := (partsF y s).map (List.map trimF)
def spSplit : FSpec := fun _ xs ls K => ∃ (s : List UInt8) (y : Int), xs = [.str s, .int .u8 (.a y)] ∧ ls = [] ∧ s.length ≤ 100000 ∧ ∀ (k : Option (List (List UInt8))) (l : List (List UInt8)) (n : Int) (b nb : Bool) (f : Nat → List SV), k = partsF y s → l = (k.getD []).map trimF → n = (l.length : Int) → b = k.isSome → nb = k.isNone → f = strRow l → K (.tup [.osl (.a nb) (.a n) 0, .bool (.a b)]) [.own 9 (.a n) 1 true f]
structure SpI (s : List UInt8) (out : List (List UInt8)) (a i : Nat) (A I : Int) (m : Nat) : Prop where
  at_ : At s i I m
  ale : a ≤ i
  A : ST.den (.a A) = (a : Int)
  out : out.length ≤ i
  s : s.length ≤ 100000
def splJ (s : List UInt8) (y : Int) (k : Option (List (List UInt8))) (m : Nat) (vs : List (Option SV)) (hp : List Hl) : Prop :=
  ∃ (i a : Nat) (I A n : Int) (nl : Bool) (f : Nat → List SV) (out : List (List UInt8)), vs = [some (.str s), some (.int .u8 (.a y)), some (.osl (.a nl) (.a n) 0), some (.int .i64 (.a A)), some (.int .i64 (.a I))] ∧ hp = [.own 9 (.a n) 1 true f] ∧
    SpI s out a i A I m ∧ RowS f n (out.map trimF) ∧ k = pAt y s out a i
def qOf : Option (Nat × List UInt8) → Int
  | none => 0
  | some x => ((1 + x.1 : Nat) : Int)
theorem qOf_zero {o : Option (Nat × List UInt8)} (h : (qOf o == 0) = true) : o = none := by
  cases o with
  | none => rfl
  | some x => simp only [qOf, beq_iff_eq] at h; omega
theorem qOf_some {o : Option (Nat × List UInt8)} (h : (qOf o == 0) = false) : ∃ x, o = some x ∧ qOf o = ((1 + x.1 : Nat) : Int) := by
  cases o with
  | none => simp [qOf] at h
  | some x => exact ⟨x, rfl, rfl⟩
theorem quotedF_drop {s : List UInt8} {i : Nat} : quotedF (s.drop i) = qOf (qdF plainI (s.drop (i + 1))) := by
  rw [quotedF, qAt, qdF_some, List.drop_drop, show i + (0 + 1) = i + 1 by omega]
  cases qdF plainI (s.drop (i + 1)) with
  | none => rfl
  | some x => simp only [qOf]
theorem finSpl0 {D : Dn} (hD : D = dn) {k : Option (List (List UInt8))} {kl : List (List UInt8)} {kn : Int} {kb knb : Bool} {kr g : Nat → List SV} (hk : k = none) (hkl : kl = (k.getD []).map trimF) (hkn : kn = (kl.length : Int)) (hkb : kb = k.isSome) (hknb : knb = k.isNone) :
    Fin (.tup [.osl (.a (D.b (.l true))) (.a (D.i (.l 0))) 0, .bool (.a (D.b (.l false)))]) (.tup [.osl (.a knb) (.a kn) 0, .bool (.a kb)]) [.own 9 (.a (D.i (.l 0))) 1 true g] [.own 9 (.a kn) 1 true kr] := by
  subst hD hk
  have e : kn = 0 := by rw [hkn, hkl]; rfl
  refine finOwn (.tup (.cons (leOsl (by rw [hknb]; rfl) (by rw [e]; rfl)) (.cons (leBool (by rw [hkb]; rfl)) .nil))) (by rw [e]; rfl) fun i hi => ?_
  have hi : (i : Int) < 0 := hi
  omega
theorem finSpl1 {D : Dn} (hD : D = dn) {k : Option (List (List UInt8))} {l kl : List (List UInt8)} {kn : Int} {kb knb : Bool} {kr f : Nat → List SV} (hk : k = some l) (hkl : kl = (k.getD []).map trimF) (hkn : kn = (kl.length : Int)) (hkb : kb = k.isSome) (hknb : knb = k.isNone) (hkr : kr = strRow kl)
    {n : Int} (R : RowS f n (l.map trimF)) {x : BT} {y : ST} (hy : y.den = n) (hx : x.den = false) : Fin (.tup [.osl (.a (D.b x)) (.a (D.i y)) 0, .bool (.a (D.b (.l true)))]) (.tup [.osl (.a knb) (.a kn) 0, .bool (.a kb)]) [.own 9 (.a (D.i y)) 1 true f] [.own 9 (.a kn) 1 true kr] := by
  subst hD hk
  have hkl : kl = l.map trimF := hkl
  have e : dn.i y = kn := by show y.den = _; rw [hy, R.n, hkn, hkl]
  refine finOwn (.tup (.cons (leOsl ?_ e) (.cons (leBool (by rw [hkb]; rfl)) .nil))) e fun i hi => ?_
  · rw [hknb]; exact hx
  · have hi : (i : Int) < dn.i y := hi
    rw [R.f i (by rw [e, hkn, hkl] at hi; omega), hkr, hkl]; rfl
theorem split_ok : FnOk Tryz.prog gl 49 spSplit := by
  refine fnOk (gh := [(1, [.own 6 9]), (9, [.own 4 9]), (12, [.own 4 9])]) mixed cxOk (tabCons kind_ok (tabCons quoted_ok (tabCons trim_ok tabNil))) Tryz.func49 (by kernel_rfl) (by kernel_rfl) ?_
  intro xs ls K h
  unfold spSplit at h
  obtain ⟨s, y, rfl, rfl, hl, h⟩ := h
  obtain ⟨k, hk⟩ : ∃ k, k = partsF y s := ⟨_, rfl⟩
  obtain ⟨kl, hkl⟩ : ∃ kl, kl = (k.getD []).map trimF := ⟨_, rfl⟩
  obtain ⟨kn, hkn⟩ : ∃ kn : Int, kn = (kl.length : Int) := ⟨_, rfl⟩
  obtain ⟨kb, hkb⟩ : ∃ kb, kb = k.isSome := ⟨_, rfl⟩
  obtain ⟨knb, hknb⟩ : ∃ knb, knb = k.isNone := ⟨_, rfl⟩
  obtain ⟨kr, hkr⟩ : ∃ kr, kr = strRow kl := ⟨_, rfl⟩
  refine ⟨_, _, h k kl kn kb knb kr hk hkl hkn hkb hknb hkr, fun D hD => ?_⟩
  clear h
  have hk : k = pAt y s [] 0 0 := by
    rw [hk, partsF, pAt, cut_self]
    simp
  cbv
  obtain ⟨J, hJ⟩ : ∃ J, J = splJ s y k := ⟨_, rfl⟩
  refine ⟨[0, 1, 6, 7, 8], J, ⟨rfl, s.length, ?_⟩, ?_⟩
  · rw [hJ]
    subst hD
    exact ⟨0, 0, _, _, _, _, _, [], rfl, rfl, ⟨At.zero (by omega), by omega, rfl, by simp, hl⟩, RowS.nil, hk⟩
  clear hk
  intro m vs hp' hv
  rw [hJ] at hv
  unfold splJ at hv
  obtain ⟨i, a, I, A, n, nl, f, out, rfl, rfl, V, R, hk⟩ := hv
  cbv
  refine br hD (fun h => ?_) (fun h => ?_) <;> cbv
  · have hlt := V.at_.lt (of_decide_eq_true (p := I < (s.length : Int)) h)
    clear h
    refine ⟨V.at_.inS hD hlt, fun c hc => ?_⟩
    have hc2 := byteAt hD V.at_.den hc
    clear hc
    cbv
    refine br hD (fun h => ?_) (fun h => ?_) <;> cbv
    · have h34 : charI s i = 34 := by rw [← hc2.charI]; have h : (c == 34) = true := h; simpa using h
      clear h
      rw [pAt_quote hlt V.ale (by rw [h34]; decide) h34] at hk
      refine ⟨by subst hD; exact subS_of (s := s) (j := s.length) (b := .len s) V.at_.den rfl (by omega) (Nat.le_refl _), fun r1 hr1 => ?_⟩
      have hr1' : r1 = s.drop i := by
        have := sub_of (j := s.length) (b := .len s) hD V.at_.den rfl hr1
        rw [this]; exact List.take_of_length_le (by simp)
      clear hr1
      cbv
      refine ⟨_, rfl, rfl, by have := V.s; rw [hr1', List.length_drop]; omega, fun q hq => ?_⟩
      have hq2 : q = qOf (qdF plainI (s.drop (i + 1))) := by subst hD; rw [hq, hr1']; exact quotedF_drop
      clear hq
      cbv
      refine br hD (fun h => ?_) (fun h => ?_) <;> cbv
      · have h : (q == 0) = true := h
        rw [hq2] at h
        rw [qOf_zero h] at hk
        exact finSpl0 hD hk hkl hkn hkb hknb
      · have h : (q == 0) = false := h
        rw [hq2] at h
        obtain ⟨x, hx, hqx⟩ := qOf_some h
        rw [hx] at hk
        simp only at hk
        have hlen := qdF_len _ _ x (Nat.le_refl _) hx
        rw [List.length_drop] at hlen
        have hq3 : ST.den (.bin .add .i64 (.a I) (.a q)) = ((i + 1 + x.1 : Nat) : Int) := by
          have h1 := V.at_.I; have h2 := V.s
          show IntKind.i64.wrap (I + q) = _
          rw [hq2, hqx, wrap64 (by omega) (by omega)]; omega
        clear h
        refine ⟨s.length - (i + 1 + x.1), by have := V.at_.m; omega, ?_⟩
        rw [hJ]
        subst hD
        refine ⟨i + 1 + x.1, a, _, _, _, _, f, out, rfl, rfl, ⟨⟨by omega, hq3, rfl, V.at_.len⟩, by have := V.ale; omega, V.A, by have := V.out; omega, V.s⟩, R, hk⟩
    have h34 : charI s i ≠ 34 := by rw [← hc2.charI]; have h : (c == 34) = false := h; simpa using h
    clear h
    refine ⟨_, rfl, rfl, by subst hD; exact hc2.le, fun r hr => ?_⟩
    have hr2 : r = kindI c := by subst hD; exact hr
    clear hr
    have hsm : plainI (charI s i) = !(kindI c == 0) := by rw [hc2.charI]; unfold charI; rw [← someI_byte, someI]
    rw [← hr2] at hsm
    cbv
    refine br hD (fun h => ?_) (fun h => ?_) <;> cbv
    · have h : (r == 0) = true := h
      rw [pAt_bad hlt (by rw [hsm, h]; rfl)] at hk
      exact finSpl0 hD hk hkl hkn hkb hknb
    have hp : plainI (charI s i) = true := by have h : (r == 0) = false := h; rw [hsm, h]; rfl
    clear h
    refine br hD (fun h => ?_) (fun h => ?_) <;> cbv
    · have hy : charI s i = y := by rw [← hc2.charI]; have h : (c == y) = true := h; simpa using h
      clear h
      rw [pAt_sep hlt hp h34 hy] at hk
      refine ⟨by subst hD; exact subS_of V.A V.at_.den V.ale (by omega), fun r1 hr1 => ?_⟩
      have hr1' : r1 = cut s a i := sub_of hD V.A V.at_.den hr1
      clear hr1
      cbv
      refine ⟨_, rfl, rfl, by have := V.s; rw [hr1', cut, List.length_take, List.length_drop]; omega, fun t ht => ?_⟩
      have ht2 : t = trimF (cut s a i) := by rw [ht, hr1']
      clear ht
      cbv
      intro g hg
      have hg0 : g 0 = [.str t] := hg.h 0 _ rfl
      clear hg
      cbv
      refine ⟨?_, fun f' n' hf' => ?_⟩
      · have := V.out; have := V.s; have h := R.n; rw [List.length_map] at h; subst hD; exact ⟨rfl, by show (n + 1) * 16 ≤ _; omega, by show n + 1 ≤ _; omega⟩
      have R' : RowS f' n' ((out ++ [cut s a i]).map trimF) := by
        subst hD
        rw [List.map_append, List.map_singleton]
        exact R.more (by rw [hg0, ht2]) hf' (by have := V.out; have := V.s; rw [List.length_map]; omega)
      clear hf' hg0
      cbv
      refine ⟨s.length - (i + 1), (V.at_.step hD hlt).1, ?_⟩
      rw [hJ]
      subst hD
      exact ⟨i + 1, i + 1, _, _, _, _, f', _, rfl, rfl, ⟨(V.at_.step rfl hlt).2, Nat.le_refl _, (V.at_.step rfl hlt).2.I, by have := V.out; simp; omega, V.s⟩, R', hk⟩
    · have hy : charI s i ≠ y := by rw [← hc2.charI]; have h : (c == y) = false := h; simpa using h
      clear h
      rw [pAt_more hlt V.ale hp h34 hy] at hk
      refine ⟨s.length - (i + 1), (V.at_.step hD hlt).1, ?_⟩
      rw [hJ]
      subst hD
      exact ⟨i + 1, a, _, _, _, _, f, out, rfl, rfl, ⟨(V.at_.step rfl hlt).2, by have := V.ale; omega, V.A, by have := V.out; omega, V.s⟩, R, hk⟩
  · have hi := V.at_.eq (of_decide_eq_false (p := I < (s.length : Int)) h)
    clear h
    rw [pAt_end hi] at hk
    refine ⟨by subst hD; exact subS_of (s := s) (j := s.length) (b := .len s) V.A rfl (by have := V.ale; omega) (Nat.le_refl _), fun r1 hr1 => ?_⟩
    have hr1' : r1 = s.drop a := by
      have := sub_of (j := s.length) (b := .len s) hD V.A rfl hr1
      rw [this]; exact List.take_of_length_le (by simp)
    clear hr1
    cbv
    refine ⟨_, rfl, rfl, by have := V.s; rw [hr1', List.length_drop]; omega, fun t ht => ?_⟩
    have ht2 : t = trimF (s.drop a) := by rw [ht, hr1']
    clear ht
    cbv
    intro g hg
    have hg0 : g 0 = [.str t] := hg.h 0 _ rfl
    clear hg
    cbv
    refine ⟨?_, fun f' n' hf' => ?_⟩
    · have := V.out; have := V.s; have h := R.n; rw [List.length_map] at h; subst hD; exact ⟨rfl, by show (n + 1) * 16 ≤ _; omega, by show n + 1 ≤ _; omega⟩
    have R' : RowS f' n' ((out ++ [s.drop a]).map trimF) := by
      subst hD
      rw [List.map_append, List.map_singleton]
      exact R.more (by rw [hg0, ht2]) hf' (by have := V.out; have := V.s; rw [List.length_map]; omega)
    clear hf' hg0
    cbv
    exact finSpl1 hD hk hkl hkn hkb hknb hkr R' rfl (by show (nl && false) = false; simp)
end Go.Proofs.YtfchfhjpldppjaaGreatDoor
namespace Go.Proofs.YtfchfhjpldppjaaGreatDoor
open Go Go.RowKit Go.Sx Go.Sort
set_option maxRecDepth 100000
set_option maxHeartbeats 2000000
/-! DeleteFunc of the empty strings, by the shelf. -/
def emptyP (x : ByteArray) : Bool := x.toList.isEmpty
theorem del1_run (x : ByteArray) (w : World) : Calls Tryz.prog 51 #[.string x] w fun e w' => e = .returned (.bool (emptyP x)) ∧ ∃ q, w' = w.drewN q := by
  go_enter Tryz.func51, Tryz.ntmps51
  go_wp2
  go_ret
  exact ⟨rfl, 0, rfl⟩
theorem emptyP_bytes (x : List UInt8) : (!emptyP (Sx.bytes x)) = neB x := by
  unfold emptyP neB Sx.bytes
  rw [Lib.toList_data]
  cases x <;> rfl
theorem filter_bytes (l : List (List UInt8)) : (l.map Sx.bytes).filter (fun x => !emptyP x) = (l.filter neB).map Sx.bytes := by
  rw [List.filter_map]
  congr 1
  refine List.filter_congr fun x _ => emptyP_bytes x
theorem bEnter51 : ∀ args w, (callFunc 51 args).run Tryz.prog w = .ok (.enter 51 args) w := enters_of Tryz.func51 (by kernel_rfl) rfl
theorem putRow_heap {α : Type} [Inhabited α] (enc : α → Value) (w : World) (blk off : Nat) (d : Array α) (k : Nat) : (putRow enc w blk off d).heap[k]? = if blk = k then (w.heap[k]?).map (onCells (putCells enc off d)) else w.heap[k]? := by
  unfold putRow mapBlock
  simp only [Array.getElem?_modify]
theorem delPut {w : World} {q b : Nat} {cur : Array Value} {fr : Nat × Nat} {t : TypeId} (hg : w.heap[b]? = some (.cells cur t fr)) (N : Array ByteArray) {i : Nat} (hi : i < N.size) (hc : N.size ≤ cur.size) : (putRow Value.string (Go.Sort.ahead w q) b 0 N).cell? ⟨b, i, none⟩ = some (.string N[i]!) := by
  have h1 : (putRow Value.string (Go.Sort.ahead w q) b 0 N).heap[b]? = some (.cells (putCells Value.string 0 N cur) t fr) := by
    rw [putRow_heap, if_pos rfl]
    have : (Go.Sort.ahead w q).heap[b]? = w.heap[b]? := rfl
    rw [this, hg]; rfl
  rw [cell_of_row _ b _ _ _ _ h1]
  simp only [putCells, Array.getElem?_mapIdx]
  rw [Array.getElem?_eq_getElem (by omega), Option.map_some, if_pos ⟨Nat.zero_le _, by omega⟩]
  rfl
def spDel : FSpec := fun _ xs ls K => ∃ (l : List (List UInt8)) (nb : Bool) (n : Int) (f : Nat → List SV), xs = [.osl (.a nb) (.a n) 0, .fn 51] ∧ ls = [.own 9 (.a n) 1 true f] ∧ RowS f n l ∧ 0 < l.length ∧ ∀ l' n', l' = l.filter neB → n' = (l'.length : Int) → K (.sl (.a false) (.a n') 1 (strRow l')) [.gone]
theorem delete_ok : FnOk Tryz.prog gl 50 spDel := by
  refine ⟨⟨Tryz.f50, _, Tryz.func50, rfl, by kernel_rfl⟩, fun xs ls K h => ?_⟩
  obtain ⟨l, nb, n, f, rfl, rfl, R, h0, h⟩ := h
  refine ⟨_, _, h _ _ rfl rfl, ?_⟩
  intro B E w vals hw0 hI0 hdom hb hg hh hr
  obtain ⟨v, m, xs, k1, kz, k2, k3, k4, k5, k6⟩ := hh 0
  have k3' : n = (m : Int) := k3
  have hm : m = l.length := by have := R.n; omega
  obtain ⟨u, g, rfl, hu, hgv⟩ := relL_two hr
  obtain ⟨huv, hnl⟩ := osl_val hu k1 k2 k3 rfl
  subst huv
  obtain rfl : g = .func (.func 51) #[] #[] := by
    cases hgv with
    | ro h => cases h with
      | fn h => exact h
  rcases k2.2 with ⟨e0, e1⟩ | ⟨b, cap, cur, fr, e0, hg2, hfr, hmc, hcm, hcs, htake⟩
  · omega
  subst e0
  obtain rfl : fr = (0, 0) := by
    rcases hfr with h | ⟨h, _⟩
    · exact h
    · cases h
  have hxl : xs.length = l.length := by rw [k2.1, hm]; simp
  have hxs : xs = l.map fun x => Value.string (Sx.bytes x) := by
    refine List.ext_getElem (by rw [hxl]; simp) fun i h1 h2 => ?_
    have hi : i < l.length := by omega
    have := k5.2 i 0 (.str (l.getD i [])) xs[i] (by omega) (by rw [R.f i hi]; rfl) (by simp [List.getElem?_eq_getElem h1])
    cases this with
    | str h =>
      rw [h, List.getElem_map, List.getD_eq_getElem?_getD, List.getElem?_eq_getElem hi]; rfl
  obtain ⟨hO, hnI⟩ := k6 b rfl
  have hlt : b < w.heap.size := (hb.Obd b 0 hO).1
  obtain ⟨d, hd⟩ : ∃ d, d = (l.map Sx.bytes).toArray := ⟨_, rfl⟩
  have hds : d.size = m := by rw [hd, hm]; simp
  have hdl : d.toList = l.map Sx.bytes := by rw [hd]
  have hH : Holds Value.string w b 0 d := by
    intro j hj
    have hj' : j < l.length := by omega
    refine ⟨?_, Lib.frozen_of_heap hg2 _⟩
    rw [cell_of_row w b _ cur _ _ hg2, Nat.zero_add]
    have h1 : cur.toList[j]? = some (Value.string (Sx.bytes l[j])) := by
      have : (cur.toList.take (m * 1))[j]? = xs[j]? := by rw [htake]
      rw [List.getElem?_take, if_pos (by omega), hxs] at this
      rw [this]
      simp [List.getElem?_eq_getElem hj']
    rw [← Array.getElem?_toList, h1, getElem!_pos d j hj]
    simp [hd]
  have hF : (d.toList.filter fun x => !emptyP x) = (l.filter neB).map Sx.bytes := by rw [hdl]; exact filter_bytes l
  have run := sh_slices_DeleteFunc Value.string (fun _ => rfl) emptyP 51 #[] bEnter51 ⟨#[]⟩ Tryz.zeroValue9 b 0 cap d w (fun W x _ => by simpa [FnGives] using del1_run x W) (fun q os dk x _ => by simpa [FnGives] using del1_run x _) hH (by have := R.len; omega) (by omega)
  rw [hF, hds] at run
  refine run.mono ?_
  clear run
  rintro e w' ⟨rfl, q, rfl⟩
  obtain ⟨l', hl'⟩ : ∃ l', l' = l.filter neB := ⟨_, rfl⟩
  rw [← hl']
  have hle : l'.length ≤ l.length := by rw [hl']; exact List.length_filter_le _ _
  obtain ⟨N, hN⟩ : ∃ N, N = (l'.map Sx.bytes ++ List.replicate (m - (l'.map Sx.bytes).length) (⟨#[]⟩ : ByteArray)).toArray := ⟨_, rfl⟩
  rw [← hN]
  have hNs : N.size = m := by rw [hN]; simp; omega
  have hNi : ∀ i, i < l'.length → N[i]! = Sx.bytes (l'.getD i []) := by
    intro i hi
    rw [getElem!_pos N i (by omega), List.getD_eq_getElem?_getD, List.getElem?_eq_getElem hi]
    simp only [hN, List.getElem_toArray]
    rw [List.getElem_append_left (by simpa using hi)]
    simp
  have hcell : ∀ i, i < l'.length → (putRow Value.string (Go.Sort.ahead w q) b 0 N).cell? ⟨b, i, none⟩ = some (.string (Sx.bytes (l'.getD i []))) := by
    intro i hi
    rw [delPut hg2 N (by omega) (by omega), hNi i hi]
  have hheap : ∀ k, k ≠ b → (putRow Value.string (Go.Sort.ahead w q) b 0 N).heap[k]? = w.heap[k]? := fun k hk => by rw [putRow_heap, if_neg (fun e => hk e.symm)]; rfl
  have hc2 : ∀ b2 o, b2 ≠ b → (putRow Value.string (Go.Sort.ahead w q) b 0 N).cell? ⟨b2, o, none⟩ = w.cell? ⟨b2, o, none⟩ := fun b2 o hb2 => by simp only [World.cell?]; rw [hheap b2 hb2]
  have hsz : (putRow Value.string (Go.Sort.ahead w q) b 0 N).heap.size = w.heap.size := by simp [putRow, mapBlock, Go.Sort.ahead]
  have hX := (hb.Obd b 0 hO).2
  let E' : Env := ⟨E.β, E.τ, E.O, E.κ, E.ζ, fun b2 o => E.I b2 o ∨ (b2 = b ∧ o < l'.length)⟩
  refine ⟨_, E', rfl, ⟨hb.os, hb.tape, hb.output, by rw [hsz]; exact hb.size, fun b2 hlt2 hnX => ?_, fun b2 o hi => ?_, fun b2 o hi => ?_, fun b2 o hi => ?_, fun b2 j hO2 => ?_, ⟨hb.β0.β, hb.β0.τ, hb.β0.ζ⟩⟩, fun k hk => ?_, ?_⟩
  · rw [hheap b2 (fun e => ?_)]
    · exact hb.old b2 hlt2 hnX
    · subst e
      rcases hX with h | h
      · omega
      · exact hnX h
  · obtain ⟨i1, i2⟩ := hb.I0 b2 o hi
    refine ⟨.inl i1, ?_⟩
    rw [hc2 b2 o (fun e => hnI o (by rw [← e]; exact i1))]; exact i2
  · rw [hsz]
    rcases hi with hi | ⟨rfl, _⟩
    · exact hb.Ibd b2 o hi
    · exact hlt
  · rcases hi with hi | ⟨rfl, _⟩
    · exact hb.Inew b2 o hi
    · exact .inr hX
  · rw [hsz]; exact hb.Obd b2 j hO2
  · obtain rfl : k = 0 := by simpa using hk
    trivial
  · refine .ro (.sl (fun i j => .string (Sx.bytes (l'.getD i []))) rfl ?_ ?_ hcm (fun _ => rfl) (fun i hi => rfl) (fun i j hi hj => rfl) (fun i j hi hj => ?_) (fun i j s hi hs => ?_))
    · show (l'.length : Int) = _
      simp
    · simp; omega
    · obtain rfl : j = 0 := by omega
      have hi : i < l'.length := by simpa using hi
      refine ⟨?_, .inr ⟨rfl, by simpa using hi⟩⟩
      simpa using hcell i hi
    · match j, hs with
      | 0, hs =>
        have hs : some (SV.str (l'.getD i [])) = some s := hs
        cases hs
        exact .str rfl
      | j + 1, hs => simp [strRow] at hs
end Go.Proofs.YtfchfhjpldppjaaGreatDoor
namespace Go.Proofs.YtfchfhjpldppjaaGreatDoor
open Go.Sx
set_option maxRecDepth 10000
set_option maxHeartbeats 2000000
/-! Elements, Has. -/
def elemsNil (s : List UInt8) : Bool := (refElementsF s).2 != 0
theorem elements_ok : FnOk Tryz.prog gl 20 (spElems refElementsF elemsNil) := by
  refine fnOk (gh := []) mixed cxOk (tabCons split_ok (tabCons delete_ok tabNil)) Tryz.func20 (by kernel_rfl) (by kernel_rfl) ?_
  intro xs ls K h
  unfold spElems at h
  obtain ⟨s, rfl, rfl, hl, h⟩ := h
  obtain ⟨k, hk⟩ : ∃ k, k = refElementsF s := ⟨_, rfl⟩
  obtain ⟨kl, ke⟩ := k
  obtain ⟨kn, hkn⟩ : ∃ kn : Int, kn = (kl.length : Int) := ⟨_, rfl⟩
  obtain ⟨knb, hknb⟩ : ∃ knb : Bool, knb = (ke != 0) := ⟨_, rfl⟩
  refine ⟨_, _, h kl ke kn knb hk hkn (by rw [hknb, elemsNil, ← hk]), fun D hD => ?_⟩
  clear h
  obtain ⟨kr, hkr⟩ : ∃ kr, kr = strRow kl := ⟨_, rfl⟩
  rw [← hkr]
  rw [refElementsF] at hk
  cbv
  refine br hD (fun h => ?_) (fun h => ?_) <;> cbv
  · have h : decide (2000 < (s.length : Int)) = true := h
    rw [if_pos (by simpa using h)] at hk
    exact finEl (f := fun _ => []) hD hk hkn hkr RowS.nil rfl (by simp only [Prod.mk.injEq] at hk; rw [hknb, hk.2]; rfl) rfl
  have h : decide (2000 < (s.length : Int)) = false := h
  have h2 : ¬ (2000 < (s.length : Int)) := by simpa using h
  rw [if_neg h2] at hk
  have hs : s.length ≤ 2000 := by omega
  clear h h2
  refine ⟨s, _, rfl, rfl, by omega, fun k l n b nb f hp0 hl' hn hb hnb hf => ?_⟩
  have hp : k = partsF 44 s := by subst hD; exact hp0
  clear hp0
  rw [← hp] at hk
  cbv
  refine br hD (fun h => ?_) (fun h => ?_) <;> cbv
  · have h : (!b) = true := h
    have hn0 : k = none := by
      cases k with
      | none => rfl
      | some l => rw [hb] at h; cases h
    rw [hn0] at hk
    exact finEl (f := fun _ => []) hD hk hkn hkr RowS.nil rfl (by simp only [Prod.mk.injEq] at hk; rw [hknb, hk.2]; rfl) rfl
  have h : (!b) = false := h
  obtain ⟨l0, rfl⟩ : ∃ l, k = some l := by
    cases k with
    | none => rw [hb] at h; cases h
    | some l => exact ⟨l, rfl⟩
  clear h
  obtain ⟨h1, h2, h3⟩ := partsF_len hp.symm
  simp only [Option.getD_some] at hl'
  have hll : l.length = l0.length := by rw [hl', List.length_map]
  have RL : RowS f n l := by rw [hf, hn]; exact RowS.row (by omega)
  have hl2e : l.filter neB = keepF l0 := by rw [hl', keepF]
  have hk2 : l.filter neB = kl ∧ ke = 0 := by simp only [Prod.mk.injEq] at hk; rw [hl2e]; exact ⟨hk.1.symm, hk.2⟩
  refine ⟨l, _, _, f, rfl, rfl, by subst hD; exact RL, by omega, fun l2 n2 hl2 hn2 => ?_⟩
  have hl3 : l2 = kl := by rw [hl2, hk2.1]
  have R2 : RowS (strRow l2) n2 l2 := by
    rw [hn2]; refine RowS.row ?_
    have : (l.filter neB).length ≤ l.length := List.length_filter_le _ _
    rw [hl2]; omega
  obtain ⟨g, hg⟩ : ∃ g, g = strRow l2 := ⟨_, rfl⟩
  rw [← hg] at R2 ⊢
  cbv
  exact finEl (f := g) (l' := l2) (e' := 0) hD (by rw [hl3, hk2.2]) hkn hkr R2 rfl (by rw [hknb, hk2.2]; rfl) rfl
/-! Has. -/
def hasF (v t : List UInt8) : Bool × Int :=
  if !refTokenF t then (false, 2) else ((refElementsF v).1.any (foldEq t), (refElementsF v).2)
def spHas : FSpec := fun _ xs ls K => ∃ (v t : List UInt8), xs = [.str v, .str t] ∧ ls = [] ∧ v.length ≤ 9223372036854775807 ∧ t.length ≤ 9223372036854775807 ∧ ∀ b e, (b, e) = hasF v t → K (.tup [.bool (.a b), .int .i64 (.a e)]) []
theorem finHas {D : Dn} (hD : D = dn) {b : Bool} {e : Int} {x : BT} {y : ST} (h : (b, e) = (x.den, y.den)) : Fin (.tup [.bool (.a (D.b x)), .int .i64 (.a (D.i y))]) (.tup [.bool (.a b), .int .i64 (.a e)]) [] [] := by
  subst hD
  simp only [Prod.mk.injEq] at h
  obtain ⟨rfl, rfl⟩ := h
  exact finV (LeV.refl _)
theorem has_ok : FnOk Tryz.prog gl 22 spHas := by
  refine fnOk (gh := []) mixed cxOk (tabCons token_ok (tabCons elements_ok (tabCons contains55_ok tabNil))) Tryz.func22 (by kernel_rfl) (by kernel_rfl) ?_
  intro xs ls K h
  unfold spHas at h
  obtain ⟨v, t, rfl, rfl, hv, ht, h⟩ := h
  obtain ⟨k, hk⟩ : ∃ k, k = hasF v t := ⟨_, rfl⟩
  obtain ⟨kb, ke⟩ := k
  refine ⟨_, _, h kb ke hk, fun D hD => ?_⟩
  clear h
  rw [hasF] at hk
  cbv
  refine ⟨_, rfl, rfl, ht, fun q hq => ?_⟩
  have hq2 : q = refTokenF t := by subst hD; rw [← token_eq]; exact hq
  clear hq
  rw [← hq2] at hk
  cbv
  refine br hD (fun h => ?_) (fun h => ?_) <;> cbv
  · have h : (!q) = true := h
    rw [if_pos h] at hk
    exact finHas hD hk
  have h : (!q) = false := h
  rw [if_neg (by rw [h]; simp)] at hk
  clear h hq2
  have hel := refElementsF_len v
  refine ⟨v, rfl, rfl, hv, fun l e n nb he hn hnb => ?_⟩
  rw [← he] at hk hel
  simp only at hk hel
  have RL : RowS (strRow l) n l := by rw [hn]; exact RowS.row (by omega)
  obtain ⟨g, hg⟩ : ∃ g, g = strRow l := ⟨_, rfl⟩
  rw [← hg] at RL ⊢
  clear hg
  cbv
  refine ⟨l, t, _, _, _, rfl, rfl, by subst hD; exact RL, fun x hx => by have := hel.2 x hx; omega, ht, fun r hr => ?_⟩
  cbv
  exact finHas hD (by rw [hk, hr]; rfl)
end Go.Proofs.YtfchfhjpldppjaaGreatDoor
namespace Go.Proofs.YtfchfhjpldppjaaGreatDoor
open Go.Sx
set_option maxRecDepth 10000
set_option maxHeartbeats 2000000
/-! twice. -/
abbrev Par := List UInt8 × List UInt8
structure RowP (f : Nat → List SV) (n : Int) (a : List Par) : Prop where
  n : n = a.length
  f : ∀ i, i < a.length → f i = [.str (a.getD i ([], [])).1, .str (a.getD i ([], [])).2]
  len : a.length ≤ 9223372036854775807
def nameEq (p q : Par) : Bool := q.1 == p.1
def spTw1 : FSpec := fun _ xs ls K => ∃ (q p : Par), xs = [.agg [.str q.1, .str q.2], .ptr 0 0] ∧ ls = [.blk 53 [.str p.1, .str p.2]] ∧ ∀ r : Bool, r = nameEq p q → K (.bool (.a r)) [.blk 53 [.str p.1, .str p.2]]
theorem tw1_ok : FnOk Tryz.prog gl 98 spTw1 := by
  refine fnOk (gh := []) mixed cxOk tabNil Tryz.func98 (by kernel_rfl) (by kernel_rfl) ?_
  intro xs ls K h
  unfold spTw1 at h
  obtain ⟨⟨qn, qv⟩, ⟨pn, pv⟩, rfl, rfl, h⟩ := h
  obtain ⟨k, hk⟩ : ∃ k, k = nameEq (pn, pv) (qn, qv) := ⟨_, rfl⟩
  refine ⟨_, _, h k hk, fun D hD => ?_⟩
  clear h
  cbv
  refine ⟨leBool ?_, LeH.refl _, Nat.le_refl _⟩
  subst hD
  show (qn == pn) = k
  rw [hk, nameEq]
def idxP (p : Par → Bool) (l : List Par) (i : Nat) : Int := match (l.drop i).findIdx? p with
  | none => -1
  | some j => ((i + j : Nat) : Int)
theorem idxP_yes {p : Par → Bool} {l : List Par} {i : Nat} (h : i < l.length) (hp : p (l.getD i ([], [])) = true) : idxP p l i = (i : Int) := by
  rw [idxP, dropR (d := ([], [])) h, List.findIdx?_cons, hp]; rfl
theorem idxP_no {p : Par → Bool} {l : List Par} {i : Nat} (h : i < l.length) (hp : p (l.getD i ([], [])) = false) : idxP p l i = idxP p l (i + 1) := by
  rw [idxP, dropR (d := ([], [])) h, List.findIdx?_cons, hp, idxP]
  cases (l.drop (i + 1)).findIdx? p with
  | none => rfl
  | some j => simp; omega
theorem idxP_end {p : Par → Bool} {l : List Par} {i : Nat} (h : i = l.length) : idxP p l i = -1 := by
  rw [idxP, h, List.drop_length]; rfl
theorem idxP_any (p : Par → Bool) (l : List Par) : decide (0 ≤ idxP p l 0) = l.any p := by
  rw [idxP, List.drop_zero]
  cases h : l.findIdx? p with
  | none =>
    rw [List.findIdx?_eq_none_iff] at h
    have : l.any p = false := by rw [List.any_eq_false]; intro x hx; simp [h x hx]
    rw [this]; rfl
  | some j =>
    have : l.any p = true := by
      rw [List.findIdx?_eq_some_iff_getElem] at h
      obtain ⟨hj, h1, _⟩ := h
      exact List.any_eq_true.2 ⟨_, List.getElem_mem hj, h1⟩
    rw [this]
    simp
structure IxP (l : List Par) (i : Nat) (I L : Int) (m : Nat) : Prop where
  at_ : AtR l i I m
  L : L = l.length
def ixpJ (k : Int) (p : Par) (l : List Par) (f : Nat → List SV) (nl : Bool) (n : Int) (m : Nat) (vs : List (Option SV)) (hp : List Hl) : Prop :=
  ∃ (i : Nat) (I L : Int), vs = [some (.sl (.a nl) (.a n) 2 f), some (.clo 98 [.ptr 0 0]), some (.int .i64 (.a L)), some (.int .i64 (.a I))] ∧ hp = [.blk 53 [.str p.1, .str p.2]] ∧ IxP l i I L m ∧ k = idxP (nameEq p) l i
def spIdxP : FSpec := fun _ xs ls K => ∃ (l : List Par) (p : Par) (nl : Bool) (n : Int) (f : Nat → List SV), xs = [.sl (.a nl) (.a n) 2 f, .clo 98 [.ptr 0 0]] ∧ ls = [.blk 53 [.str p.1, .str p.2]] ∧ RowP f n l ∧ ∀ r : Int, r = idxP (nameEq p) l 0 → K (.int .i64 (.a r)) [.blk 53 [.str p.1, .str p.2]]
theorem idx98_ok : FnOk Tryz.prog gl 97 spIdxP := by
  refine fnOk (gh := []) mixed cxOk (tabCons tw1_ok tabNil) Tryz.func97 (by kernel_rfl) (by kernel_rfl) ?_
  intro xs ls K h
  unfold spIdxP at h
  obtain ⟨l, ⟨pn, pv⟩, nl, n, f, rfl, rfl, R, h⟩ := h
  obtain ⟨k, hk⟩ : ∃ k, k = idxP (nameEq (pn, pv)) l 0 := ⟨_, rfl⟩
  refine ⟨_, _, h k hk, fun D hD => ?_⟩
  clear h
  cbv
  obtain ⟨J, hJ⟩ : ∃ J, J = ixpJ k (pn, pv) l f nl n := ⟨_, rfl⟩
  refine ⟨[0, 1, 7, 8], J, ⟨rfl, l.length, ?_⟩, ?_⟩
  · rw [hJ]
    subst hD
    exact ⟨0, 0, _, rfl, rfl, ⟨AtR.zero R.len, R.n⟩, hk⟩
  clear hk
  intro m vs hp' hv
  rw [hJ] at hv
  unfold ixpJ at hv
  obtain ⟨i, I, L, rfl, rfl, V, hk⟩ := hv
  cbv
  refine br hD (fun h => ?_) (fun h => ?_) <;> cbv
  · have hlt := V.at_.lt V.L (of_decide_eq_true (p := I < L) h)
    clear h
    refine ⟨V.at_.inB hD R.n hlt, fun j hj => ?_⟩
    obtain rfl := V.at_.j hD hj
    clear hj
    have e1 := R.f j hlt
    have hyes := idxP_yes (p := nameEq (pn, pv)) hlt
    have hno := idxP_no (p := nameEq (pn, pv)) hlt
    obtain ⟨x, hx⟩ : ∃ x, x = l.getD j ([], []) := ⟨_, rfl⟩
    rw [← hx] at e1 hyes hno
    obtain ⟨xn, xv⟩ := x
    simp only at e1
    cbv
    rw [e1]
    cbv
    refine ⟨(xn, xv), (pn, pv), rfl, rfl, fun r hr => ?_⟩
    cbv
    refine br hD (fun h => ?_) (fun h => ?_) <;> cbv
    · have h : r = true := h
      refine ⟨leInt ?_, LeH.refl _, Nat.le_refl _⟩
      subst hD
      rw [hk, hyes (by rw [← hr]; exact h)]
      exact V.at_.I
    · have h : r = false := h
      rw [hno (by rw [← hr]; exact h)] at hk
      refine ⟨l.length - (j + 1), (V.at_.step hD hlt).1, ?_⟩
      rw [hJ]
      subst hD
      exact ⟨j + 1, _, _, rfl, rfl, ⟨(V.at_.step rfl hlt).2, V.L⟩, hk⟩
  · have hi := V.at_.eq V.L (of_decide_eq_false (p := I < L) h)
    refine ⟨leInt ?_, LeH.refl _, Nat.le_refl _⟩
    subst hD
    rw [hk, idxP_end hi]; rfl
def spAnyP : FSpec := fun _ xs ls K => ∃ (l : List Par) (p : Par) (nl : Bool) (n : Int) (f : Nat → List SV), xs = [.sl (.a nl) (.a n) 2 f, .clo 98 [.ptr 0 0]] ∧ ls = [.blk 53 [.str p.1, .str p.2]] ∧ RowP f n l ∧ ∀ r : Bool, r = l.any (nameEq p) → K (.bool (.a r)) [.blk 53 [.str p.1, .str p.2]]
theorem contains98_ok : FnOk Tryz.prog gl 70 spAnyP := by
  refine fnOk (gh := []) mixed cxOk (tabCons idx98_ok tabNil) Tryz.func70 (by kernel_rfl) (by kernel_rfl) ?_
  intro xs ls K h
  unfold spAnyP at h
  obtain ⟨l, ⟨pn, pv⟩, nl, n, f, rfl, rfl, R, h⟩ := h
  obtain ⟨k, hk⟩ : ∃ k, k = l.any (nameEq (pn, pv)) := ⟨_, rfl⟩
  refine ⟨_, _, h k hk, fun D hD => ?_⟩
  clear h
  cbv
  refine ⟨l, (pn, pv), _, _, _, rfl, rfl, by subst hD; exact R, fun r hr => ?_⟩
  cbv
  refine ⟨leBool ?_, LeH.refl _, Nat.le_refl _⟩
  subst hD
  rw [hk, ← idxP_any, ← hr]; rfl
def twM : List Par → List Par → Bool
  | _, [] => false
  | acc, p :: r => acc.any (nameEq p) || twM (acc ++ [p]) r
def twiceF (l : List Par) : Bool := twM [] l
theorem twM_at {l : List Par} {i : Nat} (h : i < l.length) : twM (l.take i) (l.drop i) = ((l.take i).any (nameEq (l.getD i ([], []))) || twM (l.take (i + 1)) (l.drop (i + 1))) := by
  rw [dropR (d := ([], [])) h, twM, List.take_add_one, List.getElem?_eq_getElem h]
  rw [List.getD_eq_getElem?_getD, List.getElem?_eq_getElem h]; rfl
theorem twM_end {l : List Par} {i : Nat} (h : i = l.length) : twM (l.take i) (l.drop i) = false := by
  rw [h, List.drop_length]; rfl
theorem RowP.take {f f' : Nat → List SV} {n n' : Int} {l : List Par} {j : Nat} {I : Int} (R : RowP f n l) (hI : I = j) (hj : j ≤ l.length) (h : SubRow f' n' f 0 I) : RowP f' n' (l.take j) := by
  refine ⟨?_, fun i hi => ?_, by have := R.len; simp; omega⟩
  · rw [h.len, hI]; simp; omega
  · simp only [List.length_take] at hi
    rw [h.row i i (by omega), R.f i (by omega)]
    have e : (l.take j).getD i ([], []) = l.getD i ([], []) := by
      rw [List.getD_eq_getElem?_getD, List.getD_eq_getElem?_getD, List.getElem?_take, if_pos (by omega)]
    rw [e]
def twJ (k : Bool) (l : List Par) (f : Nat → List SV) (nl : Bool) (n : Int) (m : Nat) (vs : List (Option SV)) (hp : List Hl) : Prop :=
  ∃ (i : Nat) (I L : Int), vs = [some (.sl (.a nl) (.a n) 2 f), some (.sl (.a nl) (.a n) 2 f), some (.int .i64 (.a L)), some (.int .i64 (.a I))] ∧ hp = [] ∧ IxP l i I L m ∧ k = twM (l.take i) (l.drop i)
def spTwice : FSpec := fun _ xs ls K => ∃ (l : List Par) (nl : Bool) (n : Int) (f : Nat → List SV), xs = [.sl (.a nl) (.a n) 2 f] ∧ ls = [] ∧ RowP f n l ∧ ∀ r : Bool, r = twiceF l → K (.bool (.a r)) []
theorem twice_ok : FnOk Tryz.prog gl 71 spTwice := by
  refine fnOk (gh := []) mixed cxOk (tabCons contains98_ok tabNil) Tryz.func71 (by kernel_rfl) (by kernel_rfl) ?_
  intro xs ls K h
  unfold spTwice at h
  obtain ⟨l, nl, n, f, rfl, rfl, R, h⟩ := h
  obtain ⟨k, hk⟩ : ∃ k, k = twiceF l := ⟨_, rfl⟩
  refine ⟨_, _, h k hk, fun D hD => ?_⟩
  clear h
  cbv
  obtain ⟨J, hJ⟩ : ∃ J, J = twJ k l f nl n := ⟨_, rfl⟩
  refine ⟨[0, 5, 6, 7], J, ⟨rfl, l.length, ?_⟩, ?_⟩
  · rw [hJ]
    subst hD
    exact ⟨0, 0, _, rfl, rfl, ⟨AtR.zero R.len, R.n⟩, hk⟩
  clear hk
  intro m vs hp' hv
  rw [hJ] at hv
  unfold twJ at hv
  obtain ⟨i, I, L, rfl, rfl, V, hk⟩ := hv
  cbv
  refine br hD (fun h => ?_) (fun h => ?_) <;> cbv
  · have hlt := V.at_.lt V.L (of_decide_eq_true (p := I < L) h)
    clear h
    refine ⟨V.at_.inB hD R.n hlt, fun j hj => ?_⟩
    obtain rfl := V.at_.j hD hj
    clear hj
    have e1 := R.f j hlt
    rw [twM_at hlt] at hk
    obtain ⟨x, hx⟩ : ∃ x, x = l.getD j ([], []) := ⟨_, rfl⟩
    rw [← hx] at e1 hk
    obtain ⟨xn, xv⟩ := x
    simp only at e1
    cbv
    rw [e1]
    cbv
    refine ⟨?_, fun f' n' hf' => ?_⟩
    · have := V.at_.I; have := R.n; subst hD; exact ⟨Int.le_refl _, by show 0 ≤ I; omega, by show I ≤ n; omega⟩
    have R' : RowP f' n' (l.take j) := by subst hD; exact R.take V.at_.I (by omega) hf'
    clear hf'
    cbv
    refine ⟨l.take j, (xn, xv), _, _, _, rfl, rfl, by subst hD; exact R', fun r hr => ?_⟩
    rw [← hr] at hk
    cbv
    refine br hD (fun h => ?_) (fun h => ?_) <;> cbv
    · have h : r = true := h
      refine finBool hD ?_
      rw [hk, h]; rfl
    · have h : r = false := h
      rw [h, Bool.false_or] at hk
      refine ⟨l.length - (j + 1), (V.at_.step hD hlt).1, ?_⟩
      rw [hJ]
      subst hD
      exact ⟨j + 1, _, _, rfl, rfl, ⟨(V.at_.step rfl hlt).2, V.L⟩, hk⟩
  · have hi := V.at_.eq V.L (of_decide_eq_false (p := I < L) h)
    refine finBool hD ?_
    rw [hk, twM_end hi]; rfl
/-! twice of the document. -/
theorem any_take {l : List Par} {p : Par} {i j : Nat} (hij : i < j) (hj : j ≤ l.length) : ((l.take j).drop i).any (nameEq p) = (nameEq p (l.getD i ([], [])) || ((l.take j).drop (i + 1)).any (nameEq p)) := by
  have h : i < (l.take j).length := by rw [List.length_take]; omega
  rw [dropR (d := ([], [])) h, List.any_cons]
  congr 2
  rw [List.getD_eq_getElem?_getD, List.getD_eq_getElem?_getD, List.getElem?_take, if_pos hij]
structure TwI (l : List Par) (i : Nat) (I L : Int) (m : Nat) : Prop where
  at_ : AtR l i I m
  L : L = l.length
def rtwJ (k : Bool) (l : List Par) (f : Nat → List SV) (nl : Bool) (n : Int) (m : Nat) (vs : List (Option SV)) (hp : List Hl) : Prop :=
  ∃ (i : Nat) (I : Int), vs = [some (.sl (.a nl) (.a n) 2 f), some (.int .i64 (.a I))] ∧ hp = [] ∧ AtR l i I m ∧ k = twM (l.take i) (l.drop i)
structure TwI2 (l : List Par) (i j : Nat) (X : Int) (m : Nat) : Prop where
  le : j ≤ i
  X : X = j
  m : m = i - j
def rtwJ2 (k r : Bool) (l : List Par) (p : Par) (f : Nat → List SV) (nl : Bool) (n : Int) (i : Nat) (I : Int) (m : Nat) (vs : List (Option SV)) (hp : List Hl) : Prop :=
  ∃ (j : Nat) (X : Int), vs = [some (.sl (.a nl) (.a n) 2 f), some (.int .i64 (.a I)), some (.int .i64 (.a X))] ∧ hp = [] ∧ TwI2 l i j X m ∧ k = (((l.take i).drop j).any (nameEq p) || r)
theorem refTwice_ok : FnOk Tryz.prog gl 74 spTwice := by
  refine fnOk (gh := []) mixed cxOk tabNil Tryz.func74 (by kernel_rfl) (by kernel_rfl) ?_
  intro xs ls K h
  unfold spTwice at h
  obtain ⟨l, nl, n, f, rfl, rfl, R, h⟩ := h
  obtain ⟨k, hk⟩ : ∃ k, k = twiceF l := ⟨_, rfl⟩
  refine ⟨_, _, h k hk, fun D hD => ?_⟩
  clear h
  cbv
  obtain ⟨J, hJ⟩ : ∃ J, J = rtwJ k l f nl n := ⟨_, rfl⟩
  refine ⟨[0, 3], J, ⟨rfl, l.length, ?_⟩, ?_⟩
  · rw [hJ]
    subst hD
    exact ⟨0, 0, rfl, rfl, AtR.zero R.len, hk⟩
  clear hk
  intro m vs hp' hv
  rw [hJ] at hv
  unfold rtwJ at hv
  obtain ⟨i, I, rfl, rfl, V, hk⟩ := hv
  cbv
  refine br hD (fun h => ?_) (fun h => ?_) <;> cbv
  · have hlt := V.lt R.n (of_decide_eq_true (p := I < n) h)
    clear h
    have e1 := R.f i hlt
    rw [twM_at hlt] at hk
    obtain ⟨x, hx⟩ : ∃ x, x = l.getD i ([], []) := ⟨_, rfl⟩
    rw [← hx] at e1 hk
    obtain ⟨xn, xv⟩ := x
    simp only at e1
    obtain ⟨r, hr⟩ : ∃ r, r = twM (l.take (i + 1)) (l.drop (i + 1)) := ⟨_, rfl⟩
    rw [← hr] at hk
    obtain ⟨J2, hJ2⟩ : ∃ J, J = rtwJ2 k r l (xn, xv) f nl n i I := ⟨_, rfl⟩
    refine ⟨[0, 3, 4], J2, ⟨rfl, i, ?_⟩, ?_⟩
    · rw [hJ2]
      subst hD
      exact ⟨0, 0, rfl, rfl, ⟨Nat.zero_le _, rfl, rfl⟩, hk⟩
    clear hk
    intro m2 vs2 hp2 hv2
    rw [hJ2] at hv2
    unfold rtwJ2 at hv2
    obtain ⟨j, X, rfl, rfl, W, hk⟩ := hv2
    cbv
    refine br hD (fun h => ?_) (fun h => ?_) <;> cbv
    · have hji : j < i := by have h := of_decide_eq_true (p := X < I) h; have := V.I; have := W.X; omega
      clear h
      have hjl : j < l.length := by omega
      rw [any_take hji (by omega)] at hk
      have e2 := R.f j hjl
      obtain ⟨y, hy⟩ : ∃ y, y = l.getD j ([], []) := ⟨_, rfl⟩
      rw [← hy] at e2 hk
      obtain ⟨yn, yv⟩ := y
      simp only at e2
      refine ⟨?_, fun a ha => ?_⟩
      · have := W.X; have := R.n; subst hD; exact ⟨by show 0 ≤ X; omega, by show X < n; omega⟩
      obtain rfl : a = j := by have := isJ hD ha; have := W.X; omega
      clear ha
      cbv
      rw [e2]
      cbv
      refine ⟨V.inB hD R.n hlt, fun b hb => ?_⟩
      obtain rfl := V.j hD hb
      clear hb
      cbv
      rw [e1]
      cbv
      refine br hD (fun h => ?_) (fun h => ?_) <;> cbv
      · have h : (yn == xn) = true := h
        refine finBool hD ?_
        rw [hk, nameEq, h]; rfl
      · have h : (yn == xn) = false := h
        rw [nameEq, h, Bool.false_or] at hk
        have hw : ST.den (.bin .add .i64 (.a X) (.l 1)) = ((a + 1 : Nat) : Int) := by
          have := W.X; have := V.len
          show IntKind.i64.wrap (X + 1) = _
          rw [wrap64 (by omega) (by omega)]; omega
        refine ⟨b - (a + 1), by have := W.m; omega, ?_⟩
        rw [hJ2]
        subst hD
        exact ⟨a + 1, _, rfl, rfl, ⟨by omega, hw, rfl⟩, hk⟩
    · have hji : j = i := by have h := of_decide_eq_false (p := X < I) h; have := V.I; have := W.X; have := W.le; omega
      clear h
      have hk2 : k = r := by
        rw [hk, hji, List.drop_eq_nil_of_le (by rw [List.length_take]; omega)]; rfl
      refine ⟨l.length - (i + 1), (V.step hD hlt).1, ?_⟩
      rw [hJ]
      subst hD
      exact ⟨i + 1, _, rfl, rfl, (V.step rfl hlt).2, by rw [hk2, hr]⟩
  · have hi := V.eq R.n (of_decide_eq_false (p := I < n) h)
    refine finBool hD ?_
    rw [hk, twM_end hi]; rfl
end Go.Proofs.YtfchfhjpldppjaaGreatDoor
namespace Go.Proofs.YtfchfhjpldppjaaGreatDoor
open Go Go.Sx
set_option maxRecDepth 10000
set_option maxHeartbeats 2000000
/-! Cut at one byte. -/
def cutF (c : UInt8) : List UInt8 → List UInt8 × List UInt8 × Bool
  | [] => ([], [], false)
  | b :: r => if b == c then ([], r, true) else (b :: (cutF c r).1, (cutF c r).2)
theorem cutF_no {c : UInt8} {s : List UInt8} (h : (cutF c s).2.2 = false) : (cutF c s).1 = s ∧ (cutF c s).2.1 = [] ∧ Lib.indexByte s c = -1 := by
  induction s with
  | nil => exact ⟨rfl, rfl, rfl⟩
  | cons b r ih =>
    simp only [cutF] at h ⊢
    split at h
    · cases h
    · rename_i hb
      obtain ⟨h1, h2, h3⟩ := ih h
      rw [if_neg hb]
      refine ⟨by rw [h1], h2, ?_⟩
      rw [Lib.indexByte, if_neg hb, h3]; rfl
theorem cutF_yes {c : UInt8} {s : List UInt8} (h : (cutF c s).2.2 = true) : Lib.indexByte s c = ((cutF c s).1.length : Int) ∧ (cutF c s).1 = s.take (cutF c s).1.length ∧ (cutF c s).2.1 = s.drop ((cutF c s).1.length + 1) ∧ (cutF c s).1.length < s.length := by
  induction s with
  | nil => cases h
  | cons b r ih =>
    simp only [cutF] at h ⊢
    by_cases hb : (b == c) = true
    · simp only [if_pos hb]
      rw [Lib.indexByte, if_pos hb]
      simp
    · rw [if_neg hb] at h ⊢
      obtain ⟨h1, h2, h3, h4⟩ := ih h
      rw [Lib.indexByte, if_neg hb, h1]
      refine ⟨?_, ?_, ?_, by simp; omega⟩
      · rw [if_neg (by simp)]; simp
      · simp only [List.length_cons, List.take_succ_cons]; rw [← h2]
      · simp only [List.length_cons, List.drop_succ_cons]; exact h3
def spIdx1 : FSpec := fun _ xs ls K => ∃ (s : List UInt8) (c : UInt8), xs = [.str s, .str [c]] ∧ ls = [] ∧ ∀ r : Int, r = Lib.indexByte s c → K (.int .i64 (.a r)) []
theorem index1_ok : FnOk Tryz.prog gl 109 spIdx1 := by
  refine ⟨⟨Tryz.f109, _, Tryz.func109, rfl, by kernel_rfl⟩, fun xs ls K h => ?_⟩
  obtain ⟨s, c, rfl, rfl, h⟩ := h
  refine ⟨_, _, h _ rfl, callsTo_below fun E B w vals _ _ _ hr => ?_⟩
  obtain ⟨v, u, rfl, hv, hu⟩ := relL_two hr
  rw [rel_str hv, rel_str hu]
  refine (sh_stringslite_Index_one ⟨s.toArray⟩ c w).mono ?_
  rintro e w' ⟨rfl, rfl⟩
  exact ⟨_, rfl, fun E => .ro (.int rfl), RowKit.Below.refl _ _⟩
def spCut : FSpec := fun _ xs ls K => ∃ (s : List UInt8) (c : UInt8), xs = [.str s, .str [c]] ∧ ls = [] ∧ s.length ≤ 100000 ∧ ∀ a b t, (a, b, t) = cutF c s → K (.tup [.str a, .str b, .bool (.a t)]) []
theorem finCut {D : Dn} (hD : D = dn) {a b a' b' : List UInt8} {t : Bool} {x : BT} (h : (a, b, t) = (a', b', x.den)) : Fin (.tup [.str a', .str b', .bool (.a (D.b x))]) (.tup [.str a, .str b, .bool (.a t)]) [] [] := by
  subst hD
  simp only [Prod.mk.injEq] at h
  obtain ⟨rfl, rfl, rfl⟩ := h
  exact finV (LeV.refl _)
theorem cut90_ok : FnOk Tryz.prog gl 90 spCut := by
  refine fnOk (gh := []) mixed cxOk (tabCons index1_ok tabNil) Tryz.func90 (by kernel_rfl) (by kernel_rfl) ?_
  intro xs ls K h
  unfold spCut at h
  obtain ⟨s, c, rfl, rfl, hl, h⟩ := h
  obtain ⟨k, hk⟩ : ∃ k, k = cutF c s := ⟨_, rfl⟩
  obtain ⟨ka, kb, kt⟩ := k
  refine ⟨_, _, h ka kb kt hk, fun D hD => ?_⟩
  clear h
  cbv
  refine ⟨s, c, rfl, rfl, fun r hr => ?_⟩
  cbv
  refine br hD (fun h => ?_) (fun h => ?_) <;> cbv
  · have h0 : 0 ≤ r := of_decide_eq_true (p := 0 ≤ r) h
    have hy : (cutF c s).2.2 = true := by
      cases hb : (cutF c s).2.2 with
      | true => rfl
      | false => rw [(cutF_no hb).2.2] at hr; omega
    obtain ⟨y1, y2, y3, y4⟩ := cutF_yes hy
    rw [← hk] at y1 y2 y3 y4 hy
    simp only at y1 y2 y3 y4 hy
    rw [← hr] at y1
    have hk' : (ka, kb, kt) = (ka, kb, true) := by rw [hy]
    clear hk hy h h0 hr
    have yr : ST.den (.a r) = ((ka.length : Nat) : Int) := y1
    have yr2 : ST.den (.bin .add .i64 (.a r) (.len [c])) = ((ka.length + 1 : Nat) : Int) := by
      show IntKind.i64.wrap (r + (([c] : List UInt8).length : Int)) = _
      rw [y1, List.length_singleton, wrap64 (by omega) (by omega)]; omega
    refine ⟨by subst hD; exact subS_of (s := s) (i := 0) (a := .l 0) rfl yr (by omega) (by omega), fun r1 hr1 => ?_⟩
    have hr1' : r1 = ka := by
      have := sub_of (i := 0) (a := .l 0) hD rfl yr hr1
      rw [this]; exact y2.symm
    clear hr1
    cbv
    refine ⟨by subst hD; exact subS_of (s := s) (j := s.length) (b := .len s) yr2 rfl (by omega) (Nat.le_refl _), fun r2 hr2 => ?_⟩
    have hr2' : r2 = kb := by
      have := sub_of (j := s.length) (b := .len s) hD yr2 rfl hr2
      rw [this, y3]; exact List.take_of_length_le (by simp)
    clear hr2
    cbv
    refine finCut (x := .l true) hD ?_
    rw [hk', hr1', hr2']; rfl
  · have h0 : ¬ 0 ≤ r := of_decide_eq_false (p := 0 ≤ r) h
    have hy : (cutF c s).2.2 = false := by
      cases hb : (cutF c s).2.2 with
      | false => rfl
      | true => rw [(cutF_yes hb).1] at hr; omega
    obtain ⟨y1, y2, y3⟩ := cutF_no hy
    refine finCut (x := .l false) hD ?_
    rw [hk]
    exact Prod.ext y1 (Prod.ext y2 hy)
theorem cut_ok : FnOk Tryz.prog gl 63 spCut := by
  refine fnOk (gh := []) mixed cxOk (tabCons cut90_ok tabNil) Tryz.func63 (by kernel_rfl) (by kernel_rfl) ?_
  intro xs ls K h
  unfold spCut at h
  obtain ⟨s, c, rfl, rfl, hl, h⟩ := h
  obtain ⟨k, hk⟩ : ∃ k, k = cutF c s := ⟨_, rfl⟩
  obtain ⟨ka, kb, kt⟩ := k
  refine ⟨_, _, h ka kb kt hk, fun D hD => ?_⟩
  clear h
  cbv
  refine ⟨s, c, rfl, rfl, hl, fun a b t he => ?_⟩
  cbv
  exact finCut hD (by rw [hk, ← he]; rfl)
end Go.Proofs.YtfchfhjpldppjaaGreatDoor
