/- Part of the proofs of the statements about tokens (layer 5): contracts of functions; it has no conditions of its own. -/
import Derived.Lib.ConvBytes
import Derived.Test.YtfchfhjpldppjaaGreatDoorTc
namespace Go.Proofs.YtfchfhjpldppjaaGreatDoor
open Go.Sx
set_option maxRecDepth 10000
set_option maxHeartbeats 4000000
/-! item. -/
abbrev Item := List UInt8 × List Par
def parF (t : List UInt8) : Option (Par × Bool) :=
  if (!(cutF 61 t).2.2 || !refTokenF (cutF 61 t).1) || (refUnquoteF (cutF 61 t).2.1).2 == 6 then none
  else some ((foldF (cutF 61 t).1, (refUnquoteF (cutF 61 t).2.1).1), (refUnquoteF (cutF 61 t).2.1).2 == 3)
def parsF : List (List UInt8) → Option (List Par × Bool)
  | [] => some ([], false)
  | t :: r => if t == [] then parsF r else match parF t with
    | none => none
    | some x => (parsF r).map fun y => (x.1 :: y.1, x.2 || y.2)
def itemG (v : List UInt8) : Option (List Par × Bool) → Item × Int
  | none => (([], []), 6)
  | some y => if y.2 || decide (20 < (y.1.length : Int)) then (([], []), 3) else if twiceF y.1 then (([], []), 8) else ((v, y.1), 0)
def itemL (l : List (List UInt8)) : Item × Int :=
  if !refTokenF (l.getD 0 []) then (([], []), 6) else itemG (l.getD 0 []) (parsF (l.drop 1))
def itemF (s : List UInt8) : Item × Int := itemL (((partsF 59 s).getD []).map trimF)
def parRow (ps : List Par) (i : Nat) : List SV := [.str (ps.getD i ([], [])).1, .str (ps.getD i ([], [])).2]
def spItem : FSpec := fun _ xs ls K => ∃ (s : List UInt8), xs = [.str s] ∧ ls = [] ∧ s.length ≤ 100000 ∧ (partsF 59 s).isSome = true ∧ ∀ v ps e n nl f, ((v, ps), e) = itemF s → n = (ps.length : Int) → nl = ps.isEmpty → f = parRow ps → K (.tup [.agg [.str v, .sl (.a nl) (.a n) 2 f], .int .i64 (.a e)]) []
/-- With what has been read. -/
def addP (acc : List Par) (lg : Bool) (o : Option (List Par × Bool)) : Option (List Par × Bool) := o.map fun y => (acc ++ y.1, lg || y.2)
theorem RowP.nil : RowP (fun _ => []) 0 [] := ⟨rfl, by simp, by simp⟩
theorem finItem {D : Dn} (hD : D = dn) {v v' : List UInt8} {ps ps' : List Par} {e kn n : Int} {knl : Bool} {kf g : Nat → List SV} {x : BT} {y z : ST} (h : ((v, ps), e) = ((v', ps'), z.den)) (hkn : kn = (ps.length : Int)) (hknl : knl = ps.isEmpty) (hkf : kf = parRow ps) (R : RowP g n ps') (hy : y.den = n) (hx : x.den = ps'.isEmpty) :
    Fin (.tup [.agg [.str v', .sl (.a (D.b x)) (.a (D.i y)) 2 g], .int .i64 (.a (D.i z))]) (.tup [.agg [.str v, .sl (.a knl) (.a kn) 2 kf], .int .i64 (.a e)]) [] [] := by
  subst hD
  simp only [Prod.mk.injEq] at h
  obtain ⟨⟨rfl, rfl⟩, rfl⟩ := h
  refine finV (.tup (.cons (.agg (.cons (LeV.refl _) (.cons (.sl ?_ ?_ ?_) .nil))) (.cons (LeV.refl _) .nil)))
  · rw [hknl]; exact hx
  · rw [hkn]; show y.den = _; rw [hy, R.n]; rfl
  · intro i hi
    have hi : (i : Int) < y.den := hi
    rw [R.f i (by have := R.n; omega), hkf]; rfl
theorem RowS.drop1 {f f' : Nat → List SV} {n n' : Int} {l : List (List UInt8)} (R : RowS f n l) (h0 : 0 < l.length) (h : SubRow f' n' f 1 n) : RowS f' n' (l.drop 1) := by
  refine ⟨?_, fun i hi => ?_, by have := R.len; simp; omega⟩
  · rw [h.len, R.n]; simp; omega
  · simp only [List.length_drop] at hi
    rw [h.row i (i + 1) (by omega), R.f (i + 1) (by omega)]
    rw [List.getD_eq_getElem?_getD, List.getD_eq_getElem?_getD, List.getElem?_drop, Nat.add_comm 1 i]
theorem cutF_len (c : UInt8) (s : List UInt8) : (cutF c s).1.length ≤ s.length ∧ (cutF c s).2.1.length ≤ s.length := by
  induction s with
  | nil => simp [cutF]
  | cons b r ih =>
    simp only [cutF]
    split
    · simp
    · simp; omega
structure ItI (ts : List (List UInt8)) (acc : List Par) (i : Nat) (I L : Int) (nl : Bool) (m : Nat) : Prop where
  at_ : AtR ts i I m
  L : L = ts.length
  al : acc.length ≤ i
  nl : nl = acc.isEmpty
  tl : ts.length ≤ 100001
  te : ∀ x ∈ ts, x.length ≤ 100000
def itJ (v : List UInt8) (ts : List (List UInt8)) (k : Item × Int) (nb : Bool) (n1 : Int) (f1 : Nat → List SV) (m : Nat) (vs : List (Option SV)) (hp : List Hl) : Prop :=
  ∃ (i : Nat) (I L : Int) (lg nl : Bool) (N : Int) (g : Nat → List SV) (acc : List Par), vs = [some (.ptr 0 0), some (.bool (.a lg)), some (.sl (.a nb) (.a n1) 1 f1), some (.int .i64 (.a L)), some (.int .i64 (.a I))] ∧
    hp = [.blk 49 [.str v, .gsl (.a nl) (.a N) 2 g 1], .tail 53 (.a N) 2, .gone] ∧ ItI ts acc i I L nl m ∧ RowP g N acc ∧ k = itemG v (addP acc lg (parsF (ts.drop i)))
theorem addP_nil (o : Option (List Par × Bool)) : addP [] false o = o := by
  cases o with
  | none => rfl
  | some x => simp [addP]
theorem addP_cons {acc : List Par} {lg lg2 : Bool} {p : Par} {o : Option (List Par × Bool)} : addP acc lg (o.map fun y => (p :: y.1, lg2 || y.2)) = addP (acc ++ [p]) (lg || lg2) o := by
  cases o with
  | none => rfl
  | some x => simp [addP, Bool.or_assoc]
theorem RowP.more {f f' g : Nat → List SV} {n n' : Int} {a : List Par} {x : Par} (R : RowP f n a) (hg : g 0 = [.str x.1, .str x.2]) (h : MoreRow f' n' n 1 f g) (hl : a.length < 9223372036854775807) : RowP f' n' (a ++ [x]) := by
  have h1 := R.n
  refine ⟨by rw [h.len, h1]; simp, fun i hi => ?_, by simp; omega⟩
  simp only [List.length_append, List.length_singleton] at hi
  by_cases e : i < a.length
  · rw [h.lo i (by omega), R.f i e, List.getD_eq_getElem?_getD, List.getD_eq_getElem?_getD, List.getElem?_append_left e]
  · have : i = a.length := by omega
    subst this
    rw [h.hi a.length 0 (by rw [h1]; simp) (by simp), hg]
    simp
theorem item_ok : FnOk Tryz.prog gl 56 spItem := by
  refine fnOk (gh := [(0, [.hold 2 1 53]), (1, [.share 4])]) mixed cxOk (tabCons split_ok (tabCons token_ok (tabCons cut_ok (tabCons unquote_ok (tabCons fold_ok (tabCons twice_ok tabNil)))))) Tryz.func56 (by kernel_rfl) (by kernel_rfl) ?_
  intro xs ls K h
  unfold spItem at h
  obtain ⟨s, rfl, rfl, hl, hso, h⟩ := h
  obtain ⟨k, hk⟩ : ∃ k, k = itemF s := ⟨_, rfl⟩
  obtain ⟨⟨kv, kps⟩, ke⟩ := k
  obtain ⟨kn, hkn⟩ : ∃ kn : Int, kn = (kps.length : Int) := ⟨_, rfl⟩
  obtain ⟨knl, hknl⟩ : ∃ knl : Bool, knl = kps.isEmpty := ⟨_, rfl⟩
  obtain ⟨kf, hkf⟩ : ∃ kf, kf = parRow kps := ⟨_, rfl⟩
  refine ⟨_, _, h kv kps ke kn knl kf hk hkn hknl hkf, fun D hD => ?_⟩
  clear h
  rw [itemF] at hk
  cbv
  refine ⟨s, _, rfl, rfl, hl, fun p l n b nb f hp0 hl' hn hb hnb hf => ?_⟩
  have hp : p = partsF 59 s := by subst hD; exact hp0
  clear hp0
  rw [← hp, ← hl'] at hk
  obtain ⟨l0, rfl⟩ : ∃ l, p = some l := by rw [← hp] at hso; exact Option.isSome_iff_exists.1 hso
  obtain ⟨p1, p2, p3⟩ := partsF_len hp.symm
  simp only [Option.getD_some] at hl'
  have hll : l.length = l0.length := by rw [hl', List.length_map]
  have RL : RowS f n l := by rw [hf, hn]; exact RowS.row (by omega)
  have hle : ∀ x ∈ l, x.length ≤ 100000 := fun x hx => by
    rw [hl'] at hx
    obtain ⟨z, hz, rfl⟩ := List.mem_map.1 hx
    have := trimF_len z; have := p3 z hz; omega
  have hl0 : 0 < l.length := by omega
  have hl1 : l.length ≤ 100001 := by omega
  clear hf hl' p1 p2 p3 hp hn hll hnb hb hso
  cbv
  refine ⟨⟨rfl⟩, ?_, fun j hj => ?_⟩
  · have := RL.n; subst hD; exact ⟨by show (0 : Int) ≤ 0; omega, by show (0 : Int) < n; omega⟩
  obtain rfl : j = 0 := by subst hD; have : (j : Int) = 0 := hj.h; omega
  clear hj
  have e1 := RL.f 0 hl0
  have hxl := hle (l.getD 0 []) (by rw [List.getD_eq_getElem?_getD, List.getElem?_eq_getElem hl0]; exact List.getElem_mem hl0)
  rw [itemL] at hk
  obtain ⟨v, hv⟩ : ∃ v, v = l.getD 0 [] := ⟨_, rfl⟩
  rw [← hv] at e1 hxl hk
  cbv
  rw [e1]
  cbv
  refine ⟨v, rfl, rfl, by omega, fun q hq => ?_⟩
  have hq2 : q = refTokenF v := by subst hD; rw [← token_eq]; exact hq
  clear hq
  rw [← hq2] at hk
  cbv
  refine br hD (fun h => ?_) (fun h => ?_) <;> cbv
  · have h : (!q) = true := h
    rw [if_pos h] at hk
    exact finItem (ps' := []) (n := 0) (z := .l 6) hD hk hkn hknl hkf RowP.nil rfl rfl
  have h : (!q) = false := h
  rw [if_neg (by rw [h]; simp)] at hk
  clear h hq2 e1
  refine ⟨?_, fun f1 n1 hf1 => ?_⟩
  · have := RL.n; subst hD; exact ⟨by show (0 : Int) ≤ 1; omega, by show (1 : Int) ≤ n; omega, by show n ≤ n; omega⟩
  have R1 : RowS f1 n1 (l.drop 1) := by subst hD; exact RL.drop1 hl0 hf1
  obtain ⟨ts, hts⟩ : ∃ ts, ts = l.drop 1 := ⟨_, rfl⟩
  have hte : ∀ x ∈ ts, x.length ≤ 100000 := fun x hx => hle x (by rw [hts] at hx; exact List.mem_of_mem_drop hx)
  have htl : ts.length ≤ 100001 := by rw [hts, List.length_drop]; omega
  rw [← hts] at R1 hk
  clear hf1 hts hle RL hl0 hl1
  cbv
  obtain ⟨J, hJ⟩ : ∃ J, J = itJ v ts ((kv, kps), ke) nb n1 f1 := ⟨_, rfl⟩
  refine ⟨[2, 6, 29, 30, 31], J, ⟨rfl, ts.length, ?_⟩, ?_⟩
  · rw [hJ]
    subst hD
    exact ⟨0, 0, _, _, _, _, _, [], rfl, rfl, ⟨AtR.zero (by omega), R1.n, by simp, rfl, htl, hte⟩, RowP.nil, by rw [hk]; exact congrArg _ (addP_nil _).symm⟩
  clear hk
  intro m vs hp' hv
  rw [hJ] at hv
  unfold itJ at hv
  obtain ⟨i, I, L, lg, nl, N, g, acc, rfl, rfl, V, R, hk⟩ := hv
  cbv
  refine br hD (fun h => ?_) (fun h => ?_) <;> cbv
  · have hlt := V.at_.lt V.L (of_decide_eq_true (p := I < L) h)
    clear h
    refine ⟨V.at_.inB hD R1.n hlt, fun j hj => ?_⟩
    obtain rfl := V.at_.j hD hj
    clear hj
    have e1 := R1.f j hlt
    rw [dropR (d := []) hlt, parsF] at hk
    have hxl2 := hte (ts.getD j []) (by rw [List.getD_eq_getElem?_getD, List.getElem?_eq_getElem hlt]; exact List.getElem_mem hlt)
    obtain ⟨t, ht⟩ : ∃ t, t = ts.getD j [] := ⟨_, rfl⟩
    rw [← ht] at e1 hxl2 hk
    cbv
    rw [e1]
    cbv
    refine br hD (fun h => ?_) (fun h => ?_) <;> cbv
    · have h : (t == []) = true := h
      rw [if_pos h] at hk
      refine ⟨ts.length - (j + 1), (V.at_.step hD hlt).1, ?_⟩
      rw [hJ]
      subst hD
      exact ⟨j + 1, _, _, _, _, _, g, acc, rfl, rfl, ⟨(V.at_.step rfl hlt).2, V.L, by have := V.al; omega, V.nl, V.tl, V.te⟩, R, hk⟩
    have h : (t == []) = false := h
    rw [if_neg (by rw [h]; simp)] at hk
    clear h
    rw [parF] at hk
    have hcl := cutF_len 61 t
    refine ⟨t, 61, rfl, rfl, hxl2, fun ca cb ct hc => ?_⟩
    rw [← hc] at hk hcl
    simp only at hk hcl
    cbv
    refine ⟨cb, rfl, rfl, by omega, fun u e hu => ?_⟩
    rw [← hu] at hk
    simp only at hk
    cbv
    refine ⟨ca, rfl, rfl, by omega, fun q hq => ?_⟩
    have hq2 : q = refTokenF ca := by subst hD; rw [← token_eq]; exact hq
    clear hq
    rw [← hq2] at hk
    cbv
    refine br hD (fun h => ?_) (fun h => ?_) <;> cbv
    · have h : ((!ct || !q) || e == 6) = true := h
      rw [if_pos h] at hk
      exact finItem (ps' := []) (n := 0) (z := .l 6) hD hk hkn hknl hkf RowP.nil rfl rfl
    have h : ((!ct || !q) || e == 6) = false := h
    rw [if_neg (by rw [h]; simp)] at hk
    simp only at hk
    rw [addP_cons] at hk
    clear h
    refine ⟨ca, rfl, rfl, by omega, fun r hr => ?_⟩
    rw [← hr] at hk
    cbv
    intro g1 hg1
    have hg0 : g1 0 = [.str r, .str u] := hg1.h 0 _ rfl
    clear hg1
    cbv
    refine ⟨?_, fun f' n' hf' => ?_⟩
    · have := V.al; have := V.tl; have := V.at_.le; have h := R.n; subst hD; exact ⟨rfl, by show (N + 1) * 32 ≤ _; omega, by show N + 1 ≤ _; omega⟩
    have R' : RowP f' n' (acc ++ [(r, u)]) := by
      subst hD
      exact R.more hg0 hf' (by have := V.al; have := V.tl; have := V.at_.le; omega)
    clear hf' hg0
    cbv
    refine ⟨ts.length - (j + 1), (V.at_.step hD hlt).1, ?_⟩
    rw [hJ]
    subst hD
    exact ⟨j + 1, _, _, _, _, _, f', _, rfl, rfl, ⟨(V.at_.step rfl hlt).2, V.L, by have := V.al; simp; omega, by show (nl && false) = _; simp, V.tl, V.te⟩, R', hk⟩
  · have hi := V.at_.eq V.L (of_decide_eq_false (p := I < L) h)
    clear h
    rw [hi, List.drop_length] at hk
    have hk : ((kv, kps), ke) = if lg || decide (20 < (acc.length : Int)) then (([], []), 3) else if twiceF acc then (([], []), 8) else ((v, acc), 0) := by
      rw [hk]; simp [addP, parsF, itemG]
    rw [← R.n] at hk
    have hnl := V.nl
    cbv
    refine br hD (fun h => ?_) (fun h => ?_) <;> cbv
    · have h : (lg || decide (20 < N)) = true := h
      rw [if_pos h] at hk
      exact finItem (ps' := []) (n := 0) (z := .l 3) hD hk hkn hknl hkf RowP.nil rfl rfl
    have h : (lg || decide (20 < N)) = false := h
    rw [if_neg (by rw [h]; simp)] at hk
    clear h
    refine ⟨acc, _, _, _, rfl, rfl, by subst hD; exact R, fun r hr => ?_⟩
    rw [← hr] at hk
    cbv
    refine br hD (fun h => ?_) (fun h => ?_) <;> cbv
    · have h : r = true := h
      rw [if_pos h] at hk
      exact finItem (ps' := []) (n := 0) (z := .l 8) hD hk hkn hknl hkf RowP.nil rfl rfl
    have h : r = false := h
    rw [if_neg (by rw [h]; simp)] at hk
    exact finItem (ps' := acc) (n := N) (z := .l 0) (x := .a nl) (y := .a N) hD hk hkn hknl hkf R rfl hnl
end Go.Proofs.YtfchfhjpldppjaaGreatDoor
namespace Go.Proofs.YtfchfhjpldppjaaGreatDoor
open Go.Sx
set_option maxRecDepth 10000
set_option maxHeartbeats 2000000
/-! Each element can be taken apart at other separators. -/
def runM (p : Int → Bool) : List UInt8 → Nat → Option Nat
  | [], md => some md
  | c :: r, md =>
    if !p (c.toNat : Int) then none
    else if md = 0 then runM p r (if (c.toNat : Int) = 34 then 1 else 0)
    else if md = 1 then runM p r (if (c.toNat : Int) = 34 then 0 else if (c.toNat : Int) = 92 then 2 else 1)
    else runM p r 1
theorem partsM_some (p : Int → Bool) (y : Int) : ∀ (r : List UInt8) (md : Nat) (cur : List UInt8), runM p r md = some 0 → (partsM p y r md cur).isSome = true
  | [], md, cur, h => by
    simp only [runM, Option.some.injEq] at h
    simp [partsM, h]
  | c :: r, md, cur, h => by
    simp only [runM] at h
    simp only [partsM]
    split at h
    · cases h
    rename_i hp
    rw [if_neg hp]
    split at h
    · rename_i h0
      rw [if_pos h0]
      split at h
      · rename_i h34; rw [if_pos h34]; exact partsM_some p y r 1 _ h
      · rename_i h34
        rw [if_neg h34]
        split
        · rw [Option.isSome_map]; exact partsM_some p y r 0 _ h
        · exact partsM_some p y r 0 _ h
    · rename_i h0
      rw [if_neg h0]
      split at h
      · rename_i h1
        rw [if_pos h1]
        split at h
        · rename_i h34; rw [if_pos h34]; exact partsM_some p y r 0 _ h
        · rename_i h34
          rw [if_neg h34]
          split at h
          · rename_i h92; rw [if_pos h92]; exact partsM_some p y r 2 _ h
          · rename_i h92; rw [if_neg h92]; exact partsM_some p y r 1 _ h
      · rename_i h1
        rw [if_neg h1]; exact partsM_some p y r 1 _ h
theorem partsM_run (p : Int → Bool) (y : Int) : ∀ (r : List UInt8) (md : Nat) (cur : List UInt8) (l : List (List UInt8)), partsM p y r md cur = some l → ∃ r1 l', l = (cur ++ r1) :: l' ∧ runM p r1 md = some 0 ∧ ∀ x ∈ l', runM p x 0 = some 0
  | [], md, cur, l, h => by
    simp only [partsM] at h
    split at h
    · rename_i h0
      cases h
      exact ⟨[], [], by simp, by rw [runM, h0], by simp⟩
    · cases h
  | c :: r, md, cur, l, h => by
    simp only [partsM] at h
    split at h
    · cases h
    rename_i hp
    have push : ∀ md', partsM p y r md' (cur ++ [c]) = some l → (∀ r1, runM p (c :: r1) md = runM p r1 md') → ∃ r1 l', l = (cur ++ r1) :: l' ∧ runM p r1 md = some 0 ∧ ∀ x ∈ l', runM p x 0 = some 0 := by
      intro md' h hm
      obtain ⟨r1, l', e1, e2, e3⟩ := partsM_run p y r md' _ l h
      exact ⟨c :: r1, l', by rw [e1]; simp, by rw [hm]; exact e2, e3⟩
    split at h
    · rename_i h0
      split at h
      · rename_i h34
        exact push 1 h fun r1 => by rw [runM, if_neg hp, if_pos h0, if_pos h34]
      · rename_i h34
        split at h
        · obtain ⟨l1, h1, rfl⟩ := Option.map_eq_some_iff.1 h
          obtain ⟨r1, l', e1, e2, e3⟩ := partsM_run p y r 0 [] l1 h1
          refine ⟨[], l1, by simp, by rw [runM, h0], ?_⟩
          rw [e1]
          intro x hx
          rcases List.mem_cons.1 hx with rfl | hx
          · simpa using e2
          · exact e3 x hx
        · exact push 0 h fun r1 => by rw [runM, if_neg hp, if_pos h0, if_neg h34]
    · rename_i h0
      split at h
      · rename_i h1
        split at h
        · rename_i h34
          exact push 0 h fun r1 => by rw [runM, if_neg hp, if_neg h0, if_pos h1, if_pos h34]
        · rename_i h34
          split at h
          · rename_i h92
            exact push 2 h fun r1 => by rw [runM, if_neg hp, if_neg h0, if_pos h1, if_neg h34, if_pos h92]
          · rename_i h92
            exact push 1 h fun r1 => by rw [runM, if_neg hp, if_neg h0, if_pos h1, if_neg h34, if_neg h92]
      · rename_i h1
        exact push 1 h fun r1 => by rw [runM, if_neg hp, if_neg h0, if_neg h1]
theorem runM_app (p : Int → Bool) : ∀ (a b : List UInt8) (md : Nat), runM p (a ++ b) md = (runM p a md).bind (runM p b)
  | [], b, md => rfl
  | c :: a, b, md => by
    simp only [List.cons_append, runM]
    split
    · rfl
    split
    · exact runM_app p a b _
    split
    · exact runM_app p a b _
    · exact runM_app p a b _
theorem blank_facts {c : UInt8} (h : blankB c = true) : plainI (c.toNat : Int) = true ∧ (c.toNat : Int) ≠ 34 ∧ (c.toNat : Int) ≠ 92 := by
  unfold blankB blankI at h
  simp only [Bool.or_eq_true, beq_iff_eq] at h
  rcases h with h | h <;> rw [h] <;> decide
theorem runM_trimL : ∀ (x : List UInt8), runM plainI x 0 = some 0 → runM plainI (trimL x) 0 = some 0
  | [], h => h
  | c :: r, h => by
    by_cases hb : blankB c = true
    · rw [trimL_cons hb]
      obtain ⟨h1, h2, h3⟩ := blank_facts hb
      rw [runM, h1] at h
      simp only [Bool.not_true, Bool.false_eq_true, if_false, if_true, if_neg h2] at h
      exact runM_trimL r h
    · rw [trimL, List.dropWhile_cons_of_neg hb]; exact h
theorem runM_blank {r : List UInt8} {c : UInt8} (hb : blankB c = true) (h : runM plainI (r ++ [c]) 0 = some 0) : runM plainI r 0 = some 0 := by
  obtain ⟨h1, h2, h3⟩ := blank_facts hb
  rw [runM_app] at h
  cases hr : runM plainI r 0 with
  | none => rw [hr] at h; cases h
  | some m =>
    rw [hr] at h
    simp only [Option.bind_some, runM, h1, Bool.not_true, Bool.false_eq_true, if_false, if_neg h2, if_neg h3] at h
    split at h
    · rename_i h0; rw [h0]
    · split at h <;> simp at h
theorem runM_trimR : ∀ (n : Nat) (x : List UInt8), x.length ≤ n → runM plainI x 0 = some 0 → runM plainI (trimR x) 0 = some 0
  | n, [], _, h => h
  | 0, c :: r, hl, h => by simp at hl
  | n + 1, c :: r, hl, h => by
    obtain ⟨L, b, hx⟩ : ∃ L b, c :: r = L ++ [b] := by
      rcases List.eq_nil_or_concat (c :: r) with e | ⟨L, b, e⟩
      · cases e
      · exact ⟨L, b, by simpa using e⟩
    rw [hx] at h ⊢
    have hl2 : L.length ≤ n := by have := congrArg List.length hx; simp at this hl; omega
    by_cases hb : blankB b = true
    · rw [trimR_snoc hb]
      exact runM_trimR n L hl2 (runM_blank hb h)
    · rw [trimR, List.reverse_append, List.reverse_singleton, List.singleton_append, List.dropWhile_cons_of_neg hb]
      simpa using h
theorem elem_split {s x : List UInt8} {y : Int} (h : x ∈ (refElementsF s).1) : (partsF y x).isSome = true := by
  unfold refElementsF at h
  split at h
  · simp at h
  · cases hp : partsF 44 s with
    | none => rw [hp] at h; simp at h
    | some l =>
      rw [hp] at h
      have h : x ∈ keepF l := h
      unfold keepF at h
      obtain ⟨z, hz, rfl⟩ := List.mem_map.1 (List.mem_filter.1 h).1
      obtain ⟨r1, l', e1, e2, e3⟩ := partsM_run _ _ _ _ _ _ hp
      have hz2 : runM plainI z 0 = some 0 := by
        rw [e1] at hz
        rcases List.mem_cons.1 hz with rfl | hz
        · simpa using e2
        · exact e3 z hz
      exact partsM_some _ _ _ _ _ (runM_trimR _ _ (Nat.le_refl _) (runM_trimL _ hz2))
end Go.Proofs.YtfchfhjpldppjaaGreatDoor
namespace Go.Proofs.YtfchfhjpldppjaaGreatDoor
open Go.Sx
set_option maxRecDepth 10000
set_option maxHeartbeats 4000000
/-! Items. -/
def itemSV (x : Item) : List SV := [.str x.1, .sl (.a x.2.isEmpty) (.a (x.2.length : Int)) 2 (parRow x.2)]
def itemRow (l : List Item) (i : Nat) : List SV := itemSV (l.getD i ([], []))
structure RowI (f : Nat → List SV) (n : Int) (a : List Item) : Prop where
  n : n = a.length
  f : ∀ i, i < a.length → f i = itemSV (a.getD i ([], []))
  len : a.length ≤ 9223372036854775807
theorem RowI.nil : RowI (fun _ => []) 0 [] := ⟨rfl, by simp, by simp⟩
theorem RowI.row {l : List Item} (h : l.length ≤ 9223372036854775807) : RowI (itemRow l) l.length l := ⟨rfl, fun _ _ => rfl, h⟩
theorem RowI.more {f f' g : Nat → List SV} {n n' : Int} {a : List Item} {x : Item} (R : RowI f n a) (hg : g 0 = itemSV x) (h : MoreRow f' n' n 1 f g) (hl : a.length < 9223372036854775807) : RowI f' n' (a ++ [x]) := by
  have h1 := R.n
  refine ⟨by rw [h.len, h1]; simp, fun i hi => ?_, by simp; omega⟩
  simp only [List.length_append, List.length_singleton] at hi
  by_cases e : i < a.length
  · rw [h.lo i (by omega), R.f i e, List.getD_eq_getElem?_getD, List.getD_eq_getElem?_getD, List.getElem?_append_left e]
  · have : i = a.length := by omega
    subst this
    rw [h.hi a.length 0 (by rw [h1]; simp) (by simp), hg]
    simp
def itemsL : List (List UInt8) → List Item × Int
  | [] => ([], 0)
  | s :: r => if (itemF s).2 ≠ 0 then ([], (itemF s).2) else if (itemsL r).2 ≠ 0 then ([], (itemsL r).2) else ((itemF s).1 :: (itemsL r).1, 0)
def addI (out : List Item) (y : List Item × Int) : List Item × Int := if y.2 ≠ 0 then ([], y.2) else (out ++ y.1, 0)
theorem addI_err {out : List Item} {s : List UInt8} {r : List (List UInt8)} (h : (itemF s).2 ≠ 0) : addI out (itemsL (s :: r)) = ([], (itemF s).2) := by
  rw [itemsL, if_pos h, addI, if_pos h]
theorem addI_more {out : List Item} {s : List UInt8} {r : List (List UInt8)} (h : (itemF s).2 = 0) : addI out (itemsL (s :: r)) = addI (out ++ [(itemF s).1]) (itemsL r) := by
  rw [itemsL, if_neg (by rw [h]; simp)]
  by_cases hr : (itemsL r).2 ≠ 0
  · rw [if_pos hr, addI, addI, if_pos hr, if_pos hr]
  · rw [if_neg hr, addI, addI, if_neg hr, if_neg (by simp)]
    simp
theorem addI_nil {y : List Item × Int} (h : y.2 = 0) : addI [] y = y := by
  rw [addI, if_neg (by rw [h]; simp), List.nil_append, ← h]
def itemsF (v : List UInt8) : List Item × Int :=
  if (refElementsF v).2 ≠ 0 then ([], (refElementsF v).2) else if 50 < (refElementsF v).1.length then ([], 3) else addI [] (itemsL (refElementsF v).1)
def spItems (F : List UInt8 → List Item × Int) : FSpec := fun _ xs ls K => ∃ (s : List UInt8), xs = [.str s] ∧ ls = [] ∧ s.length ≤ 9223372036854775807 ∧ ∀ l e n nb f, (l, e) = F s → n = (l.length : Int) → nb = l.isEmpty → f = itemRow l → K (.tup [.sl (.a nb) (.a n) 2 f, .int .i64 (.a e)]) []
theorem finItems {D : Dn} (hD : D = dn) {l l' : List Item} {ke kn : Int} {knb : Bool} {kr f : Nat → List SV} {y z : ST} {x : BT} (hk : (l, ke) = (l', z.den)) (hkn : kn = (l.length : Int)) (hknb : knb = l.isEmpty) (hkr : kr = itemRow l)
    {n : Int} (R : RowI f n l') (hy : y.den = n) (hx : x.den = l'.isEmpty) : Fin (.tup [.sl (.a (D.b x)) (.a (D.i y)) 2 f, .int .i64 (.a (D.i z))]) (.tup [.sl (.a knb) (.a kn) 2 kr, .int .i64 (.a ke)]) [] [] := by
  subst hD
  simp only [Prod.mk.injEq] at hk
  obtain ⟨rfl, rfl⟩ := hk
  refine finV (.tup (.cons (.sl ?_ ?_ ?_) (.cons (LeV.refl _) .nil)))
  · rw [hknb]; exact hx
  · rw [hkn]; show y.den = _; rw [hy, R.n]; rfl
  · intro i hi
    have hi : (i : Int) < y.den := hi
    rw [R.f i (by have := R.n; omega), hkr]; rfl
structure IsI (l : List (List UInt8)) (out : List Item) (i : Nat) (I L : Int) (nl : Bool) (m : Nat) : Prop where
  at_ : AtR l i I m
  L : L = l.length
  ol : out.length ≤ i
  nl : nl = out.isEmpty
  ll : l.length ≤ 50
def isJ2 (l : List (List UInt8)) (k : List Item × Int) (nb : Bool) (nn : Int) (g : Nat → List SV) (m : Nat) (vs : List (Option SV)) (hp : List Hl) : Prop :=
  ∃ (i : Nat) (I L n : Int) (nl : Bool) (f : Nat → List SV) (out : List Item), vs = [some (.gsl (.a nl) (.a n) 2 f 0), some (.sl (.a nb) (.a nn) 1 g), some (.int .i64 (.a L)), some (.int .i64 (.a I))] ∧ hp = [.tail 49 (.a n) 2] ∧
    IsI l out i I L nl m ∧ RowI f n out ∧ k = addI out (itemsL (l.drop i))
structure LenIs {α : Type} (n : Int) (l : List α) : Prop where
  h : n = (l.length : Int)
theorem items_ok : FnOk Tryz.prog gl 25 (spItems itemsF) := by
  refine fnOk (gh := [(6, [.attach 6 49])]) mixed cxOk (tabCons elements_ok (tabCons item_ok tabNil)) Tryz.func25 (by kernel_rfl) (by kernel_rfl) ?_
  intro xs ls K h
  unfold spItems at h
  obtain ⟨s, rfl, rfl, hl, h⟩ := h
  obtain ⟨k, hk⟩ : ∃ k, k = itemsF s := ⟨_, rfl⟩
  obtain ⟨kl, ke⟩ := k
  obtain ⟨kn, hkn⟩ : ∃ kn : Int, kn = (kl.length : Int) := ⟨_, rfl⟩
  obtain ⟨knb, hknb⟩ : ∃ knb : Bool, knb = kl.isEmpty := ⟨_, rfl⟩
  obtain ⟨kr, hkr⟩ : ∃ kr, kr = itemRow kl := ⟨_, rfl⟩
  refine ⟨_, _, h kl ke kn knb kr hk hkn hknb hkr, fun D hD => ?_⟩
  clear h
  rw [itemsF] at hk
  cbv
  have hel := refElementsF_len s
  have hsp := fun x (hx : x ∈ (refElementsF s).1) => elem_split (y := 59) hx
  refine ⟨s, rfl, rfl, hl, fun l e n nb he hn hnb => ?_⟩
  rw [← he] at hk hel hsp
  simp only at hk hel hsp
  have RL : RowS (strRow l) n l := by rw [hn]; exact RowS.row (by omega)
  obtain ⟨g, hg⟩ : ∃ g, g = strRow l := ⟨_, rfl⟩
  rw [← hg] at RL ⊢
  clear hg
  cbv
  refine br hD (fun h => ?_) (fun h => ?_) <;> cbv
  · have h : (e != 0) = true := h
    rw [if_pos (by simpa using h)] at hk
    exact finItems (l' := []) (z := .a e) hD hk hkn hknb hkr RowI.nil rfl rfl
  have h : (e != 0) = false := h
  rw [if_neg (by simpa using h)] at hk
  clear h
  refine br hD (fun h => ?_) (fun h => ?_) <;> cbv
  · have h : decide (50 < n) = true := h
    rw [if_pos (by have := RL.n; have h : 50 < n := by simpa using h
                   omega)] at hk
    exact finItems (l' := []) (z := .l 3) hD hk hkn hknb hkr RowI.nil rfl rfl
  have h : decide (50 < n) = false := h
  have hl50 : l.length ≤ 50 := by have := RL.n; have h : ¬ (50 < n) := by simpa using h
                                  omega
  rw [if_neg (by omega)] at hk
  clear h hn hnb
  obtain ⟨J, hJ⟩ : ∃ J, J = isJ2 l (kl, ke) nb n g := ⟨_, rfl⟩
  refine ⟨[6, 24, 25, 26], J, ⟨rfl, l.length, ?_⟩, ?_⟩
  · rw [hJ]
    subst hD
    exact ⟨0, 0, _, _, _, _, [], rfl, rfl, ⟨AtR.zero (by omega), RL.n, by simp, rfl, hl50⟩, RowI.nil, hk⟩
  clear hk
  intro m vs hp' hv
  rw [hJ] at hv
  unfold isJ2 at hv
  obtain ⟨i, I, L, N, nl, f, out, rfl, rfl, V, R, hk⟩ := hv
  cbv
  refine br hD (fun h => ?_) (fun h => ?_) <;> cbv
  · have hlt := V.at_.lt V.L (of_decide_eq_true (p := I < L) h)
    clear h
    refine ⟨V.at_.inB hD RL.n hlt, fun j hj => ?_⟩
    obtain rfl := V.at_.j hD hj
    clear hj
    have e1 := RL.f j hlt
    rw [dropR (d := []) hlt] at hk
    have hmem : l.getD j [] ∈ l := by rw [List.getD_eq_getElem?_getD, List.getElem?_eq_getElem hlt]; exact List.getElem_mem hlt
    have hxl := hel.2 _ hmem
    have hxs := hsp _ hmem
    have herr := addI_err (out := out) (s := l.getD j []) (r := l.drop (j + 1))
    have hmore := addI_more (out := out) (s := l.getD j []) (r := l.drop (j + 1))
    obtain ⟨x, hx⟩ : ∃ x, x = l.getD j [] := ⟨_, rfl⟩
    rw [← hx] at e1 hxl hxs hk herr hmore
    clear hmem
    cbv
    rw [e1]
    cbv
    refine ⟨x, rfl, rfl, by omega, hxs, fun v ps e2 pn pnl pf hi hpn0 hpnl hpf => ?_⟩
    have hpn : LenIs pn ps := ⟨hpn0⟩
    clear hpn0
    rw [← hi] at herr hmore
    simp only at herr hmore
    cbv
    refine br hD (fun h => ?_) (fun h => ?_) <;> cbv
    · have h : (e2 != 0) = true := h
      rw [herr (by simpa using h)] at hk
      exact finItems (l' := []) (z := .a e2) hD hk hkn hknb hkr RowI.nil rfl rfl
    have h : (e2 != 0) = false := h
    rw [hmore (by simpa using h)] at hk
    clear h herr hmore
    intro g1 hg1
    have hg0 : g1 0 = itemSV (v, ps) := by
      rw [hg1.h 0 _ rfl]
      subst hD
      show _ = [SV.str v, .sl (.a ps.isEmpty) (.a (ps.length : Int)) 2 (parRow ps)]
      rw [← hpnl, ← hpn.h, ← hpf]; rfl
    clear hg1
    cbv
    refine ⟨?_, fun f' n' hf' => ?_⟩
    · have := V.ol; have := V.ll; have := V.at_.le; have h := R.n; subst hD; exact ⟨rfl, by show (N + 1) * 40 ≤ _; omega, by show N + 1 ≤ _; omega⟩
    have R' : RowI f' n' (out ++ [(v, ps)]) := by
      subst hD
      exact R.more hg0 hf' (by have := V.ol; have := V.ll; have := V.at_.le; omega)
    clear hf' hg0
    cbv
    refine ⟨l.length - (j + 1), (V.at_.step hD hlt).1, ?_⟩
    rw [hJ]
    subst hD
    exact ⟨j + 1, _, _, _, _, f', _, rfl, rfl, ⟨(V.at_.step rfl hlt).2, V.L, by have := V.ol; simp; omega, by show (nl && false) = _; simp, V.ll⟩, R', hk⟩
  · have hi := V.at_.eq V.L (of_decide_eq_false (p := I < L) h)
    clear h
    rw [hi, List.drop_length] at hk
    have hk2 : (kl, ke) = (out, 0) := by rw [hk]; simp [addI, itemsL]
    exact finItems (l' := out) (z := .l 0) (x := .a nl) (y := .a N) hD hk2 hkn hknb hkr R rfl V.nl
end Go.Proofs.YtfchfhjpldppjaaGreatDoor
namespace Go.Proofs.YtfchfhjpldppjaaGreatDoor
open Go.Sx
set_option maxRecDepth 10000
set_option maxHeartbeats 2000000
/-! How long things are. -/
theorem token_len {s : List UInt8} (h : refTokenF s = true) : 1 ≤ s.length ∧ s.length ≤ 64 := by
  unfold refTokenF at h
  simp only [Bool.and_eq_true, Bool.not_eq_true', Bool.or_eq_false_iff, decide_eq_false_iff_not] at h
  omega
theorem unq_len (s : List UInt8) : (refUnquoteF s).1.length ≤ 500 := by
  unfold refUnquoteF
  split
  · rename_i h; have := token_len h; show s.length ≤ _; omega
  · split
    · simp
    · split
      · simp
      · split
        · simp
        · rename_i h; show ((refQuotedF s 0).2.1).length ≤ _; omega
theorem parF_len {t : List UInt8} {p : Par} {b : Bool} (h : parF t = some (p, b)) : p.2.length ≤ 500 := by
  unfold parF at h
  split at h
  · cases h
  · simp only [Option.some.injEq, Prod.mk.injEq] at h
    rw [← h.1]; exact unq_len _
theorem parsF_len : ∀ (l : List (List UInt8)) (y : List Par × Bool), parsF l = some y → ∀ p ∈ y.1, p.2.length ≤ 500
  | [], y, h => by cases h; simp
  | t :: r, y, h => by
    rw [parsF] at h
    split at h
    · exact parsF_len r y h
    · split at h
      · cases h
      · rename_i x hx
        obtain ⟨z, hz, rfl⟩ := Option.map_eq_some_iff.1 h
        intro p hp
        rcases List.mem_cons.1 hp with rfl | hp
        · exact parF_len (b := x.2) hx
        · exact parsF_len r z hz p hp
def itemGood (x : Item) : Prop := x.2.length ≤ 20 ∧ ∀ p ∈ x.2, p.2.length ≤ 500
theorem itemF_good (s : List UInt8) : itemGood (itemF s).1 := by
  have nil : itemGood ([], []) := ⟨by simp, by simp⟩
  unfold itemF itemL
  split
  · exact nil
  · generalize List.map trimF ((partsF 59 s).getD []) = l
    cases hp : parsF (l.drop 1) with
    | none => exact nil
    | some y =>
      rw [itemG]
      split
      · exact nil
      · rename_i h
        split
        · exact nil
        · simp only [Bool.or_eq_true, decide_eq_true_eq, not_or] at h
          exact ⟨by show y.1.length ≤ _; omega, parsF_len _ _ hp⟩
theorem itemsL_mem : ∀ (l : List (List UInt8)) (out : List Item), ∀ x ∈ (addI out (itemsL l)).1, x ∈ out ∨ ∃ s ∈ l, x = (itemF s).1
  | [], out, x, hx => by
    have : x ∈ out := by simpa [addI, itemsL] using hx
    exact .inl this
  | s :: r, out, x, hx => by
    by_cases h : (itemF s).2 ≠ 0
    · rw [addI_err h] at hx; simp at hx
    · rw [addI_more (by simpa using h)] at hx
      rcases itemsL_mem r _ x hx with h1 | ⟨t, ht, rfl⟩
      · rcases List.mem_append.1 h1 with h1 | h1
        · exact .inl h1
        · exact .inr ⟨s, by simp, by simpa using h1⟩
      · exact .inr ⟨t, by simp [ht], rfl⟩
theorem itemsF_good (s : List UInt8) : ∀ x ∈ (itemsF s).1, itemGood x := by
  intro x hx
  unfold itemsF at hx
  split at hx
  · simp at hx
  · split at hx
    · simp at hx
    · rcases itemsL_mem _ _ x hx with h | ⟨t, _, rfl⟩
      · simp at h
      · exact itemF_good t
end Go.Proofs.YtfchfhjpldppjaaGreatDoor
namespace Go.Proofs.YtfchfhjpldppjaaGreatDoor
open Go Go.Sx
set_option maxRecDepth 10000
set_option maxHeartbeats 4000000
/-! Quality. -/
def digB (c : UInt8) : Bool := decide (48 ≤ c.toNat) && decide (c.toNat ≤ 57)
def dgI (l : List UInt8) (i : Nat) : Int := ((l.getD i 48).toNat : Int) - 48
def qualOk (x p : List UInt8) : Bool := (x == [48] || x == [49]) && decide (p.length ≤ 3) && p.all digB && !(x == [49] && !(p.all (· == 48)))
def qualV (x p : List UInt8) : Int := 1000 * dgI x 0 + 100 * dgI p 0 + 10 * dgI p 1 + dgI p 2
def qualF (s : List UInt8) : Int × Int := if qualOk (cutF 46 s).1 (cutF 46 s).2.1 then (qualV (cutF 46 s).1 (cutF 46 s).2.1, 0) else (0, 6)
theorem dropWhile_nil {p : UInt8 → Bool} : ∀ (l : List UInt8), l.dropWhile p = [] ↔ ∀ x ∈ l, p x = true
  | [] => by simp
  | c :: r => by
    by_cases h : p c = true
    · rw [List.dropWhile_cons_of_pos h, dropWhile_nil r]
      simp [h]
    · rw [List.dropWhile_cons_of_neg h]
      simp [h]
theorem mem_takeW {p : UInt8 → Bool} {x : UInt8} : ∀ (l : List UInt8), x ∈ l.takeWhile p → p x = true
  | [], h => by simp at h
  | c :: r, h => by
    by_cases hc : p c = true
    · rw [List.takeWhile_cons_of_pos hc] at h
      rcases List.mem_cons.1 h with rfl | h
      · exact hc
      · exact mem_takeW r h
    · rw [List.takeWhile_cons_of_neg hc] at h; simp at h
structure QualC (x p r1 r2 : List UInt8) : Prop where
  h : (((((x != [48] && x != [49]) || decide (3 < (p.length : Int))) || r1 != []) || (x == [49] && r2 != []))) = !qualOk x p
theorem trimS_nil (p cs : List UInt8) : (Lib.trimS p cs == []) = p.all (cs.contains ·) := by
  rw [Bool.eq_iff_iff, beq_iff_eq, List.all_eq_true]
  unfold Lib.trimS Lib.trimLeftS
  rw [dropWhile_nil]
  have key : p.reverse = p.reverse.takeWhile (cs.contains ·) ++ p.reverse.dropWhile (cs.contains ·) := List.takeWhile_append_dropWhile.symm
  constructor
  · intro h x hx
    have hx : x ∈ p.reverse := by simpa using hx
    rw [key] at hx
    rcases List.mem_append.1 hx with h1 | h1
    · exact mem_takeW _ h1
    · exact h x (by unfold Lib.trimRightS; simpa using h1)
  · intro h x hx
    unfold Lib.trimRightS at hx
    have hx : x ∈ p.reverse.dropWhile (cs.contains ·) := by simpa using hx
    have : x ∈ p.reverse := List.dropWhile_subset _ hx
    exact h x (by simpa using this)
theorem dig_in (c : UInt8) : [48, 49, 50, 51, 52, 53, 54, 55, 56, 57].contains c = digB c := by
  have : ∀ n : Fin 256, [48, 49, 50, 51, 52, 53, 54, 55, 56, 57].contains (UInt8.ofNat n.1) = (decide (48 ≤ n.1) && decide (n.1 ≤ 57)) := by decide
  have h := this ⟨c.toNat, c.toNat_lt⟩
  simp only [UInt8.ofNat_toNat] at h
  exact h
theorem zero_in (c : UInt8) : [48].contains c = (c == 48) := by
  simp only [List.contains, List.elem]
  cases (c == 48) <;> rfl
theorem trim_dig (p : List UInt8) : (Lib.trimS p [48, 49, 50, 51, 52, 53, 54, 55, 56, 57] == []) = p.all digB := by
  rw [trimS_nil]; congr 1; funext c; exact dig_in c
theorem trim_zero (p : List UInt8) : (Lib.trimS p [48] == []) = p.all (· == 48) := by
  rw [trimS_nil]; congr 1; funext c; exact zero_in c
theorem digitVal_of {c : UInt8} (h : digB c = true) : Lib.digitVal c = some (c.toNat - 48) := by
  unfold digB at h
  simp only [Bool.and_eq_true, decide_eq_true_eq] at h
  rw [Lib.digitVal, if_pos h]
theorem atoi_four {a b c d : UInt8} (ha : digB a = true) (hb : digB b = true) (hc : digB c = true) (hd : digB d = true) : Lib.atoi [a, b, c, d] = some (1000 * ((a.toNat : Int) - 48) + 100 * ((b.toNat : Int) - 48) + 10 * ((c.toNat : Int) - 48) + ((d.toNat : Int) - 48)) := by
  have n1 : (a == 45) = false := by
    cases h : a == 45 with
    | false => rfl
    | true => rw [beq_iff_eq.1 h] at ha; exact absurd ha (by decide)
  have n2 : (a == 43) = false := by
    cases h : a == 43 with
    | false => rfl
    | true => rw [beq_iff_eq.1 h] at ha; exact absurd ha (by decide)
  rw [Lib.atoi, n1, n2]
  simp only [Bool.false_eq_true, if_false, Lib.decNat, List.isEmpty_cons, Lib.decFrom, digitVal_of ha, digitVal_of hb, digitVal_of hc, digitVal_of hd, Option.map_some, Option.some.injEq]
  unfold digB at ha hb hc hd
  simp only [Bool.and_eq_true, decide_eq_true_eq] at ha hb hc hd
  omega
theorem atoi_qual {x p : List UInt8} (h : qualOk x p = true) : Lib.atoi (x ++ (p ++ [48, 48, 48]).take 3) = some (qualV x p) ∧ x.length ≤ 1 ∧ p.length ≤ 3 := by
  unfold qualOk at h
  simp only [Bool.and_eq_true, Bool.or_eq_true, beq_iff_eq, decide_eq_true_eq] at h
  obtain ⟨⟨⟨h1, h2⟩, h3⟩, _⟩ := h
  have hz : digB 48 = true := by decide
  obtain ⟨a, rfl, ha⟩ : ∃ a, x = [a] ∧ digB a = true := by
    rcases h1 with rfl | rfl
    · exact ⟨48, rfl, by decide⟩
    · exact ⟨49, rfl, by decide⟩
  refine ⟨?_, by simp, h2⟩
  rw [List.all_eq_true] at h3
  match p, h2, h3 with
  | [], _, _ => exact atoi_four ha hz hz hz
  | [b], _, h3 => exact atoi_four ha (h3 b (by simp)) hz hz
  | [b, c], _, h3 => exact atoi_four ha (h3 b (by simp)) (h3 c (by simp)) hz
  | [b, c, d], _, h3 => exact atoi_four ha (h3 b (by simp)) (h3 c (by simp)) (h3 d (by simp))
  | _ :: _ :: _ :: _ :: _, h2, _ => simp at h2
def spAtoi : FSpec := fun _ xs ls K => ∃ (s : List UInt8) (n : Int), xs = [.str s] ∧ ls = [] ∧ s.length ≤ 18 ∧ Lib.atoi s = some n ∧ K (.tup [.int .i64 (.a n), .raw .nilIface]) []
theorem atoi_ok : FnOk Tryz.prog gl 65 spAtoi := by
  refine ⟨⟨Tryz.f65, _, Tryz.func65, rfl, by kernel_rfl⟩, fun xs ls K h => ?_⟩
  obtain ⟨s, n, rfl, rfl, hs, hn, h⟩ := h
  refine ⟨_, _, h, callsTo_below fun E B w vals _ _ _ hr => ?_⟩
  obtain ⟨v, rfl, hv⟩ := relL_one hr
  rw [rel_str hv]
  refine (sh_strconv_Atoi ⟨s.toArray⟩ n (by simpa [ByteArray.size] using hs) (by simpa using hn) w).mono ?_
  rintro e w' ⟨rfl, t, rfl⟩
  refine ⟨_, rfl, fun E => .tup rfl fun i s v a b => ?_, ⟨rfl, rfl, rfl, by rw [Lib.bytesWorld_size]; omega, fun j hj => Lib.bytesWorld_at_old w 5 t j hj⟩⟩
  match i, a, b with
  | 0, a, b => cases a; cases b; exact .ro (.int rfl)
  | 1, a, b => cases a; cases b; exact .ro (.raw rfl)
  | i + 2, a, b => simp at a
def spQual : FSpec := fun _ xs ls K => ∃ (s : List UInt8), xs = [.str s] ∧ ls = [] ∧ s.length ≤ 100000 ∧ ∀ n e, (n, e) = qualF s → K (.tup [.int .i64 (.a n), .int .i64 (.a e)]) []
theorem finQual {D : Dn} (hD : D = dn) {n e : Int} {x y : ST} (h : (n, e) = (x.den, y.den)) : Fin (.tup [.int .i64 (.a (D.i x)), .int .i64 (.a (D.i y))]) (.tup [.int .i64 (.a n), .int .i64 (.a e)]) [] [] := by
  subst hD
  simp only [Prod.mk.injEq] at h
  obtain ⟨rfl, rfl⟩ := h
  exact finV (LeV.refl _)
theorem quality_ok : FnOk Tryz.prog gl 35 spQual := by
  refine fnOk (gh := []) mixed cxOk (tabCons cut_ok (tabCons trim64_ok (tabCons atoi_ok tabNil))) Tryz.func35 (by kernel_rfl) (by kernel_rfl) ?_
  intro xs ls K h
  unfold spQual at h
  obtain ⟨s, rfl, rfl, hl, h⟩ := h
  obtain ⟨k, hk⟩ : ∃ k, k = qualF s := ⟨_, rfl⟩
  obtain ⟨kn, ke⟩ := k
  refine ⟨_, _, h kn ke hk, fun D hD => ?_⟩
  clear h
  rw [qualF] at hk
  have hcl := cutF_len 46 s
  cbv
  refine ⟨s, 46, rfl, rfl, hl, fun x p t hc => ?_⟩
  rw [← hc] at hk hcl
  simp only at hk hcl
  cbv
  refine ⟨p, _, rfl, rfl, by omega, by decide, by decide, fun r1 hr1 => ?_⟩
  cbv
  refine ⟨p, _, rfl, rfl, by omega, by decide, by decide, fun r2 hr2 => ?_⟩
  have hq : (((((x != [48] && x != [49]) || decide (3 < (p.length : Int))) || r1 != []) || (x == [49] && r2 != []))) = !qualOk x p := by
    have e1 := trim_dig p
    have e2 := trim_zero p
    rw [← hr1] at e1
    rw [← hr2] at e2
    rw [bne, bne, bne, bne, e1, e2, qualOk]
    have : decide (3 < (p.length : Int)) = !decide (p.length ≤ 3) := by
      rw [Bool.eq_iff_iff]; simp; omega
    rw [this]
    simp [Bool.not_and, Bool.not_or]
  have hq : QualC x p r1 r2 := ⟨hq⟩
  clear hr1 hr2
  cbv
  refine br hD (fun h => ?_) (fun h => ?_) <;> cbv
  · have h : (((((x != [48] && x != [49]) || decide (3 < (p.length : Int))) || r1 != []) || (x == [49] && r2 != []))) = true := h
    rw [hq.h] at h
    rw [if_neg (by simpa using h)] at hk
    exact finQual (x := .l 0) (y := .l 6) hD hk
  have h : (((((x != [48] && x != [49]) || decide (3 < (p.length : Int))) || r1 != []) || (x == [49] && r2 != []))) = false := h
  rw [hq.h] at h
  have hok : qualOk x p = true := by simpa using h
  rw [if_pos hok] at hk
  obtain ⟨q1, q2, q3⟩ := atoi_qual hok
  obtain ⟨N, hN⟩ : ∃ N, N = qualV x p := ⟨_, rfl⟩
  rw [← hN] at q1 hk
  clear hN
  clear h hq hok
  refine ⟨⟨?_⟩, fun a ha => ?_⟩
  · simp only [List.length_cons, List.length_nil]; omega
  have ha1 : a = p ++ [48, 48, 48] := ha.h
  clear ha
  have hal : 3 ≤ a.length := by rw [ha1]; simp
  have hal2 : a.length ≤ 6 := by rw [ha1]; simp; omega
  cbv
  refine ⟨by subst hD; exact subS_of (s := a) (i := 0) (j := 3) (a := .l 0) (b := .l 3) rfl rfl (by omega) hal, fun b hb => ?_⟩
  have hb1 : b = a.take 3 := by
    have := sub_of (i := 0) (j := 3) (a := .l 0) (b := .l 3) hD rfl rfl hb
    rw [this]; rfl
  clear hb
  have hbl : b.length ≤ 3 := by rw [hb1, List.length_take]; omega
  cbv
  refine ⟨⟨by omega⟩, fun c hc => ?_⟩
  have hc1 : c = x ++ b := hc.h
  clear hc
  have hcl2 : c.length ≤ 18 := by rw [hc1, List.length_append]; omega
  rw [← ha1, ← hb1, ← hc1] at q1
  cbv
  refine ⟨c, N, rfl, rfl, hcl2, q1, ?_⟩
  cbv
  exact finQual (y := .l 0) hD hk
end Go.Proofs.YtfchfhjpldppjaaGreatDoor
