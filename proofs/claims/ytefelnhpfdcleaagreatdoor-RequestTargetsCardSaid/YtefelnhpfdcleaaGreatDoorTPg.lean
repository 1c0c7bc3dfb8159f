/- Part of the proofs of the statements about requests (layer 7): a symbolic executor over the code, that it is sound, and contracts of functions; it has no conditions of its own. -/
import Derived.Test.YtefelnhpfdcleaaGreatDoorTPf
namespace Go.Proofs.YtefelnhpfdcleaaGreatDoor
open Go Go.Sx
set_option maxRecDepth 100000
set_option maxHeartbeats 16000000
theorem hpG_val (b : List UInt8) : ∀ (m p : Nat) (r : List HF), p ≤ b.length → (∀ x ∈ r, x.value.length ≤ 2000) →
    (∀ x ∈ (hpG b m p r).1, x.value.length ≤ 2000) ∧ 0 ≤ (hpG b m p r).2.1 ∧ (hpG b m p r).2.1 ≤ b.length
  | 0, p, r, _, _ => ⟨fun x hx => by simp [hpG] at hx, by simp [hpG], by simp [hpG]⟩
  | m + 1, p, r, hp, hs => by
    have h0 : ∀ z : Int, (∀ x ∈ (([], 0, z) : List HF × Int × Int).1, x.value.length ≤ 2000) ∧ 0 ≤ (([], 0, z) : List HF × Int × Int).2.1 ∧ (([], 0, z) : List HF × Int × Int).2.1 ≤ (b.length : Int) := fun z => ⟨fun x hx => (nomatch hx), by simp, by simp⟩
    have hi := indexB_lt (s := b.drop p) (c := 10)
    rw [List.length_drop] at hi
    unfold hpG
    split
    · exact h0 _
    split
    · exact h0 _
    rename_i hn
    have hi2 := hi.2 (by omega)
    split
    · exact h0 _
    split
    · exact ⟨hs, by show 0 ≤ (p : Int) + _ + 1; omega, by show (p : Int) + _ + 1 ≤ _; omega⟩
    split
    · exact h0 _
    split
    · exact h0 _
    rename_i h
    simp only [Bool.or_eq_true, decide_eq_true_eq, not_or] at h
    obtain ⟨h1, h2⟩ := h
    refine hpG_val b m _ _ (by omega) fun x hx => ?_
    rcases List.mem_append.1 hx with hx | hx
    · exact hs x hx
    · have hx := List.mem_singleton.1 hx
      subst hx
      show (trimF _).length ≤ _
      omega
theorem hparse_val (b : List UInt8) : (∀ x ∈ (hparseF b).1, x.value.length ≤ 2000) ∧ 0 ≤ (hparseF b).2.1 ∧ (hparseF b).2.1 ≤ b.length := hpG_val b _ 0 [] (by omega) (fun x hx => by cases hx)
structure FrSm (r : Fr) : Prop where
  hosts : ∀ s ∈ r.hosts, s.length ≤ 2000
  ids : ∀ s ∈ r.ids, s.length ≤ 2000
  lens : ∀ s ∈ r.lens, s.length ≤ 2000
theorem frame_val : ∀ (l : List HF) (r : Fr), (∀ x ∈ l, x.value.length ≤ 2000) → FrSm r → FrSm (l.foldl frStep r)
  | [], _, _, h => h
  | x :: l, r, hl, h => by
    have hx := hl x (List.mem_cons_self ..)
    refine frame_val l _ (fun y hy => hl y (List.mem_cons_of_mem _ hy)) ?_
    have ap : ∀ {a : List (List UInt8)}, (∀ s ∈ a, s.length ≤ 2000) → ∀ s ∈ a ++ [x.value], s.length ≤ 2000 := by
      intro a ha s hs
      rcases List.mem_append.1 hs with hs | hs
      · exact ha s hs
      · rw [List.mem_singleton.1 hs]; exact hx
    unfold frStep
    split
    · exact ⟨ap h.hosts, h.ids, h.lens⟩
    split
    · exact ⟨h.hosts, ap h.ids, h.lens⟩
    split
    · exact ⟨h.hosts, h.ids, ap h.lens⟩
    split
    · exact ⟨h.hosts, h.ids, h.lens⟩
    · exact ⟨h.hosts, h.ids, h.lens⟩
theorem frameF_val {l : List HF} (h : ∀ x ∈ l, x.value.length ≤ 2000) : FrSm (frameF l) :=
  frame_val l _ h ⟨fun s hs => (nomatch hs), fun s hs => (nomatch hs), fun s hs => (nomatch hs)⟩
theorem numberF_val (s : List UInt8) (hi : Int) (h0 : 0 ≤ hi) : 0 ≤ (numberF s hi).1 ∧ (numberF s hi).1 ≤ hi := by
  unfold numberF intF
  split
  · exact ⟨by simp, h0⟩
  split
  · exact ⟨by simp, h0⟩
  split
  · exact ⟨by simp, h0⟩
  · rename_i h
    simp only [not_or] at h
    exact ⟨by show 0 ≤ (pInt s).1; omega, by show (pInt s).1 ≤ hi; omega⟩
theorem readLineF_val (b : List UInt8) : 0 ≤ (readLineF b).2.2.1 ∧ (readLineF b).2.2.1 ≤ b.length ∧ (readLineF b).1.length ≤ 1025 ∧ (readLineF b).2.1.length ≤ 1025 := by
  have h0 : ∀ z : Int, 0 ≤ (([], [], 0, z) : List UInt8 × List UInt8 × Int × Int).2.2.1 ∧ (([], [], 0, z) : List UInt8 × List UInt8 × Int × Int).2.2.1 ≤ (b.length : Int) ∧ (([], [], 0, z) : List UInt8 × List UInt8 × Int × Int).1.length ≤ 1025 ∧ (([], [], 0, z) : List UInt8 × List UInt8 × Int × Int).2.1.length ≤ 1025 := fun z => ⟨by simp, by simp, by simp, by simp⟩
  unfold readLineF
  split
  · exact h0 _
  split
  · exact h0 _
  rename_i h1
  split
  · exact h0 _
  have h2 : (cutF 10 (b.take 1024)).2.2 = true := by simpa using h1
  obtain ⟨_, _, _, h4⟩ := cutF_yes h2
  rw [List.length_take] at h4
  have ht : (Lib.trimSuffix ((cutF 10 (b.take 1024)).1 ++ [10]) rVer).length ≤ 1025 := by
    rw [Lib.trimSuffix]
    split
    · rw [List.length_take]; simp only [List.length_append, List.length_cons, List.length_nil]; omega
    · simp only [List.length_append, List.length_cons, List.length_nil]; omega
  have hc := cutF_len' 32 (Lib.trimSuffix ((cutF 10 (b.take 1024)).1 ++ [10]) rVer)
  exact ⟨by show 0 ≤ ((cutF 10 (b.take 1024)).1.length : Int) + 1; omega, by show ((cutF 10 (b.take 1024)).1.length : Int) + 1 ≤ _; omega, Nat.le_trans hc.1 ht, Nat.le_trans hc.2 ht⟩
def rqZ : Rq := ⟨0, [], [], [], [], []⟩
def parseD (b : List UInt8) (r : Rq) (p sz : Int) : Rq × Int × Int :=
  if (checkRF r).2 ≠ 0 then (rqZ, 0, (checkRF r).2) else if decide (0 < sz) && bareF r.method then (rqZ, 0, 2) else if (b.length : Int) - p < sz then (rqZ, 0, 10) else
  (⟨r.id, r.method, r.target, r.host, r.fields, (b.drop p.toNat).take sz.toNat⟩, p + sz, 0)
def parseC (b me ta : List UInt8) (p : Int) (ho : List UInt8) (fs : List HF) (ia la : Int × Int) : Rq × Int × Int :=
  if ia.2 = 6 ∨ la.2 = 6 then (rqZ, 0, 6) else if la.2 ≠ 0 then (rqZ, 0, 3) else parseD b ⟨ia.1, me, ta, ho, fs, []⟩ p la.1
def frBad (fr : Fr) : Bool := ((fr.hosts.length != 1 || fr.ids.length != 1) || decide (1 < fr.lens.length)) || fr.coded
def lenS (fr : Fr) : List UInt8 := if fr.lens.length = 0 then [48] else fr.lens.getD 0 []
def parseB (b me ta : List UInt8) (p : Int) (fr : Fr) : Rq × Int × Int :=
  if frBad fr then (rqZ, 0, 6) else parseC b me ta p (fr.hosts.getD 0 []) fr.rest (numberF (fr.ids.getD 0 []) 1000000000) (numberF (lenS fr) 65536)
def parseF (b : List UInt8) : Rq × Int × Int :=
  if (readLineF b).2.2.2 ≠ 0 then (rqZ, 0, (readLineF b).2.2.2) else
  if (hparseF (b.drop (readLineF b).2.2.1.toNat)).2.2 ≠ 0 then (rqZ, 0, (hparseF (b.drop (readLineF b).2.2.1.toNat)).2.2) else
  parseB b (readLineF b).1 (readLineF b).2.1 ((readLineF b).2.2.1 + (hparseF (b.drop (readLineF b).2.2.1.toNat)).2.1) (frameF (hparseF (b.drop (readLineF b).2.2.1.toNat)).1)
def spParse : FSpec := fun _ xs ls K => ∃ (b : List UInt8) (nl : Bool) (n : Int) (f : Nat → List SV), xs = [.sl (.a nl) (.a n) 1 f] ∧ ls = [] ∧ RowU f n b ∧ b.length ≤ 1000000 ∧
  ∀ r f1 n1 b1 k e, (r, k, e) = parseF b → GrH f1 n1 b1 r.fields → K (.tup [.agg [.int .i64 (.a r.id), .str r.method, .str r.target, .str r.host, .sl (.a b1) (.a n1) 2 f1, .str r.body], .int .i64 (.a k), .int .i64 (.a e)]) []
theorem parseF_row (b : List UInt8) (hb : b.length ≤ 1000000) : ∃ f1 n1 b1, GrH f1 n1 b1 (parseF b).1.fields := by
  have h0 : ∃ f1 n1 b1, GrH f1 n1 b1 rqZ.fields := ⟨_, _, _, GrH.nil⟩
  unfold parseF
  split
  · exact h0
  split
  · exact h0
  unfold parseB
  split
  · exact h0
  unfold parseC
  split
  · exact h0
  split
  · exact h0
  unfold parseD
  split
  · exact h0
  split
  · exact h0
  split
  · exact h0
  obtain ⟨c, hc⟩ : ∃ c, c = b.drop (readLineF b).2.2.1.toNat := ⟨_, rfl⟩
  rw [← hc]
  have hcl : c.length ≤ 1000000 := by rw [hc, List.length_drop]; omega
  have hS := hpG_small (c.length + 1) 0 [] c hcl (by simp) (fun x hx => by cases hx)
  obtain ⟨L1, L2, L3, L4, L5⟩ := frame_len (hparseF c).1 ⟨[], [], [], false, []⟩ hS.2 (fun x hx => by cases hx)
  have hl : (hparseF c).1.length ≤ 100 := hS.1
  simp only [List.length_nil] at L4
  exact ⟨_, _, _, ⟨RowH.row (l := (frameF (hparseF c).1).rest) (by unfold frameF; omega) (fun i hi => L5 _ (by rw [List.getD_eq_getElem?_getD, List.getElem?_eq_getElem hi]; exact List.getElem_mem hi)), rfl⟩⟩
structure PV (b me ta : List UInt8) (p : Int) : Prop where
  lo : 0 ≤ p
  hi : p ≤ (b.length : Int)
  me : me.length ≤ 1025
  ta : ta.length ≤ 1025
theorem finPs {D : Dn} (hD : D = dn) {l l' : Rq} {f f1 : Nat → List SV} {n n1 k e : Int} {b b1 : Bool} {x : BT} {i y z w : ST} {me ta ho bo : List UInt8} (h : (l, k, e) = (l', z.den, w.den)) (h1 : i.den = l'.id) (h2 : me = l'.method) (h3 : ta = l'.target) (h4 : ho = l'.host) (h5 : bo = l'.body) (G : GrH f n b l'.fields) (hG : GrH f1 n1 b1 l.fields) (hx : x.den = b) (hy : y.den = n) :
    Fin (.tup [.agg [.int .i64 (.a (D.i i)), .str me, .str ta, .str ho, .sl (.a (D.b x)) (.a (D.i y)) 2 f, .str bo], .int .i64 (.a (D.i z)), .int .i64 (.a (D.i w))]) (.tup [.agg [.int .i64 (.a l.id), .str l.method, .str l.target, .str l.host, .sl (.a b1) (.a n1) 2 f1, .str l.body], .int .i64 (.a k), .int .i64 (.a e)]) [] [] := by
  subst hD h2 h3 h4 h5
  simp only [Prod.mk.injEq] at h
  obtain ⟨rfl, rfl, rfl⟩ := h
  exact finV (.tup (.cons (LeV.agg (.cons (leInt h1) (.cons (LeV.refl _) (.cons (LeV.refl _) (.cons (LeV.refl _) (.cons (leGrH G hG hx hy) (.cons (LeV.refl _) .nil))))))) (.cons (leInt rfl) (.cons (leInt rfl) .nil))))
theorem parse_ok : FnOk Tryz.prog gl 22 spParse := by
  refine fnOk (gh := []) mixed cxOk (tabCons readLine_ok (tabCons hparse_ok (tabCons frame_ok (tabCons number_ok (tabCons checkR_ok (tabCons isBare_ok tabNil)))))) Tryz.func22 (by kernel_rfl) (by kernel_rfl) ?_
  intro xs ls K h
  unfold spParse at h
  obtain ⟨b, nl, n, f, rfl, rfl, R, hb, h⟩ := h
  obtain ⟨k, hk0⟩ : ∃ k, k = parseF b := ⟨_, rfl⟩
  obtain ⟨f1, n1, b1, hG⟩ := parseF_row b hb
  rw [← hk0] at hG
  obtain ⟨kr, kk, ke⟩ := k
  have hk := hk0
  unfold parseF at hk
  have hrv := readLineF_val b
  obtain ⟨rl, hrl⟩ : ∃ c, c = readLineF b := ⟨_, rfl⟩
  rw [← hrl] at hk hrv
  obtain ⟨me, ta, p, e0⟩ := rl
  simp only at hk hrv
  have PV0 : PV b me ta p := ⟨hrv.1, hrv.2.1, hrv.2.2.1, hrv.2.2.2⟩
  clear hrv
  refine ⟨_, _, h kr f1 n1 b1 kk ke hk0 hG, fun D hD => ?_⟩
  cbv
  clear h hk0
  refine ⟨b, _, _, _, rfl, rfl, by subst hD; exact R, hb, fun me' ta' p' e0' hm => ?_⟩
  cbv
  rw [← hrl] at hm
  simp only [Prod.mk.injEq] at hm
  obtain ⟨rfl, rfl, rfl, rfl⟩ := hm
  clear hrl
  refine br hD (fun h => ?_) (fun h => ?_) <;> cbv
  · have h1 : ¬ e0' = 0 := by have h : (e0' != 0) = true := h; simpa using h
    rw [if_pos h1] at hk
    exact finPs hD hk rfl rfl rfl rfl rfl GrH.nil hG rfl rfl
  rw [if_neg (by have h : (e0' != 0) = false := h; simpa using h)] at hk
  clear h
  obtain ⟨P, hP⟩ : ∃ P : Nat, P = p'.toNat := ⟨_, rfl⟩
  rw [← hP] at hk
  have VP : VI p' P := ⟨by have := PV0.lo; omega⟩
  clear hP
  obtain ⟨t, ht⟩ : ∃ t, t = b.drop P := ⟨_, rfl⟩
  rw [← ht] at hk
  refine ⟨by subst hD; exact ⟨PV0.lo, by show p' ≤ n; rw [R.n]; exact PV0.hi, Int.le_refl _⟩, fun f2 n2 hsub => ?_⟩
  cbv
  have R2 : RowU f2 n2 t := by
    have := R.sub (a := P) (b := b.length) hsub (by subst hD; exact VP.h) (by subst hD; exact R.n) (by have := VP.h; have := PV0.hi; omega) (Nat.le_refl _)
    rw [ht]
    have e : (b.drop P).take (b.length - P) = b.drop P := List.take_of_length_le (by rw [List.length_drop]; exact Nat.le_refl _)
    rwa [e] at this
  have htl : VI (t.length : Int) (b.length - P) := ⟨by rw [ht, List.length_drop]⟩
  clear hsub ht
  have htm : t.length ≤ 1000000 := by have := htl.h; omega
  have hv1 := hparse_val t
  have hv2 : (hparseF t).1.length ≤ 100 ∧ ∀ x ∈ (hparseF t).1, x.small := hpG_small (t.length + 1) 0 [] t htm (by simp) (fun x hx => by cases hx)
  obtain ⟨hp, hhp⟩ : ∃ c, c = hparseF t := ⟨_, rfl⟩
  rw [← hhp] at hk hv1 hv2
  obtain ⟨l, c, e1⟩ := hp
  simp only at hk hv1 hv2
  have PC : PV t me' ta' c := ⟨hv1.2.1, hv1.2.2, PV0.me, PV0.ta⟩
  have FS := frameF_val hv1.1
  obtain ⟨hv21, hv22⟩ := hv2
  clear hv1
  refine ⟨t, _, _, _, rfl, rfl, by subst hD; exact R2, htm, fun l' g2 gn gb c' e1' hm hg2 => ?_⟩
  cbv
  rw [← hhp] at hm
  simp only [Prod.mk.injEq] at hm
  obtain ⟨rfl, rfl, rfl⟩ := hm
  clear hhp
  refine br hD (fun h => ?_) (fun h => ?_) <;> cbv
  · have h1 : ¬ e1' = 0 := by have h : (e1' != 0) = true := h; simpa using h
    rw [if_pos h1] at hk
    exact finPs hD hk rfl rfl rfl rfl rfl GrH.nil hG rfl rfl
  rw [if_neg (by have h : (e1' != 0) = false := h; simpa using h)] at hk
  clear h
  obtain ⟨fr, hfr⟩ : ∃ c, c = frameF l' := ⟨_, rfl⟩
  rw [← hfr] at hk FS
  refine ⟨l', _, _, _, rfl, rfl, by subst hD; exact hg2.row, hv21, fun fr' g3 g4 g5 g6 m3 m4 m5 m6 q3 q4 q5 q6 hfr' FV => ?_⟩
  cbv
  rw [← hfr] at hfr'
  subst hfr'
  clear hfr hg2
  have N3 := FV.g1.row.n
  have N4 := FV.g2.row.n
  have N5 := FV.g3.row.n
  have hbad : (((m3 != 1 || m4 != 1) || decide (1 < m5)) || fr'.coded) = frBad fr' := by
    unfold frBad
    have a1 : (m3 != 1) = (fr'.hosts.length != 1) := by rw [N3, Bool.eq_iff_iff]; simp only [bne_iff_ne]; omega
    have a2 : (m4 != 1) = (fr'.ids.length != 1) := by rw [N4, Bool.eq_iff_iff]; simp only [bne_iff_ne]; omega
    have a3 : decide (1 < m5) = decide (1 < fr'.lens.length) := by rw [N5, decide_eq_decide]; omega
    rw [a1, a2, a3]
  have VN : VI m3 fr'.hosts.length ∧ VI m4 fr'.ids.length ∧ VI m5 fr'.lens.length := ⟨⟨N3⟩, ⟨N4⟩, ⟨N5⟩⟩
  clear N3 N4 N5
  refine br hD (fun h => ?_) (fun h => ?_) <;> cbv
  · have h1 : frBad fr' = true := by rw [← hbad]; exact h
    rw [parseB, if_pos h1] at hk
    exact finPs hD hk rfl rfl rfl rfl rfl GrH.nil hG rfl rfl
  have h1 : frBad fr' = false := by rw [← hbad]; exact h
  rw [parseB, if_neg (by rw [h1]; simp)] at hk
  clear h hbad
  have hl1 : fr'.hosts.length = 1 ∧ fr'.ids.length = 1 ∧ fr'.lens.length ≤ 1 := by unfold frBad at h1; simp only [Bool.or_eq_false_iff, bne_eq_false_iff_eq, decide_eq_false_iff_not] at h1; omega
  clear h1
  obtain ⟨ids0, hids⟩ : ∃ c, c = fr'.ids.getD 0 [] := ⟨_, rfl⟩
  obtain ⟨ho0, hho⟩ : ∃ c, c = fr'.hosts.getD 0 [] := ⟨_, rfl⟩
  have hids0 : ids0.length ≤ 2000 := FS.ids _ (by rw [hids, List.getD_eq_getElem?_getD, List.getElem?_eq_getElem (by omega)]; exact List.getElem_mem _)
  have hho0 : ho0.length ≤ 2000 := FS.hosts _ (by rw [hho, List.getD_eq_getElem?_getD, List.getElem?_eq_getElem (by omega)]; exact List.getElem_mem _)
  rw [← hids, ← hho] at hk
  refine br hD (fun h => ?_) (fun h => ?_) <;> cbv
  · have h : (m5 == 0) = true := h
    have hl5 : fr'.lens.length = 0 := by have := VN.2.2.h; have := eq_of_beq h; omega
    obtain ⟨len0, hlen⟩ : ∃ c : List UInt8, c = [48] := ⟨_, rfl⟩
    have hls : lenS fr' = len0 := by rw [lenS, if_pos hl5, hlen]
    have hlen0 : len0.length ≤ 2000 := by rw [hlen]; simp
    rw [hls] at hk
    clear h
    intro g hg
    cbv
    have q2 : g 0 = [.str len0] := by rw [hlen]; exact hg.h 0 _ rfl
    clear hg
    clear hlen
    refine ⟨by subst hD; exact ⟨Int.le_refl _, by show (0 : Int) < m4; rw [VN.2.1.h]; omega⟩, fun j hj => ?_⟩
    obtain rfl : j = 0 := by subst hD; exact Int.ofNat.inj hj.h
    clear hj
    have q1 := FV.g2.row.f 0 (by omega)
    rw [← hids] at q1
    cbv
    rw [q1]
    cbv
    refine ⟨ids0, _, rfl, rfl, by omega, fun iv ie hi => ?_⟩
    cbv
    have hi : (iv, ie) = numberF ids0 1000000000 := by subst hD; exact hi
    rw [← hi] at hk
    have NI := numberF_val ids0 1000000000 (by omega)
    rw [← hi] at NI
    simp only at NI
    clear hi
    refine ⟨by subst hD; exact ⟨Int.le_refl _, by show (0 : Int) < 1; decide⟩, fun j hj => ?_⟩
    obtain rfl : j = 0 := by subst hD; exact Int.ofNat.inj hj.h
    clear hj
    cbv
    rw [q2]
    cbv
    refine ⟨len0, _, rfl, rfl, by omega, fun sv se hi => ?_⟩
    cbv
    have hi : (sv, se) = numberF len0 65536 := by subst hD; exact hi
    rw [← hi] at hk
    have NS := numberF_val len0 65536 (by omega)
    rw [← hi] at NS
    simp only at NS
    clear hi q1 q2
    rw [parseC] at hk
    simp only at hk
    refine br hD (fun h => ?_) (fun h => ?_) <;> cbv
    · have h : (ie == 6 || se == 6) = true := h
      rw [if_pos (by simpa using h)] at hk
      exact finPs hD hk rfl rfl rfl rfl rfl GrH.nil hG rfl rfl
    have h : (ie == 6 || se == 6) = false := h
    rw [if_neg (by rw [Bool.or_eq_false_iff] at h; have h2 := h.1; have h3 := h.2; simp only [beq_eq_false_iff_ne] at h2 h3; omega)] at hk
    clear h
    refine br hD (fun h => ?_) (fun h => ?_) <;> cbv
    · have h : (se != 0) = true := h
      rw [if_pos (by simpa using h)] at hk
      exact finPs hD hk rfl rfl rfl rfl rfl GrH.nil hG rfl rfl
    have h : (se != 0) = false := h
    rw [if_neg (by simpa using h)] at hk
    clear h
    refine ⟨by subst hD; exact ⟨Int.le_refl _, by show (0 : Int) < m3; rw [VN.1.h]; omega⟩, fun j hj => ?_⟩
    obtain rfl : j = 0 := by subst hD; exact Int.ofNat.inj hj.h
    clear hj
    have q1 := FV.g1.row.f 0 (by omega)
    rw [← hho] at q1
    cbv
    rw [q1]
    cbv
    clear q1
    rw [parseD] at hk
    simp only at hk
    have hkn : (b.length : Int) = n := R.n.symm
    rw [hkn] at hk
    refine ⟨⟨D.i (.a iv), me', ta', ho0, fr'.rest, []⟩, _, _, _, rfl, rfl, by subst hD; exact ⟨by show _ ≤ iv; omega, by show iv ≤ _; omega, by have := PV0.me; show me'.length ≤ _; omega, by have := PV0.ta; show ta'.length ≤ _; omega, by show ho0.length ≤ _; omega, by simp, FV.g4.row, fun e => by have := FV.g4.nl; have e : q6 = true := e; rw [e] at this; exact List.isEmpty_iff.1 this.symm⟩, fun cp ce hce => ?_⟩
    cbv
    have hce : (cp, ce) = checkRF ⟨iv, me', ta', ho0, fr'.rest, []⟩ := by subst hD; exact hce
    rw [← hce] at hk
    simp only at hk
    clear hce
    refine br hD (fun h => ?_) (fun h => ?_) <;> cbv
    · have h : (ce != 0) = true := h
      rw [if_pos (by simpa using h)] at hk
      exact finPs hD hk rfl rfl rfl rfl rfl GrH.nil hG rfl rfl
    have h : (ce != 0) = false := h
    rw [if_neg (by simpa using h)] at hk
    clear h
    refine ⟨me', rfl, rfl, by have := PV0.me; omega, fun bb hbb => ?_⟩
    cbv
    rw [← hbb] at hk
    clear hbb
    refine br hD (fun h => ?_) (fun h => ?_) <;> cbv
    · have h : (decide (0 < sv) && bb) = true := h
      rw [if_pos h] at hk
      exact finPs hD hk rfl rfl rfl rfl rfl GrH.nil hG rfl rfl
    have h : (decide (0 < sv) && bb) = false := h
    rw [if_neg (by rw [h]; simp)] at hk
    clear h
    have hw : IntKind.i64.wrap (p' + c') = p' + c' := wrap64 (by have := PV0.lo; have := PC.lo; omega) (by have := PC.hi; have := PV0.hi; omega)
    have hws : IntKind.i64.wrap (n - IntKind.i64.wrap (p' + c')) = n - (p' + c') := by rw [hw]; exact wrap64 (by have := PC.hi; have := PV0.hi; have := R.n; omega) (by have := PV0.lo; have := PC.lo; have := R.n; omega)
    refine br hD (fun h => ?_) (fun h => ?_) <;> cbv
    · have h : decide (IntKind.i64.wrap (n - IntKind.i64.wrap (p' + c')) < sv) = true := h
      rw [hws] at h
      rw [if_pos (of_decide_eq_true h)] at hk
      exact finPs hD hk rfl rfl rfl rfl rfl GrH.nil hG rfl rfl
    have h : decide (IntKind.i64.wrap (n - IntKind.i64.wrap (p' + c')) < sv) = false := h
    rw [hws] at h
    have h2 := of_decide_eq_false h
    rw [if_neg h2] at hk
    clear h hws
    have hw2 : IntKind.i64.wrap (IntKind.i64.wrap (p' + c') + sv) = p' + c' + sv := by rw [hw]; exact wrap64 (by have := PV0.lo; have := PC.lo; omega) (by have := R.n; omega)
    refine ⟨by subst hD; exact ⟨by show 0 ≤ IntKind.i64.wrap (p' + c'); rw [hw]; have := PV0.lo; have := PC.lo; omega, by show IntKind.i64.wrap (p' + c') ≤ IntKind.i64.wrap (IntKind.i64.wrap (p' + c') + sv); rw [hw2, hw]; omega, by show IntKind.i64.wrap (IntKind.i64.wrap (p' + c') + sv) ≤ n; rw [hw2]; omega⟩, fun f7 n7 hsub => ?_⟩
    cbv
    have R7 : RowU f7 n7 ((b.drop (p' + c').toNat).take sv.toNat) := by
      have h0 : 0 ≤ p' + c' := by have := PV0.lo; have := PC.lo; omega
      have := R.sub (a := (p' + c').toNat) (b := (p' + c').toNat + sv.toNat) hsub (by subst hD; show IntKind.i64.wrap (p' + c') = _; rw [hw]; omega) (by subst hD; show IntKind.i64.wrap (IntKind.i64.wrap (p' + c') + sv) = _; rw [hw2]; omega) (by omega) (by have := R.n; omega)
      have e : (p' + c').toNat + sv.toNat - (p' + c').toNat = sv.toNat := by omega
      rwa [e] at this
    clear hsub
    refine ⟨by subst hD; exact R7.byte, fun bo hbo => ?_⟩
    cbv
    have hbo : bo = (b.drop (p' + c').toNat).take sv.toNat := by subst hD; exact R7.str hbo
    rw [← hbo] at hk
    refine finPs hD (by rw [hk]; show _ = (_, IntKind.i64.wrap (IntKind.i64.wrap (p' + c') + sv), _); rw [hw2]; rfl) rfl rfl rfl rfl rfl FV.g4 hG rfl rfl
  have h : (m5 == 0) = false := h
  have hl5 : fr'.lens.length = 1 := by have := VN.2.2.h; simp only [beq_eq_false_iff_ne] at h; omega
  obtain ⟨len0, hlen⟩ : ∃ c, c = fr'.lens.getD 0 [] := ⟨_, rfl⟩
  have hls : lenS fr' = len0 := by rw [lenS, if_neg (by omega), hlen]
  have hlen0 : len0.length ≤ 2000 := FS.lens _ (by rw [hlen, List.getD_eq_getElem?_getD, List.getElem?_eq_getElem (by omega)]; exact List.getElem_mem _)
  rw [hls] at hk
  clear h
  refine ⟨by subst hD; exact ⟨Int.le_refl _, by show (0 : Int) < m4; rw [VN.2.1.h]; omega⟩, fun j hj => ?_⟩
  obtain rfl : j = 0 := by subst hD; exact Int.ofNat.inj hj.h
  clear hj
  have q1 := FV.g2.row.f 0 (by omega)
  rw [← hids] at q1
  cbv
  rw [q1]
  cbv
  refine ⟨ids0, _, rfl, rfl, by omega, fun iv ie hi => ?_⟩
  cbv
  have hi : (iv, ie) = numberF ids0 1000000000 := by subst hD; exact hi
  rw [← hi] at hk
  have NI := numberF_val ids0 1000000000 (by omega)
  rw [← hi] at NI
  simp only at NI
  clear hi
  refine ⟨by subst hD; exact ⟨Int.le_refl _, by show (0 : Int) < m5; rw [VN.2.2.h]; omega⟩, fun j hj => ?_⟩
  obtain rfl : j = 0 := by subst hD; exact Int.ofNat.inj hj.h
  clear hj
  have q2 := FV.g3.row.f 0 (by omega)
  rw [← hlen] at q2
  cbv
  rw [q2]
  cbv
  refine ⟨len0, _, rfl, rfl, by omega, fun sv se hi => ?_⟩
  cbv
  have hi : (sv, se) = numberF len0 65536 := by subst hD; exact hi
  rw [← hi] at hk
  have NS := numberF_val len0 65536 (by omega)
  rw [← hi] at NS
  simp only at NS
  clear hi q1 q2
  rw [parseC] at hk
  simp only at hk
  refine br hD (fun h => ?_) (fun h => ?_) <;> cbv
  · have h : (ie == 6 || se == 6) = true := h
    rw [if_pos (by simpa using h)] at hk
    exact finPs hD hk rfl rfl rfl rfl rfl GrH.nil hG rfl rfl
  have h : (ie == 6 || se == 6) = false := h
  rw [if_neg (by rw [Bool.or_eq_false_iff] at h; have h2 := h.1; have h3 := h.2; simp only [beq_eq_false_iff_ne] at h2 h3; omega)] at hk
  clear h
  refine br hD (fun h => ?_) (fun h => ?_) <;> cbv
  · have h : (se != 0) = true := h
    rw [if_pos (by simpa using h)] at hk
    exact finPs hD hk rfl rfl rfl rfl rfl GrH.nil hG rfl rfl
  have h : (se != 0) = false := h
  rw [if_neg (by simpa using h)] at hk
  clear h
  refine ⟨by subst hD; exact ⟨Int.le_refl _, by show (0 : Int) < m3; rw [VN.1.h]; omega⟩, fun j hj => ?_⟩
  obtain rfl : j = 0 := by subst hD; exact Int.ofNat.inj hj.h
  clear hj
  have q1 := FV.g1.row.f 0 (by omega)
  rw [← hho] at q1
  cbv
  rw [q1]
  cbv
  clear q1
  rw [parseD] at hk
  simp only at hk
  have hkn : (b.length : Int) = n := R.n.symm
  rw [hkn] at hk
  refine ⟨⟨D.i (.a iv), me', ta', ho0, fr'.rest, []⟩, _, _, _, rfl, rfl, by subst hD; exact ⟨by show _ ≤ iv; omega, by show iv ≤ _; omega, by have := PV0.me; show me'.length ≤ _; omega, by have := PV0.ta; show ta'.length ≤ _; omega, by show ho0.length ≤ _; omega, by simp, FV.g4.row, fun e => by have := FV.g4.nl; have e : q6 = true := e; rw [e] at this; exact List.isEmpty_iff.1 this.symm⟩, fun cp ce hce => ?_⟩
  cbv
  have hce : (cp, ce) = checkRF ⟨iv, me', ta', ho0, fr'.rest, []⟩ := by subst hD; exact hce
  rw [← hce] at hk
  simp only at hk
  clear hce
  refine br hD (fun h => ?_) (fun h => ?_) <;> cbv
  · have h : (ce != 0) = true := h
    rw [if_pos (by simpa using h)] at hk
    exact finPs hD hk rfl rfl rfl rfl rfl GrH.nil hG rfl rfl
  have h : (ce != 0) = false := h
  rw [if_neg (by simpa using h)] at hk
  clear h
  refine ⟨me', rfl, rfl, by have := PV0.me; omega, fun bb hbb => ?_⟩
  cbv
  rw [← hbb] at hk
  clear hbb
  refine br hD (fun h => ?_) (fun h => ?_) <;> cbv
  · have h : (decide (0 < sv) && bb) = true := h
    rw [if_pos h] at hk
    exact finPs hD hk rfl rfl rfl rfl rfl GrH.nil hG rfl rfl
  have h : (decide (0 < sv) && bb) = false := h
  rw [if_neg (by rw [h]; simp)] at hk
  clear h
  have hw : IntKind.i64.wrap (p' + c') = p' + c' := wrap64 (by have := PV0.lo; have := PC.lo; omega) (by have := PC.hi; have := PV0.hi; omega)
  have hws : IntKind.i64.wrap (n - IntKind.i64.wrap (p' + c')) = n - (p' + c') := by rw [hw]; exact wrap64 (by have := PC.hi; have := PV0.hi; have := R.n; omega) (by have := PV0.lo; have := PC.lo; have := R.n; omega)
  refine br hD (fun h => ?_) (fun h => ?_) <;> cbv
  · have h : decide (IntKind.i64.wrap (n - IntKind.i64.wrap (p' + c')) < sv) = true := h
    rw [hws] at h
    rw [if_pos (of_decide_eq_true h)] at hk
    exact finPs hD hk rfl rfl rfl rfl rfl GrH.nil hG rfl rfl
  have h : decide (IntKind.i64.wrap (n - IntKind.i64.wrap (p' + c')) < sv) = false := h
  rw [hws] at h
  have h2 := of_decide_eq_false h
  rw [if_neg h2] at hk
  clear h hws
  have hw2 : IntKind.i64.wrap (IntKind.i64.wrap (p' + c') + sv) = p' + c' + sv := by rw [hw]; exact wrap64 (by have := PV0.lo; have := PC.lo; omega) (by have := R.n; omega)
  refine ⟨by subst hD; exact ⟨by show 0 ≤ IntKind.i64.wrap (p' + c'); rw [hw]; have := PV0.lo; have := PC.lo; omega, by show IntKind.i64.wrap (p' + c') ≤ IntKind.i64.wrap (IntKind.i64.wrap (p' + c') + sv); rw [hw2, hw]; omega, by show IntKind.i64.wrap (IntKind.i64.wrap (p' + c') + sv) ≤ n; rw [hw2]; omega⟩, fun f7 n7 hsub => ?_⟩
  cbv
  have R7 : RowU f7 n7 ((b.drop (p' + c').toNat).take sv.toNat) := by
    have h0 : 0 ≤ p' + c' := by have := PV0.lo; have := PC.lo; omega
    have := R.sub (a := (p' + c').toNat) (b := (p' + c').toNat + sv.toNat) hsub (by subst hD; show IntKind.i64.wrap (p' + c') = _; rw [hw]; omega) (by subst hD; show IntKind.i64.wrap (IntKind.i64.wrap (p' + c') + sv) = _; rw [hw2]; omega) (by omega) (by have := R.n; omega)
    have e : (p' + c').toNat + sv.toNat - (p' + c').toNat = sv.toNat := by omega
    rwa [e] at this
  clear hsub
  refine ⟨by subst hD; exact R7.byte, fun bo hbo => ?_⟩
  cbv
  have hbo : bo = (b.drop (p' + c').toNat).take sv.toNat := by subst hD; exact R7.str hbo
  rw [← hbo] at hk
  refine finPs hD (by rw [hk]; show _ = (_, IntKind.i64.wrap (IntKind.i64.wrap (p' + c') + sv), _); rw [hw2]; rfl) rfl rfl rfl rfl rfl FV.g4 hG rfl rfl
end Go.Proofs.YtefelnhpfdcleaaGreatDoor
namespace Go.Proofs.YtefelnhpfdcleaaGreatDoor
open Go Go.Sx
set_option maxRecDepth 100000
set_option maxHeartbeats 4000000
instance : DecidableEq HF := fun a b => decidable_of_iff (a.name = b.name ∧ a.value = b.value) (by cases a; cases b; simp)
instance : DecidableEq Rq := fun a b => decidable_of_iff (a.id = b.id ∧ a.method = b.method ∧ a.target = b.target ∧ a.host = b.host ∧ a.fields = b.fields ∧ a.body = b.body) (by cases a; cases b; simp)
def spEqH : FSpec := fun _ xs ls K => ∃ (a b : List HF) (na nb : Bool) (A B : Int) (f g : Nat → List SV), xs = [.sl (.a na) (.a A) 2 f, .sl (.a nb) (.a B) 2 g] ∧ ls = [] ∧ RowH f A a ∧ RowH g B b ∧ ∀ r : Bool, r = decide (a = b) → K (.bool (.a r)) []
structure EqJ (k : Bool) (a b : List HF) (i : Nat) (I : Int) (m : Nat) : Prop where
  at_ : AtR a i I m
  k : k = decide (a.drop i = b.drop i)
def eqJ (k : Bool) (a b : List HF) (na nb : Bool) (A B : Int) (f g : Nat → List SV) (m : Nat) (vs : List (Option SV)) (hp : List Hl) : Prop :=
  ∃ (i : Nat) (I : Int), vs = [some (.sl (.a na) (.a A) 2 f), some (.sl (.a nb) (.a B) 2 g), some (.int .i64 (.a I))] ∧ hp = [] ∧ EqJ k a b i I m
theorem dropH {l : List HF} {i : Nat} (h : i < l.length) : l.drop i = l.getD i default :: l.drop (i + 1) := by
  rw [List.getD_eq_getElem?_getD, List.getElem?_eq_getElem h, Option.getD_some, List.drop_eq_getElem_cons h]
theorem equal_ok : FnOk Tryz.prog gl 63 spEqH := by
  refine fnOk (gh := []) mixed cxOk tabNil Tryz.func63 (by kernel_rfl) (by kernel_rfl) ?_
  intro xs ls K h
  unfold spEqH at h
  obtain ⟨a, b, na, nb, A, B, f, g, rfl, rfl, RA, RB, h⟩ := h
  obtain ⟨k, hk⟩ : ∃ k, k = decide (a = b) := ⟨_, rfl⟩
  refine ⟨_, _, h k hk, fun D hD => ?_⟩
  cbv
  clear h
  refine br hD (fun h => ?_) (fun h => ?_) <;> cbv
  · have h2 : A ≠ B := by simpa using h
    refine finBool hD ?_
    rw [hk]
    have h3 : a ≠ b := fun e => h2 (by rw [RA.n, RB.n, e])
    show false = _
    symm
    exact decide_eq_false h3
  have h2 : A = B := by simpa using h
  have hlab : a.length = b.length := by have := RA.n; have := RB.n; omega
  clear h
  obtain ⟨J, hJ⟩ : ∃ J, J = eqJ k a b na nb A B f g := ⟨_, rfl⟩
  refine ⟨[0, 1, 5], J, ⟨rfl, a.length, ?_⟩, ?_⟩
  · rw [hJ]
    subst hD
    exact ⟨0, 0, rfl, rfl, AtR.zero RA.len, hk⟩
  intro m vs hp' hv
  rw [hJ] at hv
  unfold eqJ at hv
  obtain ⟨i, I, rfl, rfl, V⟩ := hv
  clear hk
  cbv
  refine br hD (fun h => ?_) (fun h => ?_) <;> cbv
  · have hlt := V.at_.lt RA.n (of_decide_eq_true (p := I < A) h)
    clear h
    have hltb : i < b.length := by omega
    have inA := V.at_.inB hD RA.n hlt
    have inB' : Sx.InB (D.i (.a I)) (D.i (.a B)) := by have := V.at_.I; have := RB.n; subst hD; exact ⟨by show 0 ≤ I; omega, by show I < B; omega⟩
    have hk2 := V.k
    rw [dropH hlt, dropH hltb] at hk2
    have e1 := RA.f i hlt
    have d1 := RB.f i hltb
    obtain ⟨x, hx⟩ : ∃ x, x = a.getD i default := ⟨_, rfl⟩
    obtain ⟨y, hy⟩ : ∃ y, y = b.getD i default := ⟨_, rfl⟩
    rw [← hx] at e1 hk2
    rw [← hy] at d1 hk2
    clear hx hy
    obtain ⟨x1, x2⟩ := x
    obtain ⟨y1, y2⟩ := y
    have hst := V.at_.step hD hlt
    refine ⟨inA, fun j hj => ?_⟩
    have hj := V.at_.j hD hj
    cbv
    rw [hj, e1]
    cbv
    refine ⟨inB', fun j2 hj2 => ?_⟩
    have hj2 := V.at_.j hD hj2
    cbv
    rw [hj2, d1]
    cbv
    refine br hD (fun h => ?_) (fun h => ?_) <;> cbv
    · have h : (!((x1 == y1) && (x2 == y2))) = true := h
      refine finBool hD ?_
      show false = k
      rw [hk2]
      symm
      apply decide_eq_false
      intro e
      injection e with e1 e2
      injection e1 with e3 e4
      rw [e3, e4] at h
      simp at h
    · have h : (!((x1 == y1) && (x2 == y2))) = false := h
      simp only [Bool.not_eq_false', Bool.and_eq_true, beq_iff_eq] at h
      refine ⟨_, hst.1, ?_⟩
      rw [hJ]
      unfold eqJ
      subst hD
      refine ⟨i + 1, _, rfl, rfl, ⟨hst.2, ?_⟩⟩
      rw [hk2, h.1, h.2]
      simp
  · have he := V.at_.eq RA.n (of_decide_eq_false (p := I < A) h)
    refine finBool hD ?_
    show true = k
    rw [V.k, List.drop_eq_nil_of_le (by omega), List.drop_eq_nil_of_le (by omega)]
    rfl
def spSameR : FSpec := fun _ xs ls K => ∃ (a b : Rq) (na nb : Bool) (A B : Int) (f g : Nat → List SV), xs = [.agg [.int .i64 (.a a.id), .str a.method, .str a.target, .str a.host, .sl (.a na) (.a A) 2 f, .str a.body], .agg [.int .i64 (.a b.id), .str b.method, .str b.target, .str b.host, .sl (.a nb) (.a B) 2 g, .str b.body]] ∧ ls = [] ∧ RowH f A a.fields ∧ RowH g B b.fields ∧ ∀ r : Bool, r = decide (a = b) → K (.bool (.a r)) []
theorem sameR_ok : FnOk Tryz.prog gl 24 spSameR := by
  refine fnOk (gh := []) mixed cxOk (tabCons equal_ok tabNil) Tryz.func24 (by kernel_rfl) (by kernel_rfl) ?_
  intro xs ls K h
  unfold spSameR at h
  obtain ⟨a, b, na, nb, A, B, f, g, rfl, rfl, RA, RB, h⟩ := h
  obtain ⟨k, hk⟩ : ∃ k, k = decide (a = b) := ⟨_, rfl⟩
  refine ⟨_, _, h k hk, fun D hD => ?_⟩
  obtain ⟨i1, m1, t1, h1, l1, b1⟩ := a
  obtain ⟨i2, m2, t2, h2, l2, b2⟩ := b
  cbv
  clear h
  refine ⟨l1, l2, na, nb, A, B, f, g, by subst hD; rfl, rfl, RA, RB, fun r hr => ?_⟩
  cbv
  refine finBool hD ?_
  show ((((((i1 == i2) && (m1 == m2)) && (t1 == t2)) && (h1 == h2)) && (b1 == b2)) && r) = k
  rw [hk, hr, Bool.eq_iff_iff]
  simp only [Bool.and_eq_true, beq_iff_eq, decide_eq_true_eq, Rq.mk.injEq]
  grind
def exL : List HF := [⟨[67, 111, 110, 110, 101, 99, 116, 105, 111, 110], [99, 108, 111, 115, 101]⟩, ⟨[65, 99, 99, 101, 112, 116], [42]⟩]
def exTarget : List UInt8 := [47, 97, 47, 46, 46, 47, 98, 37, 55, 101, 63, 120]
def exR : Rq := ⟨7, [71, 69, 84], exTarget, [104], exL, []⟩
def spEx : FSpec := fun _ xs ls K => xs = [] ∧ ls = [] ∧ ∀ f n b, GrH f n b exL → K (.agg [.int .i64 (.a 7), .str [71, 69, 84], .str [47, 97, 47, 46, 46, 47, 98, 37, 55, 101, 63, 120], .str [104], .sl (.a b) (.a n) 2 f, .str []]) []
theorem example_ok : FnOk Tryz.prog gl 31 spEx := by
  refine fnOk (gh := []) mixed cxOk tabNil Tryz.func31 (by kernel_rfl) (by kernel_rfl) ?_
  intro xs ls K h
  unfold spEx at h
  obtain ⟨rfl, rfl, h⟩ := h
  have hG : ∃ f1 n1 b1, GrH f1 n1 b1 exL := ⟨_, _, _, ⟨RowH.row (by decide) (fun i hi => by
    have hi : i < 2 := hi
    rcases i with _ | _ | i
    · exact ⟨by decide, by decide⟩
    · exact ⟨by decide, by decide⟩
    · omega), rfl⟩⟩
  obtain ⟨f1, n1, b1, hG⟩ := hG
  refine ⟨_, _, h f1 n1 b1 hG, fun D hD => ?_⟩
  cbv
  clear h
  intro g hg
  cbv
  have g0 := hg.h 0 _ rfl
  have g1 := hg.h 1 _ rfl
  have G : GrH g 2 false exL := ⟨⟨rfl, fun i hi => by
    have hi : i < 2 := hi
    rcases i with _ | _ | i
    · exact g0
    · exact g1
    · omega, by decide, fun i hi => by
    have hi : i < 2 := hi
    rcases i with _ | _ | i
    · exact ⟨by decide, by decide⟩
    · exact ⟨by decide, by decide⟩
    · omega⟩, rfl⟩
  subst hD
  exact finV (.agg (.cons (leInt rfl) (.cons (LeV.refl _) (.cons (LeV.refl _) (.cons (LeV.refl _) (.cons (leGrH G hG rfl rfl) (.cons (LeV.refl _) .nil)))))))
end Go.Proofs.YtefelnhpfdcleaaGreatDoor
namespace Go.Proofs.YtefelnhpfdcleaaGreatDoor
open Go Go.Sx
set_option maxRecDepth 100000
set_option maxHeartbeats 4000000
def exS : List UInt8 := [71, 69, 84, 32, 47, 97, 47, 46, 46, 47, 98, 37, 55, 101, 63, 120, 32, 72, 84, 84, 80, 47, 49, 46, 49, 13, 10, 72, 111, 115, 116, 58, 32, 104, 13, 10, 88, 45, 82, 101, 113, 117, 101, 115, 116, 45, 73, 100, 58, 32, 55, 13, 10, 65, 99, 99, 101, 112, 116, 58, 32, 42, 13, 10, 13, 10]
def exS2 : List UInt8 := [71, 69, 84, 32, 47, 97, 47, 46, 46, 47, 98, 37, 55, 101, 63, 120, 32, 72, 84, 84, 80, 47, 49, 46, 49, 13, 10, 72, 111, 115, 116, 58, 32, 104, 13, 10, 88, 45, 82, 101, 113, 117, 101, 115, 116, 45, 73, 100, 58, 32, 55, 13, 10, 65, 99, 99, 101, 112, 116, 58, 32, 42, 13, 10, 13, 10, 71, 69, 84]
def exL2 : List HF := [⟨[65, 99, 99, 101, 112, 116], [42]⟩]
def exR2 : Rq := ⟨7, [71, 69, 84], exTarget, [104], exL2, []⟩
theorem ex_encode : encodeF exR = (exS, 0) := by kernel_rfl
theorem ex_clean : cleanF exTarget = ([47, 98, 126, 63, 120], 0) := by kernel_rfl
theorem ex_key : keyF exR 3 [97, 99, 99, 101, 112, 116] = ([42], 0) := by kernel_rfl
theorem ex_parse : parseF exS2 = (exR2, 66, 0) := by kernel_rfl
end Go.Proofs.YtefelnhpfdcleaaGreatDoor
namespace Go.Proofs.YtefelnhpfdcleaaGreatDoor
open Go Go.Sx
set_option maxRecDepth 100000
set_option maxHeartbeats 8000000
theorem exOk {f : Nat → List SV} {n : Int} {b : Bool} (G : GrH f n b exL) : RqOk exR b n f :=
  ⟨by decide, by decide, by decide, by decide, by decide, by decide, G.row, fun h => by have h2 := G.nl; rw [h] at h2; cases h2⟩
theorem RowU.of {f : Nat → List SV} {n : Int} {s : List UInt8} (h : BytesOf f s) (hn : n = s.length) : RowU f n s := by
  refine ⟨hn, fun i hi => ?_⟩
  rw [h.h]
  rfl
theorem RowH.ex1 {f f' : Nat → List SV} {n n' : Int} (R : RowH f n exL) (h : SubRow f' n' f 1 n) : RowH f' n' exL2 := by
  have hn : n = 2 := R.n
  refine ⟨by rw [h.len, hn]; rfl, fun i hi => ?_, by decide, fun i hi => ?_⟩
  · have hi : i < 1 := hi
    obtain rfl : i = 0 := by omega
    rw [h.row 0 1 (by omega), R.f 1 (by decide)]
    rfl
  · have hi : i < 1 := hi
    obtain rfl : i = 0 := by omega
    exact ⟨by decide, by decide⟩
def spT : FSpec := fun _ xs ls K => xs = [] ∧ ls = [] ∧ K (.bool (.a true)) []
theorem shown_ok : FnOk Tryz.prog gl 12 spT := by
  refine fnOk (gh := []) mixed cxOk (tabCons example_ok (tabCons encode_ok (tabCons clean_ok (tabCons key_ok (tabCons parse_ok (tabCons sameR_ok tabNil)))))) Tryz.func12 (by kernel_rfl) (by kernel_rfl) ?_
  intro xs ls K h
  unfold spT at h
  obtain ⟨rfl, rfl, h⟩ := h
  refine ⟨_, _, h, fun D hD => ?_⟩
  cbv
  clear h
  intro f1 n1 b1 G1
  cbv
  refine ⟨exR, b1, n1, f1, by subst hD; rfl, rfl, exOk G1, fun s e hs => ?_⟩
  cbv
  rw [ex_encode] at hs
  obtain ⟨hs, he⟩ := Prod.mk.inj hs
  intro f2 n2 b2 G2
  cbv
  refine ⟨exTarget, rfl, rfl, by decide, fun t e2 ht => ?_⟩
  cbv
  rw [ex_clean] at ht
  obtain ⟨ht, he2⟩ := Prod.mk.inj ht
  intro f3 n3 b3 G3
  cbv
  refine ⟨exR, 3, [97, 99, 99, 101, 112, 116], b3, n3, f3, by subst hD; rfl, rfl, exOk G3, by decide, fun k e3 hk => ?_⟩
  cbv
  rw [ex_key] at hk
  obtain ⟨hk, he3⟩ := Prod.mk.inj hk
  refine ⟨⟨by rw [hs]; decide⟩, fun r hr => ?_⟩
  cbv
  have hr : r = exS2 := by rw [hr.h, hs]; rfl
  refine ⟨⟨by rw [hr]; decide⟩, fun f4 h4 => ?_⟩
  cbv
  refine ⟨exS2, _, _, f4, rfl, rfl, by subst hD; exact RowU.of (by rw [← hr]; exact h4) (by rw [← hr]; rfl), by decide, fun q f5 n5 b5 kk e4 hq G5 => ?_⟩
  cbv
  rw [ex_parse] at hq
  obtain ⟨hq1, hq2⟩ := Prod.mk.inj hq
  obtain ⟨hkk, he4⟩ := Prod.mk.inj hq2
  subst hq1
  clear hq hq2
  intro f6 n6 b6 G6
  cbv
  refine ⟨by subst hD; exact ⟨by decide, by show (1 : Int) ≤ n6; rw [G6.row.n]; decide, Int.le_refl _⟩, fun f7 n7 h7 => ?_⟩
  cbv
  refine ⟨exR2, exR2, b5, b6, n5, n7, f5, f7, by subst hD; rfl, rfl, G5.row, RowH.ex1 G6.row (by subst hD; exact h7), fun z hz => ?_⟩
  cbv
  refine finBool hD ?_
  have hz : z = true := by rw [hz]; exact decide_eq_true rfl
  rw [hs, ht, hk, hz, hkk, he, he2, he3, he4]
  rfl
end Go.Proofs.YtefelnhpfdcleaaGreatDoor
namespace Go.Proofs.YtefelnhpfdcleaaGreatDoor
open Go Go.Sx
set_option maxRecDepth 100000
set_option maxHeartbeats 8000000
def spTStr : FSpec := fun _ xs ls K => ∃ (s : List UInt8), xs = [.str s] ∧ ls = [] ∧ s.length ≤ 9223372036854775807 ∧ K (.bool (.a true)) []
theorem targets_ok : FnOk Tryz.prog gl 3 spTStr := by
  refine fnOk (gh := []) mixed cxOk (tabCons split_ok7 (tabCons refSplit_ok (tabCons clean_ok (tabCons refClean_ok (tabCons shown_ok tabNil))))) Tryz.func3 (by kernel_rfl) (by kernel_rfl) ?_
  intro xs ls K h
  unfold spTStr at h
  obtain ⟨s, rfl, rfl, hs, h⟩ := h
  refine ⟨_, _, h, fun D hD => ?_⟩
  cbv
  clear h
  refine br hD (fun h => ?_) (fun h => ?_) <;> cbv
  · exact finBool hD rfl
  refine ⟨s, rfl, rfl, hs, fun p q b e h1 => ?_⟩
  cbv
  refine ⟨s, rfl, rfl, hs, fun p2 q2 b2 e2 h2 => ?_⟩
  cbv
  rw [← h1] at h2
  refine ⟨s, rfl, rfl, hs, fun t f h3 => ?_⟩
  cbv
  refine ⟨s, rfl, rfl, hs, fun t2 f2 h4 => ?_⟩
  cbv
  rw [← h3] at h4
  simp only [Prod.mk.injEq] at h2 h4
  obtain ⟨a1, a2, a3, a4⟩ := h2
  obtain ⟨b1, b2⟩ := h4
  subst a1 a2 a3 a4 b1 b2
  refine finBool hD ?_
  show (((((((p2 == p2) && (q2 == q2)) && (b2 == b2)) && (e2 == e2)) && (t2 == t2)) && (f2 == f2)) && true) = true
  simp
end Go.Proofs.YtefelnhpfdcleaaGreatDoor
