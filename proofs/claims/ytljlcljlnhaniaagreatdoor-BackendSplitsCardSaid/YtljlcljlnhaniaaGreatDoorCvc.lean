/- Part of the proof of the statement: an evaluator of the code at closed data, run by the kernel, and that it is sound; it has no conditions of its own. -/
import Derived.Laws.IdiomCopy
import Derived.RangeFuncRecord
import Derived.Lib.DecodeN
import Derived.Test.YtljlcljlnhaniaaGreatDoorCvb
set_option linter.unusedVariables false
set_option linter.unusedSimpArgs false
/- Operations that leave the heap alone: the last of them, and all together. -/
namespace Go.Cv
open Go Go.RowKit
section
variable {S : Sg} {ι : Ip} {hp : Tr CO} {w : World} {fr : Tr CV} {a : Act}

theorem TIok.uptr {P : Program} {t : Nat} {ti : TI} (h : TIok P t ti) (hk : ti.k = .uptr) : P.underlying t = some .unsafePointer := by
  obtain ⟨d, hd, hb⟩ := h.und
  rw [hk] at hb
  cases d <;> simp only [kindB, Bool.false_eq_true] at hb
  exact hd
theorem TIok.ptr {P : Program} {t : Nat} {ti : TI} (h : TIok P t ti) {e : Nat} (hk : ti.k = .ptr e) : P.underlying t = some (.pointer e) := by
  obtain ⟨d, hd, hb⟩ := h.und
  rw [hk] at hb
  cases d <;> simp only [kindB, Bool.false_eq_true, beq_iff_eq] at hb
  rw [hd, hb]

theorem run_seenAt {P : Program} {w : World} {b o : Nat} {arr : Array Value} {ty : TypeId} {fz : Nat × Nat} (h : w.heap[b]? = some (.cells arr ty fz)) : (Conv.seenAt ⟨b, o, none⟩).run P w = .ok ⟨b, o, none⟩ w := by
  simp [Conv.seenAt, viewAt, shape, Sem.run, World.shape?, h]

theorem conv_int (hS : SOk S) {s d : Nat} {k : IntKind} {x v : CV} {u : Value} (hd : S.P.underlying d = some (.int k)) (h : convI S.en s k x = some v) (hx : VR ι x u) : ∃ u', (convert s d u).run S.P w = .ok u' w ∧ VR ι v u' := by
  unfold convI at h
  split at h
  · rename_i k' n
    split at h
    · rename_i ti hT
      cases h
      obtain ⟨ds, hs, _⟩ := (hS.T s ti hT).und
      rw [hx.i_inv]
      refine ⟨.int k (k.wrap n), ?_, by rw [cvI_eq]; exact .i _ _⟩
      simp [convert, run_und hs, run_und hd, Conv.intToInt]
    · cases h
  · cases h
theorem conv_str (hS : SOk S) (hR : Rd S ι hp w) {s d : Nat} {x v : CV} {u : Value} (hd : S.P.underlying d = some .string) (h : convT S.en hp s x = some v) (hx : VR ι x u) : ∃ u', (convert s d u).run S.P w = .ok u' w ∧ VR ι v u' := by
  unfold convT at h
  split at h
  · rename_i n b z hT
    have hs := (hS.T s _ hT).string rfl
    split at h
    · cases h
      obtain ⟨rfl, hn⟩ := hx.s_inv
      exact ⟨_, by simp [convert, run_und hs, run_und hd], hx⟩
    · cases h
  · rename_i e n b z hT
    have hs := (hS.T s _ hT).slice rfl
    split at h
    · rename_i n' b' z' hTe
      have he := (hS.T e _ hTe).int rfl
      obtain ⟨u', h1, h2⟩ := convB_ok hR h hx
      have hu : ∃ q l c, u = .slice q l c := by
        unfold convB at h
        split at h
        · exact ⟨_, _, _, hx.ns_inv⟩
        · obtain ⟨_, _, _, _, _, _, _, _, _, _, _, rfl⟩ := hx.sl_inv; exact ⟨_, _, _, rfl⟩
        · cases h
      obtain ⟨q, l, c, rfl⟩ := hu
      exact ⟨u', by simp [convert, run_und hs, run_und hd, run_und he, h1], h2⟩
    · cases h
  · cases h
theorem conv_toU (hS : SOk S) (hR : Rd S ι hp w) {s d : Nat} {x v : CV} {u : Value} (hd : S.P.underlying d = some .unsafePointer) (h : convP S.en hp s x = some v) (hx : VR ι x u) : ∃ u', (convert s d u).run S.P w = .ok u' w ∧ VR ι v u' := by
  unfold convP at h
  split at h
  · rename_i t n b z hT
    have hs := (hS.T s _ hT).ptr rfl
    split at h
    · cases h
      rw [hx.np_inv]
      exact ⟨_, by simp [convert, run_und hs, run_und hd, Conv.unsafePointer], .np⟩
    · rename_i r g off
      split at h
      · rename_i sz ty tr n' G fz ro mk hsz hr
        split at h
        · rename_i c hc
          cases h
          obtain ⟨te, hTe, hsz'⟩ := sizeT_eq hsz
          have hsize := (hS.T t te hTe).sizeOf w
          obtain ⟨L, hL, hlo, rfl⟩ := hx.p_inv
          obtain ⟨_, arr, fz', h1, h2, h3, _⟩ := hR.of hL hr
          obtain ⟨cw, q1, q2, _⟩ := cellAt_inv hc
          obtain ⟨v', q3, _⟩ := (h3 off cw q1).2.2.2 q2 hlo
          have hlt : off - L.lo < arr.size := (Array.getElem?_eq_some_iff.1 q3).1
          refine ⟨_, ?_, hx⟩
          have hsa := run_seenAt (P := S.P) (o := off - L.lo) h1
          have hci : (cellsIn L.blk).run S.P w = .ok (some arr.size) w := by simp [cellsIn, shape, Sem.run, World.shape?, h1]
          have hge : ¬ arr.size ≤ off - L.lo := by omega
          simp [convert, run_und hs, run_und hd, Conv.unsafePointer, hsa, hci, hsize, hsz', hge]
        · cases h
      · cases h
    · cases h
  · cases h
theorem lies_whole {P : Program} {u count : Nat} (hc : P.cellsOf u ≠ 0) (h : 1 ≤ count) : liesAt P P.depth u count 0 u 1 = true := by
  have hd : P.depth = (2 * (P.types.size + Made.depth) + 1) + 1 := rfl
  rw [hd]
  simp only [liesAt, Bool.or_eq_true]
  left
  rw [hd]
  simp [rowAt, hc, h, sameLayout]
theorem conv_ofU (hS : SOk S) (hR : Rd S ι hp w) {s d e : Nat} {x v : CV} {u : Value} (hd : S.P.underlying d = some (.pointer e)) (h : convQ S.en hp s e x = some v) (hx : VR ι x u) : ∃ u', (convert s d u).run S.P w = .ok u' w ∧ VR ι v u' := by
  unfold convQ at h
  split at h
  · rename_i n b z hT
    have hs := (hS.T s _ hT).uptr rfl
    split at h
    · cases h
      rw [hx.np_inv]
      exact ⟨_, by simp [convert, run_und hs, run_und hd, Conv.unsafePointer], .np⟩
    · rename_i r g off
      split at h
      · rename_i sz ty tr n' G fz ro mk hsz hr
        split at h
        · rename_i c hc
          cases hb : (Nat.beq off 0 && Nat.beq ty e) <;> rw [hb] at h <;> cases h
          simp only [Bool.and_eq_true, beq_iff] at hb
          obtain ⟨rfl, rfl⟩ := hb
          obtain ⟨te, hTe, hsz'⟩ := sizeT_eq hsz
          have hte := hS.T ty te hTe
          have hsize := hte.sizeOf w
          obtain ⟨L, hL, hlo, rfl⟩ := hx.p_inv
          obtain ⟨_, arr, fz', h1, h2, h3, _⟩ := hR.of hL hr
          obtain ⟨cw, q1, q2, _⟩ := cellAt_inv hc
          obtain ⟨v', q3, _⟩ := (h3 sz cw q1).2.2.2 q2 (by omega)
          have hlt : sz - L.lo < arr.size := (Array.getElem?_eq_some_iff.1 q3).1
          have hlo0 : L.lo = 0 := by omega
          have hcells : S.P.cellsOf ty = sz + 1 := by
            obtain ⟨i, z, hi, h1, _⟩ := hte.info
            simp [Program.cellsOf, hi, h1, hsz']
          refine ⟨_, ?_, hx⟩
          have hsa := run_seenAt (P := S.P) (o := 0 - L.lo) h1
          have hv : (variablesAt ⟨L.blk, 0 - L.lo, none⟩ ty 1).run S.P w = .ok true w := by
            have hl := lies_whole (P := S.P) (u := ty) (count := arr.size / S.P.cellsOf ty) (by omega) (by
              rw [hcells]; exact (Nat.le_div_iff_mul_le (by omega)).2 (by omega))
            simp [variablesAt, shape, Sem.run, World.shape?, h1, hlo0, hl]
          simp only [Nat.zero_sub] at hsa hv ⊢
          simp [convert, run_und hs, run_und hd, Conv.unsafePointer, hsa, hsize, hsz', hv]
        · cases h
      · cases h
    · cases h
  · cases h
theorem convC_ok (hS : SOk S) (hR : Rd S ι hp w) {s d : Nat} {x v : CV} {u : Value} (h : convC S.en hp s d x = some v) (hx : VR ι x u) : ∃ u', (convert s d u).run S.P w = .ok u' w ∧ VR ι v u' := by
  unfold convC at h
  split at h
  · rename_i k n b z hT; exact conv_int hS ((hS.T d _ hT).int rfl) h hx
  · rename_i n b z hT; exact conv_str hS hR ((hS.T d _ hT).string rfl) h hx
  · rename_i n b z hT; exact conv_toU hS hR ((hS.T d _ hT).uptr rfl) h hx
  · rename_i e n b z hT; exact conv_ofU hS hR ((hS.T d _ hT).ptr rfl) h hx
  · cases h
theorem g_conv (hS : SOk S) (hR : Rd S ι hp w) (hg : GR S ι) (hf : FR ι fr a.tmps) {o : Oper} {s d : Nat} {X : Operand} {v : CV} (ho : o.op = .convert s d X) (h : convC S.en hp s d (ev S.en fr X) = some v) : Gives S ι w a o v :=
  Gives.of (convC_ok hS hR h (ev_rel hg hf X)) (by simp [execOp, ho])

theorem g_iface (hS : SOk S) (hg : GR S ι) (hf : FR ι fr a.tmps) {o : Oper} {t : Nat} {X : Operand} {v : CV} (ho : o.op = .makeInterface t X) (h : fIface S.en t X fr = some v) : Gives S ι w a o v := by
  unfold fIface at h
  split at h
  · cases h
  · rename_i ti hni hT
    cases h
    obtain ⟨d, hd, hn⟩ := (hS.T t ti hT).notIface (fun e => by
      obtain ⟨k, n, b, z⟩ := ti
      subst e
      exact hni _ _ _ rfl)
    refine Gives.of (s := Instr.makeInterface t (a.eval X)) ⟨_, ?_, .ifc (ev_rel hg hf X)⟩ (by simp [execOp, ho])
    simp only [Instr.makeInterface, Sem.run_bind, run_und hd, Result.andThen_ok]
    cases d <;> first | rfl | exact (hn _ rfl).elim
  · cases h
theorem g_func (hg : GR S ι) (hf : FR ι fr a.tmps) {o : Oper} {f : Fn} {A C : Array Operand} {v : CV} (ho : o.op = .makeFunc f A C) (h : fFunc S.en f A C fr = some v) : Gives S ι w a o v := by
  unfold fFunc at h
  split at h
  · rename_i f0 g
    cases h
    have h1 := evL_rel hg hf A.toList
    have h2 := evL_rel hg hf C.toList
    refine Gives.of (s := Instr.makeFunc (.func g) (A.map a.eval) (C.map a.eval)) ⟨_, rfl, ?_⟩ (by simp [execOp, ho])
    have e1 : A.map a.eval = ⟨A.toList.map a.eval⟩ := by apply Array.ext'; simp
    have e2 : C.map a.eval = ⟨C.toList.map a.eval⟩ := by apply Array.ext'; simp
    rw [e1, e2]
    exact .f h1.1 h1.2 h2.1 h2.2
  · cases h

/-! ### parts that are filled in -/
theorem cells_nb {x : CV} {v : Value} (hx : isBot x = false) (h : VR ι x v) : VRL ι x.cells v.cells.toList := by
  refine cells_rel h (fun us e => ?_)
  subst e
  cases h with
  | bot => cases hx
  | agg _ _ => exact ⟨_, rfl⟩
theorem put_rel {cs vs : List CV} {C us : List Value} (h : VRL ι cs C) (hv : VRL ι vs us) (off : Nat) : VRL ι (putN cs vs off) (C.take off ++ (us ++ C.drop (off + us.length))) := by
  rw [putN_eq, hv.1]
  exact (h.take off).app (hv.app (h.drop _))
theorem foldl_put : ∀ (us : List Value) (C : List Value) (off k : Nat), off + k + us.length ≤ C.length →
    (us.zipIdx k).foldl (fun (cs : Array Value) (c : Value × Nat) => cs.setIfInBounds (off + c.2) c.1) ⟨C⟩ = ⟨C.take (off + k) ++ (us ++ C.drop (off + k + us.length))⟩
  | [], C, off, k, _ => by simp
  | u :: us, C, off, k, h => by
    simp only [List.zipIdx_cons, List.foldl_cons, List.length_cons] at h ⊢
    have e : (⟨C⟩ : Array Value).setIfInBounds (off + k) u = ⟨C.set (off + k) u⟩ := by simp
    rw [e, foldl_put us _ off (k + 1) (by simp; omega)]
    congr 1
    have hlt : off + k < C.length := by omega
    rw [show off + (k + 1) = off + k + 1 by omega]
    rw [List.take_set, List.drop_set_of_lt (by omega), show off + k + 1 + us.length = off + k + (us.length + 1) by omega]
    have : (C.take (off + k + 1)).set (off + k) u = C.take (off + k) ++ [u] := by
      rw [List.take_succ_eq_append_getElem hlt, List.set_append_right _ _ (by simp; omega)]
      simp [Nat.min_eq_left (Nat.le_of_lt hlt)]
    rw [this]
    simp
theorem fill_step {place : Nat → Option (Nat × Nat)} {C : List Value} {i off n : Nat} {v : Value} {ps : List (Nat × Value)} (hp : place i = some (off, n)) (hn : v.cells.size = n) (hle : off + n ≤ C.length) :
    Instr.fill place ⟨C⟩ ((i, v) :: ps) = Instr.fill place ⟨C.take off ++ (v.cells.toList ++ C.drop (off + v.cells.toList.length))⟩ ps := by
  have hf := foldl_put v.cells.toList C off 0 (by simp; omega)
  simp only [Nat.add_zero] at hf
  have hz : v.cells.zipIdx.foldl (fun (cs : Array Value) (c : Value × Nat) => cs.setIfInBounds (off + c.2) c.1) ⟨C⟩ = ⟨C.take off ++ (v.cells.toList ++ C.drop (off + v.cells.toList.length))⟩ := by
    rw [← hf, ← Array.foldl_toList]
    congr 1
    simp
  simp only [Instr.fill, hp]
  rw [if_neg (by simp; omega)]
  rw [← hz]
theorem fill1_ok {place : Nat → Option (Nat × Nat)} {cs : List CV} {C : List Value} {x : CV} {v : Value} {i off n : Nat} {ih : List CV → Option (List CV)} {r : List CV} {ps : List (Nat × Value)} (hp : place i = some (off, n)) (h : fill1 cs x off n ih = some r) (hc : VRL ι cs C) (hv : VR ι x v) :
    ∃ cs' C', ih cs' = some r ∧ VRL ι cs' C' ∧ Instr.fill place ⟨C⟩ ((i, v) :: ps) = Instr.fill place ⟨C'⟩ ps := by
  unfold fill1 at h
  cases hb : (!isBot x && Nat.beq (len x.cells) n && Nat.ble (Nat.add off n) (len cs)) <;> rw [hb] at h <;> simp only [cond_true, cond_false] at h
  · cases h
  simp only [Bool.and_eq_true, Bool.not_eq_true', beq_iff, ble_iff, len_eq] at hb
  obtain ⟨⟨h1, h2⟩, h3⟩ := hb
  have hr := cells_nb h1 hv
  have hsz : v.cells.size = n := by rw [← h2, hr.1]; simp
  exact ⟨_, _, h, put_rel hc hr off, fill_step hp hsz (by rw [← hc.1]; exact h3)⟩
theorem fillS_ok (hS : SOk S) (hg : GR S ι) (hf : FR ι fr a.tmps) {fs : List (Nat × Nat)} {place : Nat → Option (Nat × Nat)} (hp : ∀ i off ft n, nth fs i = some (off, ft) → sizeT S.en ft = some n → place i = some (off, n)) :
    ∀ (ps : List (Nat × Operand)) (cs r : List CV) (C : List Value), fillS S.en fs fr ps cs = some r → VRL ι cs C → ∃ C', Instr.fill place ⟨C⟩ (ps.map fun p => (p.1, a.eval p.2)) = some ⟨C'⟩ ∧ VRL ι r C'
  | [], cs, r, C, h, hc => by cases h; exact ⟨C, rfl, hc⟩
  | p :: ps, cs, r, C, h, hc => by
    replace h : (match nth fs p.1 with | none => none | some (off, ft) => match sizeT S.en ft with | none => none | some n => fill1 cs (ev S.en fr p.2) off n (fillS S.en fs fr ps)) = some r := h
    split at h
    · cases h
    · rename_i off ft hn
      split at h
      · cases h
      · rename_i n hsz
        obtain ⟨cs', C', h1, h2, h3⟩ := fill1_ok (hp _ _ _ _ hn hsz) h hc (ev_rel hg hf p.2) (ps := ps.map fun p => (p.1, a.eval p.2))
        obtain ⟨C'', h4, h5⟩ := fillS_ok hS hg hf hp ps cs' r C' h1 h2
        exact ⟨C'', by rw [List.map_cons, h3, h4], h5⟩
theorem fillA_ok (hg : GR S ι) (hf : FR ι fr a.tmps) {sz : Nat} :
    ∀ (ps : List (Nat × Operand)) (cs r : List CV) (C : List Value), fillA S.en sz fr ps cs = some r → VRL ι cs C → ∃ C', Instr.fill (fun i => some (i * sz, sz)) ⟨C⟩ (ps.map fun p => (p.1, a.eval p.2)) = some ⟨C'⟩ ∧ VRL ι r C'
  | [], cs, r, C, h, hc => by cases h; exact ⟨C, rfl, hc⟩
  | p :: ps, cs, r, C, h, hc => by
    replace h : fill1 cs (ev S.en fr p.2) (Nat.mul p.1 sz) sz (fillA S.en sz fr ps) = some r := h
    obtain ⟨cs', C', h1, h2, h3⟩ := fill1_ok (place := fun i => some (i * sz, sz)) (i := p.1) rfl h hc (ev_rel hg hf p.2) (ps := ps.map fun p => (p.1, a.eval p.2))
    obtain ⟨C'', h4, h5⟩ := fillA_ok hg hf ps cs' r C' h1 h2
    exact ⟨C'', by rw [List.map_cons, h3, h4], h5⟩

theorem mapM_places {Q : Program} : ∀ (fs : List Field), (∀ f ∈ fs, ∃ i, Q.info? f.type = some i) → ∃ places : List (Nat × Nat), fs.mapM (fun (f : Field) => (Q.info? f.type).map fun i => (f.offset, i.size)) = some places ∧ ∀ i : Nat, places[i]? = (fs[i]?).bind fun (f : Field) => (Q.info? f.type).map fun j => (f.offset, j.size)
  | [], _ => ⟨[], by simp, by simp⟩
  | f :: fs, h => by
    obtain ⟨i, hi⟩ := h f (List.mem_cons_self ..)
    obtain ⟨ps, h1, h2⟩ := mapM_places (Q := Q) fs (fun f hf => h f (List.mem_cons_of_mem _ hf))
    refine ⟨(f.offset, i.size) :: ps, by simp [List.mapM_cons, hi, h1], fun j => ?_⟩
    cases j with
    | zero => simp [hi]
    | succ j => simp [h2]
theorem g_build (hS : SOk S) (hg : GR S ι) (hf : FR ι fr a.tmps) {o : Oper} {t : Nat} {ps : Array (Nat × Operand)} {v : CV} (ho : o.op = .build t ps) (h : fBuild S.en t ps.toList fr = some v) : Gives S ι w a o v := by
  refine Gives.of (s := Instr.build t (ps.map fun (i, x) => (i, a.eval x))) ?_ (by simp [execOp, ho])
  have e0 : (ps.map fun (i, x) => (i, a.eval x)).toList = ps.toList.map fun p => (p.1, a.eval p.2) := by simp
  unfold fBuild at h
  split at h
  · rename_i fs n b z hT
    have hti := hS.T t _ hT
    obtain ⟨fields, hd, hfs, hall⟩ := hti.struct rfl
    obtain ⟨i, z', hi, _, _, hz', hzs, _⟩ := hti.info
    have hzr := (zsB_rel (ι := ι) hzs).1
    obtain ⟨places, p1, p2⟩ := mapM_places (Q := S.P) fields.toList hall
    unfold aggO at h
    split at h
    · rename_i cs hcs
      cases h
      obtain ⟨C', h1, h2⟩ := fillS_ok hS hg hf (place := (places.toArray[·]?)) (fun i off ft m hn hsz => by
        obtain ⟨fd, q1, q2, q3⟩ := fields_get hfs hn
        obtain ⟨te, hTe, hsz'⟩ := sizeT_eq hsz
        obtain ⟨inf, zz, hi, hi1, _⟩ := (hS.T ft te hTe).info
        subst q3
        simp only [List.getElem?_toArray]
        rw [p2 i, Array.getElem?_toList, q1]
        simp [hi, q2, hi1, hsz']) ps.toList z cs _ hcs hzr
      exact ⟨.agg ⟨C'⟩, run_build w t _ ⟨C'⟩ (by rw [e0]; simp only [Program.built, hi, hd, hz', p1]; exact h1), .agg' h2⟩
    · cases h
  · rename_i n e n' b z hT
    have hti := hS.T t _ hT
    have hd := hti.array rfl
    obtain ⟨i, z', hi, _, _, hz', hzs, _⟩ := hti.info
    have hzr := (zsB_rel (ι := ι) hzs).1
    split at h
    · rename_i sz hsz
      obtain ⟨te, hTe, rfl⟩ := sizeT_eq hsz
      obtain ⟨ie, ze, hie, hs2, _⟩ := (hS.T e te hTe).info
      unfold aggO at h
      split at h
      · rename_i cs hcs
        cases h
        obtain ⟨C', h1, h2⟩ := fillA_ok hg hf ps.toList z cs _ hcs hzr
        exact ⟨.agg ⟨C'⟩, run_build w t _ ⟨C'⟩ (by rw [e0]; simp only [Program.built, hi, hd, hz', hie, hs2]; exact h1), .agg' h2⟩
      · cases h
    · cases h
  · cases h

/-! ### maps -/
theorem key_same {k : TK} {d : TypeDesc} {x y : CV} {u v : Value} {b : Bool} (hk : keyK k x = true) (hd : kindB S.P k d = true) (h : eqC 6 x y = some b) (hx : VR ι x u) (hy : VR ι y v) : Instr.sameNow d u v = some b := by
  unfold keyK at hk
  split at hk <;> first | (cases hk; done) | (split at hk <;> first | (cases hk; done) | skip)
  · rename_i j n _ k' 
    cases d <;> simp only [kindB, Bool.false_eq_true] at hd
    cases y <;> first | (cases h; done) | skip
    rename_i j' m
    rw [hx.i_inv, hy.i_inv]
    replace h : (bif eqK j j' then some (eqI n m) else none) = some b := h
    cases hj : eqK j j' <;> rw [hj] at h <;> cases h
    obtain rfl := eqK_iff.1 hj
    simp [Instr.sameNow, eqI_eq]
  · cases d <;> simp only [kindB, Bool.false_eq_true] at hd
    cases y <;> first | (cases h; done) | skip
    obtain ⟨rfl, h1⟩ := hx.s_inv
    obtain ⟨rfl, h2⟩ := hy.s_inv
    cases h
    have hb := strOf_beq h1 h2
    simp only [Instr.sameNow]
    rw [beq_toListBytes, hb]
  · cases d <;> simp only [kindB, Bool.false_eq_true] at hd
    cases y <;> first | (cases h; done) | skip
    cases h
    rw [hx.b_inv, hy.b_inv]
    simp only [Instr.sameNow]
    exact (by decide : ∀ s t : Bool, some (s == t) = some (bif s then t else !t)) _ _
theorem key_check {k : TK} {d : TypeDesc} {t : TypeId} {x : CV} {u : Value} {e : Bool} (hk : keyK k x = true) (ht : S.P.underlying t = some d) (hd : kindB S.P k d = true) : (Instr.checkKey e 10000 t u).run S.P w = .ok () w := by
  have h2 : (∃ i, d = .int i) ∨ d = .string ∨ d = .bool := by
    unfold keyK at hk
    split at hk <;> first | (cases hk; done) | (split at hk <;> first | (cases hk; done) | skip)
    all_goals cases d <;> simp [kindB] at hd <;> simp
  show (Instr.checkKey e (9999 + 1) t u).run S.P w = .ok () w
  generalize 9999 = n
  simp only [Instr.checkKey, Sem.run_bind, run_und ht, Result.andThen_ok]
  rcases h2 with ⟨i, rfl⟩ | rfl | rfl <;> cases u <;> rfl
/-- What is found, and where. -/
theorem lookC_ok {k : TK} {d : TypeDesc} {x : CV} {u : Value} (hk : keyK k x = true) (hd : kindB S.P k d = true) (hx : VR ι x u) : ∀ (es : List (CV × CV)) (ms : List MapEntry) (i : Nat) (r : Option CV), es.length = ms.length →
    (∀ (i : Nat) (e : CV × CV) (m : MapEntry), es[i]? = some e → ms[i]? = some m → VR ι e.1 m.key ∧ VR ι e.2 m.val) → lookC x es = some r →
    ∃ q, Instr.findNow d u ms i = some q ∧ (match r with | none => q = none | some v => ∃ j uv, q = some (j, uv) ∧ VR ι v uv)
  | [], [], i, r, _, _, h => by cases h; exact ⟨none, rfl, rfl⟩
  | e :: es, m :: ms, i, r, hl, hr, h => by
    replace h : (match eqC 6 x e.1 with | some true => some (some e.2) | some false => lookC x es | none => none) = some r := h
    have hm := hr 0 e m rfl rfl
    split at h
    · rename_i he
      cases h
      exact ⟨some (i, m.val), by simp [Instr.findNow, key_same hk hd he hx hm.1], _, _, rfl, hm.2⟩
    · rename_i he
      obtain ⟨q, h1, h2⟩ := lookC_ok hk hd hx es ms (i + 1) r (by simpa using hl) (fun j e' m' a b => hr (j + 1) e' m' (by simpa using a) (by simpa using b)) h
      exact ⟨q, by simp [Instr.findNow, key_same hk hd he hx hm.1, h1], h2⟩
    · cases h
theorem zeroT_ok (hS : SOk S) {t : Nat} {z : CV} (h : zeroT S.en t = some z) : ∃ u, (zeroValue t).run S.P w = .ok u w ∧ VR ι z u := by
  unfold zeroT at h
  split at h
  · rename_i fs n b z' hT
    cases h
    obtain ⟨u, h1, _, _, _, h2⟩ := (hS.T t _ hT).zero ι w
    exact ⟨u, h1, h2⟩
  · rename_i m e n b z' hT
    cases h
    obtain ⟨u, h1, _, _, _, h2⟩ := (hS.T t _ hT).zero ι w
    exact ⟨u, h1, h2⟩
  · rename_i k n b v hx1 hx2 hT
    cases h
    obtain ⟨u, h1, _, _, _, h2⟩ := (hS.T t _ hT).zero ι w
    have : aggK k = false := by
      cases k <;> first | rfl | exact (hx1 _ rfl).elim | exact (hx2 _ _ rfl).elim
    rw [show aggK (TI.mk k n b [z]).k = false from this] at h2
    exact ⟨u, h1, h2⟩
  · cases h
theorem okC_rel {ok is : Bool} {v : CV} {u : Value} (h : VR ι v u) : VR ι (okC ok v is) (if ok then .tuple #[u, .bool is] else u) := by
  cases ok
  · exact h
  · exact .tup' (.cons h (.cons (.b _) .nil))
theorem g_look (hS : SOk S) (hR : Rd S ι hp w) (hg : GR S ι) (hf : FR ι fr a.tmps) {o : Oper} {t : Nat} {X Y : Operand} {ok : Bool} {v : CV} (ho : o.op = .lookup t X Y ok) (h : fLook S.en t X Y ok hp fr = some v) : Gives S ι w a o v := by
  refine Gives.of (s := Instr.lookup t (a.eval X) (a.eval Y) ok) ?_ (by simp [execOp, ho])
  have hx := ev_rel hg hf X
  have hy := ev_rel hg hf Y
  unfold fLook at h
  split at h
  · rename_i kt e n b z hT
    have hd := (hS.T t _ hT).map rfl
    split at h
    · rename_i zv hz
      obtain ⟨uz, hz1, hz2⟩ := zeroT_ok hS (w := w) (ι := ι) hz
      cases hk : keyOk S.en kt (ev S.en fr Y) <;> rw [hk] at h <;> simp only [cond_true, cond_false] at h
      · cases h
      unfold keyOk at hk
      split at hk
      · rename_i tk hTk
        obtain ⟨dk, hdk, hkd⟩ := (hS.T kt tk hTk).und
        have hchk : ∀ e, (Instr.checkKey e 10000 kt (a.eval Y)).run S.P w = .ok () w := fun e => key_check (e := e) hk hdk hkd
        generalize ev S.en fr X = x at h hx
        unfold lookM at h
        split at h
        · cases h
          rw [hx.nm_inv]
          refine ⟨_, ?_, okC_rel hz2⟩
          simp [Instr.lookup, run_und hd, hchk, Instr.findKey, run_und hdk, Instr.findNow, hz1]
        · rename_i r
          obtain ⟨L, hL, hv⟩ := hx.m_inv
          rw [hv]
          split at h
          · rename_i es hr
            obtain ⟨_, ents, cl, q1, q2, q3⟩ := hR.of hL hr
            have hget : (getObj L.blk).run S.P w = .ok (.map ents cl) w := by simp [getObj, Sem.run, q1]
            have q2' : es.length = ents.toList.length := by rw [q2]; simp
            have q3' : ∀ (i : Nat) (e : CV × CV) (m : MapEntry), es[i]? = some e → ents.toList[i]? = some m → VR ι e.1 m.key ∧ VR ι e.2 m.val := fun i e m a b => q3 i e m a (by rw [Array.getElem?_toList] at b; exact b)
            split at h
            · rename_i vv hl
              cases h
              obtain ⟨q, f1, j, uv, rfl, f2⟩ := lookC_ok hk hkd hy es ents.toList 0 _ q2' q3' hl
              refine ⟨_, ?_, okC_rel f2⟩
              simp [Instr.lookup, run_und hd, hget, hchk, Instr.findKey, run_und hdk, f1]
            · rename_i hl
              cases h
              obtain ⟨q, f1, rfl⟩ := lookC_ok hk hkd hy es ents.toList 0 _ q2' q3' hl
              refine ⟨_, ?_, okC_rel hz2⟩
              simp [Instr.lookup, run_und hd, hget, hchk, Instr.findKey, run_und hdk, f1, hz1]
            · cases h
          · cases h
        · cases h
      · cases hk
    · cases h
  · cases h

/-! ### len, cap, min, max, unsafe.SliceData -/
theorem run_call {o : Oper} {c : Call} {b : Builtin} (ho : o.op = .call c) (hc : c.callee = .builtin b) {f : Array TypeId → TypeId → Array Value → Sem Value} (hb : ∀ ts ty cs vs, builtin b ts ty cs vs = (do pure (.value (← f ts ty vs)))) :
    execOp a.eval o = (do pure (.value (← f c.argTypes o.type (c.args.map a.eval)))) := by
  simp only [execOp, ho, resolve, hc]
  show (do let d ← (pure _ : Sem Deferred); invoke d.target d.args) = _
  simp only [pure_bind]
  exact hb _ _ _ _
theorem args1 {c : Call} {x : Operand} (h : c.args.toList = [x]) : c.args.map a.eval = #[a.eval x] := by
  have : c.args = #[x] := by rw [← Array.toList_inj]; exact h
  rw [this]; simp
theorem types1 {c : Call} {t : TypeId} (h : c.argTypes.toList = [t]) : c.argTypes = #[t] := by rw [← Array.toList_inj]; exact h

theorem g_len (hS : SOk S) (hR : Rd S ι hp w) (hg : GR S ι) (hf : FR ι fr a.tmps) {o : Oper} {c : Call} {v : CV} (ho : o.op = .call c) (hc : c.callee = .builtin .len) (h : fLen S.en c.args.toList c.argTypes.toList hp fr = some v) : Gives S ι w a o v := by
  unfold fLen at h
  split at h
  · rename_i x t ex et
    split at h
    · rename_i ti hT
      have hx := ev_rel hg hf x
      refine Gives.of (s := Builtin.len_ c.argTypes o.type (c.args.map a.eval)) ?_ (run_call ho hc (f := Builtin.len_) (fun _ _ _ _ => rfl))
      rw [args1 ex, types1 et]
      have hti := hS.T t ti hT
      generalize ev S.en fr x = y at h hx
      generalize a.eval x = u at hx
      unfold lenC at h
      split at h
      · rename_i hk
        split at h <;> cases h
        obtain ⟨rfl, _⟩ := hx.s_inv
        exact ⟨_, by simp [Builtin.len_, run_und (hti.string hk), goInt, strOf_size], .i _ _⟩
      · rename_i e hk
        split at h <;> cases h
        · rw [hx.ns_inv]; exact ⟨_, by simp [Builtin.len_, run_und (hti.slice hk), goInt], .i _ _⟩
        · obtain ⟨L, ad, c', _, _, _, _, _, _, _, _, rfl⟩ := hx.sl_inv
          exact ⟨_, by simp [Builtin.len_, run_und (hti.slice hk), goInt], .i _ _⟩
      · rename_i k e hk
        split at h
        · cases h
          rw [hx.nm_inv]; exact ⟨_, by simp [Builtin.len_, run_und (hti.map hk), goInt], .i _ _⟩
        · rename_i r
          split at h <;> cases h
          rename_i es hr
          obtain ⟨L, hL, rfl⟩ := hx.m_inv
          obtain ⟨_, ents, cl, q1, q2, q3⟩ := hR.of hL hr
          have hget : (getObj L.blk).run S.P w = .ok (.map ents cl) w := by simp [getObj, Sem.run, q1]
          refine ⟨.int .i64 (es.length : Int), ?_, by rw [len_eq]; exact .i _ _⟩
          simp [Builtin.len_, run_und (hti.map hk), hget, goInt, q2]
        · cases h
      · rename_i n e hk
        cases h
        exact ⟨_, by simp [Builtin.len_, run_und (hti.array hk), goInt], .i _ _⟩
      · cases h
    · cases h
  · cases h
theorem g_cap (hS : SOk S) (hg : GR S ι) (hf : FR ι fr a.tmps) {o : Oper} {c : Call} {v : CV} (ho : o.op = .call c) (hc : c.callee = .builtin .cap) (h : fCap S.en c.args.toList c.argTypes.toList fr = some v) : Gives S ι w a o v := by
  unfold fCap at h
  split at h
  · rename_i x t ex et
    split at h
    · rename_i e n b z hT
      have hx := ev_rel hg hf x
      refine Gives.of (s := Builtin.cap_ c.argTypes o.type (c.args.map a.eval)) ?_ (run_call ho hc (f := Builtin.cap_) (fun _ _ _ _ => rfl))
      rw [args1 ex, types1 et]
      have hd := (hS.T t _ hT).slice rfl
      generalize ev S.en fr x = y at h hx
      generalize a.eval x = u at hx
      split at h <;> cases h
      · rw [hx.ns_inv]; exact ⟨_, by simp [Builtin.cap_, run_und hd, goInt], .i _ _⟩
      · obtain ⟨L, ad, c', _, _, _, _, _, _, _, hc1, rfl⟩ := hx.sl_inv
        have := hc1 _ rfl
        subst this
        exact ⟨_, by simp [Builtin.cap_, run_und hd, goInt], .i _ _⟩
    · cases h
  · cases h
theorem foldMM_cons {mx : Bool} {y x v : CV} {xs : List CV} (h : foldMM mx (y :: xs) x = some v) : ∃ k p q, x = .i k p ∧ y = .i k q ∧ foldMM mx xs (.i k (bif (bif mx then leI q p else leI p q) then p else q)) = some v := by
  replace h : (match (generalizing := false) x, y with
      | .i k a, .i k' c => bif eqK k k' then foldMM mx xs (.i k (bif (bif mx then leI c a else leI a c) then a else c)) else none
      | _, _ => none) = some v := h
  split at h
  · rename_i k p k' q
    cases hk : eqK k k' <;> rw [hk] at h <;> simp only [cond_true, cond_false] at h
    · cases h
    obtain rfl := eqK_iff.1 hk
    exact ⟨k, p, q, rfl, rfl, h⟩
  · cases h
theorem foldMM_ok {mx : Bool} : ∀ (xs : List CV) (us : List Value) (x v : CV) (u : Value), VRL ι xs us → VR ι x u → foldMM mx xs x = some v →
    ∃ u', (us.foldlM (if mx then Builtin.max2 else Builtin.min2) u).run S.P w = .ok u' w ∧ VR ι v u'
  | [], us, x, v, u, hl, hx, h => by
    cases h
    rw [hl.nil_inv]
    exact ⟨u, rfl, hx⟩
  | y :: xs, us, x, v, u, hl, hx, h => by
    obtain ⟨uy, us', rfl, hy, hl'⟩ := hl.cons_inv
    obtain ⟨k, p, q, rfl, rfl, h'⟩ := foldMM_cons h
    rw [hx.i_inv, hy.i_inv]
    obtain ⟨u', h1, h2⟩ := foldMM_ok xs us' _ v _ hl' (.i k _) h'
    refine ⟨u', ?_, h2⟩
    rw [List.foldlM_cons]
    have : ((if mx = true then Builtin.max2 else Builtin.min2) (.int k p) (.int k q)).run S.P w = .ok (.int k (bif (bif mx then leI q p else leI p q) then p else q)) w := by
      cases mx
      · simp only [Builtin.min2, cond_false, Bool.false_eq_true, if_false, leI_eq]
        by_cases hpq : p ≤ q
        · simp [hpq, Int.not_lt.2 hpq]
        · simp [hpq, Int.not_le.1 hpq]
      · simp only [Builtin.max2, cond_true, if_true, leI_eq]
        by_cases hpq : q ≤ p
        · simp [hpq, Int.not_lt.2 hpq]
        · simp [hpq, Int.not_le.1 hpq]
    rw [Sem.run_bind, this]
    exact h1
theorem g_mm (hg : GR S ι) (hf : FR ι fr a.tmps) {o : Oper} {c : Call} {mx : Bool} {v : CV} (ho : o.op = .call c) (hc : c.callee = .builtin (if mx then .max else .min)) (h : fMM S.en mx c.args.toList fr = some v) : Gives S ι w a o v := by
  unfold fMM at h
  split at h
  · rename_i x xs e
    obtain ⟨u', h1, h2⟩ := foldMM_ok (S := S) (w := w) (xs.map (ev S.en fr)) (xs.map a.eval) _ v _ (evL_rel hg hf xs) (ev_rel hg hf x) h
    have ea : c.args.map a.eval = ⟨a.eval x :: xs.map a.eval⟩ := by
      apply Array.ext'
      simp [e]
    cases mx
    · refine Gives.of (s := Builtin.min_ c.argTypes o.type (c.args.map a.eval)) ⟨u', ?_, h2⟩ (run_call ho hc (f := Builtin.min_) (fun _ _ _ _ => rfl))
      rw [ea]; exact h1
    · refine Gives.of (s := Builtin.max_ c.argTypes o.type (c.args.map a.eval)) ⟨u', ?_, h2⟩ (run_call ho hc (f := Builtin.max_) (fun _ _ _ _ => rfl))
      rw [ea]; exact h1
  · cases h
theorem g_sld (hg : GR S ι) (hf : FR ι fr a.tmps) {o : Oper} {c : Call} {v : CV} (ho : o.op = .call c) (hc : c.callee = .builtin .unsafeSliceData) (h : fSlD S.en c.args.toList fr = some v) : Gives S ι w a o v := by
  unfold fSlD at h
  split at h
  · rename_i x ex
    have hx := ev_rel hg hf x
    refine Gives.of (s := Builtin.unsafeSliceData_ c.argTypes o.type (c.args.map a.eval)) ?_ (run_call ho hc (f := Builtin.unsafeSliceData_) (fun _ _ _ _ => rfl))
    rw [args1 ex]
    generalize ev S.en fr x = y at h hx
    generalize a.eval x = u at hx
    split at h
    · cases h
      rw [hx.ns_inv]; exact ⟨_, rfl, .np⟩
    · rename_i r g off l sz cap
      cases hl : Nat.beq l 0 <;> rw [hl] at h <;> cases h
      obtain ⟨L, ad, c', hL, hlo, _, _, had, hlc, _, _, rfl⟩ := hx.sl_inv
      have hc0 : c' ≠ 0 := by
        intro e
        have : l = 0 := by omega
        subst this; cases hl
      have := had (by omega)
      subst this
      exact ⟨_, Lib.run_unsafeSliceData_row w _ _ _ _ _ hc0, .p hL hlo⟩
    · cases h
  · cases h

/-- All together. -/
theorem flt_ok (hS : SOk S) (hR : Rd S ι hp w) (hg : GR S ι) (hf : FR ι fr a.tmps) {o : Oper} {v : CV} (h : flt S.en hp fr o = some v) : Gives S ι w a o v := by
  unfold flt at h
  cases ho : o.op <;> rw [ho] at h <;> simp only [fltX] at h <;> first | (cases h; done) | skip
  case move x => cases h; exact ⟨a.eval x, by simp [execOp, ho], ev_rel hg hf x⟩
  case assign x => cases h; exact ⟨a.eval x, by simp [execOp, ho], ev_rel hg hf x⟩
  case pick c x y => exact g_pick hg hf ho h
  case binOp op t x y yt => exact g_bin hS hg hf ho h
  case unOp op t x => exact g_un hg hf ho h
  case load t x => exact g_load hS hR hg hf ho h
  case fieldAddr t x f => exact g_fieldA hS hg hf ho h
  case field t x f => exact g_field hS hg hf ho h
  case indexAddr t x y => exact g_indexA hS hg hf ho h
  case index t x y => exact g_index hS hg hf ho h
  case extract x i => exact g_extract hg hf ho h
  case nilCheck x => exact g_nil hg hf ho h
  case slice t x lo hi mx => exact g_slice hS hR hg hf ho h
  case convert s d x => exact g_conv hS hR hg hf ho h
  case makeInterface t x => exact g_iface hS hg hf ho h
  case makeFunc f A C => exact g_func hg hf ho h
  case build t ps => exact g_build hS hg hf ho h
  case lookup t x y ok => exact g_look hS hR hg hf ho h
  case call c =>
    split at h
    · rename_i b hc
      cases b <;> simp only [fltB] at h <;> first | (cases h; done) | skip
      · exact g_cap hS hg hf ho hc h
      · exact g_len hS hR hg hf ho hc h
      · exact g_mm (mx := true) hg hf ho hc h
      · exact g_mm (mx := false) hg hf ho hc h
      · exact g_sld hg hf ho hc h
    · cases h
end
end Go.Cv
/- Operations that change the heap. -/
namespace Go.Cv
open Go Go.RowKit

/-! ### cells that are written -/
theorem setCells_heap {b : Nat} {ty : TypeId} {fz : Nat × Nat} : ∀ (vs : List Value) (o : Nat) (w : World) (arr : Array Value), w.heap[b]? = some (.cells arr ty fz) → o + vs.length ≤ arr.size →
    (∃ arr', (w.setCells b o vs).heap[b]? = some (.cells arr' ty fz) ∧ arr'.size = arr.size ∧ ∀ i, arr'[i]? = if o ≤ i ∧ i < o + vs.length then vs[i - o]? else arr[i]?) ∧
    (∀ k, k ≠ b → (w.setCells b o vs).heap[k]? = w.heap[k]?) ∧ (w.setCells b o vs).heap.size = w.heap.size ∧ ∀ base, base ≤ b → Below base w (w.setCells b o vs)
  | [], o, w, arr, h, _ => ⟨⟨arr, h, rfl, fun i => by rw [if_neg (by simp only [List.length_nil]; omega)]⟩, fun _ _ => rfl, rfl, fun _ _ => Below.refl _ _⟩
  | v :: vs, o, w, arr, h, hl => by
    simp only [List.length_cons] at hl
    have h1 : (w.setCell ⟨b, o, none⟩ v).heap[b]? = some (.cells (arr.setIfInBounds o v) ty fz) := by
      simp [World.setCell, Array.getElem?_modify, h]
    obtain ⟨⟨arr', q1, q2, q3⟩, q4, q5, q6⟩ := setCells_heap vs (o + 1) _ _ h1 (by simp; omega)
    simp only [World.setCells]
    refine ⟨⟨arr', q1, by simpa using q2, fun i => ?_⟩, fun k hk => ?_, ?_, fun base hb => ?_⟩
    · rw [q3]
      by_cases hi : o + 1 ≤ i ∧ i < o + 1 + vs.length
      · rw [if_pos hi, if_pos (by simp only [List.length_cons]; omega)]
        obtain ⟨k, rfl⟩ : ∃ k, i = o + (k + 1) := ⟨i - o - 1, by omega⟩
        rw [show o + (k + 1) - (o + 1) = k by omega, show o + (k + 1) - o = k + 1 by omega]
        rfl
      · rw [if_neg hi]
        by_cases he : i = o
        · subst he
          rw [if_pos (by simp only [List.length_cons]; omega)]
          have : i < arr.size := by omega
          simp [this]
        · rw [if_neg (by simp only [List.length_cons]; omega), Array.getElem?_setIfInBounds_ne (Ne.symm he)]
    · rw [q4 k hk, Below.heap_setCell _ _ _ _ (by simpa using hk)]
    · rw [q5]; simp [World.setCell]
    · exact (Below.refl base w).setCell (p := ⟨b, o, none⟩) hb v |>.trans (q6 base hb)

/-- What 'wrK' writes. -/
noncomputable def wrL (w : Nat) : List CV → Tr CW → Nat → Tr CW
  | [], t, _ => t
  | v :: l, t, i => wrL w l (t.set i ⟨v, w⟩) (i + 1)
theorem wrK_eq {R : Type} (w : Nat) : ∀ (l : List CV) (t : Tr CW) (i : Nat) (K : Tr CW → R), wrK w l t i K = K (wrL w l t i)
  | [], t, i, K => rfl
  | v :: l, t, i, K => by
    show frc v (fun v => Tr.setK t i ⟨v, w⟩ fun t => wrK w l t (i + 1) K) = _
    rw [frc_eq, Tr.setK_eq, wrK_eq w l]
    rfl
theorem wrL_get (w : Nat) : ∀ (l : List CV) (t : Tr CW) (i j : Nat), i + l.length ≤ keyTop → (wrL w l t i).get j = if i ≤ j ∧ j < i + l.length then (l[j - i]?).map fun v => ⟨v, w⟩ else t.get j
  | [], t, i, j, _ => by rw [if_neg (by simp only [List.length_nil]; omega)]; rfl
  | v :: l, t, i, j, h => by
    simp only [List.length_cons] at h
    simp only [wrL, List.length_cons]
    rw [wrL_get w l _ (i + 1) j (by omega), Tr.get_set _ _ (by omega)]
    by_cases h1 : i + 1 ≤ j ∧ j < i + 1 + l.length
    · rw [if_pos h1, if_pos (by omega)]
      obtain ⟨k, rfl⟩ : ∃ k, j = i + (k + 1) := ⟨j - i - 1, by omega⟩
      rw [show i + (k + 1) - (i + 1) = k by omega, show i + (k + 1) - i = k + 1 by omega]
      rfl
    · rw [if_neg h1]
      by_cases he : j = i
      · subst he; rw [if_pos rfl, if_pos (by omega)]; simp
      · rw [if_neg he, if_neg (by omega)]
theorem trL_get : ∀ (l : List CV) (i j : Nat), i + l.length ≤ keyTop → (trL l i).get j = if i ≤ j ∧ j < i + l.length then (l[j - i]?).map fun v => ⟨v, 0⟩ else none
  | [], i, j, _ => by rw [if_neg (by simp only [List.length_nil]; omega)]; rfl
  | v :: l, i, j, h => by
    simp only [List.length_cons] at h
    show ((trL l (i + 1)).set i ⟨v, 0⟩).get j = _
    rw [Tr.get_set _ _ (by omega), trL_get l (i + 1) j (by omega)]
    simp only [List.length_cons]
    by_cases he : j = i
    · subst he; rw [if_pos rfl, if_pos (by omega)]; simp
    · rw [if_neg he]
      by_cases h1 : i + 1 ≤ j ∧ j < i + 1 + l.length
      · rw [if_pos h1, if_pos (by omega)]
        obtain ⟨k, rfl⟩ : ∃ k, j = i + (k + 1) := ⟨j - i - 1, by omega⟩
        rw [show i + (k + 1) - (i + 1) = k by omega, show i + (k + 1) - i = k + 1 by omega]
        rfl
      · rw [if_neg h1, if_neg (by omega)]
theorem there_iff (t : Tr CW) : ∀ (n i : Nat), there t n i = true → ∀ j, i ≤ j → j < i + n → ∃ c, t.get j = some c
  | 0, i, _, j, h1, h2 => by omega
  | n + 1, i, h, j, h1, h2 => by
    replace h : (match t.get i with | some _ => there t n (i + 1) | none => false) = true := h
    split at h
    · rename_i c hc
      by_cases he : j = i
      · subst he; exact ⟨c, hc⟩
      · exact there_iff t n (i + 1) h j (by omega) (by omega)
    · cases h

section
variable {S : Sg} {base : Nat} {w0 w : World} {U : Nat → Option CO} {ι : Ip} {hp : Tr CO} {nx : Nat}

/-- Cells of an object's last generation are written where they lie. -/
theorem HR.store (h : HR S base w0 U ι hp nx w) {r ty n G fz off : Nat} {tr : Tr CW} {mk : Bool} {L : Loc} {cs : List CV} {us : List Value} (hL : ι r G = some L) (hr : hp.get r = some (.c ty tr n G fz false mk)) (hlo : L.lo ≤ off) (hfz : fz ≤ off)
    (hth : there tr cs.length off = true) (hv : VRL ι cs us) (h1 : ∀ u ∈ us, u.oneCell' = true) :
    (storeCells ⟨L.blk, off - L.lo, none⟩ us).run S.P w = .ok () (w.setCells L.blk (off - L.lo) us) ∧ HR S base w0 U ι (hp.set r (.c ty (wrL G cs tr off) n G fz false mk)) nx (w.setCells L.blk (off - L.lo) us) := by
  obtain ⟨o, ho, hor, hlt, hbase⟩ := h.obj r G L hL
  rw [hr] at ho; cases ho
  have hbl : base ≤ L.blk := Nat.le_of_not_lt fun hb => by have := hbase hb; cases this
  obtain ⟨_, arr, fz', q1, q2, q3, q4⟩ := hor
  obtain ⟨q5, q6⟩ := q4 rfl
  have hin : ∀ j, off ≤ j → j < off + cs.length → j < n ∧ j < keyTop := fun j a b => by
    obtain ⟨c, hc⟩ := there_iff tr cs.length off hth j a b
    exact ⟨(q3 j c hc).2.1, (q3 j c hc).2.2.1⟩
  have hsz : cs.length = 0 ∨ off - L.lo + us.length ≤ arr.size := by
    by_cases h0 : cs.length = 0
    · exact .inl h0
    · right
      have := (hin (off + cs.length - 1) (by omega) (by omega)).1
      rw [← hv.1]; omega
  by_cases h0 : cs.length = 0
  · have hcs : cs = [] := List.eq_nil_of_length_eq_zero h0
    have hus : us = [] := List.eq_nil_of_length_eq_zero (by rw [← hv.1]; exact h0)
    subst hcs hus
    refine ⟨rfl, ?_⟩
    refine h.write Ex.refl (fun _ _ _ e => .inl e) (Below.refl _ _) (h.dom r G L hL) (h.born_not hL) (fun _ _ _ _ _ => rfl) (fun g L' e => ?_) (fun g L' r' g' L'' e e' hne he => hne (h.inj _ _ _ _ _ _ e' e he.symm).1) (fun g L' g' L'' e e' he => (h.inj _ _ _ _ _ _ e e' he).2)
    obtain ⟨o, a, b, c, d⟩ := h.obj r g L' e
    rw [hr] at a; cases a
    exact ⟨b, c, d⟩
  have hsz := hsz.resolve_left h0
  have hk : off + cs.length ≤ keyTop := by have := (hin (off + cs.length - 1) (by omega) (by omega)).2; omega
  obtain ⟨⟨arr', p1, p2, p3⟩, p4, p5, p6⟩ := setCells_heap us (off - L.lo) w arr q1 hsz
  constructor
  · have hrun := run_storeCells_cells (P := S.P) L.blk (off - L.lo) us 0 w (fun j hj => by
        have : off - L.lo + j < arr.size := by omega
        simp [World.cell?, q1, this])
      (fun j hj => by
        rw [← hv.1] at hj
        have a1 := (hin (off + j) (by omega) (by omega)).1
        obtain ⟨f1, f2⟩ := fz'
        simp only [World.frozen?, q1, Bool.and_eq_false_iff, decide_eq_false_iff_not]
        by_cases hmk : mk = true
        · rw [if_pos hmk] at q6
          rcases q6 with q6 | q6 <;> cases q6 <;> omega
        · rw [if_neg hmk] at q6
          have q7 : f2 ≤ fz - L.lo := q6.2
          omega) h1
    simpa using hrun
  · refine h.write Ex.refl (fun _ _ _ e => .inl e) (p6 base hbl) (h.dom r G L hL) (h.born_not hL) (fun r' g' L' e hne => p4 _ (fun hb => hne (h.inj _ _ _ _ _ _ e hL hb).1)) (fun g L' e => ?_) (fun g L' r' g' L'' e e' hne he => hne (h.inj _ _ _ _ _ _ e' e he.symm).1) (fun g L' g' L'' e e' he => (h.inj _ _ _ _ _ _ e e' he).2)
    obtain ⟨o, a1, b, c, d⟩ := h.obj r g L' e
    rw [hr] at a1; cases a1
    obtain ⟨hgG, arrg, fzg, r1, r2, r3, r4⟩ := b
    by_cases hblk : L'.blk = L.blk
    · obtain rfl : L = L' := (h.inj _ _ _ _ _ _ e hL hblk).2.symm
      rw [q1] at r1
      cases r1
      refine ⟨⟨hgG, arr', fz', p1, by rw [p2]; exact r2, fun i c' hc' => ?_, fun hg => ?_⟩, by rw [p5]; exact c, d⟩
      · rw [wrL_get G cs tr off i hk] at hc'
        split at hc'
        · rename_i hi
          have hx : cs[i - off]? = some c'.v ∧ c'.w = G := by
            cases hci : cs[i - off]? with
            | none => rw [hci] at hc'; cases hc'
            | some x => rw [hci] at hc'; cases hc'; exact ⟨rfl, rfl⟩
          refine ⟨by omega, (hin i hi.1 hi.2).1, (hin i hi.1 hi.2).2, fun hw hlo' => ?_⟩
          obtain ⟨u, hu, hru⟩ := hv.get hx.1
          refine ⟨u, ?_, hru, h1 u (List.mem_of_getElem? hu)⟩
          rw [p3, if_pos (by rw [← hv.1]; omega), show i - L.lo - (off - L.lo) = i - off by omega]
          exact hu
        · rename_i hi
          obtain ⟨s1, s2, s3, s4⟩ := r3 i c' hc'
          refine ⟨s1, s2, s3, fun hw hlo' => ?_⟩
          obtain ⟨u, t1, t2, t3⟩ := s4 hw hlo'
          refine ⟨u, ?_, t2, t3⟩
          rw [p3, if_neg (by rw [← hv.1]; omega)]
          exact t1
      · have := r4 hg
        refine ⟨this.1, ?_⟩
        rw [p2]; exact this.2
    · refine ⟨⟨hgG, arrg, fzg, by rw [p4 _ hblk]; exact r1, r2, fun i c' hc' => ?_, r4⟩, by rw [p5]; exact c, d⟩
      rw [wrL_get G cs tr off i hk] at hc'
      split at hc'
      · rename_i hi
        have hx : c'.w = G := by
          cases hci : cs[i - off]? with
          | none => rw [hci] at hc'; cases hc'
          | some x => rw [hci] at hc'; cases hc'; rfl
        refine ⟨by omega, (hin i hi.1 hi.2).1, (hin i hi.1 hi.2).2, fun hw _ => ?_⟩
        have : g = G := by omega
        subst this
        rw [hL] at e; cases e
        exact absurd rfl hblk
      · exact r3 i c' hc'

/-! ### what an operation is to do -/
def nb (m : AM) : Prop := ∀ n, m ≠ .bad n
/-- What the model's operation has given: a value, or none. -/
def Res (r : Result Next) (u : Value) (w' : World) : Prop := r = .ok (.value u) w' ∨ (r = .ok .skip w' ∧ u = undef)
/-- 'm' is 'K' of what the operation 's' does in the model. -/
def Does (S : Sg) (base : Nat) (w0 : World) (U : Nat → Option CO) (ι : Ip) (w : World) (s : Sem Next) (K : KA) (m : AM) : Prop :=
  ∃ v hp' nx', m = K v hp' nx' ∧ ∃ ι' u w', Ex ι ι' ∧ HR S base w0 U ι' hp' nx' w' ∧ Res (s.run S.P w) u w' ∧ VR ι' v u

variable {K : KA} {z m : AM}
theorem newC_ok {o : CO} {K : Tr CO → Nat → AM} (hm : nb m) (hz : ∃ n, z = .bad n) (h : newC z o hp nx K = m) : nx + 2 ≤ keyTop ∧ m = K (hp.set nx o) (nx + 1) := by
  unfold newC at h
  cases hb : Nat.ble (Nat.succ (Nat.succ nx)) keyTop <;> rw [hb] at h
  · obtain ⟨n, rfl⟩ := hz
    exact absurd h.symm (hm n)
  · have h : frcN (Nat.succ nx) (fun nx' => Tr.setK hp nx o fun hp => K hp nx') = m := h
    rw [frcN_eq, Tr.setK_eq] at h
    exact ⟨(ble_iff _ _).1 hb, h.symm⟩

/-- A new row of cells. -/
theorem or_new {w' : World} {L : Loc} {ι' : Ip} {ty n : Nat} {cs : List CV} {us : List Value} {arr : Array Value} {mk : Bool} {fz : Nat × Nat} (hh : w'.heap[L.blk]? = some (.cells arr ty fz)) (hlo : L.lo = 0) (hen : L.en ≤ arr.size) (hn : n ≤ L.en) (hl : cs.length ≤ n) (hk : cs.length ≤ keyTop)
    (hv : VRL ι' cs us) (h1 : ∀ u ∈ us, u.oneCell' = true) (ha : ∀ (i : Nat) (u : Value), us[i]? = some u → arr[i]? = some u) (hf : if mk then fz = (0, 0) ∨ fz = (arr.size, arr.size + 1) else fz = (0, 0)) :
    OR S ι' w' L 0 (.c ty (trL cs 0) n 0 0 false mk) := by
  refine ⟨Nat.le_refl _, arr, fz, hh, by omega, fun i c hc => ?_, fun _ => ⟨hn, ?_⟩⟩
  · rw [trL_get cs 0 i (by omega)] at hc
    split at hc
    · rename_i hi
      cases hci : cs[i - 0]? with
      | none => rw [hci] at hc; cases hc
      | some x =>
        rw [hci] at hc; cases hc
        refine ⟨Nat.le_refl _, by omega, by omega, fun _ _ => ?_⟩
        obtain ⟨u, hu, hr⟩ := hv.get hci
        exact ⟨u, by rw [hlo]; exact ha _ u hu, hr, h1 u (List.mem_of_getElem? hu)⟩
    · cases hc
  · by_cases hmk : mk = true
    · rw [if_pos hmk] at hf ⊢; exact hf
    · rw [if_neg hmk] at hf ⊢; rw [hf]; exact ⟨rfl, Nat.zero_le _⟩
theorem newCs_ok {K : Tr CO → Nat → AM} (hm : nb m) (hz : ∃ n, z = .bad n) {e n : Nat} {cs : List CV} {mk : Bool} (h : newCs z e cs n mk hp nx K = m) : cs.length ≤ 10000000 ∧ nx + 2 ≤ keyTop ∧ m = K (hp.set nx (.c e (trL cs 0) n 0 0 false mk)) (nx + 1) := by
  unfold newCs at h
  cases hb : Nat.ble (len cs) 10000000 <;> rw [hb] at h
  · obtain ⟨n, rfl⟩ := hz
    exact absurd h.symm (hm n)
  · obtain ⟨h1, h2⟩ := newC_ok hm hz h
    rw [ble_iff, len_eq] at hb
    exact ⟨hb, h1, h2⟩
/-- A new variable or row that is wholly known. -/
theorem HR.fresh (h : HR S base w0 U ι hp nx w) {e n : Nat} {cs : List CV} {us : List Value} {arr : Array Value} (hk : nx + 2 ≤ keyTop) (hc : cs.length ≤ 10000000) (hn : cs.length ≤ n) (hs : n ≤ arr.size) (hv : VRL ι cs us) (h1 : ∀ u ∈ us, u.oneCell' = true) (ha : ∀ (i : Nat) (u : Value), us[i]? = some u → arr[i]? = some u) {en : Nat} (hen : en ≤ arr.size) (hne : n ≤ en) :
    HR S base w0 U (ι.add nx 0 ⟨w.heap.size, 0, en⟩) (hp.set nx (.c e (trL cs 0) n 0 0 false false)) (nx + 1) (w.alloc (.cells arr e)) ∧ Ex ι (ι.add nx 0 ⟨w.heap.size, 0, en⟩) := by
  have hx : Ex ι (ι.add nx 0 ⟨w.heap.size, 0, en⟩) := Ip.add_ex (by
    cases e : ι nx 0 with
    | none => rfl
    | some L => have := h.dom nx 0 L e; omega)
  exact h.new hk (or_new (L := ⟨w.heap.size, 0, en⟩) (World.alloc_heap_new w _) rfl hen hne hn (by unfold keyTop; omega) (hv.mono hx) h1 ha rfl)

theorem c_alloc (hS : SOk S) (h : HR S base w0 U ι hp nx w) {t : Nat} (hm : nb m) (hz : ∃ n, z = .bad n) (hc : cAlloc S.en t z hp nx K = m) : Does S base w0 U ι w (do pure (.value (← Instr.alloc t true (.tuple #[])))) K m := by
  unfold cAlloc at hc
  split at hc
  · rename_i k n b zr hT
    obtain ⟨h1, h2, rfl⟩ := newCs_ok hm hz hc
    have hti := hS.T t _ hT
    obtain ⟨zv, hz1, hz2, hz3, hz4, _⟩ := hti.zero ι w
    have hlen : zv.cells.toList.length = zr.length := hz2.1.symm
    obtain ⟨q1, q2⟩ := h.fresh (e := t) (n := len zr) (arr := zv.cells) h2 h1 (by rw [len_eq]; exact Nat.le_refl _) (by rw [len_eq, ← hlen]; simp) hz2 hz3 (fun i u hu => by rw [Array.getElem?_toList] at hu; exact hu) (en := zv.cells.size) (Nat.le_refl _) (by rw [len_eq, ← hlen]; simp)
    refine ⟨_, _, _, rfl, _, .pointer (some ⟨w.heap.size, 0, none⟩), _, q2, q1, .inl ?_, .p (Ip.add_self _ _ _ _) (Nat.le_refl _)⟩
    simp [Instr.alloc, hz1, newVar, Go.newRow]
  · obtain ⟨n, rfl⟩ := hz
    exact absurd hc.symm (hm n)
end
end Go.Cv
/- Operations that change the heap, on. -/
namespace Go.Cv
open Go Go.RowKit
section
variable {S : Sg} {base : Nat} {w0 w : World} {U : Nat → Option CO} {ι : Ip} {hp : Tr CO} {nx : Nat} {fr : Tr CV} {a : Act} {K : KA} {z m : AM}

theorem bad_no {β : Prop} (hm : nb m) (hz : ∃ n, z = .bad n) (h : z = m) : β := by
  obtain ⟨n, rfl⟩ := hz
  exact absurd h.symm (hm n)

theorem c_box (hS : SOk S) (h : HR S base w0 U ι hp nx w) (hg : GR S ι) (hf : FR ι fr a.tmps) {t : Nat} {X : Operand} (hm : nb m) (hz : ∃ n, z = .bad n) (hc : cBox S.en t X z hp nx fr K = m) :
    Does S base w0 U ι w (do pure (.value (← Instr.box t (a.eval X)))) K m := by
  unfold cBox at hc
  split at hc
  · rename_i k n b zr hT
    unfold boxC at hc
    cases hb : (allL oneC (ev S.en fr X).cells && Nat.beq (len (ev S.en fr X).cells) (Nat.succ n)) <;> rw [hb] at hc
    · exact bad_no hm hz hc
    · simp only [Bool.and_eq_true, beq_iff, len_eq] at hb
      obtain ⟨h1, h2, rfl⟩ := newCs_ok hm hz hc
      obtain ⟨r1, r2⟩ := cells_ok (ev_rel hg hf X) hb.1
      have hlen : (a.eval X).cells.toList.length = (ev S.en fr X).cells.length := r1.1.symm
      obtain ⟨q1, q2⟩ := h.fresh (e := t) (n := len (ev S.en fr X).cells) (arr := (a.eval X).cells) h2 h1 (by rw [len_eq]; exact Nat.le_refl _) (by rw [len_eq, ← hlen]; simp) r1 r2 (fun i u hu => by rw [Array.getElem?_toList] at hu; exact hu) (en := (a.eval X).cells.size) (Nat.le_refl _) (by rw [len_eq, ← hlen]; simp)
      refine ⟨_, _, _, rfl, _, .pointer (some ⟨w.heap.size, 0, none⟩), _, q2, q1, .inl ?_, .p (Ip.add_self _ _ _ _) (Nat.le_refl _)⟩
      simp [Instr.box, newVar, Go.newRow]
  · exact bad_no hm hz hc

theorem sliceT_ok (hS : SOk S) {t e : Nat} (h : sliceT S.en t = some e) : S.P.underlying t = some (.slice e) := by
  unfold sliceT at h
  split at h
  · rename_i e' n b z hT; cases h; exact (hS.T t _ hT).slice rfl
  · cases h
theorem repC_list (z : List CV) : ∀ n, repC z n = (List.replicate n z).flatten
  | 0 => rfl
  | n + 1 => by
    show app z (repC z n) = _
    rw [app_eq, repC_list z n, List.replicate_succ, List.flatten_cons]
theorem repC_rel {zr : List CV} {us : List Value} (h : VRL ι zr us) : ∀ n, VRL ι (repC zr n) ((List.replicate n us).flatten)
  | 0 => .nil
  | n + 1 => by
    rw [repC_list, List.replicate_succ, List.flatten_cons, List.replicate_succ, List.flatten_cons, ← repC_list]
    exact h.app (repC_rel h n)
theorem flat_len {α : Type} (l : List α) : ∀ n, ((List.replicate n l).flatten).length = n * l.length
  | 0 => by simp
  | n + 1 => by rw [List.replicate_succ, List.flatten_cons, List.length_append, flat_len l n, Nat.add_mul, Nat.one_mul, Nat.add_comm]
theorem flat_get {α : Type} [Inhabited α] (l : List α) : ∀ (n i : Nat), i < n * l.length → ((List.replicate n l).flatten)[i]? = l[i % l.length]?
  | 0, i, h => by simp at h
  | n + 1, i, h => by
    rw [List.replicate_succ, List.flatten_cons, List.getElem?_append]
    split
    · rename_i hi; rw [Nat.mod_eq_of_lt hi]
    · rename_i hi
      have h' : i < n * l.length + l.length := by rw [Nat.succ_mul] at h; exact h
      rw [flat_get l n (i - l.length) (by omega)]
      have e : i % l.length = (i - l.length) % l.length := Nat.mod_eq_sub_mod (by omega)
      rw [e]
/-- A row of zeros, as the model makes it. -/
theorem zrow_eq (zs : Array Value) (n : Nat) (h : 0 < zs.size) : (Array.range (n * zs.size)).map (fun i => zs[i % zs.size]!) = ⟨(List.replicate n zs.toList).flatten⟩ := by
  apply Array.ext'
  apply List.ext_getElem?
  intro i
  simp only [Array.toList_map, Array.toList_range, List.getElem?_map]
  by_cases hi : i < n * zs.size
  · rw [List.getElem?_range hi, Option.map_some, flat_get zs.toList n i (by simpa using hi)]
    have hlt : i % zs.size < zs.size := Nat.mod_lt _ h
    simp [hlt]
  · rw [List.getElem?_eq_none (by simpa using hi), List.getElem?_eq_none (by rw [flat_len]; simpa using hi)]
    rfl

theorem c_buildS (hS : SOk S) (h : HR S base w0 U ι hp nx w) (hg : GR S ι) (hf : FR ι fr a.tmps) {t n : Nat} {ps : Array (Nat × Operand)} (hm : nb m) (hz : ∃ n, z = .bad n) (hc : cBuildS S.en t n ps.toList z hp nx fr K = m) :
    Does S base w0 U ι w (do pure (.value (← Instr.buildSlice t n (ps.map fun (i, x) => (i, a.eval x))))) K m := by
  have e0 : (ps.map fun (i, x) => (i, a.eval x)).toList = ps.toList.map fun p => (p.1, a.eval p.2) := by simp
  unfold cBuildS at hc
  split at hc
  · rename_i e he
    have hd := sliceT_ok hS he
    split at hc
    · rename_i k sz b zr hT
      have hti := hS.T e _ hT
      have hsize := hti.sizeOf w
      obtain ⟨zv, hz1, hz2, hz3, hz4, _⟩ := hti.zero ι w
      cases hb : Nat.ble (Nat.mul n (Nat.succ sz)) 10000 <;> rw [hb] at hc
      · exact bad_no hm hz hc
      have hsm : n * (sz + 1) ≤ 10000 := (ble_iff _ _).1 hb
      replace hc : mkSl e n (Nat.succ sz) (fillA S.en (Nat.succ sz) fr ps.toList (repC zr n)) z hp nx K = m := hc
      unfold mkSl at hc
      split at hc
      · rename_i cs hcs
        cases ho : allL oneC cs <;> rw [ho] at hc
        · exact bad_no hm hz hc
        obtain ⟨h1, h2, rfl⟩ := newCs_ok hm hz hc
        obtain ⟨C', f1, f2⟩ := fillA_ok hg hf ps.toList (repC zr n) cs _ hcs (repC_rel hz2 n)
        have hzs : zv.cells.size = sz + 1 := hz4
        have hC1 : ∀ u ∈ C', u.oneCell' = true := fun u hu => by
          obtain ⟨i, hi⟩ := List.mem_iff_getElem?.1 hu
          have hlt : i < cs.length := by rw [f2.1]; exact (List.getElem?_eq_some_iff.1 hi).1
          exact oneC_one ((allL_iff _ _).1 ho _ (List.getElem_mem hlt)) (f2.2 i _ u (List.getElem?_eq_getElem hlt) hi)
        have hfl : ∀ (ps : List (Nat × Value)) (C C' : List Value), Instr.fill (fun i => some (i * (sz + 1), sz + 1)) ⟨C⟩ ps = some ⟨C'⟩ → C'.length = C.length := by
          intro ps
          induction ps with
          | nil => intro C C' h; cases h; rfl
          | cons p ps ih =>
            intro C C' h
            simp only [Instr.fill] at h
            split at h
            · cases h
            · rename_i hcond
              have hh : (p.2.cells.zipIdx.foldl (fun (cs : Array Value) (c : Value × Nat) => cs.setIfInBounds (p.1 * (sz + 1) + c.2) c.1) ⟨C⟩) = ⟨(p.2.cells.zipIdx.foldl (fun (cs : Array Value) (c : Value × Nat) => cs.setIfInBounds (p.1 * (sz + 1) + c.2) c.1) ⟨C⟩).toList⟩ := rfl
              rw [hh] at h
              rw [ih _ _ h]
              rw [← Array.foldl_toList]
              generalize p.2.cells.zipIdx.toList = l
              clear h hh ih hcond
              induction l generalizing C with
              | nil => rfl
              | cons x l ih =>
                rw [List.foldl_cons]
                have : (⟨C⟩ : Array Value).setIfInBounds (p.1 * (sz + 1) + x.2) x.1 = ⟨C.set (p.1 * (sz + 1) + x.2) x.1⟩ := by simp
                rw [this, ih]; simp
        have hlen : C'.length = n * (sz + 1) := by
          rw [hfl _ _ _ f1, flat_len]; simp [hzs]
        obtain ⟨q1, q2⟩ := h.fresh (e := e) (n := len cs) (arr := ⟨C'⟩) h2 h1 (by rw [len_eq]; exact Nat.le_refl _) (by rw [len_eq, f2.1]; simp) f2 hC1 (fun i u hu => by simpa using hu) (en := C'.length) (by simp) (by rw [len_eq, f2.1]; exact Nat.le_refl _)
        refine ⟨_, _, _, rfl, _, .slice (some ⟨w.heap.size, 0, none⟩) n n, _, q2, q1, .inl ?_, ?_⟩
        · have hlim : ¬ n * (sz + 1) > 2 ^ 24 := by omega
          by_cases hn0 : n = 0
          · subst hn0
            have hnil : C' = [] := List.eq_nil_of_length_eq_zero (by rw [hlen]; simp)
            subst hnil
            simp only [List.replicate_zero, List.flatten_nil] at f1
            have hlim0 : ¬ 0 * (TI.mk k (sz + 1) b zr).size > 2 ^ 24 := by simp
            simp only [Instr.buildSlice, Sem.run_bind, run_und hd, Result.andThen_ok, hsize]
            rw [if_neg hlim0]
            simp only [Nat.zero_mul, if_true, pure_bind, Sem.run_bind, Sem.run_pure, Result.andThen_ok, e0]
            have hr0 : (Array.range 0).map (fun i => (#[] : Array Value)[i % (#[] : Array Value).size]!) = ⟨[]⟩ := by simp
            rw [hr0, f1]
            simp [Go.newRow]
          · have hrow := zrow_eq zv.cells n (by omega)
            have hne : ¬ n * (TI.mk k (sz + 1) b zr).size = 0 := Nat.mul_ne_zero hn0 (Nat.succ_ne_zero _)
            have hlim1 : ¬ n * (TI.mk k (sz + 1) b zr).size > 2 ^ 24 := hlim
            simp only [Instr.buildSlice, Sem.run_bind, run_und hd, Result.andThen_ok, hsize]
            rw [if_neg hlim1, if_neg hne]
            simp only [pure_bind, Sem.run_bind, hz1, Sem.run_pure, Result.andThen_ok, e0]
            rw [show n * (TI.mk k (sz + 1) b zr).size = n * zv.cells.size by rw [hzs], hrow, f1]
            simp [Go.newRow]
        · exact .sl (Ip.add_self _ _ _ _) (Nat.le_refl _) (Nat.succ_pos _) (by show 0 + n * (sz + 1) ≤ C'.length; omega) (fun _ => rfl) (Nat.le_refl _) (fun e => by cases e) (fun k e => by simpa using e)
      · exact bad_no hm hz hc
    · exact bad_no hm hz hc
  · exact bad_no hm hz hc

theorem c_makeS (hS : SOk S) (h : HR S base w0 U ι hp nx w) (hg : GR S ι) (hf : FR ι fr a.tmps) {t : Nat} {X Y : Operand} (hm : nb m) (hz : ∃ n, z = .bad n) (hc : cMakeS S.en t X Y z hp nx fr K = m) :
    Does S base w0 U ι w (do pure (.value (← Instr.makeSlice t (a.eval X) (a.eval Y)))) K m := by
  unfold cMakeS at hc
  split at hc
  · rename_i e l c he hl hcc
    have hd := sliceT_ok hS he
    obtain ⟨k1, hX⟩ := natC_rel hl (ev_rel hg hf X)
    obtain ⟨k2, hY⟩ := natC_rel hcc (ev_rel hg hf Y)
    split at hc
    · rename_i k sz b zr hT
      have hti := hS.T e _ hT
      have hsize := hti.sizeOf w
      obtain ⟨zv, hz1, hz2, hz3, hz4, _⟩ := hti.zero ι w
      have hzs : zv.cells.size = sz + 1 := hz4
      unfold mkS2 at hc
      cases hb : (Nat.ble l c && Nat.ble (Nat.mul c (Nat.succ sz)) 100000 && Nat.ble (Nat.mul c b) 1000000000) <;> rw [hb] at hc
      · exact bad_no hm hz hc
      simp only [Bool.and_eq_true, ble_iff] at hb
      obtain ⟨⟨b1, b2⟩, b3⟩ := hb
      have b2 : c * (sz + 1) ≤ 100000 := b2
      have b3 : c * b ≤ 1000000000 := b3
      obtain ⟨h1, h2, rfl⟩ := newCs_ok hm hz hc
      have hr := repC_rel hz2 c
      have hl2 : (List.replicate c zv.cells.toList).flatten.length = c * (sz + 1) := by rw [flat_len]; simp [hzs]
      have hl1 : (repC zr c).length = c * (sz + 1) := by rw [hr.1, hl2]
      obtain ⟨q1, q2⟩ := h.fresh (e := e) (n := Nat.mul c (Nat.succ sz)) (arr := ⟨(List.replicate c zv.cells.toList).flatten⟩) h2 h1 (by rw [hl1]; exact Nat.le_refl _) (by rw [List.size_toArray, hl2]; exact Nat.le_refl _) hr
        (fun u hu => by
          obtain ⟨l, hl, hu⟩ := List.mem_flatten.1 hu
          rw [List.mem_replicate] at hl
          exact hz3 u (hl.2 ▸ hu)) (fun i u hu => by simpa using hu) (en := c * (sz + 1)) (by rw [List.size_toArray, hl2]; exact Nat.le_refl _) (Nat.le_refl _)
      refine ⟨_, _, _, rfl, _, .slice (some ⟨w.heap.size, 0, none⟩) l c, _, q2, q1, .inl ?_, ?_⟩
      · obtain ⟨i, hi1, hi2, _⟩ := hti.bytesIs w
        have hlw : IntKind.i64.wrap (l : Int) = l := maxK_in (k := .i64) (by show l ≤ 9223372036854775807; have : c ≤ c * (sz + 1) := Nat.le_mul_of_pos_right _ (Nat.succ_pos _); omega)
        have hcw : IntKind.i64.wrap (c : Int) = c := maxK_in (k := .i64) (by show c ≤ 9223372036854775807; have : c ≤ c * (sz + 1) := Nat.le_mul_of_pos_right _ (Nat.succ_pos _); omega)
        have hi2 : i.bytes = b := hi2
        have t1 : ¬ ((c : Int) < 0) := by omega
        have t2 : ¬ ((b : Int) * (c : Int) > 2 ^ 48) := by
          have : (b : Int) * (c : Int) = ((c * b : Nat) : Int) := by rw [Int.natCast_mul, Int.mul_comm]
          rw [this]; omega
        have t3 : ¬ ((l : Int) < 0) := by omega
        have t4 : ¬ ((l : Int) > (c : Int)) := by omega
        have hcond : ¬ ((((decide ((c : Int) < 0) || decide ((b : Int) * (c : Int) > 2 ^ 48)) || decide ((l : Int) < 0)) || decide ((l : Int) > (c : Int))) = true) := by simp [t1, t3]; omega
        simp only [Instr.makeSlice, Sem.run_bind, run_und hd, Result.andThen_ok, hX, hY, asInt, asIntOf, pure_bind, hi1, hi2, hlw, hcw, Sem.run_pure]
        rw [if_neg (by simpa using hcond)]
        have hn : (c : Int).toNat = c := Int.toNat_natCast c
        by_cases hc0 : c = 0
        · subst hc0
          obtain rfl : l = 0 := by omega
          simp [hsize, Go.newRow]
          congr 2
          simp
        · have hne : ¬ c * (TI.mk k (sz + 1) b zr).size = 0 := Nat.mul_ne_zero hc0 (Nat.succ_ne_zero _)
          have hrow := zrow_eq zv.cells c (by omega)
          simp only [Sem.run_bind, run_askRoom, Result.andThen_ok, hsize, Int.toNat_natCast]
          rw [if_neg hne]
          simp only [Sem.run_bind, hz1, Result.andThen_ok]
          rw [show c * (TI.mk k (sz + 1) b zr).size = c * zv.cells.size by rw [hzs], hrow]
          simp [Go.newRow]
      · exact .sl (Ip.add_self _ _ _ _) (Nat.le_refl _) (Nat.succ_pos _) (by show 0 + c * (sz + 1) ≤ c * (sz + 1); omega) (fun _ => rfl) b1 (fun e => by cases e) (fun k e => by simpa using e)
    · exact bad_no hm hz hc
  · exact bad_no hm hz hc

theorem c_store (hS : SOk S) (h : HR S base w0 U ι hp nx w) (hg : GR S ι) (hf : FR ι fr a.tmps) {t : Nat} {X Y : Operand} (hm : nb m) (hz : ∃ n, z = .bad n) (hc : cStore S.en t X Y z hp nx fr K = m) :
    Does S base w0 U ι w (do Instr.storeAt t (a.eval X) (a.eval Y); pure .skip) K m := by
  unfold cStore at hc
  split at hc
  · rename_i n hn
    obtain ⟨ti, hT, hsz⟩ := sizeT_eq hn
    have hsize := (hS.T t ti hT).sizeOf w
    split at hc
    · rename_i r g off he
      have hx := ev_rel hg hf X
      rw [he] at hx
      obtain ⟨L, hL, hlo, hv⟩ := hx.p_inv
      unfold storeV at hc
      cases hb : Nat.beq (len (ev S.en fr Y).cells) n <;> rw [hb] at hc
      · exact bad_no hm hz hc
      replace hc : stC z (ev S.en fr Y).cells hp r g off (fun hp => K .u hp nx) = m := hc
      unfold stC at hc
      split at hc
      · rename_i ty tr n' G fz ro mk hr
        cases hb2 : (Nat.beq g G && Nat.ble fz off && !ro && there tr (len (ev S.en fr Y).cells) off && allL oneC (ev S.en fr Y).cells) <;> rw [hb2] at hc
        · exact bad_no hm hz hc
        simp only [Bool.and_eq_true, beq_iff, ble_iff, Bool.not_eq_true', len_eq] at hb2
        obtain ⟨⟨⟨⟨rfl, b2⟩, rfl⟩, b4⟩, b5⟩ := hb2
        obtain ⟨r1, r2⟩ := cells_ok (ev_rel hg hf Y) b5
        obtain ⟨s1, s2⟩ := h.store hL hr hlo b2 b4 r1 r2
        replace hc : stR g (ev S.en fr Y).cells hp r off ty tr n' g fz mk (fun hp => K .u hp nx) = m := hc
        unfold stR at hc
        rw [wrK_eq, Tr.setK_eq] at hc
        refine ⟨_, _, _, hc.symm, ι, undef, _, Ex.refl, s2, .inr ⟨?_, rfl⟩, .u⟩
        have hlen : (a.eval Y).cells.size = ti.size := by
          rw [hsz, ← (beq_iff _ _).1 hb, len_eq, r1.1]; simp
        simp [Instr.storeAt, hv, Instr.sureAddr, storeVar, hsize, hlen, s1]
      · exact bad_no hm hz hc
    · exact bad_no hm hz hc
  · exact bad_no hm hz hc

/-! ### strings made into bytes -/
theorem bytesC_get (n : Nat) : ∀ (l i : Nat), bytesC n l i = (List.range l).map fun j => CV.i .u8 (byteS n (i + j) : Int)
  | 0, i => rfl
  | l + 1, i => by
    show CV.i .u8 (.ofNat (byteS n i)) :: bytesC n l (i + 1) = _
    rw [bytesC_get n l (i + 1), List.range_succ_eq_map, List.map_cons, List.map_map]
    congr 1
    apply List.map_congr_left
    intro j _
    simp only [Function.comp]
    rw [show i + 1 + j = i + (j + 1) by omega]
theorem bytes_rel (l n : Nat) : VRL ι (bytesC n l 0) ((strOf l n).data.toList.map fun b => Value.int .u8 (b.toNat : Int)) := by
  rw [strOf_list, bytesC_get]
  refine ⟨by simp [dig_len], fun i x v h1 h2 => ?_⟩
  rw [List.getElem?_map] at h1 h2
  cases hr : (List.range l)[i]? with
  | none => rw [hr] at h1; cases h1
  | some j =>
    rw [hr] at h1; cases h1
    have hlt : i < l := by have := (List.getElem?_eq_some_iff.1 hr).1; simpa using this
    have hji : j = i := by
      rw [List.getElem?_range hlt] at hr; cases hr; rfl
    subst hji
    have hd := dig_get l n j hlt
    cases hdd : (dig l n)[j]? with
    | none => rw [hdd] at hd; cases hd
    | some c =>
      rw [hdd] at h2 hd
      cases h2
      have hd : c.toNat = byteS n j := by simpa using hd
      show VR ι (.i .u8 (byteS n (0 + j) : Int)) (.int .u8 (c.toNat : Int))
      rw [hd, Nat.zero_add]
      exact .i _ _
theorem c_strB (h : HR S base w0 U ι hp nx w) {e l n : Nat} (hn : n < 256 ^ l) (hm : nb m) (hz : ∃ n, z = .bad n) (hc : strB e l n z hp nx K = m) : Does S base w0 U ι w (do pure (.value (← Conv.stringToBytes e (strOf l n)))) K m := by
  unfold strB at hc
  cases hb : Nat.ble l 1000000000 <;> rw [hb] at hc
  · exact bad_no hm hz hc
  obtain ⟨h1, h2, rfl⟩ := newCs_ok hm hz hc
  obtain ⟨cap, hcap, hch⟩ : ∃ cap, l ≤ cap ∧ (choose (.appendCap (strOf l n).size 0 e)).run S.P w = .ok cap w.drew := by
    refine ⟨_, ?_, by rw [run_choose_drew]; rfl⟩
    show l ≤ (strOf l n).size + _
    rw [strOf_size]; exact Nat.le_add_right _ _
  have hb := bytes_rel (ι := ι) l n
  have hbl : (bytesC n l 0).length = l := by rw [hb.1]; simp [strOf_list, dig_len]
  let arr : Array Value := (strOf l n).data.map (fun b => Value.int .u8 (b.toNat : Int)) ++ Array.replicate (cap - (strOf l n).size) (.int .u8 0)
  have hds : (strOf l n).data.size = l := strOf_size l n
  have harr : arr.size = cap := by
    show (_ ++ _ : Array Value).size = cap
    rw [Array.size_append, Array.size_map, Array.size_replicate, strOf_size, hds]; omega
  have hd : HR S base w0 U ι hp nx w.drew := h.drew
  have hsz : w.drew.heap.size = w.heap.size := rfl
  have hnew := hd.new (en := cap) (ob := .cells arr e (arr.size, arr.size + 1)) h2 (o := .c e (trL (bytesC n l 0) 0) l 0 0 false true)
    (or_new (L := ⟨w.drew.heap.size, 0, cap⟩) (World.alloc_heap_new _ _) rfl (by rw [harr]; exact Nat.le_refl _) hcap (by rw [hbl]; exact Nat.le_refl _) (by unfold keyTop; omega) (hb.mono (Ip.add_ex (by
      cases e : ι nx 0 with
      | none => rfl
      | some L => have := h.dom nx 0 L e; omega))) (fun u hu => by
        obtain ⟨b, _, rfl⟩ := List.mem_map.1 hu; rfl) (fun i u hu => by
        show (_ ++ _ : Array Value)[i]? = some u
        have hlt : i < l := by
          have := (List.getElem?_eq_some_iff.1 hu).1
          rw [List.length_map, strOf_list, dig_len] at this; exact this
        rw [Array.getElem?_append_left (by rw [Array.size_map, hds]; exact hlt), Array.getElem?_map, ← Array.getElem?_toList, ← List.getElem?_map]
        exact hu) (.inr rfl))
  obtain ⟨q1, q2⟩ := hnew
  refine ⟨_, _, _, rfl, _, .slice (some ⟨w.heap.size, 0, none⟩) l cap, _, q2, q1, .inl ?_, ?_⟩
  · have hsh : (w.drew.alloc (.cells arr e)).shape? w.heap.size = some (e, arr.size) := by
      have := World.alloc_heap_new w.drew (.cells arr e)
      unfold World.shape?
      rw [show (w.drew.alloc (.cells arr e)).heap[w.heap.size]? = some (.cells arr e) from this]
    have hmark : (w.drew.alloc (.cells arr e)).freeze { block := w.heap.size, off := arr.size } 1 = w.drew.alloc (.cells arr e (arr.size, arr.size + 1)) := by
      have : (w.heap.push (.cells arr e)).modify w.heap.size (fun
          | .cells c elem (lo, hi) => .cells c elem (if lo == hi then (arr.size, arr.size + 1) else (min lo arr.size, max hi (arr.size + 1)))
          | o => o) = w.heap.push (.cells arr e (arr.size, arr.size + 1)) := by
        apply Array.ext'
        apply List.ext_getElem?
        intro i
        rw [Array.getElem?_toList, Array.getElem?_toList, Array.getElem?_modify, Array.getElem?_push, Array.getElem?_push]
        by_cases hi : i = w.heap.size
        · simp [hi]
        · simp [hi, Ne.symm hi]
      unfold World.freeze World.alloc
      rw [if_neg (by omega)]
      exact congrArg (fun h => (⟨h, w.drew.tape, w.drew.drawn, w.drew.os, w.drew.output⟩ : World)) this
    have harr2 : arr = ((strOf l n).data.map (fun b => Value.int .u8 (b.toNat : Int)) ++ Array.replicate (cap - (strOf l n).size) (.int .u8 0)) := rfl
    simp only [Conv.stringToBytes, Sem.run_bind, hch, Result.andThen_ok, Go.newRow, run_newObj_alloc, Sem.run_pure, markStringish, run_shape]
    rw [← harr2, show w.drew.heap.size = w.heap.size from rfl, hsh]
    simp only [run_freeze, hmark, Result.andThen_ok, strOf_size]
  · exact .sl (Ip.add_self _ _ _ _) (Nat.le_refl _) (by omega) (by show 0 + cap * 1 ≤ cap; omega) (fun _ => rfl) hcap (fun _ => by show cap = (cap - 0) / 1; simp) (fun k e => by cases e)
end
end Go.Cv
/- Operations that change the heap: maps, ranges over strings, marks. -/
namespace Go.Cv
open Go Go.RowKit
section
variable {S : Sg} {base : Nat} {w0 w : World} {U : Nat → Option CO} {ι : Ip} {hp : Tr CO} {nx : Nat} {fr : Tr CV} {a : Act} {K : KA} {z m : AM}

/-- Neither cells nor nothing. -/
def single : CO → Bool
  | .c _ _ _ _ _ _ _ => false
  | .dead => false
  | _ => true
theorem single_zero {L : Loc} {g : Nat} {o : CO} (hs : single o = true) (h : OR S ι w L g o) : g = 0 := by
  cases o <;> first | (cases hs; done) | exact h.1
theorem below_putObj {b : Nat} {ob : Obj} (hb : base ≤ b) : Below base w (w.putObj b ob) :=
  ⟨rfl, rfl, rfl, by simp, fun k hk => World.putObj_heap_other (by omega)⟩
theorem HR.setObj (h : HR S base w0 U ι hp nx w) {r : Nat} {L : Loc} {o o' : CO} {ob : Obj} (hL : ι r 0 = some L) (hr : hp.get r = some o) (hs : single o = true) (ho : OR S ι (w.putObj L.blk ob) L 0 o') :
    HR S base w0 U ι (hp.set r o') nx (w.putObj L.blk ob) := by
  obtain ⟨o1, q1, q2, q3, q4⟩ := h.obj r 0 L hL
  rw [hr] at q1; cases q1
  have hro : roB o = false := by cases o <;> first | rfl | cases hs
  have hbl : base ≤ L.blk := Nat.le_of_not_lt fun hb => by have := q4 hb; rw [hro] at this; cases this
  refine h.write Ex.refl (fun _ _ _ e => .inl e) (below_putObj hbl) (h.dom r 0 L hL) (h.born_not hL) (fun r' g' L' e hne => World.putObj_heap_other (fun hb => hne (h.inj _ _ _ _ _ _ e hL hb).1)) (fun g L' e => ?_)
    (fun g L' r' g' L'' e e' hne he => hne (h.inj _ _ _ _ _ _ e' e he.symm).1) (fun g L' g' L'' e e' he => (h.inj _ _ _ _ _ _ e e' he).2)
  obtain ⟨o1, p1, p2, p3, p4⟩ := h.obj r g L' e
  rw [hr] at p1; cases p1
  obtain rfl := single_zero hs p2
  rw [hL] at e; cases e
  exact ⟨ho, by simpa using q3, fun hb => by omega⟩
theorem run_setObj_any {P : Program} {b : Nat} {ob ob' : Obj} (h : w.heap[b]? = some ob) (hn : ∀ c t f, ob ≠ .cells c t f) : (setObj b ob').run P w = .ok () (w.putObj b ob') := by
  simp only [Go.setObj, Sem.run, h]
  cases ob <;> first | rfl | exact (hn _ _ _ rfl).elim

/-! ### marks on bytes -/
theorem c_markB (h : HR S base w0 U ι hp nx w) {same : Bool} {r g off l sz cap : Nat} {u : Value} (hx : VR ι (.sl r g off l sz cap) u) (hm : nb m) (hz : ∃ n, z = .bad n) (hc : markB same r g off l sz cap z hp nx K = m) :
    same = true ∧ ∃ ad c, u = .slice (some ad) l c ∧ Does S base w0 U ι w (do markStringish ad; pure (.value u)) K m := by
  unfold markB at hc
  split at hc
  · rename_i ty tr n G fz ro mk hr
    cases hb : (same && Nat.beq g G && Nat.beq fz 0 && !ro && Nat.ble 1 l) <;> rw [hb] at hc
    · exact bad_no hm hz hc
    simp only [Bool.and_eq_true, beq_iff, ble_iff, Bool.not_eq_true'] at hb
    obtain ⟨⟨⟨⟨rfl, rfl⟩, rfl⟩, rfl⟩, hl1⟩ := hb
    obtain ⟨L, ad, c, hL, hlo, hz0, hen, had, hlc, hc0, hc1, rfl⟩ := hx.sl_inv
    refine ⟨rfl, ad, c, rfl, ?_⟩
    have had := had (by omega)
    subst had
    replace hc : Tr.setK hp r (.c ty tr n g 0 false true) (fun hp => K (.sl r g off l sz cap) hp nx) = m := hc
    rw [Tr.setK_eq] at hc
    obtain ⟨o, q1, q2, q3, q4⟩ := h.obj r g L hL
    rw [hr] at q1; cases q1
    have hbl : base ≤ L.blk := Nat.le_of_not_lt fun hb => by have := q4 hb; cases this
    obtain ⟨_, arr, fz', p1, p2, p3, p4⟩ := q2
    obtain ⟨p5, p6⟩ := p4 rfl
    have hfz : (if fz'.1 == fz'.2 then (arr.size, arr.size + 1) else (min fz'.1 arr.size, max fz'.2 (arr.size + 1))) = (arr.size, arr.size + 1) := by
      by_cases hmk : mk = true
      · rw [if_pos hmk] at p6
        rcases p6 with rfl | rfl
        · rfl
        · rw [if_neg (by simp)]; simp
      · rw [if_neg hmk] at p6
        obtain ⟨f1, f2⟩ := fz'
        have e1 : f1 = 0 := p6.1
        have e2 : f2 = 0 := by have : f2 ≤ 0 - L.lo := p6.2; omega
        subst e1 e2; rfl
    have hw' : (w.freeze { block := L.blk, off := arr.size } 1).heap[L.blk]? = some (.cells arr ty (arr.size, arr.size + 1)) := by
      unfold World.freeze
      rw [if_neg (by omega)]
      rw [Array.getElem?_modify, if_pos rfl, p1, Option.map_some]
      exact congrArg (fun q => some (Obj.cells arr ty q)) hfz
    have hwo : ∀ k, k ≠ L.blk → (w.freeze { block := L.blk, off := arr.size } 1).heap[k]? = w.heap[k]? := fun k hk => by
      unfold World.freeze
      rw [if_neg (by omega)]
      simp only [Array.getElem?_modify]
      rw [if_neg (Ne.symm hk)]
    have hws : (w.freeze { block := L.blk, off := arr.size } 1).heap.size = w.heap.size := by
      unfold World.freeze
      rw [if_neg (by omega)]
      simp
    have hwb : Below base w (w.freeze { block := L.blk, off := arr.size } 1) := by
      refine ⟨?_, ?_, ?_, by omega, fun k hk => hwo k (by omega)⟩ <;> (unfold World.freeze; rw [if_neg (by omega)])
    have hnew : HR S base w0 U ι (hp.set r (.c ty tr n g 0 false true)) nx (w.freeze { block := L.blk, off := arr.size } 1) := by
      refine h.write Ex.refl (fun _ _ _ e => .inl e) hwb (h.dom r g L hL) (h.born_not hL) (fun r' g' L' e hne => hwo _ (fun hb => hne (h.inj _ _ _ _ _ _ e hL hb).1)) (fun g' L' e => ?_)
        (fun g L' r' g' L'' e e' hne he => hne (h.inj _ _ _ _ _ _ e' e he.symm).1) (fun g L' g' L'' e e' he => (h.inj _ _ _ _ _ _ e e' he).2)
      obtain ⟨o, a1, b, c', d⟩ := h.obj r g' L' e
      rw [hr] at a1; cases a1
      obtain ⟨hgG, arrg, fzg, r1, r2, r3, r4⟩ := b
      by_cases hblk : L'.blk = L.blk
      · obtain rfl : L = L' := (h.inj _ _ _ _ _ _ e hL hblk).2.symm
        rw [p1] at r1; cases r1
        exact ⟨⟨hgG, arr, _, hw', r2, r3, fun hg => ⟨(r4 hg).1, by rw [if_pos rfl]; exact .inr rfl⟩⟩, by rw [hws]; exact c', d⟩
      · refine ⟨⟨hgG, arrg, fzg, by rw [hwo _ hblk]; exact r1, r2, r3, fun hg => ?_⟩, by rw [hws]; exact c', d⟩
        subst hg
        rw [hL] at e; cases e
        exact absurd rfl hblk
    refine ⟨_, _, _, hc.symm, ι, _, _, Ex.refl, hnew, .inl ?_, hx⟩
    have hsh : w.shape? L.blk = some (ty, arr.size) := by simp [World.shape?, p1]
    simp [markStringish, hsh]
  · exact bad_no hm hz hc

/-! ### maps -/
theorem c_makeMap (h : HR S base w0 U ι hp nx w) {t : TypeId} (hm : nb m) (hz : ∃ n, z = .bad n) (hc : (newC z (.mp []) hp nx fun hp nx' => K (.m nx) hp nx') = m) :
    Does S base w0 U ι w (do pure (.value (← Instr.makeMap t none))) K m := by
  obtain ⟨h2, rfl⟩ := newC_ok hm hz hc
  obtain ⟨q1, q2⟩ := h.new (en := 0) (ob := .map #[] 0) (o := .mp []) h2 ⟨rfl, #[], 0, World.alloc_heap_new _ _, rfl, by simp⟩
  exact ⟨_, _, _, rfl, _, .map (some w.heap.size), _, q2, q1, .inl (by simp [Instr.makeMap]), .m (Ip.add_self _ _ _ _)⟩
theorem bytes_eq {a b : ByteArray} (h : (a == b) = true) : a = b := by
  rw [beq_toListBytes, beq_iff_eq, toList_eq, toList_eq] at h
  apply ByteArray.ext
  rw [← Array.toList_inj]; exact h
theorem sameNow_bits {d : TypeDesc} {u v : Value} (n : Nat) (h : Instr.sameNow d u v = some true) : Instr.sameBits n v u = true := by
  unfold Instr.sameNow at h
  split at h <;> first | (cases h; done) | skip
  · split at h
    · rename_i hk
      have h : (_ == _) = true := Option.some.inj h
      subst hk
      cases n <;> (simp only [Instr.sameBits]; simp at h; simp [h])
    · cases h
  · have h : (_ == _) = true := Option.some.inj h
    have hxy := bytes_eq h
    subst hxy
    cases n <;> (simp only [Instr.sameBits]; rw [beq_toListBytes]; simp)
  · have h : (_ == _) = true := Option.some.inj h
    cases n <;> (simp only [Instr.sameBits]; simp at h; simp [h])

theorem mapSet_ok {k : TK} {d : TypeDesc} {x v : CV} {u : Value} (hk : keyK k x = true) (hd : kindB S.P k d = true) (hx : VR ι x u) : ∀ (es es' : List (CV × CV)) (ms : List MapEntry) (i : Nat), es.length = ms.length →
    (∀ (i : Nat) (e : CV × CV) (m : MapEntry), es[i]? = some e → ms[i]? = some m → VR ι e.1 m.key ∧ VR ι e.2 m.val) → mapSet x v es = some es' →
    (Instr.findNow d u ms i = some none ∧ es' = es ++ [(x, v)]) ∨ ∃ j m, ms[j]? = some m ∧ Instr.findNow d u ms i = some (some (i + j, m.val)) ∧ Instr.sameNow d u m.key = some true ∧ es' = es.set j (x, v)
  | [], es', [], i, _, _, h => by cases h; exact .inl ⟨rfl, rfl⟩
  | e :: es, es', m :: ms, i, hl, hr, h => by
    replace h : (match eqC 6 x e.1 with | some true => some ((x, v) :: es) | some false => (match mapSet x v es with | some t => some (e :: t) | none => none) | none => none) = some es' := h
    have hm := hr 0 e m rfl rfl
    split at h
    · rename_i he
      cases h
      have hsn := key_same hk hd he hx hm.1
      exact .inr ⟨0, m, rfl, by simp [Instr.findNow, hsn], hsn, rfl⟩
    · rename_i he
      split at h
      · rename_i t ht
        cases h
        have hsn := key_same hk hd he hx hm.1
        rcases mapSet_ok hk hd hx es t ms (i + 1) (by simpa using hl) (fun j e' m' a b => hr (j + 1) e' m' (by simpa using a) (by simpa using b)) ht with ⟨f1, rfl⟩ | ⟨j, m', f1, f2, f3, rfl⟩
        · exact .inl ⟨by simp [Instr.findNow, hsn, f1], rfl⟩
        · exact .inr ⟨j + 1, m', by simpa using f1, by simp only [Instr.findNow, hsn]; rw [f2]; congr 3; omega, f3, rfl⟩
      · cases h
    · cases h
theorem c_mapUp (hS : SOk S) (h : HR S base w0 U ι hp nx w) (hg : GR S ι) (hf : FR ι fr a.tmps) {t : Nat} {M X Y : Operand} (hm : nb m) (hz : ∃ n, z = .bad n) (hc : cMapUp S.en t M X Y z hp nx fr K = m) :
    Does S base w0 U ι w (do Instr.mapUpdate t (a.eval M) (a.eval X) (a.eval Y); pure .skip) K m := by
  unfold cMapUp at hc
  split at hc
  · rename_i kt e n b zr hT
    have hd := (hS.T t _ hT).map rfl
    have hM := ev_rel hg hf M
    have hX := ev_rel hg hf X
    have hY := ev_rel hg hf Y
    split at hc
    · rename_i r hMr
      rw [hMr] at hM
      obtain ⟨L, hL, hv⟩ := hM.m_inv
      unfold mapPut at hc
      split at hc
      · rename_i es hr
        cases hk : keyOk S.en kt (ev S.en fr X) <;> rw [hk] at hc
        · exact bad_no hm hz hc
        replace hc : (match mapSet (ev S.en fr X) (ev S.en fr Y) es with | some es => Tr.setK hp r (.mp es) (fun hp => K .u hp nx) | none => z) = m := hc
        split at hc
        · rename_i es' hes
          rw [Tr.setK_eq] at hc
          unfold keyOk at hk
          split at hk
          · rename_i tk hTk
            obtain ⟨dk, hdk, hkd⟩ := (hS.T kt tk hTk).und
            have hchk : (Instr.checkKey false 10000 kt (a.eval X)).run S.P w = .ok () w := key_check hk hdk hkd
            obtain ⟨_, ents, cl, q1, q2, q3⟩ := h.rd.of hL hr
            have hget : (getObj L.blk).run S.P w = .ok (.map ents cl) w := by simp [getObj, Sem.run, q1]
            have q2' : es.length = ents.toList.length := by rw [q2]; simp
            have q3' : ∀ (i : Nat) (e : CV × CV) (m : MapEntry), es[i]? = some e → ents.toList[i]? = some m → VR ι e.1 m.key ∧ VR ι e.2 m.val := fun i e m a b => q3 i e m a (by rw [Array.getElem?_toList] at b; exact b)
            have hset : ∀ ob, (Go.setObj L.blk ob).run S.P w = .ok () (w.putObj L.blk ob) := fun ob => run_setObj_any q1 (fun _ _ _ e => by cases e)
            have hlt : L.blk < w.heap.size := (Array.getElem?_eq_some_iff.1 q1).1
            rcases mapSet_ok hk hkd hX es es' ents.toList 0 q2' q3' hes with ⟨f1, rfl⟩ | ⟨j, me, f1, f2, f3, rfl⟩
            · have hnew := h.setObj (o' := .mp (es ++ [(ev S.en fr X, ev S.en fr Y)])) (ob := .map (ents.push { key := a.eval X, val := a.eval Y, born := cl }) (cl + 1)) hL hr rfl
                ⟨rfl, _, _, World.putObj_heap_same hlt, by simp [q2], fun i e m h1 h2 => by
                  rw [List.getElem?_append] at h1
                  rw [Array.getElem?_push] at h2
                  split at h1
                  · rename_i hi
                    rw [if_neg (by omega)] at h2
                    exact q3 i e m h1 h2
                  · rename_i hi
                    have h0 : i - es.length = 0 := by have := (List.getElem?_eq_some_iff.1 h1).1; simp at this; omega
                    rw [h0] at h1
                    cases h1
                    rw [if_pos (by omega)] at h2
                    cases h2
                    exact ⟨hX, hY⟩⟩
              refine ⟨_, _, _, hc.symm, ι, undef, _, Ex.refl, hnew, .inr ⟨?_, rfl⟩, .u⟩
              simp [Instr.mapUpdate, run_und hd, hv, hget, hchk, Instr.findKey, run_und hdk, f1, hset]
            · rw [Nat.zero_add] at f2
              have hj : j < ents.size := by have := (List.getElem?_eq_some_iff.1 f1).1; simpa using this
              have f1' : ents[j]? = some me := by rw [← Array.getElem?_toList]; exact f1
              have hnew := h.setObj (o' := .mp (es.set j (ev S.en fr X, ev S.en fr Y))) (ob := .map (ents.modify j fun e => { e with key := a.eval X, val := a.eval Y }) cl) hL hr rfl
                ⟨rfl, _, _, World.putObj_heap_same hlt, by simp [q2], fun i e m h1 h2 => by
                  rw [Array.getElem?_modify] at h2
                  rw [List.getElem?_set] at h1
                  by_cases hij : j = i
                  · subst hij
                    rw [if_pos rfl] at h1 h2
                    rw [f1'] at h2
                    rw [if_pos (by omega)] at h1
                    cases h1; cases h2
                    exact ⟨hX, hY⟩
                  · rw [if_neg hij] at h1 h2
                    exact q3 i e m h1 h2⟩
              refine ⟨_, _, _, hc.symm, ι, undef, _, Ex.refl, hnew, .inr ⟨?_, rfl⟩, .u⟩
              have hb : Instr.sameBits 10000 me.key (a.eval X) = true := sameNow_bits 10000 f3
              simp [Instr.mapUpdate, run_und hd, hv, hget, hchk, Instr.findKey, run_und hdk, f2, hset, f1', Instr.keyThatStays, hb]
          · cases hk
        · exact bad_no hm hz hc
      · exact bad_no hm hz hc
    · exact bad_no hm hz hc
  · exact bad_no hm hz hc

/-! ### ranges over strings -/
theorem c_range (hS : SOk S) (h : HR S base w0 U ι hp nx w) (hg : GR S ι) (hf : FR ι fr a.tmps) {t : Nat} {X : Operand} (hm : nb m) (hz : ∃ n, z = .bad n) (hc : cRange S.en t X z hp nx fr K = m) :
    Does S base w0 U ι w (do pure (.value (← Instr.range t (a.eval X)))) K m := by
  unfold cRange at hc
  split at hc
  · rename_i n b zr hT
    have hd := (hS.T t _ hT).string rfl
    have hX := ev_rel hg hf X
    split at hc
    · rename_i l n hx
      rw [hx] at hX
      obtain ⟨hv, hn⟩ := hX.s_inv
      obtain ⟨h2, rfl⟩ := newC_ok hm hz hc
      obtain ⟨q1, q2⟩ := h.new (en := 0) (ob := .stringIter (strOf l n) 0) (o := .it l n 0) h2 ⟨rfl, hn, World.alloc_heap_new _ _⟩
      exact ⟨_, _, _, rfl, _, .pointer (some ⟨w.heap.size, 0, none⟩), _, q2, q1, .inl (by simp [Instr.range, run_und hd, hv]), .p (Ip.add_self _ _ _ _) (Nat.le_refl _)⟩
    · exact bad_no hm hz hc
  · exact bad_no hm hz hc
theorem strOf_get! {l n i : Nat} (hi : i < l) : ((strOf l n).get! i).toNat = byteS n i := by
  have hdg := dig_get l n i hi
  cases hd2 : (dig l n)[i]? with
  | none => rw [hd2] at hdg; cases hdg
  | some c =>
    rw [hd2] at hdg
    have hdg : c.toNat = byteS n i := by simpa using hdg
    have h2 : (strOf l n).data.toList[i]? = some c := by rw [strOf_list]; exact hd2
    rw [Array.getElem?_toList] at h2
    have h3 : (strOf l n).get! i = c := by
      show (strOf l n).data[i]! = c
      rw [getElem!_def, h2]
    rw [h3, hdg]
theorem utf8_ascii {l n i : Nat} (hi : i < l) (hb : byteS n i ≤ 127) : Utf8.decode (strOf l n) i = (byteS n i, 1) := by
  rw [Lib.decode_at, strOf_get! hi]
  unfold Lib.decodeN
  rw [if_pos (by omega)]
theorem c_next (h : HR S base w0 U ι hp nx w) (hg : GR S ι) (hf : FR ι fr a.tmps) {X : Operand} {s : Bool} {ty : TypeId} (hm : nb m) (hz : ∃ n, z = .bad n) (hc : cNext S.en X s z hp nx fr K = m) :
    Does S base w0 U ι w (do pure (.value (← Instr.next (a.eval X) s ty))) K m := by
  unfold cNext at hc
  cases s
  · exact bad_no hm hz hc
  replace hc : (match ev S.en fr X with | .p r _ off => (match hp.get r with | some (.it l n i) => bif Nat.beq off 0 then nextC r l n i z hp nx K else z | _ => z) | _ => z) = m := hc
  have hX := ev_rel hg hf X
  split at hc
  · rename_i r g off hx
    rw [hx] at hX
    split at hc
    · rename_i l n i hr
      cases ho : Nat.beq off 0 <;> rw [ho] at hc
      · exact bad_no hm hz hc
      rw [beq_iff] at ho
      subst ho
      replace hc : nextC r l n i z hp nx K = m := hc
      obtain ⟨L, hL, hlo, hv⟩ := hX.p_inv
      obtain ⟨hg0, hn, q1⟩ := h.rd.of hL hr
      subst hg0
      have hlt : L.blk < w.heap.size := (Array.getElem?_eq_some_iff.1 q1).1
      have hget : (getObj L.blk).run S.P w = .ok (.stringIter (strOf l n) i) w := by simp [getObj, Sem.run, q1]
      have hset : ∀ ob, (Go.setObj L.blk ob).run S.P w = .ok () (w.putObj L.blk ob) := fun ob => run_setObj_any q1 (fun _ _ _ e => by cases e)
      rw [Nat.zero_sub] at hv
      unfold nextC at hc
      cases hb : Nat.ble (Nat.succ i) l <;> rw [hb] at hc
      · replace hc : K (.tup [.b false]) hp nx = m := hc
        have hil : ¬ i < l := fun hlt => by
          have := (ble_iff (Nat.succ i) l).2 hlt
          rw [hb] at this; cases this
        refine ⟨_, _, _, hc.symm, ι, .tuple #[.bool false], w, Ex.refl, h, .inl ?_, .tup' (.cons (.b _) .nil)⟩
        simp [Instr.next, hv, hget, strOf_size, hil]
      · have hil : i < l := (ble_iff _ _).1 hb
        cases hb2 : Nat.ble (byteS n i) 127 <;> rw [hb2] at hc
        · exact bad_no hm hz hc
        replace hc : frcN (Nat.succ i) (fun i' => Tr.setK hp r (.it l n i') fun hp => K (.tup [.b true, .i .i64 (.ofNat i), .i .i32 (.ofNat (byteS n i))]) hp nx) = m := hc
        rw [frcN_eq, Tr.setK_eq] at hc
        have hdec := utf8_ascii hil ((ble_iff _ _).1 hb2)
        have hnew := h.setObj (o' := .it l n (i + 1)) (ob := .stringIter (strOf l n) (i + 1)) hL hr rfl ⟨rfl, hn, World.putObj_heap_same hlt⟩
        refine ⟨_, _, _, hc.symm, ι, .tuple #[.bool true, .int .i64 i, .int .i32 (byteS n i)], _, Ex.refl, hnew, .inl ?_, .tup' (.cons (.b _) (.cons (.i _ _) (.cons (.i _ _) .nil)))⟩
        simp [Instr.next, hv, hget, strOf_size, hil, hdec, hset, goInt]
    · exact bad_no hm hz hc
  · exact bad_no hm hz hc
end
end Go.Cv
