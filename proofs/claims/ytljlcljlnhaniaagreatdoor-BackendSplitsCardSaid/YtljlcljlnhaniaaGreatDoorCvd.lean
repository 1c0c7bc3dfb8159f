/- Part of the proof of the statement: an evaluator of the code at closed data, run by the kernel, and that it is sound; it has no conditions of its own. -/
import Derived.Lib.UnsafeStr
import Derived.Test.YtljlcljlnhaniaaGreatDoorCvc
set_option linter.unusedVariables false
set_option linter.unusedSimpArgs false
/- Operations that change the heap: copy, clear, unsafe.String, conversions. -/
namespace Go.Cv
open Go Go.RowKit
section
variable {S : Sg} {base : Nat} {w0 w : World} {U : Nat → Option CO} {ι : Ip} {hp : Tr CO} {nx : Nat} {fr : Tr CV} {a : Act} {K : KA} {z m : AM}

/-! ### elements -/
theorem bytes_take (l n k : Nat) : (((strOf l n).extract 0 k).data.map fun b => Value.int .u8 (b.toNat : Int)) = ⟨((strOf l n).data.toList.map fun b => Value.int .u8 (b.toNat : Int)).take k⟩ := by
  apply Array.ext'
  rw [Array.toList_map, ByteArray.data_extract, Array.toList_extract, List.extract_eq_take_drop]
  simp [List.map_take]
theorem run_load0 {P : Program} {ad : Addr} : (loadCells ad 0).run P w = .ok #[] w := by
  simpa using run_loadCells_list (P := P) w ad [] (by simp)
theorem elemsC_ok (h : Rd S ι hp w) {sz n : Nat} {x : CV} {cs : List CV} {u : Value} (hs : elemsC hp sz x = some (cs, n)) (hx : VR ι x u) :
    ∃ us, VRL ι cs us ∧ us.length = n * sz ∧ ∀ w' : World, w'.heap = w.heap → (Builtin.lenOf u).run S.P w' = .ok n w' ∧ ∀ k, k ≤ n → (Builtin.firstCells sz k u).run S.P w' = .ok ⟨us.take (k * sz)⟩ w' := by
  unfold elemsC at hs
  split at hs
  · cases hs
    cases hx
    refine ⟨[], .nil, by simp, fun w' hw' => ⟨by simp [Builtin.lenOf], fun k hk => ?_⟩⟩
    simp [Builtin.firstCells]
  · rename_i r g off l sz' cap
    cases hb : Nat.beq sz sz' <;> rw [hb] at hs
    · cases hs
    rw [beq_iff] at hb
    subst hb
    replace hs : elemsR hp sz r g off l = some (cs, n) := hs
    obtain ⟨L, ad, c, hL, hlo, hz0, hen, had, hlc, hc0, hc1, rfl⟩ := hx.sl_inv
    unfold elemsR at hs
    split at hs
    · rename_i ty tr n' G fz ro mk hr
      split at hs
      · rename_i cs' hcs
        cases hs
        obtain ⟨us, p1, p2, p3, p4⟩ := (h.of hL hr).cells hlo hcs
        have p1 : us.length = n * sz := p1
        refine ⟨us, p2, p1, fun w' hw' => ⟨by simp [Builtin.lenOf], fun k hk => ?_⟩⟩
        simp only [Builtin.firstCells]
        by_cases h0 : k * sz = 0
        · rw [h0]; exact run_load0
        · have hk0 : 0 < k := Nat.pos_of_ne_zero fun e => h0 (by rw [e, Nat.zero_mul])
          have had := had (by omega)
          subst had
          have hle : k * sz ≤ us.length := by rw [p1]; exact Nat.mul_le_mul_right _ hk
          have hl : (us.take (k * sz)).length = k * sz := by rw [List.length_take]; omega
          have := run_cells (P := S.P) (w := w') (b := L.blk) (o := off - L.lo) (us := us.take (k * sz)) (fun j u hj => by
            rw [List.getElem?_take] at hj
            split at hj
            · have := p4 j u hj
              simp only [World.cell?, hw'] at this ⊢
              exact this
            · cases hj)
          rw [hl] at this
          exact this
      · cases hs
    · cases hs
  · rename_i l num
    cases hb : Nat.beq sz 1 <;> rw [hb] at hs
    · cases hs
    rw [beq_iff] at hb
    subst hb
    cases hs
    obtain ⟨rfl, hn⟩ := hx.s_inv
    refine ⟨_, bytes_rel _ _, by simp [strOf_list, dig_len], fun w' hw' => ⟨by simp [Builtin.lenOf, strOf_size], fun k hk => ?_⟩⟩
    simp only [Builtin.firstCells, Sem.run_pure, Nat.mul_one]
    rw [bytes_take]
  · cases hs

theorem elT_ok (hS : SOk S) {t e sz : Nat} (h : elT S.en t = some (e, sz)) : S.P.underlying t = some (.slice e) ∧ 0 < sz ∧ ∃ ti, S.en.T e = some ti ∧ ti.size = sz ∧ ti.bytes ≤ 100000 := by
  unfold elT at h
  split at h
  · rename_i e' he
    split at h
    · rename_i k s b zr hT
      cases hb : Nat.ble b 100000 <;> rw [hb] at h
      · cases h
      · cases h
        exact ⟨sliceT_ok hS he, Nat.succ_pos _, _, hT, rfl, (ble_iff _ _).1 hb⟩
    · cases h
  · cases h
theorem ev2 {xs : List Operand} {s x : Operand} (h : xs = [s, x]) : (xs.map a.eval).toArray = #[a.eval s, a.eval x] := by subst h; rfl

theorem c_copy (hS : SOk S) (h : HR S base w0 U ι hp nx w) (hg : GR S ι) (hf : FR ι fr a.tmps) {xs : List Operand} {ts : List TypeId} {ty : TypeId} (hm : nb m) (hz : ∃ n, z = .bad n) (hc : cCopy S.en xs ts z hp nx fr K = m) :
    Does S base w0 U ι w (do pure (.value (← Builtin.copy_ ts.toArray ty (xs.map a.eval).toArray))) K m := by
  unfold cCopy at hc
  split at hc
  · rename_i s x t t2
    split at hc
    · rename_i e sz he
      obtain ⟨hd, hsz0, ti, hT, hsz, _⟩ := elT_ok hS he
      have hsize := (hS.T e ti hT).sizeOf w
      have hX := ev_rel hg hf x
      have hY := ev_rel hg hf s
      unfold copyV at hc
      split at hc
      · rename_i r g off l sz' cap cs n hs hx
        cases hb : Nat.beq sz sz' <;> rw [hb] at hc
        · exact bad_no hm hz hc
        rw [beq_iff] at hb
        subst hb
        rw [hs] at hY
        obtain ⟨L, ad, c, hL, hlo, hz0, hen, had, hlc, hc0, hc1, hv⟩ := hY.sl_inv
        obtain ⟨us, q2, q3, q4⟩ := elemsC_ok h.rd hx hX
        obtain ⟨q1, q4⟩ := q4 w rfl
        have hmin : (bif Nat.ble n l then n else l) = Nat.min n l := by
          cases hb : Nat.ble n l
          · have : ¬ n ≤ l := fun hle => by have := (ble_iff _ _).2 hle; rw [hb] at this; cases this
            show l = min n l; omega
          · have := (ble_iff _ _).1 hb
            show n = min n l; omega
        replace hc : copyN cs (bif Nat.ble n l then n else l) sz r g off z hp nx K = m := hc
        rw [hmin] at hc
        have hfc := q4 (Nat.min n l) (Nat.min_le_left _ _)
        unfold copyN at hc
        cases hb0 : Nat.beq (Nat.min n l) 0 <;> rw [hb0] at hc
        · replace hc : stC z (takeN (Nat.mul (Nat.min n l) sz) cs) hp r g off (fun hp => K (.i .i64 (.ofNat (Nat.min n l))) hp nx) = m := hc
          rw [takeN_eq] at hc
          have hne : Nat.min n l ≠ 0 := fun e => by rw [e] at hb0; cases hb0
          have had := had (by have : Nat.min n l ≤ l := Nat.min_le_right _ _; omega)
          subst had
          unfold stC at hc
          split at hc
          · rename_i ty' tr n' G fz ro mk hr
            generalize hcs' : cs.take (Nat.mul (Nat.min n l) sz) = cs' at hc
            cases hb2 : (Nat.beq g G && Nat.ble fz off && !ro && there tr (len cs') off && allL oneC cs') <;> rw [hb2] at hc
            · exact bad_no hm hz hc
            simp only [Bool.and_eq_true, beq_iff, ble_iff, Bool.not_eq_true', len_eq] at hb2
            obtain ⟨⟨⟨⟨rfl, b2⟩, rfl⟩, b4⟩, b5⟩ := hb2
            have hrel : VRL ι cs' (us.take (Nat.min n l * sz)) := by rw [← hcs']; exact q2.take _
            have h1 : ∀ u ∈ us.take (Nat.min n l * sz), u.oneCell' = true := fun u hu => by
              obtain ⟨i, hi⟩ := List.mem_iff_getElem?.1 hu
              have hlt : i < cs'.length := by rw [hrel.1]; exact (List.getElem?_eq_some_iff.1 hi).1
              exact oneC_one ((allL_iff _ _).1 b5 _ (List.getElem_mem hlt)) (hrel.2 i _ u (List.getElem?_eq_getElem hlt) hi)
            obtain ⟨s1, s2⟩ := h.store hL hr hlo b2 b4 hrel h1
            replace hc : stR g cs' hp r off ty' tr n' g fz mk (fun hp => K (.i .i64 (.ofNat (Nat.min n l))) hp nx) = m := hc
            unfold stR at hc
            rw [wrK_eq, Tr.setK_eq] at hc
            refine ⟨_, _, _, hc.symm, ι, .int .i64 (Nat.min n l : Nat), _, Ex.refl, s2, .inl ?_, .i _ _⟩
            simp [Builtin.copy_, run_und hd, hv, q1, hsize, hsz, hfc, s1, goInt]
          · exact bad_no hm hz hc
        · replace hc : K (.i .i64 (.ofNat 0)) hp nx = m := hc
          have h0 : Nat.min n l = 0 := (beq_iff _ _).1 hb0
          rw [h0] at hfc
          refine ⟨_, _, _, hc.symm, ι, .int .i64 (0 : Nat), w, Ex.refl, h, .inl ?_, .i _ _⟩
          simp [Builtin.copy_, run_und hd, hv, q1, hsize, hsz, h0, hfc, storeCells, goInt]
      · exact bad_no hm hz hc
    · exact bad_no hm hz hc
  · exact bad_no hm hz hc

theorem c_clear (hS : SOk S) (h : HR S base w0 U ι hp nx w) (hg : GR S ι) (hf : FR ι fr a.tmps) {xs : List Operand} {ts : List TypeId} {ty : TypeId} (hm : nb m) (hz : ∃ n, z = .bad n) (hc : cClear S.en xs ts z hp nx fr K = m) :
    Does S base w0 U ι w (do pure (.value (← Builtin.clear_ ts.toArray ty (xs.map a.eval).toArray))) K m := by
  unfold cClear at hc
  split at hc
  · rename_i x t
    split at hc
    · rename_i e he
      have hd := sliceT_ok hS he
      split at hc
      · rename_i k s b zr hT
        have hti := hS.T e _ hT
        obtain ⟨zv, hz1, hz2, hz3, hz4, _⟩ := hti.zero ι w
        have hX := ev_rel hg hf x
        unfold clearV at hc
        split at hc
        · rename_i hx
          rw [hx] at hX
          have hv := hX.ns_inv
          refine ⟨_, _, _, hc.symm, ι, .tuple #[], w, Ex.refl, h, .inl ?_, .tup' .nil⟩
          simp [Builtin.clear_, run_und hd, hv]
        · rename_i r g off l sz cap hx
          rw [hx] at hX
          obtain ⟨L, ad, c, hL, hlo, hz0, hen, had, hlc, hc0, hc1, hv⟩ := hX.sl_inv
          cases hb0 : Nat.beq l 0 <;> rw [hb0] at hc
          · have hne : l ≠ 0 := fun e => by rw [e] at hb0; cases hb0
            replace hc : (bif Nat.beq (len zr) sz then stC z (repC zr l) hp r g off fun hp => K (.tup []) hp nx else z) = m := hc
            cases hb1 : Nat.beq (len zr) sz <;> rw [hb1] at hc
            · exact bad_no hm hz hc
            replace hc : stC z (repC zr l) hp r g off (fun hp => K (.tup []) hp nx) = m := hc
            have had := had (by omega)
            subst had
            unfold stC at hc
            split at hc
            · rename_i ty' tr n' G fz ro mk hr
              cases hb2 : (Nat.beq g G && Nat.ble fz off && !ro && there tr (len (repC zr l)) off && allL oneC (repC zr l)) <;> rw [hb2] at hc
              · exact bad_no hm hz hc
              simp only [Bool.and_eq_true, beq_iff, ble_iff, Bool.not_eq_true', len_eq] at hb2
              obtain ⟨⟨⟨⟨rfl, b2⟩, rfl⟩, b4⟩, b5⟩ := hb2
              have hrel := repC_rel hz2 l
              obtain ⟨s1, s2⟩ := h.store hL hr hlo b2 b4 hrel (fun u hu => by
                obtain ⟨l, hl, hu⟩ := List.mem_flatten.1 hu
                rw [List.mem_replicate] at hl
                exact hz3 u (hl.2 ▸ hu))
              replace hc : stR g (repC zr l) hp r off ty' tr n' g fz mk (fun hp => K (.tup []) hp nx) = m := hc
              unfold stR at hc
              rw [wrK_eq, Tr.setK_eq] at hc
              refine ⟨_, _, _, hc.symm, ι, .tuple #[], _, Ex.refl, s2, .inl ?_, .tup' .nil⟩
              obtain ⟨l', rfl⟩ : ∃ l', l = l' + 1 := ⟨l - 1, by omega⟩
              have hrow := zrow_eq zv.cells (l' + 1) (by rw [hz4]; exact Nat.succ_pos _)
              have hzc : (Builtin.zeroCells zv.cells (l' + 1)).toList = (List.replicate (l' + 1) zv.cells.toList).flatten := by
                unfold Builtin.zeroCells
                rw [hrow]
              simp [Builtin.clear_, run_und hd, hv, hz1, hzc, s1]
            · exact bad_no hm hz hc
          · replace hc : K (.tup []) hp nx = m := hc
            have h0 : l = 0 := (beq_iff _ _).1 hb0
            subst h0
            refine ⟨_, _, _, hc.symm, ι, .tuple #[], w, Ex.refl, h, .inl ?_, .tup' .nil⟩
            simp [Builtin.clear_, run_und hd, hv]
        · exact bad_no hm hz hc
      · exact bad_no hm hz hc
    · exact bad_no hm hz hc
  · exact bad_no hm hz hc

/-! ### unsafe.String -/
theorem i64C_rel {x : CV} {n : Nat} {u : Value} (h : i64C x = some n) (hx : VR ι x u) : u = .int .i64 n := by
  unfold i64C at h
  split at h
  · rename_i i
    cases i with
    | ofNat k => cases h; exact hx.i_inv
    | negSucc k => cases h
  · cases h
theorem c_uStr (hS : SOk S) (h : HR S base w0 U ι hp nx w) (hg : GR S ι) (hf : FR ι fr a.tmps) {xs : List Operand} {ts : List TypeId} {ty : TypeId} (hm : nb m) (hz : ∃ n, z = .bad n) (hc : cUStr S.en xs ts z hp nx fr K = m) :
    Does S base w0 U ι w (do pure (.value (← Builtin.unsafeString_ ts.toArray ty (xs.map a.eval).toArray))) K m := by
  unfold cUStr at hc
  split at hc
  · rename_i x y t t2
    split at hc
    · rename_i e n1 b1 zr1 n hTt hn
      have hy := i64C_rel hn (ev_rel hg hf y)
      obtain ⟨d, hd, hdk⟩ := (hS.T t _ hTt).und
      have hd : S.P.underlying t = some (.pointer e) := (hS.T t _ hTt).ptr rfl
      split at hc
      · rename_i b zr hT
        have hti := hS.T e _ hT
        have hcells : S.P.cellsOf e = 1 := by
          obtain ⟨i, z, hi, h1, _⟩ := hti.info
          simp [Program.cellsOf, hi, h1]
        have hX := ev_rel hg hf x
        have hnone : ∀ q : Option Addr, a.eval x = .pointer q → n = 0 → (Builtin.unsafeString_ #[t, t2] ty #[a.eval x, a.eval y]).run S.P w = .ok (.string (strOf 0 0)) w := fun q hq h0 => by
          subst h0
          rw [hq, hy]
          exact Lib.run_unsafeString_none w t t2 ty q
        unfold uStrV at hc
        split at hc
        · rename_i hx
          rw [hx] at hX
          cases hb0 : Nat.beq n 0 <;> rw [hb0] at hc
          · exact bad_no hm hz hc
          have h0 : n = 0 := (beq_iff _ _).1 hb0
          replace hc : K (.s 0 0) hp nx = m := hc
          have := hnone none (by cases hq : a.eval x <;> rw [hq] at hX <;> cases hX; rfl) h0
          exact ⟨_, _, _, hc.symm, ι, .string (strOf 0 0), w, Ex.refl, h, .inl (by simp [this]), .s (by simp)⟩
        · rename_i r g off hx
          rw [hx] at hX
          obtain ⟨L, hL, hlo, hv⟩ := hX.p_inv
          cases hb0 : Nat.beq n 0 <;> rw [hb0] at hc
          · have hn0 : n ≠ 0 := fun e => by rw [e] at hb0; cases hb0
            replace hc : (bif Nat.beq off 0 then uStrR e r g n z hp nx K else z) = m := hc
            cases hb1 : Nat.beq off 0 <;> rw [hb1] at hc
            · exact bad_no hm hz hc
            have h0 : off = 0 := (beq_iff _ _).1 hb1
            subst h0
            replace hc : uStrR e r g n z hp nx K = m := hc
            unfold uStrR at hc
            split at hc
            · rename_i ty' tr n' G fz ro mk hr
              cases hb2 : (Nat.beq g G && Nat.beq ty' e && !ro && !mk) <;> rw [hb2] at hc
              · exact bad_no hm hz hc
              simp only [Bool.and_eq_true, beq_iff, Bool.not_eq_true'] at hb2
              obtain ⟨⟨⟨rfl, rfl⟩, rfl⟩, rfl⟩ := hb2
              replace hc : (match rowS hp r g 0 n with
                | some v => frcN (bif Nat.ble fz n then n else fz) fun fz => Tr.setK hp r (.c ty' tr n' g fz false false) fun hp => K (.s n v) hp nx
                | none => z) = m := hc
              split at hc
              · rename_i v hrow
                rw [frcN_eq, Tr.setK_eq] at hc
                obtain ⟨ns, h1, rfl, h3⟩ := rowS_ok h.rd hrow hL hlo
                have hbd : ∀ m ∈ ns, m < 256 := fun m hm => by
                  obtain ⟨i, hi⟩ := List.mem_iff_getElem?.1 hm
                  exact (h3 i m hi).2
                obtain ⟨d1, d2⟩ := numL_digits ns hbd
                obtain ⟨o, q1, q2, q3, q4⟩ := h.obj r g L hL
                rw [hr] at q1; cases q1
                have hbl : base ≤ L.blk := Nat.le_of_not_lt fun hb => by have := q4 hb; cases this
                obtain ⟨_, arr, fz', p1, p2, p3, p4⟩ := q2
                obtain ⟨p5, p6⟩ := p4 rfl
                have hlo0 : L.lo = 0 := by omega
                rw [if_neg (by simp)] at p6
                obtain ⟨f1, f2⟩ := fz'
                have e1 : f1 = 0 := p6.1
                have e2 : f2 ≤ fz - L.lo := p6.2
                subst e1
                have hsz : n ≤ arr.size := by
                  have hlast : n - 1 < ns.length := by omega
                  have := (h3 (n - 1) ns[n-1] (List.getElem?_eq_getElem hlast)).1
                  simp only [World.cell?, p1] at this
                  have := (Array.getElem?_eq_some_iff.1 this).1
                  omega
                have hsh : w.shape? L.blk = some (ty', arr.size) := by simp [World.shape?, p1]
                have hrun := Lib.run_unsafeString_row (P := S.P) (w := w) t t2 ty ty' hd hcells L.blk arr.size hsh (ns.map UInt8.ofNat) (by intro e; rw [List.map_eq_nil_iff] at e; rw [e] at h1; exact hn0 h1.symm) (by rw [List.length_map, h1]; exact hsz)
                  (by rw [List.length_map, h1]; have := (p3 (n - 1)); have hk := h.key
                      have hlast : n - 1 < ns.length := by omega
                      have hc1 : ∃ c, tr.get (n - 1) = some c := by
                        unfold rowS at hrow
                        rw [hr] at hrow
                        simp only at hrow
                        split at hrow
                        · rename_i cs hcs
                          obtain ⟨a1, a2⟩ := cellsAt_inv n 0 cs hcs
                          have hl2 : n - 1 < cs.length := by omega
                          obtain ⟨c, hc1, _⟩ := cellAt_inv (a2 (n - 1) _ (List.getElem?_eq_getElem hl2))
                          rw [Nat.zero_add] at hc1
                          exact ⟨c, hc1⟩
                        · cases hrow
                      obtain ⟨c, hc1⟩ := hc1
                      have := (this c hc1).2.2.1
                      unfold keyTop at this
                      omega) (fun j x hj => by
                    rw [List.getElem?_map] at hj
                    cases hm' : ns[j]? with
                    | none => rw [hm'] at hj; cases hj
                    | some m' =>
                      rw [hm'] at hj; cases hj
                      obtain ⟨b1, b2⟩ := h3 j m' hm'
                      rw [add_off', Nat.zero_add]
                      rw [hlo0, Nat.sub_zero, Nat.zero_add] at b1
                      rw [b1]
                      have : (UInt8.ofNat m').toNat = m' := by rw [UInt8.toNat_ofNat']; omega
                      rw [this])
                rw [List.length_map, h1] at hrun
                have hstr : (⟨(ns.map UInt8.ofNat).toArray⟩ : ByteArray) = strOf n (numL ns) := by
                  apply ByteArray.ext
                  show _ = (dig n (numL ns)).toArray
                  rw [← h1, d2]
                rw [hstr] at hrun
                have hw' : (w.freeze { block := L.blk, off := 0 } n).heap[L.blk]? = some (.cells arr ty' (if (0 : Nat) == f2 then (0, 0 + n) else (min 0 0, max f2 (0 + n)))) := by
                  unfold World.freeze
                  rw [if_neg hn0]
                  rw [Array.getElem?_modify, if_pos rfl, p1, Option.map_some]
                have hwo : ∀ k, k ≠ L.blk → (w.freeze { block := L.blk, off := 0 } n).heap[k]? = w.heap[k]? := fun k hk => by
                  unfold World.freeze
                  rw [if_neg hn0]
                  simp only [Array.getElem?_modify]
                  rw [if_neg (Ne.symm hk)]
                have hws : (w.freeze { block := L.blk, off := 0 } n).heap.size = w.heap.size := by
                  unfold World.freeze
                  rw [if_neg hn0]
                  simp
                have hwb : Below base w (w.freeze { block := L.blk, off := 0 } n) := by
                  refine ⟨?_, ?_, ?_, by omega, fun k hk => hwo k (by omega)⟩ <;> (unfold World.freeze; rw [if_neg hn0])
                generalize hF : (bif Nat.ble fz n then n else fz) = F at hc
                have hF1 : n ≤ F ∧ fz ≤ F := by
                  cases hb : Nat.ble fz n <;> rw [hb] at hF
                  · have : ¬ fz ≤ n := fun hle => by have := (ble_iff _ _).2 hle; rw [hb] at this; cases this
                    have : fz = F := hF
                    omega
                  · have := (ble_iff _ _).1 hb
                    have : n = F := hF
                    omega
                have hnew : HR S base w0 U ι (hp.set r (.c ty' tr n' g F false false)) nx (w.freeze { block := L.blk, off := 0 } n) := by
                  refine h.write Ex.refl (fun _ _ _ e => .inl e) hwb (h.dom r g L hL) (h.born_not hL) (fun r' g' L' e hne => hwo _ (fun hb => hne (h.inj _ _ _ _ _ _ e hL hb).1)) (fun g' L' e => ?_)
                    (fun g L' r' g' L'' e e' hne he => hne (h.inj _ _ _ _ _ _ e' e he.symm).1) (fun g L' g' L'' e e' he => (h.inj _ _ _ _ _ _ e e' he).2)
                  obtain ⟨o, a1, b, c', d⟩ := h.obj r g' L' e
                  rw [hr] at a1; cases a1
                  obtain ⟨hgG, arrg, fzg, r1, r2, r3, r4⟩ := b
                  by_cases hblk : L'.blk = L.blk
                  · obtain rfl : L = L' := (h.inj _ _ _ _ _ _ e hL hblk).2.symm
                    rw [p1] at r1; cases r1
                    refine ⟨⟨hgG, arr, _, hw', r2, r3, fun hg => ⟨(r4 hg).1, ?_⟩⟩, by rw [hws]; exact c', d⟩
                    rw [if_neg (by simp)]
                    by_cases hf2 : 0 = f2
                    · subst hf2
                      simp; omega
                    · rw [if_neg (by simpa using hf2)]
                      simp; omega
                  · refine ⟨⟨hgG, arrg, fzg, by rw [hwo _ hblk]; exact r1, r2, r3, fun hg => ?_⟩, by rw [hws]; exact c', d⟩
                    subst hg
                    rw [hL] at e; cases e
                    exact absurd rfl hblk
                rw [hlo0, Nat.sub_zero] at hv
                refine ⟨_, _, _, hc.symm, ι, .string (strOf n (numL ns)), _, Ex.refl, hnew, .inl ?_, .s (by rw [← h1]; exact d1)⟩
                have hrun2 : (Builtin.unsafeString_ #[t, t2] ty #[a.eval x, a.eval y]).run S.P w = .ok (.string (strOf n (numL ns))) (w.freeze ⟨L.blk, 0, none⟩ n) := by
                  rw [hv, hy]; exact hrun
                simp [hrun2]
              · exact bad_no hm hz hc
            · exact bad_no hm hz hc
          · have h0 : n = 0 := (beq_iff _ _).1 hb0
            replace hc : K (.s 0 0) hp nx = m := hc
            have := hnone _ hv h0
            exact ⟨_, _, _, hc.symm, ι, .string (strOf 0 0), w, Ex.refl, h, .inl (by simp [this]), .s (by simp)⟩
        · exact bad_no hm hz hc
      · exact bad_no hm hz hc
    · exact bad_no hm hz hc
  · exact bad_no hm hz hc
end
end Go.Cv
/- Operations that change the heap: append. -/
namespace Go.Cv
open Go Go.RowKit
section
variable {S : Sg} {base : Nat} {w0 w : World} {U : Nat → Option CO} {ι : Ip} {hp : Tr CO} {nx : Nat} {fr : Tr CV} {a : Act} {K : KA} {z m : AM}

/-- The next generation. -/
theorem HR.up (h : HR S base w0 U ι hp nx w) {r ty n G fz at_ top : Nat} {tr : Tr CW} {mk : Bool} {L L' : Loc} {cs : List CV} {w' : World} (hL : ι r G = some L) (hr : hp.get r = some (.c ty tr n G fz false mk))
    (hb : Below base w w') (hsame : ∀ k, k ≠ L.blk → k < w.heap.size → w'.heap[k]? = w.heap[k]?)
    (hold : ∃ arr arr' fz', w.heap[L.blk]? = some (.cells arr ty fz') ∧ w'.heap[L.blk]? = some (.cells arr' ty fz') ∧ arr'.size = arr.size ∧ ∀ i, ¬ (at_ ≤ L.lo + i ∧ L.lo + i < at_ + cs.length) → arr'[i]? = arr[i]?)
    (hL' : L' = L ∨ L'.blk = w.heap.size) (hlt : L'.blk < w'.heap.size)
    (hnew : ∃ arr fz', w'.heap[L'.blk]? = some (.cells arr ty fz') ∧ L'.en ≤ L'.lo + arr.size ∧
      (∀ i c, (wrL (G + 1) cs tr at_).get i = some c → L'.lo ≤ i → ∃ v, arr[i - L'.lo]? = some v ∧ VR ι c.v v ∧ v.oneCell' = true) ∧ top ≤ L'.en ∧
      (if mk then fz' = (0, 0) ∨ fz' = (arr.size, arr.size + 1) else fz'.1 = 0 ∧ fz'.2 ≤ fz - L'.lo))
    (hk : at_ + cs.length ≤ keyTop) (htop : top = at_ + cs.length) (hnt : n ≤ top) :
    HR S base w0 U (ι.add r (G + 1) L') (hp.set r (.c ty (wrL (G + 1) cs tr at_) top (G + 1) fz false mk)) nx w' ∧ Ex ι (ι.add r (G + 1) L') := by
  have hgen : ∀ g' L2, ι r g' = some L2 → g' ≤ G := fun g' L2 e => by
    obtain ⟨o, a, b, _⟩ := h.obj r g' L2 e
    rw [hr] at a; cases a
    exact b.1
  have hfree : ι r (G + 1) = none := by
    cases e : ι r (G + 1) with
    | none => rfl
    | some L2 => have := hgen _ _ e; omega
  have hx : Ex ι (ι.add r (G + 1) L') := Ip.add_ex hfree
  have hinv : ∀ r' g' L2, (ι.add r (G + 1) L') r' g' = some L2 → (r' = r ∧ g' = G + 1 ∧ L2 = L') ∨ ι r' g' = some L2 := fun r' g' L2 e => by
    unfold Ip.add at e
    split at e
    · rename_i he; cases e; exact .inl ⟨he.1, he.2, rfl⟩
    · exact .inr e
  have hblk : ∀ r' g' L2, ι r' g' = some L2 → L2.blk < w.heap.size := fun r' g' L2 e => by
    obtain ⟨_, _, _, c, _⟩ := h.obj r' g' L2 e
    exact c
  obtain ⟨o, q1, q2, q3, q4⟩ := h.obj r G L hL
  rw [hr] at q1; cases q1
  have hbl : base ≤ L.blk := Nat.le_of_not_lt fun hb => by have := q4 hb; cases this
  refine ⟨h.write hx (fun r' g' L2 e => ?_) hb (h.dom r G L hL) (h.born_not hL) (fun r' g' L2 e hne => ?_) (fun g' L2 e => ?_) (fun g' L2 r2 g2 L3 e e' hne => ?_) (fun g' L2 g2 L3 e e' he => ?_), hx⟩
  · rcases hinv r' g' L2 e with ⟨rfl, _⟩ | e
    · exact .inr rfl
    · exact .inl e
  · exact hsame _ (fun he => hne (h.inj _ _ _ _ _ _ e hL he).1) (hblk _ _ _ e)
  · rcases hinv r g' L2 e with ⟨_, rfl, rfl⟩ | e
    · obtain ⟨arr, fz', n1, n2, n3, n4, n5⟩ := hnew
      refine ⟨⟨Nat.le_refl _, arr, fz', n1, n2, fun i c hc => ?_, fun _ => ⟨n4, n5⟩⟩, hlt, fun hb => ?_⟩
      · have hc' := hc
        rw [wrL_get _ _ _ _ _ hk] at hc
        split at hc
        · rename_i hi
          cases hci : cs[i - at_]? with
          | none => rw [hci] at hc; cases hc
          | some x =>
            rw [hci] at hc; cases hc
            refine ⟨Nat.le_refl _, by omega, by omega, fun _ hlo => ?_⟩
            obtain ⟨v, a1, a2, a3⟩ := n3 i _ hc' hlo
            exact ⟨v, a1, a2.mono hx, a3⟩
        · obtain ⟨_, _, _, _, _, s3, _⟩ := q2
          obtain ⟨s1, s2, s4, _⟩ := s3 i c hc
          refine ⟨by omega, by omega, s4, fun _ hlo => ?_⟩
          obtain ⟨v, a1, a2, a3⟩ := n3 i _ hc' hlo
          exact ⟨v, a1, a2.mono hx, a3⟩
      · rcases hL' with rfl | hL'
        · omega
        · have := h.top; omega
    · obtain ⟨o, a1, b, c', d⟩ := h.obj r g' L2 e
      rw [hr] at a1; cases a1
      obtain ⟨hgG, arrg, fzg, r1, r2, r3, r4⟩ := b
      have hs : w.heap.size ≤ w'.heap.size := hb.size
      have hpos : ∃ arr2, w'.heap[L2.blk]? = some (.cells arr2 ty fzg) ∧ arr2.size = arrg.size ∧ ∀ i, ¬ (at_ ≤ L2.lo + i ∧ L2.lo + i < at_ + cs.length) → arr2[i]? = arrg[i]? := by
        by_cases hbk : L2.blk = L.blk
        · obtain rfl : L = L2 := (h.inj _ _ _ _ _ _ e hL hbk).2.symm
          obtain ⟨arr, arr', fz', o1, o2, o3, o4⟩ := hold
          rw [r1] at o1; cases o1
          exact ⟨arr', o2, o3, o4⟩
        · exact ⟨arrg, by rw [hsame _ hbk c']; exact r1, rfl, fun _ _ => rfl⟩
      obtain ⟨arr2, o2, o3, o4⟩ := hpos
      refine ⟨⟨by omega, arr2, fzg, o2, by rw [o3]; exact r2, fun i c hc => ?_, fun hg => by omega⟩, by omega, d⟩
      rw [wrL_get _ _ _ _ _ hk] at hc
      split at hc
      · rename_i hi
        have hxw : c.w = G + 1 := by
          cases hci : cs[i - at_]? with
          | none => rw [hci] at hc; cases hc
          | some x => rw [hci] at hc; cases hc; rfl
        exact ⟨by omega, by omega, by omega, fun hw => by omega⟩
      · rename_i hi
        obtain ⟨s1, s2, s3, s4⟩ := r3 i c hc
        refine ⟨by omega, by omega, s3, fun hw hlo => ?_⟩
        obtain ⟨v, t1, t2, t3⟩ := s4 hw hlo
        exact ⟨v, by rw [o4 _ (by omega)]; exact t1, t2.mono hx, t3⟩
  · rcases hinv r g' L2 e with ⟨_, rfl, rfl⟩ | e
    · rcases hL' with rfl | hL'
      · exact fun he => hne (h.inj _ _ _ _ _ _ e' hL he.symm).1
      · have := hblk _ _ _ e'; omega
    · exact fun he => hne (h.inj _ _ _ _ _ _ e' e he.symm).1
  · have hcase : ∀ g3 L4, ι r g3 = some L4 → L'.blk = L4.blk → L' = L4 := fun g3 L4 e3 he3 => by
      rcases hL' with rfl | hL'
      · exact (h.inj _ _ _ _ _ _ hL e3 he3).2
      · have := hblk _ _ _ e3; omega
    rcases hinv r g' L2 e with ⟨_, _, f1⟩ | f1 <;> rcases hinv r g2 L3 e' with ⟨_, _, f2⟩ | f2
    · rw [f1, f2]
    · subst f1; exact hcase _ _ f2 he
    · subst f2; exact (hcase _ _ f1 he.symm).symm
    · exact (h.inj _ _ _ _ _ _ f1 f2 he).2

/-! ### what is appended -/
/-- So many elements, and their cells, in any world with that heap. -/
def El (P : Program) (w : World) (u e sz n : Nat) (xv : Value) (us : List Value) : Prop :=
  us.length = n * sz ∧ ∃ d, P.underlying u = some d ∧
    ((∃ k k', d = .int k ∧ xv = .int k' (n : Int) ∧ n * sz ≤ 100000 ∧ ∃ zv, (∀ w', (zeroValue e).run P w' = .ok zv w') ∧ zv.cells.size = sz ∧ us = (List.replicate n zv.cells.toList).flatten) ∨
     ((∀ k, d ≠ .int k) ∧ ∀ w' : World, w'.heap = w.heap → (Builtin.lenOf xv).run P w' = .ok n w' ∧ (Builtin.firstCells sz n xv).run P w' = .ok ⟨us⟩ w'))
theorem zero_any {P : Program} {t : TypeId} {ti : TI} (h : TIok P t ti) (ι : Ip) : ∃ z, (∀ w, (zeroValue t).run P w = .ok z w) ∧ VRL ι ti.zero z.cells.toList ∧ z.cells.size = ti.size := by
  obtain ⟨i, z, hi, h1, h2, h3, h4, h5⟩ := h.info
  obtain ⟨a, b⟩ := zsB_rel (ι := ι) h4
  have hsz : z.cells.size = ti.size := by rw [← h.zlen, a.1]; simp
  exact ⟨z, fun w => by simp [zeroValue, typeInfo, hi, h3], a, hsz⟩
theorem elemsT_ok (hS : SOk S) (h : Rd S ι hp w) {u e sz n : Nat} {x : CV} {cs : List CV} {xv : Value} {ti : TI} (hT : S.en.T e = some ti) (hsz : ti.size = sz) (hs : elemsT S.en hp u e sz x = some (cs, n)) (hx : VR ι x xv) :
    ∃ us, VRL ι cs us ∧ El S.P w u e sz n xv us := by
  unfold elemsT at hs
  split at hs
  · rename_i k n1 b1 z1 hu
    have hd := (hS.T u _ hu).int rfl
    unfold elemsZ at hs
    rw [hT] at hs
    split at hs
    · rename_i ti' n' hti hn
      cases hti
      cases hb : Nat.ble (Nat.mul n' sz) 100000 <;> rw [hb] at hs
      · cases hs
      cases hs
      obtain ⟨k', hk'⟩ := natC_rel hn hx
      obtain ⟨zv, z1, z2, z3⟩ := zero_any (hS.T e _ hT) ι
      refine ⟨_, repC_rel z2 n, ?_, _, hd, .inl ⟨k, k', rfl, hk', (ble_iff _ _).1 hb, zv, z1, by rw [z3, hsz], rfl⟩⟩
      rw [flat_len]; simp [z3, hsz]
    · cases hs
  · cases hs
  · rename_i ti' hni hno hu
    obtain ⟨d, hd, hk⟩ := (hS.T u _ hu).und
    obtain ⟨us, p1, p2, p3⟩ := elemsC_ok h hs hx
    refine ⟨us, p1, p2, d, hd, .inr ⟨fun k e => ?_, fun w' hw' => ?_⟩⟩
    · subst e
      obtain ⟨k0, n0, b0, z0⟩ := ti'
      cases k0 <;> simp [kindB] at hk
      · exact hni _ _ _ _ rfl
      · exact hno _ _ _ rfl
    · obtain ⟨a1, a2⟩ := p3 w' hw'
      refine ⟨a1, ?_⟩
      have := a2 n (Nat.le_refl _)
      rw [List.take_of_length_le (by rw [p2]; exact Nat.le_refl _)] at this
      exact this
  · cases hs

theorem appended_ok {P : Program} {e sz n : Nat} {zv : Value} (hz1 : ∀ w', (zeroValue e).run P w' = .ok zv w') (hz2 : zv.cells.size = sz) (w : World) :
    (if n * sz = 0 then (pure #[] : Sem (Array Value)) else do pure (Builtin.zeroCells (← zeroValue e).cells n)).run P w = .ok ⟨(List.replicate n zv.cells.toList).flatten⟩ w := by
  by_cases h0 : n * sz = 0
  · rw [if_pos h0]
    have : (List.replicate n zv.cells.toList).flatten = [] := List.eq_nil_of_length_eq_zero (by rw [flat_len]; simpa [hz2] using h0)
    rw [this]; rfl
  · rw [if_neg h0]
    have hp : 0 < zv.cells.size := by rw [hz2]; exact Nat.pos_of_ne_zero fun e => h0 (by rw [e, Nat.mul_zero])
    simp only [Sem.run_bind, hz1, Result.andThen_ok, Sem.run_pure, Builtin.zeroCells]
    rw [zrow_eq _ _ hp]

/-- Append where there is room. -/
theorem run_append_room {P : Program} {t u e ty sz n l c : Nat} {xv : Value} {us : List Value} {bs : Option Addr} {i : TypeInfo} (hd : P.underlying t = some (.slice e)) (hi : ∀ w', (typeInfo e).run P w' = .ok i w') (hs : i.size = sz) (hb : i.bytes ≤ 100000) (hsz : 0 < sz) (he : El P w u e sz n xv us) (hr : l + n ≤ c) {w' : World}
    (hst : ∀ ad, bs = some ad → (storeCells (ad.add (l * sz)) us).run P w = .ok () w') (hno : bs = none → w' = w) :
    (Builtin.append_ #[t, u] ty #[.slice bs l c, xv]).run P w = .ok (.slice bs (l + n) c) w' := by
  obtain ⟨hl, d, hu, hcase⟩ := he
  have hsize : (sizeOf e).run P w = .ok sz w := by simp [sizeOf, hi, hs]
  rcases hcase with ⟨k, k', rfl, rfl, hlim, zv, hz1, hz2, rfl⟩ | ⟨hne, hcells⟩
  · have hn : n ≤ 100000 := Nat.le_trans (Nat.le_mul_of_pos_right n hsz) hlim
    have hw : IntKind.i64.wrap (n : Int) = n := maxK_in (k := .i64) (by show n ≤ 9223372036854775807; omega)
    have hnb : n * i.bytes ≤ 100000 * 100000 := Nat.mul_le_mul hn hb
    have t1 : ¬ ((n : Int) < 0) := by omega
    have t2 : ¬ ((n : Int) * (i.bytes : Int) > 2 ^ 48) := by rw [← Int.natCast_mul]; omega
    have hap := appended_ok (P := P) (n := n) hz1 hz2 w
    simp only [Builtin.append_, List.getElem?_toArray, List.getElem?_cons_zero, List.getElem?_cons_succ, Sem.run_bind, run_und hd, run_und hu, hsize, Result.andThen_ok, Sem.run_pure]
    rw [if_pos trivial]
    simp only [asInt, asIntOf, Sem.run_bind, Sem.run_pure, Result.andThen_ok, hw]
    rw [if_neg t1]
    simp only [Sem.run_bind, hi, Result.andThen_ok]
    rw [if_neg t2]
    simp only [Sem.run_bind, Sem.run_pure, Result.andThen_ok, Int.toNat_natCast]
    rw [if_pos hr]
    simp only [Bool.not_true, Bool.false_eq_true, if_false, Sem.run_bind, hap, Result.andThen_ok]
    cases bs with
    | none => rw [hno rfl]; rfl
    | some ad => simp only [Sem.run_bind, hst ad rfl, Result.andThen_ok, Sem.run_pure]
  · obtain ⟨c1, c2⟩ := hcells w rfl
    cases d <;> first
      | exact (hne _ rfl).elim
      | (simp only [Builtin.append_, List.getElem?_toArray, List.getElem?_cons_zero, List.getElem?_cons_succ, Sem.run_bind, run_und hd, run_und hu, hsize, Result.andThen_ok, Sem.run_pure, Bool.false_eq_true, if_false, c1, Bool.not_false, if_true]
         rw [if_pos hr]
         simp only [Sem.run_bind, c2, Result.andThen_ok]
         cases bs with
         | none => rw [hno rfl]; rfl
         | some ad => simp only [Sem.run_bind, hst ad rfl, Result.andThen_ok, Sem.run_pure])

theorem arr_app (x y : List Value) : (⟨x⟩ : Array Value) ++ ⟨y⟩ = ⟨x ++ y⟩ := by apply Array.ext'; simp
/-- Append where there is no room. -/
theorem run_append_grow {P : Program} {t u e ty sz n l c : Nat} {xv : Value} {us os : List Value} {bs : Option Addr} {i : TypeInfo} {zv : Value} (hd : P.underlying t = some (.slice e)) (hi : ∀ w', (typeInfo e).run P w' = .ok i w') (hs : i.size = sz) (hb : i.bytes ≤ 100000) (hsz : 0 < sz) (he : El P w u e sz n xv us) (hr : ¬ l + n ≤ c) (hbig : l + n ≤ 1000000000)
    (hz1 : ∀ w', (zeroValue e).run P w' = .ok zv w') (hz2 : zv.cells.size = sz) (hold : (Builtin.firstCells sz l (.slice bs l c)).run P w.drew = .ok ⟨os⟩ w.drew) :
    ∃ cap, l + n ≤ cap ∧ (Builtin.append_ #[t, u] ty #[.slice bs l c, xv]).run P w = .ok (.slice (some ⟨w.heap.size, 0, none⟩) (l + n) cap) (w.drew.alloc (.cells ⟨os ++ us ++ (List.replicate (cap - (l + n)) zv.cells.toList).flatten⟩ e)) := by
  obtain ⟨hl, d, hu, hcase⟩ := he
  have hsize : (sizeOf e).run P w = .ok sz w := by simp [sizeOf, hi, hs]
  have hmax : ¬ ((l + n : Nat) : Int) > IntKind.i64.max := by rw [show IntKind.i64.max = 9223372036854775807 from rfl]; omega
  have hfit : ¬ Builtin.nextslicecap (l + n) c * i.bytes > 2 ^ 48 := by
    have := growslice_fits (need := l + n) (old := c) (bytes := i.bytes) (by omega) (by
      have : (l + n) * i.bytes ≤ 1000000000 * 100000 := Nat.mul_le_mul hbig hb
      omega)
    omega
  obtain ⟨cap, hcap, hch⟩ : ∃ cap, l + n ≤ cap ∧ (choose (.appendCap (l + n) c e)).run P w = .ok cap w.drew := by
    refine ⟨_, ?_, by rw [run_choose_drew]; rfl⟩
    show l + n ≤ (l + n) + _
    exact Nat.le_add_right _ _
  refine ⟨cap, hcap, ?_⟩
  have hzc : Builtin.zeroCells zv.cells (cap - (l + n)) = ⟨(List.replicate (cap - (l + n)) zv.cells.toList).flatten⟩ := by
    unfold Builtin.zeroCells
    rw [zrow_eq _ _ (by rw [hz2]; exact hsz)]
  rcases hcase with ⟨k, k', rfl, rfl, hlim, zv', hz1', hz2', rfl⟩ | ⟨hne, hcells⟩
  · have hn : n ≤ 100000 := Nat.le_trans (Nat.le_mul_of_pos_right n hsz) hlim
    have hw : IntKind.i64.wrap (n : Int) = n := maxK_in (k := .i64) (by show n ≤ 9223372036854775807; omega)
    have hnb : n * i.bytes ≤ 100000 * 100000 := Nat.mul_le_mul hn hb
    have t1 : ¬ ((n : Int) < 0) := by omega
    have t2 : ¬ ((n : Int) * (i.bytes : Int) > 2 ^ 48) := by rw [← Int.natCast_mul]; omega
    have hap := appended_ok (P := P) (n := n) hz1' hz2' w.drew
    simp only [Builtin.append_, List.getElem?_toArray, List.getElem?_cons_zero, List.getElem?_cons_succ, Sem.run_bind, run_und hd, run_und hu, hsize, Result.andThen_ok, Sem.run_pure]
    rw [if_pos trivial]
    simp only [asInt, asIntOf, Sem.run_bind, Sem.run_pure, Result.andThen_ok, hw]
    rw [if_neg t1]
    simp only [Sem.run_bind, hi, Result.andThen_ok]
    rw [if_neg t2]
    simp only [Sem.run_bind, Sem.run_pure, Result.andThen_ok, Int.toNat_natCast]
    rw [if_neg hr]
    simp only [Sem.run_bind, hi, Result.andThen_ok]
    rw [if_neg (fun h => hmax h.1)]
    simp only [Sem.run_bind, hi, Result.andThen_ok]
    rw [if_neg hfit]
    simp only [Sem.run_bind, hch, hi, run_askRoom, hold, Bool.not_true, Bool.false_eq_true, if_false, hap, hz1, Result.andThen_ok, hzc, Go.newRow, run_newObj_alloc, Sem.run_pure, arr_app]
    rfl
  · obtain ⟨c1, _⟩ := hcells w rfl
    obtain ⟨_, c2⟩ := hcells w.drew rfl
    cases d <;> first
      | exact (hne _ rfl).elim
      | (simp only [Builtin.append_, List.getElem?_toArray, List.getElem?_cons_zero, List.getElem?_cons_succ, Sem.run_bind, run_und hd, run_und hu, hsize, Result.andThen_ok, Sem.run_pure, Bool.false_eq_true, if_false, c1, Bool.not_false, if_true]
         rw [if_neg hr]
         simp only [Sem.run_bind, hi, Result.andThen_ok]
         rw [if_neg (fun h => hmax h.1)]
         simp only [Sem.run_bind, hi, Result.andThen_ok]
         rw [if_neg hfit]
         simp only [Sem.run_bind, hch, hi, run_askRoom, hold, c2, hz1, Result.andThen_ok, hzc, Go.newRow, run_newObj_alloc, Sem.run_pure, arr_app]
         rfl)

/-- A new row for what has grown. -/
theorem c_newRow {e sz n : Nat} {cs : List CV} {us : List Value} {zv : Value} {s : Sem Next} {cap : Nat} (h : HR S base w0 U ι hp nx w) (hm : nb m) (hz : ∃ n, z = .bad n) (hsz : 0 < sz) (hc : newRow z e sz n cs hp nx K = m) (hcap : n ≤ cap) (hl : us.length = n * sz) (hv : VRL ι cs us) (ho : ∀ u ∈ us, u.oneCell' = true) (hz2 : zv.cells.size = sz)
    (hs : s.run S.P w = .ok (.value (.slice (some ⟨w.heap.size, 0, none⟩) n cap)) (w.drew.alloc (.cells ⟨us ++ (List.replicate (cap - n) zv.cells.toList).flatten⟩ e))) : Does S base w0 U ι w s K m := by
  unfold newRow at hc
  obtain ⟨h1, h2, rfl⟩ := newCs_ok hm hz hc
  have hsize : (us ++ (List.replicate (cap - n) zv.cells.toList).flatten).length = cap * sz := by
    rw [List.length_append, flat_len, hl]
    have e1 : zv.cells.toList.length = sz := by simp [hz2]
    rw [e1, ← Nat.add_mul]
    congr 1; omega
  have hle : n * sz ≤ cap * sz := Nat.mul_le_mul_right _ hcap
  have hd : HR S base w0 U ι hp nx w.drew := h.drew
  obtain ⟨q1, q2⟩ := hd.fresh (e := e) (n := Nat.mul n sz) (arr := ⟨us ++ (List.replicate (cap - n) zv.cells.toList).flatten⟩) h2 h1 (by rw [hv.1, hl]; exact Nat.le_refl _) (by rw [List.size_toArray, hsize]; exact hle) hv ho
    (fun i u hu => by
      rw [List.getElem?_toArray, List.getElem?_append_left (List.getElem?_eq_some_iff.1 hu).1]; exact hu) (en := cap * sz) (by rw [List.size_toArray, hsize]; exact Nat.le_refl _) hle
  exact ⟨_, _, _, rfl, _, .slice (some ⟨w.heap.size, 0, none⟩) n cap, _, q2, q1, .inl hs, .sl (Ip.add_self _ _ _ _) (Nat.le_refl _) hsz (by show 0 + cap * sz ≤ cap * sz; omega) (fun _ => rfl) hcap (fun _ => by show cap = (cap * sz - 0) / sz; rw [Nat.sub_zero, Nat.mul_div_cancel _ hsz]) (fun k e => by cases e)⟩

theorem one_of {cs : List CV} {us : List Value} (h : VRL ι cs us) (ho : allL oneC cs = true) : ∀ u ∈ us, u.oneCell' = true := fun u hu => by
  obtain ⟨i, hi⟩ := List.mem_iff_getElem?.1 hu
  have hlt : i < cs.length := by rw [h.1]; exact (List.getElem?_eq_some_iff.1 hi).1
  exact oneC_one ((allL_iff _ _).1 ho _ (List.getElem_mem hlt)) (h.2 i _ u (List.getElem?_eq_getElem hlt) hi)

theorem c_append (hS : SOk S) (h : HR S base w0 U ι hp nx w) (hg : GR S ι) (hf : FR ι fr a.tmps) {xs : List Operand} {ts : List TypeId} {ty : TypeId} (hm : nb m) (hz : ∃ n, z = .bad n) (hc : cAppend S.en xs ts z hp nx fr K = m) :
    Does S base w0 U ι w (do pure (.value (← Builtin.append_ ts.toArray ty (xs.map a.eval).toArray))) K m := by
  unfold cAppend at hc
  split at hc
  · rename_i s x t u
    split at hc
    · rename_i e sz he
      obtain ⟨hd, hsz0, ti, hT, hsz, hbytes⟩ := elT_ok hS he
      obtain ⟨inf, zinf, hi0, hi1, hi2, _⟩ := (hS.T e ti hT).info
      have hi : ∀ w', (typeInfo e).run S.P w' = .ok inf w' := fun w' => by simp [typeInfo, hi0]
      obtain ⟨zv, hz1, hz2, hz3⟩ := zero_any (hS.T e ti hT) ι
      have hX := ev_rel hg hf x
      have hY := ev_rel hg hf s
      unfold appE at hc
      split at hc
      · rename_i cs n hel
        cases hone : allL oneC cs <;> rw [hone] at hc
        · exact bad_no hm hz hc
        replace hc : appC z e sz n cs (ev S.en fr s) hp nx K = m := hc
        obtain ⟨us, hus, hE⟩ := elemsT_ok hS h.rd hT hsz hel hX
        have hEl := hE.1
        have hou := one_of hus hone
        have hlen : cs.length = n * sz := by rw [hus.1, hEl]
        unfold appC at hc
        split at hc
        · rename_i hs
          rw [hs] at hY
          have hv := hY.ns_inv
          cases hb0 : Nat.beq n 0 <;> rw [hb0] at hc
          · have hn0 : n ≠ 0 := fun e => by rw [e] at hb0; cases hb0
            replace hc : newRow z e sz n cs hp nx K = m := hc
            have hn : n ≤ 10000000 := by
              unfold newRow at hc
              obtain ⟨h1, _⟩ := newCs_ok hm hz hc
              rw [hlen] at h1
              exact Nat.le_trans (Nat.le_mul_of_pos_right n hsz0) h1
            obtain ⟨cap, hcap, hrun⟩ := run_append_grow (ty := ty) (l := 0) (c := 0) (bs := none) (os := []) hd hi (by rw [hi1, hsz]) (by rw [hi2]; exact hbytes) hsz0 hE (by omega) (by omega) hz1 (by rw [hz3, hsz]) (by simp [Builtin.firstCells])
            rw [Nat.zero_add] at hcap hrun
            refine c_newRow (cap := cap) h hm hz hsz0 hc hcap hEl hus hou (by rw [hz3, hsz]) ?_
            simp [hv, hrun]
          · replace hc : K .ns hp nx = m := hc
            have hn0 : n = 0 := (beq_iff _ _).1 hb0
            subst hn0
            have hrun := run_append_room (ty := ty) (l := 0) (c := 0) (bs := none) (w' := w) hd hi (by rw [hi1, hsz]) (by rw [hi2]; exact hbytes) hsz0 hE (Nat.le_refl _) (fun ad e => by cases e) (fun _ => rfl)
            exact ⟨_, _, _, hc.symm, ι, .slice none 0 0, w, Ex.refl, h, .inl (by simp [hv, hrun]), .ns⟩
        · rename_i r g off l sz' cap hs
          cases hbs : Nat.beq sz sz' <;> rw [hbs] at hc
          · exact bad_no hm hz hc
          rw [beq_iff] at hbs
          subst hbs
          rw [hs] at hY
          obtain ⟨L, ad, c, hL, hlo, hz0, hen, had, hlc, hc0, hc1, hv⟩ := hY.sl_inv
          replace hc : (bif Nat.beq n 0 then K (.sl r g off l sz cap) hp nx else appR z e sz n cs r g off l cap hp nx K (Nat.add off (Nat.mul l sz)) (Nat.add off (Nat.mul (Nat.add l n) sz))) = m := hc
          cases hb0 : Nat.beq n 0 <;> rw [hb0] at hc
          · have hn0 : n ≠ 0 := fun e => by rw [e] at hb0; cases hb0
            replace hc : appR z e sz n cs r g off l cap hp nx K (off + l * sz) (off + (l + n) * sz) = m := hc
            have hat : off + (l + n) * sz = off + l * sz + cs.length := by rw [Nat.add_mul, hlen]; omega
            have hpos : 0 < cs.length := by rw [hlen]; exact Nat.mul_pos (Nat.pos_of_ne_zero hn0) hsz0
            unfold appR at hc
            split at hc
            · rename_i ty' tr n' G fz ro mk hr
              cases hb2 : (Nat.beq g G && Nat.ble fz (off + l * sz) && !ro && Nat.ble (Nat.add l n) 1000000000 && Nat.ble (off + (l + n) * sz) keyTop) <;> rw [hb2] at hc
              · exact bad_no hm hz hc
              simp only [Bool.and_eq_true, beq_iff, ble_iff, Bool.not_eq_true'] at hb2
              obtain ⟨⟨⟨⟨rfl, b2⟩, rfl⟩, b4⟩, b5⟩ := hb2
              have b4 : l + n ≤ 1000000000 := b4
              replace hc : appSl z e sz n cs r g off l cap hp nx K (off + l * sz) (off + (l + n) * sz) ty' tr n' g fz mk = m := hc
              obtain ⟨o, q1, q2, q3, q4⟩ := h.obj r g L hL
              rw [hr] at q1; cases q1
              have hbl : base ≤ L.blk := Nat.le_of_not_lt fun hb => by have := q4 hb; cases this
              obtain ⟨_, arr, fz', p1, p2, p3, p4⟩ := q2
              obtain ⟨p5, p6⟩ := p4 rfl
              -- in the room that is there
              have hin : ∀ v, l + n ≤ c → VR ι v (.slice (some ad) (l + n) c) → appIn z cs hp nx r (off + l * sz) ty' tr n' g fz mk v K = m →
                  Does S base w0 U ι w (do pure (.value (← Builtin.append_ #[t, u] ty #[a.eval s, a.eval x]))) K m := by
                intro v hroom hvr hc
                have had := had (by omega)
                subst had
                unfold appIn at hc
                cases hb3 : there tr (len cs) (off + l * sz) <;> rw [hb3] at hc
                · exact bad_no hm hz hc
                rw [len_eq] at hb3
                obtain ⟨s1, s2⟩ := h.store (off := off + l * sz) hL hr (by omega) b2 hb3 hus hou
                replace hc : stR g cs hp r (off + l * sz) ty' tr n' g fz mk (fun hp => K v hp nx) = m := hc
                unfold stR at hc
                rw [wrK_eq, Tr.setK_eq] at hc
                have hrun := run_append_room (ty := ty) (l := l) (c := c) (bs := some ⟨L.blk, off - L.lo, none⟩) hd hi (by rw [hi1, hsz]) (by rw [hi2]; exact hbytes) hsz0 hE hroom (fun ad e => by
                  cases e
                  rw [add_off', show off - L.lo + l * sz = off + l * sz - L.lo by omega]
                  exact s1) (fun e => by cases e)
                exact ⟨_, _, _, hc.symm, ι, _, _, Ex.refl, s2, .inl (by simp [hv, hrun]), hvr⟩
              have hfirst : ∀ w' : World, w'.heap = w.heap → ∃ os, os.length = l * sz ∧ (Builtin.firstCells sz l (.slice (some ad) l c)).run S.P w' = .ok ⟨os⟩ w' ∧ ∀ i, i < l * sz → os[i]? = arr[off - L.lo + i]? := fun w' hw' => by
                have hroom : off + l * sz ≤ L.lo + arr.size := by
                  have : l * sz ≤ c * sz := Nat.mul_le_mul_right _ hlc
                  omega
                refine ⟨(arr.toList.drop (off - L.lo)).take (l * sz), ?_, ?_, fun i hi => ?_⟩
                · rw [List.length_take, List.length_drop, Array.length_toList]; omega
                · have hl : ((arr.toList.drop (off - L.lo)).take (l * sz)).length = l * sz := by rw [List.length_take, List.length_drop, Array.length_toList]; omega
                  simp only [Builtin.firstCells]
                  by_cases h0 : l * sz = 0
                  · rw [h0, List.take_zero]; exact run_load0
                  · have hl0 : 0 < l := Nat.pos_of_ne_zero fun e => h0 (by rw [e, Nat.zero_mul])
                    have had := had (by omega)
                    subst had
                    have := run_cells (P := S.P) (w := w') (b := L.blk) (o := off - L.lo) (us := (arr.toList.drop (off - L.lo)).take (l * sz)) (fun j u hj => by
                      rw [List.getElem?_take] at hj
                      split at hj
                      · rw [List.getElem?_drop, Array.getElem?_toList] at hj
                        simp only [World.cell?, hw', p1]
                        exact hj
                      · cases hj)
                    rw [hl] at this
                    exact this
                · rw [List.getElem?_take, if_pos hi, List.getElem?_drop, Array.getElem?_toList]
              unfold appSl at hc
              cases hbc : Nat.beq cap 0 <;> rw [hbc] at hc
              · obtain ⟨k, rfl⟩ : ∃ k, cap = k + 1 := by
                  cases cap with
                  | zero => cases hbc
                  | succ k => exact ⟨k, rfl⟩
                have hck := hc1 k rfl
                subst hck
                replace hc : (bif Nat.ble (Nat.succ (Nat.add l n)) (c + 1) then appIn z cs hp nx r (off + l * sz) ty' tr n' g fz mk (.sl r g off (Nat.add l n) sz (c + 1)) K
                  else match cellsAt tr g (Nat.mul l sz) off with
                    | some old => newRow z e sz (Nat.add l n) (app old cs) hp nx K
                    | none => z) = m := hc
                cases hbr : Nat.ble (Nat.succ (Nat.add l n)) (c + 1) <;> rw [hbr] at hc
                · have hno : ¬ l + n ≤ c := fun hle => by
                    have := (ble_iff (Nat.succ (Nat.add l n)) (c + 1)).2 (Nat.succ_le_succ hle)
                    rw [hbr] at this; cases this
                  replace hc : (match cellsAt tr g (Nat.mul l sz) off with
                    | some old => newRow z e sz (Nat.add l n) (app old cs) hp nx K
                    | none => z) = m := hc
                  split at hc
                  · rename_i old hold
                    rw [app_eq] at hc
                    obtain ⟨os, o1, o2, o3, o4⟩ := (h.rd.of hL hr).cells hlo hold
                    have o1 : os.length = l * sz := o1
                    have hfc : (Builtin.firstCells sz l (.slice (some ad) l c)).run S.P w.drew = .ok ⟨os⟩ w.drew := by
                      simp only [Builtin.firstCells]
                      by_cases h0 : l * sz = 0
                      · have : os = [] := List.eq_nil_of_length_eq_zero (by rw [o1, h0])
                        rw [h0, this]; exact run_load0
                      · have hl0 : 0 < l := Nat.pos_of_ne_zero fun e => h0 (by rw [e, Nat.zero_mul])
                        have had := had (by omega)
                        subst had
                        have := run_cells (P := S.P) (w := w.drew) (b := L.blk) (o := off - L.lo) (us := os) (fun j u hj => by
                          exact o4 j u hj)
                        rw [o1] at this
                        exact this
                    obtain ⟨cap, hcap, hrun⟩ := run_append_grow (ty := ty) (l := l) (c := c) (bs := some ad) (os := os) hd hi (by rw [hi1, hsz]) (by rw [hi2]; exact hbytes) hsz0 hE hno b4 hz1 (by rw [hz3, hsz]) hfc
                    refine c_newRow (cap := cap) (us := os ++ us) h hm hz hsz0 hc hcap (by rw [List.length_append, o1, hEl, ← Nat.add_mul]; rfl) (o2.app hus) (fun u hu => by
                      rcases List.mem_append.1 hu with hu | hu
                      · exact o3 u hu
                      · exact hou u hu) (by rw [hz3, hsz]) ?_
                    simp [hv, hrun]
                  · exact bad_no hm hz hc
                · have hle : l + n ≤ c := Nat.le_of_succ_le_succ ((ble_iff _ _).1 hbr)
                  exact hin _ hle (.sl hL hlo hsz0 hen had hle (fun e => by cases e) (fun k e => by cases e; rfl)) hc
              · have hcap0 : cap = 0 := (beq_iff _ _).1 hbc
                subst hcap0
                have hcc := hc0 rfl
                replace hc : (bif Nat.ble (off + (l + n) * sz) n' then appIn z cs hp nx r (off + l * sz) ty' tr n' g fz mk (.sl r g off (Nat.add l n) sz 0) K
                  else appUp z e cs hp nx r off (Nat.add l n) sz (off + l * sz) ty' tr (off + (l + n) * sz) g fz mk K) = m := hc
                cases hbr : Nat.ble (off + (l + n) * sz) n' <;> rw [hbr] at hc
                · have hnt : n' ≤ off + (l + n) * sz := by
                    have : ¬ off + (l + n) * sz ≤ n' := fun hle => by have := (ble_iff _ _).2 hle; rw [hbr] at this; cases this
                    omega
                  replace hc : appUp z e cs hp nx r off (l + n) sz (off + l * sz) ty' tr (off + (l + n) * sz) g fz mk K = m := hc
                  unfold appUp at hc
                  cases hbt : Nat.beq ty' e <;> rw [hbt] at hc
                  · exact bad_no hm hz hc
                  rw [beq_iff] at hbt
                  subst hbt
                  replace hc : (frcN (Nat.succ g) fun G' => frcN (off + (l + n) * sz) fun top => wrK G' cs tr (off + l * sz) fun tr => Tr.setK hp r (.c ty' tr top G' fz false mk) fun hp => K (.sl r G' off (l + n) sz 0) hp nx) = m := hc
                  rw [frcN_eq, frcN_eq, wrK_eq, Tr.setK_eq] at hc
                  have hk : off + l * sz + cs.length ≤ keyTop := by omega
                  by_cases hroom : l + n ≤ c
                  · have had := had (by omega)
                    subst had
                    have hcs : (l + n) * sz ≤ c * sz := Nat.mul_le_mul_right _ hroom
                    have hsz2 : off + l * sz - L.lo + us.length ≤ arr.size := by rw [← hus.1]; omega
                    obtain ⟨⟨arr', w1, w2, w3⟩, w4, w5, w6⟩ := setCells_heap us (off + l * sz - L.lo) w arr p1 hsz2
                    have hstore : (storeCells (({ block := L.blk, off := off - L.lo } : Addr).add (l * sz)) us).run S.P w = .ok () (w.setCells L.blk (off + l * sz - L.lo) us) := by
                      rw [add_off', show off - L.lo + l * sz = off + l * sz - L.lo by omega]
                      have hrun := run_storeCells_cells (P := S.P) L.blk (off + l * sz - L.lo) us 0 w (fun j hj => by
                          have : off + l * sz - L.lo + j < arr.size := by omega
                          simp [World.cell?, p1, this])
                        (fun j hj => by
                          obtain ⟨f1, f2⟩ := fz'
                          simp only [World.frozen?, p1, Bool.and_eq_false_iff, decide_eq_false_iff_not]
                          by_cases hmk : mk = true
                          · rw [if_pos hmk] at p6
                            rcases p6 with p6 | p6 <;> cases p6 <;> omega
                          · rw [if_neg hmk] at p6
                            have q7 : f2 ≤ fz - L.lo := p6.2
                            omega) hou
                      simpa using hrun
                    have hrun := run_append_room (ty := ty) (l := l) (c := c) (bs := some ⟨L.blk, off - L.lo, none⟩) hd hi (by rw [hi1, hsz]) (by rw [hi2]; exact hbytes) hsz0 hE hroom (fun ad e => by cases e; exact hstore) (fun e => by cases e)
                    obtain ⟨n1, n2⟩ := h.up (at_ := off + l * sz) (top := off + (l + n) * sz) (L' := L) (cs := cs) hL hr (w6 base hbl) (fun k hk' _ => w4 k hk') ⟨arr, arr', fz', p1, w1, w2, fun i hi => by
                        rw [w3, if_neg (by rw [← hus.1]; omega)]⟩ (.inl rfl) (by rw [w5]; exact q3)
                      ⟨arr', fz', w1, by rw [w2]; exact p2, fun i c hc hlo' => by
                        rw [wrL_get _ _ _ _ _ hk] at hc
                        split at hc
                        · rename_i hi
                          cases hci : cs[i - (off + l * sz)]? with
                          | none => rw [hci] at hc; cases hc
                          | some x =>
                            rw [hci] at hc; cases hc
                            obtain ⟨v, hv1, hv2⟩ := hus.get hci
                            refine ⟨v, ?_, hv2, hou v (List.mem_of_getElem? hv1)⟩
                            rw [w3, if_pos (by rw [← hus.1]; omega), show i - L.lo - (off + l * sz - L.lo) = i - (off + l * sz) by omega]
                            exact hv1
                        · rename_i hi
                          obtain ⟨s1, s2, s3, s4⟩ := p3 i c hc
                          obtain ⟨v, t1, t2, t3⟩ := s4 s1 hlo'
                          refine ⟨v, ?_, t2, t3⟩
                          rw [w3, if_neg (by rw [← hus.1]; omega)]
                          exact t1, by omega, by rw [w2]; exact p6⟩ hk hat hnt
                    exact ⟨_, _, _, hc.symm, _, _, _, n2, n1, .inl (by simp [hv, hrun]), .sl (Ip.add_self _ _ _ _) hlo hsz0 hen (fun _ => rfl) hroom hc0 (fun k e => by cases e)⟩
                  · obtain ⟨os, o1, hfc, o3⟩ := hfirst w.drew rfl
                    obtain ⟨cap, hcap, hrun⟩ := run_append_grow (ty := ty) (l := l) (c := c) (bs := some ad) (os := os) hd hi (by rw [hi1, hsz]) (by rw [hi2]; exact hbytes) hsz0 hE hroom b4 hz1 (by rw [hz3, hsz]) hfc
                    have hsize : (os ++ us ++ (List.replicate (cap - (l + n)) zv.cells.toList).flatten).length = cap * sz := by
                      rw [List.length_append, flat_len, List.length_append, o1, hEl]
                      have e1 : zv.cells.toList.length = sz := by simp [hz3, hsz]
                      rw [e1, ← Nat.add_mul, ← Nat.add_mul]
                      congr 1; omega
                    have hcs : (l + n) * sz ≤ cap * sz := Nat.mul_le_mul_right _ hcap
                    have hd2 : HR S base w0 U ι hp nx w.drew := h.drew
                    have hha : ∀ k, k < w.heap.size → (w.drew.alloc (.cells ⟨os ++ us ++ (List.replicate (cap - (l + n)) zv.cells.toList).flatten⟩ ty')).heap[k]? = w.heap[k]? := fun k hk' => Below.heap_alloc w.drew _ k hk'
                    obtain ⟨n1, n2⟩ := hd2.up (w' := w.drew.alloc (.cells ⟨os ++ us ++ (List.replicate (cap - (l + n)) zv.cells.toList).flatten⟩ ty')) (at_ := off + l * sz) (top := off + (l + n) * sz) (L' := ⟨w.heap.size, off, off + cap * sz⟩) (cs := cs) hL hr ((Below.refl base w.drew).alloc h.top _) (fun k _ hk' => hha k hk')
                      ⟨arr, arr, fz', p1, by rw [hha _ q3]; exact p1, rfl, fun _ _ => rfl⟩ (.inr rfl) (by show w.heap.size < _; simp)
                      ⟨⟨os ++ us ++ (List.replicate (cap - (l + n)) zv.cells.toList).flatten⟩, (0, 0), World.alloc_heap_new w.drew _, by
                        have : (⟨os ++ us ++ (List.replicate (cap - (l + n)) zv.cells.toList).flatten⟩ : Array Value).size = cap * sz := hsize
                        rw [this]; exact Nat.le_refl _, fun i c hc hlo' => by
                        have hlo' : off ≤ i := hlo'
                        rw [List.getElem?_toArray]
                        rw [wrL_get _ _ _ _ _ hk] at hc
                        split at hc
                        · rename_i hi
                          cases hci : cs[i - (off + l * sz)]? with
                          | none => rw [hci] at hc; cases hc
                          | some x =>
                            rw [hci] at hc; cases hc
                            obtain ⟨v, hv1, hv2⟩ := hus.get hci
                            refine ⟨v, ?_, hv2, hou v (List.mem_of_getElem? hv1)⟩
                            have hlt := (List.getElem?_eq_some_iff.1 hv1).1
                            show (os ++ us ++ _)[i - off]? = some v
                            rw [List.getElem?_append_left (by rw [List.length_append, o1]; omega), List.getElem?_append_right (by rw [o1]; omega), o1, show i - off - l * sz = i - (off + l * sz) by omega]
                            exact hv1
                        · rename_i hi
                          obtain ⟨s1, s2, s3, s4⟩ := p3 i c hc
                          obtain ⟨v, t1, t2, t3⟩ := s4 s1 (by omega)
                          refine ⟨v, ?_, t2, t3⟩
                          have hlt : i - off < l * sz := by omega
                          show (os ++ us ++ _)[i - off]? = some v
                          rw [List.getElem?_append_left (by rw [List.length_append, o1]; omega), List.getElem?_append_left (by rw [o1]; exact hlt), o3 _ hlt, show off - L.lo + (i - off) = i - L.lo by omega]
                          exact t1, by show off + (l + n) * sz ≤ off + cap * sz; omega, by
                        by_cases hmk : mk = true
                        · rw [if_pos hmk]; exact .inl rfl
                        · rw [if_neg hmk]; exact ⟨rfl, Nat.zero_le _⟩⟩ hk hat hnt
                    exact ⟨_, _, _, hc.symm, _, .slice (some ⟨w.heap.size, 0, none⟩) (l + n) cap, _, n2, n1, .inl (by simp [hv, hrun]), .sl (Ip.add_self _ _ _ _) (Nat.le_refl _) hsz0 (Nat.le_refl _) (fun _ => by show _ = (⟨w.heap.size, off - off, none⟩ : Addr); rw [Nat.sub_self]) hcap (fun _ => by
                      show cap = (off + cap * sz - off) / sz
                      rw [Nat.add_sub_cancel_left, Nat.mul_div_cancel _ hsz0]) (fun k e => by cases e)⟩
                · have hle := (ble_iff _ _).1 hbr
                  have hle2 : l + n ≤ c := by
                    rw [hcc, Nat.le_div_iff_mul_le hsz0]; omega
                  exact hin _ hle2 (.sl hL hlo hsz0 hen had hle2 hc0 (fun k e => by cases e)) hc
            · exact bad_no hm hz hc
          · replace hc : K (.sl r g off l sz cap) hp nx = m := hc
            have hn0 : n = 0 := (beq_iff _ _).1 hb0
            subst hn0
            have hus0 : us = [] := List.eq_nil_of_length_eq_zero (by rw [hEl, Nat.zero_mul])
            have hrun := run_append_room (ty := ty) (l := l) (c := c) (bs := some ad) (w' := w) hd hi (by rw [hi1, hsz]) (by rw [hi2]; exact hbytes) hsz0 hE (by omega) (fun ad' e => by rw [hus0]; rfl) (fun _ => rfl)
            rw [Nat.add_zero] at hrun
            exact ⟨_, _, _, hc.symm, ι, .slice (some ad) l c, w, Ex.refl, h, .inl (by simp [hv, hrun]), .sl hL hlo hz0 hen had hlc hc0 hc1⟩
        · exact bad_no hm hz hc
      · exact bad_no hm hz hc
    · exact bad_no hm hz hc
  · exact bad_no hm hz hc
end
end Go.Cv
/- Operations that change the heap: all of them. -/
namespace Go.Cv
open Go Go.RowKit
section
variable {S : Sg} {base : Nat} {w0 w : World} {U : Nat → Option CO} {ι : Ip} {hp : Tr CO} {nx : Nat} {fr : Tr CV} {a : Act} {K : KA} {z m : AM}

theorem Does.congr {s s' : Sem Next} (h : Does S base w0 U ι w s K m) (e : s'.run S.P w = s.run S.P w) : Does S base w0 U ι w s' K m := by
  unfold Does at h ⊢
  rw [e]; exact h
theorem c_conv (hS : SOk S) (h : HR S base w0 U ι hp nx w) (hg : GR S ι) (hf : FR ι fr a.tmps) {s d : Nat} {X : Operand} (hm : nb m) (hz : ∃ n, z = .bad n) (hc : cConv S.en s d X z hp nx fr K = m) :
    Does S base w0 U ι w (do pure (.value (← convert s d (a.eval X)))) K m := by
  have hX := ev_rel hg hf X
  unfold cConv at hc
  split at hc
  · rename_i e he
    have hd := sliceT_ok hS he
    unfold toSl at hc
    split at hc
    · rename_i n1 b1 z1 n2 b2 z2 hTs hTe
      have hs := (hS.T s _ hTs).string rfl
      have hu := (hS.T e _ hTe).int rfl
      split at hc
      · rename_i l n hx
        rw [hx] at hX
        obtain ⟨hv, hn⟩ := hX.s_inv
        refine (c_strB h hn hm hz hc).congr ?_
        simp [convert, run_und hs, run_und hd, run_und hu, hv]
      · exact bad_no hm hz hc
    · rename_i e1 n1 b1 z1 n2 b2 z2 hTs hTe
      have hs := (hS.T s _ hTs).slice rfl
      have hu := (hS.T e _ hTe).int rfl
      split at hc
      · rename_i r g off l sz cap hx
        rw [hx] at hX
        obtain ⟨hsd, ad, c, hv, hdo⟩ := c_markB h hX hm hz hc
        rw [beq_iff] at hsd
        subst hsd
        refine hdo.congr ?_
        rw [hs] at hd
        cases hd
        rw [hv]
        simp only [convert, Sem.run_bind, run_und hs, run_und hu, Result.andThen_ok, beq_self_eq_true]
        cases (markStringish ad).run S.P w <;> rfl
      · exact bad_no hm hz hc
    · exact bad_no hm hz hc
  · split at hc
    · rename_i v hv
      obtain ⟨u, h1, h2⟩ := convC_ok hS h.rd hv hX
      exact ⟨_, _, _, hc.symm, ι, u, w, Ex.refl, h, .inl (by simp [h1]), h2⟩
    · exact bad_no hm hz hc

theorem c_via (hS : SOk S) (h : HR S base w0 U ι hp nx w) (hg : GR S ι) (hf : FR ι fr a.tmps) {o : Oper} (hm : nb m) (hz : ∃ n, z = .bad n) {x : XF} (hx : ∀ hp fr, x.f hp fr = flt S.en hp fr o) (hc : (viaF x).f z hp nx fr K = m) : Does S base w0 U ι w (execOp a.eval o) K m := by
  replace hc : (match x.f hp fr with | some v => K v hp nx | none => z) = m := hc
  rw [hx] at hc
  split at hc
  · rename_i v hv
    obtain ⟨u, h1, h2⟩ := flt_ok hS h.rd hg hf hv
    exact ⟨_, _, _, hc.symm, ι, u, w, Ex.refl, h, .inl h1, h2⟩
  · exact bad_no hm hz hc
theorem args_list {c : Call} : c.args.map a.eval = (c.args.toList.map a.eval).toArray := by apply Array.ext'; simp
theorem Does.op {o : Oper} {s : Sem Next} (h : Does S base w0 U ι w s K m) (e : execOp a.eval o = s) : Does S base w0 U ι w (execOp a.eval o) K m := e ▸ h
theorem chg_ok (hS : SOk S) (h : HR S base w0 U ι hp nx w) (hg : GR S ι) (hf : FR ι fr a.tmps) {o : Oper} (hm : nb m) (hz : ∃ n, z = .bad n) (hc : chg z S.en hp nx fr o K = m) : Does S base w0 U ι w (execOp a.eval o) K m := by
  unfold chg at hc
  have hvia : ∀ x : XF, (∀ hp fr, x.f hp fr = flt S.en hp fr o) → (viaF x).f z hp nx fr K = m → Does S base w0 U ι w (execOp a.eval o) K m := fun x hx hc => c_via hS h hg hf hm hz hx hc
  cases ho : o.op <;> rw [ho] at hc <;> simp only [chgX] at hc <;> first | exact hvia _ (fun hp fr => by unfold flt; rw [ho]) hc | skip
  case alloc t => exact (c_alloc hS h hm hz hc).op (by simp [execOp, ho])
  case box t x => exact (c_box hS h hg hf hm hz hc).op (by simp [execOp, ho])
  case buildSlice t n ps => exact (c_buildS hS h hg hf hm hz hc).op (by simp [execOp, ho])
  case makeSlice t l c => exact (c_makeS hS h hg hf hm hz hc).op (by simp [execOp, ho])
  case store t x y => exact (c_store hS h hg hf hm hz hc).op (by simp [execOp, ho])
  case convert s d x => exact (c_conv hS h hg hf hm hz hc).op (by simp [execOp, ho])
  case makeMap t r =>
    cases r with
    | none => exact (c_makeMap (t := t) h hm hz hc).op (by simp [execOp, ho])
    | some r => exact bad_no hm hz hc
  case mapUpdate t x y u => exact (c_mapUp hS h hg hf hm hz hc).op (by simp [execOp, ho])
  case insert t x y u => exact (c_mapUp hS h hg hf hm hz hc).op (by simp [execOp, ho])
  case range t x => exact (c_range hS h hg hf hm hz hc).op (by simp [execOp, ho])
  case next x s => exact (c_next (ty := o.type) h hg hf hm hz hc).op (by simp [execOp, ho])
  case call c =>
    split at hc
    · rename_i b hb
      cases b <;> simp only [chgB] at hc <;> first | exact hvia _ (fun hp fr => by unfold flt; rw [ho]; simp only [fltX, hb]) hc | skip
      · exact (c_append hS h hg hf (ty := o.type) hm hz hc).op (by
          rw [run_call ho hb (f := Builtin.append_) (fun _ _ _ _ => rfl), args_list])
      · exact (c_clear hS h hg hf (ty := o.type) hm hz hc).op (by
          rw [run_call ho hb (f := Builtin.clear_) (fun _ _ _ _ => rfl), args_list])
      · exact (c_copy hS h hg hf (ty := o.type) hm hz hc).op (by
          rw [run_call ho hb (f := Builtin.copy_) (fun _ _ _ _ => rfl), args_list])
      · exact (c_uStr hS h hg hf (ty := o.type) hm hz hc).op (by
          rw [run_call ho hb (f := Builtin.unsafeString_) (fun _ _ _ _ => rfl), args_list])
    · exact bad_no hm hz hc
end
end Go.Cv
/- Operations look at their operands alone. -/
namespace Go.Cv
open Go Go.RowKit

/-- Two frames that are alike at these operands. -/
def Alike (en : En) (fr fr' : Tr CV) (xs : List Operand) : Prop := ∀ x ∈ xs, ev en fr x = ev en fr' x
section
variable {en : En} {fr fr' : Tr CV} {hp : Tr CO} {nx : Nat} {K : KA} {z m : AM}
theorem Alike.map {xs : List Operand} (h : Alike en fr fr' xs) : xs.map (ev en fr) = xs.map (ev en fr') := List.map_congr_left h
theorem Alike.sub {xs ys : List Operand} (h : Alike en fr fr' xs) (hs : ∀ y ∈ ys, y ∈ xs) : Alike en fr fr' ys := fun y hy => h y (hs y hy)
theorem fillS_congr {fs : List (Nat × Nat)} : ∀ (ps : List (Nat × Operand)) (cs : List CV), Alike en fr fr' (ps.map (·.2)) → fillS en fs fr ps cs = fillS en fs fr' ps cs
  | [], cs, _ => rfl
  | p :: ps, cs, h => by
    have h1 : ev en fr p.2 = ev en fr' p.2 := h _ (by simp)
    have h2 : Alike en fr fr' (ps.map (·.2)) := h.sub (fun y hy => by simp at hy ⊢; exact .inr hy)
    show (match nth fs p.1 with
      | none => none
      | some (off, ft) => match sizeT en ft with
        | none => none
        | some n => fill1 cs (ev en fr p.2) off n (fillS en fs fr ps)) = (match nth fs p.1 with
      | none => none
      | some (off, ft) => match sizeT en ft with
        | none => none
        | some n => fill1 cs (ev en fr' p.2) off n (fillS en fs fr' ps))
    rw [h1, show fillS en fs fr ps = fillS en fs fr' ps from funext fun cs => fillS_congr ps cs h2]
theorem fillA_congr {sz : Nat} : ∀ (ps : List (Nat × Operand)) (cs : List CV), Alike en fr fr' (ps.map (·.2)) → fillA en sz fr ps cs = fillA en sz fr' ps cs
  | [], cs, _ => rfl
  | p :: ps, cs, h => by
    have h1 : ev en fr p.2 = ev en fr' p.2 := h _ (by simp)
    have h2 : Alike en fr fr' (ps.map (·.2)) := h.sub (fun y hy => by simp at hy ⊢; exact .inr hy)
    show fill1 cs (ev en fr p.2) (Nat.mul p.1 sz) sz (fillA en sz fr ps) = fill1 cs (ev en fr' p.2) (Nat.mul p.1 sz) sz (fillA en sz fr' ps)
    rw [h1, show fillA en sz fr ps = fillA en sz fr' ps from funext fun cs => fillA_congr ps cs h2]
theorem optC_congr {d : Nat} {x : Option Operand} (h : Alike en fr fr' x.toList) : optC en fr d x = optC en fr' d x := by
  cases x with
  | none => rfl
  | some x => show natC (ev en fr x) = natC (ev en fr' x); rw [h x (by simp)]
theorem slC_congr {t : Nat} {x : CV} {lo hi mx : Option Operand} (h1 : Alike en fr fr' lo.toList) (h2 : Alike en fr fr' hi.toList) (h3 : Alike en fr fr' mx.toList) : slC en hp t x lo hi mx fr = slC en hp t x lo hi mx fr' := by
  have e1 : ∀ d, optC en fr d lo = optC en fr' d lo := fun d => optC_congr h1
  have e2 : ∀ d, optC en fr d hi = optC en fr' d hi := fun d => optC_congr h2
  cases mx with
  | none => simp only [slC, slS, slN, slE, slV, slA, e1, e2]
  | some m =>
    have e3 := h3 m (by simp)
    simp only [slC, slS, slN, slE, slV, slA, e1, e2, e3]
theorem flt_congr {o : Oper} (h : Alike en fr fr' o.op.operands.toList) : flt en hp fr o = flt en hp fr' o := by
  unfold flt
  cases ho : o.op <;> rw [ho] at h <;> simp only [fltX] <;> first | rfl | skip
  case move x => rw [h x (by simp [Op.operands])]
  case assign x => rw [h x (by simp [Op.operands])]
  case pick c x y => simp only [fPick, h c (by simp [Op.operands]), h x (by simp [Op.operands]), h y (by simp [Op.operands])]
  case binOp op t x y yt => rw [h x (by simp [Op.operands]), h y (by simp [Op.operands])]
  case unOp op t x => rw [h x (by simp [Op.operands])]
  case load t x => simp only [fLoad, h x (by simp [Op.operands])]
  case fieldAddr t x f => simp only [fFieldA, h x (by simp [Op.operands])]
  case field t x f => simp only [fField, h x (by simp [Op.operands])]
  case indexAddr t x y => simp only [fIndexA, h x (by simp [Op.operands]), h y (by simp [Op.operands])]
  case index t x y => simp only [fIndex, h x (by simp [Op.operands]), h y (by simp [Op.operands])]
  case extract x i => simp only [fExtract, h x (by simp [Op.operands])]
  case nilCheck x => simp only [fNil, h x (by simp [Op.operands])]
  case slice t x lo hi mx =>
    rw [h x (by simp [Op.operands])]
    exact slC_congr (h.sub fun y hy => by simp [Op.operands] at hy ⊢; simp [hy]) (h.sub fun y hy => by simp [Op.operands] at hy ⊢; simp [hy]) (h.sub fun y hy => by simp [Op.operands] at hy ⊢; simp [hy])
  case convert s d x => rw [h x (by simp [Op.operands])]
  case makeInterface t x => simp only [fIface, h x (by simp [Op.operands])]
  case makeFunc f A C =>
    have h1 : Alike en fr fr' A.toList := h.sub fun y hy => by simp [Op.operands] at hy ⊢; exact .inl hy
    have h2 : Alike en fr fr' C.toList := h.sub fun y hy => by simp [Op.operands] at hy ⊢; exact .inr hy
    simp only [fFunc, h1.map, h2.map]
  case build t ps =>
    have h1 : Alike en fr fr' (ps.toList.map (·.2)) := h.sub fun y hy => by simpa [Op.operands] using hy
    have e1 : ∀ fs cs, fillS en fs fr ps.toList cs = fillS en fs fr' ps.toList cs := fun fs cs => fillS_congr _ _ h1
    have e2 : ∀ sz cs, fillA en sz fr ps.toList cs = fillA en sz fr' ps.toList cs := fun sz cs => fillA_congr _ _ h1
    simp only [fBuild, e1, e2]
  case lookup t x y ok => simp only [fLook, h x (by simp [Op.operands]), h y (by simp [Op.operands])]
  case call c =>
    cases hc : c.callee <;> simp only
    rename_i b
    have h1 : Alike en fr fr' c.args.toList := h.sub fun y hy => by simp [Op.operands, Call.operands, hc] at hy ⊢; first | exact hy | exact .inl hy | exact .inr hy
    have h2 : ∀ x, c.args.toList = [x] → ev en fr x = ev en fr' x := fun x e => h1 x (by rw [e]; simp)
    cases b <;> simp only [fltB] <;> first | rfl | skip
    all_goals (generalize c.args.toList = xs at h1 h2; generalize c.argTypes.toList = ts)
    · cases xs with
      | nil => rfl
      | cons x xs => cases xs with
        | nil => cases ts with
          | nil => rfl
          | cons t ts => cases ts with
            | nil => simp only [fCap, h2 x rfl]
            | cons t' ts => rfl
        | cons y xs => rfl
    · cases xs with
      | nil => rfl
      | cons x xs => cases xs with
        | nil => cases ts with
          | nil => rfl
          | cons t ts => cases ts with
            | nil => simp only [fLen, h2 x rfl]
            | cons t' ts => rfl
        | cons y xs => rfl
    · cases xs with
      | nil => rfl
      | cons x xs => simp only [fMM, h1 x (by simp), (h1.sub (ys := xs) fun y hy => by simp [hy]).map]
    · cases xs with
      | nil => rfl
      | cons x xs => simp only [fMM, h1 x (by simp), (h1.sub (ys := xs) fun y hy => by simp [hy]).map]
    · cases xs with
      | nil => rfl
      | cons x xs => cases xs with
        | nil => simp only [fSlD, h2 x rfl]
        | cons y xs => rfl

theorem viaF_congr {x : XF} (h : ∀ hp, x.f hp fr = x.f hp fr') : (viaF x).f z hp nx fr K = (viaF x).f z hp nx fr' K := by
  show (match x.f hp fr with | some v => K v hp nx | none => z) = (match x.f hp fr' with | some v => K v hp nx | none => z)
  rw [h]
theorem chg_congr {o : Oper} (h : Alike en fr fr' o.op.operands.toList) : chg z en hp nx fr o K = chg z en hp nx fr' o K := by
  have hvia : ∀ x : XF, (∀ hp fr, x.f hp fr = flt en hp fr o) → (viaF x).f z hp nx fr K = (viaF x).f z hp nx fr' K := fun x hx => viaF_congr fun hp => by rw [hx, hx]; exact flt_congr h
  unfold chg
  cases ho : o.op <;> simp only [chgX] <;> first | exact hvia _ (fun hp fr => by unfold flt; rw [ho]) | skip
  all_goals rw [ho] at h
  case box t x => simp only [cBox, h x (by simp [Op.operands])]
  case buildSlice t n ps =>
    have h1 : Alike en fr fr' (ps.toList.map (·.2)) := h.sub fun y hy => by simpa [Op.operands] using hy
    have e2 : ∀ sz cs, fillA en sz fr ps.toList cs = fillA en sz fr' ps.toList cs := fun sz cs => fillA_congr _ _ h1
    simp only [cBuildS, e2]
  case makeSlice t l c => simp only [cMakeS, h l (by simp [Op.operands]), h c (by simp [Op.operands])]
  case store t x y => simp only [cStore, h x (by simp [Op.operands]), h y (by simp [Op.operands])]
  case convert s d x => simp only [cConv, h x (by simp [Op.operands])]
  case makeMap t r => cases r <;> rfl
  case mapUpdate t x y u => simp only [cMapUp, h x (by simp [Op.operands]), h y (by simp [Op.operands]), h u (by simp [Op.operands])]
  case insert t x y u => simp only [cMapUp, h x (by simp [Op.operands]), h y (by simp [Op.operands]), h u (by simp [Op.operands])]
  case range t x => simp only [cRange, h x (by simp [Op.operands])]
  case next x s => simp only [cNext, h x (by simp [Op.operands])]
  case call c =>
    cases hc : c.callee <;> simp only
    rename_i b
    have h1 : Alike en fr fr' c.args.toList := h.sub fun y hy => by simp [Op.operands, Call.operands, hc] at hy ⊢; first | exact hy | exact .inl hy | exact .inr hy
    cases b <;> simp only [chgB] <;> first | exact hvia _ (fun hp fr => by unfold flt; rw [ho]; simp only [fltX, hc]) | skip
    all_goals (generalize c.args.toList = xs at h1; generalize c.argTypes.toList = ts)
    all_goals (
      cases xs with
      | nil => rfl
      | cons x xs =>
        have e1 := h1 x (by simp)
        cases xs with
        | nil => cases ts with
          | nil => rfl
          | cons t ts => cases ts with
            | nil => simp only [cAppend, cClear, cCopy, cUStr, e1]
            | cons t' ts => simp only [cAppend, cClear, cCopy, cUStr, e1]
        | cons y xs =>
          have e2 := h1 y (by simp)
          cases xs with
          | cons z xs => rfl
          | nil => cases ts with
            | nil => rfl
            | cons t ts => cases ts with
              | nil => rfl
              | cons t' ts => cases ts with
                | nil => simp only [cAppend, cClear, cCopy, cUStr, e1, e2]
                | cons t2 ts => rfl)
end
end Go.Cv
/- What leaves the heap alone gives the same with more objects. The same value. Frames with less. -/
namespace Go.Cv
open Go Go.RowKit

/-- More objects. -/
def More (hp hp' : Tr CO) : Prop := ∀ r o, hp.get r = some o → hp'.get r = some o
section
variable {en : En} {fr : Tr CV} {hp hp' : Tr CO} {v : CV}
theorem loadP_more (M : More hp hp') {t r g off : Nat} (h : loadP en t hp r g off = some v) : loadP en t hp' r g off = some v := by
  unfold loadP at h ⊢
  split at h
  · rename_i hr; rw [M _ _ hr]; exact h
  · cases h
theorem roomC_more (M : More hp hp') (r g off sz : Nat) : roomC hp r g off sz = roomC hp' r g off sz ∨ roomC hp r g off sz = 0 := by
  cases hr : hp.get r with
  | none => right; simp [roomC, hr]
  | some o => left; simp [roomC, hr, M _ _ hr]
theorem part2_more (M : More hp hp') {r g off l sz cap h a : Nat} (e : part2 hp r g off l sz cap h a = some v) : part2 hp' r g off l sz cap h a = some v := by
  rcases roomC_more M r g off sz with hr | hr
  · unfold part2 at e ⊢; rw [← hr]; exact e
  · unfold part2 at e ⊢
    rw [hr] at e
    cases hc : Nat.beq cap 0 <;> rw [hc] at e
    · exact e
    · cases hb : Nat.ble h l <;> rw [hb] at e
      · cases h with
        | zero => cases hb
        | succ h => cases e
      · exact e
theorem slC_more (M : More hp hp') {t : Nat} {x : CV} {lo hi mx : Option Operand} (h : slC en hp t x lo hi mx fr = some v) : slC en hp' t x lo hi mx fr = some v := by
  cases hT : en.T t with
  | none => simp [slC, hT] at h
  | some ti =>
    obtain ⟨k, n, b, zr⟩ := ti
    cases k <;> simp only [slC, hT] at h ⊢ <;> first | (cases h; done) | exact h | skip
    · cases x <;> simp only [slE] at h ⊢ <;> first | (cases h; done) | exact h | skip
      rename_i e r g off l sz cap
      cases hs : szOk en e sz <;> rw [hs] at h
      · cases h
      replace h : slV en hp r g off l sz cap lo hi mx fr = some v := h
      show slV en hp' r g off l sz cap lo hi mx fr = some v
      unfold slV at h ⊢
      cases h1 : optC en fr l hi <;> rw [h1] at h <;> try (cases h; done)
      cases h2 : optC en fr 0 lo <;> rw [h2] at h <;> try (cases h; done)
      cases mx with
      | some m => exact h
      | none => exact part2_more M h
    · cases x <;> simp only at h ⊢ <;> first | (cases h; done) | exact h | skip
      rename_i n' e r g off
      unfold slA at h ⊢
      cases mx with
      | some m => exact h
      | none =>
        cases h0 : sizeT en e with
        | none => rw [h0] at h; cases h
        | some s =>
          cases s with
          | zero => rw [h0] at h; cases h
          | succ sz =>
            rw [h0] at h
            cases h1 : optC en fr n' hi with
            | none => rw [h1] at h; cases h
            | some hh =>
              cases h2 : optC en fr 0 lo with
              | none => rw [h1, h2] at h; cases h
              | some a =>
                rw [h1, h2] at h
                replace h : (bif Nat.ble n' (roomC hp r g off (Nat.succ sz)) && Nat.ble 1 n' then partA r g off n' (Nat.succ sz) hh a else none) = some v := h
                show (bif Nat.ble n' (roomC hp' r g off (Nat.succ sz)) && Nat.ble 1 n' then partA r g off n' (Nat.succ sz) hh a else none) = some v
                rcases roomC_more M r g off (Nat.succ sz) with hr | hr
                · rw [← hr]; exact h
                · rw [hr] at h
                  cases n' with
                  | zero => cases h
                  | succ n' => cases h
theorem rowS_more (M : More hp hp') {r g off l n : Nat} (h : rowS hp r g off l = some n) : rowS hp' r g off l = some n := by
  unfold rowS at h ⊢
  split at h
  · rename_i hr; rw [M _ _ hr]; exact h
  · cases h
theorem convC_more (M : More hp hp') {s d : Nat} {x : CV} (h : convC en hp s d x = some v) : convC en hp' s d x = some v := by
  cases hT : en.T d with
  | none => simp [convC, hT] at h
  | some ti =>
    obtain ⟨k, n, b, zr⟩ := ti
    cases k <;> simp only [convC, hT] at h ⊢ <;> first | (cases h; done) | exact h | skip
    · -- strings
      unfold convT at h ⊢
      split at h
      · exact h
      · split at h
        · cases x <;> simp only [convB] at h ⊢ <;> first | (cases h; done) | exact h | skip
          split at h
          · rename_i hn; rw [rowS_more M hn]; exact h
          · cases h
        · cases h
      · cases h
    · -- pointers
      unfold convQ at h ⊢
      split at h
      · split at h
        · exact h
        · split at h
          · rename_i hs hr; rw [M _ _ hr, hs]; exact h
          · cases h
        · cases h
      · cases h
    · unfold convP at h ⊢
      split at h
      · split at h
        · exact h
        · split at h
          · rename_i hs hr; rw [M _ _ hr, hs]; exact h
          · cases h
        · cases h
      · cases h
theorem lookM_more (M : More hp hp') {x k z : CV} {ok : Bool} (h : lookM hp x k z ok = some v) : lookM hp' x k z ok = some v := by
  unfold lookM at h ⊢
  split at h
  · exact h
  · split at h
    · rename_i hr; rw [M _ _ hr]; exact h
    · cases h
  · cases h
theorem lenC_more (M : More hp hp') {k : TK} {x : CV} (h : lenC k hp x = some v) : lenC k hp' x = some v := by
  cases k <;> simp only [lenC] at h ⊢ <;> first | (cases h; done) | exact h | skip
  cases x <;> simp only at h ⊢ <;> first | (cases h; done) | exact h | skip
  split at h
  · rename_i hr; rw [M _ _ hr]; exact h
  · cases h
theorem flt_more (M : More hp hp') {o : Oper} (h : flt en hp fr o = some v) : flt en hp' fr o = some v := by
  unfold flt at h ⊢
  cases ho : o.op <;> rw [ho] at h <;> simp only [fltX] at h ⊢ <;> first | exact h | skip
  case load t x =>
    unfold fLoad at h ⊢
    split at h
    · exact loadP_more M h
    · cases h
  case slice t x lo hi mx => exact slC_more M h
  case convert s d x => exact convC_more M h
  case lookup t x y ok =>
    unfold fLook at h ⊢
    split at h
    · rename_i kt e n b zr hT
      split at h
      · rename_i z hz
        cases hk : keyOk en kt (ev en fr y) <;> rw [hk] at h
        · cases h
        · exact lookM_more M h
      · cases h
    · cases h
  case call c =>
    cases hc : c.callee <;> rw [hc] at h <;> simp only at h ⊢ <;> try (cases h; done)
    rename_i b
    cases b <;> simp only [fltB] at h ⊢ <;> first | exact h | skip
    unfold fLen at h ⊢
    split at h
    · split at h
      · exact lenC_more M h
      · cases h
    · cases h
end

/-! ### the same value -/
theorem sameL_eq {ih : CV → CV → Bool} (hi : ∀ x y, ih x y = true → x = y) : ∀ xs ys : List CV, sameL ih xs ys = true → xs = ys
  | [], [], _ => rfl
  | [], _ :: _, h => by cases h
  | _ :: _, [], h => by cases h
  | x :: xs, y :: ys, h => by
    replace h : (bif ih x y then sameL ih xs ys else false) = true := h
    cases hb : ih x y <;> rw [hb] at h
    · cases h
    · rw [hi x y hb, sameL_eq hi xs ys h]
theorem sameP_eq {r g o r' g' o' : Nat} (h : sameP r g o r' g' o' = true) : r = r' ∧ g = g' ∧ o = o' := by
  unfold sameP at h
  simp only [Bool.and_eq_true, beq_iff] at h
  exact ⟨h.1.1, h.1.2, h.2⟩
theorem sameC_eq : ∀ (d : Nat) (x y : CV), sameC d x y = true → x = y
  | 0, x, y, h => by cases h
  | d + 1, x, y, h => by
    have ih := sameL_eq (sameC_eq d)
    cases x <;> cases y <;> first | (cases h; done) | rfl | skip
    case b.b s t => cases s <;> cases t <;> first | rfl | cases h
    case i.i j a k c =>
      replace h : (bif eqK j k then eqI a c else false) = true := h
      cases hb : eqK j k <;> rw [hb] at h
      · cases h
      · have h : eqI a c = true := h
        rw [eqI_eq, beq_iff_eq] at h
        rw [eqK_iff.1 hb, h]
    case s.s l n l' n' =>
      replace h : (Nat.beq l l' && Nat.beq n n') = true := h
      simp only [Bool.and_eq_true, beq_iff] at h
      rw [h.1, h.2]
    case p.p r g o r' g' o' => obtain ⟨rfl, rfl, rfl⟩ := sameP_eq h; rfl
    case sl.sl r g o l z c r' g' o' l' z' c' =>
      replace h : (sameP r g o r' g' o' && sameP l z c l' z' c') = true := h
      rw [Bool.and_eq_true] at h
      obtain ⟨rfl, rfl, rfl⟩ := sameP_eq h.1
      obtain ⟨rfl, rfl, rfl⟩ := sameP_eq h.2
      rfl
    case m.m r r' => rw [(beq_iff _ _).1 h]
    case f.f f xs zs f' ys us =>
      replace h : (bif Nat.beq f f' then sameL (sameC d) xs ys && sameL (sameC d) zs us else false) = true := h
      cases hb : Nat.beq f f' <;> rw [hb] at h
      · cases h
      · have h : (sameL (sameC d) xs ys && sameL (sameC d) zs us) = true := h
        rw [Bool.and_eq_true] at h
        rw [(beq_iff _ _).1 hb, ih _ _ h.1, ih _ _ h.2]
    case yl.yl l l' => rw [(beq_iff _ _).1 h]
    case ifc.ifc t x t' y =>
      replace h : (bif Nat.beq t t' then sameC d x y else false) = true := h
      cases hb : Nat.beq t t' <;> rw [hb] at h
      · cases h
      · rw [(beq_iff _ _).1 hb, sameC_eq d x y h]
    case agg.agg xs ys => rw [ih _ _ h]
    case tup.tup xs ys => rw [ih _ _ h]

/-! ### a frame with less -/
/-- Without what lies at a way. -/
def Tr.delP {α : Type} : Pa → Tr α → Tr α
  | _, .e => .e
  | .h, .n _ l r => .n none l r
  | .l p, .n v l r => .n v (Tr.delP p l) r
  | .r p, .n v l r => .n v l (Tr.delP p r)
theorem Tr.delP_same {α : Type} : ∀ (p : Pa) (t : Tr α), (Tr.delP p t).getP p = none := by
  intro p
  induction p with
  | h => intro t; cases t <;> rfl
  | l p ih => intro t; cases t with
    | e => rfl
    | n v l r => exact ih l
  | r p ih => intro t; cases t with
    | e => rfl
    | n v l r => exact ih r
theorem Tr.delP_ne {α : Type} : ∀ (p p' : Pa) (t : Tr α), p' ≠ p → (Tr.delP p t).getP p' = t.getP p' := by
  intro p
  induction p with
  | h => intro p' t hn; cases t with
    | e => rfl
    | n v l r => cases p' with
      | h => exact (hn rfl).elim
      | l q => rfl
      | r q => rfl
  | l p ih => intro p' t hn; cases t with
    | e => rfl
    | n v l r => cases p' with
      | h => rfl
      | l q => exact ih q l fun e => hn (by rw [e])
      | r q => rfl
  | r p ih => intro p' t hn; cases t with
    | e => rfl
    | n v l r => cases p' with
      | h => rfl
      | l q => rfl
      | r q => exact ih q r fun e => hn (by rw [e])
theorem Tr.del_ex {α : Type} : ∀ (ts : List Nat) (t : Tr α), (∀ k ∈ ts, k < keyTop) → ∃ t' : Tr α, ∀ k, (k ∈ ts → t'.get k = none) ∧ (k ∉ ts → t'.get k = t.get k)
  | [], t, _ => ⟨t, fun k => ⟨fun h => (List.not_mem_nil h).elim, fun _ => rfl⟩⟩
  | a :: ts, t, h => by
    obtain ⟨t', h'⟩ := Tr.del_ex ts t (fun k hk => h k (by simp [hk]))
    have hne : ∀ k, k ≠ a → (Tr.delP (path a) t').get k = t'.get k := fun k hk => Tr.delP_ne _ _ _ (fun e => hk (path_eq (h a (by simp)) e))
    refine ⟨Tr.delP (path a) t', fun k => ⟨fun hk => ?_, fun hk => ?_⟩⟩
    · by_cases he : k = a
      · subst he; exact Tr.delP_same _ _
      · rw [hne k he]
        exact (h' k).1 (by simpa [he] using hk)
    · have h1 : k ≠ a := fun e => hk (by simp [e])
      rw [hne k h1]
      exact (h' k).2 (fun e => hk (by simp [e]))
end Go.Cv
