/- Part of the proofs of the statements about tokens (layer 5): contracts of functions; it has no conditions of its own. -/
import Derived.Lib.Strings
import Derived.Lib.Slices
import Derived.Lib.Walk
import Derived.Lib.Builder
import Derived.Lib.AppendStr
import Derived.Lib.UnsafeStr
import Derived.WalkKit
import Derived.Laws.Externs
import Derived.Laws.IdiomCopy
import Derived.Shelf.Strings.Trim
import Derived.Shelf.Strings.SlTrimAscii
import Derived.Shelf.Strings.Search2
import Derived.Shelf.Strconv.Atoi
import Derived.Shelf.SlicesE.DeleteFunc
import Derived.Test.YtfchfhjpldppjaaGreatDoorTa
namespace Go.Proofs.YtfchfhjpldppjaaGreatDoor
open Go Go.RowKit Go.Sx
set_option maxHeartbeats 2000000
set_option maxRecDepth 100000
theorem bSize : (Tryz.prog.info? 62).map (·.size) = some 2 := by kernel_rfl
theorem bLies : liesAt Tryz.prog Tryz.prog.depth 62 (2 / Tryz.prog.cellsOf 62) 0 62 1 = true := by kernel_rfl
theorem bUnd : Tryz.prog.underlying 60 = some (.pointer 62) := by kernel_rfl
theorem bUnsafe : Tryz.prog.underlying 114 = some .unsafePointer := by kernel_rfl
theorem bByte : (Tryz.prog.info? 5).map (fun i => (i.zero, i.size, i.bytes)) = some (some (.int .u8 0), 1, 1) := by kernel_rfl
theorem bSlice : Tryz.prog.underlying 43 = some (.slice 5) := by kernel_rfl
theorem copyCheck_used (b : Nat) (w : World) (h0 : w.cell? ⟨b, 0, none⟩ = some (.pointer (some ⟨b, 0, none⟩))) :
    Calls Tryz.prog 77 #[.pointer (some ⟨b, 0, none⟩)] w fun e w' => e = .returned (.tuple #[]) ∧ w' = w := by
  obtain ⟨j, hj, _⟩ := Option.map_eq_some_iff.1 bSize
  go_enter Tryz.func77, Tryz.ntmps77
  go_wp2
  rw [Lib.run_neq_ptr_same w _ bUnd hj]
  go_wp2
  go_end0
  exact ⟨rfl, rfl⟩
theorem copyCheck_fresh (b : Nat) (w : World) (h0 : w.cell? ⟨b, 0, none⟩ = some (.pointer none)) (hsh : w.shape? b = some (62, 2)) (hfz : w.frozen? ⟨b, 0, none⟩ = false) :
    Calls Tryz.prog 77 #[.pointer (some ⟨b, 0, none⟩)] w fun e w' => e = .returned (.tuple #[]) ∧ w' = w.setCell ⟨b, 0, none⟩ (.pointer (some ⟨b, 0, none⟩)) := by
  obtain ⟨j, hj, hjs⟩ := Option.map_eq_some_iff.1 bSize
  go_enter Tryz.func77, Tryz.ntmps77
  go_wp2
  rw [Lib.run_to_unsafe w ⟨b, 0, none⟩ bUnd bUnsafe hj (by rw [hjs]; decide) hsh (Nat.zero_lt_succ 1)]
  simp only [Result.andThen]
  rw [Oper.upon_value]
  go_wp2
  rw [run_callFunc_extern Tryz.func102 (by kernel_rfl) (by kernel_rfl) (by kernel_rfl) (e := Extern.AbiNoEscape.same) (by kernel_rfl)]
  rw [Lib.run_noEscape]
  simp only [Result.andThen]
  rw [Oper.upon_value]
  go_wp2
  rw [Lib.run_from_unsafe w ⟨b, 0, none⟩ bUnsafe bUnd hj hsh bLies]
  simp only [Result.andThen]
  rw [Oper.upon_value]
  go_wp2
  go_end0
  exact ⟨rfl, rfl⟩
theorem wpl_append {P : Program} {ops : Array Oper} {rest : List Oper} {o : Oper} {a : Act} {w : World} {Q : Exit → Act → World → Prop} (hgd : o.guard = none) (s x : Operand) (t : TypeId)
    (ho : o.op = .call { callee := .builtin .append, args := #[s, x], argTypes := #[t, t] }) {e : TypeId} {ti : TI} {sz : Nat} (hu : P.underlying t = some (.slice e)) (he : TIok P e ti) (hsz : ti.size = sz) (hz0 : 0 < sz)
    {v : Value} {n : Nat} {xs : List Value} (hs : a.eval s = v) (hown : w.ownsRow 0 e sz v n xs) {m : Nat} {news : List Value} (hsrc : srcIs w (a.eval x) m sz news) (h63 : n + m ≤ maxLen) (hb : (n + m) * ti.bytes ≤ 140737488355328)
    (h : ∀ v' w', w'.ownsRow 0 e sz v' (n + m) (xs ++ news) → ((v'.ownBlock = v.ownBlock ∧ w.grownBy w' v.ownBlock) ∨ (v'.ownBlock = some w.heap.size ∧ w.grownBy w' none)) → (∃ a c, v' = .slice a (n + m) c) → wpList P ops Q rest (a.put o.dst v') w') : wpList P ops Q (o :: rest) a w :=
  wpList_plain hgd fun _ hK => by
    obtain ⟨v', w', hr, h1, _, h2, h3, _⟩ := append_law (P := P) (ty := o.type) hu he hsz hz0 hown hsrc h63 hb
    unfold Oper.wp execOp
    simp only [ho, resolve, invoke, builtin, Sem.run_bind, Sem.run_pure, Result.andThen_ok, List.map_toArray, List.map_cons, List.map_nil, hs, hr]
    exact hK _ _ (h v' w' h1 h2 h3)
theorem tiByte : TIok Tryz.prog 5 ⟨.int .u8, 1, 1, [.int .u8 (.l 0)]⟩ := tiB_ok (ttB_look tt_ok (by rfl))
/-- What a written builder's world is to the world before. -/
structure BKept (b : Nat) (v v' : Value) (w w' : World) : Prop where
  os : w'.os = w.os
  tape : w'.tape = w.tape
  output : w'.output = w.output
  size : w.heap.size ≤ w'.heap.size
  block : ∀ k, k < w.heap.size → k ≠ b → some k ≠ v.ownBlock → w'.heap[k]? = w.heap[k]?
  new : ∀ k, v'.ownBlock = some k → v.ownBlock = some k ∨ w.heap.size ≤ k
theorem copyCheck_run (b : Nat) (p v : Value) (s : List UInt8) (w : World) (hbk : w.heap[b]? = some (.cells #[p, v] 62 (0, 0))) (hp : p = .pointer none ∨ p = .pointer (some ⟨b, 0, none⟩)) (hown : w.ownsRow 0 5 1 v s.length (Lib.byteCells s)) (hne : v.ownBlock ≠ some b) :
    Calls Tryz.prog 77 #[.pointer (some ⟨b, 0, none⟩)] w fun e w' => e = .returned (.tuple #[]) ∧ w'.heap[b]? = some (.cells #[.pointer (some ⟨b, 0, none⟩), v] 62 (0, 0)) ∧ w'.ownsRow 0 5 1 v s.length (Lib.byteCells s) ∧ w'.os = w.os ∧ w'.tape = w.tape ∧ w'.output = w.output ∧ w'.heap.size = w.heap.size ∧ ∀ k, k ≠ b → w'.heap[k]? = w.heap[k]? := by
  rcases hp with rfl | rfl
  · have hlt : b < w.heap.size := by
      rcases Nat.lt_or_ge b w.heap.size with h' | h'
      · exact h'
      · simp [Array.getElem?_eq_none h'] at hbk
    refine (copyCheck_fresh b w (by rw [Lib.cell_of_heap hbk]; rfl) (by simp [World.shape?, hbk]) (Lib.frozen_of_heap hbk 0)).mono ?_
    rintro e w' ⟨rfl, rfl⟩
    refine ⟨rfl, by simp [World.setCell, Array.getElem?_modify, hbk], ?_, rfl, rfl, rfl, by simp [World.setCell], fun k hk => RowKit.Below.heap_setCell _ _ _ _ (fun e => hk (by simp [e]))⟩
    refine hown.kept (row := some b) ⟨rfl, rfl, rfl, by simp [World.setCell], fun k _ hk => RowKit.Below.heap_setCell _ _ _ _ (fun e => hk (by simp [e]))⟩ (Or.inr hne)
  · refine (copyCheck_used b w (by rw [Lib.cell_of_heap hbk]; rfl)).mono ?_
    rintro e w' ⟨rfl, rfl⟩
    exact ⟨rfl, hbk, hown, rfl, rfl, rfl, rfl, fun _ _ => rfl⟩
theorem writeByte_run (b : Nat) (p v : Value) (s : List UInt8) (c : Int) (w : World) (hbk : w.heap[b]? = some (.cells #[p, v] 62 (0, 0))) (hp : p = .pointer none ∨ p = .pointer (some ⟨b, 0, none⟩)) (hown : w.ownsRow 0 5 1 v s.length (Lib.byteCells s)) (hne : v.ownBlock ≠ some b) (hlen : s.length + 1 ≤ 140737488355328) :
    Calls Tryz.prog 41 #[.pointer (some ⟨b, 0, none⟩), .int .u8 c] w fun e w' => e = .returned .nilIface ∧ ∃ v', w'.heap[b]? = some (.cells #[.pointer (some ⟨b, 0, none⟩), v'] 62 (0, 0)) ∧ w'.ownsRow 0 5 1 v' (s.length + 1) (Lib.byteCells s ++ [.int .u8 c]) ∧ v'.ownBlock ≠ some b ∧ BKept b v v' w w' := by
  go_enter Tryz.func41, Tryz.ntmps41
  go_wp2_with (go_at_call 77; refine (copyCheck_run b p v s _ hbk hp hown hne).mono ?_)
  rintro e w1 ⟨rfl, hbk1, hown1, k1, k2, k3, k4, k5⟩
  have c0 : w1.cell? ⟨b, 0, none⟩ = some (.pointer (some ⟨b, 0, none⟩)) := by rw [Lib.cell_of_heap hbk1]; rfl
  have c1 : w1.cell? ⟨b, 1, none⟩ = some v := by rw [Lib.cell_of_heap hbk1]; rfl
  go_wp2_with (at_builtin; refine wpl_append (v := v) (n := s.length) (xs := Lib.byteCells s) (e := 5) (sz := 1) (ti := ⟨.int .u8, 1, 1, [.int .u8 (.l 0)]⟩) (news := [.int .u8 c]) (m := 1) rfl _ _ 43 rfl bSlice tiByte rfl (by decide) rfl (hown1.alloc _) ?c1 ?c3 ?c4 ?_)
  case c1 =>
    refine ⟨rfl, fun u hu => by simp at hu; subst hu; rfl, .inr ⟨⟨w.heap.size, 0, none⟩, 1, rfl, fun j u hj => ?_⟩⟩
    match j, hj with
    | 0, hj => simp at hj; subst hj; rw [← k4]; simp [Addr.add]
  case c3 => unfold maxLen; omega
  intro v' w2 hown2 hblk ao co hv2
  have hlt : b < w1.heap.size := by
    rcases Nat.lt_or_ge b w1.heap.size with h' | h'
    · exact h'
    · simp [Array.getElem?_eq_none h'] at hbk1
  have hold : ∀ k, k < w1.heap.size → some k ≠ v.ownBlock → w2.heap[k]? = w1.heap[k]? := by
    intro k hk hne2
    have h1 : w2.heap[k]? = (w1.alloc (.cells #[.int .u8 c] 5)).heap[k]? := by
      rcases hblk with ⟨_, hg⟩ | ⟨_, hg⟩
      · exact hg.block k (by simp; omega) hne2
      · exact hg.block k (by simp; omega) (by simp)
    rw [h1, Lib.alloc_old w1 _ k hk]
  have hsz : w1.heap.size ≤ w2.heap.size := by
    rcases hblk with ⟨_, hg⟩ | ⟨_, hg⟩ <;> (have := hg.size; simp at this; omega)
  have hgos : w2.os = w1.os ∧ w2.tape = w1.tape ∧ w2.output = w1.output := by
    rcases hblk with ⟨_, hg⟩ | ⟨_, hg⟩ <;> exact ⟨hg.os, hg.tape, hg.output⟩
  have hne2 : v'.ownBlock ≠ some b := by
    rcases hblk with ⟨h, _⟩ | ⟨h, _⟩
    · rw [h]; exact hne
    · rw [h]; intro e; simp at e; omega
  have hb2 : w2.heap[b]? = some (.cells #[.pointer (some ⟨b, 0, none⟩), v] 62 (0, 0)) := by rw [hold b hlt (fun e => hne e.symm)]; exact hbk1
  have d0 : w2.cell? ⟨b, 0, none⟩ = some (.pointer (some ⟨b, 0, none⟩)) := by rw [Lib.cell_of_heap hb2]; rfl
  have d1 : w2.cell? ⟨b, 1, none⟩ = some v := by rw [Lib.cell_of_heap hb2]; rfl
  have f1 : w2.frozen? ⟨b, 1, none⟩ = false := Lib.frozen_of_heap hb2 1
  have hnew : ∀ k, v'.ownBlock = some k → v.ownBlock = some k ∨ w.heap.size ≤ k := by
    intro k hk
    rcases hblk with ⟨h, _⟩ | ⟨h, _⟩
    · left; rw [← h]; exact hk
    · right; rw [h] at hk; simp at hk; omega
  subst hv2
  go_wp2
  go_ret
  refine ⟨rfl, _, by simp [World.setCell, Array.getElem?_modify, hb2], ?_, hne2, ⟨?_, ?_, ?_, by simp [World.setCell]; omega, fun k h1 h2 h3 => ?_, hnew⟩⟩
  · exact hown2.kept (row := some b) ⟨rfl, rfl, rfl, by simp [World.setCell], fun k _ hk => RowKit.Below.heap_setCell _ _ _ _ (fun e => hk (by simp [e]))⟩ (Or.inr hne2)
  · exact hgos.1.trans k1
  · exact hgos.2.1.trans k2
  · exact hgos.2.2.trans k3
  · rw [RowKit.Below.heap_setCell _ _ _ _ (fun e => h2 (by simp [e])), hold k (by omega) h3]
    exact k5 k h2
end Go.Proofs.YtfchfhjpldppjaaGreatDoor
namespace Go.Proofs.YtfchfhjpldppjaaGreatDoor
open Go Go.RowKit Go.Sx
set_option maxHeartbeats 2000000
set_option maxRecDepth 100000
/-- A builder in its block. -/
structure BldAt (w : World) (b : Nat) (p v : Value) (s : List UInt8) : Prop where
  pp : p = .pointer none ∨ p = .pointer (some ⟨b, 0, none⟩)
  at_ : w.heap[b]? = some (.cells #[p, v] 62 (0, 0))
  own : w.ownsRow 0 5 1 v s.length (Lib.byteCells s)
  ne : v.ownBlock ≠ some b
def bldPost (w' : World) (b : Nat) (v' : Value) : Hl → Prop
  | .bld T e s' => T = 62 ∧ e = 5 ∧ ∃ p', BldAt w' b p' v' s'
  | .gone => v'.ownBlock = none
  | _ => False
theorem callsTo_bld {gl : List (Nat × SV)} {f : FuncId} {as1 : List SV} {s : List UInt8} {r : SV} {hl : Hl}
    (run : ∀ (E : Env) (b : Nat) (p v : Value) (w : World) (vals : List Value), BldAt w b p v s → RelL E w as1 vals → Calls Tryz.prog f ⟨.pointer (some ⟨b, 0, none⟩) :: vals⟩ w fun e w' => ∃ ev v', e = .returned ev ∧ (∀ E, Rel E w' r ev) ∧ BKept b v v' w w' ∧ bldPost w' b v' hl) :
    CallsTo Tryz.prog gl f (.ptr 0 0 :: as1) [.bld 62 5 s] r [hl] := by
  intro B E w vals hw0 hI0 hdom hb hg hh hr
  have h0 := hh 0
  obtain ⟨b, p, v, h1, h2, h3, h4, h5, h6, h7, h8⟩ := h0
  match vals, hr with
  | u :: vals, hr =>
    obtain ⟨b', hb', hu⟩ := (hr.2 0 _ u rfl rfl).ptr_inv
    obtain rfl : b = b' := Option.some.inj (h1.symm.trans hb')
    subst hu
    refine (run E b p v w vals ⟨h3, h4, h5, h6⟩ ⟨by have := hr.1; simpa using this, fun i s' u' a c => hr.2 (i + 1) s' u' a c⟩).mono ?_
    rintro e w' ⟨ev, v', rfl, hev, K, hpost⟩
    let E' : Env := ⟨E.β, E.τ, fun k => if v'.ownBlock = some k then some 0 else E.O k, E.κ, E.ζ, E.I⟩
    have hX : ∀ k, E.O k = some 0 → B.w0.heap.size ≤ k ∨ B.X k := fun k hk => (hb.Obd k 0 hk).2
    have hkeep : ∀ k, k < w.heap.size → (∀ j, E.O k = some j → j ≠ 0) → w'.heap[k]? = w.heap[k]? := by
      intro k hk hn
      refine K.block k hk (fun e => ?_) (fun e => ?_)
      · subst e; exact hn 0 h2 rfl
      · exact hn 0 (h8 k e.symm).1 rfl
    have hcell : ∀ b2 o, E.I b2 o → w'.cell? ⟨b2, o, none⟩ = w.cell? ⟨b2, o, none⟩ := by
      intro b2 o hi
      simp only [World.cell?]
      rw [K.block b2 (hb.Ibd b2 o hi) (fun e => by subst e; exact h7 o hi) (fun e => (h8 b2 e.symm).2 o hi)]
    have hown' : ∀ k, v'.ownBlock = some k → B.w0.heap.size ≤ k ∨ B.X k := by
      intro k hk
      rcases K.new k hk with h | h
      · exact hX k (h8 k h).1
      · left; have := hb.size; omega
    refine ⟨ev, E', rfl, ⟨K.os.trans hb.os, K.tape.trans hb.tape, K.output.trans hb.output, Nat.le_trans hb.size K.size, fun b2 hlt hnX => ?_, fun b2 o hi => ?_, fun b2 o hi => Nat.lt_of_lt_of_le (hb.Ibd b2 o hi) K.size, hb.Inew, fun b2 j hO => ?_, ⟨hb.β0.β, hb.β0.τ, hb.β0.ζ⟩⟩, fun k hk => ?_, hev E'⟩
    · rw [hkeep b2 (by have := hb.size; omega) (fun j hj e => ?_)]
      · exact hb.old b2 hlt hnX
      · subst e
        rcases hX b2 hj with h | h
        · omega
        · exact hnX h
    · obtain ⟨i1, i2⟩ := hb.I0 b2 o hi
      exact ⟨i1, by rw [hcell b2 o i1]; exact i2⟩
    · have hO : (if v'.ownBlock = some b2 then some 0 else E.O b2) = some j := hO
      split at hO
      · rename_i hv
        refine ⟨?_, hown' b2 hv⟩
        cases hl with
        | bld T e s' =>
          obtain ⟨_, _, p', hA⟩ := hpost
          exact (hA.own.lt b2 hv).2
        | gone =>
          have hn : v'.ownBlock = none := hpost
          rw [hn] at hv; cases hv
        | _ => exact hpost.elim
      · obtain ⟨o1, o2⟩ := hb.Obd b2 j hO
        exact ⟨Nat.lt_of_lt_of_le o1 K.size, o2⟩
    · obtain rfl : k = 0 := by simpa using hk
      cases hl with
      | bld T e s' =>
        obtain ⟨rfl, rfl, p', hA⟩ := hpost
        have hI : ∀ g, v'.ownBlock = some g → ∀ o, ¬ E.I g o := by
          intro g hg o hi
          rcases K.new g hg with h | h
          · exact (h8 g h).2 o hi
          · have := hb.Ibd g o hi; omega
        refine ⟨b, p', v', h1, ?_, hA.pp, hA.at_, hA.own, hA.ne, h7, fun g hg => ⟨?_, hI g hg⟩⟩
        · show (if v'.ownBlock = some b then some 0 else E.O b) = some 0
          rw [if_neg hA.ne]; exact h2
        · show (if v'.ownBlock = some g then some 0 else E.O g) = some 0
          rw [if_pos hg]
      | gone => trivial
      | _ => exact hpost.elim
  | [], hr => exact absurd hr.1 (by simp)
def spWB : FSpec := fun _ xs ls K => ∃ (s : List UInt8) (c : UInt8) (ci : Int), xs = [.ptr 0 0, .int .u8 (.a ci)] ∧ ls = [.bld 62 5 s] ∧ s.length + 1 ≤ 140737488355328 ∧ ci = (c.toNat : Int) ∧ ∀ t, t = s ++ [c] → K (.raw .nilIface) [.bld 62 5 t]
theorem writeByte_ok : FnOk Tryz.prog gl 41 spWB := by
  refine ⟨⟨Tryz.f41, _, Tryz.func41, rfl, by kernel_rfl⟩, fun xs ls K h => ?_⟩
  obtain ⟨s, c, ci, rfl, rfl, hs, rfl, h⟩ := h
  refine ⟨_, _, h _ rfl, callsTo_bld fun E b p v w vals A hr => ?_⟩
  obtain ⟨u, rfl, hu⟩ := relL_one hr
  rw [rel_int hu]
  refine (writeByte_run b p v s c.toNat w A.at_ A.pp A.own A.ne hs).mono ?_
  rintro e w' ⟨rfl, v', k1, k2, k3, k4⟩
  refine ⟨_, v', rfl, fun E => .ro (.raw rfl), k4, rfl, rfl, _, .inr rfl, k1, ?_, k3⟩
  have : Lib.byteCells (s ++ [c]) = Lib.byteCells s ++ [.int .u8 c.toNat] := by simp [Lib.byteCells]
  rw [this]
  simpa using k2
end Go.Proofs.YtfchfhjpldppjaaGreatDoor
namespace Go.Proofs.YtfchfhjpldppjaaGreatDoor
open Go Go.RowKit Go.Sx
set_option maxHeartbeats 2000000
set_option maxRecDepth 100000
theorem bPtr : Tryz.prog.underlying 96 = some (.pointer 5) := by kernel_rfl
theorem bCells : Tryz.prog.cellsOf 5 = 1 := by kernel_rfl
/-- What String leaves alone. -/
structure SKept (v : Value) (w w' : World) : Prop where
  os : w'.os = w.os
  tape : w'.tape = w.tape
  output : w'.output = w.output
  size : w.heap.size ≤ w'.heap.size
  block : ∀ k, k < w.heap.size → some k ≠ v.ownBlock → w'.heap[k]? = w.heap[k]?
theorem SKept.drew (v : Value) (w : World) : SKept v w w.drew := ⟨rfl, rfl, rfl, Nat.le_refl _, fun _ _ _ => rfl⟩
theorem unsafeString_none (W : World) (q : Option Addr) : (Builtin.unsafeString_ #[96, 3] 9 #[.pointer q, .int .i64 0]).run Tryz.prog W = .ok (.string .empty) W :=
  Lib.run_unsafeString_none W _ _ _ q
theorem string_some (b g cap : Nat) (p : Value) (cur : Array Value) (l : List UInt8) (w : World) (h0 : l ≠ []) (hbk : w.heap[b]? = some (.cells #[p, .slice (some ⟨g, 0, none⟩) l.length cap] 62 (0, 0))) (hg : w.heap[g]? = some (.cells cur 5 (0, 0)))
    (hown : w.ownsRow 0 5 1 (.slice (some ⟨g, 0, none⟩) l.length cap) l.length (Lib.byteCells l)) (hnc : l.length ≤ cap) (hcm : cap ≤ maxLen) (hcs : cur.size = cap * 1) :
    Calls Tryz.prog 42 #[.pointer (some ⟨b, 0, none⟩)] w fun e w' => e = .returned (.string ⟨l.toArray⟩) ∧ SKept (.slice (some ⟨g, 0, none⟩) l.length cap) w w' := by
  have hl0 : l.length ≠ 0 := by simpa using h0
  have c1 : w.drew.cell? ⟨b, 1, none⟩ = some (.slice (some ⟨g, 0, none⟩) l.length cap) := by
    have : w.drew.heap[b]? = some (.cells #[p, .slice (some ⟨g, 0, none⟩) l.length cap] 62 (0, 0)) := hbk
    rw [Lib.cell_of_heap this]; rfl
  have hSD : (Builtin.unsafeSliceData_ #[43] 96 #[.slice (some ⟨g, 0, none⟩) l.length cap]).run Tryz.prog w.drew = .ok (.pointer (some ⟨g, 0, none⟩)) w.drew :=
    Lib.run_unsafeSliceData_row _ _ _ _ _ _ (by omega)
  have hUS : (Builtin.unsafeString_ #[96, 3] 9 #[.pointer (some ⟨g, 0, none⟩), .int .i64 l.length]).run Tryz.prog w.drew = .ok (.string ⟨l.toArray⟩) (w.drew.freeze ⟨g, 0, none⟩ l.length) := by
    refine Lib.run_unsafeString_row w.drew 96 3 9 5 bPtr bCells g cur.size (by have hg' : w.drew.heap[g]? = some (.cells cur 5 (0, 0)) := hg; simp [World.shape?, hg']) l h0 (by omega) (by unfold maxLen at hcm; omega) ?_
    intro j x hx
    have := hown.cells (g := g) rfl j (.int .u8 x.toNat) (by simp [Lib.byteCells, hx])
    exact this
  have hfz : SKept (.slice (some ⟨g, 0, none⟩) l.length cap) w (w.drew.freeze ⟨g, 0, none⟩ l.length) := by
    unfold World.freeze
    rw [if_neg hl0]
    refine ⟨rfl, rfl, rfl, by simp, fun k hk hne => ?_⟩
    simp only [Array.getElem?_modify]
    rw [if_neg (fun e => hne (by rw [← e]; rfl))]
    rfl
  go_enter Tryz.func42, Tryz.ntmps42
  go_wp2
  go_region
  all_goals (go_wp2; go_ret; exact ⟨rfl, hfz⟩)
theorem string_nil (b : Nat) (p : Value) (w : World) (hbk : w.heap[b]? = some (.cells #[p, .slice none 0 0] 62 (0, 0))) :
    Calls Tryz.prog 42 #[.pointer (some ⟨b, 0, none⟩)] w fun e w' => e = .returned (.string ⟨#[]⟩) ∧ SKept (.slice none 0 0) w w' := by
  have hUS := unsafeString_none
  have c1 : w.drew.cell? ⟨b, 1, none⟩ = some (.slice none 0 0) := by
    have : w.drew.heap[b]? = some (.cells #[p, .slice none 0 0] 62 (0, 0)) := hbk
    rw [Lib.cell_of_heap this]; rfl
  have hSD : (Builtin.unsafeSliceData_ #[43] 96 #[.slice none 0 0]).run Tryz.prog w.drew = .ok (.pointer none) w.drew := rfl
  go_enter Tryz.func42, Tryz.ntmps42
  go_wp2
  go_region
  all_goals (go_wp2; go_ret; exact ⟨rfl, SKept.drew _ w⟩)
theorem string_room (b g cap : Nat) (p : Value) (w : World) (hc0 : cap ≠ 0) (hbk : w.heap[b]? = some (.cells #[p, .slice (some ⟨g, 0, none⟩) 0 cap] 62 (0, 0))) :
    Calls Tryz.prog 42 #[.pointer (some ⟨b, 0, none⟩)] w fun e w' => e = .returned (.string ⟨#[]⟩) ∧ SKept (.slice (some ⟨g, 0, none⟩) 0 cap) w w' := by
  have hUS := unsafeString_none
  have c1 : w.drew.cell? ⟨b, 1, none⟩ = some (.slice (some ⟨g, 0, none⟩) 0 cap) := by
    have : w.drew.heap[b]? = some (.cells #[p, .slice (some ⟨g, 0, none⟩) 0 cap] 62 (0, 0)) := hbk
    rw [Lib.cell_of_heap this]; rfl
  have hSD : (Builtin.unsafeSliceData_ #[43] 96 #[.slice (some ⟨g, 0, none⟩) 0 cap]).run Tryz.prog w.drew = .ok (.pointer (some ⟨g, 0, none⟩)) w.drew :=
    Lib.run_unsafeSliceData_row _ _ _ _ _ _ hc0
  clear hc0
  go_enter Tryz.func42, Tryz.ntmps42
  go_wp2
  go_region
  all_goals (go_wp2; go_ret; exact ⟨rfl, SKept.drew _ w⟩)
theorem string_noroom (b g : Nat) (p : Value) (cur : Array Value) (w : World) (hbk : w.heap[b]? = some (.cells #[p, .slice (some ⟨g, 0, none⟩) 0 0] 62 (0, 0))) (hg : w.heap[g]? = some (.cells cur 5 (0, 0))) :
    Calls Tryz.prog 42 #[.pointer (some ⟨b, 0, none⟩)] w fun e w' => e = .returned (.string ⟨#[]⟩) ∧ SKept (.slice (some ⟨g, 0, none⟩) 0 0) w w' := by
  have hUS := unsafeString_none
  have hlt : b < w.heap.size := by
    rcases Nat.lt_or_ge b w.heap.size with h' | h'
    · exact h'
    · simp [Array.getElem?_eq_none h'] at hbk
  have c1 : w.drew.cell? ⟨b, 1, none⟩ = some (.slice (some ⟨g, 0, none⟩) 0 0) := by
    have : w.drew.heap[b]? = some (.cells #[p, .slice (some ⟨g, 0, none⟩) 0 0] 62 (0, 0)) := hbk
    rw [Lib.cell_of_heap this]; rfl
  have hSD : (Builtin.unsafeSliceData_ #[43] 96 #[.slice (some ⟨g, 0, none⟩) 0 0]).run Tryz.prog w.drew = .ok (.pointer (some ⟨w.drew.heap.size, 0, none⟩)) (w.drew.alloc (.view ⟨g, 0, none⟩ 5)) :=
    Lib.run_unsafeSliceData_zero w.drew _ _ 5 bPtr ⟨g, 0, none⟩ 0 (5, cur.size) (by have hg' : w.drew.heap[g]? = some (.cells cur 5 (0, 0)) := hg; simp [World.shape?, hg'])
  have c2 : (w.drew.alloc (.view ⟨g, 0, none⟩ 5)).cell? ⟨b, 1, none⟩ = some (.slice (some ⟨g, 0, none⟩) 0 0) := by
    have : (w.drew.alloc (.view ⟨g, 0, none⟩ 5)).heap[b]? = _ := (Lib.alloc_old w.drew _ b hlt).trans hbk
    rw [Lib.cell_of_heap this]; rfl
  have c3 : (w.alloc (.view ⟨g, 0, none⟩ 5)).drew.cell? ⟨b, 1, none⟩ = some (.slice (some ⟨g, 0, none⟩) 0 0) := c2
  have c0 : w.cell? ⟨b, 1, none⟩ = some (.slice (some ⟨g, 0, none⟩) 0 0) := c1
  have hk : SKept (.slice (some ⟨g, 0, none⟩) 0 0) w (w.alloc (.view ⟨g, 0, none⟩ 5)).drew := ⟨rfl, rfl, rfl, by show w.heap.size ≤ (w.heap.push _).size; simp, fun k hk _ => Lib.alloc_old w _ k hk⟩
  go_enter Tryz.func42, Tryz.ntmps42
  go_wp2
  go_region
  all_goals (go_wp2; go_ret; exact ⟨rfl, hk⟩)
theorem SKept.b {v : Value} {b : Nat} {w w' : World} (h : SKept v w w') : BKept b v .nilIface w w' :=
  ⟨h.os, h.tape, h.output, h.size, fun k h1 _ h3 => h.block k h1 h3, fun k hk => by simp [Value.ownBlock] at hk⟩
theorem string_run (b : Nat) (p v : Value) (s : List UInt8) (w : World) (A : BldAt w b p v s) :
    Calls Tryz.prog 42 #[.pointer (some ⟨b, 0, none⟩)] w fun e w' => e = .returned (.string (Sx.bytes s)) ∧ SKept v w w' := by
  have hown := A.own
  have hbk := A.at_
  rcases hown.2 with ⟨rfl, h0⟩ | ⟨g, cap, cur, rfl, _, hg, hnc, hcm, hcs, _⟩
  · obtain rfl : s = [] := List.eq_nil_of_length_eq_zero h0
    exact string_nil b p w hbk
  · by_cases h0 : s = []
    · subst h0
      by_cases hc : cap = 0
      · subst hc; exact string_noroom b g p cur w hbk hg
      · exact string_room b g cap p w hc hbk
    · exact string_some b g cap p cur s w h0 hbk hg hown hnc hcm hcs
def spBS : FSpec := fun _ xs ls K => ∃ (s : List UInt8), xs = [.ptr 0 0] ∧ ls = [.bld 62 5 s] ∧ K (.str s) [.gone]
theorem string_ok : FnOk Tryz.prog gl 42 spBS := by
  refine ⟨⟨Tryz.f42, _, Tryz.func42, rfl, by kernel_rfl⟩, fun xs ls K h => ?_⟩
  obtain ⟨s, rfl, rfl, h⟩ := h
  refine ⟨_, _, h, callsTo_bld (as1 := []) fun E b p v w vals A hr => ?_⟩
  obtain rfl : vals = [] := List.eq_nil_of_length_eq_zero (by have := hr.1; simpa using this.symm)
  refine (string_run b p v s w A).mono ?_
  rintro e w' ⟨rfl, k⟩
  exact ⟨_, .nilIface, rfl, fun E => .ro (.str rfl), k.b, rfl⟩
theorem len_run (b : Nat) (p v : Value) (s : List UInt8) (w : World) (A : BldAt w b p v s) :
    Calls Tryz.prog 45 #[.pointer (some ⟨b, 0, none⟩)] w fun e w' => e = .returned (.int .i64 s.length) ∧ w' = w := by
  have hown := A.own
  have hbk := A.at_
  obtain ⟨ao, cap, rfl⟩ : ∃ ao cap, v = .slice ao s.length cap := by
    rcases hown.2 with ⟨hv, h0⟩ | ⟨g, cap, cur, hv, _⟩
    · exact ⟨none, 0, by rw [hv, h0]⟩
    · exact ⟨_, _, hv⟩
  have c1 : w.cell? ⟨b, 1, none⟩ = some (.slice ao s.length cap) := by rw [Lib.cell_of_heap hbk]; rfl
  go_enter Tryz.func45, Tryz.ntmps45
  go_wp2
  go_ret
  exact ⟨rfl, rfl⟩
def spBL : FSpec := fun _ xs ls K => ∃ (s : List UInt8), xs = [.ptr 0 0] ∧ ls = [.bld 62 5 s] ∧ ∀ n : Int, n = s.length → K (.int .i64 (.a n)) [.bld 62 5 s]
theorem len_ok : FnOk Tryz.prog gl 45 spBL := by
  refine ⟨⟨Tryz.f45, _, Tryz.func45, rfl, by kernel_rfl⟩, fun xs ls K h => ?_⟩
  obtain ⟨s, rfl, rfl, h⟩ := h
  refine ⟨_, _, h _ rfl, callsTo_bld (as1 := []) fun E b p v w vals A hr => ?_⟩
  obtain rfl : vals = [] := List.eq_nil_of_length_eq_zero (by have := hr.1; simpa using this.symm)
  refine (len_run b p v s w A).mono ?_
  rintro e w' ⟨rfl, rfl⟩
  exact ⟨_, v, rfl, fun E => .ro (.int rfl), ⟨rfl, rfl, rfl, Nat.le_refl _, fun _ _ _ _ => rfl, fun k h => .inl h⟩, rfl, rfl, p, A⟩
end Go.Proofs.YtfchfhjpldppjaaGreatDoor
namespace Go.Proofs.YtfchfhjpldppjaaGreatDoor
open Go.Sx
set_option maxRecDepth 100000
set_option maxHeartbeats 2000000
/-! The program's bytes are the document's. -/
theorem kinds_eq : ∀ n : Fin 256, someI (n.1 : Int) = plainI (n.1 : Int) ∧ (kindI (n.1 : Int) == 3) = letterI (n.1 : Int) := by decide
theorem someI_byte (c : UInt8) : someI (c.toNat : Int) = plainI (c.toNat : Int) := (kinds_eq ⟨c.toNat, c.toNat_lt⟩).1
theorem kind3_byte (c : UInt8) : (kindI (c.toNat : Int) == 3) = letterI (c.toNat : Int) := (kinds_eq ⟨c.toNat, c.toNat_lt⟩).2
theorem token_eq (s : List UInt8) : tokenF s = refTokenF s := by
  unfold tokenF refTokenF allI
  rw [Bool.and_comm]
  congr 1
  · rw [Bool.eq_iff_iff]
    simp
    omega
  · congr 1
    funext c
    exact kind3_byte c
theorem plain_eq (s : List UInt8) : plainF s = plainsF s := by
  unfold plainF plainsF anyB
  rw [Bool.eq_iff_iff]
  simp only [Bool.not_eq_true', List.any_eq_false, List.all_eq_true]
  constructor
  · intro h c hc
    have := h c hc
    rw [← someI_byte, someI]
    unfold noneI at this
    simpa using this
  · intro h c hc
    have := h c hc
    rw [← someI_byte, someI] at this
    unfold noneI
    simpa using this
theorem qdF_congr {p q : Int → Bool} (h : ∀ c : UInt8, p (c.toNat : Int) = q (c.toNat : Int)) : ∀ (n : Nat) (r : List UInt8), r.length ≤ n → qdF p r = qdF q r
  | _, [], _ => rfl
  | 0, c :: r, hl => by simp at hl
  | n + 1, c :: r, hl => by
    simp only [List.length_cons] at hl
    rw [qdF_cons, qdF_cons, h c, qdF_congr h n r (by omega)]
    cases r with
    | nil => rfl
    | cons d r' =>
      simp only
      rw [h d, qdF_congr h n r' (by simp at hl; omega)]
theorem qdF_some (r : List UInt8) : qdF someI r = qdF plainI r := qdF_congr someI_byte _ r (Nat.le_refl _)
theorem partsM_congr {p q : Int → Bool} (h : ∀ c : UInt8, p (c.toNat : Int) = q (c.toNat : Int)) (y : Int) : ∀ (r : List UInt8) (md : Nat) (cur : List UInt8), partsM p y r md cur = partsM q y r md cur
  | [], md, cur => rfl
  | c :: r, md, cur => by
    simp only [partsM]
    rw [h c, partsM_congr h y r 1, partsM_congr h y r 0, partsM_congr h y r 0, partsM_congr h y r 2]
end Go.Proofs.YtfchfhjpldppjaaGreatDoor
namespace Go.Proofs.YtfchfhjpldppjaaGreatDoor
open Go.Sx
set_option maxRecDepth 100000
set_option maxHeartbeats 2000000
/-! Reading a quoted string whose end is the string's end. -/
structure UqL (s : List UInt8) (i : Nat) (u : List UInt8) : Prop where
  h : qdF plainI (s.drop i) = some (s.length - i, u)
theorem UqL.lt {s u : List UInt8} {i : Nat} (h : UqL s i u) : i < s.length := by
  have := qdF_len _ _ _ (Nat.le_refl _) h.h
  rw [List.length_drop] at this
  simp only at this
  omega
theorem UqL.plain {s u : List UInt8} {i : Nat} (h : UqL s i u) : plainI (charI s i) = true := by
  cases hb : plainI (charI s i) with
  | true => rfl
  | false => have := h.h; rw [qdF_bad h.lt hb] at this; cases this
theorem UqL.stop {s u : List UInt8} {i : Nat} (h : UqL s i u) (hi : i + 1 = s.length) : u = [] := by
  have h1 := h.h
  by_cases h34 : charI s i = 34
  · rw [qdF_quote h.lt h.plain h34] at h1
    simp only [Option.some.injEq, Prod.mk.injEq] at h1
    exact h1.2.symm
  · by_cases h92 : charI s i = 92
    · rw [qdF_esc0 h.lt h.plain h92 (by omega)] at h1; cases h1
    · rw [qdF_more h.lt h.plain h34 h92, qdF_end (by omega)] at h1; cases h1
theorem UqL.esc {s u : List UInt8} {i : Nat} (h : UqL s i u) (h92 : charI s i = 92) : i + 2 < s.length ∧ ∃ u', u = s.getD (i + 1) 0 :: u' ∧ UqL s (i + 2) u' := by
  have h1 := h.h
  by_cases h2 : i + 1 < s.length ∧ plainI (charI s (i + 1)) = true
  · rw [qdF_esc h.lt h.plain h92 h2.1 h2.2] at h1
    obtain ⟨x, hx, hx2⟩ := Option.map_eq_some_iff.1 h1
    simp only [Prod.mk.injEq] at hx2
    have hl := qdF_len _ _ _ (Nat.le_refl _) hx
    rw [List.length_drop] at hl
    have e : x = (s.length - (i + 2), x.2) := Prod.ext (by simp only; omega) rfl
    exact ⟨by omega, x.2, hx2.2.symm, ⟨by rw [hx, ← e]⟩⟩
  · rw [qdF_esc0 h.lt h.plain h92 h2] at h1; cases h1
theorem UqL.more {s u : List UInt8} {i : Nat} (h : UqL s i u) (hi : i + 1 < s.length) (h92 : charI s i ≠ 92) : ∃ u', u = s.getD i 0 :: u' ∧ UqL s (i + 1) u' := by
  have h1 := h.h
  by_cases h34 : charI s i = 34
  · rw [qdF_quote h.lt h.plain h34] at h1
    simp only [Option.some.injEq, Prod.mk.injEq] at h1
    omega
  · rw [qdF_more h.lt h.plain h34 h92] at h1
    obtain ⟨x, hx, hx2⟩ := Option.map_eq_some_iff.1 h1
    simp only [Prod.mk.injEq] at hx2
    have e : x = (s.length - (i + 1), x.2) := Prod.ext (by simp only; omega) rfl
    exact ⟨x.2, hx2.2.symm, ⟨by rw [hx, ← e]⟩⟩
/-- The text of a string that is quoted as a whole. -/
theorem quoted_all {s : List UInt8} (h : quotedF s = (s.length : Int)) (h0 : 0 < s.length) : ∃ u, UqL s 1 u ∧ refQuotedF s 0 = ((s.length : Int), u, true) := by
  rw [quotedF, qAt, qdF_some] at h
  cases hq : qdF plainI (s.drop (0 + 1)) with
  | none => rw [hq] at h; simp only at h; omega
  | some x =>
    rw [hq] at h
    simp only at h
    have e : x = (s.length - 1, x.2) := Prod.ext (by simp only; omega) rfl
    refine ⟨x.2, ⟨by rw [show s.drop 1 = s.drop (0 + 1) from rfl, hq, ← e]⟩, ?_⟩
    rw [refQuotedF, qRes, hq]
    simp only [List.nil_append, Prod.mk.injEq, and_true]
    exact h
theorem quoted_not {s : List UInt8} (h : quotedF s ≠ (s.length : Int)) : (refQuotedF s 0).2.2 = false ∨ (refQuotedF s 0).1 ≠ (s.length : Int) := by
  rw [quotedF, qAt, qdF_some] at h
  rw [refQuotedF, qRes]
  cases hq : qdF plainI (s.drop (0 + 1)) with
  | none => left; rfl
  | some x => rw [hq] at h; right; exact h
end Go.Proofs.YtfchfhjpldppjaaGreatDoor
/-! What the shelf of library contracts says of this program (written by the kit's tool). -/
namespace Go.Proofs.YtfchfhjpldppjaaGreatDoor
open Go.Shelf
def tlays162_ren : Go.Shelf.Ren := ⟨fun | 162 => 62 | 232 => 86 | 227 => 87 | 234 => 88 | 236 => 89 | 228 => 106 | 271 => 107 | 151 => 108 | 120 => 122 | 197 => 110 | 152 => 123 | 260 => 128 | 137 => 139 | 119 => 140 | 224 => 126 | 225 => 125 | 217 => 124 | 266 => 141 | n => n, fun | 9 => 9 | 4 => 4 | 3 => 3 | 5 => 5 | 117 => 105 | 116 => 104 | 0 => 0 | 124 => 108 | 21 => 21 | 105 => 119 | 46 => 129 | 119 => 153 | 139 => 156 | 138 => 155 | n => n, fun | 3 => 4 | 4 => 5 | n => n⟩
theorem tlays162 : Go.Proofs.Lays.n162 Tryz.prog tlays162_ren := {
  mixed := by kernel_rfl
  f119 := Tryz.func140.trans (congrArg some (by kernel_rfl))
  f120 := Tryz.func122.trans (congrArg some (by kernel_rfl))
  f137 := Tryz.func139.trans (congrArg some (by kernel_rfl))
  f151 := Tryz.func108.trans (congrArg some (by kernel_rfl))
  f152 := Tryz.func123.trans (congrArg some (by kernel_rfl))
  f162 := Tryz.func62.trans (congrArg some (by kernel_rfl))
  f197 := Tryz.func110.trans (congrArg some (by kernel_rfl))
  f217 := Tryz.func124.trans (congrArg some (by kernel_rfl))
  f224 := Tryz.func126.trans (congrArg some (by kernel_rfl))
  f225 := Tryz.func125.trans (congrArg some (by kernel_rfl))
  f227 := Tryz.func87.trans (congrArg some (by kernel_rfl))
  f228 := Tryz.func106.trans (congrArg some (by kernel_rfl))
  f232 := Tryz.func86.trans (congrArg some (by kernel_rfl))
  f234 := Tryz.func88.trans (congrArg some (by kernel_rfl))
  f236 := Tryz.func89.trans (congrArg some (by kernel_rfl))
  f260 := Tryz.func128.trans (congrArg some (by kernel_rfl))
  f266 := Tryz.func141.trans (congrArg some (by kernel_rfl))
  f271 := Tryz.func107.trans (congrArg some (by kernel_rfl))
  t0 := Tryz.underlying0
  a0 := Tryz.isAgg0
  z0 := Tryz.sizeOf0
  v0 := Tryz.zeroValue0
  t3 := Tryz.underlying3
  a3 := Tryz.isAgg3
  z3 := Tryz.sizeOf3
  v3 := Tryz.zeroValue3
  t4 := Tryz.underlying4
  a4 := Tryz.isAgg4
  z4 := Tryz.sizeOf4
  v4 := Tryz.zeroValue4
  t5 := Tryz.underlying5
  a5 := Tryz.isAgg5
  z5 := Tryz.sizeOf5
  v5 := Tryz.zeroValue5
  t9 := Tryz.underlying9
  a9 := Tryz.isAgg9
  z9 := Tryz.sizeOf9
  v9 := Tryz.zeroValue9
  t21 := Tryz.underlying21
  a21 := Tryz.isAgg21
  z21 := Tryz.sizeOf21
  v21 := Tryz.zeroValue21
  t46 := Tryz.underlying129
  a46 := Tryz.isAgg129
  z46 := Tryz.sizeOf129
  v46 := Tryz.zeroValue129
  t105 := Tryz.underlying119
  a105 := Tryz.isAgg119
  z105 := Tryz.sizeOf119
  v105 := Tryz.zeroValue119
  t116 := Tryz.underlying104
  a116 := Tryz.isAgg104
  z116 := Tryz.sizeOf104
  t117 := Tryz.underlying105
  a117 := Tryz.isAgg105
  z117 := Tryz.sizeOf105
  v117 := Tryz.zeroValue105
  t119 := Tryz.underlying153
  a119 := Tryz.isAgg153
  z119 := Tryz.sizeOf153
  t124 := Tryz.underlying108
  a124 := Tryz.isAgg108
  z124 := Tryz.sizeOf108
  v124 := Tryz.zeroValue108
  t138 := Tryz.underlying155
  a138 := Tryz.isAgg155
  z138 := Tryz.sizeOf155
  v138 := Tryz.zeroValue155
  t139 := Tryz.underlying156
  a139 := Tryz.isAgg156
  z139 := Tryz.sizeOf156
  v139 := Tryz.zeroValue156
  g3 := by kernel_rfl
  g4 := by kernel_rfl }
open Go.RowKit in
theorem sh_strings_TrimRight_one (s : ByteArray) (c : UInt8) (hc : c.toNat < 128) (w : World) (hs : s.size ≤ 9223372036854775807) :
    Calls Tryz.prog 62 #[.string s, .string ⟨#[c]⟩] w fun e w' => e = .returned (.string ⟨(Lib.trimRightB s.data.toList c).toArray⟩) ∧ w' = w := Any.strings_TrimRight_one tlays162 s c hc w hs
def tlays160_ren : Go.Shelf.Ren := ⟨fun | 160 => 64 | 232 => 86 | 231 => 91 | 227 => 87 | 234 => 88 | 233 => 92 | 236 => 89 | 235 => 93 | 228 => 106 | 271 => 107 | 151 => 108 | 197 => 110 | 120 => 122 | 152 => 123 | 260 => 128 | 137 => 139 | 119 => 140 | 224 => 126 | 225 => 125 | 217 => 124 | 266 => 141 | n => n, fun | 9 => 9 | 4 => 4 | 3 => 3 | 5 => 5 | 117 => 105 | 116 => 104 | 0 => 0 | 124 => 108 | 21 => 21 | 105 => 119 | 46 => 129 | 119 => 153 | 139 => 156 | 138 => 155 | n => n, fun | 3 => 4 | 4 => 5 | n => n⟩
theorem tlays160 : Go.Proofs.Lays.n160 Tryz.prog tlays160_ren := {
  mixed := by kernel_rfl
  f119 := Tryz.func140.trans (congrArg some (by kernel_rfl))
  f120 := Tryz.func122.trans (congrArg some (by kernel_rfl))
  f137 := Tryz.func139.trans (congrArg some (by kernel_rfl))
  f151 := Tryz.func108.trans (congrArg some (by kernel_rfl))
  f152 := Tryz.func123.trans (congrArg some (by kernel_rfl))
  f160 := Tryz.func64.trans (congrArg some (by kernel_rfl))
  f197 := Tryz.func110.trans (congrArg some (by kernel_rfl))
  f217 := Tryz.func124.trans (congrArg some (by kernel_rfl))
  f224 := Tryz.func126.trans (congrArg some (by kernel_rfl))
  f225 := Tryz.func125.trans (congrArg some (by kernel_rfl))
  f227 := Tryz.func87.trans (congrArg some (by kernel_rfl))
  f228 := Tryz.func106.trans (congrArg some (by kernel_rfl))
  f231 := Tryz.func91.trans (congrArg some (by kernel_rfl))
  f232 := Tryz.func86.trans (congrArg some (by kernel_rfl))
  f233 := Tryz.func92.trans (congrArg some (by kernel_rfl))
  f234 := Tryz.func88.trans (congrArg some (by kernel_rfl))
  f235 := Tryz.func93.trans (congrArg some (by kernel_rfl))
  f236 := Tryz.func89.trans (congrArg some (by kernel_rfl))
  f260 := Tryz.func128.trans (congrArg some (by kernel_rfl))
  f266 := Tryz.func141.trans (congrArg some (by kernel_rfl))
  f271 := Tryz.func107.trans (congrArg some (by kernel_rfl))
  t0 := Tryz.underlying0
  a0 := Tryz.isAgg0
  z0 := Tryz.sizeOf0
  v0 := Tryz.zeroValue0
  t3 := Tryz.underlying3
  a3 := Tryz.isAgg3
  z3 := Tryz.sizeOf3
  v3 := Tryz.zeroValue3
  t4 := Tryz.underlying4
  a4 := Tryz.isAgg4
  z4 := Tryz.sizeOf4
  v4 := Tryz.zeroValue4
  t5 := Tryz.underlying5
  a5 := Tryz.isAgg5
  z5 := Tryz.sizeOf5
  v5 := Tryz.zeroValue5
  t9 := Tryz.underlying9
  a9 := Tryz.isAgg9
  z9 := Tryz.sizeOf9
  v9 := Tryz.zeroValue9
  t21 := Tryz.underlying21
  a21 := Tryz.isAgg21
  z21 := Tryz.sizeOf21
  v21 := Tryz.zeroValue21
  t46 := Tryz.underlying129
  a46 := Tryz.isAgg129
  z46 := Tryz.sizeOf129
  v46 := Tryz.zeroValue129
  t105 := Tryz.underlying119
  a105 := Tryz.isAgg119
  z105 := Tryz.sizeOf119
  v105 := Tryz.zeroValue119
  t116 := Tryz.underlying104
  a116 := Tryz.isAgg104
  z116 := Tryz.sizeOf104
  t117 := Tryz.underlying105
  a117 := Tryz.isAgg105
  z117 := Tryz.sizeOf105
  v117 := Tryz.zeroValue105
  t119 := Tryz.underlying153
  a119 := Tryz.isAgg153
  z119 := Tryz.sizeOf153
  t124 := Tryz.underlying108
  a124 := Tryz.isAgg108
  z124 := Tryz.sizeOf108
  v124 := Tryz.zeroValue108
  t138 := Tryz.underlying155
  a138 := Tryz.isAgg155
  z138 := Tryz.sizeOf155
  v138 := Tryz.zeroValue155
  t139 := Tryz.underlying156
  a139 := Tryz.isAgg156
  z139 := Tryz.sizeOf156
  v139 := Tryz.zeroValue156
  g3 := by kernel_rfl
  g4 := by kernel_rfl }
def tlays172_ren : Go.Shelf.Ren := ⟨fun | 172 => 65 | 244 => 94 | 245 => 95 | 247 => 111 | 279 => 112 | 280 => 113 | 281 => 114 | 282 => 115 | 287 => 129 | 316 => 130 | 171 => 61 | 205 => 131 | 321 => 143 | 322 => 144 | 243 => 85 | 246 => 105 | 283 => 118 | 284 => 119 | 285 => 120 | 286 => 121 | 129 => 135 | 317 => 134 | 318 => 136 | 319 => 137 | 320 => 138 | 337 => 145 | 338 => 146 | n => n, fun | 9 => 9 | 3 => 3 | 75 => 64 | 76 => 87 | 4 => 4 | 5 => 5 | 167 => 123 | 37 => 43 | 0 => 0 | 85 => 124 | 2 => 2 | 168 => 126 | 53 => 131 | 175 => 139 | 46 => 129 | 210 => 142 | 127 => 96 | 145 => 160 | 143 => 158 | 21 => 21 | 171 => 130 | 173 => 134 | 212 => 146 | 51 => 147 | 20 => 20 | 213 => 148 | 232 => 162 | 233 => 163 | 80 => 66 | n => n, fun | 15 => 1 | 16 => 2 | 17 => 3 | 18 => 6 | 19 => 7 | n => n⟩
theorem tlays172 : Go.Proofs.Lays.n172 Tryz.prog tlays172_ren := {
  mixed := by kernel_rfl
  f129 := Tryz.func135.trans (congrArg some (by kernel_rfl))
  f171 := Tryz.func61.trans (congrArg some (by kernel_rfl))
  f172 := Tryz.func65.trans (congrArg some (by kernel_rfl))
  f205 := Tryz.func131.trans (congrArg some (by kernel_rfl))
  f243 := Tryz.func85.trans (congrArg some (by kernel_rfl))
  f244 := Tryz.func94.trans (congrArg some (by kernel_rfl))
  f245 := Tryz.func95.trans (congrArg some (by kernel_rfl))
  f246 := Tryz.func105.trans (congrArg some (by kernel_rfl))
  f247 := Tryz.func111.trans (congrArg some (by kernel_rfl))
  f279 := Tryz.func112.trans (congrArg some (by kernel_rfl))
  f280 := Tryz.func113.trans (congrArg some (by kernel_rfl))
  f281 := Tryz.func114.trans (congrArg some (by kernel_rfl))
  f282 := Tryz.func115.trans (congrArg some (by kernel_rfl))
  f283 := Tryz.func118.trans (congrArg some (by kernel_rfl))
  f284 := Tryz.func119.trans (congrArg some (by kernel_rfl))
  f285 := Tryz.func120.trans (congrArg some (by kernel_rfl))
  f286 := Tryz.func121.trans (congrArg some (by kernel_rfl))
  f287 := Tryz.func129.trans (congrArg some (by kernel_rfl))
  f316 := Tryz.func130.trans (congrArg some (by kernel_rfl))
  f317 := Tryz.func134.trans (congrArg some (by kernel_rfl))
  f318 := Tryz.func136.trans (congrArg some (by kernel_rfl))
  f319 := Tryz.func137.trans (congrArg some (by kernel_rfl))
  f320 := Tryz.func138.trans (congrArg some (by kernel_rfl))
  f321 := Tryz.func143.trans (congrArg some (by kernel_rfl))
  f322 := Tryz.func144.trans (congrArg some (by kernel_rfl))
  f337 := Tryz.func145.trans (congrArg some (by kernel_rfl))
  f338 := Tryz.func146.trans (congrArg some (by kernel_rfl))
  t0 := Tryz.underlying0
  a0 := Tryz.isAgg0
  z0 := Tryz.sizeOf0
  v0 := Tryz.zeroValue0
  t2 := Tryz.underlying2
  a2 := Tryz.isAgg2
  z2 := Tryz.sizeOf2
  v2 := Tryz.zeroValue2
  t3 := Tryz.underlying3
  a3 := Tryz.isAgg3
  z3 := Tryz.sizeOf3
  v3 := Tryz.zeroValue3
  t4 := Tryz.underlying4
  a4 := Tryz.isAgg4
  z4 := Tryz.sizeOf4
  v4 := Tryz.zeroValue4
  t5 := Tryz.underlying5
  a5 := Tryz.isAgg5
  z5 := Tryz.sizeOf5
  v5 := Tryz.zeroValue5
  t9 := Tryz.underlying9
  a9 := Tryz.isAgg9
  z9 := Tryz.sizeOf9
  v9 := Tryz.zeroValue9
  t20 := Tryz.underlying20
  a20 := Tryz.isAgg20
  z20 := Tryz.sizeOf20
  v20 := Tryz.zeroValue20
  t21 := Tryz.underlying21
  a21 := Tryz.isAgg21
  z21 := Tryz.sizeOf21
  v21 := Tryz.zeroValue21
  t37 := Tryz.underlying43
  a37 := Tryz.isAgg43
  z37 := Tryz.sizeOf43
  v37 := Tryz.zeroValue43
  t46 := Tryz.underlying129
  a46 := Tryz.isAgg129
  z46 := Tryz.sizeOf129
  v46 := Tryz.zeroValue129
  t51 := Tryz.underlying147
  a51 := Tryz.isAgg147
  z51 := Tryz.sizeOf147
  v51 := Tryz.zeroValue147
  t53 := Tryz.underlying131
  a53 := Tryz.isAgg131
  z53 := Tryz.sizeOf131
  v53 := Tryz.zeroValue131
  t75 := Tryz.underlying64
  a75 := Tryz.isAgg64
  z75 := Tryz.sizeOf64
  v75 := Tryz.zeroValue64
  t76 := Tryz.underlying87
  a76 := Tryz.isAgg87
  z76 := Tryz.sizeOf87
  v76 := Tryz.zeroValue87
  t85 := Tryz.underlying124
  a85 := Tryz.isAgg124
  z85 := Tryz.sizeOf124
  v85 := Tryz.zeroValue124
  t127 := Tryz.underlying96
  a127 := Tryz.isAgg96
  z127 := Tryz.sizeOf96
  v127 := Tryz.zeroValue96
  t143 := Tryz.underlying158
  a143 := Tryz.isAgg158
  z143 := Tryz.sizeOf158
  v143 := Tryz.zeroValue158
  t145 := Tryz.underlying160
  a145 := Tryz.isAgg160
  z145 := Tryz.sizeOf160
  v145 := Tryz.zeroValue160
  t167 := Tryz.underlying123
  a167 := Tryz.isAgg123
  z167 := Tryz.sizeOf123
  v167 := Tryz.zeroValue123
  t168 := Tryz.underlying126
  a168 := Tryz.isAgg126
  z168 := Tryz.sizeOf126
  v168 := Tryz.zeroValue126
  t171 := Tryz.underlying130
  a171 := Tryz.isAgg130
  z171 := Tryz.sizeOf130
  v171 := Tryz.zeroValue130
  t173 := Tryz.underlying134
  a173 := Tryz.isAgg134
  z173 := Tryz.sizeOf134
  v173 := Tryz.zeroValue134
  t175 := Tryz.underlying139
  a175 := Tryz.isAgg139
  z175 := Tryz.sizeOf139
  v175 := Tryz.zeroValue139
  t210 := Tryz.underlying142
  a210 := Tryz.isAgg142
  z210 := Tryz.sizeOf142
  v210 := Tryz.zeroValue142
  t212 := Tryz.underlying146
  a212 := Tryz.isAgg146
  z212 := Tryz.sizeOf146
  v212 := Tryz.zeroValue146
  t213 := Tryz.underlying148
  a213 := Tryz.isAgg148
  z213 := Tryz.sizeOf148
  t232 := Tryz.underlying162
  a232 := Tryz.isAgg162
  z232 := Tryz.sizeOf162
  v232 := Tryz.zeroValue162
  t233 := Tryz.underlying163
  a233 := Tryz.isAgg163
  z233 := Tryz.sizeOf163
  v233 := Tryz.zeroValue163
  g15 := by kernel_rfl
  g16 := by kernel_rfl
  g17 := by kernel_rfl
  g18 := by kernel_rfl
  g19 := by kernel_rfl }
open Go.RowKit in
theorem sh_strconv_Atoi (s : ByteArray) (n : Int) (hl : s.size ≤ 18) (h : Lib.atoi s.data.toList = some n) (w : World) :
    Calls Tryz.prog 65 #[.string s] w fun e w' => e = .returned (.tuple #[.int .i64 n, .nilIface]) ∧ ∃ t, w' = Lib.bytesWorld w 5 t := Any.strconv_Atoi tlays172 s n hl h w
def tlays219_ren : Go.Shelf.Ren := ⟨fun | 219 => 109 | 217 => 124 | 225 => 125 | 224 => 126 | 267 => 127 | 266 => 141 | 314 => 142 | n => n, fun | 9 => 9 | 3 => 3 | 4 => 4 | 5 => 5 | 46 => 129 | 146 => 151 | 51 => 147 | n => n, fun | 1 => 0 | n => n⟩
theorem tlays219 : Go.Proofs.Lays.n219 Tryz.prog tlays219_ren := {
  mixed := by kernel_rfl
  f217 := Tryz.func124.trans (congrArg some (by kernel_rfl))
  f219 := Tryz.func109.trans (congrArg some (by kernel_rfl))
  f224 := Tryz.func126.trans (congrArg some (by kernel_rfl))
  f225 := Tryz.func125.trans (congrArg some (by kernel_rfl))
  f266 := Tryz.func141.trans (congrArg some (by kernel_rfl))
  f267 := Tryz.func127.trans (congrArg some (by kernel_rfl))
  f314 := Tryz.func142.trans (congrArg some (by kernel_rfl))
  t3 := Tryz.underlying3
  a3 := Tryz.isAgg3
  z3 := Tryz.sizeOf3
  v3 := Tryz.zeroValue3
  t4 := Tryz.underlying4
  a4 := Tryz.isAgg4
  z4 := Tryz.sizeOf4
  v4 := Tryz.zeroValue4
  t5 := Tryz.underlying5
  a5 := Tryz.isAgg5
  z5 := Tryz.sizeOf5
  v5 := Tryz.zeroValue5
  t9 := Tryz.underlying9
  a9 := Tryz.isAgg9
  z9 := Tryz.sizeOf9
  v9 := Tryz.zeroValue9
  t46 := Tryz.underlying129
  a46 := Tryz.isAgg129
  z46 := Tryz.sizeOf129
  v46 := Tryz.zeroValue129
  t51 := Tryz.underlying147
  a51 := Tryz.isAgg147
  z51 := Tryz.sizeOf147
  v51 := Tryz.zeroValue147
  t146 := Tryz.underlying151
  a146 := Tryz.isAgg151
  z146 := Tryz.sizeOf151
  v146 := Tryz.zeroValue151
  g1 := by kernel_rfl }
open Go.RowKit Go.Lib in
theorem sh_stringslite_Index_one (s : ByteArray) (c : UInt8) (w : World) :
    Calls Tryz.prog 109 #[.string s, .string ⟨#[c]⟩] w fun e w' => e = .returned (.int .i64 (Lib.indexByte s.data.toList c)) ∧ w' = w := Any.stringslite_Index_one tlays219 s c w
def tlaysSlH10_f50_ren : Go.Shelf.Ren := ⟨fun | 10 => 50 | 6 => 80 | n => n, fun | 22 => 28 | 23 => 9 | 25 => 26 | 3 => 3 | 4 => 4 | 0 => 0 | n => n, fun | n => n⟩
theorem tlaysSlH10_f50 : Go.Proofs.SlLaysH.n10 Tryz.prog tlaysSlH10_f50_ren := {
  mixed := by kernel_rfl
  f6 := ⟨Tryz.f80.name, by decide, Tryz.func80.trans (congrArg some (by kernel_rfl))⟩
  f10 := ⟨Tryz.f50.name, by decide, Tryz.func50.trans (congrArg some (by kernel_rfl))⟩
  t0 := Tryz.underlying0
  a0 := Tryz.isAgg0
  z0 := Tryz.sizeOf0
  v0 := Tryz.zeroValue0
  t3 := Tryz.underlying3
  a3 := Tryz.isAgg3
  z3 := Tryz.sizeOf3
  v3 := Tryz.zeroValue3
  t4 := Tryz.underlying4
  a4 := Tryz.isAgg4
  z4 := Tryz.sizeOf4
  v4 := Tryz.zeroValue4
  t22 := Tryz.underlying28
  a22 := Tryz.isAgg28
  z22 := Tryz.sizeOf28
  v22 := Tryz.zeroValue28
  a23 := Tryz.isAgg9
  z23 := Tryz.sizeOf9
  t25 := Tryz.underlying26
  a25 := Tryz.isAgg26
  z25 := Tryz.sizeOf26
  v25 := Tryz.zeroValue26 }
open Go.RowKit Go.Lib Go.Sort in
theorem sh_slices_DeleteFunc {α : Type} [Inhabited α] (enc : α → Value) (hO : OneCell enc) (p : α → Bool) (g : Nat) (lb : Array Value) (eg : ∀ args w, (callFunc g args).run Tryz.prog w = .ok (.enter g args) w) (zr : α) (v23 : ∀ w, (zeroValue 9).run Tryz.prog w = .ok (enc zr) w) (blk off cap : Nat) (d : Array α) (w : World) (hp : PredAt Tryz.prog g lb enc p w) (hpo : PredOver Tryz.prog g lb enc p blk off d.size w) (hH : Holds enc w blk off d) (hsz : d.size ≤ 9223372036854775807) (hcap : d.size ≤ cap) :
    Calls Tryz.prog 50 #[.slice (some ⟨blk, off, none⟩) d.size cap, .func (.func g) #[] lb] w fun e w' => e = .returned (.slice (some ⟨blk, off, none⟩) (d.toList.filter fun x => !p x).length cap) ∧ ∃ q, w' = putRow enc (Sort.ahead w q) blk off ((d.toList.filter fun x => !p x) ++ List.replicate (d.size - (d.toList.filter fun x => !p x).length) zr).toArray := AnyE.slices_DeleteFunc tlaysSlH10_f50 enc hO p g lb eg zr v23 blk off cap d w hp hpo hH hsz hcap
end Go.Proofs.YtfchfhjpldppjaaGreatDoor
namespace Go.Proofs.YtfchfhjpldppjaaGreatDoor
open Go.Sx
set_option maxRecDepth 10000
set_option maxHeartbeats 2000000
/-! Quote. -/
structure QwI (s t : List UInt8) (i : Nat) (I L : Int) (m : Nat) : Prop where
  at_ : At s i I m
  L : L = s.length
  t : t.length ≤ 2 * i + 1
  s : s.length ≤ 500
theorem rowB_at {s : List UInt8} {i : Nat} {f : Nat → List SV} (h : f = byteRow s) : f i = [.int .u8 (.a (charI s i))] := by rw [h]; rfl
def qwJ (s : List UInt8) (k : List UInt8) (f : Nat → List SV) (m : Nat) (vs : List (Option SV)) (hp : List Hl) : Prop :=
  ∃ (i : Nat) (I L : Int) (t : List UInt8), vs = [some (.ptr 0 0), some (.sl (.a false) (.a L) 1 f), some (.int .i64 (.a L)), some (.int .i64 (.a I))] ∧ hp = [.bld 62 5 t] ∧ QwI s t i I L m ∧ k = t ++ escF (s.drop i) ++ [34]
theorem quote_ok : FnOk Tryz.prog gl 12 (spStrSE refQuoteF) := by
  refine fnOk (gh := [(7, [.bld 4 5])]) mixed cxOk (tabCons plainS_ok (tabCons token_ok (tabCons writeByte_ok (tabCons string_ok tabNil)))) Tryz.func12 (by kernel_rfl) (by kernel_rfl) ?_
  intro xs ls K h
  unfold spStrSE at h
  obtain ⟨s, rfl, rfl, hl, h⟩ := h
  obtain ⟨k, hk⟩ : ∃ k, k = refQuoteF s := ⟨_, rfl⟩
  obtain ⟨kt, ke⟩ := k
  refine ⟨_, _, h kt ke hk, fun D hD => ?_⟩
  clear h
  rw [refQuoteF] at hk
  cbv
  refine br hD (fun h => ?_) (fun h => ?_) <;> cbv
  · have h : decide (500 < (s.length : Int)) = true := h
    rw [if_pos (by simpa using h)] at hk
    exact finSE hD hk
  have h5 : ¬ (500 < (s.length : Int)) := by have h : decide (500 < (s.length : Int)) = false := h; simpa using h
  rw [if_neg h5] at hk
  have hs5 : s.length ≤ 500 := by omega
  clear h
  refine ⟨_, rfl, rfl, hl, fun r hr => ?_⟩
  have hr2 : r = plainsF s := by subst hD; rw [← plain_eq]; exact hr
  clear hr
  rw [← hr2] at hk
  cbv
  refine br hD (fun h => ?_) (fun h => ?_) <;> cbv
  · have h : (!r) = true := h
    rw [if_pos h] at hk
    exact finSE hD hk
  have h : (!r) = false := h
  rw [if_neg (by rw [h]; simp)] at hk
  clear h hr2
  refine ⟨_, rfl, rfl, hl, fun q hq => ?_⟩
  have hq2 : q = refTokenF s := by subst hD; rw [← token_eq]; exact hq
  clear hq
  rw [← hq2] at hk
  cbv
  refine br hD (fun h => ?_) (fun h => ?_) <;> cbv
  · have h : q = true := h
    rw [if_pos h] at hk
    exact finSE hD hk
  have h : q = false := h
  rw [if_neg (by rw [h]; simp)] at hk
  simp only [Prod.mk.injEq] at hk
  obtain ⟨hk, hke⟩ := hk
  clear h hq2 h5
  refine ⟨[], 34, _, rfl, rfl, by decide, by subst hD; rfl, fun t0 ht0 => ?_⟩
  cbv
  refine ⟨⟨hl⟩, fun f hf => ?_⟩
  have hf0 := hf.h
  clear hf
  cbv
  obtain ⟨J, hJ⟩ : ∃ J, J = qwJ s kt f := ⟨_, rfl⟩
  refine ⟨[4, 21, 22, 23], J, ⟨rfl, s.length, ?_⟩, ?_⟩
  · rw [hJ]
    subst hD
    exact ⟨0, 0, _, t0, rfl, rfl, ⟨At.zero hl, rfl, by rw [ht0]; simp, hs5⟩, by rw [ht0]; exact hk⟩
  clear hk
  intro m vs hp' hv
  rw [hJ] at hv
  unfold qwJ at hv
  obtain ⟨i, I, L, t, rfl, rfl, V, hk⟩ := hv
  cbv
  refine br hD (fun h => ?_) (fun h => ?_) <;> cbv
  · have hlt := V.at_.lt (by rw [← V.L]; exact of_decide_eq_true (p := I < L) h)
    clear h
    refine ⟨?_, fun j hj => ?_⟩
    · have := V.at_.I; have := V.L; subst hD; exact ⟨by show 0 ≤ I; omega, by show I < L; omega⟩
    obtain rfl : j = i := by have := isJ hD hj; have := V.at_.I; omega
    clear hj
    obtain ⟨c, hc⟩ : ∃ c, c = charI s j := ⟨_, rfl⟩
    have hfj : f j = [.int .u8 (.a c)] := by rw [hc]; exact rowB_at hf0
    have hc : CharAt c s j := ⟨hc⟩
    rw [escF_cons hlt] at hk
    cbv
    rw [hfj]
    cbv
    refine br hD (fun h => ?_) (fun h => ?_) <;> cbv
    · have h : (c == 34 || c == 92) = true := h
      rw [escB_yes (by rw [← hc.charI]; simpa using h)] at hk
      clear h
      refine ⟨t, 92, _, rfl, rfl, by have := V.t; have := V.s; omega, by subst hD; rfl, fun t1 ht1 => ?_⟩
      cbv
      refine ⟨t1, s.getD j 0, _, rfl, rfl, by have := V.t; have := V.s; rw [ht1]; simp; omega, by subst hD; exact hc.h, fun t2 ht2 => ?_⟩
      cbv
      refine ⟨s.length - (j + 1), (V.at_.step hD hlt).1, ?_⟩
      rw [hJ]
      subst hD
      exact ⟨j + 1, _, _, _, rfl, rfl, ⟨(V.at_.step rfl hlt).2, V.L, by have := V.t; rw [ht2, ht1]; simp; omega, V.s⟩, by rw [hk, ht2, ht1]; simp⟩
    · have h : (c == 34 || c == 92) = false := h
      rw [escB_no (by rw [← hc.charI]; simpa using h)] at hk
      clear h
      refine ⟨t, s.getD j 0, _, rfl, rfl, by have := V.t; have := V.s; omega, by subst hD; exact hc.h, fun t2 ht2 => ?_⟩
      cbv
      refine ⟨s.length - (j + 1), (V.at_.step hD hlt).1, ?_⟩
      rw [hJ]
      subst hD
      exact ⟨j + 1, _, _, _, rfl, rfl, ⟨(V.at_.step rfl hlt).2, V.L, by have := V.t; rw [ht2]; simp; omega, V.s⟩, by rw [hk, ht2]; simp⟩
  · have hi := V.at_.eq (by rw [← V.L]; exact of_decide_eq_false (p := I < L) h)
    rw [escF_end hi, List.append_nil] at hk
    clear h
    refine ⟨t, 34, _, rfl, rfl, by have := V.t; have := V.s; have := V.at_.le; omega, by subst hD; rfl, fun t2 ht2 => ?_⟩
    cbv
    refine ⟨_, rfl, rfl, ?_⟩
    cbv
    exact finSE hD (by rw [ht2, ← hk, hke]; rfl)
end Go.Proofs.YtfchfhjpldppjaaGreatDoor
namespace Go.Proofs.YtfchfhjpldppjaaGreatDoor
open Go.Sx
set_option maxRecDepth 10000
set_option maxHeartbeats 2000000
/-! Unquote. -/
structure UwI (s t u : List UInt8) (i : Nat) (I : Int) (m : Nat) : Prop where
  at_ : At s i I m
  u : UqL s i u
  t : t.length ≤ i
  s : s.length ≤ 100000
def uwJ (s k : List UInt8) (m : Nat) (vs : List (Option SV)) (hp : List Hl) : Prop :=
  ∃ (i : Nat) (I : Int) (t u : List UInt8), vs = [some (.str s), some (.ptr 0 0), some (.int .i64 (.a I))] ∧ hp = [.bld 62 5 t] ∧ UwI s t u i I m ∧ k = t ++ u
def spStrSEb (F : List UInt8 → List UInt8 × Int) : FSpec := fun _ xs ls K => ∃ (s : List UInt8), xs = [.str s] ∧ ls = [] ∧ s.length ≤ 100000 ∧ ∀ t e, (t, e) = F s → K (.tup [.str t, .int .i64 (.a e)]) []
theorem len1_den {s : List UInt8} (h : s.length ≤ 100000) : ST.den (.bin .sub .i64 (.len s) (.l 1)) = (s.length : Int) - 1 := by
  show IntKind.i64.wrap ((s.length : Int) - 1) = _
  rw [wrap64 (by omega) (by omega)]
theorem unquote_ok : FnOk Tryz.prog gl 14 (spStrSEb refUnquoteF) := by
  refine fnOk (gh := [(5, [.bld 4 5])]) mixed cxOk (tabCons token_ok (tabCons quoted_ok (tabCons writeByte_ok (tabCons string_ok (tabCons len_ok tabNil))))) Tryz.func14 (by kernel_rfl) (by kernel_rfl) ?_
  intro xs ls K h
  unfold spStrSEb at h
  obtain ⟨s, rfl, rfl, hl, h⟩ := h
  obtain ⟨k, hk⟩ : ∃ k, k = refUnquoteF s := ⟨_, rfl⟩
  obtain ⟨kt, ke⟩ := k
  refine ⟨_, _, h kt ke hk, fun D hD => ?_⟩
  clear h
  rw [refUnquoteF] at hk
  cbv
  refine ⟨_, rfl, rfl, by omega, fun q hq => ?_⟩
  have hq2 : q = refTokenF s := by subst hD; rw [← token_eq]; exact hq
  clear hq
  rw [← hq2] at hk
  cbv
  refine br hD (fun h => ?_) (fun h => ?_) <;> cbv
  · have h : q = true := h
    rw [if_pos h] at hk
    exact finSE hD hk
  have h : q = false := h
  rw [if_neg (by rw [h]; simp)] at hk
  clear h hq2
  refine ⟨fun hg => ?_, fun c hc => ?_⟩
  · subst hD
    have hg : (!(s == [])) = true := hg
    have h0 : 0 < s.length := by
      cases s with
      | nil => cases hg
      | cons a b => simp
    exact inS_of (e := .l 0) (i := 0) rfl h0
  have hc2 := byteAt (e := .l 0) (i := 0) hD rfl hc
  clear hc
  cbv
  refine ⟨_, rfl, rfl, by omega, fun r hr => ?_⟩
  have hr2 : r = quotedF s := by subst hD; exact hr
  clear hr
  cbv
  refine br hD (fun h => ?_) (fun h => ?_) <;> cbv
  · have h : (((s == []) || c != 34) || r != (s.length : Int)) = true := h
    refine finSE (x := .l 6) (t := []) hD ?_
    rw [hk]
    by_cases h1 : s.length = 0 ∨ ¬charI s 0 = 34
    · rw [if_pos h1]; rfl
    · rw [if_neg h1, if_pos]
      · rfl
      · refine quoted_not ?_
        intro e
        rw [hr2, e, hc2.charI] at h
        cases s with
        | nil => simp at h1
        | cons a b =>
          simp only [bne_self_eq_false, Bool.or_false] at h
          rw [show ((a :: b : List UInt8) == []) = false from rfl] at h
          simp only [Bool.false_or, bne_iff_ne, ne_eq] at h
          exact h1 (.inr h)
  have h : (((s == []) || c != 34) || r != (s.length : Int)) = false := h
  simp only [Bool.or_eq_false_iff, bne_eq_false_iff_eq] at h
  obtain ⟨⟨h1, h2⟩, h3⟩ := h
  have h0 : 0 < s.length := by
    cases s with
    | nil => cases h1
    | cons a b => simp
  rw [if_neg (by rw [← hc2.charI]; omega)] at hk
  obtain ⟨u, hu, hq⟩ := quoted_all (by rw [← hr2]; exact h3) h0
  rw [hq] at hk
  simp only at hk
  rw [if_neg (by simp)] at hk
  clear h1 h2 h3 hr2 hq hc2
  obtain ⟨J, hJ⟩ : ∃ J, J = uwJ s u := ⟨_, rfl⟩
  refine ⟨[0, 4, 5], J, ⟨rfl, s.length - 1, ?_⟩, ?_⟩
  · rw [hJ]
    subst hD
    exact ⟨1, 1, [], u, rfl, rfl, ⟨⟨by omega, rfl, rfl, by omega⟩, hu, by simp, hl⟩, rfl⟩
  clear hu
  intro m vs hp' hv
  rw [hJ] at hv
  unfold uwJ at hv
  obtain ⟨i, I, t, u', rfl, rfl, V, hu⟩ := hv
  cbv
  refine br hD (fun h => ?_) (fun h => ?_) <;> cbv
  · have hlt : i + 1 < s.length := by
      have h := of_decide_eq_true (p := I < ST.den (.bin .sub .i64 (.len s) (.l 1))) h
      rw [len1_den V.s] at h
      have := V.at_.I
      omega
    clear h
    have hlt1 : i < s.length := by omega
    refine ⟨V.at_.inS hD hlt1, fun c hc => ?_⟩
    have hc2 := byteAt hD V.at_.den hc
    clear hc
    cbv
    refine br hD (fun h => ?_) (fun h => ?_) <;> cbv
    · have h92 : charI s i = 92 := by rw [← hc2.charI]; have h : (c == 92) = true := h; simpa using h
      clear h
      obtain ⟨hlt2, u2, hu2, hU⟩ := V.u.esc h92
      have hd1 := V.at_.one hlt1
      refine ⟨by subst hD; exact inS_of hd1 hlt, fun d hd => ?_⟩
      have hd2 := byteAt hD hd1 hd
      clear hd
      cbv
      refine ⟨t, s.getD (i + 1) 0, _, rfl, rfl, by have := V.t; omega, by subst hD; exact hd2.h, fun t2 ht2 => ?_⟩
      cbv
      refine ⟨s.length - (i + 2), by have := V.at_.m; omega, ?_⟩
      rw [hJ]
      subst hD
      exact ⟨i + 2, _, t2, u2, rfl, rfl, ⟨⟨by omega, V.at_.two hlt, rfl, V.at_.len⟩, hU, by rw [ht2]; have := V.t; simp; omega, V.s⟩, by rw [hu, hu2, ht2]; simp⟩
    · have h92 : charI s i ≠ 92 := by rw [← hc2.charI]; have h : (c == 92) = false := h; simpa using h
      clear h
      obtain ⟨u2, hu2, hU⟩ := V.u.more hlt h92
      refine ⟨V.at_.inS hD hlt1, fun d hd => ?_⟩
      have hd2 := byteAt hD V.at_.den hd
      clear hd
      cbv
      refine ⟨t, s.getD i 0, _, rfl, rfl, by have := V.t; omega, by subst hD; exact hd2.h, fun t2 ht2 => ?_⟩
      cbv
      refine ⟨s.length - (i + 1), (V.at_.step hD hlt1).1, ?_⟩
      rw [hJ]
      subst hD
      exact ⟨i + 1, _, t2, u2, rfl, rfl, ⟨(V.at_.step rfl hlt1).2, hU, by rw [ht2]; have := V.t; simp; omega, V.s⟩, by rw [hu, hu2, ht2]; simp⟩
  · have hi : i + 1 = s.length := by
      have h := of_decide_eq_false (p := I < ST.den (.bin .sub .i64 (.len s) (.l 1))) h
      rw [len1_den V.s] at h
      have := V.at_.I
      have := V.u.lt
      omega
    clear h
    rw [V.u.stop hi, List.append_nil] at hu
    rw [hu] at hk
    refine ⟨t, rfl, rfl, fun n hn => ?_⟩
    have hn2 : n = (t.length : Int) := hn
    cbv
    refine br hD (fun h => ?_) (fun h => ?_) <;> cbv
    · have h : decide (500 < n) = true := h
      rw [hn2] at h
      rw [if_pos (by simpa using h)] at hk
      exact finSE hD hk
    have h : decide (500 < n) = false := h
    rw [hn2] at h
    rw [if_neg (by simpa using h)] at hk
    refine ⟨_, rfl, rfl, ?_⟩
    cbv
    exact finSE hD hk
end Go.Proofs.YtfchfhjpldppjaaGreatDoor
