/- Part of the proofs of the statements about requests (layer 7): a symbolic executor over the code, that it is sound, and contracts of functions; it has no conditions of its own. -/
import Derived.Shelf.Bytes.SlIndexAt
import Derived.Test.YtefelnhpfdcleaaGreatDoorCPf
import Derived.Test.YtefelnhpfdcleaaGreatDoorCPe
namespace Go.Proofs.YtefelnhpfdcleaaGreatDoor
open Go Go.RowKit Go.Sx
set_option maxHeartbeats 2000000
set_option maxRecDepth 100000
theorem bPtr : Tryz.prog.underlying 124 = some (.pointer 5):=by kernel_rfl
theorem bCells : Tryz.prog.cellsOf 5 = 1:=by kernel_rfl
structure SKept (v : Value) (w w' : World) : Prop where
 os : w'.os = w.os
 tape : w'.tape = w.tape
 output : w'.output = w.output
 size : w.heap.size≤w'.heap.size
 block : ∀ k,k < w.heap.size→some k≠v.ownBlock→w'.heap[k]? = w.heap[k]?
theorem SKept.drew (v : Value) (w : World) : SKept v w w.drew:=⟨rfl,rfl,rfl,Nat.le_refl _,fun _ _ _=>rfl⟩
theorem unsafeString_none (W : World) (q : Option Addr) : (Builtin.unsafeString_ #[124,3] 9 #[.pointer q,.int .i64 0]).run Tryz.prog W = .ok (.string .empty) W :=
 Lib.run_unsafeString_none W _ _ _ q
theorem string_some (b g cap : Nat) (p : Value) (cur : Array Value) (l : List UInt8) (w : World) (h0 : l≠[]) (hbk : w.heap[b]? = some (.cells #[p,.slice (some ⟨g,0,none⟩) l.length cap] 104 (0,0))) (hg : w.heap[g]? = some (.cells cur 5 (0,0)))
  (hown : w.ownsRow 0 5 1 (.slice (some ⟨g,0,none⟩) l.length cap) l.length (Lib.byteCells l)) (hnc : l.length≤cap) (hcm : cap≤maxLen) (hcs : cur.size = cap * 1) :
  Calls Tryz.prog 81 #[.pointer (some ⟨b,0,none⟩)] w fun e w'=>e = .returned (.string ⟨l.toArray⟩)∧SKept (.slice (some ⟨g,0,none⟩) l.length cap) w w':=by
 have hl0 : l.length≠0:=by simpa using h0
 have c1 : w.drew.cell? ⟨b,1,none⟩ = some (.slice (some ⟨g,0,none⟩) l.length cap):=by
  have : w.drew.heap[b]? = some (.cells #[p,.slice (some ⟨g,0,none⟩) l.length cap] 104 (0,0)):=hbk
  rw [Lib.cell_of_heap this]; rfl
 have hSD : (Builtin.unsafeSliceData_ #[36] 124 #[.slice (some ⟨g,0,none⟩) l.length cap]).run Tryz.prog w.drew = .ok (.pointer (some ⟨g,0,none⟩)) w.drew :=
  Lib.run_unsafeSliceData_row _ _ _ _ _ _ (by omega)
 have hUS : (Builtin.unsafeString_ #[124,3] 9 #[.pointer (some ⟨g,0,none⟩),.int .i64 l.length]).run Tryz.prog w.drew = .ok (.string ⟨l.toArray⟩) (w.drew.freeze ⟨g,0,none⟩ l.length):=by
  refine Lib.run_unsafeString_row w.drew 124 3 9 5 bPtr bCells g cur.size (by have hg' : w.drew.heap[g]? = some (.cells cur 5 (0,0)):=hg; simp [World.shape?,hg']) l h0 (by omega) (by unfold maxLen at hcm; omega) ?_
  intro j x hx
  have:=hown.cells (g:=g) rfl j (.int .u8 x.toNat) (by simp [Lib.byteCells,hx])
  exact this
 have hfz : SKept (.slice (some ⟨g,0,none⟩) l.length cap) w (w.drew.freeze ⟨g,0,none⟩ l.length):=by
  unfold World.freeze
  rw [if_neg hl0]
  refine ⟨rfl,rfl,rfl,by simp,fun k hk hne=>?_⟩
  simp only [Array.getElem?_modify]
  rw [if_neg (fun e=>hne (by rw [←e]; rfl))]
  rfl
 go_enter Tryz.func81,Tryz.ntmps81
 go_wp2
 go_region
 all_goals (go_wp2; go_ret; exact ⟨rfl,hfz⟩)
theorem string_nil (b : Nat) (p : Value) (w : World) (hbk : w.heap[b]? = some (.cells #[p,.slice none 0 0] 104 (0,0))) :
  Calls Tryz.prog 81 #[.pointer (some ⟨b,0,none⟩)] w fun e w'=>e = .returned (.string ⟨#[]⟩)∧SKept (.slice none 0 0) w w':=by
 have hUS:=unsafeString_none
 have c1 : w.drew.cell? ⟨b,1,none⟩ = some (.slice none 0 0):=by
  have : w.drew.heap[b]? = some (.cells #[p,.slice none 0 0] 104 (0,0)):=hbk
  rw [Lib.cell_of_heap this]; rfl
 have hSD : (Builtin.unsafeSliceData_ #[36] 124 #[.slice none 0 0]).run Tryz.prog w.drew = .ok (.pointer none) w.drew:=rfl
 go_enter Tryz.func81,Tryz.ntmps81
 go_wp2
 go_region
 all_goals (go_wp2; go_ret; exact ⟨rfl,SKept.drew _ w⟩)
theorem string_room (b g cap : Nat) (p : Value) (w : World) (hc0 : cap≠0) (hbk : w.heap[b]? = some (.cells #[p,.slice (some ⟨g,0,none⟩) 0 cap] 104 (0,0))) :
  Calls Tryz.prog 81 #[.pointer (some ⟨b,0,none⟩)] w fun e w'=>e = .returned (.string ⟨#[]⟩)∧SKept (.slice (some ⟨g,0,none⟩) 0 cap) w w':=by
 have hUS:=unsafeString_none
 have c1 : w.drew.cell? ⟨b,1,none⟩ = some (.slice (some ⟨g,0,none⟩) 0 cap):=by
  have : w.drew.heap[b]? = some (.cells #[p,.slice (some ⟨g,0,none⟩) 0 cap] 104 (0,0)):=hbk
  rw [Lib.cell_of_heap this]; rfl
 have hSD : (Builtin.unsafeSliceData_ #[36] 124 #[.slice (some ⟨g,0,none⟩) 0 cap]).run Tryz.prog w.drew = .ok (.pointer (some ⟨g,0,none⟩)) w.drew :=
  Lib.run_unsafeSliceData_row _ _ _ _ _ _ hc0
 clear hc0
 go_enter Tryz.func81,Tryz.ntmps81
 go_wp2
 go_region
 all_goals (go_wp2; go_ret; exact ⟨rfl,SKept.drew _ w⟩)
theorem string_noroom (b g : Nat) (p : Value) (cur : Array Value) (w : World) (hbk : w.heap[b]? = some (.cells #[p,.slice (some ⟨g,0,none⟩) 0 0] 104 (0,0))) (hg : w.heap[g]? = some (.cells cur 5 (0,0))) :
  Calls Tryz.prog 81 #[.pointer (some ⟨b,0,none⟩)] w fun e w'=>e = .returned (.string ⟨#[]⟩)∧SKept (.slice (some ⟨g,0,none⟩) 0 0) w w':=by
 have hUS:=unsafeString_none
 have hlt : b < w.heap.size:=by
  rcases Nat.lt_or_ge b w.heap.size with h' | h'
  ·exact h'
  ·simp [Array.getElem?_eq_none h'] at hbk
 have c1 : w.drew.cell? ⟨b,1,none⟩ = some (.slice (some ⟨g,0,none⟩) 0 0):=by
  have : w.drew.heap[b]? = some (.cells #[p,.slice (some ⟨g,0,none⟩) 0 0] 104 (0,0)):=hbk
  rw [Lib.cell_of_heap this]; rfl
 have hSD : (Builtin.unsafeSliceData_ #[36] 124 #[.slice (some ⟨g,0,none⟩) 0 0]).run Tryz.prog w.drew = .ok (.pointer (some ⟨w.drew.heap.size,0,none⟩)) (w.drew.alloc (.view ⟨g,0,none⟩ 5)) :=
  Lib.run_unsafeSliceData_zero w.drew _ _ 5 bPtr ⟨g,0,none⟩ 0 (5,cur.size) (by have hg' : w.drew.heap[g]? = some (.cells cur 5 (0,0)):=hg; simp [World.shape?,hg'])
 have c2 : (w.drew.alloc (.view ⟨g,0,none⟩ 5)).cell? ⟨b,1,none⟩ = some (.slice (some ⟨g,0,none⟩) 0 0):=by
  have : (w.drew.alloc (.view ⟨g,0,none⟩ 5)).heap[b]? = _:=(Lib.alloc_old w.drew _ b hlt).trans hbk
  rw [Lib.cell_of_heap this]; rfl
 have c3 : (w.alloc (.view ⟨g,0,none⟩ 5)).drew.cell? ⟨b,1,none⟩ = some (.slice (some ⟨g,0,none⟩) 0 0):=c2
 have c0 : w.cell? ⟨b,1,none⟩ = some (.slice (some ⟨g,0,none⟩) 0 0):=c1
 have hk : SKept (.slice (some ⟨g,0,none⟩) 0 0) w (w.alloc (.view ⟨g,0,none⟩ 5)).drew:=⟨rfl,rfl,rfl,by show w.heap.size≤(w.heap.push _).size; simp,fun k hk _=>Lib.alloc_old w _ k hk⟩
 go_enter Tryz.func81,Tryz.ntmps81
 go_wp2
 go_region
 all_goals (go_wp2; go_ret; exact ⟨rfl,hk⟩)
theorem SKept.b {v : Value} {b : Nat} {w w' : World} (h : SKept v w w') : BKept b v .nilIface w w' :=
 ⟨h.os,h.tape,h.output,h.size,fun k h1 _ h3=>h.block k h1 h3,fun k hk=>by simp [Value.ownBlock] at hk⟩
theorem string_run (b : Nat) (p v : Value) (s : List UInt8) (w : World) (A : BldAt w b p v s) :
  Calls Tryz.prog 81 #[.pointer (some ⟨b,0,none⟩)] w fun e w'=>e = .returned (.string (Sx.bytes s))∧SKept v w w':=by
 have hown:=A.own
 have hbk:=A.at_
 rcases hown.2 with ⟨rfl,h0⟩ | ⟨g,cap,cur,rfl,_,hg,hnc,hcm,hcs,_⟩
 ·obtain rfl : s = []:=List.eq_nil_of_length_eq_zero h0
  exact string_nil b p w hbk
 ·by_cases h0 : s = []
  ·subst h0
   by_cases hc : cap = 0
   ·subst hc; exact string_noroom b g p cur w hbk hg
   ·exact string_room b g cap p w hc hbk
  ·exact string_some b g cap p cur s w h0 hbk hg hown hnc hcm hcs
def spBS : FSpec:=fun _ xs ls K=>∃ (s : List UInt8),xs = [.ptr 0 0]∧ls = [.bld 104 5 s]∧K (.str s) [.gone]
theorem string_ok : FnOk Tryz.prog gl 81 spBS:=by
 refine ⟨⟨Tryz.f81,_,Tryz.func81,rfl,by kernel_rfl⟩,fun xs ls K h=>?_⟩
 obtain ⟨s,rfl,rfl,h⟩:=h
 refine ⟨_,_,h,callsTo_bld (as1:=[]) fun E b p v w vals A hr=>?_⟩
 obtain rfl : vals = []:=List.eq_nil_of_length_eq_zero (by have:=hr.1; simpa using this.symm)
 refine (string_run b p v s w A).mono ?_
 rintro e w' ⟨rfl,k⟩
 exact ⟨_,.nilIface,rfl,fun E=>.ro (.str rfl),k.b,rfl⟩
end Go.Proofs.YtefelnhpfdcleaaGreatDoor
namespace Go.Proofs.YtefelnhpfdcleaaGreatDoor
open Go Go.RowKit Go.Sx
set_option maxHeartbeats 2000000
set_option maxRecDepth 100000
theorem bStr : Tryz.prog.underlying 9 = some .string:=by kernel_rfl
theorem bByteI : ∃ i,Tryz.prog.info? 5 = some i∧i.zero = some (.int .u8 0)∧i.size = 1∧i.bytes = 1:=by
 obtain ⟨i,hi,h⟩:=Option.map_eq_some_iff.1 bByte
 simp only [Prod.mk.injEq] at h
 exact ⟨i,hi,h.1,h.2.1,h.2.2⟩
theorem str_law {w : World} {v : Value} {n : Nat} {xs : List Value} (hown : w.ownsRow 0 5 1 v n xs) (s : ByteArray) (hb : n + s.size≤140737488355328) :
  ∃ v' w',(Builtin.append_ #[36,9] 36 #[v,.string s]).run Tryz.prog w = .ok v' w'∧w'.ownsRow 0 5 1 v' (n + s.size) (xs ++ Lib.strCells s)∧w.grownBy w' v.ownBlock∧(v'.ownBlock = v.ownBlock∨v'.ownBlock = some w.heap.size):=by
 obtain ⟨i,hi,hz,hs1,hb1⟩:=bByteI
 have h63 : n + s.size≤maxLen:=by unfold maxLen; omega
 obtain ⟨v',w',hr,h2,h3,_⟩:=Lib.run_append_own_string (P:=Tryz.prog) w 0 36 9 36 5 i bSlice bStr hi hz hs1 hb1 v n xs hown s h63 hb (Nat.zero_le _)
 refine ⟨v',w',hr,h2,h3,?_⟩
 have hxl : xs.length = n:=by simpa using hown.1
 rcases hown.2 with ⟨rfl,rfl⟩ | ⟨g,cap,cur,rfl,hbg,hg,hnc,hcm,hcs,htake⟩
 ·by_cases hm : s.size = 0
  ·have hf:=Lib.run_firstCells_string (P:=Tryz.prog) w 1 s
   rw [hm] at hf
   simp [Builtin.append_,run_underlying bSlice,run_underlying bStr,sizeOf,typeInfo,hi,hs1,Builtin.lenOf,hm,hf] at hr
   left; rw [←hr.1]
  ·have hr2:=run_append_nil_string (P:=Tryz.prog) w 36 9 36 5 i (.int .u8 0) bSlice bStr hi hz s (by omega) (by unfold maxLen at h63; omega) (by rw [hb1]; omega)
   rw [hr] at hr2
   injection hr2 with e1 e2
   right; rw [e1]; rfl
 ·by_cases hroom : n + s.size≤cap
  ·have hcs' : cur.size = cap:=by simpa using hcs
   have hr2:=Lib.run_append_room_string (P:=Tryz.prog) w 36 9 36 5 i bSlice bStr hi hs1 g n cap cur hg s hroom (by omega)
   rw [hr] at hr2
   injection hr2 with e1 e2
   left; rw [e1]; rfl
  ·have holds : ∀ j u,xs[j]? = some u→w.cell? ((⟨g,0,none⟩ : Addr).add j) = some u:=hown.cells (g:=g) rfl
   have hr2:=Lib.run_append_grow_string (P:=Tryz.prog) w 36 9 36 5 i (.int .u8 0) bSlice bStr hi hz ⟨g,0,none⟩ n cap xs (by rw [hs1]; simpa using hxl) holds s (by omega) (by unfold maxLen at h63; omega) (by rw [hb1]; exact growslice_fits (by omega) (by omega))
   rw [hr] at hr2
   injection hr2 with e1 e2
   right; rw [e1]; rfl
theorem wpl_str {ops : Array Oper} {rest : List Oper} {o : Oper} {a : Act} {w : World} {Q : Exit→Act→World→Prop} (hgd : o.guard = none) (sl x : Operand)
  (ho : o.op = .call { callee:=.builtin .append,args:=#[sl,x],argTypes:=#[36,9] }) (hty : o.type = 36) {v : Value} {n : Nat} {xs : List Value} (hs : a.eval sl = v) (hown : w.ownsRow 0 5 1 v n xs) (s : ByteArray) (hx : a.eval x = .string s) (hb : n + s.size≤140737488355328)
  (h : ∀ v' w',w'.ownsRow 0 5 1 v' (n + s.size) (xs ++ Lib.strCells s)→w.grownBy w' v.ownBlock→(v'.ownBlock = v.ownBlock∨v'.ownBlock = some w.heap.size)→wpList Tryz.prog ops Q rest (a.put o.dst v') w') : wpList Tryz.prog ops Q (o :: rest) a w:=by
 refine wpList_plain hgd fun K hK=>?_
 obtain ⟨v',w',hr,h2,h3,h4⟩:=str_law hown s hb
 unfold Oper.wp execOp
 simp only [ho,hty,resolve,invoke,builtin,Sem.run_bind,Sem.run_pure,Result.andThen_ok,List.map_toArray,List.map_cons,List.map_nil,hs,hx,hr]
 exact hK _ _ (h v' w' h2 h3 h4)
theorem writeString_run (b : Nat) (p v : Value) (s t : List UInt8) (w : World) (hbk : w.heap[b]? = some (.cells #[p,v] 104 (0,0))) (hp : p = .pointer none∨p = .pointer (some ⟨b,0,none⟩)) (hown : w.ownsRow 0 5 1 v s.length (Lib.byteCells s)) (hne : v.ownBlock≠some b) (hlen : s.length + t.length≤140737488355328) :
  Calls Tryz.prog 80 #[.pointer (some ⟨b,0,none⟩),.string (Sx.bytes t)] w fun e w'=>e = .returned (.tuple #[.int .i64 t.length,.nilIface])∧∃ v',w'.heap[b]? = some (.cells #[.pointer (some ⟨b,0,none⟩),v'] 104 (0,0))∧w'.ownsRow 0 5 1 v' (s.length + t.length) (Lib.byteCells s ++ Lib.strCells (Sx.bytes t))∧v'.ownBlock≠some b∧BKept b v v' w w':=by
 have hts : (Sx.bytes t).size = t.length:=rfl
 go_enter Tryz.func80,Tryz.ntmps80
 go_wp2_with (go_at_call 108; refine (copyCheck_run b p v s _ hbk hp hown hne).mono ?_)
 rintro e w1 ⟨rfl,hbk1,hown1,k1,k2,k3,k4,k5⟩
 have c0 : w1.cell? ⟨b,0,none⟩ = some (.pointer (some ⟨b,0,none⟩)):=by rw [Lib.cell_of_heap hbk1]; rfl
 have c1 : w1.cell? ⟨b,1,none⟩ = some v:=by rw [Lib.cell_of_heap hbk1]; rfl
 go_wp2_with (at_builtin; refine wpl_str (v:=v) (n:=s.length) (xs:=Lib.byteCells s) rfl _ _ rfl rfl rfl hown1 (Sx.bytes t) rfl (by rw [hts]; exact hlen) ?_)
 intro v' w2 hown2 hg hblk
 have hlt : b < w1.heap.size:=by
  rcases Nat.lt_or_ge b w1.heap.size with h' | h'
  ·exact h'
  ·simp [Array.getElem?_eq_none h'] at hbk1
 have hold : ∀ k,k < w1.heap.size→some k≠v.ownBlock→w2.heap[k]? = w1.heap[k]?:=fun k hk hne2=>hg.block k hk hne2
 have hsz : w1.heap.size≤w2.heap.size:=hg.size
 have hgos : w2.os = w1.os∧w2.tape = w1.tape∧w2.output = w1.output:=⟨hg.os,hg.tape,hg.output⟩
 have hne2 : v'.ownBlock≠some b:=by
  rcases hblk with h | h
  ·rw [h]; exact hne
  ·rw [h]; intro e; simp at e; omega
 have hb2 : w2.heap[b]? = some (.cells #[.pointer (some ⟨b,0,none⟩),v] 104 (0,0)):=by rw [hold b hlt (fun e=>hne e.symm)]; exact hbk1
 have d0 : w2.cell? ⟨b,0,none⟩ = some (.pointer (some ⟨b,0,none⟩)):=by rw [Lib.cell_of_heap hb2]; rfl
 have d1 : w2.cell? ⟨b,1,none⟩ = some v:=by rw [Lib.cell_of_heap hb2]; rfl
 have f1 : w2.frozen? ⟨b,1,none⟩ = false:=Lib.frozen_of_heap hb2 1
 have hnew : ∀ k,v'.ownBlock = some k→v.ownBlock = some k∨w.heap.size≤k:=by
  intro k hk
  rcases hblk with h | h
  ·left; rw [←h]; exact hk
  ·right; rw [h] at hk; simp at hk; omega
 obtain ⟨v2,hv2⟩ : ∃ v2,v2 = v':=⟨_,rfl⟩
 have hsh : ∃ a c,v' = .slice a (s.length + t.length) c:=by
  rcases hown2.2 with ⟨h,h2⟩ | ⟨g,cap,cur,h,_⟩
  ·have h2 : s.length + t.length = 0:=h2
   rw [h,h2]; exact ⟨_,_,rfl⟩
  ·exact ⟨_,_,h⟩
 obtain ⟨ao,co,rfl⟩:=hsh
 go_wp2
 go_ret2
 refine ⟨by simp [hts],_,by simp [World.setCell,Array.getElem?_modify,hb2],?_,hne2,⟨?_,?_,?_,by simp [World.setCell]; omega,fun k h1 h2 h3=>?_,hnew⟩⟩
 ·exact hown2.kept (row:=some b) ⟨rfl,rfl,rfl,by simp [World.setCell],fun k _ hk=>RowKit.Below.heap_setCell _ _ _ _ (fun e=>hk (by simp [e]))⟩ (Or.inr hne2)
 ·exact hgos.1.trans k1
 ·exact hgos.2.1.trans k2
 ·exact hgos.2.2.trans k3
 ·rw [RowKit.Below.heap_setCell _ _ _ _ (fun e=>h2 (by simp [e])),hold k (by omega) h3]
  exact k5 k h2
def spWS : FSpec:=fun _ xs ls K=>∃ (s t : List UInt8),xs = [.ptr 0 0,.str t]∧ls = [.bld 104 5 s]∧s.length + t.length≤140737488355328∧∀ r n,r = s ++ t→n = (t.length : Int)→K (.tup [.int .i64 (.a n),.raw .nilIface]) [.bld 104 5 r]
theorem writeString_ok : FnOk Tryz.prog gl 80 spWS:=by
 refine ⟨⟨Tryz.f80,_,Tryz.func80,rfl,by kernel_rfl⟩,fun xs ls K h=>?_⟩
 obtain ⟨s,t,rfl,rfl,hs,h⟩:=h
 refine ⟨_,_,h _ _ rfl rfl,callsTo_bld fun E b p v w vals A hr=>?_⟩
 obtain ⟨u,rfl,hu⟩:=relL_one hr
 rw [rel_str hu]
 refine (writeString_run b p v s t w A.at_ A.pp A.own A.ne hs).mono ?_
 rintro e w' ⟨rfl,v',k1,k2,k3,k4⟩
 refine ⟨_,v',rfl,fun E=>?_,k4,rfl,rfl,_,.inr rfl,k1,?_,k3⟩
 ·refine .tup rfl fun i x y a b=>?_
  match i,a,b with
  | 0,a,b=>cases a; cases b; exact .ro (.int rfl)
  | 1,a,b=>cases a; cases b; exact .ro (.raw rfl)
 ·have : Lib.byteCells (s ++ t) = Lib.byteCells s ++ Lib.strCells (Sx.bytes t):=by simp [Lib.byteCells,Lib.strCells,Sx.bytes]
  rw [this,List.length_append]
  exact k2
end Go.Proofs.YtefelnhpfdcleaaGreatDoor
namespace Go.Proofs.YtefelnhpfdcleaaGreatDoor
open Go Go.Sx
set_option maxRecDepth 100000
set_option maxHeartbeats 16000000
def lineH (x : HF) : List UInt8:=((x.name ++ [58,32]) ++ x.value) ++ [13,10]
def linesL (l : List HF) : List UInt8:=l.flatMap lineH ++ [13,10]
def printF (l : List HF) : List UInt8×Int:=if checkF l≠0 then ([],checkF l) else (linesL l,0)
theorem checkL_field : ∀ {l : List HF} {n : Int},checkL l n = 0→∀ x∈l,x.name.length≤64∧x.value.length≤2000
 | [],_,_,x,hx=>by cases hx
 | y :: l,n,h,x,hx=>by
  unfold checkL at h
  split at h
  ·cases h
  ·rename_i hb
   split at h
   ·cases h
   ·rename_i hv
    rcases List.mem_cons.1 hx with rfl | hx
    ·refine ⟨?_,by omega⟩
     have hb : badH x = false:=by simpa using hb
     unfold badH at hb
     simp only [Bool.or_eq_false_iff,Bool.not_eq_false'] at hb
     have:=hb.1
     unfold tokenF at this
     simp only [Bool.and_eq_true,decide_eq_true_eq] at this
     exact this.2.2
    ·exact checkL_field h x hx
theorem checkF_field {l : List HF} (h : checkF l = 0) : ∀ x∈l,x.name.length≤64∧x.value.length≤2000:=by
 unfold checkF at h
 split at h
 ·cases h
 ·exact checkL_field h
def spPrint : FSpec:=fun _ xs ls K=>∃ (l : List HF) (nl : Bool) (n : Int) (f : Nat→List SV),xs = [.sl (.a nl) (.a n) 2 f]∧ls = []∧RowH f n l∧∀ t e,(t,e) = printF l→K (.tup [.str t,.int .i64 (.a e)]) []
structure PrJ (l : List HF) (k t : List UInt8) (i : Nat) (I : Int) (m : Nat) : Prop where
 lie : AtR l i I m
 k : k = t ++ linesL (l.drop i)
 len : t.length≤3000 * i
def prJ (l : List HF) (k : List UInt8) (nl : Bool) (n : Int) (f : Nat→List SV) (m : Nat) (vs : List (Option SV)) (hp : List Hl) : Prop :=
 ∃ (t : List UInt8) (i : Nat) (I : Int),vs = [some (.ptr 0 0),some (.sl (.a nl) (.a n) 2 f),some (.int .i64 (.a n)),some (.int .i64 (.a I))]∧hp = [.bld 104 5 t]∧PrJ l k t i I m
theorem print_ok : FnOk Tryz.prog gl 44 spPrint:=by
 refine fnOk (gh:=[(4,[.bld 5 5])]) mixed cxOk (tabCons check_ok (tabCons writeString_ok (tabCons string_ok tabNil))) Tryz.func44 (by kernel_rfl) (by kernel_rfl) ?_
 intro xs ls K h
 unfold spPrint at h
 obtain ⟨l,nl,n,f,rfl,rfl,R,h⟩:=h
 obtain ⟨k,hk⟩ : ∃ k,k = printF l:=⟨_,rfl⟩
 obtain ⟨kt,ke⟩:=k
 refine ⟨_,_,h kt ke hk,fun D hD=>?_⟩
 clear h
 unfold printF at hk
 obtain ⟨J,hJ⟩ : ∃ J,J = prJ l kt nl n f:=⟨_,rfl⟩
 cbv
 refine ⟨l,_,_,f,rfl,rfl,by subst hD; exact R,fun e he=>?_⟩
 cbv
 have hcf:=checkF_field (l:=l)
 have hcl:=checkF_len (l:=l)
 rw [←he] at hk hcf hcl
 clear he
 refine br hD (fun h=>?_) (fun h=>?_)<;>cbv
 ·have h1 : e≠0:=by simpa using h
  rw [if_pos h1] at hk
  simp only [Prod.mk.injEq] at hk
  obtain ⟨hq1,hq2⟩:=hk
  subst hq1 hq2
  subst hD
  exact fin_eq rfl rfl
 have h1 : e = 0:=by simpa using h
 rw [if_neg (by simp [h1])] at hk
 simp only [Prod.mk.injEq] at hk
 obtain ⟨hq1,hq2⟩:=hk
 have hcf:=hcf h1
 have hcl:=hcl h1
 clear h
 refine ⟨[5,13,14,15],J,⟨rfl,l.length,?_⟩,?_⟩
 ·rw [hJ]
  subst hD
  exact ⟨[],0,0,rfl,rfl,AtR.zero R.len,hq1,by simp⟩
 clear hq1
 intro m vs hp hj
 rw [hJ] at hj
 obtain ⟨t,i,I,rfl,rfl,V⟩:=hj
 cbv
 refine br hD (fun h=>?_) (fun h=>?_)<;>cbv
 ·have hlt:=V.lie.lt R.n (of_decide_eq_true (p:=I < n) h)
  clear h
  refine ⟨V.lie.inB hD R.n hlt,fun j hj=>?_⟩
  obtain rfl:=V.lie.j hD hj
  clear hj
  have e1:=R.f j hlt
  have hsm:=hcf (l.getD j default) (by rw [List.getD_eq_getElem?_getD,List.getElem?_eq_getElem hlt]; exact List.getElem_mem hlt)
  have hk2:=V.k
  have hlen:=V.len
  rw [dropR (d:=default) hlt] at hk2
  obtain ⟨x,hx⟩ : ∃ x,x = l.getD j default:=⟨_,rfl⟩
  rw [←hx] at e1 hk2 hsm
  obtain ⟨a,b⟩:=x
  simp only at hsm
  cbv
  rw [e1]
  cbv
  refine ⟨⟨by simp only [List.length_cons,List.length_nil]; omega⟩,fun s1 hs1=>?_⟩
  cbv
  have hs1 : s1 = a ++ [58,32]:=hs1.h
  have l1 : s1.length≤66:=by rw [hs1]; simp; omega
  refine ⟨⟨by omega⟩,fun s2 hs2=>?_⟩
  cbv
  have hs2 : s2 = s1 ++ b:=hs2.h
  have l2 : s2.length≤2066:=by rw [hs2]; simp; omega
  refine ⟨⟨by simp only [List.length_cons,List.length_nil]; omega⟩,fun s3 hs3=>?_⟩
  cbv
  have hs3 : s3 = s2 ++ [13,10]:=hs3.h
  have l3 : s3.length≤2068:=by rw [hs3]; simp; omega
  have hline : s3 = lineH ⟨a,b⟩:=by rw [hs3,hs2,hs1]; rfl
  clear hs1 hs2 hs3
  refine ⟨t,s3,rfl,rfl,by omega,fun r nn hr hnn=>?_⟩
  cbv
  obtain ⟨g1,g2⟩:=V.lie.step hD hlt
  refine ⟨_,g1,?_⟩
  rw [hJ]
  unfold prJ
  subst hD
  refine ⟨r,j + 1,_,rfl,rfl,g2,?_,?_⟩
  ·rw [hk2,hr,hline]; simp [linesL]
  ·rw [hr,List.length_append]; omega
 ·have hi:=V.lie.eq R.n (of_decide_eq_false (p:=I < n) h)
  have hk2:=V.k
  have hlen:=V.len
  rw [hi,List.drop_length] at hk2
  clear h
  refine ⟨t,[13,10],rfl,rfl,by simp only [List.length_cons,List.length_nil]; omega,fun r nn hr hnn=>?_⟩
  cbv
  have hk3 : r = kt:=by rw [hr,hk2]; rfl
  refine ⟨r,rfl,rfl,?_⟩
  cbv
  rw [hk3,hq2]
  subst hD
  exact fin_eq rfl rfl
end Go.Proofs.YtefelnhpfdcleaaGreatDoor
namespace Go.Proofs.YtefelnhpfdcleaaGreatDoor
open Go Go.Sx
set_option maxRecDepth 100000
set_option maxHeartbeats 4000000
def sVer : List UInt8:=[32,72,84,84,80,47,49,46,49,13,10]
def encodeF (r : Rq) : List UInt8×Int :=
 if (examineF r).2.2≠0 then ([],(examineF r).2.2) else if (printF (examineF r).2.1).2≠0 then ([],(printF (examineF r).2.1).2) else
 (((((r.method ++ [32]) ++ r.target) ++ sVer) ++ (printF (examineF r).2.1).1) ++ r.body,0)
structure ExOk (r : Rq) : Prop where
 method : isMethodF r.method = true
 org : (orgF r.target).2 = 0
 chk : (chkFieldsF r).2 = 0
 host : hostF r.host = true
 body : r.body.length≤65536
 fields : (examineF r).2.1 = (chkFieldsF r).1
 id1 : 1≤r.id
 id2 : r.id≤1000000000
 part : (examineF r).1 = []
theorem examineF_ok {r : Rq} (h : (examineF r).2.2 = 0) : ExOk r:=by
 have h0:=h
 unfold examineF at h
 split at h
 ·cases h
 ·rename_i g1
  split at h
  ·cases h
  ·rename_i g2
   split at h
   ·cases h
   ·rename_i g3
    split at h
    ·rename_i g4; exact absurd h g4
    ·rename_i g4
     split at h
     ·cases h
     ·rename_i g5
      split at h
      ·rename_i g6; exact absurd h g6
      ·rename_i g6
       split at h
       ·cases h
       ·rename_i g7
        split at h
        ·cases h
        ·rename_i g8
         refine ⟨by simpa using g2,by simpa using g4,by simpa using g6,by simpa using g5,by omega,?_,by omega,by omega,?_⟩
         ·unfold examineF
          rw [if_neg g1,if_neg g2,if_neg g3,if_neg g4,if_neg g5,if_neg g6,if_neg g7,if_neg g8]
         ·unfold examineF
          rw [if_neg g1,if_neg g2,if_neg g3,if_neg g4,if_neg g5,if_neg g6,if_neg g7,if_neg g8]
theorem ExOk.method_len {r : Rq} (E : ExOk r) : r.method.length≤16:=by
 have:=E.method
 unfold isMethodF at this
 simp only [Bool.and_eq_true,decide_eq_true_eq] at this
 exact this.1
theorem linesL_len {l : List HF} (h : ∀ x∈l,x.name.length≤64∧x.value.length≤2000) : (linesL l).length≤3000 * l.length + 2:=by
 have : (l.flatMap lineH).length≤3000 * l.length:=by
  induction l with
  | nil=>simp
  | cons x l ih =>
   have h1:=h x (List.mem_cons_self ..)
   have h2:=ih fun y hy=>h y (List.mem_cons_of_mem _ hy)
   simp only [List.flatMap_cons,List.length_append,List.length_cons,lineH,List.length_nil]
   omega
 unfold linesL
 simp only [List.length_append,List.length_cons,List.length_nil]
 omega
theorem printF_len {l : List HF} : (printF l).1.length≤400000:=by
 unfold printF
 split
 ·simp
 ·rename_i h
  have h : checkF l = 0:=by simpa using h
  have h1:=linesL_len (checkF_field h)
  have h2:=checkF_len h
  simp only; omega
def spEnc : FSpec:=fun _ xs ls K=>∃ (r : Rq) (nl : Bool) (n : Int) (f : Nat→List SV),xs = [.agg [.int .i64 (.a r.id),.str r.method,.str r.target,.str r.host,.sl (.a nl) (.a n) 2 f,.str r.body]]∧ls = []∧RqOk r nl n f∧
 ∀ t e,(t,e) = encodeF r→K (.tup [.str t,.int .i64 (.a e)]) []
theorem encode_ok : FnOk Tryz.prog gl 18 spEnc:=by
 refine fnOk (gh:=[]) mixed cxOk (tabCons exam_ok (tabCons print_ok tabNil)) Tryz.func18 (by kernel_rfl) (by kernel_rfl) ?_
 intro xs ls K h
 unfold spEnc at h
 obtain ⟨r,nl,n,f,rfl,rfl,R,h⟩:=h
 obtain ⟨k,hk⟩ : ∃ k,k = encodeF r:=⟨_,rfl⟩
 obtain ⟨kt,ke⟩:=k
 refine ⟨_,_,h kt ke hk,fun D hD=>?_⟩
 clear h
 unfold encodeF at hk
 have hE:=examineF_ok (r:=r)
 have hM : (examineF r).2.2 = 0→r.method.length≤16:=fun h=>(hE h).method_len
 have hT : (examineF r).2.2 = 0→r.target.length≤500:=fun h=>orgF_len (hE h).org
 have hB : (examineF r).2.2 = 0→r.body.length≤65536:=fun h=>(hE h).body
 clear hE
 obtain ⟨ck,hck⟩ : ∃ w,w = examineF r:=⟨_,rfl⟩
 rw [←hck] at hk hM hT hB
 obtain ⟨cp,cl,ce⟩:=ck
 obtain ⟨id,me,ta,ho,fs,bo⟩:=r
 simp only at hk hM hT hB
 cbv
 refine ⟨⟨id,me,ta,ho,fs,bo⟩,nl,n,f,by subst hD; rfl,rfl,R,fun p l e nb2 n3 g3 hc R3 hnb2=>?_⟩
 cbv
 rw [←hck] at hc
 simp only [Prod.mk.injEq] at hc
 obtain ⟨hq1,hq2,hq3⟩:=hc
 subst hq1 hq2 hq3
 clear hck
 refine br hD (fun h=>?_) (fun h=>?_)<;>cbv
 ·have h1 : e≠0:=by simpa using h
  rw [if_pos h1] at hk
  simp only [Prod.mk.injEq] at hk
  obtain ⟨hq1,hq2⟩:=hk
  subst hq1 hq2
  subst hD
  exact fin_eq rfl rfl
 have h1 : e = 0:=by simpa using h
 rw [if_neg (by simp [h1])] at hk
 have hM:=hM h1
 have hT:=hT h1
 have hB:=hB h1
 clear h
 refine ⟨l,_,_,g3,rfl,rfl,by subst hD; exact R3,fun t e2 ht=>?_⟩
 cbv
 have hPl:=printF_len (l:=l)
 rw [←ht] at hk hPl
 simp only at hk hPl
 clear ht
 refine br hD (fun h=>?_) (fun h=>?_)<;>cbv
 ·have h1 : e2≠0:=by simpa using h
  rw [if_pos h1] at hk
  simp only [Prod.mk.injEq] at hk
  obtain ⟨hq1,hq2⟩:=hk
  subst hq1 hq2
  subst hD
  exact fin_eq rfl rfl
 have h1 : e2 = 0:=by simpa using h
 rw [if_neg (by simp [h1])] at hk
 simp only [Prod.mk.injEq] at hk
 obtain ⟨hq1,hq2⟩:=hk
 clear h
 refine ⟨⟨by simp only [List.length_cons,List.length_nil]; omega⟩,fun s1 hs1=>?_⟩
 cbv
 have hs1 : s1 = me ++ [32]:=hs1.h
 have l1 : s1.length≤17:=by rw [hs1]; simp; omega
 refine ⟨⟨by omega⟩,fun s2 hs2=>?_⟩
 cbv
 have hs2 : s2 = s1 ++ ta:=hs2.h
 have l2 : s2.length≤517:=by rw [hs2]; simp; omega
 refine ⟨⟨by simp only [List.length_cons,List.length_nil]; omega⟩,fun s3 hs3=>?_⟩
 cbv
 have hs3 : s3 = s2 ++ sVer:=hs3.h
 have l3 : s3.length≤528:=by rw [hs3,List.length_append]; have : sVer.length = 11:=rfl; omega
 refine ⟨⟨by omega⟩,fun s4 hs4=>?_⟩
 cbv
 have hs4 : s4 = s3 ++ t:=hs4.h
 have l4 : s4.length≤400528:=by rw [hs4,List.length_append]; omega
 refine ⟨⟨by omega⟩,fun s5 hs5=>?_⟩
 cbv
 have hs5 : s5 = s4 ++ bo:=hs5.h
 have : s5 = kt:=by rw [hs5,hs4,hs3,hs2,hs1,hq1]
 rw [this,hq2]
 subst hD
 exact fin_eq rfl rfl
end Go.Proofs.YtefelnhpfdcleaaGreatDoor
namespace Go.Proofs.YtefelnhpfdcleaaGreatDoor
open Go Go.Sx
set_option maxRecDepth 100000
set_option maxHeartbeats 4000000
instance : DecidableEq HF:=fun a b=>decidable_of_iff (a.name = b.name∧a.value = b.value) (by cases a; cases b; simp)
instance : DecidableEq Rq:=fun a b=>decidable_of_iff (a.id = b.id∧a.method = b.method∧a.target = b.target∧a.host = b.host∧a.fields = b.fields∧a.body = b.body) (by cases a; cases b; simp)
def spEqH : FSpec:=fun _ xs ls K=>∃ (a b : List HF) (na nb : Bool) (A B : Int) (f g : Nat→List SV),xs = [.sl (.a na) (.a A) 2 f,.sl (.a nb) (.a B) 2 g]∧ls = []∧RowH f A a∧RowH g B b∧∀ r : Bool,r = decide (a = b)→K (.bool (.a r)) []
structure EqJ (k : Bool) (a b : List HF) (i : Nat) (I : Int) (m : Nat) : Prop where
 at_ : AtR a i I m
 k : k = decide (a.drop i = b.drop i)
def eqJ (k : Bool) (a b : List HF) (na nb : Bool) (A B : Int) (f g : Nat→List SV) (m : Nat) (vs : List (Option SV)) (hp : List Hl) : Prop :=
 ∃ (i : Nat) (I : Int),vs = [some (.sl (.a na) (.a A) 2 f),some (.sl (.a nb) (.a B) 2 g),some (.int .i64 (.a I))]∧hp = []∧EqJ k a b i I m
theorem dropH {l : List HF} {i : Nat} (h : i < l.length) : l.drop i = l.getD i default :: l.drop (i + 1):=by
 rw [List.getD_eq_getElem?_getD,List.getElem?_eq_getElem h,Option.getD_some,List.drop_eq_getElem_cons h]
theorem equal_ok : FnOk Tryz.prog gl 63 spEqH:=by
 refine fnOk (gh:=[]) mixed cxOk tabNil Tryz.func63 (by kernel_rfl) (by kernel_rfl) ?_
 intro xs ls K h
 unfold spEqH at h
 obtain ⟨a,b,na,nb,A,B,f,g,rfl,rfl,RA,RB,h⟩:=h
 obtain ⟨k,hk⟩ : ∃ k,k = decide (a = b):=⟨_,rfl⟩
 refine ⟨_,_,h k hk,fun D hD=>?_⟩
 cbv
 clear h
 refine br hD (fun h=>?_) (fun h=>?_)<;>cbv
 ·have h2 : A≠B:=by simpa using h
  refine finBool hD ?_
  rw [hk]
  have h3 : a≠b:=fun e=>h2 (by rw [RA.n,RB.n,e])
  show false = _
  symm
  exact decide_eq_false h3
 have h2 : A = B:=by simpa using h
 have hlab : a.length = b.length:=by have:=RA.n; have:=RB.n; omega
 clear h
 obtain ⟨J,hJ⟩ : ∃ J,J = eqJ k a b na nb A B f g:=⟨_,rfl⟩
 refine ⟨[0,1,5],J,⟨rfl,a.length,?_⟩,?_⟩
 ·rw [hJ]
  subst hD
  exact ⟨0,0,rfl,rfl,AtR.zero RA.len,hk⟩
 intro m vs hp' hv
 rw [hJ] at hv
 unfold eqJ at hv
 obtain ⟨i,I,rfl,rfl,V⟩:=hv
 clear hk
 cbv
 refine br hD (fun h=>?_) (fun h=>?_)<;>cbv
 ·have hlt:=V.at_.lt RA.n (of_decide_eq_true (p:=I < A) h)
  clear h
  have hltb : i < b.length:=by omega
  have inA:=V.at_.inB hD RA.n hlt
  have inB' : Sx.InB (D.i (.a I)) (D.i (.a B)):=by have:=V.at_.I; have:=RB.n; subst hD; exact ⟨by show 0≤I; omega,by show I < B; omega⟩
  have hk2:=V.k
  rw [dropH hlt,dropH hltb] at hk2
  have e1:=RA.f i hlt
  have d1:=RB.f i hltb
  obtain ⟨x,hx⟩ : ∃ x,x = a.getD i default:=⟨_,rfl⟩
  obtain ⟨y,hy⟩ : ∃ y,y = b.getD i default:=⟨_,rfl⟩
  rw [←hx] at e1 hk2
  rw [←hy] at d1 hk2
  clear hx hy
  obtain ⟨x1,x2⟩:=x
  obtain ⟨y1,y2⟩:=y
  have hst:=V.at_.step hD hlt
  refine ⟨inA,fun j hj=>?_⟩
  have hj:=V.at_.j hD hj
  cbv
  rw [hj,e1]
  cbv
  refine ⟨inB',fun j2 hj2=>?_⟩
  have hj2:=V.at_.j hD hj2
  cbv
  rw [hj2,d1]
  cbv
  refine br hD (fun h=>?_) (fun h=>?_)<;>cbv
  ·have h : (!((x1 == y1) && (x2 == y2))) = true:=h
   refine finBool hD ?_
   show false = k
   rw [hk2]
   symm
   apply decide_eq_false
   intro e
   injection e with e1 e2
   injection e1 with e3 e4
   rw [e3,e4] at h
   simp at h
  ·have h : (!((x1 == y1) && (x2 == y2))) = false:=h
   simp only [Bool.not_eq_false',Bool.and_eq_true,beq_iff_eq] at h
   refine ⟨_,hst.1,?_⟩
   rw [hJ]
   unfold eqJ
   subst hD
   refine ⟨i + 1,_,rfl,rfl,⟨hst.2,?_⟩⟩
   rw [hk2,h.1,h.2]
   simp
 ·have he:=V.at_.eq RA.n (of_decide_eq_false (p:=I < A) h)
  refine finBool hD ?_
  show true = k
  rw [V.k,List.drop_eq_nil_of_le (by omega),List.drop_eq_nil_of_le (by omega)]
  rfl
def spSameR : FSpec:=fun _ xs ls K=>∃ (a b : Rq) (na nb : Bool) (A B : Int) (f g : Nat→List SV),xs = [.agg [.int .i64 (.a a.id),.str a.method,.str a.target,.str a.host,.sl (.a na) (.a A) 2 f,.str a.body],.agg [.int .i64 (.a b.id),.str b.method,.str b.target,.str b.host,.sl (.a nb) (.a B) 2 g,.str b.body]]∧ls = []∧RowH f A a.fields∧RowH g B b.fields∧∀ r : Bool,r = decide (a = b)→K (.bool (.a r)) []
theorem sameR_ok : FnOk Tryz.prog gl 24 spSameR:=by
 refine fnOk (gh:=[]) mixed cxOk (tabCons equal_ok tabNil) Tryz.func24 (by kernel_rfl) (by kernel_rfl) ?_
 intro xs ls K h
 unfold spSameR at h
 obtain ⟨a,b,na,nb,A,B,f,g,rfl,rfl,RA,RB,h⟩:=h
 obtain ⟨k,hk⟩ : ∃ k,k = decide (a = b):=⟨_,rfl⟩
 refine ⟨_,_,h k hk,fun D hD=>?_⟩
 obtain ⟨i1,m1,t1,h1,l1,b1⟩:=a
 obtain ⟨i2,m2,t2,h2,l2,b2⟩:=b
 cbv
 clear h
 refine ⟨l1,l2,na,nb,A,B,f,g,by subst hD; rfl,rfl,RA,RB,fun r hr=>?_⟩
 cbv
 refine finBool hD ?_
 show ((((((i1 == i2) && (m1 == m2)) && (t1 == t2)) && (h1 == h2)) && (b1 == b2)) && r) = k
 rw [hk,hr,Bool.eq_iff_iff]
 simp only [Bool.and_eq_true,beq_iff_eq,decide_eq_true_eq,Rq.mk.injEq]
 grind
def exL : List HF:=[⟨[67,111,110,110,101,99,116,105,111,110],[99,108,111,115,101]⟩,⟨[65,99,99,101,112,116],[42]⟩]
def exTarget : List UInt8:=[47,97,47,46,46,47,98,37,55,101,63,120]
def exR : Rq:=⟨7,[71,69,84],exTarget,[104],exL,[]⟩
def spEx : FSpec:=fun _ xs ls K=>xs = []∧ls = []∧∀ f n b,GrH f n b exL→K (.agg [.int .i64 (.a 7),.str [71,69,84],.str [47,97,47,46,46,47,98,37,55,101,63,120],.str [104],.sl (.a b) (.a n) 2 f,.str []]) []
theorem example_ok : FnOk Tryz.prog gl 31 spEx:=by
 refine fnOk (gh:=[]) mixed cxOk tabNil Tryz.func31 (by kernel_rfl) (by kernel_rfl) ?_
 intro xs ls K h
 unfold spEx at h
 obtain ⟨rfl,rfl,h⟩:=h
 have hG : ∃ f1 n1 b1,GrH f1 n1 b1 exL:=⟨_,_,_,⟨RowH.row (by decide) (fun i hi=>by
  have hi : i < 2:=hi
  rcases i with _ | _ | i
  ·exact ⟨by decide,by decide⟩
  ·exact ⟨by decide,by decide⟩
  ·omega),rfl⟩⟩
 obtain ⟨f1,n1,b1,hG⟩:=hG
 refine ⟨_,_,h f1 n1 b1 hG,fun D hD=>?_⟩
 cbv
 clear h
 intro g hg
 cbv
 have g0:=hg.h 0 _ rfl
 have g1:=hg.h 1 _ rfl
 have G : GrH g 2 false exL:=⟨⟨rfl,fun i hi=>by
  have hi : i < 2:=hi
  rcases i with _ | _ | i
  ·exact g0
  ·exact g1
  ·omega,by decide,fun i hi=>by
  have hi : i < 2:=hi
  rcases i with _ | _ | i
  ·exact ⟨by decide,by decide⟩
  ·exact ⟨by decide,by decide⟩
  ·omega⟩,rfl⟩
 subst hD
 exact finV (.agg (.cons (leInt rfl) (.cons (LeV.refl _) (.cons (LeV.refl _) (.cons (LeV.refl _) (.cons (leGrH G hG rfl rfl) (.cons (LeV.refl _) .nil)))))))
end Go.Proofs.YtefelnhpfdcleaaGreatDoor
namespace Go.Proofs.YtefelnhpfdcleaaGreatDoor
open Go Go.Sx
set_option maxRecDepth 100000
set_option maxHeartbeats 8000000
def ownL : List (List UInt8):=[[104,111,115,116],[120,45,114,101,113,117,101,115,116,45,105,100],[99,111,110,116,101,110,116,45,108,101,110,103,116,104],[116,114,97,110,115,102,101,114,45,101,110,99,111,100,105,110,103]]
theorem strBuilt {g : Nat→List SV} {l : List (List UInt8)} (h : Built g (l.map fun s=>[.str s])) (hl : l.length≤9223372036854775807) : RowS g l.length l:=by
 refine ⟨rfl,fun i hi=>h.h i _ ?_,hl⟩
 rw [List.getElem?_map,List.getElem?_eq_getElem hi,List.getD_eq_getElem?_getD,List.getElem?_eq_getElem hi]
 rfl
def spOwnL : FSpec:=fun _ xs ls K=>xs = []∧ls = []∧∀ f n b,GrS f n b ownL→K (.sl (.a b) (.a n) 1 f) []
theorem own_ok : FnOk Tryz.prog gl 61 spOwnL:=by
 refine fnOk (gh:=[]) mixed cxOk tabNil Tryz.func61 (by kernel_rfl) (by kernel_rfl) ?_
 intro xs ls K h
 unfold spOwnL at h
 obtain ⟨rfl,rfl,h⟩:=h
 have hG : ∃ f1 n1 b1,GrS f1 n1 b1 ownL:=⟨_,_,_,⟨RowS.row (by decide),rfl⟩⟩
 obtain ⟨f1,n1,b1,hG⟩:=hG
 refine ⟨_,_,h f1 n1 b1 hG,fun D hD=>?_⟩
 cbv
 clear h
 intro g hg
 cbv
 have R : RowS g 4 ownL:=strBuilt (l:=ownL) hg (by decide)
 subst hD
 exact finV (leGrS ⟨R,rfl⟩ hG rfl rfl)
def spFixed : FSpec:=fun _ xs ls K=>xs = []∧ls = []∧∀ f,RowS f 7 fixedL→K (.osl (.a false) (.a 7) 0) [.own 9 (.a 7) 1 true f]
theorem fixed_ok : FnOk Tryz.prog gl 101 spFixed:=by
 refine fnOk (gh:=[(999985,[])]) mixed cxOk tabNil Tryz.func101 (by kernel_rfl) (by kernel_rfl) ?_
 intro xs ls K h
 unfold spFixed at h
 obtain ⟨rfl,rfl,h⟩:=h
 obtain ⟨f1,R1⟩ : ∃ f1,RowS f1 7 fixedL:=⟨_,RowS.row (l:=fixedL) (by decide)⟩
 refine ⟨_,_,h f1 R1,fun D hD=>?_⟩
 cbv
 clear h
 intro g hg
 cbv
 have R : RowS g 7 fixedL:=strBuilt (l:=fixedL) hg (by decide)
 subst hD
 refine finOwn (leOsl rfl rfl) rfl fun i hi=>?_
 have hi : (i : Int) < 7:=hi
 have hi : i < fixedL.length:=by show i < 7; omega
 rw [R.f i hi,R1.f i hi]
def spIs : FSpec:=fun _ xs ls K=>∃ (a b s : List UInt8),xs = [.agg [.str a,.str b],.str s]∧ls = []∧a.length≤9223372036854775807∧s.length≤9223372036854775807∧∀ r : Bool,r = (foldF a == foldF s)→K (.bool (.a r)) []
theorem is_ok : FnOk Tryz.prog gl 129 spIs:=by
 refine fnOk (gh:=[]) mixed cxOk (tabCons refFold_ok tabNil) Tryz.func129 (by kernel_rfl) (by kernel_rfl) ?_
 intro xs ls K h
 unfold spIs at h
 obtain ⟨a,b,s,rfl,rfl,ha,hs,h⟩:=h
 obtain ⟨k,hk⟩ : ∃ k,k = (foldF a == foldF s):=⟨_,rfl⟩
 refine ⟨_,_,h k hk,fun D hD=>?_⟩
 cbv
 clear h
 refine ⟨a,rfl,rfl,ha,fun u hu=>?_⟩
 cbv
 refine ⟨s,rfl,rfl,hs,fun v hv=>?_⟩
 cbv
 refine finBool hD ?_
 rw [hk,←hu,←hv]
 rfl
def getF (l : List HF) (t : List UInt8) : List (List UInt8):=(l.filter fun x=>foldF x.name == foldF t).map HF.value
theorem getF_cons (x : HF) (l : List HF) (t : List UInt8) : getF (x :: l) t = if foldF x.name == foldF t then x.value :: getF l t else getF l t:=by
 unfold getF
 rw [List.filter_cons]
 split<;>simp
def spGet : FSpec:=fun _ xs ls K=>∃ (l : List HF) (t : List UInt8) (nl : Bool) (n : Int) (f : Nat→List SV),xs = [.sl (.a nl) (.a n) 2 f,.str t]∧ls = []∧RowH f n l∧l.length≤100∧t.length≤1000∧∀ r g n' b,r = getF l t→GrS g n' b r→K (.sl (.a b) (.a n') 1 g) []
structure GtJ (l : List HF) (t : List UInt8) (k out : List (List UInt8)) (i : Nat) (I n : Int) (b : Bool) (f : Nat→List SV) (m : Nat) : Prop where
 lie : AtR l i I m
 row : GrS f n b out
 ol : out.length≤i
 k : k = out ++ getF (l.drop i) t
def gtJ (l : List HF) (t : List UInt8) (k : List (List UInt8)) (nl : Bool) (N : Int) (F : Nat→List SV) (m : Nat) (vs : List (Option SV)) (hp : List Hl) : Prop :=
 ∃ (out : List (List UInt8)) (i : Nat) (I n : Int) (b : Bool) (f : Nat→List SV),vs = [some (.sl (.a nl) (.a N) 2 F),some (.str t),some (.gsl (.a b) (.a n) 1 f 0),some (.int .i64 (.a I))]∧hp = [.tail 9 (.a n) 1]∧GtJ l t k out i I n b f m
theorem getF_len (l : List HF) (t : List UInt8) : (getF l t).length≤l.length:=by
 unfold getF
 rw [List.length_map]
 exact List.length_filter_le ..
theorem get_ok : FnOk Tryz.prog gl 102 spGet:=by
 refine fnOk (gh:=[(1,[.attach 5 9])]) mixed cxOk (tabCons is_ok tabNil) Tryz.func102 (by kernel_rfl) (by kernel_rfl) ?_
 intro xs ls K h
 unfold spGet at h
 obtain ⟨l,t,nl,N,F,rfl,rfl,R,hl,ht,h⟩:=h
 obtain ⟨k,hk⟩ : ∃ k,k = getF l t:=⟨_,rfl⟩
 have hkl:=getF_len l t
 rw [←hk] at hkl
 obtain ⟨f1,n1,b1,hG⟩ : ∃ f1 n1 b1,GrS f1 n1 b1 k:=⟨_,_,_,⟨RowS.row (by omega),rfl⟩⟩
 clear hkl
 refine ⟨_,_,h k f1 n1 b1 hk hG,fun D hD=>?_⟩
 cbv
 clear h
 obtain ⟨J,hJ⟩ : ∃ J,J = gtJ l t k nl N F:=⟨_,rfl⟩
 refine ⟨[0,1,5,6],J,⟨rfl,l.length,?_⟩,?_⟩
 ·rw [hJ]
  subst hD
  exact ⟨[],0,_,_,_,_,rfl,rfl,⟨AtR.zero R.len,GrS.nil,Nat.le_refl _,hk⟩⟩
 clear hk
 intro m vs hp hj
 rw [hJ] at hj
 obtain ⟨out,i,I,n,b,f,rfl,rfl,V⟩:=hj
 cbv
 refine br hD (fun h=>?_) (fun h=>?_)<;>cbv
 ·have hlt:=V.lie.lt R.n (of_decide_eq_true (p:=I < N) h)
  clear h
  have inA:=V.lie.inB hD R.n hlt
  have hx:=R.f i hlt
  have hsm:=R.small i hlt
  have hst:=V.lie.step hD hlt
  have hk:=V.k
  rw [dropH hlt,getF_cons] at hk
  obtain ⟨x,hxx⟩ : ∃ x,x = l.getD i default:=⟨_,rfl⟩
  rw [←hxx] at hx hk hsm
  clear hxx
  obtain ⟨xn,xv⟩:=x
  refine ⟨inA,fun j hj=>?_⟩
  have hj:=V.lie.j hD hj
  cbv
  rw [hj,hx]
  cbv
  refine ⟨xn,xv,t,rfl,rfl,hsm.1,by omega,fun r hr=>?_⟩
  cbv
  simp only at hk
  rw [←hr] at hk
  clear hr hj
  refine br hD (fun h=>?_) (fun h=>?_)<;>cbv
  ·have h : r = true:=h
   rw [if_pos h] at hk
   clear h
   refine ⟨inA,fun j hj=>?_⟩
   have hj:=V.lie.j hD hj
   cbv
   rw [hj,hx]
   cbv
   clear hj
   intro g hg
   cbv
   have hg0 : g 0 = [.str xv]:=hg.h 0 _ rfl
   clear hg
   refine ⟨by subst hD; exact ⟨rfl,by have:=V.row.row.n; have:=V.ol; show (n + 1) * 16≤_; omega,by have:=V.row.row.n; have:=V.ol; show n + 1≤_; omega⟩,fun f' n' hm=>?_⟩
   cbv
   have G2 : ∀ nl',nl' = false→GrS f' n' nl' (out ++ [xv]):=fun nl' hb=>⟨V.row.row.more hg0 (by subst hD; exact hm) (by have:=V.ol; omega),by rw [hb]; simp⟩
   clear hm
   refine ⟨_,hst.1,?_⟩
   rw [hJ]
   unfold gtJ
   subst hD
   refine ⟨out ++ [xv],i + 1,_,n',(b && false),f',rfl,rfl,⟨hst.2,G2 _ (Bool.and_false _),by have:=V.ol; simp; omega,by rw [hk]; simp⟩⟩
  ·have h : r = false:=h
   rw [if_neg (by rw [h]; simp)] at hk
   refine ⟨_,hst.1,?_⟩
   rw [hJ]
   unfold gtJ
   subst hD
   exact ⟨out,i + 1,_,n,b,f,rfl,rfl,⟨hst.2,V.row,by have:=V.ol; omega,hk⟩⟩
 have hi:=V.lie.eq R.n (of_decide_eq_false (p:=I < N) h)
 have hdn : l.drop i = []:=List.drop_eq_nil_of_le (by omega)
 have hk:=V.k
 rw [hdn] at hk
 have hk : k = out:=by rw [hk]; simp [getF]
 subst hk
 subst hD
 exact finV (leGrS V.row hG rfl rfl)
end Go.Proofs.YtefelnhpfdcleaaGreatDoor
namespace Go.Proofs.YtefelnhpfdcleaaGreatDoor
open Go Go.Sx
set_option maxRecDepth 100000
set_option maxHeartbeats 16000000
def elsF (els : List (List UInt8)) : List (List UInt8):=(els.filter tokenF).map foldF
def namesG : List (List UInt8)→List (List UInt8)→Option (List (List UInt8))
 | [],out=>some out
 | v :: r,out=>if (refElementsF v).2≠0 then none else namesG r (out ++ elsF (refElementsF v).1)
theorem elsF_cons (x : List UInt8) (l : List (List UInt8)) : elsF (x :: l) = if tokenF x then foldF x :: elsF l else elsF l:=by
 unfold elsF
 rw [List.filter_cons]
 split<;>simp
theorem elsF_len (l : List (List UInt8)) : (elsF l).length≤l.length:=by
 unfold elsF
 rw [List.length_map]
 exact List.length_filter_le ..
def spNames : FSpec:=fun _ xs ls K=>∃ (l : List HF) (nl : Bool) (n : Int) (f : Nat→List SV),xs = [.sl (.a nl) (.a n) 2 f]∧ls = []∧RowH f n l∧checkF l = 0∧
 ∀ k r e g n' b,k = namesG (getF l conn) fixedL→r = k.getD []→e = (if k.isSome then (0 : Int) else 6)→GrS g n' b r→K (.tup [.sl (.a b) (.a n') 1 g,.int .i64 (.a e)]) []
structure NaJ (vs : List (List UInt8)) (k : Option (List (List UInt8))) (out : List (List UInt8)) (i : Nat) (I n : Int) (b : Bool) (f : Nat→List SV) (m : Nat) : Prop where
 lie : AtR vs i I m
 row : RowS f n out
 nl : b = false
 ol : out.length≤7 + i * 2001
 ne : out≠[]
 vl : vs.length≤100
 vm : ∀ x∈vs,x.length≤2000
 k : k = namesG (vs.drop i) out
def naJ (vs0 : List (List UInt8)) (bv : Bool) (nv : Int) (gv : Nat→List SV) (k : Option (List (List UInt8))) (m : Nat) (vs : List (Option SV)) (hp : List Hl) : Prop :=
 ∃ (out : List (List UInt8)) (i : Nat) (I n : Int) (b : Bool) (f : Nat→List SV),vs = [some (.osl (.a b) (.a n) 0),some (.sl (.a bv) (.a nv) 1 gv),some (.int .i64 (.a I))]∧hp = [.own 9 (.a n) 1 true f]∧NaJ vs0 k out i I n b f m
structure NbJ (els : List (List UInt8)) (fin out : List (List UInt8)) (i j : Nat) (J n : Int) (b : Bool) (f : Nat→List SV) (m : Nat) : Prop where
 lie : AtR els j J m
 row : RowS f n out
 nl : b = false
 ol : out.length≤7 + i * 2001 + j
 el : els.length≤2001
 i : i≤100
 ne : out≠[]
 k : fin = out ++ elsF (els.drop j)
def nbJ (els fin : List (List UInt8)) (i : Nat) (I : Int) (bv : Bool) (nv : Int) (gv : Nat→List SV) (be : Bool) (ne : Int) (ge : Nat→List SV) (m : Nat) (vs : List (Option SV)) (hp : List Hl) : Prop :=
 ∃ (out : List (List UInt8)) (j : Nat) (J n : Int) (b : Bool) (f : Nat→List SV),vs = [some (.osl (.a b) (.a n) 0),some (.sl (.a bv) (.a nv) 1 gv),some (.int .i64 (.a I)),some (.sl (.a be) (.a ne) 1 ge),some (.int .i64 (.a J))]∧hp = [.own 9 (.a n) 1 true f]∧NbJ els fin out i j J n b f m
theorem names_ok : FnOk Tryz.prog gl 65 spNames:=by
 refine fnOk (gh:=[(2000014,[.share 4])]) mixed cxOk (tabCons fixed_ok (tabCons get_ok (tabCons refElements_ok (tabCons refToken_ok (tabCons refFold_ok tabNil))))) Tryz.func65 (by kernel_rfl) (by kernel_rfl) ?_
 intro xs ls K h
 unfold spNames at h
 obtain ⟨l,nl,N,F,rfl,rfl,R,hck,h⟩:=h
 obtain ⟨k,hk⟩ : ∃ k,k = namesG (getF l conn) fixedL:=⟨_,rfl⟩
 obtain ⟨kr,hkr⟩ : ∃ r,r = k.getD []:=⟨_,rfl⟩
 obtain ⟨ke,hke⟩ : ∃ e,e = (if k.isSome then (0 : Int) else 6):=⟨_,rfl⟩
 have hlen:=checkF_len hck
 have hvm : ∀ x∈getF l conn,x.length≤2000:=fun x hx=>by
  unfold getF at hx
  obtain ⟨y,hy,rfl⟩:=List.mem_map.1 hx
  exact (checkF_field hck y (List.mem_filter.1 hy).1).2
 have hvl:=getF_len l conn
 have hkb : kr.length≤1000000:=by
  have key : ∀ (vs out : List (List UInt8)),(∀ x∈vs,x.length≤2000)→((namesG vs out).getD []).length≤out.length + vs.length * 2001:=by
   intro vs
   induction vs with
   | nil=>intro out _; simp [namesG]
   | cons v r ih =>
    intro out hm
    rw [namesG]
    split
    ·simp
    ·have h1:=ih (out ++ elsF (refElementsF v).1) fun x hx=>hm x (List.mem_cons_of_mem _ hx)
     have h2:=elsF_len (refElementsF v).1
     have h3:=(refElementsF_len v).1
     have h4:=hm v (List.mem_cons_self ..)
     simp only [List.length_append,List.length_cons] at h1 ⊢
     omega
  have:=key (getF l conn) fixedL hvm
  rw [←hk,←hkr] at this
  have e : fixedL.length = 7:=rfl
  omega
 obtain ⟨f1,n1,b1,hG⟩ : ∃ f1 n1 b1,GrS f1 n1 b1 kr:=⟨_,_,_,⟨RowS.row (by omega),rfl⟩⟩
 clear hkb
 refine ⟨_,_,h k kr ke f1 n1 b1 hk hkr hke hG,fun D hD=>?_⟩
 cbv
 clear h
 intro f2 R2
 cbv
 refine ⟨l,[99,111,110,110,101,99,116,105,111,110],nl,N,F,by subst hD; rfl,rfl,R,hlen,by decide,fun vs gv nv bv hv Gv=>?_⟩
 cbv
 have hv : vs = getF l conn:=hv
 rw [←hv] at hk hvm hvl
 clear hv
 obtain ⟨J,hJ⟩ : ∃ J,J = naJ vs bv nv gv k:=⟨_,rfl⟩
 refine ⟨[4,5,6],J,⟨rfl,vs.length,?_⟩,?_⟩
 ·rw [hJ]
  subst hD
  exact ⟨fixedL,0,_,_,_,_,rfl,rfl,⟨AtR.zero (by omega),R2,rfl,by decide,by decide,by omega,hvm,hk⟩⟩
 clear hk
 intro m ws hp hj
 rw [hJ] at hj
 obtain ⟨out,i,I,n,b,f,rfl,rfl,V⟩:=hj
 cbv
 refine br hD (fun h=>?_) (fun h=>?_)<;>cbv
 ·have hlt:=V.lie.lt Gv.row.n (of_decide_eq_true (p:=I < nv) h)
  clear h
  have inA:=V.lie.inB hD Gv.row.n hlt
  have hx:=Gv.row.f i hlt
  have hst:=V.lie.step hD hlt
  have hk:=V.k
  have hdr : vs.drop i = vs.getD i [] :: vs.drop (i + 1):=by rw [List.getD_eq_getElem?_getD,List.getElem?_eq_getElem hlt,Option.getD_some,List.drop_eq_getElem_cons hlt]
  have hxm : (vs.getD i []).length≤2000:=V.vm _ (by rw [List.getD_eq_getElem?_getD,List.getElem?_eq_getElem hlt]; exact List.getElem_mem hlt)
  rw [hdr,namesG] at hk
  obtain ⟨x,hxx⟩ : ∃ x,x = vs.getD i []:=⟨_,rfl⟩
  rw [←hxx] at hx hk hxm
  clear hdr hxx
  have hel:=(refElementsF_len x).1
  have hels:=(refElementsF_len x).2
  refine ⟨inA,fun j hj=>?_⟩
  have hj:=V.lie.j hD hj
  cbv
  rw [hj,hx]
  cbv
  clear hj
  refine ⟨x,rfl,rfl,by omega,fun els e ne be he hne hbe=>?_⟩
  generalize hge : strRow els = ge
  cbv
  rw [←he] at hk hel hels
  simp only at hk hel hels
  clear hbe
  refine br hD (fun h=>?_) (fun h=>?_)<;>cbv
  ·have h : (e != 0) = true:=h
   rw [if_pos (by simpa using h)] at hk
   rw [hk] at hkr hke
   have hkr : kr = []:=hkr
   have hke : ke = 6:=hke
   subst hkr hke
   subst hD
   exact finV (.tup (.cons (leGrS GrS.nil hG rfl rfl) (.cons (leInt rfl) .nil)))
  have h : (e != 0) = false:=h
  rw [if_neg (by simpa using h)] at hk
  clear h he
  obtain ⟨fin,hfin⟩ : ∃ fin,fin = out ++ elsF els:=⟨_,rfl⟩
  rw [←hfin] at hk
  obtain ⟨J2,hJ2⟩ : ∃ J,J = nbJ els fin i I bv nv gv be ne ge:=⟨_,rfl⟩
  refine ⟨[4,5,6,7,9],J2,⟨rfl,els.length,?_⟩,?_⟩
  ·rw [hJ2]
   subst hD
   exact ⟨out,0,_,n,b,f,rfl,rfl,⟨AtR.zero (by omega),V.row,V.nl,V.ol,hel,by have:=V.vl; omega,V.ne,hfin⟩⟩
  clear hfin
  intro m2 ws2 hp2 hj2
  rw [hJ2] at hj2
  obtain ⟨o2,j,Jj,n2,b2,f2,rfl,rfl,W⟩:=hj2
  have hneV : VI ne els.length:=⟨hne⟩
  cbv
  refine br hD (fun h=>?_) (fun h=>?_)<;>cbv
  ·have hlt2:=W.lie.lt hneV.h (of_decide_eq_true (p:=Jj < ne) h)
   clear h
   have inE:=W.lie.inB hD hneV.h hlt2
   have hst2:=W.lie.step hD hlt2
   have hkf:=W.k
   have hdr : els.drop j = els.getD j [] :: els.drop (j + 1):=by rw [List.getD_eq_getElem?_getD,List.getElem?_eq_getElem hlt2,Option.getD_some,List.drop_eq_getElem_cons hlt2]
   rw [hdr,elsF_cons] at hkf
   obtain ⟨y,hyy⟩ : ∃ y,y = els.getD j []:=⟨_,rfl⟩
   rw [←hyy] at hkf
   have hy : ge j = [.str y]:=by rw [←hge,hyy]; rfl
   have hym : y.length≤2000:=hels y (by rw [hyy,List.getD_eq_getElem?_getD,List.getElem?_eq_getElem hlt2]; exact List.getElem_mem hlt2)
   clear hdr hyy
   refine ⟨inE,fun j2 hj2=>?_⟩
   have hj2:=W.lie.j hD hj2
   cbv
   rw [hj2,hy]
   cbv
   clear hj2
   refine ⟨y,rfl,rfl,by omega,fun tk htk=>?_⟩
   cbv
   rw [←token_eq] at htk
   rw [←htk] at hkf
   clear htk
   refine br hD (fun h=>?_) (fun h=>?_)<;>cbv
   ·have h : tk = true:=h
    rw [if_pos h] at hkf
    clear h
    refine ⟨inE,fun j2 hj2=>?_⟩
    have hj2:=W.lie.j hD hj2
    cbv
    rw [hj2,hy]
    cbv
    clear hj2
    refine ⟨y,rfl,rfl,by omega,fun w hw=>?_⟩
    cbv
    rw [←hw] at hkf
    clear hw
    intro g hg
    cbv
    have hg0 : g 0 = [.str w]:=hg.h 0 _ rfl
    clear hg
    refine ⟨by subst hD; exact ⟨rfl,by have:=W.row.n; have:=W.ol; have:=W.i; have:=W.lie.le; have:=W.el; show (n2 + 1) * 16≤_; omega,by have:=W.row.n; have:=W.ol; have:=W.i; have:=W.lie.le; have:=W.el; show n2 + 1≤_; omega⟩,fun f3 n3 hm=>?_⟩
    cbv
    have R3 : RowS f3 n3 (o2 ++ [w]):=W.row.more hg0 (by subst hD; exact hm) (by have:=W.ol; have:=W.i; have:=W.lie.le; have:=W.el; omega)
    clear hm
    refine ⟨_,hst2.1,?_⟩
    rw [hJ2]
    unfold nbJ
    subst hD
    refine ⟨o2 ++ [w],j + 1,_,n3,(b2 && false),f3,rfl,rfl,⟨hst2.2,R3,Bool.and_false _,by have:=W.ol; simp; omega,W.el,W.i,by simp,by rw [hkf]; simp⟩⟩
   ·have h : tk = false:=h
    rw [if_neg (by rw [h]; simp)] at hkf
    refine ⟨_,hst2.1,?_⟩
    rw [hJ2]
    unfold nbJ
    subst hD
    exact ⟨o2,j + 1,_,n2,b2,f2,rfl,rfl,⟨hst2.2,W.row,W.nl,by have:=W.ol; omega,W.el,W.i,W.ne,hkf⟩⟩
  have hi2:=W.lie.eq hneV.h (of_decide_eq_false (p:=Jj < ne) h)
  have hdn2 : els.drop j = []:=List.drop_eq_nil_of_le (by omega)
  have hkf:=W.k
  rw [hdn2] at hkf
  have hkf : fin = o2:=by rw [hkf]; simp [elsF]
  subst hkf
  clear h hdn2
  refine ⟨_,hst.1,?_⟩
  rw [hJ]
  unfold naJ
  subst hD
  exact ⟨fin,i + 1,_,n2,b2,f2,rfl,rfl,⟨hst.2,W.row,W.nl,by have:=W.ol; have:=W.el; have:=W.lie.le; omega,W.ne,V.vl,V.vm,hk⟩⟩
 have hi:=V.lie.eq Gv.row.n (of_decide_eq_false (p:=I < nv) h)
 have hdn : vs.drop i = []:=List.drop_eq_nil_of_le (by omega)
 have hk:=V.k
 rw [hdn,namesG] at hk
 clear h
 rw [hk] at hkr hke
 have hkr : kr = out:=hkr
 have hke : ke = 0:=hke
 subst hkr hke
 subst hD
 refine ⟨⟨rfl⟩,finV (.tup (.cons (leGrS ⟨V.row,?_⟩ hG rfl rfl) (.cons (leInt rfl) .nil)))⟩
 rw [V.nl]
 have:=V.ne
 cases kr with
 | nil=>exact absurd rfl this
 | cons _ _=>rfl
end Go.Proofs.YtefelnhpfdcleaaGreatDoor
namespace Go.Proofs.YtefelnhpfdcleaaGreatDoor
open Go Go.Sx
set_option maxRecDepth 100000
set_option maxHeartbeats 16000000
theorem inF_app (a b : List (List UInt8)) (s : List UInt8) : inF (a ++ b) s = (inF a s || inF b s):=by
 induction a with
 | nil=>rfl
 | cons x a ih=>show ((x == s) || inF (a ++ b) s) = (((x == s) || inF a s) || inF b s); rw [ih,Bool.or_assoc]
theorem setF_in {F : List UInt8→Bool} {out : List (List UInt8)} {x : List UInt8} (h : ∀ s,F s = inF out s) (s : List UInt8) : setF F x s = inF (out ++ [x]) s:=by
 rw [inF_app]
 unfold setF
 show (if s = x then true else F s) = (inF out s || ((x == s) || false))
 rw [h s,Bool.or_false]
 by_cases e : s = x
 ·subst e; simp
 ·rw [if_neg e]
  have : (x == s) = false:=by rw [beq_eq_false_iff_ne]; exact fun h=>e h.symm
  rw [this,Bool.or_false]
theorem addEls_in : ∀ (els : List (List UInt8)) (F : List UInt8→Bool) (out : List (List UInt8)),(∀ s,F s = inF out s)→∀ s,addEls F els s = inF (out ++ elsF els) s
 | [],F,out,h,s=>by rw [show elsF [] = [] from rfl,List.append_nil]; exact h s
 | x :: els,F,out,h,s=>by
  rw [elsF_cons]
  show addEls (if tokenF x then setF F (foldF x) else F) els s = _
  split
  ·have:=addEls_in els (setF F (foldF x)) (out ++ [foldF x]) (fun s=>setF_in h s) s
   rw [this,List.append_assoc]
   rfl
  ·exact addEls_in els F out h s
theorem conn_fold : foldF conn = conn:=by decide
theorem hops_names : ∀ (l : List HF) (F : List UInt8→Bool) (out : List (List UInt8)),(∀ s,F s = inF out s)→match namesG (getF l conn) out with
  | none=>(hopsR conn l F).2 = false
  | some o=>(hopsR conn l F).2 = true∧∀ s,(hopsR conn l F).1 s = inF o s
 | [],F,out,h=>⟨rfl,h⟩
 | x :: l,F,out,h=>by
  rw [getF_cons,conn_fold,hopsR]
  by_cases hx : foldF x.name = conn
  ·rw [if_pos (by rw [hx]; simp),if_pos hx,namesG]
   by_cases he : (refElementsF x.value).2 = 0
   ·rw [if_pos he,if_neg (by simpa using he)]
    exact hops_names l _ _ (addEls_in _ F out h)
   ·rw [if_neg he,if_pos he]
  ·rw [if_neg (by simpa using hx),if_neg hx]
   exact hops_names l F out h
theorem foldl_setF : ∀ (l : List (List UInt8)) (F : List UInt8→Bool) (out : List (List UInt8)),(∀ s,F s = inF out s)→∀ s,(l.foldl setF F) s = inF (out ++ l) s
 | [],F,out,h,s=>by rw [List.append_nil]; exact h s
 | x :: l,F,out,h,s=>by
  have:=foldl_setF l (setF F x) (out ++ [x]) (fun s=>setF_in h s) s
  rw [List.foldl_cons,this,List.append_assoc]
  rfl
def keptR (o : List (List UInt8)) (l : List HF) : List HF:=l.filter fun x=>!inF o (foldF x.name)
theorem stripF_ref {l : List HF} (h : checkF l = 0) : stripF l = match namesG (getF l conn) fixedL with
  | none=>([],6)
  | some o=>(keptR o l,0):=by
 have hb : ∀ s,baseS s = inF fixedL s:=by
  intro s
  have:=foldl_setF fixedL (fun _=>false) [] (fun s=>rfl) s
  rw [List.nil_append] at this
  exact this
 have hn:=hops_names l baseS fixedL hb
 unfold stripF hopsF
 rw [if_neg (by rw [h]; simp)]
 cases hk : namesG (getF l conn) fixedL with
 | none=>rw [hk] at hn; simp only at hn; rw [if_neg (by rw [hn]; simp)]
 | some o =>
  rw [hk] at hn
  simp only at hn
  rw [if_pos hn.1]
  unfold keptH keptR
  congr 1
  congr 1
  funext x
  unfold keepH
  rw [hn.2]
def spStripR : FSpec:=fun _ xs ls K=>∃ (l : List HF) (nl : Bool) (n : Int) (f : Nat→List SV),xs = [.sl (.a nl) (.a n) 2 f]∧ls = []∧RowH f n l∧∀ r e g n' b,(r,e) = stripF l→GrH g n' b r→K (.tup [.sl (.a b) (.a n') 2 g,.int .i64 (.a e)]) []
structure StJ (l : List HF) (o : List (List UInt8)) (k out : List HF) (i : Nat) (I n : Int) (b : Bool) (f : Nat→List SV) (m : Nat) : Prop where
 lie : AtR l i I m
 row : GrH f n b out
 ol : out.length≤i
 k : k = out ++ keptR o (l.drop i)
def stJ (l : List HF) (o : List (List UInt8)) (k : List HF) (nl : Bool) (N : Int) (F : Nat→List SV) (bo : Bool) (no : Int) (go : Nat→List SV) (m : Nat) (vs : List (Option SV)) (hp : List Hl) : Prop :=
 ∃ (out : List HF) (i : Nat) (I n : Int) (b : Bool) (f : Nat→List SV),vs = [some (.sl (.a nl) (.a N) 2 F),some (.sl (.a bo) (.a no) 1 go),some (.gsl (.a b) (.a n) 2 f 0),some (.int .i64 (.a I))]∧hp = [.tail 69 (.a n) 2]∧StJ l o k out i I n b f m
theorem keptR_cons (o : List (List UInt8)) (x : HF) (l : List HF) : keptR o (x :: l) = if !inF o (foldF x.name) then x :: keptR o l else keptR o l:=by
 unfold keptR
 rw [List.filter_cons]
theorem refStrip_ok : FnOk Tryz.prog gl 25 spStripR:=by
 refine fnOk (gh:=[(7,[.attach 6 69])]) mixed cxOk (tabCons refCheck_ok (tabCons names_ok (tabCons refFold_ok (tabCons in6_ok tabNil)))) Tryz.func25 (by kernel_rfl) (by kernel_rfl) ?_
 intro xs ls K h
 unfold spStripR at h
 obtain ⟨l,nl,N,F,rfl,rfl,R,h⟩:=h
 obtain ⟨k,hk⟩ : ∃ k,k = stripF l:=⟨_,rfl⟩
 obtain ⟨kr,ke⟩:=k
 have hkb : kr.length≤1000000∧∀ x∈kr,x.small:=by
  unfold stripF at hk
  split at hk
  ·obtain ⟨rfl,_⟩:=Prod.mk.inj hk; exact ⟨by simp,fun x hx=>by cases hx⟩
  ·rename_i h1
   have:=checkF_len (l:=l) (by simpa using h1)
   split at hk
   ·obtain ⟨rfl,_⟩:=Prod.mk.inj hk
    refine ⟨Nat.le_trans (List.length_filter_le ..) (by omega),fun x hx=>R.smallM x (List.mem_filter.1 hx).1⟩
   ·obtain ⟨rfl,_⟩:=Prod.mk.inj hk; exact ⟨by simp,fun x hx=>by cases hx⟩
 obtain ⟨f1,n1,b1,hG⟩ : ∃ f1 n1 b1,GrH f1 n1 b1 kr:=⟨_,_,_,⟨RowH.row (by omega) (fun i hi=>hkb.2 _ (by rw [List.getD_eq_getElem?_getD,List.getElem?_eq_getElem hi]; exact List.getElem_mem hi)),rfl⟩⟩
 clear hkb
 refine ⟨_,_,h kr ke f1 n1 b1 hk hG,fun D hD=>?_⟩
 cbv
 clear h
 refine ⟨l,nl,N,F,by subst hD; rfl,rfl,R,fun c hc=>?_⟩
 cbv
 refine br hD (fun h=>?_) (fun h=>?_)<;>cbv
 ·have h : (c != 0) = true:=h
  have h1 : c≠0:=by simpa using h
  unfold stripF at hk
  rw [←hc,if_pos h1] at hk
  obtain ⟨rfl,rfl⟩:=Prod.mk.inj hk
  subst hD
  exact finV (.tup (.cons (leGrH GrH.nil hG rfl rfl) (.cons (leInt rfl) .nil)))
 have h : (c != 0) = false:=h
 have h1 : checkF l = 0:=by rw [←hc]; simpa using h
 have hlen:=checkF_len h1
 rw [stripF_ref h1] at hk
 clear h hc
 refine ⟨l,nl,N,F,by subst hD; rfl,rfl,R,h1,fun q o e go no bo hq ho he Go=>?_⟩
 cbv
 rw [←hq] at hk
 clear hq h1
 refine br hD (fun h=>?_) (fun h=>?_)<;>cbv
 ·have h : (e != 0) = true:=h
  have hqn : q = none:=by
   cases q with
   | none=>rfl
   | some _=>rw [he] at h; cases h
  subst hqn
  have he : e = 6:=he
  obtain ⟨rfl,rfl⟩:=Prod.mk.inj hk
  subst he
  subst hD
  exact finV (.tup (.cons (leGrH GrH.nil hG rfl rfl) (.cons (leInt rfl) .nil)))
 have h : (e != 0) = false:=h
 have hqs : ∃ o',q = some o':=by
  cases q with
  | none=>rw [he] at h; cases h
  | some o'=>exact ⟨o',rfl⟩
 obtain ⟨o',rfl⟩:=hqs
 have ho : o = o':=ho
 subst ho
 obtain ⟨hkr,hke⟩:=Prod.mk.inj hk
 clear hk he h
 obtain ⟨J,hJ⟩ : ∃ J,J = stJ l o kr nl N F bo no go:=⟨_,rfl⟩
 refine ⟨[0,5,6,7],J,⟨rfl,l.length,?_⟩,?_⟩
 ·rw [hJ]
  subst hD
  exact ⟨[],0,_,_,_,_,rfl,rfl,⟨AtR.zero R.len,GrH.nil,Nat.le_refl _,hkr⟩⟩
 clear hkr
 intro m vs hp hj
 rw [hJ] at hj
 obtain ⟨out,i,I,n,b,f,rfl,rfl,V⟩:=hj
 cbv
 refine br hD (fun h=>?_) (fun h=>?_)<;>cbv
 ·have hlt:=V.lie.lt R.n (of_decide_eq_true (p:=I < N) h)
  clear h
  have inA:=V.lie.inB hD R.n hlt
  have hx:=R.f i hlt
  have hsm:=R.small i hlt
  have hst:=V.lie.step hD hlt
  have hk:=V.k
  rw [dropH hlt,keptR_cons] at hk
  obtain ⟨x,hxx⟩ : ∃ x,x = l.getD i default:=⟨_,rfl⟩
  rw [←hxx] at hx hk hsm
  clear hxx
  obtain ⟨xn,xv⟩:=x
  refine ⟨inA,fun j hj=>?_⟩
  have hj:=V.lie.j hD hj
  cbv
  rw [hj,hx]
  cbv
  refine ⟨xn,rfl,rfl,hsm.1,fun w hw=>?_⟩
  cbv
  refine ⟨o,w,bo,no,go,by subst hD; rfl,rfl,Go.row,fun r hr=>?_⟩
  cbv
  simp only at hk
  rw [←hw,←hr] at hk
  clear hr hj hw
  refine br hD (fun h=>?_) (fun h=>?_)<;>cbv
  ·have h : (!r) = true:=h
   rw [if_pos h] at hk
   clear h
   refine ⟨inA,fun j hj=>?_⟩
   have hj:=V.lie.j hD hj
   cbv
   rw [hj,hx]
   cbv
   clear hj
   intro g hg
   cbv
   have hg0 : g 0 = hfCells ⟨xn,xv⟩:=hg.h 0 _ rfl
   clear hg
   refine ⟨by subst hD; exact ⟨rfl,by have:=V.row.row.n; have:=V.ol; show (n + 1) * 32≤_; omega,by have:=V.row.row.n; have:=V.ol; show n + 1≤_; omega⟩,fun f' n' hm=>?_⟩
   cbv
   have G2 : ∀ nl',nl' = false→GrH f' n' nl' (out ++ [⟨xn,xv⟩]):=fun nl' hb=>V.row.more hg0 hsm (by subst hD; exact hm) (by have:=V.ol; omega) hb
   clear hm
   refine ⟨_,hst.1,?_⟩
   rw [hJ]
   unfold stJ
   subst hD
   refine ⟨out ++ [⟨xn,xv⟩],i + 1,_,n',(b && false),f',rfl,rfl,⟨hst.2,G2 _ (Bool.and_false _),by have:=V.ol; simp; omega,by rw [hk]; simp⟩⟩
  ·have h : (!r) = false:=h
   rw [if_neg (by rw [h]; simp)] at hk
   refine ⟨_,hst.1,?_⟩
   rw [hJ]
   unfold stJ
   subst hD
   exact ⟨out,i + 1,_,n,b,f,rfl,rfl,⟨hst.2,V.row,by have:=V.ol; omega,hk⟩⟩
 have hi:=V.lie.eq R.n (of_decide_eq_false (p:=I < N) h)
 have hdn : l.drop i = []:=List.drop_eq_nil_of_le (by omega)
 have hk:=V.k
 rw [hdn] at hk
 have hk : kr = out:=by rw [hk]; simp [keptR]
 subst hk
 subst hke
 subst hD
 exact finV (.tup (.cons (leGrH V.row hG rfl rfl) (.cons (leInt rfl) .nil)))
end Go.Proofs.YtefelnhpfdcleaaGreatDoor
namespace Go.Proofs.YtefelnhpfdcleaaGreatDoor
open Go Go.Sx
set_option maxRecDepth 100000
set_option maxHeartbeats 8000000
theorem val_09 {c : Int} (h : 48≤c∧c≤57) : valueI c = c - 48:=by unfold valueI; rw [if_pos h]
theorem val_AF {c : Int} (h : 65≤c∧c≤70) : valueI c = c - 55:=by unfold valueI; rw [if_neg (by omega),if_pos h]
theorem val_af {c : Int} (h : 97≤c∧c≤102) : valueI c = c - 87:=by unfold valueI; rw [if_neg (by omega),if_neg (by omega),if_pos h]
theorem val_no {c : Int} (h1 : ¬ (48≤c∧c≤57)) (h2 : ¬ (65≤c∧c≤70)) (h3 : ¬ (97≤c∧c≤102)) : valueI c = -1:=by unfold valueI; rw [if_neg h1,if_neg h2,if_neg h3]
theorem hex_ok : FnOk Tryz.prog gl 82 spValue:=by
 refine fnOk (gh:=[]) mixed cxOk tabNil Tryz.func82 (by kernel_rfl) (by kernel_rfl) ?_
 intro xs ls K h
 unfold spValue at h
 obtain ⟨c,rfl,rfl,hc,h⟩:=h
 obtain ⟨k,hk⟩ : ∃ k,k = valueI c:=⟨_,rfl⟩
 refine ⟨_,_,h k hk,fun D hD=>?_⟩
 cbv
 clear h
 have w : ∀ n : Int,-1000≤n→n≤1000→IntKind.i64.wrap n = n:=fun n a b=>wrap64 (by omega) (by omega)
 refine br hD (fun h=>?_) (fun h=>?_)<;>cbv
 ·have h2 : 48≤c∧c≤57:=by simpa using h
  refine finInt hD ?_
  rw [hk,val_09 h2]
  show IntKind.i64.wrap (IntKind.u8.wrap (c - 48)) = _
  rw [wrap8 (by omega) (by omega),w _ (by omega) (by omega)]
 have h2 : ¬ (48≤c∧c≤57):=by simpa using h
 clear h
 refine br hD (fun h=>?_) (fun h=>?_)<;>cbv
 ·have h3 : 97≤c∧c≤102:=by simpa using h
  refine finInt hD ?_
  rw [hk,val_af h3]
  show IntKind.i64.wrap (IntKind.i64.wrap (IntKind.u8.wrap (c - 97)) + 10) = _
  rw [wrap8 (by omega) (by omega),w (c - 97) (by omega) (by omega),w _ (by omega) (by omega)]
  omega
 have h3 : ¬ (97≤c∧c≤102):=by simpa using h
 clear h
 refine br hD (fun h=>?_) (fun h=>?_)<;>cbv
 ·have h4 : 65≤c∧c≤70:=by simpa using h
  refine finInt hD ?_
  rw [hk,val_AF h4]
  show IntKind.i64.wrap (IntKind.i64.wrap (IntKind.u8.wrap (c - 65)) + 10) = _
  rw [wrap8 (by omega) (by omega),w (c - 65) (by omega) (by omega),w _ (by omega) (by omega)]
  omega
 have h4 : ¬ (65≤c∧c≤70):=by simpa using h
 refine finInt hD ?_
 rw [hk,val_no h2 h4 h3]; rfl
def plainC (c : Int) : Bool:=decide (kindN c.toNat = 1)
def spPlainR : FSpec:=fun _ xs ls K=>∃ (c : Int),xs = [.int .u8 (.a c)]∧ls = []∧(0≤c∧c≤255)∧∀ r,r = plainC c→K (.bool (.a r)) []
theorem plainC_iff {c : Int} (hc : 0≤c∧c≤255) : plainC c = true↔((((((97≤c∧c≤122)∨(65≤c∧c≤90))∨(48≤c∧c≤57))∨c = 45)∨c = 46)∨c = 95)∨c = 126:=by
 unfold plainC kindN
 rw [decide_eq_true_eq]
 split
 ·constructor
  ·intro _; omega
  ·intro _; rfl
 ·split
  ·constructor
   ·intro h; cases h
   ·intro _; omega
  ·constructor
   ·intro h; cases h
   ·intro _; omega
theorem plainR_ok : FnOk Tryz.prog gl 76 spPlainR:=by
 refine fnOk (gh:=[]) mixed cxOk tabNil Tryz.func76 (by kernel_rfl) (by kernel_rfl) ?_
 intro xs ls K h
 unfold spPlainR at h
 obtain ⟨c,rfl,rfl,hc,h⟩:=h
 obtain ⟨k,hk⟩ : ∃ k,k = plainC c:=⟨_,rfl⟩
 refine ⟨_,_,h k hk,fun D hD=>?_⟩
 cbv
 clear h
 refine finBool hD ?_
 rw [hk,Bool.eq_iff_iff,plainC_iff hc]
 show (((((((decide (97≤c) && decide (c≤122)) || (decide (65≤c) && decide (c≤90))) || (decide (48≤c) && decide (c≤57))) || (c == 45)) || (c == 46)) || (c == 95)) || (c == 126)) = true↔_
 simp only [Bool.or_eq_true,Bool.and_eq_true,decide_eq_true_eq,beq_iff_eq]
def amongF (c : Int) (s : List UInt8) : Bool:=s.any fun b=>((b.toNat : Int) == c)
def spAmong : FSpec:=fun _ xs ls K=>∃ (c : Int) (s : List UInt8),xs = [.int .u8 (.a c),.str s]∧ls = []∧s.length≤9223372036854775807∧∀ r,r = amongF c s→K (.bool (.a r)) []
def amJ (c : Int) (s : List UInt8) (k : Bool) (m : Nat) (vs : List (Option SV)) (hp : List Hl) : Prop :=
 ∃ (i : Nat) (I : Int),vs = [some (.int .u8 (.a c)),some (.str s),some (.int .i64 (.a I))]∧hp = []∧At s i I m∧k = amongF c (s.drop i)
theorem among_ok : FnOk Tryz.prog gl 77 spAmong:=by
 refine fnOk (gh:=[]) mixed cxOk tabNil Tryz.func77 (by kernel_rfl) (by kernel_rfl) ?_
 intro xs ls K h
 unfold spAmong at h
 obtain ⟨c,s,rfl,rfl,hs,h⟩:=h
 obtain ⟨k,hk⟩ : ∃ k,k = amongF c s:=⟨_,rfl⟩
 refine ⟨_,_,h k hk,fun D hD=>?_⟩
 cbv
 clear h
 obtain ⟨J,hJ⟩ : ∃ J,J = amJ c s k:=⟨_,rfl⟩
 refine ⟨[0,1,5],J,⟨rfl,s.length,?_⟩,?_⟩
 ·rw [hJ]
  subst hD
  exact ⟨0,0,rfl,rfl,At.zero hs,hk⟩
 intro m vs hp hv
 rw [hJ] at hv
 unfold amJ at hv
 obtain ⟨i,I,rfl,rfl,V,hk2⟩:=hv
 clear hk
 cbv
 refine br hD (fun h=>?_) (fun h=>?_)<;>cbv
 ·have hlt:=V.lt (of_decide_eq_true (p:=I < (s.length : Int)) h)
  clear h
  rw [drop_at hlt] at hk2
  refine ⟨V.inS hD hlt,fun b hb=>?_⟩
  cbv
  have hb2:=charOf hD V.I hb
  have hst:=V.step hD hlt
  refine br hD (fun h=>?_) (fun h=>?_)<;>cbv
  ·have h : (b == c) = true:=h
   refine finBool hD ?_
   rw [hk2]
   show true = (((s.getD i 0).toNat : Int) == c || amongF c _)
   have h3:=hb2.charI
   unfold charI at h3
   rw [←h3,h]; rfl
  ·have h : (b == c) = false:=h
   refine ⟨_,hst.1,?_⟩
   rw [hJ]
   unfold amJ
   subst hD
   refine ⟨i + 1,_,rfl,rfl,hst.2,?_⟩
   rw [hk2]
   show (((s.getD i 0).toNat : Int) == c || amongF c _) = _
   have h3:=hb2.charI
   unfold charI at h3
   rw [←h3,h,Bool.false_or]
 have he:=V.eq (of_decide_eq_false (p:=I < (s.length : Int)) h)
 refine finBool hD ?_
 rw [hk2,List.drop_eq_nil_of_le (by omega)]; rfl
def spEncd : FSpec:=fun _ xs ls K=>∃ (s : List UInt8) (i : Nat) (I : Int),xs = [.str s,.int .i64 (.a I)]∧ls = []∧I = i∧s.length≤1000000∧i≤s.length∧∀ r,r = escAt s i→K (.bool (.a r)) []
structure EnV (s : List UInt8) (i : Nat) (I : Int) : Prop where
 I : I = i
 len : s.length≤1000000
 le : i≤s.length
theorem encoded_ok : FnOk Tryz.prog gl 75 spEncd:=by
 refine fnOk (gh:=[]) mixed cxOk (tabCons hex_ok tabNil) Tryz.func75 (by kernel_rfl) (by kernel_rfl) ?_
 intro xs ls K h
 unfold spEncd at h
 obtain ⟨s,i,I,rfl,rfl,hI,hs,hi,h⟩:=h
 obtain ⟨k,hk⟩ : ∃ k,k = escAt s i:=⟨_,rfl⟩
 have V : EnV s i I:=⟨hI,hs,hi⟩
 clear hI hs hi
 refine ⟨_,_,h k hk,fun D hD=>?_⟩
 cbv
 clear h
 have w1 : IntKind.i64.wrap (I + 1) = I + 1:=by have:=V.I; have:=V.len; have:=V.le; exact wrap64 (by omega) (by omega)
 have w2 : IntKind.i64.wrap (I + 2) = I + 2:=by have:=V.I; have:=V.len; have:=V.le; exact wrap64 (by omega) (by omega)
 have hlt : decide (IntKind.i64.wrap (I + 2) < (s.length : Int)) = true→i + 2 < s.length:=fun hg=>by
  have h:=of_decide_eq_true hg
  rw [w2] at h
  have:=V.I; omega
 refine ⟨fun hg=>?_,fun c hc=>?_⟩
 ·subst hD
  have:=hlt hg
  exact ⟨by show 0≤I; have:=V.I; omega,by show I < _; have:=V.I; omega⟩
 cbv
 have hc2 : CharAt c s i:=charOf hD V.I hc
 clear hc
 refine ⟨fun hg=>?_,fun x hx=>?_⟩
 ·subst hD
  have hg : (decide (IntKind.i64.wrap (I + 2) < (s.length : Int)) && (c == 37)) = true:=hg
  have:=hlt (Bool.and_eq_true_iff.1 hg).1
  exact ⟨by show 0≤IntKind.i64.wrap (I + 1); rw [w1]; have:=V.I; omega,by show IntKind.i64.wrap (I + 1) < _; rw [w1]; have:=V.I; omega⟩
 cbv
 have hx2 : CharAt x s (i + 1):=byteAt hD (e:=.bin .add .i64 (.a I) (.l 1)) (by show IntKind.i64.wrap (I + 1) = _; rw [w1,V.I]; rfl) hx
 clear hx
 refine ⟨_,rfl,rfl,by subst hD; exact hx2.le,fun a ha=>?_⟩
 cbv
 have ha : a = valueI x:=by subst hD; exact ha
 refine ⟨fun hg=>?_,fun y hy=>?_⟩
 ·subst hD
  have hg : ((decide (IntKind.i64.wrap (I + 2) < (s.length : Int)) && (c == 37)) && decide (0≤a)) = true:=hg
  have:=hlt (Bool.and_eq_true_iff.1 (Bool.and_eq_true_iff.1 hg).1).1
  exact ⟨by show 0≤IntKind.i64.wrap (I + 2); rw [w2]; have:=V.I; omega,by show IntKind.i64.wrap (I + 2) < _; rw [w2]; have:=V.I; omega⟩
 cbv
 have hy2 : CharAt y s (i + 2):=byteAt hD (e:=.bin .add .i64 (.a I) (.l 2)) (by show IntKind.i64.wrap (I + 2) = _; rw [w2,V.I]; rfl) hy
 clear hy
 refine ⟨_,rfl,rfl,by subst hD; exact hy2.le,fun b hb=>?_⟩
 cbv
 have hb : b = valueI y:=by subst hD; exact hb
 refine finBool hD ?_
 rw [hk]
 show (((decide (IntKind.i64.wrap (I + 2) < (s.length : Int)) && (c == 37)) && decide (0≤a)) && decide (0≤b)) = _
 have hP : hexP s i↔(i + 2 < s.length∧c = 37∧0≤a∧0≤b):=by
  unfold hexP
  rw [←hc2.charI,←hx2.charI,←hy2.charI,←ha,←hb]
 unfold escAt
 rw [w2,Bool.eq_iff_iff]
 simp only [Bool.and_eq_true,decide_eq_true_eq,beq_iff_eq]
 rw [hP]
 have:=V.I
 constructor
 ·rintro ⟨⟨⟨h1,h2⟩,h3⟩,h4⟩; exact ⟨by omega,h2,h3,h4⟩
 ·rintro ⟨h1,h2,h3,h4⟩; exact ⟨⟨⟨by omega,h2⟩,h3⟩,h4⟩
end Go.Proofs.YtefelnhpfdcleaaGreatDoor
namespace Go.Proofs.YtefelnhpfdcleaaGreatDoor
open Go Go.Sx
set_option maxRecDepth 100000
set_option maxHeartbeats 8000000
def spDig (k : Nat) : FSpec:=fun _ xs ls K=>∃ (n : Int),xs = [.int .i64 (.a n)]∧ls = []∧0≤n∧n < k∧n≤9223372036854775807∧∀ r,r = Lib.decDigits n.toNat→K (.str r) []
theorem dig_len {n : Int} (h : 0≤n) (h2 : n≤9223372036854775807) : (Lib.decDigits n.toNat).length≤20:=by
 rw [Lib.decDigits_length]
 exact Lib.nDigits_le20 _ (by omega)
structure DgV (n : Int) (k : Nat) : Prop where
 lo : 0≤n
 lt : n < (k + 1 : Nat)
 hi : n≤9223372036854775807
structure HpE2 (n : Int) (k : Nat) : Prop where
 h : n < k
theorem digits_rec : ∀ k,FnOk Tryz.prog gl 86 (spDig k)
 | 0=>by
  refine ⟨⟨Tryz.f86,_,Tryz.func86,rfl,by kernel_rfl⟩,fun xs ls K h=>?_⟩
  obtain ⟨n,_,_,h0,h1,_⟩:=h
  omega
 | k + 1=>by
  refine fnOk (gh:=[]) mixed cxOk (tabCons (digits_rec k) tabNil) Tryz.func86 (by kernel_rfl) (by kernel_rfl) ?_
  intro xs ls K h
  unfold spDig at h
  obtain ⟨n,rfl,rfl,h0,hnk,h2,h⟩:=h
  obtain ⟨q,hq⟩ : ∃ q,q = Lib.decDigits n.toNat:=⟨_,rfl⟩
  have V : DgV n k:=⟨h0,hnk,h2⟩
  clear h0 hnk h2
  refine ⟨_,_,h q hq,fun D hD=>?_⟩
  cbv
  clear h
  refine br hD (fun h=>?_) (fun h=>?_)<;>cbv
  ·have h9 : 9 < n:=by
    have h : (decide (9 < n) || decide (n < -9)) = true:=h
    simp only [Bool.or_eq_true,decide_eq_true_eq] at h
    have:=V.lo
    omega
   clear h
   have hrem : binDen .rem .i64 n 10 = n % 10:=by
    show n.tmod 10 = _
    exact Int.tmod_eq_emod_of_nonneg V.lo
   have hquo : binDen .quo .i64 n 10 = n / 10:=by
    show IntKind.i64.wrap (n.tdiv 10) = _
    rw [Int.tdiv_eq_ediv_of_nonneg V.lo]
    have:=V.lo; have:=V.hi
    exact wrap64 (by omega) (by omega)
   have W : DgV (n / 10) k:=⟨by have:=V.lo; omega,by have:=V.lo; have:=V.lt; omega,by have:=V.lo; have:=V.hi; omega⟩
   have hlt : n / 10 < k:=by have:=V.lo; have:=V.lt; omega
   have hw : IntKind.u8.wrap (IntKind.i64.wrap (48 + binDen .rem .i64 n 10)) = 48 + n % 10:=by
    rw [hrem,wrap64 (by omega) (by omega)]
    exact wrap8 (by omega) (by omega)
   have hdd : Lib.decDigits n.toNat = Lib.decDigits (n / 10).toNat ++ [UInt8.ofNat (48 + n.toNat % 10)]:=by
    rw [Lib.decDigits,dif_neg (by have:=V.lo; omega)]
    congr 3
    have:=V.lo; omega
   rw [hdd] at hq
   have hu8 : ((UInt8.ofNat (48 + n.toNat % 10)).toNat : Int) = 48 + n % 10:=by
    rw [UInt8.toNat_ofNat']
    have:=V.lo; omega
   have HU : VI (IntKind.u8.wrap (IntKind.i64.wrap (48 + binDen .rem .i64 n 10))) (UInt8.ofNat (48 + n.toNat % 10)).toNat:=⟨by rw [hw,hu8]⟩
   clear hw hu8
   have HV : HpE2 (n / 10) k:=⟨hlt⟩
   clear hlt hdd
   refine ⟨⟨by subst hD; decide⟩,?_⟩
   refine br hD (fun h=>?_) (fun h=>?_)<;>cbv
   ·exfalso
    have h : decide (binDen .rem .i64 n 10 < 0) = true:=h
    rw [hrem] at h
    have:=of_decide_eq_true h
    have:=V.lo; omega
   clear h
   refine ⟨⟨by subst hD; decide⟩,_,rfl,rfl,by subst hD; show 0≤binDen .quo .i64 n 10; rw [hquo]; exact W.lo,by subst hD; show binDen .quo .i64 n 10 < _; rw [hquo]; exact HV.h,by subst hD; show binDen .quo .i64 n 10≤_; rw [hquo]; exact W.hi,fun r hr=>?_⟩
   cbv
   have hr : r = Lib.decDigits (n / 10).toNat:=by
    subst hD
    have hr : r = Lib.decDigits (binDen .quo .i64 n 10).toNat:=hr
    rw [hquo] at hr
    exact hr
   have hrl : r.length≤20:=by rw [hr]; exact dig_len W.lo W.hi
   rw [←hr] at hq
   clear hr
   obtain ⟨c8,hc8⟩ : ∃ c8,c8 = UInt8.ofNat (48 + n.toNat % 10):=⟨_,rfl⟩
   rw [←hc8] at hq HU
   intro g hg
   cbv
   have R : RowU g 1 [c8]:=by
    refine ⟨rfl,fun i hi=>?_⟩
    have hi : i < 1:=hi
    obtain rfl : i = 0:=by omega
    subst hD
    have h5 : g 0 = [.int .u8 (.a (IntKind.u8.wrap (IntKind.i64.wrap (48 + binDen .rem .i64 n 10))))]:=hg.h 0 _ rfl
    rw [h5,HU.h]
    rfl
   clear hg
   refine ⟨by subst hD; exact R.byte,fun w hw2=>?_⟩
   cbv
   have hw2 : w = [c8]:=by subst hD; exact R.str hw2
   refine ⟨⟨by rw [hw2]; simp only [List.length_cons,List.length_nil]; omega⟩,fun t ht=>?_⟩
   cbv
   have ht:=ht.h
   exact finStr (by rw [ht,hw2,hq])
  have h9 : n≤9:=by
   have h : (decide (9 < n) || decide (n < -9)) = false:=h
   simp only [Bool.or_eq_false_iff,decide_eq_false_iff_not] at h
   omega
  clear h
  have hdd : Lib.decDigits n.toNat = [UInt8.ofNat (48 + n.toNat)]:=by
   rw [Lib.decDigits,dif_pos (by have:=V.lo; omega)]
  rw [hdd] at hq
  have hw : IntKind.u8.wrap (IntKind.i64.wrap (48 + n)) = 48 + n:=by
   have:=V.lo
   rw [wrap64 (by omega) (by omega)]
   exact wrap8 (by omega) (by omega)
  have hu8 : ((UInt8.ofNat (48 + n.toNat)).toNat : Int) = 48 + n:=by
   rw [UInt8.toNat_ofNat']
   have:=V.lo; omega
  have HU : VI (IntKind.u8.wrap (IntKind.i64.wrap (48 + n))) (UInt8.ofNat (48 + n.toNat)).toNat:=⟨by rw [hw,hu8]⟩
  clear hw hu8 hdd
  obtain ⟨c8,hc8⟩ : ∃ c8,c8 = UInt8.ofNat (48 + n.toNat):=⟨_,rfl⟩
  rw [←hc8] at hq HU
  refine br hD (fun h=>?_) (fun h=>?_)<;>cbv
  ·exfalso
   have h : decide (n < 0) = true:=h
   have:=of_decide_eq_true h
   have:=V.lo; omega
  clear h
  intro g hg
  cbv
  have R : RowU g 1 [c8]:=by
   refine ⟨rfl,fun i hi=>?_⟩
   have hi : i < 1:=hi
   obtain rfl : i = 0:=by omega
   subst hD
   have h5 : g 0 = [.int .u8 (.a (IntKind.u8.wrap (IntKind.i64.wrap (48 + n))))]:=hg.h 0 _ rfl
   rw [h5,HU.h]
   rfl
  clear hg
  refine ⟨by subst hD; exact R.byte,fun w hw2=>?_⟩
  cbv
  have hw2 : w = [c8]:=by subst hD; exact R.str hw2
  exact finStr (by rw [hw2,hq])
def spDigits : FSpec:=fun _ xs ls K=>∃ (n : Int),xs = [.int .i64 (.a n)]∧ls = []∧0≤n∧n≤9223372036854775807∧∀ r,r = Lib.itoa n→K (.str r) []
theorem digits_ok86 : FnOk Tryz.prog gl 86 spDigits:=by
 refine ⟨(digits_rec 0).1,fun xs ls K h=>?_⟩
 obtain ⟨n,rfl,rfl,h0,h2,h⟩:=h
 refine (digits_rec (n.toNat + 1)).2 _ _ _ ⟨n,rfl,rfl,h0,by omega,h2,fun r hr=>h r ?_⟩
 rw [hr,Lib.itoa,if_neg (by omega)]
end Go.Proofs.YtefelnhpfdcleaaGreatDoor
namespace Go.Proofs.YtefelnhpfdcleaaGreatDoor
open Go Go.Sx
set_option maxRecDepth 100000
set_option maxHeartbeats 8000000
def hostB (c : Int) : Bool:=((decide (97≤c) && decide (c≤122)) || (decide (48≤c) && decide (c≤57))) || amongF c [45,46,58]
theorem hostB_fin : ∀ c : Fin 256,hostB (c.1 : Int) = hostSet.contains (UInt8.ofNat c.1):=by decide +kernel
theorem hostB_eq (b : UInt8) : hostSet.contains b = hostB (b.toNat : Int):=by
 have:=hostB_fin ⟨b.toNat,b.toNat_lt⟩
 simp only [UInt8.ofNat_toNat] at this
 exact this.symm
def hostAll (s : List UInt8) : Bool:=s.all fun b=>hostB (b.toNat : Int)
theorem hostF_all (s : List UInt8) : hostF s = (s != [] && (decide (s.length≤100) && hostAll s)):=by
 unfold hostF hostAll
 congr 2
 rw [Bool.eq_iff_iff,beq_iff_eq,List.all_eq_true]
 constructor
 ·intro h c hc
  rw [←hostB_eq]
  exact trimS_nil h c hc
 ·intro h
  show ((s.reverse.dropWhile (fun x=>hostSet.contains x)).reverse).dropWhile (fun x=>hostSet.contains x) = []
  rw [dropWhile_nil]
  intro x hx
  have hx:=List.mem_reverse.1 hx
  have hx : x∈s.reverse:=(List.dropWhile_suffix _).subset hx
  rw [hostB_eq]
  exact h x (List.mem_reverse.1 hx)
def hoJ (s : List UInt8) (k : Bool) (m : Nat) (vs : List (Option SV)) (hp : List Hl) : Prop :=
 ∃ (i : Nat) (I : Int),vs = [some (.str s),some (.int .i64 (.a I))]∧hp = []∧At s i I m∧k = hostAll (s.drop i)
theorem refHost_ok : FnOk Tryz.prog gl 68 (spPredS hostF):=by
 refine fnOk (gh:=[]) mixed cxOk (tabCons among_ok tabNil) Tryz.func68 (by kernel_rfl) (by kernel_rfl) ?_
 intro xs ls K h
 unfold spPredS at h
 obtain ⟨s,rfl,rfl,hs,h⟩:=h
 obtain ⟨k,hk⟩ : ∃ k,k = hostF s:=⟨_,rfl⟩
 refine ⟨_,_,h k hk,fun D hD=>?_⟩
 cbv
 clear h
 rw [hostF_all] at hk
 refine br hD (fun h=>?_) (fun h=>?_)<;>cbv
 ·have h : (decide ((s.length : Int) < 1) || decide (100 < (s.length : Int))) = true:=h
  simp only [Bool.or_eq_true,decide_eq_true_eq] at h
  refine finBool hD ?_
  rw [hk]
  symm
  show _ = false
  rcases h with h | h
  ·have : s = []:=List.eq_nil_of_length_eq_zero (by omega)
   rw [this]; rfl
  ·rw [decide_eq_false (show ¬ s.length≤100 by omega)]
   simp
 have h : (decide ((s.length : Int) < 1) || decide (100 < (s.length : Int))) = false:=h
 simp only [Bool.or_eq_false_iff,decide_eq_false_iff_not] at h
 have hne : s≠[]:=by rintro rfl; simp at h
 rw [decide_eq_true (show s.length≤100 by omega),Bool.true_and] at hk
 have hne2 : (s != []) = true:=by simpa using hne
 rw [hne2,Bool.true_and] at hk
 clear h hne hne2
 obtain ⟨J,hJ⟩ : ∃ J,J = hoJ s k:=⟨_,rfl⟩
 refine ⟨[0,3],J,⟨rfl,s.length,?_⟩,?_⟩
 ·rw [hJ]
  subst hD
  exact ⟨0,0,rfl,rfl,At.zero hs,hk⟩
 intro m vs hp hv
 rw [hJ] at hv
 unfold hoJ at hv
 obtain ⟨i,I,rfl,rfl,V,hk2⟩:=hv
 clear hk
 cbv
 refine br hD (fun h=>?_) (fun h=>?_)<;>cbv
 ·have hlt:=V.lt (of_decide_eq_true (p:=I < (s.length : Int)) h)
  clear h
  rw [drop_at hlt] at hk2
  have hk2 : k = (hostB ((s.getD i 0).toNat : Int) && hostAll (s.drop (i + 1))):=hk2
  have hst:=V.step hD hlt
  have inS:=V.inS hD hlt
  refine ⟨inS,fun b hb=>?_⟩
  cbv
  have hb2:=charOf hD V.I hb
  clear hb
  refine ⟨fun _=>inS,fun b1 hb=>?_⟩
  cbv
  have e1 : b1 = b:=by rw [(charOf hD V.I hb).h,hb2.h]
  subst e1
  clear hb
  refine ⟨fun _=>inS,fun b3 hb=>?_⟩
  cbv
  have e1 : b3 = b1:=by rw [(charOf hD V.I hb).h,hb2.h]
  subst e1
  clear hb
  refine ⟨fun _ _=>inS,fun b4 hb=>?_⟩
  cbv
  have e1 : b4 = b3:=by rw [(charOf hD V.I hb).h,hb2.h]
  subst e1
  clear hb
  refine ⟨fun _=>inS,fun b5 hb=>?_⟩
  cbv
  have e1 : b5 = b4:=by rw [(charOf hD V.I hb).h,hb2.h]
  subst e1
  clear hb
  refine ⟨_,[45,46,58],rfl,rfl,by decide,fun q hq=>?_⟩
  cbv
  have hq : q = amongF b5 [45,46,58]:=by subst hD; exact hq
  have hkk : hostB ((s.getD i 0).toNat : Int) = (((decide (97≤b5) && decide (b5≤122)) || (decide (48≤b5) && decide (b5≤57))) || q):=by
   rw [←hb2.h,hq]; rfl
  rw [hkk] at hk2
  clear hkk hq
  refine br hD (fun h=>?_) (fun h=>?_)<;>cbv
  ·have h : (!(((decide (97≤b5) && decide (b5≤122)) || (decide (48≤b5) && decide (b5≤57))) || q)) = true:=h
   simp only [Bool.not_eq_true'] at h
   rw [h,Bool.false_and] at hk2
   exact finBool hD hk2.symm
  ·have h : (!(((decide (97≤b5) && decide (b5≤122)) || (decide (48≤b5) && decide (b5≤57))) || q)) = false:=h
   simp only [Bool.not_eq_false'] at h
   rw [h,Bool.true_and] at hk2
   refine ⟨_,hst.1,?_⟩
   rw [hJ]
   unfold hoJ
   subst hD
   exact ⟨i + 1,_,rfl,rfl,hst.2,hk2⟩
 have he:=V.eq (of_decide_eq_false (p:=I < (s.length : Int)) h)
 have hdn : s.drop i = []:=List.drop_eq_nil_of_le (by omega)
 rw [hdn] at hk2
 exact finBool hD hk2.symm
theorem refMethod1_ok : FnOk Tryz.prog gl 67 (spPredS isMethodF):=by
 refine fnOk (gh:=[]) mixed cxOk (tabCons refToken_ok tabNil) Tryz.func67 (by kernel_rfl) (by kernel_rfl) ?_
 intro xs ls K h
 unfold spPredS at h
 obtain ⟨s,rfl,rfl,hs,h⟩:=h
 obtain ⟨k,hk⟩ : ∃ k,k = isMethodF s:=⟨_,rfl⟩
 refine ⟨_,_,h k hk,fun D hD=>?_⟩
 cbv
 clear h
 refine ⟨s,rfl,rfl,hs,fun b hb=>?_⟩
 cbv
 rw [←token_eq] at hb
 refine finBool hD ?_
 rw [hk,isMethodF,←hb]
 show (decide ((s.length : Int)≤16) && b) = _
 congr 1
 rw [decide_eq_decide]; omega
theorem bareF_in (s : List UInt8) : bareF s = inF [[71,69,84],[72,69,65,68],[84,82,65,67,69]] s:=by
 rw [Bool.eq_iff_iff,inF_iff]
 simp only [List.mem_cons,List.not_mem_nil,or_false]
 unfold bareF
 split
 ·simp [*]
 ·split
  ·simp [*]
  ·split
   ·rename_i h; subst h; simp
   ·split
    ·simp [*]
    ·split
     ·rename_i h; subst h; simp
     ·split<;>simp [*]
theorem refBare_ok : FnOk Tryz.prog gl 62 (spPredS bareF):=by
 refine fnOk (gh:=[]) mixed cxOk (tabCons in7_ok tabNil) Tryz.func62 (by kernel_rfl) (by kernel_rfl) ?_
 intro xs ls K h
 unfold spPredS at h
 obtain ⟨s,rfl,rfl,hs,h⟩:=h
 obtain ⟨k,hk⟩ : ∃ k,k = bareF s:=⟨_,rfl⟩
 refine ⟨_,_,h k hk,fun D hD=>?_⟩
 cbv
 clear h
 intro g hg
 cbv
 have R : RowS g 3 [[71,69,84],[72,69,65,68],[84,82,65,67,69]]:=strBuilt (l:=[[71,69,84],[72,69,65,68],[84,82,65,67,69]]) hg (by decide)
 refine ⟨[[71,69,84],[72,69,65,68],[84,82,65,67,69]],s,false,3,g,by subst hD; rfl,rfl,R,fun r hr=>?_⟩
 cbv
 refine finBool hD ?_
 rw [hk,bareF_in,←hr]
 rfl
end Go.Proofs.YtefelnhpfdcleaaGreatDoor
namespace Go.Proofs.YtefelnhpfdcleaaGreatDoor
open Go Go.Sx
set_option maxRecDepth 100000
set_option maxHeartbeats 8000000
theorem hasBody_in (r : Rq) : hasBody r = ((r.body != []) || inF [sPost,sPut,sPatch] r.method):=by
 unfold hasBody
 have e : ∀ (a b : List UInt8),(a == b) = (b == a):=fun a b=>by rw [Bool.eq_iff_iff,beq_iff_eq,beq_iff_eq]; exact eq_comm
 show _ = ((r.body != []) || ((sPost == r.method) || ((sPut == r.method) || ((sPatch == r.method) || false))))
 rw [e sPost,e sPut,e sPatch,Bool.or_false,Bool.or_assoc,Bool.or_assoc]
def spWritR : FSpec:=fun _ xs ls K=>∃ (r : Rq) (nl : Bool) (n : Int) (f : Nat→List SV),xs = [.agg [.int .i64 (.a r.id),.str r.method,.str r.target,.str r.host,.sl (.a nl) (.a n) 2 f,.str r.body]]∧ls = []∧RqOk r nl n f∧0≤r.id∧
 ∀ l e nb n' g,(l,e) = writtenF r→RowH g n' l→nb = (e != 0)→K (.tup [.sl (.a nb) (.a n') 2 g,.int .i64 (.a e)]) []
theorem refWritten_ok : FnOk Tryz.prog gl 45 spWritR:=by
 refine fnOk (gh:=[]) mixed cxOk (tabCons refStrip_ok (tabCons digits_ok86 (tabCons in7_ok tabNil))) Tryz.func45 (by kernel_rfl) (by kernel_rfl) ?_
 intro xs ls K h
 unfold spWritR at h
 obtain ⟨r,nl,n,f,rfl,rfl,R,hid,h⟩:=h
 obtain ⟨k,hk⟩ : ∃ k,k = writtenF r:=⟨_,rfl⟩
 obtain ⟨kl,ke⟩:=k
 have hs0 : ∀ x : HF,∀ (a b : List UInt8),x = ⟨a,b⟩→a.length≤100→b.length≤9223372036854775807→x.small:=fun x a b e h1 h2=>by subst e; exact ⟨by show a.length≤_; omega,h2⟩
 have hxs : HF.small ⟨sHost,r.host⟩:=hs0 _ _ _ rfl (by decide) R.host
 have hys : HF.small ⟨sXId,Lib.itoa r.id⟩:=hs0 _ _ _ rfl (by decide) (itoa_len R.id1 R.id2)
 have hzs : HF.small ⟨sCL,Lib.itoa r.body.length⟩:=hs0 _ _ _ rfl (by decide) (itoa_len (by omega) (by have:=R.body; omega))
 have hg : ∃ g n',RowH g n' kl:=by
  unfold writtenF at hk
  split at hk
  ·simp only [Prod.mk.injEq] at hk
   rw [hk.1]; exact rowOf [] (by simp) (fun i hi=>absurd hi (by simp))
  ·rename_i h1
   have h1 : (stripF r.fields).2 = 0:=by simpa using h1
   have h2:=stripF_len _ h1
   simp only [Prod.mk.injEq] at hk
   rw [hk.1]
   refine rowOf _ ?_ (small_append (small_append (fun i hi=>?_) (stripF_small R.row.small)) ?_)
   ·simp only [List.length_append]
    split<;>simp<;>omega
   ·match i,hi with
    | 0,_=>exact hxs
    | 1,_=>exact hys
   ·split
    ·intro i hi
     have : i = 0:=by simpa using hi
     subst this; exact hzs
    ·intro i hi; simp at hi
 obtain ⟨g,n2,R2⟩:=hg
 obtain ⟨nb,hnb⟩ : ∃ nb,nb = (ke != 0):=⟨_,rfl⟩
 refine ⟨_,_,h kl ke nb n2 g hk R2 hnb,fun D hD=>?_⟩
 clear h
 obtain ⟨id,me,ta,ho,fs,bo⟩:=r
 simp only at R hxs hys hzs hid
 unfold writtenF at hk
 simp only at hk
 cbv
 refine ⟨fs,_,_,f,rfl,rfl,by subst hD; exact R.row,fun l e g3 n3 nb2 hl RR=>?_⟩
 have hl2:=stripF_len fs
 rw [←hl] at hl2 hk
 simp only at hl2 hk
 have R3:=RR.row
 clear RR hl
 cbv
 refine br hD (fun h=>?_) (fun h=>?_)<;>cbv
 ·have h1 : e≠0:=by simpa using h
  rw [if_pos h1] at hk
  simp only [Prod.mk.injEq] at hk
  obtain ⟨rfl,rfl⟩:=hk
  exact finSl hD (by rw [hnb]; simp [h1]) (l:=[]) ⟨rfl,fun i hi=>absurd hi (by simp),by simp,fun i hi=>absurd hi (by simp)⟩ rfl rfl R2
 have h1 : e = 0:=by simpa using h
 rw [if_neg (by simp [h1])] at hk
 have hl3:=hl2 h1
 clear h hl2
 refine ⟨_,rfl,rfl,by subst hD; exact hid,by subst hD; exact R.id2,fun ids hids=>?_⟩
 cbv
 have hids : ids = Lib.itoa id:=by subst hD; exact hids
 rw [←hids] at hk hys
 clear hids
 intro f2 hf2
 cbv
 have hR2 : RowH f2 2 [⟨sHost,ho⟩,⟨sXId,ids⟩]:=RowH.two (hf2.h 0 _ rfl) (hf2.h 1 _ rfl) hxs hys
 clear hf2
 have hn3:=R3.n
 refine ⟨?_,fun f4 n4 hm=>?_⟩
 ·subst hD
  refine ⟨rfl,?_,?_⟩
  ·show ((2 : Int) + n3) * 32≤140737488355328
   omega
  ·show (2 : Int) + n3≤9223372036854775807
   omega
 cbv
 have R4 : RowH f4 n4 ([⟨sHost,ho⟩,⟨sXId,ids⟩] ++ l):=hR2.app R3 (by subst hD; exact hm) (by simp only [List.length_cons,List.length_nil]; omega)
 clear hm hR2 hn3
 have hl4 : (([⟨sHost,ho⟩,⟨sXId,ids⟩] : List HF) ++ l).length≤102:=by simp; omega
 obtain ⟨l4,hl4e⟩ : ∃ l4,l4 = ([⟨sHost,ho⟩,⟨sXId,ids⟩] : List HF) ++ l:=⟨_,rfl⟩
 rw [←hl4e] at hk R4 hl4
 clear hl4e
 refine br hD (fun hgd=>?_) (fun hgd=>?_)<;>cbv
 ·intro f7 hf7
  cbv
  have R7 : RowS f7 3 [sPost,sPut,sPatch]:=strBuilt (l:=[sPost,sPut,sPatch]) hf7 (by decide)
  clear hf7
  refine ⟨[sPost,sPut,sPatch],me,false,3,f7,by subst hD; rfl,rfl,R7,fun q hq=>?_⟩
  cbv
  have hhb : hasBody ⟨id,me,ta,ho,fs,bo⟩ = ((bo != []) || q):=by rw [hq,hasBody_in]
  clear hq
  refine br hD (fun h=>?_) (fun h=>?_)<;>cbv
  ·have hb : hasBody ⟨id,me,ta,ho,fs,bo⟩ = true:=by rw [hhb]; exact h
   rw [if_pos hb] at hk
   clear h hb
   refine ⟨_,rfl,rfl,by subst hD; show 0≤(bo.length : Int); omega,by subst hD; show (bo.length : Int)≤_; have:=R.body; simp only at this; omega,fun bs hbs=>?_⟩
   cbv
   have hbs : bs = Lib.itoa (bo.length : Int):=by subst hD; exact hbs
   rw [←hbs] at hk hzs
   clear hbs
   intro f5 hf5
   cbv
   have hR5 : RowH f5 1 [⟨sCL,bs⟩]:=RowH.one (hf5.h 0 _ rfl) hzs
   clear hf5
   refine ⟨by subst hD; exact ⟨rfl,by have:=R4.n; show (n4 + 1) * 32≤_; omega,by have:=R4.n; show n4 + 1≤_; omega⟩,fun f6 n6 hm=>?_⟩
   cbv
   have R6 : RowH f6 n6 (l4 ++ [⟨sCL,bs⟩]):=R4.app hR5 (by subst hD; exact hm) (by simp only [List.length_cons,List.length_nil]; omega)
   clear hm
   simp only [Prod.mk.injEq] at hk
   obtain ⟨hq1,hq2⟩:=hk
   subst hq1 hq2
   exact finSl hD (by rw [hnb]; rfl) R6 rfl rfl R2
  ·have hb : hasBody ⟨id,me,ta,ho,fs,bo⟩ = false:=by rw [hhb]; exact h
   rw [if_neg (by rw [hb]; simp),List.append_nil] at hk
   simp only [Prod.mk.injEq] at hk
   obtain ⟨hq1,hq2⟩:=hk
   subst hq1 hq2
   exact finSl hD (by rw [hnb]; rfl) R4 rfl rfl R2
 ·have hgd : (!(bo != [])) = false:=hgd
  have hgd : (bo != []) = true:=by simpa only [Bool.not_eq_false'] using hgd
  refine ⟨[],me,true,0,fun _=>[],by subst hD; rfl,rfl,RowS.nil,fun q hq=>?_⟩
  cbv
  have hhb : hasBody ⟨id,me,ta,ho,fs,bo⟩ = ((bo != []) || q):=by rw [hasBody_in]; simp only; rw [hgd,Bool.true_or,Bool.true_or]
  clear hq hgd
  refine br hD (fun h=>?_) (fun h=>?_)<;>cbv
  ·have hb : hasBody ⟨id,me,ta,ho,fs,bo⟩ = true:=by rw [hhb]; exact h
   rw [if_pos hb] at hk
   clear h hb
   refine ⟨_,rfl,rfl,by subst hD; show 0≤(bo.length : Int); omega,by subst hD; show (bo.length : Int)≤_; have:=R.body; simp only at this; omega,fun bs hbs=>?_⟩
   cbv
   have hbs : bs = Lib.itoa (bo.length : Int):=by subst hD; exact hbs
   rw [←hbs] at hk hzs
   clear hbs
   intro f5 hf5
   cbv
   have hR5 : RowH f5 1 [⟨sCL,bs⟩]:=RowH.one (hf5.h 0 _ rfl) hzs
   clear hf5
   refine ⟨by subst hD; exact ⟨rfl,by have:=R4.n; show (n4 + 1) * 32≤_; omega,by have:=R4.n; show n4 + 1≤_; omega⟩,fun f6 n6 hm=>?_⟩
   cbv
   have R6 : RowH f6 n6 (l4 ++ [⟨sCL,bs⟩]):=R4.app hR5 (by subst hD; exact hm) (by simp only [List.length_cons,List.length_nil]; omega)
   clear hm
   simp only [Prod.mk.injEq] at hk
   obtain ⟨hq1,hq2⟩:=hk
   subst hq1 hq2
   exact finSl hD (by rw [hnb]; rfl) R6 rfl rfl R2
  ·have hb : hasBody ⟨id,me,ta,ho,fs,bo⟩ = false:=by rw [hhb]; exact h
   rw [if_neg (by rw [hb]; simp),List.append_nil] at hk
   simp only [Prod.mk.injEq] at hk
   obtain ⟨hq1,hq2⟩:=hk
   subst hq1 hq2
   exact finSl hD (by rw [hnb]; rfl) R4 rfl rfl R2
end Go.Proofs.YtefelnhpfdcleaaGreatDoor
namespace Go.Proofs.YtefelnhpfdcleaaGreatDoor
open Go Go.Sx
set_option maxRecDepth 100000
set_option maxHeartbeats 16000000
def amS : List UInt8:=[33,36,38,39,40,41,42,43,44,59,61,58,64,47]
theorem kind_am : ∀ c : Fin 256,(!plainC (c.1 : Int) && !amongF (c.1 : Int) amS) = decide (kindN c.1 = 0):=by decide +kernel
theorem kind_am2 {c : Int} (h : 0≤c∧c≤255) : (!plainC c && !amongF c amS) = decide (kindN c.toNat = 0):=by
 have:=kind_am ⟨c.toNat,by omega⟩
 have e : ((c.toNat : Nat) : Int) = c:=by omega
 simp only [e] at this
 exact this
theorem plus3 {s : List UInt8} {i : Nat} {I : Int} {m : Nat} (V : At s i I m) (h : i < s.length) (hl : s.length≤1000000) : IntKind.i64.wrap (IntKind.i64.wrap (I + 2) + 1) = ((i + 3 : Nat) : Int):=by
 have:=V.I; rw [wrap64 (n:=I + 2) (by omega) (by omega),wrap64 (by omega) (by omega)]; omega
def tgJ (s : List UInt8) (k : Option Nat) (m : Nat) (vs : List (Option SV)) (hp : List Hl) : Prop :=
 ∃ (i e : Nat) (I E : Int),vs = [some (.str s),some (.int .i64 (.a E)),some (.int .i64 (.a I))]∧hp = []∧OrgJ s k i e I E m
theorem pre47 (s : List UInt8) : Lib.hasPrefix s [47] = decide (s≠[]∧charI s 0 = 47):=by
 cases s with
 | nil=>rfl
 | cons b r =>
  rw [Bool.eq_iff_iff]
  simp only [Lib.hasPrefix,List.isPrefixOf,Bool.and_true,beq_iff_eq,decide_eq_true_eq,ne_eq,reduceCtorEq,not_false_eq_true,true_and]
  unfold charI
  simp only [List.getD_cons_zero]
  constructor
  ·intro h; rw [←h]; rfl
  ·intro h
   have : b.toNat = 47:=by omega
   exact (UInt8.toNat_inj.1 this).symm
theorem refTarget_ok : FnOk Tryz.prog gl 37 spOrg:=by
 refine fnOk (gh:=[]) mixed cxOk (tabCons encoded_ok (tabCons plainR_ok (tabCons among_ok tabNil))) Tryz.func37 (by kernel_rfl) (by kernel_rfl) ?_
 intro xs ls K h
 unfold spOrg at h
 obtain ⟨s,rfl,rfl,hs,h⟩:=h
 obtain ⟨k,hk⟩ : ∃ k,k = orgF s:=⟨_,rfl⟩
 obtain ⟨ke,kr⟩:=k
 refine ⟨_,_,h ke kr hk,fun D hD=>?_⟩
 cbv
 clear h
 unfold orgF at hk
 refine br hD (fun h=>?_) (fun h=>?_)<;>cbv
 ·have h2 : 500 < s.length:=by have h : decide ((500 : Int) < (s.length : Int)) = true:=h; simp only [decide_eq_true_eq] at h; omega
  rw [if_pos h2] at hk
  simp only [Prod.mk.injEq] at hk
  exact finII hD hk.1.symm hk.2.symm
 have hlen : s.length≤500:=by have h : decide ((500 : Int) < (s.length : Int)) = false:=h; simp only [decide_eq_false_iff_not] at h; omega
 rw [if_neg (by omega),pre47] at hk
 clear h
 refine ⟨fun hg=>?_,fun c hc=>?_⟩
 ·subst hD
  have hg : (!(s == [])) = true:=hg
  have hg : (s == []) = false:=by simpa only [Bool.not_eq_true'] using hg
  have hne : s≠[]:=fun e=>by rw [e] at hg; cases hg
  exact ⟨by decide,by show (0 : Int) < _; have:=List.length_pos_iff.2 hne; omega⟩
 cbv
 have hc2 : CharAt c s 0:=by subst hD; exact ⟨hc.h⟩
 rw [←hc2.charI] at hk
 clear hc
 refine br hD (fun h=>?_) (fun h=>?_)<;>cbv
 ·have h2 : ((s == []) || (c != 47)) = true:=h
  rw [if_pos (by
   simp only [Bool.or_eq_true,beq_iff_eq,bne_iff_ne,ne_eq] at h2
   simp only [Bool.not_eq_true',decide_eq_false_iff_not,not_and]
   rintro h3 h4
   rcases h2 with h2 | h2
   ·exact h3 h2
   ·exact h2 h4)] at hk
  simp only [Prod.mk.injEq] at hk
  exact finII hD hk.1.symm hk.2.symm
 have h2 : ((s == []) || (c != 47)) = false:=h
 rw [if_neg (by
   simp only [Bool.or_eq_false_iff,beq_eq_false_iff_ne,bne_eq_false_iff_eq,ne_eq] at h2
   simp only [Bool.not_eq_true',decide_eq_false_iff_not]
   exact fun h=>h h2)] at hk
 clear h h2 hc2
 obtain ⟨kk,hkk⟩ : ∃ kk,kk = orgL s 0 s.length:=⟨_,rfl⟩
 rw [←hkk] at hk
 obtain ⟨J,hJ⟩ : ∃ J,J = tgJ s kk:=⟨_,rfl⟩
 refine ⟨[0,4,5],J,⟨rfl,s.length,?_⟩,?_⟩
 ·rw [hJ]
  subst hD
  exact ⟨0,s.length,_,_,rfl,rfl,At.zero hs,rfl,hkk,hlen⟩
 clear hkk
 intro m vs hp hj
 rw [hJ] at hj
 obtain ⟨i,e,I,E,rfl,rfl,V⟩:=hj
 cbv
 refine br hD (fun h=>?_) (fun h=>?_)<;>cbv
 ·have hlt:=V.lie.lt (of_decide_eq_true (p:=I < (s.length : Int)) h)
  clear h
  refine ⟨V.lie.inS hD hlt,fun c hc=>?_⟩
  cbv
  have hc2 : CharAt c s i:=charOf hD V.lie.I hc
  clear hc
  refine br hD (fun h=>?_) (fun h=>?_)<;>cbv
  ·have h2 : c = 63:=by have h : (c == 63) = true:=h; exact eq_of_beq h
   have he : escAt s i = false:=by
    unfold escAt; rw [decide_eq_false]
    rintro ⟨_,h3,_⟩
    rw [←hc2.charI,h2] at h3
    cases h3
   have hmin:=orgL_mark (e:=e) hlt he (by rw [←hc2.charI]; exact h2)
   intro mn hmn
   cbv
   have hmn2 : mn = min E I:=by subst hD; exact hmn.h
   clear hmn
   refine ⟨s.length - (i + 1),by have:=V.lie.m; omega,?_⟩
   rw [hJ]
   unfold tgJ
   subst hD
   refine ⟨i + 1,min e i,_,_,rfl,rfl,(V.lie.step rfl hlt).2,?_,by rw [V.k,hmin],hlen⟩
   have:=V.lie.I; have:=V.E
   show mn = _
   rw [hmn2]; omega
  have h2 : c≠63:=by have h : (c == 63) = false:=h; simpa using h
  clear h
  refine ⟨s,i,I,by subst hD; rfl,rfl,V.lie.I,by omega,by omega,fun b hb=>?_⟩
  cbv
  refine br hD (fun h=>?_) (fun h=>?_)<;>cbv
  ·have h3 : escAt s i = true:=by rw [←hb]; exact h
   have h4:=escAt_len h3
   refine ⟨s.length - (i + 3),by have:=V.lie.m; omega,?_⟩
   rw [hJ]
   unfold tgJ
   subst hD
   exact ⟨i + 3,e,_,_,rfl,rfl,⟨by omega,plus3 V.lie hlt (by omega),rfl,V.lie.len⟩,V.E,by rw [V.k,orgL_esc hlt h3],hlen⟩
  have he : escAt s i = false:=by rw [←hb]; exact h
  clear h hb
  refine ⟨V.lie.inS hD hlt,fun d hd=>?_⟩
  cbv
  have hdc : d = c:=by rw [(charOf hD V.lie.I hd).h,hc2.h]
  subst hdc
  clear hd
  refine ⟨_,rfl,rfl,by subst hD; exact hc2.le,fun p hp=>?_⟩
  cbv
  have hp : p = plainC d:=by subst hD; exact hp
  refine ⟨fun _=>V.lie.inS hD hlt,fun d2 hd2=>?_⟩
  cbv
  have hdc : d2 = d:=by rw [(charOf hD V.lie.I hd2).h,hc2.h]
  subst hdc
  clear hd2
  refine ⟨_,[33,36,38,39,40,41,42,43,44,59,61,58,64,47],rfl,rfl,by decide,fun q hq=>?_⟩
  cbv
  have hq : q = amongF d2 amS:=by subst hD; exact hq
  have hkn:=kind_am2 hc2.le
  rw [←hp,←hq] at hkn
  clear hp hq
  have hcc:=hc2.charI
  refine br hD (fun h=>?_) (fun h=>?_)<;>cbv
  ·have h : (!p && !q) = true:=h
   rw [hkn] at h
   rw [V.k,orgL_bad hlt he (by rw [←hcc]; exact h2) (by rw [←hcc]; exact of_decide_eq_true h)] at hk
   simp only [Prod.mk.injEq] at hk
   exact finII hD hk.1.symm hk.2.symm
  ·have h : (!p && !q) = false:=h
   rw [hkn] at h
   refine ⟨s.length - (i + 1),by have:=V.lie.m; omega,?_⟩
   rw [hJ]
   unfold tgJ
   subst hD
   exact ⟨i + 1,e,_,_,rfl,rfl,(V.lie.step rfl hlt).2,V.E,by rw [V.k,orgL_more hlt he (by rw [←hcc]; exact h2) (by rw [←hcc]; exact of_decide_eq_false h)],hlen⟩
 have hi:=V.lie.eq (of_decide_eq_false (p:=I < (s.length : Int)) h)
 clear h
 rw [V.k,orgL_end hi] at hk
 simp only [Prod.mk.injEq] at hk
 exact finII hD (by rw [hk.1]; exact V.E) hk.2.symm
end Go.Proofs.YtefelnhpfdcleaaGreatDoor
namespace Go.Proofs.YtefelnhpfdcleaaGreatDoor
open Go Go.Sx
set_option maxRecDepth 100000
set_option maxHeartbeats 16000000
theorem ownF_in (t : List UInt8) : ownF t = inF ownL t:=by
 have e : ∀ (a b : List UInt8),(a == b) = (b == a):=fun a b=>by rw [Bool.eq_iff_iff,beq_iff_eq,beq_iff_eq]; exact eq_comm
 unfold ownF
 rw [e t,e t,e t,e t]
 show _ = (_ || (_ || (_ || (_ || false))))
 rw [Bool.or_false]
theorem anyOwn_cons (x : HF) (l : List HF) : anyOwn (x :: l) = (ownF (foldF x.name) || anyOwn l):=rfl
def spFieldsR : FSpec:=fun _ xs ls K=>∃ (r : Rq) (nl : Bool) (n : Int) (f : Nat→List SV),xs = [.agg [.int .i64 (.a r.id),.str r.method,.str r.target,.str r.host,.sl (.a nl) (.a n) 2 f,.str r.body]]∧ls = []∧RqOk r nl n f∧0≤r.id∧∀ e,e = (chkFieldsF r).2→K (.int .i64 (.a e)) []
def fiJ (r : Rq) (k : Bool) (nl : Bool) (n : Int) (f : Nat→List SV) (m : Nat) (vs : List (Option SV)) (hp : List Hl) : Prop :=
 ∃ (i : Nat) (I : Int),vs = [some (.ptr 0 0),some (.int .i64 (.a I))]∧hp = [.blk 31 [.int .i64 (.a r.id),.str r.method,.str r.target,.str r.host,.sl (.a nl) (.a n) 2 f,.str r.body]]∧OwJ r.fields k i I m
theorem refFields_ok : FnOk Tryz.prog gl 69 spFieldsR:=by
 refine fnOk (gh:=[]) mixed cxOk (tabCons refCheck_ok (tabCons own_ok (tabCons refFold_ok (tabCons in7_ok (tabCons refWritten_ok tabNil))))) Tryz.func69 (by kernel_rfl) (by kernel_rfl) ?_
 intro xs ls K h
 unfold spFieldsR at h
 obtain ⟨r,nl,n,f,rfl,rfl,R,hid,h⟩:=h
 obtain ⟨k,hk⟩ : ∃ k,k = (chkFieldsF r).2:=⟨_,rfl⟩
 obtain ⟨wg,wn,hwR⟩:=writtenF_row R
 refine ⟨_,_,h k hk,fun D hD=>?_⟩
 clear h
 have hwn:=writtenF_ne r
 obtain ⟨wl,hwl⟩ : ∃ w,w = writtenF r:=⟨_,rfl⟩
 unfold chkFieldsF at hk
 rw [←hwl] at hk hwR hwn
 obtain ⟨wl,we⟩:=wl
 simp only at hk hwR hwn
 obtain ⟨ao,hao⟩ : ∃ a,a = anyOwn r.fields:=⟨_,rfl⟩
 obtain ⟨J,hJ⟩ : ∃ J,J = fiJ r ao nl n f:=⟨_,rfl⟩
 rw [←hao] at hk
 obtain ⟨id,me,ta,ho,fs,bo⟩:=r
 simp only at R hao hk hid
 cbv
 refine ⟨fs,_,_,f,by subst hD; rfl,rfl,R.row,fun e he=>?_⟩
 cbv
 rw [←he] at hk
 clear he
 refine br hD (fun h=>?_) (fun h=>?_)<;>cbv
 ·have h1 : e≠0:=by simpa using h
  rw [if_pos h1] at hk
  exact finInt hD hk.symm
 have h1 : ¬ e≠0:=by simpa using h
 rw [if_neg h1] at hk
 clear h h1
 refine ⟨[1,4],J,⟨rfl,fs.length,?_⟩,?_⟩
 ·rw [hJ]
  subst hD
  exact ⟨0,0,rfl,rfl,⟨AtR.zero R.row.len,hao⟩⟩
 clear hao
 intro m vs hp hj
 rw [hJ] at hj
 obtain ⟨i,I,rfl,rfl,V⟩:=hj
 have VR:=R.row
 simp only at VR
 cbv
 refine br hD (fun h=>?_) (fun h=>?_)<;>cbv
 ·have hlt:=V.lie.lt VR.n (of_decide_eq_true (p:=I < n) h)
  clear h
  have inA:=V.lie.inB hD VR.n hlt
  have hx:=VR.f i hlt
  have hsm:=VR.small i hlt
  have hst:=V.lie.step hD hlt
  have hko:=V.k
  simp only at hlt hx hsm hko
  rw [dropH hlt,anyOwn_cons,ownF_in] at hko
  obtain ⟨x,hxx⟩ : ∃ x,x = fs.getD i default:=⟨_,rfl⟩
  rw [←hxx] at hx hko hsm
  clear hxx
  obtain ⟨xn,xv⟩:=x
  simp only at hko
  intro of on ob Go
  cbv
  refine ⟨inA,fun j hj=>?_⟩
  have hj:=V.lie.j hD hj
  cbv
  rw [hj,hx]
  cbv
  refine ⟨xn,rfl,rfl,hsm.1,fun w hw=>?_⟩
  cbv
  rw [←hw] at hko
  refine ⟨ownL,w,ob,on,of,by subst hD; rfl,rfl,Go.row,fun q hq=>?_⟩
  cbv
  rw [←hq] at hko
  refine br hD (fun h=>?_) (fun h=>?_)<;>cbv
  ·have h : q = true:=h
   rw [h,Bool.true_or] at hko
   rw [if_pos hko] at hk
   exact finInt hD hk.symm
  ·have h : q = false:=h
   rw [h,Bool.false_or] at hko
   refine ⟨_,hst.1,?_⟩
   rw [hJ]
   unfold fiJ
   subst hD
   exact ⟨i + 1,_,rfl,rfl,⟨hst.2,hko⟩⟩
 have hi:=V.lie.eq VR.n (of_decide_eq_false (p:=I < n) h)
 have hko:=V.k
 simp only at hi hko
 have hdn : fs.drop i = []:=List.drop_eq_nil_of_le (by omega)
 rw [hdn] at hko
 have hko : ao = false:=hko
 rw [if_neg (by rw [hko]; simp)] at hk
 clear h hdn
 refine ⟨⟨id,me,ta,ho,fs,bo⟩,nl,n,f,by subst hD; rfl,rfl,R,hid,fun l e2 nb2 n3 g3 hc R3 hnb2=>?_⟩
 cbv
 rw [←hwl] at hc
 simp only [Prod.mk.injEq] at hc
 obtain ⟨hq1,hq2⟩:=hc
 subst hq1 hq2
 refine br hD (fun h=>?_) (fun h=>?_)<;>cbv
 ·have h1 : e2≠0:=by simpa using h
  rw [if_pos h1] at hk
  exact finInt hD hk.symm
 have h1 : ¬ e2≠0:=by simpa using h
 rw [if_neg h1] at hk
 clear h h1
 refine ⟨l,nb2,n3,g3,by subst hD; rfl,rfl,R3,fun e3 he3=>?_⟩
 cbv
 rw [←he3] at hk
 exact finInt hD hk.symm
structure IdOk (id : Int) : Prop where
 lo : 0≤id
theorem finPE {D : Dn} (hD : D = dn) {p p' : List UInt8} {e : Int} {z : ST} (hp : p' = p) (h3 : z.den = e) : Fin (.tup [.str p',.int .i64 (.a (D.i z))]) (.tup [.str p,.int .i64 (.a e)]) [] []:=by
 subst hD hp h3; exact finV (LeV.refl _)
theorem refChk_ok : FnOk Tryz.prog gl 28 spCheckR:=by
 refine fnOk (gh:=[]) mixed cxOk (tabCons refMethod1_ok (tabCons refTarget_ok (tabCons refHost_ok (tabCons refFields_ok (tabCons refBare_ok tabNil))))) Tryz.func28 (by kernel_rfl) (by kernel_rfl) ?_
 intro xs ls K h
 unfold spCheckR at h
 obtain ⟨r,nl,n,f,rfl,rfl,R,h⟩:=h
 obtain ⟨k,hk⟩ : ∃ k,k = examineF r:=⟨_,rfl⟩
 obtain ⟨kp,kl,ke⟩:=k
 refine ⟨_,_,h kp ke (by unfold checkRF; rw [←hk]),fun D hD=>?_⟩
 clear h
 unfold examineF at hk
 obtain ⟨ck,hck⟩ : ∃ w,w = chkFieldsF r:=⟨_,rfl⟩
 rw [←hck] at hk
 obtain ⟨cl,ce⟩:=ck
 obtain ⟨id,me,ta,ho,fs,bo⟩:=r
 have Rme:=R.method
 have Rta:=R.target
 have Rho:=R.host
 simp only at hk Rme Rta Rho
 cbv
 refine br hD (fun h=>?_) (fun h=>?_)<;>cbv
 ·have h1 : id < 1∨1000000000 < id:=by
   have h : (decide (id < 1) || decide (1000000000 < id)) = true:=h
   simpa using h
  rw [if_pos h1] at hk
  simp only [Prod.mk.injEq] at hk
  obtain ⟨hq1,hq2,hq3⟩:=hk
  subst hq1 hq2 hq3
  exact finPE hD rfl rfl
 have h1 : ¬ (id < 1∨1000000000 < id):=by
  have h : (decide (id < 1) || decide (1000000000 < id)) = false:=h
  simp only [Bool.or_eq_false_iff,decide_eq_false_iff_not] at h
  omega
 rw [if_neg h1] at hk
 have hid0 : IdOk id:=⟨by show 0≤id; omega⟩
 clear h h1
 refine ⟨me,rfl,rfl,Rme,fun im him=>?_⟩
 cbv
 rw [←him] at hk
 clear him
 refine br hD (fun h=>?_) (fun h=>?_)<;>cbv
 ·have h1 : (!im) = true:=h
  rw [if_pos h1] at hk
  simp only [Prod.mk.injEq] at hk
  obtain ⟨hq1,hq2,hq3⟩:=hk
  subst hq1 hq2 hq3
  exact finPE hD rfl rfl
 have h1 : (!im) = false:=h
 rw [if_neg (by rw [h1]; simp)] at hk
 clear h h1
 refine br hD (fun h=>?_) (fun h=>?_)<;>cbv
 ·have h1 : me = sConnect:=eq_of_beq (show (me == sConnect) = true from h)
  rw [if_pos h1] at hk
  simp only [Prod.mk.injEq] at hk
  obtain ⟨hq1,hq2,hq3⟩:=hk
  subst hq1 hq2 hq3
  exact finPE hD rfl rfl
 have h1 : ¬ me = sConnect:=by
  have h : (me == sConnect) = false:=h
  intro e; rw [e] at h; simp at h
 rw [if_neg h1] at hk
 clear h h1
 refine ⟨ta,rfl,rfl,Rta,fun oi oe ho2=>?_⟩
 cbv
 rw [←ho2] at hk
 simp only at hk
 clear ho2
 refine br hD (fun h=>?_) (fun h=>?_)<;>cbv
 ·have h1 : oe≠0:=by simpa using h
  rw [if_pos h1] at hk
  simp only [Prod.mk.injEq] at hk
  obtain ⟨hq1,hq2,hq3⟩:=hk
  subst hq1 hq2 hq3
  exact finPE hD rfl rfl
 have h1 : ¬ oe≠0:=by simpa using h
 rw [if_neg h1] at hk
 clear h h1
 refine ⟨ho,rfl,rfl,Rho,fun hh hhh=>?_⟩
 cbv
 rw [←hhh] at hk
 clear hhh
 refine br hD (fun h=>?_) (fun h=>?_)<;>cbv
 ·have h1 : (!hh) = true:=h
  rw [if_pos h1] at hk
  simp only [Prod.mk.injEq] at hk
  obtain ⟨hq1,hq2,hq3⟩:=hk
  subst hq1 hq2 hq3
  exact finPE hD rfl rfl
 have h1 : (!hh) = false:=h
 rw [if_neg (by rw [h1]; simp)] at hk
 clear h h1
 refine ⟨⟨id,me,ta,ho,fs,bo⟩,nl,n,f,by subst hD; rfl,rfl,R,hid0.lo,fun e hc=>?_⟩
 cbv
 rw [←hck] at hc
 have hc : e = ce:=hc
 subst hc
 refine br hD (fun h=>?_) (fun h=>?_)<;>cbv
 ·have h1 : e≠0:=by simpa using h
  rw [if_pos h1] at hk
  simp only [Prod.mk.injEq] at hk
  obtain ⟨hq1,hq2,hq3⟩:=hk
  subst hq1 hq2 hq3
  exact finPE hD rfl rfl
 have h1 : ¬ e≠0:=by simpa using h
 rw [if_neg h1] at hk
 clear h h1
 refine br hD (fun h=>?_) (fun h=>?_)<;>cbv
 ·have h1 : 65536 < bo.length:=by have h : decide ((65536 : Int) < (bo.length : Int)) = true:=h; simp only [decide_eq_true_eq] at h; omega
  rw [if_pos h1] at hk
  simp only [Prod.mk.injEq] at hk
  obtain ⟨hq1,hq2,hq3⟩:=hk
  subst hq1 hq2 hq3
  exact finPE hD rfl rfl
 have h1 : ¬ 65536 < bo.length:=by have h : decide ((65536 : Int) < (bo.length : Int)) = false:=h; simp only [decide_eq_false_iff_not] at h; omega
 rw [if_neg h1] at hk
 clear h h1
 refine ⟨me,rfl,rfl,Rme,fun b hb=>?_⟩
 cbv
 rw [←hb] at hk
 clear hb
 refine br hD (fun h=>?_) (fun h=>?_)<;>cbv
 ·have h1 : (bo != [] && b) = true:=h
  rw [if_pos h1] at hk
  simp only [Prod.mk.injEq] at hk
  obtain ⟨hq1,hq2,hq3⟩:=hk
  subst hq1 hq2 hq3
  exact finPE hD rfl rfl
 ·have h1 : ¬ (bo != [] && b) = true:=by
   have h : (bo != [] && b) = false:=h
   rw [h]; simp
  rw [if_neg h1] at hk
  simp only [Prod.mk.injEq] at hk
  obtain ⟨hq1,hq2,hq3⟩:=hk
  subst hq1 hq2 hq3
  exact finPE hD rfl rfl
end Go.Proofs.YtefelnhpfdcleaaGreatDoor
namespace Go.Proofs.YtefelnhpfdcleaaGreatDoor
open Go Go.Sx Go.RowKit
set_option maxRecDepth 100000
set_option maxHeartbeats 4000000
def spIdxRow : FSpec:=fun _ xs ls K=>∃ (t : List UInt8) (nl : Bool) (n c : Int) (f : Nat→List SV),xs = [.sl (.a nl) (.a n) 1 f,.int .u8 (.a c)]∧ls = []∧RowU f n t∧c = 10∧∀ r,r = Lib.indexByte t 10→K (.int .i64 (.a r)) []
theorem bytesOf_nat (t : List UInt8) : Lib.bytesOf (t.map fun c=>(c.toNat : Int)) = t:=by
 unfold Lib.bytesOf
 rw [List.map_map]
 conv=>rhs; rw [←List.map_id t]
 refine List.map_congr_left fun c _=>?_
 simp [Function.comp]
theorem idxRow_ok : FnOk Tryz.prog gl 92 spIdxRow:=by
 refine ⟨⟨Tryz.f92,_,Tryz.func92,rfl,by kernel_rfl⟩,fun xs ls K h=>?_⟩
 obtain ⟨t,nl,n,c,f,rfl,rfl,R,rfl,h⟩:=h
 refine ⟨_,_,h _ rfl,callsTo_below fun E B w vals _ _ _ hr=>?_⟩
 obtain ⟨v,u,rfl,hv,hu⟩:=relL_two hr
 rw [rel_int hu]
 rcases (Rel.sl_inv hv).sl_inv with ⟨rfl,hn,_⟩ | ⟨a,m,cap,g,rfl,_,hn,hc,hcm,hs,hl,h1,hcell,hrel⟩
 ·have ht : t = []:=by
   have:=R.n
   have hn : n = 0:=hn
   exact List.length_eq_zero_iff.1 (by omega)
  subst ht
  refine (sh_bytes_IndexByte_nil 10 w).mono ?_
  rintro e w' ⟨rfl,rfl⟩
  exact ⟨_,rfl,fun E=>.ro (.int rfl),Below.refl _ _⟩
 ·have hm : t.length = m:=by
   have:=R.n
   have hn : n = (m : Int):=hn
   omega
  have hh : ∀ i,i < m→w.cell? (a.add i) = some (.int .u8 ((t.map fun c=>(c.toNat : Int)).getD i 0)):=by
   intro i hi
   have e1:=(hcell i 0 hi (by omega)).1
   have e2:=hrel i 0 (.int .u8 (.a ((t.getD i 0).toNat : Int))) hi (by rw [R.f i (by omega)]; rfl)
   have e3 : g i 0 = .int .u8 ((t.getD i 0).toNat : Int):=by
    generalize g i 0 = v at e2
    cases e2 with
    | int h=>rw [←h]; rfl
   have e4 : a.add i = ⟨a.block,a.off + (i * 1 + 0),none⟩:=by
    have:=hs (by omega)
    cases a; simp only at this; subst this; simp [Addr.add]
   rw [e4,e1,e3]
   have hi' : i < t.length:=by omega
   simp [List.getD_eq_getElem?_getD,List.getElem?_eq_getElem hi']
  refine (Any.bytes_IndexByte_at sh_lays187 a m cap _ 10 w (by simpa using hm) hh).mono ?_
  rintro e w' ⟨rfl,rfl⟩
  rw [bytesOf_nat]
  exact ⟨_,rfl,fun E=>.ro (.int rfl),Below.refl _ _⟩
end Go.Proofs.YtefelnhpfdcleaaGreatDoor
namespace Go.Proofs.YtefelnhpfdcleaaGreatDoor
open Go Go.Sx
set_option maxRecDepth 100000
set_option maxHeartbeats 16000000
def hpG (b : List UInt8) : Nat→Nat→List HF→List HF×Int×Int
 | 0,_,_=>([],0,0)
 | m + 1,p,r =>
  if (decide (Lib.indexByte (b.drop p) 10 < 0) && decide (8192 < b.length)) || decide (8192≤(p : Int) + Lib.indexByte (b.drop p) 10) then ([],0,3) else
  if Lib.indexByte (b.drop p) 10 < 0 then ([],0,10) else
  if (!Lib.hasSuffix ((b.drop p).take (Lib.indexByte (b.drop p) 10).toNat) [13]) || decide (0≤Lib.indexByte (Lib.trimSuffix ((b.drop p).take (Lib.indexByte (b.drop p) 10).toNat) [13]) 13) then ([],0,6) else
  if Lib.trimSuffix ((b.drop p).take (Lib.indexByte (b.drop p) 10).toNat) [13] = [] then (r,(p : Int) + Lib.indexByte (b.drop p) 10 + 1,0) else
  if (!(cutF 58 (Lib.trimSuffix ((b.drop p).take (Lib.indexByte (b.drop p) 10).toNat) [13])).2.2 || !tokenF (cutF 58 (Lib.trimSuffix ((b.drop p).take (Lib.indexByte (b.drop p) 10).toNat) [13])).1) || !plainB (cutF 58 (Lib.trimSuffix ((b.drop p).take (Lib.indexByte (b.drop p) 10).toNat) [13])).2.1 then ([],0,6) else
  if decide (2000 < (trimF (cutF 58 (Lib.trimSuffix ((b.drop p).take (Lib.indexByte (b.drop p) 10).toNat) [13])).2.1).length) || decide (r.length = 100) then ([],0,3) else
  hpG b m (p + (Lib.indexByte (b.drop p) 10).toNat + 1) (r ++ [⟨(cutF 58 (Lib.trimSuffix ((b.drop p).take (Lib.indexByte (b.drop p) 10).toNat) [13])).1,trimF (cutF 58 (Lib.trimSuffix ((b.drop p).take (Lib.indexByte (b.drop p) 10).toNat) [13])).2.1⟩])
def hparseF (b : List UInt8) : List HF×Int×Int:=hpG b (b.length + 1) 0 []
def spHParse : FSpec:=fun _ xs ls K=>∃ (b : List UInt8) (nl : Bool) (n : Int) (f : Nat→List SV),xs = [.sl (.a nl) (.a n) 1 f]∧ls = []∧RowU f n b∧b.length≤1000000∧
 ∀ l f1 n1 b1 k e,(l,k,e) = hparseF b→GrH f1 n1 b1 l→K (.tup [.sl (.a b1) (.a n1) 2 f1,.int .i64 (.a k),.int .i64 (.a e)]) []
structure HpJ (b : List UInt8) (k : List HF×Int×Int) (p : Nat) (P : Int) (m : Nat) (r : List HF) (f1 : Nat→List SV) (n1 : Int) (b1 : Bool) : Prop where
 eP : P = p
 le : p≤b.length
 le2 : p≤8192
 lt : b.length - p < m
 k : k = hpG b m p r
 G : GrH f1 n1 b1 r
 len : r.length≤100
def hpJ (b : List UInt8) (k : List HF×Int×Int) (nl : Bool) (n : Int) (f : Nat→List SV) (m : Nat) (vs : List (Option SV)) (hp : List Hl) : Prop :=
 ∃ (p : Nat) (P : Int) (r : List HF) (f1 : Nat→List SV) (n1 : Int) (b1 : Bool),vs = [some (.sl (.a nl) (.a n) 1 f),some (.gsl (.a b1) (.a n1) 2 f1 0),some (.int .i64 (.a P))]∧hp = [.tail 69 (.a n1) 2]∧HpJ b k p P m r f1 n1 b1
theorem indexB_lt {s : List UInt8} {c : UInt8} : -1≤Lib.indexByte s c∧(0≤Lib.indexByte s c→Lib.indexByte s c < (s.length : Int)):=by
 cases h : (cutF c s).2.2 with
 | false=>have:=(cutF_no h).2.2; rw [this]; exact ⟨by omega,fun h=>by omega⟩
 | true=>obtain ⟨h1,_,_,h4⟩:=cutF_yes h; rw [h1]; exact ⟨by omega,fun _=>by omega⟩
theorem hpG_small : ∀ (m p : Nat) (r : List HF) (b : List UInt8),b.length≤1000000→r.length≤100→(∀ x∈r,x.small)→(hpG b m p r).1.length≤100∧∀ x∈(hpG b m p r).1,x.small
 | 0,p,r,b,_,_,_=>⟨by simp [hpG],fun x hx=>by simp [hpG] at hx⟩
 | m + 1,p,r,b,hb,hr,hs=>by
  have h0 : ([] : List HF).length≤100∧∀ x∈([] : List HF),x.small:=⟨by simp,fun x hx=>by cases hx⟩
  unfold hpG
  split
  ·exact h0
  split
  ·exact h0
  split
  ·exact h0
  split
  ·exact ⟨hr,hs⟩
  split
  ·exact h0
  split
  ·exact h0
  rename_i h
  simp only [Bool.or_eq_true,decide_eq_true_eq,not_or] at h
  obtain ⟨h1,h2⟩:=h
  refine hpG_small m _ _ b hb (by rw [List.length_append]; simp only [List.length_cons,List.length_nil]; omega) fun x hx=>?_
  rcases List.mem_append.1 hx with hx | hx
  ·exact hs x hx
  ·have hx:=List.mem_singleton.1 hx
   subst hx
   refine ⟨?_,by show (trimF _).length≤_; omega⟩
   show (cutF 58 _).1.length≤_
   refine Nat.le_trans (cutF_len' 58 _).1 ?_
   rw [Lib.trimSuffix]
   have e : ((b.drop p).take (Lib.indexByte (b.drop p) 10).toNat).length≤1000000:=by rw [List.length_take,List.length_drop]; omega
   split
   ·rw [List.length_take]; omega
   ·omega
structure HpE (e : Int) (t : List UInt8) : Prop where
 lo : -1≤e
 hi : 0≤e→e < (t.length : Int)
structure HpS (s : List UInt8) : Prop where
 len : s.length≤8192
theorem finHP {D : Dn} (hD : D = dn) {l l' : List HF} {f f1 : Nat→List SV} {n n1 k e : Int} {b b1 : Bool} {x : BT} {y z w : ST} (h : (l,k,e) = (l',z.den,w.den)) (G : GrH f n b l') (hG : GrH f1 n1 b1 l) (hx : x.den = b) (hy : y.den = n) :
  Fin (.tup [.sl (.a (D.b x)) (.a (D.i y)) 2 f,.int .i64 (.a (D.i z)),.int .i64 (.a (D.i w))]) (.tup [.sl (.a b1) (.a n1) 2 f1,.int .i64 (.a k),.int .i64 (.a e)]) [] []:=by
 subst hD
 simp only [Prod.mk.injEq] at h
 obtain ⟨rfl,rfl,rfl⟩:=h
 exact finV (.tup (.cons (leGrH G hG hx hy) (.cons (leInt rfl) (.cons (leInt rfl) .nil))))
theorem hparse_ok : FnOk Tryz.prog gl 53 spHParse:=by
 refine fnOk (gh:=[(1,[.attach 5 69])]) mixed cxOk (tabCons idxRow_ok (tabCons cutSuf_ok (tabCons cont1_ok (tabCons cut_ok (tabCons token_ok (tabCons hplain_ok (tabCons trim64_ok tabNil))))))) Tryz.func53 (by kernel_rfl) (by kernel_rfl) ?_
 intro xs ls K h
 unfold spHParse at h
 obtain ⟨b,nl,n,f,rfl,rfl,R,hb,h⟩:=h
 obtain ⟨k,hk⟩ : ∃ k,k = hparseF b:=⟨_,rfl⟩
 have hS:=hpG_small (b.length + 1) 0 [] b hb (by simp) (fun x hx=>by cases hx)
 have hk0 : k = hpG b (b.length + 1) 0 []:=hk
 rw [←hk0] at hS
 obtain ⟨J,hJ⟩ : ∃ J,J = hpJ b k nl n f:=⟨_,rfl⟩
 obtain ⟨kl,kk,ke⟩:=k
 have hG : ∃ f1 n1 b1,GrH f1 n1 b1 kl:=⟨_,_,_,⟨RowH.row (by have:=hS.1; simp only at this; omega) (fun i hi=>hS.2 _ (by rw [List.getD_eq_getElem?_getD,List.getElem?_eq_getElem hi]; exact List.getElem_mem hi)),rfl⟩⟩
 obtain ⟨f1,n1,b1,hG⟩:=hG
 clear hS
 refine ⟨_,_,h kl f1 n1 b1 kk ke hk hG,fun D hD=>?_⟩
 cbv
 clear h
 refine ⟨[0,5,6],J,⟨rfl,b.length + 1,?_⟩,?_⟩
 ·rw [hJ]
  subst hD
  exact ⟨0,_,[],_,_,_,rfl,rfl,⟨rfl,by omega,by omega,by omega,hk0,GrH.nil,by simp⟩⟩
 clear hk hk0
 intro m vs hp hj
 rw [hJ] at hj
 obtain ⟨p,P,r,e1,m1,c1,rfl,rfl,V⟩:=hj
 have hP:=V.eP
 have hle:=V.le
 have hk:=V.k
 obtain ⟨m0,rfl⟩ : ∃ m0,m = m0 + 1:=⟨m - 1,by have:=V.lt; omega⟩
 rw [hpG,←hP] at hk
 obtain ⟨t,ht⟩ : ∃ t,t = b.drop p:=⟨_,rfl⟩
 rw [←ht] at hk
 have htl : t.length = b.length - p:=by rw [ht,List.length_drop]
 have VP : VI P p:=⟨hP⟩
 clear hP
 refine ⟨by subst hD; exact ⟨by show (0 : Int)≤P; rw [VP.h]; omega,by show P≤n; rw [VP.h,R.n]; omega,Int.le_refl _⟩,fun f2 n2 hsub=>?_⟩
 cbv
 have R2 : RowU f2 n2 t:=by
  have:=R.sub (a:=p) (b:=b.length) hsub (by subst hD; exact VP.h) (by subst hD; exact R.n) hle (Nat.le_refl _)
  rw [ht]
  have e : (b.drop p).take (b.length - p) = b.drop p:=List.take_of_length_le (by rw [List.length_drop]; exact Nat.le_refl _)
  rwa [e] at this
 clear hsub
 refine ⟨t,_,_,_,f2,rfl,rfl,by subst hD; exact R2,by subst hD; rfl,fun e he=>?_⟩
 cbv
 rw [←he] at hk
 have hb1 : HpE e t:=by rw [he]; exact ⟨indexB_lt.1,indexB_lt.2⟩
 have hdn : decide (8192 < n) = decide (8192 < b.length):=by rw [decide_eq_decide,R.n]; omega
 refine br hD (fun h=>?_) (fun h=>?_)<;>cbv
 ·have h : (decide (e < 0) && decide (8192 < n)) = true:=h
  rw [hdn] at h
  rw [if_pos (by rw [h]; rfl)] at hk
  exact finHP hD hk GrH.nil hG rfl rfl
 have h1 : (decide (e < 0) && decide (8192 < b.length)) = false:=by
  have h : (decide (e < 0) && decide (8192 < n)) = false:=h
  rw [hdn] at h
  exact h
 rw [h1,Bool.false_or] at hk
 clear h
 have hw1 : IntKind.i64.wrap (P + e) = P + e:=by have:=VP.h; have:=hb1.lo; have:=hb1.hi; exact wrap64 (by omega) (by omega)
 refine br hD (fun h=>?_) (fun h=>?_)<;>cbv
 ·have h : decide (8192≤IntKind.i64.wrap (P + e)) = true:=h
  rw [hw1] at h
  rw [if_pos h] at hk
  exact finHP hD hk GrH.nil hG rfl rfl
 have h2 : ¬ 8192≤P + e:=by
  have h : decide (8192≤IntKind.i64.wrap (P + e)) = false:=h
  rw [hw1] at h
  simpa using h
 rw [if_neg (by simpa using h2)] at hk
 clear h
 refine br hD (fun h=>?_) (fun h=>?_)<;>cbv
 ·have h : decide (e < 0) = true:=h
  rw [if_pos (by simpa using h)] at hk
  exact finHP hD hk GrH.nil hG rfl rfl
 have h3 : ¬ e < 0:=by
  have h : decide (e < 0) = false:=h
  simpa using h
 rw [if_neg h3] at hk
 clear h
 obtain ⟨q,hq⟩ : ∃ q : Nat,q = e.toNat:=⟨_,rfl⟩
 rw [←hq] at hk
 have VE : VI e q:=⟨by omega⟩
 have hql : q < t.length:=by have:=hb1.hi (by omega); have:=VE.h; omega
 have hpq : p + q < 8192:=by have:=VP.h; have:=VE.h; omega
 clear hq h1 h2 h3
 refine ⟨by subst hD; exact ⟨by show (0 : Int)≤P; rw [VP.h]; omega,by show P≤IntKind.i64.wrap (P + e); rw [hw1,VE.h]; omega,by show IntKind.i64.wrap (P + e)≤n; rw [hw1,VP.h,VE.h,R.n]; omega⟩,fun f3 n3 hsub=>?_⟩
 cbv
 have R3 : RowU f3 n3 (t.take q):=by
  have:=R.sub (a:=p) (b:=p + q) hsub (by subst hD; exact VP.h) (by subst hD; show IntKind.i64.wrap (P + e) = _; rw [hw1,VP.h,VE.h]; omega) (by omega) (by omega)
  rw [←ht] at this
  have e : p + q - p = q:=by omega
  rwa [e] at this
 clear hsub
 refine ⟨by subst hD; exact R3.byte,fun s hs=>?_⟩
 cbv
 have hs : s = t.take q:=by subst hD; exact R3.str hs
 rw [←hs] at hk
 have hsl : HpS s:=⟨by rw [hs,List.length_take]; omega⟩
 clear hs R3
 refine ⟨s,[13],rfl,rfl,by have:=hsl.len; omega,fun l is hl his=>?_⟩
 cbv
 rw [←hl,←his] at hk
 have hll : HpS l:=⟨by
  have:=hsl.len
  rw [hl,Lib.trimSuffix]
  split
  ·rw [List.length_take]; omega
  ·exact this⟩
 clear hl his hsl
 refine ⟨l,13,rfl,rfl,fun cc hcc=>?_⟩
 cbv
 rw [←hcc] at hk
 clear hcc
 refine br hD (fun h=>?_) (fun h=>?_)<;>cbv
 ·have h : (!is || cc) = true:=h
  rw [if_pos h] at hk
  exact finHP hD hk GrH.nil hG rfl rfl
 have h : (!is || cc) = false:=h
 rw [if_neg (by rw [h]; simp)] at hk
 clear h
 have hw2 : IntKind.i64.wrap (P + IntKind.i64.wrap (e + 1)) = P + e + 1:=by
  have:=VP.h; have:=VE.h
  rw [wrap64 (n:=e + 1) (by omega) (by omega),wrap64 (by omega) (by omega)]; omega
 refine br hD (fun h=>?_) (fun h=>?_)<;>cbv
 ·have h1 : l = []:=by
   have h : (l == []) = true:=h
   exact eq_of_beq h
  rw [if_pos h1] at hk
  exact finHP hD (by rw [hk]; rw [←hw2]; rfl) V.G hG rfl rfl
 have h1 : ¬ l = []:=by
  have h : (l == []) = false:=h
  intro e; rw [e] at h; simp at h
 rw [if_neg h1] at hk
 clear h h1
 obtain ⟨c,hc⟩ : ∃ c,c = cutF 58 l:=⟨_,rfl⟩
 rw [←hc] at hk
 refine ⟨l,58,rfl,rfl,by have:=hll.len; omega,fun na va ok hc2=>?_⟩
 cbv
 rw [←hc] at hc2
 subst hc2
 have hnl : HpS na:=⟨by have h:=(cutF_len' 58 l).1; rw [←hc] at h; exact Nat.le_trans h hll.len⟩
 have hvl : HpS va:=⟨by have h:=(cutF_len' 58 l).2; rw [←hc] at h; exact Nat.le_trans h hll.len⟩
 clear hc hll
 refine ⟨na,rfl,rfl,by have:=hnl.len; omega,fun tk htk=>?_⟩
 cbv
 rw [←htk] at hk
 clear htk
 refine ⟨va,rfl,rfl,fun pl hpl=>?_⟩
 cbv
 simp only at hk
 rw [←hpl] at hk
 clear hpl
 refine br hD (fun h=>?_) (fun h=>?_)<;>cbv
 ·have h : ((!ok || !tk) || !pl) = true:=h
  rw [if_pos h] at hk
  exact finHP hD hk GrH.nil hG rfl rfl
 have h : ((!ok || !tk) || !pl) = false:=h
 rw [if_neg (by rw [h]; simp)] at hk
 clear h
 refine ⟨va,[32,9],rfl,rfl,by have:=hvl.len; omega,by decide,by decide,fun v hv=>?_⟩
 cbv
 have hv : v = trimF va:=by rw [hv,trimS_eq]
 rw [←hv] at hk
 clear hv hvl
 have hm1 : m1 = (r.length : Int):=V.G.row.n
 have hd2 : decide (m1 = 100) = decide (r.length = 100):=by rw [decide_eq_decide,hm1]; omega
 refine br hD (fun h=>?_) (fun h=>?_)<;>cbv
 ·have h : (decide (2000 < (v.length : Int)) || (m1 == 100)) = true:=h
  have h : (decide (2000 < v.length) || decide (r.length = 100)) = true:=by
   rw [←hd2]
   rcases Bool.or_eq_true_iff.1 h with h | h
   ·rw [decide_eq_true (by have:=of_decide_eq_true h; omega)]; rfl
   ·rw [decide_eq_true (eq_of_beq h)]; simp
  rw [if_pos h] at hk
  exact finHP hD hk GrH.nil hG rfl rfl
 have h : ¬ 2000 < v.length∧¬ r.length = 100:=by
  have h : (decide (2000 < (v.length : Int)) || (m1 == 100)) = false:=h
  rw [Bool.or_eq_false_iff] at h
  refine ⟨fun e=>?_,fun e=>?_⟩
  ·have:=of_decide_eq_false h.1; omega
  ·have h2:=h.2; rw [hm1,e] at h2; simp at h2
 obtain ⟨h4,h5⟩:=h
 rw [if_neg (by simp [h4,h5])] at hk
 have hvs : HpS v:=⟨by omega⟩
 clear h4 hd2 hm1
 intro g hg
 cbv
 have hg0 : g 0 = hfCells ⟨na,v⟩:=hg.h 0 _ rfl
 clear hg
 have hN : m1 = (r.length : Int):=V.G.row.n
 have hrl:=V.len
 refine ⟨by subst hD; exact ⟨rfl,by show (m1 + 1) * 32≤_; omega,by show m1 + 1≤_; omega⟩,fun f' n' hm=>?_⟩
 cbv
 have G2 : ∀ nl',nl' = false→GrH f' n' nl' (r ++ [⟨na,v⟩]):=fun nl' hb=>V.G.more hg0 ⟨by have:=hnl.len; show na.length≤_; omega,by have:=hvs.len; show v.length≤_; omega⟩ (by subst hD; exact hm) (by omega) hb
 clear hm hN
 refine ⟨m0,Nat.lt_succ_self _,?_⟩
 rw [hJ]
 unfold hpJ
 subst hD
 exact ⟨p + q + 1,_,r ++ [⟨na,v⟩],f',n',(c1 && false),rfl,rfl,⟨by show IntKind.i64.wrap (P + IntKind.i64.wrap (e + 1)) = _; rw [hw2,VP.h,VE.h]; omega,by omega,by omega,by have:=V.lt; omega,hk,G2 _ (Bool.and_false _),by rw [List.length_append]; simp only [List.length_cons,List.length_nil]; omega⟩⟩
end Go.Proofs.YtefelnhpfdcleaaGreatDoor
namespace Go.Proofs.YtefelnhpfdcleaaGreatDoor
open Go Go.Sx
set_option maxRecDepth 100000
set_option maxHeartbeats 16000000
theorem hpG_val (b : List UInt8) : ∀ (m p : Nat) (r : List HF),p≤b.length→(∀ x∈r,x.value.length≤2000)→
  (∀ x∈(hpG b m p r).1,x.value.length≤2000)∧0≤(hpG b m p r).2.1∧(hpG b m p r).2.1≤b.length
 | 0,p,r,_,_=>⟨fun x hx=>by simp [hpG] at hx,by simp [hpG],by simp [hpG]⟩
 | m + 1,p,r,hp,hs=>by
  have h0 : ∀ z : Int,(∀ x∈(([],0,z) : List HF×Int×Int).1,x.value.length≤2000)∧0≤(([],0,z) : List HF×Int×Int).2.1∧(([],0,z) : List HF×Int×Int).2.1≤(b.length : Int):=fun z=>⟨fun x hx=>(nomatch hx),by simp,by simp⟩
  have hi:=indexB_lt (s:=b.drop p) (c:=10)
  rw [List.length_drop] at hi
  unfold hpG
  split
  ·exact h0 _
  split
  ·exact h0 _
  rename_i hn
  have hi2:=hi.2 (by omega)
  split
  ·exact h0 _
  split
  ·exact ⟨hs,by show 0≤(p : Int) + _ + 1; omega,by show (p : Int) + _ + 1≤_; omega⟩
  split
  ·exact h0 _
  split
  ·exact h0 _
  rename_i h
  simp only [Bool.or_eq_true,decide_eq_true_eq,not_or] at h
  obtain ⟨h1,h2⟩:=h
  refine hpG_val b m _ _ (by omega) fun x hx=>?_
  rcases List.mem_append.1 hx with hx | hx
  ·exact hs x hx
  ·have hx:=List.mem_singleton.1 hx
   subst hx
   show (trimF _).length≤_
   omega
theorem hparse_val (b : List UInt8) : (∀ x∈(hparseF b).1,x.value.length≤2000)∧0≤(hparseF b).2.1∧(hparseF b).2.1≤b.length:=hpG_val b _ 0 [] (by omega) (fun x hx=>by cases hx)
structure FrSm (r : Fr) : Prop where
 hosts : ∀ s∈r.hosts,s.length≤2000
 ids : ∀ s∈r.ids,s.length≤2000
 lens : ∀ s∈r.lens,s.length≤2000
theorem frame_val : ∀ (l : List HF) (r : Fr),(∀ x∈l,x.value.length≤2000)→FrSm r→FrSm (l.foldl frStep r)
 | [],_,_,h=>h
 | x :: l,r,hl,h=>by
  have hx:=hl x (List.mem_cons_self ..)
  refine frame_val l _ (fun y hy=>hl y (List.mem_cons_of_mem _ hy)) ?_
  have ap : ∀ {a : List (List UInt8)},(∀ s∈a,s.length≤2000)→∀ s∈a ++ [x.value],s.length≤2000:=by
   intro a ha s hs
   rcases List.mem_append.1 hs with hs | hs
   ·exact ha s hs
   ·rw [List.mem_singleton.1 hs]; exact hx
  unfold frStep
  split
  ·exact ⟨ap h.hosts,h.ids,h.lens⟩
  split
  ·exact ⟨h.hosts,ap h.ids,h.lens⟩
  split
  ·exact ⟨h.hosts,h.ids,ap h.lens⟩
  split
  ·exact ⟨h.hosts,h.ids,h.lens⟩
  ·exact ⟨h.hosts,h.ids,h.lens⟩
theorem frameF_val {l : List HF} (h : ∀ x∈l,x.value.length≤2000) : FrSm (frameF l) :=
 frame_val l _ h ⟨fun s hs=>(nomatch hs),fun s hs=>(nomatch hs),fun s hs=>(nomatch hs)⟩
theorem numberF_val (s : List UInt8) (hi : Int) (h0 : 0≤hi) : 0≤(numberF s hi).1∧(numberF s hi).1≤hi:=by
 unfold numberF intF
 split
 ·exact ⟨by simp,h0⟩
 split
 ·exact ⟨by simp,h0⟩
 split
 ·exact ⟨by simp,h0⟩
 ·rename_i h
  simp only [not_or] at h
  exact ⟨by show 0≤(pInt s).1; omega,by show (pInt s).1≤hi; omega⟩
theorem readLineF_val (b : List UInt8) : 0≤(readLineF b).2.2.1∧(readLineF b).2.2.1≤b.length∧(readLineF b).1.length≤1025∧(readLineF b).2.1.length≤1025:=by
 have h0 : ∀ z : Int,0≤(([],[],0,z) : List UInt8×List UInt8×Int×Int).2.2.1∧(([],[],0,z) : List UInt8×List UInt8×Int×Int).2.2.1≤(b.length : Int)∧(([],[],0,z) : List UInt8×List UInt8×Int×Int).1.length≤1025∧(([],[],0,z) : List UInt8×List UInt8×Int×Int).2.1.length≤1025:=fun z=>⟨by simp,by simp,by simp,by simp⟩
 unfold readLineF
 split
 ·exact h0 _
 split
 ·exact h0 _
 rename_i h1
 split
 ·exact h0 _
 have h2 : (cutF 10 (b.take 1024)).2.2 = true:=by simpa using h1
 obtain ⟨_,_,_,h4⟩:=cutF_yes h2
 rw [List.length_take] at h4
 have ht : (Lib.trimSuffix ((cutF 10 (b.take 1024)).1 ++ [10]) rVer).length≤1025:=by
  rw [Lib.trimSuffix]
  split
  ·rw [List.length_take]; simp only [List.length_append,List.length_cons,List.length_nil]; omega
  ·simp only [List.length_append,List.length_cons,List.length_nil]; omega
 have hc:=cutF_len' 32 (Lib.trimSuffix ((cutF 10 (b.take 1024)).1 ++ [10]) rVer)
 exact ⟨by show 0≤((cutF 10 (b.take 1024)).1.length : Int) + 1; omega,by show ((cutF 10 (b.take 1024)).1.length : Int) + 1≤_; omega,Nat.le_trans hc.1 ht,Nat.le_trans hc.2 ht⟩
def rqZ : Rq:=⟨0,[],[],[],[],[]⟩
def parseD (b : List UInt8) (r : Rq) (p sz : Int) : Rq×Int×Int :=
 if (checkRF r).2≠0 then (rqZ,0,(checkRF r).2) else if decide (0 < sz) && bareF r.method then (rqZ,0,2) else if (b.length : Int) - p < sz then (rqZ,0,10) else
 (⟨r.id,r.method,r.target,r.host,r.fields,(b.drop p.toNat).take sz.toNat⟩,p + sz,0)
def parseC (b me ta : List UInt8) (p : Int) (ho : List UInt8) (fs : List HF) (ia la : Int×Int) : Rq×Int×Int :=
 if ia.2 = 6∨la.2 = 6 then (rqZ,0,6) else if la.2≠0 then (rqZ,0,3) else parseD b ⟨ia.1,me,ta,ho,fs,[]⟩ p la.1
def frBad (fr : Fr) : Bool:=((fr.hosts.length != 1 || fr.ids.length != 1) || decide (1 < fr.lens.length)) || fr.coded
def lenS (fr : Fr) : List UInt8:=if fr.lens.length = 0 then [48] else fr.lens.getD 0 []
def parseB (b me ta : List UInt8) (p : Int) (fr : Fr) : Rq×Int×Int :=
 if frBad fr then (rqZ,0,6) else parseC b me ta p (fr.hosts.getD 0 []) fr.rest (numberF (fr.ids.getD 0 []) 1000000000) (numberF (lenS fr) 65536)
def parseF (b : List UInt8) : Rq×Int×Int :=
 if (readLineF b).2.2.2≠0 then (rqZ,0,(readLineF b).2.2.2) else
 if (hparseF (b.drop (readLineF b).2.2.1.toNat)).2.2≠0 then (rqZ,0,(hparseF (b.drop (readLineF b).2.2.1.toNat)).2.2) else
 parseB b (readLineF b).1 (readLineF b).2.1 ((readLineF b).2.2.1 + (hparseF (b.drop (readLineF b).2.2.1.toNat)).2.1) (frameF (hparseF (b.drop (readLineF b).2.2.1.toNat)).1)
def spParse : FSpec:=fun _ xs ls K=>∃ (b : List UInt8) (nl : Bool) (n : Int) (f : Nat→List SV),xs = [.sl (.a nl) (.a n) 1 f]∧ls = []∧RowU f n b∧b.length≤1000000∧
 ∀ r f1 n1 b1 k e,(r,k,e) = parseF b→GrH f1 n1 b1 r.fields→K (.tup [.agg [.int .i64 (.a r.id),.str r.method,.str r.target,.str r.host,.sl (.a b1) (.a n1) 2 f1,.str r.body],.int .i64 (.a k),.int .i64 (.a e)]) []
theorem parseF_row (b : List UInt8) (hb : b.length≤1000000) : ∃ f1 n1 b1,GrH f1 n1 b1 (parseF b).1.fields:=by
 have h0 : ∃ f1 n1 b1,GrH f1 n1 b1 rqZ.fields:=⟨_,_,_,GrH.nil⟩
 unfold parseF
 split
 ·exact h0
 split
 ·exact h0
 unfold parseB
 split
 ·exact h0
 unfold parseC
 split
 ·exact h0
 split
 ·exact h0
 unfold parseD
 split
 ·exact h0
 split
 ·exact h0
 split
 ·exact h0
 obtain ⟨c,hc⟩ : ∃ c,c = b.drop (readLineF b).2.2.1.toNat:=⟨_,rfl⟩
 rw [←hc]
 have hcl : c.length≤1000000:=by rw [hc,List.length_drop]; omega
 have hS:=hpG_small (c.length + 1) 0 [] c hcl (by simp) (fun x hx=>by cases hx)
 obtain ⟨L1,L2,L3,L4,L5⟩:=frame_len (hparseF c).1 ⟨[],[],[],false,[]⟩ hS.2 (fun x hx=>by cases hx)
 have hl : (hparseF c).1.length≤100:=hS.1
 simp only [List.length_nil] at L4
 exact ⟨_,_,_,⟨RowH.row (l:=(frameF (hparseF c).1).rest) (by unfold frameF; omega) (fun i hi=>L5 _ (by rw [List.getD_eq_getElem?_getD,List.getElem?_eq_getElem hi]; exact List.getElem_mem hi)),rfl⟩⟩
structure PV (b me ta : List UInt8) (p : Int) : Prop where
 lo : 0≤p
 hi : p≤(b.length : Int)
 me : me.length≤1025
 ta : ta.length≤1025
theorem finPs {D : Dn} (hD : D = dn) {l l' : Rq} {f f1 : Nat→List SV} {n n1 k e : Int} {b b1 : Bool} {x : BT} {i y z w : ST} {me ta ho bo : List UInt8} (h : (l,k,e) = (l',z.den,w.den)) (h1 : i.den = l'.id) (h2 : me = l'.method) (h3 : ta = l'.target) (h4 : ho = l'.host) (h5 : bo = l'.body) (G : GrH f n b l'.fields) (hG : GrH f1 n1 b1 l.fields) (hx : x.den = b) (hy : y.den = n) :
  Fin (.tup [.agg [.int .i64 (.a (D.i i)),.str me,.str ta,.str ho,.sl (.a (D.b x)) (.a (D.i y)) 2 f,.str bo],.int .i64 (.a (D.i z)),.int .i64 (.a (D.i w))]) (.tup [.agg [.int .i64 (.a l.id),.str l.method,.str l.target,.str l.host,.sl (.a b1) (.a n1) 2 f1,.str l.body],.int .i64 (.a k),.int .i64 (.a e)]) [] []:=by
 subst hD h2 h3 h4 h5
 simp only [Prod.mk.injEq] at h
 obtain ⟨rfl,rfl,rfl⟩:=h
 exact finV (.tup (.cons (LeV.agg (.cons (leInt h1) (.cons (LeV.refl _) (.cons (LeV.refl _) (.cons (LeV.refl _) (.cons (leGrH G hG hx hy) (.cons (LeV.refl _) .nil))))))) (.cons (leInt rfl) (.cons (leInt rfl) .nil))))
theorem parse_ok : FnOk Tryz.prog gl 22 spParse:=by
 refine fnOk (gh:=[]) mixed cxOk (tabCons readLine_ok (tabCons hparse_ok (tabCons frame_ok (tabCons number_ok (tabCons checkR_ok (tabCons isBare_ok tabNil)))))) Tryz.func22 (by kernel_rfl) (by kernel_rfl) ?_
 intro xs ls K h
 unfold spParse at h
 obtain ⟨b,nl,n,f,rfl,rfl,R,hb,h⟩:=h
 obtain ⟨k,hk0⟩ : ∃ k,k = parseF b:=⟨_,rfl⟩
 obtain ⟨f1,n1,b1,hG⟩:=parseF_row b hb
 rw [←hk0] at hG
 obtain ⟨kr,kk,ke⟩:=k
 have hk:=hk0
 unfold parseF at hk
 have hrv:=readLineF_val b
 obtain ⟨rl,hrl⟩ : ∃ c,c = readLineF b:=⟨_,rfl⟩
 rw [←hrl] at hk hrv
 obtain ⟨me,ta,p,e0⟩:=rl
 simp only at hk hrv
 have PV0 : PV b me ta p:=⟨hrv.1,hrv.2.1,hrv.2.2.1,hrv.2.2.2⟩
 clear hrv
 refine ⟨_,_,h kr f1 n1 b1 kk ke hk0 hG,fun D hD=>?_⟩
 cbv
 clear h hk0
 refine ⟨b,_,_,_,rfl,rfl,by subst hD; exact R,hb,fun me' ta' p' e0' hm=>?_⟩
 cbv
 rw [←hrl] at hm
 simp only [Prod.mk.injEq] at hm
 obtain ⟨rfl,rfl,rfl,rfl⟩:=hm
 clear hrl
 refine br hD (fun h=>?_) (fun h=>?_)<;>cbv
 ·have h1 : ¬ e0' = 0:=by have h : (e0' != 0) = true:=h; simpa using h
  rw [if_pos h1] at hk
  exact finPs hD hk rfl rfl rfl rfl rfl GrH.nil hG rfl rfl
 rw [if_neg (by have h : (e0' != 0) = false:=h; simpa using h)] at hk
 clear h
 obtain ⟨P,hP⟩ : ∃ P : Nat,P = p'.toNat:=⟨_,rfl⟩
 rw [←hP] at hk
 have VP : VI p' P:=⟨by have:=PV0.lo; omega⟩
 clear hP
 obtain ⟨t,ht⟩ : ∃ t,t = b.drop P:=⟨_,rfl⟩
 rw [←ht] at hk
 refine ⟨by subst hD; exact ⟨PV0.lo,by show p'≤n; rw [R.n]; exact PV0.hi,Int.le_refl _⟩,fun f2 n2 hsub=>?_⟩
 cbv
 have R2 : RowU f2 n2 t:=by
  have:=R.sub (a:=P) (b:=b.length) hsub (by subst hD; exact VP.h) (by subst hD; exact R.n) (by have:=VP.h; have:=PV0.hi; omega) (Nat.le_refl _)
  rw [ht]
  have e : (b.drop P).take (b.length - P) = b.drop P:=List.take_of_length_le (by rw [List.length_drop]; exact Nat.le_refl _)
  rwa [e] at this
 have htl : VI (t.length : Int) (b.length - P):=⟨by rw [ht,List.length_drop]⟩
 clear hsub ht
 have htm : t.length≤1000000:=by have:=htl.h; omega
 have hv1:=hparse_val t
 have hv2 : (hparseF t).1.length≤100∧∀ x∈(hparseF t).1,x.small:=hpG_small (t.length + 1) 0 [] t htm (by simp) (fun x hx=>by cases hx)
 obtain ⟨hp,hhp⟩ : ∃ c,c = hparseF t:=⟨_,rfl⟩
 rw [←hhp] at hk hv1 hv2
 obtain ⟨l,c,e1⟩:=hp
 simp only at hk hv1 hv2
 have PC : PV t me' ta' c:=⟨hv1.2.1,hv1.2.2,PV0.me,PV0.ta⟩
 have FS:=frameF_val hv1.1
 obtain ⟨hv21,hv22⟩:=hv2
 clear hv1
 refine ⟨t,_,_,_,rfl,rfl,by subst hD; exact R2,htm,fun l' g2 gn gb c' e1' hm hg2=>?_⟩
 cbv
 rw [←hhp] at hm
 simp only [Prod.mk.injEq] at hm
 obtain ⟨rfl,rfl,rfl⟩:=hm
 clear hhp
 refine br hD (fun h=>?_) (fun h=>?_)<;>cbv
 ·have h1 : ¬ e1' = 0:=by have h : (e1' != 0) = true:=h; simpa using h
  rw [if_pos h1] at hk
  exact finPs hD hk rfl rfl rfl rfl rfl GrH.nil hG rfl rfl
 rw [if_neg (by have h : (e1' != 0) = false:=h; simpa using h)] at hk
 clear h
 obtain ⟨fr,hfr⟩ : ∃ c,c = frameF l':=⟨_,rfl⟩
 rw [←hfr] at hk FS
 refine ⟨l',_,_,_,rfl,rfl,by subst hD; exact hg2.row,hv21,fun fr' g3 g4 g5 g6 m3 m4 m5 m6 q3 q4 q5 q6 hfr' FV=>?_⟩
 cbv
 rw [←hfr] at hfr'
 subst hfr'
 clear hfr hg2
 have N3:=FV.g1.row.n
 have N4:=FV.g2.row.n
 have N5:=FV.g3.row.n
 have hbad : (((m3 != 1 || m4 != 1) || decide (1 < m5)) || fr'.coded) = frBad fr':=by
  unfold frBad
  have a1 : (m3 != 1) = (fr'.hosts.length != 1):=by rw [N3,Bool.eq_iff_iff]; simp only [bne_iff_ne]; omega
  have a2 : (m4 != 1) = (fr'.ids.length != 1):=by rw [N4,Bool.eq_iff_iff]; simp only [bne_iff_ne]; omega
  have a3 : decide (1 < m5) = decide (1 < fr'.lens.length):=by rw [N5,decide_eq_decide]; omega
  rw [a1,a2,a3]
 have VN : VI m3 fr'.hosts.length∧VI m4 fr'.ids.length∧VI m5 fr'.lens.length:=⟨⟨N3⟩,⟨N4⟩,⟨N5⟩⟩
 clear N3 N4 N5
 refine br hD (fun h=>?_) (fun h=>?_)<;>cbv
 ·have h1 : frBad fr' = true:=by rw [←hbad]; exact h
  rw [parseB,if_pos h1] at hk
  exact finPs hD hk rfl rfl rfl rfl rfl GrH.nil hG rfl rfl
 have h1 : frBad fr' = false:=by rw [←hbad]; exact h
 rw [parseB,if_neg (by rw [h1]; simp)] at hk
 clear h hbad
 have hl1 : fr'.hosts.length = 1∧fr'.ids.length = 1∧fr'.lens.length≤1:=by unfold frBad at h1; simp only [Bool.or_eq_false_iff,bne_eq_false_iff_eq,decide_eq_false_iff_not] at h1; omega
 clear h1
 obtain ⟨ids0,hids⟩ : ∃ c,c = fr'.ids.getD 0 []:=⟨_,rfl⟩
 obtain ⟨ho0,hho⟩ : ∃ c,c = fr'.hosts.getD 0 []:=⟨_,rfl⟩
 have hids0 : ids0.length≤2000:=FS.ids _ (by rw [hids,List.getD_eq_getElem?_getD,List.getElem?_eq_getElem (by omega)]; exact List.getElem_mem _)
 have hho0 : ho0.length≤2000:=FS.hosts _ (by rw [hho,List.getD_eq_getElem?_getD,List.getElem?_eq_getElem (by omega)]; exact List.getElem_mem _)
 rw [←hids,←hho] at hk
 refine br hD (fun h=>?_) (fun h=>?_)<;>cbv
 ·have h : (m5 == 0) = true:=h
  have hl5 : fr'.lens.length = 0:=by have:=VN.2.2.h; have:=eq_of_beq h; omega
  obtain ⟨len0,hlen⟩ : ∃ c : List UInt8,c = [48]:=⟨_,rfl⟩
  have hls : lenS fr' = len0:=by rw [lenS,if_pos hl5,hlen]
  have hlen0 : len0.length≤2000:=by rw [hlen]; simp
  rw [hls] at hk
  clear h
  intro g hg
  cbv
  have q2 : g 0 = [.str len0]:=by rw [hlen]; exact hg.h 0 _ rfl
  clear hg
  clear hlen
  refine ⟨by subst hD; exact ⟨Int.le_refl _,by show (0 : Int) < m4; rw [VN.2.1.h]; omega⟩,fun j hj=>?_⟩
  obtain rfl : j = 0:=by subst hD; exact Int.ofNat.inj hj.h
  clear hj
  have q1:=FV.g2.row.f 0 (by omega)
  rw [←hids] at q1
  cbv
  rw [q1]
  cbv
  refine ⟨ids0,_,rfl,rfl,by omega,fun iv ie hi=>?_⟩
  cbv
  have hi : (iv,ie) = numberF ids0 1000000000:=by subst hD; exact hi
  rw [←hi] at hk
  have NI:=numberF_val ids0 1000000000 (by omega)
  rw [←hi] at NI
  simp only at NI
  clear hi
  refine ⟨by subst hD; exact ⟨Int.le_refl _,by show (0 : Int) < 1; decide⟩,fun j hj=>?_⟩
  obtain rfl : j = 0:=by subst hD; exact Int.ofNat.inj hj.h
  clear hj
  cbv
  rw [q2]
  cbv
  refine ⟨len0,_,rfl,rfl,by omega,fun sv se hi=>?_⟩
  cbv
  have hi : (sv,se) = numberF len0 65536:=by subst hD; exact hi
  rw [←hi] at hk
  have NS:=numberF_val len0 65536 (by omega)
  rw [←hi] at NS
  simp only at NS
  clear hi q1 q2
  rw [parseC] at hk
  simp only at hk
  refine br hD (fun h=>?_) (fun h=>?_)<;>cbv
  ·have h : (ie == 6 || se == 6) = true:=h
   rw [if_pos (by simpa using h)] at hk
   exact finPs hD hk rfl rfl rfl rfl rfl GrH.nil hG rfl rfl
  have h : (ie == 6 || se == 6) = false:=h
  rw [if_neg (by rw [Bool.or_eq_false_iff] at h; have h2:=h.1; have h3:=h.2; simp only [beq_eq_false_iff_ne] at h2 h3; omega)] at hk
  clear h
  refine br hD (fun h=>?_) (fun h=>?_)<;>cbv
  ·have h : (se != 0) = true:=h
   rw [if_pos (by simpa using h)] at hk
   exact finPs hD hk rfl rfl rfl rfl rfl GrH.nil hG rfl rfl
  have h : (se != 0) = false:=h
  rw [if_neg (by simpa using h)] at hk
  clear h
  refine ⟨by subst hD; exact ⟨Int.le_refl _,by show (0 : Int) < m3; rw [VN.1.h]; omega⟩,fun j hj=>?_⟩
  obtain rfl : j = 0:=by subst hD; exact Int.ofNat.inj hj.h
  clear hj
  have q1:=FV.g1.row.f 0 (by omega)
  rw [←hho] at q1
  cbv
  rw [q1]
  cbv
  clear q1
  rw [parseD] at hk
  simp only at hk
  have hkn : (b.length : Int) = n:=R.n.symm
  rw [hkn] at hk
  refine ⟨⟨D.i (.a iv),me',ta',ho0,fr'.rest,[]⟩,_,_,_,rfl,rfl,by subst hD; exact ⟨by show _≤iv; omega,by show iv≤_; omega,by have:=PV0.me; show me'.length≤_; omega,by have:=PV0.ta; show ta'.length≤_; omega,by show ho0.length≤_; omega,by simp,FV.g4.row,fun e=>by have:=FV.g4.nl; have e : q6 = true:=e; rw [e] at this; exact List.isEmpty_iff.1 this.symm⟩,fun cp ce hce=>?_⟩
  cbv
  have hce : (cp,ce) = checkRF ⟨iv,me',ta',ho0,fr'.rest,[]⟩:=by subst hD; exact hce
  rw [←hce] at hk
  simp only at hk
  clear hce
  refine br hD (fun h=>?_) (fun h=>?_)<;>cbv
  ·have h : (ce != 0) = true:=h
   rw [if_pos (by simpa using h)] at hk
   exact finPs hD hk rfl rfl rfl rfl rfl GrH.nil hG rfl rfl
  have h : (ce != 0) = false:=h
  rw [if_neg (by simpa using h)] at hk
  clear h
  refine ⟨me',rfl,rfl,by have:=PV0.me; omega,fun bb hbb=>?_⟩
  cbv
  rw [←hbb] at hk
  clear hbb
  refine br hD (fun h=>?_) (fun h=>?_)<;>cbv
  ·have h : (decide (0 < sv) && bb) = true:=h
   rw [if_pos h] at hk
   exact finPs hD hk rfl rfl rfl rfl rfl GrH.nil hG rfl rfl
  have h : (decide (0 < sv) && bb) = false:=h
  rw [if_neg (by rw [h]; simp)] at hk
  clear h
  have hw : IntKind.i64.wrap (p' + c') = p' + c':=wrap64 (by have:=PV0.lo; have:=PC.lo; omega) (by have:=PC.hi; have:=PV0.hi; omega)
  have hws : IntKind.i64.wrap (n - IntKind.i64.wrap (p' + c')) = n - (p' + c'):=by rw [hw]; exact wrap64 (by have:=PC.hi; have:=PV0.hi; have:=R.n; omega) (by have:=PV0.lo; have:=PC.lo; have:=R.n; omega)
  refine br hD (fun h=>?_) (fun h=>?_)<;>cbv
  ·have h : decide (IntKind.i64.wrap (n - IntKind.i64.wrap (p' + c')) < sv) = true:=h
   rw [hws] at h
   rw [if_pos (of_decide_eq_true h)] at hk
   exact finPs hD hk rfl rfl rfl rfl rfl GrH.nil hG rfl rfl
  have h : decide (IntKind.i64.wrap (n - IntKind.i64.wrap (p' + c')) < sv) = false:=h
  rw [hws] at h
  have h2:=of_decide_eq_false h
  rw [if_neg h2] at hk
  clear h hws
  have hw2 : IntKind.i64.wrap (IntKind.i64.wrap (p' + c') + sv) = p' + c' + sv:=by rw [hw]; exact wrap64 (by have:=PV0.lo; have:=PC.lo; omega) (by have:=R.n; omega)
  refine ⟨by subst hD; exact ⟨by show 0≤IntKind.i64.wrap (p' + c'); rw [hw]; have:=PV0.lo; have:=PC.lo; omega,by show IntKind.i64.wrap (p' + c')≤IntKind.i64.wrap (IntKind.i64.wrap (p' + c') + sv); rw [hw2,hw]; omega,by show IntKind.i64.wrap (IntKind.i64.wrap (p' + c') + sv)≤n; rw [hw2]; omega⟩,fun f7 n7 hsub=>?_⟩
  cbv
  have R7 : RowU f7 n7 ((b.drop (p' + c').toNat).take sv.toNat):=by
   have h0 : 0≤p' + c':=by have:=PV0.lo; have:=PC.lo; omega
   have:=R.sub (a:=(p' + c').toNat) (b:=(p' + c').toNat + sv.toNat) hsub (by subst hD; show IntKind.i64.wrap (p' + c') = _; rw [hw]; omega) (by subst hD; show IntKind.i64.wrap (IntKind.i64.wrap (p' + c') + sv) = _; rw [hw2]; omega) (by omega) (by have:=R.n; omega)
   have e : (p' + c').toNat + sv.toNat - (p' + c').toNat = sv.toNat:=by omega
   rwa [e] at this
  clear hsub
  refine ⟨by subst hD; exact R7.byte,fun bo hbo=>?_⟩
  cbv
  have hbo : bo = (b.drop (p' + c').toNat).take sv.toNat:=by subst hD; exact R7.str hbo
  rw [←hbo] at hk
  refine finPs hD (by rw [hk]; show _ = (_,IntKind.i64.wrap (IntKind.i64.wrap (p' + c') + sv),_); rw [hw2]; rfl) rfl rfl rfl rfl rfl FV.g4 hG rfl rfl
 have h : (m5 == 0) = false:=h
 have hl5 : fr'.lens.length = 1:=by have:=VN.2.2.h; simp only [beq_eq_false_iff_ne] at h; omega
 obtain ⟨len0,hlen⟩ : ∃ c,c = fr'.lens.getD 0 []:=⟨_,rfl⟩
 have hls : lenS fr' = len0:=by rw [lenS,if_neg (by omega),hlen]
 have hlen0 : len0.length≤2000:=FS.lens _ (by rw [hlen,List.getD_eq_getElem?_getD,List.getElem?_eq_getElem (by omega)]; exact List.getElem_mem _)
 rw [hls] at hk
 clear h
 refine ⟨by subst hD; exact ⟨Int.le_refl _,by show (0 : Int) < m4; rw [VN.2.1.h]; omega⟩,fun j hj=>?_⟩
 obtain rfl : j = 0:=by subst hD; exact Int.ofNat.inj hj.h
 clear hj
 have q1:=FV.g2.row.f 0 (by omega)
 rw [←hids] at q1
 cbv
 rw [q1]
 cbv
 refine ⟨ids0,_,rfl,rfl,by omega,fun iv ie hi=>?_⟩
 cbv
 have hi : (iv,ie) = numberF ids0 1000000000:=by subst hD; exact hi
 rw [←hi] at hk
 have NI:=numberF_val ids0 1000000000 (by omega)
 rw [←hi] at NI
 simp only at NI
 clear hi
 refine ⟨by subst hD; exact ⟨Int.le_refl _,by show (0 : Int) < m5; rw [VN.2.2.h]; omega⟩,fun j hj=>?_⟩
 obtain rfl : j = 0:=by subst hD; exact Int.ofNat.inj hj.h
 clear hj
 have q2:=FV.g3.row.f 0 (by omega)
 rw [←hlen] at q2
 cbv
 rw [q2]
 cbv
 refine ⟨len0,_,rfl,rfl,by omega,fun sv se hi=>?_⟩
 cbv
 have hi : (sv,se) = numberF len0 65536:=by subst hD; exact hi
 rw [←hi] at hk
 have NS:=numberF_val len0 65536 (by omega)
 rw [←hi] at NS
 simp only at NS
 clear hi q1 q2
 rw [parseC] at hk
 simp only at hk
 refine br hD (fun h=>?_) (fun h=>?_)<;>cbv
 ·have h : (ie == 6 || se == 6) = true:=h
  rw [if_pos (by simpa using h)] at hk
  exact finPs hD hk rfl rfl rfl rfl rfl GrH.nil hG rfl rfl
 have h : (ie == 6 || se == 6) = false:=h
 rw [if_neg (by rw [Bool.or_eq_false_iff] at h; have h2:=h.1; have h3:=h.2; simp only [beq_eq_false_iff_ne] at h2 h3; omega)] at hk
 clear h
 refine br hD (fun h=>?_) (fun h=>?_)<;>cbv
 ·have h : (se != 0) = true:=h
  rw [if_pos (by simpa using h)] at hk
  exact finPs hD hk rfl rfl rfl rfl rfl GrH.nil hG rfl rfl
 have h : (se != 0) = false:=h
 rw [if_neg (by simpa using h)] at hk
 clear h
 refine ⟨by subst hD; exact ⟨Int.le_refl _,by show (0 : Int) < m3; rw [VN.1.h]; omega⟩,fun j hj=>?_⟩
 obtain rfl : j = 0:=by subst hD; exact Int.ofNat.inj hj.h
 clear hj
 have q1:=FV.g1.row.f 0 (by omega)
 rw [←hho] at q1
 cbv
 rw [q1]
 cbv
 clear q1
 rw [parseD] at hk
 simp only at hk
 have hkn : (b.length : Int) = n:=R.n.symm
 rw [hkn] at hk
 refine ⟨⟨D.i (.a iv),me',ta',ho0,fr'.rest,[]⟩,_,_,_,rfl,rfl,by subst hD; exact ⟨by show _≤iv; omega,by show iv≤_; omega,by have:=PV0.me; show me'.length≤_; omega,by have:=PV0.ta; show ta'.length≤_; omega,by show ho0.length≤_; omega,by simp,FV.g4.row,fun e=>by have:=FV.g4.nl; have e : q6 = true:=e; rw [e] at this; exact List.isEmpty_iff.1 this.symm⟩,fun cp ce hce=>?_⟩
 cbv
 have hce : (cp,ce) = checkRF ⟨iv,me',ta',ho0,fr'.rest,[]⟩:=by subst hD; exact hce
 rw [←hce] at hk
 simp only at hk
 clear hce
 refine br hD (fun h=>?_) (fun h=>?_)<;>cbv
 ·have h : (ce != 0) = true:=h
  rw [if_pos (by simpa using h)] at hk
  exact finPs hD hk rfl rfl rfl rfl rfl GrH.nil hG rfl rfl
 have h : (ce != 0) = false:=h
 rw [if_neg (by simpa using h)] at hk
 clear h
 refine ⟨me',rfl,rfl,by have:=PV0.me; omega,fun bb hbb=>?_⟩
 cbv
 rw [←hbb] at hk
 clear hbb
 refine br hD (fun h=>?_) (fun h=>?_)<;>cbv
 ·have h : (decide (0 < sv) && bb) = true:=h
  rw [if_pos h] at hk
  exact finPs hD hk rfl rfl rfl rfl rfl GrH.nil hG rfl rfl
 have h : (decide (0 < sv) && bb) = false:=h
 rw [if_neg (by rw [h]; simp)] at hk
 clear h
 have hw : IntKind.i64.wrap (p' + c') = p' + c':=wrap64 (by have:=PV0.lo; have:=PC.lo; omega) (by have:=PC.hi; have:=PV0.hi; omega)
 have hws : IntKind.i64.wrap (n - IntKind.i64.wrap (p' + c')) = n - (p' + c'):=by rw [hw]; exact wrap64 (by have:=PC.hi; have:=PV0.hi; have:=R.n; omega) (by have:=PV0.lo; have:=PC.lo; have:=R.n; omega)
 refine br hD (fun h=>?_) (fun h=>?_)<;>cbv
 ·have h : decide (IntKind.i64.wrap (n - IntKind.i64.wrap (p' + c')) < sv) = true:=h
  rw [hws] at h
  rw [if_pos (of_decide_eq_true h)] at hk
  exact finPs hD hk rfl rfl rfl rfl rfl GrH.nil hG rfl rfl
 have h : decide (IntKind.i64.wrap (n - IntKind.i64.wrap (p' + c')) < sv) = false:=h
 rw [hws] at h
 have h2:=of_decide_eq_false h
 rw [if_neg h2] at hk
 clear h hws
 have hw2 : IntKind.i64.wrap (IntKind.i64.wrap (p' + c') + sv) = p' + c' + sv:=by rw [hw]; exact wrap64 (by have:=PV0.lo; have:=PC.lo; omega) (by have:=R.n; omega)
 refine ⟨by subst hD; exact ⟨by show 0≤IntKind.i64.wrap (p' + c'); rw [hw]; have:=PV0.lo; have:=PC.lo; omega,by show IntKind.i64.wrap (p' + c')≤IntKind.i64.wrap (IntKind.i64.wrap (p' + c') + sv); rw [hw2,hw]; omega,by show IntKind.i64.wrap (IntKind.i64.wrap (p' + c') + sv)≤n; rw [hw2]; omega⟩,fun f7 n7 hsub=>?_⟩
 cbv
 have R7 : RowU f7 n7 ((b.drop (p' + c').toNat).take sv.toNat):=by
  have h0 : 0≤p' + c':=by have:=PV0.lo; have:=PC.lo; omega
  have:=R.sub (a:=(p' + c').toNat) (b:=(p' + c').toNat + sv.toNat) hsub (by subst hD; show IntKind.i64.wrap (p' + c') = _; rw [hw]; omega) (by subst hD; show IntKind.i64.wrap (IntKind.i64.wrap (p' + c') + sv) = _; rw [hw2]; omega) (by omega) (by have:=R.n; omega)
  have e : (p' + c').toNat + sv.toNat - (p' + c').toNat = sv.toNat:=by omega
  rwa [e] at this
 clear hsub
 refine ⟨by subst hD; exact R7.byte,fun bo hbo=>?_⟩
 cbv
 have hbo : bo = (b.drop (p' + c').toNat).take sv.toNat:=by subst hD; exact R7.str hbo
 rw [←hbo] at hk
 refine finPs hD (by rw [hk]; show _ = (_,IntKind.i64.wrap (IntKind.i64.wrap (p' + c') + sv),_); rw [hw2]; rfl) rfl rfl rfl rfl rfl FV.g4 hG rfl rfl
end Go.Proofs.YtefelnhpfdcleaaGreatDoor
namespace Go.Proofs.YtefelnhpfdcleaaGreatDoor
open Go Go.Sx
set_option maxRecDepth 100000
set_option maxHeartbeats 4000000
def findV (t : List UInt8) : List HF→Option (List UInt8)
 | []=>none
 | x :: l=>if foldF x.name = t then some x.value else findV t l
def keyBad (kind : Int) (name : List UInt8) : Bool :=
 (!(kind == 3) && kind != 1 && kind != 2 || (kind == 3) && !tokenF name) || !(kind == 3) && name != []
def keyF (r : Rq) (kind : Int) (name : List UInt8) : List UInt8×Int :=
 if keyBad kind name then ([],2) else if (checkRF r).2≠0 then ([],(checkRF r).2) else
 if kind = 2 then (r.host,0) else if kind = 1 then ((cutF 63 (cleanF r.target).1).1,(cleanF r.target).2) else
 match findV (foldF name) r.fields with
 | some v=>(v,0)
 | none=>([],4)
def totS (l : List (List UInt8)) : Nat:=(l.map fun x=>x.length + 1).sum
theorem totS_append (a b : List (List UInt8)) : totS (a ++ b) = totS a + totS b:=by simp [totS]
theorem totS_one (x : List UInt8) : totS [x] = x.length + 1:=by simp [totS]
theorem totS_pop : ∀ (l : List (List UInt8)),totS l.dropLast≤totS l
 | []=>Nat.le_refl _
 | [x]=>by simp [totS]
 | x :: y :: l=>by
  have:=totS_pop (y :: l)
  rw [List.dropLast_cons_cons]
  simp only [totS,List.map_cons,List.sum_cons] at this ⊢
  omega
theorem cstep_tot (σ : CS) (s : List UInt8) (last : Bool) : totS (cstep σ s last).1≤totS σ.1 + s.length + 1:=by
 have hp : totS (if s = [46,46]∧σ.1≠[] then cpop σ else σ).1≤totS σ.1:=by
  split
  ·exact totS_pop σ.1
  ·exact Nat.le_refl _
 unfold cstep
 split
 ·simp only [capp,totS_append,totS_one]; omega
 ·split
  ·simp only [capp,totS_append,totS_one,List.length_nil]; omega
  ·omega
theorem cutF_sum {c : UInt8} {s : List UInt8} (h : (cutF c s).2.2 = true) : (cutF c s).1.length + (cutF c s).2.1.length + 1≤s.length:=by
 obtain ⟨_,_,h3,h4⟩:=cutF_yes h
 rw [h3,List.length_drop]; omega
theorem segFold_tot : ∀ (n : Nat) (σ : CS) (rest : List UInt8),rest.length≤n→totS (segFold σ rest).1≤totS σ.1 + rest.length + 1
 | n,σ,rest,h=>by
  rw [segFold]
  split
  ·rename_i hc
   have h1:=cutF_sum hc
   cases n with
   | zero=>omega
   | succ n =>
    have h2:=segFold_tot n (cstep σ (cutF 47 rest).1 false) (cutF 47 rest).2.1 (by omega)
    have h3:=cstep_tot σ (cutF 47 rest).1 false
    omega
  ·have h3:=cstep_tot σ (cutF 47 rest).1 true
   have:=(cutF_len 47 rest).1
   omega
theorem joinTail_tot : ∀ (l : List (List UInt8)),(Lib.joinTail [47] l).length = totS l
 | []=>by simp [Lib.joinTail,totS]
 | x :: l=>by
  have h1:=joinTail_tot l
  have : Lib.joinTail [47] (x :: l) = [47] ++ x ++ Lib.joinTail [47] l:=by simp [Lib.joinTail]
  rw [this]
  simp only [List.length_append,List.length_cons,List.length_nil,h1,totS,List.map_cons,List.sum_cons]
  omega
theorem join_tot (l : List (List UInt8)) : (Lib.join l [47]).length≤totS l:=by
 cases l with
 | nil=>simp [Lib.join_nil]
 | cons x l =>
  rw [Lib.join_cons,List.length_append,joinTail_tot]
  simp only [totS,List.map_cons,List.sum_cons]
  omega
theorem cleanF_len (s : List UInt8) : (cleanF s).1.length≤100000:=by
 unfold cleanF
 split
 ·simp
 ·rename_i h
  obtain ⟨sp,hsp⟩ : ∃ x,x = splitF s:=⟨_,rfl⟩
  obtain ⟨p,q,hb,e⟩:=sp
  rw [←hsp] at h ⊢
  have he : e = 0:=by simpa using h
  subst he
  obtain ⟨_,h1,h2,h3⟩:=splitF_ok hsp
  simp only
  have n1:=(normL_len p p.length 0 (by omega)).1
  have n2:=(normL_len q q.length 0 (by omega)).1
  have t1:=segFold_tot ((normL p 0).drop 1).length ([],true,0) ((normL p 0).drop 1) (Nat.le_refl _)
  have t2:=join_tot (segFold ([],true,0) ((normL p 0).drop 1)).1
  simp only [totS,List.map_nil,List.sum_nil,List.length_drop] at t1
  simp only [totS] at t2
  simp only [List.length_append,List.length_cons,List.length_nil]
  split
  ·simp only [List.length_append,List.length_cons,List.length_nil]; omega
  ·simp only [List.length_nil]; omega
def spKey : FSpec:=fun _ xs ls K=>∃ (r : Rq) (kind : Int) (name : List UInt8) (nl : Bool) (n : Int) (f : Nat→List SV),xs = [.agg [.int .i64 (.a r.id),.str r.method,.str r.target,.str r.host,.sl (.a nl) (.a n) 2 f,.str r.body],.int .i64 (.a kind),.str name]∧ls = []∧RqOk r nl n f∧name.length≤9223372036854775807∧
 ∀ t e,(t,e) = keyF r kind name→K (.tup [.str t,.int .i64 (.a e)]) []
structure KyJ (l : List HF) (k : Option (List UInt8)) (t : List UInt8) (i : Nat) (I : Int) (m : Nat) : Prop where
 lie : AtR l i I m
 k : k = findV t (l.drop i)
def kyJ (r : Rq) (k : Option (List UInt8)) (name : List UInt8) (nl : Bool) (n : Int) (f : Nat→List SV) (m : Nat) (vs : List (Option SV)) (hp : List Hl) : Prop :=
 ∃ (i : Nat) (I : Int),vs = [some (.str name),some (.sl (.a nl) (.a n) 2 f),some (.int .i64 (.a n)),some (.int .i64 (.a I))]∧hp = [.blk 31 [.int .i64 (.a r.id),.str r.method,.str r.target,.str r.host,.sl (.a nl) (.a n) 2 f,.str r.body]]∧KyJ r.fields k (foldF name) i I m
theorem key_ok : FnOk Tryz.prog gl 20 spKey:=by
 refine fnOk (gh:=[]) mixed cxOk (tabCons token_ok (tabCons checkR_ok (tabCons clean_ok (tabCons cut_ok (tabCons fold_ok tabNil))))) Tryz.func20 (by kernel_rfl) (by kernel_rfl) ?_
 intro xs ls K h
 unfold spKey at h
 obtain ⟨r,kind,name,nl,n,f,rfl,rfl,R,hnm,h⟩:=h
 obtain ⟨id,me,ta,ho,fs,bo⟩:=r
 have Rta:=R.target
 have Rrow:=R.row
 simp only at Rta Rrow
 obtain ⟨k,hk0⟩ : ∃ k,k = keyF ⟨id,me,ta,ho,fs,bo⟩ kind name:=⟨_,rfl⟩
 obtain ⟨kt,ke⟩:=k
 have hk:=hk0
 unfold keyF keyBad at hk
 obtain ⟨fv,hfv⟩ : ∃ a,a = findV (foldF name) fs:=⟨_,rfl⟩
 obtain ⟨J,hJ⟩ : ∃ J,J = kyJ ⟨id,me,ta,ho,fs,bo⟩ fv name nl n f:=⟨_,rfl⟩
 simp only at hk
 rw [←hfv] at hk
 obtain ⟨ck,hck⟩ : ∃ w,w = checkRF ⟨id,me,ta,ho,fs,bo⟩:=⟨_,rfl⟩
 rw [←hck] at hk
 obtain ⟨cp,ce⟩:=ck
 simp only at hk
 refine ⟨_,_,h kt ke hk0,fun D hD=>?_⟩
 cbv
 clear h hk0
 refine ⟨name,rfl,rfl,hnm,fun tk htk=>?_⟩
 cbv
 rw [←htk] at hk
 clear htk
 refine br hD (fun h=>?_) (fun h=>?_)<;>cbv
 ·have h1 : ((!(kind == 3) && kind != 1 && kind != 2 || (kind == 3) && !tk) || !(kind == 3) && name != []) = true:=h
  rw [if_pos h1] at hk
  simp only [Prod.mk.injEq] at hk
  obtain ⟨hq1,hq2⟩:=hk
  subst hq1 hq2
  subst hD
  exact fin_eq rfl rfl
 have h1 : ((!(kind == 3) && kind != 1 && kind != 2 || (kind == 3) && !tk) || !(kind == 3) && name != []) = false:=h
 rw [if_neg (by rw [h1]; simp)] at hk
 clear h h1
 refine ⟨⟨id,me,ta,ho,fs,bo⟩,nl,n,f,by subst hD; rfl,rfl,R,fun p e hc=>?_⟩
 cbv
 rw [←hck] at hc
 simp only [Prod.mk.injEq] at hc
 obtain ⟨hq1,hq2⟩:=hc
 subst hq1 hq2
 clear hck
 refine br hD (fun h=>?_) (fun h=>?_)<;>cbv
 ·have h1 : e≠0:=by simpa using h
  rw [if_pos h1] at hk
  simp only [Prod.mk.injEq] at hk
  obtain ⟨hq1,hq2⟩:=hk
  subst hq1 hq2
  subst hD
  exact fin_eq rfl rfl
 have h1 : ¬ e≠0:=by simpa using h
 rw [if_neg h1] at hk
 clear h h1
 refine br hD (fun h=>?_) (fun h=>?_)<;>cbv
 ·have h1 : kind = 2:=by simpa using h
  rw [if_pos h1] at hk
  simp only [Prod.mk.injEq] at hk
  obtain ⟨hq1,hq2⟩:=hk
  subst hq1 hq2
  subst hD
  exact fin_eq rfl rfl
 have h1 : ¬ kind = 2:=by simpa using h
 rw [if_neg h1] at hk
 clear h h1
 refine br hD (fun h=>?_) (fun h=>?_)<;>cbv
 ·have h1 : kind = 1:=by simpa using h
  rw [if_pos h1] at hk
  have hcl:=cleanF_len ta
  clear h h1
  refine ⟨ta,rfl,rfl,Rta,fun t e2 ht=>?_⟩
  cbv
  rw [←ht] at hk hcl
  simp only at hk hcl
  clear ht
  refine ⟨t,63,rfl,rfl,hcl,fun a b c hab=>?_⟩
  cbv
  rw [←hab] at hk
  simp only [Prod.mk.injEq] at hk
  obtain ⟨hq1,hq2⟩:=hk
  subst hq1 hq2
  subst hD
  exact fin_eq rfl rfl
 have h1 : ¬ kind = 1:=by simpa using h
 rw [if_neg h1] at hk
 clear h h1
 refine ⟨[2,73,74,75],J,⟨rfl,fs.length,?_⟩,?_⟩
 ·rw [hJ]
  subst hD
  exact ⟨0,0,rfl,rfl,AtR.zero Rrow.len,hfv⟩
 clear hfv
 intro m vs hp hj
 rw [hJ] at hj
 obtain ⟨i,I,rfl,rfl,V⟩:=hj
 simp only at V
 cbv
 refine br hD (fun h=>?_) (fun h=>?_)<;>cbv
 ·have hlt:=V.lie.lt Rrow.n (of_decide_eq_true (p:=I < n) h)
  clear h
  refine ⟨V.lie.inB hD Rrow.n hlt,fun j hj=>?_⟩
  obtain rfl:=V.lie.j hD hj
  clear hj
  have e1:=Rrow.f j hlt
  have hsm:=Rrow.small j hlt
  have hk2:=V.k
  rw [dropR (d:=default) hlt] at hk2
  obtain ⟨x,hx⟩ : ∃ x,x = fs.getD j default:=⟨_,rfl⟩
  rw [←hx] at e1 hk2 hsm
  obtain ⟨a,b⟩:=x
  cbv
  rw [e1]
  cbv
  refine ⟨a,rfl,rfl,hsm.1,fun t ht=>?_⟩
  cbv
  have ht : t = foldF a:=ht
  refine ⟨name,rfl,rfl,hnm,fun u hu=>?_⟩
  cbv
  have hu : u = foldF name:=hu
  refine br hD (fun h=>?_) (fun h=>?_)<;>cbv
  ·have h1 : foldF a = foldF name:=by
    have h : (t == u) = true:=h
    rw [←ht,←hu]; exact eq_of_beq h
   rw [findV,if_pos h1] at hk2
   rw [hk2] at hk
   simp only [Prod.mk.injEq] at hk
   obtain ⟨hq1,hq2⟩:=hk
   subst hq1 hq2
   subst hD
   exact fin_eq rfl rfl
  ·have h1 : ¬ foldF a = foldF name:=by
    have h : (t == u) = false:=h
    rw [←ht,←hu]; intro e; rw [e] at h; simp at h
   rw [findV,if_neg h1] at hk2
   obtain ⟨g1,g2⟩:=V.lie.step hD hlt
   refine ⟨_,g1,?_⟩
   rw [hJ]
   unfold kyJ
   subst hD
   exact ⟨j + 1,_,rfl,rfl,g2,hk2⟩
 ·have hi:=V.lie.eq Rrow.n (of_decide_eq_false (p:=I < n) h)
  have hk2:=V.k
  rw [hi,List.drop_length] at hk2
  have hk3 : fv = none:=hk2
  rw [hk3] at hk
  simp only [Prod.mk.injEq] at hk
  obtain ⟨hq1,hq2⟩:=hk
  subst hq1 hq2
  subst hD
  exact fin_eq rfl rfl
end Go.Proofs.YtefelnhpfdcleaaGreatDoor
namespace Go.Proofs.YtefelnhpfdcleaaGreatDoor
open Go Go.Sx
set_option maxRecDepth 100000
set_option maxHeartbeats 4000000
def exS : List UInt8:=[71,69,84,32,47,97,47,46,46,47,98,37,55,101,63,120,32,72,84,84,80,47,49,46,49,13,10,72,111,115,116,58,32,104,13,10,88,45,82,101,113,117,101,115,116,45,73,100,58,32,55,13,10,65,99,99,101,112,116,58,32,42,13,10,13,10]
def exS2 : List UInt8:=[71,69,84,32,47,97,47,46,46,47,98,37,55,101,63,120,32,72,84,84,80,47,49,46,49,13,10,72,111,115,116,58,32,104,13,10,88,45,82,101,113,117,101,115,116,45,73,100,58,32,55,13,10,65,99,99,101,112,116,58,32,42,13,10,13,10,71,69,84]
def exL2 : List HF:=[⟨[65,99,99,101,112,116],[42]⟩]
def exR2 : Rq:=⟨7,[71,69,84],exTarget,[104],exL2,[]⟩
theorem ex_encode : encodeF exR = (exS,0):=by kernel_rfl
theorem ex_clean : cleanF exTarget = ([47,98,126,63,120],0):=by kernel_rfl
theorem ex_key : keyF exR 3 [97,99,99,101,112,116] = ([42],0):=by kernel_rfl
theorem ex_parse : parseF exS2 = (exR2,66,0):=by kernel_rfl
end Go.Proofs.YtefelnhpfdcleaaGreatDoor
namespace Go.Proofs.YtefelnhpfdcleaaGreatDoor
open Go Go.Sx
set_option maxRecDepth 100000
set_option maxHeartbeats 8000000
theorem exOk {f : Nat→List SV} {n : Int} {b : Bool} (G : GrH f n b exL) : RqOk exR b n f :=
 ⟨by decide,by decide,by decide,by decide,by decide,by decide,G.row,fun h=>by have h2:=G.nl; rw [h] at h2; cases h2⟩
theorem RowU.of {f : Nat→List SV} {n : Int} {s : List UInt8} (h : BytesOf f s) (hn : n = s.length) : RowU f n s:=by
 refine ⟨hn,fun i hi=>?_⟩
 rw [h.h]
 rfl
theorem RowH.ex1 {f f' : Nat→List SV} {n n' : Int} (R : RowH f n exL) (h : SubRow f' n' f 1 n) : RowH f' n' exL2:=by
 have hn : n = 2:=R.n
 refine ⟨by rw [h.len,hn]; rfl,fun i hi=>?_,by decide,fun i hi=>?_⟩
 ·have hi : i < 1:=hi
  obtain rfl : i = 0:=by omega
  rw [h.row 0 1 (by omega),R.f 1 (by decide)]
  rfl
 ·have hi : i < 1:=hi
  obtain rfl : i = 0:=by omega
  exact ⟨by decide,by decide⟩
def spT : FSpec:=fun _ xs ls K=>xs = []∧ls = []∧K (.bool (.a true)) []
theorem shown_ok : FnOk Tryz.prog gl 12 spT:=by
 refine fnOk (gh:=[]) mixed cxOk (tabCons example_ok (tabCons encode_ok (tabCons clean_ok (tabCons key_ok (tabCons parse_ok (tabCons sameR_ok tabNil)))))) Tryz.func12 (by kernel_rfl) (by kernel_rfl) ?_
 intro xs ls K h
 unfold spT at h
 obtain ⟨rfl,rfl,h⟩:=h
 refine ⟨_,_,h,fun D hD=>?_⟩
 cbv
 clear h
 intro f1 n1 b1 G1
 cbv
 refine ⟨exR,b1,n1,f1,by subst hD; rfl,rfl,exOk G1,fun s e hs=>?_⟩
 cbv
 rw [ex_encode] at hs
 obtain ⟨hs,he⟩:=Prod.mk.inj hs
 intro f2 n2 b2 G2
 cbv
 refine ⟨exTarget,rfl,rfl,by decide,fun t e2 ht=>?_⟩
 cbv
 rw [ex_clean] at ht
 obtain ⟨ht,he2⟩:=Prod.mk.inj ht
 intro f3 n3 b3 G3
 cbv
 refine ⟨exR,3,[97,99,99,101,112,116],b3,n3,f3,by subst hD; rfl,rfl,exOk G3,by decide,fun k e3 hk=>?_⟩
 cbv
 rw [ex_key] at hk
 obtain ⟨hk,he3⟩:=Prod.mk.inj hk
 refine ⟨⟨by rw [hs]; decide⟩,fun r hr=>?_⟩
 cbv
 have hr : r = exS2:=by rw [hr.h,hs]; rfl
 refine ⟨⟨by rw [hr]; decide⟩,fun f4 h4=>?_⟩
 cbv
 refine ⟨exS2,_,_,f4,rfl,rfl,by subst hD; exact RowU.of (by rw [←hr]; exact h4) (by rw [←hr]; rfl),by decide,fun q f5 n5 b5 kk e4 hq G5=>?_⟩
 cbv
 rw [ex_parse] at hq
 obtain ⟨hq1,hq2⟩:=Prod.mk.inj hq
 obtain ⟨hkk,he4⟩:=Prod.mk.inj hq2
 subst hq1
 clear hq hq2
 intro f6 n6 b6 G6
 cbv
 refine ⟨by subst hD; exact ⟨by decide,by show (1 : Int)≤n6; rw [G6.row.n]; decide,Int.le_refl _⟩,fun f7 n7 h7=>?_⟩
 cbv
 refine ⟨exR2,exR2,b5,b6,n5,n7,f5,f7,by subst hD; rfl,rfl,G5.row,RowH.ex1 G6.row (by subst hD; exact h7),fun z hz=>?_⟩
 cbv
 refine finBool hD ?_
 have hz : z = true:=by rw [hz]; exact decide_eq_true rfl
 rw [hs,ht,hk,hz,hkk,he,he2,he3,he4]
 rfl
end Go.Proofs.YtefelnhpfdcleaaGreatDoor
namespace Go.Proofs.YtefelnhpfdcleaaGreatDoor
open Go Go.Sx
set_option maxRecDepth 100000
set_option maxHeartbeats 16000000
def safeL : List (List UInt8):=[[71,69,84],[72,69,65,68],[79,80,84,73,79,78,83],[84,82,65,67,69]]
def idemL : List (List UInt8):=[[80,85,84],[68,69,76,69,84,69]]
theorem methodF_in {s : List UInt8} (h : isMethodF s = true) : methodF s = (inF safeL s,inF safeL s || inF idemL s,0):=by
 have e : ∀ (a : List UInt8),(a == s) = decide (s = a):=fun a=>by rw [Bool.eq_iff_iff,beq_iff_eq,decide_eq_true_eq]; exact eq_comm
 have h1 : inF safeL s = (decide (s = [71,69,84]) || (decide (s = [72,69,65,68]) || (decide (s = [79,80,84,73,79,78,83]) || (decide (s = [84,82,65,67,69]) || false)))):=by
  show (_ || (_ || (_ || (_ || false)))) = _
  rw [e,e,e,e]
 have h2 : inF idemL s = (decide (s = [80,85,84]) || (decide (s = [68,69,76,69,84,69]) || false)):=by
  show (_ || (_ || false)) = _
  rw [e,e]
 rw [h1,h2]
 unfold methodF
 rw [if_neg (by rw [h]; simp)]
 by_cases g1 : s = [71,69,84]
 ·simp [g1]
 by_cases g2 : s = [72,69,65,68]
 ·simp [g2]
 by_cases g3 : s = [79,80,84,73,79,78,83]
 ·simp [g3]
 by_cases g4 : s = [84,82,65,67,69]
 ·simp [g4]
 by_cases g5 : s = [80,85,84]
 ·simp [g5]
 by_cases g6 : s = [68,69,76,69,84,69]
 ·simp [g6]
 simp [g1,g2,g3,g4,g5,g6]
theorem refMethod_ok : FnOk Tryz.prog gl 30 spMethod:=by
 refine fnOk (gh:=[]) mixed cxOk (tabCons refMethod1_ok (tabCons in7_ok tabNil)) Tryz.func30 (by kernel_rfl) (by kernel_rfl) ?_
 intro xs ls K h
 unfold spMethod at h
 obtain ⟨s,rfl,rfl,hs,h⟩:=h
 obtain ⟨k,hk⟩ : ∃ k,k = methodF s:=⟨_,rfl⟩
 obtain ⟨ka,kb,ke⟩:=k
 refine ⟨_,_,h ka kb ke hk,fun D hD=>?_⟩
 cbv
 clear h
 refine ⟨s,rfl,rfl,hs,fun m hm=>?_⟩
 cbv
 refine br hD (fun h=>?_) (fun h=>?_)<;>cbv
 ·have h : (!m) = true:=h
  unfold methodF at hk
  rw [if_pos (by rw [←hm]; exact h)] at hk
  simp only [Prod.mk.injEq] at hk
  exact finBBI hD hk.1.symm hk.2.1.symm hk.2.2.symm
 have h : (!m) = false:=h
 rw [methodF_in (by rw [←hm]; simpa using h)] at hk
 clear h hm
 intro g hg
 cbv
 have R : RowS g 4 safeL:=strBuilt (l:=safeL) hg (by decide)
 clear hg
 refine ⟨safeL,s,false,4,g,by subst hD; rfl,rfl,R,fun q hq=>?_⟩
 cbv
 rw [←hq] at hk
 simp only [Prod.mk.injEq] at hk
 clear hq
 refine br hD (fun h=>?_) (fun h=>?_)<;>cbv
 ·have h : (!q) = true:=h
  intro g2 hg2
  cbv
  have R2 : RowS g2 2 idemL:=strBuilt (l:=idemL) hg2 (by decide)
  clear hg2
  refine ⟨idemL,s,false,2,g2,by subst hD; rfl,rfl,R2,fun w hw=>?_⟩
  cbv
  rw [←hw] at hk
  exact finBBI hD hk.1.symm (by rw [hk.2.1]; rfl) hk.2.2.symm
 ·have h : (!q) = false:=h
  have hq : q = true:=by simpa using h
  refine ⟨[],s,true,0,fun _=>[],by subst hD; rfl,rfl,RowS.nil,fun w hw=>?_⟩
  cbv
  refine finBBI hD hk.1.symm ?_ hk.2.2.symm
  rw [hk.2.1,hq]
  show (true || w) = (true || _)
  rfl
end Go.Proofs.YtefelnhpfdcleaaGreatDoor
namespace Go.Proofs.YtefelnhpfdcleaaGreatDoor
open Go Go.Sx
set_option maxRecDepth 100000
set_option maxHeartbeats 4000000
def ovB (a b : List UInt8) : Bool:=decide (2100 < (a.length : Int)) || decide (2100 < (b.length : Int))
theorem ovB_no {a b : List UInt8} (h : ovB a b = false) : a.length≤2100∧b.length≤2100:=by
 unfold ovB at h
 simp only [Bool.or_eq_false_iff,decide_eq_false_iff_not] at h
 omega
def farL : List HF→Int→Bool
 | [],n=>decide (20000 < n)
 | x :: l,n=>if ovB x.name x.value then true else farL l (n + x.name.length + x.value.length)
def farH (r : Rq) : Bool:=((((decide (110 < (r.fields.length : Int)) || decide (1200 < (r.method.length : Int))) || decide (1200 < (r.target.length : Int))) || decide (1200 < (r.host.length : Int))) || (decide (3000 < (r.body.length : Int)) && decide ((r.body.length : Int)≤65536))) || decide (65600 < (r.body.length : Int))
def farF (r : Rq) : Bool:=if farH r then true else farL r.fields 0
def spFar : FSpec:=fun _ xs ls K=>∃ (r : Rq) (nl : Bool) (n : Int) (f : Nat→List SV),xs = [.agg [.int .i64 (.a r.id),.str r.method,.str r.target,.str r.host,.sl (.a nl) (.a n) 2 f,.str r.body]]∧ls = []∧RqOk r nl n f∧(∀ j,f j = hfCells (r.fields.getD j default))∧∀ b,b = farF r→K (.bool (.a b)) []
structure FaJ (l : List HF) (k : Bool) (i : Nat) (I N : Int) (m : Nat) : Prop where
 lie : AtR l i I m
 lo : 0≤N
 hi : N≤4200 * i
 len : l.length≤110
 k : k = farL (l.drop i) N
def faJ (r : Rq) (k : Bool) (nl : Bool) (n : Int) (f : Nat→List SV) (m : Nat) (vs : List (Option SV)) (hp : List Hl) : Prop :=
 ∃ (i : Nat) (I N : Int),vs = [some (.ptr 0 0),some (.int .i64 (.a N)),some (.int .i64 (.a I))]∧hp = [.blk 31 [.int .i64 (.a r.id),.str r.method,.str r.target,.str r.host,.sl (.a nl) (.a n) 2 f,.str r.body]]∧FaJ r.fields k i I N m
structure LenLe (a : List UInt8) (n : Nat) : Prop where
 h : a.length≤n
theorem far_ok : FnOk Tryz.prog gl 17 spFar:=by
 refine fnOk (gh:=[]) mixed cxOk tabNil Tryz.func17 (by kernel_rfl) (by kernel_rfl) ?_
 intro xs ls K h
 unfold spFar at h
 obtain ⟨r,nl,n,f,rfl,rfl,R,hT,h⟩:=h
 obtain ⟨k,hk⟩ : ∃ k,k = farF r:=⟨_,rfl⟩
 obtain ⟨fh,hfh⟩ : ∃ k,k = farH r:=⟨_,rfl⟩
 obtain ⟨fl,hfl⟩ : ∃ k,k = farL r.fields 0:=⟨_,rfl⟩
 refine ⟨_,_,h k hk,fun D hD=>?_⟩
 clear h
 unfold farF at hk
 rw [←hfh,←hfl] at hk
 obtain ⟨id,me,ta,ho,fs,bo⟩:=r
 have VR:=R.row
 simp only at VR hT hfl
 cbv
 have hfn : fh = (((((decide (110 < n) || decide (1200 < (me.length : Int))) || decide (1200 < (ta.length : Int))) || decide (1200 < (ho.length : Int))) || (decide (3000 < (bo.length : Int)) && decide ((bo.length : Int)≤65536))) || decide (65600 < (bo.length : Int))):=by
  rw [hfh,VR.n]; rfl
 clear hfh
 refine br hD (fun h=>?_) (fun h=>?_)<;>cbv
 ·have h : fh = true:=by rw [hfn]; exact h
  rw [if_pos h] at hk
  exact finBool hD hk.symm
 have h : fh = false:=by rw [hfn]; exact h
 have hlen : n≤110:=by
  rw [hfn] at h
  simp only [Bool.or_eq_false_iff,decide_eq_false_iff_not] at h
  have:=h.1.1.1.1.1
  omega
 rw [if_neg (by rw [h]; simp)] at hk
 clear h hfn
 obtain ⟨J,hJ⟩ : ∃ J,J = faJ ⟨id,me,ta,ho,fs,bo⟩ fl nl n f:=⟨_,rfl⟩
 refine ⟨[1,3,4],J,⟨rfl,fs.length,?_⟩,?_⟩
 ·rw [hJ]
  subst hD
  exact ⟨0,0,0,rfl,rfl,⟨AtR.zero VR.len,Int.le_refl _,by omega,by have:=VR.n; show fs.length≤110; omega,hfl⟩⟩
 clear hfl
 intro m vs hp hj
 rw [hJ] at hj
 obtain ⟨i,I,N,rfl,rfl,V⟩:=hj
 cbv
 refine br hD (fun h=>?_) (fun h=>?_)<;>cbv
 ·have hlt:=V.lie.lt VR.n (of_decide_eq_true (p:=I < n) h)
  clear h
  have inA:=V.lie.inB hD VR.n hlt
  have hx:=VR.f i hlt
  have hst:=V.lie.step hD hlt
  have hko:=V.k
  simp only at hlt hx hko
  rw [dropH hlt,farL] at hko
  obtain ⟨x,hxx⟩ : ∃ x,x = fs.getD i default:=⟨_,rfl⟩
  rw [←hxx] at hx hko
  obtain ⟨xn,xv⟩:=x
  simp only at hko
  refine ⟨inA,fun j hj=>?_⟩
  have hj:=V.lie.j hD hj
  cbv
  rw [hj,hx]
  cbv
  clear hj
  refine ⟨fun _=>inA,fun j2 hj2=>?_⟩
  have hj2 : (!decide (2100 < (xn.length : Int))) = true→j2 = i:=fun hg=>V.lie.j hD (hj2 (by subst hD; exact hg))
  cbv
  rw [hT j2]
  obtain ⟨x2,hx2⟩ : ∃ x2,x2 = fs.getD j2 default:=⟨_,rfl⟩
  rw [←hx2]
  obtain ⟨yn,yv⟩:=x2
  cbv
  have hcond : ovB xn yv = ovB xn xv:=by
   unfold ovB
   cases hb : decide (2100 < (xn.length : Int)) with
   | true=>rfl
   | false =>
    have:=hj2 (by rw [hb]; rfl)
    rw [this,←hxx] at hx2
    have:=congrArg HF.value hx2
    simp only at this
    rw [this]
  clear hj2 hx2 hxx
  refine br hD (fun h=>?_) (fun h=>?_)<;>cbv
  ·have h : ovB xn yv = true:=h
   rw [hcond] at h
   rw [if_pos h] at hko
   refine finBool hD ?_
   rw [hk,hko]; rfl
  have h : ovB xn yv = false:=h
  rw [hcond] at h
  rw [if_neg (by rw [h]; simp)] at hko
  have L1 : LenLe xn 2100:=⟨(ovB_no h).1⟩
  have L2 : LenLe xv 2100:=⟨(ovB_no h).2⟩
  clear h hcond
  refine ⟨inA,fun j hj=>?_⟩
  have hj:=V.lie.j hD hj
  cbv
  rw [hj,hx]
  cbv
  clear hj
  refine ⟨inA,fun j hj=>?_⟩
  have hj:=V.lie.j hD hj
  cbv
  rw [hj,hx]
  cbv
  clear hj
  have hw : IntKind.i64.wrap (IntKind.i64.wrap (N + (xn.length : Int)) + (xv.length : Int)) = N + (xn.length : Int) + (xv.length : Int):=by
   have:=V.lo; have:=V.hi; have:=V.lie.le; have:=V.len; have:=L1.h; have:=L2.h
   simp only at *
   rw [wrap64 (n:=N + (xn.length : Int)) (by omega) (by omega),wrap64 (by omega) (by omega)]
  refine ⟨_,hst.1,?_⟩
  rw [hJ]
  unfold faJ
  subst hD
  refine ⟨i + 1,_,_,rfl,rfl,⟨hst.2,?_,?_,V.len,?_⟩⟩
  ·show 0≤IntKind.i64.wrap (IntKind.i64.wrap (N + (xn.length : Int)) + (xv.length : Int))
   rw [hw]; have:=V.lo; omega
  ·show IntKind.i64.wrap (IntKind.i64.wrap (N + (xn.length : Int)) + (xv.length : Int))≤_
   rw [hw]; have:=V.hi; have:=L1.h; have:=L2.h; omega
  ·rw [hko]
   show _ = farL _ (IntKind.i64.wrap (IntKind.i64.wrap (N + (xn.length : Int)) + (xv.length : Int)))
   rw [hw]
 have hi:=V.lie.eq VR.n (of_decide_eq_false (p:=I < n) h)
 have hko:=V.k
 simp only at hi hko
 have hdn : fs.drop i = []:=List.drop_eq_nil_of_le (by omega)
 rw [hdn,farL] at hko
 refine finBool hD ?_
 rw [hk,hko]
 rfl
end Go.Proofs.YtefelnhpfdcleaaGreatDoor
namespace Go.Proofs.YtefelnhpfdcleaaGreatDoor
open Go Go.Sx
set_option maxRecDepth 100000
set_option maxHeartbeats 16000000
def spChecks : FSpec:=fun _ xs ls K=>∃ (r : Rq) (nl : Bool) (n : Int) (f : Nat→List SV) (s : List UInt8),xs = [.agg [.int .i64 (.a r.id),.str r.method,.str r.target,.str r.host,.sl (.a nl) (.a n) 2 f,.str r.body],.str s]∧ls = []∧RqOk r nl n f∧(∀ j,f j = hfCells (r.fields.getD j default))∧s.length≤9223372036854775807∧K (.bool (.a true)) []
theorem checks_ok : FnOk Tryz.prog gl 8 spChecks:=by
 refine fnOk (gh:=[]) mixed cxOk (tabCons far_ok (tabCons shown_ok (tabCons checkR_ok (tabCons refChk_ok (tabCons method_ok (tabCons refMethod_ok tabNil)))))) Tryz.func8 (by kernel_rfl) (by kernel_rfl) ?_
 intro xs ls K h
 unfold spChecks at h
 obtain ⟨r,nl,n,f,s,rfl,rfl,R,hT,hs,h⟩:=h
 refine ⟨_,_,h,fun D hD=>?_⟩
 clear h
 obtain ⟨id,me,ta,ho,fs,bo⟩:=r
 cbv
 refine ⟨⟨id,me,ta,ho,fs,bo⟩,nl,n,f,by subst hD; rfl,rfl,R,hT,fun b _=>?_⟩
 cbv
 refine br hD (fun h=>?_) (fun h=>?_)<;>cbv
 ·exact finBool hD rfl
 refine ⟨⟨id,me,ta,ho,fs,bo⟩,nl,n,f,by subst hD; rfl,rfl,R,fun p e h1=>?_⟩
 cbv
 refine ⟨⟨id,me,ta,ho,fs,bo⟩,nl,n,f,by subst hD; rfl,rfl,R,fun p2 e2 h2=>?_⟩
 cbv
 rw [←h1] at h2
 refine ⟨s,rfl,rfl,hs,fun a1 a2 a3 h3=>?_⟩
 cbv
 refine ⟨s,rfl,rfl,hs,fun b1 b2 b3 h4=>?_⟩
 cbv
 rw [←h3] at h4
 simp only [Prod.mk.injEq] at h2 h4
 obtain ⟨c1,c2⟩:=h2
 obtain ⟨d1,d2,d3⟩:=h4
 subst c1 c2 d1 d2 d3
 refine finBool hD ?_
 trace_state
 show (((((p2 == p2) && (e2 == e2)) && (b1 == b1)) && (b2 == b2)) && (b3 == b3) && true) = true
 simp
theorem callsTo_leL {P : Go.Program} {gl : List (Nat×SV)} {f : Go.FuncId} {as1 as2 : List SV} {ls : List Hl} {r : SV} {ls' : List Hl} (h : LeL as1 as2) (c : CallsTo P gl f as2 ls r ls') : CallsTo P gl f as1 ls r ls' :=
 fun B E w vals hw hI hdom hb hg hh hr=>c B E w vals hw hI hdom hb hg hh (h E w vals hr)
def rowT (l : List HF) (i : Nat) : List SV:=hfCells (l.getD i default)
theorem RqOk.total {r : Rq} {nl : Bool} {n : Int} {f : Nat→List SV} (R : RqOk r nl n f) : RqOk r nl n (rowT r.fields):=⟨R.id1,R.id2,R.method,R.target,R.host,R.body,⟨R.row.n,fun _ _=>rfl,R.row.len,R.row.small⟩,R.nil⟩
theorem rqLe {r : Rq} {nl : Bool} {n : Int} {f : Nat→List SV} (R : RqOk r nl n f) : LeV (.agg [.int .i64 (.a r.id),.str r.method,.str r.target,.str r.host,.sl (.a nl) (.a n) 2 f,.str r.body]) (.agg [.int .i64 (.a r.id),.str r.method,.str r.target,.str r.host,.sl (.a nl) (.a n) 2 (rowT r.fields),.str r.body]):=by
 refine .agg (.cons (LeV.refl _) (.cons (LeV.refl _) (.cons (LeV.refl _) (.cons (LeV.refl _) (.cons (.sl rfl rfl fun i hi=>?_) (.cons (LeV.refl _) .nil))))))
 have hi : (i : Int) < n:=hi
 rw [R.row.f i (by have:=R.row.n; omega)]
 rfl
def spChecksD : FSpec:=fun _ xs ls K=>∃ (r : Rq) (nl : Bool) (n : Int) (f : Nat→List SV) (s : List UInt8),xs = [.agg [.int .i64 (.a r.id),.str r.method,.str r.target,.str r.host,.sl (.a nl) (.a n) 2 f,.str r.body],.str s]∧ls = []∧RqOk r nl n f∧s.length≤9223372036854775807∧K (.bool (.a true)) []
theorem checks_okD : FnOk Tryz.prog gl 8 spChecksD:=by
 refine ⟨checks_ok.1,fun xs ls K h=>?_⟩
 obtain ⟨r,nl,n,f,s,rfl,rfl,R,hs,h⟩:=h
 obtain ⟨v,ls',hK,hc⟩:=checks_ok.2 _ [] K ⟨r,nl,n,rowT r.fields,s,rfl,rfl,R.total,fun _=>rfl,hs,h⟩
 exact ⟨v,ls',hK,callsTo_leL (LeL.cons (rqLe R) (LeL.cons (LeV.refl _) LeL.nil)) hc⟩
end Go.Proofs.YtefelnhpfdcleaaGreatDoor
