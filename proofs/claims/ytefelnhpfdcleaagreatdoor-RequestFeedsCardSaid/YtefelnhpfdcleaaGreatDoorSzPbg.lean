/- Part of the proofs of the statements about requests (layer 7): a symbolic executor over the code, that it is sound, and contracts of functions; it has no conditions of its own. -/
import Derived.Test.YtefelnhpfdcleaaGreatDoorSzPbf
import Derived.Test.YtefelnhpfdcleaaGreatDoorSzPbe
import Derived.Test.YtefelnhpfdcleaaGreatDoorSzPbd
import Derived.Test.YtefelnhpfdcleaaGreatDoorSzPav
import Derived.Test.YtefelnhpfdcleaaGreatDoorSzPaz
import Derived.Test.YtefelnhpfdcleaaGreatDoorSzPba
namespace Go.Proofs.YtefelnhpfdcleaaGreatDoor
open Go Go.RowKit Go.Sx
set_option maxHeartbeats 2000000
set_option maxRecDepth 100000
theorem Am0 : Tryz.prog.underlying 9 = some .string:=by kernel_rfl
theorem bByteI : ∃ i,Tryz.prog.info? 5 = some i∧i.zero = some (.int .u8 0)∧i.size = 1∧i.bytes = 1:=by
 obtain ⟨i,hi,h⟩:=Option.map_eq_some_iff.1 bByte
 simp only [Prod.mk.injEq] at h
 exact ⟨i,hi,h.1,h.2.1,h.2.2⟩
theorem str_law {w : World} {v : Value} {n : Nat} {xs : List Value} (hown : w.ownsRow 0 5 1 v n xs) (s : ByteArray) (hb : n + s.size≤140737488355328) :
  ∃ v' w',(Builtin.append_ #[36,9] 36 #[v,.string s]).run Tryz.prog w = .ok v' w'∧w'.ownsRow 0 5 1 v' (n + s.size) (xs ++ Lib.strCells s)∧w.grownBy w' v.ownBlock∧(v'.ownBlock = v.ownBlock∨v'.ownBlock = some w.heap.size):=by
 obtain ⟨i,hi,hz,hs1,hb1⟩:=bByteI
 have h63 : n + s.size≤maxLen:=by unfold maxLen; omega
 obtain ⟨v',w',hr,h2,h3,_⟩:=Lib.run_append_own_string (P:=Tryz.prog) w 0 36 9 36 5 i Xj Am0 hi hz hs1 hb1 v n xs hown s h63 hb (Nat.zero_le _)
 refine ⟨v',w',hr,h2,h3,?_⟩
 have hxl : xs.length = n:=by simpa using hown.1
 rcases hown.2 with ⟨rfl,rfl⟩ | ⟨g,cap,cur,rfl,hbg,hg,hnc,hcm,hcs,htake⟩
 ·by_cases hm : s.size = 0
  ·have hf:=Lib.run_firstCells_string (P:=Tryz.prog) w 1 s
   rw [hm] at hf
   simp [Builtin.append_,run_underlying Xj,run_underlying Am0,sizeOf,typeInfo,hi,hs1,Builtin.lenOf,hm,hf] at hr
   left; rw [←hr.1]
  ·have hr2:=run_append_nil_string (P:=Tryz.prog) w 36 9 36 5 i (.int .u8 0) Xj Am0 hi hz s (by omega) (by unfold maxLen at h63; omega) (by rw [hb1]; omega)
   rw [hr] at hr2
   injection hr2 with e1 e2
   right; rw [e1]; rfl
 ·by_cases hroom : n + s.size≤cap
  ·have hcs' : cur.size = cap:=by simpa using hcs
   have hr2:=Lib.run_append_room_string (P:=Tryz.prog) w 36 9 36 5 i Xj Am0 hi hs1 g n cap cur hg s hroom (by omega)
   rw [hr] at hr2
   injection hr2 with e1 e2
   left; rw [e1]; rfl
  ·have holds : ∀ j u,xs[j]? = some u→w.cell? ((⟨g,0,none⟩ : Addr).add j) = some u:=hown.cells (g:=g) rfl
   have hr2:=Lib.run_append_grow_string (P:=Tryz.prog) w 36 9 36 5 i (.int .u8 0) Xj Am0 hi hz ⟨g,0,none⟩ n cap xs (by rw [hs1]; simpa using hxl) holds s (by omega) (by unfold maxLen at h63; omega) (by rw [hb1]; exact growslice_fits (by omega) (by omega))
   rw [hr] at hr2
   injection hr2 with e1 e2
   right; rw [e1]; rfl
theorem wpl_str {ops : Array Oper} {rest : List Oper} {o : Oper} {a : Act} {w : World} {Q : Exit→Act→World→Prop} (hgd : o.guard = none) (sl x : Operand)
  (ho : o.op = .call { callee:=.builtin .append,args:=#[sl,x],argTypes:=#[36,9] }) (hty : o.type = 36) {v : Value} {n : Nat} {xs : List Value} (hs : a.eval sl = v) (hown : w.ownsRow 0 5 1 v n xs) (s : ByteArray) (hx : a.eval x = .string s) (hb : n + s.size≤140737488355328)
  (h : ∀ v' w',w'.ownsRow 0 5 1 v' (n + s.size) (xs ++ Lib.strCells s)→w.grownBy w' v.ownBlock→(v'.ownBlock = v.ownBlock∨v'.ownBlock = some w.heap.size)→wpList Tryz.prog ops Q rest (a.put o.dst v') w') : wpList Tryz.prog ops Q (o :: rest) a w:=by
 refine wpList_plain hgd fun K hK=>?_
 obtain ⟨v',w',hr,h2,h3,h4⟩:=str_law hown s hb
 unfold Oper.wp execOp
 simp only [ho,hty,resolve,invoke,builtin,Sem.run_bind,Sem.run_pure,Result.andThen_ok,List.map_toArray,List.map_cons,List.map_nil,hs,hx,hr]
 exact hK _ _ (h v' w' h2 h3 h4)
theorem Tq (b : Nat) (p v : Value) (s t : List UInt8) (w : World) (hbk : w.heap[b]? = some (.cells #[p,v] 104 (0,0))) (hp : p = .pointer none∨p = .pointer (some ⟨b,0,none⟩)) (hown : w.ownsRow 0 5 1 v s.length (Lib.byteCells s)) (hne : v.ownBlock≠some b) (hlen : s.length + t.length≤140737488355328) :
  Calls Tryz.prog 80 #[.pointer (some ⟨b,0,none⟩),.string (Sx.bytes t)] w fun e w'=>e = .returned (.tuple #[.int .i64 t.length,.nilIface])∧∃ v',w'.heap[b]? = some (.cells #[.pointer (some ⟨b,0,none⟩),v'] 104 (0,0))∧w'.ownsRow 0 5 1 v' (s.length + t.length) (Lib.byteCells s ++ Lib.strCells (Sx.bytes t))∧v'.ownBlock≠some b∧Anl b v v' w w':=by
 have hts : (Sx.bytes t).size = t.length:=rfl
 go_enter Tryz.func80,Tryz.ntmps80
 go_wp2_with (go_at_call 108; refine (Yk b p v s _ hbk hp hown hne).mono ?_)
 rintro e w1 ⟨rfl,hbk1,hown1,k1,k2,k3,k4,k5⟩
 have c0 : w1.cell? ⟨b,0,none⟩ = some (.pointer (some ⟨b,0,none⟩)):=by rw [Lib.cell_of_heap hbk1]; rfl
 have c1 : w1.cell? ⟨b,1,none⟩ = some v:=by rw [Lib.cell_of_heap hbk1]; rfl
 go_wp2_with (at_builtin; refine wpl_str (v:=v) (n:=s.length) (xs:=Lib.byteCells s) rfl _ _ rfl rfl rfl hown1 (Sx.bytes t) rfl (by rw [hts]; exact hlen) ?_)
 intro v' w2 hown2 hg hblk
 have hlt : b < w1.heap.size:=by
  rcases Nat.lt_or_ge b w1.heap.size with h' | h'
  ·exact h'
  ·simp [Array.getElem?_eq_none h'] at hbk1
 have hold : ∀ k,k < w1.heap.size→some k≠v.ownBlock→w2.heap[k]? = w1.heap[k]?:=fun k hk hne2=>hg.block k hk hne2
 have hsz : w1.heap.size≤w2.heap.size:=hg.size
 have hgos : w2.os = w1.os∧w2.tape = w1.tape∧w2.output = w1.output:=⟨hg.os,hg.tape,hg.output⟩
 have hne2 : v'.ownBlock≠some b:=by
  rcases hblk with h | h
  ·rw [h]; exact hne
  ·rw [h]; intro e; simp at e; omega
 have hb2 : w2.heap[b]? = some (.cells #[.pointer (some ⟨b,0,none⟩),v] 104 (0,0)):=by rw [hold b hlt (fun e=>hne e.symm)]; exact hbk1
 have d0 : w2.cell? ⟨b,0,none⟩ = some (.pointer (some ⟨b,0,none⟩)):=by rw [Lib.cell_of_heap hb2]; rfl
 have d1 : w2.cell? ⟨b,1,none⟩ = some v:=by rw [Lib.cell_of_heap hb2]; rfl
 have f1 : w2.frozen? ⟨b,1,none⟩ = false:=Lib.frozen_of_heap hb2 1
 have hnew : ∀ k,v'.ownBlock = some k→v.ownBlock = some k∨w.heap.size≤k:=by
  intro k hk
  rcases hblk with h | h
  ·left; rw [←h]; exact hk
  ·right; rw [h] at hk; simp at hk; omega
 obtain ⟨v2,hv2⟩ : ∃ v2,v2 = v':=⟨_,rfl⟩
 have hsh : ∃ a c,v' = .slice a (s.length + t.length) c:=by
  rcases hown2.2 with ⟨h,h2⟩ | ⟨g,cap,cur,h,_⟩
  ·have h2 : s.length + t.length = 0:=h2
   rw [h,h2]; exact ⟨_,_,rfl⟩
  ·exact ⟨_,_,h⟩
 obtain ⟨ao,co,rfl⟩:=hsh
 go_wp2
 go_ret2
 refine ⟨by simp,_,by simp [World.setCell,Array.getElem?_modify,hb2],?_,hne2,⟨?_,?_,?_,by simp [World.setCell]; omega,fun k h1 h2 h3=>?_,hnew⟩⟩
 ·exact hown2.kept (row:=some b) ⟨rfl,rfl,rfl,by simp [World.setCell],fun k _ hk=>RowKit.Below.heap_setCell _ _ _ _ (fun e=>hk (by simp [e]))⟩ (Or.inr hne2)
 ·exact hgos.1.trans k1
 ·exact hgos.2.1.trans k2
 ·exact hgos.2.2.trans k3
 ·rw [RowKit.Below.heap_setCell _ _ _ _ (fun e=>h2 (by simp [e])),hold k (by omega) h3]
  exact k5 k h2
def spWS : FSpec:=fun _ xs ls K=>∃ (s t : List UInt8),xs = [.ptr 0 0,.str t]∧ls = [.bld 104 5 s]∧s.length + t.length≤140737488355328∧∀ r n,r = s ++ t→n = (t.length : Int)→K (.tup [.int .i64 (.a n),.raw .nilIface]) [.bld 104 5 r]
theorem Uq : Ar Tryz.prog gl 80 spWS:=by
 refine ⟨⟨Tryz.f80,_,Tryz.func80,rfl,by kernel_rfl⟩,fun xs ls K h=>?_⟩
 obtain ⟨s,t,rfl,rfl,hs,h⟩:=h
 refine ⟨_,_,h _ _ rfl rfl,To fun E b p v w vals A hr=>?_⟩
 obtain ⟨u,rfl,hu⟩:=Aci hr
 rw [D0 hu]
 refine (Tq b p v s t w A.at_ A.pp A.own A.ne hs).mono ?_
 rintro e w' ⟨rfl,v',k1,k2,k3,k4⟩
 refine ⟨_,v',rfl,fun E=>?_,k4,rfl,rfl,_,.inr rfl,k1,?_,k3⟩
 ·refine .tup rfl fun i x y a b=>?_
  match i,a,b with
  | 0,a,b=>cases a; cases b; exact .ro (.int rfl)
  | 1,a,b=>cases a; cases b; exact .ro (.raw rfl)
 ·have : Lib.byteCells (s ++ t) = Lib.byteCells s ++ Lib.strCells (Sx.bytes t):=by simp [Lib.byteCells,Lib.strCells,Sx.bytes]
  rw [this,List.length_append]
  exact k2
end Go.Proofs.YtefelnhpfdcleaaGreatDoor
namespace Go.Proofs.YtefelnhpfdcleaaGreatDoor
open Go Go.Sx
set_option maxRecDepth 100000
set_option maxHeartbeats 16000000
def Db (x : HF) : List UInt8:=((x.name ++ [58,32]) ++ x.value) ++ [13,10]
def Bj (l : List HF) : List UInt8:=l.flatMap Db ++ [13,10]
def Fw (l : List HF) : List UInt8×Int:=if A7 l≠0 then ([],A7 l) else (Bj l,0)
theorem Qz : ∀ {l : List HF} {n : Int},Ck l n = 0→∀ x∈l,x.name.length≤64∧x.value.length≤2000
 | [],_,_,x,hx=>by cases hx
 | y :: l,n,h,x,hx=>by
  unfold Ck at h
  split at h
  ·cases h
  ·rename_i hb
   split at h
   ·cases h
   ·rename_i hv
    rcases List.mem_cons.1 hx with rfl | hx
    ·refine ⟨?_,by omega⟩
     have hb : Pk x = false:=by simpa using hb
     unfold Pk at hb
     simp only [Bool.or_eq_false_iff,Bool.not_eq_false'] at hb
     have:=hb.1
     unfold Br at this
     simp only [Bool.and_eq_true,decide_eq_true_eq] at this
     exact this.2.2
    ·exact Qz h x hx
theorem H2 {l : List HF} (h : A7 l = 0) : ∀ x∈l,x.name.length≤64∧x.value.length≤2000:=by
 unfold A7 at h
 split at h
 ·cases h
 ·exact Qz h
def spPrint : FSpec:=fun _ xs ls K=>∃ (l : List HF) (nl : Bool) (n : Int) (f : Nat→List SV),xs = [.sl (.a nl) (.a n) 2 f]∧ls = []∧A9 f n l∧∀ t e,(t,e) = Fw l→K (.tup [.str t,.int .i64 (.a e)]) []
structure PrJ (l : List HF) (k t : List UInt8) (i : Nat) (I : Int) (m : Nat) : Prop where
 lie : AtR l i I m
 k : k = t ++ Bj (l.drop i)
 len : t.length≤3000 * i
def prJ (l : List HF) (k : List UInt8) (nl : Bool) (n : Int) (f : Nat→List SV) (m : Nat) (vs : List (Option SV)) (hp : List Hl) : Prop :=
 ∃ (t : List UInt8) (i : Nat) (I : Int),vs = [some (.ptr 0 0),some (.sl (.a nl) (.a n) 2 f),some (.int .i64 (.a n)),some (.int .i64 (.a I))]∧hp = [.bld 104 5 t]∧PrJ l k t i I m
theorem Alc : Ar Tryz.prog gl 44 spPrint:=by
 refine A4 (gh:=[(4,[.bld 5 5])]) mixed A0 (Aa Xf (Aa Uq (Aa Aie Ae))) Tryz.func44 (by kernel_rfl) (by kernel_rfl) ?_
 intro xs ls K h
 unfold spPrint at h
 obtain ⟨l,nl,n,f,rfl,rfl,R,h⟩:=h
 obtain ⟨k,hk⟩ : ∃ k,k = Fw l:=⟨_,rfl⟩
 obtain ⟨kt,ke⟩:=k
 refine ⟨_,_,h kt ke hk,fun D hD=>?_⟩
 clear h
 unfold Fw at hk
 obtain ⟨J,hJ⟩ : ∃ J,J = prJ l kt nl n f:=⟨_,rfl⟩
 cbv
 refine ⟨l,_,_,f,rfl,rfl,by subst hD; exact R,fun e he=>?_⟩
 cbv
 have hcf:=H2 (l:=l)
 have hcl:=Di (l:=l)
 rw [←he] at hk hcf hcl
 clear he
 refine br hD (fun h=>?_) (fun h=>?_)<;>cbv
 ·have h1 : e≠0:=by simpa using h
  rw [if_pos h1] at hk
  simp only [Prod.mk.injEq] at hk
  obtain ⟨hq1,hq2⟩:=hk
  subst hq1 hq2
  subst hD
  exact B7 rfl rfl
 have h1 : e = 0:=by simpa using h
 rw [if_neg (by simp [h1])] at hk
 simp only [Prod.mk.injEq] at hk
 obtain ⟨hq1,hq2⟩:=hk
 have hcf:=hcf h1
 have hcl:=hcl h1
 clear h
 refine ⟨[5,13,14,15],J,⟨rfl,l.length,?_⟩,?_⟩
 ·rw [hJ]
  subst hD
  exact ⟨[],0,0,rfl,rfl,AtR.zero R.len,hq1,by simp⟩
 clear hq1
 intro m vs hp hj
 rw [hJ] at hj
 obtain ⟨t,i,I,rfl,rfl,V⟩:=hj
 cbv
 refine br hD (fun h=>?_) (fun h=>?_)<;>cbv
 ·have hlt:=V.lie.lt R.n (of_decide_eq_true (p:=I < n) h)
  clear h
  refine ⟨V.lie.inB hD R.n hlt,fun j hj=>?_⟩
  obtain rfl:=V.lie.j hD hj
  clear hj
  have e1:=R.f j hlt
  have hsm:=hcf (l.getD j default) (by rw [List.getD_eq_getElem?_getD,List.getElem?_eq_getElem hlt]; exact List.getElem_mem hlt)
  have hk2:=V.k
  have hlen:=V.len
  rw [Qv (d:=default) hlt] at hk2
  obtain ⟨x,hx⟩ : ∃ x,x = l.getD j default:=⟨_,rfl⟩
  rw [←hx] at e1 hk2 hsm
  obtain ⟨a,b⟩:=x
  simp only at hsm
  cbv
  rw [e1]
  cbv
  refine ⟨⟨by simp only [List.length_cons,List.length_nil]; omega⟩,fun s1 hs1=>?_⟩
  cbv
  have hs1 : s1 = a ++ [58,32]:=hs1.h
  have l1 : s1.length≤66:=by rw [hs1]; simp; omega
  refine ⟨⟨by omega⟩,fun s2 hs2=>?_⟩
  cbv
  have hs2 : s2 = s1 ++ b:=hs2.h
  have l2 : s2.length≤2066:=by rw [hs2]; simp; omega
  refine ⟨⟨by simp only [List.length_cons,List.length_nil]; omega⟩,fun s3 hs3=>?_⟩
  cbv
  have hs3 : s3 = s2 ++ [13,10]:=hs3.h
  have l3 : s3.length≤2068:=by rw [hs3]; simp; omega
  have hline : s3 = Db ⟨a,b⟩:=by rw [hs3,hs2,hs1]; rfl
  clear hs1 hs2 hs3
  refine ⟨t,s3,rfl,rfl,by omega,fun r nn hr hnn=>?_⟩
  cbv
  obtain ⟨g1,g2⟩:=V.lie.step hD hlt
  refine ⟨_,g1,?_⟩
  rw [hJ]
  unfold prJ
  subst hD
  refine ⟨r,j + 1,_,rfl,rfl,g2,?_,?_⟩
  ·rw [hk2,hr,hline]; simp [Bj]
  ·rw [hr,List.length_append]; omega
 ·have hi:=V.lie.eq R.n (of_decide_eq_false (p:=I < n) h)
  have hk2:=V.k
  have hlen:=V.len
  rw [hi,List.drop_length] at hk2
  clear h
  refine ⟨t,[13,10],rfl,rfl,by simp only [List.length_cons,List.length_nil]; omega,fun r nn hr hnn=>?_⟩
  cbv
  have hk3 : r = kt:=by rw [hr,hk2]; rfl
  refine ⟨r,rfl,rfl,?_⟩
  cbv
  rw [hk3,hq2]
  subst hD
  exact B7 rfl rfl
end Go.Proofs.YtefelnhpfdcleaaGreatDoor
namespace Go.Proofs.YtefelnhpfdcleaaGreatDoor
open Go Go.Sx
set_option maxRecDepth 100000
set_option maxHeartbeats 4000000
def sVer : List UInt8:=[32,72,84,84,80,47,49,46,49,13,10]
def Bo (r : Rq) : List UInt8×Int :=
 if (Av r).2.2≠0 then ([],(Av r).2.2) else if (Fw (Av r).2.1).2≠0 then ([],(Fw (Av r).2.1).2) else
 (((((r.method ++ [32]) ++ r.target) ++ sVer) ++ (Fw (Av r).2.1).1) ++ r.body,0)
structure ExOk (r : Rq) : Prop where
 method : C8 r.method = true
 org : (Lx r.target).2 = 0
 chk : (A1 r).2 = 0
 host : Oc r.host = true
 body : r.body.length≤65536
 fields : (Av r).2.1 = (A1 r).1
 id1 : 1≤r.id
 id2 : r.id≤1000000000
 part : (Av r).1 = []
theorem M3 {r : Rq} (h : (Av r).2.2 = 0) : ExOk r:=by
 have h0:=h
 unfold Av at h
 split at h
 ·cases h
 ·rename_i g1
  split at h
  ·cases h
  ·rename_i g2
   split at h
   ·cases h
   ·rename_i g3
    split at h
    ·rename_i g4; exact absurd h g4
    ·rename_i g4
     split at h
     ·cases h
     ·rename_i g5
      split at h
      ·rename_i g6; exact absurd h g6
      ·rename_i g6
       split at h
       ·cases h
       ·rename_i g7
        split at h
        ·cases h
        ·rename_i g8
         refine ⟨by simpa using g2,by simpa using g4,by simpa using g6,by simpa using g5,by omega,?_,by omega,by omega,?_⟩
         ·unfold Av
          rw [if_neg g1,if_neg g2,if_neg g3,if_neg g4,if_neg g5,if_neg g6,if_neg g7,if_neg g8]
         ·unfold Av
          rw [if_neg g1,if_neg g2,if_neg g3,if_neg g4,if_neg g5,if_neg g6,if_neg g7,if_neg g8]
theorem ExOk.method_len {r : Rq} (E : ExOk r) : r.method.length≤16:=by
 have:=E.method
 unfold C8 at this
 simp only [Bool.and_eq_true,decide_eq_true_eq] at this
 exact this.1
theorem Afz {l : List HF} (h : ∀ x∈l,x.name.length≤64∧x.value.length≤2000) : (Bj l).length≤3000 * l.length + 2:=by
 have : (l.flatMap Db).length≤3000 * l.length:=by
  induction l with
  | nil=>simp
  | cons x l ih =>
   have h1:=h x (List.mem_cons_self ..)
   have h2:=ih fun y hy=>h y (List.mem_cons_of_mem _ hy)
   simp only [List.flatMap_cons,List.length_append,List.length_cons,Db,List.length_nil]
   omega
 unfold Bj
 simp only [List.length_append,List.length_cons,List.length_nil]
 omega
theorem Oo {l : List HF} : (Fw l).1.length≤400000:=by
 unfold Fw
 split
 ·simp
 ·rename_i h
  have h : A7 l = 0:=by simpa using h
  have h1:=Afz (H2 h)
  have h2:=Di h
  simp only; omega
def spEnc : FSpec:=fun _ xs ls K=>∃ (r : Rq) (nl : Bool) (n : Int) (f : Nat→List SV),xs = [.agg [.int .i64 (.a r.id),.str r.method,.str r.target,.str r.host,.sl (.a nl) (.a n) 2 f,.str r.body]]∧ls = []∧Gd r nl n f∧
 ∀ t e,(t,e) = Bo r→K (.tup [.str t,.int .i64 (.a e)]) []
theorem Sh : Ar Tryz.prog gl 18 spEnc:=by
 refine A4 (gh:=[]) mixed A0 (Aa Ahv (Aa Alc Ae)) Tryz.func18 (by kernel_rfl) (by kernel_rfl) ?_
 intro xs ls K h
 unfold spEnc at h
 obtain ⟨r,nl,n,f,rfl,rfl,R,h⟩:=h
 obtain ⟨k,hk⟩ : ∃ k,k = Bo r:=⟨_,rfl⟩
 obtain ⟨kt,ke⟩:=k
 refine ⟨_,_,h kt ke hk,fun D hD=>?_⟩
 clear h
 unfold Bo at hk
 have hE:=M3 (r:=r)
 have hM : (Av r).2.2 = 0→r.method.length≤16:=fun h=>(hE h).method_len
 have hT : (Av r).2.2 = 0→r.target.length≤500:=fun h=>P2 (hE h).org
 have hB : (Av r).2.2 = 0→r.body.length≤65536:=fun h=>(hE h).body
 clear hE
 obtain ⟨ck,hck⟩ : ∃ w,w = Av r:=⟨_,rfl⟩
 rw [←hck] at hk hM hT hB
 obtain ⟨cp,cl,ce⟩:=ck
 obtain ⟨id,me,ta,ho,fs,bo⟩:=r
 simp only at hk hM hT hB
 cbv
 refine ⟨⟨id,me,ta,ho,fs,bo⟩,nl,n,f,by subst hD; rfl,rfl,R,fun p l e nb2 n3 g3 hc R3 hnb2=>?_⟩
 cbv
 rw [←hck] at hc
 simp only [Prod.mk.injEq] at hc
 obtain ⟨hq1,hq2,hq3⟩:=hc
 subst hq1 hq2 hq3
 clear hck
 refine br hD (fun h=>?_) (fun h=>?_)<;>cbv
 ·have h1 : e≠0:=by simpa using h
  rw [if_pos h1] at hk
  simp only [Prod.mk.injEq] at hk
  obtain ⟨hq1,hq2⟩:=hk
  subst hq1 hq2
  subst hD
  exact B7 rfl rfl
 have h1 : e = 0:=by simpa using h
 rw [if_neg (by simp [h1])] at hk
 have hM:=hM h1
 have hT:=hT h1
 have hB:=hB h1
 clear h
 refine ⟨l,_,_,g3,rfl,rfl,by subst hD; exact R3,fun t e2 ht=>?_⟩
 cbv
 have hPl:=Oo (l:=l)
 rw [←ht] at hk hPl
 simp only at hk hPl
 clear ht
 refine br hD (fun h=>?_) (fun h=>?_)<;>cbv
 ·have h1 : e2≠0:=by simpa using h
  rw [if_pos h1] at hk
  simp only [Prod.mk.injEq] at hk
  obtain ⟨hq1,hq2⟩:=hk
  subst hq1 hq2
  subst hD
  exact B7 rfl rfl
 have h1 : e2 = 0:=by simpa using h
 rw [if_neg (by simp [h1])] at hk
 simp only [Prod.mk.injEq] at hk
 obtain ⟨hq1,hq2⟩:=hk
 clear h
 refine ⟨⟨by simp only [List.length_cons,List.length_nil]; omega⟩,fun s1 hs1=>?_⟩
 cbv
 have hs1 : s1 = me ++ [32]:=hs1.h
 have l1 : s1.length≤17:=by rw [hs1]; simp; omega
 refine ⟨⟨by omega⟩,fun s2 hs2=>?_⟩
 cbv
 have hs2 : s2 = s1 ++ ta:=hs2.h
 have l2 : s2.length≤517:=by rw [hs2]; simp; omega
 refine ⟨⟨by simp only [List.length_cons,List.length_nil]; omega⟩,fun s3 hs3=>?_⟩
 cbv
 have hs3 : s3 = s2 ++ sVer:=hs3.h
 have l3 : s3.length≤528:=by rw [hs3,List.length_append]; have : sVer.length = 11:=rfl; omega
 refine ⟨⟨by omega⟩,fun s4 hs4=>?_⟩
 cbv
 have hs4 : s4 = s3 ++ t:=hs4.h
 have l4 : s4.length≤400528:=by rw [hs4,List.length_append]; omega
 refine ⟨⟨by omega⟩,fun s5 hs5=>?_⟩
 cbv
 have hs5 : s5 = s4 ++ bo:=hs5.h
 have : s5 = kt:=by rw [hs5,hs4,hs3,hs2,hs1,hq1]
 rw [this,hq2]
 subst hD
 exact B7 rfl rfl
end Go.Proofs.YtefelnhpfdcleaaGreatDoor
namespace Go.Proofs.YtefelnhpfdcleaaGreatDoor
open Go Go.Sx
set_option maxRecDepth 100000
set_option maxHeartbeats 4000000
instance : DecidableEq HF:=fun a b=>decidable_of_iff (a.name = b.name∧a.value = b.value) (by cases a; cases b; simp)
instance : DecidableEq Rq:=fun a b=>decidable_of_iff (a.id = b.id∧a.method = b.method∧a.target = b.target∧a.host = b.host∧a.fields = b.fields∧a.body = b.body) (by cases a; cases b; simp)
def spEqH : FSpec:=fun _ xs ls K=>∃ (a b : List HF) (na nb : Bool) (A B : Int) (f g : Nat→List SV),xs = [.sl (.a na) (.a A) 2 f,.sl (.a nb) (.a B) 2 g]∧ls = []∧A9 f A a∧A9 g B b∧∀ r : Bool,r = decide (a = b)→K (.bool (.a r)) []
structure EqJ (k : Bool) (a b : List HF) (i : Nat) (I : Int) (m : Nat) : Prop where
 at_ : AtR a i I m
 k : k = decide (a.drop i = b.drop i)
def eqJ (k : Bool) (a b : List HF) (na nb : Bool) (A B : Int) (f g : Nat→List SV) (m : Nat) (vs : List (Option SV)) (hp : List Hl) : Prop :=
 ∃ (i : Nat) (I : Int),vs = [some (.sl (.a na) (.a A) 2 f),some (.sl (.a nb) (.a B) 2 g),some (.int .i64 (.a I))]∧hp = []∧EqJ k a b i I m
theorem M7 {l : List HF} {i : Nat} (h : i < l.length) : l.drop i = l.getD i default :: l.drop (i + 1):=by
 rw [List.getD_eq_getElem?_getD,List.getElem?_eq_getElem h,Option.getD_some,List.drop_eq_getElem_cons h]
theorem Aml : Ar Tryz.prog gl 63 spEqH:=by
 refine A4 (gh:=[]) mixed A0 Ae Tryz.func63 (by kernel_rfl) (by kernel_rfl) ?_
 intro xs ls K h
 unfold spEqH at h
 obtain ⟨a,b,na,nb,A,B,f,g,rfl,rfl,RA,RB,h⟩:=h
 obtain ⟨k,hk⟩ : ∃ k,k = decide (a = b):=⟨_,rfl⟩
 refine ⟨_,_,h k hk,fun D hD=>?_⟩
 cbv
 clear h
 refine br hD (fun h=>?_) (fun h=>?_)<;>cbv
 ·have h2 : A≠B:=by simpa using h
  refine Aj hD ?_
  rw [hk]
  have h3 : a≠b:=fun e=>h2 (by rw [RA.n,RB.n,e])
  show false = _
  symm
  exact decide_eq_false h3
 have h2 : A = B:=by simpa using h
 have hlab : a.length = b.length:=by have:=RA.n; have:=RB.n; omega
 clear h
 obtain ⟨J,hJ⟩ : ∃ J,J = eqJ k a b na nb A B f g:=⟨_,rfl⟩
 refine ⟨[0,1,5],J,⟨rfl,a.length,?_⟩,?_⟩
 ·rw [hJ]
  subst hD
  exact ⟨0,0,rfl,rfl,AtR.zero RA.len,hk⟩
 intro m vs hp' hv
 rw [hJ] at hv
 unfold eqJ at hv
 obtain ⟨i,I,rfl,rfl,V⟩:=hv
 clear hk
 cbv
 refine br hD (fun h=>?_) (fun h=>?_)<;>cbv
 ·have hlt:=V.at_.lt RA.n (of_decide_eq_true (p:=I < A) h)
  clear h
  have hltb : i < b.length:=by omega
  have inA:=V.at_.inB hD RA.n hlt
  have inB' : Sx.InB (D.i (.a I)) (D.i (.a B)):=by have:=V.at_.I; have:=RB.n; subst hD; exact ⟨by show 0≤I; omega,by show I < B; omega⟩
  have hk2:=V.k
  rw [M7 hlt,M7 hltb] at hk2
  have e1:=RA.f i hlt
  have d1:=RB.f i hltb
  obtain ⟨x,hx⟩ : ∃ x,x = a.getD i default:=⟨_,rfl⟩
  obtain ⟨y,hy⟩ : ∃ y,y = b.getD i default:=⟨_,rfl⟩
  rw [←hx] at e1 hk2
  rw [←hy] at d1 hk2
  clear hx hy
  obtain ⟨x1,x2⟩:=x
  obtain ⟨y1,y2⟩:=y
  have hst:=V.at_.step hD hlt
  refine ⟨inA,fun j hj=>?_⟩
  have hj:=V.at_.j hD hj
  cbv
  rw [hj,e1]
  cbv
  refine ⟨inB',fun j2 hj2=>?_⟩
  have hj2:=V.at_.j hD hj2
  cbv
  rw [hj2,d1]
  cbv
  refine br hD (fun h=>?_) (fun h=>?_)<;>cbv
  ·have h : (!((x1 == y1) && (x2 == y2))) = true:=h
   refine Aj hD ?_
   show false = k
   rw [hk2]
   symm
   apply decide_eq_false
   intro e
   injection e with e1 e2
   injection e1 with e3 e4
   rw [e3,e4] at h
   simp at h
  ·have h : (!((x1 == y1) && (x2 == y2))) = false:=h
   simp only [Bool.not_eq_false',Bool.and_eq_true,beq_iff_eq] at h
   refine ⟨_,hst.1,?_⟩
   rw [hJ]
   unfold eqJ
   subst hD
   refine ⟨i + 1,_,rfl,rfl,⟨hst.2,?_⟩⟩
   rw [hk2,h.1,h.2]
   simp
 ·have he:=V.at_.eq RA.n (of_decide_eq_false (p:=I < A) h)
  refine Aj hD ?_
  show true = k
  rw [V.k,List.drop_eq_nil_of_le (by omega),List.drop_eq_nil_of_le (by omega)]
  rfl
def spSameR : FSpec:=fun _ xs ls K=>∃ (a b : Rq) (na nb : Bool) (A B : Int) (f g : Nat→List SV),xs = [.agg [.int .i64 (.a a.id),.str a.method,.str a.target,.str a.host,.sl (.a na) (.a A) 2 f,.str a.body],.agg [.int .i64 (.a b.id),.str b.method,.str b.target,.str b.host,.sl (.a nb) (.a B) 2 g,.str b.body]]∧ls = []∧A9 f A a.fields∧A9 g B b.fields∧∀ r : Bool,r = decide (a = b)→K (.bool (.a r)) []
theorem Ps : Ar Tryz.prog gl 24 spSameR:=by
 refine A4 (gh:=[]) mixed A0 (Aa Aml Ae) Tryz.func24 (by kernel_rfl) (by kernel_rfl) ?_
 intro xs ls K h
 unfold spSameR at h
 obtain ⟨a,b,na,nb,A,B,f,g,rfl,rfl,RA,RB,h⟩:=h
 obtain ⟨k,hk⟩ : ∃ k,k = decide (a = b):=⟨_,rfl⟩
 refine ⟨_,_,h k hk,fun D hD=>?_⟩
 obtain ⟨i1,m1,t1,h1,l1,b1⟩:=a
 obtain ⟨i2,m2,t2,h2,l2,b2⟩:=b
 cbv
 clear h
 refine ⟨l1,l2,na,nb,A,B,f,g,by subst hD; rfl,rfl,RA,RB,fun r hr=>?_⟩
 cbv
 refine Aj hD ?_
 show ((((((i1 == i2) && (m1 == m2)) && (t1 == t2)) && (h1 == h2)) && (b1 == b2)) && r) = k
 rw [hk,hr,Bool.eq_iff_iff]
 simp only [Bool.and_eq_true,beq_iff_eq,decide_eq_true_eq,Rq.mk.injEq]
 grind
def exL : List HF:=[⟨[67,111,110,110,101,99,116,105,111,110],[99,108,111,115,101]⟩,⟨[65,99,99,101,112,116],[42]⟩]
def Qt : List UInt8:=[47,97,47,46,46,47,98,37,55,101,63,120]
def exR : Rq:=⟨7,[71,69,84],Qt,[104],exL,[]⟩
def spEx : FSpec:=fun _ xs ls K=>xs = []∧ls = []∧∀ f n b,GrH f n b exL→K (.agg [.int .i64 (.a 7),.str [71,69,84],.str [47,97,47,46,46,47,98,37,55,101,63,120],.str [104],.sl (.a b) (.a n) 2 f,.str []]) []
theorem Agc : Ar Tryz.prog gl 31 spEx:=by
 refine A4 (gh:=[]) mixed A0 Ae Tryz.func31 (by kernel_rfl) (by kernel_rfl) ?_
 intro xs ls K h
 unfold spEx at h
 obtain ⟨rfl,rfl,h⟩:=h
 have hG : ∃ f1 n1 b1,GrH f1 n1 b1 exL:=⟨_,_,_,⟨A9.row (by decide) (fun i hi=>by
  have hi : i < 2:=hi
  rcases i with _ | _ | i
  ·exact ⟨by decide,by decide⟩
  ·exact ⟨by decide,by decide⟩
  ·omega),rfl⟩⟩
 obtain ⟨f1,n1,b1,hG⟩:=hG
 refine ⟨_,_,h f1 n1 b1 hG,fun D hD=>?_⟩
 cbv
 clear h
 intro g hg
 cbv
 have g0:=hg.h 0 _ rfl
 have g1:=hg.h 1 _ rfl
 have G : GrH g 2 false exL:=⟨⟨rfl,fun i hi=>by
  have hi : i < 2:=hi
  rcases i with _ | _ | i
  ·exact g0
  ·exact g1
  ·omega,by decide,fun i hi=>by
  have hi : i < 2:=hi
  rcases i with _ | _ | i
  ·exact ⟨by decide,by decide⟩
  ·exact ⟨by decide,by decide⟩
  ·omega⟩,rfl⟩
 subst hD
 exact D6 (.agg (.cons (E7 rfl) (.cons (LeV.refl _) (.cons (LeV.refl _) (.cons (LeV.refl _) (.cons (Oa G hG rfl rfl) (.cons (LeV.refl _) .nil)))))))
end Go.Proofs.YtefelnhpfdcleaaGreatDoor
namespace Go.Proofs.YtefelnhpfdcleaaGreatDoor
open Go Go.Sx
set_option maxRecDepth 100000
set_option maxHeartbeats 400000
structure EqNN (a b : Nat) : Prop where
 h : a = b
structure LeN (a b : Nat) : Prop where
 h : a≤b
def LeO (s s' : SV) : Prop:=∀ (I : Nat→Nat→Prop) (w : Go.World) (v : Go.Value),RO I w s v→RO I w s' v
theorem LeO.refl (s : SV) : LeO s s:=fun _ _ _ h=>h
theorem LeO.sl {nl nl' : BT} {n n' : ST} {sz : Nat} {f f' : Nat→List SV} (h1 : nl.den = nl'.den) (h2 : n.den = n'.den) (h : ∀ i : Nat,(i : Int) < n.den→f i = f' i) : LeO (.sl nl n sz f) (.sl nl' n' sz f'):=by
 intro I w v hr
 rcases hr.sl_inv with ⟨rfl,e0,e1⟩ | ⟨a,m,cap,g,rfl,e1,e2,e3,e3',e4,e5,e5',e6,e7⟩
 ·exact .slnil (by rw [←h1]; exact e1) (by rw [←h2]; exact e0)
 ·have hf : ∀ i,i < m→f' i = f i:=fun i hi=>(h i (by omega)).symm
  exact .sl g (by rw [←h1]; exact e1) (by rw [←h2]; exact e2) e3 e3' e4 (fun i hi=>by rw [hf i hi]; exact e5 i hi) e5' e6 (fun i j s hi hs=>by rw [hf i hi] at hs; exact e7 i j s hi hs)
theorem LeV.slD {nl nl' : BT} {n n' : ST} {sz : Nat} {f f' : Nat→List SV} (h1 : nl.den = nl'.den) (h2 : n.den = n'.den) (hl : ∀ i : Nat,(i : Int) < n.den→(f' i).length = (f i).length) (h : ∀ (i j : Nat) (s' : SV),(i : Int) < n.den→(f' i)[j]? = some s'→∃ s,(f i)[j]? = some s∧LeO s s') : LeV (.sl nl n sz f) (.sl nl' n' sz f'):=by
 intro E w v hr
 have hr:=hr.sl_inv
 rcases hr.sl_inv with ⟨rfl,e0,e1⟩ | ⟨a,m,cap,g,rfl,e1,e2,e3,e3',e4,e5,e5',e6,e7⟩
 ·exact .ro (.slnil (by rw [←h1]; exact e1) (by rw [←h2]; exact e0))
 ·refine .ro (.sl g (by rw [←h1]; exact e1) (by rw [←h2]; exact e2) e3 e3' e4 (fun i hi=>by rw [hl i (by omega)]; exact e5 i hi) e5' e6 (fun i j s hi hs=>?_))
  obtain ⟨s0,h0,hle⟩:=h i j s (by omega) hs
  exact hle _ _ _ (e7 i j s0 hi h0)
def X0 (r : Rq) (nl : Bool) (n : Int) (f : Nat→List SV) : List SV:=[.int .i64 (.a r.id),.str r.method,.str r.target,.str r.host,.sl (.a nl) (.a n) 2 f,.str r.body]
def Akf (cs : List SV) (r : Rq) : Prop:=∃ nl n f,cs = X0 r nl n f∧GrH f n nl r.fields
structure Ks (f : Nat→List SV) (n : Int) (l : List Rq) : Prop where
 n : n = l.length
 f : ∀ i,i < l.length→Akf (f i) (l.getD i rqZ)
 len : l.length≤9223372036854775807
structure GrQ (f : Nat→List SV) (n : Int) (nl : Bool) (l : List Rq) : Prop where
 row : Ks f n l
 nl : nl = l.isEmpty
theorem Ks.nil : Ks (fun _=>[]) 0 []:=⟨rfl,fun i hi=>absurd hi (by simp),by simp⟩
theorem GrQ.nil : GrQ (fun _=>[]) 0 true []:=⟨Ks.nil,rfl⟩
theorem Ks.app {f g f' : Nat→List SV} {n m n' : Int} {a b : List Rq} (R : Ks f n a) (S : Ks g m b) (h : H4 f' n' n m f g) (hl : a.length + b.length≤9223372036854775807) : Ks f' n' (a ++ b):=by
 have hn:=R.n; have hm:=S.n
 refine ⟨by rw [h.len,hn,hm,List.length_append]; omega,fun i hi=>?_,by rw [List.length_append]; exact hl⟩
 rw [List.length_append] at hi
 by_cases h1 : i < a.length
 ·rw [h.lo i (by omega),List.getD_eq_getElem?_getD,List.getElem?_append_left h1,←List.getD_eq_getElem?_getD]
  exact R.f i h1
 ·rw [h.hi i (i - a.length) (by omega) (by omega),List.getD_eq_getElem?_getD,List.getElem?_append_right (by omega),←List.getD_eq_getElem?_getD]
  exact S.f _ (by omega)
theorem Ks.one {f : Nat→List SV} {x : Rq} (h : Akf (f 0) x) : Ks f 1 [x]:=by
 refine ⟨rfl,fun i hi=>?_,by simp⟩
 have hi : i < 1:=hi
 obtain rfl : i = 0:=by omega
 exact h
theorem GrQ.more {f f' g : Nat→List SV} {n n' : Int} {nl nl' : Bool} {l : List Rq} {x : Rq} (G : GrQ f n nl l) (hg : Akf (g 0) x) (h : H4 f' n' n 1 f g) (hl : l.length≤1000000) (hb : nl' = false) : GrQ f' n' nl' (l ++ [x]) :=
 ⟨G.row.app (Ks.one hg) h (by simp only [List.length_cons,List.length_nil]; omega),by rw [hb]; simp⟩
theorem Aa6 {f f2 : Nat→List SV} {n n2 : Int} {l : List Rq} {x x2 : BT} {y y2 : ST} (G : Ks f n l) (G2 : Ks f2 n2 l) (hx : x.den = x2.den) (hy : y.den = n) (hy2 : y2.den = n2) : LeV (.sl x y 6 f) (.sl x2 y2 6 f2):=by
 have hn : n = (l.length : Int):=G.n
 have hn2 : n2 = (l.length : Int):=G2.n
 refine LeV.slD hx (by rw [hy,hy2,hn,hn2]) (fun i hi=>?_) (fun i j s' hi hs=>?_)
 ·have hi : i < l.length:=by rw [hy] at hi; omega
  obtain ⟨_,_,_,e1,_⟩:=G.f i hi
  obtain ⟨_,_,_,e2,_⟩:=G2.f i hi
  rw [e1,e2]; rfl
 ·have hi : i < l.length:=by rw [hy] at hi; omega
  obtain ⟨a1,m1,g1,e1,G1⟩:=G.f i hi
  obtain ⟨a2,m2,g2,e2,G3⟩:=G2.f i hi
  rw [e2] at hs
  rw [e1]
  match j,hs with
  | 0,hs=>exact ⟨_,rfl,by cases hs; exact LeO.refl _⟩
  | 1,hs=>exact ⟨_,rfl,by cases hs; exact LeO.refl _⟩
  | 2,hs=>exact ⟨_,rfl,by cases hs; exact LeO.refl _⟩
  | 3,hs=>exact ⟨_,rfl,by cases hs; exact LeO.refl _⟩
  | 4,hs =>
   refine ⟨_,rfl,?_⟩
   cases hs
   refine LeO.sl ?_ ?_ fun k hk=>?_
   ·show a1 = a2
    rw [G1.nl,G3.nl]
   ·show m1 = m2
    rw [G1.row.n,G3.row.n]
   ·have hk : (k : Int) < m1:=hk
    have hk : k < (l.getD i rqZ).fields.length:=by have:=G1.row.n; omega
    rw [G1.row.f k hk,G3.row.f k hk]
  | 5,hs=>exact ⟨_,rfl,by cases hs; exact LeO.refl _⟩
  | j + 6,hs=>simp [X0] at hs
def Hi : Nat→List UInt8→List Rq→List Rq×List UInt8×Int
 | 0,b,l=>(l,b,0)
 | m + 1,b,l=>if (Bp b).2.2 = 0 then Hi m (b.drop (Bp b).2.1.toNat) (l ++ [(Bp b).1]) else if (Bp b).2.2 = 10 then (l,b,0) else (l,[],(Bp b).2.2)
def Ahu (b : List UInt8) : List Rq×List UInt8×Int:=Hi (b.length + 1) b []
theorem Afk {b : List UInt8} {r : Rq} {p sz : Int} (hp : 1≤p) (hs : 0≤sz) (h : (Fx b r p sz).2.2 = 0) : 1≤(Fx b r p sz).2.1∧(Fx b r p sz).2.1≤b.length:=by
 unfold Fx at h ⊢
 split at h
 ·rename_i g; exact absurd h g
 rename_i g1
 split at h
 ·cases h
 rename_i g2
 split at h
 ·cases h
 rename_i g3
 rw [if_neg g1,if_neg g2,if_neg g3]
 exact ⟨by show 1≤p + sz; omega,by show p + sz≤_; omega⟩
theorem Afq (s : List UInt8) (hi : Int) (h0 : 0≤hi) : 0≤(Bi s hi).1:=(El s hi h0).1
theorem X3 {b : List UInt8} (h : (Ax b).2.2.2 = 0) : 1≤(Ax b).2.2.1:=by
 unfold Ax at h ⊢
 split at h
 ·cases h
 rename_i g1
 split at h
 ·cases h
 rename_i g2
 split at h
 ·cases h
 rename_i g3
 rw [if_neg g1,if_neg g2,if_neg g3]
 show 1≤((Ah 10 (b.take 1024)).1.length : Int) + 1
 omega
theorem Ow {b : List UInt8} (h : (Bp b).2.2 = 0) : 1≤(Bp b).2.1∧(Bp b).2.1≤b.length:=by
 unfold Bp at h ⊢
 split at h
 ·rename_i g; exact absurd h g
 rename_i g1
 split at h
 ·rename_i g; exact absurd h g
 rename_i g2
 rw [if_neg g1,if_neg g2]
 have h1:=X3 (b:=b) (by simpa using g1)
 have h2:=(O3 (b.drop (Ax b).2.2.1.toNat)).2.1
 unfold Mj at h ⊢
 split at h
 ·cases h
 rename_i g3
 rw [if_neg g3]
 unfold Mi at h ⊢
 split at h
 ·cases h
 rename_i g4
 split at h
 ·cases h
 rename_i g5
 rw [if_neg g4,if_neg g5]
 exact Afk (by omega) (Afq _ _ (by decide)) h
def Fit7 (r : Rq) : Prop:=∃ f n b,GrH f n b r.fields
theorem Sf : ∀ (m : Nat) (b : List UInt8) (l : List Rq),b.length≤1000000→(∀ r∈l,Fit7 r)→(∀ r∈(Hi m b l).1,Fit7 r)∧(Hi m b l).1.length≤l.length + b.length∧(Hi m b l).2.1.length≤b.length
 | 0,b,l,_,h=>⟨h,by show l.length≤_; omega,Nat.le_refl _⟩
 | m + 1,b,l,hb,h=>by
  unfold Hi
  split
  ·rename_i g
   have hp:=Ow g
   have ih:=Sf m (b.drop (Bp b).2.1.toNat) (l ++ [(Bp b).1]) (by rw [List.length_drop]; omega) (fun r hr=>by
    rcases List.mem_append.1 hr with hr | hr
    ·exact h r hr
    ·rw [List.mem_singleton.1 hr]; exact Ov b hb)
   refine ⟨ih.1,?_,?_⟩
   ·have:=ih.2.1
    rw [List.length_append,List.length_drop] at this
    simp only [List.length_cons,List.length_nil] at this
    omega
   ·have:=ih.2.2
    rw [List.length_drop] at this; omega
  ·split
   ·exact ⟨h,by show l.length≤_; omega,Nat.le_refl _⟩
   ·exact ⟨h,by show l.length≤_; omega,by simp⟩
def qRow (l : List Rq) (i : Nat) : List SV:=X0 (l.getD i rqZ) (l.getD i rqZ).fields.isEmpty ((l.getD i rqZ).fields.length : Int) (Tf (l.getD i rqZ).fields)
theorem GrH.row' {f : Nat→List SV} {n : Int} {b : Bool} {l : List HF} (G : GrH f n b l) : GrH (Tf l) l.length l.isEmpty l:=⟨A9.row G.row.len G.row.small,rfl⟩
theorem Ks.canon {l : List Rq} (h : ∀ r∈l,Fit7 r) (hl : l.length≤9223372036854775807) : Ks (qRow l) l.length l:=by
 refine ⟨rfl,fun i hi=>?_,hl⟩
 have hm : l.getD i rqZ∈l:=by rw [List.getD_eq_getElem?_getD,List.getElem?_eq_getElem hi]; exact List.getElem_mem hi
 obtain ⟨f,n,b,G⟩:=h _ hm
 exact ⟨_,_,_,rfl,G.row'⟩
end Go.Proofs.YtefelnhpfdcleaaGreatDoor
namespace Go.Proofs.YtefelnhpfdcleaaGreatDoor
open Go Go.Sx
set_option maxRecDepth 100000
set_option maxHeartbeats 4000000
theorem Aj7 : Ar Tryz.prog gl 128 (H7 Hq):=by
 refine A4 (gh:=[]) mixed A0 Ae Tryz.func128 (by kernel_rfl) (by kernel_rfl) ?_
 intro xs ls K h
 unfold H7 at h
 obtain ⟨c,rfl,rfl,h⟩:=h
 obtain ⟨k,hk⟩ : ∃ k,k = Hq c:=⟨_,rfl⟩
 refine ⟨_,_,h k hk,fun D hD=>?_⟩
 clear h
 cbv
 exact Aj hD hk.symm
theorem Uy : Ar Tryz.prog gl 100 (Q8 trimF):=by
 refine A4 (gh:=[]) mixed A0 (Aa Aj7 Ae) Tryz.func100 (by kernel_rfl) (by kernel_rfl) ?_
 intro xs ls K h
 unfold Q8 at h
 obtain ⟨s0,rfl,rfl,hl,h⟩:=h
 obtain ⟨k,hk⟩ : ∃ k,k = trimF s0:=⟨_,rfl⟩
 refine ⟨_,_,h k hk,fun D hD=>?_⟩
 clear h
 cbv
 obtain ⟨J,hJ⟩ : ∃ J,J = trJ trimF k:=⟨_,rfl⟩
 refine ⟨[0],J,⟨rfl,s0.length,?_⟩,?_⟩
 ·rw [hJ]
  subst hD
  exact ⟨s0,rfl,rfl,⟨rfl,hl⟩,hk⟩
 clear hk hl
 intro m vs hp' hv
 rw [hJ] at hv
 unfold trJ at hv
 obtain ⟨s,rfl,rfl,V,hk⟩:=hv
 cbv
 refine ⟨fun hg=>?_,fun c hc=>?_⟩
 ·subst hD
  have hg : decide (0 < (s.length : Int)) = true:=hg
  simp only [decide_eq_true_eq] at hg
  exact Ds (e:=.l 0) (i:=0) rfl (by omega)
 have hc2:=Co (e:=.l 0) (i:=0) hD rfl hc
 clear hc
 cbv
 refine ⟨_,rfl,rfl,fun q hq=>?_⟩
 have hq2 : q = Hq c:=by subst hD; exact hq
 clear hq
 cbv
 refine br hD (fun h=>?_) (fun h=>?_)<;>cbv
 ·have h : (decide (0 < (s.length : Int)) && q) = true:=h
  simp only [Bool.and_eq_true,decide_eq_true_eq] at h
  have h0 : 0 < s.length:=by have:=h.1; omega
  have hb : blankB (s.getD 0 0) = true:=by rw [blankB,hc2.of,←hq2]; exact h.2
  clear h
  refine ⟨by subst hD; exact Ee (i:=1) (j:=s.length) (a:=.l 1) (b:=.len s) rfl rfl (by omega) (by omega),fun r hr=>?_⟩
  have hr2 : r = s.drop 1:=by
   rw [Hn (i:=1) (j:=s.length) hD rfl rfl hr]
   exact List.take_of_length_le (by simp)
  clear hr
  cbv
  refine ⟨s.length - 1,by have:=V.m; omega,?_⟩
  rw [hJ]
  subst hD
  refine ⟨r,rfl,rfl,⟨by rw [hr2]; simp,by rw [hr2]; have:=V.len; simp; omega⟩,?_⟩
  rw [hk,trimF,drop1 h0,Ie hb,hr2]; rfl
 have h : (decide (0 < (s.length : Int)) && q) = false:=h
 have hk3 : k = Ge s:=by
  rw [hk,trimF,Ux]
  by_cases h0 : 0 < s.length
  ·right
   rw [←hc2.charI,←hq2]
   have e : decide (0 < (s.length : Int)) = true:=by simp only [decide_eq_true_eq]; omega
   rw [e] at h; simpa using h
  ·left; exact List.eq_nil_of_length_eq_zero (by omega)
 clear hk h hc2 hq2 hJ J
 obtain ⟨J,hJ⟩ : ∃ J,J = trJ Ge k:=⟨_,rfl⟩
 refine ⟨[0],J,⟨rfl,s.length,?_⟩,?_⟩
 ·rw [hJ]
  subst hD
  exact ⟨s,rfl,rfl,⟨rfl,V.len⟩,hk3⟩
 clear hk3 V
 intro m vs hp' hv
 rw [hJ] at hv
 unfold trJ at hv
 obtain ⟨s,rfl,rfl,V,hk⟩:=hv
 have hE : 0 < s.length→ST.den (.bin .sub .i64 (.len s) (.l 1)) = ((s.length - 1 : Nat) : Int):=by
  intro h0
  have:=V.len
  show IntKind.i64.wrap ((s.length : Int) - 1) = _
  rw [Am (by omega) (by omega)]; omega
 cbv
 refine ⟨fun hg=>?_,fun c hc=>?_⟩
 ·subst hD
  have hg : decide (0 < (s.length : Int)) = true:=hg
  simp only [decide_eq_true_eq] at hg
  exact Ds (i:=s.length - 1) (hE (by omega)) (by omega)
 by_cases h0 : 0 < s.length
 ·have hc2:=Co (i:=s.length - 1) hD (hE h0) hc
  clear hc
  cbv
  refine ⟨_,rfl,rfl,fun q hq=>?_⟩
  have hq2 : q = Hq c:=by subst hD; exact hq
  clear hq
  cbv
  refine br hD (fun h=>?_) (fun h=>?_)<;>cbv
  ·have h : (decide (0 < (s.length : Int)) && q) = true:=h
   simp only [Bool.and_eq_true,decide_eq_true_eq] at h
   have hb : blankB (s.getD (s.length - 1) 0) = true:=by rw [blankB,hc2.of,←hq2]; exact h.2
   clear h
   have hE2:=hE h0
   refine ⟨by subst hD; exact Ee (i:=0) (j:=s.length - 1) (a:=.l 0) rfl hE2 (by omega) (by omega),fun r hr=>?_⟩
   have hr2 : r = s.take (s.length - 1):=by
    rw [Hn (i:=0) (j:=s.length - 1) hD rfl hE2 hr]; rfl
   clear hr
   cbv
   refine ⟨s.length - 1,by have:=V.m; omega,?_⟩
   rw [hJ]
   subst hD
   refine ⟨r,rfl,rfl,⟨by rw [hr2]; simp,by rw [hr2]; have:=V.len; simp; omega⟩,?_⟩
   rw [hk,Yq h0,Uv hb,hr2]
  ·have h : (decide (0 < (s.length : Int)) && q) = false:=h
   refine Is ?_
   rw [hk,Uu]
   right
   rw [←hc2.charI,←hq2]
   have e : decide (0 < (s.length : Int)) = true:=by simp only [decide_eq_true_eq]; omega
   rw [e] at h; simpa using h
 ·have hs : s = []:=List.eq_nil_of_length_eq_zero (by omega)
  subst hs
  clear hc hE
  cbv
  refine ⟨_,rfl,rfl,fun q hq=>?_⟩
  cbv
  refine br hD (fun h=>?_) (fun h=>?_)<;>cbv
  ·have h : (decide ((0 : Int) < 0) && q) = true:=h
   simp at h
  ·refine Is ?_
   rw [hk]; rfl
def plJ (s : List UInt8) (k : Bool) (m : Nat) (vs : List (Option SV)) (hp : List Hl) : Prop :=
 ∃ (i : Nat) (I : Int),vs = [some (.str s),some (.int .i64 (.a I))]∧hp = []∧At s i I m∧k = D2 (s.drop i)
theorem okB_at (c : UInt8) : ((!((c.toNat : Int) == 9)) && (decide ((c.toNat : Int) < 32) || decide (126 < (c.toNat : Int)))) = !okB c:=by
 unfold okB
 rw [Bool.eq_iff_iff]
 simp only [Bool.and_eq_true,Bool.not_eq_true',Bool.or_eq_true,decide_eq_true_eq,beq_eq_false_iff_ne,ne_eq,Bool.or_eq_false_iff,decide_eq_false_iff_not,Bool.and_eq_false_iff]
 omega
theorem Mf : Ar Tryz.prog gl 99 (C5 D2):=by
 refine A4 (gh:=[]) mixed A0 Ae Tryz.func99 (by kernel_rfl) (by kernel_rfl) ?_
 intro xs ls K h
 unfold C5 at h
 obtain ⟨s,rfl,rfl,hs,h⟩:=h
 obtain ⟨k,hk⟩ : ∃ k,k = D2 s:=⟨_,rfl⟩
 refine ⟨_,_,h k hk,fun D hD=>?_⟩
 cbv
 clear h
 obtain ⟨J,hJ⟩ : ∃ J,J = plJ s k:=⟨_,rfl⟩
 refine ⟨[0,3],J,⟨rfl,s.length,?_⟩,?_⟩
 ·rw [hJ]
  subst hD
  exact ⟨0,0,rfl,rfl,At.zero hs,hk⟩
 intro m vs hp hv
 rw [hJ] at hv
 unfold plJ at hv
 obtain ⟨i,I,rfl,rfl,V,hk2⟩:=hv
 clear hk
 cbv
 refine br hD (fun h=>?_) (fun h=>?_)<;>cbv
 ·have hlt:=V.lt (of_decide_eq_true (p:=I < (s.length : Int)) h)
  clear h
  rw [Bf hlt] at hk2
  have hst:=V.step hD hlt
  refine ⟨V.inS hD hlt,fun b hb=>?_⟩
  cbv
  have hb2:=Cl hD V.I hb
  clear hb
  refine ⟨fun _=>V.inS hD hlt,fun b2 hb3=>?_⟩
  cbv
  have e2 : b2 = b:=by rw [(Cl hD V.I hb3).h,hb2.h]
  subst e2
  clear hb3
  refine ⟨fun _ _=>V.inS hD hlt,fun b3 hb3=>?_⟩
  cbv
  have e2 : b3 = b2:=by rw [(Cl hD V.I hb3).h,hb2.h]
  subst e2
  clear hb3
  have hok:=okB_at (s.getD i 0)
  rw [←hb2.h] at hok
  have hk3 : k = (okB (s.getD i 0) && D2 (s.drop (i + 1))):=hk2
  refine br hD (fun h=>?_) (fun h=>?_)<;>cbv
  ·have h : ((b3 != 9) && (decide (b3 < 32) || decide (126 < b3))) = true:=h
   have h : (!okB (s.getD i 0)) = true:=by rw [←hok]; exact h
   refine Aj hD ?_
   rw [hk3]
   have h : okB (s.getD i 0) = false:=by simpa only [Bool.not_eq_true'] using h
   rw [h]; rfl
  ·have h : ((b3 != 9) && (decide (b3 < 32) || decide (126 < b3))) = false:=h
   have h : (!okB (s.getD i 0)) = false:=by rw [←hok]; exact h
   have h : okB (s.getD i 0) = true:=by simpa only [Bool.not_eq_false'] using h
   refine ⟨_,hst.1,?_⟩
   rw [hJ]
   unfold plJ
   subst hD
   exact ⟨i + 1,_,rfl,rfl,hst.2,by rw [hk3,h,Bool.true_and]⟩
 have he:=V.eq (of_decide_eq_false (p:=I < (s.length : Int)) h)
 refine Aj hD ?_
 rw [hk2,List.drop_eq_nil_of_le (by omega)]; rfl
end Go.Proofs.YtefelnhpfdcleaaGreatDoor
