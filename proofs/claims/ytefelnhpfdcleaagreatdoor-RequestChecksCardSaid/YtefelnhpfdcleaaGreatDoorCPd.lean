/- Part of the proofs of the statements about requests (layer 7): a symbolic executor over the code, that it is sound, and contracts of functions; it has no conditions of its own. -/
import Derived.RangeFuncRecord
import Derived.ScopeJumps
import Derived.Below
import Derived.Test.YtefelnhpfdcleaaGreatDoorCPc
namespace Go.Sx
open Go
section
variable {P : Program} {cx : Cx}
theorem pack1_rel {E : Env} {w : World} {vs : List SV} {us : List Value} (h : RelL E w vs us) : Rel E w (pack1 vs) (if h : (⟨us⟩ : Array Value).size = 1 then (⟨us⟩ : Array Value)[0] else .tuple ⟨us⟩):=by
 match vs,us,h with
 | [],[],h=>exact .tup h.1 h.2
 | [v],[u],h=>exact h.2 0 v u rfl rfl
 | _ :: _ :: _,_ :: _ :: _,h =>
  rw [dif_neg (by simp)]
  exact .tup h.1 h.2
 | [],_ :: _,h=>exact absurd h.1 (by simp)
 | _ :: _,[],h=>exact absurd h.1 (by simp)
 | [_],_ :: _ :: _,h=>exact absurd h.1 (by simp)
 | _ :: _ :: _,[_],h=>exact absurd h.1 (by simp)
theorem uptoN_eq : ∀ n,uptoN n = List.range n
 | 0=>rfl
 | n + 1=>by rw [uptoN,uptoN_eq n,List.range_succ]
theorem eqNs_eq : ∀ {a b : List Nat},eqNs a b = true→a = b
 | [],[],_=>rfl
 | x :: l,y :: t,h=>by
  simp only [eqNs,Bool.and_eq_true,beq_iff_eq] at h
  rw [h.1,eqNs_eq h.2]
 | [],_ :: _,h=>by cases h
 | _ :: _,[],h=>by cases h
theorem endG_core (hc : CxOk P cx) {B : Bs} {N : Nat} {E' : Env} {a' : Act} {w' : World} {σ' : Sy} (hs' : StY B N E' a' w' σ') {m : Nat} (hdom : ∀ h,B.β0 h≠none∨B.τ0 h≠none∨B.ζ0 h≠none→h < m) {vs : List SV} {us : List Value} (u2 : RelL E' w' vs us) {r : SV} {ls' : List Hl} (hk : endG cx m vs σ' fun r' ls''=>Fin r' r ls'' ls') :
  ∃ E2,Base B E2 w'∧(∀ h,h < ls'.length→HOk E2 w' h (hfOf ls' h))∧Rel E2 w' r (if h : (⟨us⟩ : Array Value).size = 1 then (⟨us⟩ : Array Value)[0] else .tuple ⟨us⟩):=by
  have hbase:=hs'.st.base
  unfold endG at hk
  rw [hc.D] at hk
  obtain ⟨r0,hr0⟩ : ∃ x,x = loose (norm dn (pack1 vs)):=⟨_,rfl⟩
  simp only [←hr0] at hk
  obtain ⟨hs,hhs⟩ : ∃ x,x = reach σ'.hp σ'.hp (addNew (uptoN m) (hsV r0)):=⟨_,rfl⟩
  simp only [←hhs] at hk
  obtain ⟨ls,hls⟩ : ∃ x,x = getG dn σ'.hp hs:=⟨_,rfl⟩
  simp only [←hls] at hk
  split at hk
  ·rename_i hcond
   simp only [Bool.and_eq_true] at hcond
   obtain ⟨⟨⟨⟨⟨c1,c2⟩,c3⟩,c4⟩,c5⟩,c6⟩:=hcond
   have n1:=(nodupN_iff _).1 c1
   have c2:=eqNs_eq c2
   rw [takeN_eq,uptoN_eq] at c2
   have c3:=(allIn_iff _ _).1 c3
   have c6:=(closedG_iff _ _).1 c6
   obtain ⟨k1,k2,k3⟩:=hk
   have hfirst : ∀ k,k < m→hs[k]? = some k:=by
    intro k hk
    have : (hs.take m)[k]? = some k:=by rw [c2,List.getElem?_range hk]
    rwa [List.getElem?_take,if_pos hk] at this
   let E2 : Env:=⟨fun i=>(hs[i]?).bind E'.β,fun i=>(hs[i]?).bind E'.τ,fun b=>(E'.O b).bind fun h=>hs.idxOf? h,fun _=>none,fun i=>(hs[i]?).bind E'.ζ,E'.I⟩
   have hbase2 : Base B E2 w':=by
    refine ⟨hbase.os,hbase.tape,hbase.output,hbase.size,hbase.old,hbase.I0,hbase.Ibd,hbase.Inew,fun b j hO=>?_,⟨fun k b hk=>?_,fun k v hk=>?_,fun k z hk=>?_⟩⟩
    ·have hO : (E'.O b).bind (fun h=>hs.idxOf? h) = some j:=hO
     cases hEO : E'.O b with
     | none=>rw [hEO] at hO; cases hO
     | some q=>exact hbase.Obd b q hEO
    ·show (hs[k]?).bind E'.β = some b
     rw [hfirst k (hdom k (.inl (by rw [hk]; simp)))]; exact hbase.β0.β k b hk
    ·show TauLe v ((hs[k]?).bind E'.τ)
     rw [hfirst k (hdom k (.inr (.inl (by rw [hk]; simp))))]; exact hbase.β0.τ k v hk
    ·show (hs[k]?).bind E'.ζ = some z
     rw [hfirst k (hdom k (.inr (.inr (by rw [hk]; simp))))]; exact hbase.β0.ζ k z hk
   have hsame : ∀ k∈hs,Same1 E' k E2 (ixOf hs k):=by
    intro k hk
    obtain ⟨i,hi⟩:=List.mem_iff_getElem?.1 hk
    rw [ixOf_get n1 hi]
    exact ⟨by show (hs[i]?).bind E'.β = _; rw [hi]; rfl,by show (hs[i]?).bind E'.τ = _; rw [hi]; rfl,by show (hs[i]?).bind E'.ζ = _; rw [hi]; rfl⟩
   have hidx : ∀ (i k : Nat),hs[i]? = some k→hs.idxOf? k = some i:=by
    intro i k hk
    rw [List.idxOf?_eq_some_iff]
    obtain ⟨hlt,he⟩:=List.getElem?_eq_some_iff.1 hk
    refine ⟨hlt,by simp [he],fun j hj=>?_⟩
    have hne : hs[j]≠hs[i]:=List.pairwise_iff_getElem.1 n1 j i (by omega) hlt hj
    rw [←he]; simpa using hne
   have n2 : ls.length = hs.length:=by rw [hls,getG_eq,List.length_map]
   refine ⟨E2,hbase2,fun h hlt=>?_,?_⟩
   ·refine k2 h E2 w' ?_
    rw [mapH_eq] at k3 ⊢
    rw [List.length_map,n2] at k3
    have hlt2 : h < hs.length:=by omega
    have hmem : hs[h]∈hs:=List.getElem_mem hlt2
    have hl : ls[h]? = some ls[h]:=List.getElem?_eq_getElem (by omega)
    have hhf : hfOf (ls.map (rnH (ixOf hs))) h = rnH (ixOf hs) ls[h]:=by
     simp only [hfOf,nth_eq]; rw [List.getElem?_map,hl]; rfl
    rw [hhf]
    obtain ⟨d1,d2⟩:=c6 ls[h] (List.getElem_mem _)
    have hk:=hs'.st.heap hs[h]
    have hnl : HOk E' w' hs[h] ls[h]:=by
     have hl2:=hl
     conv at hl2=>lhs; rw [hls,getG_eq,List.getElem?_map,List.getElem?_eq_getElem hlt2]
     simp only [Option.map_some,Option.some.injEq] at hl2
     rw [←hl2]
     cases hn : nth σ'.hp hs[h] with
     | none=>trivial
     | some l0=>rw [nth_hf hn] at hk; exact hk.normG
    have hs1:=hsame _ hmem
    rw [ixOf_get n1 (List.getElem?_eq_getElem hlt2)] at hs1
    refine hnl.rn (ixOf hs) d1 rfl hs1 (fun b hb=>?_) fun j hj=>hsame j (d2 j hj)
    show (E'.O b).bind (fun h=>hs.idxOf? h) = some h
    rw [hb]
    exact hidx h _ (List.getElem?_eq_getElem hlt2)
   ·have hr1:=(pack1_rel u2).norm.loose
    rw [←hr0] at hr1
    exact k1 E2 w' _ (hr1.rn (ixOf hs) rfl c4 fun k hk=>hsame k (c3 k hk))
  ·exact hk.elim
structure MarkOk (B : Bs) : Prop where
 nodup : B.dl.Nodup
 lie : ∀ r∈B.dl,r < B.w0.heap.size∧¬ B.X r∧B.w0.heap[r]? = some (.deferred (some []))
structure Reb (B B1 : Bs) : Prop where
 os : B1.w0.os = B.w0.os
 tape : B1.w0.tape = B.w0.tape
 output : B1.w0.output = B.w0.output
 size : B.w0.heap.size≤B1.w0.heap.size
 old : ∀ b,b < B.w0.heap.size→¬ B.X b→¬ B1.X b∧B1.w0.heap[b]? = B.w0.heap[b]?
 I0 : ∀ b o,B.I0 b o→B1.I0 b o∧B1.w0.cell? ⟨b,o,none⟩ = B.w0.cell? ⟨b,o,none⟩
 Inew : ∀ b o,B1.I0 b o→B.I0 b o∨B.w0.heap.size≤b∨B.X b
 X : ∀ b,B1.X b→B.w0.heap.size≤b∨B.X b
 β0 : B1.β0 = B.β0
 τ0 : B1.τ0 = B.τ0
 ζ0 : B1.ζ0 = B.ζ0
 marks : MarkOk B→MarkOk B1
 new : ∀ r∈B1.dl,r∈B.dl∨B.w0.heap.size≤r
theorem Reb.refl (B : Bs) : Reb B B:=⟨rfl,rfl,rfl,Nat.le_refl _,fun _ _ h=>⟨h,rfl⟩,fun _ _ h=>⟨h,rfl⟩,fun _ _ h=>.inl h,fun _ h=>.inr h,rfl,rfl,rfl,id,fun _ h=>.inl h⟩
theorem Reb.trans {A B C : Bs} (h1 : Reb A B) (h2 : Reb B C) : Reb A C where
 os:=h2.os.trans h1.os
 tape:=h2.tape.trans h1.tape
 output:=h2.output.trans h1.output
 size:=Nat.le_trans h1.size h2.size
 old:=fun b hlt hX=>by
  obtain ⟨p1,p2⟩:=h1.old b hlt hX
  obtain ⟨q1,q2⟩:=h2.old b (Nat.lt_of_lt_of_le hlt h1.size) p1
  exact ⟨q1,q2.trans p2⟩
 I0:=fun b o hi=>by
  obtain ⟨p1,p2⟩:=h1.I0 b o hi
  obtain ⟨q1,q2⟩:=h2.I0 b o p1
  exact ⟨q1,q2.trans p2⟩
 Inew:=fun b o hi=>by
  rcases h2.Inew b o hi with h | h | h
  ·exact h1.Inew b o h
  ·exact .inr (.inl (Nat.le_trans h1.size h))
  ·exact .inr (h1.X b h)
 X:=fun b hX=>by
  rcases h2.X b hX with h | h
  ·exact .inl (Nat.le_trans h1.size h)
  ·exact h1.X b h
 β0:=h2.β0.trans h1.β0
 τ0:=h2.τ0.trans h1.τ0
 ζ0:=h2.ζ0.trans h1.ζ0
 marks:=fun h=>h2.marks (h1.marks h)
 new:=fun r hr=>by
  rcases h2.new r hr with h | h
  ·exact h1.new r h
  ·exact .inr (Nat.le_trans h1.size h)
theorem Reb.since {B B1 : Bs} {E : Env} (h : Reb B B1) (hs : Since B1 E) : Since B E :=
 ⟨fun k b hk=>hs.β k b (by rw [h.β0]; exact hk),fun k v hk=>hs.τ k v (by rw [h.τ0]; exact hk),fun k n hk=>hs.ζ k n (by rw [h.ζ0]; exact hk)⟩
theorem Reb.base {B B1 : Bs} {E : Env} {w : World} (h : Reb B B1) (hb : Base B1 E w) : Base B E w where
 os:=hb.os.trans h.os
 tape:=hb.tape.trans h.tape
 output:=hb.output.trans h.output
 size:=Nat.le_trans h.size hb.size
 old:=fun b hlt hX=>by
  obtain ⟨p1,p2⟩:=h.old b hlt hX
  exact (hb.old b (Nat.lt_of_lt_of_le hlt h.size) p1).trans p2
 I0:=fun b o hi=>by
  obtain ⟨p1,p2⟩:=h.I0 b o hi
  obtain ⟨q1,q2⟩:=hb.I0 b o p1
  exact ⟨q1,q2.trans p2⟩
 Ibd:=hb.Ibd
 Inew:=fun b o hi=>by
  rcases hb.Inew b o hi with q | q | q
  ·exact h.Inew b o q
  ·exact .inr (.inl (Nat.le_trans h.size q))
  ·exact .inr (h.X b q)
 Obd:=fun b k hO=>by
  obtain ⟨q1,q2⟩:=hb.Obd b k hO
  refine ⟨q1,?_⟩
  rcases q2 with q | q
  ·exact .inl (Nat.le_trans h.size q)
  ·exact h.X b q
 β0:=h.since hb.β0
theorem Reb.gl {B B1 : Bs} {gl : List (Nat×SV)} (h : Reb B B1) (hg : glOk B gl) : glOk B1 gl:=fun g s hl=>by
 obtain ⟨g1,g2,g3,g4⟩:=hg g s hl
 obtain ⟨p1,p2⟩:=h.old g g2 g3
 exact ⟨g1.mono (fun b o hi=>(h.I0 b o hi).1) (fun b o hi=>(h.I0 b o hi).2),Nat.lt_of_lt_of_le g2 h.size,p1,g4.same p2⟩
theorem Reb.dom {B B1 : Bs} (h : Reb B B1) {m : Nat} (hd : ∀ h,B.β0 h≠none∨B.τ0 h≠none∨B.ζ0 h≠none→h < m) : ∀ h,B1.β0 h≠none∨B1.τ0 h≠none∨B1.ζ0 h≠none→h < m:=by
 rw [h.β0,h.τ0,h.ζ0]; exact hd
def exQ (B : Bs) (N : Nat) (K : Ex→Sy→Prop) (e : Exit) (a : Act) (w : World) : Prop:=∃ B1 E σ,Reb B B1∧StY B1 N E a w σ∧exK K σ e
theorem hfOf_setN {hp : List Hl} {h : Nat} {l : Hl} (hlt : h < hp.length) : hfOf (setN hp h l) = upd (hfOf hp) h l:=by
 have:=hfOf_putH (hp:=hp) (h:=h) (hl:=l) (Nat.le_of_lt hlt)
 unfold putH at this
 rw [if_neg (by rw [lenN_eq]; simp; omega)] at this
 exact this
theorem hfOf_snoc {hp : List Hl} {l : Hl} : hfOf (hp ++ [l]) = upd (hfOf hp) hp.length l:=by
 have:=hfOf_putH (hp:=hp) (h:=hp.length) (hl:=l) (Nat.le_refl _)
 unfold putH at this
 rw [if_pos (by rw [lenN_eq]; simp)] at this
 exact this
theorem nth_lt {α : Type} {l : List α} {i : Nat} {x : α} (h : nth l i = some x) : i < l.length:=by
 rw [nth_eq] at h
 exact (List.getElem?_eq_some_iff.1 h).1
theorem StY.setObj {B : Bs} {N : Nat} {E : Env} {a : Act} {w : World} {σ : Sy} (hs : StY B N E a w σ) {h b : Nat} (hlt : h < σ.hp.length) (hO : E.O b = some h) (hI : ∀ o,¬ E.I b o) (o' : Obj) (l : Hl)
  (hl : HOk E (w.putObj b o') h l) : StY B N E a (w.putObj b o') ⟨σ.fr,setN σ.hp h l,σ.gm⟩:=by
 obtain ⟨x1,x2,x3⟩:=set_obj hs.st hO hI o' l hl
 refine ⟨?_,hs.len,⟨hs.wf.tg,hs.wf.gt,hs.wf.gf⟩,fun k hk=>?_⟩
 ·have:=hs.st.step x1 x2 x3
  rw [←hfOf_setN hlt] at this
  exact this
 ·show k < (setN σ.hp h l).length
  rw [setN_eq,List.length_set]; exact hs.ge k hk
theorem Since.comp {B : Bs} {E E' : Env} {w : World} {X : Nat→Prop} {I0 : Nat→Nat→Prop} {dl : List Nat} (h : Since B E) (h' : Since ⟨w,X,I0,E.β,E.τ,E.ζ,dl⟩ E') : Since B E':=by
 refine ⟨fun k b hk=>h'.β k b (h.β k b hk),fun k v hk=>?_,fun k n hk=>h'.ζ k n (h.ζ k n hk)⟩
 have h1:=h.τ k v hk
 cases he : E.τ k with
 | none=>rw [he] at h1; rcases h1 with h1 | ⟨_,_,_,_,_,_,_,h1,_⟩<;>cases h1
 | some u =>
  rw [he] at h1
  exact h1.trans (h'.τ k u he)
theorem setPs_len : ∀ {ps : List Tmp} {vs : List SV} {fr fr' : List (Option G)},setPs ps vs fr = some fr'→vs.length = ps.length∧fr'.length = fr.length
 | [],[],fr,fr',h=>by simp [setPs] at h; subst h; exact ⟨rfl,rfl⟩
 | p :: ps,v :: vs,fr,fr',h=>by
  obtain ⟨h1,h2⟩:=setPs_len (ps:=ps) (vs:=vs) (by simpa [setPs] using h)
  exact ⟨by simp [h1],by rw [h2,setN_eq,List.length_set]⟩
 | [],_ :: _,_,_,h=>by simp [setPs] at h
 | _ :: _,[],_,_,h=>by simp [setPs] at h
structure FrOk (E : Env) (w : World) (N : Nat) (fr : List (Option G)) (tmps : Array Value) : Prop where
 len : fr.length = N
 size : tmps.size = N
 lie : ∀ s g,getO fr s = some g→g.tg = []∧g.gt = none∧g.gf = none∧s < N∧Rel E w g.v (tmps.getD s undef)
theorem FrOk.sets {E : Env} {w : World} {N : Nat} : ∀ (ps : List Tmp) (vs : List SV) (us : List Value) (fr fr' : List (Option G)) (tmps : Array Value),FrOk E w N fr tmps→setPs ps vs fr = some fr'→RelL E w vs us→
  FrOk E w N fr' ((ps.zip us).foldl (fun tmps (x : Tmp×Value)=>tmps.setIfInBounds x.1 x.2) tmps)
 | [],[],us,fr,fr',tmps,h,hs,_=>by simp [setPs] at hs; subst hs; simpa using h
 | p :: ps,v :: vs,[],_,_,_,_,_,hr=>absurd hr.1 (by simp)
 | p :: ps,v :: vs,u :: us,fr,fr',tmps,h,hs,hr=>by
  have htl : RelL E w vs us:=⟨by have:=hr.1; simpa using this,fun i s v a b=>hr.2 (i + 1) s v a b⟩
  have hhd:=hr.2 0 v u rfl rfl
  simp only [List.zip_cons_cons,List.foldl_cons]
  refine FrOk.sets ps vs us _ fr' _ ?_ (by simpa [setPs] using hs) htl
  refine ⟨by rw [setN_eq,List.length_set]; exact h.len,by simp [h.size],fun s g hg=>?_⟩
  rw [getO_set] at hg
  split at hg
  ·rename_i e
   obtain ⟨rfl,e2⟩:=e
   cases hg
   rw [h.len] at e2
   refine ⟨rfl,rfl,rfl,e2,?_⟩
   rw [Array.getD_eq_getD_getElem?,Array.getElem?_setIfInBounds_self_of_lt (by rw [h.size]; exact e2)]
   exact hhd
  ·rename_i e
   obtain ⟨q1,q2,q3,q4,q5⟩:=h.lie s g hg
   refine ⟨q1,q2,q3,q4,?_⟩
   have e2 : p≠s:=fun e2=>e ⟨e2.symm,by rw [h.len,e2]; exact q4⟩
   rw [Array.getD_eq_getD_getElem?,Array.getElem?_setIfInBounds_ne e2,←Array.getD_eq_getD_getElem?]
   exact q5
 | [],_ :: _,_,_,_,_,_,hs,_=>by simp [setPs] at hs
 | _ :: _,[],_,_,_,_,_,hs,_=>by simp [setPs] at hs
theorem getO_repl (N s : Nat) : getO (List.replicate N (none : Option G)) s = none:=by
 rw [getO_eq,List.getElem?_replicate]
 split<;>rfl
theorem stOf_ready {x : LoopState} (h : stOf x = 0) : x = .ready:=by cases x<;>simp [stOf] at h ⊢
theorem stOf_busy {x : LoopState} (h : stOf x≠1) : x≠.busy:=by rintro rfl; exact h rfl
def roundX (cx : Cx) (c : LC) (ps : Array Tmp) (assign bd : Code) (N : Nat) (Y : FSpec) : Prop :=
 ∀ xs ls K',Y cx.D xs ls K'→(∃ fr,ls.head? = some (.lrec c fr 0 none))∧∃ r ls',K' r ls'∧match round0 c ps N xs ls with
  | some fr0=>exec cx assign ⟨fr0,ls,[]⟩ fun e σ1=>match e,nth σ1.hp 0 with
   | .normal,some (.lrec c1 fr1 0 none)=>exec cx bd ⟨σ1.fr,setN σ1.hp 0 (.lrec c1 fr1 1 none),σ1.gm⟩ (roundE cx (lenN ls) fun r' ls''=>Fin r' r ls'' ls')
   | _,_=>False
  | none=>False
def SoundIn (P : Program) (cx : Cx) (N : Nat) (x : Code) : Prop:=∀ (l nn : Nat) (σ : Sy) (K : Ex→Sy→Prop),exec cx x σ K→∀ (B : Bs),glOk B cx.gl→∀ (E : Env) (a : Act) (w : World),StY B N E a w σ→x.wpIn (Fr (some l)) nn P (exQ B N K) a w
theorem yok_of_round (hc : CxOk P cx) {N : Nat} {c : LC} {ps : Array Tmp} {assign bd : Code} (hl : IsLC c ps assign bd N) {Y : FSpec} (sa : SoundIn P cx N assign) (sb : SoundIn P cx N bd) (h : roundX cx c ps assign bd N Y) : YOk P cx.gl Y:=by
 intro as ls K hY
 rw [←hc.D] at hY
 obtain ⟨⟨fr,hfr⟩,r,ls',hK,hx⟩:=h as ls K hY
 refine ⟨r,ls',hK,?_⟩
 intro B E w vals hw0 hI0 hdom hb hg hh hr
 obtain ⟨rest,rfl⟩ : ∃ rest,ls = .lrec c fr 0 none :: rest:=by
  cases ls with
  | nil=>simp at hfr
  | cons x rest=>simp at hfr; subst hfr; exact ⟨rest,rfl⟩
 split at hx
 ·rename_i fr0 h0
  obtain ⟨vs,rfl,hset⟩ : ∃ vs,as = .yv 0 :: vs∧setPs ps.toList vs (mkfr fr (List.replicate N none)) = some fr0:=by
   unfold round0 at h0
   split at h0
   ·rename_i vs _ _ _ e
    simp only [List.cons.injEq,Hl.lrec.injEq,and_true] at e
    obtain ⟨⟨rfl,rfl⟩,rfl⟩:=e
    exact ⟨vs,rfl,h0⟩
   ·cases h0
  obtain ⟨u,us,rfl,hu,hus⟩ : ∃ u us,vals = u :: us∧Rel E w (.yv 0) u∧RelL E w vs us:=by
   cases vals with
   | nil=>exact absurd hr.1 (by simp)
   | cons u us=>exact ⟨u,us,rfl,hr.2 0 _ u rfl rfl,⟨by have:=hr.1; simpa using this,fun i s v a b=>hr.2 (i + 1) s v a b⟩⟩
  obtain ⟨b,hβ,rfl⟩:=hu.yv_inv
  have h00:=hh 0
  obtain ⟨b',rr,k1,k2,k3,k4,k5,k6⟩:=h00
  rw [hβ] at k1
  cases k1
  obtain ⟨p1,p2⟩:=setPs_len hset
  have hps : rr.params.toList = ps.toList:=by rw [k4.ps,hl.ps]
  have hsz : us.length = rr.params.size:=by
   rw [←Array.length_toList,hps,←p1]; exact hus.1.symm
  refine ⟨b,us,rr,rfl,k3,hsz,fun ro nn=>?_⟩
  rw [show rr.assign = assign by rw [k4.assign,hl.assign],show rr.body = bd by rw [k4.body,hl.body]]
  have hdomE : ∀ h,E.β h≠none∨E.τ h≠none∨E.ζ h≠none→h < (Hl.lrec c fr 0 none :: rest).length:=by
   intro h hne
   rcases Nat.lt_or_ge h (Hl.lrec c fr 0 none :: rest).length with hlt | hge
   ·exact hlt
   ·have hk:=hh h
    rw [show hfOf (Hl.lrec c fr 0 none :: rest) h = .fresh by simp only [hfOf,nth_eq,List.getElem?_eq_none hge,Option.getD_none]] at hk
    obtain ⟨q1,q2,q3,q4⟩:=hk
    rcases hne with hne | hne | hne
    ·exact absurd q1 hne
    ·exact absurd q2 hne
    ·exact absurd q4 hne
  subst hw0
  let B' : Bs:=⟨B.w0,B.X,B.I0,E.β,E.τ,E.ζ,[]⟩
  have hb' : Base B' E B.w0:=⟨hb.os,hb.tape,hb.output,hb.size,hb.old,hb.I0,hb.Ibd,hb.Inew,hb.Obd,⟨fun _ _ h=>h,fun _ _ h=>.inl h,fun _ _ h=>h⟩⟩
  have hg' : glOk B' cx.gl:=hg
  have hbackB : ∀ {E2 : Env} {w2 : World},Base B' E2 w2→Base B E2 w2:=fun {E2 w2} h2=>⟨h2.os,h2.tape,h2.output,h2.size,h2.old,h2.I0,h2.Ibd,h2.Inew,h2.Obd,hb.β0.comp h2.β0⟩
  have hfrok : FrOk E B.w0 N fr0 ((rr.params.zip (⟨us⟩ : Array Value)).foldl (fun tmps (t,a)=>tmps.setIfInBounds t a) rr.tmps):=by
   have h1 : FrOk E B.w0 N (mkfr fr (List.replicate N none)) rr.tmps:=by
    refine ⟨by rw [len_mkfr]; simp,by rw [k4.n,hl.n],fun s g hs=>?_⟩
    obtain ⟨g1,g2,g3,v,g4,g5⟩:=getO_mkfr _ _ s g (getO_repl N) hs
    obtain ⟨q1,q2⟩:=k5 s v g4
    exact ⟨g1,g2,g3,by rw [←hl.n]; exact q1,by rw [g5]; exact q2⟩
   have h2:=h1.sets ps.toList vs us _ fr0 _ hset hus
   have e : (rr.params.zip (⟨us⟩ : Array Value)).foldl (fun tmps (t,a)=>tmps.setIfInBounds t a) rr.tmps = (ps.toList.zip us).foldl (fun tmps (x : Tmp×Value)=>tmps.setIfInBounds x.1 x.2) rr.tmps:=by
    rw [←Array.foldl_toList,Array.toList_zip,hps]
   rw [e]; exact h2
  generalize (rr.params.zip (⟨us⟩ : Array Value)).foldl (fun tmps (t,a)=>tmps.setIfInBounds t a) rr.tmps = tmps' at hfrok ⊢
  have sty : StY B' N E { tmps:=tmps',defers:=[] } B.w0 ⟨fr0,.lrec c fr 0 none :: rest,[]⟩:=by
   refine ⟨⟨hb',hh,fun s=>?_,hfrok.size,rfl⟩,hfrok.len,⟨fun s g hs i hi=>?_,fun s g i hs hi=>?_,fun s g i hs hi=>?_⟩,hdomE⟩
   ·simp only [ffOf]
    cases hs : getO fr0 s with
    | none=>trivial
    | some g =>
     obtain ⟨q1,q2,q3,q4,q5⟩:=hfrok.lie s g hs
     simp only [Option.map_some,SlotOk,q1,condsOf,List.filterMap_nil,allT]
     exact ⟨by rw [hfrok.size]; exact q4,fun _=>q5,fun h=>absurd trivial h⟩
   ·rw [(hfrok.lie s g hs).1] at hi; cases hi
   ·rw [(hfrok.lie s g hs).2.1] at hi; cases hi
   ·rw [(hfrok.lie s g hs).2.2.1] at hi; cases hi
  refine roundIn_of_wpIn trivial ?_
  refine wpIn_mono (sa b nn _ _ hx B' hg' E _ B.w0 sty) ?_
  rintro e a1 w1 ⟨B1,E1,σ1,hR1,hs1,hk1⟩
  have hβ1 : E1.β 0 = some b:=(hR1.since hs1.st.base.β0).β 0 b hβ
  cases e with
  | normal =>
   have hk1 : match nth σ1.hp 0 with
    | some (.lrec c1 fr1 0 none)=>exec cx bd ⟨σ1.fr,setN σ1.hp 0 (.lrec c1 fr1 1 none),σ1.gm⟩ (roundE cx (lenN (Hl.lrec c fr 0 none :: rest)) fun r' ls''=>Fin r' r ls'' ls')
    | _=>False:=by
    simp only [exK] at hk1
    split at hk1
    ·rename_i c1 fr1 _ hn1
     simp only [hn1]; exact hk1
    ·exact hk1.elim
   split at hk1
   ·rename_i c1 fr1 hn1
    have hh1:=hs1.st.heap 0
    rw [nth_hf hn1] at hh1
    obtain ⟨b1,r1,j1,j2,j3,j4,j5,j6⟩:=hh1
    rw [hβ1] at j1
    cases j1
    refine ⟨_,run_beginRound j3 (stOf_ready j4.st),?_⟩
    have hbl:=owned_lt hs1.st.base j2
    have sty2:=hs1.setObj (nth_lt hn1) j2 j6 (.loop { r1 with state:=.busy }) (.lrec c1 fr1 1 none) (by
     obtain ⟨x1,_,_⟩:=set_obj hs1.st j2 j6 (.loop { r1 with state:=.busy }) .gone trivial
     exact ⟨b,_,hβ1,j2,World.putObj_heap_same hbl,⟨j4.fn,j4.ps,j4.assign,j4.body,j4.n,rfl,j4.pd⟩,fun s v hm=>⟨(j5 s v hm).1,(j5 s v hm).2.mono x1⟩,j6⟩)
    refine wpIn_mono (sb b nn _ _ hk1 B1 (hR1.gl hg') E1 a1 _ sty2) ?_
    rintro e a3 w3 ⟨B3,E3,σ3,hR3,hs3,hk3⟩
    have hβ3 : E3.β 0 = some b:=(hR1.since (hR3.since hs3.st.base.β0)).β 0 b hβ
    have hdom3:=(hR1.trans hR3).dom (m:=lenN (Hl.lrec c fr 0 none :: rest)) (by rw [lenN_eq]; exact hdomE)
    have key : ∀ (x : Ex) (jump : Option Code),(jpOf x).2.1.map Jp.code = jump→(jpOf x).2.2 = jump.isNone→(jpOf x).1 = (if jump.isNone then 0 else 2)→roundE cx (lenN (Hl.lrec c fr 0 none :: rest)) (fun r' ls''=>Fin r' r ls'' ls') x σ3→
      ∃ v w',(Instr.endRound b jump).run P w3 = .ok v w'∧∃ v_1 E',Ending.returned v = .returned v_1∧Base B E' w'∧(∀ h,h < ls'.length→HOk E' w' h (hfOf ls' h))∧Rel E' w' r v_1:=by
     intro x jump e1 e2 e3 hx3
     unfold roundE at hx3
     split at hx3
     ·rename_i c3 fr3 st pd bb hn3 hj
      rw [hj] at e1 e2 e3
      simp only at e1 e2 e3
      have hh3:=hs3.st.heap 0
      rw [nth_hf hn3] at hh3
      obtain ⟨b3,r3,i1,i2,i3,i4,i5,i6⟩:=hh3
      rw [hβ3] at i1
      cases i1
      have hbl3:=owned_lt hs3.st.base i2
      have sty4:=hs3.setObj (nth_lt hn3) i2 i6 (.loop { r3 with state:=if jump.isNone then .ready else .done,pending:=jump }) (.lrec c3 fr3 st pd) (by
       obtain ⟨x1,_,_⟩:=set_obj hs3.st i2 i6 (.loop { r3 with state:=if jump.isNone then .ready else .done,pending:=jump }) .gone trivial
       refine ⟨b,_,hβ3,i2,World.putObj_heap_same hbl3,⟨i4.fn,i4.ps,i4.assign,i4.body,i4.n,?_,e1.symm⟩,fun s v hm=>⟨(i5 s v hm).1,(i5 s v hm).2.mono x1⟩,i6⟩
       rw [e3]
       show stOf (if jump.isNone then .ready else .done) = _
       cases jump.isNone<;>rfl)
      obtain ⟨E5,q1,q2,q3⟩:=endG_core hc sty4 hdom3 (vs:=[.bool (.l bb)]) (us:=[.bool jump.isNone]) (.cons (.ro (.bool (by rw [←e2]; rfl))) .nil) hx3
      exact ⟨_,_,run_endRound jump i3,_,E5,rfl,hbackB ((hR1.trans hR3).base q1),q2,q3⟩
     ·exact hx3.elim
    cases e with
    | normal=>exact key .normal none rfl rfl rfl hk3
    | ret=>exact key .ret (some .ret) rfl rfl rfl hk3
    | exit i=>exact key (.exit i) (some (.exit i)) rfl rfl rfl hk3
    | goto i=>exact key (.goto i) (some (.goto i)) rfl rfl rfl hk3
    | panic _=>exact hk3.elim
    | outgrown=>exact hk3.elim
   ·exact hk1.elim
  | ret=>simp only [exK] at hk1
  | exit i=>simp only [exK] at hk1
  | goto i=>simp only [exK] at hk1
  | panic _=>exact hk1.elim
  | outgrown=>exact hk1.elim
 ·exact hx.elim
theorem look_mem {α : Type} : ∀ {l : List (Nat×α)} {k : Nat} {x : α},look k l = some x→(k,x)∈l
 | [],_,_,h=>by simp [look] at h
 | (j,y) :: l,k,x,h=>by
  simp only [look] at h
  split at h
  ·rename_i e
   have e : j = k:=by simpa using e
   subst e
   cases h
   exact List.mem_cons_self ..
  ·exact List.mem_cons_of_mem _ (look_mem h)
theorem alloc_raw {B : Bs} {N : Nat} {E : Env} {a : Act} {w : World} {ff : Nat→SG} {hf : Nat→Hl} (st : St B N E a w ff hf) (o' : Obj) : St B N E a (w.alloc o') ff hf:=by
 have hb:=st.base
 have hx : Ext E w E (w.alloc o'):=⟨fun _ _ h=>h,fun _ _ h=>.inl h,fun _ _ h=>h,fun _ _ h=>h,fun _ _ h=>h,fun b o hi=>cell_alloc_old (hb.Ibd b o hi)⟩
 refine st.step hx ⟨hb.os,hb.tape,hb.output,?_,?_,?_,?_,hb.Inew,?_,hb.β0⟩ fun k=>?_
 ·have:=hb.size; simp; omega
 ·intro b hlt hX; rw [heap_alloc_ne (by have:=hb.size; omega)]; exact hb.old b hlt hX
 ·intro b o hi
  obtain ⟨i1,i2⟩:=hb.I0 b o hi
  exact ⟨i1,by rw [cell_alloc_old (hb.Ibd b o i1)]; exact i2⟩
 ·intro b o hi; have:=hb.Ibd b o hi; simp; omega
 ·intro b k hO
  obtain ⟨o1,o2⟩:=hb.Obd b k hO; simp; exact ⟨by omega,o2⟩
 ·refine HOk.keep hx (st.heap k) rfl rfl rfl rfl fun b hO=>?_
  exact ⟨hO,heap_alloc_ne (owned_lt hb hO),fun _ h=>h⟩
theorem keep_rel {N : Nat} {B : Bs} {E : Env} {a : Act} {w : World} {σ : Sy} (hs : StY B N E a w σ) {n : Nat} {keep : List Nat} {s : Nat} {v : SV} (h : (s,some v)∈zipN keep (keepV dn n σ.fr keep)) : s < N∧Rel E w v (a.tmps.getD s undef):=by
 obtain ⟨g,q1,q2,q3,q4⟩:=mem_zip_keep keep h
 have hsl:=hs.st.slot s
 simp only [ffOf,q1,Option.map_some,SlotOk,q2,condsOf,List.filterMap_nil,allT] at hsl
 obtain ⟨s1,s2,_⟩:=hsl
 rw [hs.st.size] at s1
 exact ⟨s1,by rw [q4]; exact (s2 trivial).norm⟩
theorem cloOf_rel {E : Env} {w : World} {v : SV} {u : Value} {f : FuncId} {cs : List SV} (h : Rel E w v u) (hc : cloOf v = some (f,cs)) : ∃ cv : List Value,u = .func (.func f) #[] ⟨cv⟩∧RelL E w cs cv:=by
 unfold cloOf at hc
 split at hc
 ·simp only [Option.some.injEq,Prod.mk.injEq] at hc
  obtain ⟨rfl,rfl⟩:=hc
  exact h.clo_inv
 ·simp only [Option.some.injEq,Prod.mk.injEq] at hc
  obtain ⟨rfl,rfl⟩:=hc
  exact ⟨[],h.fn_inv,.nil⟩
 ·cases hc
theorem range_sound {nn : Nat} (hc : CxOk P cx) (hrg : RgOk P cx) {B : Bs} {N : Nat} (hg : glOk B cx.gl) {g : Operand} {ps : Array Tmp} {assign bd : Code} {σ : Sy} {K : Ex→Sy→Prop} {E : Env} {a : Act} {w : World} (hs : StY B N E a w σ)
  {f : FuncId} {caps : List SV} {it : FSpec→FSpec} (hv : (rd cx σ [] g).bind cloOf = some (f,caps)) (hit : look f cx.its = some it)
  (h : ∀ c,IsLC c ps assign bd N→∃ (keep : List Nat) (Y : FSpec),YOk P cx.gl Y∧
   stepCallG cx ⟨σ.fr,σ.hp ++ [.lrec c (zipN keep (keepV cx.D (lenN σ.hp) σ.fr keep)) 0 none],σ.gm⟩ [] (.yv (lenN σ.hp) :: caps) (it Y) fun o =>
      match efsH (σ.hp ++ [.lrec c (zipN keep (keepV cx.D (lenN σ.hp) σ.fr keep)) 0 none]) o.efs with
      | hp'=>okEfs (σ.hp ++ [.lrec c (zipN keep (keepV cx.D (lenN σ.hp) σ.fr keep)) 0 none]) o.efs = true∧match nth hp' (lenN σ.hp) with
       | some (.lrec _ _ st pd)=>Nat.beq st 1 = false∧K (exOf pd) ⟨σ.fr,setN hp' (lenN σ.hp) .gone,σ.gm⟩
       | _=>False) :
  (Code.rangeFunc g ps assign bd).wpIn (Fr none) nn P (exQ B N K) a w:=by
 refine wpIn_rangeFunc fun fn _=>?_
 obtain ⟨keep,Y,hY,hcall⟩:=h ⟨fn,ps,assign,bd,N⟩ ⟨rfl,rfl,rfl,rfl⟩
 obtain ⟨c,hcdef⟩ : ∃ c : LC,c = ⟨fn,ps,assign,bd,N⟩:=⟨_,rfl⟩
 rw [←hcdef] at hcall
 rw [hc.D] at hcall
 obtain ⟨frs,hfrs⟩ : ∃ x,x = zipN keep (keepV dn (lenN σ.hp) σ.fr keep):=⟨_,rfl⟩
 rw [←hfrs] at hcall
 -- the function that is ranged over
 obtain ⟨gv,hgv,hcl⟩:=Option.bind_eq_some_iff.1 hv
 obtain ⟨cv,hev,hcv⟩:=cloOf_rel (rd_sound hgv hg hs.st (fun _ _=>rfl) trivial) hcl
 have hfn:=hrg.its _ (look_mem hit) Y hY
 obtain ⟨hgood,hfn⟩:=hfn
 -- the record and the block for the deferred calls are laid
 let lp : Loop:={ state:=.ready,pending:=none,fn,tmps:=a.tmps,params:=ps,assign,body:=bd,defers:=w.heap.size }
 let w0 : World:=w.alloc (.deferred (some []))
 let w1 : World:=w0.alloc (.loop lp)
 have hst0:=alloc_raw hs.st (.deferred (some []))
 have hM : hfOf σ.hp σ.hp.length = .fresh:=by simp only [hfOf,nth_eq,List.getElem?_eq_none (Nat.le_refl _),Option.getD_none]
 have hw0s : w0.heap.size = w.heap.size + 1:=by simp [w0]
 obtain ⟨E1,x1,b1,hh1,hβ1,hO1⟩:=new_obj hst0 hM (.loop lp) (.lrec c [] 0 none) fun E' w' q1 q2 q3 q4=>⟨_,lp,q1,q2,q3,by subst hcdef; exact ⟨rfl,rfl,rfl,rfl,hs.st.size,rfl,rfl⟩,by simp,q4⟩
 have hh2 : ∀ k,HOk E1 w1 k (upd (hfOf σ.hp) σ.hp.length (.lrec c frs 0 none) k):=by
  intro k
  have hk:=hh1 k
  by_cases e : k = σ.hp.length
  ·subst e
   simp only [upd,if_pos] at hk ⊢
   obtain ⟨b,r,k1,k2,k3,k4,k5,k6⟩:=hk
   rw [hβ1] at k1
   cases k1
   have hr : r = lp:=by
    have:=heap_alloc_new w0 (.loop lp)
    rw [this] at k3
    cases k3; rfl
   subst hr
   refine ⟨_,lp,hβ1,k2,k3,k4,fun s v hm=>?_,k6⟩
   rw [hfrs] at hm
   have hs0 : StY B N E a w0 σ:=⟨hst0,hs.len,hs.wf,hs.ge⟩
   obtain ⟨r1,r2⟩:=keep_rel hs0 hm
   exact ⟨by subst hcdef; exact r1,r2.mono x1⟩
  ·simp only [upd,if_neg e] at hk ⊢
   exact hk
 rw [←hfOf_snoc] at hh2
 -- the later start
 have hrsz : w.heap.size < w1.heap.size:=by simp [w1,w0]; omega
 have hnoO : ∀ k,E1.O w.heap.size≠some k:=by
  intro k hk
  rcases hO1 _ _ hk with h | h
  ·have:=(hs.st.base.Obd _ _ h).1; omega
  ·rw [hw0s] at h; omega
 have hdef : w1.heap[w.heap.size]? = some (.deferred (some [])):=by
  rw [heap_alloc_ne (by rw [hw0s]; omega)]
  exact heap_alloc_new w _
 let B1 : Bs:=⟨w1,fun b=>∃ h,E1.O b = some h,E1.I,B.β0,B.τ0,B.ζ0,w.heap.size :: B.dl⟩
 have hb1 : Base B1 E1 w1:=⟨rfl,rfl,rfl,Nat.le_refl _,fun _ _ _=>rfl,fun b o h=>⟨h,rfl⟩,b1.Ibd,fun b o h=>.inl h,fun b k hO=>⟨(b1.Obd b k hO).1,.inr ⟨k,hO⟩⟩,⟨b1.β0.β,b1.β0.τ,b1.β0.ζ⟩⟩
 have hreb : Reb B B1:=by
  refine ⟨b1.os,b1.tape,b1.output,b1.size,fun b hlt hX=>⟨?_,b1.old b hlt hX⟩,b1.I0,b1.Inew,fun b ⟨k,hO⟩=>(b1.Obd b k hO).2,rfl,rfl,rfl,fun hm=>⟨?_,fun r hr=>?_⟩,fun r hr=>?_⟩
  ·rintro ⟨k,hO⟩
   rcases (b1.Obd b k hO).2 with h | h
   ·omega
   ·exact hX h
  ·refine List.nodup_cons.2 ⟨fun hr=>?_,hm.nodup⟩
   have:=(hm.lie _ hr).1
   have:=hs.st.base.size
   omega
  ·rcases List.mem_cons.1 hr with rfl | hr
   ·exact ⟨hrsz,fun ⟨k,hk⟩=>hnoO k hk,hdef⟩
   ·obtain ⟨r1,r2,r3⟩:=hm.lie r hr
    refine ⟨Nat.lt_of_lt_of_le r1 b1.size,?_,(b1.old r r1 r2).trans r3⟩
    rintro ⟨k,hO⟩
    rcases (b1.Obd r k hO).2 with h | h
    ·omega
    ·exact r2 h
  ·rcases List.mem_cons.1 hr with rfl | hr
   ·exact .inr hs.st.base.size
   ·exact .inl hr
 let a1 : Act:={ a with defers:=markOf w.heap.size :: a.defers }
 have x0 : Ext E w E w0:=⟨fun _ _ h=>h,fun _ _ h=>.inl h,fun _ _ h=>h,fun _ _ h=>h,fun _ _ h=>h,fun b o hi=>cell_alloc_old (hs.st.base.Ibd b o hi)⟩
 have hsty : StY B1 N E1 a1 w1 ⟨σ.fr,σ.hp ++ [.lrec c frs 0 none],σ.gm⟩:=by
  have h3:=hst0.step x1 b1 hh2
  exact ⟨⟨hb1,hh2,h3.slot,h3.size,by show markOf w.heap.size :: a.defers = _; rw [hs.st.defers]; rfl⟩,hs.len,⟨hs.wf.tg,hs.wf.gt,hs.wf.gf⟩,fun k hk=>by have:=hs.ge k hk; simp; omega⟩
 have hE1M : E1.β σ.hp.length = some (w.heap.size + 1):=by rw [hβ1,hw0s]
 -- the call
 unfold stepCallG at hcall
 rw [hc.D] at hcall
 simp only at hcall
 obtain ⟨hp1,hhp1⟩ : ∃ x,x = σ.hp ++ [Hl.lrec c frs 0 none]:=⟨_,rfl⟩
 simp only [←hhp1] at hcall hh2 hsty
 obtain ⟨vs1,hvs1⟩ : ∃ x,x = loose.looseL (norm.normL dn (.yv (lenN σ.hp) :: caps)):=⟨_,rfl⟩
 simp only [←hvs1] at hcall
 obtain ⟨hs1,hhs1⟩ : ∃ x,x = reach hp1 hp1 (addNew [] (hsV.hsL vs1)):=⟨_,rfl⟩
 simp only [←hhs1] at hcall
 obtain ⟨ls1,hls1⟩ : ∃ x,x = getG dn hp1 hs1:=⟨_,rfl⟩
 simp only [←hls1] at hcall
 split at hcall
 ·rename_i h3
  simp only [Bool.and_eq_true] at h3
  obtain ⟨⟨⟨⟨⟨c1,c2⟩,c3⟩,c4⟩,c5⟩,c6⟩:=h3
  obtain ⟨r,ls',⟨k1,k2⟩,hct⟩:=hfn _ _ _ hcall
  simp only [Bool.and_eq_true] at k1
  obtain ⟨⟨⟨k3,k4⟩,k5⟩,k6⟩:=k1
  have k3:=Nat.le_of_ble_eq_true k3
  simp only [lenN_eq hs1,lenN_eq ls',lenN_eq hp1,takeN_eq,dropN_eq,mapH_eq] at k3 k5 k6 k2 hct
  rw [lenN_eq] at c4
  have hrelu : RelL E1 w1 (.yv (lenN σ.hp) :: caps) (.func (.yield (w.heap.size + 1)) #[] #[] :: cv):=by
   refine .cons (.yv (by rw [lenN_eq]; exact hE1M) rfl) ⟨hcv.1,fun i s v p q=>((hcv.2 i s v p q).mono x0).mono x1⟩
  have hC:=callG_core (cx:=cx) (G:=fun us w R=>Calls P f ⟨us⟩ w R) (fun us w R R' h hc=>hc.mono h) (hp:=hp1) hvs1 hls1 ((nodupN_iff _).1 c1) ((allIn_iff _ _).1 c2) c3 ((lowN_iff _ _).1 c4) ((closedG_iff _ _).1 c5) hct k3 k4 ((lowN_iff _ _).1 k5) ((okGL_iff _ _).1 k6) (hreb.gl hg) hb1 hh2 (AgH_refl _ _) hrelu
  have henter:=run_enterLoop_outer (P:=P) (w:=w) fn a.tmps ps assign bd
  obtain ⟨fnn,body,g1,g2,g3⟩:=hgood
  have g4 : ¬ fnn.name = "runtime.NumGoroutine":=by simpa using g3
  have hinv : (resolve a.eval (rangeCall g (w.heap.size + 1)) 0).run P w1 = .ok { target:=.fn (.func f) ⟨cv⟩,args:=#[.func (.yield (w.heap.size + 1)) #[] #[]] } w1:=by
   simp [resolve,hev,Deferred.ofValue,show ∀ v,a.eval (.const v) = v from fun _=>rfl]
  refine ⟨w.heap.size + 1,[markOf w.heap.size],w1,_,w1,f,⟨.func (.yield (w.heap.size + 1)) #[] #[] :: cv⟩,w1,henter,hinv,fun _ _=>trivial,?_,by simp [Fr,Fence.wide],?_⟩
  ·have hargsE : (⟨.func (.yield (w.heap.size + 1)) #[] #[] :: cv⟩ : Array Value) = #[.func (.yield (w.heap.size + 1)) #[] #[]] ++ (⟨cv⟩ : Array Value):=by apply Array.ext'; simp
   rw [hargsE]
   simp [invoke,callFunc,g1,g2,g4]
  ·refine (callsIn_wide (n:=nn - 1)).2 (hC.mono ?_)
   rintro e w3 ⟨v,E3,rfl,y1,y2,y3,_⟩
   obtain ⟨k7,k8⟩:=k2
   split at k8
   ·rename_i c4' fr4 st pd hn4
    obtain ⟨k9,k10⟩:=k8
    rw [lenN_eq] at hn4 k10
    rw [←hfOf_efsH _ _ k7] at y3
    have hh4:=y3 σ.hp.length
    rw [nth_hf hn4] at hh4
    obtain ⟨b,r3,i1,i2,i3,i4,i5,i6⟩:=hh4
    rw [y1.β _ _ hE1M] at i1
    cases i1
    have hnb : r3.state≠.busy:=stOf_busy (by rw [i4.st]; intro e; subst e; cases k9)
    have hsty3 : StY B1 N E3 a1 w3 ⟨σ.fr,efsH hp1 (backEfs hs1 ((ls'.take hs1.length).map (rnH (backR hs1 hs1.length hp1.length))) ++ newEfs hp1.length ((ls'.drop hs1.length).map (rnH (backR hs1 hs1.length hp1.length)))),σ.gm⟩:=by
     have h5:=hsty.st.step y1 y2 y3
     refine ⟨h5,hs.len,⟨hs.wf.tg,hs.wf.gt,hs.wf.gf⟩,fun k hk=>Nat.lt_of_lt_of_le (hsty.ge k hk) (len_efsH _ _)⟩
    have hsty4:=hsty3.setObj (nth_lt hn4) i2 i6 (.loop { r3 with state:=.exhausted }) .gone trivial
    refine ⟨_,_,run_endLoop i3 hnb,?_⟩
    rw [i4.pd] at hsty4 ⊢
    cases pd with
    | none=>exact ⟨B1,E3,_,hreb,hsty4,k10⟩
    | some j =>
     cases j with
     | ret=>exact wpIn_ret ⟨B1,E3,_,hreb,hsty4,k10⟩
     | exit i=>exact wpIn_exit ⟨B1,E3,_,hreb,hsty4,k10⟩
     | goto i=>exact wpIn_goto ⟨B1,E3,_,hreb,hsty4,k10⟩
   ·exact k8.elim
 ·exact hcall.elim
theorem exQ.reb {B B1 : Bs} {N : Nat} {K : Ex→Sy→Prop} {e : Exit} {a : Act} {w : World} (h : exQ B1 N K e a w) (hb : Reb B B1) : exQ B N K e a w:=by
 obtain ⟨B2,E,σ,h1,h2,h3⟩:=h
 exact ⟨B2,E,σ,hb.trans h1,h2,h3⟩
theorem exec_sound (hd : DrawOk P) (hc : CxOk P cx) (htab : TabOk P cx.gl cx.tab) (hrg : RgOk P cx) {N : Nat} : ∀ (c : Code) (σ : Sy) (K : Ex→Sy→Prop),exec cx c σ K→∀ (ro : Option Nat) (nn : Nat),ro = none∨noRF c = true→∀ (B : Bs),glOk B cx.gl→∀ (E : Env) (a : Act) (w : World),StY B N E a w σ→c.wpIn (Fr ro) nn P (exQ B N K) a w
 | .skip,σ,K,h,ro,nn,hro,B,hg,E,a,w,hs=>wpIn_skip ⟨B,E,σ,.refl B,hs,h⟩
 | .region id ops draw,σ,K,h,ro,nn,hro,B,hg,E,a,w,hs=>by
  obtain ⟨E,σ,hs,h⟩:=hs.ghostK (id:=id + 2000000) hc.D h
  obtain ⟨rs,σ',h1,h2,h3⟩:=stepOps_runs hc htab hrg (ops:=ops) rfl ops.toList [] σ _ hs.wf h
  simp only [List.nil_append] at h3
  have fin : ∀ {E' : Env} {a' : Act} {w' : World},StY B N E' a' w' σ'→Sx.ghostK cx id ⟨Sx.tidy σ'.fr,σ'.hp,[]⟩ (K .normal)→exQ B N K .normal a' w':=fun hs' h3=>by
   obtain ⟨E2,σ2,q1,q2⟩:=(StY.tidy hs').ghostK hc.D h3
   exact ⟨B,E2,σ2,.refl B,q1,q2⟩
  cases draw with
  | true =>
   simp only [if_true] at h3
   split at h3
   ·obtain ⟨⟨hb⟩,h3⟩:=h3
    simp only [Bool.and_eq_true] at hb
    exact hd ro nn cx.gl id ops B N σ σ' rs hg h1 hb.1 hb.2 _ E a w hs fun E' a' w' hs'=>fin hs' h3
   ·split at h3
    ·rename_i hb
     simp only [Bool.and_eq_true] at hb
     exact hd ro nn cx.gl id ops B N σ σ' rs hg h1 hb.1 hb.2 _ E a w hs fun E' a' w' hs'=>fin hs' h3
    ·exact h3.elim
  | false =>
   simp only [Bool.false_eq_true,if_false] at h3
   exact wpList_region (runs_wpList rfl hg h1 E a w hs fun E' a' w' hs'=>fin hs' h3)
 | .seq x y,σ,K,h,ro,nn,hro,B,hg,E,a,w,hs=>by
  have hx : ro = none∨noRF x = true:=hro.imp (fun h=>h) fun h=>by simp only [noRF,Bool.and_eq_true] at h; exact h.1
  have hy : ro = none∨noRF y = true:=hro.imp (fun h=>h) fun h=>by simp only [noRF,Bool.and_eq_true] at h; exact h.2
  refine wpIn_seq (wpIn_mono (exec_sound hd hc htab hrg x σ _ h ro nn hx B hg E a w hs) fun e a' w' hq=>?_)
  obtain ⟨B',E',σ',hb,hs',hk⟩:=hq
  cases e with
  | normal=>exact wpIn_mono (exec_sound hd hc htab hrg y σ' K hk ro nn hy B' (hb.gl hg) E' a' w' hs') fun e a w hq=>hq.reb hb
  | exit i=>exact ⟨B',E',σ',hb,hs',hk⟩
  | goto l=>exact ⟨B',E',σ',hb,hs',hk⟩
  | ret=>exact ⟨B',E',σ',hb,hs',hk⟩
  | _=>exact hk.elim
 | .cond c x y,σ,K,h,ro,nn,hro,B,hg,E,a,w,hs=>by
  have hx : ro = none∨noRF x = true:=hro.imp (fun h=>h) fun h=>by simp only [noRF,Bool.and_eq_true] at h; exact h.1
  have hy : ro = none∨noRF y = true:=hro.imp (fun h=>h) fun h=>by simp only [noRF,Bool.and_eq_true] at h; exact h.2
  simp only [exec] at h
  have hv : ∀ b,rd cx σ [] c = some (.bool b)→a.eval c = .bool b.den:=fun b hb=>(rd_sound hb hg hs.st (fun _ _=>rfl) trivial).bool_inv
  split at h
  ·rename_i hb
   exact wpIn_cond (t:=true) (hv _ hb) (exec_sound hd hc htab hrg x σ K h ro nn hx B hg E a w hs)
  ·rename_i hb
   exact wpIn_cond (t:=false) (hv _ hb) (exec_sound hd hc htab hrg y σ K h ro nn hy B hg E a w hs)
  ·rename_i b _ _ hb
   rw [hc.D] at h
   refine wpIn_cond_split (hv _ hb) (fun e=>?_) (fun e=>?_)
   ·exact exec_sound hd hc htab hrg x _ K (h.1 e) ro nn hx B hg E a w (hs.know hb (hv _ hb) e)
   ·exact exec_sound hd hc htab hrg y _ K (h.2 e) ro nn hy B hg E a w (hs.know hb (hv _ hb) e)
  ·exact h.elim
 | .block id b,σ,K,h,ro,nn,hro,B,hg,E,a,w,hs=>by
  have hx : ro = none∨noRF b = true:=hro.imp (fun h=>h) fun h=>h
  refine wpIn_block (wpIn_mono (exec_sound hd hc htab hrg b σ _ h ro nn hx B hg E a w hs) fun e a' w' hq=>?_)
  obtain ⟨B',E',σ',hb,hs',hk⟩:=hq
  cases e with
  | normal=>exact ⟨B',E',σ',hb,hs',hk⟩
  | exit i =>
   simp only [Exit.inBlock]
   simp only [exK] at hk
   by_cases e : i = id
   ·rw [if_pos e]
    rw [if_pos (by simpa using e)] at hk
    exact ⟨B',E',σ',hb,hs',hk⟩
   ·rw [if_neg e]
    rw [if_neg (by simpa using e)] at hk
    exact ⟨B',E',σ',hb,hs',hk⟩
  | goto l=>exact ⟨B',E',σ',hb,hs',hk⟩
  | ret=>exact ⟨B',E',σ',hb,hs',hk⟩
  | _=>exact hk.elim
 | .loop b,σ,K,h,ro,nn,hro,B,hg,E,a,w,hs=>by
  have hx : ro = none∨noRF b = true:=hro.imp (fun h=>h) fun h=>h
  simp only [exec] at h
  split at h
  ·rename_i l _
   refine wp_loopN (fun m a w=>∃ B1 σ1 E,Reb B B1∧unroll (exec cx b) m σ1 K∧StY B1 N E a w σ1) ⟨cntG l,B,σ,E,.refl B,h,hs⟩ ?_
   rintro m a' w' ⟨B1,σ1,E',hr1,hu,hs'⟩
   cases m with
   | zero=>exact hu.elim
   | succ m =>
    refine wpIn_mono (exec_sound hd hc htab hrg b _ _ hu ro nn hx B1 (hr1.gl hg) E' a' w' hs') fun e a2 w2 hq=>?_
    obtain ⟨B2,E2,σ2,hr2,hs2,hk⟩:=hq
    have hr:=hr1.trans hr2
    cases e with
    | normal=>exact ⟨m,Nat.lt_succ_self _,B2,σ2,E2,hr,hk,hs2⟩
    | exit i=>exact ⟨B2,E2,σ2,hr,hs2,hk⟩
    | goto l=>exact ⟨B2,E2,σ2,hr,hs2,hk⟩
    | ret=>exact ⟨B2,E2,σ2,hr,hs2,hk⟩
    | _=>exact hk.elim
  obtain ⟨keep,J,⟨hb0,m0,hJ0⟩,hround⟩:=h
  rw [hc.D] at hJ0 hround
  refine wp_loopN (fun m a w=>∃ B1 vs hp E,Reb B B1∧J m vs hp∧StY B1 N E a w ⟨mkfr (zipN keep vs) (blank σ.fr),hp,[]⟩) ⟨m0,B,_,_,cutE (lenN σ.hp) E,.refl B,hJ0,?_⟩ ?_
  ·have:=hs.head (n:=lenN σ.hp) (keep:=keep) hs.len (by rw [takeN_all]; exact hb0) (by rw [lenN_eq]; exact hs.ge)
   rw [takeN_all] at this
   exact this
  ·rintro m a' w' ⟨B1,vs,hp,E',hr1,hJ,hs'⟩
   refine wpIn_mono (exec_sound hd hc htab hrg b _ _ (hround m vs hp hJ) ro nn hx B1 (hr1.gl hg) E' a' w' hs') fun e a2 w2 hq=>?_
   obtain ⟨B2,E2,σ2,hr2,hs2,hk⟩:=hq
   have hr:=hr1.trans hr2
   cases e with
   | normal =>
    obtain ⟨hb2,m2,hlt,hJ2⟩:=hk
    exact ⟨m2,hlt,B2,_,_,_,hr,hJ2,hs2.head hs.len hb2 (by rw [lenN_eq]; exact hr.dom hs.ge)⟩
   | exit i=>exact ⟨B2,E2,σ2,hr,hs2,hk⟩
   | goto l=>exact ⟨B2,E2,σ2,hr,hs2,hk⟩
   | ret=>exact ⟨B2,E2,σ2,hr,hs2,hk⟩
   | _=>exact hk.elim
 | .exit id,σ,K,h,ro,nn,hro,B,hg,E,a,w,hs=>wpIn_exit ⟨B,E,σ,.refl B,hs,h⟩
 | .ret,σ,K,h,ro,nn,hro,B,hg,E,a,w,hs=>wpIn_ret ⟨B,E,σ,.refl B,hs,h⟩
 | .rangeFunc g ps assign bd,σ,K,h,ro,nn,hro,B,hg,E,a,w,hs=>by
  rcases hro with rfl | hro
  ·simp only [exec] at h
   split at h
   ·rename_i f caps hv
    split at h
    ·rename_i it hit
     obtain ⟨hnr,h⟩:=h
     simp only [Bool.and_eq_true] at hnr
     refine range_sound hc hrg hg hs hv hit fun c hlc=>?_
     have hN : lenN σ.fr = N:=by rw [lenN_eq]; exact hs.len
     rw [←hN] at hlc
     obtain ⟨keep,Y,h1,h2⟩:=h c hlc
     refine ⟨keep,Y,yok_of_round hc hlc (fun l nn σ K h B hg E a w hs=>?_) (fun l nn σ K h B hg E a w hs=>?_) h1,h2⟩
     ·rw [hN] at hs; rw [hN]; exact exec_sound hd hc htab hrg assign σ K h (some l) nn (.inr hnr.1) B hg E a w hs
     ·rw [hN] at hs; rw [hN]; exact exec_sound hd hc htab hrg bd σ K h (some l) nn (.inr hnr.2) B hg E a w hs
    ·exact h.elim
   ·exact h.elim
  ·cases hro
 | .scope c,σ,K,h,ro,nn,hro,B,hg,E,a,w,hs=>by
  have hx : ro = none∨noRF c = true:=hro.imp (fun h=>h) fun h=>h
  refine wpIn_scope_straight (wpIn_mono (exec_sound hd hc htab hrg c σ _ h ro nn hx B hg E a w hs) fun e a' w' hq=>?_)
  obtain ⟨B',E',σ',hb,hs',hk⟩:=hq
  cases e with
  | normal=>exact ⟨B',E',σ',hb,hs',hk⟩
  | exit i=>exact ⟨B',E',σ',hb,hs',hk⟩
  | goto l=>exact hk.elim
  | ret=>exact ⟨B',E',σ',hb,hs',hk⟩
  | _=>exact hk.elim
 | .label _,σ,K,h,ro,nn,hro,B,hg,E,a,w,hs=>wpIn_label ⟨B,E,σ,.refl B,hs,h⟩
 | .goto _,σ,K,h,ro,nn,hro,B,hg,E,a,w,hs=>wpIn_goto ⟨B,E,σ,.refl B,hs,h⟩
 | .refuse _,_,_,h,_,_,_,_,_,_,_,_,_=>h.elim
theorem exec_wp (hd : DrawOk P) (hc : CxOk P cx) (htab : TabOk P cx.gl cx.tab) (hrg : RgOk P cx) {B : Bs} {N : Nat} (hg : glOk B cx.gl) (c : Code) (σ : Sy) (K : Ex→Sy→Prop) (h : exec cx c σ K) (E : Env) (a : Act) (w : World) (hs : StY B N E a w σ) : c.wp P (exQ B N K) a w :=
 wpIn_wide.1 (exec_sound hd hc htab hrg c σ K h none 0 (.inl rfl) B hg E a w hs)
end
end Go.Sx
namespace Go.Sx
open Go
theorem LeV.refl (s : SV) : LeV s s:=fun _ _ _ h=>h
theorem LeH.refl (ls : List Hl) : LeH ls ls:=fun _ _ _ h=>h
section
variable {P : Program} {cx : Cx}
def resRow (tmps : Array Value) : ResultVar→Sem Value
 | .tmp t=>pure (tmps.getD t undef)
 | .cell ad t=>do loadVar t (←asAddr (tmps.getD ad undef))
theorem results_eq (fn : Func) (tmps : Array Value) : results fn tmps = (do let vs←fn.results.mapM (resRow tmps); pure (if h : vs.size = 1 then vs[0] else .tuple vs)):=by
 unfold results
 congr 1
theorem resVs_sound (hc : CxOk P cx) {B : Bs} {N : Nat} (hg : glOk B cx.gl) {E : Env} {a : Act} {w : World} {σ : Sy} (hs : StY B N E a w σ) : ∀ (rs : List ResultVar) (vs : List SV),resVs cx σ rs = some vs→
  ∃ us,(rs.mapM (resRow a.tmps)).run P w = .ok us w∧RelL E w vs us
 | [],vs,h=>by simp [resVs] at h; subst h; exact ⟨[],rfl,.nil⟩
 | .tmp t :: rs,vs,h=>by
  simp only [resVs] at h
  split at h
  ·rename_i v vs' hv hvs
   cases h
   obtain ⟨us,h1,h2⟩:=resVs_sound hc hg hs rs vs' hvs
   have hr:=rd_sound hv hg hs.st (fun _ _=>rfl) trivial
   exact ⟨a.tmps.getD t undef :: us,by simp only [List.mapM_cons,resRow,Sem.run_bind,Sem.run_pure,Result.andThen_ok,h1],.cons hr h2⟩
  ·cases h
 | .cell ad t :: rs,vs,h=>by
  simp only [resVs] at h
  split at h
  ·rename_i hd off n vs' hv hn hvs
   split at h
   ·rename_i ty cs hh
    split at h
    ·rename_i hb
     split at h
     ·rename_i v hp
      cases h
      rw [lenN_eq] at hb
      have hle:=Nat.le_of_ble_eq_true hb
      rw [takeN_eq,dropN_eq] at hp
      obtain ⟨us,h1,h2⟩:=resVs_sound hc hg hs rs vs' hvs
      obtain ⟨b,hβ,hx⟩:=(rd_sound hv hg hs.st (fun _ _=>rfl) trivial).ptr_inv
      have hk:=hs.st.heap hd
      rw [nth_hf hh] at hk
      obtain ⟨b',C,k1,_,k3,k4,_,_⟩:=hk.blk_inv
      obtain rfl : b = b':=Option.some.inj (hβ.symm.trans k1)
      obtain ⟨ti,hti,hsz⟩:=size?_ti hn
      have hsub:=sub_RelL (off:=off) (n:=n) k4 rfl (fun _ _ _=>rfl)
      obtain ⟨p1,p2⟩:=pack_rel hp hsub
      have hlen : ((C.toList.drop off).take n).length = n:=by rw [←hsub.1]; simp; omega
      have hrun:=run_loadAt (hc.ti hti) (w:=w) (b:=b) (off:=off) (vs:=(C.toList.drop off).take n) (fun j v hj=>by
       rw [List.getElem?_take] at hj
       split at hj
       ·rw [List.getElem?_drop] at hj
        rw [cell_of_row w b (off + j) C ty (0,0) k3]
        simpa using hj
       ·cases hj) (by rw [hlen,hsz]) (isAgg?_eq hti) p1
      have hx : a.tmps.getD ad undef = .pointer (some ⟨b,off,none⟩):=hx
      have hl : (loadVar t ⟨b,off,none⟩).run P w = .ok (if isAgg? cx t then .agg ⟨(C.toList.drop off).take n⟩ else ((C.toList.drop off).take n).headD undef) w:=by
       simpa only [Instr.loadAt,Instr.sureAddr,Sem.run_bind,Sem.run_pure,Result.andThen_ok] using hrun
      refine ⟨_ :: us,?_,.cons p2 h2⟩
      have hrow : (resRow a.tmps (.cell ad t)).run P w = .ok (if isAgg? cx t then .agg ⟨(C.toList.drop off).take n⟩ else ((C.toList.drop off).take n).headD undef) w:=by
       simp only [resRow,hx,asAddr,Sem.run_bind,Sem.run_pure,Result.andThen_ok,hl]
      simp only [List.mapM_cons,Sem.run_bind,hrow,Result.andThen_ok,h1,Sem.run_pure]
     ·cases h
    ·cases h
   ·cases h
  ·cases h
theorem HOk.normH {E : Env} {w : World} {hp : List Hl} {h : Nat} (hk : HOk E w h (hfOf hp h)) : HOk E w h (hfOf (normH dn hp) h):=by
 simp only [hfOf,nth_eq,normH_get] at hk ⊢
 cases hl : hp[h]? with
 | none=>rw [hl] at hk; exact hk
 | some l =>
  rw [hl] at hk
  cases l with
  | blk ty cs =>
   simp only [Option.map_some,Option.getD_some] at hk ⊢
   obtain ⟨b,C,k1,k2,k3,k4,k5,k6⟩:=hk.blk_inv
   have hn : RelL E w (loose.looseL (norm.normL dn cs)) C.toList:=by
    rw [looseL_eq,normL_eq]
    exact (k4.map _ fun s v _ h=>h.norm).map _ fun s v _ h=>h.loose
   exact ⟨b,C,k1,k2,k3,by have:=hn.1; simpa using this.symm,fun i s v p q=>hn.2 i s v p (by simpa using q),fun v hv=>k5 v (by simpa using hv),k6⟩
  | _=>exact hk
theorem getO_start (ntmps : Nat) (args : List SV) (s : Nat) (g : G) (h : getO (startFr ntmps args) s = some g) : ∃ v,args[s]? = some v∧g = ⟨[],none,none,v⟩:=by
 rw [getO_eq] at h
 unfold startFr at h
 by_cases hlt : s < args.length
 ·rw [List.getElem?_append_left (by simpa using hlt)] at h
  simp [hlt] at h
  exact ⟨args[s],by simp [hlt],h.symm⟩
 ·rw [List.getElem?_append_right (by simp; omega)] at h
  rw [List.getElem?_replicate] at h
  split at h<;>simp at h
theorem ownTo_rel {E E' : Env} {w : World} {h k : Nat} (hI : E'.I = E.I) (hτ : E'.τ k = E.τ h) : ∀ {vs : List SV} {us : List Value},ownOk h vs = true→RelL E w vs us→RelL E' w (ownTo h k vs) us
 | [],us,_,hr=>⟨hr.1,by simp [ownTo]⟩
 | v :: vs,[],_,hr=>absurd hr.1 (by simp)
 | v :: vs,u :: us,ho,hr=>by
  have htl : RelL E w vs us:=⟨by have:=hr.1; simpa using this,fun i s v a b=>hr.2 (i + 1) s v a b⟩
  have hhd:=hr.2 0 v u rfl rfl
  by_cases hv : ∃ nl n h',v = .osl nl n h'
  ·obtain ⟨nl,n,h',rfl⟩:=hv
   simp only [ownOk,Bool.and_eq_true,beq_iff_eq] at ho
   obtain ⟨rfl,ho⟩:=ho
   obtain ⟨ht,a,m,c,t1,t2⟩:=hhd.osl_inv
   exact .cons (.osl ht ⟨a,m,c,by rw [hτ]; exact t1,t2⟩) (ownTo_rel hI hτ ho htl)
  ·have h1 : ownOk h (v :: vs) = (plainV v && ownOk h vs):=by
    cases v<;>first | rfl | exact absurd ⟨_,_,_,rfl⟩ hv
   have h2 : ownTo h k (v :: vs) = v :: ownTo h k vs:=by
    cases v<;>first | rfl | exact absurd ⟨_,_,_,rfl⟩ hv
   rw [h1,Bool.and_eq_true] at ho
   rw [h2]
   exact .cons (hhd.plain hI ho.1) (ownTo_rel hI hτ ho.2 htl)
theorem end_sound (hc : CxOk P cx) {B : Bs} {N : Nat} (hg : glOk B cx.gl) {E' : Env} {a' : Act} {w' : World} {σ' : Sy} (hs' : StY B N E' a' w' σ') {fn : Func} {m : Nat} (hdom : ∀ h,B.β0 h≠none∨B.τ0 h≠none∨B.ζ0 h≠none→h < m) {r : SV} {ls' : List Hl} (hk : match resVs cx σ' fn.results.toList with
    | some vs=>endK cx m vs σ' fun r' ls''=>Fin r' r ls'' ls'
    | none=>False) : ∃ v,(results fn a'.tmps).run P w' = .ok v w'∧∃ v_1 E',Ending.returned v = .returned v_1∧Base B E' w'∧(∀ h,h < ls'.length→HOk E' w' h (hfOf ls' h))∧Rel E' w' r v_1:=by
 split at hk
 ·rename_i vs hvs
  obtain ⟨us,u1,u2⟩:=resVs_sound hc hg hs' fn.results.toList vs hvs
  have hbase:=hs'.st.base
  have hres : (results fn a'.tmps).run P w' = .ok (if h : (⟨us⟩ : Array Value).size = 1 then (⟨us⟩ : Array Value)[0] else .tuple ⟨us⟩) w':=by
   rw [results_eq,Array.mapM_eq_mapM_toList]
   simp only [Sem.run_bind,Sem.run_map,u1,Result.andThen_ok,Sem.run_pure]
  unfold endK at hk
  rw [hc.D] at hk
  split at hk
  ·obtain ⟨k1,k2,k3⟩:=hk
   refine ⟨_,hres,_,E',rfl,hbase,fun h hlt=>?_,?_⟩
   ·refine k2 h E' w' ?_
    refine HOk.normH ?_
    have:=hs'.st.heap h
    have hlt2 : h < m:=by
     rw [len_normH,takeN_eq,List.length_take] at k3; omega
    simp only [hfOf,nth_eq,takeN_eq] at this ⊢
    rw [List.getElem?_take,if_pos hlt2]
    exact this
   ·exact k1 E' w' _ (pack1_rel u2).norm.loose
  ·rename_i h _
   split at hk
   ·rename_i ty n sz gr f hcond hh
    simp only [Bool.and_eq_true] at hcond
    obtain ⟨⟨c1,c2⟩,c3⟩:=hcond
    have c1:=Nat.le_of_ble_eq_true c1
    obtain ⟨k1,k2,k3⟩:=hk
    have hm : m≤σ'.hp.length:=by
     rw [nth_eq] at hh
     have:=(List.getElem?_eq_some_iff.1 hh).1
     omega
    let O2 : Nat→Option Nat:=fun b=>(E'.O b).bind fun j=>if j < m then some j else if j = h then some m else none
    let E2 : Env:=⟨fun k=>if k < m then E'.β k else if k = m then E'.β h else none,fun k=>if k < m then E'.τ k else if k = m then E'.τ h else none,O2,fun k=>if k < m then E'.κ k else none,fun k=>if k < m then E'.ζ k else if k = m then E'.ζ h else none,E'.I⟩
    have hbase2 : Base B E2 w':=by
     refine ⟨hbase.os,hbase.tape,hbase.output,hbase.size,hbase.old,hbase.I0,hbase.Ibd,hbase.Inew,fun b j hO=>?_,⟨fun k b hk=>?_,fun k v hk=>?_,fun k z hk=>?_⟩⟩
     ·have hO : (E'.O b).bind (fun j=>if j < m then some j else if j = h then some m else none) = some j:=hO
      cases hEO : E'.O b with
      | none=>rw [hEO] at hO; cases hO
      | some q=>exact hbase.Obd b q hEO
     ·show (if k < m then E'.β k else if k = m then E'.β h else none) = some b
      rw [if_pos (hdom k (.inl (by rw [hk]; simp)))]; exact hbase.β0.β k b hk
     ·show TauLe v (if k < m then E'.τ k else if k = m then E'.τ h else none)
      rw [if_pos (hdom k (.inr (.inl (by rw [hk]; simp))))]; exact hbase.β0.τ k v hk
     ·show (if k < m then E'.ζ k else if k = m then E'.ζ h else none) = some z
      rw [if_pos (hdom k (.inr (.inr (by rw [hk]; simp))))]; exact hbase.β0.ζ k z hk
    have hO1 : ∀ b k,k < m→E'.O b = some k→O2 b = some k:=fun b k hk hb=>by simp [O2,hb,hk]
    have hO2 : ∀ b,E'.O b = some h→O2 b = some m:=fun b hb=>by
     simp only [O2,hb,Option.bind_some]
     rw [if_neg (by omega)]
     simp
    refine ⟨_,hres,_,E2,rfl,hbase2,fun k hlt=>?_,?_⟩
    ·refine k2 k E2 w' ?_
     have hlen : (normH dn (takeN m σ'.hp ++ [.own ty n sz gr f])).length = m + 1:=by
      rw [len_normH,takeN_eq,List.length_append,List.length_take,Nat.min_eq_left hm]; rfl
     rw [hlen] at k3
     have htl : (takeN m σ'.hp).length = m:=by rw [takeN_eq,List.length_take,Nat.min_eq_left hm]
     have hkk:=hs'.st.heap
     by_cases hkm : k < m
     ·have h1 : hfOf (normH dn (takeN m σ'.hp ++ [.own ty n sz gr f])) k = hfOf (normH dn (takeN m σ'.hp)) k:=by
       simp only [hfOf,nth_eq,normH_get]
       rw [List.getElem?_append_left (by omega)]
      rw [h1]
      have h2 : HOk E' w' k (hfOf (normH dn (takeN m σ'.hp)) k):=by
       refine HOk.normH ?_
       have:=hkk k
       simp only [hfOf,nth_eq,takeN_eq] at this ⊢
       rw [List.getElem?_take,if_pos hkm]
       exact this
      obtain ⟨l,hl⟩ : ∃ l,(normH dn (takeN m σ'.hp))[k]? = some l:=⟨_,List.getElem?_eq_getElem (by rw [len_normH]; omega)⟩
      have hle : hfOf (normH dn (takeN m σ'.hp)) k = l:=by simp only [hfOf,nth_eq,hl,Option.getD_some]
      rw [hle] at h2 ⊢
      exact h2.move (plainH_get c3 hl) rfl (if_pos hkm) (if_pos hkm) (if_pos hkm) fun b hb=>hO1 b k hkm hb
     ·obtain rfl : k = m:=by omega
      have h1 : hfOf (normH dn (takeN k σ'.hp ++ [.own ty n sz gr f])) k = .own ty (.a (dn.i n)) sz gr f:=by
       simp only [hfOf,nth_eq,normH_get]
       rw [List.getElem?_append_right (by omega),htl,Nat.sub_self]
       rfl
      rw [h1]
      have h2:=hkk h
      rw [nth_hf hh] at h2
      have h3 : HOk E' w' h (.own ty (.a (dn.i n)) sz gr f):=h2
      refine h3.move trivial rfl ?_ ?_ ?_ hO2
      ·show (if k < k then E'.β k else if k = k then E'.β h else none) = E'.β h
       rw [if_neg (by omega),if_pos rfl]
      ·show (if k < k then E'.τ k else if k = k then E'.τ h else none) = E'.τ h
       rw [if_neg (by omega),if_pos rfl]
      ·show (if k < k then E'.ζ k else if k = k then E'.ζ h else none) = E'.ζ h
       rw [if_neg (by omega),if_pos rfl]
    ·have hτm : E2.τ m = E'.τ h:=by
      show (if m < m then E'.τ m else if m = m then E'.τ h else none) = E'.τ h
      rw [if_neg (by omega),if_pos rfl]
     have hrel : RelL E2 w' (ownTo h m vs) us:=ownTo_rel (E:=E') (E':=E2) rfl hτm c2 u2
     exact k1 E2 w' _ (pack1_rel hrel).norm.loose
   ·exact hk.elim
 ·exact hk.elim
theorem end_soundG (hc : CxOk P cx) {B : Bs} {N : Nat} (hg : glOk B cx.gl) {E' : Env} {a' : Act} {w' : World} {σ' : Sy} (hs' : StY B N E' a' w' σ') {fn : Func} {m : Nat} (hdom : ∀ h,B.β0 h≠none∨B.τ0 h≠none∨B.ζ0 h≠none→h < m) {r : SV} {ls' : List Hl} (hk : match resVs cx σ' fn.results.toList with
    | some vs=>endG cx m vs σ' fun r' ls''=>Fin r' r ls'' ls'
    | none=>False) : ∃ v,(results fn a'.tmps).run P w' = .ok v w'∧∃ v_1 E',Ending.returned v = .returned v_1∧Base B E' w'∧(∀ h,h < ls'.length→HOk E' w' h (hfOf ls' h))∧Rel E' w' r v_1:=by
 split at hk
 ·rename_i vs hvs
  obtain ⟨us,u1,u2⟩:=resVs_sound hc hg hs' fn.results.toList vs hvs
  have hbase:=hs'.st.base
  have hres : (results fn a'.tmps).run P w' = .ok (if h : (⟨us⟩ : Array Value).size = 1 then (⟨us⟩ : Array Value)[0] else .tuple ⟨us⟩) w':=by
   rw [results_eq,Array.mapM_eq_mapM_toList]
   simp only [Sem.run_bind,Sem.run_map,u1,Result.andThen_ok,Sem.run_pure]
  obtain ⟨E2,q1,q2,q3⟩:=endG_core hc hs' hdom u2 hk
  exact ⟨_,hres,_,E2,rfl,q1,q2,q3⟩
 ·exact hk.elim
theorem start_sound {B : Bs} {E : Env} {w : World} {vals : List Value} {fn : Func} {as : List SV} {ls : List Hl} (hdl : B.dl = []) (hdom : ∀ h,B.β0 h≠none∨B.τ0 h≠none∨B.ζ0 h≠none→h < ls.length) (hb : Base B E w) (hh : ∀ h,HOk E w h (hfOf ls h)) (hr : RelL E w as vals) :
  StY B (startFr fn.ntmps as).length E { tmps:=(⟨vals⟩ : Array Value) ++ Array.replicate (fn.ntmps - (⟨vals⟩ : Array Value).size) undef,defers:=[] } w ⟨startFr fn.ntmps as,ls,[]⟩:=by
 refine ⟨⟨hb,hh,fun s=>?_,?_,by rw [hdl]; rfl⟩,rfl,⟨fun s g hs i hi=>?_,fun s g i hs hi=>?_,fun s g i hs hi=>?_⟩,hdom⟩
 ·simp only [ffOf]
  cases hs : getO (startFr fn.ntmps as) s with
  | none=>trivial
  | some g =>
   obtain ⟨v,hv,rfl⟩:=getO_start _ _ _ _ hs
   have hlt : s < as.length:=(List.getElem?_eq_some_iff.1 hv).1
   have hlt2 : s < vals.length:=by rw [←hr.1]; exact hlt
   have hget : ((⟨vals⟩ : Array Value) ++ Array.replicate (fn.ntmps - (⟨vals⟩ : Array Value).size) undef).getD s undef = vals[s]:=by
    rw [Array.getD_eq_getD_getElem?,Array.getElem?_append_left (by simpa using hlt2)]
    simp [hlt2]
   refine ⟨by simp; omega,fun _=>?_,fun h=>absurd trivial h⟩
   rw [hget]
   exact hr.2 s v _ hv (List.getElem?_eq_getElem hlt2)
 ·simp [startFr,lenN_eq,hr.1]
 ·obtain ⟨v,_,rfl⟩:=getO_start _ _ _ _ hs; simp at hi
 ·obtain ⟨v,_,rfl⟩:=getO_start _ _ _ _ hs; simp at hi
 ·obtain ⟨v,_,rfl⟩:=getO_start _ _ _ _ hs; simp at hi
def shut : List Nat→World→World
 | [],w=>w
 | r :: rs,w=>shut rs (w.putObj r (.deferred none))
theorem leaves_marks {F : Fence} {n : Nat} {fn : Func} {tmps : Array Value} {R : Ending→World→Prop} : ∀ (dl : List Nat) (w : World),dl.Nodup→(∀ r∈dl,w.heap[r]? = some (.deferred (some [])))→
  (∃ v,(results fn tmps).run P (shut dl w) = .ok v (shut dl w)∧R (.returned v) (shut dl w))→LeavesInM F n P fn tmps R (dl.map markOf) .returning w
 | [],w,_,_,h=>h
 | r :: rs,w,hn,hd,h=>by
  obtain ⟨n1,n2⟩:=List.nodup_cons.1 hn
  refine ⟨by simp,.inl ⟨r,_,rfl,run_takeDeferred (hd r (List.mem_cons_self ..)),leaves_marks rs _ n2 (fun k hk=>?_) h⟩⟩
  rw [World.putObj_heap_other (fun (e : k = r)=>n1 (by rw [←e]; exact hk))]
  exact hd k (List.mem_cons_of_mem _ hk)
theorem put_raw {B : Bs} {N : Nat} {E : Env} {a : Act} {w : World} {ff : Nat→SG} {hf : Nat→Hl} (st : St B N E a w ff hf) {r : Nat} {x : Option (List Deferred)} (hr : B.w0.heap.size≤r) (hO : ∀ k,E.O r≠some k) (hd : w.heap[r]? = some (.deferred x)) (y : Option (List Deferred)) : St B N E a (w.putObj r (.deferred y)) ff hf:=by
 have hb:=st.base
 have hlt : r < w.heap.size:=(Array.getElem?_eq_some_iff.1 hd).1
 have hcell : ∀ b o,(w.putObj r (.deferred y)).cell? ⟨b,o,none⟩ = w.cell? ⟨b,o,none⟩:=by
  intro b o
  simp only [World.cell?]
  by_cases e : b = r
  ·subst e; rw [World.putObj_heap_same hlt,hd]
  ·rw [World.putObj_heap_other e]
 have hx : Ext E w E (w.putObj r (.deferred y)):=⟨fun _ _ h=>h,fun _ _ h=>.inl h,fun _ _ h=>h,fun _ _ h=>h,fun _ _ h=>h,fun b o _=>hcell b o⟩
 refine st.step hx ⟨hb.os,hb.tape,hb.output,?_,?_,?_,?_,hb.Inew,?_,hb.β0⟩ fun k=>?_
 ·rw [World.putObj_size]; exact hb.size
 ·intro b hlt hX; rw [World.putObj_heap_other (by omega)]; exact hb.old b hlt hX
 ·intro b o hi
  obtain ⟨i1,i2⟩:=hb.I0 b o hi
  exact ⟨i1,by rw [hcell]; exact i2⟩
 ·intro b o hi; rw [World.putObj_size]; exact hb.Ibd b o hi
 ·intro b k hO; rw [World.putObj_size]; exact hb.Obd b k hO
 ·refine HOk.keep hx (st.heap k) rfl rfl rfl rfl fun b hb2=>⟨hb2,?_,fun _ h=>h⟩
  exact World.putObj_heap_other (fun e=>hO k (by rw [←e]; exact hb2))
theorem shut_raw {B : Bs} {N : Nat} {E : Env} {a : Act} {ff : Nat→SG} {hf : Nat→Hl} : ∀ (dl : List Nat) (w : World),dl.Nodup→St B N E a w ff hf→(∀ r∈dl,B.w0.heap.size≤r∧(∀ k,E.O r≠some k)∧w.heap[r]? = some (.deferred (some [])))→St B N E a (shut dl w) ff hf
 | [],_,_,st,_=>st
 | r :: rs,w,hn,st,h=>by
  obtain ⟨n1,n2⟩:=List.nodup_cons.1 hn
  obtain ⟨h1,h2,h3⟩:=h r (List.mem_cons_self ..)
  refine shut_raw rs _ n2 (put_raw st h1 h2 h3 none) fun k hk=>?_
  obtain ⟨k1,k2,k3⟩:=h k (List.mem_cons_of_mem _ hk)
  exact ⟨k1,k2,by rw [World.putObj_heap_other (fun (e : k = r)=>n1 (by rw [←e]; exact hk))]; exact k3⟩
theorem StY.shut {B B1 : Bs} {N : Nat} {E : Env} {a : Act} {w : World} {σ : Sy} (hr : Reb B B1) (h0 : B.dl = []) (hs : StY B1 N E a w σ) :
  B1.dl.Nodup∧(∀ r∈B1.dl,w.heap[r]? = some (.deferred (some [])))∧StY B N E { a with defers:=[] } (Sx.shut B1.dl w) σ:=by
 have hm : MarkOk B1:=hr.marks ⟨by rw [h0]; exact List.nodup_nil,by rw [h0]; simp⟩
 have hb:=hs.st.base
 have hd : ∀ r∈B1.dl,B.w0.heap.size≤r∧(∀ k,E.O r≠some k)∧w.heap[r]? = some (.deferred (some [])):=by
  intro r hrm
  obtain ⟨m1,m2,m3⟩:=hm.lie r hrm
  refine ⟨?_,fun k hk=>?_,(hb.old r m1 m2).trans m3⟩
  ·rcases hr.new r hrm with h | h
   ·rw [h0] at h; cases h
   ·exact h
  ·rcases (hb.Obd r k hk).2 with h | h
   ·omega
   ·exact m2 h
 have hst : St B N E { a with defers:=[] } w (ffOf σ) (hfOf σ.hp):=⟨hr.base hb,hs.st.heap,hs.st.slot,hs.st.size,by rw [h0]; rfl⟩
 refine ⟨hm.nodup,fun r hrm=>(hd r hrm).2.2,shut_raw B1.dl w hm.nodup hst hd,hs.len,hs.wf,fun k hk=>hs.ge k ?_⟩
 rw [hr.β0,hr.τ0,hr.ζ0]; exact hk
def Bs.bare (B : Bs) : Bs:={ B with dl:=[] }
theorem Base.bare {B : Bs} {E : Env} {w : World} (h : Base B E w) : Base B.bare E w:=⟨h.os,h.tape,h.output,h.size,h.old,h.I0,h.Ibd,h.Inew,h.Obd,⟨h.β0.β,h.β0.τ,h.β0.ζ⟩⟩
theorem Base.unbare {B : Bs} {E : Env} {w : World} (h : Base B.bare E w) : Base B E w:=⟨h.os,h.tape,h.output,h.size,h.old,h.I0,h.Ibd,h.Inew,h.Obd,⟨h.β0.β,h.β0.τ,h.β0.ζ⟩⟩
theorem callsTo_of_body (hd : DrawOk P) (hc : CxOk P cx) (htab : TabOk P cx.gl cx.tab) (hrg : RgOk P cx) {f : FuncId} {fn : Func} (hf : P.funcs[f]? = some fn) {as : List SV} {ls : List Hl} {r : SV} {ls' : List Hl}
  (h : body cx fn as ls fun r' ls''=>Fin r' r ls'' ls') : CallsTo P cx.gl f as ls r ls':=by
 intro B E w vals hw0 hI0 hdom hb hg hh hr
 unfold body at h
 split at h
 ·rename_i c hbody
  refine callsIn_wide.1 (callsIn_of_wp_marks (F:=Fence.wide) (n:=0) hf hbody trivial ?_)
  refine wpIn_mono (F:=Fence.wide) (exec_sound hd hc htab hrg c _ _ h none 0 (.inl rfl) B.bare hg E _ w (start_sound (B:=B.bare) rfl hdom hb.bare hh hr)) fun e a' w' hq=>?_
  obtain ⟨B1,E',σ',hr1,hs',hk⟩:=hq
  obtain ⟨m1,m2,m3⟩:=hs'.shut hr1 rfl
  rw [←lenN_eq ls] at hdom
  have done : (∃ v,(results fn a'.tmps).run P (shut B1.dl w') = .ok v (shut B1.dl w')∧∃ v_1 E',Ending.returned v = .returned v_1∧Base B.bare E' (shut B1.dl w')∧(∀ h,h < ls'.length→HOk E' (shut B1.dl w') h (hfOf ls' h))∧Rel E' (shut B1.dl w') r v_1)→LeavesInM Fence.wide 0 P fn a'.tmps (fun e w'=>∃ v E',e = .returned v∧Base B E' w'∧(∀ h,h < ls'.length→HOk E' w' h (hfOf ls' h))∧Rel E' w' r v) a'.defers .returning w':=by
   rintro ⟨v,q1,v1,E2,q2,q3,q4,q5⟩
   rw [hs'.st.defers]
   exact leaves_marks B1.dl w' m1 m2 ⟨v,q1,v1,E2,q2,q3.unbare,q4,q5⟩
  cases e with
  | normal=>exact done (end_sound (B:=B.bare) hc hg m3 hdom hk)
  | ret=>exact done (end_sound (B:=B.bare) hc hg m3 hdom hk)
  | exit i=>exact hk.elim
  | goto l=>exact hk.elim
  | panic c=>exact hk.elim
  | outgrown=>exact hk.elim
 ·exact h.elim
theorem callsTo_of_bodyG (hd : DrawOk P) (hc : CxOk P cx) (htab : TabOk P cx.gl cx.tab) (hrg : RgOk P cx) {f : FuncId} {fn : Func} (hf : P.funcs[f]? = some fn) {as : List SV} {ls : List Hl} {r : SV} {ls' : List Hl}
  (h : bodyG cx fn as ls fun r' ls''=>Fin r' r ls'' ls') : CallsTo P cx.gl f as ls r ls':=by
 intro B E w vals hw0 hI0 hdom hb hg hh hr
 unfold bodyG at h
 split at h
 ·rename_i c hbody
  refine callsIn_wide.1 (callsIn_of_wp_marks (F:=Fence.wide) (n:=0) hf hbody trivial ?_)
  refine wpIn_mono (F:=Fence.wide) (exec_sound hd hc htab hrg c _ _ h none 0 (.inl rfl) B.bare hg E _ w (start_sound (B:=B.bare) rfl hdom hb.bare hh hr)) fun e a' w' hq=>?_
  obtain ⟨B1,E',σ',hr1,hs',hk⟩:=hq
  obtain ⟨m1,m2,m3⟩:=hs'.shut hr1 rfl
  rw [←lenN_eq ls] at hdom
  have done : (∃ v,(results fn a'.tmps).run P (shut B1.dl w') = .ok v (shut B1.dl w')∧∃ v_1 E',Ending.returned v = .returned v_1∧Base B.bare E' (shut B1.dl w')∧(∀ h,h < ls'.length→HOk E' (shut B1.dl w') h (hfOf ls' h))∧Rel E' (shut B1.dl w') r v_1)→LeavesInM Fence.wide 0 P fn a'.tmps (fun e w'=>∃ v E',e = .returned v∧Base B E' w'∧(∀ h,h < ls'.length→HOk E' w' h (hfOf ls' h))∧Rel E' w' r v) a'.defers .returning w':=by
   rintro ⟨v,q1,v1,E2,q2,q3,q4,q5⟩
   rw [hs'.st.defers]
   exact leaves_marks B1.dl w' m1 m2 ⟨v,q1,v1,E2,q2,q3.unbare,q4,q5⟩
  cases e with
  | normal=>exact done (end_soundG (B:=B.bare) hc hg m3 hdom hk)
  | ret=>exact done (end_soundG (B:=B.bare) hc hg m3 hdom hk)
  | exit i=>exact hk.elim
  | goto l=>exact hk.elim
  | panic c=>exact hk.elim
  | outgrown=>exact hk.elim
 ·exact h.elim
theorem wp_scopeN {c rest : Code} {Q : Exit→Act→World→Prop} {a : Act} {w : World} (l : Nat) (hf : findLabel c l = some rest) (R : Nat→Act→World→Prop)
  (first : c.wp P (Exit.jump l (fun a w=>∃ n,R n a w) Q) a w)
  (pass : ∀ n a w,R n a w→rest.wp P (Exit.jump l (fun a' w'=>∃ n',n' < n∧R n' a' w') Q) a w) : (Code.scope c).wp P Q a w:=by
 classical
 let μ : Act→World→Nat:=fun a w=>if h : ∃ n,R n a w then Classical.choose (exists_min h) else 0
 have hμ : ∀ a w,(∃ n,R n a w)→R (μ a w) a w∧∀ m,R m a w→μ a w≤m:=by
  intro a w h
  have : μ a w = Classical.choose (exists_min h):=by simp only [μ]; rw [dif_pos h]
  rw [this]
  exact Classical.choose_spec (exists_min h)
 refine wp_scope_jumps l (fun a w=>∃ n,R n a w) μ hf first fun a w hI=>?_
 obtain ⟨h1,h2⟩:=hμ a w hI
 refine wp_mono (pass _ a w h1) fun e a' w' hq=>?_
 cases e with
 | goto l' =>
  obtain ⟨rfl,n',hlt,hr⟩:=hq
  exact ⟨rfl,⟨n',hr⟩,Nat.lt_of_le_of_lt ((hμ a' w' ⟨n',hr⟩).2 n' hr) hlt⟩
 | _=>exact hq
theorem callsTo_of_bodyJ (hd : DrawOk P) (hc : CxOk P cx) (htab : TabOk P cx.gl cx.tab) (hrg : RgOk P cx) {f : FuncId} {fn : Func} (hf : P.funcs[f]? = some fn) {l : Nat} {pre c rest : Code} (hbody : fn.body = some (.seq pre (.scope c))) (hl : findLabel c l = some rest) {as : List SV} {ls : List Hl} {r : SV} {ls' : List Hl}
  (h : bodyJ cx fn pre c l rest as ls fun r' ls''=>Fin r' r ls'' ls') : CallsTo P cx.gl f as ls r ls':=by
 intro B E w vals hw0 hI0 hdom hb hg hh hr
 obtain ⟨keep,J,h1,h2⟩:=h
 rw [hc.D] at h1 h2
 have hdom':=hdom
 rw [←lenN_eq ls] at hdom'
 have hcw : (Code.seq pre (.scope c)).wp P (bodyPostM Fence.wide 0 P fn (fun e w'=>∃ v E',e = .returned v∧Base B E' w'∧(∀ h,h < ls'.length→HOk E' w' h (hfOf ls' h))∧Rel E' w' r v)) { tmps:=(⟨vals⟩ : Array Value) ++ Array.replicate (fn.ntmps - (⟨vals⟩ : Array Value).size) undef,defers:=[] } w:=?_
 ·exact callsIn_wide.1 (callsIn_of_wp_marks (F:=Fence.wide) (n:=0) hf hbody trivial (wpIn_wide.2 hcw))
 have done : ∀ {B1 : Bs} {E' : Env} {a' : Act} {w' : World} {σ' : Sy},Reb B.bare B1→StY B1 (startFr fn.ntmps as).length E' a' w' σ'→(match resVs cx σ' fn.results.toList with
    | some vs=>endK cx (lenN ls) vs σ' fun r' ls''=>Fin r' r ls'' ls'
    | none=>False)→LeavesInM Fence.wide 0 P fn a'.tmps (fun e w'=>∃ v E',e = .returned v∧Base B E' w'∧(∀ h,h < ls'.length→HOk E' w' h (hfOf ls' h))∧Rel E' w' r v) a'.defers .returning w':=by
  intro B1 E' a' w' σ' hr1 hs' hk
  obtain ⟨m1,m2,m3⟩:=hs'.shut hr1 rfl
  obtain ⟨v,q1,v1,E2,q2,q3,q4,q5⟩:=end_sound (B:=B.bare) hc hg m3 hdom' hk
  rw [hs'.st.defers]
  exact leaves_marks B1.dl w' m1 m2 ⟨v,q1,v1,E2,q2,q3.unbare,q4,q5⟩
 refine wp_seq (wp_mono (exec_wp hd hc htab hrg (B:=B.bare) hg pre _ _ h1 E _ w (start_sound (B:=B.bare) rfl hdom hb.bare hh hr)) fun e0 a0 w0 hq0=>?_)
 obtain ⟨B0,E0,σ0,hr0,hs0,hk0⟩:=hq0
 cases e0 with
 | ret=>exact hk0.elim
 | exit i=>exact hk0.elim
 | goto l=>exact hk0.elim
 | panic c=>exact hk0.elim
 | outgrown=>exact hk0.elim
 | normal =>
 have h1:=hk0
 refine wp_scopeN l hl (fun m a w=>∃ B1 vs hp E,Reb B.bare B1∧J m vs hp∧StY B1 (startFr fn.ntmps as).length E a w ⟨mkfr (zipN keep vs) (blank (startFr fn.ntmps as)),hp,[]⟩) ?_ ?_
 ·refine wp_mono (exec_wp hd hc htab hrg (hr0.gl hg) c _ _ h1 E0 _ w0 hs0) fun e a' w' hq=>?_
  obtain ⟨B1,E',σ',hr1,hs',hk⟩:=hq
  have hr1:=hr0.trans hr1
  cases e with
  | normal=>exact done hr1 hs' hk
  | ret=>exact done hr1 hs' hk
  | exit i=>exact hk.elim
  | goto l' =>
   obtain ⟨rfl,hb2,m2,hJ2⟩:=hk
   exact ⟨rfl,m2,_,_,_,_,hr1,hJ2,hs'.head rfl hb2 (hr1.dom hdom')⟩
  | panic c=>exact hk.elim
  | outgrown=>exact hk.elim
 ·rintro m a1 w1 ⟨B1,vs,hp,E1,hr1,hJ,hs1⟩
  refine wp_mono (exec_wp hd hc htab hrg (hr1.gl hg) rest _ _ (h2 m vs hp hJ) E1 a1 w1 hs1) fun e a' w' hq=>?_
  obtain ⟨B2,E',σ',hr2,hs',hk⟩:=hq
  have hr2:=hr1.trans hr2
  cases e with
  | normal=>exact done hr2 hs' hk
  | ret=>exact done hr2 hs' hk
  | exit i=>exact hk.elim
  | goto l' =>
   obtain ⟨rfl,hb2,m2,hlt,hJ2⟩:=hk
   exact ⟨rfl,m2,hlt,_,_,_,_,hr2,hJ2,hs'.head rfl hb2 (hr2.dom hdom')⟩
  | panic c=>exact hk.elim
  | outgrown=>exact hk.elim
end
end Go.Sx
namespace Go.Sx
open Go
abbrev Rec:=Option (Sy×List Nat×Out)
abbrev X:=(Nat→SG)×(Nat→Hl)
def updB (N : Nat) (f : Nat→SG) (d : Option Nat) (g : SG) : Nat→SG:=fun s=>if d = some s∧s < N then g else f s
def efAt (h : Nat) : Ef→Hl→Hl
 | .set h' off vs,x=>if h' = h then (match x with | .blk ty cs=>.blk ty (putN cs off vs) | x=>x) else x
 | .put h' hl,x=>if h' = h then hl else x
def efsAt (h : Nat) : List Ef→Hl→Hl
 | [],x=>x
 | e :: es,x=>efsAt h es (efAt h e x)
theorem efF_at (hf : Nat→Hl) (e : Ef) (h : Nat) : efF hf e h = efAt h e (hf h):=by
 cases e with
 | set h' off vs =>
  simp only [efF,efAt]
  by_cases e : h' = h
  ·subst e
   rw [if_pos rfl]
   cases hx : hf h'<;>simp [upd,hx]
  ·rw [if_neg e]
   cases hx : hf h'<;>simp [upd,Ne.symm e]
 | put h' hl =>
  simp only [efF,efAt,upd]
  by_cases e : h' = h
  ·subst e; simp
  ·rw [if_neg e,if_neg (fun h=>e h.symm)]
theorem efsF_at (h : Nat) : ∀ (es : List Ef) (hf : Nat→Hl),efsF hf es h = efsAt h es (hf h)
 | [],_=>rfl
 | e :: es,hf=>by
  show efsF (efF hf e) es h = efsAt h es (efAt h e (hf h))
  rw [efsF_at h es,efF_at]
def appR (N : Nat) (gm : List BT) (o : Oper) (rec : Rec) (x : X) : X :=
 match rec with
 | none=>(updB N x.1 o.dst none,x.2)
 | some (_,T,r)=>(updB N x.1 o.dst (some (condsOf gm T,r.v)),efsF x.2 r.efs)
def foldS (N : Nat) (gm : List BT) (S : Nat→Bool) : List (Oper×Rec)→Nat→X→X
 | [],_,x=>x
 | p :: l,i,x=>foldS N gm S l (i + 1) (if S i then appR N gm p.1 p.2 x else x)
def foldAll (N : Nat) (gm : List BT) : List (Oper×Rec)→X→X
 | [],x=>x
 | p :: l,x=>foldAll N gm l (appR N gm p.1 p.2 x)
theorem foldS_all {N : Nat} {gm : List BT} {S : Nat→Bool} : ∀ (L : List (Oper×Rec)) (k : Nat) (x : X),(∀ j,j < L.length→S (k + j) = true)→foldS N gm S L k x = foldAll N gm L x
 | [],_,_,_=>rfl
 | p :: L,k,x,h=>by
  have h0:=h 0 (by simp)
  simp only [Nat.add_zero] at h0
  simp only [foldS,foldAll,h0,if_true]
  exact foldS_all L (k + 1) _ fun j hj=>by have:=h (j + 1) (by simpa using hj); rwa [show k + 1 + j = k + (j + 1) by omega]
theorem foldS_none {N : Nat} {gm : List BT} {S : Nat→Bool} : ∀ (L : List (Oper×Rec)) (k : Nat) (x : X),(∀ j,j < L.length→S (k + j) = false)→foldS N gm S L k x = x
 | [],_,_,_=>rfl
 | p :: L,k,x,h=>by
  have h0:=h 0 (by simp)
  simp only [Nat.add_zero] at h0
  simp only [foldS,h0,Bool.false_eq_true,if_false]
  exact foldS_none L (k + 1) _ fun j hj=>by have:=h (j + 1) (by simpa using hj); rwa [show k + 1 + j = k + (j + 1) by omega]
theorem foldS_take {N : Nat} {gm : List BT} : ∀ (L : List (Oper×Rec)) (i k : Nat) (x : X),foldS N gm (fun j=>decide (j < k + i)) L k x = foldAll N gm (L.take i) x
 | [],i,k,x=>by simp [foldS,foldAll]
 | p :: L,0,k,x=>by
  simp only [List.take_zero,foldAll]
  exact foldS_none _ _ _ fun j _=>by simp
 | p :: L,i + 1,k,x=>by
  simp only [foldS,List.take_succ_cons,foldAll]
  rw [if_pos (by simp)]
  have:=foldS_take (N:=N) (gm:=gm) L i (k + 1) (appR N gm p.1 p.2 x)
  rw [←this]
  congr 1
  funext j
  congr 1
  exact propext (by omega)
def StepAt (P : Program) (gl : List (Nat×SV)) (all : List Oper) (o : Oper) (gm : List BT) (σ : Sy) : Rec→Prop
 | none=>guardOf all σ o.guard = some none
 | some (σ1,T,r)=>guardOf all σ o.guard = some (some (σ1,T))∧LocalY P gl σ1 T o r∧okEfs σ1.hp r.efs = true∧((T = []∨r.efs = []∨allT (condsOf σ1.gm T))∧∀ c,o.op≠.defer c)∧condsOf gm T = condsOf σ1.gm T
theorem condsOf_app {gm y : List BT} : ∀ {T : List Nat},(∀ i∈T,i < gm.length)→condsOf (gm ++ y) T = condsOf gm T
 | [],_=>rfl
 | i :: T,h=>by
  have h1:=condsOf_app (gm:=gm) (y:=y) (T:=T) fun j hj=>h j (List.mem_cons_of_mem _ hj)
  have h2 : nth (gm ++ y) i = nth gm i:=by rw [nth_eq,nth_eq,List.getElem?_append_left (h i (List.mem_cons_self ..))]
  simp only [condsOf,List.filterMap_cons,h2] at *
  rw [h1]
theorem ffOf_setD (σ : Sy) (d : Option Nat) (g : Option G) (hp : List Hl) : ffOf ⟨setD σ.fr d g,hp,σ.gm⟩ = updB σ.fr.length (ffOf σ) d (g.map fun g=>(condsOf σ.gm g.tg,g.v)):=by
 funext s
 cases d with
 | none=>simp [setD,updB,ffOf]
 | some k =>
  simp only [setD,updB,ffOf,getO_set]
  by_cases e : s = k∧k < σ.fr.length
  ·obtain ⟨rfl,h⟩:=e; simp [h]
  ·rw [if_neg e,if_neg (fun h=>e ⟨(Option.some.inj h.1).symm,by rw [Option.some.inj h.1]; exact h.2⟩)]
theorem runs_get {P : Program} {gl : List (Nat×SV)} {ops : Array Oper} {os : List Oper} {σ σ' : Sy} {rs : List Rec} (h : Runs P gl ops.toList os σ rs σ') : WfG σ→∀ N,σ.fr.length = N→
  rs.length = os.length∧WfG σ'∧σ'.fr.length = N∧σ.hp.length≤σ'.hp.length∧(∃ y,σ'.gm = σ.gm ++ y)∧(ffOf σ',hfOf σ'.hp) = foldAll N σ'.gm (os.zip rs) (ffOf σ,hfOf σ.hp)∧
  ∀ (i : Nat) (o : Oper) (rec : Rec),os[i]? = some o→rs[i]? = some rec→∃ σi,WfG σi∧σi.fr.length = N∧(ffOf σi,hfOf σi.hp) = foldAll N σ'.gm ((os.zip rs).take i) (ffOf σ,hfOf σ.hp)∧StepAt P gl ops.toList o σ'.gm σi rec:=by
 induction h with
 | nil σ=>intro wf N hN; exact ⟨rfl,wf,hN,Nat.le_refl _,⟨[],by simp⟩,rfl,by simp⟩
 | @skip o os σ σ' rs hg h ih =>
  intro wf N hN
  obtain ⟨h1,h2,h3,h4,⟨y,h5⟩,h6,h7⟩:=ih (wf.setD o.dst none (by simp) σ.hp) N (by rw [len_setD]; exact hN)
  have hx : appR N σ'.gm o none (ffOf σ,hfOf σ.hp) = (ffOf ⟨setD σ.fr o.dst none,σ.hp,σ.gm⟩,hfOf σ.hp):=by
   simp only [appR]
   rw [ffOf_setD,hN]
   rfl
  refine ⟨by simp [h1],h2,h3,h4,⟨y,h5⟩,?_,fun i o' rec hi hr=>?_⟩
  ·simp only [List.zip_cons_cons,foldAll]
   rw [hx]; exact h6
  ·cases i with
   | zero =>
    simp at hi hr
    subst hi hr
    exact ⟨σ,wf,hN,rfl,hg⟩
   | succ i =>
    simp at hi hr
    obtain ⟨σi,w1,w2,w3,w4⟩:=h7 i o' rec hi hr
    refine ⟨σi,w1,w2,?_,w4⟩
    simp only [List.zip_cons_cons,List.take_succ_cons,foldAll]
    rw [hx]; exact w3
 | @step o os σ σ1 σ' T r rs hg hl he hte h ih =>
  intro wf N hN
  obtain ⟨w1,w2,w3,w4,w5,⟨z,w6⟩,_,_⟩:=guardOf_some (ops:=ops) rfl hg wf
  obtain ⟨h1,h2,h3,h4,⟨y,h5⟩,h6,h7⟩:=ih (w1.setD o.dst (some ⟨T,none,none,r.v⟩) (by rintro g' ⟨⟩; exact ⟨w5,rfl,rfl⟩) _) N (by rw [len_setD,w4]; exact hN)
  have hT : condsOf σ'.gm T = condsOf σ1.gm T:=by rw [h5]; exact condsOf_app w5
  have hx : appR N σ'.gm o (some (σ1,T,r)) (ffOf σ,hfOf σ.hp) = (ffOf ⟨setD σ1.fr o.dst (some ⟨T,none,none,r.v⟩),efsH σ1.hp r.efs,σ1.gm⟩,hfOf (efsH σ1.hp r.efs)):=by
   simp only [appR]
   rw [ffOf_setD,hfOf_efsH _ _ he,w4,hN,w2,w3,hT]
   rfl
  refine ⟨by simp [h1],h2,h3,Nat.le_trans (by rw [←w3]; exact len_efsH _ _) h4,⟨z ++ y,by rw [h5,w6,List.append_assoc]⟩,?_,fun i o' rec hi hr=>?_⟩
  ·simp only [List.zip_cons_cons,foldAll]
   rw [hx]; exact h6
  ·cases i with
   | zero =>
    simp at hi hr
    subst hi hr
    exact ⟨σ,wf,hN,rfl,hg,hl,he,hte,hT⟩
   | succ i =>
    simp at hi hr
    obtain ⟨σi,q1,q2,q3,q4⟩:=h7 i o' rec hi hr
    refine ⟨σi,q1,q2,?_,q4⟩
    simp only [List.zip_cons_cons,List.take_succ_cons,foldAll]
    rw [hx]; exact q3
theorem appR_slot {N : Nat} {gm : List BT} {o : Oper} {rec : Rec} {x : X} {s : Nat} (h : o.dst≠some s) : (appR N gm o rec x).1 s = x.1 s:=by
 cases rec with
 | none=>simp [appR,updB,h]
 | some p=>obtain ⟨σ,T,r⟩:=p; simp [appR,updB,h]
theorem appR_slot_eq {N : Nat} {gm : List BT} {o : Oper} {rec : Rec} {x y : X} {s : Nat} (h : x.1 s = y.1 s) : (appR N gm o rec x).1 s = (appR N gm o rec y).1 s:=by
 cases rec with
 | none=>simp only [appR,updB]; split<;>simp [h]
 | some p=>obtain ⟨σ,T,r⟩:=p; simp only [appR,updB]; split<;>simp [h]
theorem foldS_slot {N : Nat} {gm : List BT} {S S' : Nat→Bool} {s : Nat} : ∀ (L : List (Oper×Rec)) (k : Nat) (x y : X),x.1 s = y.1 s→(∀ (j : Nat) (p : Oper×Rec),L[j]? = some p→p.1.dst = some s→S (k + j) = S' (k + j))→
  (foldS N gm S L k x).1 s = (foldS N gm S' L k y).1 s
 | [],_,_,_,h,_=>h
 | p :: L,k,x,y,h,hS=>by
  simp only [foldS]
  refine foldS_slot L (k + 1) _ _ ?_ fun j q hq hd=>by have:=hS (j + 1) q (by simpa using hq) hd; rwa [show k + (j + 1) = k + 1 + j by omega] at this
  by_cases hd : p.1.dst = some s
  ·have:=hS 0 p rfl hd
   simp only [Nat.add_zero] at this
   rw [this]
   split
   ·exact appR_slot_eq h
   ·exact h
  ·have a1 : (if S k then appR N gm p.1 p.2 x else x).1 s = x.1 s:=by split; exact appR_slot hd; rfl
   have a2 : (if S' k then appR N gm p.1 p.2 y else y).1 s = y.1 s:=by split; exact appR_slot hd; rfl
   rw [a1,a2,h]
def efsR : Rec→List Ef
 | none=>[]
 | some (_,_,r)=>r.efs
theorem appR_heap {N : Nat} {gm : List BT} {o : Oper} {rec : Rec} {x : X} {h : Nat} : (appR N gm o rec x).2 h = efsAt h (efsR rec) (x.2 h):=by
 cases rec with
 | none=>rfl
 | some p=>obtain ⟨σ,T,r⟩:=p; exact efsF_at h r.efs x.2
def foldH (h : Nat) (S : Nat→Bool) : List (Oper×Rec)→Nat→Hl→Hl
 | [],_,x=>x
 | p :: l,i,x=>foldH h S l (i + 1) (if S i then efsAt h (efsR p.2) x else x)
theorem foldS_heap {N : Nat} {gm : List BT} {S : Nat→Bool} {h : Nat} : ∀ (L : List (Oper×Rec)) (k : Nat) (x : X),(foldS N gm S L k x).2 h = foldH h S L k (x.2 h)
 | [],_,_=>rfl
 | p :: L,k,x=>by
  simp only [foldS,foldH]
  rw [foldS_heap L]
  congr 1
  split
  ·exact appR_heap
  ·rfl
theorem anyR_false {x : Nat×Option (Nat×Nat)} : ∀ {l : List (Nat×Option (Nat×Nat))},anyR x l = false→∀ y∈l,meetsR x y = false
 | [],_,y,hy=>by cases hy
 | z :: l,h,y,hy=>by
  simp only [anyR,Bool.or_eq_false_iff] at h
  rcases List.mem_cons.1 hy with rfl | hy
  ·exact h.1
  ·exact anyR_false h.2 y hy
theorem meetsW_false {t : List (Nat×Option (Nat×Nat))} : ∀ {l : List (Nat×Option (Nat×Nat))},meetsW l t = false→∀ x∈l,∀ y∈t,meetsR x y = false
 | [],_,x,hx,_,_=>by cases hx
 | z :: l,h,x,hx,y,hy=>by
  simp only [meetsW,Bool.or_eq_false_iff] at h
  rcases List.mem_cons.1 hx with rfl | hx
  ·exact anyR_false h.1 y hy
  ·exact meetsW_false h.2 x hx y hy
theorem meetsR_comm (x y : Nat×Option (Nat×Nat)) : meetsR x y = meetsR y x:=by
 obtain ⟨h,a⟩:=x
 obtain ⟨k,b⟩:=y
 simp only [meetsR]
 have e : (h == k) = (k == h):=BEq.comm
 rw [e]
 congr 1
 cases a with
 | none=>cases b<;>rfl
 | some a=>cases b with
  | none=>rfl
  | some b=>simp [Bool.and_comm]
def same (x y : Hl) (U : Nat→Prop) : Prop:=x = y∨∃ ty cs cs',x = .blk ty cs∧y = .blk ty cs'∧cs'.length = cs.length∧∀ j,U j→cs'[j]? = cs[j]?
theorem get_putN_out {α : Type} : ∀ (vs l : List α) (off i : Nat),(i < off∨off + vs.length≤i)→(putN l off vs)[i]? = l[i]?
 | [],_,_,_,_=>rfl
 | v :: vs,l,off,i,h=>by
  simp only [List.length_cons] at h
  rw [putN,get_putN_out vs _ (off + 1) i (by omega),setN_eq,List.getElem?_set_ne (by omega)]
theorem get_putN_same {α : Type} : ∀ (vs l l' : List α) (off i : Nat),l'.length = l.length→l'[i]? = l[i]?→(putN l' off vs)[i]? = (putN l off vs)[i]?
 | [],_,_,_,_,_,h=>h
 | v :: vs,l,l',off,i,hl,h=>by
  rw [putN,putN]
  refine get_putN_same vs _ _ (off + 1) i (by simp [setN_eq,hl]) ?_
  rw [setN_eq,setN_eq,List.getElem?_set,List.getElem?_set,hl,h]
theorem same_both {h : Nat} {U : Nat→Prop} : ∀ (es : List Ef) {x y : Hl},same x y U→same (efsAt h es x) (efsAt h es y) U
 | [],_,_,hs=>hs
 | e :: es,x,y,hs=>by
  refine same_both es ?_
  rcases hs with rfl | ⟨ty,cs,cs',rfl,rfl,hl,hU⟩
  ·exact .inl rfl
  ·cases e with
   | set h' off vs =>
    simp only [efAt]
    split
    ·exact .inr ⟨ty,_,_,rfl,rfl,by rw [len_putN,len_putN,hl],fun j hj=>get_putN_same vs _ _ off j hl (hU j hj)⟩
    ·exact .inr ⟨ty,cs,cs',rfl,rfl,hl,hU⟩
   | put h' hl' =>
    simp only [efAt]
    split
    ·exact .inl rfl
    ·exact .inr ⟨ty,cs,cs',rfl,rfl,hl,hU⟩
theorem same_trans {x y z : Hl} {U : Nat→Prop} (h1 : same x y U) (h2 : same y z U) : same x z U:=by
 rcases h1 with rfl | ⟨ty,cs,cs',rfl,rfl,hl,hU⟩
 ·exact h2
 ·rcases h2 with rfl | ⟨ty2,cs2,cs3,e,rfl,hl2,hU2⟩
  ·exact .inr ⟨ty,cs,cs',rfl,rfl,hl,hU⟩
  ·cases e
   exact .inr ⟨ty,cs,cs3,rfl,rfl,by rw [hl2,hl],fun j hj=>by rw [hU2 j hj,hU j hj]⟩
theorem same_symm {x y : Hl} {U : Nat→Prop} (h1 : same x y U) : same y x U:=by
 rcases h1 with rfl | ⟨ty,cs,cs',rfl,rfl,hl,hU⟩
 ·exact .inl rfl
 ·exact .inr ⟨ty,cs',cs,rfl,rfl,hl.symm,fun j hj=>(hU j hj).symm⟩
def inR (ρ : Nat×Option (Nat×Nat)) (j : Nat) : Prop:=match ρ.2 with
 | none=>True
 | some (off,n)=>off≤j∧j < off + n
theorem same_apart {ρ : Nat×Option (Nat×Nat)} : ∀ (es : List Ef) (x : Hl),(∀ y∈efW es,meetsR y ρ = false)→same x (efsAt ρ.1 es x) (inR ρ)∧(ρ.2 = none→efsAt ρ.1 es x = x)
 | [],x,_=>⟨.inl rfl,fun _=>rfl⟩
 | e :: es,x,h=>by
  have head : same x (efAt ρ.1 e x) (inR ρ)∧(ρ.2 = none→efAt ρ.1 e x = x):=by
   obtain ⟨hh,a⟩:=ρ
   cases e with
   | set h' off vs =>
    have hm:=h (h',some (off,lenN vs)) (by simp [efW])
    simp only [efAt]
    by_cases e : h' = hh
    ·subst e
     rw [if_pos rfl]
     cases x<;>try exact ⟨.inl rfl,fun _=>rfl⟩
     rename_i ty cs
     cases a with
     | none=>simp [meetsR] at hm
     | some a =>
      obtain ⟨o2,n2⟩:=a
      simp only [meetsR,beq_self_eq_true,Bool.true_and,lenN_eq,Bool.and_eq_false_iff] at hm
      refine ⟨.inr ⟨ty,cs,_,rfl,rfl,len_putN _ _ _,fun j hj=>get_putN_out _ _ _ _ ?_⟩,fun h=>by cases h⟩
      simp only [inR] at hj
      rcases hm with hm | hm
      ·have : ¬ off < o2 + n2:=by intro hlt; rw [(Nat.blt_eq ▸ hlt : Nat.blt _ _ = true)] at hm; cases hm
       omega
      ·have : ¬ o2 < off + vs.length:=by intro hlt; rw [(Nat.blt_eq ▸ hlt : Nat.blt _ _ = true)] at hm; cases hm
       omega
    ·rw [if_neg e]; exact ⟨.inl rfl,fun _=>rfl⟩
   | put h' hl =>
    have hm:=h (h',none) (by simp [efW])
    simp only [efAt]
    by_cases e : h' = hh
    ·subst e; simp [meetsR] at hm
    ·rw [if_neg e]; exact ⟨.inl rfl,fun _=>rfl⟩
  have htl : ∀ y∈efW es,meetsR y ρ = false:=fun y hy=>h y (by cases e<;>simp [efW,hy])
  obtain ⟨t1,t2⟩:=same_apart es (efAt ρ.1 e x) htl
  exact ⟨same_trans head.1 t1,fun hn=>by show efsAt ρ.1 es (efAt ρ.1 e x) = x; rw [t2 hn,head.2 hn]⟩
theorem foldH_agree {ρ : Nat×Option (Nat×Nat)} {S S' : Nat→Bool} : ∀ (L : List (Oper×Rec)) (k : Nat) (x y : Hl),same x y (inR ρ)→(ρ.2 = none→x = y)→(∀ (j : Nat) (p : Oper×Rec),L[j]? = some p→S (k + j)≠S' (k + j)→∀ z∈efW (efsR p.2),meetsR z ρ = false)→
  same (foldH ρ.1 S L k x) (foldH ρ.1 S' L k y) (inR ρ)∧(ρ.2 = none→foldH ρ.1 S L k x = foldH ρ.1 S' L k y)
 | [],_,_,_,h,hn,_=>⟨h,hn⟩
 | p :: L,k,x,y,h,hn,hS=>by
  simp only [foldH]
  have hrec:=fun (x' y' : Hl) (hs : same x' y' (inR ρ)) (he : ρ.2 = none→x' = y')=>foldH_agree (ρ:=ρ) (S:=S) (S':=S') L (k + 1) x' y' hs he fun j q hq hd=>hS (j + 1) q (by simpa using hq) (by rwa [show k + (j + 1) = k + 1 + j by omega])
  have h0:=hS 0 p rfl
  simp only [Nat.add_zero] at h0
  cases hSk : S k<;>cases hSk' : S' k
  ·exact hrec x y h hn
  ·obtain ⟨a1,a2⟩:=same_apart (ρ:=ρ) (efsR p.2) y (h0 (by rw [hSk,hSk']; decide))
   exact hrec x _ (same_trans h a1) (fun e=>by rw [if_pos rfl,a2 e]; exact hn e)
  ·obtain ⟨a1,a2⟩:=same_apart (ρ:=ρ) (efsR p.2) x (h0 (by rw [hSk,hSk']; decide))
   exact hrec _ y (same_trans (same_symm a1) h) (fun e=>by rw [if_pos rfl,a2 e]; exact hn e)
  ·exact hrec _ _ (same_both _ h) (fun e=>by rw [hn e])
theorem putN_setN {α : Type} : ∀ (vs l : List α) (off i : Nat) (v : α),(i < off∨off + vs.length≤i)→putN (setN l i v) off vs = setN (putN l off vs) i v
 | [],_,_,_,_,_=>rfl
 | u :: vs,l,off,i,v,h=>by
  simp only [List.length_cons] at h
  rw [putN,putN,←putN_setN vs _ (off + 1) i v (by omega)]
  congr 1
  rw [setN_eq,setN_eq,setN_eq,setN_eq,List.set_comm _ _ (by omega)]
theorem putN_putN {α : Type} : ∀ (us vs l : List α) (o1 o2 : Nat),(o1 + us.length≤o2∨o2 + vs.length≤o1∨us = []∨vs = [])→putN (putN l o1 us) o2 vs = putN (putN l o2 vs) o1 us
 | [],vs,l,o1,o2,_=>rfl
 | u :: us,[],l,o1,o2,_=>rfl
 | u :: us,v :: vs,l,o1,o2,h=>by
  have h : o1 + (us.length + 1)≤o2∨o2 + (vs.length + 1)≤o1:=by
   rcases h with h | h | h | h
   ·exact .inl h
   ·exact .inr h
   ·cases h
   ·cases h
  rw [show putN l o1 (u :: us) = putN (setN l o1 u) (o1 + 1) us from rfl,putN_putN us (v :: vs) (setN l o1 u) (o1 + 1) o2 (by simp only [List.length_cons]; omega)]
  rw [putN_setN (v :: vs) l o2 o1 u (by simp only [List.length_cons]; omega)]
  rfl
theorem efAt_comm {h : Nat} {e e' : Ef} {y y' : Nat×Option (Nat×Nat)} (hy : efW [e] = [y]) (hy' : efW [e'] = [y']) (hm : meetsR y y' = false) (x : Hl) : efAt h e (efAt h e' x) = efAt h e' (efAt h e x):=by
 cases e with
 | set h1 o1 us =>
  cases e' with
  | set h2 o2 vs =>
   simp only [efAt]
   by_cases e1 : h1 = h<;>by_cases e2 : h2 = h<;>simp only [e1,e2,if_true,if_false]
   subst e1
   cases x<;>try rfl
   simp only [efW,List.cons.injEq,and_true] at hy hy'
   subst hy hy'
   subst e2
   simp only [meetsR,beq_self_eq_true,Bool.true_and,Bool.and_eq_false_iff,lenN_eq] at hm
   refine congrArg (Hl.blk _) (putN_putN us vs _ o1 o2 ?_).symm
   rcases hm with hm | hm
   ·have : ¬ o1 < o2 + vs.length:=by intro hlt; rw [(Nat.blt_eq ▸ hlt : Nat.blt _ _ = true)] at hm; cases hm
    exact .inr (.inl (by omega))
   ·have : ¬ o2 < o1 + us.length:=by intro hlt; rw [(Nat.blt_eq ▸ hlt : Nat.blt _ _ = true)] at hm; cases hm
    exact .inl (by omega)
  | put h2 hl =>
   simp only [efAt]
   by_cases e1 : h1 = h<;>by_cases e2 : h2 = h<;>simp only [e1,e2,if_true,if_false]
   simp only [efW,List.cons.injEq,and_true] at hy hy'
   subst hy hy'
   simp [meetsR,e1,e2] at hm
 | put h1 hl =>
  cases e' with
  | set h2 o2 vs =>
   simp only [efAt]
   by_cases e1 : h1 = h<;>by_cases e2 : h2 = h<;>simp only [e1,e2,if_true,if_false]
   simp only [efW,List.cons.injEq,and_true] at hy hy'
   subst hy hy'
   simp [meetsR,e1,e2] at hm
  | put h2 hl2 =>
   simp only [efAt]
   by_cases e1 : h1 = h<;>by_cases e2 : h2 = h<;>simp only [e1,e2,if_true,if_false]
   simp only [efW,List.cons.injEq,and_true] at hy hy'
   subst hy hy'
   simp [meetsR,e1,e2] at hm
theorem efW_one (e : Ef) : ∃ y,efW [e] = [y]:=by cases e<;>exact ⟨_,rfl⟩
theorem efW_cons (e : Ef) (es : List Ef) {y : Nat×Option (Nat×Nat)} (hy : efW [e] = [y]) : efW (e :: es) = y :: efW es:=by
 cases e<;>simp only [efW,List.cons.injEq,and_true] at hy ⊢<;>exact hy
theorem efsAt_ef {h : Nat} {e : Ef} {y : Nat×Option (Nat×Nat)} (hy : efW [e] = [y]) : ∀ (es : List Ef) (x : Hl),(∀ z∈efW es,meetsR y z = false)→efsAt h es (efAt h e x) = efAt h e (efsAt h es x)
 | [],_,_=>rfl
 | e' :: es,x,hm=>by
  obtain ⟨y',hy'⟩:=efW_one e'
  rw [efW_cons e' es hy'] at hm
  show efsAt h es (efAt h e' (efAt h e x)) = efAt h e (efsAt h es (efAt h e' x))
  rw [←efsAt_ef hy es (efAt h e' x) fun z hz=>hm z (List.mem_cons_of_mem _ hz)]
  rw [efAt_comm hy hy' (hm y' (List.mem_cons_self ..))]
theorem efsAt_comm {h : Nat} : ∀ (es es' : List Ef) (x : Hl),(∀ y∈efW es,∀ z∈efW es',meetsR y z = false)→efsAt h es' (efsAt h es x) = efsAt h es (efsAt h es' x)
 | [],_,_,_=>rfl
 | e :: es,es',x,hm=>by
  obtain ⟨y,hy⟩:=efW_one e
  rw [efW_cons e es hy] at hm
  show efsAt h es' (efsAt h es (efAt h e x)) = efsAt h es (efAt h e (efsAt h es' x))
  rw [efsAt_comm es es' _ fun y hy=>hm y (List.mem_cons_of_mem _ hy)]
  rw [efsAt_ef hy es' x (hm y (List.mem_cons_self ..))]
theorem foldH_comm {h : Nat} {S : Nat→Bool} {es : List Ef} : ∀ (L : List (Oper×Rec)) (k : Nat) (x : Hl),(∀ (j : Nat) (p : Oper×Rec),L[j]? = some p→S (k + j) = true→∀ y∈efW es,∀ z∈efW (efsR p.2),meetsR y z = false)→
  foldH h S L k (efsAt h es x) = efsAt h es (foldH h S L k x)
 | [],_,_,_=>rfl
 | p :: L,k,x,hm=>by
  simp only [foldH]
  have hrec:=fun x=>foldH_comm (h:=h) (S:=S) (es:=es) L (k + 1) x fun j q hq hd=>hm (j + 1) q (by simpa using hq) (by rwa [show k + (j + 1) = k + 1 + j by omega])
  cases hSk : S k with
  | false=>exact hrec x
  | true =>
   simp only [if_true]
   rw [efsAt_comm es (efsR p.2) x (hm 0 p rfl (by simpa using hSk)),hrec]
theorem foldH_insert {h : Nat} {S S' : Nat→Bool} : ∀ (L : List (Oper×Rec)) (i k : Nat) (x : Hl) (p : Oper×Rec),L[i]? = some p→S (k + i) = false→S' (k + i) = true→(∀ j,j≠k + i→S' j = S j)→
  (∀ (j : Nat) (q : Oper×Rec),i < j→L[j]? = some q→S (k + j) = true→∀ y∈efW (efsR p.2),∀ z∈efW (efsR q.2),meetsR y z = false)→
  foldH h S' L k x = efsAt h (efsR p.2) (foldH h S L k x)
 | [],i,_,_,_,h,_,_,_,_=>by simp at h
 | q :: L,0,k,x,p,hp,h1,h2,hS,hm=>by
  simp at hp
  subst hp
  simp only [Nat.add_zero] at h1 h2
  simp only [foldH,h1,h2,if_true,Bool.false_eq_true,if_false]
  have e : foldH h S' L (k + 1) (efsAt h (efsR q.2) x) = foldH h S L (k + 1) (efsAt h (efsR q.2) x):=by
   have : ∀ (L : List (Oper×Rec)) (m : Nat) (x : Hl),k < m→foldH h S' L m x = foldH h S L m x:=by
    intro L
    induction L with
    | nil=>intro m x _; rfl
    | cons r L ih=>intro m x hlt; simp only [foldH]; rw [hS m (by omega)]; exact ih _ _ (by omega)
   exact this L (k + 1) _ (by omega)
  rw [e]
  exact foldH_comm L (k + 1) x fun j r hr hd=>hm (j + 1) r (by omega) (by simpa using hr) (by rwa [show k + (j + 1) = k + 1 + j by omega])
 | q :: L,i + 1,k,x,p,hp,h1,h2,hS,hm=>by
  simp only [foldH]
  rw [hS k (by omega)]
  exact foldH_insert L i (k + 1) _ p (by simpa using hp) (by rwa [show k + 1 + i = k + (i + 1) by omega]) (by rwa [show k + 1 + i = k + (i + 1) by omega]) (fun j hj=>hS j (by omega))
   fun j r hj hr hd=>hm (j + 1) r (by omega) (by simpa using hr) (by rwa [show k + (j + 1) = k + 1 + j by omega])
end Go.Sx
namespace Go.Sx
open Go
theorem mem_edgesL {n : Nat} : ∀ {es : List Edge},n∈edgesL es→∃ e∈es,Region.binds .any e = true∧e.on = n
 | [],h=>by simp [edgesL] at h
 | e :: es,h=>by
  simp only [edgesL,List.mem_append] at h
  rcases h with h | h
  ·refine ⟨e,List.mem_cons_self ..,?_⟩
   cases hg : e.ground<;>simp only [hg,List.mem_singleton,List.not_mem_nil] at h<;>exact ⟨by simp [Region.binds,hg],h.symm⟩
  ·obtain ⟨e',h1,h2⟩:=mem_edgesL h
   exact ⟨e',List.mem_cons_of_mem _ h1,h2⟩
theorem edgesL_mem {e : Edge} : ∀ {es : List Edge},e∈es→Region.binds .any e = true→e.on∈edgesL es
 | [],h,_=>by cases h
 | e' :: es,h,hb=>by
  simp only [edgesL,List.mem_append]
  rcases List.mem_cons.1 h with rfl | h
  ·left
   cases hg : e.ground<;>simp [Region.binds,hg] at hb ⊢
  ·exact .inr (edgesL_mem h hb)
theorem mem_unionN {x : Nat} : ∀ {l t : List Nat},x∈unionN l t→x∈l∨x∈t
 | [],_,h=>.inr h
 | y :: l,t,h=>by
  rcases mem_unionN (l:=l) h with h | h
  ·exact .inl (List.mem_cons_of_mem _ h)
  ·unfold addN at h
   split at h
   ·exact .inr h
   ·rcases List.mem_cons.1 h with rfl | h
    ·exact .inl (List.mem_cons_self ..)
    ·exact .inr h
theorem mem_addN {x y : Nat} {l : List Nat} (h : x∈addN y l) : x = y∨x∈l:=by
 unfold addN at h
 split at h
 ·exact .inr h
 ·exact List.mem_cons.1 h
theorem mem_backed {acc : List (List Nat)} {x : Nat} : ∀ {l : List Nat},x∈backed acc l→∃ i∈l,x = i∨x∈(nth acc i).getD []
 | [],h=>by simp [backed] at h
 | i :: l,h=>by
  simp only [backed] at h
  rcases mem_unionN h with h | h
  ·exact ⟨i,List.mem_cons_self ..,mem_addN h⟩
  ·obtain ⟨j,h1,h2⟩:=mem_backed h
   exact ⟨j,List.mem_cons_of_mem _ h1,h2⟩
theorem lowAll_iff {n : Nat} : ∀ {l : List Nat},lowAll n l = true→∀ x∈l,x < n
 | [],_,x,h=>by cases h
 | y :: l,h,x,hx=>by
  simp only [lowAll,Bool.and_eq_true,Nat.blt_eq] at h
  rcases List.mem_cons.1 hx with rfl | hx
  ·exact h.1
  ·exact lowAll_iff h.2 x hx
theorem edgesOk_get : ∀ {os : List Oper} {k : Nat},edgesOk os k = true→∀ {j : Nat} {o : Oper},os[j]? = some o→∀ x∈edgesL o.after.toList,x < k + j
 | [],_,_,j,o,h=>by simp at h
 | o0 :: os,k,hk,j,o,h=>by
  simp only [edgesOk,Bool.and_eq_true] at hk
  cases j with
  | zero=>simp at h; subst h; exact lowAll_iff hk.1
  | succ j =>
   simp at h
   intro x hx
   have:=edgesOk_get hk.2 h x hx
   omega
theorem befores_in {S : Nat→Prop} {all : List Oper} (hdown : ∀ (k : Nat) (o : Oper),all[k]? = some o→S k→∀ x∈edgesL o.after.toList,S x) (hok : edgesOk all 0 = true) :
  ∀ (os : List Oper) (acc : List (List Nat)),(∀ (j : Nat) (o : Oper),os[j]? = some o→all[acc.length + j]? = some o)→
   (∀ (j : Nat) (o : Oper) (l : List Nat),all[j]? = some o→acc[j]? = some l→(∀ x∈edgesL o.after.toList,S x)→∀ x∈l,S x)→
   ∀ (j : Nat) (o : Oper) (l : List Nat),all[j]? = some o→(befores os acc)[j]? = some l→(∀ x∈edgesL o.after.toList,S x)→∀ x∈l,S x
 | [],acc,_,hacc=>fun j o l ho hl=>hacc j o l ho hl
 | o0 :: os,acc,hal,hacc=>by
  have h0:=hal 0 o0 rfl
  simp only [Nat.add_zero] at h0
  refine befores_in hdown hok os (acc ++ [backed acc (edgesL o0.after.toList)]) (fun j o h=>?_) (fun j o l ho hl he x hx=>?_)
  ·have:=hal (j + 1) o (by simpa using h)
   simp only [List.length_append,List.length_singleton]
   rwa [show acc.length + 1 + j = acc.length + (j + 1) by omega]
  ·by_cases hj : j < acc.length
   ·rw [List.getElem?_append_left hj] at hl
    exact hacc j o l ho hl he x hx
   ·have hje : j = acc.length:=by
     have:=(List.getElem?_eq_some_iff.1 hl).1
     simp at this
     omega
    subst hje
    rw [h0] at ho
    cases ho
    simp at hl
    subst hl
    obtain ⟨i,hi,hx⟩:=mem_backed hx
    have hSi:=he i hi
    rcases hx with rfl | hx
    ·exact hSi
    ·have hlt : i < acc.length:=by have:=edgesOk_get hok h0 i hi; omega
     have hai : all[i]? = some (all[i]'(by have:=(List.getElem?_eq_some_iff.1 h0).1; omega)):=List.getElem?_eq_getElem _
     rw [nth_eq,List.getElem?_eq_getElem hlt] at hx
     exact hacc i _ _ hai (List.getElem?_eq_getElem hlt) (hdown i _ hai hSi) x hx
theorem apartFrom_get {all : List Oper} {bs : List (List Nat)} {i : Nat} {o : Oper} {f : FP} : ∀ {os : List Oper} {fs : List FP} {j : Nat},apartFrom all bs i o f os fs j = true→∀ {m : Nat} {o' : Oper} {f' : FP},os[m]? = some o'→fs[m]? = some f'→
  clash all o f o' f' = false∨i∈(nth bs (j + m)).getD []
 | [],_,_,_,m,o',f',h,_=>by simp at h
 | _ :: _,[],_,_,m,o',f',_,h=>by simp at h
 | o1 :: os,f1 :: fs,j,h,m,o',f',h1,h2=>by
  simp only [apartFrom,Bool.and_eq_true,Bool.or_eq_true,Bool.not_eq_true',hasN_iff] at h
  cases m with
  | zero=>simp at h1 h2; subst h1 h2; exact h.1
  | succ m =>
   simp at h1 h2
   have:=apartFrom_get h.2 h1 h2
   rwa [show j + 1 + m = j + (m + 1) by omega] at this
theorem indep_get {all : List Oper} {bs : List (List Nat)} : ∀ {os : List Oper} {fs : List FP} {k : Nat},indep all bs os fs k = true→∀ {i j : Nat} {o o' : Oper} {f f' : FP},i < j→os[i]? = some o→os[j]? = some o'→fs[i]? = some f→fs[j]? = some f'→
  clash all o f o' f' = false∨(k + i)∈(nth bs (k + j)).getD []
 | [],_,_,_,i,j,o,o',f,f',_,h,_,_,_=>by simp at h
 | _ :: _,[],_,_,i,j,o,o',f,f',_,_,_,h,_=>by simp at h
 | o1 :: os,f1 :: fs,k,h,i,j,o,o',f,f',hij,h1,h2,h3,h4=>by
  simp only [indep,Bool.and_eq_true] at h
  obtain ⟨m,rfl⟩ : ∃ m,j = m + 1:=⟨j - 1,by omega⟩
  simp at h2 h4
  cases i with
  | zero =>
   simp at h1 h3
   subst h1 h3
   have:=apartFrom_get h.1 h2 h4
   simpa [show k + 1 + m = k + (m + 1) by omega] using this
  | succ i =>
   simp at h1 h3
   have:=indep_get h.2 (i:=i) (j:=m) (by omega) h1 h2 h3 h4
   rwa [show k + 1 + i = k + (i + 1) by omega,show k + 1 + m = k + (m + 1) by omega] at this
theorem mem_slotsL {s : Nat} : ∀ {xs : List Operand},s∈xs.flatMap opSlots→s∈slotsL xs
 | [],h=>by simp at h
 | x :: xs,h=>by
  simp only [List.flatMap_cons,List.mem_append] at h
  simp only [slotsL,List.mem_append]
  rcases h with h | h
  ·left
   cases x with
   | tmp _=>simpa [opSlots,opSlot] using h
   | _=>simp [opSlots] at h
  ·exact .inr (mem_slotsL h)
theorem meetsN_false {t : List Nat} : ∀ {l : List Nat},meetsN l t = false→∀ x∈l,x ∉ t
 | [],_,x,h=>by cases h
 | y :: l,h,x,hx=>by
  simp only [meetsN,Bool.or_eq_false_iff] at h
  rcases List.mem_cons.1 hx with rfl | hx
  ·intro hm; rw [(hasN_iff _ _).2 hm] at h; cases h.1
  ·exact meetsN_false h.2 x hx
theorem guardSlot_mem {all : List Oper} {o : Oper} {j : Nat} {want : Bool} {s : Nat} (hg : o.guard = some (j,want)) (h : (nth all j).bind (·.dst) = some s) : s∈guardSlot all o.guard:=by
 rw [hg]
 simp only [guardSlot]
 cases hj : nth all j with
 | none=>rw [hj] at h; cases h
 | some oj =>
  rw [hj] at h
  simp only [Option.bind_some] at h
  simp [h]
section
variable {P : Program} {ops : Array Oper} {gl : List (Nat×SV)} {B : Bs} {N : Nat} {σ σ' : Sy} {rs : List Rec}
structure Ctx (P : Program) (ops : Array Oper) (gl : List (Nat×SV)) (N : Nat) (σ σ' : Sy) (rs : List Rec) : Prop where
 len : rs.length = ops.size
 step : ∀ (i : Nat) (o : Oper) (rec : Rec),ops[i]? = some o→rs[i]? = some rec→∃ σi,WfG σi∧σi.fr.length = N∧(ffOf σi,hfOf σi.hp) = foldAll N σ'.gm ((ops.toList.zip rs).take i) (ffOf σ,hfOf σ.hp)∧StepAt P gl ops.toList o σ'.gm σi rec
 edges : edgesOk ops.toList 0 = true
 ind : indep ops.toList (befores ops.toList []) ops.toList (rs.map fpR) 0 = true
def xS (N : Nat) (ops : Array Oper) (σ σ' : Sy) (rs : List Rec) (S : Nat→Bool) : X:=foldS N σ'.gm S (ops.toList.zip rs) 0 (ffOf σ,hfOf σ.hp)
structure Down (ops : Array Oper) (S : Nat→Bool) : Prop where
 down : ∀ (k : Nat) (o : Oper),ops[k]? = some o→S k = true→∀ x∈edgesL o.after.toList,S x = true
theorem before_S (h : Ctx P ops gl N σ σ' rs) {S : Nat→Bool} (hd : Down ops S) {j : Nat} {o : Oper} (ho : ops[j]? = some o) (he : ∀ x∈edgesL o.after.toList,S x = true) {i : Nat} (hi : i∈(nth (befores ops.toList []) j).getD []) : S i = true:=by
 rw [nth_eq] at hi
 cases hl : (befores ops.toList [])[j]? with
 | none=>rw [hl] at hi; simp at hi
 | some l =>
  rw [hl] at hi
  refine befores_in (S:=fun i=>S i = true) (all:=ops.toList) (fun k o ho hs=>hd.down k o (by rw [←Array.getElem?_toList]; exact ho) hs) h.edges ops.toList [] (by simp) (by simp) j o l (by rw [Array.getElem?_toList]; exact ho) hl he i hi
theorem fpR_wr (rec : Rec) : (fpR rec).wr = efW (efsR rec):=by
 cases rec with
 | none=>rfl
 | some p=>obtain ⟨a,b,c⟩:=p; rfl
theorem apart_of (h : Ctx P ops gl N σ σ' rs) {S : Nat→Bool} (hd : Down ops S) {i : Nat} {o : Oper} {rec : Rec} (ho : ops[i]? = some o) (hr : rs[i]? = some rec) (hi : S i = false) (he : ∀ x∈edgesL o.after.toList,S x = true)
  {k : Nat} {p : Oper×Rec} (hk : (ops.toList.zip rs)[k]? = some p) (hdiff : S k≠decide (k < i)) :
  (∀ s,p.1.dst = some s→s ∉ looks ops.toList o)∧(∀ z∈efW (efsR p.2),∀ y∈rdR (fpR rec),meetsR z y = false)∧(∀ z∈efW (efsR p.2),∀ y∈efW (efsR rec),meetsR z y = false)∧(k≠i→∀ s,p.1.dst = some s→o.dst≠some s)∧k≠i:=by
 have hki : k≠i:=by rintro rfl; apply hdiff; rw [hi]; simp
 rw [List.getElem?_zip_eq_some] at hk
 obtain ⟨hk1,hk2⟩:=hk
 have hk1' : ops[k]? = some p.1:=by rw [←Array.getElem?_toList]; exact hk1
 by_cases hlt : k < i
 ·have hSk : S k = false:=by
   cases hs : S k with
   | false=>rfl
   | true=>exact absurd (by rw [hs]; simp [hlt]) hdiff
  rcases indep_get h.ind hlt hk1 (by rw [Array.getElem?_toList]; exact ho) (by rw [List.getElem?_map,hk2]; rfl) (by rw [List.getElem?_map,hr]; rfl) with hc | hc
  ·simp only [clash,Bool.or_eq_false_iff] at hc
   obtain ⟨⟨⟨⟨⟨c1,c2⟩,c3⟩,c4⟩,c5⟩,c6⟩:=hc
   rw [fpR_wr] at c4 c5
   rw [fpR_wr] at c5
   exact ⟨fun s hs=>meetsN_false c1 s (by simp [hs,optL]),fun z hz y hy=>meetsW_false c4 z hz y hy,fun z hz y hy=>meetsW_false c5 z hz y hy,fun _ s hs e=>meetsN_false c2 s (by simp [hs,optL]) (by simp [e,optL]),hki⟩
  ·simp only [Nat.zero_add] at hc
   rw [before_S h hd ho he hc] at hSk
   cases hSk
 ·have hgt : i < k:=by omega
  have hSk : S k = true:=by
   cases hs : S k with
   | true=>rfl
   | false=>exact absurd (by rw [hs]; simp [hlt]) hdiff
  rcases indep_get h.ind hgt (by rw [Array.getElem?_toList]; exact ho) hk1 (by rw [List.getElem?_map,hr]; rfl) (by rw [List.getElem?_map,hk2]; rfl) with hc | hc
  ·simp only [clash,Bool.or_eq_false_iff] at hc
   obtain ⟨⟨⟨⟨⟨c1,c2⟩,c3⟩,c4⟩,c5⟩,c6⟩:=hc
   rw [fpR_wr] at c4 c5
   rw [fpR_wr] at c5 c6
   refine ⟨fun s hs=>meetsN_false c3 s (by simp [hs,optL]),fun z hz y hy=>meetsW_false c6 z hz y hy,fun z hz y hy=>by rw [meetsR_comm]; exact meetsW_false c5 y hy z hz,fun _ s hs e=>meetsN_false c2 s (by simp [e,optL]) (by simp [hs,optL]),hki⟩
  ·simp only [Nat.zero_add] at hc
   have:=before_S h hd hk1' (hd.down k _ hk1' hSk) hc
   rw [this] at hi
   cases hi
theorem xS_slot (h : Ctx P ops gl N σ σ' rs) {S : Nat→Bool} (hd : Down ops S) {i : Nat} {o : Oper} {rec : Rec} (ho : ops[i]? = some o) (hr : rs[i]? = some rec) (hi : S i = false) (he : ∀ x∈edgesL o.after.toList,S x = true) {s : Nat} (hs : s∈looks ops.toList o) :
  (xS N ops σ σ' rs S).1 s = (foldAll N σ'.gm ((ops.toList.zip rs).take i) (ffOf σ,hfOf σ.hp)).1 s:=by
 rw [←foldS_take (ops.toList.zip rs) i 0]
 refine foldS_slot _ 0 _ _ rfl fun k p hk hdst=>?_
 simp only [Nat.zero_add]
 by_cases e : S k = decide (k < i)
 ·exact e
 ·exact absurd hs ((apart_of h hd ho hr hi he hk e).1 s hdst)
theorem xS_heap (h : Ctx P ops gl N σ σ' rs) {S : Nat→Bool} (hd : Down ops S) {i : Nat} {o : Oper} {rec : Rec} (ho : ops[i]? = some o) (hr : rs[i]? = some rec) (hi : S i = false) (he : ∀ x∈edgesL o.after.toList,S x = true) {ρ : Nat×Option (Nat×Nat)}
  (hρ : ρ∈rdR (fpR rec)∨ρ∈efW (efsR rec)) : same ((xS N ops σ σ' rs S).2 ρ.1) ((foldAll N σ'.gm ((ops.toList.zip rs).take i) (ffOf σ,hfOf σ.hp)).2 ρ.1) (inR ρ)∧
   (ρ.2 = none→(xS N ops σ σ' rs S).2 ρ.1 = (foldAll N σ'.gm ((ops.toList.zip rs).take i) (ffOf σ,hfOf σ.hp)).2 ρ.1):=by
 rw [←foldS_take (ops.toList.zip rs) i 0,xS,foldS_heap,foldS_heap]
 refine foldH_agree _ 0 _ _ (.inl rfl) (fun _=>rfl) fun k p hk hdiff z hz=>?_
 simp only [Nat.zero_add] at hdiff
 obtain ⟨_,a2,a3,_⟩:=apart_of h hd ho hr hi he hk hdiff
 rcases hρ with hρ | hρ
 ·exact a2 z hz ρ hρ
 ·exact a3 z hz ρ hρ
theorem xS_insert (h : Ctx P ops gl N σ σ' rs) {S S' : Nat→Bool} (hd : Down ops S) {i : Nat} {o : Oper} {rec : Rec} (ho : ops[i]? = some o) (hr : rs[i]? = some rec) (hi : S i = false) (he : ∀ x∈edgesL o.after.toList,S x = true) (hi' : S' i = true) (hS : ∀ j,j≠i→S' j = S j) :
  xS N ops σ σ' rs S' = appR N σ'.gm o rec (xS N ops σ σ' rs S):=by
 have hlt : i < rs.length:=(List.getElem?_eq_some_iff.1 hr).1
 have hp : (ops.toList.zip rs)[i]? = some (o,rec):=by rw [List.getElem?_zip_eq_some]; exact ⟨by rw [Array.getElem?_toList]; exact ho,hr⟩
 apply Prod.ext
 ·funext s
  by_cases hds : o.dst = some s∧s < N
  ·-- the slot that it writes
   have key : ∀ (L : List (Oper×Rec)) (i k : Nat) (x : X),L[i]? = some (o,rec)→S' (k + i) = true→(∀ (j : Nat) (q : Oper×Rec),i < j→L[j]? = some q→q.1.dst = some s→S' (k + j) = false)→(foldS N σ'.gm S' L k x).1 s = (appR N σ'.gm o rec x).1 s:=by
    intro L
    induction L with
    | nil=>intro i k x h; simp at h
    | cons q L ih =>
     intro i k x hL h1 h2
     cases i with
     | zero =>
      simp at hL
      subst hL
      simp only [Nat.add_zero] at h1
      simp only [foldS,h1,if_true]
      have : (foldS N σ'.gm S' L (k + 1) (appR N σ'.gm o rec x)).1 s = (foldS N σ'.gm (fun _=>false) L (k + 1) (appR N σ'.gm o rec x)).1 s :=
       foldS_slot L (k + 1) _ _ rfl fun j q hq hdq=>by have:=h2 (j + 1) q (by omega) (by simpa using hq) hdq; rwa [show k + (j + 1) = k + 1 + j by omega] at this
      rw [this,foldS_none L (k + 1) _ fun _ _=>rfl]
     | succ i =>
      simp only [foldS]
      rw [ih i (k + 1) _ (by simpa using hL) (by rwa [show k + 1 + i = k + (i + 1) by omega]) fun j q hj hq hdq=>by have:=h2 (j + 1) q (by omega) (by simpa using hq) hdq; rwa [show k + (j + 1) = k + 1 + j by omega] at this]
      cases rec with
      | none=>simp [appR,updB,hds.1,hds.2]
      | some p=>obtain ⟨a,b,c⟩:=p; simp [appR,updB,hds.1,hds.2]
   have:=key (ops.toList.zip rs) i 0 (ffOf σ,hfOf σ.hp) hp (by simpa using hi') fun j q hj hq hdq=>by
    simp only [Nat.zero_add]
    rw [hS j (by omega)]
    cases hs : S j with
    | false=>rfl
    | true =>
     obtain ⟨_,_,_,a4,_⟩:=apart_of h hd ho hr hi he hq (by rw [hs]; simp; omega)
     exact absurd hds.1 (a4 (by omega) s hdq)
   rw [xS,this]
   cases rec with
   | none=>simp [appR,updB,hds.1,hds.2]
   | some p=>obtain ⟨a,b,c⟩:=p; simp [appR,updB,hds.1,hds.2]
  ·have e1 : (appR N σ'.gm o rec (xS N ops σ σ' rs S)).1 s = (xS N ops σ σ' rs S).1 s:=by
    cases rec with
    | none=>simp only [appR,updB,if_neg hds]
    | some p=>obtain ⟨a,b,c⟩:=p; simp only [appR,updB,if_neg hds]
   rw [e1]
   -- a slot that it does not write
   have key : ∀ (L : List (Oper×Rec)) (i k : Nat) (x y : X),x.1 s = y.1 s→L[i]? = some (o,rec)→(∀ j,j≠k + i→S' j = S j)→(foldS N σ'.gm S' L k x).1 s = (foldS N σ'.gm S L k y).1 s:=by
    intro L
    induction L with
    | nil=>intro i k x y _ h; simp at h
    | cons q L ih =>
     intro i k x y hxy hL h2
     have happ : ∀ z : X,q = (o,rec)→(appR N σ'.gm q.1 q.2 z).1 s = z.1 s:=by
      rintro z rfl
      cases rec with
      | none=>simp only [appR,updB,if_neg hds]
      | some p=>obtain ⟨a,b,c⟩:=p; simp only [appR,updB,if_neg hds]
     cases i with
     | zero =>
      simp at hL
      simp only [foldS]
      refine foldS_slot L (k + 1) _ _ ?_ fun j q' _ _=>h2 _ (by omega)
      have a1 : (if S' k then appR N σ'.gm q.1 q.2 x else x).1 s = x.1 s:=by split; exact happ x hL; rfl
      have a2 : (if S k then appR N σ'.gm q.1 q.2 y else y).1 s = y.1 s:=by split; exact happ y hL; rfl
      rw [a1,a2,hxy]
     | succ i =>
      simp only [foldS]
      rw [h2 k (by omega)]
      refine ih i (k + 1) _ _ ?_ (by simpa using hL) fun j hj=>h2 j (by omega)
      split
      ·exact appR_slot_eq hxy
      ·exact hxy
   exact key _ i 0 _ _ rfl hp (by simpa using hS)
 ·funext k
  rw [appR_heap,xS,xS,foldS_heap,foldS_heap]
  refine foldH_insert _ i 0 _ (o,rec) hp (by simpa using hi) (by simpa using hi') (by simpa using hS) fun j q hj hq hs y hy z hz=>?_
  simp only [Nat.zero_add] at hs
  obtain ⟨_,_,a3,_⟩:=apart_of h hd ho hr hi he hq (by rw [hs]; simp; omega)
  rw [meetsR_comm]
  exact a3 z hz y hy
end
end Go.Sx
namespace Go.Sx
open Go
section
variable {P : Program} {ops : Array Oper} {gl : List (Nat×SV)} {B : Bs} {N : Nat} {σ σ' : Sy} {rs : List Rec}
theorem mem_ready {listed : Array Bool} {i : Nat} : i∈Region.ready .any ops listed↔∃ o,ops[i]? = some o∧listed.getD i true = false∧∀ x∈edgesL o.after.toList,listed.getD x false = true:=by
 unfold Region.ready
 simp only [List.mem_filter,List.mem_range,Bool.and_eq_true,Bool.not_eq_true']
 constructor
 ·rintro ⟨h1,h2,h3⟩
  have ho : ops[i]? = some ops[i]:=by simp [h1]
  rw [ho] at h3
  refine ⟨_,ho,h2,fun x hx=>?_⟩
  obtain ⟨e,he,hb,rfl⟩:=mem_edgesL hx
  simp only [Option.map_some,Option.getD_some,Array.all_eq_true_iff_forall_mem] at h3
  have:=h3 e (by simpa using he)
  simpa [hb] using this
 ·rintro ⟨o,ho,h2,h3⟩
  refine ⟨(Array.getElem?_eq_some_iff.1 ho).1,h2,?_⟩
  rw [ho]
  simp only [Option.map_some,Option.getD_some,Array.all_eq_true_iff_forall_mem]
  intro e he
  cases hb : Region.binds .any e with
  | false=>simp
  | true=>simp only [Bool.not_true,Bool.false_or]; exact h3 _ (edgesL_mem (by simpa using he) hb)
def left (n : Nat) (listed : Array Bool) : Nat:=((List.range n).filter fun i=>!listed.getD i true).length
theorem left_set {n i : Nat} {listed : Array Bool} (hi : i < n) (hs : listed.size = n) (h : listed.getD i true = false) : left n (listed.setIfInBounds i true) + 1 = left n listed:=by
 have hget : ∀ j,(listed.setIfInBounds i true).getD j true = if j = i then true else listed.getD j true:=by
  intro j
  simp only [Array.getD_eq_getD_getElem?]
  by_cases e : i = j
  ·subst e; rw [if_pos rfl,Array.getElem?_setIfInBounds_self_of_lt (by omega)]; rfl
  ·rw [if_neg (fun h=>e h.symm),Array.getElem?_setIfInBounds_ne e]
 unfold left
 have key : ∀ (l : List Nat),l.Nodup→i∈l→(l.filter fun j=>!(listed.setIfInBounds i true).getD j true).length + 1 = (l.filter fun j=>!listed.getD j true).length:=by
  intro l
  induction l with
  | nil=>intro _ h; cases h
  | cons j l ih =>
   intro hn hm
   rw [List.nodup_cons] at hn
   simp only [List.filter_cons,hget j]
   by_cases e : j = i
   ·subst e
    rw [if_pos rfl]
    simp only [Bool.not_true,Bool.false_eq_true,if_false,h,Bool.not_false,if_true,List.length_cons]
    congr 2
    refine List.filter_congr fun k hk=>?_
    rw [hget k,if_neg (fun e=>hn.1 (by rw [←e]; exact hk))]
   ·rw [if_neg e]
    have:=ih hn.2 (by rcases List.mem_cons.1 hm with h | h; exact absurd h.symm e; exact h)
    split
    ·simp only [List.length_cons]; omega
    ·exact this
 exact key _ List.nodup_range (by simpa using hi)
theorem left_zero {n : Nat} {listed : Array Bool} (h : left n listed = 0) : ∀ i,i < n→listed.getD i true = true:=by
 intro i hi
 unfold left at h
 have:=List.eq_nil_of_length_eq_zero h
 rw [List.filter_eq_nil_iff] at this
 have:=this i (by simpa using hi)
 simpa using this
theorem all_listed (hok : edgesOk ops.toList 0 = true) {listed : Array Bool} (hs : listed.size = ops.size) (h : Region.ready .any ops listed = []) : ∀ i,i < ops.size→listed.getD i true = true:=by
 intro i
 induction i using Nat.strongRecOn with
 | _ i ih =>
  intro hi
  cases hl : listed.getD i true with
  | true=>rfl
  | false =>
   have hm : i∈Region.ready .any ops listed:=by
    refine mem_ready.2 ⟨ops[i],by simp [hi],hl,fun x hx=>?_⟩
    have hlt:=edgesOk_get hok (j:=i) (o:=ops[i]) (by simp [hi]) x hx
    have:=ih x (by omega) (by omega)
    rw [Array.getD_eq_getD_getElem?] at this ⊢
    rw [Array.getElem?_eq_getElem (by omega)] at this ⊢
    simpa using this
   rw [h] at hm
   cases hm
def sOf (listed : Array Bool) : Nat→Bool:=fun i=>listed.getD i false
theorem sOf_eq {n : Nat} {listed : Array Bool} (hs : listed.size = n) {i : Nat} (hi : i < n) : sOf listed i = listed.getD i true:=by
 simp [sOf,Array.getD_eq_getD_getElem?,Array.getElem?_eq_getElem (show i < listed.size by omega)]
theorem ffPair {f g : Nat→SG} {a b : Nat→Hl} (h : (f,a) = (g,b)) : f = g∧a = b:=by
 simp only [Prod.mk.injEq] at h; exact h
theorem putSt {B : Bs} {E : Env} {a : Act} {w : World} {ff : Nat→SG} {hf : Nat→Hl} (st : St B N E a w ff hf) (d : Option Nat) (v : Value) (g : SG)
  (hg : ∀ cs s,g = some (cs,s)→(allT cs→Rel E w s v)∧(¬ allT cs→v = undef)) : St B N E (a.put d v) w (updB N ff d g) hf:=by
 cases d with
 | none =>
  have : updB N ff none g = ff:=by funext s; simp [updB]
  rw [this]; exact st
 | some k =>
  by_cases hk : k < N
  ·have:=st.put (some k) v g hg (fun j hj=>by cases hj; exact hk)
   have e : updO ff (some k) g = updB N ff (some k) g:=by
    funext s
    simp only [updO,upd,updB,Option.some.injEq]
    by_cases e : s = k
    ·subst e; simp [hk]
    ·rw [if_neg e,if_neg (fun h=>e h.1.symm)]
   rw [←e]; exact this
  ·rw [put_out (by rw [st.size]; omega)]
   have e : updB N ff (some k) g = ff:=by
    funext s
    simp only [updB,Option.some.injEq]
    rw [if_neg (fun h=>hk (by rw [h.1]; exact h.2))]
   rw [e]; exact st
theorem any_order {ro : Option Nat} {nn : Nat} (h : Ctx P ops gl N σ σ' rs) (hg : glOk B gl) {Q : Exit→Act→World→Prop} (hfin : ∀ E a w,St B N E a w (foldAll N σ'.gm (ops.toList.zip rs) (ffOf σ,hfOf σ.hp)).1 (foldAll N σ'.gm (ops.toList.zip rs) (ffOf σ,hfOf σ.hp)).2→Q .normal a w) :
  ∀ (fuel : Nat) (listed : Array Bool) (E : Env) (a : Act) (w : World),listed.size = ops.size→left ops.size listed = fuel→Down ops (sOf listed)→St B N E a w (xS N ops σ σ' rs (sOf listed)).1 (xS N ops σ σ' rs (sOf listed)).2→wpAnyIn (Fr ro) nn P .any ops Q fuel listed a w:=by
 have done : ∀ (listed : Array Bool) (E : Env) (a : Act) (w : World),listed.size = ops.size→(∀ i,i < ops.size→listed.getD i true = true)→St B N E a w (xS N ops σ σ' rs (sOf listed)).1 (xS N ops σ σ' rs (sOf listed)).2→Q .normal a w:=by
  intro listed E a w hs hall st
  refine hfin E a w ?_
  have : xS N ops σ σ' rs (sOf listed) = foldAll N σ'.gm (ops.toList.zip rs) (ffOf σ,hfOf σ.hp):=by
   refine foldS_all _ _ _ fun j hj=>?_
   simp only [Nat.zero_add]
   have hj : j < ops.size:=by simp at hj; omega
   rw [sOf_eq hs hj]; exact hall j hj
  rw [←this]; exact st
 intro fuel
 induction fuel with
 | zero =>
  intro listed E a w hs hl hd st
  have hall:=left_zero hl
  refine ⟨?_,done listed E a w hs hall st⟩
  rw [List.eq_nil_iff_forall_not_mem]
  intro i hi
  obtain ⟨o,ho,h1,_⟩:=mem_ready.1 hi
  rw [hall i (Array.getElem?_eq_some_iff.1 ho).1] at h1
  cases h1
 | succ fuel ih =>
  intro listed E a w hs hl hd st
  refine ⟨fun h0=>done listed E a w hs (all_listed h.edges hs h0) st,fun i hi=>?_⟩
  obtain ⟨o,ho,h1,h2⟩:=mem_ready.1 hi
  have hin : i < ops.size:=(Array.getElem?_eq_some_iff.1 ho).1
  have hSi : sOf listed i = false:=by rw [sOf_eq hs hin]; exact h1
  have he : ∀ x∈edgesL o.after.toList,sOf listed x = true:=h2
  have hr : rs[i]? = some (rs[i]'(by rw [h.len]; exact hin)):=List.getElem?_eq_getElem _
  generalize rs[i]'(by rw [h.len]; exact hin) = rec at hr
  obtain ⟨σi,w1,w2,w3,w4⟩:=h.step i o rec ho hr
  obtain ⟨f1,f2⟩:=ffPair w3
  have hagS : ∀ s∈looks ops.toList o,(xS N ops σ σ' rs (sOf listed)).1 s = ffOf σi s:=fun s hs'=>by
   rw [xS_slot h hd ho hr hSi he hs',f1]
  have hguard : ∀ j want s,o.guard = some (j,want)→(nth ops.toList j).bind (·.dst) = some s→(xS N ops σ σ' rs (sOf listed)).1 s = ffOf σi s:=fun j want s hgd hb =>
   hagS s (by unfold looks; exact List.mem_append.2 (.inr (guardSlot_mem hgd hb)))
  -- what has come behind it
  have hsz : (listed.setIfInBounds i true).size = ops.size:=by simp [hs]
  have hset : ∀ j,sOf (listed.setIfInBounds i true) j = if j = i then true else sOf listed j:=by
   intro j
   simp only [sOf,Array.getD_eq_getD_getElem?]
   by_cases e : i = j
   ·subst e; rw [if_pos rfl,Array.getElem?_setIfInBounds_self_of_lt (by omega)]; rfl
   ·rw [if_neg (fun h=>e h.symm),Array.getElem?_setIfInBounds_ne e]
  have hd' : Down ops (sOf (listed.setIfInBounds i true)):=by
   refine ⟨fun k ok hok hk x hx=>?_⟩
   rw [hset]
   split
   ·rfl
   ·rw [hset] at hk
    split at hk
    ·rename_i e
     subst e
     rw [ho] at hok
     cases hok
     exact he x hx
    ·exact hd.down k ok hok hk x hx
  have hx:=xS_insert h hd ho hr hSi he (S':=sOf (listed.setIfInBounds i true)) (by rw [hset,if_pos rfl]) (fun j hj=>by rw [hset,if_neg hj])
  have hleft : left ops.size (listed.setIfInBounds i true) = fuel:=by have:=left_set hin hs h1; omega
  have next : ∀ (E' : Env) (a' : Act) (w' : World),St B N E' a' w' (appR N σ'.gm o rec (xS N ops σ σ' rs (sOf listed))).1 (appR N σ'.gm o rec (xS N ops σ σ' rs (sOf listed))).2→wpAnyIn (Fr ro) nn P .any ops Q fuel (listed.setIfInBounds i true) a' w':=by
   intro E' a' w' st'
   refine ih _ E' a' w' hsz hleft hd' ?_
   rw [hx]; exact st'
  unfold wpOpIn
  rw [ho]
  simp only
  cases rec with
  | none =>
   have hw:=guardOf_skip (ops:=ops) rfl w4 st hguard
   rw [if_neg (by simp [hw])]
   exact ⟨fun _ _=>trivial,next E _ w (putSt st _ _ none (by simp))⟩
  | some p =>
   obtain ⟨σ1,T,r⟩:=p
   obtain ⟨q1,q2,q3,q4,q5⟩:=w4
   obtain ⟨g1,g2,g3,g4,g5,_,_,g8⟩:=guardOf_some (ops:=ops) rfl q1 w1
   have hwant:=g8 B N E a w _ _ st hguard
   by_cases hT : allT (condsOf σ1.gm T)
   ·rw [if_pos (hwant.2 hT)]
    have hag : AgS σ1 (xS N ops σ σ' rs (sOf listed)).1 o:=fun s hs'=>by
     rw [g2]
     exact hagS s (by unfold looks; exact List.mem_append.2 (.inl (mem_slotsL hs')))
    have hagH : AgH σ1.hp (xS N ops σ σ' rs (sOf listed)).2 r:=by
     rw [g3]
     refine ⟨fun k hk=>?_,fun x hx=>?_,fun e he'=>?_⟩
     ·have:=(xS_heap h hd ho hr hSi he (ρ:=(k,none)) (.inl (by simp [rdR,fpR,fpOf]; exact hk))).2 rfl
      rw [this,←f2]
     ·obtain ⟨hh,off,n⟩:=x
      have:=(xS_heap h hd ho hr hSi he (ρ:=(hh,some (off,n))) (.inl (by simp [rdR,fpR,fpOf]; exact ⟨hh,off,n,hx,rfl,rfl,rfl⟩))).1
      rw [←f2] at this
      intro ty cs hcs
      simp only at hcs this ⊢
      rcases this with e | ⟨ty',c1,c2,e1,e2,e3,e4⟩
      ·exact ⟨cs,by rw [e,hcs],rfl,fun _ _ _=>rfl⟩
      ·rw [hcs] at e2
       cases e2
       exact ⟨c1,e1,e3.symm,fun j j1 j2=>(e4 j ⟨j1,j2⟩).symm⟩
     ·have hmem : ∀ (es : List Ef),e∈es→match e with | .set k off vs=>(k,some (off,lenN vs))∈efW es | .put k _=>(k,none)∈efW es:=by
       intro es
       induction es with
       | nil=>intro h; cases h
       | cons e' es ih =>
        intro hm
        rcases List.mem_cons.1 hm with rfl | hm
        ·cases e<;>simp [efW]
        ·have:=ih hm
         cases e<;>cases e'<;>simp only [efW,List.mem_cons] at this ⊢<;>exact Or.inr this
      have hm:=hmem r.efs he'
      cases e with
      | set k off vs =>
       simp only at hm
       have:=(xS_heap h hd ho hr hSi he (ρ:=(k,some (off,lenN vs))) (.inr hm)).1
       rw [←f2] at this
       intro ty cs hcs
       rcases this with e | ⟨ty',c1,c2,e1,e2,e3,e4⟩
       ·exact ⟨cs,by rw [e,hcs],rfl⟩
       ·rw [hcs] at e2
        cases e2
        exact ⟨c1,e1,e3.symm⟩
      | put k hl =>
       simp only at hm
       have:=(xS_heap h hd ho hr hSi he (ρ:=(k,none)) (.inr hm)).2 rfl
       show (xS N ops σ σ' rs (sOf listed)).2 k = hfOf σi.hp k
       rw [this,←f2]
    refine q2 B N E a w _ _ hg st hag hagH hT _ _ _ _ fun v w' E' x1 x2 x3 x4=>?_
    refine next E' _ w' ?_
    simp only [appR,q5]
    exact putSt (st.step x1 x2 x3) _ _ _ (by rintro cs s ⟨⟩; exact ⟨fun _=>x4,fun h=>absurd hT h⟩)
   ·rw [if_neg (fun h=>hT (hwant.1 h))]
    refine ⟨fun _ _=>trivial,next E _ w ?_⟩
    have hef : r.efs = []:=by
     rcases q4.1 with h | h | h
     ·subst h; exact absurd trivial hT
     ·exact h
     ·exact absurd h hT
    simp only [appR,q5,hef,efsF]
    exact putSt st _ _ _ (by rintro cs s ⟨⟩; exact ⟨fun h=>absurd h hT,fun _=>rfl⟩)
theorem drawOk (hm : P.follows .mixedOrders = true) : DrawOk P:=by
 intro ro nn gl id ops B N σ σ' rs hg hruns hedges hind Q E a w hs hQ
 obtain ⟨r1,r2,r3,r4,r5,r6,r7⟩:=runs_get hruns hs.wf N hs.len
 have hctx : Ctx P ops gl N σ σ' rs:=⟨by rw [r1]; simp,fun i o rec ho hr=>r7 i o rec (by rw [Array.getElem?_toList]; exact ho) hr,hedges,hind⟩
 obtain ⟨e1,e2⟩:=ffPair r6
 refine wpIn_region_any hm ?_
 have hbase:=hs.st.base
 have hst : St B N E a { w with drawn:=w.drawn + 1 } (ffOf σ) (hfOf σ.hp) :=
  hs.st.step (E':=E) (w':={ w with drawn:=w.drawn + 1 }) ⟨fun _ _ h=>h,fun _ _ h=>.inl h,fun _ _ h=>h,fun _ _ h=>h,fun _ _ h=>h,fun _ _ _=>rfl⟩ ⟨hbase.os,hbase.tape,hbase.output,hbase.size,hbase.old,hbase.I0,hbase.Ibd,hbase.Inew,hbase.Obd,hbase.β0⟩
   fun k=>HOk.keep (E:=E) (w:=w) (E':=E) (w':={ w with drawn:=w.drawn + 1 }) ⟨fun _ _ h=>h,fun _ _ h=>.inl h,fun _ _ h=>h,fun _ _ h=>h,fun _ _ h=>h,fun _ _ _=>rfl⟩ (hs.st.heap k) rfl rfl rfl rfl fun b hO=>⟨hO,rfl,fun _ h=>h⟩
 refine any_order (B:=B) hctx hg (fun E' a' w' st'=>?_) ops.size _ E a _ (by simp) ?_ ⟨fun k o _ hk=>?_⟩ ?_
 ·refine hQ E' a' w' ⟨?_,r3,r2,fun k hk=>Nat.lt_of_lt_of_le (hs.ge k hk) r4⟩
  rw [e1,e2]; exact st'
 ·unfold left
  rw [List.filter_eq_self.2]
  ·simp
  ·intro i hi; simp at hi; simp [Array.getD_eq_getD_getElem?,hi]
 ·exfalso
  simp only [sOf,Array.getD_eq_getD_getElem?,Array.getElem?_replicate] at hk
  split at hk<;>simp at hk
 ·have : xS N ops σ σ' rs (sOf (Array.replicate ops.size false)) = (ffOf σ,hfOf σ.hp):=by
   refine foldS_none _ _ _ fun j _=>?_
   simp only [sOf,Array.getD_eq_getD_getElem?,Array.getElem?_replicate]
   split<;>rfl
  rw [this]; exact hst
end
end Go.Sx
namespace Go.Sx
open Go
theorem rgNil {P : Program} {D : Dn} {tt : List (Nat×TI)} {tab : List (Nat×FSpec)} {gl : List (Nat×SV)} {eqs : List TypeId} {gh : List (Nat×List Gh)} : RgOk P ⟨D,tt,tab,gl,eqs,gh,[],[]⟩:=⟨fun _ h=>(by cases h),fun _ h=>(by cases h)⟩
theorem fnOk {P : Program} (hm : P.follows .mixedOrders = true) {tt : List (Nat×TI)} {tab : List (Nat×FSpec)} {gl : List (Nat×SV)} {eqs : List TypeId} {gh : List (Nat×List Gh)} (hc : CxOk P ⟨dn,tt,tab,gl,eqs,gh,[],[]⟩) (htab : TabOk P gl tab) {f : FuncId} {fn : Func} (hf : P.funcs[f]? = some fn) (hgood : (fn.name == "runtime.NumGoroutine") = false) (hb : fn.body.isSome = true) {sp : FSpec}
  (h : ∀ (as : List SV) (ls : List Hl) (K : SV→List Hl→Prop),sp dn as ls K→∃ r ls',K r ls'∧∀ D,D = dn→body ⟨D,tt,tab,gl,eqs,gh,[],[]⟩ fn as ls fun r' ls''=>Fin r' r ls'' ls') : FnOk P gl f sp:=by
 refine ⟨?_,fun as ls K hs=>?_⟩
 ·obtain ⟨c,hc⟩:=Option.isSome_iff_exists.1 hb
  exact ⟨fn,c,hf,hc,hgood⟩
 ·obtain ⟨r,ls',hK,hbody⟩:=h as ls K hs
  exact ⟨r,ls',hK,callsTo_of_body (drawOk hm) hc htab rgNil hf (hbody dn rfl)⟩
theorem fnOkG {P : Program} (hm : P.follows .mixedOrders = true) {tt : List (Nat×TI)} {tab : List (Nat×FSpec)} {gl : List (Nat×SV)} {eqs : List TypeId} {gh : List (Nat×List Gh)} (hc : CxOk P ⟨dn,tt,tab,gl,eqs,gh,[],[]⟩) (htab : TabOk P gl tab) {f : FuncId} {fn : Func} (hf : P.funcs[f]? = some fn) (hgood : (fn.name == "runtime.NumGoroutine") = false) (hb : fn.body.isSome = true) {sp : FSpec}
  (h : ∀ (as : List SV) (ls : List Hl) (K : SV→List Hl→Prop),sp dn as ls K→∃ r ls',K r ls'∧∀ D,D = dn→bodyG ⟨D,tt,tab,gl,eqs,gh,[],[]⟩ fn as ls fun r' ls''=>Fin r' r ls'' ls') : FnOk P gl f sp:=by
 refine ⟨?_,fun as ls K hs=>?_⟩
 ·obtain ⟨c,hc⟩:=Option.isSome_iff_exists.1 hb
  exact ⟨fn,c,hf,hc,hgood⟩
 ·obtain ⟨r,ls',hK,hbody⟩:=h as ls K hs
  exact ⟨r,ls',hK,callsTo_of_bodyG (drawOk hm) hc htab rgNil hf (hbody dn rfl)⟩
theorem fnOkI {P : Program} (hm : P.follows .mixedOrders = true) {tt : List (Nat×TI)} {tab : List (Nat×FSpec)} {gl : List (Nat×SV)} {eqs : List TypeId} {gh : List (Nat×List Gh)} {its : List (Nat×(FSpec→FSpec))} {yl : List FSpec} (hc : CxOk P ⟨dn,tt,tab,gl,eqs,gh,its,yl⟩) (htab : TabOk P gl tab) (hrg : RgOk P ⟨dn,tt,tab,gl,eqs,gh,its,yl⟩) {f : FuncId} {fn : Func} (hf : P.funcs[f]? = some fn) (hgood : (fn.name == "runtime.NumGoroutine") = false) (hb : fn.body.isSome = true) {sp : FSpec}
  (h : ∀ (as : List SV) (ls : List Hl) (K : SV→List Hl→Prop),sp dn as ls K→∃ r ls',K r ls'∧∀ D,D = dn→bodyG ⟨D,tt,tab,gl,eqs,gh,its,yl⟩ fn as ls fun r' ls''=>Fin r' r ls'' ls') : FnOk P gl f sp:=by
 refine ⟨?_,fun as ls K hs=>?_⟩
 ·obtain ⟨c,hc⟩:=Option.isSome_iff_exists.1 hb
  exact ⟨fn,c,hf,hc,hgood⟩
 ·obtain ⟨r,ls',hK,hbody⟩:=h as ls K hs
  exact ⟨r,ls',hK,callsTo_of_bodyG (drawOk hm) hc htab hrg hf (hbody dn rfl)⟩
theorem fnOkJ {P : Program} (hm : P.follows .mixedOrders = true) {tt : List (Nat×TI)} {tab : List (Nat×FSpec)} {gl : List (Nat×SV)} {eqs : List TypeId} {gh : List (Nat×List Gh)} (hc : CxOk P ⟨dn,tt,tab,gl,eqs,gh,[],[]⟩) (htab : TabOk P gl tab) {f : FuncId} {fn : Func} (hf : P.funcs[f]? = some fn) (hgood : (fn.name == "runtime.NumGoroutine") = false) {l : Nat} {pre c rest : Code} (hb : fn.body = some (.seq pre (.scope c))) (hl : findLabel c l = some rest) {sp : FSpec}
  (h : ∀ (as : List SV) (ls : List Hl) (K : SV→List Hl→Prop),sp dn as ls K→∃ r ls',K r ls'∧∀ D,D = dn→bodyJ ⟨D,tt,tab,gl,eqs,gh,[],[]⟩ fn pre c l rest as ls fun r' ls''=>Fin r' r ls'' ls') : FnOk P gl f sp:=by
 refine ⟨⟨fn,_,hf,hb,hgood⟩,fun as ls K hs=>?_⟩
 obtain ⟨r,ls',hK,hbody⟩:=h as ls K hs
 exact ⟨r,ls',hK,callsTo_of_bodyJ (drawOk hm) hc htab rgNil hf hb hl (hbody dn rfl)⟩
theorem tabNil {P : Program} {gl : List (Nat×SV)} : TabOk P gl []:=by intro x h; cases h
theorem tabCons {P : Program} {gl : List (Nat×SV)} {tab : List (Nat×FSpec)} {f : Nat} {sp : FSpec} (h : FnOk P gl f sp) (ht : TabOk P gl tab) (hf : Nat.blt f 1000000 = true:=by decide) : TabOk P gl ((f,sp) :: tab):=by
 intro x hx
 rcases List.mem_cons.1 hx with rfl | hx
 ·show FnOk P gl (fnOf f) sp
  rw [fnOf,if_pos hf]; exact h
 ·exact ht x hx
theorem tabConsG {P : Program} {gl : List (Nat×SV)} {tab : List (Nat×FSpec)} {f : Nat} {sp : FSpec} (h : FnOk P gl f sp) (ht : TabOk P gl tab) : TabOk P gl ((f + 1000000,sp) :: tab):=by
 intro x hx
 rcases List.mem_cons.1 hx with rfl | hx
 ·show FnOk P gl (fnOf (f + 1000000)) sp
  have e : fnOf (f + 1000000) = f:=by
   unfold fnOf
   rw [if_neg (by rw [Nat.blt_eq]; omega),Nat.add_sub_cancel]
  rw [e]; exact h
 ·exact ht x hx
theorem br {D : Dn} (hD : D = dn) {b : BT} {A B : Prop} (ht : b.den = true→A) (hf : b.den = false→B) : (D.b b = true→A)∧(D.b b = false→B):=by subst hD; exact ⟨ht,hf⟩
theorem fin_eq {s s' : SV} {ls ls' : List Hl} (h : s = s') (hl : ls = ls') : Fin s s' ls ls':=by subst h hl; exact ⟨LeV.refl s,LeH.refl ls,Nat.le_refl _⟩
theorem int_eq {D : Dn} (hD : D = dn) {k : IntKind} {t : ST} {n : Int} (h : t.den = n) : SV.int k (.a (D.i t)) = .int k (.a n):=by subst hD h; rfl
theorem bool_eq {D : Dn} (hD : D = dn) {t : BT} {b : Bool} (h : t.den = b) : SV.bool (.a (D.b t)) = .bool (.a b):=by subst hD h; rfl
theorem finInt {D : Dn} (hD : D = dn) {k : IntKind} {t : ST} {n : Int} {ls : List Hl} (h : t.den = n) : Fin (.int k (.a (D.i t))) (.int k (.a n)) ls ls:=fin_eq (int_eq hD h) rfl
theorem finBool {D : Dn} (hD : D = dn) {t : BT} {b : Bool} {ls : List Hl} (h : t.den = b) : Fin (.bool (.a (D.b t))) (.bool (.a b)) ls ls:=fin_eq (bool_eq hD h) rfl
@[simp] theorem den_a (n : Int) : (ST.a n).den = n:=rfl
@[simp] theorem den_l (n : Int) : (ST.l n).den = n:=rfl
@[simp] theorem den_len (s : List UInt8) : (ST.len s).den = s.length:=rfl
@[simp] theorem den_add (k : IntKind) (x y : ST) : (ST.bin .add k x y).den = k.wrap (x.den + y.den):=rfl
@[simp] theorem den_sub (k : IntKind) (x y : ST) : (ST.bin .sub k x y).den = k.wrap (x.den - y.den):=rfl
@[simp] theorem den_mul (k : IntKind) (x y : ST) : (ST.bin .mul k x y).den = k.wrap (x.den * y.den):=rfl
@[simp] theorem den_quo (k : IntKind) (x y : ST) : (ST.bin .quo k x y).den = k.wrap (x.den.tdiv y.den):=rfl
@[simp] theorem den_rem (k : IntKind) (x y : ST) : (ST.bin .rem k x y).den = x.den.tmod y.den:=rfl
@[simp] theorem den_cv (k : IntKind) (x : ST) : (ST.cv k x).den = k.wrap x.den:=rfl
@[simp] theorem bden_a (b : Bool) : (BT.a b).den = b:=rfl
@[simp] theorem bden_l (b : Bool) : (BT.l b).den = b:=rfl
@[simp] theorem bden_lss (x y : ST) : (BT.cmp .lss x y).den = true↔x.den < y.den:=by simp [BT.den,cmpDen]
@[simp] theorem bden_lss' (x y : ST) : (BT.cmp .lss x y).den = false↔y.den≤x.den:=by simp [BT.den,cmpDen]
@[simp] theorem bden_leq (x y : ST) : (BT.cmp .leq x y).den = true↔x.den≤y.den:=by simp [BT.den,cmpDen]
@[simp] theorem bden_leq' (x y : ST) : (BT.cmp .leq x y).den = false↔y.den < x.den:=by simp [BT.den,cmpDen]
@[simp] theorem bden_gtr (x y : ST) : (BT.cmp .gtr x y).den = true↔y.den < x.den:=by simp [BT.den,cmpDen]
@[simp] theorem bden_gtr' (x y : ST) : (BT.cmp .gtr x y).den = false↔x.den≤y.den:=by simp [BT.den,cmpDen]
@[simp] theorem bden_geq (x y : ST) : (BT.cmp .geq x y).den = true↔y.den≤x.den:=by simp [BT.den,cmpDen]
@[simp] theorem bden_geq' (x y : ST) : (BT.cmp .geq x y).den = false↔x.den < y.den:=by simp [BT.den,cmpDen]
@[simp] theorem bden_eql (x y : ST) : (BT.cmp .eql x y).den = true↔x.den = y.den:=by simp [BT.den,cmpDen]
@[simp] theorem bden_eql' (x y : ST) : (BT.cmp .eql x y).den = false↔x.den≠y.den:=by simp [BT.den,cmpDen]
@[simp] theorem bden_neq (x y : ST) : (BT.cmp .neq x y).den = true↔x.den≠y.den:=by simp [BT.den,cmpDen]
@[simp] theorem bden_neq' (x y : ST) : (BT.cmp .neq x y).den = false↔x.den = y.den:=by simp [BT.den,cmpDen]
@[simp] theorem bden_not (x : BT) : (BT.not x).den = true↔x.den = false:=by simp [BT.den]
@[simp] theorem bden_not' (x : BT) : (BT.not x).den = false↔x.den = true:=by simp [BT.den]
@[simp] theorem bden_and (x y : BT) : (BT.and x y).den = true↔x.den = true∧y.den = true:=by simp [BT.den]
@[simp] theorem bden_and' (x y : BT) : (BT.and x y).den = false↔(x.den = true→y.den = false):=by simp only [BT.den]; cases x.den<;>simp
@[simp] theorem bden_or (x y : BT) : (BT.or x y).den = true↔(x.den = false→y.den = true):=by simp only [BT.den]; cases x.den<;>simp
@[simp] theorem bden_or' (x y : BT) : (BT.or x y).den = false↔x.den = false∧y.den = false:=by simp [BT.den]
@[simp] theorem bden_beq (x y : BT) : (BT.beq x y).den = true↔x.den = y.den:=by simp [BT.den]
@[simp] theorem bden_beq' (x y : BT) : (BT.beq x y).den = false↔x.den = !y.den:=by simp only [BT.den]; cases x.den<;>cases y.den<;>simp
@[simp] theorem bden_seq (s t : List UInt8) : (BT.seq s t).den = true↔s = t:=by simp [BT.den]
@[simp] theorem bden_seq' (s t : List UInt8) : (BT.seq s t).den = false↔s≠t:=by simp [BT.den]
theorem wrap64 {n : Int} (h1 : -9223372036854775808≤n) (h2 : n≤9223372036854775807) : IntKind.i64.wrap n = n:=IntWalk.i64_in _ ⟨by omega,by omega⟩
end Go.Sx
namespace Go.Sx
open Go Go.RowKit
theorem callsTo_below {P : Program} {gl : List (Nat×SV)} {f : FuncId} {as : List SV} {r : SV}
  (h : ∀ (E : Env) (B : Bs) (w : World) (vals : List Value),glOk B gl→Base B E w→B.w0 = w→RelL E w as vals→Calls P f ⟨vals⟩ w fun e w'=>∃ v,e = .returned v∧(∀ E,Rel E w' r v)∧Below w.heap.size w w') : CallsTo P gl f as [] r []:=by
 intro B E w vals hw0 hI hdom hb hg hh hr
 refine (h E B w vals hg hb hw0 hr).mono fun e w' hq=>?_
 obtain ⟨v,rfl,hv,hB⟩:=hq
 refine ⟨v,E,rfl,?_,fun h hlt=>absurd hlt (by simp),hv E⟩
 refine ⟨hB.os.trans hb.os,hB.tape.trans hb.tape,hB.output.trans hb.output,Nat.le_trans hb.size hB.size,fun b hlt hx=>?_,fun b o h0=>?_,fun b o hi=>Nat.lt_of_lt_of_le (hb.Ibd b o hi) hB.size,hb.Inew,fun b h ho=>⟨Nat.lt_of_lt_of_le (hb.Obd b h ho).1 hB.size,(hb.Obd b h ho).2⟩,hb.β0⟩
 ·rw [hB.block b (by rw [←hw0]; exact hlt)]; exact hb.old b hlt hx
 ·have h1:=hb.I0 b o h0
  refine ⟨h1.1,?_⟩
  rw [hB.cell (p:=⟨b,o,none⟩) (hb.Ibd b o h1.1)]
  exact h1.2
theorem rel_str {E : Env} {w : World} {s : List UInt8} {v : Value} (h : Rel E w (.str s) v) : v = .string (bytes s):=by
 cases h with
 | ro h=>cases h with
  | str h=>exact h
theorem rel_int {E : Env} {w : World} {k : IntKind} {t : ST} {v : Value} (h : Rel E w (.int k t) v) : v = .int k t.den:=by
 cases h with
 | ro h=>cases h with
  | int h=>rw [h]
theorem relL_one {E : Env} {w : World} {a : SV} {vals : List Value} (h : RelL E w [a] vals) : ∃ v,vals = [v]∧Rel E w a v:=by
 match vals,h with
 | [v],h=>exact ⟨v,rfl,h.2 0 a v rfl rfl⟩
 | [],h=>exact absurd h.1 (by simp)
 | _ :: _ :: _,h=>exact absurd h.1 (by simp)
theorem relL_two {E : Env} {w : World} {a b : SV} {vals : List Value} (h : RelL E w [a,b] vals) : ∃ v u,vals = [v,u]∧Rel E w a v∧Rel E w b u:=by
 match vals,h with
 | [v,u],h=>exact ⟨v,u,rfl,h.2 0 a v rfl rfl,h.2 1 b u rfl rfl⟩
 | [],h=>exact absurd h.1 (by simp)
 | [_],h=>exact absurd h.1 (by simp)
 | _ :: _ :: _ :: _,h=>exact absurd h.1 (by simp)
end Go.Sx
namespace Go.Sx
open Go
def LeL (cs cs' : List SV) : Prop:=∀ (E : Env) (w : World) (vs : List Value),RelL E w cs vs→RelL E w cs' vs
theorem LeL.nil : LeL [] []:=fun _ _ _ h=>h
theorem LeL.refl (cs : List SV) : LeL cs cs:=fun _ _ _ h=>h
theorem LeL.cons {c c' : SV} {cs cs' : List SV} (h : LeV c c') (hs : LeL cs cs') : LeL (c :: cs) (c' :: cs'):=by
 intro E w vs hr
 match vs,hr with
 | v :: vs,hr =>
  exact .cons (h E w v (hr.2 0 c v rfl rfl)) (hs E w vs ⟨by have:=hr.1; simpa using this,fun i s v a b=>hr.2 (i + 1) s v (by simpa using a) (by simpa using b)⟩)
 | [],hr=>exact absurd hr.1 (by simp)
theorem LeV.agg {cs cs' : List SV} (h : LeL cs cs') : LeV (.agg cs) (.agg cs'):=by
 intro E w v hr
 obtain ⟨vs,rfl,hl⟩:=hr.agg_inv
 exact (h E w vs hl).agg
theorem LeV.tup {cs cs' : List SV} (h : LeL cs cs') : LeV (.tup cs) (.tup cs'):=by
 intro E w v hr
 obtain ⟨vs,rfl,hl⟩:=hr.tup_inv
 have:=h E w vs hl
 exact .tup this.1 this.2
theorem LeV.sl {nl nl' : BT} {n n' : ST} {sz : Nat} {f f' : Nat→List SV} (h1 : nl.den = nl'.den) (h2 : n.den = n'.den) (h : ∀ i : Nat,(i : Int) < n.den→f i = f' i) : LeV (.sl nl n sz f) (.sl nl' n' sz f'):=by
 intro E w v hr
 have hr:=hr.sl_inv
 rcases hr.sl_inv with ⟨rfl,e0,e1⟩ | ⟨a,m,cap,g,rfl,e1,e2,e3,e3',e4,e5,e5',e6,e7⟩
 ·exact .ro (.slnil (by rw [←h1]; exact e1) (by rw [←h2]; exact e0))
 ·have hf : ∀ i,i < m→f' i = f i:=fun i hi=>(h i (by omega)).symm
  exact .ro (.sl g (by rw [←h1]; exact e1) (by rw [←h2]; exact e2) e3 e3' e4 (fun i hi=>by rw [hf i hi]; exact e5 i hi) e5' e6 (fun i j s hi hs=>by rw [hf i hi] at hs; exact e7 i j s hi hs))
theorem LeH.nil : LeH [] []:=LeH.refl []
theorem LeH.cons {l l' : Hl} {ls ls' : List Hl} (h : ∀ (k : Nat) (E : Env) (w : World),HOk E w k l→HOk E w k l') (hs : ∀ (k i : Nat) (E : Env) (w : World),HOk E w k (hfOf ls i)→HOk E w k (hfOf ls' i)) : ∀ (k i : Nat) (E : Env) (w : World),HOk E w k (hfOf (l :: ls) i)→HOk E w k (hfOf (l' :: ls') i)
 | k,0,E,w,hk=>h k E w hk
 | k,i + 1,E,w,hk=>hs k i E w hk
theorem leH_of {ls ls' : List Hl} (hs : ∀ (k i : Nat) (E : Env) (w : World),HOk E w k (hfOf ls i)→HOk E w k (hfOf ls' i)) : LeH ls ls':=fun h E w hk=>hs h h E w hk
theorem leH_blk {ty : TypeId} {cs cs' : List SV} (h : LeL cs cs') (k : Nat) (E : Env) (w : World) (hk : HOk E w k (.blk ty cs)) : HOk E w k (.blk ty cs'):=by
 obtain ⟨b,C,k1,k2,k3,k4,k5,k6⟩:=hk.blk_inv
 have hn:=h E w _ k4
 exact ⟨b,C,k1,k2,k3,by have:=hn.1; simpa using this.symm,fun i s v p q=>hn.2 i s v p (by simpa using q),fun v hv=>k5 v (by simpa using hv),k6⟩
theorem finV {s s' : SV} (h : LeV s s') : Fin s s' [] []:=⟨h,LeH.refl [],Nat.le_refl _⟩
theorem leOsl {nl nl' : BT} {n n' : ST} {h : Nat} (h1 : nl.den = nl'.den) (h2 : n.den = n'.den) : LeV (.osl nl n h) (.osl nl' n' h):=by
 intro E w v hr
 obtain ⟨⟨a,m,c,t1,t2,t3⟩,a0,m0,c0,q1,q2,q3⟩:=hr.osl_inv
 exact .osl ⟨a,m,c,t1,by rw [←h2]; exact t2,by rw [←h1]; exact t3⟩ ⟨a0,m0,c0,q1,by rw [←h2]; exact q2,by rw [←h2]; exact q3⟩
theorem leH_own {ty : TypeId} {n n' : ST} {sz : Nat} {gr : Bool} {f f' : Nat→List SV} (h2 : n.den = n'.den) (h : ∀ i : Nat,(i : Int) < n.den→f i = f' i) (k : Nat) (E : Env) (w : World) (hk : HOk E w k (.own ty n sz gr f)) : HOk E w k (.own ty n' sz gr f'):=by
 obtain ⟨v,m,xs,k1,kz,k2,k3,k4,k5,k6⟩:=hk
 have hf : ∀ i,i < m→f' i = f i:=fun i hi=>(h i (by omega)).symm
 exact ⟨v,m,xs,k1,kz,k2,by rw [←h2]; exact k3,k4,⟨fun i hi=>by rw [hf i hi]; exact k5.1 i hi,fun i j s u hi hs=>by rw [hf i hi] at hs; exact k5.2 i j s u hi hs⟩,k6⟩
theorem leVsl {nl nl' : BT} {n n' g g' : ST} {h : Nat} (h1 : nl.den = nl'.den) (h2 : n.den = n'.den) (h3 : g.den = g'.den) : LeV (.vsl nl n g h) (.vsl nl' n' g' h):=by
 intro E w v hr
 obtain ⟨⟨a,m,c,t1,t2,t3⟩,a0,m0,c0,q1,q2,q3⟩:=hr.vsl_inv
 exact .vsl ⟨a,m,c,t1,by rw [←h2]; exact t2,by rw [←h1]; exact t3⟩ ⟨a0,m0,c0,q1,by rw [←h3]; exact q2,by rw [←h3,←h2]; exact q3⟩
theorem leH_vec {ty : TypeId} {n n' g g' : ST} {sz : Nat} {f f' : Nat→List SV} (h2 : n.den = n'.den) (h3 : g.den = g'.den) (h : ∀ i : Nat,(i : Int) < n.den→f i = f' i) (k : Nat) (E : Env) (w : World) (hk : HOk E w k (.vec ty n g sz f)) : HOk E w k (.vec ty n' g' sz f'):=by
 obtain ⟨a,c,m,G,xs,k1,k2,k3,kg,k4,k5,k6⟩:=hk
 have hf : ∀ i,i < m→f' i = f i:=fun i hi=>(h i (by omega)).symm
 exact ⟨a,c,m,G,xs,k1,k2,by rw [←h2]; exact k3,by rw [←h3]; exact kg,k4,⟨fun i hi=>by rw [hf i hi]; exact k5.1 i hi,fun i j s u hi hs=>by rw [hf i hi] at hs; exact k5.2 i j s u hi hs⟩,k6⟩
theorem finOwn {s s' : SV} {ty : TypeId} {n n' : ST} {sz : Nat} {gr : Bool} {f f' : Nat→List SV} (h : LeV s s') (h2 : n.den = n'.den) (hf : ∀ i : Nat,(i : Int) < n.den→f i = f' i) : Fin s s' [.own ty n sz gr f] [.own ty n' sz gr f'] :=
 ⟨h,leH_of (LeH.cons (leH_own h2 hf) fun _ _ _ _ h=>h),Nat.le_refl _⟩
theorem leInt {k : IntKind} {t t' : ST} (h : t.den = t'.den) : LeV (.int k t) (.int k t'):=by
 intro E w v hr
 rw [hr.int_inv]
 exact .int h.symm
theorem leBool {t t' : BT} (h : t.den = t'.den) : LeV (.bool t) (.bool t'):=by
 intro E w v hr
 rw [hr.bool_inv]
 exact .bool h.symm
end Go.Sx
