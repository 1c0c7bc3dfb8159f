/- Part of the proofs of the statements about requests (layer 7): a symbolic executor over the code, that it is sound, and contracts of functions; it has no conditions of its own. -/
import Derived.Below
import Derived.Laws.IdiomStrings
import Derived.Laws.AppendOwn
import Derived.Test.YtefelnhpfdcleaaGreatDoorSzPag
import Derived.Test.YtefelnhpfdcleaaGreatDoorSzPaj
namespace Go.Sx
open Go
section
variable {P : Program} {cx : Cx} {σ : Sy} {T : List Nat} {o : Oper} {K : Out→Prop}
theorem Wb (hc : A5 P cx) {src dst e : TypeId} {x : Operand} (ho : o.op = .convert src dst x) {ts td te : TI} (hls : look src cx.tt = some ts) (hks : ts.k = .string) (hld : look dst cx.tt = some td) (hkd : td.k = .slice e) (hle : look e cx.tt = some te) (hke : te.k = .int .u8)
  {s : List UInt8} (hv : rd cx σ T x = some (.str s)) (hlen : Bk (Ac σ.gm T)→s.length≤maxLen) : Aw P cx.gl σ T o ⟨.sl (.l false) (.len s) 1 (byteRow s),[],[],[]⟩:=by
 intro B N E a w ff hf hg st ag agh hT K' Q hK
 have hx:=(Ab hv hg st (An ag (by simp [ho,Op.operands])) hT).str_inv
 have hb:=st.base
 have hrun:=run_bytes_of_string (P:=P) w src dst e (bytes s) ((hc.ti hls).string hks) ((hc.ti hld).slice hkd) ((hc.ti hle).int hke)
 obtain ⟨C,hC⟩ : ∃ C,C = bytesRow (bytes s) (grownCap w (bytes s).size 0 e):=⟨_,rfl⟩
 rw [←hC] at hrun
 obtain ⟨w',hw'⟩ : ∃ w',w' = w.drew.alloc (.cells C e (C.size,C.size + 1)):=⟨_,rfl⟩
 rw [←hw'] at hrun
 let E' : Env:=⟨E.β,E.τ,E.O,E.κ,E.ζ,fun b o=>E.I b o∨(b = w.heap.size∧o < s.length)⟩
 have hold : ∀ b,b < w.heap.size→w'.heap[b]? = w.heap[b]?:=fun b hlt=>by rw [hw']; exact RowKit.Below.heap_alloc w.drew _ b hlt
 have hnew : w'.heap[w.heap.size]? = some (.cells C e (C.size,C.size + 1)):=by rw [hw']; show (w.heap.push _)[w.heap.size]? = _; simp
 have hcellold : ∀ (p : Addr),p.block < w.heap.size→w'.cell? p = w.cell? p:=fun p hp=>World.cell?_of_block (w:=w) (hold _ hp)
 have hext : Ext E w E' w':=⟨fun _ _ h=>h,fun _ _ h=>.inl h,fun _ _ h=>h,fun _ _ h=>h,fun b o h=>.inl h,fun b o h=>hcellold _ (hb.Ibd b o h)⟩
 have hsz : w'.heap.size = w.heap.size + 1:=by rw [hw']; show (w.heap.push _).size = _; simp
 have hbase : Cm B E' w':=by
  refine ⟨by rw [hw']; exact hb.os,by rw [hw']; exact hb.tape,by rw [hw']; exact hb.output,by have:=hb.size; omega,fun b hlt hX=>?_,fun b o hi=>?_,fun b o hi=>?_,fun b o hi=>?_,fun b h hO=>?_,hb.β0.ext hext⟩
  ·rw [hold b (by have:=hb.size; omega)]; exact hb.old b hlt hX
  ·obtain ⟨i1,i2⟩:=hb.I0 b o hi
   exact ⟨.inl i1,by rw [hcellold _ (hb.Ibd b o i1)]; exact i2⟩
  ·rcases hi with hi | ⟨rfl,_⟩
   ·have:=hb.Ibd b o hi; omega
   ·omega
  ·rcases hi with hi | ⟨rfl,_⟩
   ·exact hb.Inew b o hi
   ·exact .inr (.inl hb.size)
  ·obtain ⟨o1,o2⟩:=hb.Obd b h hO
   exact ⟨by omega,o2⟩
 have hbs : (bytes s).size = s.length:=by simp [bytes,ByteArray.size]
 unfold Oper.wp
 have hex : (execOp a.eval o).run P w = .ok (.value (.slice (some ⟨w.heap.size,0,none⟩) (bytes s).size (grownCap w (bytes s).size 0 e))) w':=by
  simp only [execOp,ho,hx,Sem.run_bind]
  rw [hrun]
  rfl
 rw [hex]
 refine hK _ w' E' hext hbase (fun k=>HOk.keep hext (st.heap k) rfl rfl rfl rfl fun b hO=>⟨hO,hold b (Bb hb hO),fun o hi=>?_⟩) (.ro ?_)
 ·rcases hi with hi | ⟨rfl,_⟩
  ·exact hi
  ·exact absurd (Bb hb hO) (by omega)
 ·refine .sl (fun i _=>.int .u8 ((s.getD i 0).toNat : Int)) rfl ?_ ?_ ?_ (fun _=>rfl) (fun i hi=>rfl) (fun i j hi hj=>rfl) (fun i j hi hj=>?_) (fun i j s' hi hs=>?_)
  ·show ((s.length : Nat) : Int) = _
   rw [hbs]
  ·exact grownCap_ge ..
  ·exact grownCap_le_maxLen _ _ _ _ (by rw [hbs]; exact hlen hT)
  ·have hj0 : j = 0:=by omega
   subst hj0
   rw [hbs] at hi
   refine ⟨?_,.inr ⟨rfl,by simpa using hi⟩⟩
   have hCi : C[i]? = some (.int .u8 ((s.getD i 0).toNat : Int)):=by
    rw [hC]
    simp [bytesRow,bytes,Array.getElem?_append,hi]
   simp [World.cell?,hnew,hCi]
  ·cases j with
   | zero=>simp [byteRow] at hs; subst hs; exact .int rfl
   | succ j=>simp [byteRow] at hs
def Ah0 : List SV→Nat
 | [.int _ t]=>t.den.toNat
 | _=>0
theorem Jh {n : Int} {f : Nat→List SV} (hb : H6 n f) : ∃ r,Li r n f:=by
 have h0:=hb.nn
 refine ⟨(List.range n.toNat).map fun i=>UInt8.ofNat (Ah0 (f i)),by simp; omega,fun i t hi ht=>?_⟩
 obtain ⟨t',ht',h1,h2⟩:=hb.h i hi
 rw [ht] at ht'
 simp only [List.cons.injEq,SV.int.injEq,true_and,and_true] at ht'
 subst ht'
 have hlt : i < n.toNat:=by omega
 simp [List.getD_eq_getElem?_getD,hlt,ht,Ah0]
 omega
theorem Mq (hc : A5 P cx) {src dst e : TypeId} {x : Operand} (ho : o.op = .convert src dst x) {ts td te : TI} (hls : look src cx.tt = some ts) (hks : ts.k = .slice e) (hld : look dst cx.tt = some td) (hkd : td.k = .string) (hle : look e cx.tt = some te) (hke : te.k = .int .u8)
  {nl : BT} {n : ST} {f : Nat→List SV} (hv : rd cx σ T x = some (.sl nl n 1 f)∨∃ h,rd cx σ T x = some (.gsl nl n 1 f h)) {r : List UInt8} (hr : Bk (Ac σ.gm T)→H6 n.den f∧Li r n.den f) : Aw P cx.gl σ T o ⟨.str r,[],[],[]⟩:=by
 intro B N E a w ff hf hg st ag agh hT
 obtain ⟨hb,hr⟩:=hr hT
 have hx : RO E.I w (.sl nl n 1 f) (a.eval x):=by
  rcases hv with hv | ⟨h,hv⟩
  ·cases Ab hv hg st (An ag (by simp [ho,Op.operands])) hT with
   | ro h=>exact h
  ·cases Ab hv hg st (An ag (by simp [ho,Op.operands])) hT with
   | ro h=>cases h
   | gsl h _=>exact h
 refine Ad st (v:=.string (bytes r)) ?_ rfl (.ro (.str rfl))
 simp only [execOp,ho,Sem.run_bind]
 have hus:=(hc.ti hls).slice hks
 have hud:=(hc.ti hld).string hkd
 have hue:=(hc.ti hle).int hke
 generalize a.eval x = vx at hx
 cases hx with
 | slnil h hn =>
  have : r = []:=List.eq_nil_of_length_eq_zero (by have:=hr.len; omega)
  subst this
  simp [convert,run_underlying hus,run_underlying hud,run_underlying hue,Conv.bytesToString,bytes]
  rfl
 | sl g h hn hcap hcm hs hl h1 hcell hrel =>
  rename_i ad m cap
  have hrl : r.length = m:=by have:=hr.len; omega
  have:=run_convert_bytes_back (P:=P) w src dst e ad cap r hus hue hud (fun j hj=>by
   have hjm : j < m:=by omega
   obtain ⟨t,ht,_⟩:=hb.h j (by omega)
   have e1:=hr.row j t (by omega) ht
   have hc1:=(hcell j 0 hjm (by omega)).1
   have hr1:=hrel j 0 (.int .u8 t) hjm (by rw [ht]; rfl)
   have hg1 : g j 0 = .int .u8 t.den:=(Rel.ro (E:=E) hr1).int_inv
   rw [hg1] at hc1
   rw [List.getD_eq_getElem?_getD,List.getElem?_eq_getElem hj] at e1
   simp only [Option.getD_some] at e1
   rw [e1,←hc1]
   have hsp:=hs (by omega)
   obtain ⟨ab,ao,asp⟩:=ad
   simp only at hsp
   subst hsp
   simp [Addr.add]
   split
   ·rename_i hj0; subst hj0; simp
   ·rfl)
  rw [hrl] at this
  rw [this]
  rfl
end
end Go.Sx
namespace Go.Sx
open Go
section
variable {P : Program} {cx : Cx} {σ : Sy} {T : List Nat} {o : Oper}
theorem Fa.map {t : Nat} {ti : TI} (h : Fa P t ti) {k e : TypeId} (hk : ti.k = .map k e) : P.underlying t = some (.map k e):=by
 obtain ⟨d,hd,hb⟩:=h.und
 rw [hk] at hb
 cases d<;>simp only [Lq,Bool.false_eq_true,beq_iff_eq,Bool.and_eq_true] at hb
 rw [hd,hb.1,hb.2]
theorem So {s t : List UInt8} : bytes s = bytes t↔s = t:=⟨fun h=>by cases h; rfl,fun h=>by rw [h]⟩
theorem Aaa (s t : List UInt8) : (bytes s == bytes t) = decide (s = t):=by
 rw [Bool.eq_iff_iff,decide_eq_true_iff]
 constructor
 ·intro h
  have h : ((bytes s).data == (bytes t).data) = true:=h
  rw [beq_iff_eq] at h
  have:=congrArg Array.toList h
  simpa [bytes] using this
 ·rintro rfl
  show ((bytes s).data == (bytes s).data) = true
  simp
def Df : List MapEntry→List UInt8→Option (Nat×Value)
 | [],_=>none
 | e :: es,s=>match e.key with
  | .string x=>if x = bytes s then some (0,e.val) else (Df es s).map fun p=>(p.1 + 1,p.2)
  | _=>(Df es s).map fun p=>(p.1 + 1,p.2)
def Ane (es : List MapEntry) : Prop:=∀ e∈es,∃ s v,e.key = .string (bytes s)∧e.val = .bool v
theorem Zt : ∀ (es : List MapEntry) (s : List UInt8) (i : Nat),Ane es→Instr.findNow .string (.string (bytes s)) es i = some ((Df es s).map fun p=>(i + p.1,p.2))
 | [],s,i,_=>rfl
 | e :: es,s,i,h=>by
  obtain ⟨k,v,hk,hv⟩:=h e (List.mem_cons_self ..)
  have ih:=Zt es s (i + 1) fun e he=>h e (List.mem_cons_of_mem _ he)
  simp only [Instr.findNow,hk,Instr.sameNow,Df,Aaa]
  by_cases hs : s = k
  ·subst hs; simp
  ·have h2 : ¬ bytes k = bytes s:=fun e=>hs (So.1 e).symm
   simp only [hs,decide_false,if_neg h2,ih]
   cases Df es s with
   | none=>rfl
   | some p=>simp; omega
theorem Lc : ∀ {es : List MapEntry} {s : List UInt8} {p : Nat×Value},Df es s = some p→∃ e,es[p.1]? = some e∧e.key = .string (bytes s)∧e.val = p.2
 | [],s,p,h=>by cases h
 | e :: es,s,p,h=>by
  simp only [Df] at h
  split at h
  ·rename_i x hx
   split at h
   ·rename_i hxs
    cases h
    exact ⟨e,rfl,by rw [hx,hxs],rfl⟩
   ·obtain ⟨q,hq,rfl⟩:=Option.map_eq_some_iff.1 h
    obtain ⟨e',h1,h2⟩:=Lc hq
    exact ⟨e',by simpa using h1,h2⟩
  ·obtain ⟨q,hq,rfl⟩:=Option.map_eq_some_iff.1 h
   obtain ⟨e',h1,h2⟩:=Lc hq
   exact ⟨e',by simpa using h1,h2⟩
theorem Ta : ∀ (es : List MapEntry) (s : List UInt8),Gf es s = match Df es s with | some (_,.bool v)=>v | _=>false
 | [],s=>rfl
 | e :: es,s=>by
  have ih:=Ta es s
  have hr : Gf es s = match (Df es s).map (fun p=>(p.1 + 1,p.2)) with | some (_,.bool v)=>v | _=>false:=by
   rw [ih]
   cases Df es s with
   | none=>rfl
   | some p=>obtain ⟨i,v⟩:=p; cases v<;>rfl
  cases hk : e.key with
  | string x =>
   simp only [Gf,Df,hk]
   by_cases hx : x = bytes s
   ·rw [if_pos hx,if_pos hx]
    cases e.val<;>rfl
   ·rw [if_neg hx,if_neg hx]; exact hr
  | _=>simp only [Gf,Df,hk]; exact hr
theorem Oz : ∀ (es : List MapEntry) (s k : List UInt8) (b : Bool) (n : Nat),Df es s = none→Gf (es ++ [⟨.string (bytes s),.bool b,n⟩]) k = if k = s then b else Gf es k
 | [],s,k,b,n,_=>by
  simp only [List.nil_append,Gf]
  by_cases h : k = s
  ·subst h; simp
  ·have h2 : ¬ bytes s = bytes k:=fun e=>h (So.1 e).symm
   rw [if_neg h2,if_neg h]
 | e :: es,s,k,b,n,h=>by
  simp only [Df] at h
  simp only [List.cons_append,Gf]
  split at h
  ·rename_i x hx
   split at h
   ·cases h
   ·rename_i hxs
    have ih:=Oz es s k b n (by simpa using h)
    simp only [hx]
    by_cases hk : x = bytes k
    ·rw [if_pos hk,if_pos hk]
     have : k≠s:=fun e=>hxs (by rw [hk,e])
     rw [if_neg this]
    ·rw [if_neg hk,if_neg hk,ih]
  ·have ih:=Oz es s k b n (by simpa using h)
   cases hx : e.key<;>simp only [ih]<;>simp_all
theorem Za : ∀ (es : List MapEntry) (s k : List UInt8) (b : Bool) (i : Nat) (v : Value),Df es s = some (i,v)→Gf (es.modify i fun e=>{ e with key:=.string (bytes s),val:=.bool b }) k = if k = s then b else Gf es k
 | [],s,k,b,i,v,h=>by cases h
 | e :: es,s,k,b,i,v,h=>by
  simp only [Df] at h
  have rest : ∀ (p : Nat×Value),Df es s = some p→(∀ x,e.key = .string x→¬ x = bytes s)→Gf ((e :: es).modify (p.1 + 1) fun e=>{ e with key:=.string (bytes s),val:=.bool b }) k = if k = s then b else Gf (e :: es) k:=by
   intro p hp hne
   have ih:=Za es s k b p.1 p.2 hp
   rw [List.modify_succ_cons]
   simp only [Gf]
   cases hx : e.key with
   | string x =>
    simp only
    by_cases hk : x = bytes k
    ·rw [if_pos hk,if_pos hk]
     have : k≠s:=fun e2=>hne x hx (by rw [hk,e2])
     rw [if_neg this]
    ·rw [if_neg hk,if_neg hk,ih]
   | _=>simp only [ih]
  split at h
  ·rename_i x hx
   split at h
   ·rename_i hxs
    cases h
    rw [List.modify_zero_cons]
    simp only [Gf]
    by_cases hk : k = s
    ·subst hk; simp
    ·have h2 : ¬ bytes s = bytes k:=fun e=>hk (So.1 e).symm
     have h3 : ¬ x = bytes k:=fun e=>h2 (by rw [←hxs,e])
     rw [if_neg h2,if_neg hk,hx]
     simp only
     rw [if_neg h3]
   ·rename_i hxs
    obtain ⟨q,hq,e2⟩:=Option.map_eq_some_iff.1 h
    cases e2
    exact rest q hq fun y hy=>by rw [hx] at hy; cases hy; exact hxs
  ·rename_i hx
   obtain ⟨q,hq,e2⟩:=Option.map_eq_some_iff.1 h
   cases e2
   exact rest q hq fun y hy=>absurd hy (by intro e3; exact hx _ e3)
theorem Ij {t : TypeId} (ht : P.underlying t = some .string) (b : Bool) (s : ByteArray) (w : World) : (Instr.checkKey b 10000 t (.string s)).run P w = .ok () w:=by
 have h : Instr.checkKey b 10000 t (.string s) = Instr.checkKey b (9999 + 1) t (.string s):=rfl
 rw [h,Instr.checkKey]
 simp only [Sem.run_bind,run_underlying ht,Result.andThen_ok,Sem.run_pure]
theorem Jl {t : TypeId} (ht : P.underlying t = some .string) {es : List MapEntry} (h : Ane es) (s : List UInt8) (w : World) : (Instr.findKey t (.string (bytes s)) es).run P w = .ok (Df es s) w:=by
 simp only [Instr.findKey,Sem.run_bind,run_underlying ht,Result.andThen_ok,Zt es s 0 h,Sem.run_pure]
 cases Df es s with
 | none=>rfl
 | some p=>simp
theorem Kz {w : World} {r : Nat} {es : Array MapEntry} {c : Nat} (hb : w.heap[r]? = some (.map es c)) : (getObj r).run P w = .ok (.map es c) w:=by
 simp [getObj,Sem.run,hb]
theorem Pt {w : World} {r : Nat} {es : Array MapEntry} {c : Nat} {o' : Obj} (hb : w.heap[r]? = some (.map es c)) : (setObj r o').run P w = .ok () { w with heap:=w.heap.setIfInBounds r o' }:=by
 simp [setObj,Sem.run,hb]
theorem Ahg {B : Bs} {N : Nat} {E : Env} {a : Act} {w : World} {ff : Nat→SG} {hf : Nat→Hl} (st : St B N E a w ff hf) {h : Nat} (hfresh : hf h = .fresh) (o' : Obj) (l : Hl)
  (hl : ∀ (E' : Env) (w' : World),E'.β h = some w.heap.size→E'.O w.heap.size = some h→w'.heap[w.heap.size]? = some o'→(∀ o,¬ E'.I w.heap.size o)→HOk E' w' h l) :
  ∃ E',Ext E w E' (w.alloc o')∧Cm B E' (w.alloc o')∧(∀ k,HOk E' (w.alloc o') k (upd hf h l k))∧E'.β h = some w.heap.size∧∀ b k,E'.O b = some k→E.O b = some k∨b = w.heap.size:=by
 have hb:=st.base
 have hfr:=st.heap h
 rw [hfresh] at hfr
 obtain ⟨f1,f2,_,_⟩:=hfr
 let E' : Env:=⟨upd E.β h (some w.heap.size),E.τ,upd E.O w.heap.size (some h),E.κ,E.ζ,E.I⟩
 have hx : Ext E w E' (w.alloc o'):=by
  refine ⟨fun k b hk=>?_,fun _ _ h=>.inl h,fun _ _ h=>h,fun _ _ h=>h,fun _ _ h=>h,fun b o hi=>C3 (hb.Ibd b o hi)⟩
  show upd E.β h (some w.heap.size) k = some b
  unfold upd
  by_cases e : k = h
  ·subst e; rw [f1] at hk; cases hk
  ·rw [if_neg e]; exact hk
 refine ⟨E',hx,⟨hb.os,hb.tape,hb.output,?_,?_,?_,?_,?_,?_,hb.β0.ext hx⟩,fun k=>?_,by simp [E',upd],fun b k hO=>by
  have hO : upd E.O w.heap.size (some h) b = some k:=hO
  unfold upd at hO
  split at hO
  ·rename_i e; exact .inr e
  ·exact .inl hO⟩
 ·have:=hb.size; simp; omega
 ·intro b hlt hX; rw [De (by have:=hb.size; omega)]; exact hb.old b hlt hX
 ·intro b o hi
  obtain ⟨i1,i2⟩:=hb.I0 b o hi
  exact ⟨i1,by rw [C3 (hb.Ibd b o i1)]; exact i2⟩
 ·intro b o hi; have:=hb.Ibd b o hi; simp; omega
 ·exact hb.Inew
 ·intro b k hO
  have hO : upd E.O w.heap.size (some h) b = some k:=hO
  unfold upd at hO
  split at hO
  ·rename_i e; subst e; have:=hb.size; simp; exact .inl this
  ·obtain ⟨o1,o2⟩:=hb.Obd b k hO; simp; exact ⟨by omega,o2⟩
 ·by_cases e : k = h
  ·subst e
   simp only [upd,if_pos]
   refine hl E' _ (by simp [E',upd]) (by simp [E',upd]) (heap_alloc_new w _) fun o hi=>?_
   have:=hb.Ibd _ _ hi
   omega
  ·simp only [upd,if_neg e]
   refine HOk.keep hx (st.heap k) (by simp [E',upd,e]) rfl rfl rfl fun b hO=>?_
   have hlt:=Bb hb hO
   exact ⟨by simp [E',upd,Nat.ne_of_lt hlt]; exact hO,De hlt,fun _ h=>h⟩
theorem Kx (w : World) (r : Nat) (o : Obj) (k : Nat) (hr : r < w.heap.size) : ({ w with heap:=w.heap.setIfInBounds r o } : World).heap[k]? = if k = r then some o else w.heap[k]?:=by
 show (w.heap.setIfInBounds r o)[k]? = _
 by_cases e : k = r
 ·subst e; rw [if_pos rfl,Array.getElem?_setIfInBounds_self_of_lt hr]
 ·rw [if_neg e,Array.getElem?_setIfInBounds_ne (fun h=>e h.symm)]
theorem Vd (w : World) (r : Nat) (o : Obj) {b off : Nat} (hne : b≠r) : ({ w with heap:=w.heap.setIfInBounds r o } : World).cell? ⟨b,off,none⟩ = w.cell? ⟨b,off,none⟩:=by
 unfold World.cell?
 have : ({ w with heap:=w.heap.setIfInBounds r o } : World).heap[b]? = w.heap[b]?:=by
  show (w.heap.setIfInBounds r o)[b]? = _
  rw [Array.getElem?_setIfInBounds_ne (fun h=>hne h.symm)]
 rw [this]
theorem Ui {B : Bs} {N : Nat} {E : Env} {a : Act} {w : World} {ff : Nat→SG} {hf : Nat→Hl} (st : St B N E a w ff hf) {h b : Nat} (hO : E.O b = some h) (hI : ∀ o,¬ E.I b o) (o' : Obj) (l : Hl)
  (hl : HOk E { w with heap:=w.heap.setIfInBounds b o' } h l) :
  Ext E w E { w with heap:=w.heap.setIfInBounds b o' }∧Cm B E { w with heap:=w.heap.setIfInBounds b o' }∧∀ k,HOk E { w with heap:=w.heap.setIfInBounds b o' } k (upd hf h l k):=by
 have hb:=st.base
 have hblt:=Bb hb hO
 have hx : Ext E w E { w with heap:=w.heap.setIfInBounds b o' }:=⟨fun _ _ h=>h,fun _ _ h=>.inl h,fun _ _ h=>h,fun _ _ h=>h,fun _ _ h=>h,fun b2 o hi=>Vd w b o' (fun e=>by subst e; exact hI o hi)⟩
 have hX:=(hb.Obd b h hO).2
 refine ⟨hx,⟨hb.os,hb.tape,hb.output,by simpa using hb.size,?_,?_,?_,hb.Inew,?_,hb.β0⟩,fun k=>?_⟩
 ·intro b2 hlt hnX
  rw [Kx w b o' b2 hblt]
  by_cases e : b2 = b
  ·subst e; rcases hX with hX | hX
   ·omega
   ·exact absurd hX hnX
  ·rw [if_neg e]; exact hb.old b2 hlt hnX
 ·intro b2 o hi
  obtain ⟨i1,i2⟩:=hb.I0 b2 o hi
  exact ⟨i1,by rw [hx.cell b2 o i1]; exact i2⟩
 ·intro b2 o hi; have:=hb.Ibd b2 o hi; simpa using this
 ·intro b2 k hO; have:=hb.Obd b2 k hO; simpa using this
 ·by_cases e : k = h
  ·subst e; simp only [upd,if_pos]; exact hl
  ·simp only [upd,if_neg e]
   refine HOk.keep hx (st.heap k) rfl rfl rfl rfl fun b2 hO2=>⟨hO2,?_,fun _ h=>h⟩
   rw [Kx w b o' b2 hblt,if_neg]
   intro e2
   subst e2
   rw [hO] at hO2
   exact e (Option.some.inj hO2).symm
theorem Rel.mapv_inv {E : Env} {w : World} {h : Nat} {v : Value} (hr : Rel E w (.mapv h) v) : ∃ b,E.β h = some b∧v = .map (some b):=by
 cases hr with
 | ro h=>cases h
 | mapv hb hv=>exact ⟨_,hb,hv⟩
theorem X8 {t : TypeId} (ho : o.op = .makeMap t none) : Aw P cx.gl σ T o ⟨.mapv (Ag σ.hp),[.put (Ag σ.hp) (.mset fun _=>false)],[],[]⟩:=by
 intro B N E a w ff hf _ st _ agh _ K' Q hK
 have hfresh : hf (Ag σ.hp) = .fresh:=by
  have:=agh.efs _ (List.mem_singleton.2 rfl)
  simp only [AgE,Aq,Ak,Af] at this
  rw [Af,this]; simp
 obtain ⟨E',hx,hb,hh,hβ,_⟩:=Ahg st hfresh (.map #[] 0) (.mset fun _=>false) fun E' w' h1 h2 h3 h4=>⟨_,#[],0,h1,h2,h3,by simp,fun s=>rfl,h4⟩
 unfold Oper.wp
 have : (execOp a.eval o).run P w = .ok (.value (.map (some w.heap.size))) (w.alloc (.map #[] 0)):=by
  simp [execOp,ho,Instr.makeMap,newObj,Sem.run]
 rw [this]
 exact hK _ _ E' hx hb hh (.mapv hβ rfl)
theorem Fa.zero_bool {t : Nat} {ti : TI} (h : Fa P t ti) (hk : ti.k = .bool) (hz : ti.zero = [.bool (.l false)]) (w : World) : (zeroValue t).run P w = .ok (.bool false) w:=by
 obtain ⟨i,z,hi,h1,h2,h3,h4,h5⟩:=h.info
 have e : z = .bool false:=by
  rw [hz] at h4
  rw [hk] at h5
  cases z with
  | agg a=>simp [Alq] at h5
  | bool b=>simp [Value.cells,zsB,zB] at h4; rw [h4]
  | _=>simp [Value.cells,zsB,zB] at h4
 subst e
 simp [zeroValue,typeInfo,hi,h3]
theorem Aa5 (hc : A5 P cx) {t kt vt : TypeId} {x y : Operand} (ho : o.op = .lookup t x y false) {ti tk tv : TI} (hl : look t cx.tt = some ti) (hk : ti.k = .map kt vt) (hlk : look kt cx.tt = some tk) (hkk : tk.k = .string) (hlv : look vt cx.tt = some tv) (hkv : tv.k = .bool) (hzv : tv.zero = [.bool (.l false)])
  {h : Nat} {s : List UInt8} {F : List UInt8→Bool} (hx : rd cx σ T x = some (.mapv h)) (hy : rd cx σ T y = some (.str s)) (hh : nth σ.hp h = some (.mset F)) : Aw P cx.gl σ T o ⟨.bool (.a (F s)),[],[h],[]⟩:=by
 intro B N E a w ff hf hg st ag agh hT K' Q hK
 obtain ⟨b,hb,hv⟩:=(Ab hx hg st (An ag (by simp [ho,Op.operands])) hT).mapv_inv
 have hs:=(Ab hy hg st (An ag (by simp [ho,Op.operands])) hT).str_inv
 have hk0:=st.heap h
 rw [agh.rds h (by simp),Cj hh] at hk0
 obtain ⟨b',es,clock,k1,k2,k3,k4,k5,k6⟩:=hk0
 obtain rfl : b = b':=Option.some.inj (hb.symm.trans k1)
 have hu:=(hc.ti hl).map hk
 have huk:=(hc.ti hlk).string hkk
 have hz:=(hc.ti hlv).zero_bool hkv hzv w
 unfold Oper.wp
 have hval : (Instr.lookup t (.map (some b)) (.string (bytes s)) false).run P w = .ok (.bool (F s)) w:=by
  simp only [Instr.lookup,Sem.run_bind,run_underlying hu,Result.andThen_ok,Kz k3,Sem.run_pure,Ij huk,Jl huk k4]
  have h1:=k5 s
  rw [Ta] at h1
  cases hf : Df es.toList s with
  | none =>
   rw [hf] at h1
   simp [hz,←h1]
  | some p =>
   obtain ⟨i,v⟩:=p
   obtain ⟨e,e1,e2,e3⟩:=Lc hf
   obtain ⟨_,bv,_,e4⟩:=k4 e (List.mem_of_getElem? e1)
   rw [hf] at h1
   rw [e4] at e3
   simp only at e3 h1
   subst e3
   simp only at h1
   simp [h1]
 have : (execOp a.eval o).run P w = .ok (.value (.bool (F s))) w:=by
  simp only [execOp,ho,hv,hs,Sem.run_bind,hval,Result.andThen_ok,Sem.run_pure]
 rw [this]
 exact hK _ _ E (Ext.refl E w) st.base st.heap (.ro (.bool rfl))
theorem Lo (hc : A5 P cx) {t kt vt : TypeId} {x y z : Operand} (ho : o.op = .mapUpdate t x y z∨o.op = .insert t x y z) {ti tk : TI} (hl : look t cx.tt = some ti) (hk : ti.k = .map kt vt) (hlk : look kt cx.tt = some tk) (hkk : tk.k = .string)
  {h : Nat} {s : List UInt8} {bt : BT} {F F' : List UInt8→Bool} (hx : rd cx σ T x = some (.mapv h)) (hy : rd cx σ T y = some (.str s)) (hz : rd cx σ T z = some (.bool bt)) (hh : nth σ.hp h = some (.mset F)) (hF : Lu F' F s bt.den) : Aw P cx.gl σ T o ⟨.tup [],[.put h (.mset F')],[h],[]⟩:=by
 intro B N E a w ff hf hg st ag agh hT K' Q hK
 have mx : x∈o.op.operands.toList:=by rcases ho with ho | ho<;>simp [ho,Op.operands]
 have my : y∈o.op.operands.toList:=by rcases ho with ho | ho<;>simp [ho,Op.operands]
 have mz : z∈o.op.operands.toList:=by rcases ho with ho | ho<;>simp [ho,Op.operands]
 obtain ⟨b,hb,hv⟩:=(Ab hx hg st (An ag mx) hT).mapv_inv
 have hs:=(Ab hy hg st (An ag my) hT).str_inv
 have hbv:=(Ab hz hg st (An ag mz) hT).bool_inv
 have hk0:=st.heap h
 rw [agh.rds h (by simp),Cj hh] at hk0
 obtain ⟨b',es,clock,k1,k2,k3,k4,k5,k6⟩:=hk0
 obtain rfl : b = b':=Option.some.inj (hb.symm.trans k1)
 have hu:=(hc.ti hl).map hk
 have huk:=(hc.ti hlk).string hkk
 have hblt:=Bb st.base k2
 obtain ⟨es',clock',hrun,hkeys,hget⟩ : ∃ es' clock',(Instr.mapUpdate t (.map (some b)) (.string (bytes s)) (.bool bt.den)).run P w = .ok () { w with heap:=w.heap.setIfInBounds b (.map es' clock') }∧Ane es'.toList∧∀ k,Gf es'.toList k = F' k:=by
  cases hf : Df es.toList s with
  | none =>
   refine ⟨es.push ⟨.string (bytes s),.bool bt.den,clock⟩,clock + 1,?_,fun e he=>?_,fun k=>?_⟩
   ·simp only [Instr.mapUpdate,Sem.run_bind,run_underlying hu,Result.andThen_ok,Kz k3,Ij huk,Jl huk k4,hf,Pt k3]
   ·rw [Array.toList_push,List.mem_append,List.mem_singleton] at he
    rcases he with he | rfl
    ·exact k4 e he
    ·exact ⟨s,bt.den,rfl,rfl⟩
   ·rw [Array.toList_push,Oz _ _ _ _ _ hf,hF.h,k5]
  | some p =>
   obtain ⟨i,v⟩:=p
   obtain ⟨e,e1,e2,e3⟩:=Lc hf
   have e1' : es[i]? = some e:=by simpa using e1
   refine ⟨es.modify i fun e=>{ e with key:=.string (bytes s),val:=.bool bt.den },clock,?_,fun e he=>?_,fun k=>?_⟩
   ·have hst : (Instr.keyThatStays (.string (bytes s)) (.string (bytes s))).run P w = .ok (.string (bytes s)) w:=by
     have : Instr.sameBits 10000 (.string (bytes s)) (.string (bytes s)) = true:=by
      show (bytes s == bytes s) = true
      rw [Aaa]; simp
     simp only [Instr.keyThatStays,this,if_true,Sem.run_pure]
    simp only [Instr.mapUpdate,Sem.run_bind,run_underlying hu,Result.andThen_ok,Kz k3,Ij huk,Jl huk k4,hf,e1',Option.map_some,Option.getD_some,e2,hst,Pt k3]
   ·rw [Array.toList_modify] at he
    obtain ⟨j,hj⟩:=List.mem_iff_getElem?.1 he
    rw [List.getElem?_modify] at hj
    obtain ⟨e0,h0,rfl⟩:=Option.map_eq_some_iff.1 hj
    split
    ·exact ⟨s,bt.den,rfl,rfl⟩
    ·exact k4 e0 (List.mem_of_getElem? h0)
   ·rw [Array.toList_modify,Za _ _ _ _ _ _ hf,hF.h,k5]
 have hn : HOk E { w with heap:=w.heap.setIfInBounds b (.map es' clock') } h (.mset F'):=by
  refine ⟨b,es',clock',hb,k2,?_,hkeys,hget,k6⟩
  rw [Kx w b _ b hblt,if_pos rfl]
 obtain ⟨x1,x2,x3⟩:=Ui st k2 k6 (.map es' clock') (.mset F') hn
 unfold Oper.wp
 have : (execOp a.eval o).run P w = .ok .skip { w with heap:=w.heap.setIfInBounds b (.map es' clock') }:=by
  rcases ho with ho | ho<;>simp only [execOp,ho,hv,hs,hbv,Sem.run_bind,hrun,Result.andThen_ok,Sem.run_pure]
 rw [this]
 exact hK undef _ E x1 x2 x3 (.tup rfl (by simp))
end
end Go.Sx
namespace Go.Sx
open Go
section
variable {P : Program} {cx : Cx} {σ : Sy} {T : List Nat} {o : Oper} {K : Out→Prop}
theorem Aed {t e ty : TypeId} {ti : TI} (hu : P.underlying t = some (.slice e)) (he : Fa P e ti) {sz : Nat} (hsz : ti.size = sz) (hz0 : 0 < sz) {w : World} {gr : Bool} {v : Value} {n : Nat} {xs : List Value} (hown : C9 w gr e sz v n xs) {src : Value} {m : Nat} {news : List Value} (hs : Agw w src m sz news)
  (h63 : n + m≤maxLen) (hb : (n + m) * ti.bytes≤140737488355328) :
  ∃ v' w',(Builtin.append_ #[t,t] ty #[v,src]).run P w = .ok v' w'∧C9 w' gr e sz v' (n + m) (xs ++ news)∧(v' = .slice none 0 0↔v = .slice none 0 0∧m = 0)∧
   ((v'.ownBlock = v.ownBlock∧w.grownBy w' v.ownBlock)∨(v'.ownBlock = some w.heap.size∧w.grownBy w' none))∧(∃ a c,v' = .slice a (n + m) c)∧(m = 0→v' = v):=by
 by_cases hrow : w.ownsRow 0 e sz v n xs
 ·obtain ⟨v',w',r1,r2,r3⟩:=Lh (P:=P) (ty:=ty) hu he hsz hz0 hrow hs h63 hb
  exact ⟨v',w',r1,Rd gr r2,r3⟩
 have hown0:=hown
 obtain ⟨hxl,hh⟩:=hown
 rcases hh with hh | ⟨g,cap,cur,fr,rfl,hg,hfr,hnc,hcm,hcs,htake⟩
 ·exact absurd ⟨hxl,.inl hh⟩ hrow
 rcases hfr with rfl | ⟨hgr,hfr⟩
 ·exact absurd ⟨hxl,.inr ⟨g,cap,cur,rfl,Nat.zero_le _,hg,hnc,hcm,hcs,htake⟩⟩ hrow
 obtain ⟨i,z,hi,hsize,hby,hz,hzs,_⟩:=he.info
 obtain ⟨hl,h1,hsrc⟩:=hs
 have hlen : (xs ++ news).length = (n + m) * sz:=by rw [List.length_append,hxl,hl,Nat.add_mul]
 rcases hsrc with ⟨rfl,rfl⟩ | ⟨a,c,rfl,hnews⟩
 ·have hn : news = []:=List.eq_nil_of_length_eq_zero (by simpa using hl)
  subst hn
  refine ⟨_,w,?_,by simpa using hown0,by simp,.inl ⟨rfl,⟨rfl,rfl,rfl,Nat.le_refl _,fun _ _ _=>rfl⟩⟩,⟨_,_,rfl⟩,fun _=>rfl⟩
  simp [Builtin.append_,run_underlying hu,sizeOf,typeInfo,hi,Builtin.lenOf,Builtin.firstCells,hnc,storeCells]
 ·have hzsz : z.cells.size = sz:=by
   have:=(Nd (I:=fun _ _=>False) (w:=w) hzs).1
   have h2 : ti.zero.length = sz:=by
    rw [he.zlen,hsz]
   simpa [h2] using this.symm
  have hisz : i.size = sz:=by rw [hsize,hsz]
  by_cases hroom : n + m≤cap
  ·have hfit : n * i.size + news.length≤cur.size:=by rw [hl,hcs,hisz,←Nat.add_mul]; exact Nat.mul_le_mul_right _ hroom
   have hf:=run_firstCells_some (P:=P) w i.size m a m c news (by rw [hisz]; exact hl) hnews
   have hst:=Eg (P:=P) g (n * i.size) e fr news 0 cur w hg (.inr (by rw [hfr]; exact Nat.le_refl _)) (by simpa using hfit) h1
   simp only [Nat.add_zero] at hst
   have hr : (Builtin.append_ #[t,t] ty #[.slice (some ⟨g,0,none⟩) n cap,.slice (some a) m c]).run P w =
     .ok (.slice (some ⟨g,0,none⟩) (n + m) cap) (w.setRow g (cur.toList.take (n * i.size) ++ news ++ cur.toList.drop (n * i.size + news.length)).toArray):=by
    simp [Builtin.append_,run_underlying hu,sizeOf,typeInfo,hi,Builtin.lenOf,hroom,hf,Addr.add_lit,hst]
   have hC : (cur.toList.take (n * i.size) ++ news ++ cur.toList.drop (n * i.size + news.length)).toArray.size = cur.size:=by
    simp only [List.size_toArray,List.length_append,List.length_take,List.length_drop,Array.length_toList]
    omega
   refine ⟨_,_,hr,⟨hlen,.inr ⟨g,cap,_,fr,rfl,setRow_heap w g cur _ e fr hg,.inr ⟨hgr,by rw [hC]; exact hfr⟩,hroom,hcm,by rw [hC]; exact hcs,?_⟩⟩,by simp,.inl ⟨rfl,⟨rfl,rfl,rfl,by simp,fun k _ hk=>setRow_other w g k _ (fun e=>hk (by simp [Value.ownBlock,e]))⟩⟩,⟨_,_,rfl⟩,fun e=>by rw [e]; rfl⟩
   rw [hisz,htake,←hlen]
   exact List.take_left
  ·have holds : ∀ j u,xs[j]? = some u→w.cell? ((⟨g,0,none⟩ : Addr).add j) = some u:=fun j u hj=>by
    have hadd : (⟨g,0,none⟩ : Addr).add j = ⟨g,j,none⟩:=by rw [Addr.add_lit,Nat.zero_add]
    rw [←htake,List.getElem?_take] at hj
    split at hj
    ·rw [hadd]; simp only [World.cell?,hg]; rw [Array.getElem?_toList] at hj; simpa using hj
    ·cases hj
   have hr:=run_append_grow (P:=P) w t ty e i z hu hi hz ⟨g,0,none⟩ n cap xs (by rw [hisz]; exact hxl) holds a m c news (by rw [hisz]; exact hl) hnews (by omega) (by simp only [maxLen] at h63; omega) (by rw [hby]; exact growslice_fits (by omega) hb)
   have hge:=grownCap_ge w (n + m) cap e
   have hcm2 : grownCap w (n + m) cap e≤maxLen:=grownCap_le_maxLen w (n + m) cap e h63
   refine ⟨_,_,hr,⟨hlen,.inr ⟨w.heap.size,_,_,(0,0),rfl,heap_alloc_new w.drew _,.inl rfl,hge,hcm2,?_,?_⟩⟩,by simp,.inr ⟨rfl,⟨rfl,rfl,rfl,by simp,fun k hk _=>heap_alloc_old w.drew _ hk⟩⟩,⟨_,_,rfl⟩,fun e=>by omega⟩
   ·simp only [Array.size_append,List.size_toArray,size_zeroCells,hzsz,hxl,hl,←Nat.add_mul]
    congr 1
    omega
   ·simp only [Array.toList_append,List.append_assoc]
    rw [←List.append_assoc,←hlen]
    exact List.take_left
theorem Qa (hc : A5 P cx) {c : Call} (ho : o.op = .call c) (hcal : c.callee = .builtin .append) {x y : Operand} {t e sz : Nat} {te ti : TI} (hx : c.args.toList = [x,y]) (ht : c.argTypes.toList = [t,t]) (hlt : look t cx.tt = some ti) (hk : ti.k = .slice e) (hle : look e cx.tt = some te) (hsz : te.size = sz) (hz : 0 < sz)
  {gr : Bool} {nl : BT} {n n0 : ST} {f : Nat→List SV} {h : Nat} (hvx : rd cx σ T x = some (.osl nl n h)) (hh : nth σ.hp h = some (.own e n0 sz gr f)) {s : SV} (hvy : rd cx σ T y = some s) {m : ST} {g : Nat→List SV} (hrow : Hr sz s = some (m,g))
  (hb : n.den = n0.den∧(n.den + m.den) * te.bytes≤140737488355328∧n.den + m.den≤9223372036854775807)
  {f' : Nat→List SV} {n' : Int} (hn' : n' = n.den + m.den) (hf1 : ∀ i : Nat,(i : Int) < n.den→f' i = f i) (hf' : ∀ i j : Nat,(i : Int) = n.den + j→(j : Int) < m.den→f' i = g j) :
  Aw P cx.gl σ T o ⟨.osl (Abq nl (Ua .eql m (.l 0))) (.a n') h,[.put h (.own e (.a n') sz gr f')],[h],[]⟩:=by
 intro B N E a w ff hf hg st ag agh hT K' Q hK
 have mx : x∈o.op.operands.toList:=by simp [ho,Op.operands,Call.operands,hcal,hx]
 have my : y∈o.op.operands.toList:=by simp [ho,Op.operands,Call.operands,hcal,hx]
 have hrx:=Ab hvx hg st (An ag mx) hT
 have hry:=Ab hvy hg st (An ag my) hT
 obtain ⟨k,news,r1,r2,r3,r4,r5⟩:=J3 hrow hry
 have hkk:=st.heap h
 have hsame:=Ca agh (List.mem_singleton.2 rfl) hh
 rw [hsame] at hkk
 obtain ⟨v,nn,xs,k1,kz,k2,k3,k4,k5,k6⟩:=hkk
 obtain ⟨hv,hnl⟩:=Je hrx k1 k2 k3 hb.1
 have hnn : n.den = (nn : Int):=by rw [hb.1,k3]
 have hbk : (nn + k) * te.bytes≤140737488355328:=by
  have:=hb.2.1
  rw [hnn,r1] at this
  have h : (((nn + k) * te.bytes : Nat) : Int)≤140737488355328:=by rw [Int.natCast_mul,Int.natCast_add]; exact this
  omega
 obtain ⟨v',w',l1,l2,l3,l4,l5,l6⟩:=Aed (P:=P) (ty:=o.type) ((hc.ti hlt).slice hk) (hc.ti hle) hsz hz k2 r3 (by have:=hb.2.2; rw [hnn,r1] at this; simp only [maxLen]; omega) hbk
 have h1all : ∀ u∈xs ++ news,u.oneCell' = true:=fun u hu=>by
  rcases List.mem_append.1 hu with hu | hu
  ·exact k4 u hu
  ·exact r3.2.1 u hu
 have hnt : (ST.a n').den = ((nn + k : Nat) : Int):=by simp only [ST.den,hn',hnn,r1]; omega
 have hin : Hs E w f' (nn + k) sz (xs ++ news):=by
  refine ⟨fun i hi=>?_,fun i j s u hi hs hu=>?_⟩
  ·by_cases hin : i < nn
   ·rw [hf1 i (by omega)]; exact k5.1 i hin
   ·rw [hf' i (i - nn) (by omega) (by omega)]; exact r4 (i - nn) (by omega)
  ·by_cases hin : i < nn
   ·rw [hf1 i (by omega)] at hs
    have hj : j < sz:=by rw [←k5.1 i hin]; exact (List.getElem?_eq_some_iff.1 hs).1
    have : (i + 1) * sz≤nn * sz:=Nat.mul_le_mul_right _ hin
    rw [Nat.add_mul] at this
    rw [List.getElem?_append_left (by rw [k2.1]; omega)] at hu
    exact k5.2 i j s u hin hs hu
   ·rw [hf' i (i - nn) (by omega) (by omega)] at hs
    have e1 : i * sz + j = nn * sz + ((i - nn) * sz + j):=by
     have : i * sz = nn * sz + (i - nn) * sz:=by rw [←Nat.add_mul]; congr 1; omega
     omega
    rw [List.getElem?_append_right (by rw [k2.1]; omega),k2.1,e1,Nat.add_sub_cancel_left] at hu
    exact r5 (i - nn) j s u (by omega) hs hu
 obtain ⟨E',x1,x2,x3,x4,x5⟩:=K2 (h:=h) (e:=e) (sz:=sz) (n:=nn) (m:=k) st (.inr ⟨⟨_,_,_,hsame⟩,k1,kz,k6⟩) k2.shape l2 h1all l4 (fun _=>l6) (nt':=.a n') hnt hin
 unfold Oper.wp
 rw [Dz ho hcal hx ht (a:=a) (w:=w) (w':=w') (v':=v') (by rw [hv]; exact l1)]
 obtain ⟨a0,c0,e0⟩:=l5
 refine hK v' w' E' x1 x2 x3 (.osl ⟨a0,nn + k,c0,e0,hnt,?_⟩ ⟨a0,nn + k,c0,by rw [x4,e0],by rw [hnt]; exact Int.le_refl _,fun _=>e0⟩)
 have hnil : (v' = .slice none 0 0)↔a0 = none:=by
  rw [e0]
  constructor
  ·intro h; simp only [Value.slice.injEq] at h; exact h.1
  ·rintro rfl
   rcases l2.2 with ⟨h1,_⟩ | ⟨g,cap,cur,fr,h1,_⟩
   ·rw [←e0]; exact h1
   ·rw [e0] at h1; simp at h1
 rw [←hnil,Q2,Kn,l3]
 simp only [B8,ST.den,r1,Bool.and_eq_true,beq_iff_eq]
 rw [hnl]
 constructor
 ·rintro ⟨h1,h2⟩; exact ⟨h1,by omega⟩
 ·rintro ⟨h1,h2⟩; exact ⟨h1,by omega⟩
end
end Go.Sx
