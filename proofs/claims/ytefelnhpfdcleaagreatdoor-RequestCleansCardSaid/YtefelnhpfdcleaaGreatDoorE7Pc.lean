/- Part of the proofs of the statements about requests (layer 7): a symbolic executor over the code, that it is sound, and contracts of functions; it has no conditions of its own. -/
import Derived.CallsIn
import Derived.RangeFuncRecord
import Derived.TacticsIn
import Derived.OrdersIn
import Derived.ControlIn
import Derived.ScopeJumps
import Derived.Test.YtefelnhpfdcleaaGreatDoorE7Pb
namespace Go.Sx
open Go
section
variable {P : Program} {cx : Cx} {σ : Sy} {T : List Nat} {o : Oper} {K : Out→Prop}
theorem append_lawW {t e ty : TypeId} {ti : TI} (hu : P.underlying t = some (.slice e)) (he : TIok P e ti) {sz : Nat} (hsz : ti.size = sz) (hz0 : 0 < sz) {w : World} {gr : Bool} {v : Value} {n : Nat} {xs : List Value} (hown : ownsW w gr e sz v n xs) {src : Value} {m : Nat} {news : List Value} (hs : srcIs w src m sz news)
  (h63 : n + m≤maxLen) (hb : (n + m) * ti.bytes≤140737488355328) :
  ∃ v' w',(Builtin.append_ #[t,t] ty #[v,src]).run P w = .ok v' w'∧ownsW w' gr e sz v' (n + m) (xs ++ news)∧(v' = .slice none 0 0↔v = .slice none 0 0∧m = 0)∧
   ((v'.ownBlock = v.ownBlock∧w.grownBy w' v.ownBlock)∨(v'.ownBlock = some w.heap.size∧w.grownBy w' none))∧(∃ a c,v' = .slice a (n + m) c)∧(m = 0→v' = v):=by
 by_cases hrow : w.ownsRow 0 e sz v n xs
 ·obtain ⟨v',w',r1,r2,r3⟩:=append_law (P:=P) (ty:=ty) hu he hsz hz0 hrow hs h63 hb
  exact ⟨v',w',r1,ownsW_row gr r2,r3⟩
 have hown0:=hown
 obtain ⟨hxl,hh⟩:=hown
 rcases hh with hh | ⟨g,cap,cur,fr,rfl,hg,hfr,hnc,hcm,hcs,htake⟩
 ·exact absurd ⟨hxl,.inl hh⟩ hrow
 rcases hfr with rfl | ⟨hgr,hfr⟩
 ·exact absurd ⟨hxl,.inr ⟨g,cap,cur,rfl,Nat.zero_le _,hg,hnc,hcm,hcs,htake⟩⟩ hrow
 obtain ⟨i,z,hi,hsize,hby,hz,hzs,_⟩:=he.info
 obtain ⟨hl,h1,hsrc⟩:=hs
 have hlen : (xs ++ news).length = (n + m) * sz:=by rw [List.length_append,hxl,hl,Nat.add_mul]
 rcases hsrc with ⟨rfl,rfl⟩ | ⟨a,c,rfl,hnews⟩
 ·have hn : news = []:=List.eq_nil_of_length_eq_zero (by simpa using hl)
  subst hn
  refine ⟨_,w,?_,by simpa using hown0,by simp,.inl ⟨rfl,⟨rfl,rfl,rfl,Nat.le_refl _,fun _ _ _=>rfl⟩⟩,⟨_,_,rfl⟩,fun _=>rfl⟩
  simp [Builtin.append_,run_underlying hu,sizeOf,typeInfo,hi,Builtin.lenOf,Builtin.firstCells,hnc,storeCells]
 ·have hzsz : z.cells.size = sz:=by
   have:=(zsB_get (I:=fun _ _=>False) (w:=w) hzs).1
   have h2 : ti.zero.length = sz:=by
    rw [he.zlen,hsz]
   simpa [h2] using this.symm
  have hisz : i.size = sz:=by rw [hsize,hsz]
  by_cases hroom : n + m≤cap
  ·have hfit : n * i.size + news.length≤cur.size:=by rw [hl,hcs,hisz,←Nat.add_mul]; exact Nat.mul_le_mul_right _ hroom
   have hf:=run_firstCells_some (P:=P) w i.size m a m c news (by rw [hisz]; exact hl) hnews
   have hst:=run_storeCells_fr (P:=P) g (n * i.size) e fr news 0 cur w hg (.inr (by rw [hfr]; exact Nat.le_refl _)) (by simpa using hfit) h1
   simp only [Nat.add_zero] at hst
   have hr : (Builtin.append_ #[t,t] ty #[.slice (some ⟨g,0,none⟩) n cap,.slice (some a) m c]).run P w =
     .ok (.slice (some ⟨g,0,none⟩) (n + m) cap) (w.setRow g (cur.toList.take (n * i.size) ++ news ++ cur.toList.drop (n * i.size + news.length)).toArray):=by
    simp [Builtin.append_,run_underlying hu,sizeOf,typeInfo,hi,Builtin.lenOf,hroom,hf,Addr.add_lit,hst]
   have hC : (cur.toList.take (n * i.size) ++ news ++ cur.toList.drop (n * i.size + news.length)).toArray.size = cur.size:=by
    simp only [List.size_toArray,List.length_append,List.length_take,List.length_drop,Array.length_toList]
    omega
   refine ⟨_,_,hr,⟨hlen,.inr ⟨g,cap,_,fr,rfl,setRow_heap w g cur _ e fr hg,.inr ⟨hgr,by rw [hC]; exact hfr⟩,hroom,hcm,by rw [hC]; exact hcs,?_⟩⟩,by simp,.inl ⟨rfl,⟨rfl,rfl,rfl,by simp,fun k _ hk=>setRow_other w g k _ (fun e=>hk (by simp [Value.ownBlock,e]))⟩⟩,⟨_,_,rfl⟩,fun e=>by rw [e]; rfl⟩
   rw [hisz,htake,←hlen]
   exact List.take_left
  ·have holds : ∀ j u,xs[j]? = some u→w.cell? ((⟨g,0,none⟩ : Addr).add j) = some u:=fun j u hj=>by
    have hadd : (⟨g,0,none⟩ : Addr).add j = ⟨g,j,none⟩:=by rw [Addr.add_lit,Nat.zero_add]
    rw [←htake,List.getElem?_take] at hj
    split at hj
    ·rw [hadd]; simp only [World.cell?,hg]; rw [Array.getElem?_toList] at hj; simpa using hj
    ·cases hj
   have hr:=run_append_grow (P:=P) w t ty e i z hu hi hz ⟨g,0,none⟩ n cap xs (by rw [hisz]; exact hxl) holds a m c news (by rw [hisz]; exact hl) hnews (by omega) (by simp only [maxLen] at h63; omega) (by rw [hby]; exact growslice_fits (by omega) hb)
   have hge:=grownCap_ge w (n + m) cap e
   have hcm2 : grownCap w (n + m) cap e≤maxLen:=grownCap_le_maxLen w (n + m) cap e h63
   refine ⟨_,_,hr,⟨hlen,.inr ⟨w.heap.size,_,_,(0,0),rfl,heap_alloc_new w.drew _,.inl rfl,hge,hcm2,?_,?_⟩⟩,by simp,.inr ⟨rfl,⟨rfl,rfl,rfl,by simp,fun k hk _=>heap_alloc_old w.drew _ hk⟩⟩,⟨_,_,rfl⟩,fun e=>by omega⟩
   ·simp only [Array.size_append,List.size_toArray,size_zeroCells,hzsz,hxl,hl,←Nat.add_mul]
    congr 1
    omega
   ·simp only [Array.toList_append,List.append_assoc]
    rw [←List.append_assoc,←hlen]
    exact List.take_left
theorem local_append_ownG (hc : CxOk P cx) {c : Call} (ho : o.op = .call c) (hcal : c.callee = .builtin .append) {x y : Operand} {t e sz : Nat} {te ti : TI} (hx : c.args.toList = [x,y]) (ht : c.argTypes.toList = [t,t]) (hlt : look t cx.tt = some ti) (hk : ti.k = .slice e) (hle : look e cx.tt = some te) (hsz : te.size = sz) (hz : 0 < sz)
  {gr : Bool} {nl : BT} {n n0 : ST} {f : Nat→List SV} {h : Nat} (hvx : rd cx σ T x = some (.osl nl n h)) (hh : nth σ.hp h = some (.own e n0 sz gr f)) {s : SV} (hvy : rd cx σ T y = some s) {m : ST} {g : Nat→List SV} (hrow : rowOf sz s = some (m,g))
  (hb : n.den = n0.den∧(n.den + m.den) * te.bytes≤140737488355328∧n.den + m.den≤9223372036854775807)
  {f' : Nat→List SV} {n' : Int} (hn' : n' = n.den + m.den) (hf1 : ∀ i : Nat,(i : Int) < n.den→f' i = f i) (hf' : ∀ i j : Nat,(i : Int) = n.den + j→(j : Int) < m.den→f' i = g j) :
  Local P cx.gl σ T o ⟨.osl (andT nl (cmpT .eql m (.l 0))) (.a n') h,[.put h (.own e (.a n') sz gr f')],[h],[]⟩:=by
 intro B N E a w ff hf hg st ag agh hT K' Q hK
 have mx : x∈o.op.operands.toList:=by simp [ho,Op.operands,Call.operands,hcal,hx]
 have my : y∈o.op.operands.toList:=by simp [ho,Op.operands,Call.operands,hcal,hx]
 have hrx:=rd_sound hvx hg st (ag_of ag mx) hT
 have hry:=rd_sound hvy hg st (ag_of ag my) hT
 obtain ⟨k,news,r1,r2,r3,r4,r5⟩:=rowOf_src hrow hry
 have hkk:=st.heap h
 have hsame:=row_same agh (List.mem_singleton.2 rfl) hh
 rw [hsame] at hkk
 obtain ⟨v,nn,xs,k1,kz,k2,k3,k4,k5,k6⟩:=hkk
 obtain ⟨hv,hnl⟩:=osl_val hrx k1 k2 k3 hb.1
 have hnn : n.den = (nn : Int):=by rw [hb.1,k3]
 have hbk : (nn + k) * te.bytes≤140737488355328:=by
  have:=hb.2.1
  rw [hnn,r1] at this
  have h : (((nn + k) * te.bytes : Nat) : Int)≤140737488355328:=by rw [Int.natCast_mul,Int.natCast_add]; exact this
  omega
 obtain ⟨v',w',l1,l2,l3,l4,l5,l6⟩:=append_lawW (P:=P) (ty:=o.type) ((hc.ti hlt).slice hk) (hc.ti hle) hsz hz k2 r3 (by have:=hb.2.2; rw [hnn,r1] at this; simp only [maxLen]; omega) hbk
 have h1all : ∀ u∈xs ++ news,u.oneCell' = true:=fun u hu=>by
  rcases List.mem_append.1 hu with hu | hu
  ·exact k4 u hu
  ·exact r3.2.1 u hu
 have hnt : (ST.a n').den = ((nn + k : Nat) : Int):=by simp only [ST.den,hn',hnn,r1]; omega
 have hin : rowIn E w f' (nn + k) sz (xs ++ news):=by
  refine ⟨fun i hi=>?_,fun i j s u hi hs hu=>?_⟩
  ·by_cases hin : i < nn
   ·rw [hf1 i (by omega)]; exact k5.1 i hin
   ·rw [hf' i (i - nn) (by omega) (by omega)]; exact r4 (i - nn) (by omega)
  ·by_cases hin : i < nn
   ·rw [hf1 i (by omega)] at hs
    have hj : j < sz:=by rw [←k5.1 i hin]; exact (List.getElem?_eq_some_iff.1 hs).1
    have : (i + 1) * sz≤nn * sz:=Nat.mul_le_mul_right _ hin
    rw [Nat.add_mul] at this
    rw [List.getElem?_append_left (by rw [k2.1]; omega)] at hu
    exact k5.2 i j s u hin hs hu
   ·rw [hf' i (i - nn) (by omega) (by omega)] at hs
    have e1 : i * sz + j = nn * sz + ((i - nn) * sz + j):=by
     have : i * sz = nn * sz + (i - nn) * sz:=by rw [←Nat.add_mul]; congr 1; omega
     omega
    rw [List.getElem?_append_right (by rw [k2.1]; omega),k2.1,e1,Nat.add_sub_cancel_left] at hu
    exact r5 (i - nn) j s u (by omega) hs hu
 obtain ⟨E',x1,x2,x3,x4,x5⟩:=put_own (h:=h) (e:=e) (sz:=sz) (n:=nn) (m:=k) st (.inr ⟨⟨_,_,_,hsame⟩,k1,kz,k6⟩) k2.shape l2 h1all l4 (fun _=>l6) (nt':=.a n') hnt hin
 unfold Oper.wp
 rw [run_builtin_append ho hcal hx ht (a:=a) (w:=w) (w':=w') (v':=v') (by rw [hv]; exact l1)]
 obtain ⟨a0,c0,e0⟩:=l5
 refine hK v' w' E' x1 x2 x3 (.osl ⟨a0,nn + k,c0,e0,hnt,?_⟩ ⟨a0,nn + k,c0,by rw [x4,e0],by rw [hnt]; exact Int.le_refl _,fun _=>e0⟩)
 have hnil : (v' = .slice none 0 0)↔a0 = none:=by
  rw [e0]
  constructor
  ·intro h; simp only [Value.slice.injEq] at h; exact h.1
  ·rintro rfl
   rcases l2.2 with ⟨h1,_⟩ | ⟨g,cap,cur,fr,h1,_⟩
   ·rw [←e0]; exact h1
   ·rw [e0] at h1; simp at h1
 rw [←hnil,andT_den,cmpT_den,l3]
 simp only [cmpDen,ST.den,r1,Bool.and_eq_true,beq_iff_eq]
 rw [hnl]
 constructor
 ·rintro ⟨h1,h2⟩; exact ⟨h1,by omega⟩
 ·rintro ⟨h1,h2⟩; exact ⟨h1,by omega⟩
end
end Go.Sx
namespace Go.Sx
open Go
section
variable {P : Program} {cx : Cx} {σ : Sy} {T : List Nat} {o : Oper} {K : Out→Prop}
theorem move_sound {x : Operand} (ho : o.op = .move x∨o.op = .assign x)
  (h : stepMove cx σ T o.type x K) : ∃ r,K r∧Local P cx.gl σ T o r:=by
 unfold stepMove at h
 split at h
 ·split at h
  ·split at h
   ·exact ⟨_,h,local_nil ho⟩
   ·exact h.elim
  ·exact h.elim
 ·obtain ⟨v,hv,h⟩:=outO_some h
  exact ⟨_,h,local_move ho hv⟩
theorem allJ_get {D : Dn} {gm : List BT} {T : List Nat} {i : Int} {K : Nat→Prop} (h : allJ D gm T i K) (j : Nat) (hj : Ob D gm T (IsJ j i)) : K j:=by
 unfold allJ at h
 split at h
 ·exact h j hj
 ·exact h j hj
theorem index_sl_sound (hc : CxOk P cx) {t e sz : Nat} {x y : Operand} (ho : o.op = .indexAddr t x y) {nl : BT} {n : ST} {f : Nat→List SV} {k : IntKind} {i : ST} {a b : Nat} {c : List SV}
  (hv : rd cx σ T x = some (.sl nl n sz f)∨∃ h,rd cx σ T x = some (.gsl nl n sz f h)) (hi : rd cx σ T y = some (.int k i)) (hl : look t cx.tt = some ⟨.slice e,a,b,c⟩)
  (h : if size? cx e = some sz then Ob cx.D σ.gm T (InB (cx.D.i i) (cx.D.i n))∧allJ cx.D σ.gm T (cx.D.i i) fun j=>out K (.rptr (f j)) else False) : ∃ r,K r∧Local P cx.gl σ T o r:=by
 split at h
 ·rename_i hs
  rw [hc.D] at h
  obtain ⟨h1,h2⟩:=h
  rw [Ob_iff] at h1
  have h1 : allT (condsOf σ.gm T)→0≤i.den∧i.den < n.den:=fun hT=>⟨(h1 hT).lo,(h1 hT).hi⟩
  refine ⟨_,allJ_get h2 i.den.toNat ((Ob_iff _ _ _).2 fun hT=>?_),local_index_sl hc hl rfl hs ho hv hi h1⟩
  have:=(h1 hT).1
  refine ⟨?_⟩
  show ((i.den.toNat : Nat) : Int) = i.den
  omega
 ·exact h.elim
theorem local_index_blk (hc : CxOk P cx) {t e sz n : Nat} {ti : TI} (hl : look t cx.tt = some ti) (hk : ti.k = .array n e) (hn : size? cx e = some sz) {x y : Operand} (ho : o.op = .indexAddr t x y) {h off : Nat} {k : IntKind} {i : ST}
  (hv : rd cx σ T x = some (.ptr h off)) (hi : rd cx σ T y = some (.int k i)) {j : Nat} (hj : i.den = (j : Int)) (hjn : j < n) : Local P cx.gl σ T o ⟨.ptr h (off + j * sz),[],[],[]⟩:=by
 intro B N E a w ff hf' hg st ag agh hT
 obtain ⟨b,hb,hx⟩:=(rd_sound hv hg st (ag_of ag (by simp [ho,Op.operands])) hT).ptr_inv
 have hy:=(rd_sound hi hg st (ag_of ag (by simp [ho,Op.operands])) hT).int_inv
 refine yields_value st (v:=.pointer (some ⟨b,off + j * sz,none⟩)) ?_ rfl (.ptr hb rfl)
 have hu:=(hc.ti hl).array hk
 obtain ⟨te,hte,hsz⟩:=size?_ti hn
 have hS:=(hc.ti hte).sizeOf w
 simp [execOp,ho,hx,hy,hj,Instr.indexAt,run_underlying hu,asIntOf,hjn,hS,hsz,Instr.sureAddr,add_lit]
theorem splitJ_get {F : Nat→Prop} {i : Int} : ∀ (n j : Nat),splitJ i F n j→∀ k : Nat,i = (k : Int)→j≤k→k < j + n→F k
 | 0,j,_,k,_,h1,h2=>by omega
 | n + 1,j,h,k,hk,h1,h2=>by
  rcases Nat.eq_or_lt_of_le h1 with e | e
  ·subst e; exact h.1 ⟨hk.symm⟩
  ·exact splitJ_get n (j + 1) h.2 k hk e (by omega)
theorem ixT_den (cx : Cx) (i : ST) : (ixT cx i).den = i.den:=by
 unfold ixT
 split
 ·split<;>rfl
 ·rfl
theorem ixArr_sound (hc : CxOk P cx) {t e sz n : Nat} {ti : TI} (hl : look t cx.tt = some ti) (hk : ti.k = .array n e) (hn : size? cx e = some sz) {x y : Operand} (ho : o.op = .indexAddr t x y) {h off : Nat} {k : IntKind} {i : ST}
  (hv : rd cx σ T x = some (.ptr h off)) (hi : rd cx σ T y = some (.int k i)) (hs : stepIxArr cx T h off n sz i K) : ∃ r,K r∧Local P cx.gl σ T o r:=by
 unfold stepIxArr at hs
 split at hs
 ·rename_i q hq
  split at hs
  ·rename_i hb
   have hq2 : i.den = (q : Int):=by rw [←ixT_den cx i,hq]; rfl
   exact ⟨_,hs,local_index_blk hc hl hk hn ho hv hi (j:=q) hq2 (by simpa using hb)⟩
  ·exact hs.elim
 ·split at hs
  ·rw [hc.D] at hs
   obtain ⟨⟨h0,h1⟩,h2⟩:=hs
   have h0 : 0≤i.den:=h0
   have h1 : i.den < n:=h1
   have hq : i.den = ((i.den.toNat : Nat) : Int):=by omega
   exact ⟨_,splitJ_get n 0 h2 i.den.toNat hq (Nat.zero_le _) (by omega),local_index_blk hc hl hk hn ho hv hi hq (by omega)⟩
  ·exact hs.elim
theorem local_max {c : Call} (ho : o.op = .call c) (hcal : c.callee = .builtin .max) {x y : Operand} (hx : c.args.toList = [x,y]) {k : IntKind} {s t : ST} (h1 : rd cx σ T x = some (.int k s)) (h2 : rd cx σ T y = some (.int k t)) :
  Local P cx.gl σ T o ⟨.int k (.a (max s.den t.den)),[],[],[]⟩:=by
 intro B N E a w ff hf' hg st ag agh hT
 have mx : x∈o.op.operands.toList:=by simp [ho,Op.operands,Call.operands,hcal,hx]
 have my : y∈o.op.operands.toList:=by simp [ho,Op.operands,Call.operands,hcal,hx]
 have e1 : c.args = #[x,y]:=Array.ext' (by simpa using hx)
 have hrx:=(rd_sound h1 hg st (ag_of ag mx) hT).int_inv
 have hry:=(rd_sound h2 hg st (ag_of ag my) hT).int_inv
 refine yields_value st (v:=.int k (if t.den > s.den then t.den else s.den)) ?_ rfl (.int ?_)
 ·simp [execOp,ho,resolve,hcal,e1,invoke,builtin,hrx,hry,Builtin.max_,Builtin.max2]
 ·simp only [ST.den]; split<;>omega
theorem local_min {c : Call} (ho : o.op = .call c) (hcal : c.callee = .builtin .min) {x y : Operand} (hx : c.args.toList = [x,y]) {k : IntKind} {s t : ST} (h1 : rd cx σ T x = some (.int k s)) (h2 : rd cx σ T y = some (.int k t)) :
  Local P cx.gl σ T o ⟨.int k (.a (min s.den t.den)),[],[],[]⟩:=by
 intro B N E a w ff hf' hg st ag agh hT
 have mx : x∈o.op.operands.toList:=by simp [ho,Op.operands,Call.operands,hcal,hx]
 have my : y∈o.op.operands.toList:=by simp [ho,Op.operands,Call.operands,hcal,hx]
 have e1 : c.args = #[x,y]:=Array.ext' (by simpa using hx)
 have hrx:=(rd_sound h1 hg st (ag_of ag mx) hT).int_inv
 have hry:=(rd_sound h2 hg st (ag_of ag my) hT).int_inv
 refine yields_value st (v:=.int k (if t.den < s.den then t.den else s.den)) ?_ rfl (.int ?_)
 ·simp [execOp,ho,resolve,hcal,e1,invoke,builtin,hrx,hry,Builtin.min_,Builtin.min2]
 ·simp only [ST.den]; split<;>omega
theorem sameOp_eq : ∀ {x y : Operand},sameOp x y = true→x = y
 | .tmp i,.tmp j,h=>by simp [sameOp] at h; rw [h]
 | .tmp _,.const _,h=>by simp [sameOp] at h
 | .tmp _,.global _,h=>by simp [sameOp] at h
 | .tmp _,.func _,h=>by simp [sameOp] at h
 | .const _,_,h=>by simp [sameOp] at h
 | .global _,_,h=>by simp [sameOp] at h
 | .func _,_,h=>by simp [sameOp] at h
theorem make_sound (hc : CxOk P cx) {t : Nat} {x y : Operand} (ho : o.op = .makeSlice t x y) {a b : SV} (hx : rd cx σ T x = some a) (hy : rd cx σ T y = some b) (h : stepMake cx σ T t a b (sameOp x y) K) : ∃ r,K r∧Local P cx.gl σ T o r:=by
 unfold stepMake at h
 split at h
 ·rename_i e _ _ _ hl
  split at h
  ·rename_i te kc c hle
   split at h
   ·obtain ⟨h1,h2⟩:=h
    rw [hc.D] at h1
    exact ⟨_,h2,local_make0 hc ho hl rfl hle hx hy fun _=>⟨h1.lo,h1.mem,h1.hi⟩⟩
   ·exact h.elim
  ·rename_i te kn n kc c _ hle
   split at h
   ·rename_i hb
    simp only [Bool.and_eq_true,Nat.blt_eq] at hb
    obtain ⟨h1,h2⟩:=h
    rw [hc.D] at h1 h2
    exact ⟨_,h2,local_makeN hc ho hl rfl hle hx hy (sameOp_eq hb.1) hb.2 fun _=>⟨h1.lo,h1.mem,h1.hi⟩⟩
   ·exact h.elim
  ·exact h.elim
 ·exact h.elim
theorem buildSlice_sound (hc : CxOk P cx) {t len : Nat} {ps : Array (Nat×Operand)} (ho : o.op = .buildSlice t len ps) (h : stepBuildSlice cx σ T t len ps.toList K) : ∃ r,K r∧Local P cx.gl σ T o r:=by
 unfold stepBuildSlice at h
 split at h
 ·rename_i e _ _ _ vs hl hvs
  split at h
  ·rename_i te hle
   split at h
   ·rename_i cs h1 hf
    split at h
    ·rename_i hb
     simp only [Bool.and_eq_true,Nat.blt_eq] at hb
     rw [hc.D] at h hb
     have h:=h (fun k=>takeN te.size (dropN (k * te.size) (loose.looseL (norm.normL dn cs)))) ⟨fun i r hr=>(chunks_get _ _ _ _ hr).symm⟩
     split at h
     ·exact ⟨_,h,local_buildOwn hc ho hl rfl hle hvs h1 hf hb.1.1 hb.1.2 (Nat.le_of_ble_eq_true hb.2)⟩
     ·exact ⟨_,h,local_buildSlice hc ho hl rfl hle hvs h1 hf hb.1.1 hb.1.2 (Nat.le_of_ble_eq_true hb.2)⟩
    ·exact h.elim
   ·exact h.elim
  ·exact h.elim
 ·exact h.elim
theorem slice_sound (hc : CxOk P cx) {t : Nat} {x : Operand} {lo hi : Option Operand} (ho : o.op = .slice t x lo hi none) {v : SV} {sa sb : Option SV} (hv : rd cx σ T x = some v) (hlo : optRd cx σ T lo = some sa) (hhi : optRd cx σ T hi = some sb)
  (h : stepSlice cx σ T t v sa sb K) : ∃ r,K r∧Local P cx.gl σ T o r:=by
 unfold stepSlice at h
 split at h
 ·rename_i p hp
  have row : ∀ (nl : BT) (n : ST) (sz : Nat) (f : Nat→List SV) (e a b : Nat) (c : List SV),look t cx.tt = some ⟨.slice e,a,b,c⟩→(rd cx σ T x = some (.sl nl n sz f)∨∃ h,rd cx σ T x = some (.gsl nl n sz f h))→
    stepSlice.onRow cx σ T sb K nl n sz f e p→∃ r,K r∧Local P cx.gl σ T o r:=by
   intro nl n sz f e a b c hl hv h
   unfold stepSlice.onRow at h
   split at h
   ·rename_i q hq
    split at h
    ·rename_i hs
     rw [hc.D] at h
     obtain ⟨h1,h2⟩:=h
     rw [Ob_iff] at h1
     have h1 : allT (condsOf σ.gm T)→0≤p.den∧p.den≤q.den∧q.den≤n.den:=fun hT=>⟨(h1 hT).lo,(h1 hT).le,(h1 hT).hi⟩
     have key : ∀ i j : Nat,(j : Int) = i + p.den→(fun i : Nat=>f ((i : Int) + p.den).toNat) i = f j:=fun i j hij=>by
      show f ((i : Int) + p.den).toNat = f j
      rw [←hij]; rfl
     exact ⟨_,h2 _ _ ⟨rfl,key⟩,local_slice_row hc hl rfl hs ho hv hlo hhi hp hq h1 key⟩
    ·exact h.elim
   ·exact h.elim
  split at h
  ·rename_i nl n sz f e _ _ _ hl; exact row nl n sz f e _ _ _ hl (.inl hv) h
  ·rename_i nl n sz f hd e _ _ _ hl; exact row nl n sz f e _ _ _ hl (.inr ⟨hd,hv⟩) h
  ·rename_i nl n hd e _ _ _ hl
   split at h
   ·rename_i e' n0 sz gr f k b hh
    split at h
    ·rename_i hbq
     simp only [Bool.and_eq_true,beq_iff_eq] at hbq
     obtain ⟨rfl,hsome⟩:=hbq
     rw [hc.D] at h
     obtain ⟨h0,h2,h3⟩:=h
     obtain ⟨te,hle⟩:=Option.isSome_iff_exists.1 hsome
     exact ⟨_,h3,local_slice_share hc hl rfl hle ho hv hh hlo hhi h0.h ⟨Int.le_trans h2.lo h2.le,h2.hi⟩ trivial⟩
    ·exact h.elim
   ·rename_i e' n0 sz gr f k b hh
    split at h
    ·rename_i hs
     rw [hc.D] at h
     obtain ⟨h0,h2,h3⟩:=h
     exact ⟨_,h3,local_slice_tail hc hl rfl hs ho hv hh hhi hlo h0.h ⟨h2.lo,h2.le⟩⟩
    ·exact h.elim
   ·exact h.elim
  ·rename_i nl n g0 hd e _ _ _ hl
   split at h
   ·rename_i e' n0 g1 sz f k b hh
    split at h
    ·rename_i hbq
     simp only [Bool.and_eq_true,beq_iff_eq] at hbq
     obtain ⟨rfl,hsome⟩:=hbq
     rw [hc.D] at h
     obtain ⟨h0,h1,h2,h3⟩:=h
     obtain ⟨te,hle⟩:=Option.isSome_iff_exists.1 hsome
     exact ⟨_,h3 _ ⟨rfl⟩,local_slice_vec hc hl rfl hle ho hv hh hlo hhi h0.h h1.h ⟨Int.le_trans h2.lo h2.le,h2.hi⟩ rfl trivial⟩
    ·exact h.elim
   ·exact h.elim
  ·rename_i s _ _ _ hl
   split at h
   ·rename_i q hq
    rw [hc.D] at h
    obtain ⟨h1,h2⟩:=h
    rw [Ob_iff] at h1
    exact ⟨_,h2 _ ⟨rfl⟩,local_slice_str hc hl rfl ho hv hlo hhi hp hq fun hT=>⟨(h1 hT).lo,(h1 hT).le,(h1 hT).hi⟩⟩
   ·exact h.elim
  ·exact h.elim
 ·exact h.elim
theorem append_sound (hc : CxOk P cx) {c : Call} (ho : o.op = .call c) (hcal : c.callee = .builtin .append) {x y : Operand} {t e : Nat} {te ti : TI} (hx : c.args.toList = [x,y]) (ht : c.argTypes.toList = [t,t]) (hlt : look t cx.tt = some ti) (hk : ti.k = .slice e) (hle : look e cx.tt = some te) (hz : 0 < te.size)
  {b s : SV} (hb : rd cx σ T x = some b) (hs : rd cx σ T y = some s) (h : appendTo cx σ b s e te.size te.bytes K) : ∃ r,K r∧Local P cx.gl σ T o r:=by
 unfold appendTo at h
 split at h
 ·rename_i m g hrow
  rw [hc.D] at h
  split at h
  ·obtain ⟨h1,h2⟩:=h
   exact ⟨_,h2 g _ ⟨rfl,fun _ _=>rfl⟩,local_append_new hc ho hcal hx ht hlt hk hle rfl hz hb hs hrow ⟨h1.mem,h1.hi⟩ rfl fun _ _=>rfl⟩
  ·rename_i nl n sz' f hd
   split at h
   ·rename_i e' n0 sz'' hh
    split at h
    ·rename_i hbq
     simp only [Bool.and_eq_true,beq_iff_eq] at hbq
     obtain ⟨⟨rfl,rfl⟩,rfl⟩:=hbq
     obtain ⟨h1,h2⟩:=h
     have h1 : n.den = n0.den∧(n.den + m.den) * te.bytes≤140737488355328∧n.den + m.den≤9223372036854775807:=⟨h1.eq,h1.mem,h1.hi⟩
     let f' : Nat→List SV:=fun i=>if (i : Int) < n.den then f i else g ((i : Int) - n.den).toNat
     have k1 : ∀ i : Nat,(i : Int) < n.den→f' i = f i:=fun i hi=>by simp only [f']; rw [if_pos hi]
     have k2 : ∀ i j : Nat,(i : Int) = n.den + j→(j : Int) < m.den→f' i = g j:=fun i j hi _=>by
      simp only [f']; rw [if_neg (by omega)]; congr 1; omega
     exact ⟨_,h2 f' _ ⟨rfl,k1,k2⟩,local_append_more hc ho hcal hx ht hlt hk hle rfl hz hb hh hs hrow h1 rfl k1 k2⟩
    ·exact h.elim
   ·exact h.elim
  ·rename_i nl n hd
   split at h
   ·rename_i e' n0 sz'' gr f hh
    split at h
    ·rename_i hbq
     simp only [Bool.and_eq_true,beq_iff_eq] at hbq
     obtain ⟨rfl,rfl⟩:=hbq
     obtain ⟨h1,h2⟩:=h
     have h1 : n.den = n0.den∧(n.den + m.den) * te.bytes≤140737488355328∧n.den + m.den≤9223372036854775807:=⟨h1.eq,h1.mem,h1.hi⟩
     let f' : Nat→List SV:=fun i=>if (i : Int) < n.den then f i else g ((i : Int) - n.den).toNat
     have k1 : ∀ i : Nat,(i : Int) < n.den→f' i = f i:=fun i hi=>by simp only [f']; rw [if_pos hi]
     have k2 : ∀ i j : Nat,(i : Int) = n.den + j→(j : Int) < m.den→f' i = g j:=fun i j hi _=>by
      simp only [f']; rw [if_neg (by omega)]; congr 1; omega
     exact ⟨_,h2 f' _ ⟨rfl,k1,k2⟩,local_append_ownG hc ho hcal hx ht hlt hk hle rfl hz hb hh hs hrow h1 rfl k1 k2⟩
    ·exact h.elim
   ·exact h.elim
  ·rename_i nl n g0 hd
   split at h
   ·rename_i e' n0 g1 sz'' f hh
    split at h
    ·rename_i hbq
     simp only [Bool.and_eq_true,beq_iff_eq] at hbq
     obtain ⟨rfl,rfl⟩:=hbq
     obtain ⟨h1,h0,h2⟩:=h
     have h1 : n.den = n0.den∧(n.den + m.den) * te.bytes≤140737488355328∧n.den + m.den≤9223372036854775807:=⟨h1.eq,h1.mem,h1.hi⟩
     let f' : Nat→List SV:=fun i=>if (i : Int) < n.den then f i else g ((i : Int) - n.den).toNat
     have k1 : ∀ i : Nat,(i : Int) < n.den→f' i = f i:=fun i hi=>by simp only [f']; rw [if_pos hi]
     have k2 : ∀ i j : Nat,(i : Int) = n.den + j→(j : Int) < m.den→f' i = g j:=fun i j hi _=>by
      simp only [f']; rw [if_neg (by omega)]; congr 1; omega
     exact ⟨_,h2 f' _ ⟨rfl,k1,k2⟩ _ ⟨rfl⟩,local_append_vec hc ho hcal hx ht hlt hk hle rfl hz hb hh hs hrow h1 h0.h rfl rfl k1 k2⟩
    ·exact h.elim
   ·exact h.elim
  ·exact h.elim
 ·exact h.elim
theorem copy_sound (hc : CxOk P cx) {c : Call} (ho : o.op = .call c) (hcal : c.callee = .builtin .copy) {x y : Operand} {t t' : Nat} (hx : c.args.toList = [x,y]) (ht : c.argTypes.toList = [t,t']) {d s : SV} (hd : rd cx σ T x = some d) (hs : rd cx σ T y = some s) (h : stepCopy cx σ T t d s K) : ∃ r,K r∧Local P cx.gl σ T o r:=by
 unfold stepCopy at h
 split at h
 ·rename_i e _ _ _ hd' hl
  split at h
  ·rename_i ty n sz f sz'' hh hsz
   split at h
   ·rename_i m g hrow hzz
    have hzz : sz'' = sz:=by simpa using hzz
    subst hzz
    rw [hc.D] at h
    let f' : Nat→List SV:=fun i=>if (i : Int) < min m.den n.den then g i else f i
    have k1 : ∀ i : Nat,(i : Int) < min m.den n.den→f' i = g i:=fun i hi=>by simp only [f']; rw [if_pos hi]
    have k2 : ∀ i : Nat,min m.den n.den≤(i : Int)→(i : Int) < n.den→f' i = f i:=fun i hi _=>by simp only [f']; rw [if_neg (by omega)]
    exact ⟨_,h f' _ ⟨rfl,k1,k2⟩,local_copy hc ho hcal hx ht hl rfl hd hs hh hsz hrow k1 k2⟩
   ·exact h.elim
  ·exact h.elim
 ·exact h.elim
theorem load_mptr_sound (hc : CxOk P cx) {t : Nat} {x : Operand} (ho : o.op = .load t x) {h j off n : Nat} (hv : rd cx σ T x = some (.mptr h j off)) (hn : size? cx t = some n)
  (hs : match nth σ.hp h with
   | some (.row _ m _ f)=>Ob cx.D σ.gm T (LtB j (cx.D.i m))∧
    if Nat.ble (off + n) (lenN (f j)) then
     match pack (isAgg? cx t) (takeN n (dropN off (f j))) with
     | some v=>K ⟨v,[],[h],[]⟩
     | none=>False
    else False
   | _=>False) : ∃ r,K r∧Local P cx.gl σ T o r:=by
 split at hs
 ·rename_i ty m sz f hh
  obtain ⟨h1,h2⟩:=hs
  rw [hc.D,Ob_iff] at h1
  split at h2
  ·rename_i hb
   split at h2
   ·rename_i v hp
    rw [takeN_eq,dropN_eq] at hp
    rw [lenN_eq] at hb
    exact ⟨_,h2,local_load_mptr hc ho hv hn hh (fun hT=>(h1 hT).h) (Nat.le_of_ble_eq_true hb) hp⟩
   ·exact h2.elim
  ·exact h2.elim
 ·exact hs.elim
theorem store_mptr_sound (hc : CxOk P cx) {t : Nat} {x y : Operand} (ho : o.op = .store t x y) {h j off n : Nat} {v : SV} (hv : rd cx σ T x = some (.mptr h j off)) (hy : rdT cx σ T t y = some v) (hn : size? cx t = some n)
  (hs : match nth σ.hp h with
   | some (.row ty m sz f)=>LtB j (cx.D.i m)∧
    if lenN v.cells == n && Nat.ble (off + n) (lenN (f j)) && onesB v.cells && plainV (.agg (loose.looseL (norm.normL cx.D v.cells))) then
     allSet f j (putN (f j) off (loose.looseL (norm.normL cx.D v.cells))) fun f'=>K ⟨.tup [],[.put h (.row ty m sz f')],[h],[]⟩
    else False
   | _=>False) : ∃ r,K r∧Local P cx.gl σ T o r:=by
 split at hs
 ·rename_i ty m sz f hh
  obtain ⟨h1,h2⟩:=hs
  split at h2
  ·rename_i hb
   simp only [Bool.and_eq_true,beq_iff_eq,lenN_eq] at hb
   rw [hc.D] at h1 h2 hb
   let f' : Nat→List SV:=fun i=>if i = j then putN (f j) off (loose.looseL (norm.normL dn v.cells)) else f i
   have k1 : f' j = putN (f j) off (loose.looseL (norm.normL dn v.cells)):=by simp [f']
   have k2 : ∀ i : Nat,i≠j→f' i = f i:=fun i hi=>by simp [f',hi]
   exact ⟨_,h2 f' ⟨k1,k2⟩,local_store_mptr hc ho hv hy hn hh h1.h hb.1.1.1 (Nat.le_of_ble_eq_true hb.1.1.2) hb.1.2 hb.2 k1 k2⟩
  ·exact h2.elim
 ·exact hs.elim
theorem load_optr_sound (hc : CxOk P cx) {t : Nat} {x : Operand} (ho : o.op = .load t x) {h j off n : Nat} {m' : ST} (hv : rd cx σ T x = some (.optr m' h j off)) (hn : size? cx t = some n)
  (hs : match nth σ.hp h with
   | some (.own _ m _ _ f)=>Ob cx.D σ.gm T (EqN (cx.D.i m') (cx.D.i m))∧Ob cx.D σ.gm T (LtB j (cx.D.i m))∧
    if Nat.ble (off + n) (lenN (f j)) then
     match pack (isAgg? cx t) (takeN n (dropN off (f j))) with
     | some v=>K ⟨v,[],[h],[]⟩
     | none=>False
    else False
   | _=>False) : ∃ r,K r∧Local P cx.gl σ T o r:=by
 split at hs
 ·rename_i ty m sz gr f hh
  obtain ⟨h0,h1,h2⟩:=hs
  rw [hc.D,Ob_iff] at h0 h1
  split at h2
  ·rename_i hb
   split at h2
   ·rename_i v hp
    rw [takeN_eq,dropN_eq] at hp
    rw [lenN_eq] at hb
    exact ⟨_,h2,local_load_optr hc ho hv hn hh (fun hT=>(h0 hT).h) (fun hT=>(h1 hT).h) (Nat.le_of_ble_eq_true hb) hp⟩
   ·exact h2.elim
  ·exact h2.elim
 ·exact hs.elim
theorem store_optr_sound (hc : CxOk P cx) {t : Nat} {x y : Operand} (ho : o.op = .store t x y) {h j off n : Nat} {m' : ST} {v : SV} (hT : T = []) (hv : rd cx σ T x = some (.optr m' h j off)) (hy : rdT cx σ T t y = some v) (hn : size? cx t = some n)
  (hs : match nth σ.hp h with
   | some (.own ty m sz gr f)=>EqN (cx.D.i m') (cx.D.i m)∧LtB j (cx.D.i m)∧
    if lenN v.cells == n && Nat.ble (off + n) (lenN (f j)) && onesB v.cells && plainV (.agg (loose.looseL (norm.normL cx.D v.cells))) then
     allSet f j (putN (f j) off (loose.looseL (norm.normL cx.D v.cells))) fun f'=>K ⟨.tup [],[.put h (.own ty m sz gr f')],[h],[]⟩
    else False
   | _=>False) : ∃ r,K r∧Local P cx.gl σ T o r:=by
 split at hs
 ·rename_i ty m sz gr f hh
  obtain ⟨h0,h1,h2⟩:=hs
  split at h2
  ·rename_i hb
   simp only [Bool.and_eq_true,beq_iff_eq,lenN_eq] at hb
   rw [hc.D] at h0 h1 h2 hb
   let f' : Nat→List SV:=fun i=>if i = j then putN (f j) off (loose.looseL (norm.normL dn v.cells)) else f i
   have k1 : f' j = putN (f j) off (loose.looseL (norm.normL dn v.cells)):=by simp [f']
   have k2 : ∀ i : Nat,i≠j→f' i = f i:=fun i hi=>by simp [f',hi]
   exact ⟨_,h2 f' ⟨k1,k2⟩,local_store_optr hc ho hv hy hn hh h0.h h1.h hb.1.1.1 (Nat.le_of_ble_eq_true hb.1.1.2) hb.1.2 hb.2 (by subst hT; trivial) k1 k2⟩
  ·exact h2.elim
 ·exact hs.elim
theorem strRow_ob {n : Int} {f : Nat→List SV} {A : Prop} (h : A→ByteRow n f) : ∃ r,SLe r n∧(A→StrRow r n f):=by
 by_cases hA : A
 ·obtain ⟨r,hr⟩:=strRow_exists (h hA)
  exact ⟨r,⟨.inl (Int.le_of_eq hr.len)⟩,fun _=>hr⟩
 ·exact ⟨[],⟨.inr rfl⟩,fun g=>absurd g hA⟩
theorem stepStr_sound (hc : CxOk P cx) {src dst e : TypeId} {x : Operand} (ho : o.op = .convert src dst x) {ts td : TI} (hls : look src cx.tt = some ts) (hks : ts.k = .slice e) (hld : look dst cx.tt = some td) (hkd : td.k = .string)
  {nl : BT} {n : ST} {f : Nat→List SV} (hv : rd cx σ T x = some (.sl nl n 1 f)∨∃ h,rd cx σ T x = some (.gsl nl n 1 f h)) (h : stepStr cx σ T e n f K) : ∃ r,K r∧Local P cx.gl σ T o r:=by
 unfold stepStr at h
 split at h
 ·rename_i a b c hle
  rw [hc.D] at h
  obtain ⟨h1,h2⟩:=h
  obtain ⟨r,hr⟩:=strRow_exists h1
  exact ⟨_,h2 r hr,local_bytesStr hc ho hls hks hld hkd hle rfl hv fun _=>⟨h1,hr⟩⟩
 ·rename_i a b c _ hle
  rw [hc.D] at h
  obtain ⟨h1,h2⟩:=h
  rw [Ob_iff] at h1
  obtain ⟨r,hle2,hr⟩:=strRow_ob h1
  exact ⟨_,h2 r hle2 ((Ob_iff _ _ _).2 hr),local_bytesStr hc ho hls hks hld hkd hle rfl hv fun g=>⟨h1 g,hr g⟩⟩
 ·exact h.elim
theorem stepOp_sound (hc : CxOk P cx) (htab : TabOk P cx.gl cx.tab) (h : stepOp cx σ T o K) : ∃ r,K r∧Local P cx.gl σ T o r:=by
 unfold stepOp at h
 split at h
 ·rename_i x ho; exact move_sound (.inl ho) h
 ·rename_i x ho; exact move_sound (.inr ho) h
 ·rename_i e ho
  split at h
  ·rename_i ti hl
   split at h
   ·split at h
    ·rename_i n el hk
     split at h
     ·rename_i sz' _
      split at h
      ·rename_i hb
       simp only [Bool.and_eq_true,beq_iff_eq] at hb
       obtain ⟨f,hf,h⟩:=h
       exact ⟨_,h,local_allocRow hc ho hl hb.1 (Nat.le_of_ble_eq_true hb.2) hf.h⟩
      ·exact h.elim
     ·exact h.elim
    ·exact h.elim
   ·exact ⟨_,h,local_alloc hc ho hl⟩
  ·exact h.elim
 ·rename_i e x ho
  split at h
  ·rename_i ti v hl hv
   split at h
   ·rename_i hb
    simp only [Bool.and_eq_true] at hb
    exact ⟨_,h,local_box ho hv hb.2⟩
   ·exact h.elim
  ·exact h.elim
 ·rename_i t ps ho
  split at h
  ·rename_i ti vs hl hv
   split at h
   ·rename_i cs fs h1 hf hk
    exact ⟨_,h,local_build hc ho hl hv h1 hf (.inl ⟨fs,hk⟩) (fun e n hk'=>by rw [hk] at hk'; cases hk')⟩
   ·rename_i cs n e h1 hf hk
    split at h
    ·rename_i m hm
     exact ⟨_,h,local_build hc ho hl hv h1 hf (.inr ⟨n,e,hk⟩) (fun e' n' hk'=>by rw [hk] at hk'; cases hk'; exact ⟨m,hm⟩)⟩
    ·exact h.elim
   ·exact h.elim
  ·exact h.elim
 ·rename_i t x ho
  split at h
  ·rename_i hd off n hv hn
   split at h
   ·rename_i ty cs hh
    split at h
    ·rename_i hb
     split at h
     ·rename_i v hp
      rw [takeN_eq,dropN_eq] at hp
      refine ⟨_,h,local_load_ptr hc ho hv hn hh ?_ hp⟩
      rw [lenN_eq] at hb
      exact Nat.le_of_ble_eq_true hb
     ·exact h.elim
    ·exact h.elim
   ·rename_i ty m sz f hh
    split at h
    ·rename_i n' el sz' _ _ hl
     split at h
     ·rename_i he
      obtain ⟨he1,rfl⟩:=he
      obtain ⟨hm,cs,hf,h⟩:=h
      rw [hc.D] at hm hf
      exact ⟨_,h,local_load_whole hc ho hl rfl rfl hv hh hm.h hf⟩
     ·exact h.elim
    ·exact h.elim
   ·exact h.elim
  ·rename_i cs n hv hn
   split at h
   ·rename_i hb
    obtain ⟨v,hp,h⟩:=outO_some h
    rw [takeN_eq] at hp
    refine ⟨_,h,local_load_rptr hc ho hv hn ?_ hp⟩
    rw [lenN_eq] at hb
    exact Nat.le_of_ble_eq_true hb
   ·exact h.elim
  ·rename_i hd j off n hv hn
   exact load_mptr_sound hc ho hv hn h
  ·rename_i m' hd j off n hv hn
   exact load_optr_sound hc ho hv hn h
  ·exact h.elim
 ·rename_i t x y ho
  split at h
  ·split at h
   ·rename_i ty cs hh
    split at h
    ·rename_i hb
     simp only [Bool.and_eq_true,beq_iff_eq,lenN_eq] at hb
     exact ⟨_,h,local_store hc ho ‹_› ‹_› ‹_› hh hb.1.1 (Nat.le_of_ble_eq_true hb.1.2) hb.2⟩
    ·exact h.elim
   ·rename_i ty m sz f hh
    split at h
    ·split at h
     ·rename_i he
      obtain ⟨he1,rfl⟩:=he
      obtain ⟨hm,hp,f',hf,h⟩:=h
      rw [hc.D] at hm hf
      exact ⟨_,h,local_store_whole hc ho ‹look t cx.tt = _› rfl rfl ‹_› ‹_› hh hm.h hp.ones hp.plain hf⟩
     ·exact h.elim
    ·exact h.elim
   ·exact h.elim
  ·exact store_mptr_sound hc ho ‹_› ‹_› ‹_› h
  ·exact store_optr_sound hc ho rfl ‹_› ‹_› ‹_› h
  ·exact h.elim
 ·rename_i t x i ho
  split at h
  ·rename_i hd off fo ft hv hf
   split at h
   ·rename_i m hn; exact ⟨_,h,local_fieldAddr_ptr hc ho hv hf hn⟩
   ·exact h.elim
  ·rename_i cs fo ft hv hf
   split at h
   ·rename_i m hn
    split at h
    ·rw [takeN_eq,dropN_eq] at h
     exact ⟨_,h,local_fieldAddr_rptr hc ho hv hf hn⟩
    ·exact h.elim
   ·exact h.elim
  ·rename_i hd j off fo ft hv hf
   split at h
   ·rename_i m hn; exact ⟨_,h,local_fieldAddr_mptr hc ho hv hf hn⟩
   ·exact h.elim
  ·rename_i n' hd j off fo ft hv hf
   split at h
   ·rename_i m hn; exact ⟨_,h,local_fieldAddr_optr hc ho hv hf hn⟩
   ·exact h.elim
  ·exact h.elim
 ·rename_i x ho
  split at h
  ·rename_i hd off hv; exact ⟨_,h,local_nilCheck ho hv (.inl ⟨_,_,rfl⟩)⟩
  ·rename_i cs hv; exact ⟨_,h,local_nilCheck ho hv (.inr (.inl ⟨_,rfl⟩))⟩
  ·rename_i hd j off hv; exact ⟨_,h,local_nilCheck ho hv (.inr (.inr (.inl ⟨_,_,_,rfl⟩)))⟩
  ·rename_i n hd j off hv; exact ⟨_,h,local_nilCheck ho hv (.inr (.inr (.inr (.inr ⟨_,_,_,_,rfl⟩))))⟩
  ·rename_i n sz f hv; exact ⟨_,h,local_nilCheck ho hv (.inr (.inr (.inr (.inl ⟨_,_,_,rfl⟩))))⟩
  ·exact h.elim
 ·rename_i t x i ho
  split at h
  ·rename_i cs fo ft hv hf
   split at h
   ·rename_i m hn
    split at h
    ·rename_i hb
     obtain ⟨v,hp,h⟩:=outO_some h
     rw [takeN_eq,dropN_eq] at hp
     rw [lenN_eq] at hb
     exact ⟨_,h,local_field hc ho hv hf hn (Nat.le_of_ble_eq_true hb) hp⟩
    ·exact h.elim
   ·exact h.elim
  ·exact h.elim
 ·rename_i t x y ho
  split at h
  ·rename_i nl n sz f k i e a b c hv hi hl
   exact index_sl_sound hc ho (.inl hv) hi hl h
  ·rename_i nl n sz f hd k i e a b c hv hi hl
   exact index_sl_sound hc ho (.inr ⟨hd,hv⟩) hi hl h
  ·rename_i hd k i e a b c hv hi hl
   split at h
   ·rename_i ty n sz f hh
    split at h
    ·rename_i hs
     rw [hc.D] at h
     obtain ⟨h1,h2⟩:=h
     rw [Ob_iff] at h1
     have h1 : allT (condsOf σ.gm T)→0≤i.den∧i.den < n.den:=fun hT=>⟨(h1 hT).lo,(h1 hT).hi⟩
     refine ⟨_,allJ_get h2 i.den.toNat ((Ob_iff _ _ _).2 fun hT=>?_),local_index_row hc hl rfl hs ho hv hh hi h1⟩
     have:=(h1 hT).1
     refine ⟨?_⟩
     show ((i.den.toNat : Nat) : Int) = i.den
     omega
    ·exact h.elim
   ·exact h.elim
  ·rename_i nl m hd k i e a b c hv hi hl
   split at h
   ·rename_i ty n sz gr f hh
    split at h
    ·rename_i hs
     rw [hc.D] at h
     obtain ⟨h0,h1,h2⟩:=h
     rw [Ob_iff] at h0 h1
     have h1 : allT (condsOf σ.gm T)→0≤i.den∧i.den < n.den:=fun hT=>⟨(h1 hT).lo,(h1 hT).hi⟩
     refine ⟨_,allJ_get h2 i.den.toNat ((Ob_iff _ _ _).2 fun hT=>?_),local_index_osl hc hl rfl hs ho hv hh hi (fun hT=>(h0 hT).h) h1⟩
     have:=(h1 hT).1
     refine ⟨?_⟩
     show ((i.den.toNat : Nat) : Int) = i.den
     omega
    ·exact h.elim
   ·exact h.elim
  ·rename_i hd off k i n e a b c hv hi hl
   split at h
   ·rename_i sz hs
    split at h
    ·rename_i ty m sz' f hh
     split at h
     ·rename_i he
      have he : sz' = sz:=by simpa using he
      subst he
      rw [hc.D] at h
      obtain ⟨⟨h0,h1⟩,h2⟩:=h
      have h0 : 0≤i.den:=h0
      have h1 : i.den < n:=h1
      refine ⟨_,allJ_get h2 i.den.toNat ((Ob_iff _ _ _).2 fun _=>⟨?_⟩),local_index_arow hc hl rfl hs ho hv hh hi h0 h1⟩
      show ((i.den.toNat : Nat) : Int) = i.den
      omega
     ·exact h.elim
    ·exact ixArr_sound hc hl rfl hs ho hv hi h
   ·exact h.elim
  ·rename_i n sz f k i n' e a b c hv hi hl
   split at h
   ·rename_i hs
    obtain ⟨hs,rfl⟩:=hs
    rw [hc.D] at h
    obtain ⟨h1,h2⟩:=h
    rw [Ob_iff] at h1
    have h1 : allT (condsOf σ.gm T)→0≤i.den∧i.den < n:=fun hT=>⟨(h1 hT).lo,(h1 hT).hi⟩
    refine ⟨_,allJ_get h2 i.den.toNat ((Ob_iff _ _ _).2 fun hT=>?_),local_index_arr hc hl rfl hs ho hv hi h1⟩
    have:=(h1 hT).1
    refine ⟨?_⟩
    show ((i.den.toNat : Nat) : Int) = i.den
    omega
   ·exact h.elim
  ·exact h.elim
 ·rename_i f fi cs ho
  split at h
  ·rename_i vs hfi hv; exact ⟨_,h,local_makeFunc ho hfi hv⟩
  ·exact h.elim
 ·rename_i t len ps ho; exact buildSlice_sound hc ho h
 ·rename_i t l c ho
  split at h
  ·rename_i a b ha hb; exact make_sound hc ho ha hb h
  ·exact h.elim
 ·rename_i t x lo hi ho
  split at h
  ·rename_i v a b hv ha hb; exact slice_sound hc ho hv ha hb h
  ·exact h.elim
 ·rename_i t x ix ho
  split at h
  ·rename_i s k i _ _ _ hv hi hl
   rw [hc.D] at h
   obtain ⟨h1,h2⟩:=h
   rw [Ob_iff] at h1
   exact ⟨_,h2 _ ⟨rfl⟩,local_index_str hc hl rfl ho hv hi fun hT=>⟨(h1 hT).lo,(h1 hT).hi⟩⟩
  ·rename_i cs k q n e _ _ _ hv hi hl
   split at h
   ·rename_i sz hn
    split at h
    ·rename_i hb
     simp only [Bool.and_eq_true] at hb
     obtain ⟨v,hp,h⟩:=outO_some h
     rw [takeN_eq,dropN_eq] at hp
     exact ⟨_,h,local_index_agg hc hl rfl ho hv hi hn (by simpa using hb.1) (by rw [←lenN_eq]; exact Nat.le_of_ble_eq_true hb.2) hp⟩
    ·exact h.elim
   ·exact h.elim
  ·exact h.elim
 ·rename_i t ho
  split at h
  ·exact ⟨_,h,local_makeMap ho⟩
  ·exact h.elim
 ·rename_i t m k x ho
  split at h
  ·rename_i kt vt _ _ _ h0 s b hl hm hk hx
   split at h
   ·rename_i F hlk _ hh
    exact ⟨_,h _ ⟨fun k=>rfl⟩,local_mapUpdate hc (.inl ho) hl rfl hlk rfl hm hk hx hh ⟨fun k=>by rw [hc.D]; rfl⟩⟩
   ·exact h.elim
  ·exact h.elim
 ·rename_i t m k x ho
  split at h
  ·rename_i kt vt _ _ _ h0 s b hl hm hk hx
   split at h
   ·rename_i F hlk _ hh
    exact ⟨_,h _ ⟨fun k=>rfl⟩,local_mapUpdate hc (.inr ho) hl rfl hlk rfl hm hk hx hh ⟨fun k=>by rw [hc.D]; rfl⟩⟩
   ·exact h.elim
  ·exact h.elim
 ·rename_i t m k ho
  split at h
  ·rename_i kt vt _ _ _ h0 s hl hm hk
   split at h
   ·rename_i F hlk hlv hh
    exact ⟨_,h,local_lookup hc ho hl rfl hlk rfl hlv rfl rfl hm hk hh⟩
   ·exact h.elim
  ·exact h.elim
 ·rename_i x i ho
  split at h
  ·rename_i vs hv
   obtain ⟨v,hp,h⟩:=outO_some h
   exact ⟨_,h,local_extract ho hv hp⟩
  ·exact h.elim
 ·rename_i op t x ho
  split at h
  ·rename_i b hv; exact ⟨_,h,local_not ho hv⟩
  ·rename_i k n hv; exact ⟨_,h,local_neg ho hv⟩
  ·exact h.elim
 ·rename_i op t x y u ho
  split at h
  ·rename_i a w hx hy; exact stepNil_sound hc ho hx hy h
  ·rename_i a b _ hx hy; exact stepBin_sound hc ho hx hy h
  ·exact h.elim
 ·rename_i src dst x ho
  split at h
  ·rename_i k' n k a b c tj hv hl hl'; exact ⟨_,h,local_conv hc ho hl hl' rfl hv⟩
  ·rename_i s e a b c a' b' c' hv hl hl'
   split at h
   ·rename_i a'' b'' c'' hle
    rw [hc.D] at h
    split at h
    ·split at h
     ·obtain ⟨h1,h2⟩:=h
      exact ⟨_,h2 _ ⟨rfl⟩,local_strOwn hc ho hl' rfl hl rfl hle rfl hv h1.h⟩
     ·exact h.elim
    ·obtain ⟨h1,h2⟩:=h
     rw [Ob_iff] at h1
     exact ⟨_,h2 _ ⟨rfl⟩,local_strBytes hc ho hl' rfl hl rfl hle rfl hv fun hT=>(h1 hT).h⟩
   ·exact h.elim
  ·rename_i nl n f a b c e a' b' c' hv hl hl'
   exact stepStr_sound hc ho hl' rfl hl rfl (.inl hv) h
  ·rename_i nl n f hd a b c e a' b' c' hv hl hl'
   exact stepStr_sound hc ho hl' rfl hl rfl (.inr ⟨hd,hv⟩) h
  ·rename_i n hd e a b c e' a' b' c' hv hl hl'
   split at h
   ·rename_i a'' b'' c'' ty n0 f hle hh
    split at h
    ·rename_i hb
     simp only [Bool.and_eq_true,beq_iff_eq] at hb
     obtain ⟨⟨rfl,rfl⟩,rfl⟩:=hb
     rw [hc.D] at h
     exact ⟨_,h.2,local_convOwn hc ho hl rfl hle rfl hv hh h.1.h⟩
    ·exact h.elim
   ·exact h.elim
  ·rename_i nl n hd a b c e a' b' c' hv hl hl'
   split at h
   ·rename_i a'' b'' c'' ty n0 gr f hle hh
    rw [hc.D] at h
    obtain ⟨h0,h1,h2⟩:=h
    obtain ⟨r,hr⟩:=strRow_exists h1
    exact ⟨_,h2 r hr,local_ownStr hc ho hl' rfl hl rfl hle rfl hv hh h0.h ⟨h1,hr⟩⟩
   ·exact h.elim
  ·exact h.elim
 ·rename_i c ho
  split at h
  ·rename_i hcal
   split at h
   ·rename_i x t hx ht
    split at h
    ·rename_i nl n sz f e a b c hv hl; exact ⟨_,h,local_len_sl hc ho hcal hx ht hl rfl (.inl hv)⟩
    ·rename_i nl n sz f hd e a b c hv hl; exact ⟨_,h,local_len_sl hc ho hcal hx ht hl rfl (.inr ⟨hd,hv⟩)⟩
    ·rename_i nl n hd e a b c hv hl; exact ⟨_,h,local_len_osl hc ho hcal hx ht hl rfl hv⟩
    ·rename_i nl n g0 hd e a b c hv hl; exact ⟨_,h,local_len_vsl hc ho hcal hx ht hl rfl hv⟩
    ·rename_i s a b c hv hl; exact ⟨_,h,local_len_str hc ho hcal hx ht hl rfl hv⟩
    ·rename_i hd e a b c hv hl
     split at h
     ·rename_i ty n sz f hh; exact ⟨_,h,local_len_row hc ho hcal hx ht hl rfl hv hh⟩
     ·exact h.elim
    ·exact h.elim
   ·exact h.elim
  ·rename_i hcal
   split at h
   ·rename_i x y t t' hx ht
    split at h
    ·rename_i b s e _ _ _ hb hs hl
     split at h
     ·rename_i te hle
      split at h
      ·rename_i hcond
       simp only [Bool.and_eq_true,beq_iff_eq,Nat.blt_eq] at hcond
       obtain ⟨rfl,hz⟩:=hcond
       exact append_sound hc ho hcal hx ht hl rfl hle hz hb hs h
      ·exact h.elim
     ·exact h.elim
    ·exact h.elim
   ·exact h.elim
  ·rename_i hcal
   split at h
   ·rename_i x t hx ht
    split at h
    ·rename_i n aa hd e _ _ _ hv hl
     split at h
     ·rename_i e' n0 sz gr f te hh hle
      split at h
      ·rename_i hbq
       simp only [Bool.and_eq_true,beq_iff_eq] at hbq
       obtain ⟨⟨rfl,hsz⟩,hpl⟩:=hbq
       rw [hc.D] at h
       obtain ⟨h0,h3⟩:=h
       let f' : Nat→List SV:=fun i=>if (i : Int) < aa.den then f i else te.zero
       have q1 : ∀ i : Nat,(i : Int) < aa.den→f' i = f i:=fun i hi=>by simp only [f']; rw [if_pos hi]
       have q2 : ∀ i : Nat,aa.den≤(i : Int)→f' i = te.zero:=fun i hi=>by simp only [f']; rw [if_neg (by omega)]
       exact ⟨_,h3 f' ⟨q1,q2⟩,local_clear_own hc ho hcal hx ht hl rfl hle hsz hv hh h0.h hpl q1 q2 trivial⟩
      ·exact h.elim
     ·exact h.elim
    ·exact h.elim
   ·exact h.elim
  ·rename_i hcal
   split at h
   ·rename_i x y t t' hx ht
    split at h
    ·rename_i d s hd hs; exact copy_sound hc ho hcal hx ht hd hs h
    ·exact h.elim
   ·exact h.elim
  ·rename_i hcal
   split at h
   ·rename_i x y hx
    split at h
    ·rename_i k a k' b ha hb
     split at h
     ·rename_i e
      subst e
      rw [hc.D] at h
      exact ⟨_,h _ ⟨rfl⟩,local_max ho hcal hx ha hb⟩
     ·exact h.elim
    ·exact h.elim
   ·exact h.elim
  ·rename_i hcal
   split at h
   ·rename_i x y hx
    split at h
    ·rename_i k a k' b ha hb
     split at h
     ·rename_i e
      subst e
      rw [hc.D] at h
      exact ⟨_,h _ ⟨rfl⟩,local_min ho hcal hx ha hb⟩
     ·exact h.elim
    ·exact h.elim
   ·exact h.elim
  ·rename_i f hcal
   split at h
   ·rename_i vs hv; exact stepCall_sound hc htab (enters_func ho hcal hv) h
   ·exact h.elim
  ·rename_i sl hcal
   split at h
   ·rename_i vs f hv hs
    refine stepCall_sound hc htab (fun hg=>?_) h
    have:=enters_slot (cs:=[]) ho hcal hv (.inr ⟨rfl,hs⟩) hg
    rwa [List.append_nil] at this
   ·rename_i vs f cs hv hs
    exact stepCall_sound hc htab (enters_slot ho hcal hv (.inl hs)) h
   ·exact h.elim
  ·exact h.elim
 ·exact h.elim
end
end Go.Sx
namespace Go.Sx
open Go
structure WfG (σ : Sy) : Prop where
 tg : ∀ s g,getO σ.fr s = some g→∀ i∈g.tg,i < σ.gm.length
 gt : ∀ s g i,getO σ.fr s = some g→g.gt = some i→∃ c,g.v = .bool c∧nth σ.gm i = some c
 gf : ∀ s g i,getO σ.fr s = some g→g.gf = some i→∃ c,g.v = .bool c∧nth σ.gm i = some (.not c)
theorem condsOf_grow {gm : List BT} {c : BT} : ∀ {T : List Nat},(∀ i∈T,i < gm.length)→condsOf (gm ++ [c]) T = condsOf gm T
 | [],_=>rfl
 | i :: T,h=>by
  have h1:=condsOf_grow (gm:=gm) (c:=c) (T:=T) fun j hj=>h j (List.mem_cons_of_mem _ hj)
  have h2 : nth (gm ++ [c]) i = nth gm i:=by rw [nth_eq,nth_eq,List.getElem?_append_left (h i (List.mem_cons_self ..))]
  simp only [condsOf,List.filterMap_cons,h2] at *
  rw [h1]
theorem getO_set {α : Type} (fr : List (Option α)) (d s : Nat) (g : Option α) : getO (setN fr d g) s = if s = d∧d < fr.length then g else getO fr s:=by
 rw [getO_eq,getO_eq,setN_eq,List.getElem?_set]
 by_cases e : d = s
 ·subst e
  by_cases h : d < fr.length<;>simp [h]
 ·rw [if_neg e,if_neg (fun h=>e h.1.symm)]
section
variable {P : Program} {cx : Cx}
theorem put_out {a : Act} {d : Nat} {v : Value} (h : a.tmps.size≤d) : a.put (some d) v = a:=by
 obtain ⟨t,ds⟩:=a
 simp only [Act.put] at *
 congr 1
 exact Array.setIfInBounds_eq_of_size_le h
theorem St.setD {B : Bs} {N : Nat} {E : Env} {a : Act} {w : World} {σ : Sy} {hf : Nat→Hl} (st : St B N E a w (ffOf σ) hf) (hN : σ.fr.length = N) (d : Option Nat) (v : Value) (g : Option G)
  (hg : ∀ g',g = some g'→(allT (condsOf σ.gm g'.tg)→Rel E w g'.v v)∧(¬ allT (condsOf σ.gm g'.tg)→v = undef)) (hp' : List Hl) : St B N E (a.put d v) w (ffOf ⟨setD σ.fr d g,hp',σ.gm⟩) hf:=by
 have key : ∀ k,d = some k→k < N→St B N E (a.put d v) w (ffOf ⟨Sx.setD σ.fr d g,hp',σ.gm⟩) hf:=by
  intro k hk hlt
  have:=st.put d v (g.map fun g=>(condsOf σ.gm g.tg,g.v)) (fun cs s e=>by
   cases g with
   | none=>cases e
   | some g'=>simp only [Option.map_some,Option.some.injEq,Prod.mk.injEq] at e; obtain ⟨rfl,rfl⟩:=e; exact hg g' rfl) (fun j hj=>by rw [hk] at hj; cases hj; exact hlt)
  have e : updO (ffOf σ) d (g.map fun g=>(condsOf σ.gm g.tg,g.v)) = ffOf ⟨Sx.setD σ.fr d g,hp',σ.gm⟩:=by
   subst hk
   funext s
   simp only [updO,upd,ffOf,Sx.setD,getO_set]
   by_cases e : s = k
   ·subst e; simp [hN,hlt]
   ·simp [e]
  rw [e] at this
  exact this
 cases d with
 | none=>exact st
 | some k =>
  by_cases hlt : k < N
  ·exact key k rfl hlt
  ·rw [put_out (by rw [st.size]; omega)]
   have e : ffOf ⟨Sx.setD σ.fr (some k) g,hp',σ.gm⟩ = ffOf σ:=by
    funext s
    simp only [ffOf,Sx.setD,getO_set]
    rw [if_neg (fun h=>hlt (by rw [←hN]; exact h.2))]
   rw [e]
   exact st
theorem hfOf_putH {hp : List Hl} {h : Nat} {hl : Hl} (hle : h≤hp.length) : hfOf (putH hp h hl) = upd (hfOf hp) h hl:=by
 funext k
 unfold putH
 rw [lenN_eq]
 by_cases e : h = hp.length
 ·subst e
  simp only [beq_self_eq_true,if_true,hfOf,nth_eq,upd]
  by_cases e2 : k = hp.length
  ·subst e2; simp
  ·rw [if_neg e2]
   by_cases e3 : k < hp.length
   ·rw [List.getElem?_append_left e3]
   ·rw [List.getElem?_eq_none (by simp; omega),List.getElem?_eq_none (by omega)]
 ·have : (h == hp.length) = false:=by simpa using e
  simp only [this,Bool.false_eq_true,if_false,hfOf,nth_eq,setN_eq,upd,List.getElem?_set]
  by_cases e2 : h = k
  ·subst e2; rw [if_pos rfl,if_pos rfl,if_pos (by omega)]; rfl
  ·rw [if_neg e2,if_neg (fun h=>e2 h.symm)]
theorem hfOf_efsH : ∀ (es : List Ef) (hp : List Hl),okEfs hp es = true→hfOf (efsH hp es) = efsF (hfOf hp) es
 | [],hp,_=>rfl
 | .set h off vs :: es,hp,ho=>by
  simp only [okEfs] at ho
  show hfOf (efsH (efH hp (.set h off vs)) es) = efsF (efF (hfOf hp) (.set h off vs)) es
  rw [hfOf_efsH es _ ho]
  congr 1
  simp only [efH,efF]
  cases hn : nth hp h with
  | none=>simp [hfOf,hn]
  | some hl =>
   rw [nth_hf hn]
   cases hl<;>try rfl
   rename_i ty cs
   funext k
   have hlt : h < hp.length:=by rw [nth_eq] at hn; exact (List.getElem?_eq_some_iff.1 hn).1
   simp only [hfOf,nth_eq,setN_eq,upd,List.getElem?_set]
   by_cases e2 : h = k
   ·subst e2; rw [if_pos rfl,if_pos rfl,if_pos hlt]; rfl
   ·rw [if_neg e2,if_neg (fun h=>e2 h.symm)]
 | .put h hl :: es,hp,ho=>by
  simp only [okEfs,Bool.and_eq_true,lenN_eq] at ho
  show hfOf (efsH (efH hp (.put h hl)) es) = efsF (efF (hfOf hp) (.put h hl)) es
  rw [hfOf_efsH es _ ho.2]
  congr 1
  exact hfOf_putH (Nat.le_of_ble_eq_true ho.1)
theorem guardOf_some {all : List Oper} {ops : Array Oper} (hops : ops.toList = all) {σ σ' : Sy} {T : List Nat} {o : Oper} (h : guardOf all σ o.guard = some (some (σ',T))) (wf : WfG σ) :
  WfG σ'∧ffOf σ' = ffOf σ∧σ'.hp = σ.hp∧σ'.fr.length = σ.fr.length∧(∀ i∈T,i < σ'.gm.length)∧(∃ x,σ'.gm = σ.gm ++ x)∧
  (∀ (i : Nat),getO σ'.fr i = none↔getO σ.fr i = none)∧
  ∀ (B : Bs) (N : Nat) (E : Env) (a : Act) (w : World) (ff : Nat→SG) (hf : Nat→Hl),St B N E a w ff hf→(∀ j want s,o.guard = some (j,want)→(nth all j).bind (·.dst) = some s→ff s = ffOf σ s)→(Region.wanted o (yielded ops a.tmps) = true↔allT (condsOf σ'.gm T)):=by
 unfold guardOf at h
 split at h
 ·rename_i hg
  simp only [Option.some.injEq,Prod.mk.injEq] at h
  obtain ⟨rfl,rfl⟩:=h
  exact ⟨wf,rfl,rfl,rfl,by simp,⟨[],by simp⟩,fun _=>Iff.rfl,fun B N E a w ff hf _ _=>by simp [Region.wanted,hg,condsOf,allT]⟩
 ·rename_i j want hg
  split at h
  ·rename_i oj hj
   split at h
   ·rename_i s hs
    have hsl : ∀ (B : Bs) (N : Nat) (E : Env) (a : Act) (w : World) (ff : Nat→SG) (hf : Nat→Hl) (tg : List Nat) (gt gf : Option Nat) (c : BT),getO σ.fr s = some ⟨tg,gt,gf,.bool c⟩→St B N E a w ff hf→(∀ j want s,o.guard = some (j,want)→(nth all j).bind (·.dst) = some s→ff s = ffOf σ s)→
      (Region.wanted o (yielded ops a.tmps) = true↔(allT (condsOf σ.gm tg)∧c.den = want)):=by
     intro B N E a w ff hf tg gt gf c hgo st hag
     have hag:=hag j want s hg (by rw [hj]; exact hs)
     have hsk:=st.slot s
     rw [hag,ffOf,hgo] at hsk
     simp only [Option.map_some,SlotOk] at hsk
     obtain ⟨h1,h2,h3⟩:=hsk
     have hops' : ops[j]? = some oj:=by rw [←Array.getElem?_toList,hops,←nth_eq]; exact hj
     have hv : a.tmps[s]? = some (a.tmps.getD s undef):=by simp [Array.getD,h1]
     simp only [Region.wanted,hg,yielded,hops',Option.bind_some,hs]
     rw [hv]
     by_cases hT : allT (condsOf σ.gm tg)
     ·rw [(h2 hT).bool_inv]
      simp [hT]
     ·rw [h3 hT]
      simp [undef,hT]
    split at h
    ·rename_i tg gt gf b hgo
     split at h
     ·rename_i hb
      simp only [Option.some.injEq,Prod.mk.injEq] at h
      obtain ⟨rfl,rfl⟩:=h
      refine ⟨wf,rfl,rfl,rfl,wf.tg s _ hgo,⟨[],by simp⟩,fun _=>Iff.rfl,fun B N E a w ff hf st hag=>?_⟩
      rw [hsl B N E a w ff hf _ _ _ _ hgo st hag]
      have : b = want:=by simpa using hb
      simp [BT.den,this]
     ·cases h
    ·rename_i tg gt gf c _ hgo
     have old : ∀ (i : Nat) (c' : BT),nth σ.gm i = some c'→(c'.den = true↔c.den = want)→σ = σ'→T = i :: tg→(WfG σ'∧ffOf σ' = ffOf σ∧σ'.hp = σ.hp∧σ'.fr.length = σ.fr.length∧(∀ i∈T,i < σ'.gm.length)∧(∃ x,σ'.gm = σ.gm ++ x)∧(∀ (i : Nat),getO σ'.fr i = none↔getO σ.fr i = none)∧
       ∀ (B : Bs) (N : Nat) (E : Env) (a : Act) (w : World) (ff : Nat→SG) (hf : Nat→Hl),St B N E a w ff hf→(∀ j want s,o.guard = some (j,want)→(nth all j).bind (·.dst) = some s→ff s = ffOf σ s)→(Region.wanted o (yielded ops a.tmps) = true↔allT (condsOf σ'.gm T))):=by
      intro i c' hi hc e1 e2
      subst e1 e2
      refine ⟨wf,rfl,rfl,rfl,fun k hk=>?_,⟨[],by simp⟩,fun _=>Iff.rfl,fun B N E a w ff hf st hag=>?_⟩
      ·rcases List.mem_cons.1 hk with rfl | hk
       ·rw [nth_eq] at hi; exact (List.getElem?_eq_some_iff.1 hi).1
       ·exact wf.tg s _ hgo k hk
      ·rw [hsl B N E a w ff hf _ _ _ _ hgo st hag]
       simp only [condsOf,List.filterMap_cons,hi,allT]
       rw [hc]
       exact And.comm
     have new : ∀ (c' : BT) (g' : G),(c'.den = true↔c.den = want)→g'.tg = tg→g'.v = .bool c→(∀ i,g'.gt = some i→(gt = some i)∨(i = σ.gm.length∧c' = c))→(∀ i,g'.gf = some i→(gf = some i)∨(i = σ.gm.length∧c' = .not c))→σ' = ⟨setN σ.fr s (some g'),σ.hp,σ.gm ++ [c']⟩→T = lenN σ.gm :: tg→
       (WfG σ'∧ffOf σ' = ffOf σ∧σ'.hp = σ.hp∧σ'.fr.length = σ.fr.length∧(∀ i∈T,i < σ'.gm.length)∧(∃ x,σ'.gm = σ.gm ++ x)∧(∀ (i : Nat),getO σ'.fr i = none↔getO σ.fr i = none)∧
       ∀ (B : Bs) (N : Nat) (E : Env) (a : Act) (w : World) (ff : Nat→SG) (hf : Nat→Hl),St B N E a w ff hf→(∀ j want s,o.guard = some (j,want)→(nth all j).bind (·.dst) = some s→ff s = ffOf σ s)→(Region.wanted o (yielded ops a.tmps) = true↔allT (condsOf σ'.gm T))):=by
      intro c' g' hc e1 e2 e3 e4 e5 e6
      subst e5 e6
      have hgrow : ∀ i b,nth σ.gm i = some b→nth (σ.gm ++ [c']) i = some b:=fun i b hb=>by
       rw [nth_eq] at hb ⊢
       rw [List.getElem?_append_left (List.getElem?_eq_some_iff.1 hb).1]; exact hb
      have hlast : nth (σ.gm ++ [c']) σ.gm.length = some c':=by rw [nth_eq]; simp
      refine ⟨⟨fun k g hk i hi=>?_,fun k g i hk hi=>?_,fun k g i hk hi=>?_⟩,?_,rfl,by simp [setN_eq],fun k hk=>?_,⟨[c'],rfl⟩,fun k=>?_,fun B N E a w ff hf st hag=>?_⟩
      ·rw [getO_set] at hk
       split at hk
       ·cases hk; rw [e1] at hi; have:=wf.tg s _ hgo i hi; simp; omega
       ·have:=wf.tg k g hk i hi; simp; omega
      ·rw [getO_set] at hk
       split at hk
       ·cases hk
        rcases e3 i hi with h | ⟨rfl,rfl⟩
        ·obtain ⟨c2,q1,q2⟩:=wf.gt s _ i hgo h
         exact ⟨c2,by rw [e2]; exact q1,hgrow _ _ q2⟩
        ·exact ⟨_,e2,hlast⟩
       ·obtain ⟨c2,q1,q2⟩:=wf.gt k g i hk hi
        exact ⟨c2,q1,hgrow _ _ q2⟩
      ·rw [getO_set] at hk
       split at hk
       ·cases hk
        rcases e4 i hi with h | ⟨rfl,rfl⟩
        ·obtain ⟨c2,q1,q2⟩:=wf.gf s _ i hgo h
         exact ⟨c2,by rw [e2]; exact q1,hgrow _ _ q2⟩
        ·exact ⟨_,e2,hlast⟩
       ·obtain ⟨c2,q1,q2⟩:=wf.gf k g i hk hi
        exact ⟨c2,q1,hgrow _ _ q2⟩
      ·funext k
       simp only [ffOf,getO_set]
       split
       ·rename_i e
        rw [e.1,hgo]
        simp only [Option.map_some,e1,e2,condsOf_grow (wf.tg s _ hgo)]
       ·cases hk : getO σ.fr k with
        | none=>rfl
        | some g=>simp only [Option.map_some,condsOf_grow (wf.tg k g hk)]
      ·rw [lenN_eq] at hk
       rcases List.mem_cons.1 hk with rfl | hk
       ·simp
       ·have:=wf.tg s _ hgo k hk; simp; omega
      ·simp only [getO_set]
       split
       ·rename_i e; rw [e.1,hgo]; simp
       ·rfl
      ·rw [hsl B N E a w ff hf _ _ _ _ hgo st hag]
       simp only [condsOf,List.filterMap_cons,lenN_eq,hlast,allT]
       have:=condsOf_grow (c:=c') (wf.tg s _ hgo)
       simp only [condsOf] at this
       rw [this,hc]
       exact And.comm
     split at h
     ·rename_i hw
      subst hw
      split at h
      ·rename_i _ i
       simp only [Option.some.injEq,Prod.mk.injEq] at h
       obtain ⟨c2,q1,q2⟩:=wf.gt s _ i hgo rfl
       cases q1
       exact old i c q2 Iff.rfl h.1 h.2.symm
      ·simp only [Option.some.injEq,Prod.mk.injEq] at h
       refine new c _ Iff.rfl rfl rfl (fun i h=>?_) (fun i h=>.inl h) h.1.symm h.2.symm
       simp only [Option.some.injEq] at h
       exact .inr ⟨by rw [←h,lenN_eq],rfl⟩
     ·rename_i hw
      have hw : want = false:=by simpa using hw
      subst hw
      split at h
      ·rename_i _ i
       simp only [Option.some.injEq,Prod.mk.injEq] at h
       obtain ⟨c2,q1,q2⟩:=wf.gf s _ i hgo rfl
       cases q1
       exact old i (.not c) q2 (by simp [BT.den]) h.1 h.2.symm
      ·simp only [Option.some.injEq,Prod.mk.injEq] at h
       refine new (.not c) _ (by simp [BT.den]) rfl rfl (fun i h=>.inl h) (fun i h=>?_) h.1.symm h.2.symm
       simp only [Option.some.injEq] at h
       exact .inr ⟨by rw [←h,lenN_eq],rfl⟩
    ·cases h
   ·cases h
  ·cases h
theorem guardOf_skip {all : List Oper} {ops : Array Oper} (hops : ops.toList = all) {σ : Sy} {o : Oper} (h : guardOf all σ o.guard = some none) {B : Bs} {N : Nat} {E : Env} {a : Act} {w : World} {ff : Nat→SG} {hf : Nat→Hl} (st : St B N E a w ff hf)
  (hag : ∀ j want s,o.guard = some (j,want)→(nth all j).bind (·.dst) = some s→ff s = ffOf σ s) : Region.wanted o (yielded ops a.tmps) = false:=by
 unfold guardOf at h
 split at h
 ·cases h
 ·rename_i j want hg
  split at h
  ·rename_i oj hj
   split at h
   ·rename_i s hs
    split at h
    ·rename_i tg gt gf b hgo
     split at h
     ·cases h
     ·rename_i hb
      have hag:=hag j want s hg (by rw [hj]; exact hs)
      have hsk:=st.slot s
      rw [hag,ffOf,hgo] at hsk
      simp only [Option.map_some,SlotOk] at hsk
      obtain ⟨h1,h2,h3⟩:=hsk
      have hops' : ops[j]? = some oj:=by rw [←Array.getElem?_toList,hops,←nth_eq]; exact hj
      have hv : a.tmps[s]? = some (a.tmps.getD s undef):=by simp [Array.getD,h1]
      simp only [Region.wanted,hg,yielded,hops',Option.bind_some,hs]
      rw [hv]
      by_cases hT : allT (condsOf σ.gm tg)
      ·rw [(h2 hT).bool_inv]
       simpa [BT.den] using hb
      ·rw [h3 hT]
       simp [undef]
    ·split at h<;>split at h<;>simp at h
    ·cases h
   ·cases h
  ·cases h
end
end Go.Sx
namespace Go.Sx
open Go
section
variable {P : Program} {cx : Cx} {σ : Sy} {T : List Nat} {o : Oper} {K : Out→Prop}
theorem allT_opt {gm : List BT} {g : Option Nat} {T : List Nat} (h : ∀ i,g = some i→∃ c,nth gm i = some c∧c.den = true) (hT : allT (condsOf gm T)) : allT (condsOf gm (g.toList ++ T)):=by
 cases g with
 | none=>simpa using hT
 | some i =>
  obtain ⟨c,h1,h2⟩:=h i rfl
  simp only [Option.toList_some,List.singleton_append,condsOf,List.filterMap_cons,h1,allT]
  exact ⟨h2,hT⟩
theorem stepPick_sound (wf : WfG σ) {c x y : Operand} (ho : o.op = .pick c x y) (h : stepPick cx σ T c x y K) : ∃ r,K r∧Local P cx.gl σ T o r:=by
 unfold stepPick at h
 split at h
 ·rename_i s
  have mc : (Operand.tmp s)∈o.op.operands.toList:=by simp [ho,Op.operands]
  have mx : x∈o.op.operands.toList:=by simp [ho,Op.operands]
  have my : y∈o.op.operands.toList:=by simp [ho,Op.operands]
  have cval : ∀ {B : Bs} {N : Nat} {E : Env} {a : Act} {w : World} {ff : Nat→SG} {hf : Nat→Hl} {tg : List Nat} {gt gf : Option Nat} {ct : BT},getO σ.fr s = some ⟨tg,gt,gf,.bool ct⟩→subN tg T = true→St B N E a w ff hf→AgS σ ff o→allT (condsOf σ.gm T)→a.eval (.tmp s) = .bool ct.den:=by
   intro B N E a w ff hf tg gt gf ct hgo hs st ag hT
   have h1:=st.slot s
   rw [ag_of ag mc s (by simp [opSlots]),ffOf,hgo] at h1
   simp only [Option.map_some,SlotOk] at h1
   exact (h1.2.1 (allT_sub hs hT)).bool_inv
  split at h
  ·rename_i tg gt gf hgo
   split at h
   ·rename_i hs
    obtain ⟨v,hv,h⟩:=outO_some h
    refine ⟨_,h,fun B N E a w ff hf hg st ag agh hT=>?_⟩
    refine yields_value st (v:=a.eval x) ?_ rfl (rd_sound hv hg st (ag_of ag mx) hT)
    simp [execOp,ho,cval hgo hs st ag hT,asBool,BT.den]
   ·exact h.elim
  ·rename_i tg gt gf hgo
   split at h
   ·rename_i hs
    obtain ⟨v,hv,h⟩:=outO_some h
    refine ⟨_,h,fun B N E a w ff hf hg st ag agh hT=>?_⟩
    refine yields_value st (v:=a.eval y) ?_ rfl (rd_sound hv hg st (ag_of ag my) hT)
    simp [execOp,ho,cval hgo hs st ag hT,asBool,BT.den]
   ·exact h.elim
  ·rename_i tg gt gf ct _ _ hgo
   split at h
   ·rename_i hs
    have ht : ∀ i,gt = some i→ct.den = true→∃ c,nth σ.gm i = some c∧c.den = true:=fun i hi hd=>by
     obtain ⟨c,q1,q2⟩:=wf.gt s _ i hgo hi
     cases q1
     exact ⟨_,q2,hd⟩
    have hf' : ∀ i,gf = some i→ct.den = false→∃ c,nth σ.gm i = some c∧c.den = true:=fun i hi hd=>by
     obtain ⟨c,q1,q2⟩:=wf.gf s _ i hgo hi
     cases q1
     exact ⟨_,q2,by simp [BT.den,hd]⟩
    split at h
    ·rename_i bx h1 h2
     refine ⟨_,h,fun B N E a w ff hf hg st ag agh hT=>?_⟩
     refine yields_value st (v:=.bool (ct.den && bx.den)) ?_ rfl (.bool rfl)
     have hc:=cval hgo hs st ag hT
     cases hd : ct.den with
     | true =>
      have:=(rd_sound h1 hg st (ag_of ag mx) (allT_opt (fun i hi=>ht i hi hd) hT)).bool_inv
      simp [execOp,ho,hc,asBool,hd,this]
     | false =>
      have:=(rd_sound h2 hg st (ag_of ag my) (allT_opt (fun i hi=>hf' i hi hd) hT)).bool_inv
      simp [execOp,ho,hc,asBool,hd,this,BT.den]
    ·rename_i y' _ h1 h2
     refine ⟨_,h,fun B N E a w ff hf hg st ag agh hT=>?_⟩
     refine yields_value st (v:=.bool (ct.den || y'.den)) ?_ rfl (.bool rfl)
     have hc:=cval hgo hs st ag hT
     cases hd : ct.den with
     | true =>
      have:=(rd_sound h1 hg st (ag_of ag mx) (allT_opt (fun i hi=>ht i hi hd) hT)).bool_inv
      simp [execOp,ho,hc,asBool,hd,this,BT.den]
     | false =>
      have:=(rd_sound h2 hg st (ag_of ag my) (allT_opt (fun i hi=>hf' i hi hd) hT)).bool_inv
      simp [execOp,ho,hc,asBool,hd,this]
    ·exact h.elim
   ·exact h.elim
  ·exact h.elim
 ·exact h.elim
theorem opIn {ro : Option Nat} {n : Nat} {o : Oper} {a : Act} {w : World} {K : Act→World→Prop} {Q : Exit→Act→World→Prop} (h : o.wp P a w K Q) (hd : ∀ c,o.op≠.defer c) : o.wpIn (Fr ro) n P a w K Q:=by
 refine ⟨fun _ _=>trivial,?_⟩
 rw [show (Fr ro).round = ro from rfl,Oper.semAt_eq _ _ _ hd]
 unfold Oper.wp at h
 generalize (execOp a.eval o).run P w = r at *
 cases r with
 | ok nx w' =>
  cases nx with
  | value v=>exact h
  | skip=>exact h
  | defer d=>exact h
  | enter f args=>exact ⟨by simp [Fr,Fence.wide],(callsIn_wide (n:=n - 1)).2 h⟩
  | row row args=>exact ⟨by simp [Fr,Fence.wide],fun c cs _=>let ⟨v,w1,r,s⟩:=h c cs; ⟨v,w1,r,stepsIn_wide.2 s⟩⟩
  | _=>exact h.elim
 | halt st w' =>
  cases st with
  | panic v=>exact h
  | _=>exact h.elim
def LocalY (P : Program) (gl : List (Nat×SV)) (σ : Sy) (T : List Nat) (o : Oper) (r : Out) : Prop :=
 ∀ (B : Bs) (N : Nat) (E : Env) (a : Act) (w : World) (ff : Nat→SG) (hf : Nat→Hl),glOk B gl→St B N E a w ff hf→AgS σ ff o→AgH σ.hp hf r→allT (condsOf σ.gm T)→
  ∀ (ro : Option Nat) (nn : Nat) (K' : Act→World→Prop) (Q : Exit→Act→World→Prop),
  (∀ v w' E',Ext E w E' w'→Base B E' w'→(∀ h,HOk E' w' h (efsF hf r.efs h))→Rel E' w' r.v v→K' (a.put o.dst v) w')→o.wpIn (Fr ro) nn P a w K' Q
theorem Local.toY {r : Out} (h : Local P cx.gl σ T o r) (hd : ∀ c,o.op≠.defer c) : LocalY P cx.gl σ T o r :=
 fun B N E a w ff hf g st ag agh hT _ _ K' Q hK=>opIn (h B N E a w ff hf g st ag agh hT K' Q hK) hd
theorem yieldOf_some {op : Op} {h : Nat} {c : Call} (hy : yieldOf cx σ T op = some (h,c)) : op = .call c∧∃ s,c.callee = .value (.tmp s)∧rd cx σ T (.tmp s) = some (.yv h):=by
 unfold yieldOf at hy
 split at hy
 ·split at hy
  ·split at hy
   ·rename_i c0 _ s hs _ h0 hr
    simp only [Option.some.injEq,Prod.mk.injEq] at hy
    obtain ⟨rfl,rfl⟩:=hy
    exact ⟨rfl,s,hs,hr⟩
   ·cases hy
  ·cases hy
 ·cases hy
theorem Rel.yv_inv {E : Env} {w : World} {h : Nat} {v : Value} (hr : Rel E w (.yv h) v) : ∃ b,E.β h = some b∧v = .func (.yield b) #[] #[]:=by
 cases hr with
 | ro h=>cases h
 | yv hb hv=>exact ⟨_,hb,hv⟩
theorem stepYield_sound (hc : CxOk P cx) (hrg : RgOk P cx) {h : Nat} {c : Call} (hy : yieldOf cx σ T o.op = some (h,c)) (hs : stepYield cx σ T h c K) : ∃ r,K r∧LocalY P cx.gl σ T o r:=by
 obtain ⟨ho,s,hcal,hrd⟩:=yieldOf_some hy
 unfold stepYield at hs
 split at hs
 ·rename_i vs Y hv hyl
  have hY:=hrg.yl Y (by rw [hyl]; exact List.mem_cons_self ..)
  unfold stepCallG at hs
  rw [hc.D] at hs
  obtain ⟨vs1,hvs1⟩ : ∃ x,x = loose.looseL (norm.normL dn (.yv h :: vs)):=⟨_,rfl⟩
  simp only [←hvs1] at hs
  obtain ⟨hs1,hhs1⟩ : ∃ x,x = reach σ.hp σ.hp (addNew [] (hsV.hsL vs1)):=⟨_,rfl⟩
  simp only [←hhs1] at hs
  obtain ⟨ls1,hls1⟩ : ∃ x,x = getG dn σ.hp hs1:=⟨_,rfl⟩
  simp only [←hls1] at hs
  split at hs
  ·rename_i h3
   simp only [Bool.and_eq_true] at h3
   obtain ⟨⟨⟨⟨⟨c1,c2⟩,c3⟩,c4⟩,c5⟩,c6⟩:=h3
   obtain ⟨r,ls',⟨k1,k2⟩,hct⟩:=hY _ _ _ hs
   simp only [Bool.and_eq_true] at k1
   obtain ⟨⟨⟨k3,k4⟩,k5⟩,k6⟩:=k1
   have k3:=Nat.le_of_ble_eq_true k3
   simp only [lenN_eq hs1,lenN_eq ls',lenN_eq σ.hp,takeN_eq,dropN_eq,mapH_eq] at k3 k5 k6 k2 hct
   rw [lenN_eq] at c4
   refine ⟨_,k2,fun B N E a w ff hf g st ag agh hT ro nn K' Q hK=>?_⟩
   have hag : ∀ t∈opSlots (.tmp s),ff t = ffOf σ t:=ag_of ag (by simp [ho,Op.operands,Call.operands,hcal])
   have hus:=rdAll_sound trivial g st hT c.args.toList c.argTypes.toList vs (fun x hx=>ag_of ag (by simp only [ho,Op.operands,Call.operands]; simp; exact .inr (by simpa using hx))) hv
   have hfv:=rd_sound hrd g st hag hT
   obtain ⟨b,hb,hev⟩:=hfv.yv_inv
   have hG:=callG_core (cx:=cx) (G:=YG P) (hp:=σ.hp) (fun us w R R' h hc=>by
    obtain ⟨l,args,r,q1,q2,q3,q4⟩:=hc
    exact ⟨l,args,r,q1,q2,q3,fun ro nn=>(q4 ro nn).mono h⟩) hvs1 hls1 ((nodupN_iff _).1 c1) ((allIn_iff _ _).1 c2) c3 ((lowN_iff _ _).1 c4) ((closedG_iff _ _).1 c5) hct k3 k4 ((lowN_iff _ _).1 k5) ((okGL_iff _ _).1 k6) g st.base st.heap agh (.cons hfv hus)
   obtain ⟨l,args,rr,q1,q2,q3,q4⟩:=hG
   rw [hev] at q1
   simp only [List.cons.injEq,Value.func.injEq,Fn.yield.injEq,and_true] at q1
   obtain ⟨rfl,rfl⟩:=q1
   have hrun : (execOp a.eval o).run P w = .ok (.round b rr.fn ((rr.params.zip (⟨c.args.toList.map a.eval⟩ : Array Value)).foldl (fun tmps (t,a)=>tmps.setIfInBounds t a) rr.tmps) rr.assign rr.body) w:=by
    have hargsE : (⟨c.args.toList.map a.eval⟩ : Array Value) = c.args.map a.eval:=by apply Array.ext'; simp
    rw [hargsE]
    have:=run_yield (P:=P) (args:=c.args.map a.eval) q2 (by rw [←q3]; simp)
    refine Eq.trans ?_ this
    simp [execOp,ho,resolve,hcal,hev,Deferred.ofValue,invoke]
   refine ⟨fun _ _=>trivial,?_⟩
   rw [show (Fr ro).round = ro from rfl,Oper.semAt_eq _ _ _ (fun c' e=>by rw [ho] at e; cases e),hrun,Oper.uponIn_round]
   refine ⟨by simp [Fr,Fence.wide],(q4 ro (nn - 1)).mono ?_⟩
   rintro e w' ⟨v,E',rfl,h1,h2,h3,h4⟩
   exact hK v w' E' h1 h2 h3 h4
  ·exact hs.elim
 ·exact hs.elim
theorem stepAny_sound (hc : CxOk P cx) (htab : TabOk P cx.gl cx.tab) (hrg : RgOk P cx) (wf : WfG σ) (h : stepAny cx σ T o K) : ∃ r,K r∧((∀ c,o.op≠.defer c)→LocalY P cx.gl σ T o r):=by
 unfold stepAny at h
 split at h
 ·rename_i c x y ho
  obtain ⟨r,k,l⟩:=stepPick_sound wf ho h
  exact ⟨r,k,fun hnd=>l.toY hnd⟩
 ·split at h
  ·rename_i hy
   obtain ⟨r,k,l⟩:=stepYield_sound hc hrg hy h
   exact ⟨r,k,fun _=>l⟩
  ·obtain ⟨r,k,l⟩:=stepOp_sound hc htab h
   exact ⟨r,k,fun hnd=>l.toY hnd⟩
inductive Runs (P : Program) (gl : List (Nat×SV)) (all : List Oper) : List Oper→Sy→List (Option (Sy×List Nat×Out))→Sy→Prop where
 | nil (σ : Sy) : Runs P gl all [] σ [] σ
 | skip {o : Oper} {os : List Oper} {σ σ' : Sy} {rs : List (Option (Sy×List Nat×Out))} (hg : guardOf all σ o.guard = some none) (h : Runs P gl all os ⟨setD σ.fr o.dst none,σ.hp,σ.gm⟩ rs σ') : Runs P gl all (o :: os) σ (none :: rs) σ'
 | step {o : Oper} {os : List Oper} {σ σ1 σ' : Sy} {T : List Nat} {r : Out} {rs : List (Option (Sy×List Nat×Out))} (hg : guardOf all σ o.guard = some (some (σ1,T))) (hl : LocalY P gl σ1 T o r) (he : okEfs σ1.hp r.efs = true) (hte : (T = []∨r.efs = []∨allT (condsOf σ1.gm T))∧∀ c,o.op≠.defer c)
   (h : Runs P gl all os ⟨setD σ1.fr o.dst (some ⟨T,none,none,r.v⟩),efsH σ1.hp r.efs,σ1.gm⟩ rs σ') : Runs P gl all (o :: os) σ (some (σ1,T,r) :: rs) σ'
theorem WfG.setD {σ : Sy} (wf : WfG σ) (d : Option Nat) (g : Option G) (hg : ∀ g',g = some g'→(∀ i∈g'.tg,i < σ.gm.length)∧g'.gt = none∧g'.gf = none) (hp : List Hl) : WfG ⟨setD σ.fr d g,hp,σ.gm⟩:=by
 have key : ∀ s g',getO (Sx.setD σ.fr d g) s = some g'→g = some g'∨getO σ.fr s = some g':=by
  intro s g' h
  cases d with
  | none=>exact .inr h
  | some k =>
   simp only [Sx.setD,getO_set] at h
   split at h
   ·exact .inl h
   ·exact .inr h
 refine ⟨fun s g' h i hi=>?_,fun s g' i h hi=>?_,fun s g' i h hi=>?_⟩
 ·rcases key s g' h with h | h
  ·exact (hg g' h).1 i hi
  ·exact wf.tg s g' h i hi
 ·rcases key s g' h with h | h
  ·rw [(hg g' h).2.1] at hi; cases hi
  ·exact wf.gt s g' i h hi
 ·rcases key s g' h with h | h
  ·rw [(hg g' h).2.2] at hi; cases hi
  ·exact wf.gf s g' i h hi
def fpR : Option (Sy×List Nat×Out)→FP
 | none=>⟨[],[],[]⟩
 | some (_,_,r)=>fpOf r
theorem stepOps_runs (hc : CxOk P cx) (htab : TabOk P cx.gl cx.tab) (hrg : RgOk P cx) {all : List Oper} {ops : Array Oper} (hops : ops.toList = all) : ∀ (os : List Oper) (fs : List FP) (σ : Sy) (K : List FP→Sy→Prop),WfG σ→stepOps cx all os fs σ K→∃ rs σ',Runs P cx.gl all os σ rs σ'∧WfG σ'∧K (fs ++ rs.map fpR) σ'
 | [],fs,σ,K,wf,h=>⟨[],σ,.nil σ,wf,by simpa [stepOps] using h⟩
 | o :: os,fs,σ,K,wf,h=>by
  unfold stepOps at h
  split at h
  ·exact h.elim
  ·rename_i hg
   obtain ⟨rs,σ',h1,h2,h3⟩:=stepOps_runs hc htab hrg hops os _ _ K (wf.setD o.dst none (by simp) σ.hp) h
   exact ⟨_,σ',.skip hg h1,h2,by simpa [fpR] using h3⟩
  ·rename_i σ1 T hg
   obtain ⟨w1,w2,w3,w4,w5,w6⟩:=guardOf_some hops hg wf
   split at h
   ·rename_i hh c i hy
    have hnd : ∀ c,o.op≠.defer c:=fun c' e=>by rw [(yieldOf_some hy).1] at e; cases e
    split at h
    ·rename_i b hb
     rw [hc.D] at h
     have hcond : condsOf σ1.gm [i] = [b]:=by simp only [condsOf,List.filterMap_cons,hb,List.filterMap_nil]
     by_cases hbd : b.den = true
     ·obtain ⟨r,hk,hl⟩:=stepYield_sound hc hrg hy (h.1 hbd)
      split at hk
      ·rename_i he
       obtain ⟨rs,σ',h1,h2,h3⟩:=stepOps_runs hc htab hrg hops os _ _ K (w1.setD o.dst (some ⟨[i],none,none,r.v⟩) (by rintro g' ⟨⟩; exact ⟨w5,rfl,rfl⟩) _) hk
       exact ⟨_,σ',.step hg hl he ⟨.inr (.inr (by rw [hcond]; exact ⟨hbd,trivial⟩)),hnd⟩ h1,h2,by simpa [fpR] using h3⟩
      ·exact hk.elim
     ·have hk:=h.2 (by show b.den = false; simpa using hbd)
      obtain ⟨rs,σ',h1,h2,h3⟩:=stepOps_runs hc htab hrg hops os _ _ K (w1.setD o.dst (some ⟨[i],none,none,.bool (.l true)⟩) (by rintro g' ⟨⟩; exact ⟨w5,rfl,rfl⟩) _) hk
      exact ⟨_,σ',.step (r:=⟨.bool (.l true),[],[],[]⟩) hg (fun _ _ _ _ _ _ _ _ _ _ _ hT=>by rw [hcond] at hT; exact absurd hT.1 hbd) rfl ⟨.inr (.inl rfl),hnd⟩ h1,h2,by simpa [fpR] using h3⟩
    ·exact h.elim
   split at h
   ·rename_i d i hbo _
    have hnd : ∀ c,o.op≠.defer c:=fun c' e=>by unfold buildOf at hbo; rw [e] at hbo; cases hbo
    split at h
    ·rename_i b hb
     rw [hc.D] at h
     have hcond : condsOf σ1.gm [i] = [b]:=by simp only [condsOf,List.filterMap_cons,hb,List.filterMap_nil]
     by_cases hbd : b.den = true
     ·obtain ⟨r,hk,hl⟩:=stepAny_sound hc htab hrg w1 (h.1 hbd)
      split at hk
      ·rename_i he
       obtain ⟨rs,σ',h1,h2,h3⟩:=stepOps_runs hc htab hrg hops os _ _ K (w1.setD o.dst (some ⟨[i],none,none,r.v⟩) (by rintro g' ⟨⟩; exact ⟨w5,rfl,rfl⟩) _) hk
       exact ⟨_,σ',.step hg (hl hnd) he ⟨.inr (.inr (by rw [hcond]; exact ⟨hbd,trivial⟩)),hnd⟩ h1,h2,by simpa [fpR] using h3⟩
      ·exact hk.elim
     ·have hk:=h.2 (by show b.den = false; simpa using hbd)
      obtain ⟨rs,σ',h1,h2,h3⟩:=stepOps_runs hc htab hrg hops os _ _ K (w1.setD o.dst (some ⟨[i],none,none,d⟩) (by rintro g' ⟨⟩; exact ⟨w5,rfl,rfl⟩) _) hk
      exact ⟨_,σ',.step (r:=⟨d,[],[],[]⟩) hg (fun _ _ _ _ _ _ _ _ _ _ _ hT=>by rw [hcond] at hT; exact absurd hT.1 hbd) rfl ⟨.inr (.inl rfl),hnd⟩ h1,h2,by simpa [fpR] using h3⟩
    ·exact h.elim
   obtain ⟨r,hk,hl⟩:=stepAny_sound hc htab hrg w1 h
   split at hk
   ·rename_i he
    simp only [Bool.and_eq_true,Bool.or_eq_true,List.isEmpty_iff] at he
    obtain ⟨⟨he,hte⟩,hnd⟩:=he
    have hnd : ∀ c,o.op≠.defer c:=fun c e=>by unfold notDefer at hnd; rw [e] at hnd; cases hnd
    obtain ⟨rs,σ',h1,h2,h3⟩:=stepOps_runs hc htab hrg hops os _ _ K (w1.setD o.dst (some ⟨_,none,none,r.v⟩) (by rintro g' ⟨⟩; exact ⟨w5,rfl,rfl⟩) _) hk
    exact ⟨_,σ',.step hg (hl hnd) he ⟨hte.elim .inl fun h=>.inr (.inl h),hnd⟩ h1,h2,by simpa [fpR] using h3⟩
   ·exact hk.elim
theorem AgH_refl (hp : List Hl) (r : Out) : AgH hp (hfOf hp) r :=
 ⟨fun _ _=>rfl,fun _ _ _ cs h=>⟨cs,h,rfl,fun _ _ _=>rfl⟩,fun e _=>by cases e with
  | set h off vs=>exact fun ty cs h=>⟨cs,h,rfl⟩
  | put h hl=>rfl⟩
structure StY (B : Bs) (N : Nat) (E : Env) (a : Act) (w : World) (σ : Sy) : Prop where
 st : St B N E a w (ffOf σ) (hfOf σ.hp)
 len : σ.fr.length = N
 wf : WfG σ
 ge : ∀ h,B.β0 h≠none∨B.τ0 h≠none∨B.ζ0 h≠none→h < σ.hp.length
theorem len_setD (fr : List (Option G)) (d : Option Nat) (g : Option G) : (setD fr d g).length = fr.length:=by
 cases d with
 | none=>rfl
 | some k=>simp [setD,setN_eq]
theorem len_efH (hp : List Hl) (e : Ef) : hp.length≤(efH hp e).length:=by
 cases e with
 | set h off vs =>
  simp only [efH]
  split
  ·rw [setN_eq]; simp
  ·exact Nat.le_refl _
 | put h hl =>
  simp only [efH,putH]
  split
  ·simp
  ·rw [setN_eq]; simp
theorem len_efsH : ∀ (es : List Ef) (hp : List Hl),hp.length≤(efsH hp es).length
 | [],_=>Nat.le_refl _
 | e :: es,hp=>Nat.le_trans (len_efH hp e) (len_efsH es (efH hp e))
theorem runs_wpList {ro : Option Nat} {n : Nat} {gl : List (Nat×SV)} {all : List Oper} {ops : Array Oper} (hops : ops.toList = all) {B : Bs} {N : Nat} (hg : glOk B gl) {Q : Exit→Act→World→Prop} {os : List Oper} {σ σ' : Sy} {rs : List (Option (Sy×List Nat×Out))} (h : Runs P gl all os σ rs σ') :
  ∀ (E : Env) (a : Act) (w : World),StY B N E a w σ→(∀ E' a' w',StY B N E' a' w' σ'→Q .normal a' w')→wpListIn (Fr ro) n P ops Q os a w:=by
 induction h with
 | nil σ=>intro E a w hs hQ; exact hQ E a w hs
 | skip hgd h ih =>
  intro E a w hs hQ
  have hw:=guardOf_skip hops hgd hs.st (fun _ _ _ _ _=>rfl)
  unfold wpListIn
  rw [if_neg (by simp [hw])]
  exact ⟨fun _ _=>trivial,ih E _ w ⟨hs.st.setD hs.len _ _ none (by simp) _,by rw [len_setD]; exact hs.len,hs.wf.setD _ none (by simp) _,hs.ge⟩ hQ⟩
 | @step o os σ σ1 σ' T r rs hgd hl he hte h ih =>
  intro E a w hs hQ
  obtain ⟨w1,w2,w3,w4,w5,_,_,w6⟩:=guardOf_some hops hgd hs.wf
  have hst : St B N E a w (ffOf σ1) (hfOf σ1.hp):=by rw [w2,w3]; exact hs.st
  have hwant:=w6 B N E a w _ _ hs.st (fun _ _ _ _ _=>rfl)
  have hlen : σ1.fr.length = N:=by rw [w4]; exact hs.len
  have hge : ∀ h,B.β0 h≠none∨B.τ0 h≠none∨B.ζ0 h≠none→h < (efsH σ1.hp r.efs).length:=fun h hb=>Nat.lt_of_lt_of_le (hs.ge h hb) (by rw [←w3]; exact len_efsH _ _)
  unfold wpListIn
  by_cases hT : allT (condsOf σ1.gm T)
  ·rw [if_pos (hwant.2 hT)]
   refine hl B N E a w _ _ hg hst (fun _ _=>rfl) (AgH_refl _ _) hT _ _ _ _ fun v w' E' x1 x2 x3 x4=>?_
   refine ih E' _ w' ⟨?_,by rw [len_setD]; exact hlen,w1.setD _ _ (by rintro g' ⟨⟩; exact ⟨w5,rfl,rfl⟩) _,hge⟩ hQ
   have:=hst.step x1 x2 x3
   rw [←hfOf_efsH _ _ he] at this
   exact this.setD hlen _ _ _ (by rintro g' ⟨⟩; exact ⟨fun _=>x4,fun h=>absurd hT h⟩) _
  ·rw [if_neg (fun h=>hT (hwant.1 h))]
   refine ⟨fun _ _=>trivial,ih E _ w ⟨?_,by rw [len_setD]; exact hlen,w1.setD _ _ (by rintro g' ⟨⟩; exact ⟨w5,rfl,rfl⟩) _,hge⟩ hQ⟩
   have hef : r.efs = []:=by
    rcases hte.1 with h | h | h
    ·subst h; exact absurd trivial hT
    ·exact h
    ·exact absurd h hT
   have:=hst.setD hlen o.dst undef (some ⟨T,none,none,r.v⟩) (by rintro g' ⟨⟩; exact ⟨fun h=>absurd h hT,fun _=>rfl⟩) (efsH σ1.hp r.efs)
   rw [hef] at this ⊢
   exact this
theorem wpList_region {ro : Option Nat} {n : Nat} {id : Nat} {ops : Array Oper} {Q : Exit→Act→World→Prop} {a : Act} {w : World} (h : wpListIn (Fr ro) n P ops Q ops.toList a w) : (Code.region id ops false).wpIn (Fr ro) n P Q a w:=wpIn_region_list h
theorem getO_tidy : ∀ (fr : List (Option G)) (s : Nat),getO (tidy fr) s = match getO fr s with
  | some ⟨[],_,_,v⟩=>some ⟨[],none,none,v⟩
  | _=>none
 | [],s=>by simp [tidy,getO]
 | g :: fr,s=>by
  have ih:=getO_tidy fr
  cases s with
  | zero =>
   cases g with
   | none=>rfl
   | some g =>
    obtain ⟨tg,gt,gf,v⟩:=g
    cases tg<;>rfl
  | succ s =>
   cases g with
   | none=>exact ih s
   | some g =>
    obtain ⟨tg,gt,gf,v⟩:=g
    cases tg<;>exact ih s
theorem len_tidy : ∀ (fr : List (Option G)),(tidy fr).length = fr.length
 | []=>rfl
 | g :: fr=>by
  cases g with
  | none=>simp [tidy,len_tidy fr]
  | some g =>
   obtain ⟨tg,gt,gf,v⟩:=g
   cases tg<;>simp [tidy,len_tidy fr]
theorem StY.tidy {B : Bs} {N : Nat} {E : Env} {a : Act} {w : World} {σ : Sy} (h : StY B N E a w σ) : StY B N E a w ⟨Sx.tidy σ.fr,σ.hp,[]⟩:=by
 refine ⟨⟨h.st.base,h.st.heap,fun s=>?_,h.st.size,h.st.defers⟩,by rw [len_tidy]; exact h.len,⟨fun s g hs=>?_,fun s g i hs hi=>?_,fun s g i hs hi=>?_⟩,h.ge⟩
 ·have h1:=h.st.slot s
  simp only [ffOf,getO_tidy] at h1 ⊢
  cases hs : getO σ.fr s with
  | none=>trivial
  | some g =>
   obtain ⟨tg,gt,gf,v⟩:=g
   rw [hs] at h1
   cases tg with
   | nil=>exact h1
   | cons i tg=>trivial
 all_goals
  simp only [getO_tidy] at hs
  split at hs
  ·cases hs; simp at *
  ·cases hs
end
end Go.Sx
namespace Go.Sx
open Go
theorem thawL_eq (h : Nat) (x : SV) : ∀ (cs : List SV),thaw.thawL h x cs = cs.map (thaw h x)
 | []=>rfl
 | c :: cs=>by simp [thaw.thawL,thawL_eq h x cs]
theorem RO.thaw {I : Nat→Nat→Prop} {w : World} {h : Nat} {x s : SV} {v : Value} (hr : RO I w s v) : RO I w (thaw h x s) v:=by
 induction hr with
 | int h=>exact .int h
 | bool h=>exact .bool h
 | str h=>exact .str h
 | nilp=>exact .nilp
 | raw h=>exact .raw h
 | fn h=>exact .fn h
 | ifc h=>exact .ifc h
 | slnil h hn=>exact .slnil h hn
 | sl g h hn hc hcm hs hl h1 hcell hrel=>exact .sl g h hn hc hcm hs hl h1 hcell hrel
 | rptr g hs h1 hcell hrel=>exact .rptr g hs h1 hcell hrel
 | rarr g hs hl h1 hcell hrel=>exact .rarr g hs hl h1 hcell hrel
 | agg hl _ ih =>
  simp only [Sx.thaw,thawL_eq]
  refine .agg (by simpa using hl) fun i s v a b=>?_
  rw [List.getElem?_map] at a
  obtain ⟨s0,h0,rfl⟩:=Option.map_eq_some_iff.1 a
  exact ih i s0 v h0 b
theorem Rel.thaw {E E' : Env} {w : World} {h : Nat} {x s : SV} {v : Value} (hx : Ext E w E' w) (hm : ∀ v,Rel E w (.mrow h) v→Rel E' w x v) (hr : Rel E w s v) : Rel E' w (thaw h x s) v:=by
 induction hr with
 | ro h=>exact .ro (h.mono hx.I hx.cell).thaw
 | ptr hb hv=>exact Rel.mono hx (.ptr hb hv)
 | gsl hr ht=>exact Rel.mono hx (.gsl hr ht)
 | mrow hb hk hv =>
  simp only [Sx.thaw]
  split
  ·rename_i e
   have e:=beq_iff_eq.1 e
   subst e
   exact hm _ (.mrow hb hk hv)
  ·exact Rel.mono hx (.mrow hb hk hv)
 | mptr hb hz hv=>exact Rel.mono hx (.mptr hb hz hv)
 | osl ht hk=>exact Rel.mono hx (.osl ht hk)
 | optr hv ho=>exact Rel.mono hx (.optr hv ho)
 | mapv hb hv=>exact Rel.mono hx (.mapv hb hv)
 | yv hb hv=>exact Rel.mono hx (.yv hb hv)
 | vsl ht hk=>exact Rel.mono hx (.vsl ht hk)
 | tsl ht hk=>exact Rel.mono hx (.tsl ht hk)
 | agg hl _ ih =>
  simp only [Sx.thaw,thawL_eq]
  refine .agg (by simpa using hl) fun i s v a b=>?_
  rw [List.getElem?_map] at a
  obtain ⟨s0,h0,rfl⟩:=Option.map_eq_some_iff.1 a
  exact ih i s0 v h0 b
 | tup hl _ ih =>
  simp only [Sx.thaw,thawL_eq]
  refine .tup (by simpa using hl) fun i s v a b=>?_
  rw [List.getElem?_map] at a
  obtain ⟨s0,h0,rfl⟩:=Option.map_eq_some_iff.1 a
  exact ih i s0 v h0 b
 | clo hl _ ih =>
  simp only [Sx.thaw,thawL_eq]
  refine .clo (by simpa using hl) fun i s v a b=>?_
  rw [List.getElem?_map] at a
  obtain ⟨s0,h0,rfl⟩:=Option.map_eq_some_iff.1 a
  exact ih i s0 v h0 b
theorem getO_thawFr (h : Nat) (x : SV) : ∀ (fr : List (Option G)) (s : Nat),getO (thawFr h x fr) s = (getO fr s).map fun g=>⟨g.tg,g.gt,g.gf,thaw h x g.v⟩
 | [],s=>by simp [thawFr,getO]
 | some g :: fr,0=>rfl
 | none :: fr,0=>rfl
 | some g :: fr,s + 1=>by simp only [thawFr,getO]; exact getO_thawFr h x fr s
 | none :: fr,s + 1=>by simp only [thawFr,getO]; exact getO_thawFr h x fr s
theorem len_thawFr (h : Nat) (x : SV) : ∀ (fr : List (Option G)),(thawFr h x fr).length = fr.length
 | []=>rfl
 | some g :: fr=>by simp [thawFr,len_thawFr h x fr]
 | none :: fr=>by simp [thawFr,len_thawFr h x fr]
def thawHl (h : Nat) (x : SV) : Hl→Hl
 | .blk ty cs=>.blk ty (cs.map (thaw h x))
 | l=>l
theorem thawH_eq (h : Nat) (x : SV) : ∀ (hp : List Hl),thawH h x hp = hp.map (thawHl h x)
 | []=>rfl
 | l :: hp=>by cases l<;>simp [thawH,thawHl,thawL_eq,thawH_eq h x hp]
theorem StY.freeze {cx : Cx} {B : Bs} {N : Nat} {E : Env} {a : Act} {w : World} {σ σ' : Sy} {s : Nat} (hs : StY B N E a w σ) (h : ghost cx σ (.freeze s) = some σ') : ∃ E',StY B N E' a w σ':=by
 simp only [ghost] at h
 split at h
 ·rename_i gt gf hd hslot
  split at h
  ·rename_i ty n sz f hh
   cases h
   have hk:=hs.st.heap hd
   rw [nth_hf hh] at hk
   obtain ⟨b,C,m,k1,k2,k3,k4,k5,k6,k7,⟨r1,r2,r3,r4⟩,k9⟩:=hk
   have hbase:=hs.st.base
   let E' : Env:=⟨E.β,E.τ,E.O,E.κ,E.ζ,fun b' o=>E.I b' o∨(b' = b∧o < m * sz)⟩
   have hx : Ext E w E' w:=⟨fun _ _ h=>h,fun _ _ h=>.inl h,fun _ _ h=>h,fun _ _ h=>h,fun _ _ h=>.inl h,fun _ _ _=>rfl⟩
   have hcell : ∀ o,w.cell? ⟨b,o,none⟩ = C[o]?:=fun o=>cell_of_row w b o C ty (0,0) k5
   have hm : ∀ v,Rel E w (.mrow hd) v→Rel E' w (.sl (.l false) n sz f) v:=by
    intro v hv
    obtain ⟨b',m',e1,e2,rfl⟩:=hv.mrow_inv
    obtain rfl : b = b':=Option.some.inj (k1.symm.trans e1)
    obtain rfl : m = m':=Option.some.inj (k2.symm.trans e2)
    have hidx : ∀ i j,i < m→j < sz→i * sz + j < m * sz:=by
     intro i j hi hj
     have : (i + 1) * sz≤m * sz:=Nat.mul_le_mul_right _ hi
     rw [Nat.add_mul] at this
     omega
    have hC : ∀ i j,i < m→j < sz→C[i * sz + j]? = some (C.getD (i * sz + j) undef):=by
     intro i j hi hj
     have:=hidx i j hi hj
     rw [←r1] at this
     rw [Array.getD_eq_getD_getElem?,Array.getElem?_eq_getElem this]; rfl
    refine .ro (.sl (fun i j=>C.getD (i * sz + j) undef) rfl k6 (Nat.le_refl _) k7 (fun _=>rfl) r2 (fun i j hi hj=>r4 _ (Array.mem_of_getElem? (hC i j hi hj))) (fun i j hi hj=>⟨?_,?_⟩) (fun i j s hi hs=>?_))
    ·simp only [Nat.zero_add]; rw [hcell,hC i j hi hj]
    ·simp only [Nat.zero_add]; exact .inr ⟨rfl,hidx i j hi hj⟩
    ·have hj : j < sz:=by rw [←r2 i hi]; exact (List.getElem?_eq_some_iff.1 hs).1
     exact (r3 i j s _ hi hs (hC i j hi hj)).mono hx.I hx.cell
   refine ⟨E',⟨⟨⟨hbase.os,hbase.tape,hbase.output,hbase.size,hbase.old,fun b' o hi=>?_,fun b' o hi=>?_,fun b' o hi=>?_,hbase.Obd,hbase.β0.ext hx⟩,fun k=>?_,fun q=>?_,hs.st.size,hs.st.defers⟩,by show (thawFr _ _ _).length = N; rw [len_thawFr]; exact hs.len,⟨fun q g hq i hi=>?_,fun q g i hq hi=>?_,fun q g i hq hi=>?_⟩,fun k hk=>?_⟩⟩
   ·obtain ⟨i1,i2⟩:=hbase.I0 b' o hi; exact ⟨.inl i1,i2⟩
   ·rcases hi with hi | ⟨rfl,_⟩
    ·exact hbase.Ibd b' o hi
    ·exact owned_lt hbase k4
   ·rcases hi with hi | ⟨rfl,_⟩
    ·exact hbase.Inew b' o hi
    ·exact .inr (hbase.Obd b' hd k4).2
   ·simp only [hfOf,nth_eq,setN_eq,thawH_eq]
    by_cases e : k = hd
    ·subst e
     rw [List.getElem?_set]
     simp only [if_pos]
     split
     ·trivial
     ·have : k < σ.hp.length:=by rw [nth_eq] at hh; exact (List.getElem?_eq_some_iff.1 hh).1
      rename_i hno
      exact absurd (by simpa using this) hno
    ·rw [List.getElem?_set_ne (fun h=>e h.symm),List.getElem?_map]
     have hkk:=hs.st.heap k
     simp only [hfOf,nth_eq] at hkk
     have hO : ∀ b',E.O b' = some k→E'.O b' = some k∧w.heap[b']? = w.heap[b']?∧∀ o,E'.I b' o→E.I b' o:=by
      intro b' hO
      refine ⟨hO,rfl,fun o hi=>?_⟩
      rcases hi with hi | ⟨rfl,_⟩
      ·exact hi
      ·rw [k4] at hO; exact absurd (Option.some.inj hO).symm e
     cases hl : σ.hp[k]? with
     | none =>
      rw [hl] at hkk
      exact HOk.keep hx hkk rfl rfl rfl rfl hO
     | some l =>
      rw [hl] at hkk
      simp only [Option.map_some,Option.getD_some] at hkk ⊢
      cases l with
      | blk ty' cs =>
       obtain ⟨b',C',q1,q2,q3,q4,q5,q6⟩:=hkk.blk_inv
       have hn : RelL E' w (cs.map (thaw hd (.sl (.l false) n sz f))) C'.toList:=q4.map _ fun s v _ h=>h.thaw hx hm
       exact ⟨b',C',q1,q2,q3,by have:=hn.1; simpa using this.symm,fun i s v p q=>hn.2 i s v p (by simpa using q),fun v hv=>q5 v (by simpa using hv),fun o hi=>q6 o ((hO b' q2).2.2 o hi)⟩
      | _=>exact HOk.keep hx hkk rfl rfl rfl rfl hO
   ·simp only [ffOf,getO_thawFr]
    have hsl:=hs.st.slot q
    simp only [ffOf] at hsl
    cases hg : getO σ.fr q with
    | none=>trivial
    | some g =>
     rw [hg] at hsl
     simp only [Option.map_some,SlotOk] at hsl ⊢
     exact ⟨hsl.1,fun hc=>(hsl.2.1 hc).thaw hx hm,hsl.2.2⟩
   ·have hq : getO (thawFr hd (.sl (.l false) n sz f) σ.fr) q = some g:=hq
    rw [getO_thawFr] at hq
    obtain ⟨g0,h0,rfl⟩:=Option.map_eq_some_iff.1 hq
    exact hs.wf.tg q g0 h0 i hi
   ·have hq : getO (thawFr hd (.sl (.l false) n sz f) σ.fr) q = some g:=hq
    rw [getO_thawFr] at hq
    obtain ⟨g0,h0,rfl⟩:=Option.map_eq_some_iff.1 hq
    obtain ⟨c,c1,c2⟩:=hs.wf.gt q g0 i h0 hi
    exact ⟨c,by simp only [c1]; rfl,c2⟩
   ·have hq : getO (thawFr hd (.sl (.l false) n sz f) σ.fr) q = some g:=hq
    rw [getO_thawFr] at hq
    obtain ⟨g0,h0,rfl⟩:=Option.map_eq_some_iff.1 hq
    obtain ⟨c,c1,c2⟩:=hs.wf.gf q g0 i h0 hi
    exact ⟨c,by simp only [c1]; rfl,c2⟩
   ·simp only [setN_eq,thawH_eq,List.length_set,List.length_map]
    exact hs.ge k hk
  ·cases h
 ·cases h
theorem StY.attach {cx : Cx} {B : Bs} {N : Nat} {E : Env} {a : Act} {w : World} {σ σ' : Sy} {s : Nat} {e : TypeId} (hs : StY B N E a w σ) (h : ghost cx σ (.attach s e) = some σ') : ∃ E',StY B N E' a w σ':=by
 simp only [ghost] at h
 split at h
 ·rename_i gt gf sz f hslot
  split at h
  ·split at h
   ·cases h
    have hbase:=hs.st.base
    have hfr : HOk E w (lenN σ.hp) .fresh:=by
     have:=hs.st.heap (lenN σ.hp)
     simpa only [hfOf,nth_eq,lenN_eq,List.getElem?_eq_none (Nat.le_refl _),Option.getD_none] using this
    obtain ⟨f1,f2,f3,f4⟩:=hfr
    let E' : Env:=⟨E.β,upd E.τ (lenN σ.hp) (some (.slice none 0 0)),E.O,E.κ,E.ζ,E.I⟩
    have hx : Ext E w E' w:=by
     refine ⟨fun _ _ h=>h,fun k v hk=>.inl ?_,fun _ _ h=>h,fun _ _ h=>h,fun _ _ h=>h,fun _ _ _=>rfl⟩
     show upd E.τ (lenN σ.hp) (some (.slice none 0 0)) k = some v
     unfold upd
     by_cases e : k = lenN σ.hp
     ·subst e; rw [f2] at hk; cases hk
     ·rw [if_neg e]; exact hk
    have hlt : s < σ.fr.length:=by
     rcases Nat.lt_or_ge s σ.fr.length with h | h
     ·exact h
     ·rw [getO_eq,List.getElem?_eq_none h] at hslot; cases hslot
    let g0 : G:=⟨[],none,none,.gsl (.l true) (.l 0) sz f (lenN σ.hp)⟩
    have hget : ∀ k,getO (setN σ.fr s (some g0)) k = if k = s then some g0 else getO σ.fr k:=fun k=>by
     rw [getO_set]
     by_cases e : k = s
     ·rw [if_pos ⟨e,hlt⟩,if_pos e]
     ·rw [if_neg (fun h=>e h.1),if_neg e]
    refine ⟨E',⟨⟨⟨hbase.os,hbase.tape,hbase.output,hbase.size,hbase.old,hbase.I0,hbase.Ibd,hbase.Inew,hbase.Obd,hbase.β0.ext hx⟩,fun k=>?_,fun q=>?_,hs.st.size,hs.st.defers⟩,by show (setN σ.fr s _).length = N; rw [setN_eq,List.length_set]; exact hs.len,⟨fun q g hq i hi=>?_,fun q g i hq hi=>?_,fun q g i hq hi=>?_⟩,fun k hk=>?_⟩⟩
    ·have hkk:=hs.st.heap k
     simp only [hfOf,nth_eq] at hkk ⊢
     rcases Nat.lt_trichotomy k σ.hp.length with h | h | h
     ·rw [List.getElem?_append_left h]
      exact HOk.keep hx hkk rfl (by simp [E',upd,lenN_eq,Nat.ne_of_lt h]) rfl rfl fun b hO=>⟨hO,rfl,fun _ h=>h⟩
     ·subst h
      rw [List.getElem?_append_right (Nat.le_refl _)]
      simp only [Nat.sub_self,List.getElem?_cons_zero,Option.getD_some]
      exact ⟨.slice none 0 0,0,[],by simp [E',upd,lenN_eq],World.ownsRow_nil w 0 _ sz,rfl,by simp,fun b hb=>by simp [Value.ownBlock] at hb⟩
     ·rw [List.getElem?_eq_none (by simp; omega)]
      rw [List.getElem?_eq_none (by omega)] at hkk
      exact HOk.keep hx hkk rfl (by simp [E',upd,lenN_eq,Nat.ne_of_gt h]) rfl rfl fun b hO=>⟨hO,rfl,fun _ h=>h⟩
    ·have hsl:=hs.st.slot q
     show SlotOk E' w a q ((getO (setN σ.fr s (some g0)) q).map fun g=>(condsOf σ.gm g.tg,g.v))
     rw [hget]
     simp only [ffOf] at hsl
     by_cases e : q = s
     ·subst e
      rw [if_pos rfl]
      rw [hslot] at hsl
      simp only [Option.map_some,SlotOk,condsOf,List.filterMap_nil,allT,g0] at hsl ⊢
      refine ⟨hsl.1,fun _=>?_,fun h=>absurd trivial h⟩
      have hr:=(hsl.2.1 trivial).sl_inv
      have hr':=hr.mono hx.I hx.cell
      rcases hr.sl_inv with ⟨e1,_,_⟩ | ⟨_,_,_,_,_,e1,_⟩
      ·rw [e1] at hr' ⊢
       exact .gsl hr' ⟨none,0,0,by simp [E',upd],by simp [ST.den],fun _=>rfl⟩
      ·simp [BT.den] at e1
     ·rw [if_neg e]
      cases hg : getO σ.fr q with
      | none=>trivial
      | some g =>
       rw [hg] at hsl
       simp only [Option.map_some,SlotOk] at hsl ⊢
       exact ⟨hsl.1,fun hc=>(hsl.2.1 hc).mono hx,hsl.2.2⟩
    ·have hq : getO (setN σ.fr s (some g0)) q = some g:=hq
     rw [hget] at hq
     split at hq
     ·cases hq; cases hi
     ·exact hs.wf.tg q g hq i hi
    ·have hq : getO (setN σ.fr s (some g0)) q = some g:=hq
     rw [hget] at hq
     split at hq
     ·cases hq; cases hi
     ·exact hs.wf.gt q g i hq hi
    ·have hq : getO (setN σ.fr s (some g0)) q = some g:=hq
     rw [hget] at hq
     split at hq
     ·cases hq; cases hi
     ·exact hs.wf.gf q g i hq hi
    ·have:=hs.ge k hk
     simp only [List.length_append]
     omega
   ·cases h
  ·cases h
 ·cases h
theorem StY.own {cx : Cx} {B : Bs} {N : Nat} {E : Env} {a : Act} {w : World} {σ σ' : Sy} {s : Nat} {e : TypeId} (hs : StY B N E a w σ) (h : ghost cx σ (.own s e) = some σ') : ∃ E',StY B N E' a w σ':=by
 simp only [ghost] at h
 split at h
 ·rename_i gt gf sz f hslot
  split at h
  ·split at h
   ·cases h
    have hbase:=hs.st.base
    have hfr : HOk E w (lenN σ.hp) .fresh:=by
     have:=hs.st.heap (lenN σ.hp)
     simpa only [hfOf,nth_eq,lenN_eq,List.getElem?_eq_none (Nat.le_refl _),Option.getD_none] using this
    obtain ⟨f1,f2,f3,f4⟩:=hfr
    let E' : Env:=⟨E.β,upd E.τ (lenN σ.hp) (some (.slice none 0 0)),E.O,E.κ,upd E.ζ (lenN σ.hp) (some sz),E.I⟩
    have hx : Ext E w E' w:=by
     refine ⟨fun _ _ h=>h,fun k v hk=>.inl ?_,fun _ _ h=>h,fun k z hk=>?_,fun _ _ h=>h,fun _ _ _=>rfl⟩
     ·show upd E.τ (lenN σ.hp) (some (.slice none 0 0)) k = some v
      unfold upd
      by_cases e : k = lenN σ.hp
      ·subst e; rw [f2] at hk; cases hk
      ·rw [if_neg e]; exact hk
     ·show upd E.ζ (lenN σ.hp) (some sz) k = some z
      unfold upd
      by_cases e : k = lenN σ.hp
      ·subst e; rw [f4] at hk; cases hk
      ·rw [if_neg e]; exact hk
    have hlt : s < σ.fr.length:=by
     rcases Nat.lt_or_ge s σ.fr.length with h | h
     ·exact h
     ·rw [getO_eq,List.getElem?_eq_none h] at hslot; cases hslot
    let g0 : G:=⟨[],none,none,.osl (.l true) (.l 0) (lenN σ.hp)⟩
    have hget : ∀ k,getO (setN σ.fr s (some g0)) k = if k = s then some g0 else getO σ.fr k:=fun k=>by
     rw [getO_set]
     by_cases e : k = s
     ·rw [if_pos ⟨e,hlt⟩,if_pos e]
     ·rw [if_neg (fun h=>e h.1),if_neg e]
    refine ⟨E',⟨⟨⟨hbase.os,hbase.tape,hbase.output,hbase.size,hbase.old,hbase.I0,hbase.Ibd,hbase.Inew,hbase.Obd,hbase.β0.ext hx⟩,fun k=>?_,fun q=>?_,hs.st.size,hs.st.defers⟩,by show (setN σ.fr s _).length = N; rw [setN_eq,List.length_set]; exact hs.len,⟨fun q g hq i hi=>?_,fun q g i hq hi=>?_,fun q g i hq hi=>?_⟩,fun k hk=>?_⟩⟩
    ·have hkk:=hs.st.heap k
     simp only [hfOf,nth_eq] at hkk ⊢
     rcases Nat.lt_trichotomy k σ.hp.length with h | h | h
     ·rw [List.getElem?_append_left h]
      exact HOk.keep hx hkk rfl (by simp [E',upd,lenN_eq,Nat.ne_of_lt h]) rfl (by simp [E',upd,lenN_eq,Nat.ne_of_lt h]) fun b hO=>⟨hO,rfl,fun _ h=>h⟩
     ·subst h
      rw [List.getElem?_append_right (Nat.le_refl _)]
      simp only [Nat.sub_self,List.getElem?_cons_zero,Option.getD_some]
      exact ⟨.slice none 0 0,0,[],by simp [E',upd,lenN_eq],by simp [E',upd,lenN_eq],⟨by simp,.inl ⟨rfl,rfl⟩⟩,rfl,by simp,⟨by intro i hi; omega,by intro i j s u hi; omega⟩,fun b hb=>by simp [Value.ownBlock] at hb⟩
     ·rw [List.getElem?_eq_none (by simp; omega)]
      rw [List.getElem?_eq_none (by omega)] at hkk
      exact HOk.keep hx hkk rfl (by simp [E',upd,lenN_eq,Nat.ne_of_gt h]) rfl (by simp [E',upd,lenN_eq,Nat.ne_of_gt h]) fun b hO=>⟨hO,rfl,fun _ h=>h⟩
    ·have hsl:=hs.st.slot q
     show SlotOk E' w a q ((getO (setN σ.fr s (some g0)) q).map fun g=>(condsOf σ.gm g.tg,g.v))
     rw [hget]
     simp only [ffOf] at hsl
     by_cases e : q = s
     ·subst e
      rw [if_pos rfl]
      rw [hslot] at hsl
      simp only [Option.map_some,SlotOk,condsOf,List.filterMap_nil,allT,g0] at hsl ⊢
      refine ⟨hsl.1,fun _=>?_,fun h=>absurd trivial h⟩
      have hr:=(hsl.2.1 trivial).sl_inv
      rcases hr.sl_inv with ⟨e1,_,_⟩ | ⟨_,_,_,_,_,e1,_⟩
      ·rw [e1]
       exact .osl ⟨none,0,0,rfl,rfl,by simp [BT.den]⟩ ⟨none,0,0,by simp [E',upd],by simp [ST.den],fun _=>rfl⟩
      ·simp [BT.den] at e1
     ·rw [if_neg e]
      cases hg : getO σ.fr q with
      | none=>trivial
      | some g =>
       rw [hg] at hsl
       simp only [Option.map_some,SlotOk] at hsl ⊢
       exact ⟨hsl.1,fun hc=>(hsl.2.1 hc).mono hx,hsl.2.2⟩
    ·have hq : getO (setN σ.fr s (some g0)) q = some g:=hq
     rw [hget] at hq
     split at hq
     ·cases hq; cases hi
     ·exact hs.wf.tg q g hq i hi
    ·have hq : getO (setN σ.fr s (some g0)) q = some g:=hq
     rw [hget] at hq
     split at hq
     ·cases hq; cases hi
     ·exact hs.wf.gt q g i hq hi
    ·have hq : getO (setN σ.fr s (some g0)) q = some g:=hq
     rw [hget] at hq
     split at hq
     ·cases hq; cases hi
     ·exact hs.wf.gf q g i hq hi
    ·have:=hs.ge k hk
     simp only [List.length_append]
     omega
   ·cases h
  ·cases h
 ·cases h
theorem own_RO {E : Env} {w : World} {h : Nat} {nl : BT} {n n0 : ST} {ty : TypeId} {sz : Nat} {gr : Bool} {f : Nat→List SV} {u v : Value} {m : Nat} {xs : List Value} (hr : Rel E w (.osl nl n h) u) (hτ : E.τ h = some v) (hown : ownsW w gr ty sz v m xs) (hn0 : n0.den = (m : Int)) (he : n.den = n0.den)
  (h1 : ∀ u∈xs,u.oneCell' = true) (hrow : rowIn E w f m sz xs) : RO (fun b o=>E.I b o∨(v.ownBlock = some b∧o < m * sz)) w (.sl nl n sz f) u:=by
 obtain ⟨hu,hnl⟩:=osl_val hr hτ hown hn0 he
 subst hu
 have hn : n.den = (m : Int):=by rw [he,hn0]
 rcases hown.2 with ⟨e0,e1⟩ | ⟨b,cap,cur,fr,e0,hg2,hfr,hmc,hcm,hcs,htake⟩
 ·rw [e0]
  exact .slnil (hnl.2 e0) (by rw [hn,e1]; rfl)
 ·have hidx : ∀ i j,i < m→j < sz→i * sz + j < m * sz:=by
   intro i j hi hj
   have : (i + 1) * sz≤m * sz:=Nat.mul_le_mul_right _ hi
   rw [Nat.add_mul] at this
   omega
  have hxs : ∀ i j,i < m→j < sz→xs[i * sz + j]? = some (xs.getD (i * sz + j) undef):=by
   intro i j hi hj
   have:=hidx i j hi hj
   rw [←hown.1] at this
   rw [List.getD_eq_getElem?_getD,List.getElem?_eq_getElem this]; rfl
  rw [e0]
  refine .sl (fun i j=>xs.getD (i * sz + j) undef) ?_ hn hmc hcm (fun _=>rfl) hrow.1 (fun i j hi hj=>h1 _ (List.mem_of_getElem? (hxs i j hi hj))) (fun i j hi hj=>⟨?_,?_⟩) (fun i j s hi hs=>?_)
  ·cases hb : nl.den with
   | false=>rfl
   | true=>rw [hnl.1 hb] at e0; simp at e0
  ·simp only [Nat.zero_add]
   rw [cell_of_row w b _ cur ty fr hg2,←hxs i j hi hj,←htake,List.getElem?_take,if_pos (hidx i j hi hj)]
   simp
  ·simp only [Nat.zero_add]
   exact .inr ⟨rfl,hidx i j hi hj⟩
  ·have hj : j < sz:=by rw [←hrow.1 i hi]; exact (List.getElem?_eq_some_iff.1 hs).1
   exact (hrow.2 i j s _ hi hs (hxs i j hi hj)).mono (fun b o h=>.inl h) (fun _ _ _=>rfl)
theorem StY.vec {cx : Cx} {B : Bs} {N : Nat} {E : Env} {a : Act} {w : World} {σ σ' : Sy} {s : Nat} {e : TypeId} (hs : StY B N E a w σ) (h : ghost cx σ (.vec s e) = some σ') : ∃ E',StY B N E' a w σ':=by
 simp only [ghost] at h
 split at h
 ·rename_i gt gf sz f hslot
  split at h
  ·split at h
   ·cases h
    have hbase:=hs.st.base
    have hfr : HOk E w (lenN σ.hp) .fresh:=by
     have:=hs.st.heap (lenN σ.hp)
     simpa only [hfOf,nth_eq,lenN_eq,List.getElem?_eq_none (Nat.le_refl _),Option.getD_none] using this
    obtain ⟨f1,f2,f3,f4⟩:=hfr
    let E' : Env:=⟨E.β,upd E.τ (lenN σ.hp) (some (.slice none 0 0)),E.O,E.κ,E.ζ,E.I⟩
    have hx : Ext E w E' w:=by
     refine ⟨fun _ _ h=>h,fun k v hk=>.inl ?_,fun _ _ h=>h,fun _ _ h=>h,fun _ _ h=>h,fun _ _ _=>rfl⟩
     show upd E.τ (lenN σ.hp) (some (.slice none 0 0)) k = some v
     unfold upd
     by_cases e : k = lenN σ.hp
     ·subst e; rw [f2] at hk; cases hk
     ·rw [if_neg e]; exact hk
    have hlt : s < σ.fr.length:=by
     rcases Nat.lt_or_ge s σ.fr.length with h | h
     ·exact h
     ·rw [getO_eq,List.getElem?_eq_none h] at hslot; cases hslot
    let g0 : G:=⟨[],none,none,.vsl (.l true) (.l 0) (.l 0) (lenN σ.hp)⟩
    have hget : ∀ k,getO (setN σ.fr s (some g0)) k = if k = s then some g0 else getO σ.fr k:=fun k=>by
     rw [getO_set]
     by_cases e : k = s
     ·rw [if_pos ⟨e,hlt⟩,if_pos e]
     ·rw [if_neg (fun h=>e h.1),if_neg e]
    refine ⟨E',⟨⟨⟨hbase.os,hbase.tape,hbase.output,hbase.size,hbase.old,hbase.I0,hbase.Ibd,hbase.Inew,hbase.Obd,hbase.β0.ext hx⟩,fun k=>?_,fun q=>?_,hs.st.size,hs.st.defers⟩,by show (setN σ.fr s _).length = N; rw [setN_eq,List.length_set]; exact hs.len,⟨fun q g hq i hi=>?_,fun q g i hq hi=>?_,fun q g i hq hi=>?_⟩,fun k hk=>?_⟩⟩
    ·have hkk:=hs.st.heap k
     simp only [hfOf,nth_eq] at hkk ⊢
     rcases Nat.lt_trichotomy k σ.hp.length with h | h | h
     ·rw [List.getElem?_append_left h]
      exact HOk.keep hx hkk rfl (by simp [E',upd,lenN_eq,Nat.ne_of_lt h]) rfl rfl fun b hO=>⟨hO,rfl,fun _ h=>h⟩
     ·subst h
      rw [List.getElem?_append_right (Nat.le_refl _)]
      simp only [Nat.sub_self,List.getElem?_cons_zero,Option.getD_some]
      exact ⟨none,0,0,0,[],by simp [E',upd,lenN_eq],⟨by simp,.inl ⟨rfl,rfl⟩⟩,rfl,rfl,by simp,⟨by intro i hi; omega,by intro i j s u hi; omega⟩,fun b hb=>by simp [Value.ownBlock] at hb⟩
     ·rw [List.getElem?_eq_none (by simp; omega)]
      rw [List.getElem?_eq_none (by omega)] at hkk
      exact HOk.keep hx hkk rfl (by simp [E',upd,lenN_eq,Nat.ne_of_gt h]) rfl rfl fun b hO=>⟨hO,rfl,fun _ h=>h⟩
    ·have hsl:=hs.st.slot q
     show SlotOk E' w a q ((getO (setN σ.fr s (some g0)) q).map fun g=>(condsOf σ.gm g.tg,g.v))
     rw [hget]
     simp only [ffOf] at hsl
     by_cases e : q = s
     ·subst e
      rw [if_pos rfl]
      rw [hslot] at hsl
      simp only [Option.map_some,SlotOk,condsOf,List.filterMap_nil,allT,g0] at hsl ⊢
      refine ⟨hsl.1,fun _=>?_,fun h=>absurd trivial h⟩
      have hr:=(hsl.2.1 trivial).sl_inv
      rcases hr.sl_inv with ⟨e1,_,_⟩ | ⟨_,_,_,_,_,e1,_⟩
      ·rw [e1]
       exact .vsl ⟨none,0,0,rfl,rfl,by simp [BT.den]⟩ ⟨none,0,0,by simp [E',upd],by simp [ST.den],fun _=>⟨0,rfl,rfl⟩⟩
      ·simp [BT.den] at e1
     ·rw [if_neg e]
      cases hg : getO σ.fr q with
      | none=>trivial
      | some g =>
       rw [hg] at hsl
       simp only [Option.map_some,SlotOk] at hsl ⊢
       exact ⟨hsl.1,fun hc=>(hsl.2.1 hc).mono hx,hsl.2.2⟩
    ·have hq : getO (setN σ.fr s (some g0)) q = some g:=hq
     rw [hget] at hq
     split at hq
     ·cases hq; cases hi
     ·exact hs.wf.tg q g hq i hi
    ·have hq : getO (setN σ.fr s (some g0)) q = some g:=hq
     rw [hget] at hq
     split at hq
     ·cases hq; cases hi
     ·exact hs.wf.gt q g i hq hi
    ·have hq : getO (setN σ.fr s (some g0)) q = some g:=hq
     rw [hget] at hq
     split at hq
     ·cases hq; cases hi
     ·exact hs.wf.gf q g i hq hi
    ·have:=hs.ge k hk
     simp only [List.length_append]
     omega
   ·cases h
  ·cases h
 ·cases h
theorem StY.vshare {cx : Cx} {B : Bs} {N : Nat} {E : Env} {a : Act} {w : World} {σ σ' : Sy} {s : Nat} (hD : cx.D = dn) (hs : StY B N E a w σ) (hp : ghostP cx σ (.vshare s)) (h : ghost cx σ (.vshare s) = some σ') : ∃ E',StY B N E' a w σ':=by
 simp only [ghost] at h
 simp only [ghostP] at hp
 split at h
 ·rename_i gt gf nl n gv hd hslot
  rw [hslot] at hp
  simp only at hp
  split at h
  ·rename_i ty n0 g1 sz f hh
   rw [hh] at hp
   simp only at hp
   rw [hD] at hp
   have hp : n.den = n0.den∧gv.den = g1.den:=⟨hp.1.h,hp.2.h⟩
   cases h
   have hbase:=hs.st.base
   have hk:=hs.st.heap hd
   rw [nth_hf hh] at hk
   obtain ⟨a0,c0,m,Gn,xs,k1,k2,k3,kg,k4,k5,k6⟩:=hk
   obtain ⟨v,hv⟩ : ∃ v,v = Value.slice a0 m c0:=⟨_,rfl⟩
   rw [←hv] at k2 k6
   let E' : Env:=⟨E.β,E.τ,E.O,E.κ,E.ζ,fun b o=>E.I b o∨(v.ownBlock = some b∧o < m * sz)⟩
   have hx : Ext E w E' w:=⟨fun _ _ h=>h,fun _ _ h=>.inl h,fun _ _ h=>h,fun _ _ h=>h,fun _ _ h=>.inl h,fun _ _ _=>rfl⟩
   have hlt : s < σ.fr.length:=by
    rcases Nat.lt_or_ge s σ.fr.length with h | h
    ·exact h
    ·rw [getO_eq,List.getElem?_eq_none h] at hslot; cases hslot
   let g0 : G:=⟨[],none,none,.sl nl n sz f⟩
   have hget : ∀ k,getO (setN σ.fr s (some g0)) k = if k = s then some g0 else getO σ.fr k:=fun k=>by
    rw [getO_set]
    by_cases e : k = s
    ·rw [if_pos ⟨e,hlt⟩,if_pos e]
    ·rw [if_neg (fun h=>e h.1),if_neg e]
   refine ⟨E',⟨⟨⟨hbase.os,hbase.tape,hbase.output,hbase.size,hbase.old,fun b' o hi=>?_,fun b' o hi=>?_,fun b' o hi=>?_,hbase.Obd,hbase.β0.ext hx⟩,fun k=>?_,fun q=>?_,hs.st.size,hs.st.defers⟩,by show (setN σ.fr s _).length = N; rw [setN_eq,List.length_set]; exact hs.len,⟨fun q g hq i hi=>?_,fun q g i hq hi=>?_,fun q g i hq hi=>?_⟩,fun k hk=>?_⟩⟩
   ·obtain ⟨i1,i2⟩:=hbase.I0 b' o hi; exact ⟨.inl i1,i2⟩
   ·rcases hi with hi | ⟨hb,_⟩
    ·exact hbase.Ibd b' o hi
    ·exact owned_lt hbase (k6 b' hb).1
   ·rcases hi with hi | ⟨hb,_⟩
    ·exact hbase.Inew b' o hi
    ·exact .inr (hbase.Obd b' hd (k6 b' hb).1).2
   ·simp only [hfOf,nth_eq,setN_eq]
    by_cases e : k = hd
    ·subst e
     rw [List.getElem?_set]
     simp only [if_pos]
     split
     ·trivial
     ·have : k < σ.hp.length:=by rw [nth_eq] at hh; exact (List.getElem?_eq_some_iff.1 hh).1
      rename_i hno
      exact absurd (by simpa using this) hno
    ·rw [List.getElem?_set_ne (fun h=>e h.symm)]
     have hkk:=hs.st.heap k
     simp only [hfOf,nth_eq] at hkk
     refine HOk.keep hx hkk rfl rfl rfl rfl fun b' hO=>⟨hO,rfl,fun o hi=>?_⟩
     rcases hi with hi | ⟨hb,_⟩
     ·exact hi
     ·rw [(k6 b' hb).1] at hO; exact absurd (Option.some.inj hO).symm e
   ·have hsl:=hs.st.slot q
    show SlotOk E' w a q ((getO (setN σ.fr s (some g0)) q).map fun g=>(condsOf σ.gm g.tg,g.v))
    rw [hget]
    simp only [ffOf] at hsl
    by_cases e : q = s
    ·subst e
     rw [if_pos rfl]
     rw [hslot] at hsl
     simp only [Option.map_some,SlotOk,condsOf,List.filterMap_nil,allT,g0] at hsl ⊢
     exact ⟨hsl.1,fun _=>.ro (by
      obtain ⟨hu,hnl⟩:=vsl_val (hsl.2.1 trivial) k1 (by rw [←hv]; exact k2) (by rw [hp.1,k3]) kg hp.2
      rw [←hv] at hu hnl
      exact row_RO hu hnl k2 (by rw [hp.1,k3]) k4 k5),fun h=>absurd trivial h⟩
    ·rw [if_neg e]
     cases hg : getO σ.fr q with
     | none=>trivial
     | some g =>
      rw [hg] at hsl
      simp only [Option.map_some,SlotOk] at hsl ⊢
      exact ⟨hsl.1,fun hc=>(hsl.2.1 hc).mono hx,hsl.2.2⟩
   ·have hq : getO (setN σ.fr s (some g0)) q = some g:=hq
    rw [hget] at hq
    split at hq
    ·cases hq; cases hi
    ·exact hs.wf.tg q g hq i hi
   ·have hq : getO (setN σ.fr s (some g0)) q = some g:=hq
    rw [hget] at hq
    split at hq
    ·cases hq; cases hi
    ·exact hs.wf.gt q g i hq hi
   ·have hq : getO (setN σ.fr s (some g0)) q = some g:=hq
    rw [hget] at hq
    split at hq
    ·cases hq; cases hi
    ·exact hs.wf.gf q g i hq hi
   ·simp only [setN_eq,List.length_set]
    exact hs.ge k hk
  ·cases h
 ·cases h
theorem StY.share {cx : Cx} {B : Bs} {N : Nat} {E : Env} {a : Act} {w : World} {σ σ' : Sy} {s : Nat} (hD : cx.D = dn) (hs : StY B N E a w σ) (hp : ghostP cx σ (.share s)) (h : ghost cx σ (.share s) = some σ') : ∃ E',StY B N E' a w σ':=by
 simp only [ghost] at h
 simp only [ghostP] at hp
 split at h
 ·rename_i gt gf nl n hd hslot
  rw [hslot] at hp
  simp only at hp
  split at h
  ·rename_i ty n0 sz gr f hh
   rw [hh] at hp
   simp only at hp
   rw [hD] at hp
   have hp : n.den = n0.den:=hp.h
   cases h
   have hbase:=hs.st.base
   have hk:=hs.st.heap hd
   rw [nth_hf hh] at hk
   obtain ⟨v,m,xs,k1,kz,k2,k3,k4,k5,k6⟩:=hk
   let E' : Env:=⟨E.β,E.τ,E.O,E.κ,E.ζ,fun b o=>E.I b o∨(v.ownBlock = some b∧o < m * sz)⟩
   have hx : Ext E w E' w:=⟨fun _ _ h=>h,fun _ _ h=>.inl h,fun _ _ h=>h,fun _ _ h=>h,fun _ _ h=>.inl h,fun _ _ _=>rfl⟩
   have hlt : s < σ.fr.length:=by
    rcases Nat.lt_or_ge s σ.fr.length with h | h
    ·exact h
    ·rw [getO_eq,List.getElem?_eq_none h] at hslot; cases hslot
   let g0 : G:=⟨[],none,none,.sl nl n sz f⟩
   have hget : ∀ k,getO (setN σ.fr s (some g0)) k = if k = s then some g0 else getO σ.fr k:=fun k=>by
    rw [getO_set]
    by_cases e : k = s
    ·rw [if_pos ⟨e,hlt⟩,if_pos e]
    ·rw [if_neg (fun h=>e h.1),if_neg e]
   refine ⟨E',⟨⟨⟨hbase.os,hbase.tape,hbase.output,hbase.size,hbase.old,fun b' o hi=>?_,fun b' o hi=>?_,fun b' o hi=>?_,hbase.Obd,hbase.β0.ext hx⟩,fun k=>?_,fun q=>?_,hs.st.size,hs.st.defers⟩,by show (setN σ.fr s _).length = N; rw [setN_eq,List.length_set]; exact hs.len,⟨fun q g hq i hi=>?_,fun q g i hq hi=>?_,fun q g i hq hi=>?_⟩,fun k hk=>?_⟩⟩
   ·obtain ⟨i1,i2⟩:=hbase.I0 b' o hi; exact ⟨.inl i1,i2⟩
   ·rcases hi with hi | ⟨hb,_⟩
    ·exact hbase.Ibd b' o hi
    ·exact owned_lt hbase (k6 b' hb).1
   ·rcases hi with hi | ⟨hb,_⟩
    ·exact hbase.Inew b' o hi
    ·exact .inr (hbase.Obd b' hd (k6 b' hb).1).2
   ·simp only [hfOf,nth_eq,setN_eq]
    by_cases e : k = hd
    ·subst e
     rw [List.getElem?_set]
     simp only [if_pos]
     split
     ·trivial
     ·have : k < σ.hp.length:=by rw [nth_eq] at hh; exact (List.getElem?_eq_some_iff.1 hh).1
      rename_i hno
      exact absurd (by simpa using this) hno
    ·rw [List.getElem?_set_ne (fun h=>e h.symm)]
     have hkk:=hs.st.heap k
     simp only [hfOf,nth_eq] at hkk
     refine HOk.keep hx hkk rfl rfl rfl rfl fun b' hO=>⟨hO,rfl,fun o hi=>?_⟩
     rcases hi with hi | ⟨hb,_⟩
     ·exact hi
     ·rw [(k6 b' hb).1] at hO; exact absurd (Option.some.inj hO).symm e
   ·have hsl:=hs.st.slot q
    show SlotOk E' w a q ((getO (setN σ.fr s (some g0)) q).map fun g=>(condsOf σ.gm g.tg,g.v))
    rw [hget]
    simp only [ffOf] at hsl
    by_cases e : q = s
    ·subst e
     rw [if_pos rfl]
     rw [hslot] at hsl
     simp only [Option.map_some,SlotOk,condsOf,List.filterMap_nil,allT,g0] at hsl ⊢
     exact ⟨hsl.1,fun _=>.ro (own_RO (hsl.2.1 trivial) k1 k2 k3 hp k4 k5),fun h=>absurd trivial h⟩
    ·rw [if_neg e]
     cases hg : getO σ.fr q with
     | none=>trivial
     | some g =>
      rw [hg] at hsl
      simp only [Option.map_some,SlotOk] at hsl ⊢
      exact ⟨hsl.1,fun hc=>(hsl.2.1 hc).mono hx,hsl.2.2⟩
   ·have hq : getO (setN σ.fr s (some g0)) q = some g:=hq
    rw [hget] at hq
    split at hq
    ·cases hq; cases hi
    ·exact hs.wf.tg q g hq i hi
   ·have hq : getO (setN σ.fr s (some g0)) q = some g:=hq
    rw [hget] at hq
    split at hq
    ·cases hq; cases hi
    ·exact hs.wf.gt q g i hq hi
   ·have hq : getO (setN σ.fr s (some g0)) q = some g:=hq
    rw [hget] at hq
    split at hq
    ·cases hq; cases hi
    ·exact hs.wf.gf q g i hq hi
   ·simp only [setN_eq,List.length_set]
    exact hs.ge k hk
  ·cases h
 ·cases h
theorem StY.bld {cx : Cx} {B : Bs} {N : Nat} {E : Env} {a : Act} {w : World} {σ σ' : Sy} {s e : Nat} (hs : StY B N E a w σ) (h : ghost cx σ (.bld s e) = some σ') : ∃ E',StY B N E' a w σ':=by
 simp only [ghost] at h
 split at h
 ·rename_i gt gf hd hslot
  split at h
  ·rename_i T f hh
   cases h
   have hbase:=hs.st.base
   have hk:=hs.st.heap hd
   rw [nth_hf hh] at hk
   obtain ⟨b,C,k1,k2,k3,k4,k5,k6⟩:=hk.blk_inv
   refine ⟨E,⟨⟨hbase,fun k=>?_,hs.st.slot,hs.st.size,hs.st.defers⟩,hs.len,⟨hs.wf.tg,hs.wf.gt,hs.wf.gf⟩,fun k hk=>?_⟩⟩
   ·simp only [hfOf,nth_eq,setN_eq]
    by_cases e : k = hd
    ·subst e
     have hlt : k < σ.hp.length:=by rw [nth_eq] at hh; exact (List.getElem?_eq_some_iff.1 hh).1
     rw [List.getElem?_set_self hlt]
     simp only [Option.getD_some]
     match hC : C.toList,k4 with
     | [p,v],k4 =>
      have hp : p = .pointer none:=by
       have:=k4.2 0 .nilp p rfl rfl
       cases this with
       | ro h=>cases h; rfl
      have hv : v = .slice none 0 0:=by
       have:=(k4.2 1 _ v rfl rfl).sl_inv
       rcases this.sl_inv with ⟨e1,_⟩ | ⟨_,_,_,_,_,e1,_⟩
       ·exact e1
       ·simp [BT.den] at e1
      subst hp hv
      have hCe : C = #[.pointer none,.slice none 0 0]:=by apply Array.ext'; rw [hC]
      exact ⟨b,.pointer none,.slice none 0 0,k1,k2,.inl rfl,by rw [k3,hCe],World.ownsRow_nil w 0 _ 1,by simp [Value.ownBlock],k6,by simp [Value.ownBlock]⟩
     | [],k4=>exact absurd k4.1 (by simp)
     | [_],k4=>exact absurd k4.1 (by simp)
     | _ :: _ :: _ :: _,k4=>exact absurd k4.1 (by simp)
    ·rw [List.getElem?_set_ne (fun h=>e h.symm)]
     have hkk:=hs.st.heap k
     simp only [hfOf,nth_eq] at hkk
     exact hkk
   ·simp only [setN_eq,List.length_set]
    exact hs.ge k hk
  ·cases h
 ·cases h
theorem StY.hold {cx : Cx} {B : Bs} {N : Nat} {E : Env} {a : Act} {w : World} {σ σ' : Sy} {s k0 e : Nat} (hs : StY B N E a w σ) (h : ghost cx σ (.hold s k0 e) = some σ') : ∃ E',StY B N E' a w σ':=by
 simp only [ghost] at h
 split at h
 ·rename_i gt gf hd hslot
  split at h
  ·rename_i T cs hh
   split at h
   ·rename_i sz f sz' hcs hsz
    split at h
    ·cases h
     have hbase:=hs.st.base
     have hfr : HOk E w (lenN σ.hp) .fresh:=by
      have:=hs.st.heap (lenN σ.hp)
      simpa only [hfOf,nth_eq,lenN_eq,List.getElem?_eq_none (Nat.le_refl _),Option.getD_none] using this
     obtain ⟨f1,f2,f3,f4⟩:=hfr
     let E' : Env:=⟨E.β,upd E.τ (lenN σ.hp) (some (.slice none 0 0)),E.O,E.κ,E.ζ,E.I⟩
     have hx : Ext E w E' w:=by
      refine ⟨fun _ _ h=>h,fun k v hk=>.inl ?_,fun _ _ h=>h,fun _ _ h=>h,fun _ _ h=>h,fun _ _ _=>rfl⟩
      show upd E.τ (lenN σ.hp) (some (.slice none 0 0)) k = some v
      unfold upd
      by_cases e : k = lenN σ.hp
      ·subst e; rw [f2] at hk; cases hk
      ·rw [if_neg e]; exact hk
     have hlt : hd < σ.hp.length:=by rw [nth_eq] at hh; exact (List.getElem?_eq_some_iff.1 hh).1
     have hk:=hs.st.heap hd
     rw [nth_hf hh] at hk
     obtain ⟨b,C,k1,k2,k3,k4,k5,k7,k8⟩:=hk
     refine ⟨E',⟨⟨⟨hbase.os,hbase.tape,hbase.output,hbase.size,hbase.old,hbase.I0,hbase.Ibd,hbase.Inew,hbase.Obd,hbase.β0.ext hx⟩,fun k=>?_,fun q=>?_,hs.st.size,hs.st.defers⟩,hs.len,⟨hs.wf.tg,hs.wf.gt,hs.wf.gf⟩,fun k hk=>?_⟩⟩
     ·have hkk:=hs.st.heap k
      simp only [hfOf,nth_eq,setN_eq] at hkk ⊢
      rcases Nat.lt_trichotomy k σ.hp.length with h | h | h
      ·rw [List.getElem?_append_left (by simpa using h)]
       by_cases e : k = hd
       ·subst e
        rw [List.getElem?_set_self hlt]
        simp only [Option.getD_some]
        refine ⟨b,C,k1,k2,k3,by rw [List.length_set]; exact k4,fun i s' v a c=>?_,k7,k8⟩
        rw [List.getElem?_set] at a
        rw [nth_eq] at hcs
        split at a
        ·rename_i hik
         split at a
         ·cases a
          subst hik
          have hr:=(k5 k0 _ v hcs c).sl_inv
          have hr':=hr.mono hx.I hx.cell
          rcases hr.sl_inv with ⟨e1,_,_⟩ | ⟨_,_,_,_,_,e1,_⟩
          ·rw [e1] at hr' ⊢
           exact .gsl hr' ⟨none,0,0,by simp [E',upd],by simp [ST.den],fun _=>rfl⟩
          ·simp [BT.den] at e1
         ·cases a
        ·exact (k5 i s' v a c).mono hx
       ·rw [List.getElem?_set_ne (fun h=>e h.symm)]
        exact HOk.keep hx hkk rfl (by simp [E',upd,lenN_eq,Nat.ne_of_lt h]) rfl rfl fun b hO=>⟨hO,rfl,fun _ h=>h⟩
      ·subst h
       rw [List.getElem?_append_right (by simp)]
       simp only [List.length_set,Nat.sub_self,List.getElem?_cons_zero,Option.getD_some]
       exact ⟨.slice none 0 0,0,[],by simp [E',upd,lenN_eq],World.ownsRow_nil w 0 _ sz,rfl,by simp,fun b hb=>by simp [Value.ownBlock] at hb⟩
      ·rw [List.getElem?_eq_none (by simp; omega)]
       rw [List.getElem?_eq_none (by omega)] at hkk
       exact HOk.keep hx hkk rfl (by simp [E',upd,lenN_eq,Nat.ne_of_gt h]) rfl rfl fun b hO=>⟨hO,rfl,fun _ h=>h⟩
     ·have hsl:=hs.st.slot q
      simp only [ffOf] at hsl ⊢
      cases hg : getO σ.fr q with
      | none=>trivial
      | some g =>
       rw [hg] at hsl
       simp only [Option.map_some,SlotOk] at hsl ⊢
       exact ⟨hsl.1,fun hc=>(hsl.2.1 hc).mono hx,hsl.2.2⟩
     ·have:=hs.ge k hk
      simp only [List.length_append,setN_eq,List.length_set]
      omega
    ·cases h
   ·cases h
  ·cases h
 ·cases h
theorem StY.vecb {cx : Cx} {B : Bs} {N : Nat} {E : Env} {a : Act} {w : World} {σ σ' : Sy} {s k0 e : Nat} (hs : StY B N E a w σ) (h : ghost cx σ (.vecb s k0 e) = some σ') : ∃ E',StY B N E' a w σ':=by
 simp only [ghost] at h
 split at h
 ·rename_i gt gf hd hslot
  split at h
  ·rename_i T cs hh
   split at h
   ·rename_i sz f sz' hcs hsz
    split at h
    ·cases h
     have hbase:=hs.st.base
     have hfr : HOk E w (lenN σ.hp) .fresh:=by
      have:=hs.st.heap (lenN σ.hp)
      simpa only [hfOf,nth_eq,lenN_eq,List.getElem?_eq_none (Nat.le_refl _),Option.getD_none] using this
     obtain ⟨f1,f2,f3,f4⟩:=hfr
     let E' : Env:=⟨E.β,upd E.τ (lenN σ.hp) (some (.slice none 0 0)),E.O,E.κ,E.ζ,E.I⟩
     have hx : Ext E w E' w:=by
      refine ⟨fun _ _ h=>h,fun k v hk=>.inl ?_,fun _ _ h=>h,fun _ _ h=>h,fun _ _ h=>h,fun _ _ _=>rfl⟩
      show upd E.τ (lenN σ.hp) (some (.slice none 0 0)) k = some v
      unfold upd
      by_cases e : k = lenN σ.hp
      ·subst e; rw [f2] at hk; cases hk
      ·rw [if_neg e]; exact hk
     have hlt : hd < σ.hp.length:=by rw [nth_eq] at hh; exact (List.getElem?_eq_some_iff.1 hh).1
     have hk:=hs.st.heap hd
     rw [nth_hf hh] at hk
     obtain ⟨b,C,k1,k2,k3,k4,k5,k7,k8⟩:=hk
     refine ⟨E',⟨⟨⟨hbase.os,hbase.tape,hbase.output,hbase.size,hbase.old,hbase.I0,hbase.Ibd,hbase.Inew,hbase.Obd,hbase.β0.ext hx⟩,fun k=>?_,fun q=>?_,hs.st.size,hs.st.defers⟩,hs.len,⟨hs.wf.tg,hs.wf.gt,hs.wf.gf⟩,fun k hk=>?_⟩⟩
     ·have hkk:=hs.st.heap k
      simp only [hfOf,nth_eq,setN_eq] at hkk ⊢
      rcases Nat.lt_trichotomy k σ.hp.length with h | h | h
      ·rw [List.getElem?_append_left (by simpa using h)]
       by_cases e : k = hd
       ·subst e
        rw [List.getElem?_set_self hlt]
        simp only [Option.getD_some]
        refine ⟨b,C,k1,k2,k3,by rw [List.length_set]; exact k4,fun i s' v a c=>?_,k7,k8⟩
        rw [List.getElem?_set] at a
        rw [nth_eq] at hcs
        split at a
        ·rename_i hik
         split at a
         ·cases a
          subst hik
          have hr:=(k5 k0 _ v hcs c).sl_inv
          rcases hr.sl_inv with ⟨e1,_,_⟩ | ⟨_,_,_,_,_,e1,_⟩
          ·rw [e1]
           exact .vsl ⟨none,0,0,rfl,rfl,by simp [BT.den]⟩ ⟨none,0,0,by simp [E',upd],by simp [ST.den],fun _=>⟨0,rfl,rfl⟩⟩
          ·simp [BT.den] at e1
         ·cases a
        ·exact (k5 i s' v a c).mono hx
       ·rw [List.getElem?_set_ne (fun h=>e h.symm)]
        exact HOk.keep hx hkk rfl (by simp [E',upd,lenN_eq,Nat.ne_of_lt h]) rfl rfl fun b hO=>⟨hO,rfl,fun _ h=>h⟩
      ·subst h
       rw [List.getElem?_append_right (by simp)]
       simp only [List.length_set,Nat.sub_self,List.getElem?_cons_zero,Option.getD_some]
       exact ⟨none,0,0,0,[],by simp [E',upd,lenN_eq],⟨by simp,.inl ⟨rfl,rfl⟩⟩,rfl,rfl,by simp,⟨by intro i hi; omega,by intro i j s u hi; omega⟩,fun b hb=>by simp [Value.ownBlock] at hb⟩
      ·rw [List.getElem?_eq_none (by simp; omega)]
       rw [List.getElem?_eq_none (by omega)] at hkk
       exact HOk.keep hx hkk rfl (by simp [E',upd,lenN_eq,Nat.ne_of_gt h]) rfl rfl fun b hO=>⟨hO,rfl,fun _ h=>h⟩
     ·have hsl:=hs.st.slot q
      simp only [ffOf] at hsl ⊢
      cases hg : getO σ.fr q with
      | none=>trivial
      | some g =>
       rw [hg] at hsl
       simp only [Option.map_some,SlotOk] at hsl ⊢
       exact ⟨hsl.1,fun hc=>(hsl.2.1 hc).mono hx,hsl.2.2⟩
     ·have:=hs.ge k hk
      simp only [List.length_append,setN_eq,List.length_set]
      omega
    ·cases h
   ·cases h
  ·cases h
 ·cases h
theorem StY.vshareb {cx : Cx} {B : Bs} {N : Nat} {E : Env} {a : Act} {w : World} {σ σ' : Sy} {s k0 : Nat} (hD : cx.D = dn) (hs : StY B N E a w σ) (hp : ghostP cx σ (.vshareb s k0)) (h : ghost cx σ (.vshareb s k0) = some σ') : ∃ E',StY B N E' a w σ':=by
 simp only [ghost] at h
 simp only [ghostP] at hp
 split at h
 ·rename_i gt gf hb hslot
  rw [hslot] at hp
  simp only at hp
  split at h
  ·rename_i T cs hhb
   rw [hhb] at hp
   simp only at hp
   split at h
   ·rename_i nl n g0 hd hcs
    rw [hcs] at hp
    simp only at hp
    split at h
    ·rename_i ty n0 g1 sz f hh
     rw [hh] at hp
     simp only at hp
     cases h
     rw [hD] at hp
     have hp : n.den = n0.den∧g0.den = g1.den:=⟨hp.1.h,hp.2.h⟩
     have hbase:=hs.st.base
     have hne : hb≠hd:=by rintro rfl; rw [hhb] at hh; cases hh
     have hk:=hs.st.heap hd
     rw [nth_hf hh] at hk
     obtain ⟨a0,c0,m,G,xs,k1,k2,k3,kg,k4,k5,k6⟩:=hk
     obtain ⟨v,hv⟩ : ∃ v,v = Value.slice a0 m c0:=⟨_,rfl⟩
     rw [←hv] at k2 k6
     let E' : Env:=⟨E.β,E.τ,E.O,E.κ,E.ζ,fun b o=>E.I b o∨(v.ownBlock = some b∧o < m * sz)⟩
     have hx : Ext E w E' w:=⟨fun _ _ h=>h,fun _ _ h=>.inl h,fun _ _ h=>h,fun _ _ h=>h,fun _ _ h=>.inl h,fun _ _ _=>rfl⟩
     have hlb : hb < σ.hp.length:=by rw [nth_eq] at hhb; exact (List.getElem?_eq_some_iff.1 hhb).1
     have hld : hd < σ.hp.length:=by rw [nth_eq] at hh; exact (List.getElem?_eq_some_iff.1 hh).1
     have hkb:=hs.st.heap hb
     rw [nth_hf hhb] at hkb
     obtain ⟨b,C,q1,q2,q3,q4,q5,q6,q7⟩:=hkb
     refine ⟨E',⟨⟨⟨hbase.os,hbase.tape,hbase.output,hbase.size,hbase.old,fun b' o hi=>?_,fun b' o hi=>?_,fun b' o hi=>?_,hbase.Obd,hbase.β0.ext hx⟩,fun k=>?_,fun q=>?_,hs.st.size,hs.st.defers⟩,hs.len,⟨hs.wf.tg,hs.wf.gt,hs.wf.gf⟩,fun k hk=>?_⟩⟩
     ·obtain ⟨i1,i2⟩:=hbase.I0 b' o hi; exact ⟨.inl i1,i2⟩
     ·rcases hi with hi | ⟨hb,_⟩
      ·exact hbase.Ibd b' o hi
      ·exact owned_lt hbase (k6 b' hb).1
     ·rcases hi with hi | ⟨hb,_⟩
      ·exact hbase.Inew b' o hi
      ·exact .inr (hbase.Obd b' hd (k6 b' hb).1).2
     ·simp only [hfOf,nth_eq,setN_eq]
      by_cases e : k = hd
      ·subst e
       rw [List.getElem?_set_self (by simpa using hld)]
       trivial
      ·rw [List.getElem?_set_ne (fun h=>e h.symm)]
       by_cases e2 : k = hb
       ·subst e2
        rw [List.getElem?_set_self hlb]
        simp only [Option.getD_some]
        refine ⟨b,C,q1,q2,q3,by rw [List.length_set]; exact q4,fun i s' u a c=>?_,q6,fun o hi=>?_⟩
        ·rw [List.getElem?_set] at a
         rw [nth_eq] at hcs
         split at a
         ·rename_i hik
          split at a
          ·cases a
           subst hik
           obtain ⟨hu,hnl⟩:=vsl_val (q5 k0 _ u hcs c) k1 (by rw [←hv]; exact k2) (by rw [hp.1,k3]) kg hp.2
           rw [←hv] at hu hnl
           exact .ro (row_RO hu hnl k2 (by rw [hp.1,k3]) k4 k5)
          ·cases a
         ·exact (q5 i s' u a c).mono hx
        ·rcases hi with hi | ⟨hbb,_⟩
         ·exact q7 o hi
         ·have:=(k6 b hbb).1
          rw [q2] at this
          exact e (Option.some.inj this)
       ·rw [List.getElem?_set_ne (fun h=>e2 h.symm)]
        have hkk:=hs.st.heap k
        simp only [hfOf,nth_eq] at hkk
        refine HOk.keep hx hkk rfl rfl rfl rfl fun b' hO=>⟨hO,rfl,fun o hi=>?_⟩
        rcases hi with hi | ⟨hb,_⟩
        ·exact hi
        ·rw [(k6 b' hb).1] at hO; exact absurd (Option.some.inj hO).symm e
     ·have hsl:=hs.st.slot q
      simp only [ffOf] at hsl ⊢
      cases hg : getO σ.fr q with
      | none=>trivial
      | some g =>
       rw [hg] at hsl
       simp only [Option.map_some,SlotOk] at hsl ⊢
       exact ⟨hsl.1,fun hc=>(hsl.2.1 hc).mono hx,hsl.2.2⟩
     ·simp only [setN_eq,List.length_set]
      exact hs.ge k hk
    ·cases h
   ·cases h
  ·cases h
 ·cases h
theorem RO.row {I : Nat→Nat→Prop} {w : World} {nl : BT} {n : ST} {sz : Nat} {f f2 : Nat→List SV} {v : Value} (h : RO I w (.sl nl n sz f) v) (e : ∀ i : Nat,(i : Int) < n.den→f2 i = f i) : RO I w (.sl nl n sz f2) v:=by
 generalize hs : SV.sl nl n sz f = s at h
 cases h with
 | slnil h hn=>cases hs; exact .slnil h hn
 | sl g h hn hc hcm hs' hl h1 hcell hrel =>
  cases hs
  exact .sl g h hn hc hcm hs' (fun i hi=>by rw [e i (by rw [hn]; exact Int.ofNat_lt.2 hi)]; exact hl i hi) h1 hcell (fun i j s hi hf=>hrel i j s hi (by rw [←e i (by rw [hn]; exact Int.ofNat_lt.2 hi)]; exact hf))
 | _=>cases hs
theorem StY.tot {B : Bs} {N : Nat} {E : Env} {a : Act} {w : World} {σ : Sy} {s : Nat} {nl : BT} {n : ST} {sz : Nat} {f f2 : Nat→List SV} (hs : StY B N E a w σ) (h : totOf σ s = some (nl,n,sz,f)) (he : RowAs n.den f2 f) :
  StY B N E a w ⟨setN σ.fr s (some ⟨[],none,none,.sl nl n sz f2⟩),σ.hp,σ.gm⟩:=by
 have key : ∃ g,getO σ.fr s = some g∧g.tg = []∧∀ v,Rel E w g.v v→Rel E w (.sl nl n sz f2) v:=by
  unfold totOf at h
  split at h
  ·rename_i gt gf nl' n' sz' f' hg
   cases h
   refine ⟨_,hg,rfl,fun v hv=>?_⟩
   cases hv with
   | ro hr=>exact .ro (hr.row he.h)
  ·rename_i gt gf nl' n' sz' f' hd hg
   cases h
   refine ⟨_,hg,rfl,fun v hv=>?_⟩
   cases hv with
   | ro hr=>cases hr
   | gsl hr ht=>exact .ro (hr.row he.h)
  ·cases h
 obtain ⟨g,hslot,htg,hrel⟩:=key
 have hlt : s < σ.fr.length:=by
  rcases Nat.lt_or_ge s σ.fr.length with h | h
  ·exact h
  ·rw [getO_eq,List.getElem?_eq_none h] at hslot; cases hslot
 let g0 : G:=⟨[],none,none,.sl nl n sz f2⟩
 have hget : ∀ k,getO (setN σ.fr s (some g0)) k = if k = s then some g0 else getO σ.fr k:=fun k=>by
  rw [getO_set]
  by_cases e : k = s
  ·rw [if_pos ⟨e,hlt⟩,if_pos e]
  ·rw [if_neg (fun h=>e h.1),if_neg e]
 refine ⟨⟨hs.st.base,hs.st.heap,fun q=>?_,hs.st.size,hs.st.defers⟩,by show (setN σ.fr s _).length = N; rw [setN_eq,List.length_set]; exact hs.len,⟨fun q g hq i hi=>?_,fun q g i hq hi=>?_,fun q g i hq hi=>?_⟩,hs.ge⟩
 ·have hsl:=hs.st.slot q
  show SlotOk E w a q ((getO (setN σ.fr s (some g0)) q).map fun g=>(condsOf σ.gm g.tg,g.v))
  rw [hget]
  simp only [ffOf] at hsl
  by_cases e : q = s
  ·subst e
   rw [if_pos rfl]
   rw [hslot] at hsl
   simp only [Option.map_some,SlotOk,htg,condsOf,List.filterMap_nil,allT,g0] at hsl ⊢
   exact ⟨hsl.1,fun _=>hrel _ (hsl.2.1 trivial),fun h=>absurd trivial h⟩
  ·rw [if_neg e]
   exact hsl
 ·have hq : getO (setN σ.fr s (some g0)) q = some g:=hq
  rw [hget] at hq
  split at hq
  ·cases hq; cases hi
  ·exact hs.wf.tg q g hq i hi
 ·have hq : getO (setN σ.fr s (some g0)) q = some g:=hq
  rw [hget] at hq
  split at hq
  ·cases hq; cases hi
  ·exact hs.wf.gt q g i hq hi
 ·have hq : getO (setN σ.fr s (some g0)) q = some g:=hq
  rw [hget] at hq
  split at hq
  ·cases hq; cases hi
  ·exact hs.wf.gf q g i hq hi
theorem StY.frz {cx : Cx} {B : Bs} {N : Nat} {E : Env} {a : Act} {w : World} {σ : Sy} {s n sz hd : Nat} {rows : List (List SV)} {f : Nat→List SV} (hs : StY B N E a w σ) (h : frzOf cx σ s = some (n,sz,rows,hd)) (hf : Built f rows) : ∃ E',StY B N E' a w ⟨setN σ.fr s (some ⟨[],none,none,.rarr n sz f⟩),setN σ.hp hd .gone,σ.gm⟩:=by
 unfold frzOf at h
 split at h
 ·rename_i gt gf h0 hslot
  split at h
  ·rename_i T cs hh
   split at h
   ·split at h
    ·split at h
     ·rename_i hb
      simp only [Option.some.injEq,Prod.mk.injEq] at h
      obtain ⟨rfl,rfl,rfl,rfl⟩:=h
      rename_i n e _ _ _ _ _ sz _
      simp only [Bool.and_eq_true,beq_iff_eq,lenN_eq] at hb
      obtain ⟨hlen,hpl⟩:=hb
      rw [plainL_iff] at hpl
      have hbase:=hs.st.base
      have hk:=hs.st.heap h0
      rw [nth_hf hh] at hk
      obtain ⟨b,C,k1,k2,k3,k4,k5,k6,k7⟩:=hk
      have hrow : ∀ i,i < n→f i = (cs.drop (i * sz)).take sz:=by
       intro i hi
       have : (chunks sz n cs)[i]? = some (takeN sz (dropN (i * sz) cs)):=chunks_at n i cs hi
       rw [hf.h i _ this,takeN_eq,dropN_eq]
      let E' : Env:=⟨E.β,E.τ,E.O,E.κ,E.ζ,fun b' o=>E.I b' o∨(b' = b∧o < C.size)⟩
      have hx : Ext E w E' w:=⟨fun _ _ h=>h,fun _ _ h=>.inl h,fun _ _ h=>h,fun _ _ h=>h,fun _ _ h=>.inl h,fun _ _ _=>rfl⟩
      have hlt : s < σ.fr.length:=by
       rcases Nat.lt_or_ge s σ.fr.length with h | h
       ·exact h
       ·rw [getO_eq,List.getElem?_eq_none h] at hslot; cases hslot
      let g0 : G:=⟨[],none,none,.rarr n sz f⟩
      have hget : ∀ k,getO (setN σ.fr s (some g0)) k = if k = s then some g0 else getO σ.fr k:=fun k=>by
       rw [getO_set]
       by_cases e : k = s
       ·rw [if_pos ⟨e,hlt⟩,if_pos e]
       ·rw [if_neg (fun h=>e h.1),if_neg e]
      have hidx : ∀ i j,i < n→j < sz→i * sz + j < C.size:=by
       intro i j hi hj
       have : (i + 1) * sz≤n * sz:=Nat.mul_le_mul_right _ hi
       rw [Nat.add_mul] at this
       omega
      have hC : ∀ i j,i < n→j < sz→C[i * sz + j]? = some (C.getD (i * sz + j) undef):=by
       intro i j hi hj
       have:=hidx i j hi hj
       rw [Array.getD_eq_getD_getElem?,Array.getElem?_eq_getElem this]; rfl
      have hcell : ∀ o,w.cell? ⟨b,o,none⟩ = C[o]?:=fun o=>cell_of_row w b o C T (0,0) k3
      have hro : RO E'.I w (.rarr n sz f) (.pointer (some ⟨b,0,none⟩)):=by
       refine .rarr (fun i j=>C.getD (i * sz + j) undef) rfl (fun i hi=>?_) (fun i j hi hj=>k6 _ (Array.mem_of_getElem? (hC i j hi hj))) (fun i j hi hj=>⟨?_,?_⟩) (fun i j q hi hq=>?_)
       ·rw [hrow i hi]
        have : (i + 1) * sz≤n * sz:=Nat.mul_le_mul_right _ hi
        rw [Nat.add_mul] at this
        simp; omega
       ·simp only [Nat.zero_add]; rw [hcell,hC i j hi hj]
       ·simp only [Nat.zero_add]; exact .inr ⟨rfl,hidx i j hi hj⟩
       ·rw [hrow i hi,List.getElem?_take] at hq
        split at hq
        ·rename_i hj
         rw [List.getElem?_drop] at hq
         have hv:=hC i j hi hj
         exact ((k5 _ _ _ hq hv).plainOne (hpl _ (List.mem_of_getElem? hq)) (k6 _ (Array.mem_of_getElem? hv))).mono hx.I hx.cell
        ·cases hq
      refine ⟨E',⟨⟨⟨hbase.os,hbase.tape,hbase.output,hbase.size,hbase.old,fun b' o hi=>?_,fun b' o hi=>?_,fun b' o hi=>?_,hbase.Obd,hbase.β0.ext hx⟩,fun k=>?_,fun q=>?_,hs.st.size,hs.st.defers⟩,by show (setN σ.fr s _).length = N; rw [setN_eq,List.length_set]; exact hs.len,⟨fun q g hq i hi=>?_,fun q g i hq hi=>?_,fun q g i hq hi=>?_⟩,fun k hk=>?_⟩⟩
      ·obtain ⟨i1,i2⟩:=hbase.I0 b' o hi; exact ⟨.inl i1,i2⟩
      ·rcases hi with hi | ⟨rfl,_⟩
       ·exact hbase.Ibd b' o hi
       ·exact owned_lt hbase k2
      ·rcases hi with hi | ⟨rfl,_⟩
       ·exact hbase.Inew b' o hi
       ·exact .inr (hbase.Obd b' h0 k2).2
      ·simp only [hfOf,nth_eq,setN_eq]
       by_cases e : k = h0
       ·subst e
        rw [List.getElem?_set]
        simp only [if_pos]
        split
        ·trivial
        ·have : k < σ.hp.length:=by rw [nth_eq] at hh; exact (List.getElem?_eq_some_iff.1 hh).1
         rename_i hno
         exact absurd (by simpa using this) hno
       ·rw [List.getElem?_set_ne (fun h=>e h.symm)]
        have hkk:=hs.st.heap k
        simp only [hfOf,nth_eq] at hkk
        refine HOk.keep hx hkk rfl rfl rfl rfl fun b' hO=>⟨hO,rfl,fun o hi=>?_⟩
        rcases hi with hi | ⟨rfl,_⟩
        ·exact hi
        ·rw [k2] at hO; exact absurd (Option.some.inj hO).symm e
      ·have hsl:=hs.st.slot q
       show SlotOk E' w a q ((getO (setN σ.fr s (some g0)) q).map fun g=>(condsOf σ.gm g.tg,g.v))
       rw [hget]
       simp only [ffOf] at hsl
       by_cases e : q = s
       ·subst e
        rw [if_pos rfl]
        rw [hslot] at hsl
        simp only [Option.map_some,SlotOk,condsOf,List.filterMap_nil,allT,g0] at hsl ⊢
        refine ⟨hsl.1,fun _=>?_,fun h=>absurd trivial h⟩
        obtain ⟨b',e1,e2⟩:=(hsl.2.1 trivial).ptr_inv
        obtain rfl : b = b':=Option.some.inj (k1.symm.trans e1)
        rw [e2]
        exact .ro hro
       ·rw [if_neg e]
        cases hg : getO σ.fr q with
        | none=>trivial
        | some g =>
         rw [hg] at hsl
         simp only [Option.map_some,SlotOk] at hsl ⊢
         exact ⟨hsl.1,fun hc=>(hsl.2.1 hc).mono hx,hsl.2.2⟩
      ·have hq : getO (setN σ.fr s (some g0)) q = some g:=hq
       rw [hget] at hq
       split at hq
       ·cases hq; cases hi
       ·exact hs.wf.tg q g hq i hi
      ·have hq : getO (setN σ.fr s (some g0)) q = some g:=hq
       rw [hget] at hq
       split at hq
       ·cases hq; cases hi
       ·exact hs.wf.gt q g i hq hi
      ·have hq : getO (setN σ.fr s (some g0)) q = some g:=hq
       rw [hget] at hq
       split at hq
       ·cases hq; cases hi
       ·exact hs.wf.gf q g i hq hi
      ·simp only [setN_eq,List.length_set]
       exact hs.ge k hk
     ·cases h
    ·cases h
   ·cases h
  ·cases h
 ·cases h
theorem StY.unrow {B : Bs} {N : Nat} {E : Env} {a : Act} {w : World} {σ : Sy} {s sz hd : Nat} {ty : TypeId} {n : ST} {f : Nat→List SV} {cs : List SV} (hs : StY B N E a w σ) (h : unrowOf σ s = some (ty,n,sz,f,hd)) (hf : Flat f n.den sz cs) : StY B N E a w ⟨σ.fr,setN σ.hp hd (.blk ty cs),σ.gm⟩:=by
 unfold unrowOf at h
 split at h
 ·rename_i gt gf h0 hslot
  split at h
  ·rename_i ty n sz f hh
   simp only [Option.some.injEq,Prod.mk.injEq] at h
   obtain ⟨rfl,rfl,rfl,rfl,rfl⟩:=h
   have hk:=hs.st.heap h0
   rw [nth_hf hh] at hk
   obtain ⟨b,C,m,k1,k2,k3,k4,k5,k6,k7,⟨r1,r2,r3,r4⟩,k9⟩:=hk
   have hlen : cs.length = m * sz:=by
    have:=hf.len
    rw [k6] at this
    exact_mod_cast this
   refine ⟨⟨hs.st.base,fun k=>?_,hs.st.slot,hs.st.size,hs.st.defers⟩,hs.len,⟨hs.wf.tg,hs.wf.gt,hs.wf.gf⟩,fun k hk=>?_⟩
   ·simp only [hfOf,nth_eq,setN_eq]
    by_cases e : k = h0
    ·subst e
     have hlt : k < σ.hp.length:=by rw [nth_eq] at hh; exact (List.getElem?_eq_some_iff.1 hh).1
     rw [List.getElem?_set]
     simp only [if_pos,hlt,Option.getD_some]
     refine ⟨b,C,k1,k4,k5,by rw [r1,hlen],fun i s v p q=>?_,r4,k9⟩
     have hi : i < m * sz:=by rw [←hlen]; exact (List.getElem?_eq_some_iff.1 p).1
     have hsz : 0 < sz:=by
      rcases Nat.eq_zero_or_pos sz with h | h
      ·rw [h] at hi; simp at hi
      ·exact h
     have hq : i / sz < m:=by rw [Nat.div_lt_iff_lt_mul hsz]; exact hi
     have hr:=Nat.mod_lt i hsz
     have hrow:=hf.h (i / sz) (by rw [k6]; exact_mod_cast hq)
     have e1 : (f (i / sz))[i % sz]? = some s:=by
      rw [hrow,List.getElem?_take,if_pos hr,List.getElem?_drop]
      have : i / sz * sz + i % sz = i:=by rw [Nat.mul_comm]; exact Nat.div_add_mod i sz
      rw [this]; exact p
     have e2 : C[i / sz * sz + i % sz]? = some v:=by
      have : i / sz * sz + i % sz = i:=by rw [Nat.mul_comm]; exact Nat.div_add_mod i sz
      rw [this]; exact q
     exact .ro (r3 _ _ _ _ hq e1 e2)
    ·rw [List.getElem?_set_ne (fun h=>e h.symm)]
     have hkk:=hs.st.heap k
     simp only [hfOf,nth_eq] at hkk
     exact hkk
   ·simp only [setN_eq,List.length_set]
    exact hs.ge k hk
  ·cases h
 ·cases h
theorem StY.ghosts {cx : Cx} (hD : cx.D = dn) {B : Bs} {N : Nat} {a : Act} {w : World} {K : Sy→Prop} : ∀ (l : List Gh) {E : Env} {σ : Sy},StY B N E a w σ→Sx.ghosts cx l σ K→∃ E' σ',StY B N E' a w σ'∧K σ'
 | [],E,σ,hs,h=>⟨E,σ,hs,h⟩
 | g :: l,E,σ,hs,h=>by
  cases g with
  | tot s =>
   simp only [Sx.ghosts] at h
   split at h
   ·rename_i nl n sz f ht
    obtain ⟨f2,he,h⟩:=h
    rw [hD] at he
    exact StY.ghosts hD l (hs.tot ht he) h
   ·exact h.elim
  | unrow s =>
   simp only [Sx.ghosts] at h
   split at h
   ·rename_i ty n sz f h0 ht
    obtain ⟨cs,hf,h⟩:=h
    rw [hD] at hf
    exact StY.ghosts hD l (hs.unrow ht hf) h
   ·exact h.elim
  | frz s =>
   simp only [Sx.ghosts] at h
   split at h
   ·rename_i n sz rows h0 ht
    obtain ⟨f,hf,h⟩:=h
    obtain ⟨E1,hs1⟩:=hs.frz ht hf
    exact StY.ghosts hD l hs1 h
   ·exact h.elim
  | freeze s =>
   simp only [Sx.ghosts] at h
   obtain ⟨hp,h⟩:=h
   split at h
   ·rename_i σ1 h1
    obtain ⟨E1,hs1⟩:=hs.freeze h1
    exact StY.ghosts hD l hs1 h
   ·exact h.elim
  | attach s e =>
   simp only [Sx.ghosts] at h
   obtain ⟨hp,h⟩:=h
   split at h
   ·rename_i σ1 h1
    obtain ⟨E1,hs1⟩:=hs.attach h1
    exact StY.ghosts hD l hs1 h
   ·exact h.elim
  | hold s k e =>
   simp only [Sx.ghosts] at h
   obtain ⟨hp,h⟩:=h
   split at h
   ·rename_i σ1 h1
    obtain ⟨E1,hs1⟩:=hs.hold h1
    exact StY.ghosts hD l hs1 h
   ·exact h.elim
  | own s e =>
   simp only [Sx.ghosts] at h
   obtain ⟨hp,h⟩:=h
   split at h
   ·rename_i σ1 h1
    obtain ⟨E1,hs1⟩:=hs.own h1
    exact StY.ghosts hD l hs1 h
   ·exact h.elim
  | share s =>
   simp only [Sx.ghosts] at h
   obtain ⟨hp,h⟩:=h
   split at h
   ·rename_i σ1 h1
    obtain ⟨E1,hs1⟩:=hs.share hD hp h1
    exact StY.ghosts hD l hs1 h
   ·exact h.elim
  | bld s e =>
   simp only [Sx.ghosts] at h
   obtain ⟨hp,h⟩:=h
   split at h
   ·rename_i σ1 h1
    obtain ⟨E1,hs1⟩:=hs.bld h1
    exact StY.ghosts hD l hs1 h
   ·exact h.elim
  | vec s e =>
   simp only [Sx.ghosts] at h
   obtain ⟨hp,h⟩:=h
   split at h
   ·rename_i σ1 h1
    obtain ⟨E1,hs1⟩:=hs.vec h1
    exact StY.ghosts hD l hs1 h
   ·exact h.elim
  | vecb s k e =>
   simp only [Sx.ghosts] at h
   obtain ⟨hp,h⟩:=h
   split at h
   ·rename_i σ1 h1
    obtain ⟨E1,hs1⟩:=hs.vecb h1
    exact StY.ghosts hD l hs1 h
   ·exact h.elim
  | vshare s =>
   simp only [Sx.ghosts] at h
   obtain ⟨hp,h⟩:=h
   split at h
   ·rename_i σ1 h1
    obtain ⟨E1,hs1⟩:=StY.vshare hD hs hp h1
    exact StY.ghosts hD l hs1 h
   ·exact h.elim
  | vshareb s k =>
   simp only [Sx.ghosts] at h
   obtain ⟨hp,h⟩:=h
   split at h
   ·rename_i σ1 h1
    obtain ⟨E1,hs1⟩:=StY.vshareb hD hs hp h1
    exact StY.ghosts hD l hs1 h
   ·exact h.elim
theorem StY.ghostK {cx : Cx} (hD : cx.D = dn) {B : Bs} {N : Nat} {E : Env} {a : Act} {w : World} {id : Nat} {σ : Sy} {K : Sy→Prop} (hs : StY B N E a w σ) (h : Sx.ghostK cx id σ K) : ∃ E' σ',StY B N E' a w σ'∧K σ':=by
 unfold Sx.ghostK at h
 split at h
 ·exact ⟨E,σ,hs,h⟩
 ·exact hs.ghosts hD _ h
end Go.Sx
namespace Go.Sx
open Go
section
variable {P : Program} {cx : Cx}
def exK (K : Ex→Sy→Prop) (σ : Sy) : Exit→Prop
 | .normal=>K .normal σ
 | .exit i=>K (.exit i) σ
 | .goto l=>K (.goto l) σ
 | .ret=>K .ret σ
 | _=>False
def DrawOk (P : Program) : Prop:=∀ (ro : Option Nat) (nn : Nat) (gl : List (Nat×SV)) (id : Nat) (ops : Array Oper) (B : Bs) (N : Nat) (σ σ' : Sy) (rs : List (Option (Sy×List Nat×Out))),glOk B gl→Runs P gl ops.toList ops.toList σ rs σ'→edgesOk ops.toList 0 = true→
 indep ops.toList (befores ops.toList []) ops.toList (rs.map fpR) 0 = true→∀ (Q : Exit→Act→World→Prop) (E : Env) (a : Act) (w : World),StY B N E a w σ→(∀ E' a' w',StY B N E' a' w' σ'→Q .normal a' w')→(Code.region id ops true).wpIn (Fr ro) nn P Q a w
theorem exists_min {p : Nat→Prop} (h : ∃ n,p n) : ∃ n,p n∧∀ m,p m→n≤m:=by
 obtain ⟨n,hn⟩:=h
 induction n using Nat.strongRecOn with
 | _ n ih =>
  by_cases hm : ∃ m,m < n∧p m
  ·obtain ⟨m,h1,h2⟩:=hm; exact ih m h1 h2
  ·exact ⟨n,hn,fun m h=>Nat.le_of_not_lt fun hlt=>hm ⟨m,hlt,h⟩⟩
theorem wp_loopN {ro : Option Nat} {nn : Nat} {c : Code} {Q : Exit→Act→World→Prop} {a : Act} {w : World} (R : Nat→Act→World→Prop) (h0 : ∃ n,R n a w)
  (round : ∀ n a w,R n a w→c.wpIn (Fr ro) nn P (Exit.then (fun a' w'=>∃ n',n' < n∧R n' a' w') Q) a w) : (Code.loop c).wpIn (Fr ro) nn P Q a w:=by
 classical
 let μ : Act→World→Nat:=fun a w=>if h : ∃ n,R n a w then Classical.choose (exists_min h) else 0
 have hμ : ∀ a w,(∃ n,R n a w)→R (μ a w) a w∧∀ m,R m a w→μ a w≤m:=by
  intro a w h
  have : μ a w = Classical.choose (exists_min h):=by simp only [μ]; rw [dif_pos h]
  rw [this]
  exact Classical.choose_spec (exists_min h)
 refine wpIn_loop (fun a w=>∃ n,R n a w) μ h0 fun a w hI=>?_
 obtain ⟨h1,h2⟩:=hμ a w hI
 refine wpIn_mono (round _ a w h1) fun e a' w' hq=>?_
 cases e with
 | normal =>
  obtain ⟨n',hlt,hr⟩:=hq
  exact ⟨⟨n',hr⟩,Nat.lt_of_le_of_lt ((hμ a' w' ⟨n',hr⟩).2 n' hr) hlt⟩
 | _=>exact hq
def cutE (n : Nat) (E : Env) : Env:=⟨fun h=>if h < n then E.β h else none,fun h=>if h < n then E.τ h else none,fun b=>(E.O b).bind fun h=>if h < n then some h else none,fun h=>if h < n then E.κ h else none,fun h=>if h < n then E.ζ h else none,E.I⟩
theorem belowL_iff (n : Nat) : ∀ (cs : List SV),belowV.belowL n cs = true↔∀ c∈cs,belowV n c = true
 | []=>by simp [belowV.belowL]
 | c :: cs=>by simp [belowV.belowL,belowL_iff n cs]
theorem Rel.cut {E : Env} {w : World} {n : Nat} {s : SV} {v : Value} (h : Rel E w s v) (hb : belowV n s = true) : Rel (cutE n E) w s v:=by
 induction h with
 | ro h=>exact .ro h
 | @ptr h off b v hb' hv =>
  simp only [belowV,Nat.blt_eq] at hb
  exact .ptr (by simp [cutE,hb]; exact hb') hv
 | @gsl nl m sz f h v hr ht =>
  simp only [belowV,Nat.blt_eq] at hb
  obtain ⟨a,k,c,t1,t2⟩:=ht
  exact .gsl hr ⟨a,k,c,by simp [cutE,hb]; exact t1,t2⟩
 | mrow hb' hm hv =>
  simp only [belowV,Nat.blt_eq] at hb
  exact .mrow (by simp [cutE,hb]; exact hb') (by simp [cutE,hb]; exact hm) hv
 | mptr hb' hz hv =>
  simp only [belowV,Nat.blt_eq] at hb
  exact .mptr (by simp [cutE,hb]; exact hb') (by simp [cutE,hb]; exact hz) hv
 | osl ht hk =>
  simp only [belowV,Nat.blt_eq] at hb
  obtain ⟨a,k,c,t1,t2⟩:=hk
  exact .osl ht ⟨a,k,c,by simp [cutE,hb]; exact t1,t2⟩
 | optr hv ho =>
  simp only [belowV,Nat.blt_eq] at hb
  obtain ⟨a,k,c,sz,t1,t2,t3⟩:=ho
  exact .optr hv ⟨a,k,c,sz,by simp [cutE,hb]; exact t1,by simp [cutE,hb]; exact t2,t3⟩
 | tsl ht hk =>
  simp only [belowV,Nat.blt_eq] at hb
  obtain ⟨a,k,c,sz,t1,t2,t3⟩:=hk
  exact .tsl ht ⟨a,k,c,sz,by simp [cutE,hb]; exact t1,by simp [cutE,hb]; exact t2,t3⟩
 | mapv hb' hv =>
  simp only [belowV,Nat.blt_eq] at hb
  exact .mapv (by simp [cutE,hb]; exact hb') hv
 | vsl ht hk =>
  simp only [belowV,Nat.blt_eq] at hb
  obtain ⟨a,k,c,t1,t2⟩:=hk
  exact .vsl ht ⟨a,k,c,by simp [cutE,hb]; exact t1,t2⟩
 | yv hb' hv =>
  simp only [belowV,Nat.blt_eq] at hb
  exact .yv (by simp [cutE,hb]; exact hb') hv
 | agg hl _ ih =>
  simp only [belowV] at hb
  exact .agg hl fun i s v h1 h2=>ih i s v h1 h2 ((belowL_iff n _).1 hb s (List.mem_of_getElem? h1))
 | tup hl _ ih =>
  simp only [belowV] at hb
  exact .tup hl fun i s v h1 h2=>ih i s v h1 h2 ((belowL_iff n _).1 hb s (List.mem_of_getElem? h1))
 | clo hl _ ih =>
  simp only [belowV] at hb
  exact .clo hl fun i s v h1 h2=>ih i s v h1 h2 ((belowL_iff n _).1 hb s (List.mem_of_getElem? h1))
theorem belowH_get {n : Nat} : ∀ {ls : List Hl},belowH n ls = true→∀ {i : Nat} {ty : TypeId} {cs : List SV},ls[i]? = some (.blk ty cs)→∀ c∈cs,belowV n c = true
 | [],_,i,ty,cs,h=>by simp at h
 | l :: ls,hp,i,ty,cs,h=>by
  cases i with
  | zero =>
   simp at h
   subst h
   simp only [belowH,Bool.and_eq_true,belowV] at hp
   exact (belowL_iff n cs).1 hp.1
  | succ i =>
   simp at h
   cases l<;>simp only [belowH,Bool.and_eq_true] at hp<;>first | exact belowH_get hp h | exact belowH_get hp.2 h
theorem belowF_get {n s : Nat} {v : SV} : ∀ {fr : List (Nat×Option SV)},belowF n fr = true→(s,some v)∈fr→belowV n v = true
 | [],_,h=>by simp at h
 | (_,some u) :: l,hr,h=>by
  simp only [belowF,Bool.and_eq_true] at hr
  simp only [List.mem_cons,Prod.mk.injEq,Option.some.injEq] at h
  rcases h with ⟨_,rfl⟩ | h
  ·exact hr.1
  ·exact belowF_get hr.2 h
 | (_,none) :: l,hr,h=>by
  simp only [belowF] at hr
  simp only [List.mem_cons,Prod.mk.injEq,reduceCtorEq,and_false,false_or] at h
  exact belowF_get hr h
theorem belowH_rec {n : Nat} : ∀ {ls : List Hl},belowH n ls = true→∀ {i : Nat} {c : LC} {fr : List (Nat×Option SV)} {st : Nat} {pd : Option Jp},ls[i]? = some (.lrec c fr st pd)→belowF n fr = true
 | [],_,i,c,fr,st,pd,h=>by simp at h
 | l :: ls,hp,i,c,fr,st,pd,h=>by
  cases i with
  | zero =>
   simp at h
   subst h
   simp only [belowH,Bool.and_eq_true] at hp
   exact hp.1
  | succ i =>
   simp at h
   cases l<;>simp only [belowH,Bool.and_eq_true] at hp<;>first | exact belowH_rec hp h | exact belowH_rec hp.2 h
theorem headH_get (D : Dn) : ∀ (ls : List Hl) (i : Nat),(headH D ls)[i]? = (ls[i]?).map fun l=>match l with
  | .blk ty cs=>.blk ty (norm.normL D cs)
  | .tail ty n sz=>.tail ty (.a (D.i n)) sz
  | .row ty n sz f=>.row ty (.a (D.i n)) sz f
  | .own ty n sz gr f=>.own ty (.a (D.i n)) sz gr f
  | .vec ty n g sz f=>.vec ty (.a (D.i n)) (.a (D.i g)) sz f
  | l=>l
 | [],i=>by simp [headH]
 | l :: ls,i=>by
  cases i with
  | zero=>cases l<;>simp [headH]
  | succ i=>cases l<;>simp [headH,headH_get D ls i]
theorem len_headH (D : Dn) : ∀ (ls : List Hl),(headH D ls).length = ls.length
 | []=>rfl
 | l :: ls=>by cases l<;>simp [headH,len_headH D ls]
theorem getO_mkfr : ∀ (l : List (Nat×Option SV)) (fr : List (Option G)) (s : Nat) (g : G),(∀ s,getO fr s = none)→getO (mkfr l fr) s = some g→g.tg = []∧g.gt = none∧g.gf = none∧∃ v,(s,some v)∈l∧g.v = v:=by
 have key : ∀ (l : List (Nat×Option SV)) (fr : List (Option G)) (s : Nat) (g : G),getO (mkfr l fr) s = some g→getO fr s = some g∨(g.tg = []∧g.gt = none∧g.gf = none∧∃ v,(s,some v)∈l∧g.v = v):=by
  intro l
  induction l with
  | nil=>intro fr s g h; exact .inl h
  | cons p l ih =>
   obtain ⟨i,v⟩:=p
   intro fr s g h
   rcases ih _ s g h with h | ⟨h1,h2,h3,v',h4,h5⟩
   ·rw [getO_set] at h
    split at h
    ·rename_i e
     cases v with
     | none=>cases h
     | some v=>cases h; exact .inr ⟨rfl,rfl,rfl,v,by rw [e.1]; exact List.mem_cons_self ..,rfl⟩
    ·exact .inl h
   ·exact .inr ⟨h1,h2,h3,v',List.mem_cons_of_mem _ h4,h5⟩
 intro l fr s g hfr h
 rcases key l fr s g h with h | h
 ·rw [hfr] at h; cases h
 ·exact h
theorem getO_blank {α : Type} : ∀ (l : List α) (s : Nat),getO (blank l) s = none
 | [],s=>by simp [blank,getO]
 | _ :: l,0=>rfl
 | _ :: l,s + 1=>getO_blank l s
theorem len_blank {α : Type} : ∀ (l : List α),(blank l).length = l.length
 | []=>rfl
 | _ :: l=>by simp [blank,len_blank l]
theorem len_mkfr : ∀ (l : List (Nat×Option SV)) (fr : List (Option G)),(mkfr l fr).length = fr.length
 | [],_=>rfl
 | (i,v) :: l,fr=>by simp [mkfr,len_mkfr l,setN_eq]
theorem mem_zip_keep {D : Dn} {n : Nat} {fr : List (Option G)} {s : Nat} {v : SV} : ∀ (keep : List Nat),(s,some v)∈zipN keep (keepV D n fr keep)→∃ g,getO fr s = some g∧g.tg = []∧belowV n g.v = true∧v = norm D g.v
 | [],h=>by simp [zipN] at h
 | i :: keep,h=>by
  simp only [keepV,zipN,List.mem_cons] at h
  rcases h with h | h
  ·simp only [Prod.mk.injEq] at h
   obtain ⟨rfl,h⟩:=h
   split at h
   ·rename_i gt gf v' hg
    split at h
    ·rename_i hb
     cases h
     exact ⟨_,hg,rfl,hb,rfl⟩
    ·cases h
   ·cases h
  ·exact mem_zip_keep keep h
theorem StY.head {B : Bs} {N : Nat} {E : Env} {a : Act} {w : World} {σ : Sy} (h : StY B N E a w σ) {n : Nat} {keep : List Nat} {fr0 : List (Option G)} (hfr : fr0.length = N) (hb : belowH n (takeN n σ.hp) = true) (hn : ∀ h,B.β0 h≠none∨B.τ0 h≠none∨B.ζ0 h≠none→h < n) :
  StY B N (cutE n E) a w ⟨mkfr (zipN keep (keepV dn n σ.fr keep)) (blank fr0),headH dn (takeN n σ.hp),[]⟩:=by
 have hbase:=h.st.base
 refine ⟨⟨⟨hbase.os,hbase.tape,hbase.output,hbase.size,hbase.old,hbase.I0,hbase.Ibd,hbase.Inew,fun b k hO=>?_,⟨fun k b hk=>by simp only [cutE,if_pos (hn k (.inl (by rw [hk]; simp)))]; exact hbase.β0.β k b hk,fun k v hk=>by simp only [cutE,if_pos (hn k (.inr (.inl (by rw [hk]; simp))))]; exact hbase.β0.τ k v hk,fun k z hk=>by simp only [cutE,if_pos (hn k (.inr (.inr (by rw [hk]; simp))))]; exact hbase.β0.ζ k z hk⟩⟩,fun k=>?_,fun s=>?_,h.st.size,h.st.defers⟩,by rw [len_mkfr,len_blank]; exact hfr,⟨fun s g hs=>?_,fun s g i hs hi=>?_,fun s g i hs hi=>?_⟩,fun k hk=>?_⟩
 ·have hO : (E.O b).bind (fun h=>if h < n then some h else none) = some k:=hO
  cases hEO : E.O b with
  | none=>rw [hEO] at hO; cases hO
  | some k' =>
   rw [hEO] at hO
   simp only [Option.bind_some] at hO
   split at hO
   ·cases hO; exact hbase.Obd b k hEO
   ·cases hO
 ·rw [takeN_eq] at hb ⊢
  simp only [hfOf,nth_eq,headH_get]
  by_cases hk : k < n
  ·have hkk:=h.st.heap k
   simp only [hfOf,nth_eq] at hkk
   rw [List.getElem?_take,if_pos hk]
   have hO : ∀ b,E.O b = some k→(cutE n E).O b = some k:=fun b hb=>by simp [cutE,hb,hk]
   cases hl : σ.hp[k]? with
   | none =>
    rw [hl] at hkk
    simp only [Option.map_none,Option.getD_none]
    obtain ⟨q1,q2,q3,q4⟩:=hkk
    exact ⟨by simp only [cutE,if_pos hk]; exact q1,by simp only [cutE,if_pos hk]; exact q2,by simp only [cutE,if_pos hk]; exact q3,by simp only [cutE,if_pos hk]; exact q4⟩
   | some l =>
    rw [hl] at hkk
    simp only [Option.map_some,Option.getD_some] at hkk ⊢
    cases l with
    | fresh =>
     obtain ⟨q1,q2,q3,q4⟩:=hkk
     exact ⟨by simp only [cutE,if_pos hk]; exact q1,by simp only [cutE,if_pos hk]; exact q2,by simp only [cutE,if_pos hk]; exact q3,by simp only [cutE,if_pos hk]; exact q4⟩
    | gone=>trivial
    | blk ty cs =>
     obtain ⟨b,C,k1,k2,k3,k4,k5,k6⟩:=hkk.blk_inv
     have hbl : ∀ c∈cs,belowV n c = true:=belowH_get hb (i:=k) (by rw [List.getElem?_take,if_pos hk]; exact hl)
     have hn : RelL (cutE n E) w (norm.normL dn cs) C.toList:=by
      rw [normL_eq]
      exact k4.map _ fun s v hs h=>(h.cut (hbl s hs)).norm
     exact ⟨b,C,by simp only [cutE,if_pos hk]; exact k1,hO b k2,k3,by have:=hn.1; simpa using this.symm,fun i s v p q=>hn.2 i s v p (by simpa using q),fun v hv=>k5 v (by simpa using hv),k6⟩
    | tail ty m sz =>
     obtain ⟨v,m',xs,k1,k2,k3,k4,k5⟩:=hkk
     exact ⟨v,m',xs,by simp only [cutE,if_pos hk]; exact k1,k2,k3,k4,fun b hb=>⟨hO b (k5 b hb).1,(k5 b hb).2⟩⟩
    | row ty m sz f =>
     obtain ⟨b,C,m',k1,k2,kz,k3,k4,k5,k6,k7,k8⟩:=hkk
     exact ⟨b,C,m',by simp only [cutE,if_pos hk]; exact k1,by simp only [cutE,if_pos hk]; exact k2,by simp only [cutE,if_pos hk]; exact kz,hO b k3,k4,k5,k6,k7,k8⟩
    | own ty m sz gr f =>
     obtain ⟨v,m',xs,k1,kz,k2,k3,k4,k5,k6⟩:=hkk
     exact ⟨v,m',xs,by simp only [cutE,if_pos hk]; exact k1,by simp only [cutE,if_pos hk]; exact kz,k2,k3,k4,k5,fun b hb=>⟨hO b (k6 b hb).1,(k6 b hb).2⟩⟩
    | bld T e s =>
     obtain ⟨b,p,v,k1,k2,k3,k4,k5,k6,k7,k8⟩:=hkk
     exact ⟨b,p,v,by simp only [cutE,if_pos hk]; exact k1,hO b k2,k3,k4,k5,k6,k7,fun g hg=>⟨hO g (k8 g hg).1,(k8 g hg).2⟩⟩
    | vec ty m g sz f =>
     obtain ⟨a,c,m',G,xs,k1,k2,k3,k4,k5,k6,k7⟩:=hkk
     exact ⟨a,c,m',G,xs,by simp only [cutE,if_pos hk]; exact k1,k2,k3,k4,k5,k6,fun b hb=>⟨hO b (k7 b hb).1,(k7 b hb).2⟩⟩
    | mset F =>
     obtain ⟨b,es,clock,k1,k2,k3,k4,k5,k6⟩:=hkk
     exact ⟨b,es,clock,by simp only [cutE,if_pos hk]; exact k1,hO b k2,k3,k4,k5,k6⟩
    | lrec c fr st pd =>
     obtain ⟨b,rr,k1,k2,k3,k4,k5,k6⟩:=hkk
     have hbl:=belowH_rec hb (i:=k) (by rw [List.getElem?_take,if_pos hk]; exact hl)
     exact ⟨b,rr,by simp only [cutE,if_pos hk]; exact k1,hO b k2,k3,k4,fun s v hm=>⟨(k5 s v hm).1,(k5 s v hm).2.cut (belowF_get hbl hm)⟩,k6⟩
  ·rw [List.getElem?_take,if_neg hk]
   simp only [Option.map_none,Option.getD_none]
   exact ⟨by simp [cutE,hk],by simp [cutE,hk],by simp [cutE,hk],by simp [cutE,hk]⟩
 ·simp only [ffOf]
  cases hs : getO (mkfr (zipN keep (keepV dn n σ.fr keep)) (blank fr0)) s with
  | none=>trivial
  | some g =>
   obtain ⟨g1,_,_,v,g4,g5⟩:=getO_mkfr _ _ s g (getO_blank fr0) hs
   obtain ⟨g',q1,q2,q3,q4⟩:=mem_zip_keep keep g4
   have hsl:=h.st.slot s
   simp only [ffOf,q1,Option.map_some,SlotOk,q2,condsOf,List.filterMap_nil,allT] at hsl
   obtain ⟨s1,s2,_⟩:=hsl
   simp only [Option.map_some,SlotOk,g1,condsOf,List.filterMap_nil,allT]
   refine ⟨s1,fun _=>?_,fun h=>absurd trivial h⟩
   rw [g5,q4]
   exact ((s2 trivial).cut q3).norm
 ·obtain ⟨g1,_⟩:=getO_mkfr _ _ s g (getO_blank fr0) hs
  rw [g1]; simp
 ·obtain ⟨_,g2,_⟩:=getO_mkfr _ _ s g (getO_blank fr0) hs
  rw [g2] at hi; cases hi
 ·obtain ⟨_,_,g3,_⟩:=getO_mkfr _ _ s g (getO_blank fr0) hs
  rw [g3] at hi; cases hi
 ·rw [len_headH,takeN_eq,List.length_take]
  have h1:=hn k hk
  have h2:=h.ge k hk
  omega
theorem takeN_all {α : Type} (l : List α) : takeN (lenN l) l = l:=by rw [takeN_eq,lenN_eq,List.take_length]
theorem StY.know {B : Bs} {N : Nat} {E : Env} {a : Act} {w : World} {σ : Sy} (h : StY B N E a w σ) {c : Operand} {bt : BT} {b : Bool} (hr : rd cx σ [] c = some (.bool bt)) (hv : a.eval c = .bool bt.den) (hb : bt.den = b) : StY B N E a w (know σ c b):=by
 cases c with
 | tmp s =>
  simp only [rd] at hr
  split at hr
  ·rename_i g hg
   have hlt : s < σ.fr.length:=by
    rcases Nat.lt_or_ge s σ.fr.length with h | h
    ·exact h
    ·rw [getO_eq,List.getElem?_eq_none h] at hg; cases hg
   have hget : ∀ k,getO (setN σ.fr s (some ⟨[],none,none,.bool (.l b)⟩)) k = if k = s then some ⟨[],none,none,.bool (.l b)⟩ else getO σ.fr k:=fun k=>by
    rw [getO_set]
    by_cases e : k = s
    ·rw [if_pos ⟨e,hlt⟩,if_pos e]
    ·rw [if_neg (fun h=>e h.1),if_neg e]
   refine ⟨⟨h.st.base,h.st.heap,fun k=>?_,h.st.size,h.st.defers⟩,by show (setN σ.fr s _).length = N; rw [setN_eq,List.length_set]; exact h.len,⟨fun k g' hk i hi=>?_,fun k g' i hk hi=>?_,fun k g' i hk hi=>?_⟩,h.ge⟩
   ·simp only [ffOf,Sx.know,hget]
    by_cases e : k = s
    ·subst e
     rw [if_pos rfl]
     have hv : a.tmps.getD k undef = .bool bt.den:=hv
     refine ⟨by rw [h.st.size,←h.len]; exact hlt,fun _=>?_,fun hn=>absurd trivial hn⟩
     rw [hv]
     exact .bool hb.symm
    ·rw [if_neg e]
     exact h.st.slot k
   ·have hk : getO (setN σ.fr s (some ⟨[],none,none,.bool (.l b)⟩)) k = some g':=hk
    rw [hget] at hk
    split at hk
    ·cases hk; cases hi
    ·exact h.wf.tg k g' hk i hi
   ·have hk : getO (setN σ.fr s (some ⟨[],none,none,.bool (.l b)⟩)) k = some g':=hk
    rw [hget] at hk
    split at hk
    ·cases hk; cases hi
    ·exact h.wf.gt k g' i hk hi
   ·have hk : getO (setN σ.fr s (some ⟨[],none,none,.bool (.l b)⟩)) k = some g':=hk
    rw [hget] at hk
    split at hk
    ·cases hk; cases hi
    ·exact h.wf.gf k g' i hk hi
  ·cases hr
 | const _=>exact h
 | global _=>exact h
 | func _=>exact h
theorem stepR_scope {b : Frame} {a : Act} {k : List Item} {cs : List Frame} {w : World} {c : Code} : step P (lone (b.atR a (.code (.scope c) :: k)) cs w) = .next (lone (b.atR a (.code c :: .inScope c :: k)) cs w) :=
 step_lone_go (by simp [stepG,stepG.exec,Frame.atR])
theorem stepR_inScope {b : Frame} {a : Act} {k : List Item} {cs : List Frame} {w : World} {c : Code} : step P (lone (b.atR a (.inScope c :: k)) cs w) = .next (lone (b.atR a k) cs w) :=
 step_lone_go (by simp [stepG,stepG.exec,Frame.atR])
theorem wpIn_scope_straight {F : Fence} {n : Nat} {Q : Exit→Act→World→Prop} {a : Act} {w : World} {c : Code} (h : c.wpIn F n P (Exit.noGoto Q) a w) : (Code.scope c).wpIn F n P Q a w:=by
 intro b k cs hro hb hr
 have h0 : (lone (b.atR a (.code (.scope c) :: k)) cs w).fenced P F:=fenced_calm hb hr rfl
 obtain ⟨e,a₁,w₁,hq,harr⟩:=h b (.inScope c :: k) cs hro hb hr
 cases e with
 | normal=>exact ⟨.normal,a₁,w₁,hq,.head h0 stepR_scope (StepsIn.trans harr (.one (fenced_calm hb hr rfl) stepR_inScope))⟩
 | exit id =>
  have hx : exitTo id (.inScope c :: k) = exitTo id k:=by simp [exitTo]
  exact ⟨.exit id,a₁,w₁,hq,fun k' hk=>.head h0 stepR_scope (harr.1 k' (by rw [hx]; exact hk)),fun hr' hk=>let ⟨k₁,h1,h2⟩:=harr.2 hr' (by rw [hx]; exact hk); ⟨k₁,h1,.head h0 stepR_scope h2⟩⟩
 | goto l=>exact hq.elim
 | ret=>exact ⟨_,a₁,w₁,hq,.of_steps (.one h0 stepR_scope) harr⟩
 | panic ch=>exact ⟨_,a₁,w₁,hq,.of_steps (.one h0 stepR_scope) harr⟩
 | outgrown=>exact ⟨_,a₁,w₁,hq,.of_steps (.one h0 stepR_scope) harr⟩
end
end Go.Sx
namespace Go.Sx
open Go
section
variable {P : Program} {cx : Cx}
theorem pack1_rel {E : Env} {w : World} {vs : List SV} {us : List Value} (h : RelL E w vs us) : Rel E w (pack1 vs) (if h : (⟨us⟩ : Array Value).size = 1 then (⟨us⟩ : Array Value)[0] else .tuple ⟨us⟩):=by
 match vs,us,h with
 | [],[],h=>exact .tup h.1 h.2
 | [v],[u],h=>exact h.2 0 v u rfl rfl
 | _ :: _ :: _,_ :: _ :: _,h =>
  rw [dif_neg (by simp)]
  exact .tup h.1 h.2
 | [],_ :: _,h=>exact absurd h.1 (by simp)
 | _ :: _,[],h=>exact absurd h.1 (by simp)
 | [_],_ :: _ :: _,h=>exact absurd h.1 (by simp)
 | _ :: _ :: _,[_],h=>exact absurd h.1 (by simp)
theorem uptoN_eq : ∀ n,uptoN n = List.range n
 | 0=>rfl
 | n + 1=>by rw [uptoN,uptoN_eq n,List.range_succ]
theorem eqNs_eq : ∀ {a b : List Nat},eqNs a b = true→a = b
 | [],[],_=>rfl
 | x :: l,y :: t,h=>by
  simp only [eqNs,Bool.and_eq_true,beq_iff_eq] at h
  rw [h.1,eqNs_eq h.2]
 | [],_ :: _,h=>by cases h
 | _ :: _,[],h=>by cases h
theorem endG_core (hc : CxOk P cx) {B : Bs} {N : Nat} {E' : Env} {a' : Act} {w' : World} {σ' : Sy} (hs' : StY B N E' a' w' σ') {m : Nat} (hdom : ∀ h,B.β0 h≠none∨B.τ0 h≠none∨B.ζ0 h≠none→h < m) {vs : List SV} {us : List Value} (u2 : RelL E' w' vs us) {r : SV} {ls' : List Hl} (hk : endG cx m vs σ' fun r' ls''=>Fin r' r ls'' ls') :
  ∃ E2,Base B E2 w'∧(∀ h,h < ls'.length→HOk E2 w' h (hfOf ls' h))∧Rel E2 w' r (if h : (⟨us⟩ : Array Value).size = 1 then (⟨us⟩ : Array Value)[0] else .tuple ⟨us⟩):=by
  have hbase:=hs'.st.base
  unfold endG at hk
  rw [hc.D] at hk
  obtain ⟨r0,hr0⟩ : ∃ x,x = loose (norm dn (pack1 vs)):=⟨_,rfl⟩
  simp only [←hr0] at hk
  obtain ⟨hs,hhs⟩ : ∃ x,x = reach σ'.hp σ'.hp (addNew (uptoN m) (hsV r0)):=⟨_,rfl⟩
  simp only [←hhs] at hk
  obtain ⟨ls,hls⟩ : ∃ x,x = getG dn σ'.hp hs:=⟨_,rfl⟩
  simp only [←hls] at hk
  split at hk
  ·rename_i hcond
   simp only [Bool.and_eq_true] at hcond
   obtain ⟨⟨⟨⟨⟨c1,c2⟩,c3⟩,c4⟩,c5⟩,c6⟩:=hcond
   have n1:=(nodupN_iff _).1 c1
   have c2:=eqNs_eq c2
   rw [takeN_eq,uptoN_eq] at c2
   have c3:=(allIn_iff _ _).1 c3
   have c6:=(closedG_iff _ _).1 c6
   obtain ⟨k1,k2,k3⟩:=hk
   have hfirst : ∀ k,k < m→hs[k]? = some k:=by
    intro k hk
    have : (hs.take m)[k]? = some k:=by rw [c2,List.getElem?_range hk]
    rwa [List.getElem?_take,if_pos hk] at this
   let E2 : Env:=⟨fun i=>(hs[i]?).bind E'.β,fun i=>(hs[i]?).bind E'.τ,fun b=>(E'.O b).bind fun h=>hs.idxOf? h,fun _=>none,fun i=>(hs[i]?).bind E'.ζ,E'.I⟩
   have hbase2 : Base B E2 w':=by
    refine ⟨hbase.os,hbase.tape,hbase.output,hbase.size,hbase.old,hbase.I0,hbase.Ibd,hbase.Inew,fun b j hO=>?_,⟨fun k b hk=>?_,fun k v hk=>?_,fun k z hk=>?_⟩⟩
    ·have hO : (E'.O b).bind (fun h=>hs.idxOf? h) = some j:=hO
     cases hEO : E'.O b with
     | none=>rw [hEO] at hO; cases hO
     | some q=>exact hbase.Obd b q hEO
    ·show (hs[k]?).bind E'.β = some b
     rw [hfirst k (hdom k (.inl (by rw [hk]; simp)))]; exact hbase.β0.β k b hk
    ·show TauLe v ((hs[k]?).bind E'.τ)
     rw [hfirst k (hdom k (.inr (.inl (by rw [hk]; simp))))]; exact hbase.β0.τ k v hk
    ·show (hs[k]?).bind E'.ζ = some z
     rw [hfirst k (hdom k (.inr (.inr (by rw [hk]; simp))))]; exact hbase.β0.ζ k z hk
   have hsame : ∀ k∈hs,Same1 E' k E2 (ixOf hs k):=by
    intro k hk
    obtain ⟨i,hi⟩:=List.mem_iff_getElem?.1 hk
    rw [ixOf_get n1 hi]
    exact ⟨by show (hs[i]?).bind E'.β = _; rw [hi]; rfl,by show (hs[i]?).bind E'.τ = _; rw [hi]; rfl,by show (hs[i]?).bind E'.ζ = _; rw [hi]; rfl⟩
   have hidx : ∀ (i k : Nat),hs[i]? = some k→hs.idxOf? k = some i:=by
    intro i k hk
    rw [List.idxOf?_eq_some_iff]
    obtain ⟨hlt,he⟩:=List.getElem?_eq_some_iff.1 hk
    refine ⟨hlt,by simp [he],fun j hj=>?_⟩
    have hne : hs[j]≠hs[i]:=List.pairwise_iff_getElem.1 n1 j i (by omega) hlt hj
    rw [←he]; simpa using hne
   have n2 : ls.length = hs.length:=by rw [hls,getG_eq,List.length_map]
   refine ⟨E2,hbase2,fun h hlt=>?_,?_⟩
   ·refine k2 h E2 w' ?_
    rw [mapH_eq] at k3 ⊢
    rw [List.length_map,n2] at k3
    have hlt2 : h < hs.length:=by omega
    have hmem : hs[h]∈hs:=List.getElem_mem hlt2
    have hl : ls[h]? = some ls[h]:=List.getElem?_eq_getElem (by omega)
    have hhf : hfOf (ls.map (rnH (ixOf hs))) h = rnH (ixOf hs) ls[h]:=by
     simp only [hfOf,nth_eq]; rw [List.getElem?_map,hl]; rfl
    rw [hhf]
    obtain ⟨d1,d2⟩:=c6 ls[h] (List.getElem_mem _)
    have hk:=hs'.st.heap hs[h]
    have hnl : HOk E' w' hs[h] ls[h]:=by
     have hl2:=hl
     conv at hl2=>lhs; rw [hls,getG_eq,List.getElem?_map,List.getElem?_eq_getElem hlt2]
     simp only [Option.map_some,Option.some.injEq] at hl2
     rw [←hl2]
     cases hn : nth σ'.hp hs[h] with
     | none=>trivial
     | some l0=>rw [nth_hf hn] at hk; exact hk.normG
    have hs1:=hsame _ hmem
    rw [ixOf_get n1 (List.getElem?_eq_getElem hlt2)] at hs1
    refine hnl.rn (ixOf hs) d1 rfl hs1 (fun b hb=>?_) fun j hj=>hsame j (d2 j hj)
    show (E'.O b).bind (fun h=>hs.idxOf? h) = some h
    rw [hb]
    exact hidx h _ (List.getElem?_eq_getElem hlt2)
   ·have hr1:=(pack1_rel u2).norm.loose
    rw [←hr0] at hr1
    exact k1 E2 w' _ (hr1.rn (ixOf hs) rfl c4 fun k hk=>hsame k (c3 k hk))
  ·exact hk.elim
structure MarkOk (B : Bs) : Prop where
 nodup : B.dl.Nodup
 lie : ∀ r∈B.dl,r < B.w0.heap.size∧¬ B.X r∧B.w0.heap[r]? = some (.deferred (some []))
structure Reb (B B1 : Bs) : Prop where
 os : B1.w0.os = B.w0.os
 tape : B1.w0.tape = B.w0.tape
 output : B1.w0.output = B.w0.output
 size : B.w0.heap.size≤B1.w0.heap.size
 old : ∀ b,b < B.w0.heap.size→¬ B.X b→¬ B1.X b∧B1.w0.heap[b]? = B.w0.heap[b]?
 I0 : ∀ b o,B.I0 b o→B1.I0 b o∧B1.w0.cell? ⟨b,o,none⟩ = B.w0.cell? ⟨b,o,none⟩
 Inew : ∀ b o,B1.I0 b o→B.I0 b o∨B.w0.heap.size≤b∨B.X b
 X : ∀ b,B1.X b→B.w0.heap.size≤b∨B.X b
 β0 : B1.β0 = B.β0
 τ0 : B1.τ0 = B.τ0
 ζ0 : B1.ζ0 = B.ζ0
 marks : MarkOk B→MarkOk B1
 new : ∀ r∈B1.dl,r∈B.dl∨B.w0.heap.size≤r
theorem Reb.refl (B : Bs) : Reb B B:=⟨rfl,rfl,rfl,Nat.le_refl _,fun _ _ h=>⟨h,rfl⟩,fun _ _ h=>⟨h,rfl⟩,fun _ _ h=>.inl h,fun _ h=>.inr h,rfl,rfl,rfl,id,fun _ h=>.inl h⟩
theorem Reb.trans {A B C : Bs} (h1 : Reb A B) (h2 : Reb B C) : Reb A C where
 os:=h2.os.trans h1.os
 tape:=h2.tape.trans h1.tape
 output:=h2.output.trans h1.output
 size:=Nat.le_trans h1.size h2.size
 old:=fun b hlt hX=>by
  obtain ⟨p1,p2⟩:=h1.old b hlt hX
  obtain ⟨q1,q2⟩:=h2.old b (Nat.lt_of_lt_of_le hlt h1.size) p1
  exact ⟨q1,q2.trans p2⟩
 I0:=fun b o hi=>by
  obtain ⟨p1,p2⟩:=h1.I0 b o hi
  obtain ⟨q1,q2⟩:=h2.I0 b o p1
  exact ⟨q1,q2.trans p2⟩
 Inew:=fun b o hi=>by
  rcases h2.Inew b o hi with h | h | h
  ·exact h1.Inew b o h
  ·exact .inr (.inl (Nat.le_trans h1.size h))
  ·exact .inr (h1.X b h)
 X:=fun b hX=>by
  rcases h2.X b hX with h | h
  ·exact .inl (Nat.le_trans h1.size h)
  ·exact h1.X b h
 β0:=h2.β0.trans h1.β0
 τ0:=h2.τ0.trans h1.τ0
 ζ0:=h2.ζ0.trans h1.ζ0
 marks:=fun h=>h2.marks (h1.marks h)
 new:=fun r hr=>by
  rcases h2.new r hr with h | h
  ·exact h1.new r h
  ·exact .inr (Nat.le_trans h1.size h)
theorem Reb.since {B B1 : Bs} {E : Env} (h : Reb B B1) (hs : Since B1 E) : Since B E :=
 ⟨fun k b hk=>hs.β k b (by rw [h.β0]; exact hk),fun k v hk=>hs.τ k v (by rw [h.τ0]; exact hk),fun k n hk=>hs.ζ k n (by rw [h.ζ0]; exact hk)⟩
theorem Reb.base {B B1 : Bs} {E : Env} {w : World} (h : Reb B B1) (hb : Base B1 E w) : Base B E w where
 os:=hb.os.trans h.os
 tape:=hb.tape.trans h.tape
 output:=hb.output.trans h.output
 size:=Nat.le_trans h.size hb.size
 old:=fun b hlt hX=>by
  obtain ⟨p1,p2⟩:=h.old b hlt hX
  exact (hb.old b (Nat.lt_of_lt_of_le hlt h.size) p1).trans p2
 I0:=fun b o hi=>by
  obtain ⟨p1,p2⟩:=h.I0 b o hi
  obtain ⟨q1,q2⟩:=hb.I0 b o p1
  exact ⟨q1,q2.trans p2⟩
 Ibd:=hb.Ibd
 Inew:=fun b o hi=>by
  rcases hb.Inew b o hi with q | q | q
  ·exact h.Inew b o q
  ·exact .inr (.inl (Nat.le_trans h.size q))
  ·exact .inr (h.X b q)
 Obd:=fun b k hO=>by
  obtain ⟨q1,q2⟩:=hb.Obd b k hO
  refine ⟨q1,?_⟩
  rcases q2 with q | q
  ·exact .inl (Nat.le_trans h.size q)
  ·exact h.X b q
 β0:=h.since hb.β0
theorem Reb.gl {B B1 : Bs} {gl : List (Nat×SV)} (h : Reb B B1) (hg : glOk B gl) : glOk B1 gl:=fun g s hl=>by
 obtain ⟨g1,g2,g3,g4⟩:=hg g s hl
 obtain ⟨p1,p2⟩:=h.old g g2 g3
 exact ⟨g1.mono (fun b o hi=>(h.I0 b o hi).1) (fun b o hi=>(h.I0 b o hi).2),Nat.lt_of_lt_of_le g2 h.size,p1,g4.same p2⟩
theorem Reb.dom {B B1 : Bs} (h : Reb B B1) {m : Nat} (hd : ∀ h,B.β0 h≠none∨B.τ0 h≠none∨B.ζ0 h≠none→h < m) : ∀ h,B1.β0 h≠none∨B1.τ0 h≠none∨B1.ζ0 h≠none→h < m:=by
 rw [h.β0,h.τ0,h.ζ0]; exact hd
def exQ (B : Bs) (N : Nat) (K : Ex→Sy→Prop) (e : Exit) (a : Act) (w : World) : Prop:=∃ B1 E σ,Reb B B1∧StY B1 N E a w σ∧exK K σ e
theorem hfOf_setN {hp : List Hl} {h : Nat} {l : Hl} (hlt : h < hp.length) : hfOf (setN hp h l) = upd (hfOf hp) h l:=by
 have:=hfOf_putH (hp:=hp) (h:=h) (hl:=l) (Nat.le_of_lt hlt)
 unfold putH at this
 rw [if_neg (by rw [lenN_eq]; simp; omega)] at this
 exact this
theorem hfOf_snoc {hp : List Hl} {l : Hl} : hfOf (hp ++ [l]) = upd (hfOf hp) hp.length l:=by
 have:=hfOf_putH (hp:=hp) (h:=hp.length) (hl:=l) (Nat.le_refl _)
 unfold putH at this
 rw [if_pos (by rw [lenN_eq]; simp)] at this
 exact this
theorem nth_lt {α : Type} {l : List α} {i : Nat} {x : α} (h : nth l i = some x) : i < l.length:=by
 rw [nth_eq] at h
 exact (List.getElem?_eq_some_iff.1 h).1
theorem StY.setObj {B : Bs} {N : Nat} {E : Env} {a : Act} {w : World} {σ : Sy} (hs : StY B N E a w σ) {h b : Nat} (hlt : h < σ.hp.length) (hO : E.O b = some h) (hI : ∀ o,¬ E.I b o) (o' : Obj) (l : Hl)
  (hl : HOk E (w.putObj b o') h l) : StY B N E a (w.putObj b o') ⟨σ.fr,setN σ.hp h l,σ.gm⟩:=by
 obtain ⟨x1,x2,x3⟩:=set_obj hs.st hO hI o' l hl
 refine ⟨?_,hs.len,⟨hs.wf.tg,hs.wf.gt,hs.wf.gf⟩,fun k hk=>?_⟩
 ·have:=hs.st.step x1 x2 x3
  rw [←hfOf_setN hlt] at this
  exact this
 ·show k < (setN σ.hp h l).length
  rw [setN_eq,List.length_set]; exact hs.ge k hk
theorem Since.comp {B : Bs} {E E' : Env} {w : World} {X : Nat→Prop} {I0 : Nat→Nat→Prop} {dl : List Nat} (h : Since B E) (h' : Since ⟨w,X,I0,E.β,E.τ,E.ζ,dl⟩ E') : Since B E':=by
 refine ⟨fun k b hk=>h'.β k b (h.β k b hk),fun k v hk=>?_,fun k n hk=>h'.ζ k n (h.ζ k n hk)⟩
 have h1:=h.τ k v hk
 cases he : E.τ k with
 | none=>rw [he] at h1; rcases h1 with h1 | ⟨_,_,_,_,_,_,_,h1,_⟩<;>cases h1
 | some u =>
  rw [he] at h1
  exact h1.trans (h'.τ k u he)
theorem setPs_len : ∀ {ps : List Tmp} {vs : List SV} {fr fr' : List (Option G)},setPs ps vs fr = some fr'→vs.length = ps.length∧fr'.length = fr.length
 | [],[],fr,fr',h=>by simp [setPs] at h; subst h; exact ⟨rfl,rfl⟩
 | p :: ps,v :: vs,fr,fr',h=>by
  obtain ⟨h1,h2⟩:=setPs_len (ps:=ps) (vs:=vs) (by simpa [setPs] using h)
  exact ⟨by simp [h1],by rw [h2,setN_eq,List.length_set]⟩
 | [],_ :: _,_,_,h=>by simp [setPs] at h
 | _ :: _,[],_,_,h=>by simp [setPs] at h
structure FrOk (E : Env) (w : World) (N : Nat) (fr : List (Option G)) (tmps : Array Value) : Prop where
 len : fr.length = N
 size : tmps.size = N
 lie : ∀ s g,getO fr s = some g→g.tg = []∧g.gt = none∧g.gf = none∧s < N∧Rel E w g.v (tmps.getD s undef)
theorem FrOk.sets {E : Env} {w : World} {N : Nat} : ∀ (ps : List Tmp) (vs : List SV) (us : List Value) (fr fr' : List (Option G)) (tmps : Array Value),FrOk E w N fr tmps→setPs ps vs fr = some fr'→RelL E w vs us→
  FrOk E w N fr' ((ps.zip us).foldl (fun tmps (x : Tmp×Value)=>tmps.setIfInBounds x.1 x.2) tmps)
 | [],[],us,fr,fr',tmps,h,hs,_=>by simp [setPs] at hs; subst hs; simpa using h
 | p :: ps,v :: vs,[],_,_,_,_,_,hr=>absurd hr.1 (by simp)
 | p :: ps,v :: vs,u :: us,fr,fr',tmps,h,hs,hr=>by
  have htl : RelL E w vs us:=⟨by have:=hr.1; simpa using this,fun i s v a b=>hr.2 (i + 1) s v a b⟩
  have hhd:=hr.2 0 v u rfl rfl
  simp only [List.zip_cons_cons,List.foldl_cons]
  refine FrOk.sets ps vs us _ fr' _ ?_ (by simpa [setPs] using hs) htl
  refine ⟨by rw [setN_eq,List.length_set]; exact h.len,by simp [h.size],fun s g hg=>?_⟩
  rw [getO_set] at hg
  split at hg
  ·rename_i e
   obtain ⟨rfl,e2⟩:=e
   cases hg
   rw [h.len] at e2
   refine ⟨rfl,rfl,rfl,e2,?_⟩
   rw [Array.getD_eq_getD_getElem?,Array.getElem?_setIfInBounds_self_of_lt (by rw [h.size]; exact e2)]
   exact hhd
  ·rename_i e
   obtain ⟨q1,q2,q3,q4,q5⟩:=h.lie s g hg
   refine ⟨q1,q2,q3,q4,?_⟩
   have e2 : p≠s:=fun e2=>e ⟨e2.symm,by rw [h.len,e2]; exact q4⟩
   rw [Array.getD_eq_getD_getElem?,Array.getElem?_setIfInBounds_ne e2,←Array.getD_eq_getD_getElem?]
   exact q5
 | [],_ :: _,_,_,_,_,_,hs,_=>by simp [setPs] at hs
 | _ :: _,[],_,_,_,_,_,hs,_=>by simp [setPs] at hs
theorem getO_repl (N s : Nat) : getO (List.replicate N (none : Option G)) s = none:=by
 rw [getO_eq,List.getElem?_replicate]
 split<;>rfl
theorem stOf_ready {x : LoopState} (h : stOf x = 0) : x = .ready:=by cases x<;>simp [stOf] at h ⊢
theorem stOf_busy {x : LoopState} (h : stOf x≠1) : x≠.busy:=by rintro rfl; exact h rfl
def roundX (cx : Cx) (c : LC) (ps : Array Tmp) (assign bd : Code) (N : Nat) (Y : FSpec) : Prop :=
 ∀ xs ls K',Y cx.D xs ls K'→(∃ fr,ls.head? = some (.lrec c fr 0 none))∧∃ r ls',K' r ls'∧match round0 c ps N xs ls with
  | some fr0=>exec cx assign ⟨fr0,ls,[]⟩ fun e σ1=>match e,nth σ1.hp 0 with
   | .normal,some (.lrec c1 fr1 0 none)=>exec cx bd ⟨σ1.fr,setN σ1.hp 0 (.lrec c1 fr1 1 none),σ1.gm⟩ (roundE cx (lenN ls) fun r' ls''=>Fin r' r ls'' ls')
   | _,_=>False
  | none=>False
def SoundIn (P : Program) (cx : Cx) (N : Nat) (x : Code) : Prop:=∀ (l nn : Nat) (σ : Sy) (K : Ex→Sy→Prop),exec cx x σ K→∀ (B : Bs),glOk B cx.gl→∀ (E : Env) (a : Act) (w : World),StY B N E a w σ→x.wpIn (Fr (some l)) nn P (exQ B N K) a w
theorem yok_of_round (hc : CxOk P cx) {N : Nat} {c : LC} {ps : Array Tmp} {assign bd : Code} (hl : IsLC c ps assign bd N) {Y : FSpec} (sa : SoundIn P cx N assign) (sb : SoundIn P cx N bd) (h : roundX cx c ps assign bd N Y) : YOk P cx.gl Y:=by
 intro as ls K hY
 rw [←hc.D] at hY
 obtain ⟨⟨fr,hfr⟩,r,ls',hK,hx⟩:=h as ls K hY
 refine ⟨r,ls',hK,?_⟩
 intro B E w vals hw0 hI0 hdom hb hg hh hr
 obtain ⟨rest,rfl⟩ : ∃ rest,ls = .lrec c fr 0 none :: rest:=by
  cases ls with
  | nil=>simp at hfr
  | cons x rest=>simp at hfr; subst hfr; exact ⟨rest,rfl⟩
 split at hx
 ·rename_i fr0 h0
  obtain ⟨vs,rfl,hset⟩ : ∃ vs,as = .yv 0 :: vs∧setPs ps.toList vs (mkfr fr (List.replicate N none)) = some fr0:=by
   unfold round0 at h0
   split at h0
   ·rename_i vs _ _ _ e
    simp only [List.cons.injEq,Hl.lrec.injEq,and_true] at e
    obtain ⟨⟨rfl,rfl⟩,rfl⟩:=e
    exact ⟨vs,rfl,h0⟩
   ·cases h0
  obtain ⟨u,us,rfl,hu,hus⟩ : ∃ u us,vals = u :: us∧Rel E w (.yv 0) u∧RelL E w vs us:=by
   cases vals with
   | nil=>exact absurd hr.1 (by simp)
   | cons u us=>exact ⟨u,us,rfl,hr.2 0 _ u rfl rfl,⟨by have:=hr.1; simpa using this,fun i s v a b=>hr.2 (i + 1) s v a b⟩⟩
  obtain ⟨b,hβ,rfl⟩:=hu.yv_inv
  have h00:=hh 0
  obtain ⟨b',rr,k1,k2,k3,k4,k5,k6⟩:=h00
  rw [hβ] at k1
  cases k1
  obtain ⟨p1,p2⟩:=setPs_len hset
  have hps : rr.params.toList = ps.toList:=by rw [k4.ps,hl.ps]
  have hsz : us.length = rr.params.size:=by
   rw [←Array.length_toList,hps,←p1]; exact hus.1.symm
  refine ⟨b,us,rr,rfl,k3,hsz,fun ro nn=>?_⟩
  rw [show rr.assign = assign by rw [k4.assign,hl.assign],show rr.body = bd by rw [k4.body,hl.body]]
  have hdomE : ∀ h,E.β h≠none∨E.τ h≠none∨E.ζ h≠none→h < (Hl.lrec c fr 0 none :: rest).length:=by
   intro h hne
   rcases Nat.lt_or_ge h (Hl.lrec c fr 0 none :: rest).length with hlt | hge
   ·exact hlt
   ·have hk:=hh h
    rw [show hfOf (Hl.lrec c fr 0 none :: rest) h = .fresh by simp only [hfOf,nth_eq,List.getElem?_eq_none hge,Option.getD_none]] at hk
    obtain ⟨q1,q2,q3,q4⟩:=hk
    rcases hne with hne | hne | hne
    ·exact absurd q1 hne
    ·exact absurd q2 hne
    ·exact absurd q4 hne
  subst hw0
  let B' : Bs:=⟨B.w0,B.X,B.I0,E.β,E.τ,E.ζ,[]⟩
  have hb' : Base B' E B.w0:=⟨hb.os,hb.tape,hb.output,hb.size,hb.old,hb.I0,hb.Ibd,hb.Inew,hb.Obd,⟨fun _ _ h=>h,fun _ _ h=>.inl h,fun _ _ h=>h⟩⟩
  have hg' : glOk B' cx.gl:=hg
  have hbackB : ∀ {E2 : Env} {w2 : World},Base B' E2 w2→Base B E2 w2:=fun {E2 w2} h2=>⟨h2.os,h2.tape,h2.output,h2.size,h2.old,h2.I0,h2.Ibd,h2.Inew,h2.Obd,hb.β0.comp h2.β0⟩
  have hfrok : FrOk E B.w0 N fr0 ((rr.params.zip (⟨us⟩ : Array Value)).foldl (fun tmps (t,a)=>tmps.setIfInBounds t a) rr.tmps):=by
   have h1 : FrOk E B.w0 N (mkfr fr (List.replicate N none)) rr.tmps:=by
    refine ⟨by rw [len_mkfr]; simp,by rw [k4.n,hl.n],fun s g hs=>?_⟩
    obtain ⟨g1,g2,g3,v,g4,g5⟩:=getO_mkfr _ _ s g (getO_repl N) hs
    obtain ⟨q1,q2⟩:=k5 s v g4
    exact ⟨g1,g2,g3,by rw [←hl.n]; exact q1,by rw [g5]; exact q2⟩
   have h2:=h1.sets ps.toList vs us _ fr0 _ hset hus
   have e : (rr.params.zip (⟨us⟩ : Array Value)).foldl (fun tmps (t,a)=>tmps.setIfInBounds t a) rr.tmps = (ps.toList.zip us).foldl (fun tmps (x : Tmp×Value)=>tmps.setIfInBounds x.1 x.2) rr.tmps:=by
    rw [←Array.foldl_toList,Array.toList_zip,hps]
   rw [e]; exact h2
  generalize (rr.params.zip (⟨us⟩ : Array Value)).foldl (fun tmps (t,a)=>tmps.setIfInBounds t a) rr.tmps = tmps' at hfrok ⊢
  have sty : StY B' N E { tmps:=tmps',defers:=[] } B.w0 ⟨fr0,.lrec c fr 0 none :: rest,[]⟩:=by
   refine ⟨⟨hb',hh,fun s=>?_,hfrok.size,rfl⟩,hfrok.len,⟨fun s g hs i hi=>?_,fun s g i hs hi=>?_,fun s g i hs hi=>?_⟩,hdomE⟩
   ·simp only [ffOf]
    cases hs : getO fr0 s with
    | none=>trivial
    | some g =>
     obtain ⟨q1,q2,q3,q4,q5⟩:=hfrok.lie s g hs
     simp only [Option.map_some,SlotOk,q1,condsOf,List.filterMap_nil,allT]
     exact ⟨by rw [hfrok.size]; exact q4,fun _=>q5,fun h=>absurd trivial h⟩
   ·rw [(hfrok.lie s g hs).1] at hi; cases hi
   ·rw [(hfrok.lie s g hs).2.1] at hi; cases hi
   ·rw [(hfrok.lie s g hs).2.2.1] at hi; cases hi
  refine roundIn_of_wpIn trivial ?_
  refine wpIn_mono (sa b nn _ _ hx B' hg' E _ B.w0 sty) ?_
  rintro e a1 w1 ⟨B1,E1,σ1,hR1,hs1,hk1⟩
  have hβ1 : E1.β 0 = some b:=(hR1.since hs1.st.base.β0).β 0 b hβ
  cases e with
  | normal =>
   have hk1 : match nth σ1.hp 0 with
    | some (.lrec c1 fr1 0 none)=>exec cx bd ⟨σ1.fr,setN σ1.hp 0 (.lrec c1 fr1 1 none),σ1.gm⟩ (roundE cx (lenN (Hl.lrec c fr 0 none :: rest)) fun r' ls''=>Fin r' r ls'' ls')
    | _=>False:=by
    simp only [exK] at hk1
    split at hk1
    ·rename_i c1 fr1 _ hn1
     simp only [hn1]; exact hk1
    ·exact hk1.elim
   split at hk1
   ·rename_i c1 fr1 hn1
    have hh1:=hs1.st.heap 0
    rw [nth_hf hn1] at hh1
    obtain ⟨b1,r1,j1,j2,j3,j4,j5,j6⟩:=hh1
    rw [hβ1] at j1
    cases j1
    refine ⟨_,run_beginRound j3 (stOf_ready j4.st),?_⟩
    have hbl:=owned_lt hs1.st.base j2
    have sty2:=hs1.setObj (nth_lt hn1) j2 j6 (.loop { r1 with state:=.busy }) (.lrec c1 fr1 1 none) (by
     obtain ⟨x1,_,_⟩:=set_obj hs1.st j2 j6 (.loop { r1 with state:=.busy }) .gone trivial
     exact ⟨b,_,hβ1,j2,World.putObj_heap_same hbl,⟨j4.fn,j4.ps,j4.assign,j4.body,j4.n,rfl,j4.pd⟩,fun s v hm=>⟨(j5 s v hm).1,(j5 s v hm).2.mono x1⟩,j6⟩)
    refine wpIn_mono (sb b nn _ _ hk1 B1 (hR1.gl hg') E1 a1 _ sty2) ?_
    rintro e a3 w3 ⟨B3,E3,σ3,hR3,hs3,hk3⟩
    have hβ3 : E3.β 0 = some b:=(hR1.since (hR3.since hs3.st.base.β0)).β 0 b hβ
    have hdom3:=(hR1.trans hR3).dom (m:=lenN (Hl.lrec c fr 0 none :: rest)) (by rw [lenN_eq]; exact hdomE)
    have key : ∀ (x : Ex) (jump : Option Code),(jpOf x).2.1.map Jp.code = jump→(jpOf x).2.2 = jump.isNone→(jpOf x).1 = (if jump.isNone then 0 else 2)→roundE cx (lenN (Hl.lrec c fr 0 none :: rest)) (fun r' ls''=>Fin r' r ls'' ls') x σ3→
      ∃ v w',(Instr.endRound b jump).run P w3 = .ok v w'∧∃ v_1 E',Ending.returned v = .returned v_1∧Base B E' w'∧(∀ h,h < ls'.length→HOk E' w' h (hfOf ls' h))∧Rel E' w' r v_1:=by
     intro x jump e1 e2 e3 hx3
     unfold roundE at hx3
     split at hx3
     ·rename_i c3 fr3 st pd bb hn3 hj
      rw [hj] at e1 e2 e3
      simp only at e1 e2 e3
      have hh3:=hs3.st.heap 0
      rw [nth_hf hn3] at hh3
      obtain ⟨b3,r3,i1,i2,i3,i4,i5,i6⟩:=hh3
      rw [hβ3] at i1
      cases i1
      have hbl3:=owned_lt hs3.st.base i2
      have sty4:=hs3.setObj (nth_lt hn3) i2 i6 (.loop { r3 with state:=if jump.isNone then .ready else .done,pending:=jump }) (.lrec c3 fr3 st pd) (by
       obtain ⟨x1,_,_⟩:=set_obj hs3.st i2 i6 (.loop { r3 with state:=if jump.isNone then .ready else .done,pending:=jump }) .gone trivial
       refine ⟨b,_,hβ3,i2,World.putObj_heap_same hbl3,⟨i4.fn,i4.ps,i4.assign,i4.body,i4.n,?_,e1.symm⟩,fun s v hm=>⟨(i5 s v hm).1,(i5 s v hm).2.mono x1⟩,i6⟩
       rw [e3]
       show stOf (if jump.isNone then .ready else .done) = _
       cases jump.isNone<;>rfl)
      obtain ⟨E5,q1,q2,q3⟩:=endG_core hc sty4 hdom3 (vs:=[.bool (.l bb)]) (us:=[.bool jump.isNone]) (.cons (.ro (.bool (by rw [←e2]; rfl))) .nil) hx3
      exact ⟨_,_,run_endRound jump i3,_,E5,rfl,hbackB ((hR1.trans hR3).base q1),q2,q3⟩
     ·exact hx3.elim
    cases e with
    | normal=>exact key .normal none rfl rfl rfl hk3
    | ret=>exact key .ret (some .ret) rfl rfl rfl hk3
    | exit i=>exact key (.exit i) (some (.exit i)) rfl rfl rfl hk3
    | goto i=>exact key (.goto i) (some (.goto i)) rfl rfl rfl hk3
    | panic _=>exact hk3.elim
    | outgrown=>exact hk3.elim
   ·exact hk1.elim
  | ret=>simp only [exK] at hk1
  | exit i=>simp only [exK] at hk1
  | goto i=>simp only [exK] at hk1
  | panic _=>exact hk1.elim
  | outgrown=>exact hk1.elim
 ·exact hx.elim
theorem look_mem {α : Type} : ∀ {l : List (Nat×α)} {k : Nat} {x : α},look k l = some x→(k,x)∈l
 | [],_,_,h=>by simp [look] at h
 | (j,y) :: l,k,x,h=>by
  simp only [look] at h
  split at h
  ·rename_i e
   have e : j = k:=by simpa using e
   subst e
   cases h
   exact List.mem_cons_self ..
  ·exact List.mem_cons_of_mem _ (look_mem h)
theorem alloc_raw {B : Bs} {N : Nat} {E : Env} {a : Act} {w : World} {ff : Nat→SG} {hf : Nat→Hl} (st : St B N E a w ff hf) (o' : Obj) : St B N E a (w.alloc o') ff hf:=by
 have hb:=st.base
 have hx : Ext E w E (w.alloc o'):=⟨fun _ _ h=>h,fun _ _ h=>.inl h,fun _ _ h=>h,fun _ _ h=>h,fun _ _ h=>h,fun b o hi=>cell_alloc_old (hb.Ibd b o hi)⟩
 refine st.step hx ⟨hb.os,hb.tape,hb.output,?_,?_,?_,?_,hb.Inew,?_,hb.β0⟩ fun k=>?_
 ·have:=hb.size; simp; omega
 ·intro b hlt hX; rw [heap_alloc_ne (by have:=hb.size; omega)]; exact hb.old b hlt hX
 ·intro b o hi
  obtain ⟨i1,i2⟩:=hb.I0 b o hi
  exact ⟨i1,by rw [cell_alloc_old (hb.Ibd b o i1)]; exact i2⟩
 ·intro b o hi; have:=hb.Ibd b o hi; simp; omega
 ·intro b k hO
  obtain ⟨o1,o2⟩:=hb.Obd b k hO; simp; exact ⟨by omega,o2⟩
 ·refine HOk.keep hx (st.heap k) rfl rfl rfl rfl fun b hO=>?_
  exact ⟨hO,heap_alloc_ne (owned_lt hb hO),fun _ h=>h⟩
theorem keep_rel {N : Nat} {B : Bs} {E : Env} {a : Act} {w : World} {σ : Sy} (hs : StY B N E a w σ) {n : Nat} {keep : List Nat} {s : Nat} {v : SV} (h : (s,some v)∈zipN keep (keepV dn n σ.fr keep)) : s < N∧Rel E w v (a.tmps.getD s undef):=by
 obtain ⟨g,q1,q2,q3,q4⟩:=mem_zip_keep keep h
 have hsl:=hs.st.slot s
 simp only [ffOf,q1,Option.map_some,SlotOk,q2,condsOf,List.filterMap_nil,allT] at hsl
 obtain ⟨s1,s2,_⟩:=hsl
 rw [hs.st.size] at s1
 exact ⟨s1,by rw [q4]; exact (s2 trivial).norm⟩
theorem cloOf_rel {E : Env} {w : World} {v : SV} {u : Value} {f : FuncId} {cs : List SV} (h : Rel E w v u) (hc : cloOf v = some (f,cs)) : ∃ cv : List Value,u = .func (.func f) #[] ⟨cv⟩∧RelL E w cs cv:=by
 unfold cloOf at hc
 split at hc
 ·simp only [Option.some.injEq,Prod.mk.injEq] at hc
  obtain ⟨rfl,rfl⟩:=hc
  exact h.clo_inv
 ·simp only [Option.some.injEq,Prod.mk.injEq] at hc
  obtain ⟨rfl,rfl⟩:=hc
  exact ⟨[],h.fn_inv,.nil⟩
 ·cases hc
theorem range_sound {nn : Nat} (hc : CxOk P cx) (hrg : RgOk P cx) {B : Bs} {N : Nat} (hg : glOk B cx.gl) {g : Operand} {ps : Array Tmp} {assign bd : Code} {σ : Sy} {K : Ex→Sy→Prop} {E : Env} {a : Act} {w : World} (hs : StY B N E a w σ)
  {f : FuncId} {caps : List SV} {it : FSpec→FSpec} (hv : (rd cx σ [] g).bind cloOf = some (f,caps)) (hit : look f cx.its = some it)
  (h : ∀ c,IsLC c ps assign bd N→∃ (keep : List Nat) (Y : FSpec),YOk P cx.gl Y∧
   stepCallG cx ⟨σ.fr,σ.hp ++ [.lrec c (zipN keep (keepV cx.D (lenN σ.hp) σ.fr keep)) 0 none],σ.gm⟩ [] (.yv (lenN σ.hp) :: caps) (it Y) fun o =>
      match efsH (σ.hp ++ [.lrec c (zipN keep (keepV cx.D (lenN σ.hp) σ.fr keep)) 0 none]) o.efs with
      | hp'=>okEfs (σ.hp ++ [.lrec c (zipN keep (keepV cx.D (lenN σ.hp) σ.fr keep)) 0 none]) o.efs = true∧match nth hp' (lenN σ.hp) with
       | some (.lrec _ _ st pd)=>Nat.beq st 1 = false∧K (exOf pd) ⟨σ.fr,setN hp' (lenN σ.hp) .gone,σ.gm⟩
       | _=>False) :
  (Code.rangeFunc g ps assign bd).wpIn (Fr none) nn P (exQ B N K) a w:=by
 refine wpIn_rangeFunc fun fn _=>?_
 obtain ⟨keep,Y,hY,hcall⟩:=h ⟨fn,ps,assign,bd,N⟩ ⟨rfl,rfl,rfl,rfl⟩
 obtain ⟨c,hcdef⟩ : ∃ c : LC,c = ⟨fn,ps,assign,bd,N⟩:=⟨_,rfl⟩
 rw [←hcdef] at hcall
 rw [hc.D] at hcall
 obtain ⟨frs,hfrs⟩ : ∃ x,x = zipN keep (keepV dn (lenN σ.hp) σ.fr keep):=⟨_,rfl⟩
 rw [←hfrs] at hcall
 -- the function that is ranged over
 obtain ⟨gv,hgv,hcl⟩:=Option.bind_eq_some_iff.1 hv
 obtain ⟨cv,hev,hcv⟩:=cloOf_rel (rd_sound hgv hg hs.st (fun _ _=>rfl) trivial) hcl
 have hfn:=hrg.its _ (look_mem hit) Y hY
 obtain ⟨hgood,hfn⟩:=hfn
 -- the record and the block for the deferred calls are laid
 let lp : Loop:={ state:=.ready,pending:=none,fn,tmps:=a.tmps,params:=ps,assign,body:=bd,defers:=w.heap.size }
 let w0 : World:=w.alloc (.deferred (some []))
 let w1 : World:=w0.alloc (.loop lp)
 have hst0:=alloc_raw hs.st (.deferred (some []))
 have hM : hfOf σ.hp σ.hp.length = .fresh:=by simp only [hfOf,nth_eq,List.getElem?_eq_none (Nat.le_refl _),Option.getD_none]
 have hw0s : w0.heap.size = w.heap.size + 1:=by simp [w0]
 obtain ⟨E1,x1,b1,hh1,hβ1,hO1⟩:=new_obj hst0 hM (.loop lp) (.lrec c [] 0 none) fun E' w' q1 q2 q3 q4=>⟨_,lp,q1,q2,q3,by subst hcdef; exact ⟨rfl,rfl,rfl,rfl,hs.st.size,rfl,rfl⟩,by simp,q4⟩
 have hh2 : ∀ k,HOk E1 w1 k (upd (hfOf σ.hp) σ.hp.length (.lrec c frs 0 none) k):=by
  intro k
  have hk:=hh1 k
  by_cases e : k = σ.hp.length
  ·subst e
   simp only [upd,if_pos] at hk ⊢
   obtain ⟨b,r,k1,k2,k3,k4,k5,k6⟩:=hk
   rw [hβ1] at k1
   cases k1
   have hr : r = lp:=by
    have:=heap_alloc_new w0 (.loop lp)
    rw [this] at k3
    cases k3; rfl
   subst hr
   refine ⟨_,lp,hβ1,k2,k3,k4,fun s v hm=>?_,k6⟩
   rw [hfrs] at hm
   have hs0 : StY B N E a w0 σ:=⟨hst0,hs.len,hs.wf,hs.ge⟩
   obtain ⟨r1,r2⟩:=keep_rel hs0 hm
   exact ⟨by subst hcdef; exact r1,r2.mono x1⟩
  ·simp only [upd,if_neg e] at hk ⊢
   exact hk
 rw [←hfOf_snoc] at hh2
 -- the later start
 have hrsz : w.heap.size < w1.heap.size:=by simp [w1,w0]; omega
 have hnoO : ∀ k,E1.O w.heap.size≠some k:=by
  intro k hk
  rcases hO1 _ _ hk with h | h
  ·have:=(hs.st.base.Obd _ _ h).1; omega
  ·rw [hw0s] at h; omega
 have hdef : w1.heap[w.heap.size]? = some (.deferred (some [])):=by
  rw [heap_alloc_ne (by rw [hw0s]; omega)]
  exact heap_alloc_new w _
 let B1 : Bs:=⟨w1,fun b=>∃ h,E1.O b = some h,E1.I,B.β0,B.τ0,B.ζ0,w.heap.size :: B.dl⟩
 have hb1 : Base B1 E1 w1:=⟨rfl,rfl,rfl,Nat.le_refl _,fun _ _ _=>rfl,fun b o h=>⟨h,rfl⟩,b1.Ibd,fun b o h=>.inl h,fun b k hO=>⟨(b1.Obd b k hO).1,.inr ⟨k,hO⟩⟩,⟨b1.β0.β,b1.β0.τ,b1.β0.ζ⟩⟩
 have hreb : Reb B B1:=by
  refine ⟨b1.os,b1.tape,b1.output,b1.size,fun b hlt hX=>⟨?_,b1.old b hlt hX⟩,b1.I0,b1.Inew,fun b ⟨k,hO⟩=>(b1.Obd b k hO).2,rfl,rfl,rfl,fun hm=>⟨?_,fun r hr=>?_⟩,fun r hr=>?_⟩
  ·rintro ⟨k,hO⟩
   rcases (b1.Obd b k hO).2 with h | h
   ·omega
   ·exact hX h
  ·refine List.nodup_cons.2 ⟨fun hr=>?_,hm.nodup⟩
   have:=(hm.lie _ hr).1
   have:=hs.st.base.size
   omega
  ·rcases List.mem_cons.1 hr with rfl | hr
   ·exact ⟨hrsz,fun ⟨k,hk⟩=>hnoO k hk,hdef⟩
   ·obtain ⟨r1,r2,r3⟩:=hm.lie r hr
    refine ⟨Nat.lt_of_lt_of_le r1 b1.size,?_,(b1.old r r1 r2).trans r3⟩
    rintro ⟨k,hO⟩
    rcases (b1.Obd r k hO).2 with h | h
    ·omega
    ·exact r2 h
  ·rcases List.mem_cons.1 hr with rfl | hr
   ·exact .inr hs.st.base.size
   ·exact .inl hr
 let a1 : Act:={ a with defers:=markOf w.heap.size :: a.defers }
 have x0 : Ext E w E w0:=⟨fun _ _ h=>h,fun _ _ h=>.inl h,fun _ _ h=>h,fun _ _ h=>h,fun _ _ h=>h,fun b o hi=>cell_alloc_old (hs.st.base.Ibd b o hi)⟩
 have hsty : StY B1 N E1 a1 w1 ⟨σ.fr,σ.hp ++ [.lrec c frs 0 none],σ.gm⟩:=by
  have h3:=hst0.step x1 b1 hh2
  exact ⟨⟨hb1,hh2,h3.slot,h3.size,by show markOf w.heap.size :: a.defers = _; rw [hs.st.defers]; rfl⟩,hs.len,⟨hs.wf.tg,hs.wf.gt,hs.wf.gf⟩,fun k hk=>by have:=hs.ge k hk; simp; omega⟩
 have hE1M : E1.β σ.hp.length = some (w.heap.size + 1):=by rw [hβ1,hw0s]
 -- the call
 unfold stepCallG at hcall
 rw [hc.D] at hcall
 simp only at hcall
 obtain ⟨hp1,hhp1⟩ : ∃ x,x = σ.hp ++ [Hl.lrec c frs 0 none]:=⟨_,rfl⟩
 simp only [←hhp1] at hcall hh2 hsty
 obtain ⟨vs1,hvs1⟩ : ∃ x,x = loose.looseL (norm.normL dn (.yv (lenN σ.hp) :: caps)):=⟨_,rfl⟩
 simp only [←hvs1] at hcall
 obtain ⟨hs1,hhs1⟩ : ∃ x,x = reach hp1 hp1 (addNew [] (hsV.hsL vs1)):=⟨_,rfl⟩
 simp only [←hhs1] at hcall
 obtain ⟨ls1,hls1⟩ : ∃ x,x = getG dn hp1 hs1:=⟨_,rfl⟩
 simp only [←hls1] at hcall
 split at hcall
 ·rename_i h3
  simp only [Bool.and_eq_true] at h3
  obtain ⟨⟨⟨⟨⟨c1,c2⟩,c3⟩,c4⟩,c5⟩,c6⟩:=h3
  obtain ⟨r,ls',⟨k1,k2⟩,hct⟩:=hfn _ _ _ hcall
  simp only [Bool.and_eq_true] at k1
  obtain ⟨⟨⟨k3,k4⟩,k5⟩,k6⟩:=k1
  have k3:=Nat.le_of_ble_eq_true k3
  simp only [lenN_eq hs1,lenN_eq ls',lenN_eq hp1,takeN_eq,dropN_eq,mapH_eq] at k3 k5 k6 k2 hct
  rw [lenN_eq] at c4
  have hrelu : RelL E1 w1 (.yv (lenN σ.hp) :: caps) (.func (.yield (w.heap.size + 1)) #[] #[] :: cv):=by
   refine .cons (.yv (by rw [lenN_eq]; exact hE1M) rfl) ⟨hcv.1,fun i s v p q=>((hcv.2 i s v p q).mono x0).mono x1⟩
  have hC:=callG_core (cx:=cx) (G:=fun us w R=>Calls P f ⟨us⟩ w R) (fun us w R R' h hc=>hc.mono h) (hp:=hp1) hvs1 hls1 ((nodupN_iff _).1 c1) ((allIn_iff _ _).1 c2) c3 ((lowN_iff _ _).1 c4) ((closedG_iff _ _).1 c5) hct k3 k4 ((lowN_iff _ _).1 k5) ((okGL_iff _ _).1 k6) (hreb.gl hg) hb1 hh2 (AgH_refl _ _) hrelu
  have henter:=run_enterLoop_outer (P:=P) (w:=w) fn a.tmps ps assign bd
  obtain ⟨fnn,body,g1,g2,g3⟩:=hgood
  have g4 : ¬ fnn.name = "runtime.NumGoroutine":=by simpa using g3
  have hinv : (resolve a.eval (rangeCall g (w.heap.size + 1)) 0).run P w1 = .ok { target:=.fn (.func f) ⟨cv⟩,args:=#[.func (.yield (w.heap.size + 1)) #[] #[]] } w1:=by
   simp [resolve,hev,Deferred.ofValue,show ∀ v,a.eval (.const v) = v from fun _=>rfl]
  refine ⟨w.heap.size + 1,[markOf w.heap.size],w1,_,w1,f,⟨.func (.yield (w.heap.size + 1)) #[] #[] :: cv⟩,w1,henter,hinv,fun _ _=>trivial,?_,by simp [Fr,Fence.wide],?_⟩
  ·have hargsE : (⟨.func (.yield (w.heap.size + 1)) #[] #[] :: cv⟩ : Array Value) = #[.func (.yield (w.heap.size + 1)) #[] #[]] ++ (⟨cv⟩ : Array Value):=by apply Array.ext'; simp
   rw [hargsE]
   simp [invoke,callFunc,g1,g2,g4]
  ·refine (callsIn_wide (n:=nn - 1)).2 (hC.mono ?_)
   rintro e w3 ⟨v,E3,rfl,y1,y2,y3,_⟩
   obtain ⟨k7,k8⟩:=k2
   split at k8
   ·rename_i c4' fr4 st pd hn4
    obtain ⟨k9,k10⟩:=k8
    rw [lenN_eq] at hn4 k10
    rw [←hfOf_efsH _ _ k7] at y3
    have hh4:=y3 σ.hp.length
    rw [nth_hf hn4] at hh4
    obtain ⟨b,r3,i1,i2,i3,i4,i5,i6⟩:=hh4
    rw [y1.β _ _ hE1M] at i1
    cases i1
    have hnb : r3.state≠.busy:=stOf_busy (by rw [i4.st]; intro e; subst e; cases k9)
    have hsty3 : StY B1 N E3 a1 w3 ⟨σ.fr,efsH hp1 (backEfs hs1 ((ls'.take hs1.length).map (rnH (backR hs1 hs1.length hp1.length))) ++ newEfs hp1.length ((ls'.drop hs1.length).map (rnH (backR hs1 hs1.length hp1.length)))),σ.gm⟩:=by
     have h5:=hsty.st.step y1 y2 y3
     refine ⟨h5,hs.len,⟨hs.wf.tg,hs.wf.gt,hs.wf.gf⟩,fun k hk=>Nat.lt_of_lt_of_le (hsty.ge k hk) (len_efsH _ _)⟩
    have hsty4:=hsty3.setObj (nth_lt hn4) i2 i6 (.loop { r3 with state:=.exhausted }) .gone trivial
    refine ⟨_,_,run_endLoop i3 hnb,?_⟩
    rw [i4.pd] at hsty4 ⊢
    cases pd with
    | none=>exact ⟨B1,E3,_,hreb,hsty4,k10⟩
    | some j =>
     cases j with
     | ret=>exact wpIn_ret ⟨B1,E3,_,hreb,hsty4,k10⟩
     | exit i=>exact wpIn_exit ⟨B1,E3,_,hreb,hsty4,k10⟩
     | goto i=>exact wpIn_goto ⟨B1,E3,_,hreb,hsty4,k10⟩
   ·exact k8.elim
 ·exact hcall.elim
theorem exQ.reb {B B1 : Bs} {N : Nat} {K : Ex→Sy→Prop} {e : Exit} {a : Act} {w : World} (h : exQ B1 N K e a w) (hb : Reb B B1) : exQ B N K e a w:=by
 obtain ⟨B2,E,σ,h1,h2,h3⟩:=h
 exact ⟨B2,E,σ,hb.trans h1,h2,h3⟩
theorem exec_sound (hd : DrawOk P) (hc : CxOk P cx) (htab : TabOk P cx.gl cx.tab) (hrg : RgOk P cx) {N : Nat} : ∀ (c : Code) (σ : Sy) (K : Ex→Sy→Prop),exec cx c σ K→∀ (ro : Option Nat) (nn : Nat),ro = none∨noRF c = true→∀ (B : Bs),glOk B cx.gl→∀ (E : Env) (a : Act) (w : World),StY B N E a w σ→c.wpIn (Fr ro) nn P (exQ B N K) a w
 | .skip,σ,K,h,ro,nn,hro,B,hg,E,a,w,hs=>wpIn_skip ⟨B,E,σ,.refl B,hs,h⟩
 | .region id ops draw,σ,K,h,ro,nn,hro,B,hg,E,a,w,hs=>by
  obtain ⟨E,σ,hs,h⟩:=hs.ghostK (id:=id + 2000000) hc.D h
  obtain ⟨rs,σ',h1,h2,h3⟩:=stepOps_runs hc htab hrg (ops:=ops) rfl ops.toList [] σ _ hs.wf h
  simp only [List.nil_append] at h3
  have fin : ∀ {E' : Env} {a' : Act} {w' : World},StY B N E' a' w' σ'→Sx.ghostK cx id ⟨Sx.tidy σ'.fr,σ'.hp,[]⟩ (K .normal)→exQ B N K .normal a' w':=fun hs' h3=>by
   obtain ⟨E2,σ2,q1,q2⟩:=(StY.tidy hs').ghostK hc.D h3
   exact ⟨B,E2,σ2,.refl B,q1,q2⟩
  cases draw with
  | true =>
   simp only [if_true] at h3
   split at h3
   ·obtain ⟨⟨hb⟩,h3⟩:=h3
    simp only [Bool.and_eq_true] at hb
    exact hd ro nn cx.gl id ops B N σ σ' rs hg h1 hb.1 hb.2 _ E a w hs fun E' a' w' hs'=>fin hs' h3
   ·split at h3
    ·rename_i hb
     simp only [Bool.and_eq_true] at hb
     exact hd ro nn cx.gl id ops B N σ σ' rs hg h1 hb.1 hb.2 _ E a w hs fun E' a' w' hs'=>fin hs' h3
    ·exact h3.elim
  | false =>
   simp only [Bool.false_eq_true,if_false] at h3
   exact wpList_region (runs_wpList rfl hg h1 E a w hs fun E' a' w' hs'=>fin hs' h3)
 | .seq x y,σ,K,h,ro,nn,hro,B,hg,E,a,w,hs=>by
  have hx : ro = none∨noRF x = true:=hro.imp (fun h=>h) fun h=>by simp only [noRF,Bool.and_eq_true] at h; exact h.1
  have hy : ro = none∨noRF y = true:=hro.imp (fun h=>h) fun h=>by simp only [noRF,Bool.and_eq_true] at h; exact h.2
  refine wpIn_seq (wpIn_mono (exec_sound hd hc htab hrg x σ _ h ro nn hx B hg E a w hs) fun e a' w' hq=>?_)
  obtain ⟨B',E',σ',hb,hs',hk⟩:=hq
  cases e with
  | normal=>exact wpIn_mono (exec_sound hd hc htab hrg y σ' K hk ro nn hy B' (hb.gl hg) E' a' w' hs') fun e a w hq=>hq.reb hb
  | exit i=>exact ⟨B',E',σ',hb,hs',hk⟩
  | goto l=>exact ⟨B',E',σ',hb,hs',hk⟩
  | ret=>exact ⟨B',E',σ',hb,hs',hk⟩
  | _=>exact hk.elim
 | .cond c x y,σ,K,h,ro,nn,hro,B,hg,E,a,w,hs=>by
  have hx : ro = none∨noRF x = true:=hro.imp (fun h=>h) fun h=>by simp only [noRF,Bool.and_eq_true] at h; exact h.1
  have hy : ro = none∨noRF y = true:=hro.imp (fun h=>h) fun h=>by simp only [noRF,Bool.and_eq_true] at h; exact h.2
  simp only [exec] at h
  have hv : ∀ b,rd cx σ [] c = some (.bool b)→a.eval c = .bool b.den:=fun b hb=>(rd_sound hb hg hs.st (fun _ _=>rfl) trivial).bool_inv
  split at h
  ·rename_i hb
   exact wpIn_cond (t:=true) (hv _ hb) (exec_sound hd hc htab hrg x σ K h ro nn hx B hg E a w hs)
  ·rename_i hb
   exact wpIn_cond (t:=false) (hv _ hb) (exec_sound hd hc htab hrg y σ K h ro nn hy B hg E a w hs)
  ·rename_i b _ _ hb
   rw [hc.D] at h
   refine wpIn_cond_split (hv _ hb) (fun e=>?_) (fun e=>?_)
   ·exact exec_sound hd hc htab hrg x _ K (h.1 e) ro nn hx B hg E a w (hs.know hb (hv _ hb) e)
   ·exact exec_sound hd hc htab hrg y _ K (h.2 e) ro nn hy B hg E a w (hs.know hb (hv _ hb) e)
  ·exact h.elim
 | .block id b,σ,K,h,ro,nn,hro,B,hg,E,a,w,hs=>by
  have hx : ro = none∨noRF b = true:=hro.imp (fun h=>h) fun h=>h
  refine wpIn_block (wpIn_mono (exec_sound hd hc htab hrg b σ _ h ro nn hx B hg E a w hs) fun e a' w' hq=>?_)
  obtain ⟨B',E',σ',hb,hs',hk⟩:=hq
  cases e with
  | normal=>exact ⟨B',E',σ',hb,hs',hk⟩
  | exit i =>
   simp only [Exit.inBlock]
   simp only [exK] at hk
   by_cases e : i = id
   ·rw [if_pos e]
    rw [if_pos (by simpa using e)] at hk
    exact ⟨B',E',σ',hb,hs',hk⟩
   ·rw [if_neg e]
    rw [if_neg (by simpa using e)] at hk
    exact ⟨B',E',σ',hb,hs',hk⟩
  | goto l=>exact ⟨B',E',σ',hb,hs',hk⟩
  | ret=>exact ⟨B',E',σ',hb,hs',hk⟩
  | _=>exact hk.elim
 | .loop b,σ,K,h,ro,nn,hro,B,hg,E,a,w,hs=>by
  have hx : ro = none∨noRF b = true:=hro.imp (fun h=>h) fun h=>h
  simp only [exec] at h
  split at h
  ·rename_i l _
   refine wp_loopN (fun m a w=>∃ B1 σ1 E,Reb B B1∧unroll (exec cx b) m σ1 K∧StY B1 N E a w σ1) ⟨cntG l,B,σ,E,.refl B,h,hs⟩ ?_
   rintro m a' w' ⟨B1,σ1,E',hr1,hu,hs'⟩
   cases m with
   | zero=>exact hu.elim
   | succ m =>
    refine wpIn_mono (exec_sound hd hc htab hrg b _ _ hu ro nn hx B1 (hr1.gl hg) E' a' w' hs') fun e a2 w2 hq=>?_
    obtain ⟨B2,E2,σ2,hr2,hs2,hk⟩:=hq
    have hr:=hr1.trans hr2
    cases e with
    | normal=>exact ⟨m,Nat.lt_succ_self _,B2,σ2,E2,hr,hk,hs2⟩
    | exit i=>exact ⟨B2,E2,σ2,hr,hs2,hk⟩
    | goto l=>exact ⟨B2,E2,σ2,hr,hs2,hk⟩
    | ret=>exact ⟨B2,E2,σ2,hr,hs2,hk⟩
    | _=>exact hk.elim
  obtain ⟨keep,J,⟨hb0,m0,hJ0⟩,hround⟩:=h
  rw [hc.D] at hJ0 hround
  refine wp_loopN (fun m a w=>∃ B1 vs hp E,Reb B B1∧J m vs hp∧StY B1 N E a w ⟨mkfr (zipN keep vs) (blank σ.fr),hp,[]⟩) ⟨m0,B,_,_,cutE (lenN σ.hp) E,.refl B,hJ0,?_⟩ ?_
  ·have:=hs.head (n:=lenN σ.hp) (keep:=keep) hs.len (by rw [takeN_all]; exact hb0) (by rw [lenN_eq]; exact hs.ge)
   rw [takeN_all] at this
   exact this
  ·rintro m a' w' ⟨B1,vs,hp,E',hr1,hJ,hs'⟩
   refine wpIn_mono (exec_sound hd hc htab hrg b _ _ (hround m vs hp hJ) ro nn hx B1 (hr1.gl hg) E' a' w' hs') fun e a2 w2 hq=>?_
   obtain ⟨B2,E2,σ2,hr2,hs2,hk⟩:=hq
   have hr:=hr1.trans hr2
   cases e with
   | normal =>
    obtain ⟨hb2,m2,hlt,hJ2⟩:=hk
    exact ⟨m2,hlt,B2,_,_,_,hr,hJ2,hs2.head hs.len hb2 (by rw [lenN_eq]; exact hr.dom hs.ge)⟩
   | exit i=>exact ⟨B2,E2,σ2,hr,hs2,hk⟩
   | goto l=>exact ⟨B2,E2,σ2,hr,hs2,hk⟩
   | ret=>exact ⟨B2,E2,σ2,hr,hs2,hk⟩
   | _=>exact hk.elim
 | .exit id,σ,K,h,ro,nn,hro,B,hg,E,a,w,hs=>wpIn_exit ⟨B,E,σ,.refl B,hs,h⟩
 | .ret,σ,K,h,ro,nn,hro,B,hg,E,a,w,hs=>wpIn_ret ⟨B,E,σ,.refl B,hs,h⟩
 | .rangeFunc g ps assign bd,σ,K,h,ro,nn,hro,B,hg,E,a,w,hs=>by
  rcases hro with rfl | hro
  ·simp only [exec] at h
   split at h
   ·rename_i f caps hv
    split at h
    ·rename_i it hit
     obtain ⟨hnr,h⟩:=h
     simp only [Bool.and_eq_true] at hnr
     refine range_sound hc hrg hg hs hv hit fun c hlc=>?_
     have hN : lenN σ.fr = N:=by rw [lenN_eq]; exact hs.len
     rw [←hN] at hlc
     obtain ⟨keep,Y,h1,h2⟩:=h c hlc
     refine ⟨keep,Y,yok_of_round hc hlc (fun l nn σ K h B hg E a w hs=>?_) (fun l nn σ K h B hg E a w hs=>?_) h1,h2⟩
     ·rw [hN] at hs; rw [hN]; exact exec_sound hd hc htab hrg assign σ K h (some l) nn (.inr hnr.1) B hg E a w hs
     ·rw [hN] at hs; rw [hN]; exact exec_sound hd hc htab hrg bd σ K h (some l) nn (.inr hnr.2) B hg E a w hs
    ·exact h.elim
   ·exact h.elim
  ·cases hro
 | .scope c,σ,K,h,ro,nn,hro,B,hg,E,a,w,hs=>by
  have hx : ro = none∨noRF c = true:=hro.imp (fun h=>h) fun h=>h
  refine wpIn_scope_straight (wpIn_mono (exec_sound hd hc htab hrg c σ _ h ro nn hx B hg E a w hs) fun e a' w' hq=>?_)
  obtain ⟨B',E',σ',hb,hs',hk⟩:=hq
  cases e with
  | normal=>exact ⟨B',E',σ',hb,hs',hk⟩
  | exit i=>exact ⟨B',E',σ',hb,hs',hk⟩
  | goto l=>exact hk.elim
  | ret=>exact ⟨B',E',σ',hb,hs',hk⟩
  | _=>exact hk.elim
 | .label _,σ,K,h,ro,nn,hro,B,hg,E,a,w,hs=>wpIn_label ⟨B,E,σ,.refl B,hs,h⟩
 | .goto _,σ,K,h,ro,nn,hro,B,hg,E,a,w,hs=>wpIn_goto ⟨B,E,σ,.refl B,hs,h⟩
 | .refuse _,_,_,h,_,_,_,_,_,_,_,_,_=>h.elim
theorem exec_wp (hd : DrawOk P) (hc : CxOk P cx) (htab : TabOk P cx.gl cx.tab) (hrg : RgOk P cx) {B : Bs} {N : Nat} (hg : glOk B cx.gl) (c : Code) (σ : Sy) (K : Ex→Sy→Prop) (h : exec cx c σ K) (E : Env) (a : Act) (w : World) (hs : StY B N E a w σ) : c.wp P (exQ B N K) a w :=
 wpIn_wide.1 (exec_sound hd hc htab hrg c σ K h none 0 (.inl rfl) B hg E a w hs)
end
end Go.Sx
namespace Go.Sx
open Go
theorem LeV.refl (s : SV) : LeV s s:=fun _ _ _ h=>h
theorem LeH.refl (ls : List Hl) : LeH ls ls:=fun _ _ _ h=>h
section
variable {P : Program} {cx : Cx}
def resRow (tmps : Array Value) : ResultVar→Sem Value
 | .tmp t=>pure (tmps.getD t undef)
 | .cell ad t=>do loadVar t (←asAddr (tmps.getD ad undef))
theorem results_eq (fn : Func) (tmps : Array Value) : results fn tmps = (do let vs←fn.results.mapM (resRow tmps); pure (if h : vs.size = 1 then vs[0] else .tuple vs)):=by
 unfold results
 congr 1
theorem resVs_sound (hc : CxOk P cx) {B : Bs} {N : Nat} (hg : glOk B cx.gl) {E : Env} {a : Act} {w : World} {σ : Sy} (hs : StY B N E a w σ) : ∀ (rs : List ResultVar) (vs : List SV),resVs cx σ rs = some vs→
  ∃ us,(rs.mapM (resRow a.tmps)).run P w = .ok us w∧RelL E w vs us
 | [],vs,h=>by simp [resVs] at h; subst h; exact ⟨[],rfl,.nil⟩
 | .tmp t :: rs,vs,h=>by
  simp only [resVs] at h
  split at h
  ·rename_i v vs' hv hvs
   cases h
   obtain ⟨us,h1,h2⟩:=resVs_sound hc hg hs rs vs' hvs
   have hr:=rd_sound hv hg hs.st (fun _ _=>rfl) trivial
   exact ⟨a.tmps.getD t undef :: us,by simp only [List.mapM_cons,resRow,Sem.run_bind,Sem.run_pure,Result.andThen_ok,h1],.cons hr h2⟩
  ·cases h
 | .cell ad t :: rs,vs,h=>by
  simp only [resVs] at h
  split at h
  ·rename_i hd off n vs' hv hn hvs
   split at h
   ·rename_i ty cs hh
    split at h
    ·rename_i hb
     split at h
     ·rename_i v hp
      cases h
      rw [lenN_eq] at hb
      have hle:=Nat.le_of_ble_eq_true hb
      rw [takeN_eq,dropN_eq] at hp
      obtain ⟨us,h1,h2⟩:=resVs_sound hc hg hs rs vs' hvs
      obtain ⟨b,hβ,hx⟩:=(rd_sound hv hg hs.st (fun _ _=>rfl) trivial).ptr_inv
      have hk:=hs.st.heap hd
      rw [nth_hf hh] at hk
      obtain ⟨b',C,k1,_,k3,k4,_,_⟩:=hk.blk_inv
      obtain rfl : b = b':=Option.some.inj (hβ.symm.trans k1)
      obtain ⟨ti,hti,hsz⟩:=size?_ti hn
      have hsub:=sub_RelL (off:=off) (n:=n) k4 rfl (fun _ _ _=>rfl)
      obtain ⟨p1,p2⟩:=pack_rel hp hsub
      have hlen : ((C.toList.drop off).take n).length = n:=by rw [←hsub.1]; simp; omega
      have hrun:=run_loadAt (hc.ti hti) (w:=w) (b:=b) (off:=off) (vs:=(C.toList.drop off).take n) (fun j v hj=>by
       rw [List.getElem?_take] at hj
       split at hj
       ·rw [List.getElem?_drop] at hj
        rw [cell_of_row w b (off + j) C ty (0,0) k3]
        simpa using hj
       ·cases hj) (by rw [hlen,hsz]) (isAgg?_eq hti) p1
      have hx : a.tmps.getD ad undef = .pointer (some ⟨b,off,none⟩):=hx
      have hl : (loadVar t ⟨b,off,none⟩).run P w = .ok (if isAgg? cx t then .agg ⟨(C.toList.drop off).take n⟩ else ((C.toList.drop off).take n).headD undef) w:=by
       simpa only [Instr.loadAt,Instr.sureAddr,Sem.run_bind,Sem.run_pure,Result.andThen_ok] using hrun
      refine ⟨_ :: us,?_,.cons p2 h2⟩
      have hrow : (resRow a.tmps (.cell ad t)).run P w = .ok (if isAgg? cx t then .agg ⟨(C.toList.drop off).take n⟩ else ((C.toList.drop off).take n).headD undef) w:=by
       simp only [resRow,hx,asAddr,Sem.run_bind,Sem.run_pure,Result.andThen_ok,hl]
      simp only [List.mapM_cons,Sem.run_bind,hrow,Result.andThen_ok,h1,Sem.run_pure]
     ·cases h
    ·cases h
   ·cases h
  ·cases h
theorem HOk.normH {E : Env} {w : World} {hp : List Hl} {h : Nat} (hk : HOk E w h (hfOf hp h)) : HOk E w h (hfOf (normH dn hp) h):=by
 simp only [hfOf,nth_eq,normH_get] at hk ⊢
 cases hl : hp[h]? with
 | none=>rw [hl] at hk; exact hk
 | some l =>
  rw [hl] at hk
  cases l with
  | blk ty cs =>
   simp only [Option.map_some,Option.getD_some] at hk ⊢
   obtain ⟨b,C,k1,k2,k3,k4,k5,k6⟩:=hk.blk_inv
   have hn : RelL E w (loose.looseL (norm.normL dn cs)) C.toList:=by
    rw [looseL_eq,normL_eq]
    exact (k4.map _ fun s v _ h=>h.norm).map _ fun s v _ h=>h.loose
   exact ⟨b,C,k1,k2,k3,by have:=hn.1; simpa using this.symm,fun i s v p q=>hn.2 i s v p (by simpa using q),fun v hv=>k5 v (by simpa using hv),k6⟩
  | _=>exact hk
theorem getO_start (ntmps : Nat) (args : List SV) (s : Nat) (g : G) (h : getO (startFr ntmps args) s = some g) : ∃ v,args[s]? = some v∧g = ⟨[],none,none,v⟩:=by
 rw [getO_eq] at h
 unfold startFr at h
 by_cases hlt : s < args.length
 ·rw [List.getElem?_append_left (by simpa using hlt)] at h
  simp [hlt] at h
  exact ⟨args[s],by simp [hlt],h.symm⟩
 ·rw [List.getElem?_append_right (by simp; omega)] at h
  rw [List.getElem?_replicate] at h
  split at h<;>simp at h
theorem ownTo_rel {E E' : Env} {w : World} {h k : Nat} (hI : E'.I = E.I) (hτ : E'.τ k = E.τ h) : ∀ {vs : List SV} {us : List Value},ownOk h vs = true→RelL E w vs us→RelL E' w (ownTo h k vs) us
 | [],us,_,hr=>⟨hr.1,by simp [ownTo]⟩
 | v :: vs,[],_,hr=>absurd hr.1 (by simp)
 | v :: vs,u :: us,ho,hr=>by
  have htl : RelL E w vs us:=⟨by have:=hr.1; simpa using this,fun i s v a b=>hr.2 (i + 1) s v a b⟩
  have hhd:=hr.2 0 v u rfl rfl
  by_cases hv : ∃ nl n h',v = .osl nl n h'
  ·obtain ⟨nl,n,h',rfl⟩:=hv
   simp only [ownOk,Bool.and_eq_true,beq_iff_eq] at ho
   obtain ⟨rfl,ho⟩:=ho
   obtain ⟨ht,a,m,c,t1,t2⟩:=hhd.osl_inv
   exact .cons (.osl ht ⟨a,m,c,by rw [hτ]; exact t1,t2⟩) (ownTo_rel hI hτ ho htl)
  ·have h1 : ownOk h (v :: vs) = (plainV v && ownOk h vs):=by
    cases v<;>first | rfl | exact absurd ⟨_,_,_,rfl⟩ hv
   have h2 : ownTo h k (v :: vs) = v :: ownTo h k vs:=by
    cases v<;>first | rfl | exact absurd ⟨_,_,_,rfl⟩ hv
   rw [h1,Bool.and_eq_true] at ho
   rw [h2]
   exact .cons (hhd.plain hI ho.1) (ownTo_rel hI hτ ho.2 htl)
theorem end_sound (hc : CxOk P cx) {B : Bs} {N : Nat} (hg : glOk B cx.gl) {E' : Env} {a' : Act} {w' : World} {σ' : Sy} (hs' : StY B N E' a' w' σ') {fn : Func} {m : Nat} (hdom : ∀ h,B.β0 h≠none∨B.τ0 h≠none∨B.ζ0 h≠none→h < m) {r : SV} {ls' : List Hl} (hk : match resVs cx σ' fn.results.toList with
    | some vs=>endK cx m vs σ' fun r' ls''=>Fin r' r ls'' ls'
    | none=>False) : ∃ v,(results fn a'.tmps).run P w' = .ok v w'∧∃ v_1 E',Ending.returned v = .returned v_1∧Base B E' w'∧(∀ h,h < ls'.length→HOk E' w' h (hfOf ls' h))∧Rel E' w' r v_1:=by
 split at hk
 ·rename_i vs hvs
  obtain ⟨us,u1,u2⟩:=resVs_sound hc hg hs' fn.results.toList vs hvs
  have hbase:=hs'.st.base
  have hres : (results fn a'.tmps).run P w' = .ok (if h : (⟨us⟩ : Array Value).size = 1 then (⟨us⟩ : Array Value)[0] else .tuple ⟨us⟩) w':=by
   rw [results_eq,Array.mapM_eq_mapM_toList]
   simp only [Sem.run_bind,Sem.run_map,u1,Result.andThen_ok,Sem.run_pure]
  unfold endK at hk
  rw [hc.D] at hk
  split at hk
  ·obtain ⟨k1,k2,k3⟩:=hk
   refine ⟨_,hres,_,E',rfl,hbase,fun h hlt=>?_,?_⟩
   ·refine k2 h E' w' ?_
    refine HOk.normH ?_
    have:=hs'.st.heap h
    have hlt2 : h < m:=by
     rw [len_normH,takeN_eq,List.length_take] at k3; omega
    simp only [hfOf,nth_eq,takeN_eq] at this ⊢
    rw [List.getElem?_take,if_pos hlt2]
    exact this
   ·exact k1 E' w' _ (pack1_rel u2).norm.loose
  ·rename_i h _
   split at hk
   ·rename_i ty n sz gr f hcond hh
    simp only [Bool.and_eq_true] at hcond
    obtain ⟨⟨c1,c2⟩,c3⟩:=hcond
    have c1:=Nat.le_of_ble_eq_true c1
    obtain ⟨k1,k2,k3⟩:=hk
    have hm : m≤σ'.hp.length:=by
     rw [nth_eq] at hh
     have:=(List.getElem?_eq_some_iff.1 hh).1
     omega
    let O2 : Nat→Option Nat:=fun b=>(E'.O b).bind fun j=>if j < m then some j else if j = h then some m else none
    let E2 : Env:=⟨fun k=>if k < m then E'.β k else if k = m then E'.β h else none,fun k=>if k < m then E'.τ k else if k = m then E'.τ h else none,O2,fun k=>if k < m then E'.κ k else none,fun k=>if k < m then E'.ζ k else if k = m then E'.ζ h else none,E'.I⟩
    have hbase2 : Base B E2 w':=by
     refine ⟨hbase.os,hbase.tape,hbase.output,hbase.size,hbase.old,hbase.I0,hbase.Ibd,hbase.Inew,fun b j hO=>?_,⟨fun k b hk=>?_,fun k v hk=>?_,fun k z hk=>?_⟩⟩
     ·have hO : (E'.O b).bind (fun j=>if j < m then some j else if j = h then some m else none) = some j:=hO
      cases hEO : E'.O b with
      | none=>rw [hEO] at hO; cases hO
      | some q=>exact hbase.Obd b q hEO
     ·show (if k < m then E'.β k else if k = m then E'.β h else none) = some b
      rw [if_pos (hdom k (.inl (by rw [hk]; simp)))]; exact hbase.β0.β k b hk
     ·show TauLe v (if k < m then E'.τ k else if k = m then E'.τ h else none)
      rw [if_pos (hdom k (.inr (.inl (by rw [hk]; simp))))]; exact hbase.β0.τ k v hk
     ·show (if k < m then E'.ζ k else if k = m then E'.ζ h else none) = some z
      rw [if_pos (hdom k (.inr (.inr (by rw [hk]; simp))))]; exact hbase.β0.ζ k z hk
    have hO1 : ∀ b k,k < m→E'.O b = some k→O2 b = some k:=fun b k hk hb=>by simp [O2,hb,hk]
    have hO2 : ∀ b,E'.O b = some h→O2 b = some m:=fun b hb=>by
     simp only [O2,hb,Option.bind_some]
     rw [if_neg (by omega)]
     simp
    refine ⟨_,hres,_,E2,rfl,hbase2,fun k hlt=>?_,?_⟩
    ·refine k2 k E2 w' ?_
     have hlen : (normH dn (takeN m σ'.hp ++ [.own ty n sz gr f])).length = m + 1:=by
      rw [len_normH,takeN_eq,List.length_append,List.length_take,Nat.min_eq_left hm]; rfl
     rw [hlen] at k3
     have htl : (takeN m σ'.hp).length = m:=by rw [takeN_eq,List.length_take,Nat.min_eq_left hm]
     have hkk:=hs'.st.heap
     by_cases hkm : k < m
     ·have h1 : hfOf (normH dn (takeN m σ'.hp ++ [.own ty n sz gr f])) k = hfOf (normH dn (takeN m σ'.hp)) k:=by
       simp only [hfOf,nth_eq,normH_get]
       rw [List.getElem?_append_left (by omega)]
      rw [h1]
      have h2 : HOk E' w' k (hfOf (normH dn (takeN m σ'.hp)) k):=by
       refine HOk.normH ?_
       have:=hkk k
       simp only [hfOf,nth_eq,takeN_eq] at this ⊢
       rw [List.getElem?_take,if_pos hkm]
       exact this
      obtain ⟨l,hl⟩ : ∃ l,(normH dn (takeN m σ'.hp))[k]? = some l:=⟨_,List.getElem?_eq_getElem (by rw [len_normH]; omega)⟩
      have hle : hfOf (normH dn (takeN m σ'.hp)) k = l:=by simp only [hfOf,nth_eq,hl,Option.getD_some]
      rw [hle] at h2 ⊢
      exact h2.move (plainH_get c3 hl) rfl (if_pos hkm) (if_pos hkm) (if_pos hkm) fun b hb=>hO1 b k hkm hb
     ·obtain rfl : k = m:=by omega
      have h1 : hfOf (normH dn (takeN k σ'.hp ++ [.own ty n sz gr f])) k = .own ty (.a (dn.i n)) sz gr f:=by
       simp only [hfOf,nth_eq,normH_get]
       rw [List.getElem?_append_right (by omega),htl,Nat.sub_self]
       rfl
      rw [h1]
      have h2:=hkk h
      rw [nth_hf hh] at h2
      have h3 : HOk E' w' h (.own ty (.a (dn.i n)) sz gr f):=h2
      refine h3.move trivial rfl ?_ ?_ ?_ hO2
      ·show (if k < k then E'.β k else if k = k then E'.β h else none) = E'.β h
       rw [if_neg (by omega),if_pos rfl]
      ·show (if k < k then E'.τ k else if k = k then E'.τ h else none) = E'.τ h
       rw [if_neg (by omega),if_pos rfl]
      ·show (if k < k then E'.ζ k else if k = k then E'.ζ h else none) = E'.ζ h
       rw [if_neg (by omega),if_pos rfl]
    ·have hτm : E2.τ m = E'.τ h:=by
      show (if m < m then E'.τ m else if m = m then E'.τ h else none) = E'.τ h
      rw [if_neg (by omega),if_pos rfl]
     have hrel : RelL E2 w' (ownTo h m vs) us:=ownTo_rel (E:=E') (E':=E2) rfl hτm c2 u2
     exact k1 E2 w' _ (pack1_rel hrel).norm.loose
   ·exact hk.elim
 ·exact hk.elim
theorem end_soundG (hc : CxOk P cx) {B : Bs} {N : Nat} (hg : glOk B cx.gl) {E' : Env} {a' : Act} {w' : World} {σ' : Sy} (hs' : StY B N E' a' w' σ') {fn : Func} {m : Nat} (hdom : ∀ h,B.β0 h≠none∨B.τ0 h≠none∨B.ζ0 h≠none→h < m) {r : SV} {ls' : List Hl} (hk : match resVs cx σ' fn.results.toList with
    | some vs=>endG cx m vs σ' fun r' ls''=>Fin r' r ls'' ls'
    | none=>False) : ∃ v,(results fn a'.tmps).run P w' = .ok v w'∧∃ v_1 E',Ending.returned v = .returned v_1∧Base B E' w'∧(∀ h,h < ls'.length→HOk E' w' h (hfOf ls' h))∧Rel E' w' r v_1:=by
 split at hk
 ·rename_i vs hvs
  obtain ⟨us,u1,u2⟩:=resVs_sound hc hg hs' fn.results.toList vs hvs
  have hbase:=hs'.st.base
  have hres : (results fn a'.tmps).run P w' = .ok (if h : (⟨us⟩ : Array Value).size = 1 then (⟨us⟩ : Array Value)[0] else .tuple ⟨us⟩) w':=by
   rw [results_eq,Array.mapM_eq_mapM_toList]
   simp only [Sem.run_bind,Sem.run_map,u1,Result.andThen_ok,Sem.run_pure]
  obtain ⟨E2,q1,q2,q3⟩:=endG_core hc hs' hdom u2 hk
  exact ⟨_,hres,_,E2,rfl,q1,q2,q3⟩
 ·exact hk.elim
theorem start_sound {B : Bs} {E : Env} {w : World} {vals : List Value} {fn : Func} {as : List SV} {ls : List Hl} (hdl : B.dl = []) (hdom : ∀ h,B.β0 h≠none∨B.τ0 h≠none∨B.ζ0 h≠none→h < ls.length) (hb : Base B E w) (hh : ∀ h,HOk E w h (hfOf ls h)) (hr : RelL E w as vals) :
  StY B (startFr fn.ntmps as).length E { tmps:=(⟨vals⟩ : Array Value) ++ Array.replicate (fn.ntmps - (⟨vals⟩ : Array Value).size) undef,defers:=[] } w ⟨startFr fn.ntmps as,ls,[]⟩:=by
 refine ⟨⟨hb,hh,fun s=>?_,?_,by rw [hdl]; rfl⟩,rfl,⟨fun s g hs i hi=>?_,fun s g i hs hi=>?_,fun s g i hs hi=>?_⟩,hdom⟩
 ·simp only [ffOf]
  cases hs : getO (startFr fn.ntmps as) s with
  | none=>trivial
  | some g =>
   obtain ⟨v,hv,rfl⟩:=getO_start _ _ _ _ hs
   have hlt : s < as.length:=(List.getElem?_eq_some_iff.1 hv).1
   have hlt2 : s < vals.length:=by rw [←hr.1]; exact hlt
   have hget : ((⟨vals⟩ : Array Value) ++ Array.replicate (fn.ntmps - (⟨vals⟩ : Array Value).size) undef).getD s undef = vals[s]:=by
    rw [Array.getD_eq_getD_getElem?,Array.getElem?_append_left (by simpa using hlt2)]
    simp [hlt2]
   refine ⟨by simp; omega,fun _=>?_,fun h=>absurd trivial h⟩
   rw [hget]
   exact hr.2 s v _ hv (List.getElem?_eq_getElem hlt2)
 ·simp [startFr,lenN_eq,hr.1]
 ·obtain ⟨v,_,rfl⟩:=getO_start _ _ _ _ hs; simp at hi
 ·obtain ⟨v,_,rfl⟩:=getO_start _ _ _ _ hs; simp at hi
 ·obtain ⟨v,_,rfl⟩:=getO_start _ _ _ _ hs; simp at hi
def shut : List Nat→World→World
 | [],w=>w
 | r :: rs,w=>shut rs (w.putObj r (.deferred none))
theorem leaves_marks {F : Fence} {n : Nat} {fn : Func} {tmps : Array Value} {R : Ending→World→Prop} : ∀ (dl : List Nat) (w : World),dl.Nodup→(∀ r∈dl,w.heap[r]? = some (.deferred (some [])))→
  (∃ v,(results fn tmps).run P (shut dl w) = .ok v (shut dl w)∧R (.returned v) (shut dl w))→LeavesInM F n P fn tmps R (dl.map markOf) .returning w
 | [],w,_,_,h=>h
 | r :: rs,w,hn,hd,h=>by
  obtain ⟨n1,n2⟩:=List.nodup_cons.1 hn
  refine ⟨by simp,.inl ⟨r,_,rfl,run_takeDeferred (hd r (List.mem_cons_self ..)),leaves_marks rs _ n2 (fun k hk=>?_) h⟩⟩
  rw [World.putObj_heap_other (fun (e : k = r)=>n1 (by rw [←e]; exact hk))]
  exact hd k (List.mem_cons_of_mem _ hk)
theorem put_raw {B : Bs} {N : Nat} {E : Env} {a : Act} {w : World} {ff : Nat→SG} {hf : Nat→Hl} (st : St B N E a w ff hf) {r : Nat} {x : Option (List Deferred)} (hr : B.w0.heap.size≤r) (hO : ∀ k,E.O r≠some k) (hd : w.heap[r]? = some (.deferred x)) (y : Option (List Deferred)) : St B N E a (w.putObj r (.deferred y)) ff hf:=by
 have hb:=st.base
 have hlt : r < w.heap.size:=(Array.getElem?_eq_some_iff.1 hd).1
 have hcell : ∀ b o,(w.putObj r (.deferred y)).cell? ⟨b,o,none⟩ = w.cell? ⟨b,o,none⟩:=by
  intro b o
  simp only [World.cell?]
  by_cases e : b = r
  ·subst e; rw [World.putObj_heap_same hlt,hd]
  ·rw [World.putObj_heap_other e]
 have hx : Ext E w E (w.putObj r (.deferred y)):=⟨fun _ _ h=>h,fun _ _ h=>.inl h,fun _ _ h=>h,fun _ _ h=>h,fun _ _ h=>h,fun b o _=>hcell b o⟩
 refine st.step hx ⟨hb.os,hb.tape,hb.output,?_,?_,?_,?_,hb.Inew,?_,hb.β0⟩ fun k=>?_
 ·rw [World.putObj_size]; exact hb.size
 ·intro b hlt hX; rw [World.putObj_heap_other (by omega)]; exact hb.old b hlt hX
 ·intro b o hi
  obtain ⟨i1,i2⟩:=hb.I0 b o hi
  exact ⟨i1,by rw [hcell]; exact i2⟩
 ·intro b o hi; rw [World.putObj_size]; exact hb.Ibd b o hi
 ·intro b k hO; rw [World.putObj_size]; exact hb.Obd b k hO
 ·refine HOk.keep hx (st.heap k) rfl rfl rfl rfl fun b hb2=>⟨hb2,?_,fun _ h=>h⟩
  exact World.putObj_heap_other (fun e=>hO k (by rw [←e]; exact hb2))
theorem shut_raw {B : Bs} {N : Nat} {E : Env} {a : Act} {ff : Nat→SG} {hf : Nat→Hl} : ∀ (dl : List Nat) (w : World),dl.Nodup→St B N E a w ff hf→(∀ r∈dl,B.w0.heap.size≤r∧(∀ k,E.O r≠some k)∧w.heap[r]? = some (.deferred (some [])))→St B N E a (shut dl w) ff hf
 | [],_,_,st,_=>st
 | r :: rs,w,hn,st,h=>by
  obtain ⟨n1,n2⟩:=List.nodup_cons.1 hn
  obtain ⟨h1,h2,h3⟩:=h r (List.mem_cons_self ..)
  refine shut_raw rs _ n2 (put_raw st h1 h2 h3 none) fun k hk=>?_
  obtain ⟨k1,k2,k3⟩:=h k (List.mem_cons_of_mem _ hk)
  exact ⟨k1,k2,by rw [World.putObj_heap_other (fun (e : k = r)=>n1 (by rw [←e]; exact hk))]; exact k3⟩
theorem StY.shut {B B1 : Bs} {N : Nat} {E : Env} {a : Act} {w : World} {σ : Sy} (hr : Reb B B1) (h0 : B.dl = []) (hs : StY B1 N E a w σ) :
  B1.dl.Nodup∧(∀ r∈B1.dl,w.heap[r]? = some (.deferred (some [])))∧StY B N E { a with defers:=[] } (Sx.shut B1.dl w) σ:=by
 have hm : MarkOk B1:=hr.marks ⟨by rw [h0]; exact List.nodup_nil,by rw [h0]; simp⟩
 have hb:=hs.st.base
 have hd : ∀ r∈B1.dl,B.w0.heap.size≤r∧(∀ k,E.O r≠some k)∧w.heap[r]? = some (.deferred (some [])):=by
  intro r hrm
  obtain ⟨m1,m2,m3⟩:=hm.lie r hrm
  refine ⟨?_,fun k hk=>?_,(hb.old r m1 m2).trans m3⟩
  ·rcases hr.new r hrm with h | h
   ·rw [h0] at h; cases h
   ·exact h
  ·rcases (hb.Obd r k hk).2 with h | h
   ·omega
   ·exact m2 h
 have hst : St B N E { a with defers:=[] } w (ffOf σ) (hfOf σ.hp):=⟨hr.base hb,hs.st.heap,hs.st.slot,hs.st.size,by rw [h0]; rfl⟩
 refine ⟨hm.nodup,fun r hrm=>(hd r hrm).2.2,shut_raw B1.dl w hm.nodup hst hd,hs.len,hs.wf,fun k hk=>hs.ge k ?_⟩
 rw [hr.β0,hr.τ0,hr.ζ0]; exact hk
def Bs.bare (B : Bs) : Bs:={ B with dl:=[] }
theorem Base.bare {B : Bs} {E : Env} {w : World} (h : Base B E w) : Base B.bare E w:=⟨h.os,h.tape,h.output,h.size,h.old,h.I0,h.Ibd,h.Inew,h.Obd,⟨h.β0.β,h.β0.τ,h.β0.ζ⟩⟩
theorem Base.unbare {B : Bs} {E : Env} {w : World} (h : Base B.bare E w) : Base B E w:=⟨h.os,h.tape,h.output,h.size,h.old,h.I0,h.Ibd,h.Inew,h.Obd,⟨h.β0.β,h.β0.τ,h.β0.ζ⟩⟩
theorem callsTo_of_body (hd : DrawOk P) (hc : CxOk P cx) (htab : TabOk P cx.gl cx.tab) (hrg : RgOk P cx) {f : FuncId} {fn : Func} (hf : P.funcs[f]? = some fn) {as : List SV} {ls : List Hl} {r : SV} {ls' : List Hl}
  (h : body cx fn as ls fun r' ls''=>Fin r' r ls'' ls') : CallsTo P cx.gl f as ls r ls':=by
 intro B E w vals hw0 hI0 hdom hb hg hh hr
 unfold body at h
 split at h
 ·rename_i c hbody
  refine callsIn_wide.1 (callsIn_of_wp_marks (F:=Fence.wide) (n:=0) hf hbody trivial ?_)
  refine wpIn_mono (F:=Fence.wide) (exec_sound hd hc htab hrg c _ _ h none 0 (.inl rfl) B.bare hg E _ w (start_sound (B:=B.bare) rfl hdom hb.bare hh hr)) fun e a' w' hq=>?_
  obtain ⟨B1,E',σ',hr1,hs',hk⟩:=hq
  obtain ⟨m1,m2,m3⟩:=hs'.shut hr1 rfl
  rw [←lenN_eq ls] at hdom
  have done : (∃ v,(results fn a'.tmps).run P (shut B1.dl w') = .ok v (shut B1.dl w')∧∃ v_1 E',Ending.returned v = .returned v_1∧Base B.bare E' (shut B1.dl w')∧(∀ h,h < ls'.length→HOk E' (shut B1.dl w') h (hfOf ls' h))∧Rel E' (shut B1.dl w') r v_1)→LeavesInM Fence.wide 0 P fn a'.tmps (fun e w'=>∃ v E',e = .returned v∧Base B E' w'∧(∀ h,h < ls'.length→HOk E' w' h (hfOf ls' h))∧Rel E' w' r v) a'.defers .returning w':=by
   rintro ⟨v,q1,v1,E2,q2,q3,q4,q5⟩
   rw [hs'.st.defers]
   exact leaves_marks B1.dl w' m1 m2 ⟨v,q1,v1,E2,q2,q3.unbare,q4,q5⟩
  cases e with
  | normal=>exact done (end_sound (B:=B.bare) hc hg m3 hdom hk)
  | ret=>exact done (end_sound (B:=B.bare) hc hg m3 hdom hk)
  | exit i=>exact hk.elim
  | goto l=>exact hk.elim
  | panic c=>exact hk.elim
  | outgrown=>exact hk.elim
 ·exact h.elim
theorem callsTo_of_bodyG (hd : DrawOk P) (hc : CxOk P cx) (htab : TabOk P cx.gl cx.tab) (hrg : RgOk P cx) {f : FuncId} {fn : Func} (hf : P.funcs[f]? = some fn) {as : List SV} {ls : List Hl} {r : SV} {ls' : List Hl}
  (h : bodyG cx fn as ls fun r' ls''=>Fin r' r ls'' ls') : CallsTo P cx.gl f as ls r ls':=by
 intro B E w vals hw0 hI0 hdom hb hg hh hr
 unfold bodyG at h
 split at h
 ·rename_i c hbody
  refine callsIn_wide.1 (callsIn_of_wp_marks (F:=Fence.wide) (n:=0) hf hbody trivial ?_)
  refine wpIn_mono (F:=Fence.wide) (exec_sound hd hc htab hrg c _ _ h none 0 (.inl rfl) B.bare hg E _ w (start_sound (B:=B.bare) rfl hdom hb.bare hh hr)) fun e a' w' hq=>?_
  obtain ⟨B1,E',σ',hr1,hs',hk⟩:=hq
  obtain ⟨m1,m2,m3⟩:=hs'.shut hr1 rfl
  rw [←lenN_eq ls] at hdom
  have done : (∃ v,(results fn a'.tmps).run P (shut B1.dl w') = .ok v (shut B1.dl w')∧∃ v_1 E',Ending.returned v = .returned v_1∧Base B.bare E' (shut B1.dl w')∧(∀ h,h < ls'.length→HOk E' (shut B1.dl w') h (hfOf ls' h))∧Rel E' (shut B1.dl w') r v_1)→LeavesInM Fence.wide 0 P fn a'.tmps (fun e w'=>∃ v E',e = .returned v∧Base B E' w'∧(∀ h,h < ls'.length→HOk E' w' h (hfOf ls' h))∧Rel E' w' r v) a'.defers .returning w':=by
   rintro ⟨v,q1,v1,E2,q2,q3,q4,q5⟩
   rw [hs'.st.defers]
   exact leaves_marks B1.dl w' m1 m2 ⟨v,q1,v1,E2,q2,q3.unbare,q4,q5⟩
  cases e with
  | normal=>exact done (end_soundG (B:=B.bare) hc hg m3 hdom hk)
  | ret=>exact done (end_soundG (B:=B.bare) hc hg m3 hdom hk)
  | exit i=>exact hk.elim
  | goto l=>exact hk.elim
  | panic c=>exact hk.elim
  | outgrown=>exact hk.elim
 ·exact h.elim
theorem wp_scopeN {c rest : Code} {Q : Exit→Act→World→Prop} {a : Act} {w : World} (l : Nat) (hf : findLabel c l = some rest) (R : Nat→Act→World→Prop)
  (first : c.wp P (Exit.jump l (fun a w=>∃ n,R n a w) Q) a w)
  (pass : ∀ n a w,R n a w→rest.wp P (Exit.jump l (fun a' w'=>∃ n',n' < n∧R n' a' w') Q) a w) : (Code.scope c).wp P Q a w:=by
 classical
 let μ : Act→World→Nat:=fun a w=>if h : ∃ n,R n a w then Classical.choose (exists_min h) else 0
 have hμ : ∀ a w,(∃ n,R n a w)→R (μ a w) a w∧∀ m,R m a w→μ a w≤m:=by
  intro a w h
  have : μ a w = Classical.choose (exists_min h):=by simp only [μ]; rw [dif_pos h]
  rw [this]
  exact Classical.choose_spec (exists_min h)
 refine wp_scope_jumps l (fun a w=>∃ n,R n a w) μ hf first fun a w hI=>?_
 obtain ⟨h1,h2⟩:=hμ a w hI
 refine wp_mono (pass _ a w h1) fun e a' w' hq=>?_
 cases e with
 | goto l' =>
  obtain ⟨rfl,n',hlt,hr⟩:=hq
  exact ⟨rfl,⟨n',hr⟩,Nat.lt_of_le_of_lt ((hμ a' w' ⟨n',hr⟩).2 n' hr) hlt⟩
 | _=>exact hq
theorem callsTo_of_bodyJ (hd : DrawOk P) (hc : CxOk P cx) (htab : TabOk P cx.gl cx.tab) (hrg : RgOk P cx) {f : FuncId} {fn : Func} (hf : P.funcs[f]? = some fn) {l : Nat} {pre c rest : Code} (hbody : fn.body = some (.seq pre (.scope c))) (hl : findLabel c l = some rest) {as : List SV} {ls : List Hl} {r : SV} {ls' : List Hl}
  (h : bodyJ cx fn pre c l rest as ls fun r' ls''=>Fin r' r ls'' ls') : CallsTo P cx.gl f as ls r ls':=by
 intro B E w vals hw0 hI0 hdom hb hg hh hr
 obtain ⟨keep,J,h1,h2⟩:=h
 rw [hc.D] at h1 h2
 have hdom':=hdom
 rw [←lenN_eq ls] at hdom'
 have hcw : (Code.seq pre (.scope c)).wp P (bodyPostM Fence.wide 0 P fn (fun e w'=>∃ v E',e = .returned v∧Base B E' w'∧(∀ h,h < ls'.length→HOk E' w' h (hfOf ls' h))∧Rel E' w' r v)) { tmps:=(⟨vals⟩ : Array Value) ++ Array.replicate (fn.ntmps - (⟨vals⟩ : Array Value).size) undef,defers:=[] } w:=?_
 ·exact callsIn_wide.1 (callsIn_of_wp_marks (F:=Fence.wide) (n:=0) hf hbody trivial (wpIn_wide.2 hcw))
 have done : ∀ {B1 : Bs} {E' : Env} {a' : Act} {w' : World} {σ' : Sy},Reb B.bare B1→StY B1 (startFr fn.ntmps as).length E' a' w' σ'→(match resVs cx σ' fn.results.toList with
    | some vs=>endK cx (lenN ls) vs σ' fun r' ls''=>Fin r' r ls'' ls'
    | none=>False)→LeavesInM Fence.wide 0 P fn a'.tmps (fun e w'=>∃ v E',e = .returned v∧Base B E' w'∧(∀ h,h < ls'.length→HOk E' w' h (hfOf ls' h))∧Rel E' w' r v) a'.defers .returning w':=by
  intro B1 E' a' w' σ' hr1 hs' hk
  obtain ⟨m1,m2,m3⟩:=hs'.shut hr1 rfl
  obtain ⟨v,q1,v1,E2,q2,q3,q4,q5⟩:=end_sound (B:=B.bare) hc hg m3 hdom' hk
  rw [hs'.st.defers]
  exact leaves_marks B1.dl w' m1 m2 ⟨v,q1,v1,E2,q2,q3.unbare,q4,q5⟩
 refine wp_seq (wp_mono (exec_wp hd hc htab hrg (B:=B.bare) hg pre _ _ h1 E _ w (start_sound (B:=B.bare) rfl hdom hb.bare hh hr)) fun e0 a0 w0 hq0=>?_)
 obtain ⟨B0,E0,σ0,hr0,hs0,hk0⟩:=hq0
 cases e0 with
 | ret=>exact hk0.elim
 | exit i=>exact hk0.elim
 | goto l=>exact hk0.elim
 | panic c=>exact hk0.elim
 | outgrown=>exact hk0.elim
 | normal =>
 have h1:=hk0
 refine wp_scopeN l hl (fun m a w=>∃ B1 vs hp E,Reb B.bare B1∧J m vs hp∧StY B1 (startFr fn.ntmps as).length E a w ⟨mkfr (zipN keep vs) (blank (startFr fn.ntmps as)),hp,[]⟩) ?_ ?_
 ·refine wp_mono (exec_wp hd hc htab hrg (hr0.gl hg) c _ _ h1 E0 _ w0 hs0) fun e a' w' hq=>?_
  obtain ⟨B1,E',σ',hr1,hs',hk⟩:=hq
  have hr1:=hr0.trans hr1
  cases e with
  | normal=>exact done hr1 hs' hk
  | ret=>exact done hr1 hs' hk
  | exit i=>exact hk.elim
  | goto l' =>
   obtain ⟨rfl,hb2,m2,hJ2⟩:=hk
   exact ⟨rfl,m2,_,_,_,_,hr1,hJ2,hs'.head rfl hb2 (hr1.dom hdom')⟩
  | panic c=>exact hk.elim
  | outgrown=>exact hk.elim
 ·rintro m a1 w1 ⟨B1,vs,hp,E1,hr1,hJ,hs1⟩
  refine wp_mono (exec_wp hd hc htab hrg (hr1.gl hg) rest _ _ (h2 m vs hp hJ) E1 a1 w1 hs1) fun e a' w' hq=>?_
  obtain ⟨B2,E',σ',hr2,hs',hk⟩:=hq
  have hr2:=hr1.trans hr2
  cases e with
  | normal=>exact done hr2 hs' hk
  | ret=>exact done hr2 hs' hk
  | exit i=>exact hk.elim
  | goto l' =>
   obtain ⟨rfl,hb2,m2,hlt,hJ2⟩:=hk
   exact ⟨rfl,m2,hlt,_,_,_,_,hr2,hJ2,hs'.head rfl hb2 (hr2.dom hdom')⟩
  | panic c=>exact hk.elim
  | outgrown=>exact hk.elim
end
end Go.Sx
