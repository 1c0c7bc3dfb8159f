/- Part of the proofs of the statements about responses and messages (layers 9 and 10): a symbolic executor over the code, that it is sound, and contracts of functions; it has no conditions of its own. -/
import Derived.ProofKit
import Derived.Below
import Derived.Carry
import Derived.ChangeOld
import Derived.ChangeArms
import Derived.OpenShut
import Derived.MakeChecks
import Derived.Shelf.Bytes.SlIndexAt
import Derived.Test.YtdoogdbjiijifaaGreatDoorCards
import Derived.Test.YtdoogdbjiijifaaGreatDoorTie
import Derived.LaidLaws
import Derived.LaidHandle
import Derived.LaidMore
import Derived.Lay
import Derived.Stop.Joined
import Derived.Stop.LaidErr
import Derived.Lib.SmallJoins
import Derived.Laws.RangeString
import Derived.Laws.RangeAny
import Derived.Test.YtdoogdbjiijifaaGreatDoorSzPau
import Derived.Test.YtdoogdbjiijifaaGreatDoorSzPax
import Derived.Test.YtdoogdbjiijifaaGreatDoorSzPav
namespace Go.Sx
open Go Go.ChangeShapes Go.WideShapes Go.RowKit
def M2 (W : World) : Nat→Nat→Prop:=fun b _=>b < W.heap.size
def ROL (I : Nat→Nat→Prop) (w : World) (cs : List SV) (vs : List Value) : Prop:=cs.length = vs.length∧(∀ (i : Nat) (s : SV) (v : Value),cs[i]? = some s→vs[i]? = some v→RO I w s v)∧∀ v∈vs,v.oneCell' = true
theorem ROL.one {I : Nat→Nat→Prop} {w : World} {s : SV} {v : Value} (h : RO I w s v) (h1 : v.oneCell' = true) : ROL I w [s] [v] :=
 ⟨rfl,fun i s' v' a b=>by cases i with | zero=>simp at a b; subst a b; exact h | succ i=>simp at a,by simpa using h1⟩
theorem ROL.nil {I : Nat→Nat→Prop} {w : World} : ROL I w [] []:=⟨rfl,by simp,by simp⟩
theorem ROL.app {I : Nat→Nat→Prop} {w : World} {cs cs' : List SV} {vs vs' : List Value} (h : ROL I w cs vs) (h' : ROL I w cs' vs') : ROL I w (cs ++ cs') (vs ++ vs'):=by
 refine ⟨by simp [h.1,h'.1],fun i s v a b=>?_,fun v hv=>?_⟩
 ·rw [List.getElem?_append] at a b
  rw [h.1] at a
  split at a
  ·rename_i hi
   rw [if_pos hi] at b
   exact h.2.1 i s v a b
  ·rename_i hi
   rw [if_neg hi] at b
   exact h'.2.1 _ s v a b
 ·rcases List.mem_append.1 hv with hv | hv
  ·exact h.2.2 v hv
  ·exact h'.2.2 v hv
section
variable {P : Program}
def F1 (P : Program) (t : TypeId) {α : Type} (enc : α→List SV) : Prop :=
 ∀ (H : Type) (tok : TypeId×Value→H) (W : World) (spare : Nat→Bool) (held : Bool) (fuel : Nat) (cs : List Value) (x : DataW H×List MemPlace),DataW.trod tok P W 0 spare held fuel t cs = some x→∃ a,ROL (M2 W) W (enc a) cs
theorem F1.int {t : TypeId} {k : IntKind} (ht : P.underlying t = some (.int k)) : F1 P t (fun n : Int=>[.int k (.a n)]):=by
 intro H tok W spare held fuel cs x h
 obtain ⟨n,rfl,_,_⟩:=DataW.trod_int ht h
 exact ⟨n,.one (.int rfl) rfl⟩
theorem F1.intB {t : TypeId} {k : IntKind} (ht : P.underlying t = some (.int k)) : F1 P t (fun n : {n : Int // (Lit.int k n).wf = true}=>[.int k (.a n.1)]):=by
 intro H tok W spare held fuel cs x h
 obtain ⟨n,rfl,_,hw⟩:=DataW.trod_int ht h
 exact ⟨⟨n,hw⟩,.one (.int rfl) rfl⟩
theorem F1.bool {t : TypeId} (ht : P.underlying t = some .bool) : F1 P t (fun b : Bool=>[.bool (.a b)]):=by
 intro H tok W spare held fuel cs x h
 obtain ⟨n,rfl,_⟩:=DataW.trod_bool ht h
 exact ⟨n,.one (.bool rfl) rfl⟩
theorem F1.str {t : TypeId} (ht : P.underlying t = some .string) : F1 P t (fun s : {s : List UInt8 // s.length≤maxLen}=>[.str s.1]):=by
 intro H tok W spare held fuel cs x h
 obtain ⟨s,rfl,_,hs⟩:=DataW.trod_string ht h
 exact ⟨⟨s.data.toList,by simpa using hs⟩,.one (.str (by simp [bytes])) rfl⟩
theorem F1.map {t : TypeId} {α β : Type} {enc : α→List SV} {enc' : β→List SV} (h : F1 P t enc) (f : α→β) (hf : ∀ a,enc' (f a) = enc a) : F1 P t enc':=by
 intro H tok W spare held fuel cs x hx
 obtain ⟨a,ha⟩:=h H tok W spare held fuel cs x hx
 exact ⟨f a,by rw [hf]; exact ha⟩
theorem Agi {W : World} {base : Nat} {a : Addr} {n : Nat} {cs : List Value} (h : W.cells? base a n = some cs) : cs.length = n∧∀ i,i < n→W.cell? (a.add i) = cs[i]?:=by
 unfold World.cells? at h
 split at h
 ·have h2:=mapM_some_get h
  have h1 : cs.length = n:=by simpa using mapM_some_length h
  refine ⟨h1,fun i hi=>?_⟩
  exact h2 i i (by simp [hi])
 ·cases h
theorem Ad9 {W : World} {b o : Nat} {sp : Option Nat} {v : Value} (h : W.cell? ⟨b,o,sp⟩ = some v) : b < W.heap.size∧sp = none:=by
 unfold World.cell? at h
 split at h
 ·rename_i c _ _ hc
  split at h
  ·cases h
  ·rename_i hs
   exact ⟨(Array.getElem?_eq_some_iff.1 hc).1,by cases sp<;>simp at hs ⊢⟩
 ·cases h
def Abd {α : Type} (enc : α→List SV) (l : List α) (i : Nat) : List SV:=match l[i]? with
 | some a=>enc a
 | none=>[]
def slC {α : Type} (sz : Nat) (enc : α→List SV) (x : Bool×List α) : List SV:=[.sl (.a x.1) (.a x.2.length) sz (Abd enc x.2)]
theorem F1.slice {t e : TypeId} {α : Type} {sz : Nat} {enc : α→List SV} (ht : P.underlying t = some (.slice e)) (hz : P.cellsOf e = sz) (h0 : 0 < sz) (he : F1 P e enc) : F1 P t (fun x : {x : Bool×List α // x.1 = true→x.2 = []}=>slC sz enc x.1):=by
 intro H tok W spare held fuel cs x h
 rcases DataW.trod_slice ht h with ⟨rfl,_⟩ | ⟨a,len,cap,elems,rest,n,_,rfl,_,_,hle,hcap,hlen,hel,_,_⟩
 ·exact ⟨⟨(true,[]),fun _=>rfl⟩,.one (.slnil rfl rfl) rfl⟩
 ·rw [hz] at hel
  have key : ∀ i,i < len→∃ (al : α) (vs : List Value),ROL (M2 W) W (enc al) vs∧vs.length = sz∧∀ j,j < sz→W.cell? ((a.add (i * sz)).add j) = vs[j]?:=by
   intro i hi
   have h1:=hel i hi
   rw [List.getElem?_eq_getElem (by omega)] at h1
   cases hc : W.cells? 0 (a.add (i * sz)) sz with
   | none=>rw [hc] at h1; cases h1
   | some vs =>
    rw [hc] at h1
    obtain ⟨al,hal⟩:=he H tok W _ _ _ vs _ h1
    have hg:=Agi hc
    exact ⟨al,vs,hal,hg.1,hg.2⟩
  have gen : ∀ len : Nat,(∀ i,i < len→∃ (al : α) (vs : List Value),ROL (M2 W) W (enc al) vs∧vs.length = sz∧∀ j,j < sz→W.cell? ((a.add (i * sz)).add j) = vs[j]?)→∃ (l : List α) (g : Nat→Nat→Value),l.length = len∧∀ i al,l[i]? = some al→(enc al).length = sz∧(∀ j,j < sz→W.cell? ((a.add (i * sz)).add j) = some (g i j)∧(g i j).oneCell' = true)∧∀ j s,(enc al)[j]? = some s→RO (M2 W) W s (g i j):=by
   clear key hel hlen hcap hle h
   intro len key
   induction len with
   | zero=>exact ⟨[],fun _ _=>undef,rfl,by simp⟩
   | succ len ih =>
    obtain ⟨l,g,hl,hg⟩:=ih (fun i hi=>key i (by omega))
    obtain ⟨al,vs,k1,k2,k3⟩:=key len (by omega)
    refine ⟨l ++ [al],fun i j=>if i = len then vs.getD j undef else g i j,by simp [hl],fun i al' hi=>?_⟩
    rw [List.getElem?_append] at hi
    split at hi
    ·rename_i hlt
     have hne : i≠len:=by omega
     obtain ⟨g1,g2,g3⟩:=hg i al' hi
     exact ⟨g1,fun j hj=>by simpa only [if_neg hne] using g2 j hj,fun j s hs=>by simpa only [if_neg hne] using g3 j s hs⟩
    ·rename_i hlt
     have hil : i = len:=by
      have:=(List.getElem?_eq_some_iff.1 hi).1
      simp at this; omega
     subst hil
     have h00 : i - l.length = 0:=by omega
     rw [h00] at hi
     simp at hi
     subst hi
     refine ⟨by rw [k1.1,k2],fun j hj=>?_,fun j s hs=>?_⟩
     ·simp only [if_pos]
      have hjv : vs[j]? = some vs[j]:=List.getElem?_eq_getElem (by omega)
      rw [k3 j hj,hjv]
      simp only [List.getD_eq_getElem?_getD,hjv,Option.getD_some,true_and]
      exact k1.2.2 _ (List.getElem_mem _)
     ·simp only [if_pos]
      have hjl : j < vs.length:=by rw [←k1.1]; exact (List.getElem?_eq_some_iff.1 hs).1
      have hjv : vs[j]? = some vs[j]:=List.getElem?_eq_getElem hjl
      simp only [List.getD_eq_getElem?_getD,hjv,Option.getD_some]
      exact k1.2.1 j s _ hs hjv
  obtain ⟨l,g,hl,hg⟩:=gen len key
  have hspot : 0 < len→a.spot = none:=fun hpos=>by
   obtain ⟨al,hal⟩ : ∃ al,l[0]? = some al:=⟨_,List.getElem?_eq_getElem (by omega)⟩
   obtain ⟨_,g2,_⟩:=hg 0 al hal
   have:=(g2 0 h0).1
   obtain ⟨b,o,sp⟩:=a
   simp only [Nat.zero_mul,Addr.add,if_pos] at this
   exact (Ad9 this).2
  refine ⟨⟨(false,l),fun h=>by cases h⟩,.one (.sl g rfl (by simp [ST.den,hl]) hle hcap hspot (fun i hi=>?_) (fun i j hi hj=>?_) (fun i j hi hj=>?_) (fun i j s hi hs=>?_)) rfl⟩
  ·obtain ⟨al,hal⟩ : ∃ al,l[i]? = some al:=⟨_,List.getElem?_eq_getElem (by omega)⟩
   simp only [Abd,hal]
   exact (hg i al hal).1
  ·obtain ⟨al,hal⟩ : ∃ al,l[i]? = some al:=⟨_,List.getElem?_eq_getElem (by omega)⟩
   exact ((hg i al hal).2.1 j hj).2
  ·obtain ⟨al,hal⟩ : ∃ al,l[i]? = some al:=⟨_,List.getElem?_eq_getElem (by omega)⟩
   have hc:=((hg i al hal).2.1 j hj).1
   have e : (a.add (i * sz)).add j = ⟨a.block,a.off + (i * sz + j),none⟩:=by
    have hs:=hspot (by omega)
    obtain ⟨b,o,sp⟩:=a
    simp only at hs
    subst hs
    simp only [add_lit]
    congr 1
    omega
   rw [e] at hc
   exact ⟨hc,(Ad9 hc).1⟩
  ·obtain ⟨al,hal⟩ : ∃ al,l[i]? = some al:=⟨_,List.getElem?_eq_getElem (by omega)⟩
   simp only [Abd,hal] at hs
   exact (hg i al hal).2.2 j s hs
def Vw (P : Program) (fs : List (Nat×TypeId)) (o len : Nat) {α : Type} (enc : α→List SV) : Prop :=
 ∀ (H : Type) (tok : TypeId×Value→H) (W : World) (spare : Nat→Bool) (held : Bool) (cs : List Value),cs.length = o + len→(∀ p∈fs,∃ fuel x,DataW.trod tok P W 0 spare held fuel p.2 ((cs.drop p.1).take (P.cellsOf p.2)) = some x)→∃ a,ROL (M2 W) W (enc a) (cs.drop o)
theorem Vw.nil {o : Nat} : Vw P [] o 0 (fun _ : Unit=>[]):=by
 intro H tok W spare held cs hl _
 rw [List.drop_of_length_le (by omega)]
 exact ⟨(),.nil⟩
theorem Vw.cons {fs : List (Nat×TypeId)} (o n len : Nat) {t : TypeId} {α β : Type} {enc : α→List SV} {enc' : β→List SV} (hn : P.cellsOf t = n) (h : F1 P t enc) (hs : Vw P fs (o + n) len enc') : Vw P ((o,t) :: fs) o (n + len) (fun x : α×β=>enc x.1 ++ enc' x.2):=by
 intro H tok W spare held cs hl hx
 obtain ⟨fuel,x,h1⟩:=hx (o,t) (List.mem_cons_self ..)
 simp only [hn] at h1
 obtain ⟨a,ha⟩:=h H tok W _ _ _ _ _ h1
 obtain ⟨b,hb⟩:=hs H tok W spare held cs (by omega) fun p hp=>hx p (List.mem_cons_of_mem _ hp)
 refine ⟨(a,b),?_⟩
 have e : cs.drop o = (cs.drop o).take n ++ cs.drop (o + n):=by rw [←List.drop_drop,List.take_append_drop]
 rw [e]
 exact ha.app hb
theorem F1.struct {t : TypeId} {fields : Array Field} {fs : List (Nat×TypeId)} {len : Nat} {α : Type} {enc : α→List SV} (ht : P.underlying t = some (.struct fields)) (hfs : (fields.toList.map fun f=>(f.offset,f.type)) = fs) (hlen : P.cellsOf t = len) (h : Vw P fs 0 len enc) : F1 P t enc:=by
 intro H tok W spare held fuel cs x hx
 obtain ⟨xs,n,_,_,hl,hxl,hf⟩:=DataW.trod_struct ht hx
 have:=h H tok W spare held cs (by omega) fun p hp=>?_
 ·simpa using this
 ·rw [←hfs,List.mem_map] at hp
  obtain ⟨f,hf1,rfl⟩:=hp
  obtain ⟨i,hi,hfi⟩:=List.mem_iff_getElem.1 hf1
  have hi' : i < fields.size:=by simpa using hi
  have:=hf i f (by rw [←hfi]; simp [hi'])
  rw [List.getElem?_eq_getElem (by omega)] at this
  exact ⟨n,_,this⟩
theorem law_run {gl : List (Nat×SV)} {f : FuncId} {xas : List SV} {W : World} {args : List Value} (h : Gl P gl f xas [] (.bool (.a true)) [])
  (hgl : ∀ g s,look g gl = some s→RO (M2 W) W s (.pointer (some ⟨g,0,none⟩))∧g < W.heap.size∧Py W g s) (hl : xas.length = args.length) (hr : ∀ (i : Nat) (s : SV) (v : Value),xas[i]? = some s→args[i]? = some v→RO (M2 W) W s v) :
  Calls P f ⟨args⟩ W fun e W'=>e = .returned (.bool true)∧Below W.heap.size W W':=by
 refine (h ⟨W,fun _=>False,M2 W,fun _=>none,fun _=>none,fun _=>none,[]⟩ ⟨fun _=>none,fun _=>none,fun _=>none,fun _=>none,fun _=>none,M2 W⟩ W args rfl (fun _ _ h=>h) (fun _ h=>absurd h (by simp)) ⟨rfl,rfl,rfl,Nat.le_refl _,fun _ _ _=>rfl,fun _ _ h=>⟨h,rfl⟩,fun _ _ h=>h,fun _ _ h=>.inl h,fun _ _ h=>(by cases h),⟨fun _ _ h=>(by cases h),fun _ _ h=>(by cases h),fun _ _ h=>(by cases h)⟩⟩ (fun g s h=>⟨(hgl g s h).1,(hgl g s h).2.1,fun h=>h,(hgl g s h).2.2⟩) (fun h=>?_) ⟨hl,fun i s v a b=>.ro (hr i s v a b)⟩).mono fun e W' hq=>?_
 ·simp only [Ao,nth]
  exact ⟨rfl,rfl,rfl,rfl⟩
 ·obtain ⟨v,E',rfl,hb,_,hv⟩:=hq
  rw [hv.bool_inv]
  exact ⟨rfl,⟨hb.os,hb.tape,hb.output,hb.size,fun k hk=>hb.old k hk (fun h=>h)⟩⟩
section
variable {H : Type} {enc : TypeId×Value→H}
theorem T4 {f : Func} {s : ChangeSpec} {apart fresh handsOn again : Bool} {W W' : World} {args : Array Value} {v : Value} {ds gs : List (DataW H)} {before pa pv : List MemPlace}
  (hW : DataW.Whole enc P f.params.toList s.vars apart W args.toList ds gs before)
  (hres : ∀ (b : Nat) (sp : Nat→Bool) (hd : Bool),DataW.TrodAll enc P W' b sp hd f.resultTypes.toList (v.resultList f.resultTypes.size) (s.fn H (ds ++ gs)).results [])
  (hargs : ∀ sp : Nat→Bool,(∀ p∈before,sp p.block = true)→DataW.TrodAll enc P W' 0 sp true f.params.toList args.toList (s.fn H (ds ++ gs)).args pa)
  (hvars : ∀ sp : Nat→Bool,(∀ p∈before,sp p.block = true)→DataW.TrodVars enc P W' sp s.vars (s.fn H (ds ++ gs)).vars pv)
  (hps : before = pa ++ pv) (hb : Below W.heap.size W W')
  (hok : ∀ (j : Nat) (t : TypeId) (r : Value),f.resultTypes[j]? = some t→(v.resultList f.resultTypes.size)[j]? = some r→Value.okWide P W' .any 0 t r) :
  s.post enc P f apart fresh handsOn again W args v W':=by
 have hlt : ∀ p∈before,p.block < W.heap.size:=fun p hp=>hW.lt p hp
 have hold : ∀ p∈before,(fun b=>decide (b < W.heap.size)) p.block = true:=fun p hp=>by simpa using hlt p hp
 refine ⟨ds,gs,before,[],pa,pv,hW,hres _ _ _,hargs _ hold,hvars _ hold,World.keptBut_mono (fun p hp=>⟨hp,?_⟩) (hb.frame (·∈before)),fun _=>?_⟩
 ·rw [hps,List.mem_append] at hp
  exact Or.inr hp
 ·obtain ⟨_,_,_,_,_,hz,hn⟩:=hW
  refine ⟨hok,_,_,([] ++ pa) ++ pv,⟨[] ++ pa,pv,trodAll_append (hargs _ (fun _ _=>rfl)) (hres _ _ _),hvars _ (fun _ _=>rfl),rfl,?_,?_⟩,?_⟩
  ·intro b off hp
   have hin : MemPlace.cell b off∈before:=by rw [hps]; simpa using hp
   rw [hb.frozen (hlt _ hin)]
   exact hz b off hin
  ·intro ha
   have:=hn ha
   rw [hps] at this
   simpa using this
  ·intro p hp _
   rw [hps]
   simpa using hp
theorem Le (hl : laidOutB P = true) {W W' : World} {sp : Nat→Bool} (hb : Below W.heap.size W W') : ∀ {ts : List TypeId} {vs : List Value} {ds : List (DataW H)} {ps : List MemPlace},(∀ t∈ts,P.readableRec t = true∧t < P.types.size)→
  DataW.TrodAll enc P W 0 (fun _=>true) true ts vs ds ps→(∀ p∈ps,p.block < W.heap.size)→(∀ p∈ps,sp p.block = true)→DataW.TrodAll enc P W' 0 sp true ts vs ds ps
 | [],[],[],_,_,h,_,_=>h
 | t :: ts,v :: vs,d :: ds,ps,ht,h,hlt,hs=>by
  obtain ⟨p,q,h1,h2,rfl⟩:=h
  refine ⟨p,q,WideElems.Trod_stays hl (ht t (List.mem_cons_self ..)).1 (ht t (List.mem_cons_self ..)).2 h1 (fun x hx=>hb.same (hlt x (List.mem_append_left _ hx))) (fun x hx=>hs x (List.mem_append_left _ hx)),?_,rfl⟩
  exact Le hl hb (fun t h=>ht t (List.mem_cons_of_mem _ h)) h2 (fun x hx=>hlt x (List.mem_append_right _ hx)) (fun x hx=>hs x (List.mem_append_right _ hx))
 | [],_ :: _,_,_,_,h,_,_=>h.elim
 | [],[],_ :: _,_,_,h,_,_=>h.elim
 | _ :: _,[],_,_,_,h,_,_=>h.elim
 | _ :: _,_ :: _,[],_,_,h,_,_=>h.elim
theorem Ail (hl : laidOutB P = true) {fn : Func} {s : ChangeSpec} {apart fresh handsOn again : Bool} {W W' : World} {args : Array Value} {ds gs : List (DataW H)} {before : List MemPlace} {tb : TypeId}
  (hts : ∀ t∈fn.params.toList,P.readableRec t = true∧t < P.types.size) (hv : s.vars = []) (hres : fn.resultTypes = #[tb]) (htb : P.underlying tb = some .bool)
  (hW : DataW.Whole enc P fn.params.toList s.vars apart W args.toList ds gs before) (hfn : (s.fn H (ds ++ gs)) = { results:=[.lit (.bool true)],args:=ds }) (hb : Below W.heap.size W W') :
  s.post enc P fn apart fresh handsOn again W args (.bool true) W':=by
 have hW':=hW
 obtain ⟨p,q,hA,hV,rfl,hz,hn⟩:=hW
 have hlt : ∀ x∈p ++ q,x.block < W.heap.size:=fun x hx=>hW'.lt x hx
 have hq : gs = []∧q = []:=by rw [hv] at hV; exact trodVars_none hV
 obtain ⟨rfl,rfl⟩:=hq
 refine T4 (pa:=p) (pv:=[]) hW' (fun b sp hd=>?_) (fun sp hs=>?_) (fun sp hs=>?_) (by simp) hb (ok_one hres rfl (okWide_bool_mk htb _))
 ·rw [hfn,hres]
  exact trodAll_mk1 (shut_bool htb true)
 ·rw [hfn]
  exact Le hl hb hts hA (fun x hx=>hlt x (by simp [hx])) (fun x hx=>hs x (by simp [hx]))
 ·rw [hfn,hv]
  rfl
end
theorem Afc {H : Type} {tok : TypeId×Value→H} {W : World} {ts : List TypeId} {vs : List Value} {ds : List (DataW H)} {ps : List MemPlace} (h : DataW.TrodAll tok P W 0 (fun _=>true) true ts vs ds ps) :
  ts.length = vs.length∧∀ (i : Nat) (t : TypeId) (v : Value),ts[i]? = some t→vs[i]? = some v→∃ fuel x,DataW.trod tok P W 0 (fun _=>true) true fuel t v.cells.toList = some x:=by
 induction ts generalizing vs ds ps with
 | nil=>cases vs<;>cases ds<;>first | exact h.elim | simp
 | cons t ts ih =>
  cases vs with
  | nil=>exact h.elim
  | cons v vs =>
   cases ds with
   | nil=>exact h.elim
   | cons d ds =>
    obtain ⟨p,q,⟨fuel,h1⟩,h2,_⟩:=h
    have:=ih h2
    refine ⟨by simp [this.1],fun i t' v' a b=>?_⟩
    cases i with
    | zero=>simp at a b; subst a b; exact ⟨fuel,_,h1⟩
    | succ i=>exact this.2 i t' v' (by simpa using a) (by simpa using b)
theorem Aed {I : Nat→Nat→Prop} {W : World} {s : SV} {v : Value} (hn : ∀ a,v≠.agg a) (h : ROL I W [s] v.cells.toList) : RO I W s v:=by
 cases v with
 | agg a=>exact absurd rfl (hn a)
 | _=>exact h.2.1 0 s _ rfl (by simp [Value.cells])
theorem arg_slice {I : Nat→Nat→Prop} {W : World} {r : Reach} {base : Nat} {t e : TypeId} {s : SV} {v : Value} (ht : P.underlying t = some (.slice e)) (hv : Value.okWide P W r base t v) (h : ROL I W [s] v.cells.toList) : RO I W s v:=by
 obtain ⟨a,len,cap,rfl⟩:=okWide_slice ht hv
 exact Aed (fun _ h=>by cases h) h
theorem arg_string {I : Nat→Nat→Prop} {W : World} {r : Reach} {base : Nat} {t : TypeId} {s : SV} {v : Value} (ht : P.underlying t = some .string) (hv : Value.okWide P W r base t v) (h : ROL I W [s] v.cells.toList) : RO I W s v:=by
 obtain ⟨n,rfl⟩:=okWide_string ht hv
 exact Aed (fun _ h=>by cases h) h
end
end Go.Sx
namespace Go.Proofs.YtdoogdbjiijifaaGreatDoor
open Go Go.Sx Go.RowKit Go.Sort
set_option maxRecDepth 100000
set_option maxHeartbeats 2000000
theorem idxB_ok : A2 Tryz.prog [] 239 spIdxB:=by
 refine ⟨⟨Tryz.f239,_,Tryz.func239,rfl,by kernel_rfl⟩,fun xs ls K h=>?_⟩
 obtain ⟨s,c,rfl,rfl,hc,h⟩:=h
 refine ⟨_,_,h _ rfl,Bm fun E B w vals _ _ _ hr=>?_⟩
 obtain ⟨v,u,rfl,hv,hu⟩:=D2 hr
 rw [C8 hv,Ac4 hu]
 refine (J5 ⟨s.toArray⟩ c w).mono ?_
 rintro e w' ⟨rfl,rfl⟩
 exact ⟨_,rfl,fun E=>.ro (.int rfl),Below.refl _ _⟩
def spCutSuf : FSpec:=fun _ xs ls K=>∃ (s p : List UInt8),xs = [.str s,.str p]∧ls = []∧s.length≤9223372036854775807∧∀ r b,r = Lib.trimSuffix s p→b = Lib.hasSuffix s p→K (.tup [.str r,.bool (.a b)]) []
theorem Vn : A2 Tryz.prog gl 54 spCutSuf:=by
 refine ⟨⟨Tryz.f54,_,Tryz.func54,rfl,by kernel_rfl⟩,fun xs ls K h=>?_⟩
 obtain ⟨s,p,rfl,rfl,hs,h⟩:=h
 refine ⟨_,_,h _ _ rfl rfl,Bm fun E B w vals _ _ _ hr=>?_⟩
 obtain ⟨v,u,rfl,hv,hu⟩:=D2 hr
 rw [C8 hv,C8 hu]
 refine (J6 ⟨s.toArray⟩ ⟨p.toArray⟩ w (by simpa [ByteArray.size] using hs)).mono ?_
 rintro e w' ⟨rfl,rfl⟩
 refine ⟨_,rfl,fun E=>?_,Below.refl _ _⟩
 refine .tup rfl fun i x y a b=>?_
 match i,a,b with
 | 0,a,b=>cases a; cases b; exact .ro (.str rfl)
 | 1,a,b=>cases a; cases b; exact .ro (.bool rfl)
def spCont1 : FSpec:=fun _ xs ls K=>∃ (s : List UInt8) (c : UInt8),xs = [.str s,.str [c]]∧ls = []∧∀ r,r = decide (0≤Lib.indexByte s c)→K (.bool (.a r)) []
theorem Ajk : A2 Tryz.prog gl 118 spCont1:=by
 refine ⟨⟨Tryz.f118,_,Tryz.func118,rfl,by kernel_rfl⟩,fun xs ls K h=>?_⟩
 obtain ⟨s,c,rfl,rfl,h⟩:=h
 refine ⟨_,_,h _ rfl,Bm fun E B w vals _ _ _ hr=>?_⟩
 obtain ⟨v,u,rfl,hv,hu⟩:=D2 hr
 rw [C8 hv,C8 hu]
 refine (Ib ⟨s.toArray⟩ c w).mono ?_
 rintro e w' ⟨rfl,rfl⟩
 exact ⟨_,rfl,fun E=>.ro (.bool rfl),Below.refl _ _⟩
theorem kPow : Tryz.prog.globalNamed "internal/strconv.uint64pow10" = some 4:=by kernel_rfl
theorem kErrR : Tryz.prog.globalNamed "strconv.ErrRange" = some 3:=by kernel_rfl
def fair {α : Type} : Lib.NumEnd α→Bool
 | .ok _=>true
 | .range=>true
 | _=>false
def Ae7 (s : List UInt8) : Int×Bool:=match Lib.parseIntB 64 s with
 | .ok v=>(v,true)
 | .range=>(Lib.intSat 64 s,false)
 | _=>(0,false)
structure IntS (s : List UInt8) (b z : Int) : Prop where
 b : b = 10
 z : z = 64
 len : s.length≤100000
 ok : fair (Lib.parseIntB 64 s) = true
end Go.Proofs.YtdoogdbjiijifaaGreatDoor
namespace Go.Sx
open Go Go.ChangeShapes Go.WideShapes Go.RowKit
section
variable {P : Program}
end
end Go.Sx
namespace Go.Proofs.YtdoogdbjiijifaaGreatDoor
open Go Go.Sx Go.ChangeShapes Go.WideShapes Go.RowKit
set_option maxRecDepth 100000
theorem kOwn : ownKnob Tryz.prog.godebug = none:=by kernel_rfl
theorem Aio : laidOutB Tryz.prog = true:=by kernel_rfl
abbrev Lk : List (String×DataW Unit):=[("math/bits.deBruijn32tab",Rows.laid_math_bits_deBruijn32tab),("math/bits.deBruijn64tab",Rows.laid_math_bits_deBruijn64tab),("internal/strconv.uint64pow10",Rows.laid_internal_strconv_uint64pow10),("unicode/utf8.acceptRanges",Rows.laid_unicode_utf8_acceptRanges),("strconv.ErrRange",Rows.laid_strconv_ErrRange),("strconv.ErrSyntax",Rows.laid_strconv_ErrSyntax),("unicode.CaseRanges",Rows.laid_unicode_CaseRanges),("unicode/utf8.first",Rows.laid_unicode_utf8_first)]
theorem Af9 (os : Os) : (World.holding Tryz.prog os ⟨#[],#[],[]⟩).layFits Tryz.prog Lk [] = true:=by kernel_rfl
theorem Zy (os : Os) : (World.holding Tryz.prog os ⟨#[],#[],[]⟩).layIfaces Tryz.prog Lk (World.laidAll Tryz.prog os Lk) = true:=by kernel_rfl
theorem Ajh (os : Os) (args : Array Value) : laidMetH Tryz.prog Lk ((World.laidAll Tryz.prog os Lk).forCall (fun _ _=>0) ⟨#[],args,[]⟩).memory:=by
 rw [MakeChecks.laidMetH_plain _ _ _ (by kernel_rfl)]
 exact laidMet_laidAll _ (Af9 os) (Zy os)
theorem kPowT : (Tryz.prog.globals[4]?).map (·.type) = some 284:=by kernel_rfl
theorem kPowU : Tryz.prog.underlying 284 = some (.array 20 249):=by kernel_rfl
theorem kPowE : Tryz.prog.underlying 249 = some (.int .u64):=by kernel_rfl
theorem kPowC : Tryz.prog.cellsOf 249 = 1:=by kernel_rfl
theorem kPowD : Tryz.prog.cellsOf 284 = 20:=by kernel_rfl
theorem kC9 : Tryz.prog.cellsOf 9 = 1:=by kernel_rfl
theorem kErrT : (Tryz.prog.globals[3]?).map (·.type) = some 157:=by kernel_rfl
theorem kC305 : Tryz.prog.cellsOf 305 = 1:=by kernel_rfl
theorem kStar : "*" ++ "errors.errorString" = "*errors.errorString":=by decide
theorem kRow303 (u : TypeId) (h : Tryz.prog.typeName? 3 u = some "*errors.errorString") : u = 303 :=
 typeName_ptr_named (nm:="errors.errorString") (by rw [kStar]; kernel_rfl) (by kernel_rfl) (by decide) u (by rw [kStar]; exact h)
theorem gl_of {W : World} (h : laidMetH Tryz.prog Lk W) : ∀ g s,Sx.look g gl = some s→RO (M2 W) W s (.pointer (some ⟨g,0,none⟩))∧g < W.heap.size∧Py W g s:=by
 rw [MakeChecks.laidMetH_plain _ _ _ (by kernel_rfl)] at h
 have ht : Lib.TabIs Tryz.prog W "internal/strconv.uint64pow10" .u64 Lib.pow10Tab :=
  Lib.tabIs_of_head kPow kPowT kPowU kPowE kPowC kPowD (h.tail.tail)
 obtain ⟨ea,es,he1,_,_,_⟩:=laid_sentinel h.tail.tail.tail.tail kErrR kErrT Tryz.underlying157 kRow303 Tryz.underlying303 Tryz.underlying305 rfl rfl Tryz.underlying9 kC305 kC9
 intro g s hs
 simp only [Sx.look,gl] at hs
 split at hs
 ·rename_i e
  have e : 3 = g:=by simpa using e
  subst e
  cases hs
  unfold World.var? at he1
  rw [kErrR] at he1
  simp only [Option.bind_some] at he1
  split at he1
  ·rename_i cs t fr hc
   have hcs:=Option.some.inj he1
   subst hcs
   have hlt : 3 < W.heap.size:=(Array.getElem?_eq_some_iff.1 hc).1
   refine ⟨.rarr (fun _ _=>.iface 303 (.pointer (some ea))) rfl (fun i _=>rfl) (fun i j _ _=>rfl) (fun i j hi hj=>⟨?_,hlt⟩) (fun i j s hi hs=>?_),hlt,_,t,fr,hc,rfl⟩
   ·obtain rfl : i = 0:=by omega
    obtain rfl : j = 0:=by omega
    simp [World.cell?,hc]
   ·match j,hs with
    | 0,hs =>
     have hs : some (SV.ifc (.l false)) = some s:=hs
     cases hs
     exact .ifc (.inr ⟨⟨_,_,rfl⟩,rfl⟩)
    | _ + 1,hs=>simp [Aje] at hs
  ·cases he1
 split at hs
 ·rename_i e
  have e : 4 = g:=by simpa using e
  subst e
  cases hs
  have ht2:=ht
  unfold Lib.TabIs World.var? at ht2
  rw [kPow] at ht2
  simp only [Option.bind_some] at ht2
  split at ht2
  ·rename_i cs t fr hc
   have hlt : 4 < W.heap.size:=(Array.getElem?_eq_some_iff.1 hc).1
   have hsz : cs.size = 20 * 1:=by
    rw [Option.some.inj ht2]; simp [Lib.pow10Tab_length]
   refine ⟨.rarr (fun i _=>.int .u64 (Lib.pow10Tab.getD i 0)) rfl (fun i _=>rfl) (fun i j _ _=>rfl) (fun i j hi hj=>⟨?_,hlt⟩) (fun i j s hi hs=>?_),hlt,cs,t,fr,hc,hsz⟩
   ·have:=ht.cell kPow i (by rw [Lib.pow10Tab_length]; exact hi)
    have e : 0 + (i * 1 + j) = i:=by omega
    show W.cell? ⟨4,0 + (i * 1 + j),none⟩ = _
    rw [e]; exact this
   ·match j,hs with
    | 0,hs =>
     have hs : some (SV.int .u64 (.a (Lib.pow10Tab.getD i 0))) = some s:=hs
     cases hs
     exact .int rfl
    | _ + 1,hs=>simp [Aho] at hs
  ·cases ht2
 ·cases hs
end Go.Proofs.YtdoogdbjiijifaaGreatDoor
namespace Go.Proofs.YtdoogdbjiijifaaGreatDoor
open Go Go.Sx
set_option maxRecDepth 100000
set_option maxHeartbeats 4000000
def preB (s p : List UInt8) : Bool:=decide (p.length≤s.length) && (s.take p.length == p)
def Gs (s p : List UInt8) : List UInt8:=if preB s p then s.drop p.length else s
structure Two (s p : List UInt8) : Prop where
 s : s.length≤9223372036854775807
 p : p.length≤9223372036854775807
def Xb : List UInt8:=[48,49,50,51,52,53,54,55,56,57]
def Z2 (s : List UInt8) : Bool :=
 if Gs s [45] = []∨Lib.trimS (Gs s [45]) Xb≠[] then false else ((Gs s [45]).getD 0 0 != 48) || (s == [48])
def intF (s : List UInt8) (lo hi : Int) : Int×Int :=
 if !Z2 s then (0,6) else if (Ae7 s).2 = false∨(Ae7 s).1 < lo∨hi < (Ae7 s).1 then (0,7) else ((Ae7 s).1,0)
theorem dig_in (c : UInt8) : Xb.contains c = true↔48≤c.toNat∧c.toNat≤57:=by
 have : ∀ n : Fin 256,Xb.contains (UInt8.ofNat n.1) = true↔48≤n.1∧n.1≤57:=by decide
 have h:=this ⟨c.toNat,c.toNat_lt⟩
 simpa using h
theorem Ju (p : UInt8→Bool) : ∀ l : List UInt8,(l.dropWhile p).dropWhile p = l.dropWhile p
 | []=>rfl
 | c :: r=>by
  by_cases h : p c = true
  ·rw [List.dropWhile_cons_of_pos h,Ju p r]
  ·rw [List.dropWhile_cons_of_neg h,List.dropWhile_cons_of_neg h]
theorem D6 (p : UInt8→Bool) : ∀ l : List UInt8,l.dropWhile p = []↔∀ x∈l,p x = true
 | []=>by simp
 | c :: r=>by
  by_cases h : p c = true
  ·rw [List.dropWhile_cons_of_pos h,D6 p r]
   simp [h]
  ·rw [List.dropWhile_cons_of_neg h]
   simp [h]
theorem Aep {l cs : List UInt8} (h : Lib.trimS l cs = []) : ∀ c∈l,cs.contains c = true:=by
 have h : ((l.reverse.dropWhile (fun x=>cs.contains x)).reverse).dropWhile (fun x=>cs.contains x) = []:=h
 rw [D6] at h
 have h2 : (l.reverse.dropWhile (fun x=>cs.contains x)).dropWhile (fun x=>cs.contains x) = []:=by
  rw [D6]
  exact fun x hx=>h x (List.mem_reverse.2 hx)
 rw [Ju,D6] at h2
 exact fun c hc=>h2 c (List.mem_reverse.2 hc)
structure IntA (s : List UInt8) (lo hi : Int) : Prop where
 len : s.length≤100000
def Ga (s : List UInt8) (hi : Int) : Int×Int:=if Lib.hasPrefix s [45] then (0,6) else intF s 0 hi
end Go.Proofs.YtdoogdbjiijifaaGreatDoor
namespace Go.Proofs.YtdoogdbjiijifaaGreatDoor
open Go Go.Sx
set_option maxRecDepth 100000
set_option maxHeartbeats 40000000
def mayL : List Nat:=[33,36,38,39,40,41,42,43,44,59,61,58,64,47]
def may2 (i : Nat) (c : Nat) : ST:=if c∈mayL.take i then .a 2 else .l 0
structure KaV (i : Nat) (I : Int) (f : Nat→List SV) (m : Nat) : Prop where
 I : I = i
 le : i≤14
 m : m = 14 - i
 row : ∀ c,c < 256→f c = [.int .u8 (may2 i c)]
def kd2 (n c : Nat) : ST:=if c < n∧Gz c = 1 then .a 1 else may2 14 c
structure KdV (c : Nat) (I : Int) (f : Nat→List SV) (m : Nat) : Prop where
 I : I = c
 le : c≤256
 m : m = 256 - c
 row : ∀ k,k < 256→f k = [.int .u8 (kd2 c k)]
theorem KdV.lo {c : Nat} {I : Int} {f : Nat→List SV} {m : Nat} (V : KdV c I f m) : 0≤I:=by have:=V.I; omega
theorem KdV.row1 {c : Nat} {I : Int} {f : Nat→List SV} {m : Nat} (V : KdV c I f m) (h : c < 256) : ∃ X,f c = [.int .u8 X]:=⟨_,V.row c h⟩
theorem KdV.no {c : Nat} {I : Int} {f : Nat→List SV} {m : Nat} (V : KdV c I f m) (h : c < 256) (hk : Gz c≠1) : KdV (c + 1) (dn.i (.bin .add .i64 (.a I) (.l 1))) f (256 - (c + 1)):=by
 refine ⟨?_,by omega,rfl,fun k hk2=>?_⟩
 ·have:=V.I
  show IntKind.i64.wrap (I + 1) = _
  rw [Bl (by omega) (by omega)]; omega
 ·rw [V.row k hk2]
  unfold kd2
  have : (k < c∧Gz k = 1)↔(k < c + 1∧Gz k = 1):=by
   constructor
   ·rintro ⟨a,b⟩; exact ⟨by omega,b⟩
   ·rintro ⟨a,b⟩
    refine ⟨?_,b⟩
    rcases Nat.lt_or_ge k c with h | h
    ·exact h
    ·obtain rfl : k = c:=by omega
     exact absurd b hk
  simp only [this]
structure FlOk (fl : Nat→List SV) : Prop where
 h : ∀ j,j < 14→fl j = [.int .u8 (.a ((mayL.getD j 0 : Nat) : Int))]
structure VI (vi : Int) (v : Nat) : Prop where
 h : vi = (v : Int)
end Go.Proofs.YtdoogdbjiijifaaGreatDoor
namespace Go.Proofs.YtdoogdbjiijifaaGreatDoor
open Go Go.Sx
set_option maxRecDepth 100000
set_option maxHeartbeats 8000000
def Dq (c : Int) : Int:=if 48≤c∧c≤57 then c - 48 else if 65≤c∧c≤70 then c - 55 else if 97≤c∧c≤102 then c - 87 else -1
theorem Aen (c : Int) : -1≤Dq c∧Dq c≤15:=by
 unfold Dq
 split
 ·omega
 ·split
  ·omega
  ·split<;>omega
def Aiw (s : List UInt8) (i : Nat) : Prop:=i + 2 < s.length∧charI s i = 37∧0≤Dq (charI s (i + 1))∧0≤Dq (charI s (i + 2))
instance (s : List UInt8) (i : Nat) : Decidable (Aiw s i):=by unfold Aiw; exact inferInstance
def S9 (s : List UInt8) (i : Nat) : Bool:=decide (Aiw s i)
def escV (s : List UInt8) (i : Nat) : Int:=if Aiw s i then 16 * Dq (charI s (i + 1)) + Dq (charI s (i + 2)) else 0
end Go.Proofs.YtdoogdbjiijifaaGreatDoor
namespace Go.Proofs.YtdoogdbjiijifaaGreatDoor
open Go Go.Sx
set_option maxRecDepth 100000
set_option maxHeartbeats 16000000
def Jy (s : List UInt8) (i e : Nat) : Option Nat :=
 if h : i < s.length then
  if S9 s i then Jy s (i + 3) e
  else if charI s i = 63 then Jy s (i + 1) (min e i)
  else if Gz (charI s i).toNat = 0 then none
  else Jy s (i + 1) e
 else some e
 termination_by s.length - i
def R8 (s : List UInt8) : Int×Int :=
 if 500 < s.length then (0,3) else if !Lib.hasPrefix s [47] then (0,6) else match Jy s 0 s.length with
  | some e=>((e : Int),0)
  | none=>(0,6)
structure KRow (f : Nat→List SV) : Prop where
 h : ∀ i,i < 256→f i = [.int .u8 (.a (Gz i))]
structure OrgJ (s : List UInt8) (k : Option Nat) (i e : Nat) (I E : Int) (m : Nat) : Prop where
 lie : At s i I m
 E : E = e
 k : k = Jy s i e
 len : s.length≤500
theorem Ahy {s : List UInt8} {i e : Nat} (h : i < s.length) (h1 : S9 s i = true) : Jy s i e = Jy s (i + 3) e:=by
 rw [Jy,dif_pos h,if_pos h1]
theorem Afb {s : List UInt8} {i e : Nat} (h : i < s.length) (h1 : S9 s i = false) (h2 : charI s i = 63) : Jy s i e = Jy s (i + 1) (min e i):=by
 rw [Jy,dif_pos h,if_neg (by simp [h1]),if_pos h2]
theorem Ahz {s : List UInt8} {i e : Nat} (h : i < s.length) (h1 : S9 s i = false) (h2 : charI s i≠63) (h3 : Gz (charI s i).toNat = 0) : Jy s i e = none:=by
 rw [Jy,dif_pos h,if_neg (by simp [h1]),if_neg h2,if_pos h3]
theorem Afa {s : List UInt8} {i e : Nat} (h : i < s.length) (h1 : S9 s i = false) (h2 : charI s i≠63) (h3 : Gz (charI s i).toNat≠0) : Jy s i e = Jy s (i + 1) e:=by
 rw [Jy,dif_pos h,if_neg (by simp [h1]),if_neg h2,if_neg h3]
end Go.Proofs.YtdoogdbjiijifaaGreatDoor
namespace Go.Proofs.YtdoogdbjiijifaaGreatDoor
open Go Go.Sx
set_option maxRecDepth 100000
set_option maxHeartbeats 16000000
def Lu (s : List UInt8) : List UInt8×List UInt8×Bool×Int :=
 if (R8 s).2≠0 then ([],[],false,(R8 s).2) else if (R8 s).1≠(Ap 63 s).1.length then ([],[],false,6) else ((Ap 63 s).1,(Ap 63 s).2.1,(Ap 63 s).2.2,0)
theorem Ah0 {s : List UInt8} (h : (R8 s).2 = 0) : s.length≤500:=by
 unfold R8 at h
 split at h
 ·cases h
 ·omega
def Aga : List UInt8:=[48,49,50,51,52,53,54,55,56,57,65,66,67,68,69,70]
def escO (v : Int) : List UInt8:=if Gz v.toNat = 1 then [UInt8.ofNat v.toNat] else [37,Aga.getD (v.toNat / 16) 0,Aga.getD (v.toNat % 16) 0]
def normL (s : List UInt8) (i : Nat) : List UInt8 :=
 if h : i < s.length then if S9 s i then escO (escV s i) ++ normL s (i + 3) else s.getD i 0 :: normL s (i + 1) else []
 termination_by s.length - i
structure A8 (f : Nat→List SV) (n : Int) (t : List UInt8) : Prop where
 n : n = t.length
 f : ∀ i,i < t.length→f i = [.int .u8 (.a ((t.getD i 0).toNat : Int))]
theorem A8.more {f f' g : Nat→List SV} {n n' m : Int} {t u : List UInt8} (R : A8 f n t) (hm : m = u.length) (hg : ∀ i,i < u.length→g i = [.int .u8 (.a ((u.getD i 0).toNat : Int))]) (h : Hq f' n' n m f g) : A8 f' n' (t ++ u):=by
 have hn:=R.n
 refine ⟨by rw [h.len,hn,hm,List.length_append]; omega,fun i hi=>?_⟩
 rw [List.length_append] at hi
 rw [List.getD_eq_getElem?_getD,List.getElem?_append]
 split
 ·rename_i h1
  rw [h.lo i (by omega),R.f i h1,List.getD_eq_getElem?_getD]
 ·rename_i h1
  rw [h.hi i (i - t.length) (by omega) (by omega),hg _ (by omega),List.getD_eq_getElem?_getD]
theorem A8.str {f : Nat→List SV} {n : Int} {t r : List UInt8} (R : A8 f n t) (h : Jk r n f) : r = t:=by
 have hn:=R.n
 have hl : r.length = t.length:=by have:=h.len; omega
 refine List.ext_getElem hl fun i h1 h2=>?_
 have:=h.row i _ (by omega) (R.f i h2)
 have h5 : ((r.getD i 0).toNat : Int) = ((t.getD i 0).toNat : Int):=this
 have this : (r.getD i 0).toNat = (t.getD i 0).toNat:=by omega
 rw [List.getD_eq_getElem?_getD,List.getElem?_eq_getElem h1,List.getD_eq_getElem?_getD,List.getElem?_eq_getElem h2] at this
 exact UInt8.toNat_inj.1 this
theorem A8.byte {f : Nat→List SV} {n : Int} {t : List UInt8} (R : A8 f n t) : Ey n f:=by
 refine ⟨by rw [R.n]; omega,fun i hi=>⟨_,R.f i (by have:=R.n; omega),?_,?_⟩⟩
 ·show (0 : Int)≤((t.getD i 0).toNat : Int); omega
 ·have:=(t.getD i 0).toNat_lt; show ((t.getD i 0).toNat : Int) < 256; omega
structure NoJ (s k t : List UInt8) (i : Nat) (I n : Int) (f : Nat→List SV) (m : Nat) : Prop where
 lie : At s i I m
 row : A8 f n t
 k : k = t ++ normL s i
 le : t.length≤i
 len : s.length≤100000
theorem toNat8 : ∀ q : Fin 256,(UInt8.ofNat q.1).toNat = q.1:=by decide
end Go.Proofs.YtdoogdbjiijifaaGreatDoor
namespace Go.Proofs.YtdoogdbjiijifaaGreatDoor
open Go Go.Sx
set_option maxRecDepth 100000
set_option maxHeartbeats 4000000
theorem A8.sub {f f' : Nat→List SV} {n n' : Int} {t : List UInt8} {a b : Nat} {A B : Int} (R : A8 f n t) (h : Ajw f' n' f A B) (hA : A = a) (hB : B = b) (hab : a≤b) (hb : b≤t.length) : A8 f' n' ((t.drop a).take (b - a)):=by
 refine ⟨by rw [h.len,hA,hB,List.length_take,List.length_drop]; omega,fun i hi=>?_⟩
 rw [List.length_take,List.length_drop] at hi
 rw [h.row i (i + a) (by rw [hA]; omega),R.f (i + a) (by omega)]
 rw [List.getD_eq_getElem?_getD,List.getD_eq_getElem?_getD,List.getElem?_take,if_pos (by omega),List.getElem?_drop,Nat.add_comm a i]
theorem O7 (c : UInt8) (s : List UInt8) : (Ap c s).1.length≤s.length∧(Ap c s).2.1.length≤s.length:=by
 induction s with
 | nil=>exact ⟨Nat.le_refl _,Nat.le_refl _⟩
 | cons b r ih=>unfold Ap; split<;>simp<;>omega
def rVer : List UInt8:=[32,72,84,84,80,47,49,46,49,13,10]
def Qv (is both : Bool) (m t : List UInt8) (has : Bool) : Bool:=(((!is || !both) || m == []) || t == []) || has
def Cw (b : List UInt8) : List UInt8×List UInt8×Int×Int :=
 if !(Ap 10 (b.take 1024)).2.2 && decide (b.length < 1024) then ([],[],0,10) else if !(Ap 10 (b.take 1024)).2.2 then ([],[],0,3) else
 if Qv (Lib.hasSuffix ((Ap 10 (b.take 1024)).1 ++ [10]) rVer) (Ap 32 (Lib.trimSuffix ((Ap 10 (b.take 1024)).1 ++ [10]) rVer)).2.2 (Ap 32 (Lib.trimSuffix ((Ap 10 (b.take 1024)).1 ++ [10]) rVer)).1 (Ap 32 (Lib.trimSuffix ((Ap 10 (b.take 1024)).1 ++ [10]) rVer)).2.1 (decide (0≤Lib.indexByte (Ap 32 (Lib.trimSuffix ((Ap 10 (b.take 1024)).1 ++ [10]) rVer)).2.1 32)) then ([],[],0,6) else
 ((Ap 32 (Lib.trimSuffix ((Ap 10 (b.take 1024)).1 ++ [10]) rVer)).1,(Ap 32 (Lib.trimSuffix ((Ap 10 (b.take 1024)).1 ++ [10]) rVer)).2.1,((Ap 10 (b.take 1024)).1.length : Int) + 1,0)
end Go.Proofs.YtdoogdbjiijifaaGreatDoor
namespace Go.Proofs.YtdoogdbjiijifaaGreatDoor
open Go Go.Sx
set_option maxRecDepth 100000
set_option maxHeartbeats 8000000
def Ip (s : List UInt8) : Bool:=decide (s.length≤16) && Bj s
def R6 (t : List UInt8) : Bool:=t == [104,111,115,116] || (t == [120,45,114,101,113,117,101,115,116,45,105,100] || (t == [99,111,110,116,101,110,116,45,108,101,110,103,116,104] || t == [116,114,97,110,115,102,101,114,45,101,110,99,111,100,105,110,103]))
def hostSet : List UInt8:=[97,98,99,100,101,102,103,104,105,106,107,108,109,110,111,112,113,114,115,116,117,118,119,120,121,122,48,49,50,51,52,53,54,55,56,57,45,46,58]
def Aiu (s : List UInt8) : Bool:=s != [] && (decide (s.length≤100) && (Lib.trimS s hostSet == []))
def Aec (s : List UInt8) : Bool:=if s = [71,69,84] then true else if s = [72,69,65,68] then true else if s = [79,80,84,73,79,78,83] then false else if s = [84,82,65,67,69] then true else if s = [80,85,84] then false else if s = [68,69,76,69,84,69] then false else false
end Go.Proofs.YtdoogdbjiijifaaGreatDoor
namespace Go.Proofs.YtdoogdbjiijifaaGreatDoor
open Go Go.Sx Go.RowKit
set_option maxRecDepth 100000
set_option maxHeartbeats 2000000
theorem Uu {P : Program} {b : Bool} {gl : List (Nat×SV)} {f : FuncId} {xs : List SV} {W : World} {args : List Value} (h : Gl P gl f xs [] (.bool (.a b)) [])
  (hgl : ∀ g s,Sx.look g gl = some s→RO (M2 W) W s (.pointer (some ⟨g,0,none⟩))∧g < W.heap.size∧Py W g s) (hl : xs.length = args.length) (hr : ∀ (i : Nat) (s : SV) (v : Value),xs[i]? = some s→args[i]? = some v→RO (M2 W) W s v) :
  Calls P f ⟨args⟩ W fun e W'=>e = .returned (.bool b)∧Below W.heap.size W W':=by
 refine (h ⟨W,fun _=>False,M2 W,fun _=>none,fun _=>none,fun _=>none,[]⟩ ⟨fun _=>none,fun _=>none,fun _=>none,fun _=>none,fun _=>none,M2 W⟩ W args rfl (fun _ _ h=>h) (fun _ h=>absurd h (by simp)) ⟨rfl,rfl,rfl,Nat.le_refl _,fun _ _ _=>rfl,fun _ _ h=>⟨h,rfl⟩,fun _ _ h=>h,fun _ _ h=>.inl h,fun _ _ h=>(by cases h),⟨fun _ _ h=>(by cases h),fun _ _ h=>(by cases h),fun _ _ h=>(by cases h)⟩⟩ (fun g s h=>⟨(hgl g s h).1,(hgl g s h).2.1,fun h=>h,(hgl g s h).2.2⟩) (fun h=>?_) ⟨hl,fun i s v a b=>.ro (hr i s v a b)⟩).mono fun e W' hq=>?_
 ·simp only [Ao,nth]
  exact ⟨rfl,rfl,rfl,rfl⟩
 ·obtain ⟨v,E',rfl,hb,_,hv⟩:=hq
  rw [hv.bool_inv]
  exact ⟨rfl,⟨hb.os,hb.tape,hb.output,hb.size,fun k hk=>hb.old k hk (fun h=>h)⟩⟩
def Hc (x : Nat) : Bool:=decide (x≠9) && (decide (x < 32) || decide (126 < x))
def okB (c : UInt8) : Bool:=decide (c.toNat = 9) || (decide (32≤c.toNat) && decide (c.toNat≤126))
def Ci (s : List UInt8) : Bool:=s.all okB
def spRune : FSpec:=fun _ xs ls K=>∃ (x : Nat),xs = [.int .i32 (.a (x : Int))]∧ls = []∧∀ r,r = Hc x→K (.bool (.a r)) []
theorem rune_ok : A2 Tryz.prog [] 171 spRune:=by
 refine Dg (gh:=[]) mixed Dp Aw Tryz.func171 (by kernel_rfl) (by kernel_rfl) ?_
 intro xs ls K h
 unfold spRune at h
 obtain ⟨x,rfl,rfl,h⟩:=h
 obtain ⟨k,hk⟩ : ∃ k,k = Hc x:=⟨_,rfl⟩
 refine ⟨_,_,h k hk,fun D hD=>?_⟩
 clear h
 cbv
 refine Bg hD ?_
 rw [hk]
 have e1 : ((x : Int) = 9)↔x = 9:=by omega
 have e2 : ((x : Int) < 32)↔x < 32:=by omega
 have e3 : ((126 : Int) < x)↔126 < x:=by omega
 simp only [BT.den,B6,ST.den,Hc]
 rw [Bool.eq_iff_iff]
 simp only [Bool.and_eq_true,Bool.or_eq_true,bne_iff_ne,decide_eq_true_eq,Int.ofNat_eq_natCast]
 constructor
 ·rintro ⟨h1,h2⟩
  exact ⟨fun e=>h1 (e1.2 e),h2.imp (fun e=>e2.1 (of_decide_eq_true e)) (fun e=>e3.1 (of_decide_eq_true e))⟩
 ·rintro ⟨h1,h2⟩
  exact ⟨fun e=>h1 (e1.1 e),h2.imp (fun e=>decide_eq_true (e2.2 e)) (fun e=>decide_eq_true (e3.2 e))⟩
theorem Adf (c : UInt8) : okB c = !Hc c.toNat:=by
 unfold okB Hc
 by_cases h1 : c.toNat = 9<;>by_cases h2 : c.toNat < 32<;>by_cases h3 : 126 < c.toNat<;>simp [h1,h2,h3]<;>omega
theorem Sw (s : ByteArray) : ∀ (f pos : Nat),s.size≤pos + f→decide (0≤Lib.idxFuncFrom Hc true s f pos) = !((s.data.toList.drop pos).all okB)
 | 0,pos,h=>by
  have : s.data.toList.drop pos = []:=List.drop_eq_nil_of_le (show s.data.toList.length≤pos from h)
  rw [this]; rfl
 | f + 1,pos,h=>by
  unfold Lib.idxFuncFrom
  by_cases hp : pos < s.size
  ·have hp' : pos < s.data.toList.length:=hp
   have hd : s.data.toList.drop pos = s[pos]'hp :: s.data.toList.drop (pos + 1):=by
    rw [List.drop_eq_getElem_cons hp']; rfl
   rw [if_pos hp,hd,List.all_cons]
   by_cases ha : (s[pos]'hp).toNat < 128
   ·rw [decode_ascii s pos hp ha]
    have ih:=Sw s f (pos + 1) (by omega)
    have hb:=Adf (s[pos]'hp)
    by_cases hr : Hc (s[pos]'hp).toNat = true
    ·rw [if_pos hr,hb,hr]; simp
    ·rw [if_neg hr,hb,ih]
     simp only [Bool.not_eq_true] at hr
     rw [hr]; simp
   ·obtain ⟨d1,_⟩:=decode_high s pos hp (by omega)
    have hr : Hc (Utf8.decode s pos).1 = true:=by
     unfold Hc
     simp; omega
    have hb : okB (s[pos]'hp) = false:=by
     rw [Adf]
     simp only [Hc]
     simp; omega
    rw [if_pos hr,hb]; simp
  ·rw [if_neg hp]
   have : s.data.toList.drop pos = []:=List.drop_eq_nil_of_le (show s.data.toList.length≤pos from Nat.not_lt.1 hp)
   rw [this]; rfl
def spPlainH : FSpec:=fun _ xs ls K=>∃ (s : List UInt8),xs = [.str s]∧ls = []∧∀ r,r = Ci s→K (.bool (.a r)) []
def spHasR : FSpec:=fun _ xs ls K=>∃ (s : List UInt8),xs = [.str s,.fn 171]∧ls = []∧∀ r,r = !Ci s→K (.bool (.a r)) []
theorem Agl : ∀ args w,(callFunc 171 args).run Tryz.prog w = .ok (.enter 171 args) w:=enters_of Tryz.func171 (by kernel_rfl) rfl
theorem Aa7 (w : World) : PredGrows Tryz.prog 171 #[] Hc w:=by
 intro W x _ _
 obtain ⟨r,ls',⟨hr,hl⟩,hc⟩:=rune_ok.2 [.int .i32 (.a (x : Int))] [] (fun r ls'=>r = .bool (.a (Hc x))∧ls' = []) ⟨x,rfl,rfl,fun r hr=>by rw [hr]; exact ⟨rfl,rfl⟩⟩
 subst hr hl
 refine Uu (gl:=[]) hc (fun g s h=>by simp [Sx.look] at h) (by simp [encR]) fun i s v a b=>?_
 cases i with
 | zero=>simp [encR] at a b; subst a b; exact .int rfl
 | succ i=>simp at a
theorem hasR_ok : A2 Tryz.prog gl 170 spHasR:=by
 refine ⟨⟨Tryz.f170,_,Tryz.func170,rfl,by kernel_rfl⟩,fun xs ls K h=>?_⟩
 obtain ⟨s,rfl,rfl,h⟩:=h
 refine ⟨_,_,h _ rfl,Bm fun E B w vals _ _ _ hr=>?_⟩
 obtain ⟨v,g,rfl,hu,hgv⟩:=D2 hr
 rw [C8 hu,hgv.fn_inv]
 refine (Fo 171 #[] Agl Hc (Sx.bytes s) w (Aa7 w)).mono ?_
 rintro e w' ⟨rfl,hB⟩
 refine ⟨_,rfl,fun E=>.ro (.bool ?_),hB⟩
 have:=Sw (Sx.bytes s) (Sx.bytes s).size 0 (by omega)
 show (!Ci s) = _
 rw [Lib.idxFunc,this]; rfl
theorem Va : A2 Tryz.prog gl 120 spPlainH:=by
 refine Dg (gh:=[]) mixed Dp (Ah hasR_ok Aw) Tryz.func120 (by kernel_rfl) (by kernel_rfl) ?_
 intro xs ls K h
 unfold spPlainH at h
 obtain ⟨s,rfl,rfl,h⟩:=h
 obtain ⟨k,hk⟩ : ∃ k,k = Ci s:=⟨_,rfl⟩
 refine ⟨_,_,h k hk,fun D hD=>?_⟩
 clear h
 cbv
 refine ⟨s,rfl,rfl,fun r hr=>?_⟩
 cbv
 refine Bg hD ?_
 rw [hk,←Bool.not_not (Ci s),←hr]
 simp [BT.den]
end Go.Proofs.YtdoogdbjiijifaaGreatDoor
