/- Part of the proofs of the statements about responses and messages (layers 9 and 10): a symbolic executor over the code, that it is sound, and contracts of functions; it has no conditions of its own. -/
import Derived.ProofKit
import Derived.Below
import Derived.Carry
import Derived.ChangeOld
import Derived.ChangeArms
import Derived.OpenShut
import Derived.MakeChecks
import Derived.Shelf.Bytes.SlIndexAt
import Derived.Test.YtdoogdbjiijifaaGreatDoorCards
import Derived.Test.YtdoogdbjiijifaaGreatDoorTie
import Derived.LaidLaws
import Derived.LaidHandle
import Derived.LaidMore
import Derived.Lay
import Derived.Stop.Joined
import Derived.Stop.LaidErr
import Derived.Lib.SmallJoins
import Derived.Test.YtdoogdbjiijifaaGreatDoorE4Pav
import Derived.Test.YtdoogdbjiijifaaGreatDoorE4Pay
import Derived.Test.YtdoogdbjiijifaaGreatDoorE4Paw
namespace Go.Sx
open Go Go.ChangeShapes Go.WideShapes Go.RowKit
def Kg (W : World) : Nat->Nat->Prop:=fun b _=>b < W.heap.size
def ROL (I : Nat->Nat->Prop) (w : World) (cs : List SV) (vs : List Value) : Prop:=cs.length = vs.length/\(∀ (i : Nat) (s : SV) (v : Value),cs[i]? = some s->vs[i]? = some v->RO I w s v)/\∀ v∈vs,v.oneCell' = true
theorem ROL.one {I : Nat->Nat->Prop} {w : World} {s : SV} {v : Value} (h : RO I w s v) (h1 : v.oneCell' = true) : ROL I w [s] [v] :=
 ⟨rfl,fun i s' v' a b=>by cases i with | zero=>simp at a b; subst a b; exact h | succ i=>simp at a,by simpa using h1⟩
theorem ROL.nil {I : Nat->Nat->Prop} {w : World} : ROL I w [] []:=⟨rfl,by simp,by simp⟩
theorem ROL.app {I : Nat->Nat->Prop} {w : World} {cs cs' : List SV} {vs vs' : List Value} (h : ROL I w cs vs) (h' : ROL I w cs' vs') : ROL I w (cs ++ cs') (vs ++ vs'):=by
 refine ⟨by simp [h.1,h'.1],fun i s v a b=>?_,fun v hv=>?_⟩
 ·rw [List.getElem?_append] at a b
  rw [h.1] at a
  split at a
  ·rename_i hi
   rw [if_pos hi] at b
   exact h.2.1 i s v a b
  ·rename_i hi
   rw [if_neg hi] at b
   exact h'.2.1 _ s v a b
 ·rcases List.mem_append.1 hv with hv | hv
  ·exact h.2.2 v hv
  ·exact h'.2.2 v hv
section
variable {P : Program}
def Dx (P : Program) (t : TypeId) {α : Type} (enc : α->List SV) : Prop :=
 ∀ (H : Type) (tok : TypeId×Value->H) (W : World) (spare : Nat->Bool) (held : Bool) (fuel : Nat) (cs : List Value) (x : DataW H×List MemPlace),DataW.trod tok P W 0 spare held fuel t cs = some x->∃ a,ROL (Kg W) W (enc a) cs
theorem Dx.int {t : TypeId} {k : IntKind} (ht : P.underlying t = some (.int k)) : Dx P t (fun n : Int=>[.int k (.a n)]):=by
 intro H tok W spare held fuel cs x h
 obtain ⟨n,rfl,_,_⟩:=DataW.trod_int ht h
 exact ⟨n,.one (.int rfl) rfl⟩
theorem Dx.intB {t : TypeId} {k : IntKind} (ht : P.underlying t = some (.int k)) : Dx P t (fun n : {n : Int // (Lit.int k n).wf = true}=>[.int k (.a n.1)]):=by
 intro H tok W spare held fuel cs x h
 obtain ⟨n,rfl,_,hw⟩:=DataW.trod_int ht h
 exact ⟨⟨n,hw⟩,.one (.int rfl) rfl⟩
theorem Dx.bool {t : TypeId} (ht : P.underlying t = some .bool) : Dx P t (fun b : Bool=>[.bool (.a b)]):=by
 intro H tok W spare held fuel cs x h
 obtain ⟨n,rfl,_⟩:=DataW.trod_bool ht h
 exact ⟨n,.one (.bool rfl) rfl⟩
theorem Dx.str {t : TypeId} (ht : P.underlying t = some .string) : Dx P t (fun s : {s : List UInt8 // s.length<=maxLen}=>[.str s.1]):=by
 intro H tok W spare held fuel cs x h
 obtain ⟨s,rfl,_,hs⟩:=DataW.trod_string ht h
 exact ⟨⟨s.data.toList,by simpa using hs⟩,.one (.str (by simp [bytes])) rfl⟩
theorem Dx.map {t : TypeId} {α β : Type} {enc : α->List SV} {enc' : β->List SV} (h : Dx P t enc) (f : α->β) (hf : ∀ a,enc' (f a) = enc a) : Dx P t enc':=by
 intro H tok W spare held fuel cs x hx
 obtain ⟨a,ha⟩:=h H tok W spare held fuel cs x hx
 exact ⟨f a,by rw [hf]; exact ha⟩
theorem Wq {W : World} {base : Nat} {a : Addr} {n : Nat} {cs : List Value} (h : W.cells? base a n = some cs) : cs.length = n/\∀ i,i < n->W.cell? (a.add i) = cs[i]?:=by
 unfold World.cells? at h
 split at h
 ·have h2:=mapM_some_get h
  have h1 : cs.length = n:=by simpa using mapM_some_length h
  refine ⟨h1,fun i hi=>?_⟩
  exact h2 i i (by simp [hi])
 ·cases h
theorem Rh {W : World} {b o : Nat} {sp : Option Nat} {v : Value} (h : W.cell? ⟨b,o,sp⟩ = some v) : b < W.heap.size/\sp = none:=by
 unfold World.cell? at h
 split at h
 ·rename_i c _ _ hc
  split at h
  ·cases h
  ·rename_i hs
   exact ⟨(Array.getElem?_eq_some_iff.1 hc).1,by cases sp<;>simp at hs ⊢⟩
 ·cases h
def Kf {α : Type} (enc : α->List SV) (l : List α) (i : Nat) : List SV:=match l[i]? with
 | some a=>enc a
 | none=>[]
def slC {α : Type} (sz : Nat) (enc : α->List SV) (x : Bool×List α) : List SV:=[.sl (.a x.1) (.a x.2.length) sz (Kf enc x.2)]
theorem Dx.slice {t e : TypeId} {α : Type} {sz : Nat} {enc : α->List SV} (ht : P.underlying t = some (.slice e)) (hz : P.cellsOf e = sz) (h0 : 0 < sz) (he : Dx P e enc) : Dx P t (fun x : {x : Bool×List α // x.1 = true->x.2 = []}=>slC sz enc x.1):=by
 intro H tok W spare held fuel cs x h
 rcases DataW.trod_slice ht h with ⟨rfl,_⟩ | ⟨a,len,cap,elems,rest,n,_,rfl,_,_,hle,hcap,hlen,hel,_,_⟩
 ·exact ⟨⟨(true,[]),fun _=>rfl⟩,.one (.slnil rfl rfl) rfl⟩
 ·rw [hz] at hel
  have key : ∀ i,i < len->∃ (al : α) (vs : List Value),ROL (Kg W) W (enc al) vs/\vs.length = sz/\∀ j,j < sz->W.cell? ((a.add (i * sz)).add j) = vs[j]?:=by
   intro i hi
   have h1:=hel i hi
   rw [List.getElem?_eq_getElem (by omega)] at h1
   cases hc : W.cells? 0 (a.add (i * sz)) sz with
   | none=>rw [hc] at h1; cases h1
   | some vs =>
    rw [hc] at h1
    obtain ⟨al,hal⟩:=he H tok W _ _ _ vs _ h1
    have hg:=Wq hc
    exact ⟨al,vs,hal,hg.1,hg.2⟩
  have gen : ∀ len : Nat,(∀ i,i < len->∃ (al : α) (vs : List Value),ROL (Kg W) W (enc al) vs/\vs.length = sz/\∀ j,j < sz->W.cell? ((a.add (i * sz)).add j) = vs[j]?)->∃ (l : List α) (g : Nat->Nat->Value),l.length = len/\∀ i al,l[i]? = some al->(enc al).length = sz/\(∀ j,j < sz->W.cell? ((a.add (i * sz)).add j) = some (g i j)/\(g i j).oneCell' = true)/\∀ j s,(enc al)[j]? = some s->RO (Kg W) W s (g i j):=by
   clear key hel hlen hcap hle h
   intro len key
   induction len with
   | zero=>exact ⟨[],fun _ _=>undef,rfl,by simp⟩
   | succ len ih =>
    obtain ⟨l,g,hl,hg⟩:=ih (fun i hi=>key i (by omega))
    obtain ⟨al,vs,k1,k2,k3⟩:=key len (by omega)
    refine ⟨l ++ [al],fun i j=>if i = len then vs.getD j undef else g i j,by simp [hl],fun i al' hi=>?_⟩
    rw [List.getElem?_append] at hi
    split at hi
    ·rename_i hlt
     have hne : i≠len:=by omega
     obtain ⟨g1,g2,g3⟩:=hg i al' hi
     exact ⟨g1,fun j hj=>by simpa only [if_neg hne] using g2 j hj,fun j s hs=>by simpa only [if_neg hne] using g3 j s hs⟩
    ·rename_i hlt
     have hil : i = len:=by
      have:=(List.getElem?_eq_some_iff.1 hi).1
      simp at this; omega
     subst hil
     have h00 : i - l.length = 0:=by omega
     rw [h00] at hi
     simp at hi
     subst hi
     refine ⟨by rw [k1.1,k2],fun j hj=>?_,fun j s hs=>?_⟩
     ·simp only [if_pos]
      have hjv : vs[j]? = some vs[j]:=List.getElem?_eq_getElem (by omega)
      rw [k3 j hj,hjv]
      simp only [List.getD_eq_getElem?_getD,hjv,Option.getD_some,true_and]
      exact k1.2.2 _ (List.getElem_mem _)
     ·simp only [if_pos]
      have hjl : j < vs.length:=by rw [<-k1.1]; exact (List.getElem?_eq_some_iff.1 hs).1
      have hjv : vs[j]? = some vs[j]:=List.getElem?_eq_getElem hjl
      simp only [List.getD_eq_getElem?_getD,hjv,Option.getD_some]
      exact k1.2.1 j s _ hs hjv
  obtain ⟨l,g,hl,hg⟩:=gen len key
  have hspot : 0 < len->a.spot = none:=fun hpos=>by
   obtain ⟨al,hal⟩ : ∃ al,l[0]? = some al:=⟨_,List.getElem?_eq_getElem (by omega)⟩
   obtain ⟨_,g2,_⟩:=hg 0 al hal
   have:=(g2 0 h0).1
   obtain ⟨b,o,sp⟩:=a
   simp only [Nat.zero_mul,Addr.add,if_pos] at this
   exact (Rh this).2
  refine ⟨⟨(false,l),fun h=>by cases h⟩,.one (.sl g rfl (by simp [ST.den,hl]) hle hcap hspot (fun i hi=>?_) (fun i j hi hj=>?_) (fun i j hi hj=>?_) (fun i j s hi hs=>?_)) rfl⟩
  ·obtain ⟨al,hal⟩ : ∃ al,l[i]? = some al:=⟨_,List.getElem?_eq_getElem (by omega)⟩
   simp only [Kf,hal]
   exact (hg i al hal).1
  ·obtain ⟨al,hal⟩ : ∃ al,l[i]? = some al:=⟨_,List.getElem?_eq_getElem (by omega)⟩
   exact ((hg i al hal).2.1 j hj).2
  ·obtain ⟨al,hal⟩ : ∃ al,l[i]? = some al:=⟨_,List.getElem?_eq_getElem (by omega)⟩
   have hc:=((hg i al hal).2.1 j hj).1
   have e : (a.add (i * sz)).add j = ⟨a.block,a.off + (i * sz + j),none⟩:=by
    have hs:=hspot (by omega)
    obtain ⟨b,o,sp⟩:=a
    simp only at hs
    subst hs
    simp only [add_lit]
    congr 1
    omega
   rw [e] at hc
   exact ⟨hc,(Rh hc).1⟩
  ·obtain ⟨al,hal⟩ : ∃ al,l[i]? = some al:=⟨_,List.getElem?_eq_getElem (by omega)⟩
   simp only [Kf,hal] at hs
   exact (hg i al hal).2.2 j s hs
def Wv (P : Program) (fs : List (Nat×TypeId)) (o len : Nat) {α : Type} (enc : α->List SV) : Prop :=
 ∀ (H : Type) (tok : TypeId×Value->H) (W : World) (spare : Nat->Bool) (held : Bool) (cs : List Value),cs.length = o + len->(∀ p∈fs,∃ fuel x,DataW.trod tok P W 0 spare held fuel p.2 ((cs.drop p.1).take (P.cellsOf p.2)) = some x)->∃ a,ROL (Kg W) W (enc a) (cs.drop o)
theorem Wv.nil {o : Nat} : Wv P [] o 0 (fun _ : Unit=>[]):=by
 intro H tok W spare held cs hl _
 rw [List.drop_of_length_le (by omega)]
 exact ⟨(),.nil⟩
theorem Wv.cons {fs : List (Nat×TypeId)} (o n len : Nat) {t : TypeId} {α β : Type} {enc : α->List SV} {enc' : β->List SV} (hn : P.cellsOf t = n) (h : Dx P t enc) (hs : Wv P fs (o + n) len enc') : Wv P ((o,t) :: fs) o (n + len) (fun x : α×β=>enc x.1 ++ enc' x.2):=by
 intro H tok W spare held cs hl hx
 obtain ⟨fuel,x,h1⟩:=hx (o,t) (List.mem_cons_self ..)
 simp only [hn] at h1
 obtain ⟨a,ha⟩:=h H tok W _ _ _ _ _ h1
 obtain ⟨b,hb⟩:=hs H tok W spare held cs (by omega) fun p hp=>hx p (List.mem_cons_of_mem _ hp)
 refine ⟨(a,b),?_⟩
 have e : cs.drop o = (cs.drop o).take n ++ cs.drop (o + n):=by rw [<-List.drop_drop,List.take_append_drop]
 rw [e]
 exact ha.app hb
theorem Dx.struct {t : TypeId} {fields : Array Field} {fs : List (Nat×TypeId)} {len : Nat} {α : Type} {enc : α->List SV} (ht : P.underlying t = some (.struct fields)) (hfs : (fields.toList.map fun f=>(f.offset,f.type)) = fs) (hlen : P.cellsOf t = len) (h : Wv P fs 0 len enc) : Dx P t enc:=by
 intro H tok W spare held fuel cs x hx
 obtain ⟨xs,n,_,_,hl,hxl,hf⟩:=DataW.trod_struct ht hx
 have:=h H tok W spare held cs (by omega) fun p hp=>?_
 ·simpa using this
 ·rw [<-hfs,List.mem_map] at hp
  obtain ⟨f,hf1,rfl⟩:=hp
  obtain ⟨i,hi,hfi⟩:=List.mem_iff_getElem.1 hf1
  have hi' : i < fields.size:=by simpa using hi
  have:=hf i f (by rw [<-hfi]; simp [hi'])
  rw [List.getElem?_eq_getElem (by omega)] at this
  exact ⟨n,_,this⟩
theorem law_run {gl : List (Nat×SV)} {f : FuncId} {xas : List SV} {W : World} {args : List Value} (h : Gp P gl f xas [] (.bool (.a true)) [])
  (hgl : ∀ g s,look g gl = some s->RO (Kg W) W s (.pointer (some ⟨g,0,none⟩))/\g < W.heap.size/\Qc W g s) (hl : xas.length = args.length) (hr : ∀ (i : Nat) (s : SV) (v : Value),xas[i]? = some s->args[i]? = some v->RO (Kg W) W s v) :
  Calls P f ⟨args⟩ W fun e W'=>e = .returned (.bool true)/\Below W.heap.size W W':=by
 refine (h ⟨W,fun _=>False,Kg W,fun _=>none,fun _=>none,fun _=>none,[]⟩ ⟨fun _=>none,fun _=>none,fun _=>none,fun _=>none,fun _=>none,Kg W⟩ W args rfl (fun _ _ h=>h) (fun _ h=>absurd h (by simp)) ⟨rfl,rfl,rfl,Nat.le_refl _,fun _ _ _=>rfl,fun _ _ h=>⟨h,rfl⟩,fun _ _ h=>h,fun _ _ h=>.inl h,fun _ _ h=>(by cases h),⟨fun _ _ h=>(by cases h),fun _ _ h=>(by cases h),fun _ _ h=>(by cases h)⟩⟩ (fun g s h=>⟨(hgl g s h).1,(hgl g s h).2.1,fun h=>h,(hgl g s h).2.2⟩) (fun h=>?_) ⟨hl,fun i s v a b=>.ro (hr i s v a b)⟩).mono fun e W' hq=>?_
 ·simp only [Ao,nth]
  exact ⟨rfl,rfl,rfl,rfl⟩
 ·obtain ⟨v,E',rfl,hb,_,hv⟩:=hq
  rw [hv.bool_inv]
  exact ⟨rfl,⟨hb.os,hb.tape,hb.output,hb.size,fun k hk=>hb.old k hk (fun h=>h)⟩⟩
section
variable {H : Type} {enc : TypeId×Value->H}
theorem Ut {f : Func} {s : ChangeSpec} {apart fresh handsOn again : Bool} {W W' : World} {args : Array Value} {v : Value} {ds gs : List (DataW H)} {before pa pv : List MemPlace}
  (hW : DataW.Whole enc P f.params.toList s.vars apart W args.toList ds gs before)
  (hres : ∀ (b : Nat) (sp : Nat->Bool) (hd : Bool),DataW.TrodAll enc P W' b sp hd f.resultTypes.toList (v.resultList f.resultTypes.size) (s.fn H (ds ++ gs)).results [])
  (hargs : ∀ sp : Nat->Bool,(∀ p∈before,sp p.block = true)->DataW.TrodAll enc P W' 0 sp true f.params.toList args.toList (s.fn H (ds ++ gs)).args pa)
  (hvars : ∀ sp : Nat->Bool,(∀ p∈before,sp p.block = true)->DataW.TrodVars enc P W' sp s.vars (s.fn H (ds ++ gs)).vars pv)
  (hps : before = pa ++ pv) (hb : Below W.heap.size W W')
  (hok : ∀ (j : Nat) (t : TypeId) (r : Value),f.resultTypes[j]? = some t->(v.resultList f.resultTypes.size)[j]? = some r->Value.okWide P W' .any 0 t r) :
  s.post enc P f apart fresh handsOn again W args v W':=by
 have hlt : ∀ p∈before,p.block < W.heap.size:=fun p hp=>hW.lt p hp
 have hold : ∀ p∈before,(fun b=>decide (b < W.heap.size)) p.block = true:=fun p hp=>by simpa using hlt p hp
 refine ⟨ds,gs,before,[],pa,pv,hW,hres _ _ _,hargs _ hold,hvars _ hold,World.keptBut_mono (fun p hp=>⟨hp,?_⟩) (hb.frame (·∈before)),fun _=>?_⟩
 ·rw [hps,List.mem_append] at hp
  exact Or.inr hp
 ·obtain ⟨_,_,_,_,_,hz,hn⟩:=hW
  refine ⟨hok,_,_,([] ++ pa) ++ pv,⟨[] ++ pa,pv,trodAll_append (hargs _ (fun _ _=>rfl)) (hres _ _ _),hvars _ (fun _ _=>rfl),rfl,?_,?_⟩,?_⟩
  ·intro b off hp
   have hin : MemPlace.cell b off∈before:=by rw [hps]; simpa using hp
   rw [hb.frozen (hlt _ hin)]
   exact hz b off hin
  ·intro ha
   have:=hn ha
   rw [hps] at this
   simpa using this
  ·intro p hp _
   rw [hps]
   simpa using hp
theorem Lk (hl : laidOutB P = true) {W W' : World} {sp : Nat->Bool} (hb : Below W.heap.size W W') : ∀ {ts : List TypeId} {vs : List Value} {ds : List (DataW H)} {ps : List MemPlace},(∀ t∈ts,P.readableRec t = true/\t < P.types.size)->
  DataW.TrodAll enc P W 0 (fun _=>true) true ts vs ds ps->(∀ p∈ps,p.block < W.heap.size)->(∀ p∈ps,sp p.block = true)->DataW.TrodAll enc P W' 0 sp true ts vs ds ps
 | [],[],[],_,_,h,_,_=>h
 | t :: ts,v :: vs,d :: ds,ps,ht,h,hlt,hs=>by
  obtain ⟨p,q,h1,h2,rfl⟩:=h
  refine ⟨p,q,WideElems.Trod_stays hl (ht t (List.mem_cons_self ..)).1 (ht t (List.mem_cons_self ..)).2 h1 (fun x hx=>hb.same (hlt x (List.mem_append_left _ hx))) (fun x hx=>hs x (List.mem_append_left _ hx)),?_,rfl⟩
  exact Lk hl hb (fun t h=>ht t (List.mem_cons_of_mem _ h)) h2 (fun x hx=>hlt x (List.mem_append_right _ hx)) (fun x hx=>hs x (List.mem_append_right _ hx))
 | [],_ :: _,_,_,_,h,_,_=>h.elim
 | [],[],_ :: _,_,_,h,_,_=>h.elim
 | _ :: _,[],_,_,_,h,_,_=>h.elim
 | _ :: _,_ :: _,[],_,_,h,_,_=>h.elim
theorem Ajj (hl : laidOutB P = true) {fn : Func} {s : ChangeSpec} {apart fresh handsOn again : Bool} {W W' : World} {args : Array Value} {ds gs : List (DataW H)} {before : List MemPlace} {tb : TypeId}
  (hts : ∀ t∈fn.params.toList,P.readableRec t = true/\t < P.types.size) (hv : s.vars = []) (hres : fn.resultTypes = #[tb]) (htb : P.underlying tb = some .bool)
  (hW : DataW.Whole enc P fn.params.toList s.vars apart W args.toList ds gs before) (hfn : (s.fn H (ds ++ gs)) = { results:=[.lit (.bool true)],args:=ds }) (hb : Below W.heap.size W W') :
  s.post enc P fn apart fresh handsOn again W args (.bool true) W':=by
 have hW':=hW
 obtain ⟨p,q,hA,hV,rfl,hz,hn⟩:=hW
 have hlt : ∀ x∈p ++ q,x.block < W.heap.size:=fun x hx=>hW'.lt x hx
 have hq : gs = []/\q = []:=by rw [hv] at hV; exact trodVars_none hV
 obtain ⟨rfl,rfl⟩:=hq
 refine Ut (pa:=p) (pv:=[]) hW' (fun b sp hd=>?_) (fun sp hs=>?_) (fun sp hs=>?_) (by simp) hb (ok_one hres rfl (okWide_bool_mk htb _))
 ·rw [hfn,hres]
  exact trodAll_mk1 (shut_bool htb true)
 ·rw [hfn]
  exact Lk hl hb hts hA (fun x hx=>hlt x (by simp [hx])) (fun x hx=>hs x (by simp [hx]))
 ·rw [hfn,hv]
  rfl
end
theorem Ae5 {I : Nat->Nat->Prop} {W : World} {s : SV} {v : Value} (hn : ∀ a,v≠.agg a) (h : ROL I W [s] v.cells.toList) : RO I W s v:=by
 cases v with
 | agg a=>exact absurd rfl (hn a)
 | _=>exact h.2.1 0 s _ rfl (by simp [Value.cells])
theorem Ahi {I : Nat->Nat->Prop} {W : World} {r : Reach} {base : Nat} {t e : TypeId} {s : SV} {v : Value} (ht : P.underlying t = some (.slice e)) (hv : Value.okWide P W r base t v) (h : ROL I W [s] v.cells.toList) : RO I W s v:=by
 obtain ⟨a,len,cap,rfl⟩:=okWide_slice ht hv
 exact Ae5 (fun _ h=>by cases h) h
theorem Adb {I : Nat->Nat->Prop} {W : World} {r : Reach} {base : Nat} {t : TypeId} {s : SV} {v : Value} (ht : P.underlying t = some .string) (hv : Value.okWide P W r base t v) (h : ROL I W [s] v.cells.toList) : RO I W s v:=by
 obtain ⟨n,rfl⟩:=okWide_string ht hv
 exact Ae5 (fun _ h=>by cases h) h
end
end Go.Sx
namespace Go.Proofs.YtdoogdbjiijifaaGreatDoor
open Go Go.Sx Go.RowKit Go.Sort
set_option maxRecDepth 100000
set_option maxHeartbeats 2000000
theorem idxB_ok : A2 Tryz.prog [] 239 spIdxB:=by
 refine ⟨⟨Tryz.f239,_,Tryz.func239,rfl,by kernel_rfl⟩,fun xs ls K h=>?_⟩
 obtain ⟨s,c,rfl,rfl,hc,h⟩:=h
 refine ⟨_,_,h _ rfl,Bn fun E B w vals _ _ _ hr=>?_⟩
 obtain ⟨v,u,rfl,hv,hu⟩:=D3 hr
 rw [Db hv,Ady hu]
 refine (J8 ⟨s.toArray⟩ c w).mono ?_
 rintro e w' ⟨rfl,rfl⟩
 exact ⟨_,rfl,fun E=>.ro (.int rfl),Below.refl _ _⟩
def spCutSuf : FSpec:=fun _ xs ls K=>∃ (s p : List UInt8),xs = [.str s,.str p]/\ls = []/\s.length<=9223372036854775807/\∀ r b,r = Lib.trimSuffix s p->b = Lib.hasSuffix s p->K (.tup [.str r,.bool (.a b)]) []
theorem Wl : A2 Tryz.prog gl 54 spCutSuf:=by
 refine ⟨⟨Tryz.f54,_,Tryz.func54,rfl,by kernel_rfl⟩,fun xs ls K h=>?_⟩
 obtain ⟨s,p,rfl,rfl,hs,h⟩:=h
 refine ⟨_,_,h _ _ rfl rfl,Bn fun E B w vals _ _ _ hr=>?_⟩
 obtain ⟨v,u,rfl,hv,hu⟩:=D3 hr
 rw [Db hv,Db hu]
 refine (J9 ⟨s.toArray⟩ ⟨p.toArray⟩ w (by simpa [ByteArray.size] using hs)).mono ?_
 rintro e w' ⟨rfl,rfl⟩
 refine ⟨_,rfl,fun E=>?_,Below.refl _ _⟩
 refine .tup rfl fun i x y a b=>?_
 match i,a,b with
 | 0,a,b=>cases a; cases b; exact .ro (.str rfl)
 | 1,a,b=>cases a; cases b; exact .ro (.bool rfl)
def spCont1 : FSpec:=fun _ xs ls K=>∃ (s : List UInt8) (c : UInt8),xs = [.str s,.str [c]]/\ls = []/\∀ r,r = decide (0<=Lib.indexByte s c)->K (.bool (.a r)) []
theorem Akj : A2 Tryz.prog gl 118 spCont1:=by
 refine ⟨⟨Tryz.f118,_,Tryz.func118,rfl,by kernel_rfl⟩,fun xs ls K h=>?_⟩
 obtain ⟨s,c,rfl,rfl,h⟩:=h
 refine ⟨_,_,h _ rfl,Bn fun E B w vals _ _ _ hr=>?_⟩
 obtain ⟨v,u,rfl,hv,hu⟩:=D3 hr
 rw [Db hv,Db hu]
 refine (Ie ⟨s.toArray⟩ c w).mono ?_
 rintro e w' ⟨rfl,rfl⟩
 exact ⟨_,rfl,fun E=>.ro (.bool rfl),Below.refl _ _⟩
theorem kPow : Tryz.prog.globalNamed "internal/strconv.uint64pow10" = some 4:=by kernel_rfl
theorem kErrR : Tryz.prog.globalNamed "strconv.ErrRange" = some 3:=by kernel_rfl
def fair {α : Type} : Lib.NumEnd α->Bool
 | .ok _=>true
 | .range=>true
 | _=>false
def Af1 (s : List UInt8) : Int×Bool:=match Lib.parseIntB 64 s with
 | .ok v=>(v,true)
 | .range=>(Lib.intSat 64 s,false)
 | _=>(0,false)
structure IntS (s : List UInt8) (b z : Int) : Prop where
 b : b = 10
 z : z = 64
 len : s.length<=100000
 ok : fair (Lib.parseIntB 64 s) = true
end Go.Proofs.YtdoogdbjiijifaaGreatDoor
namespace Go.Sx
open Go Go.ChangeShapes Go.WideShapes Go.RowKit
section
variable {P : Program}
end
end Go.Sx
namespace Go.Proofs.YtdoogdbjiijifaaGreatDoor
open Go Go.Sx Go.ChangeShapes Go.WideShapes Go.RowKit
set_option maxRecDepth 100000
theorem kOwn : ownKnob Tryz.prog.godebug = none:=by kernel_rfl
theorem Ajm : laidOutB Tryz.prog = true:=by kernel_rfl
abbrev Lq : List (String×DataW Unit):=[("math/bits.deBruijn32tab",Rows.laid_math_bits_deBruijn32tab),("math/bits.deBruijn64tab",Rows.laid_math_bits_deBruijn64tab),("internal/strconv.uint64pow10",Rows.laid_internal_strconv_uint64pow10),("unicode/utf8.acceptRanges",Rows.laid_unicode_utf8_acceptRanges),("strconv.ErrRange",Rows.laid_strconv_ErrRange),("strconv.ErrSyntax",Rows.laid_strconv_ErrSyntax),("unicode.CaseRanges",Rows.laid_unicode_CaseRanges),("unicode/utf8.first",Rows.laid_unicode_utf8_first)]
theorem Ag3 (os : Os) : (World.holding Tryz.prog os ⟨#[],#[],[]⟩).layFits Tryz.prog Lq [] = true:=by kernel_rfl
theorem Aat (os : Os) : (World.holding Tryz.prog os ⟨#[],#[],[]⟩).layIfaces Tryz.prog Lq (World.laidAll Tryz.prog os Lq) = true:=by kernel_rfl
theorem Akg (os : Os) (args : Array Value) : laidMetH Tryz.prog Lq ((World.laidAll Tryz.prog os Lq).forCall (fun _ _=>0) ⟨#[],args,[]⟩).memory:=by
 rw [MakeChecks.laidMetH_plain _ _ _ (by kernel_rfl)]
 exact laidMet_laidAll _ (Ag3 os) (Aat os)
theorem kPowT : (Tryz.prog.globals[4]?).map (·.type) = some 284:=by kernel_rfl
theorem kPowU : Tryz.prog.underlying 284 = some (.array 20 249):=by kernel_rfl
theorem kPowE : Tryz.prog.underlying 249 = some (.int .u64):=by kernel_rfl
theorem kPowC : Tryz.prog.cellsOf 249 = 1:=by kernel_rfl
theorem kPowD : Tryz.prog.cellsOf 284 = 20:=by kernel_rfl
theorem kC9 : Tryz.prog.cellsOf 9 = 1:=by kernel_rfl
theorem kErrT : (Tryz.prog.globals[3]?).map (·.type) = some 157:=by kernel_rfl
theorem kC305 : Tryz.prog.cellsOf 305 = 1:=by kernel_rfl
theorem kStar : "*" ++ "errors.errorString" = "*errors.errorString":=by decide
theorem kRow303 (u : TypeId) (h : Tryz.prog.typeName? 3 u = some "*errors.errorString") : u = 303 :=
 typeName_ptr_named (nm:="errors.errorString") (by rw [kStar]; kernel_rfl) (by kernel_rfl) (by decide) u (by rw [kStar]; exact h)
theorem gl_of {W : World} (h : laidMetH Tryz.prog Lq W) : ∀ g s,Sx.look g gl = some s->RO (Kg W) W s (.pointer (some ⟨g,0,none⟩))/\g < W.heap.size/\Qc W g s:=by
 rw [MakeChecks.laidMetH_plain _ _ _ (by kernel_rfl)] at h
 have ht : Lib.TabIs Tryz.prog W "internal/strconv.uint64pow10" .u64 Lib.pow10Tab :=
  Lib.tabIs_of_head kPow kPowT kPowU kPowE kPowC kPowD (h.tail.tail)
 obtain ⟨ea,es,he1,_,_,_⟩:=laid_sentinel h.tail.tail.tail.tail kErrR kErrT Tryz.underlying157 kRow303 Tryz.underlying303 Tryz.underlying305 rfl rfl Tryz.underlying9 kC305 kC9
 intro g s hs
 simp only [Sx.look,gl] at hs
 split at hs
 ·rename_i e
  have e : 3 = g:=by simpa using e
  subst e
  cases hs
  unfold World.var? at he1
  rw [kErrR] at he1
  simp only [Option.bind_some] at he1
  split at he1
  ·rename_i cs t fr hc
   have hcs:=Option.some.inj he1
   subst hcs
   have hlt : 3 < W.heap.size:=(Array.getElem?_eq_some_iff.1 hc).1
   refine ⟨.rarr (fun _ _=>.iface 303 (.pointer (some ea))) rfl (fun i _=>rfl) (fun i j _ _=>rfl) (fun i j hi hj=>⟨?_,hlt⟩) (fun i j s hi hs=>?_),hlt,_,t,fr,hc,rfl⟩
   ·obtain rfl : i = 0:=by omega
    obtain rfl : j = 0:=by omega
    simp [World.cell?,hc]
   ·match j,hs with
    | 0,hs =>
     have hs : some (SV.ifc (.l false)) = some s:=hs
     cases hs
     exact .ifc (.inr ⟨⟨_,_,rfl⟩,rfl⟩)
    | _ + 1,hs=>simp [Akc] at hs
  ·cases he1
 split at hs
 ·rename_i e
  have e : 4 = g:=by simpa using e
  subst e
  cases hs
  have ht2:=ht
  unfold Lib.TabIs World.var? at ht2
  rw [kPow] at ht2
  simp only [Option.bind_some] at ht2
  split at ht2
  ·rename_i cs t fr hc
   have hlt : 4 < W.heap.size:=(Array.getElem?_eq_some_iff.1 hc).1
   have hsz : cs.size = 20 * 1:=by
    rw [Option.some.inj ht2]; simp [Lib.pow10Tab_length]
   refine ⟨.rarr (fun i _=>.int .u64 (Lib.pow10Tab.getD i 0)) rfl (fun i _=>rfl) (fun i j _ _=>rfl) (fun i j hi hj=>⟨?_,hlt⟩) (fun i j s hi hs=>?_),hlt,cs,t,fr,hc,hsz⟩
   ·have:=ht.cell kPow i (by rw [Lib.pow10Tab_length]; exact hi)
    have e : 0 + (i * 1 + j) = i:=by omega
    show W.cell? ⟨4,0 + (i * 1 + j),none⟩ = _
    rw [e]; exact this
   ·match j,hs with
    | 0,hs =>
     have hs : some (SV.int .u64 (.a (Lib.pow10Tab.getD i 0))) = some s:=hs
     cases hs
     exact .int rfl
    | _ + 1,hs=>simp [Aim] at hs
  ·cases ht2
 ·cases hs
end Go.Proofs.YtdoogdbjiijifaaGreatDoor
namespace Go.Sx
open Go Go.ChangeShapes Go.WideShapes Go.RowKit
section
variable {P : Program}
theorem Dx.sliceN {t e : TypeId} {α : Type} {sz : Nat} {enc : α->List SV} (ht : P.underlying t = some (.slice e)) (hz : P.cellsOf e = sz) (h0 : 0 < sz) (he : Dx P e enc) : Dx P t (fun x : {x : Bool×List α // x.2.length<=maxLen/\(x.1 = true->x.2 = [])}=>slC sz enc x.1):=by
 intro H tok W spare held fuel cs x h
 rcases DataW.trod_slice ht h with ⟨rfl,_⟩ | ⟨a,len,cap,elems,rest,n,_,rfl,_,_,hle,hcap,hlen,hel,_,_⟩
 ·exact ⟨⟨(true,[]),Nat.zero_le _,fun _=>rfl⟩,.one (.slnil rfl rfl) rfl⟩
 ·rw [hz] at hel
  have key : ∀ i,i < len->∃ (al : α) (vs : List Value),ROL (Kg W) W (enc al) vs/\vs.length = sz/\∀ j,j < sz->W.cell? ((a.add (i * sz)).add j) = vs[j]?:=by
   intro i hi
   have h1:=hel i hi
   rw [List.getElem?_eq_getElem (by omega)] at h1
   cases hc : W.cells? 0 (a.add (i * sz)) sz with
   | none=>rw [hc] at h1; cases h1
   | some vs =>
    rw [hc] at h1
    obtain ⟨al,hal⟩:=he H tok W _ _ _ vs _ h1
    have hg:=Wq hc
    exact ⟨al,vs,hal,hg.1,hg.2⟩
  have gen : ∀ len : Nat,(∀ i,i < len->∃ (al : α) (vs : List Value),ROL (Kg W) W (enc al) vs/\vs.length = sz/\∀ j,j < sz->W.cell? ((a.add (i * sz)).add j) = vs[j]?)->∃ (l : List α) (g : Nat->Nat->Value),l.length = len/\∀ i al,l[i]? = some al->(enc al).length = sz/\(∀ j,j < sz->W.cell? ((a.add (i * sz)).add j) = some (g i j)/\(g i j).oneCell' = true)/\∀ j s,(enc al)[j]? = some s->RO (Kg W) W s (g i j):=by
   clear key hel hlen hcap hle h
   intro len key
   induction len with
   | zero=>exact ⟨[],fun _ _=>undef,rfl,by simp⟩
   | succ len ih =>
    obtain ⟨l,g,hl,hg⟩:=ih (fun i hi=>key i (by omega))
    obtain ⟨al,vs,k1,k2,k3⟩:=key len (by omega)
    refine ⟨l ++ [al],fun i j=>if i = len then vs.getD j undef else g i j,by simp [hl],fun i al' hi=>?_⟩
    rw [List.getElem?_append] at hi
    split at hi
    ·rename_i hlt
     have hne : i≠len:=by omega
     obtain ⟨g1,g2,g3⟩:=hg i al' hi
     exact ⟨g1,fun j hj=>by simpa only [if_neg hne] using g2 j hj,fun j s hs=>by simpa only [if_neg hne] using g3 j s hs⟩
    ·rename_i hlt
     have hil : i = len:=by
      have:=(List.getElem?_eq_some_iff.1 hi).1
      simp at this; omega
     subst hil
     have h00 : i - l.length = 0:=by omega
     rw [h00] at hi
     simp at hi
     subst hi
     refine ⟨by rw [k1.1,k2],fun j hj=>?_,fun j s hs=>?_⟩
     ·simp only [if_pos]
      have hjv : vs[j]? = some vs[j]:=List.getElem?_eq_getElem (by omega)
      rw [k3 j hj,hjv]
      simp only [List.getD_eq_getElem?_getD,hjv,Option.getD_some,true_and]
      exact k1.2.2 _ (List.getElem_mem _)
     ·simp only [if_pos]
      have hjl : j < vs.length:=by rw [<-k1.1]; exact (List.getElem?_eq_some_iff.1 hs).1
      have hjv : vs[j]? = some vs[j]:=List.getElem?_eq_getElem hjl
      simp only [List.getD_eq_getElem?_getD,hjv,Option.getD_some]
      exact k1.2.1 j s _ hs hjv
  obtain ⟨l,g,hl,hg⟩:=gen len key
  have hspot : 0 < len->a.spot = none:=fun hpos=>by
   obtain ⟨al,hal⟩ : ∃ al,l[0]? = some al:=⟨_,List.getElem?_eq_getElem (by omega)⟩
   obtain ⟨_,g2,_⟩:=hg 0 al hal
   have:=(g2 0 h0).1
   obtain ⟨b,o,sp⟩:=a
   simp only [Nat.zero_mul,Addr.add,if_pos] at this
   exact (Rh this).2
  refine ⟨⟨(false,l),by simp only [hl]; omega,fun h=>by cases h⟩,.one (.sl g rfl (by simp [ST.den,hl]) hle hcap hspot (fun i hi=>?_) (fun i j hi hj=>?_) (fun i j hi hj=>?_) (fun i j s hi hs=>?_)) rfl⟩
  ·obtain ⟨al,hal⟩ : ∃ al,l[i]? = some al:=⟨_,List.getElem?_eq_getElem (by omega)⟩
   simp only [Kf,hal]
   exact (hg i al hal).1
  ·obtain ⟨al,hal⟩ : ∃ al,l[i]? = some al:=⟨_,List.getElem?_eq_getElem (by omega)⟩
   exact ((hg i al hal).2.1 j hj).2
  ·obtain ⟨al,hal⟩ : ∃ al,l[i]? = some al:=⟨_,List.getElem?_eq_getElem (by omega)⟩
   have hc:=((hg i al hal).2.1 j hj).1
   have e : (a.add (i * sz)).add j = ⟨a.block,a.off + (i * sz + j),none⟩:=by
    have hs:=hspot (by omega)
    obtain ⟨b,o,sp⟩:=a
    simp only at hs
    subst hs
    simp only [add_lit]
    congr 1
    omega
   rw [e] at hc
   exact ⟨hc,(Rh hc).1⟩
  ·obtain ⟨al,hal⟩ : ∃ al,l[i]? = some al:=⟨_,List.getElem?_eq_getElem (by omega)⟩
   simp only [Kf,hal] at hs
   exact (hg i al hal).2.2 j s hs
end
end Go.Sx
namespace Go.Proofs.YtdoogdbjiijifaaGreatDoor
open Go Go.Sx
set_option maxRecDepth 100000
set_option maxHeartbeats 40000000
def mayL : List Nat:=[33,36,38,39,40,41,42,43,44,59,61,58,64,47]
def may2 (i : Nat) (c : Nat) : ST:=if c∈mayL.take i then .a 2 else .l 0
structure KaV (i : Nat) (I : Int) (f : Nat->List SV) (m : Nat) : Prop where
 I : I = i
 le : i<=14
 m : m = 14 - i
 row : ∀ c,c < 256->f c = [.int .u8 (may2 i c)]
def kd2 (n c : Nat) : ST:=if c < n/\G3 c = 1 then .a 1 else may2 14 c
structure KdV (c : Nat) (I : Int) (f : Nat->List SV) (m : Nat) : Prop where
 I : I = c
 le : c<=256
 m : m = 256 - c
 row : ∀ k,k < 256->f k = [.int .u8 (kd2 c k)]
theorem KdV.lo {c : Nat} {I : Int} {f : Nat->List SV} {m : Nat} (V : KdV c I f m) : 0<=I:=by have:=V.I; omega
theorem KdV.row1 {c : Nat} {I : Int} {f : Nat->List SV} {m : Nat} (V : KdV c I f m) (h : c < 256) : ∃ X,f c = [.int .u8 X]:=⟨_,V.row c h⟩
theorem KdV.no {c : Nat} {I : Int} {f : Nat->List SV} {m : Nat} (V : KdV c I f m) (h : c < 256) (hk : G3 c≠1) : KdV (c + 1) (dn.i (.bin .add .i64 (.a I) (.l 1))) f (256 - (c + 1)):=by
 refine ⟨?_,by omega,rfl,fun k hk2=>?_⟩
 ·have:=V.I
  show IntKind.i64.wrap (I + 1) = _
  rw [Bk (by omega) (by omega)]; omega
 ·rw [V.row k hk2]
  unfold kd2
  have : (k < c/\G3 k = 1)↔(k < c + 1/\G3 k = 1):=by
   constructor
   ·rintro ⟨a,b⟩; exact ⟨by omega,b⟩
   ·rintro ⟨a,b⟩
    refine ⟨?_,b⟩
    rcases Nat.lt_or_ge k c with h | h
    ·exact h
    ·obtain rfl : k = c:=by omega
     exact absurd b hk
  simp only [this]
structure FlOk (fl : Nat->List SV) : Prop where
 h : ∀ j,j < 14->fl j = [.int .u8 (.a ((mayL.getD j 0 : Nat) : Int))]
structure VI (vi : Int) (v : Nat) : Prop where
 h : vi = (v : Int)
end Go.Proofs.YtdoogdbjiijifaaGreatDoor
namespace Go.Proofs.YtdoogdbjiijifaaGreatDoor
open Go Go.Sx
set_option maxRecDepth 100000
set_option maxHeartbeats 8000000
def Dq (c : Int) : Int:=if 48<=c/\c<=57 then c - 48 else if 65<=c/\c<=70 then c - 55 else if 97<=c/\c<=102 then c - 87 else -1
theorem Afg (c : Int) : -1<=Dq c/\Dq c<=15:=by
 unfold Dq
 split
 ·omega
 ·split
  ·omega
  ·split<;>omega
def Aju (s : List UInt8) (i : Nat) : Prop:=i + 2 < s.length/\charI s i = 37/\0<=Dq (charI s (i + 1))/\0<=Dq (charI s (i + 2))
instance (s : List UInt8) (i : Nat) : Decidable (Aju s i):=by unfold Aju; exact inferInstance
def Tw (s : List UInt8) (i : Nat) : Bool:=decide (Aju s i)
def escV (s : List UInt8) (i : Nat) : Int:=if Aju s i then 16 * Dq (charI s (i + 1)) + Dq (charI s (i + 2)) else 0
end Go.Proofs.YtdoogdbjiijifaaGreatDoor
namespace Go.Proofs.YtdoogdbjiijifaaGreatDoor
open Go Go.Sx
set_option maxRecDepth 100000
set_option maxHeartbeats 16000000
def J1 (s : List UInt8) (i e : Nat) : Option Nat :=
 if h : i < s.length then
  if Tw s i then J1 s (i + 3) e
  else if charI s i = 63 then J1 s (i + 1) (min e i)
  else if G3 (charI s i).toNat = 0 then none
  else J1 s (i + 1) e
 else some e
 termination_by s.length - i
def Sw (s : List UInt8) : Int×Int :=
 if 500 < s.length then (0,3) else if !Lib.hasPrefix s [47] then (0,6) else match J1 s 0 s.length with
  | some e=>((e : Int),0)
  | none=>(0,6)
structure KRow (f : Nat->List SV) : Prop where
 h : ∀ i,i < 256->f i = [.int .u8 (.a (G3 i))]
structure OrgJ (s : List UInt8) (k : Option Nat) (i e : Nat) (I E : Int) (m : Nat) : Prop where
 lie : At s i I m
 E : E = e
 k : k = J1 s i e
 len : s.length<=500
theorem Aiw {s : List UInt8} {i e : Nat} (h : i < s.length) (h1 : Tw s i = true) : J1 s i e = J1 s (i + 3) e:=by
 rw [J1,dif_pos h,if_pos h1]
theorem Af5 {s : List UInt8} {i e : Nat} (h : i < s.length) (h1 : Tw s i = false) (h2 : charI s i = 63) : J1 s i e = J1 s (i + 1) (min e i):=by
 rw [J1,dif_pos h,if_neg (by simp [h1]),if_pos h2]
theorem Aix {s : List UInt8} {i e : Nat} (h : i < s.length) (h1 : Tw s i = false) (h2 : charI s i≠63) (h3 : G3 (charI s i).toNat = 0) : J1 s i e = none:=by
 rw [J1,dif_pos h,if_neg (by simp [h1]),if_neg h2,if_pos h3]
theorem Af4 {s : List UInt8} {i e : Nat} (h : i < s.length) (h1 : Tw s i = false) (h2 : charI s i≠63) (h3 : G3 (charI s i).toNat≠0) : J1 s i e = J1 s (i + 1) e:=by
 rw [J1,dif_pos h,if_neg (by simp [h1]),if_neg h2,if_neg h3]
end Go.Proofs.YtdoogdbjiijifaaGreatDoor
namespace Go.Proofs.YtdoogdbjiijifaaGreatDoor
open Go Go.Sx
set_option maxRecDepth 100000
set_option maxHeartbeats 16000000
def L0 (s : List UInt8) : List UInt8×List UInt8×Bool×Int :=
 if (Sw s).2≠0 then ([],[],false,(Sw s).2) else if (Sw s).1≠(Ap 63 s).1.length then ([],[],false,6) else ((Ap 63 s).1,(Ap 63 s).2.1,(Ap 63 s).2.2,0)
theorem Aiy {s : List UInt8} (h : (Sw s).2 = 0) : s.length<=500:=by
 unfold Sw at h
 split at h
 ·cases h
 ·omega
def Ag4 : List UInt8:=[48,49,50,51,52,53,54,55,56,57,65,66,67,68,69,70]
def escO (v : Int) : List UInt8:=if G3 v.toNat = 1 then [UInt8.ofNat v.toNat] else [37,Ag4.getD (v.toNat / 16) 0,Ag4.getD (v.toNat % 16) 0]
def normL (s : List UInt8) (i : Nat) : List UInt8 :=
 if h : i < s.length then if Tw s i then escO (escV s i) ++ normL s (i + 3) else s.getD i 0 :: normL s (i + 1) else []
 termination_by s.length - i
structure A7 (f : Nat->List SV) (n : Int) (t : List UInt8) : Prop where
 n : n = t.length
 f : ∀ i,i < t.length->f i = [.int .u8 (.a ((t.getD i 0).toNat : Int))]
theorem A7.more {f f' g : Nat->List SV} {n n' m : Int} {t u : List UInt8} (R : A7 f n t) (hm : m = u.length) (hg : ∀ i,i < u.length->g i = [.int .u8 (.a ((u.getD i 0).toNat : Int))]) (h : Ht f' n' n m f g) : A7 f' n' (t ++ u):=by
 have hn:=R.n
 refine ⟨by rw [h.len,hn,hm,List.length_append]; omega,fun i hi=>?_⟩
 rw [List.length_append] at hi
 rw [List.getD_eq_getElem?_getD,List.getElem?_append]
 split
 ·rename_i h1
  rw [h.lo i (by omega),R.f i h1,List.getD_eq_getElem?_getD]
 ·rename_i h1
  rw [h.hi i (i - t.length) (by omega) (by omega),hg _ (by omega),List.getD_eq_getElem?_getD]
theorem A7.str {f : Nat->List SV} {n : Int} {t r : List UInt8} (R : A7 f n t) (h : Jn r n f) : r = t:=by
 have hn:=R.n
 have hl : r.length = t.length:=by have:=h.len; omega
 refine List.ext_getElem hl fun i h1 h2=>?_
 have:=h.row i _ (by omega) (R.f i h2)
 have h5 : ((r.getD i 0).toNat : Int) = ((t.getD i 0).toNat : Int):=this
 have this : (r.getD i 0).toNat = (t.getD i 0).toNat:=by omega
 rw [List.getD_eq_getElem?_getD,List.getElem?_eq_getElem h1,List.getD_eq_getElem?_getD,List.getElem?_eq_getElem h2] at this
 exact UInt8.toNat_inj.1 this
theorem A7.byte {f : Nat->List SV} {n : Int} {t : List UInt8} (R : A7 f n t) : Ez n f:=by
 refine ⟨by rw [R.n]; omega,fun i hi=>⟨_,R.f i (by have:=R.n; omega),?_,?_⟩⟩
 ·show (0 : Int)<=((t.getD i 0).toNat : Int); omega
 ·have:=(t.getD i 0).toNat_lt; show ((t.getD i 0).toNat : Int) < 256; omega
structure NoJ (s k t : List UInt8) (i : Nat) (I n : Int) (f : Nat->List SV) (m : Nat) : Prop where
 lie : At s i I m
 row : A7 f n t
 k : k = t ++ normL s i
 le : t.length<=i
 len : s.length<=100000
theorem toNat8 : ∀ q : Fin 256,(UInt8.ofNat q.1).toNat = q.1:=by decide
end Go.Proofs.YtdoogdbjiijifaaGreatDoor
namespace Go.Proofs.YtdoogdbjiijifaaGreatDoor
open Go Go.Sx Go.ChangeShapes Go.WideShapes Go.RowKit
set_option maxRecDepth 100000
theorem open9 : Dx Tryz.prog 9 (fun s : {s : List UInt8 // s.length<=maxLen}=>[.str s.1]):=.str Tryz.underlying9
theorem ro2 {I : Nat->Nat->Prop} {W : World} {s t : SV} {v u : Value} (h : RO I W s v) (k : RO I W t u) : ∀ (i : Nat) (s' : SV) (v' : Value),[s,t][i]? = some s'->[v,u][i]? = some v'->RO I W s' v'
 | 0,_,_,a,b=>by simp at a b; subst a b; exact h
 | 1,_,_,a,b=>by simp at a b; subst a b; exact k
 | _ + 2,_,_,a,_=>by simp at a
theorem str_fit (x : {s : List UInt8 // s.length<=maxLen}) : x.1.length<=9223372036854775807:=Nat.le_trans x.2 (by decide)
abbrev U8:={n : Int // (Lit.int .u8 n).wf = true}
def u8C (n : U8) : List SV:=[.int .u8 (.a n.1)]
theorem open5 : Dx Tryz.prog 5 u8C:=.intB Tryz.underlying5
abbrev BsD:={x : Bool×List U8 // x.2.length<=maxLen/\(x.1 = true->x.2 = [])}
theorem open22 : Dx Tryz.prog 22 (fun x : BsD=>slC 1 u8C x.1):=.sliceN Tryz.underlying22 (by kernel_rfl) (by decide) open5
def sl22 (x : BsD) : SV:=.sl (.a x.1.1) (.a (x.1.2.length : Int)) 1 (Kf u8C x.1.2)
def Ky (x : BsD) : List UInt8:=x.1.2.map fun n=>UInt8.ofNat n.1.toNat
theorem u8_fit (n : U8) : 0<=n.1/\n.1<=255:=by
 have:=n.2
 simpa [Lit.wf,IntKind.min,IntKind.max,IntKind.signed,IntKind.bits] using this
theorem rowU_of (x : BsD) : A7 (Kf u8C x.1.2) (x.1.2.length : Int) (Ky x):=by
 refine ⟨by unfold Ky; rw [List.length_map],fun i hi=>?_⟩
 unfold Ky at hi ⊢
 rw [List.length_map] at hi
 unfold Kf
 rw [List.getElem?_eq_getElem hi,List.getD_eq_getElem?_getD,List.getElem?_map,List.getElem?_eq_getElem hi]
 have hf:=u8_fit x.1.2[i]
 have h8:=toNat8 ⟨x.1.2[i].1.toNat,by omega⟩
 simp only [Option.map_some,Option.getD_some,u8C]
 simp only at h8
 rw [h8]
 congr 3
 omega
theorem Ahd (x : BsD) : (Ky x).length<=9223372036854775807:=by unfold Ky; rw [List.length_map]; exact Nat.le_trans x.2.1 (by decide)
theorem Ahc (x : BsD) : x.1.1 = true->Ky x = []:=fun h=>by unfold Ky; rw [x.2.2 h]; rfl
end Go.Proofs.YtdoogdbjiijifaaGreatDoor
namespace Go.Proofs.YtdoogdbjiijifaaGreatDoor
open Go Go.Sx
set_option maxRecDepth 100000
set_option maxHeartbeats 4000000
def preB (s p : List UInt8) : Bool:=decide (p.length<=s.length) && (s.take p.length == p)
def Gt (s p : List UInt8) : List UInt8:=if preB s p then s.drop p.length else s
structure Two (s p : List UInt8) : Prop where
 s : s.length<=9223372036854775807
 p : p.length<=9223372036854775807
def X3 : List UInt8:=[48,49,50,51,52,53,54,55,56,57]
def Aax (s : List UInt8) : Bool :=
 if Gt s [45] = []\/Lib.trimS (Gt s [45]) X3≠[] then false else ((Gt s [45]).getD 0 0 != 48) || (s == [48])
def intF (s : List UInt8) (lo hi : Int) : Int×Int :=
 if !Aax s then (0,6) else if (Af1 s).2 = false\/(Af1 s).1 < lo\/hi < (Af1 s).1 then (0,7) else ((Af1 s).1,0)
theorem dig_in (c : UInt8) : X3.contains c = true↔48<=c.toNat/\c.toNat<=57:=by
 have : ∀ n : Fin 256,X3.contains (UInt8.ofNat n.1) = true↔48<=n.1/\n.1<=57:=by decide
 have h:=this ⟨c.toNat,c.toNat_lt⟩
 simpa using h
theorem Jy (p : UInt8->Bool) : ∀ l : List UInt8,(l.dropWhile p).dropWhile p = l.dropWhile p
 | []=>rfl
 | c :: r=>by
  by_cases h : p c = true
  ·rw [List.dropWhile_cons_of_pos h,Jy p r]
  ·rw [List.dropWhile_cons_of_neg h,List.dropWhile_cons_of_neg h]
theorem D7 (p : UInt8->Bool) : ∀ l : List UInt8,l.dropWhile p = []↔∀ x∈l,p x = true
 | []=>by simp
 | c :: r=>by
  by_cases h : p c = true
  ·rw [List.dropWhile_cons_of_pos h,D7 p r]
   simp [h]
  ·rw [List.dropWhile_cons_of_neg h]
   simp [h]
theorem Afi {l cs : List UInt8} (h : Lib.trimS l cs = []) : ∀ c∈l,cs.contains c = true:=by
 have h : ((l.reverse.dropWhile (fun x=>cs.contains x)).reverse).dropWhile (fun x=>cs.contains x) = []:=h
 rw [D7] at h
 have h2 : (l.reverse.dropWhile (fun x=>cs.contains x)).dropWhile (fun x=>cs.contains x) = []:=by
  rw [D7]
  exact fun x hx=>h x (List.mem_reverse.2 hx)
 rw [Jy,D7] at h2
 exact fun c hc=>h2 c (List.mem_reverse.2 hc)
structure IntA (s : List UInt8) (lo hi : Int) : Prop where
 len : s.length<=100000
def Gb (s : List UInt8) (hi : Int) : Int×Int:=if Lib.hasPrefix s [45] then (0,6) else intF s 0 hi
end Go.Proofs.YtdoogdbjiijifaaGreatDoor
namespace Go.Proofs.YtdoogdbjiijifaaGreatDoor
open Go Go.Sx
set_option maxRecDepth 100000
set_option maxHeartbeats 4000000
theorem A7.sub {f f' : Nat->List SV} {n n' : Int} {t : List UInt8} {a b : Nat} {A B : Int} (R : A7 f n t) (h : Akw f' n' f A B) (hA : A = a) (hB : B = b) (hab : a<=b) (hb : b<=t.length) : A7 f' n' ((t.drop a).take (b - a)):=by
 refine ⟨by rw [h.len,hA,hB,List.length_take,List.length_drop]; omega,fun i hi=>?_⟩
 rw [List.length_take,List.length_drop] at hi
 rw [h.row i (i + a) (by rw [hA]; omega),R.f (i + a) (by omega)]
 rw [List.getD_eq_getElem?_getD,List.getD_eq_getElem?_getD,List.getElem?_take,if_pos (by omega),List.getElem?_drop,Nat.add_comm a i]
theorem Pf (c : UInt8) (s : List UInt8) : (Ap c s).1.length<=s.length/\(Ap c s).2.1.length<=s.length:=by
 induction s with
 | nil=>exact ⟨Nat.le_refl _,Nat.le_refl _⟩
 | cons b r ih=>unfold Ap; split<;>simp<;>omega
def rVer : List UInt8:=[32,72,84,84,80,47,49,46,49,13,10]
def Rb (is both : Bool) (m t : List UInt8) (has : Bool) : Bool:=(((!is || !both) || m == []) || t == []) || has
def Cw (b : List UInt8) : List UInt8×List UInt8×Int×Int :=
 if !(Ap 10 (b.take 1024)).2.2 && decide (b.length < 1024) then ([],[],0,10) else if !(Ap 10 (b.take 1024)).2.2 then ([],[],0,3) else
 if Rb (Lib.hasSuffix ((Ap 10 (b.take 1024)).1 ++ [10]) rVer) (Ap 32 (Lib.trimSuffix ((Ap 10 (b.take 1024)).1 ++ [10]) rVer)).2.2 (Ap 32 (Lib.trimSuffix ((Ap 10 (b.take 1024)).1 ++ [10]) rVer)).1 (Ap 32 (Lib.trimSuffix ((Ap 10 (b.take 1024)).1 ++ [10]) rVer)).2.1 (decide (0<=Lib.indexByte (Ap 32 (Lib.trimSuffix ((Ap 10 (b.take 1024)).1 ++ [10]) rVer)).2.1 32)) then ([],[],0,6) else
 ((Ap 32 (Lib.trimSuffix ((Ap 10 (b.take 1024)).1 ++ [10]) rVer)).1,(Ap 32 (Lib.trimSuffix ((Ap 10 (b.take 1024)).1 ++ [10]) rVer)).2.1,((Ap 10 (b.take 1024)).1.length : Int) + 1,0)
end Go.Proofs.YtdoogdbjiijifaaGreatDoor
namespace Go.Proofs.YtdoogdbjiijifaaGreatDoor
open Go Go.Sx
set_option maxRecDepth 100000
set_option maxHeartbeats 8000000
def Is (s : List UInt8) : Bool:=decide (s.length<=16) && Bj s
def Sv (t : List UInt8) : Bool:=t == [104,111,115,116] || (t == [120,45,114,101,113,117,101,115,116,45,105,100] || (t == [99,111,110,116,101,110,116,45,108,101,110,103,116,104] || t == [116,114,97,110,115,102,101,114,45,101,110,99,111,100,105,110,103]))
def hostSet : List UInt8:=[97,98,99,100,101,102,103,104,105,106,107,108,109,110,111,112,113,114,115,116,117,118,119,120,121,122,48,49,50,51,52,53,54,55,56,57,45,46,58]
def Ajs (s : List UInt8) : Bool:=s != [] && (decide (s.length<=100) && (Lib.trimS s hostSet == []))
def Ae4 (s : List UInt8) : Bool:=if s = [71,69,84] then true else if s = [72,69,65,68] then true else if s = [79,80,84,73,79,78,83] then false else if s = [84,82,65,67,69] then true else if s = [80,85,84] then false else if s = [68,69,76,69,84,69] then false else false
end Go.Proofs.YtdoogdbjiijifaaGreatDoor
