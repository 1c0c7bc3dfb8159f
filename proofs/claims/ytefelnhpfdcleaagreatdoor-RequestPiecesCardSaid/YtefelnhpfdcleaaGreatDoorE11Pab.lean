/- Part of the proofs of the statements about requests (layer 7): a symbolic executor over the code, that it is sound, and contracts of functions; it has no conditions of its own. -/
import Derived.Test.YtefelnhpfdcleaaGreatDoorSzPaz
import Derived.Test.YtefelnhpfdcleaaGreatDoorSzPbd
import Derived.Test.YtefelnhpfdcleaaGreatDoorSzPbg
import Derived.Test.YtefelnhpfdcleaaGreatDoorUzPab
import Derived.Test.YtefelnhpfdcleaaGreatDoorUzPac
import Derived.Test.YtefelnhpfdcleaaGreatDoorVzPaa
import Derived.Test.YtefelnhpfdcleaaGreatDoorSzPbh
import Derived.Test.YtefelnhpfdcleaaGreatDoorUzPaa
import Derived.Test.YtefelnhpfdcleaaGreatDoorE11Paa
namespace Go.Proofs.YtefelnhpfdcleaaGreatDoor
open Go Go.Sx Go.ChangeShapes Go.WideShapes Go.RowKit
set_option maxRecDepth 100000
theorem J9 : B9 Tryz.prog 9 (fun s : {s : List UInt8 // s.length≤maxLen}=>[.str s.1]):=.str Tryz.underlying9
theorem ro2 {I : Nat→Nat→Prop} {W : World} {s t : SV} {v u : Value} (h : RO I W s v) (k : RO I W t u) : ∀ (i : Nat) (s' : SV) (v' : Value),[s,t][i]? = some s'→[v,u][i]? = some v'→RO I W s' v'
 | 0,_,_,a,b=>by simp at a b; subst a b; exact h
 | 1,_,_,a,b=>by simp at a b; subst a b; exact k
 | _ + 2,_,_,a,_=>by simp at a
end Go.Proofs.YtefelnhpfdcleaaGreatDoor
namespace Go.Proofs.YtefelnhpfdcleaaGreatDoor
open Go Go.Sx Go.ChangeShapes Go.WideShapes Go.RowKit
set_option maxRecDepth 100000
abbrev StD:={s : List UInt8 // s.length≤maxLen}
abbrev Anh:={n : Int // (Lit.int .i64 n).wf = true}
abbrev HfD:=StD×StD×Unit
def hfC (x : HfD) : List SV:=[.str x.1.1] ++ ([.str x.2.1.1] ++ [])
abbrev FsD:={x : Bool×List HfD // x.2.length≤maxLen∧(x.1 = true→x.2 = [])}
abbrev RqD:=Anh×StD×StD×StD×FsD×StD×Unit
def rqC (x : RqD) : List SV:=[.int .i64 (.a x.1.1)] ++ ([.str x.2.1.1] ++ ([.str x.2.2.1.1] ++ ([.str x.2.2.2.1.1] ++ (slC 2 hfC x.2.2.2.2.1.1 ++ ([.str x.2.2.2.2.2.1.1] ++ [])))))
theorem Alj : B9 Tryz.prog 2 (fun n : Anh=>[.int .i64 (.a n.1)]):=.intB Tryz.underlying2
theorem Afl : B9 Tryz.prog 69 hfC:=.struct (fs:=[(0,9),(1,9)]) (len:=2) Tryz.underlying69 (by rfl) (by kernel_rfl) (Dx.cons 0 1 1 (by kernel_rfl) J9 (Dx.cons 1 1 0 (by kernel_rfl) J9 Dx.nil))
theorem Afo : B9 Tryz.prog 29 (fun x : FsD=>slC 2 hfC x.1):=.sliceN Tryz.underlying29 (by kernel_rfl) (by decide) Afl
theorem Afn : B9 Tryz.prog 31 rqC:=.struct (fs:=[(0,2),(1,9),(2,9),(3,9),(4,29),(5,9)]) (len:=6) Tryz.underlying31 (by rfl) (by kernel_rfl)
 (Dx.cons 0 1 5 (by kernel_rfl) Alj (Dx.cons 1 1 4 (by kernel_rfl) J9 (Dx.cons 2 1 3 (by kernel_rfl) J9 (Dx.cons 3 1 2 (by kernel_rfl) J9 (Dx.cons 4 1 1 (by kernel_rfl) Afo (Dx.cons 5 1 0 (by kernel_rfl) J9 Dx.nil))))))
def Aq (x : HfD) : HF:=⟨x.1.1,x.2.1.1⟩
def Aip (x : RqD) : Rq:=⟨x.1.1,x.2.1.1,x.2.2.1.1,x.2.2.2.1.1,x.2.2.2.2.1.1.2.map Aq,x.2.2.2.2.2.1.1⟩
theorem Dl (x : StD) : x.1.length≤9223372036854775807:=Nat.le_trans x.2 (by decide)
theorem Aaq (l : List HfD) (h : l.length≤maxLen) : A9 (Ci hfC l) (l.length : Int) (l.map Aq):=by
 refine ⟨by rw [List.length_map],fun i hi=>?_,by rw [List.length_map]; exact Nat.le_trans h (by decide),fun i hi=>?_⟩
 ·rw [List.length_map] at hi
  unfold Ci
  rw [List.getElem?_eq_getElem hi,List.getD_eq_getElem?_getD,List.getElem?_map,List.getElem?_eq_getElem hi]; rfl
 ·rw [List.length_map] at hi
  rw [List.getD_eq_getElem?_getD,List.getElem?_map,List.getElem?_eq_getElem hi]
  exact ⟨Dl l[i].1,Dl l[i].2.1⟩
def rqF (x : RqD) : Nat→List SV:=Ci hfC x.2.2.2.2.1.1.2
theorem Aap (x : RqD) : Gd (Aip x) x.2.2.2.2.1.1.1 (x.2.2.2.2.1.1.2.length : Int) (rqF x):=by
 have hw:=x.1.2
 simp only [Lit.wf,Bool.and_eq_true,decide_eq_true_eq] at hw
 refine ⟨?_,?_,Dl _,Dl _,Dl _,Dl _,Aaq _ x.2.2.2.2.1.2.1,fun e=>?_⟩
 ·exact hw.1
 ·exact hw.2
 ·show List.map Aq _ = []
  rw [x.2.2.2.2.1.2.2 e]; rfl
end Go.Proofs.YtefelnhpfdcleaaGreatDoor
namespace Go.Proofs.YtefelnhpfdcleaaGreatDoor
open Go Go.Sx Go.ChangeShapes Go.WideShapes Go.RowKit
set_option maxRecDepth 100000
abbrev U16:={n : Int // (Lit.int .u16 n).wf = true}
def u16C (n : U16) : List SV:=[.int .u16 (.a n.1)]
theorem Afm : B9 Tryz.prog 41 u16C:=.intB Tryz.underlying41
theorem Ue (n : U16) : 0≤n.1∧n.1≤65535:=by
 have:=n.2
 simpa [Lit.wf,IntKind.min,IntKind.max,IntKind.signed,IntKind.bits] using this
abbrev CsD:={x : Bool×List U16 // x.2.length≤maxLen∧(x.1 = true→x.2 = [])}
theorem open55 : B9 Tryz.prog 55 (fun x : CsD=>slC 1 u16C x.1):=.sliceN Tryz.underlying55 (by kernel_rfl) (by decide) Afm
def sl55 (x : CsD) : SV:=.sl (.a x.1.1) (.a (x.1.2.length : Int)) 1 (Ci u16C x.1.2)
abbrev QsD:={x : Bool×List RqD // x.2.length≤maxLen∧(x.1 = true→x.2 = [])}
theorem open50 : B9 Tryz.prog 50 (fun x : QsD=>slC 6 rqC x.1):=.sliceN Tryz.underlying50 (by kernel_rfl) (by decide) Afn
def sl50 (x : QsD) : SV:=.sl (.a x.1.1) (.a (x.1.2.length : Int)) 6 (Ci rqC x.1.2)
end Go.Proofs.YtefelnhpfdcleaaGreatDoor
namespace Go.Proofs.YtefelnhpfdcleaaGreatDoor
open Go Go.Sx
set_option maxRecDepth 100000
set_option maxHeartbeats 16000000
theorem Hk {P : Go.Program} {gl : List (Nat×SV)} {f : Go.FuncId} {as1 as2 : List SV} {ls : List Hl} {r : SV} {ls' : List Hl} (h : LeL as1 as2) (c : Dk P gl f as2 ls r ls') : Dk P gl f as1 ls r ls' :=
 fun B E w vals hw hI hdom hb hg hh hr=>c B E w vals hw hI hdom hb hg hh (h E w vals hr)
def Vf (l : List HF) (i : Nat) : List SV:=B6 (l.getD i default)
theorem Gd.total {r : Rq} {nl : Bool} {n : Int} {f : Nat→List SV} (R : Gd r nl n f) : Gd r nl n (Vf r.fields):=⟨R.id1,R.id2,R.method,R.target,R.host,R.body,⟨R.row.n,fun _ _=>rfl,R.row.len,R.row.small⟩,R.nil⟩
end Go.Proofs.YtefelnhpfdcleaaGreatDoor
namespace Go.Proofs.YtefelnhpfdcleaaGreatDoor
open Go Go.Sx
set_option maxRecDepth 100000
set_option maxHeartbeats 400000
def okQ (r : Rq) : Bool:=decide ((Av r).2.2 = 0)
def stQ (r : Rq) : Rq:=⟨r.id,r.method,r.target,r.host,(Bm r.fields).1,r.body⟩
def Ko (l : List Rq) : List UInt8:=l.flatMap fun r=>(Bo r).1
theorem Z9 (r : Rq) (l : List Rq) : Ko (r :: l) = (Bo r).1 ++ Ko l:=by simp [Ko]
theorem whole_q {r : Rq} (h : okQ r = true) (u : List UInt8) : Bp ((Bo r).1 ++ u) = (stQ r,(((Bo r).1.length : Nat) : Int),0):=by
 have h : (Av r).2.2 = 0:=of_decide_eq_true h
 obtain ⟨l',G⟩:=Um h
 rw [S7 h G u]
 unfold stQ
 rw [G.strip]
theorem part_q {r : Rq} (h : okQ r = true) {b v : List UInt8} (hb : (Bo r).1 = b ++ v) (hv : v≠[]) : Bp b = (rqZ,0,10):=by
 have h : (Av r).2.2 = 0:=of_decide_eq_true h
 obtain ⟨l',G⟩:=Um h
 exact Vq h G hb hv
theorem enc_pos {r : Rq} (h : okQ r = true) : 1≤(Bo r).1.length:=by
 have h : (Av r).2.2 = 0:=of_decide_eq_true h
 rw [Si h,List.length_append,Fl]; omega
theorem O7 : ∀ (ms : List Rq) (b v : List UInt8) (l : List Rq) (m : Nat),(∀ r∈ms,okQ r = true)→b.length < m→b ++ v = Ko ms→
  ∃ k b',k≤ms.length∧Hi m b l = (l ++ (ms.take k).map stQ,b',0)∧b' ++ v = Ko (ms.drop k)∧(v = []→k = ms.length)
 | _,_,_,_,0,_,h,_=>by omega
 | [],b,v,l,m + 1,_,_,hc=>by
  have hb : b = []:=by
   have:=congrArg List.length hc
   simp [Ko] at this
   exact this.1
  subst hb
  refine ⟨0,[],Nat.le_refl _,?_,by simpa using hc,fun _=>rfl⟩
  unfold Hi
  have : Bp [] = (rqZ,0,10):=rfl
  rw [this]
  simp
 | r :: ms,b,v,l,m + 1,ho,hm,hc=>by
  rw [Z9] at hc
  have hr:=ho r (List.mem_cons_self ..)
  have hpos:=enc_pos hr
  have hgo : ∀ a,b = (Bo r).1 ++ a→a ++ v = Ko ms→∃ k b',k≤(r :: ms).length∧Hi (m + 1) b l = (l ++ ((r :: ms).take k).map stQ,b',0)∧b' ++ v = Ko ((r :: ms).drop k)∧(v = []→k = (r :: ms).length):=fun a ha hv=>by
   have hbl : b.length = (Bo r).1.length + a.length:=by rw [ha,List.length_append]
   obtain ⟨k,b',k1,k2,k3,k4⟩:=O7 ms a v (l ++ [stQ r]) m (fun x hx=>ho x (List.mem_cons_of_mem _ hx)) (by omega) hv
   refine ⟨k + 1,b',by simp only [List.length_cons]; omega,?_,by simpa using k3,fun e=>by rw [k4 e,List.length_cons]⟩
   unfold Hi
   rw [ha,whole_q hr a,if_pos rfl]
   simp only [Int.toNat_natCast]
   rw [List.drop_left,k2]
   simp
  rcases List.append_eq_append_iff.1 hc with ⟨a,ha,hb⟩ | ⟨c,hc1,hc2⟩
  ·by_cases ha0 : a = []
   ·subst ha0
    exact hgo [] (by rw [ha]; simp) (by simpa using hb)
   ·refine ⟨0,b,Nat.zero_le _,?_,by rw [List.drop_zero,Z9]; exact hc,fun e=>?_⟩
    ·unfold Hi
     rw [part_q hr ha ha0,if_neg (by decide),if_pos rfl]
     simp
    ·rw [e] at hb
     exact absurd (List.append_eq_nil_iff.1 hb.symm).1 ha0
  ·exact hgo c hc1 hc2.symm
end Go.Proofs.YtefelnhpfdcleaaGreatDoor
namespace Go.Proofs.YtefelnhpfdcleaaGreatDoor
open Go Go.Sx
set_option maxRecDepth 100000
set_option maxHeartbeats 16000000
def rowQT (l : List Rq) (f : Nat→List SV) : Prop:=∀ i,i < l.length→∃ nl n,f i = X0 (l.getD i rqZ) nl n (Vf (l.getD i rqZ).fields)∧Gd (l.getD i rqZ) nl n (Vf (l.getD i rqZ).fields)
structure RowC (f : Nat→List SV) (n : Int) (l : List Int) : Prop where
 n : n = l.length
 f : ∀ i,i < l.length→f i = [.int .u16 (.a (l.getD i 0))]
 fit : ∀ i,i < l.length→0≤l.getD i 0∧l.getD i 0≤65535
def spPieces : FSpec:=fun _ xs ls K=>∃ (l : List Rq) (nl : Bool) (n : Int) (f : Nat→List SV) (c : List Int) (nl2 : Bool) (n2 : Int) (f2 : Nat→List SV),xs = [.sl (.a nl) (.a n) 6 f,.sl (.a nl2) (.a n2) 1 f2]∧ls = []∧n = l.length∧l.length≤9223372036854775807∧rowQT l f∧RowC f2 n2 c∧K (.bool (.a true)) []
def okL (l : List Rq) : List Rq:=l.filter okQ
theorem P3 (l : List Rq) (r : Rq) : okL (l ++ [r]) = okL l ++ (if okQ r then [r] else []):=by
 unfold okL
 rw [List.filter_append]
 congr 1
 rw [List.filter_cons]
 split<;>simp
theorem Aic {l : List Rq} {i : Nat} (h : i < l.length) : l.take (i + 1) = l.take i ++ [l.getD i rqZ]:=by
 rw [List.take_add_one,List.getElem?_eq_getElem h,List.getD_eq_getElem?_getD,List.getElem?_eq_getElem h]; rfl
theorem Ad8 (a b : List Rq) : Ko (a ++ b) = Ko a ++ Ko b:=by simp [Ko]
theorem Z8 (l : List Rq) (j : Nat) : (Ko (l.drop j)).length≤(Ko l).length:=by
 conv=>rhs; rw [←List.take_append_drop j l,Ad8,List.length_append]
 omega
structure P1J (l : List Rq) (i : Nat) (I : Int) (m : Nat) (all : List UInt8) (want : List Rq) (f1 : Nat→List SV) (n1 : Int) (b1 : Bool) : Prop where
 lie : AtR l i I m
 eAll : all = Ko (okL (l.take i))
 eWant : want = (okL (l.take i)).map stQ
 len : all.length≤600000 * i
 wl : want.length≤i
 G : GrQ f1 n1 b1 want
def p1J (l : List Rq) (nl nl2 : Bool) (n n2 : Int) (f f2 : Nat→List SV) (m : Nat) (vs : List (Option SV)) (hp : List Hl) : Prop :=
 ∃ (i : Nat) (I : Int) (all : List UInt8) (want : List Rq) (f1 : Nat→List SV) (n1 : Int) (b1 : Bool),vs = [some (.sl (.a nl) (.a n) 6 f),some (.sl (.a nl2) (.a n2) 1 f2),some (.str all),some (.gsl (.a b1) (.a n1) 6 f1 0),some (.int .i64 (.a I))]∧
  hp = [.tail 31 (.a n1) 6]∧P1J l i I m all want f1 n1 b1
structure P2J (ms : List Rq) (c : List Int) (all : List UInt8) (i at_ j : Nat) (I A : Int) (m : Nat) (got : List Rq) (r : List UInt8) (f1 : Nat→List SV) (n1 : Int) (b1 : Bool) (f : Nat→List SV) (n : Int) : Prop where
 eI : I = i
 eA : A = at_
 iLe : i≤c.length + 1
 eM : m = c.length + 1 - i
 atLe : at_≤all.length
 jLe : j≤ms.length
 eGot : got = (ms.take j).map stQ
 eR : r ++ all.drop at_ = Ko (ms.drop j)
 done : i = c.length + 1→j = ms.length
 rl : r.length≤8000
 G : GrQ f1 n1 b1 got
 R : Bn f n r
def p2J (ms : List Rq) (c : List Int) (all : List UInt8) (nl2 bw : Bool) (n2 nw : Int) (f2 fw : Nat→List SV) (m : Nat) (vs : List (Option SV)) (hp : List Hl) : Prop :=
 ∃ (i at_ j : Nat) (I A : Int) (got : List Rq) (r : List UInt8) (f1 : Nat→List SV) (n1 : Int) (b1 : Bool) (f : Nat→List SV) (n : Int) (b : Bool),vs = [some (.sl (.a nl2) (.a n2) 1 f2),some (.str all),some (.gsl (.a bw) (.a nw) 6 fw 0),some (.gsl (.a b1) (.a n1) 6 f1 1),some (.sl (.a b) (.a n) 1 f),some (.int .i64 (.a A)),some (.int .i64 (.a I))]∧
  hp = [.tail 31 (.a nw) 6,.tail 31 (.a n1) 6]∧P2J ms c all i at_ j I A m got r f1 n1 b1 f n
theorem GrQ.app {f g f' : Nat→List SV} {n m n' : Int} {a nb : Bool} {x y : List Rq} (R : GrQ f n a x) (S : Ks g m y) (h : H4 f' n' n m f g) (hl : x.length + y.length≤9223372036854775807) (hb : nb = (a && y.isEmpty)) : GrQ f' n' nb (x ++ y):=by
 refine ⟨R.row.app S h hl,?_⟩
 rw [hb,R.nl]
 cases x<;>simp
structure EncV (x : Rq) (s : List UInt8) (e : Int) : Prop where
 no : e≠0→okQ x = false
 ok : e = 0→okQ x = true
 eS : e = 0→s = (Bo x).1
 len : s.length≤600000
theorem encV {x : Rq} {s : List UInt8} {e : Int} (h : (s,e) = Bo x) : EncV x s e:=by
 by_cases h0 : (Av x).2.2 = 0
 ·have h1:=Iv h0
  rw [←h] at h1
  have he : e = 0:=(Prod.mk.inj h1).2
  obtain ⟨l',G⟩:=Um h0
  refine ⟨fun g=>absurd he g,fun _=>decide_eq_true h0,fun _=>by rw [←h],?_⟩
  have h2:=Oo (l:=(Ai x).1)
  have h3 : Fw (Ai x).1 = (Bj (Ai x).1,0):=by unfold Fw; rw [if_neg (by simp [G.cw])]
  rw [h3] at h2
  have h4:=G.line.2.2.2.2.2.2
  have h5:=G.ex.body
  simp only at h2
  have hs : s = (Bo x).1:=by rw [←h]
  rw [hs,Si h0,List.length_append,List.length_append,Fl]
  omega
 ·have h1:=O8 h0
  rw [←h] at h1
  have he : e≠0:=by rw [(Prod.mk.inj h1).2]; exact h0
  refine ⟨fun _=>decide_eq_false h0,fun g=>absurd g he,fun g=>absurd g he,?_⟩
  rw [(Prod.mk.inj h1).1]; simp
theorem Y0 : Ar Tryz.prog gl 11 spPieces:=by
 refine A4 (gh:=[(4,[.attach 6 31]),(18,[.attach 11 31])]) mixed A0 (Aa Ami (Aa Pp (Aa Sh (Aa Jb (Aa Aht (Aa Yv Ae)))))) Tryz.func11 (by kernel_rfl) (by kernel_rfl) ?_
 intro xs ls K h
 unfold spPieces at h
 obtain ⟨l,nl,n,f,c,nl2,n2,f2,rfl,rfl,hn,hl,hT,RC,h⟩:=h
 refine ⟨_,_,h,fun D hD=>?_⟩
 clear h
 cbv
 have VN : VI n l.length:=⟨hn⟩
 have VC : VI n2 c.length:=⟨RC.n⟩
 clear hn
 refine br hD (fun h=>?_) (fun h=>?_)<;>cbv
 ·exact Aj hD rfl
 have h : (decide (5 < n) || decide (100 < n2)) = false:=h
 have H5 : LeN l.length 5∧LeN c.length 100:=by
  rw [Bool.or_eq_false_iff] at h
  have h1:=of_decide_eq_false h.1; have h2:=of_decide_eq_false h.2; have:=VN.h; have:=VC.h
  exact ⟨⟨by omega⟩,⟨by omega⟩⟩
 clear h
 obtain ⟨J,hJ⟩ : ∃ J,J = p1J l nl nl2 n n2 f f2:=⟨_,rfl⟩
 refine ⟨[0,1,5,6,7],J,⟨rfl,l.length,?_⟩,?_⟩
 ·rw [hJ]
  subst hD
  exact ⟨0,0,[],[],_,_,_,rfl,rfl,⟨AtR.zero hl,rfl,rfl,by simp,by simp,GrQ.nil⟩⟩
 intro m vs hp hv
 rw [hJ] at hv
 unfold p1J at hv
 obtain ⟨i,I,all,want,f1,n1,b1,rfl,rfl,V⟩:=hv
 cbv
 refine br hD (fun h=>?_) (fun h=>?_)<;>cbv
 ·have hlt:=V.lie.lt VN.h (of_decide_eq_true (p:=I < n) h)
  clear h
  have inA:=V.lie.inB hD VN.h hlt
  have hst:=V.lie.step hD hlt
  obtain ⟨xl,xn,hx,RX⟩:=hT i hlt
  have hall:=V.eAll
  have hwant:=V.eWant
  have hts:=Aic hlt
  obtain ⟨x,hxx⟩ : ∃ x,x = l.getD i rqZ:=⟨_,rfl⟩
  rw [←hxx] at hx RX hts
  clear hxx
  obtain ⟨id,me,ta,ho,fs,bo⟩:=x
  unfold X0 at hx
  simp only at hx
  refine ⟨inA,fun j hj=>?_⟩
  have hj:=V.lie.j hD hj
  cbv
  rw [hj,hx]
  cbv
  clear hj
  refine ⟨⟨id,me,ta,ho,fs,bo⟩,xl,xn,_,by subst hD; rfl,rfl,RX,fun _=>rfl,fun b _=>?_⟩
  cbv
  refine br hD (fun h=>?_) (fun h=>?_)<;>cbv
  ·exact Aj hD rfl
  clear h
  refine ⟨inA,fun j hj=>?_⟩
  have hj:=V.lie.j hD hj
  cbv
  rw [hj,hx]
  cbv
  clear hj
  refine ⟨⟨id,me,ta,ho,fs,bo⟩,xl,xn,_,by subst hD; rfl,rfl,RX,fun s e h1=>?_⟩
  cbv
  have EV:=encV h1
  clear h1
  refine br hD (fun h=>?_) (fun h=>?_)<;>cbv
  ·have h : (e != 0) = true:=h
   have hno:=EV.no (by simpa using h)
   refine ⟨_,hst.1,?_⟩
   rw [hJ]
   unfold p1J
   subst hD
   exact ⟨i + 1,_,all,want,f1,n1,b1,rfl,rfl,⟨hst.2,by rw [hts,P3,hno]; simpa using hall,by rw [hts,P3,hno]; simpa using hwant,by have:=V.len; omega,by have:=V.wl; omega,V.G⟩⟩
  have h : (e != 0) = false:=h
  have he : e = 0:=by simpa using h
  have hok:=EV.ok he
  have hse:=EV.eS he
  clear h
  refine ⟨inA,fun j hj=>?_⟩
  have hj:=V.lie.j hD hj
  cbv
  rw [hj,hx]
  cbv
  clear hj
  refine ⟨fs,xl,xn,_,by subst hD; rfl,rfl,RX.row,fun r1 e1 g1 m1 c1 hr1 G1=>?_⟩
  cbv
  intro g3 hg3
  cbv
  have hg0 : Akf (g3 0) (stQ ⟨id,me,ta,ho,fs,bo⟩):=by
   have hf : (stQ ⟨id,me,ta,ho,fs,bo⟩).fields = r1:=by unfold stQ; simp only; rw [←hr1]
   refine ⟨c1,m1,g1,?_,by rw [hf]; exact G1⟩
   rw [hg3.h 0 _ rfl]
   subst hD; rfl
  clear hg3 hr1 G1
  have VW : VI n1 want.length:=⟨V.G.row.n⟩
  have HW : LeN want.length 5:=⟨by have:=V.wl; have:=H5.1.h; omega⟩
  refine ⟨by subst hD; exact ⟨rfl,by show (n1 + 1) * 96≤_; rw [VW.h]; have:=HW.h; omega,by show n1 + 1≤_; rw [VW.h]; have:=HW.h; omega⟩,fun f' n' hm=>?_⟩
  cbv
  have G2 : ∀ nl',nl' = false→GrQ f' n' nl' (want ++ [stQ ⟨id,me,ta,ho,fs,bo⟩]):=fun nl' hb=>V.G.more hg0 (by subst hD; exact hm) (by have:=HW.h; omega) hb
  clear hm hg0
  have HA : LeN all.length 3000000:=⟨by have:=V.len; have:=H5.1.h; omega⟩
  refine ⟨⟨by have:=HA.h; have:=EV.len; omega⟩,fun al2 hal2=>?_⟩
  cbv
  have hal2 : al2 = all ++ s:=hal2.h
  refine ⟨_,hst.1,?_⟩
  rw [hJ]
  unfold p1J
  subst hD
  refine ⟨i + 1,_,al2,want ++ [stQ ⟨id,me,ta,ho,fs,bo⟩],f',n',(b1 && false),rfl,rfl,⟨hst.2,?_,?_,?_,?_,G2 _ (Bool.and_false _)⟩⟩
  ·rw [hts,P3,hok,if_pos rfl,Ad8,hal2,←hall,hse]; simp [Ko]
  ·rw [hts,P3,hok,if_pos rfl,List.map_append,←hwant]; rfl
  ·rw [hal2,List.length_append]; have:=V.len; have:=EV.len; omega
  ·rw [List.length_append]; have:=V.wl; simp only [List.length_cons,List.length_nil]; omega
 have hi:=V.lie.eq VN.h (of_decide_eq_false (p:=I < n) h)
 obtain ⟨ms,hms⟩ : ∃ ms,ms = okL l:=⟨_,rfl⟩
 have hall : all = Ko ms:=by rw [hms,V.eAll,hi,List.take_length]
 have hwant : want = ms.map stQ:=by rw [hms,V.eWant,hi,List.take_length]
 have hmo : ∀ r∈ms,okQ r = true:=fun r hr=>by rw [hms] at hr; exact (List.mem_filter.1 hr).2
 have HM : LeN ms.length 5:=⟨by rw [hms]; have:=List.length_filter_le okQ l; have:=H5.1.h; unfold okL; omega⟩
 have GW:=V.G
 clear h hi hms hJ V
 clear J
 refine br hD (fun h=>?_) (fun h=>?_)<;>cbv
 ·exact Aj hD rfl
 have h : decide (8000 < (all.length : Int)) = false:=h
 have HA : LeN all.length 8000:=⟨by have:=of_decide_eq_false h; omega⟩
 clear h
 obtain ⟨J,hJ⟩ : ∃ J,J = p2J ms c all nl2 b1 n2 n1 f2 f1:=⟨_,rfl⟩
 refine ⟨[1,5,6,11,12,13,14],J,⟨rfl,c.length + 1,?_⟩,?_⟩
 ·rw [hJ]
  subst hD
  exact ⟨0,0,0,0,0,[],[],_,_,_,_,_,_,rfl,rfl,⟨rfl,rfl,by omega,by omega,by omega,by omega,rfl,by rw [List.drop_zero,List.drop_zero]; exact hall,by omega,by simp,GrQ.nil,⟨rfl,fun i hi=>absurd hi (by simp)⟩⟩⟩
 intro m2 vs2 hp2 hv2
 rw [hJ] at hv2
 unfold p2J at hv2
 obtain ⟨k,at_,j,KI,A,got,r,fg,ng,bg,fr,nr,br2,rfl,rfl,V⟩:=hv2
 cbv
 have VK : VI KI k:=⟨V.eI⟩
 have VA : VI A at_:=⟨V.eA⟩
 refine br hD (fun h=>?_) (fun h=>?_)<;>cbv
 ·have h : decide (KI≤n2) = true:=h
  have hk : LeN k c.length:=⟨by have:=of_decide_eq_true h; have:=VK.h; have:=VC.h; omega⟩
  clear h
  refine br hD (fun h=>?_) (fun h=>?_)<;>cbv
  ·have h : decide (KI < n2) = true:=h
   have hlt : k < c.length:=by have:=of_decide_eq_true h; have:=VK.h; have:=VC.h; omega
   clear h
   have hcf:=RC.f k hlt
   have hct:=RC.fit k hlt
   obtain ⟨u,hu⟩ : ∃ u,u = c.getD k 0:=⟨_,rfl⟩
   rw [←hu] at hcf hct
   have VU : VI u u.toNat:=⟨by omega⟩
   have HU : LeN u.toNat 65535:=⟨by omega⟩
   clear hu hct
   refine ⟨by subst hD; exact ⟨by show 0≤KI; rw [VK.h]; omega,by show KI < n2; rw [VK.h,VC.h]; omega⟩,fun q hq=>?_⟩
   cbv
   have hq : q = k:=by subst hD; have h:=hq.h; have : (q : Int) = KI:=h; have:=VK.h; omega
   rw [hq,hcf]
   cbv
   clear hq hcf
   intro z hz
   cbv
   have hz : z = min (all.length : Int) (IntKind.i64.wrap (A + IntKind.i64.wrap u)):=by subst hD; exact hz.h
   obtain ⟨e,hee⟩ : ∃ e : Nat,e = min all.length (at_ + u.toNat):=⟨_,rfl⟩
   have VE : VI z e:=⟨by
    have h1:=VA.h; have h2:=VU.h; have h3:=V.atLe; have h4:=HA.h; have h5:=HU.h
    rw [hz,Am (n:=u) (by omega) (by omega),Am (n:=A + u) (by omega) (by omega),hee]; omega⟩
   have HE : LeN at_ e∧LeN e all.length:=⟨⟨by have:=V.atLe; omega⟩,⟨by omega⟩⟩
   have hdone : k + 1 = c.length + 1→e = all.length:=fun g=>by omega
   clear hz hee
   refine ⟨by subst hD; exact ⟨by show 0≤A; rw [VA.h]; omega,by show A≤z; have hz:=VE.h; rw [VA.h]; have:=HE.1.h; omega,by show z≤(all.length : Int); have hz:=VE.h; have:=HE.2.h; omega⟩,fun y hy=>?_⟩
   cbv
   have hy2 : y = (all.drop at_).take (e - at_):=by
    subst hD
    have h7 : y = (all.drop A.toNat).take ((z).toNat - A.toNat):=hy.h
    have hz:=VE.h
    have e1 : A.toNat = at_:=by have:=VA.h; omega
    have e2 : (z).toNat = e:=by omega
    rw [h7,e1,e2]
   have HY : LeN y.length 8000:=⟨by rw [hy2,List.length_take,List.length_drop]; have:=HA.h; omega⟩
   have hcat : (r ++ y) ++ all.drop e = Ko (ms.drop j):=by
    rw [←V.eR,hy2,List.append_assoc]
    congr 1
    have:=List.take_append_drop (e - at_) (all.drop at_)
    rw [List.drop_drop,show at_ + (e - at_) = e by have:=HE.1.h; omega] at this
    exact this
   clear hy hy2
   refine ⟨⟨by have:=HY.h; omega⟩,fun fy hfy=>?_⟩
   cbv
   have hfy : fy = byteRow y:=hfy.h
   subst hfy
   obtain ⟨k2,b',p1,p2,p3,p4⟩:=O7 (ms.drop j) (r ++ y) (all.drop e) [] ((r ++ y).length + 1) (fun x hx=>hmo x (List.mem_of_mem_drop hx)) (by omega) hcat
   clear hcat
   refine ⟨r,y,_,_,_,_,_,_,rfl,rfl,by subst hD; exact V.R,by subst hD; exact ⟨rfl,fun _ _=>rfl⟩,by have:=V.rl; have:=HY.h; omega,fun m3 left e3 gm nm bm gl3 nl3 bl3 hfd _ GM RL=>?_⟩
   cbv
   have hfd : (m3,left,e3) = ([] ++ ((ms.drop j).take k2).map stQ,b',0):=hfd.trans p2
   simp only [List.nil_append,Prod.mk.injEq] at hfd
   obtain ⟨hf1,hf2,hf3⟩:=hfd
   clear p2
   refine br hD (fun h=>?_) (fun h=>?_)<;>cbv
   ·have h : (e3 != 0) = true:=h
    rw [hf3] at h
    cases h
   clear h hf3
   have VG : VI ng got.length:=⟨V.G.row.n⟩
   have VM : VI nm m3.length:=⟨GM.row.n⟩
   have HG5 : LeN got.length 5:=⟨by rw [V.eGot,List.length_map,List.length_take]; have:=HM.h; omega⟩
   have HM5 : LeN m3.length 5:=⟨by rw [hf1,List.length_map,List.length_take,List.length_drop]; have:=HM.h; omega⟩
   refine ⟨by subst hD; exact ⟨rfl,by show (ng + nm) * 96≤_; rw [VG.h,VM.h]; have:=HG5.h; have:=HM5.h; omega,by show ng + nm≤_; rw [VG.h,VM.h]; have:=HG5.h; have:=HM5.h; omega⟩,fun f' n' hm=>?_⟩
   cbv
   have G2 : ∀ nb,nb = (bg && m3.isEmpty)→GrQ f' n' nb (got ++ m3):=fun nb hb=>V.G.app GM.row (by subst hD; exact hm) (by have:=HG5.h; have:=HM5.h; omega) hb
   clear hm
   have hme : (nm == 0) = m3.isEmpty:=by
    rw [Bool.eq_iff_iff,beq_iff_eq,VM.h,List.isEmpty_iff,←List.length_eq_zero_iff]; omega
   refine ⟨c.length + 1 - (k + 1),by have:=V.eM; have:=hk.h; omega,?_⟩
   rw [hJ]
   unfold p2J
   subst hD
   have hw1 : IntKind.i64.wrap (KI + 1) = ((k + 1 : Nat) : Int):=by rw [Am (by have:=VK.h; omega) (by have:=VK.h; have:=hk.h; have:=H5.2.h; omega),VK.h]; omega
   refine ⟨k + 1,e,j + k2,_,_,got ++ m3,left,f',n',(bg && (nm == 0)),gl3,nl3,bl3,rfl,rfl,⟨hw1,?_,by have:=hk.h; omega,rfl,HE.2.h,?_,?_,?_,fun g=>?_,?_,G2 _ (by rw [hme]),RL⟩⟩
   ·show z = (e : Int)
    have hz:=VE.h
    exact hz
   ·rw [List.length_drop] at p1
    have:=V.jLe; omega
   ·rw [V.eGot,hf1,←List.map_append,←List.take_add]
   ·rw [hf2,p3,List.drop_drop]
   ·have:=p4 (by rw [hdone g,List.drop_length])
    rw [List.length_drop] at this
    have:=V.jLe; omega
   ·have h1:=congrArg List.length p3
    rw [List.length_append,List.drop_drop] at h1
    have h2:=Z8 ms (j + k2)
    rw [←hall] at h2
    rw [hf2]
    have:=HA.h; omega
  have h : decide (KI < n2) = false:=h
  have hke : k = c.length:=by have:=of_decide_eq_false h; have:=VK.h; have:=VC.h; have:=hk.h; omega
  clear h
  obtain ⟨e,hee⟩ : ∃ e : Nat,e = all.length:=⟨_,rfl⟩
  have HEq : EqNN e all.length:=⟨hee⟩
  have HE : LeN at_ e∧LeN e all.length:=⟨⟨by have:=V.atLe; omega⟩,⟨by omega⟩⟩
  have hdone : k + 1 = c.length + 1→e = all.length:=fun _=>hee
  clear hee hke
  refine ⟨by subst hD; exact ⟨by show 0≤A; rw [VA.h]; omega,by show A≤(all.length : Int); have hz : (all.length : Int) = (e : Int):=(by rw [HEq.h]); rw [VA.h]; have:=HE.1.h; omega,by show (all.length : Int)≤(all.length : Int); have hz : (all.length : Int) = (e : Int):=(by rw [HEq.h]); have:=HE.2.h; omega⟩,fun y hy=>?_⟩
  cbv
  have hy2 : y = (all.drop at_).take (e - at_):=by
   subst hD
   have h7 : y = (all.drop A.toNat).take (((all.length : Int)).toNat - A.toNat):=hy.h
   have hz : (all.length : Int) = (e : Int):=(by rw [HEq.h])
   have e1 : A.toNat = at_:=by have:=VA.h; omega
   have e2 : ((all.length : Int)).toNat = e:=by omega
   rw [h7,e1,e2]
  have HY : LeN y.length 8000:=⟨by rw [hy2,List.length_take,List.length_drop]; have:=HA.h; omega⟩
  have hcat : (r ++ y) ++ all.drop e = Ko (ms.drop j):=by
   rw [←V.eR,hy2,List.append_assoc]
   congr 1
   have:=List.take_append_drop (e - at_) (all.drop at_)
   rw [List.drop_drop,show at_ + (e - at_) = e by have:=HE.1.h; omega] at this
   exact this
  clear hy hy2
  refine ⟨⟨by have:=HY.h; omega⟩,fun fy hfy=>?_⟩
  cbv
  have hfy : fy = byteRow y:=hfy.h
  subst hfy
  obtain ⟨k2,b',p1,p2,p3,p4⟩:=O7 (ms.drop j) (r ++ y) (all.drop e) [] ((r ++ y).length + 1) (fun x hx=>hmo x (List.mem_of_mem_drop hx)) (by omega) hcat
  clear hcat
  refine ⟨r,y,_,_,_,_,_,_,rfl,rfl,by subst hD; exact V.R,by subst hD; exact ⟨rfl,fun _ _=>rfl⟩,by have:=V.rl; have:=HY.h; omega,fun m3 left e3 gm nm bm gl3 nl3 bl3 hfd _ GM RL=>?_⟩
  cbv
  have hfd : (m3,left,e3) = ([] ++ ((ms.drop j).take k2).map stQ,b',0):=hfd.trans p2
  simp only [List.nil_append,Prod.mk.injEq] at hfd
  obtain ⟨hf1,hf2,hf3⟩:=hfd
  clear p2
  refine br hD (fun h=>?_) (fun h=>?_)<;>cbv
  ·have h : (e3 != 0) = true:=h
   rw [hf3] at h
   cases h
  clear h hf3
  have VG : VI ng got.length:=⟨V.G.row.n⟩
  have VM : VI nm m3.length:=⟨GM.row.n⟩
  have HG5 : LeN got.length 5:=⟨by rw [V.eGot,List.length_map,List.length_take]; have:=HM.h; omega⟩
  have HM5 : LeN m3.length 5:=⟨by rw [hf1,List.length_map,List.length_take,List.length_drop]; have:=HM.h; omega⟩
  refine ⟨by subst hD; exact ⟨rfl,by show (ng + nm) * 96≤_; rw [VG.h,VM.h]; have:=HG5.h; have:=HM5.h; omega,by show ng + nm≤_; rw [VG.h,VM.h]; have:=HG5.h; have:=HM5.h; omega⟩,fun f' n' hm=>?_⟩
  cbv
  have G2 : ∀ nb,nb = (bg && m3.isEmpty)→GrQ f' n' nb (got ++ m3):=fun nb hb=>V.G.app GM.row (by subst hD; exact hm) (by have:=HG5.h; have:=HM5.h; omega) hb
  clear hm
  have hme : (nm == 0) = m3.isEmpty:=by
   rw [Bool.eq_iff_iff,beq_iff_eq,VM.h,List.isEmpty_iff,←List.length_eq_zero_iff]; omega
  refine ⟨c.length + 1 - (k + 1),by have:=V.eM; have:=hk.h; omega,?_⟩
  rw [hJ]
  unfold p2J
  subst hD
  have hw1 : IntKind.i64.wrap (KI + 1) = ((k + 1 : Nat) : Int):=by rw [Am (by have:=VK.h; omega) (by have:=VK.h; have:=hk.h; have:=H5.2.h; omega),VK.h]; omega
  refine ⟨k + 1,e,j + k2,_,_,got ++ m3,left,f',n',(bg && (nm == 0)),gl3,nl3,bl3,rfl,rfl,⟨hw1,?_,by have:=hk.h; omega,rfl,HE.2.h,?_,?_,?_,fun g=>?_,?_,G2 _ (by rw [hme]),RL⟩⟩
  ·show (all.length : Int) = (e : Int)
   have hz : (all.length : Int) = (e : Int):=(by rw [HEq.h])
   exact hz
  ·rw [List.length_drop] at p1
   have:=V.jLe; omega
  ·rw [V.eGot,hf1,←List.map_append,←List.take_add]
  ·rw [hf2,p3,List.drop_drop]
  ·have:=p4 (by rw [hdone g,List.drop_length])
   rw [List.length_drop] at this
   have:=V.jLe; omega
  ·have h1:=congrArg List.length p3
   rw [List.length_append,List.drop_drop] at h1
   have h2:=Z8 ms (j + k2)
   rw [←hall] at h2
   rw [hf2]
   have:=HA.h; omega
 have h : decide (KI≤n2) = false:=h
 have hk : k = c.length + 1:=by have:=of_decide_eq_false h; have:=VK.h; have:=VC.h; have:=V.iLe; omega
 have hj:=V.done hk
 have hr0 : r = []:=by
  have:=V.eR
  rw [hj,List.drop_length] at this
  exact (List.append_eq_nil_iff.1 this).1
 have hgw : got = want:=by rw [V.eGot,hwant,hj,List.take_length]
 have VR : VI nr r.length:=⟨V.R.n⟩
 clear h
 refine ⟨got,want,_,_,_,_,_,_,rfl,rfl,by subst hD; exact V.G.row,by subst hD; exact GW.row,fun z hz=>?_⟩
 cbv
 rw [hgw,decide_eq_true rfl] at hz
 refine Aj hD ?_
 show ((z && (nr == 0)) && true) = true
 rw [hz,VR.h,hr0]; rfl
end Go.Proofs.YtefelnhpfdcleaaGreatDoor
namespace Go.Proofs.YtefelnhpfdcleaaGreatDoor
open Go Go.Sx
set_option maxRecDepth 100000
set_option maxHeartbeats 400000
def totQ (l : List Rq) (f : Nat→List SV) (i : Nat) : List SV :=
 match f i with
 | [a,b,c,d,.sl nl n sz _,e]=>[a,b,c,d,.sl nl n sz (Vf (l.getD i rqZ).fields),e]
 | x=>x
def rowQD (l : List Rq) (f : Nat→List SV) : Prop:=∀ i,i < l.length→∃ nl n g,f i = X0 (l.getD i rqZ) nl n g∧Gd (l.getD i rqZ) nl n g
theorem Aag {l : List Rq} {f : Nat→List SV} {i : Nat} {nl : Bool} {n : Int} {g : Nat→List SV} (h : f i = X0 (l.getD i rqZ) nl n g) : totQ l f i = X0 (l.getD i rqZ) nl n (Vf (l.getD i rqZ).fields):=by
 unfold totQ; rw [h]; rfl
def spPiecesD : FSpec:=fun _ xs ls K=>∃ (l : List Rq) (nl : Bool) (n : Int) (f : Nat→List SV) (c : List Int) (nl2 : Bool) (n2 : Int) (f2 : Nat→List SV),xs = [.sl (.a nl) (.a n) 6 f,.sl (.a nl2) (.a n2) 1 f2]∧ls = []∧n = l.length∧l.length≤9223372036854775807∧rowQD l f∧RowC f2 n2 c∧K (.bool (.a true)) []
theorem Afi : Ar Tryz.prog gl 11 spPiecesD:=by
 refine ⟨Y0.1,fun xs ls K h=>?_⟩
 obtain ⟨l,nl,n,f,c,nl2,n2,f2,rfl,rfl,hn,hl,hT,RC,h⟩:=h
 obtain ⟨v,ls',hK,hc⟩:=Y0.2 _ [] K ⟨l,nl,n,totQ l f,c,nl2,n2,f2,rfl,rfl,hn,hl,fun i hi=>by
  obtain ⟨a,m,g,e,R⟩:=hT i hi
  exact ⟨a,m,Aag e,R.total⟩,RC,h⟩
 refine ⟨v,ls',hK,Hk (LeL.cons (LeV.slD rfl rfl (fun i hi=>?_) (fun i j s' hi hs=>?_)) (LeL.cons (LeV.refl _) LeL.nil)) hc⟩
 ·have hi : (i : Int) < n:=hi
  obtain ⟨a,m,g,e,R⟩:=hT i (by omega)
  rw [Aag e,e]; rfl
 ·have hi : (i : Int) < n:=hi
  obtain ⟨a,m,g,e,R⟩:=hT i (by omega)
  rw [Aag e] at hs
  rw [e]
  match j,hs with
  | 0,hs=>exact ⟨_,rfl,by cases hs; exact LeO.refl _⟩
  | 1,hs=>exact ⟨_,rfl,by cases hs; exact LeO.refl _⟩
  | 2,hs=>exact ⟨_,rfl,by cases hs; exact LeO.refl _⟩
  | 3,hs=>exact ⟨_,rfl,by cases hs; exact LeO.refl _⟩
  | 4,hs =>
   refine ⟨_,rfl,?_⟩
   cases hs
   refine LeO.sl rfl rfl fun k hk=>?_
   have hk : (k : Int) < m:=hk
   rw [R.row.f k (by have:=R.row.n; omega)]
   rfl
  | 5,hs=>exact ⟨_,rfl,by cases hs; exact LeO.refl _⟩
  | j + 6,hs=>simp [X0] at hs
end Go.Proofs.YtefelnhpfdcleaaGreatDoor
namespace Go.Proofs.YtefelnhpfdcleaaGreatDoor
open Go Go.Sx Go.ChangeShapes Go.WideShapes Go.RowKit
set_option maxRecDepth 100000
def Aav (x : QsD) : List Rq:=x.1.2.map Aip
theorem qs_len (x : QsD) : (x.1.2.length : Int) = ((Aav x).length : Int):=by unfold Aav; rw [List.length_map]
theorem qs_fit (x : QsD) : (Aav x).length≤9223372036854775807:=by unfold Aav; rw [List.length_map]; exact Nat.le_trans x.2.1 (by decide)
theorem rowQ_of (x : QsD) : rowQD (Aav x) (Ci rqC x.1.2):=fun i hi=>by
 unfold Aav at hi
 rw [List.length_map] at hi
 have e : (Aav x).getD i rqZ = Aip x.1.2[i]:=by
  unfold Aav
  rw [List.getD_eq_getElem?_getD,List.getElem?_map,List.getElem?_eq_getElem hi]; rfl
 refine ⟨_,_,_,?_,by rw [e]; exact Aap x.1.2[i]⟩
 rw [e]
 unfold Ci
 rw [List.getElem?_eq_getElem hi]
 rfl
def Aj4 (x : CsD) : List Int:=x.1.2.map (·.1)
theorem rowC_of (x : CsD) : RowC (Ci u16C x.1.2) (x.1.2.length : Int) (Aj4 x):=by
 have e : ∀ i (hi : i < x.1.2.length),(Aj4 x).getD i 0 = x.1.2[i].1:=fun i hi=>by
  unfold Aj4
  rw [List.getD_eq_getElem?_getD,List.getElem?_map,List.getElem?_eq_getElem hi]; rfl
 have hl : (Aj4 x).length = x.1.2.length:=by unfold Aj4; rw [List.length_map]
 refine ⟨by rw [hl],fun i hi=>?_,fun i hi=>?_⟩
 ·rw [hl] at hi
  rw [e i hi]
  unfold Ci
  rw [List.getElem?_eq_getElem hi]
  rfl
 ·rw [hl] at hi
  rw [e i hi]
  exact Ue _
end Go.Proofs.YtefelnhpfdcleaaGreatDoor
