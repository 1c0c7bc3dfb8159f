/- Part of the proofs of the statements about requests (layer 7): a symbolic executor over the code, that it is sound, and contracts of functions; it has no conditions of its own. -/
import Derived.Test.YtefelnhpfdcleaaGreatDoorSzPaz
import Derived.Test.YtefelnhpfdcleaaGreatDoorSzPbd
import Derived.Test.YtefelnhpfdcleaaGreatDoorSzPbg
import Derived.Test.YtefelnhpfdcleaaGreatDoorUzPab
import Derived.Test.YtefelnhpfdcleaaGreatDoorUzPac
import Derived.Test.YtefelnhpfdcleaaGreatDoorSzPbh
import Derived.Test.YtefelnhpfdcleaaGreatDoorUzPaa
import Derived.Test.YtefelnhpfdcleaaGreatDoorE6Paa
namespace Go.Proofs.YtefelnhpfdcleaaGreatDoor
open Go Go.Sx Go.ChangeShapes Go.WideShapes Go.RowKit
set_option maxRecDepth 100000
theorem J9 : B9 Tryz.prog 9 (fun s : {s : List UInt8 // s.length≤maxLen}=>[.str s.1]):=.str Tryz.underlying9
theorem ro3 {I : Nat→Nat→Prop} {W : World} {s t r : SV} {v u x : Value} (h : RO I W s v) (k : RO I W t u) (l : RO I W r x) : ∀ (i : Nat) (s' : SV) (v' : Value),[s,t,r][i]? = some s'→[v,u,x][i]? = some v'→RO I W s' v'
 | 0,_,_,a,b=>by simp at a b; subst a b; exact h
 | 1,_,_,a,b=>by simp at a b; subst a b; exact k
 | 2,_,_,a,b=>by simp at a b; subst a b; exact l
 | _ + 3,_,_,a,_=>by simp at a
end Go.Proofs.YtefelnhpfdcleaaGreatDoor
namespace Go.Proofs.YtefelnhpfdcleaaGreatDoor
open Go Go.Sx Go.ChangeShapes Go.WideShapes Go.RowKit
set_option maxRecDepth 100000
abbrev StD:={s : List UInt8 // s.length≤maxLen}
abbrev Anh:={n : Int // (Lit.int .i64 n).wf = true}
abbrev HfD:=StD×StD×Unit
def hfC (x : HfD) : List SV:=[.str x.1.1] ++ ([.str x.2.1.1] ++ [])
abbrev FsD:={x : Bool×List HfD // x.2.length≤maxLen∧(x.1 = true→x.2 = [])}
abbrev RqD:=Anh×StD×StD×StD×FsD×StD×Unit
def rqC (x : RqD) : List SV:=[.int .i64 (.a x.1.1)] ++ ([.str x.2.1.1] ++ ([.str x.2.2.1.1] ++ ([.str x.2.2.2.1.1] ++ (slC 2 hfC x.2.2.2.2.1.1 ++ ([.str x.2.2.2.2.2.1.1] ++ [])))))
theorem Alj : B9 Tryz.prog 2 (fun n : Anh=>[.int .i64 (.a n.1)]):=.intB Tryz.underlying2
theorem Afl : B9 Tryz.prog 69 hfC:=.struct (fs:=[(0,9),(1,9)]) (len:=2) Tryz.underlying69 (by rfl) (by kernel_rfl) (Dx.cons 0 1 1 (by kernel_rfl) J9 (Dx.cons 1 1 0 (by kernel_rfl) J9 Dx.nil))
theorem Afo : B9 Tryz.prog 29 (fun x : FsD=>slC 2 hfC x.1):=.sliceN Tryz.underlying29 (by kernel_rfl) (by decide) Afl
theorem Afn : B9 Tryz.prog 31 rqC:=.struct (fs:=[(0,2),(1,9),(2,9),(3,9),(4,29),(5,9)]) (len:=6) Tryz.underlying31 (by rfl) (by kernel_rfl)
 (Dx.cons 0 1 5 (by kernel_rfl) Alj (Dx.cons 1 1 4 (by kernel_rfl) J9 (Dx.cons 2 1 3 (by kernel_rfl) J9 (Dx.cons 3 1 2 (by kernel_rfl) J9 (Dx.cons 4 1 1 (by kernel_rfl) Afo (Dx.cons 5 1 0 (by kernel_rfl) J9 Dx.nil))))))
def Aq (x : HfD) : HF:=⟨x.1.1,x.2.1.1⟩
def Aip (x : RqD) : Rq:=⟨x.1.1,x.2.1.1,x.2.2.1.1,x.2.2.2.1.1,x.2.2.2.2.1.1.2.map Aq,x.2.2.2.2.2.1.1⟩
theorem Dl (x : StD) : x.1.length≤9223372036854775807:=Nat.le_trans x.2 (by decide)
theorem Aaq (l : List HfD) (h : l.length≤maxLen) : A9 (Ci hfC l) (l.length : Int) (l.map Aq):=by
 refine ⟨by rw [List.length_map],fun i hi=>?_,by rw [List.length_map]; exact Nat.le_trans h (by decide),fun i hi=>?_⟩
 ·rw [List.length_map] at hi
  unfold Ci
  rw [List.getElem?_eq_getElem hi,List.getD_eq_getElem?_getD,List.getElem?_map,List.getElem?_eq_getElem hi]; rfl
 ·rw [List.length_map] at hi
  rw [List.getD_eq_getElem?_getD,List.getElem?_map,List.getElem?_eq_getElem hi]
  exact ⟨Dl l[i].1,Dl l[i].2.1⟩
def rqF (x : RqD) : Nat→List SV:=Ci hfC x.2.2.2.2.1.1.2
theorem Aap (x : RqD) : Gd (Aip x) x.2.2.2.2.1.1.1 (x.2.2.2.2.1.1.2.length : Int) (rqF x):=by
 have hw:=x.1.2
 simp only [Lit.wf,Bool.and_eq_true,decide_eq_true_eq] at hw
 refine ⟨?_,?_,Dl _,Dl _,Dl _,Dl _,Aaq _ x.2.2.2.2.1.2.1,fun e=>?_⟩
 ·exact hw.1
 ·exact hw.2
 ·show List.map Aq _ = []
  rw [x.2.2.2.2.1.2.2 e]; rfl
def rq31 (x : RqD) : SV:=.agg (rqC x)
end Go.Proofs.YtefelnhpfdcleaaGreatDoor
namespace Go.Proofs.YtefelnhpfdcleaaGreatDoor
open Go Go.Sx Go.ChangeShapes Go.WideShapes Go.RowKit
set_option maxRecDepth 100000
abbrev U8:={n : Int // (Lit.int .u8 n).wf = true}
def u8C (n : U8) : List SV:=[.int .u8 (.a n.1)]
theorem Acx : B9 Tryz.prog 5 u8C:=.intB Tryz.underlying5
abbrev BsD:={x : Bool×List U8 // x.2.length≤maxLen∧(x.1 = true→x.2 = [])}
theorem Rh : B9 Tryz.prog 36 (fun x : BsD=>slC 1 u8C x.1):=.sliceN Tryz.underlying36 (by kernel_rfl) (by decide) Acx
def Aij (x : BsD) : SV:=.sl (.a x.1.1) (.a (x.1.2.length : Int)) 1 (Ci u8C x.1.2)
def Ff (x : BsD) : List UInt8:=x.1.2.map fun n=>UInt8.ofNat n.1.toNat
theorem Ur (n : U8) : 0≤n.1∧n.1≤255:=by
 have:=n.2
 simpa [Lit.wf,IntKind.min,IntKind.max,IntKind.signed,IntKind.bits] using this
theorem Nj (x : BsD) : Bn (Ci u8C x.1.2) (x.1.2.length : Int) (Ff x):=by
 refine ⟨by unfold Ff; rw [List.length_map],fun i hi=>?_⟩
 unfold Ff at hi ⊢
 rw [List.length_map] at hi
 unfold Ci
 rw [List.getElem?_eq_getElem hi,List.getD_eq_getElem?_getD,List.getElem?_map,List.getElem?_eq_getElem hi]
 have hf:=Ur x.1.2[i]
 have h8:=Aah ⟨x.1.2[i].1.toNat,by omega⟩
 simp only [Option.map_some,Option.getD_some,u8C]
 simp only at h8
 rw [h8]
 congr 3
 omega
abbrev U16:={n : Int // (Lit.int .u16 n).wf = true}
def u16C (n : U16) : List SV:=[.int .u16 (.a n.1)]
theorem Afm : B9 Tryz.prog 41 u16C:=.intB Tryz.underlying41
theorem Ue (n : U16) : 0≤n.1∧n.1≤65535:=by
 have:=n.2
 simpa [Lit.wf,IntKind.min,IntKind.max,IntKind.signed,IntKind.bits] using this
end Go.Proofs.YtefelnhpfdcleaaGreatDoor
namespace Go.Proofs.YtefelnhpfdcleaaGreatDoor
open Go Go.Sx
set_option maxRecDepth 100000
set_option maxHeartbeats 16000000
theorem Hk {P : Go.Program} {gl : List (Nat×SV)} {f : Go.FuncId} {as1 as2 : List SV} {ls : List Hl} {r : SV} {ls' : List Hl} (h : LeL as1 as2) (c : Dk P gl f as2 ls r ls') : Dk P gl f as1 ls r ls' :=
 fun B E w vals hw hI hdom hb hg hh hr=>c B E w vals hw hI hdom hb hg hh (h E w vals hr)
def Vf (l : List HF) (i : Nat) : List SV:=B6 (l.getD i default)
theorem Gd.total {r : Rq} {nl : Bool} {n : Int} {f : Nat→List SV} (R : Gd r nl n f) : Gd r nl n (Vf r.fields):=⟨R.id1,R.id2,R.method,R.target,R.host,R.body,⟨R.row.n,fun _ _=>rfl,R.row.len,R.row.small⟩,R.nil⟩
theorem rqLe {r : Rq} {nl : Bool} {n : Int} {f : Nat→List SV} (R : Gd r nl n f) : LeV (.agg [.int .i64 (.a r.id),.str r.method,.str r.target,.str r.host,.sl (.a nl) (.a n) 2 f,.str r.body]) (.agg [.int .i64 (.a r.id),.str r.method,.str r.target,.str r.host,.sl (.a nl) (.a n) 2 (Vf r.fields),.str r.body]):=by
 refine .agg (.cons (LeV.refl _) (.cons (LeV.refl _) (.cons (LeV.refl _) (.cons (LeV.refl _) (.cons (.sl rfl rfl fun i hi=>?_) (.cons (LeV.refl _) .nil))))))
 have hi : (i : Int) < n:=hi
 rw [R.row.f i (by have:=R.row.n; omega)]
 rfl
end Go.Proofs.YtefelnhpfdcleaaGreatDoor
namespace Go.Proofs.YtefelnhpfdcleaaGreatDoor
open Go Go.Sx
set_option maxRecDepth 100000
set_option maxHeartbeats 16000000
def spRound : FSpec:=fun _ xs ls K=>∃ (r : Rq) (nl : Bool) (n : Int) (f : Nat→List SV) (t : List UInt8) (nl2 : Bool) (n2 : Int) (f2 : Nat→List SV) (p : Int),xs = [.agg [.int .i64 (.a r.id),.str r.method,.str r.target,.str r.host,.sl (.a nl) (.a n) 2 f,.str r.body],.sl (.a nl2) (.a n2) 1 f2,.int .u16 (.a p)]∧ls = []∧Gd r nl n f∧(∀ j,f j = B6 (r.fields.getD j default))∧Bn f2 n2 t∧0≤p∧p≤65535∧K (.bool (.a true)) []
theorem Acg : Ar Tryz.prog gl 6 spRound:=by
 refine A4 (gh:=[(999983,[])]) mixed A0 (Aa Ami (Aa Pp (Aa Sh (Aa Jb (Aa Ps (Fu (Aga P0) Ae)))))) Tryz.func6 (by kernel_rfl) (by kernel_rfl) ?_
 intro xs ls K h
 unfold spRound at h
 obtain ⟨r,nl,n,f,t,nl2,n2,f2,p,rfl,rfl,R,hT,R2,hp0,hp1,h⟩:=h
 refine ⟨_,_,h,fun D hD=>?_⟩
 clear h
 obtain ⟨id,me,ta,ho,fs,bo⟩:=r
 cbv
 refine ⟨⟨id,me,ta,ho,fs,bo⟩,nl,n,f,by subst hD; rfl,rfl,R,hT,fun b _=>?_⟩
 cbv
 refine br hD (fun h=>?_) (fun h=>?_)<;>cbv
 ·exact Aj hD rfl
 refine ⟨⟨id,me,ta,ho,fs,bo⟩,nl,n,f,by subst hD; rfl,rfl,R,fun s e h1=>?_⟩
 cbv
 have HT : LeN t.length 1000:=⟨by
  have h : (b || decide (1000 < n2)) = false:=h
  rw [Bool.or_eq_false_iff] at h
  have:=of_decide_eq_false h.2; have:=R2.n; omega⟩
 clear h
 have hno : e≠0→s = []:=fun g=>by
  by_cases h0 : (Av ⟨id,me,ta,ho,fs,bo⟩).2.2 = 0
  ·rw [Iv h0] at h1; exact absurd (Prod.mk.inj h1).2 g
  ·rw [O8 h0] at h1; exact (Prod.mk.inj h1).1
 have hex : e = 0→(Av ⟨id,me,ta,ho,fs,bo⟩).2.2 = 0:=fun g=>by
  by_cases h0 : (Av ⟨id,me,ta,ho,fs,bo⟩).2.2 = 0
  ·exact h0
  ·rw [O8 h0] at h1; exact absurd ((Prod.mk.inj h1).2.symm.trans g) h0
 refine br hD (fun h=>?_) (fun h=>?_)<;>cbv
 ·have h : (e != 0) = true:=h
  have hs:=hno (by simpa using h)
  refine Aj hD ?_
  show ((s == []) && true) = true
  rw [hs]; rfl
 have h : (e != 0) = false:=h
 have he0 : e = 0:=by simpa using h
 have hex:=hex he0
 obtain ⟨l',G⟩:=Um hex
 have hse : s = (Bo ⟨id,me,ta,ho,fs,bo⟩).1:=by rw [←h1]
 have HS : LeN s.length 600000:=⟨by
  have E:=G.ex
  have h2:=Oo (l:=(Ai ⟨id,me,ta,ho,fs,bo⟩).1)
  have h3 : Fw (Ai ⟨id,me,ta,ho,fs,bo⟩).1 = (Bj (Ai ⟨id,me,ta,ho,fs,bo⟩).1,0):=by unfold Fw; rw [if_neg (by simp [G.cw])]
  rw [h3] at h2
  have h4:=G.line.2.2.2.2.2.2
  have h5:=G.ex.body
  simp only at h2 h4 h5
  rw [hse,Si hex,List.length_append,List.length_append,Fl]
  simp only
  omega⟩
 have hpos : LeN 1 s.length:=⟨by rw [hse,Si hex,List.length_append,Fl]; omega⟩
 have hw : ∀ u,Bp (s ++ u) = (⟨id,me,ta,ho,l',bo⟩,(s.length : Int),0):=fun u=>by rw [hse]; exact S7 hex G u
 have hpt : ∀ x v,s = x ++ v→v≠[]→Bp x = (rqZ,0,10):=fun x v h3 h4=>Vq hex G (by rw [←hse]; exact h3) h4
 have hag : Bo ⟨id,me,ta,ho,l',bo⟩ = (s,0):=by
  have:=G.again.1
  rw [this,←h1,he0]
 have hstr:=G.strip
 simp only at hstr
 clear h h1 hno hex G hse
 refine ⟨fs,nl,n,f,by subst hD; rfl,rfl,R.row,fun r1 e1 g1 n1 b1 hr1 G1=>?_⟩
 cbv
 rw [hstr] at hr1
 simp only [Prod.mk.injEq] at hr1
 obtain ⟨rfl,rfl⟩:=hr1
 clear hstr
 refine ⟨⟨by have:=HS.h; omega⟩,fun f3 hf3=>?_⟩
 cbv
 have hf3 : f3 = byteRow s:=hf3.h
 subst hf3
 have VT : VI n2 t.length:=⟨R2.n⟩
 refine ⟨by subst hD; exact ⟨rfl,by show ((s.length : Int) + n2) * 1≤_; rw [VT.h]; have:=HS.h; have:=HT.h; omega,by show (s.length : Int) + n2≤_; rw [VT.h]; have:=HS.h; have:=HT.h; omega⟩,fun f4 n4 hm=>?_⟩
 cbv
 have R4 : Bn f4 n4 (s ++ t):=Bn.more ⟨rfl,fun _ _=>rfl⟩ R2.n R2.f (by subst hD; exact hm)
 clear hm
 refine ⟨_,_,_,_,_,_,_,rfl,rfl,rfl,s ++ t,_,_,_,rfl,rfl,by subst hD; exact R4,by rw [List.length_append]; have:=HS.h; have:=HT.h; omega,fun q gq nq bq kq eq hq Gq=>?_⟩
 cbv
 rw [hw t] at hq
 simp only [Prod.mk.injEq] at hq
 obtain ⟨hq1,hq2,hq3⟩:=hq
 have VK : VI kq s.length:=⟨hq2⟩
 subst hq1 hq3
 clear R4 hw hq2
 refine ⟨⟨id,me,ta,ho,r1,bo⟩,⟨id,me,ta,ho,r1,bo⟩,_,_,_,_,_,_,by subst hD; rfl,rfl,Gq.row,G1.row,fun z hz=>?_⟩
 cbv
 rw [decide_eq_true rfl] at hz
 subst hz
 have hcond : (((((((0 : Int) != 0) || ((0 : Int) != 0)) || (kq != (s.length : Int))) || !true) || ((s.length : Int) == 0))) = false:=by
  have h0 : ((s.length : Int) == 0) = false:=by rw [beq_eq_false_iff_ne]; have:=hpos.h; omega
  have h1 : (kq != (s.length : Int)) = false:=by rw [VK.h]; simp
  rw [h0,h1]; rfl
 refine br hD (fun h=>?_) (fun h=>?_)<;>cbv
 ·have h : (((((((0 : Int) != 0) || ((0 : Int) != 0)) || (kq != (s.length : Int))) || !true) || ((s.length : Int) == 0))) = true:=h
  rw [hcond] at h; cases h
 clear h hcond G1
 have VP : VI (IntKind.i64.wrap p) p.toNat:=⟨by rw [Am (by omega) (by omega)]; omega⟩
 obtain ⟨c,hc⟩ : ∃ c : Nat,c = p.toNat % s.length:=⟨_,rfl⟩
 have hmod : Bg .rem .i64 (IntKind.i64.wrap p) (s.length : Int) = (c : Int):=by
  show (IntKind.i64.wrap p).tmod (s.length : Int) = _
  rw [VP.h,hc]; rfl
 have VC : VI (Bg .rem .i64 (IntKind.i64.wrap p) (s.length : Int)) c:=⟨hmod⟩
 have hcl : LeN (c + 1) s.length:=⟨by rw [hc]; have:=Nat.mod_lt p.toNat (show 0 < s.length by have:=hpos.h; omega); omega⟩
 clear hmod hc VP hp0 hp1
 refine ⟨by subst hD; exact ⟨by show (s.length : Int)≠0; have:=hpos.h; omega⟩,by subst hD; exact ⟨Int.le_refl _,by show (0 : Int)≤Bg .rem .i64 (IntKind.i64.wrap p) (s.length : Int); rw [VC.h]; omega,by show Bg .rem .i64 (IntKind.i64.wrap p) (s.length : Int)≤(s.length : Int); rw [VC.h]; have:=hcl.h; omega⟩,fun x hx=>?_⟩
 cbv
 have hx2 : x = s.take c:=by
  subst hD
  have h7 : x = (s.drop 0).take ((Bg .rem .i64 (IntKind.i64.wrap p) (s.length : Int)).toNat - 0):=hx.h
  rw [VC.h] at h7
  rw [h7,List.drop_zero]; rfl
 have hxp : Bp x = (rqZ,0,10):=by
  refine hpt x (s.drop c) (by rw [hx2,List.take_append_drop]) ?_
  intro e
  have:=congrArg List.length e
  rw [List.length_drop,List.length_nil] at this
  have:=hcl.h; omega
 have HX : LeN x.length 600000:=⟨by rw [hx2,List.length_take]; have:=HS.h; omega⟩
 clear hx hx2 hpt VC hcl
 refine ⟨⟨by have:=HX.h; omega⟩,fun f6 hf6=>?_⟩
 cbv
 have hf6 : f6 = byteRow x:=hf6.h
 subst hf6
 refine ⟨_,_,_,_,_,_,_,rfl,rfl,rfl,x,_,_,_,rfl,rfl,by subst hD; exact ⟨rfl,fun _ _=>rfl⟩,by have:=HX.h; omega,fun q gq2 nq2 bq2 kq2 eq2 hq Gq2=>?_⟩
 cbv
 rw [hxp] at hq
 simp only [Prod.mk.injEq] at hq
 obtain ⟨hq1,hq2,hq3⟩:=hq
 subst hq2 hq3
 clear hxp hq1 Gq2
 refine ⟨⟨id,me,ta,ho,r1,bo⟩,_,_,_,by subst hD; rfl,rfl,⟨R.id1,R.id2,R.method,R.target,R.host,R.body,Gq.row,fun g=>by have:=Gq.nl; have g : bq = true:=g; rw [g] at this; exact List.isEmpty_iff.1 this.symm⟩,fun s2 e2 h2=>?_⟩
 cbv
 rw [hag] at h2
 simp only [Prod.mk.injEq] at h2
 obtain ⟨h3,h4⟩:=h2
 subst h3 h4
 refine Aj hD ?_
 show (((((0 : Int) == 0) && ((10 : Int) == 10)) && (s2 == s2)) && ((0 : Int) == 0) && true) = true
 simp
def spRoundD : FSpec:=fun _ xs ls K=>∃ (r : Rq) (nl : Bool) (n : Int) (f : Nat→List SV) (t : List UInt8) (nl2 : Bool) (n2 : Int) (f2 : Nat→List SV) (p : Int),xs = [.agg [.int .i64 (.a r.id),.str r.method,.str r.target,.str r.host,.sl (.a nl) (.a n) 2 f,.str r.body],.sl (.a nl2) (.a n2) 1 f2,.int .u16 (.a p)]∧ls = []∧Gd r nl n f∧Bn f2 n2 t∧0≤p∧p≤65535∧K (.bool (.a true)) []
theorem Aiq : Ar Tryz.prog gl 6 spRoundD:=by
 refine ⟨Acg.1,fun xs ls K h=>?_⟩
 obtain ⟨r,nl,n,f,t,nl2,n2,f2,p,rfl,rfl,R,R2,h1,h2,h⟩:=h
 obtain ⟨v,ls',hK,hc⟩:=Acg.2 _ [] K ⟨r,nl,n,Vf r.fields,t,nl2,n2,f2,p,rfl,rfl,R.total,fun _=>rfl,R2,h1,h2,h⟩
 exact ⟨v,ls',hK,Hk (LeL.cons (rqLe R) (LeL.cons (LeV.refl _) (LeL.cons (LeV.refl _) LeL.nil))) hc⟩
end Go.Proofs.YtefelnhpfdcleaaGreatDoor
