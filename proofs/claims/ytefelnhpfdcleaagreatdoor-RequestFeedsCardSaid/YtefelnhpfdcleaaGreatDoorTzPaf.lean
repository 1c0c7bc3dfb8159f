/- Part of the proofs of the statements about requests (layer 7): a symbolic executor over the code, that it is sound, and contracts of functions; it has no conditions of its own. -/
import Derived.Test.YtefelnhpfdcleaaGreatDoorTzPae
import Derived.Test.YtefelnhpfdcleaaGreatDoorSzPbg
import Derived.Test.YtefelnhpfdcleaaGreatDoorTzPac
import Derived.Test.YtefelnhpfdcleaaGreatDoorSzPbh
import Derived.Test.YtefelnhpfdcleaaGreatDoorTzPab
namespace Go.Proofs.YtefelnhpfdcleaaGreatDoor
open Go Go.Sx
set_option maxRecDepth 100000
set_option maxHeartbeats 16000000
def spParseR : FSpec:=fun _ xs ls K=>∃ (b : List UInt8) (nl : Bool) (n : Int) (f : Nat→List SV),xs = [.sl (.a nl) (.a n) 1 f]∧ls = []∧Bn f n b∧Yn f b∧b.length≤1000000∧
 ∀ r f1 n1 b1 k e,(r,k,e) = Bp b→GrH f1 n1 b1 r.fields→K (.tup [.agg [.int .i64 (.a r.id),.str r.method,.str r.target,.str r.host,.sl (.a b1) (.a n1) 2 f1,.str r.body],.int .i64 (.a k),.int .i64 (.a e)]) []
theorem Yn.sub {f f' : Nat→List SV} {n' : Int} {t : List UInt8} {a : Nat} {A B : Int} (R : Yn f t) (h : Abu f' n' f A B) (hA : A = a) : Yn f' (t.drop a):=fun j=>by
 rw [h.row j (j + a) (by omega),R (j + a),List.getD_eq_getElem?_getD,List.getD_eq_getElem?_getD,List.getElem?_drop,Nat.add_comm a j]
structure NumV (v e hi : Int) : Prop where
 lo : 0≤v
 hi : v≤hi
 z : e≠0→v = 0
structure NumS (v : Int) : Prop where
 lo : 0≤v
 hi : v≤65536
structure AtP (n p c a : Int) : Prop where
 w : a = p + c
 ws : IntKind.i64.wrap (n - a) = n - (p + c)
theorem Aay (s : List UInt8) (hi : Int) : (Bi s hi).2≠0→(Bi s hi).1 = 0:=by
 unfold Bi Wo
 split
 ·exact fun _=>rfl
 split
 ·exact fun _=>rfl
 split
 ·exact fun _=>rfl
 ·intro h; exact absurd rfl h
def z31 : List SV:=[.int .i64 (.a 0),.str [],.str [],.str [],.sl (.a true) (.a 0) 2 (fun _=>[]),.str []]
def Qe (l : List HF) : List HF:=l.filter fun x=>!I4 (Ao x.name)
theorem Wl (x : HF) (l : List HF) : Qe (x :: l) = if inF ownL (Ao x.name) then Qe l else x :: Qe l:=by
 rw [←Ahb]
 unfold Qe
 rw [List.filter_cons]
 cases I4 (Ao x.name)<;>rfl
structure KrJ (l k out : List HF) (i : Nat) (I : Int) (m : Nat) (f1 : Nat→List SV) (n1 : Int) (b1 : Bool) : Prop where
 lie : AtR l i I m
 G : GrH f1 n1 b1 out
 ol : out.length≤i
 k : k = out ++ Qe (l.drop i)
def krJ (_b me ta ho : List UInt8) (l k : List HF) (nl gb : Bool) (n gn at_ e iv sv : Int) (f g : Nat→List SV) (m : Nat) (vs : List (Option SV)) (hp : List Hl) : Prop :=
 ∃ (out : List HF) (i : Nat) (I : Int) (f1 : Nat→List SV) (n1 : Int) (b1 : Bool),vs = [some (.sl (.a nl) (.a n) 1 f),some (.ptr 0 0),some (.str me),some (.int .i64 (.a at_)),some (.int .i64 (.a e)),some (.sl (.a gb) (.a gn) 2 g),some (.int .i64 (.a sv)),some (.ptr 1 0),some (.int .i64 (.a I))]∧
  hp = [.blk 31 z31,.blk 31 [.int .i64 (.a iv),.str me,.str ta,.str ho,.gsl (.a b1) (.a n1) 2 f1 2,.str []],.tail 69 (.a n1) 2]∧KrJ l k out i I m f1 n1 b1
theorem Vs : Ar Tryz.prog gl 23 spParseR:=by
 refine A4 (gh:=[(19,[.hold 17 4 69])]) mixed A0 (Aa line_ok (Aa Af7 (Aa Ah9 (Aa Acz (Aa Alf (Aa D1 (Aa Abc (Aa Ais (Aa Vl Ae))))))))) Tryz.func23 (by kernel_rfl) (by kernel_rfl) ?_
 intro xs ls K h
 unfold spParseR at h
 obtain ⟨b,nl,n,f,rfl,rfl,R,hT,hb,h⟩:=h
 have HB : LeN b.length 1000000:=⟨hb⟩
 obtain ⟨k,hk0⟩ : ∃ k,k = Bp b:=⟨_,rfl⟩
 obtain ⟨f1,n1,b1,hG⟩:=Ov b hb
 rw [←hk0] at hG
 obtain ⟨kr,kk,ke⟩:=k
 have hk:=hk0
 unfold Bp at hk
 have hrv:=N8 b
 obtain ⟨rl,hrl⟩ : ∃ c,c = Ax b:=⟨_,rfl⟩
 rw [←hrl] at hk hrv
 obtain ⟨me,ta,p,e0⟩:=rl
 simp only at hk hrv
 have PV0 : PV b me ta p:=⟨hrv.1,hrv.2.1,hrv.2.2.1,hrv.2.2.2⟩
 clear hrv
 refine ⟨_,_,h kr f1 n1 b1 kk ke hk0 hG,fun D hD=>?_⟩
 cbv
 clear h hk0
 refine ⟨b,_,_,_,rfl,rfl,by subst hD; exact R,by subst hD; exact hT,hb,fun me' ta' p' e0' hm=>?_⟩
 cbv
 rw [←hrl] at hm
 simp only [Prod.mk.injEq] at hm
 obtain ⟨rfl,rfl,rfl,rfl⟩:=hm
 clear hrl
 refine br hD (fun h=>?_) (fun h=>?_)<;>cbv
 ·have h1 : ¬ e0' = 0:=by have h : (e0' != 0) = true:=h; simpa using h
  rw [if_pos h1] at hk
  exact Cd hD hk rfl rfl rfl rfl rfl GrH.nil hG rfl rfl
 rw [if_neg (by have h : (e0' != 0) = false:=h; simpa using h)] at hk
 clear h
 obtain ⟨P,hP⟩ : ∃ P : Nat,P = p'.toNat:=⟨_,rfl⟩
 rw [←hP] at hk
 have VP : VI p' P:=⟨by have:=PV0.lo; omega⟩
 clear hP
 obtain ⟨t,ht⟩ : ∃ t,t = b.drop P:=⟨_,rfl⟩
 rw [←ht] at hk
 refine ⟨by subst hD; exact ⟨PV0.lo,by show p'≤n; rw [R.n]; exact PV0.hi,Int.le_refl _⟩,fun f2 n2 hsub=>?_⟩
 cbv
 have R2 : Bn f2 n2 t:=by
  have:=R.sub (a:=P) (b:=b.length) hsub (by subst hD; exact VP.h) (by subst hD; exact R.n) (by have:=VP.h; have:=PV0.hi; omega) (Nat.le_refl _)
  rw [ht]
  have e : (b.drop P).take (b.length - P) = b.drop P:=List.take_of_length_le (by rw [List.length_drop]; exact Nat.le_refl _)
  rwa [e] at this
 have T2 : Yn f2 t:=by rw [ht]; exact hT.sub hsub (by subst hD; exact VP.h)
 have htl : VI (t.length : Int) (b.length - P):=⟨by rw [ht,List.length_drop]⟩
 clear hsub ht
 have htm : t.length≤1000000:=by have:=htl.h; omega
 have hv1:=O3 t
 have hv2 : (B5 t).1.length≤100∧∀ x∈(B5 t).1,x.small:=Ia (t.length + 1) 0 [] t htm (by simp) (fun x hx=>by cases hx)
 obtain ⟨hp,hhp⟩ : ∃ c,c = B5 t:=⟨_,rfl⟩
 rw [←hhp] at hk hv1 hv2
 obtain ⟨l,c,e1⟩:=hp
 simp only at hk hv1 hv2
 have PC : PV t me' ta' c:=⟨hv1.2.1,hv1.2.2,PV0.me,PV0.ta⟩
 have FS:=Wv hv1.1
 obtain ⟨hv21,hv22⟩:=hv2
 clear hv1
 refine ⟨t,_,_,_,rfl,rfl,by subst hD; exact R2,by subst hD; exact T2,htm,fun l' g2 gn gb c' e1' hm hg2=>?_⟩
 cbv
 rw [←hhp] at hm
 simp only [Prod.mk.injEq] at hm
 obtain ⟨rfl,rfl,rfl⟩:=hm
 clear hhp
 refine br hD (fun h=>?_) (fun h=>?_)<;>cbv
 ·have h1 : ¬ e1' = 0:=by have h : (e1' != 0) = true:=h; simpa using h
  rw [if_pos h1] at hk
  exact Cd hD hk rfl rfl rfl rfl rfl GrH.nil hG rfl rfl
 rw [if_neg (by have h : (e1' != 0) = false:=h; simpa using h)] at hk
 clear h
 have FR:=Ww l'
 obtain ⟨fr,hfr⟩ : ∃ c,c = D9 l':=⟨_,rfl⟩
 rw [←hfr] at hk FS FR
 clear hfr
 refine ⟨l',_,_,_,_,rfl,rfl,by subst hD; exact hg2.row,hv21,by decide,fun ho fho nho bho hho Gho=>?_⟩
 cbv
 have hho : ho = fr.hosts:=hho.trans FR.hosts.symm
 refine ⟨l',_,_,_,_,rfl,rfl,by subst hD; exact hg2.row,hv21,by decide,fun is fis nis bis his Gis=>?_⟩
 cbv
 have his : is = fr.ids:=his.trans FR.ids.symm
 refine ⟨l',_,_,_,_,rfl,rfl,by subst hD; exact hg2.row,hv21,by decide,fun le fle nle ble hle Gle=>?_⟩
 cbv
 have hle : le = fr.lens:=hle.trans FR.lens.symm
 refine ⟨l',_,_,_,_,rfl,rfl,by subst hD; exact hg2.row,hv21,by decide,fun te fte nte bte hte Gte=>?_⟩
 cbv
 have hte2 : fr.coded = decide (0 < te.length):=by rw [hte]; exact FR.coded
 have Frest:=FR.rest
 subst hho his hle
 have N3:=Gho.row.n
 have N4:=Gis.row.n
 have N5:=Gle.row.n
 have N6:=Gte.row.n
 have hbad : (((nho != 1 || nis != 1) || decide (1 < nle)) || decide (0 < nte)) = Ki fr:=by
  unfold Ki
  have a1 : (nho != 1) = (fr.hosts.length != 1):=by rw [N3,Bool.eq_iff_iff]; simp only [bne_iff_ne]; omega
  have a2 : (nis != 1) = (fr.ids.length != 1):=by rw [N4,Bool.eq_iff_iff]; simp only [bne_iff_ne]; omega
  have a3 : decide (1 < nle) = decide (1 < fr.lens.length):=by rw [N5,decide_eq_decide]; omega
  have a4 : decide (0 < nte) = fr.coded:=by rw [hte2,N6,decide_eq_decide]; omega
  rw [a1,a2,a3,a4]
 have VN : VI nho fr.hosts.length∧VI nis fr.ids.length∧VI nle fr.lens.length:=⟨⟨N3⟩,⟨N4⟩,⟨N5⟩⟩
 clear N3 N4 N5 N6 hte hte2 Gte FR
 refine br hD (fun h=>?_) (fun h=>?_)<;>cbv
 ·have h1 : Ki fr = true:=by rw [←hbad]; exact h
  rw [Mj,if_pos h1] at hk
  exact Cd hD hk rfl rfl rfl rfl rfl GrH.nil hG rfl rfl
 have h1 : Ki fr = false:=by rw [←hbad]; exact h
 rw [Mj,if_neg (by rw [h1]; simp)] at hk
 clear h hbad
 have hl1 : LeN 1 fr.hosts.length∧LeN 1 fr.ids.length∧LeN fr.lens.length 1:=by unfold Ki at h1; simp only [Bool.or_eq_false_iff,bne_eq_false_iff_eq,decide_eq_false_iff_not] at h1; exact ⟨⟨by omega⟩,⟨by omega⟩,⟨by omega⟩⟩
 clear h1
 obtain ⟨ids0,hids⟩ : ∃ c,c = fr.ids.getD 0 []:=⟨_,rfl⟩
 obtain ⟨ho0,hho⟩ : ∃ c,c = fr.hosts.getD 0 []:=⟨_,rfl⟩
 have hids0 : LeN ids0.length 2000:=⟨FS.ids _ (by rw [hids,List.getD_eq_getElem?_getD,List.getElem?_eq_getElem (by have:=hl1.2.1.h; omega)]; exact List.getElem_mem _)⟩
 have hho0 : LeN ho0.length 2000:=⟨FS.hosts _ (by rw [hho,List.getD_eq_getElem?_getD,List.getElem?_eq_getElem (by have:=hl1.1.h; omega)]; exact List.getElem_mem _)⟩
 rw [←hids,←hho] at hk
 have q1:=Gis.row.f 0 (by have:=hl1.2.1.h; omega)
 rw [←hids] at q1
 have q3:=Gho.row.f 0 (by have:=hl1.1.h; omega)
 rw [←hho] at q3
 clear hids hho
 refine ⟨by subst hD; exact ⟨Int.le_refl _,by show (0 : Int) < nis; rw [VN.2.1.h]; have:=hl1.2.1.h; omega⟩,fun j hj=>?_⟩
 obtain rfl : j = 0:=by subst hD; exact Int.ofNat.inj hj.h
 clear hj
 cbv
 rw [q1]
 cbv
 clear q1 Gis
 refine ⟨ids0,_,rfl,rfl,by have:=hids0.h; omega,by subst hD; show (0 : Int)≤1000000000; decide,by subst hD; show (1000000000 : Int)≤1000000000; decide,fun iv ie hi=>?_⟩
 cbv
 have hi : (iv,ie) = Bi ids0 1000000000:=by subst hD; exact hi
 rw [←hi] at hk
 have NI:=El ids0 1000000000 (by omega)
 rw [←hi] at NI
 have NZ2:=Aay ids0 1000000000
 rw [←hi] at NZ2
 simp only at NI NZ2
 have NIV : NumV iv ie 1000000000:=⟨NI.1,NI.2,NZ2⟩
 clear hi NI NZ2
 refine br hD (fun h=>?_) (fun h=>?_)<;>cbv
 ·have h : (nle == 1) = true:=h
  have hl5 : fr.lens.length = 1:=by have:=VN.2.2.h; have:=eq_of_beq h; omega
  have hls : Wk fr = fr.lens.getD 0 []:=by rw [Wk,if_neg (by omega)]
  rw [hls] at hk
  clear h hls
  obtain ⟨len0,hlen⟩ : ∃ c,c = fr.lens.getD 0 []:=⟨_,rfl⟩
  have hlen0 : LeN len0.length 2000:=⟨FS.lens _ (by rw [hlen,List.getD_eq_getElem?_getD,List.getElem?_eq_getElem (by omega)]; exact List.getElem_mem _)⟩
  have q2:=Gle.row.f 0 (by omega)
  rw [←hlen] at q2 hk
  clear hlen
  refine ⟨by subst hD; exact ⟨Int.le_refl _,by show (0 : Int) < nle; rw [VN.2.2.h]; omega⟩,fun j hj=>?_⟩
  obtain rfl : j = 0:=by subst hD; exact Int.ofNat.inj hj.h
  clear hj hl5
  cbv
  rw [q2]
  cbv
  clear q2 Gle
  refine ⟨len0,_,rfl,rfl,by have:=hlen0.h; omega,by subst hD; show (0 : Int)≤65536; decide,by subst hD; show (65536 : Int)≤1000000000; decide,fun sv se hi=>?_⟩
  cbv
  have hi : (sv,se) = Bi len0 65536:=by subst hD; exact hi
  rw [←hi] at hk
  have NS:=El len0 65536 (by omega)
  rw [←hi] at NS
  simp only at NS
  have NSV : NumS sv:=⟨NS.1,NS.2⟩
  clear hi NS
  rw [Mi] at hk
  simp only at hk
  refine br hD (fun h=>?_) (fun h=>?_)<;>cbv
  ·have h : (ie == 6 || se == 6) = true:=h
   rw [if_pos (by simpa using h)] at hk
   exact Cd hD hk rfl rfl rfl rfl rfl GrH.nil hG rfl rfl
  have h : (ie == 6 || se == 6) = false:=h
  rw [if_neg (by rw [Bool.or_eq_false_iff] at h; have h2:=h.1; have h3:=h.2; simp only [beq_eq_false_iff_ne] at h2 h3; omega)] at hk
  clear h
  refine br hD (fun h=>?_) (fun h=>?_)<;>cbv
  ·have h : (se != 0) = true:=h
   rw [if_pos (by simpa using h)] at hk
   exact Cd hD hk rfl rfl rfl rfl rfl GrH.nil hG rfl rfl
  have h : (se != 0) = false:=h
  rw [if_neg (by simpa using h)] at hk
  clear h
  refine ⟨by subst hD; exact ⟨Int.le_refl _,by show (0 : Int) < nho; rw [VN.1.h]; have:=hl1.1.h; omega⟩,fun j hj=>?_⟩
  obtain rfl : j = 0:=by subst hD; exact Int.ofNat.inj hj.h
  clear hj
  cbv
  rw [q3]
  cbv
  clear q3 Gho
  obtain ⟨kf,hkf⟩ : ∃ k,k = Qe l':=⟨_,rfl⟩
  have hfr : fr.rest = kf:=by rw [hkf]; exact Frest
  rw [hfr] at hk
  clear hfr Frest
  obtain ⟨at',hat⟩ : ∃ a : Int,a = IntKind.i64.wrap (p' + c'):=⟨_,rfl⟩
  have VRr:=hg2.row
  obtain ⟨J,hJ⟩ : ∃ J,J = krJ b me' ta' ho0 l' kf nl gb n gn at' ie iv sv f g2:=⟨_,rfl⟩
  refine ⟨[0,2,5,7,8,9,15,17,18],J,⟨rfl,l'.length,?_⟩,?_⟩
  ·rw [hJ]
   subst hD
   refine ⟨[],0,0,_,_,_,?_,rfl,⟨AtR.zero VRr.len,GrH.nil,Nat.le_refl _,hkf⟩⟩
   rw [hat]; rfl
  clear hkf
  intro m vs hp hv
  rw [hJ] at hv
  obtain ⟨out,i,I,f5,n5,b5,rfl,rfl,V⟩:=hv
  cbv
  refine br hD (fun h=>?_) (fun h=>?_)<;>cbv
  ·have hlt:=V.lie.lt VRr.n (of_decide_eq_true (p:=I < gn) h)
   clear h
   have inA:=V.lie.inB hD VRr.n hlt
   have hx:=VRr.f i hlt
   have hsm:=VRr.small i hlt
   have hst:=V.lie.step hD hlt
   have hko:=V.k
   rw [M7 hlt,Wl] at hko
   obtain ⟨x,hxx⟩ : ∃ x,x = l'.getD i default:=⟨_,rfl⟩
   rw [←hxx] at hx hko hsm
   clear hxx
   obtain ⟨xn,xv⟩:=x
   simp only at hko
   intro of on ob Go
   cbv
   refine ⟨inA,fun j hj=>?_⟩
   have hj:=V.lie.j hD hj
   cbv
   rw [hj,hx]
   cbv
   clear hj
   refine ⟨xn,rfl,rfl,hsm.1,fun w hw=>?_⟩
   cbv
   rw [←hw] at hko
   refine ⟨ownL,w,ob,on,of,by subst hD; rfl,rfl,Go.row,fun q hq=>?_⟩
   cbv
   rw [←hq] at hko
   clear hq hw
   refine br hD (fun h=>?_) (fun h=>?_)<;>cbv
   ·have h : (!q) = true:=h
    rw [if_neg (by simpa using h)] at hko
    clear h
    refine ⟨inA,fun j hj=>?_⟩
    have hj:=V.lie.j hD hj
    cbv
    rw [hj,hx]
    cbv
    clear hj
    intro g5 hg
    cbv
    have hg0 : g5 0 = B6 ⟨xn,xv⟩:=hg.h 0 _ rfl
    clear hg
    have hN : VI n5 out.length:=⟨V.G.row.n⟩
    have hol : LeN out.length 100:=⟨by have:=V.ol; omega⟩
    refine ⟨by subst hD; exact ⟨rfl,by show (n5 + 1) * 32≤_; rw [hN.h]; have:=hol.h; omega,by show n5 + 1≤_; rw [hN.h]; have:=hol.h; omega⟩,fun f' n' hm=>?_⟩
    cbv
    have G2 : ∀ nl',nl' = false→GrH f' n' nl' (out ++ [⟨xn,xv⟩]):=fun nl' hb=>V.G.more hg0 hsm (by subst hD; exact hm) hol.h hb
    clear hm
    refine ⟨_,hst.1,?_⟩
    rw [hJ]
    unfold krJ
    subst hD
    exact ⟨out ++ [⟨xn,xv⟩],i + 1,_,f',n',(b5 && false),rfl,rfl,⟨hst.2,G2 _ (Bool.and_false _),by have:=V.ol; rw [List.length_append]; simp only [List.length_cons,List.length_nil]; omega,by rw [hko]; simp⟩⟩
   ·have h : (!q) = false:=h
    rw [if_pos (by simpa using h)] at hko
    clear h
    refine ⟨_,hst.1,?_⟩
    rw [hJ]
    unfold krJ
    subst hD
    exact ⟨out,i + 1,_,f5,n5,b5,rfl,rfl,⟨hst.2,V.G,by have:=V.ol; omega,hko⟩⟩
  have hi:=V.lie.eq VRr.n (of_decide_eq_false (p:=I < gn) h)
  have hkk : kf = out:=by
   have:=V.k
   rw [List.drop_eq_nil_of_le (by omega)] at this
   simpa [Qe] using this
  subst hkk
  clear h hi hv21
  rw [Fx] at hk
  simp only at hk
  have AT : AtP n p' c' at':=by
   have h1:=PV0.lo; have h2:=PC.lo; have h3:=PC.hi; have h4:=PV0.hi; have h5:=htl.h; have h6:=VP.h; have h7:=R.n; have h8:=HB.h
   have w : at' = p' + c':=by rw [hat]; exact Am (by omega) (by omega)
   exact ⟨w,by rw [w]; exact Am (by omega) (by omega)⟩
  have hkn : (b.length : Int) = n:=R.n.symm
  rw [hkn] at hk
  clear hkn hat
  refine br hD (fun h=>?_) (fun h=>?_)<;>cbv
  ·have h : (ie != 0) = true:=h
   have h0:=NIV.z (by simpa using h)
   subst h0
   clear h
   refine ⟨⟨_,me',ta',ho0,kf,[]⟩,_,_,_,rfl,rfl,by subst hD; exact ⟨by show _≤(0 : Int); have:=NIV.lo; omega,by show (0 : Int)≤_; have:=NIV.hi; omega,by have:=PV0.me; show me'.length≤_; omega,by have:=PV0.ta; show ta'.length≤_; omega,by show ho0.length≤_; have:=hho0.h; omega,by simp,V.G.row,fun e=>by have:=V.G.nl; have e : b5 = true:=e; rw [e] at this; exact List.isEmpty_iff.1 this.symm⟩,fun cp ce hce=>?_⟩
   cbv
   have hce : (cp,ce) = Dc ⟨0,me',ta',ho0,kf,[]⟩:=by subst hD; exact hce
   rw [←hce] at hk
   simp only at hk
   clear hce
   refine ⟨me',rfl,rfl,by have:=PV0.me; omega,fun bb hbb=>?_⟩
   cbv
   rw [←hbb] at hk
   clear hbb
   refine br hD (fun h=>?_) (fun h=>?_)<;>cbv
   ·have h : ((ce == 0 && decide (0 < sv)) && bb) = true:=h
    rw [Bool.and_eq_true,Bool.and_eq_true] at h
    rw [if_neg (by simpa using h.1.1),if_pos (by rw [Bool.and_eq_true]; exact ⟨h.1.2,h.2⟩)] at hk
    exact Cd hD hk rfl rfl rfl rfl rfl GrH.nil hG rfl rfl
   have h1 : ((ce == 0 && decide (0 < sv)) && bb) = false:=h
   clear h
   refine br hD (fun h=>?_) (fun h=>?_)<;>cbv
   ·have h : (ce == 0 && decide (IntKind.i64.wrap (n - at') < sv)) = true:=h
    rw [Bool.and_eq_true,AT.ws] at h
    rw [h.1,Bool.true_and] at h1
    rw [if_neg (by simpa using h.1),if_neg (by rw [h1]; simp),if_pos (of_decide_eq_true h.2)] at hk
    exact Cd hD hk rfl rfl rfl rfl rfl GrH.nil hG rfl rfl
   have h2 : (ce == 0 && decide (IntKind.i64.wrap (n - at') < sv)) = false:=h
   rw [AT.ws] at h2
   clear h
   refine br hD (fun h=>?_) (fun h=>?_)<;>cbv
   ·have h : (ce != 0) = true:=h
    rw [if_pos (by simpa using h)] at hk
    exact Cd hD hk rfl rfl rfl rfl rfl GrH.nil hG rfl rfl
   have h : (ce != 0) = false:=h
   have h0 : ce = 0:=by simpa using h
   rw [h0] at h1 h2
   have h1 : (decide (0 < sv) && bb) = false:=h1
   have h2 : ¬ n - (p' + c') < sv:=of_decide_eq_false h2
   rw [if_neg (by simpa using h0),if_neg (by rw [h1]; simp),if_neg h2] at hk
   clear h h1
   have hw2 : IntKind.i64.wrap (at' + sv) = p' + c' + sv:=by rw [AT.w]; exact Am (by have:=PV0.lo; have:=PC.lo; have:=NSV.lo; omega) (by have:=R.n; have:=HB.h; omega)
   refine ⟨by subst hD; exact ⟨by show 0≤at'; rw [AT.w]; have:=PV0.lo; have:=PC.lo; omega,by show at'≤IntKind.i64.wrap (at' + sv); rw [hw2,AT.w]; have:=NSV.lo; omega,by show IntKind.i64.wrap (at' + sv)≤n; rw [hw2]; omega⟩,fun f7 n7 hsub=>?_⟩
   cbv
   have R7 : Bn f7 n7 ((b.drop (p' + c').toNat).take sv.toNat):=by
    have h0 : 0≤p' + c':=by have:=PV0.lo; have:=PC.lo; omega
    have hs0:=NSV.lo
    have:=R.sub (a:=(p' + c').toNat) (b:=(p' + c').toNat + sv.toNat) hsub (by subst hD; show at' = _; rw [AT.w]; omega) (by subst hD; show IntKind.i64.wrap (at' + sv) = _; rw [hw2]; omega) (by omega) (by have:=R.n; omega)
    have e : (p' + c').toNat + sv.toNat - (p' + c').toNat = sv.toNat:=by omega
    rwa [e] at this
   clear hsub
   refine ⟨by subst hD; exact R7.byte,fun bo hbo=>?_⟩
   cbv
   have hbo : bo = (b.drop (p' + c').toNat).take sv.toNat:=by subst hD; exact R7.str hbo
   rw [←hbo] at hk
   refine Cd hD (by rw [hk]; show _ = (_,IntKind.i64.wrap (at' + sv),_); rw [hw2]; rfl) rfl rfl rfl rfl rfl V.G hG rfl rfl
  clear h
  refine ⟨⟨_,me',ta',ho0,kf,[]⟩,_,_,_,rfl,rfl,by subst hD; exact ⟨by show _≤iv; have:=NIV.lo; omega,by show iv≤_; have:=NIV.hi; omega,by have:=PV0.me; show me'.length≤_; omega,by have:=PV0.ta; show ta'.length≤_; omega,by show ho0.length≤_; have:=hho0.h; omega,by simp,V.G.row,fun e=>by have:=V.G.nl; have e : b5 = true:=e; rw [e] at this; exact List.isEmpty_iff.1 this.symm⟩,fun cp ce hce=>?_⟩
  cbv
  have hce : (cp,ce) = Dc ⟨iv,me',ta',ho0,kf,[]⟩:=by subst hD; exact hce
  rw [←hce] at hk
  simp only at hk
  clear hce
  refine ⟨me',rfl,rfl,by have:=PV0.me; omega,fun bb hbb=>?_⟩
  cbv
  rw [←hbb] at hk
  clear hbb
  refine br hD (fun h=>?_) (fun h=>?_)<;>cbv
  ·have h : ((ce == 0 && decide (0 < sv)) && bb) = true:=h
   rw [Bool.and_eq_true,Bool.and_eq_true] at h
   rw [if_neg (by simpa using h.1.1),if_pos (by rw [Bool.and_eq_true]; exact ⟨h.1.2,h.2⟩)] at hk
   exact Cd hD hk rfl rfl rfl rfl rfl GrH.nil hG rfl rfl
  have h1 : ((ce == 0 && decide (0 < sv)) && bb) = false:=h
  clear h
  refine br hD (fun h=>?_) (fun h=>?_)<;>cbv
  ·have h : (ce == 0 && decide (IntKind.i64.wrap (n - at') < sv)) = true:=h
   rw [Bool.and_eq_true,AT.ws] at h
   rw [h.1,Bool.true_and] at h1
   rw [if_neg (by simpa using h.1),if_neg (by rw [h1]; simp),if_pos (of_decide_eq_true h.2)] at hk
   exact Cd hD hk rfl rfl rfl rfl rfl GrH.nil hG rfl rfl
  have h2 : (ce == 0 && decide (IntKind.i64.wrap (n - at') < sv)) = false:=h
  rw [AT.ws] at h2
  clear h
  refine br hD (fun h=>?_) (fun h=>?_)<;>cbv
  ·have h : (ce != 0) = true:=h
   rw [if_pos (by simpa using h)] at hk
   exact Cd hD hk rfl rfl rfl rfl rfl GrH.nil hG rfl rfl
  have h : (ce != 0) = false:=h
  have h0 : ce = 0:=by simpa using h
  rw [h0] at h1 h2
  have h1 : (decide (0 < sv) && bb) = false:=h1
  have h2 : ¬ n - (p' + c') < sv:=of_decide_eq_false h2
  rw [if_neg (by simpa using h0),if_neg (by rw [h1]; simp),if_neg h2] at hk
  clear h h1
  have hw2 : IntKind.i64.wrap (at' + sv) = p' + c' + sv:=by rw [AT.w]; exact Am (by have:=PV0.lo; have:=PC.lo; have:=NSV.lo; omega) (by have:=R.n; have:=HB.h; omega)
  refine ⟨by subst hD; exact ⟨by show 0≤at'; rw [AT.w]; have:=PV0.lo; have:=PC.lo; omega,by show at'≤IntKind.i64.wrap (at' + sv); rw [hw2,AT.w]; have:=NSV.lo; omega,by show IntKind.i64.wrap (at' + sv)≤n; rw [hw2]; omega⟩,fun f7 n7 hsub=>?_⟩
  cbv
  have R7 : Bn f7 n7 ((b.drop (p' + c').toNat).take sv.toNat):=by
   have h0 : 0≤p' + c':=by have:=PV0.lo; have:=PC.lo; omega
   have hs0:=NSV.lo
   have:=R.sub (a:=(p' + c').toNat) (b:=(p' + c').toNat + sv.toNat) hsub (by subst hD; show at' = _; rw [AT.w]; omega) (by subst hD; show IntKind.i64.wrap (at' + sv) = _; rw [hw2]; omega) (by omega) (by have:=R.n; omega)
   have e : (p' + c').toNat + sv.toNat - (p' + c').toNat = sv.toNat:=by omega
   rwa [e] at this
  clear hsub
  refine ⟨by subst hD; exact R7.byte,fun bo hbo=>?_⟩
  cbv
  have hbo : bo = (b.drop (p' + c').toNat).take sv.toNat:=by subst hD; exact R7.str hbo
  rw [←hbo] at hk
  refine Cd hD (by rw [hk]; show _ = (_,IntKind.i64.wrap (at' + sv),_); rw [hw2]; rfl) rfl rfl rfl rfl rfl V.G hG rfl rfl
 have h : (nle == 1) = false:=h
 have hl5 : fr.lens.length = 0:=by
  have:=VN.2.2.h; have:=hl1.2.2.h
  have h2 : nle≠1:=by simpa using h
  omega
 have hls : Wk fr = [48]:=by rw [Wk,if_pos hl5]
 obtain ⟨sv,hsv⟩ : ∃ sv : Int,sv = 0:=⟨_,rfl⟩
 have n48 : Bi [48] 65536 = (sv,0):=by rw [hsv]; exact Vy
 rw [hls,n48] at hk
 have NSV : NumS sv:=⟨by omega,by omega⟩
 clear n48
 clear h hls hl5 Gle
 rw [Mi] at hk
 simp only at hk
 refine br hD (fun h=>?_) (fun h=>?_)<;>cbv
 ·have h : (ie == 6 && true) = true:=h
  rw [if_pos (by simpa using h)] at hk
  exact Cd hD hk rfl rfl rfl rfl rfl GrH.nil hG rfl rfl
 have h : (ie == 6 && true) = false:=h
 rw [if_neg (by simpa using h),if_neg (by decide)] at hk
 clear h
 refine ⟨by subst hD; exact ⟨Int.le_refl _,by show (0 : Int) < nho; rw [VN.1.h]; have:=hl1.1.h; omega⟩,fun j hj=>?_⟩
 obtain rfl : j = 0:=by subst hD; exact Int.ofNat.inj hj.h
 clear hj
 cbv
 rw [q3]
 cbv
 clear q3 Gho
 obtain ⟨kf,hkf⟩ : ∃ k,k = Qe l':=⟨_,rfl⟩
 have hfr : fr.rest = kf:=by rw [hkf]; exact Frest
 rw [hfr] at hk
 clear hfr Frest
 obtain ⟨at',hat⟩ : ∃ a : Int,a = IntKind.i64.wrap (p' + c'):=⟨_,rfl⟩
 have VRr:=hg2.row
 obtain ⟨J,hJ⟩ : ∃ J,J = krJ b me' ta' ho0 l' kf nl gb n gn at' ie iv sv f g2:=⟨_,rfl⟩
 refine ⟨[0,2,5,7,8,9,15,17,18],J,⟨rfl,l'.length,?_⟩,?_⟩
 ·rw [hJ]
  subst hD
  refine ⟨[],0,0,_,_,_,?_,rfl,⟨AtR.zero VRr.len,GrH.nil,Nat.le_refl _,hkf⟩⟩
  rw [hat,hsv]; rfl
 clear hkf
 intro m vs hp hv
 rw [hJ] at hv
 obtain ⟨out,i,I,f5,n5,b5,rfl,rfl,V⟩:=hv
 cbv
 refine br hD (fun h=>?_) (fun h=>?_)<;>cbv
 ·have hlt:=V.lie.lt VRr.n (of_decide_eq_true (p:=I < gn) h)
  clear h
  have inA:=V.lie.inB hD VRr.n hlt
  have hx:=VRr.f i hlt
  have hsm:=VRr.small i hlt
  have hst:=V.lie.step hD hlt
  have hko:=V.k
  rw [M7 hlt,Wl] at hko
  obtain ⟨x,hxx⟩ : ∃ x,x = l'.getD i default:=⟨_,rfl⟩
  rw [←hxx] at hx hko hsm
  clear hxx
  obtain ⟨xn,xv⟩:=x
  simp only at hko
  intro of on ob Go
  cbv
  refine ⟨inA,fun j hj=>?_⟩
  have hj:=V.lie.j hD hj
  cbv
  rw [hj,hx]
  cbv
  clear hj
  refine ⟨xn,rfl,rfl,hsm.1,fun w hw=>?_⟩
  cbv
  rw [←hw] at hko
  refine ⟨ownL,w,ob,on,of,by subst hD; rfl,rfl,Go.row,fun q hq=>?_⟩
  cbv
  rw [←hq] at hko
  clear hq hw
  refine br hD (fun h=>?_) (fun h=>?_)<;>cbv
  ·have h : (!q) = true:=h
   rw [if_neg (by simpa using h)] at hko
   clear h
   refine ⟨inA,fun j hj=>?_⟩
   have hj:=V.lie.j hD hj
   cbv
   rw [hj,hx]
   cbv
   clear hj
   intro g5 hg
   cbv
   have hg0 : g5 0 = B6 ⟨xn,xv⟩:=hg.h 0 _ rfl
   clear hg
   have hN : VI n5 out.length:=⟨V.G.row.n⟩
   have hol : LeN out.length 100:=⟨by have:=V.ol; omega⟩
   refine ⟨by subst hD; exact ⟨rfl,by show (n5 + 1) * 32≤_; rw [hN.h]; have:=hol.h; omega,by show n5 + 1≤_; rw [hN.h]; have:=hol.h; omega⟩,fun f' n' hm=>?_⟩
   cbv
   have G2 : ∀ nl',nl' = false→GrH f' n' nl' (out ++ [⟨xn,xv⟩]):=fun nl' hb=>V.G.more hg0 hsm (by subst hD; exact hm) hol.h hb
   clear hm
   refine ⟨_,hst.1,?_⟩
   rw [hJ]
   unfold krJ
   subst hD
   exact ⟨out ++ [⟨xn,xv⟩],i + 1,_,f',n',(b5 && false),rfl,rfl,⟨hst.2,G2 _ (Bool.and_false _),by have:=V.ol; rw [List.length_append]; simp only [List.length_cons,List.length_nil]; omega,by rw [hko]; simp⟩⟩
  ·have h : (!q) = false:=h
   rw [if_pos (by simpa using h)] at hko
   clear h
   refine ⟨_,hst.1,?_⟩
   rw [hJ]
   unfold krJ
   subst hD
   exact ⟨out,i + 1,_,f5,n5,b5,rfl,rfl,⟨hst.2,V.G,by have:=V.ol; omega,hko⟩⟩
 have hi:=V.lie.eq VRr.n (of_decide_eq_false (p:=I < gn) h)
 have hkk : kf = out:=by
  have:=V.k
  rw [List.drop_eq_nil_of_le (by omega)] at this
  simpa [Qe] using this
 subst hkk
 clear h hi hv21
 rw [Fx] at hk
 simp only at hk
 have AT : AtP n p' c' at':=by
  have h1:=PV0.lo; have h2:=PC.lo; have h3:=PC.hi; have h4:=PV0.hi; have h5:=htl.h; have h6:=VP.h; have h7:=R.n; have h8:=HB.h
  have w : at' = p' + c':=by rw [hat]; exact Am (by omega) (by omega)
  exact ⟨w,by rw [w]; exact Am (by omega) (by omega)⟩
 have hkn : (b.length : Int) = n:=R.n.symm
 rw [hkn] at hk
 clear hkn hat
 refine br hD (fun h=>?_) (fun h=>?_)<;>cbv
 ·have h : (ie != 0) = true:=h
  have h0:=NIV.z (by simpa using h)
  subst h0
  clear h
  refine ⟨⟨_,me',ta',ho0,kf,[]⟩,_,_,_,rfl,rfl,by subst hD; exact ⟨by show _≤(0 : Int); have:=NIV.lo; omega,by show (0 : Int)≤_; have:=NIV.hi; omega,by have:=PV0.me; show me'.length≤_; omega,by have:=PV0.ta; show ta'.length≤_; omega,by show ho0.length≤_; have:=hho0.h; omega,by simp,V.G.row,fun e=>by have:=V.G.nl; have e : b5 = true:=e; rw [e] at this; exact List.isEmpty_iff.1 this.symm⟩,fun cp ce hce=>?_⟩
  cbv
  have hce : (cp,ce) = Dc ⟨0,me',ta',ho0,kf,[]⟩:=by subst hD; exact hce
  rw [←hce] at hk
  simp only at hk
  clear hce
  refine ⟨me',rfl,rfl,by have:=PV0.me; omega,fun bb hbb=>?_⟩
  cbv
  rw [←hbb] at hk
  clear hbb
  refine br hD (fun h=>?_) (fun h=>?_)<;>cbv
  ·have h : ((ce == 0 && decide (0 < sv)) && bb) = true:=h
   rw [Bool.and_eq_true,Bool.and_eq_true] at h
   rw [if_neg (by simpa using h.1.1),if_pos (by rw [Bool.and_eq_true]; exact ⟨h.1.2,h.2⟩)] at hk
   exact Cd hD hk rfl rfl rfl rfl rfl GrH.nil hG rfl rfl
  have h1 : ((ce == 0 && decide (0 < sv)) && bb) = false:=h
  clear h
  refine br hD (fun h=>?_) (fun h=>?_)<;>cbv
  ·have h : (ce == 0 && decide (IntKind.i64.wrap (n - at') < sv)) = true:=h
   rw [Bool.and_eq_true,AT.ws] at h
   rw [h.1,Bool.true_and] at h1
   rw [if_neg (by simpa using h.1),if_neg (by rw [h1]; simp),if_pos (of_decide_eq_true h.2)] at hk
   exact Cd hD hk rfl rfl rfl rfl rfl GrH.nil hG rfl rfl
  have h2 : (ce == 0 && decide (IntKind.i64.wrap (n - at') < sv)) = false:=h
  rw [AT.ws] at h2
  clear h
  refine br hD (fun h=>?_) (fun h=>?_)<;>cbv
  ·have h : (ce != 0) = true:=h
   rw [if_pos (by simpa using h)] at hk
   exact Cd hD hk rfl rfl rfl rfl rfl GrH.nil hG rfl rfl
  have h : (ce != 0) = false:=h
  have h0 : ce = 0:=by simpa using h
  rw [h0] at h1 h2
  have h1 : (decide (0 < sv) && bb) = false:=h1
  have h2 : ¬ n - (p' + c') < sv:=of_decide_eq_false h2
  rw [if_neg (by simpa using h0),if_neg (by rw [h1]; simp),if_neg h2] at hk
  clear h h1
  have hw2 : IntKind.i64.wrap (at' + sv) = p' + c' + sv:=by rw [AT.w]; exact Am (by have:=PV0.lo; have:=PC.lo; have:=NSV.lo; omega) (by have:=R.n; have:=HB.h; omega)
  refine ⟨by subst hD; exact ⟨by show 0≤at'; rw [AT.w]; have:=PV0.lo; have:=PC.lo; omega,by show at'≤IntKind.i64.wrap (at' + sv); rw [hw2,AT.w]; have:=NSV.lo; omega,by show IntKind.i64.wrap (at' + sv)≤n; rw [hw2]; omega⟩,fun f7 n7 hsub=>?_⟩
  cbv
  have R7 : Bn f7 n7 ((b.drop (p' + c').toNat).take sv.toNat):=by
   have h0 : 0≤p' + c':=by have:=PV0.lo; have:=PC.lo; omega
   have hs0:=NSV.lo
   have:=R.sub (a:=(p' + c').toNat) (b:=(p' + c').toNat + sv.toNat) hsub (by subst hD; show at' = _; rw [AT.w]; omega) (by subst hD; show IntKind.i64.wrap (at' + sv) = _; rw [hw2]; omega) (by omega) (by have:=R.n; omega)
   have e : (p' + c').toNat + sv.toNat - (p' + c').toNat = sv.toNat:=by omega
   rwa [e] at this
  clear hsub
  refine ⟨by subst hD; exact R7.byte,fun bo hbo=>?_⟩
  cbv
  have hbo : bo = (b.drop (p' + c').toNat).take sv.toNat:=by subst hD; exact R7.str hbo
  rw [←hbo] at hk
  refine Cd hD (by rw [hk]; show _ = (_,IntKind.i64.wrap (at' + sv),_); rw [hw2]; rfl) rfl rfl rfl rfl rfl V.G hG rfl rfl
 clear h
 refine ⟨⟨_,me',ta',ho0,kf,[]⟩,_,_,_,rfl,rfl,by subst hD; exact ⟨by show _≤iv; have:=NIV.lo; omega,by show iv≤_; have:=NIV.hi; omega,by have:=PV0.me; show me'.length≤_; omega,by have:=PV0.ta; show ta'.length≤_; omega,by show ho0.length≤_; have:=hho0.h; omega,by simp,V.G.row,fun e=>by have:=V.G.nl; have e : b5 = true:=e; rw [e] at this; exact List.isEmpty_iff.1 this.symm⟩,fun cp ce hce=>?_⟩
 cbv
 have hce : (cp,ce) = Dc ⟨iv,me',ta',ho0,kf,[]⟩:=by subst hD; exact hce
 rw [←hce] at hk
 simp only at hk
 clear hce
 refine ⟨me',rfl,rfl,by have:=PV0.me; omega,fun bb hbb=>?_⟩
 cbv
 rw [←hbb] at hk
 clear hbb
 refine br hD (fun h=>?_) (fun h=>?_)<;>cbv
 ·have h : ((ce == 0 && decide (0 < sv)) && bb) = true:=h
  rw [Bool.and_eq_true,Bool.and_eq_true] at h
  rw [if_neg (by simpa using h.1.1),if_pos (by rw [Bool.and_eq_true]; exact ⟨h.1.2,h.2⟩)] at hk
  exact Cd hD hk rfl rfl rfl rfl rfl GrH.nil hG rfl rfl
 have h1 : ((ce == 0 && decide (0 < sv)) && bb) = false:=h
 clear h
 refine br hD (fun h=>?_) (fun h=>?_)<;>cbv
 ·have h : (ce == 0 && decide (IntKind.i64.wrap (n - at') < sv)) = true:=h
  rw [Bool.and_eq_true,AT.ws] at h
  rw [h.1,Bool.true_and] at h1
  rw [if_neg (by simpa using h.1),if_neg (by rw [h1]; simp),if_pos (of_decide_eq_true h.2)] at hk
  exact Cd hD hk rfl rfl rfl rfl rfl GrH.nil hG rfl rfl
 have h2 : (ce == 0 && decide (IntKind.i64.wrap (n - at') < sv)) = false:=h
 rw [AT.ws] at h2
 clear h
 refine br hD (fun h=>?_) (fun h=>?_)<;>cbv
 ·have h : (ce != 0) = true:=h
  rw [if_pos (by simpa using h)] at hk
  exact Cd hD hk rfl rfl rfl rfl rfl GrH.nil hG rfl rfl
 have h : (ce != 0) = false:=h
 have h0 : ce = 0:=by simpa using h
 rw [h0] at h1 h2
 have h1 : (decide (0 < sv) && bb) = false:=h1
 have h2 : ¬ n - (p' + c') < sv:=of_decide_eq_false h2
 rw [if_neg (by simpa using h0),if_neg (by rw [h1]; simp),if_neg h2] at hk
 clear h h1
 have hw2 : IntKind.i64.wrap (at' + sv) = p' + c' + sv:=by rw [AT.w]; exact Am (by have:=PV0.lo; have:=PC.lo; have:=NSV.lo; omega) (by have:=R.n; have:=HB.h; omega)
 refine ⟨by subst hD; exact ⟨by show 0≤at'; rw [AT.w]; have:=PV0.lo; have:=PC.lo; omega,by show at'≤IntKind.i64.wrap (at' + sv); rw [hw2,AT.w]; have:=NSV.lo; omega,by show IntKind.i64.wrap (at' + sv)≤n; rw [hw2]; omega⟩,fun f7 n7 hsub=>?_⟩
 cbv
 have R7 : Bn f7 n7 ((b.drop (p' + c').toNat).take sv.toNat):=by
  have h0 : 0≤p' + c':=by have:=PV0.lo; have:=PC.lo; omega
  have hs0:=NSV.lo
  have:=R.sub (a:=(p' + c').toNat) (b:=(p' + c').toNat + sv.toNat) hsub (by subst hD; show at' = _; rw [AT.w]; omega) (by subst hD; show IntKind.i64.wrap (at' + sv) = _; rw [hw2]; omega) (by omega) (by have:=R.n; omega)
  have e : (p' + c').toNat + sv.toNat - (p' + c').toNat = sv.toNat:=by omega
  rwa [e] at this
 clear hsub
 refine ⟨by subst hD; exact R7.byte,fun bo hbo=>?_⟩
 cbv
 have hbo : bo = (b.drop (p' + c').toNat).take sv.toNat:=by subst hD; exact R7.str hbo
 rw [←hbo] at hk
 refine Cd hD (by rw [hk]; show _ = (_,IntKind.i64.wrap (at' + sv),_); rw [hw2]; rfl) rfl rfl rfl rfl rfl V.G hG rfl rfl
end Go.Proofs.YtefelnhpfdcleaaGreatDoor
namespace Go.Proofs.YtefelnhpfdcleaaGreatDoor
open Go Go.Sx
set_option maxRecDepth 100000
set_option maxHeartbeats 16000000
end Go.Proofs.YtefelnhpfdcleaaGreatDoor
namespace Go.Proofs.YtefelnhpfdcleaaGreatDoor
open Go Go.Sx
set_option maxRecDepth 100000
set_option maxHeartbeats 4000000
def ovB (a b : List UInt8) : Bool:=decide (2100 < (a.length : Int)) || decide (2100 < (b.length : Int))
def Yh : List HF→Int→Bool
 | [],n=>decide (20000 < n)
 | x :: l,n=>if ovB x.name x.value then true else Yh l (n + x.name.length + x.value.length)
structure FaJ (l : List HF) (k : Bool) (i : Nat) (I N : Int) (m : Nat) : Prop where
 lie : AtR l i I m
 lo : 0≤N
 hi : N≤4200 * i
 len : l.length≤110
 k : k = Yh (l.drop i) N
structure Ang (a : List UInt8) (n : Nat) : Prop where
 h : a.length≤n
end Go.Proofs.YtefelnhpfdcleaaGreatDoor
