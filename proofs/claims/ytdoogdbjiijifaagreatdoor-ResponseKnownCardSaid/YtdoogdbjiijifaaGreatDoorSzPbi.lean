/- Part of the proofs of the statements about responses and messages (layers 9 and 10): a symbolic executor over the code, that it is sound, and contracts of functions; it has no conditions of its own. -/
import Derived.Test.YtdoogdbjiijifaaGreatDoorSzPbh
namespace Go.Proofs.YtdoogdbjiijifaaGreatDoor
open Go Go.Sx
set_option maxRecDepth 100000
set_option maxHeartbeats 8000000
def Xo (ph lf tl : Int) (ln dt : List UInt8) : Bool:=((((ph == 0) && (ln == [])) && (dt == [])) && (lf == 0)) && (tl == 0)
def spZero : FSpec:=fun _ xs ls K=>∃ (ph lf : Int) (ln dt : List UInt8) (tn : Bool) (tl : Int) (tf : Nat→List SV),xs = [chA ph lf ln dt tn tl tf]∧ls = []∧∀ r,r = Xo ph lf tl ln dt→K (.bool (.a r)) []
theorem zero_ok : A2 Tryz.prog gl 133 spZero:=by
 refine Dg (gh:=[]) mixed Dd Aw Tryz.func133 (by kernel_rfl) (by kernel_rfl) ?_
 intro xs ls K h
 unfold spZero at h
 obtain ⟨ph,lf,ln,dt,tn,tl,tf,rfl,rfl,h⟩:=h
 obtain ⟨k,hk⟩ : ∃ k,k = Xo ph lf tl ln dt:=⟨_,rfl⟩
 refine ⟨_,_,h k hk,fun D hD=>?_⟩
 clear h
 unfold chA
 cbv
 exact Bg hD (by rw [hk]; rfl)
theorem Aco {s : Ch} {ph lf tl : Int} {tf : Nat→List SV} (h : s = ch0) (V : ChV s ph lf tl tf) : Xo ph lf tl s.line s.data = true:=by
 subst h
 have h1 : ph = 0:=V.eph
 have h2 : lf = 0:=V.elf
 have h3 : tl = 0:=V.tr.n
 rw [h1,h2,h3]; rfl
def rsA (x : RsC) : SV:=.agg [.str x.m,.int .i64 (.a x.ph),.int .i64 (.a x.inf),.str x.ln,.int .i64 (.a x.mi),.int .i64 (.a x.st),.str x.re,.sl (.a x.fb) (.a x.fl) 2 x.ff,.int .i64 (.a x.fr),.str x.bo,.int .i64 (.a x.lf),
  .int .i64 (.a x.cp),.str x.cl,.str x.cd,.int .i64 (.a x.cf),.sl (.a x.cb) (.a x.ct) 2 x.ctf]
structure RsV (s : Rs) (x : RsC) : Prop where
 m : x.m = s.method
 ph : x.ph = s.phase
 inf : x.inf = s.infos
 ln : x.ln = s.line
 mi : x.mi = s.head.minor
 st : x.st = s.head.status
 re : x.re = s.head.reason
 fl : Bz x.ff x.fl s.head.fields
 fr : x.fr = s.framing
 bo : x.bo = s.body
 lf : x.lf = s.left
 cl : x.cl = s.chunks.line
 cd : x.cd = s.chunks.data
 cv : ChV s.chunks x.cp x.cf x.ct x.ctf
def T2 (m : List UInt8) : RsC:=⟨m,0,0,[],0,0,[],true,0,fun _=>[],0,[],0,0,[],[],0,true,0,fun _=>[]⟩
def spStart : FSpec:=fun _ xs ls K=>∃ (m : List UInt8),xs = [.str m]∧ls = []∧m.length≤9223372036854775807∧
 ∀ y e,y = (if Bj m then T2 m else T2 [])→e = (if Bj m then 0 else 2)→K (.tup [rsA y,.int .i64 (.a e)]) []
theorem Agz : A2 Tryz.prog gl 22 spStart:=by
 refine Dg (gh:=[]) mixed Dd (Ah H8 Aw) Tryz.func22 (by kernel_rfl) (by kernel_rfl) ?_
 intro xs ls K h
 unfold spStart at h
 obtain ⟨m,rfl,rfl,hm,h⟩:=h
 obtain ⟨tk,htk⟩ : ∃ tk,tk = Bj m:=⟨_,rfl⟩
 obtain ⟨y,hy⟩ : ∃ y,y = (if tk then T2 m else T2 []):=⟨_,rfl⟩
 obtain ⟨e,he⟩ : ∃ e : Int,e = (if tk then 0 else 2):=⟨_,rfl⟩
 have h:=h y e (by rw [←htk]; exact hy) (by rw [←htk]; exact he)
 refine ⟨_,_,h,fun D hD=>?_⟩
 clear h
 cbv
 refine ⟨m,rfl,rfl,hm,fun x hx=>?_⟩
 cbv
 obtain rfl : x = tk:=hx.trans htk.symm
 refine br hD (fun hb=>?_) (fun hb=>?_)<;>cbv
 ·have hb : (!x) = true:=by subst hD; exact hb
  rw [if_neg (by simpa using hb)] at hy he
  subst hy he
  subst hD
  exact Gf (.tup (.cons (LeV.refl _) (.cons (Al rfl) .nil)))
 ·have hb : (!x) = false:=by subst hD; exact hb
  rw [if_pos (by simpa using hb)] at hy he
  subst hy he
  subst hD
  exact Gf (.tup (.cons (LeV.refl _) (.cons (Al rfl) .nil)))
theorem Ac3 (m : List UInt8) : RsV (rs0 m) (T2 m):=⟨rfl,rfl,rfl,rfl,rfl,rfl,rfl,Qt,rfl,rfl,rfl,rfl,rfl,⟨rfl,rfl,Qt⟩⟩
theorem Ys {l : List HF} (h : A7 l = 0) : Hp l:=⟨fun x hx=>Acp (((Ha l).1 h).2.1 x hx).name⟩
def spChCheck : FSpec:=fun _ xs ls K=>∃ (s : Ch) (ln dt : List UInt8) (ph lf : Int) (tn : Bool) (tl : Int) (tf : Nat→List SV),xs = [chA ph lf ln dt tn tl tf]∧ls = []∧ln = s.line∧dt = s.data∧ChV s ph lf tl tf∧H7 s∧
 K (.int .i64 (.a 0)) []
theorem Acc : A2 Tryz.prog gl 134 spChCheck:=by
 refine Dg (gh:=[]) mixed Dd (Bf Add Aw) Tryz.func134 (by kernel_rfl) (by kernel_rfl) ?_
 intro xs ls K h
 unfold spChCheck at h
 obtain ⟨s,ln,dt,ph,lf,tn,tl,tf,rfl,rfl,hln,hdt,V,O,h⟩:=h
 refine ⟨_,_,h,fun D hD=>?_⟩
 clear h
 unfold chA
 cbv
 refine ⟨s,ln,dt,D.i (.a ph),D.i (.a lf),D.b (.a tn),D.i (.a tl),tf,rfl,rfl,hln,hdt,by subst hD; exact V.eph,by subst hD; exact V.elf,by subst hD; exact V.tr,O,fun h4=>Ys (O.p4 h4).2.1,fun ph2 dl df nl nf fo sz nn g hR hnn hg=>?_⟩
 cbv
 exact Bv hD rfl
end Go.Proofs.YtdoogdbjiijifaaGreatDoor
namespace Go.Proofs.YtdoogdbjiijifaaGreatDoor
open Go Go.Sx
set_option maxRecDepth 100000
set_option maxHeartbeats 12000000
theorem F3 {b : List UInt8} (h : (Aq b).2.2 = 10) : b.length≤8500:=by
 by_cases g : Lib.indexByte (b.take 302) 10 < 0
 ·rw [N9 g] at h
  by_cases k : 302≤b.length
  ·rw [if_pos k] at h; cases h
  ·omega
 ·obtain ⟨p,hp⟩ : ∃ p : Nat,Lib.indexByte (b.take 302) 10 = (p : Int):=⟨(Lib.indexByte (b.take 302) 10).toNat,by omega⟩
  obtain ⟨h1,h2,h3⟩:=Rn hp
  rw [h3] at h
  unfold Vc at h
  split at h
  ·cases h
  split at h
  ·have:=(G3 (b:=b.drop (p + 1)) h).1
   rw [List.length_drop] at this
   omega
  ·cases h
theorem La (s : List UInt8) : A8 (byteRow s) s.length s:=⟨rfl,fun _i _=>rfl⟩
def spValid : FSpec:=fun _ xs ls K=>∃ (s : Rs) (x : RsC),xs = [rsA x]∧ls = []∧RsV s x∧C7 s∧s.method.length≤9223372036854775807∧K (.bool (.a true)) []
theorem Q0 : A2 Tryz.prog gl 75 spValid:=by
 refine Dg (gh:=[]) mixed Dd (Ah H8 (Ah Adv (Ah zero_ok (Ah Acq (Ah L6 (Ah Acc Aw)))))) Tryz.func75 (by kernel_rfl) (by kernel_rfl) ?_
 intro xs ls K h
 unfold spValid at h
 obtain ⟨s,x,rfl,rfl,V,O,hm,h⟩:=h
 refine ⟨_,_,h,fun D hD=>?_⟩
 clear h
 obtain ⟨m,ph,inf,ln,mi,st,re,fb,fl,ff,fr,bo,lf,cp,cl,cd,cf,cb,ct,ctf⟩:=x
 unfold rsA
 cbv
 have hmm : m = s.method:=V.m
 refine ⟨m,rfl,rfl,by rw [hmm]; exact hm,fun tk htk=>?_⟩
 cbv
 have hinf : inf = s.infos:=V.inf
 have htk1 : tk = true:=by rw [htk,hmm]; exact O.tok
 subst htk1
 clear htk
 refine br hD (fun hb=>?_) (fun hb=>?_)<;>cbv
 ·exfalso
  have hb : ((!true || decide (inf < 0)) || decide (10 < inf)) = true:=by subst hD; exact hb
  have h0:=O.i0
  have h1:=O.i1
  simp only [Bool.not_true,Bool.false_or,Bool.or_eq_true,decide_eq_true_eq] at hb
  omega
 clear hb
 have hph : ph = s.phase:=V.ph
 refine br hD (fun hb=>?_) (fun hb=>?_)<;>cbv
 ·have hb : (ph == 0) = true:=by subst hD; exact hb
  have p0 : s.phase = 0:=by rw [←hph]; exact eq_of_beq hb
  clear hb
  obtain ⟨q1,q2,q3,q4,q5,q6⟩:=O.p0 p0
  have hln : ln = s.line:=V.ln
  rw [←hln] at q1
  have hll:=F3 q1
  have HLN : LeN ln.length 8500:=⟨hll⟩
  clear hll
  refine ⟨⟨by have:=HLN.h; omega⟩,fun g hg=>?_⟩
  cbv
  have hg0 : g = byteRow ln:=hg.h
  obtain ⟨N,VN⟩ : ∃ N : Int,VI N ln.length:=⟨_,⟨rfl⟩⟩
  have R : A8 g N ln:=by rw [hg0]; exact ⟨VN.h,fun i _=>rfl⟩
  clear hg hg0
  refine ⟨ln,_,_,g,rfl,rfl,by subst hD; exact ⟨rfl,R.f⟩,by have:=HLN.h; omega,fun hd u e mi2 st2 re2 f1 n1 b1 hh HV=>?_⟩
  cbv
  have he : e = 10:=by
   have : e = (Aq ln).2.2:=by rw [←hh]
   rw [this]; exact q1
  have hmi : mi = 0:=by have:=V.mi; rw [q2] at this; exact this
  have hst : st = 0:=by have:=V.st; rw [q2] at this; exact this
  have hre : re = []:=by have:=V.re; rw [q2] at this; exact this
  have hfl : fl = 0:=by have:=V.fl.n; rw [q2] at this; exact this
  have hfr : fr = 0:=V.fr.trans q3
  have hbo : bo = []:=V.bo.trans q4
  have hlf : lf = 0:=V.lf.trans q5
  have hz : Xo cp cf ct cl cd = true:=by
   have h1 : cl = s.chunks.line:=V.cl
   have h2 : cd = s.chunks.data:=V.cd
   rw [h1,h2]
   exact Aco q6 V.cv
  clear hh HV q1 q2 q3 q4 q5 q6
  refine ⟨D.i (.a cp),D.i (.a cf),cl,cd,D.b (.a cb),D.i (.a ct),ctf,rfl,rfl,fun z hz2=>?_⟩
  cbv
  have hz2 : z = true:=by subst hD; exact hz2.trans hz
  refine Bg hD ?_
  subst he hmi hst hre hfl hfr hbo hlf hz2
  rfl
 ·have hb : (ph == 0) = false:=by subst hD; exact hb
  have p0 : s.phase≠0:=by rw [←hph]; simpa using hb
  clear hb
  obtain ⟨q1,q2,q3,q4,q5,q6,q7,q8⟩:=O.p1 p0
  have hre : re = s.head.reason:=V.re
  have hst : st = s.head.status:=V.st
  have hln : ln = []:=V.ln.trans q1
  have HRE : LeN re.length 287:=⟨by rw [hre]; exact q4⟩
  have hph12 : ph = 1∨ph = 2:=by rw [hph]; have:=O.ph; omega
  refine ⟨re,rfl,rfl,fun pl hpl=>?_⟩
  cbv
  have hpl1 : pl = true:=by rw [hpl,hre]; exact q3
  subst hpl1
  clear hpl
  refine br hD (fun hb=>?_) (fun hb=>?_)<;>cbv
  ·exfalso
   have hb : ((((((ph != 1) && (ph != 2)) || (ln != [])) || decide (st < 200)) || !true) || decide (287 < (re.length : Int))) = true:=by subst hD; exact hb
   have h1 : ((ph != 1) && (ph != 2)) = false:=by rcases hph12 with e | e<;>rw [e]<;>rfl
   have h2 : decide (st < 200) = false:=by rw [decide_eq_false_iff_not,hst]; omega
   have h3 : decide (287 < (re.length : Int)) = false:=by rw [decide_eq_false_iff_not]; have:=HRE.h; omega
   rw [h1,h2,h3,hln] at hb
   cases hb
  clear hb
  refine ⟨m,s.head,D.i (.a mi),D.i (.a st),re,D.b (.a fb),D.i (.a fl),ff,rfl,rfl,by subst hD; exact ⟨V.mi,V.st,V.fl⟩,by rw [hmm]; exact hm,fun kd le e hf=>?_⟩
  cbv
  rw [hmm] at hf
  have he : e = 0:=by
   have : e = (Au s.method s.head).2.2:=by rw [←hf]
   rw [this]; exact q5
  have hkd : kd = fr:=by
   have h1 : kd = (Au s.method s.head).1:=by rw [←hf]
   have h2 : fr = s.framing:=V.fr
   rw [h1,h2]; exact q6
  have hle : le = (Au s.method s.head).2.1:=by rw [←hf]
  clear hf q5 q6
  have hfr : fr = s.framing:=V.fr
  have hlf : lf = s.left:=V.lf
  have hcl : cl = s.chunks.line:=V.cl
  have hcd : cd = s.chunks.data:=V.cd
  refine ⟨D.i (.a cp),D.i (.a cf),cl,cd,D.b (.a cb),D.i (.a ct),ctf,rfl,rfl,fun z hz2=>?_⟩
  cbv
  have hz : fr≠2→z = true:=fun h=>by
   have : Xo cp cf ct cl cd = true:=by
    rw [hcl,hcd]
    exact Aco (q7 (by rw [←hfr]; exact h)) V.cv
   subst hD; exact hz2.trans this
  have hlf0 : fr≠1→lf = 0:=fun h=>by rw [hlf]; exact q8 (by rw [←hfr]; exact h)
  clear hz2 q7 q8
  obtain rfl : kd = fr:=hkd
  refine br hD (fun hb=>?_) (fun hb=>?_)<;>cbv
  ·exfalso
   have hb : ((((e != 0) || (kd != kd)) || ((kd != 2) && !z)) || ((kd != 1) && (lf != 0))) = true:=by subst hD; exact hb
   have h1 : (e != 0) = false:=by rw [he]; rfl
   have h2 : (kd != kd) = false:=by simp
   have h3 : ((kd != 2) && !z) = false:=by
    by_cases g : kd = 2
    ·rw [g]; rfl
    ·rw [hz g]; simp
   have h4 : ((kd != 1) && (lf != 0)) = false:=by
    by_cases g : kd = 1
    ·rw [g]; rfl
    ·rw [hlf0 g]; simp
   rw [h1,h2,h3,h4] at hb
   cases hb
  clear hb
  refine br hD (fun hb=>?_) (fun hb=>?_)<;>cbv
  ·have hb : (kd == 0) = true:=by subst hD; exact hb
   have hk : s.framing = 0:=by rw [←hfr]; exact eq_of_beq hb
   obtain ⟨f1,f2⟩:=O.f0 p0 hk
   refine Bg hD ?_
   have e1 : ph = 2:=hph.trans f1
   have e2 : bo = []:=V.bo.trans f2
   rw [e1,e2]; rfl
  have hb0 : (kd == 0) = false:=by subst hD; exact hb
  clear hb
  refine br hD (fun hb=>?_) (fun hb=>?_)<;>cbv
  ·have hb : (kd == 1) = true:=by subst hD; exact hb
   have hk : s.framing = 1:=by rw [←hfr]; exact eq_of_beq hb
   obtain ⟨f1,f2,f3,f4⟩:=O.f1 p0 hk
   refine Bg hD ?_
   rw [←hlf,←hle] at f2 f3
   rw [←hlf] at f1 f4
   have hbo : (bo.length : Int) = s.body.length:=by have : bo = s.body:=V.bo; rw [this]
   have hw : IntKind.i64.wrap (le - lf) = le - lf:=by
    have h1:=Jc s.method s.head
    rw [←hle] at h1
    exact Bl (by omega) (by omega)
   show ((decide (0≤lf) && decide (lf≤le)) && ((bo.length : Int) == IntKind.i64.wrap (le - lf)) && ((ph == 2) == (lf == 0))) = true
   rw [hw,Bool.and_eq_true,Bool.and_eq_true,Bool.and_eq_true,decide_eq_true_eq,decide_eq_true_eq,beq_iff_eq,beq_iff_eq]
   refine ⟨⟨⟨f1,f2⟩,by omega⟩,?_⟩
   rw [Bool.eq_iff_iff,beq_iff_eq,beq_iff_eq,hph]
   exact f4
  have hb1 : (kd == 1) = false:=by subst hD; exact hb
  clear hb
  refine br hD (fun hb=>?_) (fun hb=>?_)<;>cbv
  ·have hb : (kd == 2) = true:=by subst hD; exact hb
   have hk : s.framing = 2:=by rw [←hfr]; exact eq_of_beq hb
   obtain ⟨f1,f2,f3⟩:=O.f2 p0 hk
   refine ⟨s.chunks,cl,cd,D.i (.a cp),D.i (.a cf),D.b (.a cb),D.i (.a ct),ctf,rfl,rfl,hcl,hcd,by subst hD; exact V.cv,f2,?_⟩
   cbv
   refine Bg hD ?_
   have e2 : bo = []:=V.bo.trans f1
   have e3 : ((ph == 2) == (cp == 4)) = true:=by
    have h4 : cp = s.chunks.phase:=V.cv.eph
    rw [beq_iff_eq,Bool.eq_iff_iff,beq_iff_eq,beq_iff_eq,hph,h4]
    exact f3
   show (((bo == []) && ((0 : Int) == 0)) && ((ph == 2) == (cp == 4))) = true
   rw [e3,e2]; rfl
  ·have hb : (kd == 2) = false:=by subst hD; exact hb
   have hk : s.framing = 3:=by
    have h1:=Lm s.method s.head
    have h2 : kd = (Au s.method s.head).1:=hfr.trans (O.p1 p0).2.2.2.2.2.1.symm
    rw [←h2] at h1
    rw [←hfr]
    simp only [beq_eq_false_iff_ne] at hb hb0 hb1
    omega
   have f1:=O.f3 p0 hk
   refine Bg hD ?_
   have hbo : bo.length = s.body.length:=by have : bo = s.body:=V.bo; rw [this]
   show decide ((bo.length : Int)≤65536) = true
   rw [decide_eq_true_eq]; omega
end Go.Proofs.YtdoogdbjiijifaaGreatDoor
namespace Go.Proofs.YtdoogdbjiijifaaGreatDoor
open Go Go.Sx
set_option maxRecDepth 100000
set_option maxHeartbeats 8000000
def phB (k b : Int) : Int:=if k = 0∨(k = 1∧b = 0) then 2 else 1
def spBeginR : FSpec:=fun _ xs ls K=>∃ (x : RsC) (nb : Bool) (n : Int) (f : Nat→List SV) (nn : Bool) (nl g : Int) (nf : Nat→List SV) (hd : RsH) (mi st : Int) (re : List UInt8) (hb : Bool) (hn : Int) (hf : Nat→List SV),
 xs = [.ptr 0 0,X8 mi st re hb hn hf]∧ls = [.blk 125 (I7 x nb n f nn nl g),.vec 5 (.a nl) (.a g) 1 nf]∧RshV hd mi st hn hf∧x.m.length≤9223372036854775807∧
 ∀ a b e,(a,b,e) = Au x.m hd→(e≠0→K (.int .i64 (.a e)) [.gone,.gone])∧
  (e = 0→∀ p,p = phB a b→K (.int .i64 (.a 0)) [.blk 125 (I7 { x with ph:=p,mi:=mi,st:=st,re:=re,fb:=hb,fl:=hn,ff:=hf,fr:=a,lf:=b } nb n f nn nl g),.vec 5 (.a nl) (.a g) 1 nf])
theorem Agj : A2 Tryz.prog gl 135 spBeginR:=by
 refine Ek (gh:=[]) mixed Dd (Ah L6 Aw) Tryz.func135 (by kernel_rfl) (by kernel_rfl) ?_
 intro xs ls K h
 unfold spBeginR at h
 obtain ⟨x,nb,n,f,nn,nl,g,nf,hd,mi,st,re,hb,hn,hf,rfl,rfl,V,hm,h⟩:=h
 obtain ⟨k,hk⟩ : ∃ k,k = Au x.m hd:=⟨_,rfl⟩
 obtain ⟨a,b,e⟩:=k
 have h:=h a b e hk
 obtain ⟨p,hp⟩ : ∃ p,p = phB a b:=⟨_,rfl⟩
 obtain ⟨L,hL1,hL2,hK⟩ : ∃ L : List Hl,(e≠0→L = [.gone,.gone])∧(e = 0→L = [.blk 125 (I7 { x with ph:=p,mi:=mi,st:=st,re:=re,fb:=hb,fl:=hn,ff:=hf,fr:=a,lf:=b } nb n f nn nl g),.vec 5 (.a nl) (.a g) 1 nf])∧K (.int .i64 (.a e)) L:=by
  by_cases e0 : e = 0
  ·refine ⟨_,fun h=>absurd e0 h,fun _=>rfl,?_⟩
   rw [e0]; exact h.2 e0 p hp
  ·exact ⟨_,fun _=>rfl,fun h=>absurd h e0,h.1 e0⟩
 refine ⟨_,_,hK,fun D hD=>?_⟩
 clear hK h
 obtain ⟨m,ph,inf,ln,mi0,st0,re0,fb,fl,ff,fr,bo,lf,cp,cl,cd,cf,cb,ct,ctf⟩:=x
 unfold X8
 simp only at hk hm
 cbv
 refine ⟨m,hd,D.i (.a mi),D.i (.a st),re,D.b (.a hb),D.i (.a hn),hf,rfl,rfl,by subst hD; exact V,hm,fun a2 b2 e2 hk2=>?_⟩
 cbv
 obtain ⟨rfl,rfl,rfl⟩ : a2 = a∧b2 = b∧e2 = e:=by
  have:=hk2.trans hk.symm
  simp only [Prod.mk.injEq] at this
  exact this
 clear hk2
 refine br hD (fun hbr=>?_) (fun hbr=>?_)<;>cbv
 ·have hbr : (e2 != 0) = true:=by subst hD; exact hbr
  rw [hL1 (by simpa using hbr)]
  subst hD
  exact Jg rfl
 have e0 : e2 = 0:=by
  have hbr : (e2 != 0) = false:=by subst hD; exact hbr
  simpa using hbr
 clear hbr
 refine br hD (fun hbr=>?_) (fun hbr=>?_)<;>cbv
 ·have hbr : ((a2 == 0) || ((a2 == 1) && (b2 == 0))) = true:=by subst hD; exact hbr
  have hp2 : p = 2:=by
   rw [hp]; unfold phB
   rw [if_pos (by simpa using hbr)]
  rw [hL2 e0]
  subst hp2
  subst hD
  exact ⟨Al (by exact e0.symm),Cp (LeH.cons (Am (Pu rfl rfl rfl rfl (LeV.refl _) rfl rfl rfl rfl (LeV.refl _) (LeV.refl _) (LeV.refl _))) (LeH.cons (Hj rfl rfl fun _ _=>rfl) fun _ _ _ _ h=>h)),Nat.le_refl _⟩
 ·have hbr : ((a2 == 0) || ((a2 == 1) && (b2 == 0))) = false:=by subst hD; exact hbr
  have hp2 : p = 1:=by
   rw [hp]; unfold phB
   rw [if_neg (by
    rw [←Bool.not_eq_true] at hbr
    simpa using hbr)]
  rw [hL2 e0]
  subst hp2
  subst hD
  exact ⟨Al (by exact e0.symm),Cp (LeH.cons (Am (Pu rfl rfl rfl rfl (LeV.refl _) rfl rfl rfl rfl (LeV.refl _) (LeV.refl _) (LeV.refl _))) (LeH.cons (Hj rfl rfl fun _ _=>rfl) fun _ _ _ _ h=>h)),Nat.le_refl _⟩
end Go.Proofs.YtdoogdbjiijifaaGreatDoor
namespace Go.Proofs.YtdoogdbjiijifaaGreatDoor
open Go Go.Sx
set_option maxRecDepth 100000
set_option maxHeartbeats 1000000
def Dt (s : Rs) : List UInt8→Rs×Nat×Int
 | []=>(s,0,0)
 | c :: b=>if (rsS s c).2≠0 then (s,0,(rsS s c).2) else if (rsS s c).1.phase≠0 then ((rsS s c).1,1,0) else
  ((Dt (rsS s c).1 b).1,(Dt (rsS s c).1 b).2.1 + 1,(Dt (rsS s c).1 b).2.2)
def Ww (s : Rs) (nn : Bool) (g : Int) : List UInt8→Bool×Int
 | []=>(nn,g)
 | c :: b=>if (Aq (s.line ++ [c])).2.2 = 10 then Ww (rsS s c).1 false (g + 1) b else if (rsS s c).1.phase≠0 then (true,g + 3) else Ww (rsS s c).1 true (g + 3) b
theorem Rm {s : Rs} {b : List UInt8} (h : s.phase = 2∨b = []) : Af s b = (s,0,0):=by
 cases b with
 | nil=>rfl
 | cons c b =>
  rcases h with h | h
  ·rw [Af,if_pos h]
  ·cases h
structure HdRs (s : Rs) (b : List UInt8) (k : Rs×Nat×Int) : Prop where
 le : k.2.1≤b.length
 eq : Af s b = ((Af k.1 (b.drop k.2.1)).1,k.2.1 + (Af k.1 (b.drop k.2.1)).2.1,(Af k.1 (b.drop k.2.1)).2.2)
 all : k.1.phase = 0→k.2.1 = b.length
 one : b≠[]→1≤k.2.1
 ok : C7 s→C7 k.1
theorem Zg : ∀ (b : List UInt8) (s : Rs),s.phase = 0→((Dt s b).2.2≠0→(Af s b).2.2 = (Dt s b).2.2)∧((Dt s b).2.2 = 0→HdRs s b (Dt s b))
 | [],s,h=>⟨fun h=>absurd rfl h,fun _=>⟨Nat.le_refl _,rfl,fun _=>rfl,fun h=>absurd rfl h,fun h=>h⟩⟩
 | c :: b,s,h=>by
  rw [Dt]
  have hr : Af s (c :: b) = if (rsS s c).2≠0 then (s,0,(rsS s c).2) else ((Af (rsS s c).1 b).1,(Af (rsS s c).1 b).2.1 + 1,(Af (rsS s c).1 b).2.2):=by
   rw [Af,if_neg (by omega)]
  by_cases h1 : (rsS s c).2 = 0
  ·rw [if_neg (by simpa using h1)]
   rw [if_neg (by simpa using h1)] at hr
   have hok : C7 s→C7 (rsS s c).1:=fun O=>Rj O (by omega) (by rw [←h1])
   by_cases h2 : (rsS s c).1.phase = 0
   ·rw [if_neg (by simpa using h2)]
    obtain ⟨i1,i2⟩:=Zg b (rsS s c).1 h2
    refine ⟨fun h3=>?_,fun h3=>?_⟩
    ·rw [hr]; exact i1 h3
    ·obtain ⟨j1,j2,j3,j4,j5⟩:=i2 h3
     refine ⟨by simp only [List.length_cons]; omega,?_,fun h4=>by have:=j3 h4; simp only [List.length_cons]; omega,fun _=>Nat.succ_le_succ (Nat.zero_le _),fun O=>j5 (hok O)⟩
     rw [hr,j2]
     simp only [List.drop_succ_cons]
     refine Prod.ext rfl (Prod.ext ?_ rfl)
     show _ + _ + 1 = _ + 1 + _
     omega
   ·rw [if_pos h2]
    refine ⟨fun h3=>absurd rfl h3,fun _=>⟨by simp,?_,fun h3=>absurd h3 h2,fun _=>Nat.le_refl _,hok⟩⟩
    rw [hr]
    simp only [List.drop_succ_cons,List.drop_zero]
    refine Prod.ext rfl (Prod.ext ?_ rfl)
    show _ + 1 = 1 + _
    omega
  ·rw [if_pos h1]
   rw [if_pos h1] at hr
   exact ⟨fun _=>by rw [hr],fun h3=>absurd h3 h1⟩
structure J1 (s : Rs) (b : List UInt8) (st : Rs) (i : Nat) : Prop where
 le : i≤b.length
 eq : Af s b = ((Af st (b.drop i)).1,i + (Af st (b.drop i)).2.1,(Af st (b.drop i)).2.2)
 ok : C7 st
theorem J1.zero {s : Rs} (b : List UInt8) (h : C7 s) : J1 s b s 0:=⟨Nat.zero_le _,by rw [List.drop_zero,Nat.zero_add],h⟩
theorem J1.trans {s st t : Rs} {b : List UInt8} {i j : Nat} (h : J1 s b st i) (k : J1 st (b.drop i) t j) : J1 s b t (i + j):=by
 have h1:=k.le
 rw [List.length_drop] at h1
 have h2:=h.le
 refine ⟨by omega,?_,k.ok⟩
 rw [h.eq,k.eq,List.drop_drop]
 refine Prod.ext rfl (Prod.ext ?_ rfl)
 show i + (j + _) = i + j + _
 omega
theorem J1.err {s st : Rs} {b : List UInt8} {i : Nat} (h : J1 s b st i) {e : Int} (k : (Af st (b.drop i)).2.2 = e) : (Af s b).2.2 = e:=by rw [h.eq]; exact k
theorem J1.fin {s st : Rs} {b : List UInt8} {i : Nat} (h : J1 s b st i) (k : st.phase = 2∨b.drop i = []) : Af s b = (st,i,0):=by
 rw [h.eq,Rm k]; rfl
theorem Abx {s : Rs} {b : List UInt8} (O : C7 s) (h : s.phase = 0) (k : (Dt s b).2.2 = 0) : J1 s b (Dt s b).1 (Dt s b).2.1:=by
 have:=(Zg b s h).2 k
 exact ⟨this.le,this.eq,this.ok O⟩
theorem Wx {s st : Rs} {b : List UInt8} {i : Nat} (O : C7 s) (h : Af s b = (st,i,0)) (k : st.phase = 2∨i = b.length) : J1 s b st i:=by
 have h1:=Rl b s
 rw [h] at h1
 have h1 : i≤b.length:=h1
 have h2:=Ie b s O (by rw [h])
 rw [h] at h2
 have hk : st.phase = 2∨b.drop i = []:=k.imp (fun k=>k) (fun k=>by rw [k,List.drop_length])
 refine ⟨h1,?_,h2⟩
 rw [h,Rm hk]
 rfl
theorem Ac1 {s : Rs} (O : C7 s) (h1 : s.phase = 1) (h2 : s.framing = 1) : 1≤s.left∧s.left + (s.body.length : Int)≤65536:=by
 obtain ⟨q1,q2,q3,q4⟩:=O.f1 (by omega) h2
 have h3:=Jc s.method s.head
 have h4 : s.left≠0:=fun e=>by have:=q4.2 e; omega
 omega
theorem Abw {s : Rs} {b : List UInt8} (O : C7 s) (h1 : s.phase = 1) (h2 : s.framing = 1) {k : Nat} (hk : (k : Int) = min s.left (b.length : Int)) :
  J1 s b { s with body:=s.body ++ b.take k,left:=s.left - (k : Int),phase:=if s.left - (k : Int) = 0 then 2 else 1 } k∧(b≠[]→1≤k):=by
 obtain ⟨q1,q2⟩:=Ac1 O h1 h2
 have hr:=Aez b s h1 h2 q1 q2
 have e : min s.left.toNat b.length = k:=by omega
 rw [e] at hr
 refine ⟨Wx O hr ?_,fun hb=>?_⟩
 ·show (if s.left - (k : Int) = 0 then (2 : Int) else 1) = 2∨k = b.length
  by_cases e0 : s.left - (k : Int) = 0
  ·left; rw [if_pos e0]
  ·right; omega
 ·have : 1≤b.length:=by
   cases b with
   | nil=>exact absurd rfl hb
   | cons c b=>simp
  omega
theorem Zh {s : Rs} {b : List UInt8} (O : C7 s) (h1 : s.phase = 1) (h2 : s.framing = 3) : (s.body.length + b.length≤65536→J1 s b { s with body:=s.body ++ b } b.length)∧(65536 < s.body.length + b.length→(Af s b).2.2 = 3):=by
 obtain ⟨q1,q2⟩:=Aa8 b s h1 h2
 exact ⟨fun h=>Wx O (q1 h) (.inr rfl),fun h=>q2 h (O.f3 (by omega) h2)⟩
theorem Vq : ∀ (b : List UInt8) (s : Ch),(Bd s b).2.2 = 0→(Bd s b).1.phase≠4→(Bd s b).2.1 = b.length
 | [],s,_,_=>rfl
 | c :: b,s,h,h4=>by
  unfold Bd at h h4 ⊢
  by_cases e : s.phase = 4
  ·rw [if_pos e] at h4; exact absurd e h4
  rw [if_neg e] at h h4 ⊢
  by_cases e2 : (chS s c).2 = 0
  ·rw [if_neg (by simpa using e2)] at h h4 ⊢
   have:=Vq b (chS s c).1 h h4
   simp only [List.length_cons]
   omega
  ·rw [if_pos e2] at h
   exact absurd h e2
theorem Wy {s : Rs} {b : List UInt8} (O : C7 s) (h1 : s.phase = 1) (h2 : s.framing = 2) : ((Bd s.chunks b).2.2 = 0→J1 s b { s with chunks:=(Bd s.chunks b).1,phase:=if (Bd s.chunks b).1.phase = 4 then 2 else 1 } (Bd s.chunks b).2.1)∧((Bd s.chunks b).2.2≠0→(Af s b).2.2 = (Bd s.chunks b).2.2):=by
 obtain ⟨f1,f2,f3⟩:=O.f2 (by omega) h2
 obtain ⟨q1,q2⟩:=X7 b s h1 h2 (fun e=>by have:=f3.2 e; omega)
 refine ⟨fun h=>Wx O (q1 h) ?_,q2⟩
 show (if (Bd s.chunks b).1.phase = 4 then (2 : Int) else 1) = 2∨(Bd s.chunks b).2.1 = b.length
 by_cases e0 : (Bd s.chunks b).1.phase = 4
 ·left; rw [if_pos e0]
 ·right; exact Vq b _ h e0
theorem Ya {s : Rs} (O : C7 s) : s.head.fields = []∨A7 s.head.fields = 0:=by
 by_cases h : s.phase = 0
 ·left; rw [(O.p0 h).2.1]; rfl
 ·right
  obtain ⟨_,_,_,_,q5,_⟩:=O.p1 h
  unfold Au at q5
  split at q5
  ·cases q5
  split at q5
  ·rename_i h1; exact absurd q5 h1
  ·rename_i h1
   have h1 : Jh s.head = 0:=by simpa using h1
   unfold Jh at h1
   split at h1
   ·cases h1
   ·exact h1
theorem Yb {s : Rs} (O : C7 s) : s.chunks = ch0∨H7 s.chunks:=by
 by_cases h : s.phase = 0
 ·left; exact (O.p0 h).2.2.2.2.2
 ·by_cases h2 : s.framing = 2
  ·right; exact (O.f2 h h2).2.1
  ·left; exact (O.p1 h).2.2.2.2.2.2.1 h2
theorem T3 {s : Rs} (O : C7 s) : s.chunks.trailers = []∨A7 s.chunks.trailers = 0:=by
 rcases Yb O with h | h
 ·left; rw [h]; rfl
 ·rcases h.trail with h4 | h4
  ·exact .inr (h.p4 h4).2.1
  ·exact .inl h4
theorem Rp {l : List HF} (h : l = []∨A7 l = 0) : ∃ n f,Bz f n l:=by
 rcases h with h | h
 ·subst h; exact ⟨_,_,Qt⟩
 ·have h1:=(Ha l).1 h
  exact ⟨_,_,Bz.row (by have:=h1.1; omega) (fun i hi=>by
   have hm : l.getD i default∈l:=by rw [List.getD_eq_getElem?_getD,List.getElem?_eq_getElem hi]; exact List.getElem_mem hi
   have h2:=(Ys h).h _ hm
   have h3:=h1.2.1 _ hm
   exact ⟨by have:=h2.len; omega,by have:=h3.len; omega⟩)⟩
theorem Ac0 {s : Rs} (O : C7 s) : ∃ fl ff ct ctf,Bz ff fl s.head.fields∧Bz ctf ct s.chunks.trailers:=by
 obtain ⟨n1,f1,h1⟩:=Rp (Ya O)
 obtain ⟨n2,f2,h2⟩:=Rp (T3 O)
 exact ⟨_,_,_,_,h1,h2⟩
theorem Adh {k : IntKind} {t : ST} : Lr (.int k t):=⟨fun E E' w v hr=>by rw [hr.int_inv]; exact .ro (.int rfl)⟩
theorem noStr {s : List UInt8} : Lr (.str s):=⟨fun E E' w v hr=>by rw [C8 hr]; exact .ro (.str rfl)⟩
theorem noNils {nl : BT} {n : ST} {sz : Nat} {f : Nat→List SV} (h : nl.den = true) : Lr (.sl nl n sz f):=⟨fun E E' w v hr=>by
 rcases hr.sl_inv.sl_inv with ⟨e1,e2,_⟩ | ⟨_,_,_,_,_,e1,_⟩
 ·rw [e1]; exact .ro (.slnil h (by simpa using e2))
 ·rw [h] at e1; cases e1⟩
theorem noAgg {cs : List SV} (h : ∀ s∈cs,Lr s) : Lr (.agg cs):=⟨fun E E' w v hr=>by
 obtain ⟨vs,hv,hl,hq⟩ : ∃ vs : List Value,v = .agg ⟨vs⟩∧cs.length = vs.length∧∀ (i : Nat) (s : SV) (u : Value),cs[i]? = some s→vs[i]? = some u→Rel E w s u:=by
  cases hr with
  | ro h=>cases h with | agg hl hq=>exact ⟨_,rfl,hl,fun i s u a b=>.ro (hq i s u a b)⟩
  | agg hl hq=>exact ⟨_,rfl,hl,hq⟩
 subst hv
 exact .agg hl fun i s u a b=>(h s (List.mem_of_getElem? a)).h _ _ _ _ (hq i s u a b)⟩
theorem noTup {cs : List SV} (h : ∀ s∈cs,Lr s) : Lr (.tup cs):=⟨fun E E' w v hr=>by
 obtain ⟨vs,hv,hl,hq⟩ : ∃ vs : List Value,v = .tuple ⟨vs⟩∧cs.length = vs.length∧∀ (i : Nat) (s : SV) (u : Value),cs[i]? = some s→vs[i]? = some u→Rel E w s u:=by
  cases hr with
  | ro h=>cases h
  | tup hl hq=>exact ⟨_,rfl,hl,hq⟩
 subst hv
 exact .tup hl fun i s u a b=>(h s (List.mem_of_getElem? a)).h _ _ _ _ (hq i s u a b)⟩
theorem noRowH {nl : BT} {n : ST} {sz : Nat} {f : Nat→List SV} {k1 k2 k3 k4 : IntKind} {a b c d : ST} {re : List UInt8} (h : nl.den = true) : Lr (.tup [.agg [.int k1 a,.int k2 b,.str re,.sl nl n sz f],.int k3 c,.int k4 d]):=by
 refine noTup fun s hs=>?_
 simp only [List.mem_cons,List.mem_nil_iff,or_false] at hs
 rcases hs with rfl | rfl | rfl
 ·refine noAgg fun s hs=>?_
  simp only [List.mem_cons,List.mem_nil_iff,or_false] at hs
  rcases hs with rfl | rfl | rfl | rfl
  ·exact Adh
  ·exact Adh
  ·exact noStr
  ·exact noNils h
 ·exact Adh
 ·exact Adh
end Go.Proofs.YtdoogdbjiijifaaGreatDoor
