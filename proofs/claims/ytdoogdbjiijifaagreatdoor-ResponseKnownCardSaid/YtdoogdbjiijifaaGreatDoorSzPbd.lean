/- Part of the proofs of the statements about responses and messages (layers 9 and 10): a symbolic executor over the code, that it is sound, and contracts of functions; it has no conditions of its own. -/
import Derived.Test.YtdoogdbjiijifaaGreatDoorSzPbc
namespace Go.Proofs.YtdoogdbjiijifaaGreatDoor
open Go Go.Sx
set_option maxRecDepth 100000
set_option maxHeartbeats 8000000
theorem Ais : A2 Tryz.prog gl 188 (J4 2):=by
 refine Ek (gh:=[(999985,[]),(3,[.vmov 0 6 2]),(5,[.vnil 0 6 2])]) mixed Dd Aw Tryz.func188 (by kernel_rfl) (by kernel_rfl) ?_
 intro xs ls K h
 unfold J4 at h
 obtain ⟨s,c,ci,ph,lf,l0,d0,tn,tl,tf,db,dl,gr,df,nn,nl,g,nf,fo,sz,rfl,rfl,rfl,V,hp,hdb,hO,h⟩:=h
 have hnl : nl = s.line.length:=V.li.n
 unfold Tr at h
 have hc : chS s c = if s.line = []∧c = 13 then (⟨2,[13],s.data,s.left,s.trailers⟩,0) else if s.line = [13]∧c = 10 then (⟨0,[],s.data,s.left,s.trailers⟩,0) else (s,6):=by
  unfold chS; rw [if_neg (by omega),if_neg (by omega),if_pos hp]
 have hfo : fo = 0:=by have:=V.efo; rwa [if_neg (by omega)] at this
 have hsz : sz = 0:=by have:=V.esz; rwa [if_neg (by omega)] at this
 have hc13 : ((c.toNat : Int) == 13) = (c == 13):=eqB c 13
 have hc10 : ((c.toNat : Int) == 10) = (c == 10):=eqB c 10
 have hl0 : (nl == 0) = decide (s.line = []):=by rw [hnl,Bool.eq_iff_iff,beq_iff_eq,decide_eq_true_eq,←List.length_eq_zero_iff]; omega
 have hl1 : (nl == 1) = decide (s.line = [13]):=by
  rcases (hO.p2 hp).1 with e | e
  ·rw [hnl,e]; decide
  ·rw [hnl,e]; decide
 clear hnl
 by_cases h1 : s.line = []∧c = 13
 ·rw [hc,if_pos h1] at h
  have h:=(h 0 rfl).2 rfl
  simp only at h
  obtain ⟨G,hG⟩ : ∃ G,G = g + 1:=⟨_,rfl⟩
  have h:=h ph lf tn tl tf db dl df false 1 G (byteRow [13]) fo sz ⟨by rw [V.eph,hp],V.elf,V.tr,V.da,⟨rfl,fun i _=>rfl⟩,hfo,hsz⟩ ⟨hdb,by rw [if_neg]; show ¬ (2 : Int) = 4; decide,by rw [if_neg (by omega)]; rfl,by rw [if_neg (by omega),hG,if_neg]; show ¬ (2 : Int) = 4; decide⟩
  have EG : EqI G (g + 1):=⟨hG⟩
  clear hG hc
  refine ⟨_,_,h,fun D hD=>?_⟩
  cbv
  refine br hD (fun hb=>?_) (fun hb=>?_)<;>cbv
  ·intro f3 hf3
   cbv
   have h30 : f3 0 = [.int .u8 (.a (c.toNat : Int))]:=by rw [hf3.h 0 _ rfl]; subst hD; rfl
   refine ⟨by subst hD; exact ⟨rfl⟩,fun g' hg'=>?_⟩
   cbv
   have hgn : g' = g + 1:=by subst hD; exact hg'.h
   clear hg'
   subst hD
   refine L8 rfl rfl rfl (LeV.refl _) ⟨rfl,rfl⟩ ⟨rfl,rfl,by rw [EG.h]; exact hgn⟩ rfl rfl ⟨rfl,fun _ _=>rfl⟩ ⟨rfl,by rw [EG.h]; exact hgn,fun i hi=>?_⟩
   have hi : (i : Int) < 1:=hi
   obtain rfl : i = 0:=by omega
   rw [h30,h1.2]; rfl
  ·have hb : ((nl == 0) && ((c.toNat : Int) == 13)) = false:=by subst hD; exact hb
   rw [hl0,hc13,h1.1,h1.2] at hb
   cases hb
 by_cases h2 : s.line = [13]∧c = 10
 ·rw [hc,if_neg h1,if_pos h2] at h
  have h:=(h 0 rfl).2 rfl
  simp only at h
  obtain ⟨G,hG⟩ : ∃ G,G = g + 1:=⟨_,rfl⟩
  have h:=h 0 lf tn tl tf db dl df true 0 G (fun _=>[]) fo sz ⟨rfl,V.elf,V.tr,V.da,⟨rfl,fun i hi=>by cases hi⟩,hfo,hsz⟩ ⟨hdb,by rw [if_neg]; show ¬ (0 : Int) = 4; decide,by rw [if_neg (by omega)]; rfl,by rw [if_neg (by omega),hG,if_neg]; show ¬ (0 : Int) = 4; decide⟩
  have EG : EqI G (g + 1):=⟨hG⟩
  clear hG hc
  refine ⟨_,_,h,fun D hD=>?_⟩
  cbv
  refine br hD (fun hb=>?_) (fun hb=>?_)<;>cbv
  ·have hb : ((nl == 0) && ((c.toNat : Int) == 13)) = true:=by subst hD; exact hb
   rw [hl0,hc13,h2.1] at hb
   cases hb
  ·refine br hD (fun hb=>?_) (fun hb=>?_)<;>cbv
   ·intro g' hg'
    cbv
    have hgn : g' = g + 1:=by subst hD; exact hg'.h
    clear hg'
    subst hD
    exact L8 rfl rfl rfl (LeV.refl _) ⟨rfl,rfl⟩ ⟨rfl,rfl,by rw [EG.h]; exact hgn⟩ rfl rfl ⟨rfl,fun _ _=>rfl⟩ ⟨rfl,by rw [EG.h]; exact hgn,fun i hi=>rfl⟩
   ·have hb : ((nl == 1) && ((c.toNat : Int) == 10)) = false:=by subst hD; exact hb
    rw [hl1,hc10,h2.1,h2.2] at hb
    cases hb
 ·rw [hc,if_neg h1,if_neg h2] at h
  have h:=(h 6 rfl).1 (by decide)
  clear hc
  refine ⟨_,_,h,fun D hD=>?_⟩
  cbv
  refine br hD (fun hb=>?_) (fun hb=>?_)<;>cbv
  ·exfalso
   have hb : ((nl == 0) && ((c.toNat : Int) == 13)) = true:=by subst hD; exact hb
   rw [hl0,hc13,Bool.and_eq_true,decide_eq_true_eq,beq_iff_eq] at hb
   exact h1 hb
  ·refine br hD (fun hb=>?_) (fun hb=>?_)<;>cbv
   ·exfalso
    have hb : ((nl == 1) && ((c.toNat : Int) == 10)) = true:=by subst hD; exact hb
    rw [hl1,hc10,Bool.and_eq_true,decide_eq_true_eq,beq_iff_eq] at hb
    exact h2 hb
   ·subst hD; exact Dh rfl
end Go.Proofs.YtdoogdbjiijifaaGreatDoor
namespace Go.Proofs.YtdoogdbjiijifaaGreatDoor
open Go Go.Sx
set_option maxRecDepth 100000
set_option maxHeartbeats 8000000
def spSized : FSpec:=fun _ xs ls K=>∃ (s : Ch) (ph lf : Int) (l0 d0 : List UInt8) (tn : Bool) (tl : Int) (tf : Nat→List SV) (db : Bool) (dl : Int) (gr : Bool) (df : Nat→List SV) (nn : Bool) (nl g : Int) (nf : Nat→List SV) (fo sz : Int),
 xs = [.ptr 0 0]∧ls = [.blk 220 (rdC ph l0 d0 lf tn tl tf db dl nn nl g fo sz),.own 5 (.a dl) 1 gr df,.vec 5 (.a nl) (.a g) 1 nf]∧
 D9 s ph lf tl tf dl df nl nf fo sz∧s.phase = 0∧db = false∧Cq s.line = true∧H7 s∧Tr s 10 l0 d0 tn nn g gr K
theorem Ag5 : A2 Tryz.prog gl 240 spSized:=by
 refine Ek (gh:=[(2,[.vnil 0 6 2])]) mixed Dd Aw Tryz.func240 (by kernel_rfl) (by kernel_rfl) ?_
 intro xs ls K h
 unfold spSized at h
 obtain ⟨s,ph,lf,l0,d0,tn,tl,tf,db,dl,gr,df,nn,nl,g,nf,fo,sz,rfl,rfl,V,hp,hdb,hend,hO,h⟩:=h
 unfold Tr at h
 rw [Z9 hp hend] at h
 have hsz : sz = ((A3 s.line).2 : Int):=by have:=V.esz; rwa [if_pos hp] at this
 have hv:=So (hO.p0 hp)
 obtain ⟨n,hn⟩ : ∃ n,n = (A3 s.line).2:=⟨_,rfl⟩
 rw [←hn] at h hsz hv
 have hdl : dl = s.data.length:=V.da.n
 have VS : VI sz n:=⟨hsz⟩
 have VD : VI dl s.data.length:=⟨hdl⟩
 have HL : LeN s.data.length 65536:=⟨hO.data⟩
 have HV : LeN n 4294967296:=⟨by omega⟩
 obtain ⟨G,hG⟩ : ∃ G,G = g + 1:=⟨_,rfl⟩
 have EG : EqI G (g + 1):=⟨hG⟩
 clear hG hsz hv hdl hn
 by_cases h0 : n = 0
 ·rw [if_pos h0] at h
  have h:=(h 0 rfl).2 rfl 3 lf tn tl tf db dl df true 0 G (fun _=>[]) 0 0 ⟨rfl,V.elf,V.tr,V.da,⟨rfl,fun i hi=>by cases hi⟩,by rw [if_neg]; show ¬ (3 : Int) = 0; decide,by rw [if_neg]; show ¬ (3 : Int) = 0; decide⟩ ⟨hdb,by rw [if_neg]; show ¬ (3 : Int) = 4; decide,by rw [if_neg (by omega)]; rfl,by rw [if_neg (by omega),EG.h,if_neg]; show ¬ (3 : Int) = 4; decide⟩
  refine ⟨_,_,h,fun D hD=>?_⟩
  cbv
  intro g' hg'
  cbv
  have hgn : g' = g + 1:=by subst hD; exact hg'.h
  clear hg'
  refine br hD (fun hb=>?_) (fun hb=>?_)<;>cbv
  ·subst hD
   exact L8 rfl rfl rfl (LeV.refl _) ⟨rfl,rfl⟩ ⟨rfl,rfl,by rw [EG.h]; exact hgn⟩ rfl rfl ⟨rfl,fun _ _=>rfl⟩ ⟨rfl,by rw [EG.h]; exact hgn,fun i hi=>rfl⟩
  ·exfalso
   have hb : (sz == 0) = false:=by subst hD; exact hb
   rw [VS.h,h0] at hb
   cases hb
 rw [if_neg h0] at h
 have hw : IntKind.i64.wrap (dl + sz) = dl + sz:=by have:=VS.h; have:=VD.h; have:=HL.h; have:=HV.h; exact Bl (by omega) (by omega)
 by_cases h1 : 65536 < s.data.length + n
 ·rw [if_pos h1] at h
  have h:=(h 3 rfl).1 (by decide)
  refine ⟨_,_,h,fun D hD=>?_⟩
  have hbig : decide (65536 < IntKind.i64.wrap (dl + sz)) = true:=by rw [hw,VS.h,VD.h,decide_eq_true_eq]; omega
  clear hw
  cbv
  intro g' hg'
  cbv
  refine br hD (fun hb=>?_) (fun hb=>?_)<;>cbv
  ·exfalso
   have hb : (sz == 0) = true:=by subst hD; exact hb
   rw [VS.h,beq_iff_eq] at hb
   omega
  ·refine br hD (fun hb=>?_) (fun hb=>?_)<;>cbv
   ·subst hD; exact Dh rfl
   ·exfalso
    have hb : decide (65536 < IntKind.i64.wrap (dl + sz)) = false:=by subst hD; exact hb
    rw [hbig] at hb; cases hb
 ·rw [if_neg h1] at h
  have h:=(h 0 rfl).2 rfl 1 sz tn tl tf db dl df true 0 G (fun _=>[]) 0 0 ⟨rfl,VS.h,V.tr,V.da,⟨rfl,fun i hi=>by cases hi⟩,by rw [if_neg]; show ¬ (1 : Int) = 0; decide,by rw [if_neg]; show ¬ (1 : Int) = 0; decide⟩ ⟨hdb,by rw [if_neg]; show ¬ (1 : Int) = 4; decide,by rw [if_neg (by omega)]; rfl,by rw [if_neg (by omega),EG.h,if_neg]; show ¬ (1 : Int) = 4; decide⟩
  refine ⟨_,_,h,fun D hD=>?_⟩
  have hbig : decide (65536 < IntKind.i64.wrap (dl + sz)) = false:=by rw [hw,VS.h,VD.h,decide_eq_false_iff_not]; omega
  clear hw
  cbv
  intro g' hg'
  cbv
  have hgn : g' = g + 1:=by subst hD; exact hg'.h
  clear hg'
  refine br hD (fun hb=>?_) (fun hb=>?_)<;>cbv
  ·exfalso
   have hb : (sz == 0) = true:=by subst hD; exact hb
   rw [VS.h,beq_iff_eq] at hb
   omega
  ·refine br hD (fun hb=>?_) (fun hb=>?_)<;>cbv
   ·exfalso
    have hb : decide (65536 < IntKind.i64.wrap (dl + sz)) = true:=by subst hD; exact hb
    rw [hbig] at hb; cases hb
   ·subst hD
    exact L8 rfl rfl rfl (LeV.refl _) ⟨rfl,rfl⟩ ⟨rfl,rfl,by rw [EG.h]; exact hgn⟩ rfl rfl ⟨rfl,fun _ _=>rfl⟩ ⟨rfl,by rw [EG.h]; exact hgn,fun i hi=>rfl⟩
end Go.Proofs.YtdoogdbjiijifaaGreatDoor
namespace Go.Proofs.YtdoogdbjiijifaaGreatDoor
open Go Go.Sx
set_option maxRecDepth 100000
set_option maxHeartbeats 16000000
theorem Abv : ∀ d : Fin 256,(if d.1 < 48∨(57 < d.1∧d.1 < 65) then (-1 : Int) else Lib.indexByte Aix (UInt8.ofNat (Eg .or .u8 (d.1 : Int) 32).toNat)) = D7 (UInt8.ofNat d.1):=by decide +kernel
theorem Af1 : ∀ d : Fin 256,0≤Eg .or .u8 (d.1 : Int) 32∧Eg .or .u8 (d.1 : Int) 32≤255:=by decide +kernel
theorem hex_at (c : UInt8) : (if c.toNat < 48∨(57 < c.toNat∧c.toNat < 65) then (-1 : Int) else Lib.indexByte Aix (UInt8.ofNat (Eg .or .u8 (c.toNat : Int) 32).toNat)) = D7 c:=by
 have:=Abv ⟨c.toNat,c.toNat_lt⟩
 have e : UInt8.ofNat c.toNat = c:=by simp
 rw [←e]
 simpa using this
theorem H3 {f f' : Nat→List SV} {n n' : Int} {b b' : BT} {l : List HF} (R : Bz f n l) (R' : Bz f' n' l) (hb : b.den = b'.den) {m m' : ST} (hm : m.den = n) (hm' : m'.den = n') : LeV (.sl b m 2 f) (.sl b' m' 2 f'):=by
 have h1:=R.n
 have h2:=R'.n
 exact LeV.sl hb (by rw [hm,hm',h1,h2]) fun i hi=>by rw [hm] at hi; rw [R.f i (by omega),R'.f i (by omega)]
theorem It {s' : Ch} {p l tl dl nl fo sz p' l' tl' dl' nl' fo' sz' : Int} {tf df nf tf' df' nf' : Nat→List SV} (V : D9 s' p l tl tf dl df nl nf fo sz) (V' : D9 s' p' l' tl' tf' dl' df' nl' nf' fo' sz')
  {t t' ph ph' lf lf' tlt tlt' dlt dlt' dlu dlu' nlt nlt' nlu nlu' gt gt' gu gu' fot fot' szt szt' : ST} {l0 d0 : List UInt8} {tn tn' db db' nn nn' : BT} {gr : Bool}
  (he : t.den = t'.den) (h1 : ph.den = p∧ph'.den = p') (h2 : lf.den = l∧lf'.den = l') (h3 : tn.den = tn'.den∧tlt.den = tl∧tlt'.den = tl') (h4 : db.den = db'.den∧dlt.den = dl∧dlt'.den = dl'∧dlu.den = dl∧dlu'.den = dl') (h5 : nn.den = nn'.den∧nlt.den = nl∧nlt'.den = nl'∧nlu.den = nl∧nlu'.den = nl')
  (h6 : gt.den = gt'.den∧gu.den = gu'.den) (h7 : fot.den = fo∧fot'.den = fo') (h8 : szt.den = sz∧szt'.den = sz') :
  Fin (.int .i64 t) (.int .i64 t') [.blk 220 [.int .i64 ph,.str l0,.str d0,.int .i64 lf,.sl tn tlt 2 tf,.osl db dlt 1,.vsl nn nlt gt 2,.int .i64 fot,.int .i64 szt],.own 5 dlu 1 gr df,.vec 5 nlu gu 1 nf]
   [.blk 220 [.int .i64 ph',.str l0,.str d0,.int .i64 lf',.sl tn' tlt' 2 tf',.osl db' dlt' 1,.vsl nn' nlt' gt' 2,.int .i64 fot',.int .i64 szt'],.own 5 dlu' 1 gr df',.vec 5 nlu' gu' 1 nf']:=by
 have d1:=V.da.n
 have d2:=V'.da.n
 have n1:=V.li.n
 have n2:=V'.li.n
 refine L8 he (by rw [h1.1,h1.2,V.eph,V'.eph]) (by rw [h2.1,h2.2,V.elf,V'.elf]) (H3 V.tr V'.tr h3.1 h3.2.1 h3.2.2) ⟨h4.1,by rw [h4.2.1,h4.2.2.1,d1,d2]⟩ ⟨h5.1,by rw [h5.2.1,h5.2.2.1,n1,n2],h6.1⟩ (by rw [h7.1,h7.2,V.efo,V'.efo]) (by rw [h8.1,h8.2,V.esz,V'.esz])
  ⟨by rw [h4.2.2.2.1,h4.2.2.2.2,d1,d2],fun i hi=>?_⟩ ⟨by rw [h5.2.2.2.1,h5.2.2.2.2,n1,n2],h6.2,fun i hi=>?_⟩
 ·rw [h4.2.2.2.1] at hi
  rw [V.da.f i (by omega),V'.da.f i (by omega)]
 ·rw [h5.2.2.2.1] at hi
  rw [V.li.f i (by omega),V'.li.f i (by omega)]
theorem Agg {s : Ch} {c : UInt8} (hp : s.phase = 0) (h : (chS s c).2 = 0) : (chS s c).1.phase≠4∧(chS s c).1.trailers = s.trailers∧(chS s c).1.data = s.data:=by
 unfold chS at h ⊢
 rw [if_pos hp] at h ⊢
 split at h
 ·rename_i g
  rw [if_pos g]
  split at h
  ·rename_i g2; rw [if_pos g2]; exact ⟨by simp,rfl,rfl⟩
  ·rename_i g2
   rw [if_neg g2]
   split at h
   ·cases h
   ·rename_i g3; rw [if_neg g3]; exact ⟨by simp,rfl,rfl⟩
 ·rename_i g
  rw [if_neg g]
  split at h
  ·rename_i g2; exact absurd h g2
  ·rename_i g2; rw [if_neg g2]; exact ⟨by simp,rfl,rfl⟩
theorem Adg (c : UInt8) : (((c.toNat : Int) != 9) && (decide ((c.toNat : Int) < 32) || decide (126 < (c.toNat : Int)))) = !okB c:=by
 rw [Bool.eq_iff_iff]
 simp only [okB,Bool.and_eq_true,Bool.or_eq_true,bne_iff_ne,decide_eq_true_eq,Bool.not_eq_true',Bool.or_eq_false_iff,decide_eq_false_iff_not,Bool.and_eq_false_iff,ne_eq]
 omega
theorem U6 : A2 Tryz.prog gl 186 (J4 0):=by
 refine Ek (gh:=[]) mixed Dd (Ah (Ai3 idxB_ok) (Bf Ag5 Aw)) Tryz.func186 (by kernel_rfl) (by kernel_rfl) ?_
 intro xs ls K h
 unfold J4 at h
 obtain ⟨s,c,ci,ph,lf,l0,d0,tn,tl,tf,db,dl,gr,df,nn,nl,g,nf,fo,sz,rfl,rfl,rfl,V,hp,hdb,hO,h⟩:=h
 unfold Tr at h
 have hkept:=Agg (c:=c) hp
 have hline:=Aaa (c:=c) hp
 have hsize:=Z9 hp
 obtain ⟨e,he⟩ : ∃ e,e = (chS s c).2:=⟨_,rfl⟩
 obtain ⟨s',hs'⟩ : ∃ s',s' = (chS s c).1:=⟨_,rfl⟩
 have h:=h e he
 rw [←hs'] at h
 rw [←he,←hs'] at hkept
 obtain ⟨L,hL1,hL2,hK⟩ : ∃ L : List Hl,(e≠0→L = [.gone,.gone,.gone])∧(e = 0→∃ ph' lf' nn' nl' g' nf' fo' sz',L = [.blk 220 (rdC ph' l0 d0 lf' tn tl tf db dl nn' nl' g' fo' sz'),.own 5 (.a dl) 1 gr df,.vec 5 (.a nl') (.a g') 1 nf']∧
   D9 s' ph' lf' tl tf dl df nl' nf' fo' sz'∧Agp s s' tn nn g tn nn' g' db)∧K (.int .i64 (.a e)) L:=by
  by_cases e0 : e = 0
  ·obtain ⟨k1,k2,k3⟩:=hkept e0
   have V' : D9 s' s'.phase s'.left tl tf dl df s'.line.length (byteRow s'.line) (if s'.phase = 0 then A6 s'.line else 0) (if s'.phase = 0 then ((A3 s'.line).2 : Int) else 0):=⟨rfl,rfl,by rw [k2]; exact V.tr,by rw [k3]; exact V.da,⟨rfl,fun i _=>rfl⟩,rfl,rfl⟩
   have N' : Agp s s' tn nn g tn s'.line.isEmpty (g + 1) db:=⟨hdb,by rw [if_neg k1],by rw [if_neg (by omega)],by rw [if_neg (by omega),if_neg k1]⟩
   exact ⟨_,fun h=>absurd e0 h,fun _=>⟨_,_,_,_,_,_,_,_,rfl,V',N'⟩,h.2 e0 _ _ _ _ _ _ _ _ _ _ _ _ _ _ V' N'⟩
  ·exact ⟨_,fun _=>rfl,fun h=>absurd h e0,h.1 e0⟩
 have hfo : fo = A6 s.line:=by have:=V.efo; rwa [if_pos hp] at this
 have hsz : sz = ((A3 s.line).2 : Int):=by have:=V.esz; rwa [if_pos hp] at this
 have hLO:=hO.p0 hp
 have hv:=So hLO
 have hsl:=Pt hLO
 have hnl : nl = s.line.length:=V.li.n
 have hll : s.line.length≤1000000:=by have:=Sq hLO; omega
 have VN : VI nl s.line.length:=⟨hnl⟩
 have HL : LeN s.line.length 1000000:=⟨hll⟩
 have VS : VI sz (A3 s.line).2:=⟨hsz⟩
 have HV : LeN (A3 s.line).2 4294967295:=⟨by omega⟩
 have EF : EqI fo (A6 s.line):=⟨hfo⟩
 have hat:=hex_at c
 -- what a step within the line answers
 have herr : ∀ v : Int,¬ (c = 10∧Cq s.line = true)→Ct s.line c = v→v≠0→e = v:=fun v h1 h2 h3=>by
  rw [he,hline h1,h2,if_pos h3]
 have hok : ¬ (c = 10∧Cq s.line = true)→Ct s.line c = 0→e = 0∧s' = ⟨0,s.line ++ [c],s.data,s.left,s.trailers⟩:=fun h1 h2=>by
  rw [he,hs',hline h1,h2,if_neg (by simp)]; exact ⟨rfl,rfl⟩
 clear hline hsz hnl hll hv hfo h hkept
 refine ⟨_,_,hK,fun D hD=>?_⟩
 clear hK
 cbv
 refine ⟨Aix,_,rfl,rfl,by subst hD; exact Af1 ⟨c.toNat,c.toNat_lt⟩,fun r hr=>?_⟩
 cbv
 refine br hD (fun hb=>?_) (fun hb=>?_)<;>cbv
 ·have hb : (decide ((c.toNat : Int) < 48) || (decide (57 < (c.toNat : Int)) && decide ((c.toNat : Int) < 65))) = true:=by subst hD; exact hb
  have hd : D7 c = -1:=by
   rw [←hat,if_pos]
   simp only [Bool.or_eq_true,Bool.and_eq_true,decide_eq_true_eq] at hb
   omega
  clear hb hat hr
  refine br hD (fun hb=>?_) (fun hb=>?_)<;>cbv
  ·have hb : ((fo == 3) && ((c.toNat : Int) == 10)) = true:=by subst hD; exact hb
   have h13 : c = 10∧Cq s.line = true:=by
    rw [Bool.and_eq_true,beq_iff_eq] at hb
    have e10:=eqB c 10
    have h2:=hb.2
    rw [show ((c.toNat : Int) == 10) = (c == 10) from e10,beq_iff_eq] at h2
    exact ⟨h2,K8.1 (by rw [←EF.h]; exact hb.1)⟩
   refine ⟨s,D.i (.a ph),D.i (.a lf),l0,d0,D.b (.a tn),D.i (.a tl),tf,D.b (.a db),D.i (.a dl),gr,df,D.b (.a nn),D.i (.a nl),D.i (.a g),nf,D.i (.a fo),D.i (.a sz),rfl,rfl,by subst hD; exact V,hp,by subst hD; exact hdb,h13.2,hO,fun e2 he2=>⟨fun hne=>?_,fun h0 ph2 lf2 tn2 tl2 tf2 db2 dl2 df2 nn2 nl2 g2 nf2 fo2 sz2 V2 N2=>?_⟩⟩<;>cbv
   ·have ee : e = e2:=by rw [he,he2,h13.1]
    rw [hL1 (by rw [ee]; exact hne)]
    subst hD
    exact Dh ee.symm
   ·have ee : e = e2:=by rw [he,he2,h13.1]
    obtain ⟨p3,l3,nn3,nl3,g3,nf3,fo3,sz3,rfl,V3,N3⟩:=hL2 (by rw [ee]; exact h0)
    have es : s' = (chS s 10).1:=by rw [hs',h13.1]
    rw [←es] at V2 N2
    subst hD
    exact It V2 V3 (by exact ee.symm) ⟨rfl,rfl⟩ ⟨rfl,rfl⟩ ⟨by exact N2.et.trans N3.et.symm,rfl,rfl⟩ ⟨by exact N2.ed.trans N3.ed.symm,rfl,rfl,rfl,rfl⟩ ⟨by exact N2.en.trans N3.en.symm,rfl,rfl,rfl,rfl⟩ ⟨by exact N2.eg.trans N3.eg.symm,by exact N2.eg.trans N3.eg.symm⟩ ⟨rfl,rfl⟩ ⟨rfl,rfl⟩
  have hb : ((fo == 3) && ((c.toNat : Int) == 10)) = false:=by subst hD; exact hb
  have hns : ¬ (c = 10∧Cq s.line = true):=by
   rintro ⟨h1,h2⟩
   rw [EF.h,K8.2 h2,h1] at hb
   cases hb
  clear hb
  refine br hD (fun hb=>?_) (fun hb=>?_)<;>cbv
  ·have hb : (fo == 3) = true:=by subst hD; exact hb
   rw [EF.h,beq_iff_eq] at hb
   have em : e = 6:=herr 6 hns (Yt hb) (by decide)
   rw [hL1 (by rw [em]; decide)]
   subst hD
   exact Dh em.symm
  have h3 : A6 s.line≠3:=by
   have hb : (fo == 3) = false:=by subst hD; exact hb
   rw [EF.h] at hb
   simpa using hb
  clear hb
  refine br hD (fun hb=>?_) (fun hb=>?_)<;>cbv
  ·have hb : (((c.toNat : Int) == 13) && (fo != 0)) = true:=by subst hD; exact hb
   rw [show ((c.toNat : Int) == 13) = (c == 13) from eqB c 13,EF.h,Bool.and_eq_true,beq_iff_eq,bne_iff_ne] at hb
   obtain ⟨hc,hf0⟩:=hb
   intro f3 hf3
   cbv
   refine ⟨by subst hD; exact ⟨rfl,by show (nl + 1) * 1≤_; rw [VN.h]; have:=HL.h; omega,by show nl + 1≤_; rw [VN.h]; have:=HL.h; omega⟩,by subst hD; exact ⟨rfl⟩,fun f4 n4 hm g4 hg4=>?_⟩
   cbv
   have h30 : f3 0 = [.int .u8 (.a (c.toNat : Int))]:=by rw [hf3.h 0 _ rfl]; subst hD; rfl
   have R4 : A8 f4 n4 (s.line ++ [c]):=V.li.more (g:=f3) (u:=[c]) rfl (row1 h30) (by subst hD; exact hm)
   have hgn : g4 = g + 1:=by subst hD; exact hg4.h
   clear hm hf3 hg4
   obtain ⟨e0,es⟩:=hok hns (by rw [hc,Qu hLO h3,if_neg hf0])
   obtain ⟨p3,l3,nn3,nl3,g3,nf3,fo3,sz3,rfl,V3,N3⟩:=hL2 e0
   have V2 : D9 s' ph lf tl tf dl df n4 f4 3 (sz):=by rw [es]; exact ⟨V.eph.trans hp,V.elf,V.tr,V.da,R4,by rw [if_pos rfl]; exact by rw [hc]; exact (Qw s.line).1.symm,by rw [if_pos rfl]; exact by rw [hc]; show sz = _; rw [(Qw s.line).2]; exact VS.h⟩
   have hnn : nn3 = false:=by have:=N3.en; rw [if_neg (by omega),es] at this; rw [this]; simp
   have hg3 : g3 = g + 1:=by have:=N3.eg; rw [if_neg (by omega),es,if_neg (by show ¬ (0 : Int) = 4; decide)] at this; exact this
   subst hD
   exact It V2 V3 (by exact e0.symm) ⟨rfl,rfl⟩ ⟨rfl,rfl⟩ ⟨rfl,rfl,rfl⟩ ⟨rfl,rfl,rfl,rfl,rfl⟩ ⟨by rw [hnn]; exact Bool.and_false _,rfl,rfl,rfl,rfl⟩ ⟨by exact hgn.trans hg3.symm,by exact hgn.trans hg3.symm⟩ ⟨rfl,rfl⟩ ⟨by exact rfl,rfl⟩
  have hc0 : ¬ (c = 13∧A6 s.line≠0):=by
   have hb : (((c.toNat : Int) == 13) && (fo != 0)) = false:=by subst hD; exact hb
   rw [show ((c.toNat : Int) == 13) = (c == 13) from eqB c 13,EF.h] at hb
   rintro ⟨h1,h2⟩
   rw [h1] at hb
   simp [h2] at hb
  clear hb
  refine br hD (fun hb=>?_) (fun hb=>?_)<;>cbv
  ·have hb : (fo == 2) = true:=by subst hD; exact hb
   rw [EF.h,beq_iff_eq] at hb
   have hf2:=hb
   clear hb
   have hc13 : c≠13:=fun h=>hc0 ⟨h,by rw [hf2]; decide⟩
   refine br hD (fun hb=>?_) (fun hb=>?_)<;>cbv
   ·have hb : (((c.toNat : Int) != 9) && (decide ((c.toNat : Int) < 32) || decide (126 < (c.toNat : Int)))) = true:=by subst hD; exact hb
    rw [Adg] at hb
    have em : e = 6:=herr 6 hns (by rw [Il hf2 hc13,if_pos hb]) (by decide)
    rw [hL1 (by rw [em]; decide)]
    subst hD
    exact Dh em.symm
   have hb : (((c.toNat : Int) != 9) && (decide ((c.toNat : Int) < 32) || decide (126 < (c.toNat : Int)))) = false:=by subst hD; exact hb
   rw [Adg] at hb
   have hk : ¬ (!okB c) = true:=by rw [hb]; decide
   have hne : ¬ ((A3 s.line).1 = s.line.length∧0≤D7 c):=fun h=>(W0 hf2).2.2 h.1
   clear hb
   refine br hD (fun hb=>?_) (fun hb=>?_)<;>cbv
   ·have hb : decide (200≤nl) = true:=by subst hD; exact hb
    have h200 : 200≤s.line.length:=by rw [decide_eq_true_eq] at hb; have:=VN.h; omega
    have em : e = 3:=herr 3 hns (by rw [Il hf2 hc13,if_neg hk,if_pos h200]) (by decide)
    rw [hL1 (by rw [em]; decide)]
    subst hD
    exact Dh em.symm
   ·have hb : decide (200≤nl) = false:=by subst hD; exact hb
    have h200 : ¬ 200≤s.line.length:=by rw [decide_eq_false_iff_not] at hb; have:=VN.h; omega
    intro f3 hf3
    cbv
    refine ⟨by subst hD; exact ⟨rfl,by show (nl + 1) * 1≤_; rw [VN.h]; have:=HL.h; omega,by show nl + 1≤_; rw [VN.h]; have:=HL.h; omega⟩,by subst hD; exact ⟨rfl⟩,fun f4 n4 hm g4 hg4=>?_⟩
    cbv
    have h30 : f3 0 = [.int .u8 (.a (c.toNat : Int))]:=by rw [hf3.h 0 _ rfl]; subst hD; rfl
    have R4 : A8 f4 n4 (s.line ++ [c]):=V.li.more (g:=f3) (u:=[c]) rfl (row1 h30) (by subst hD; exact hm)
    have hgn : g4 = g + 1:=by subst hD; exact hg4.h
    clear hm hf3 hg4
    obtain ⟨e0,es⟩:=hok hns (by rw [Il hf2 hc13,if_neg hk,if_neg h200])
    obtain ⟨p3,l3,nn3,nl3,g3,nf3,fo3,sz3,rfl,V3,N3⟩:=hL2 e0
    have V2 : D9 s' ph lf tl tf dl df n4 f4 fo (sz):=by rw [es]; exact ⟨V.eph.trans hp,V.elf,V.tr,V.da,R4,by rw [if_pos rfl]; exact by rw [(Fx hne hc13).1,EF.h,hf2],by rw [if_pos rfl]; exact by rw [(Fx hne hc13).2]; exact VS.h⟩
    have hnn : nn3 = false:=by have:=N3.en; rw [if_neg (by omega),es] at this; rw [this]; simp
    have hg3 : g3 = g + 1:=by have:=N3.eg; rw [if_neg (by omega),es,if_neg (by show ¬ (0 : Int) = 4; decide)] at this; exact this
    subst hD
    exact It V2 V3 (by exact e0.symm) ⟨rfl,rfl⟩ ⟨rfl,rfl⟩ ⟨rfl,rfl,rfl⟩ ⟨rfl,rfl,rfl,rfl,rfl⟩ ⟨by rw [hnn]; exact Bool.and_false _,rfl,rfl,rfl,rfl⟩ ⟨by exact hgn.trans hg3.symm,by exact hgn.trans hg3.symm⟩ ⟨rfl,rfl⟩ ⟨by exact rfl,rfl⟩
  have hf2 : A6 s.line≠2:=by
   have hb : (fo == 2) = false:=by subst hD; exact hb
   rw [EF.h] at hb
   simpa using hb
  have hf01 : A6 s.line = 0∨A6 s.line = 1:=by
   rcases Pz s.line with h | h | h | h
   ·exact .inl h
   ·exact .inr h
   ·exact absurd h hf2
   ·exact absurd h h3
  clear hb
  have hdn : D7 c < 0:=by rw [hd]; decide
  refine br hD (fun hb=>?_) (fun hb=>?_)<;>cbv
  ·have hb : (((c.toNat : Int) == 59) && (fo == 1)) = true:=by subst hD; exact hb
   rw [show ((c.toNat : Int) == 59) = (c == 59) from eqB c 59,EF.h,Bool.and_eq_true,beq_iff_eq,beq_iff_eq] at hb
   obtain ⟨hc,hf1⟩:=hb
   have hne : ¬ ((A3 s.line).1 = s.line.length∧0≤D7 c):=fun h=>by omega
   have hc13 : c≠13:=by rw [hc]; decide
   refine br hD (fun hb=>?_) (fun hb=>?_)<;>cbv
   ·have hb : decide (200≤nl) = true:=by subst hD; exact hb
    have h200 : 200≤s.line.length:=by rw [decide_eq_true_eq] at hb; have:=VN.h; omega
    have em : e = 3:=herr 3 hns (by rw [hc,K5 hLO hf1,if_pos h200]) (by decide)
    rw [hL1 (by rw [em]; decide)]
    subst hD
    exact Dh em.symm
   ·have hb : decide (200≤nl) = false:=by subst hD; exact hb
    have h200 : ¬ 200≤s.line.length:=by rw [decide_eq_false_iff_not] at hb; have:=VN.h; omega
    intro f3 hf3
    cbv
    refine ⟨by subst hD; exact ⟨rfl,by show (nl + 1) * 1≤_; rw [VN.h]; have:=HL.h; omega,by show nl + 1≤_; rw [VN.h]; have:=HL.h; omega⟩,by subst hD; exact ⟨rfl⟩,fun f4 n4 hm g4 hg4=>?_⟩
    cbv
    have h30 : f3 0 = [.int .u8 (.a (c.toNat : Int))]:=by rw [hf3.h 0 _ rfl]; subst hD; rfl
    have R4 : A8 f4 n4 (s.line ++ [c]):=V.li.more (g:=f3) (u:=[c]) rfl (row1 h30) (by subst hD; exact hm)
    have hgn : g4 = g + 1:=by subst hD; exact hg4.h
    clear hm hf3 hg4
    obtain ⟨e0,es⟩:=hok hns (by rw [hc,K5 hLO hf1,if_neg h200])
    obtain ⟨p3,l3,nn3,nl3,g3,nf3,fo3,sz3,rfl,V3,N3⟩:=hL2 e0
    have V2 : D9 s' ph lf tl tf dl df n4 f4 2 (sz):=by rw [es]; exact ⟨V.eph.trans hp,V.elf,V.tr,V.da,R4,by rw [if_pos rfl]; exact (Fx hne hc13).1.symm,by rw [if_pos rfl]; exact by rw [(Fx hne hc13).2]; exact VS.h⟩
    have hnn : nn3 = false:=by have:=N3.en; rw [if_neg (by omega),es] at this; rw [this]; simp
    have hg3 : g3 = g + 1:=by have:=N3.eg; rw [if_neg (by omega),es,if_neg (by show ¬ (0 : Int) = 4; decide)] at this; exact this
    subst hD
    exact It V2 V3 (by exact e0.symm) ⟨rfl,rfl⟩ ⟨rfl,rfl⟩ ⟨rfl,rfl,rfl⟩ ⟨rfl,rfl,rfl,rfl,rfl⟩ ⟨by rw [hnn]; exact Bool.and_false _,rfl,rfl,rfl,rfl⟩ ⟨by exact hgn.trans hg3.symm,by exact hgn.trans hg3.symm⟩ ⟨rfl,rfl⟩ ⟨by exact rfl,rfl⟩
  have hn59 : ¬ (c = 59∧A6 s.line = 1):=by
   have hb : (((c.toNat : Int) == 59) && (fo == 1)) = false:=by subst hD; exact hb
   rw [show ((c.toNat : Int) == 59) = (c == 59) from eqB c 59,EF.h] at hb
   rintro ⟨h1,h2⟩
   rw [h1,h2] at hb
   cases hb
  have hm6 : Ct s.line c = 6:=by
   by_cases h13 : c = 13
   ·have hf0 : A6 s.line = 0:=Decidable.byContradiction fun h=>hc0 ⟨h13,h⟩
    rw [h13,Qu hLO h3,if_pos hf0]
   ·exact Yv hf01 hdn h13 hn59
  have em : e = 6:=herr 6 hns (hm6) (by decide)
  rw [hL1 (by rw [em]; decide)]
  subst hD
  exact Dh em.symm
 ·have hb : (decide ((c.toNat : Int) < 48) || (decide (57 < (c.toNat : Int)) && decide ((c.toNat : Int) < 65))) = false:=by subst hD; exact hb
  have hd : D7 c = r:=by
   rw [hr,←hat,if_neg]
   ·subst hD; rfl
   ·rintro h
    simp only [Bool.or_eq_false_iff,Bool.and_eq_false_iff,decide_eq_false_iff_not] at hb
    omega
  clear hb hat hr
  refine br hD (fun hb=>?_) (fun hb=>?_)<;>cbv
  ·have hb : ((fo == 3) && ((c.toNat : Int) == 10)) = true:=by subst hD; exact hb
   have h13 : c = 10∧Cq s.line = true:=by
    rw [Bool.and_eq_true,beq_iff_eq] at hb
    have e10:=eqB c 10
    have h2:=hb.2
    rw [show ((c.toNat : Int) == 10) = (c == 10) from e10,beq_iff_eq] at h2
    exact ⟨h2,K8.1 (by rw [←EF.h]; exact hb.1)⟩
   refine ⟨s,D.i (.a ph),D.i (.a lf),l0,d0,D.b (.a tn),D.i (.a tl),tf,D.b (.a db),D.i (.a dl),gr,df,D.b (.a nn),D.i (.a nl),D.i (.a g),nf,D.i (.a fo),D.i (.a sz),rfl,rfl,by subst hD; exact V,hp,by subst hD; exact hdb,h13.2,hO,fun e2 he2=>⟨fun hne=>?_,fun h0 ph2 lf2 tn2 tl2 tf2 db2 dl2 df2 nn2 nl2 g2 nf2 fo2 sz2 V2 N2=>?_⟩⟩<;>cbv
   ·have ee : e = e2:=by rw [he,he2,h13.1]
    rw [hL1 (by rw [ee]; exact hne)]
    subst hD
    exact Dh ee.symm
   ·have ee : e = e2:=by rw [he,he2,h13.1]
    obtain ⟨p3,l3,nn3,nl3,g3,nf3,fo3,sz3,rfl,V3,N3⟩:=hL2 (by rw [ee]; exact h0)
    have es : s' = (chS s 10).1:=by rw [hs',h13.1]
    rw [←es] at V2 N2
    subst hD
    exact It V2 V3 (by exact ee.symm) ⟨rfl,rfl⟩ ⟨rfl,rfl⟩ ⟨by exact N2.et.trans N3.et.symm,rfl,rfl⟩ ⟨by exact N2.ed.trans N3.ed.symm,rfl,rfl,rfl,rfl⟩ ⟨by exact N2.en.trans N3.en.symm,rfl,rfl,rfl,rfl⟩ ⟨by exact N2.eg.trans N3.eg.symm,by exact N2.eg.trans N3.eg.symm⟩ ⟨rfl,rfl⟩ ⟨rfl,rfl⟩
  have hb : ((fo == 3) && ((c.toNat : Int) == 10)) = false:=by subst hD; exact hb
  have hns : ¬ (c = 10∧Cq s.line = true):=by
   rintro ⟨h1,h2⟩
   rw [EF.h,K8.2 h2,h1] at hb
   cases hb
  clear hb
  refine br hD (fun hb=>?_) (fun hb=>?_)<;>cbv
  ·have hb : (fo == 3) = true:=by subst hD; exact hb
   rw [EF.h,beq_iff_eq] at hb
   have em : e = 6:=herr 6 hns (Yt hb) (by decide)
   rw [hL1 (by rw [em]; decide)]
   subst hD
   exact Dh em.symm
  have h3 : A6 s.line≠3:=by
   have hb : (fo == 3) = false:=by subst hD; exact hb
   rw [EF.h] at hb
   simpa using hb
  clear hb
  refine br hD (fun hb=>?_) (fun hb=>?_)<;>cbv
  ·have hb : (((c.toNat : Int) == 13) && (fo != 0)) = true:=by subst hD; exact hb
   rw [show ((c.toNat : Int) == 13) = (c == 13) from eqB c 13,EF.h,Bool.and_eq_true,beq_iff_eq,bne_iff_ne] at hb
   obtain ⟨hc,hf0⟩:=hb
   intro f3 hf3
   cbv
   refine ⟨by subst hD; exact ⟨rfl,by show (nl + 1) * 1≤_; rw [VN.h]; have:=HL.h; omega,by show nl + 1≤_; rw [VN.h]; have:=HL.h; omega⟩,by subst hD; exact ⟨rfl⟩,fun f4 n4 hm g4 hg4=>?_⟩
   cbv
   have h30 : f3 0 = [.int .u8 (.a (c.toNat : Int))]:=by rw [hf3.h 0 _ rfl]; subst hD; rfl
   have R4 : A8 f4 n4 (s.line ++ [c]):=V.li.more (g:=f3) (u:=[c]) rfl (row1 h30) (by subst hD; exact hm)
   have hgn : g4 = g + 1:=by subst hD; exact hg4.h
   clear hm hf3 hg4
   obtain ⟨e0,es⟩:=hok hns (by rw [hc,Qu hLO h3,if_neg hf0])
   obtain ⟨p3,l3,nn3,nl3,g3,nf3,fo3,sz3,rfl,V3,N3⟩:=hL2 e0
   have V2 : D9 s' ph lf tl tf dl df n4 f4 3 (sz):=by rw [es]; exact ⟨V.eph.trans hp,V.elf,V.tr,V.da,R4,by rw [if_pos rfl]; exact by rw [hc]; exact (Qw s.line).1.symm,by rw [if_pos rfl]; exact by rw [hc]; show sz = _; rw [(Qw s.line).2]; exact VS.h⟩
   have hnn : nn3 = false:=by have:=N3.en; rw [if_neg (by omega),es] at this; rw [this]; simp
   have hg3 : g3 = g + 1:=by have:=N3.eg; rw [if_neg (by omega),es,if_neg (by show ¬ (0 : Int) = 4; decide)] at this; exact this
   subst hD
   exact It V2 V3 (by exact e0.symm) ⟨rfl,rfl⟩ ⟨rfl,rfl⟩ ⟨rfl,rfl,rfl⟩ ⟨rfl,rfl,rfl,rfl,rfl⟩ ⟨by rw [hnn]; exact Bool.and_false _,rfl,rfl,rfl,rfl⟩ ⟨by exact hgn.trans hg3.symm,by exact hgn.trans hg3.symm⟩ ⟨rfl,rfl⟩ ⟨by exact rfl,rfl⟩
  have hc0 : ¬ (c = 13∧A6 s.line≠0):=by
   have hb : (((c.toNat : Int) == 13) && (fo != 0)) = false:=by subst hD; exact hb
   rw [show ((c.toNat : Int) == 13) = (c == 13) from eqB c 13,EF.h] at hb
   rintro ⟨h1,h2⟩
   rw [h1] at hb
   simp [h2] at hb
  clear hb
  refine br hD (fun hb=>?_) (fun hb=>?_)<;>cbv
  ·have hb : (fo == 2) = true:=by subst hD; exact hb
   rw [EF.h,beq_iff_eq] at hb
   have hf2:=hb
   clear hb
   have hc13 : c≠13:=fun h=>hc0 ⟨h,by rw [hf2]; decide⟩
   refine br hD (fun hb=>?_) (fun hb=>?_)<;>cbv
   ·have hb : (((c.toNat : Int) != 9) && (decide ((c.toNat : Int) < 32) || decide (126 < (c.toNat : Int)))) = true:=by subst hD; exact hb
    rw [Adg] at hb
    have em : e = 6:=herr 6 hns (by rw [Il hf2 hc13,if_pos hb]) (by decide)
    rw [hL1 (by rw [em]; decide)]
    subst hD
    exact Dh em.symm
   have hb : (((c.toNat : Int) != 9) && (decide ((c.toNat : Int) < 32) || decide (126 < (c.toNat : Int)))) = false:=by subst hD; exact hb
   rw [Adg] at hb
   have hk : ¬ (!okB c) = true:=by rw [hb]; decide
   have hne : ¬ ((A3 s.line).1 = s.line.length∧0≤D7 c):=fun h=>(W0 hf2).2.2 h.1
   clear hb
   refine br hD (fun hb=>?_) (fun hb=>?_)<;>cbv
   ·have hb : decide (200≤nl) = true:=by subst hD; exact hb
    have h200 : 200≤s.line.length:=by rw [decide_eq_true_eq] at hb; have:=VN.h; omega
    have em : e = 3:=herr 3 hns (by rw [Il hf2 hc13,if_neg hk,if_pos h200]) (by decide)
    rw [hL1 (by rw [em]; decide)]
    subst hD
    exact Dh em.symm
   ·have hb : decide (200≤nl) = false:=by subst hD; exact hb
    have h200 : ¬ 200≤s.line.length:=by rw [decide_eq_false_iff_not] at hb; have:=VN.h; omega
    intro f3 hf3
    cbv
    refine ⟨by subst hD; exact ⟨rfl,by show (nl + 1) * 1≤_; rw [VN.h]; have:=HL.h; omega,by show nl + 1≤_; rw [VN.h]; have:=HL.h; omega⟩,by subst hD; exact ⟨rfl⟩,fun f4 n4 hm g4 hg4=>?_⟩
    cbv
    have h30 : f3 0 = [.int .u8 (.a (c.toNat : Int))]:=by rw [hf3.h 0 _ rfl]; subst hD; rfl
    have R4 : A8 f4 n4 (s.line ++ [c]):=V.li.more (g:=f3) (u:=[c]) rfl (row1 h30) (by subst hD; exact hm)
    have hgn : g4 = g + 1:=by subst hD; exact hg4.h
    clear hm hf3 hg4
    obtain ⟨e0,es⟩:=hok hns (by rw [Il hf2 hc13,if_neg hk,if_neg h200])
    obtain ⟨p3,l3,nn3,nl3,g3,nf3,fo3,sz3,rfl,V3,N3⟩:=hL2 e0
    have V2 : D9 s' ph lf tl tf dl df n4 f4 fo (sz):=by rw [es]; exact ⟨V.eph.trans hp,V.elf,V.tr,V.da,R4,by rw [if_pos rfl]; exact by rw [(Fx hne hc13).1,EF.h,hf2],by rw [if_pos rfl]; exact by rw [(Fx hne hc13).2]; exact VS.h⟩
    have hnn : nn3 = false:=by have:=N3.en; rw [if_neg (by omega),es] at this; rw [this]; simp
    have hg3 : g3 = g + 1:=by have:=N3.eg; rw [if_neg (by omega),es,if_neg (by show ¬ (0 : Int) = 4; decide)] at this; exact this
    subst hD
    exact It V2 V3 (by exact e0.symm) ⟨rfl,rfl⟩ ⟨rfl,rfl⟩ ⟨rfl,rfl,rfl⟩ ⟨rfl,rfl,rfl,rfl,rfl⟩ ⟨by rw [hnn]; exact Bool.and_false _,rfl,rfl,rfl,rfl⟩ ⟨by exact hgn.trans hg3.symm,by exact hgn.trans hg3.symm⟩ ⟨rfl,rfl⟩ ⟨by exact rfl,rfl⟩
  have hf2 : A6 s.line≠2:=by
   have hb : (fo == 2) = false:=by subst hD; exact hb
   rw [EF.h] at hb
   simpa using hb
  have hf01 : A6 s.line = 0∨A6 s.line = 1:=by
   rcases Pz s.line with h | h | h | h
   ·exact .inl h
   ·exact .inr h
   ·exact absurd h hf2
   ·exact absurd h h3
  clear hb
  refine br hD (fun hb=>?_) (fun hb=>?_)<;>cbv
  ·have hb : (decide (0≤r) && (nl == 8)) = true:=by subst hD; exact hb
   rw [Bool.and_eq_true,decide_eq_true_eq,beq_iff_eq] at hb
   have em : e = 3:=herr 3 hns (more_8 hf01 (by rw [hd]; exact hb.1) (by have:=VN.h; omega)) (by decide)
   rw [hL1 (by rw [em]; decide)]
   subst hD
   exact Dh em.symm
  have h8 : ¬ (0≤r∧nl = 8):=by
   have hb : (decide (0≤r) && (nl == 8)) = false:=by subst hD; exact hb
   rintro ⟨h1,h2⟩
   rw [h2] at hb
   simp [h1] at hb
  clear hb
  refine br hD (fun hb=>?_) (fun hb=>?_)<;>cbv
  ·have hb : decide (0≤r) = true:=by subst hD; exact hb
   rw [decide_eq_true_eq] at hb
   have hdg : 0≤D7 c:=by rw [hd]; exact hb
   have hn8 : s.line.length≠8:=fun h=>h8 ⟨hb,by have:=VN.h; omega⟩
   have hall:=(Nn hf01).2
   have hszw : IntKind.i64.wrap (IntKind.i64.wrap (16 * sz) + r) = 16 * sz + r:=by
    have h1:=VS.h
    have h2:=HV.h
    have h3:=Ad5 c
    have e1 : IntKind.i64.wrap (16 * sz) = 16 * sz:=Bl (by omega) (by omega)
    rw [e1]
    exact Bl (by omega) (by omega)
   have ESZ : EqI (IntKind.i64.wrap (IntKind.i64.wrap (16 * sz) + r)) (16 * sz + r):=⟨hszw⟩
   clear hb hszw
   refine br hD (fun hb=>?_) (fun hb=>?_)<;>cbv
   ·have hb : decide (200≤nl) = true:=by subst hD; exact hb
    have h200 : 200≤s.line.length:=by rw [decide_eq_true_eq] at hb; have:=VN.h; omega
    have em : e = 3:=herr 3 hns (by rw [Yu hf01 hdg hn8,if_pos h200]) (by decide)
    rw [hL1 (by rw [em]; decide)]
    subst hD
    exact Dh em.symm
   ·have hb : decide (200≤nl) = false:=by subst hD; exact hb
    have h200 : ¬ 200≤s.line.length:=by rw [decide_eq_false_iff_not] at hb; have:=VN.h; omega
    intro f3 hf3
    cbv
    refine ⟨by subst hD; exact ⟨rfl,by show (nl + 1) * 1≤_; rw [VN.h]; have:=HL.h; omega,by show nl + 1≤_; rw [VN.h]; have:=HL.h; omega⟩,by subst hD; exact ⟨rfl⟩,fun f4 n4 hm g4 hg4=>?_⟩
    cbv
    have h30 : f3 0 = [.int .u8 (.a (c.toNat : Int))]:=by rw [hf3.h 0 _ rfl]; subst hD; rfl
    have R4 : A8 f4 n4 (s.line ++ [c]):=V.li.more (g:=f3) (u:=[c]) rfl (row1 h30) (by subst hD; exact hm)
    have hgn : g4 = g + 1:=by subst hD; exact hg4.h
    clear hm hf3 hg4
    obtain ⟨e0,es⟩:=hok hns (by rw [Yu hf01 hdg hn8,if_neg h200])
    obtain ⟨p3,l3,nn3,nl3,g3,nf3,fo3,sz3,rfl,V3,N3⟩:=hL2 e0
    have V2 : D9 s' ph lf tl tf dl df n4 f4 1 (16 * sz + r):=by rw [es]; exact ⟨V.eph.trans hp,V.elf,V.tr,V.da,R4,by rw [if_pos rfl]; exact (Zl hall hdg).1.symm,by rw [if_pos rfl]; exact by rw [(Zl hall hdg).2]; have:=VS.h; omega⟩
    have hnn : nn3 = false:=by have:=N3.en; rw [if_neg (by omega),es] at this; rw [this]; simp
    have hg3 : g3 = g + 1:=by have:=N3.eg; rw [if_neg (by omega),es,if_neg (by show ¬ (0 : Int) = 4; decide)] at this; exact this
    subst hD
    exact It V2 V3 (by exact e0.symm) ⟨rfl,rfl⟩ ⟨rfl,rfl⟩ ⟨rfl,rfl,rfl⟩ ⟨rfl,rfl,rfl,rfl,rfl⟩ ⟨by rw [hnn]; exact Bool.and_false _,rfl,rfl,rfl,rfl⟩ ⟨by exact hgn.trans hg3.symm,by exact hgn.trans hg3.symm⟩ ⟨rfl,rfl⟩ ⟨by exact ESZ.h,rfl⟩
  have hdn : D7 c < 0:=by
   have hb : decide (0≤r) = false:=by subst hD; exact hb
   rw [decide_eq_false_iff_not] at hb
   rw [hd]; omega
  clear hb
  refine br hD (fun hb=>?_) (fun hb=>?_)<;>cbv
  ·have hb : (((c.toNat : Int) == 59) && (fo == 1)) = true:=by subst hD; exact hb
   rw [show ((c.toNat : Int) == 59) = (c == 59) from eqB c 59,EF.h,Bool.and_eq_true,beq_iff_eq,beq_iff_eq] at hb
   obtain ⟨hc,hf1⟩:=hb
   have hne : ¬ ((A3 s.line).1 = s.line.length∧0≤D7 c):=fun h=>by omega
   have hc13 : c≠13:=by rw [hc]; decide
   refine br hD (fun hb=>?_) (fun hb=>?_)<;>cbv
   ·have hb : decide (200≤nl) = true:=by subst hD; exact hb
    have h200 : 200≤s.line.length:=by rw [decide_eq_true_eq] at hb; have:=VN.h; omega
    have em : e = 3:=herr 3 hns (by rw [hc,K5 hLO hf1,if_pos h200]) (by decide)
    rw [hL1 (by rw [em]; decide)]
    subst hD
    exact Dh em.symm
   ·have hb : decide (200≤nl) = false:=by subst hD; exact hb
    have h200 : ¬ 200≤s.line.length:=by rw [decide_eq_false_iff_not] at hb; have:=VN.h; omega
    intro f3 hf3
    cbv
    refine ⟨by subst hD; exact ⟨rfl,by show (nl + 1) * 1≤_; rw [VN.h]; have:=HL.h; omega,by show nl + 1≤_; rw [VN.h]; have:=HL.h; omega⟩,by subst hD; exact ⟨rfl⟩,fun f4 n4 hm g4 hg4=>?_⟩
    cbv
    have h30 : f3 0 = [.int .u8 (.a (c.toNat : Int))]:=by rw [hf3.h 0 _ rfl]; subst hD; rfl
    have R4 : A8 f4 n4 (s.line ++ [c]):=V.li.more (g:=f3) (u:=[c]) rfl (row1 h30) (by subst hD; exact hm)
    have hgn : g4 = g + 1:=by subst hD; exact hg4.h
    clear hm hf3 hg4
    obtain ⟨e0,es⟩:=hok hns (by rw [hc,K5 hLO hf1,if_neg h200])
    obtain ⟨p3,l3,nn3,nl3,g3,nf3,fo3,sz3,rfl,V3,N3⟩:=hL2 e0
    have V2 : D9 s' ph lf tl tf dl df n4 f4 2 (sz):=by rw [es]; exact ⟨V.eph.trans hp,V.elf,V.tr,V.da,R4,by rw [if_pos rfl]; exact (Fx hne hc13).1.symm,by rw [if_pos rfl]; exact by rw [(Fx hne hc13).2]; exact VS.h⟩
    have hnn : nn3 = false:=by have:=N3.en; rw [if_neg (by omega),es] at this; rw [this]; simp
    have hg3 : g3 = g + 1:=by have:=N3.eg; rw [if_neg (by omega),es,if_neg (by show ¬ (0 : Int) = 4; decide)] at this; exact this
    subst hD
    exact It V2 V3 (by exact e0.symm) ⟨rfl,rfl⟩ ⟨rfl,rfl⟩ ⟨rfl,rfl,rfl⟩ ⟨rfl,rfl,rfl,rfl,rfl⟩ ⟨by rw [hnn]; exact Bool.and_false _,rfl,rfl,rfl,rfl⟩ ⟨by exact hgn.trans hg3.symm,by exact hgn.trans hg3.symm⟩ ⟨rfl,rfl⟩ ⟨by exact rfl,rfl⟩
  have hn59 : ¬ (c = 59∧A6 s.line = 1):=by
   have hb : (((c.toNat : Int) == 59) && (fo == 1)) = false:=by subst hD; exact hb
   rw [show ((c.toNat : Int) == 59) = (c == 59) from eqB c 59,EF.h] at hb
   rintro ⟨h1,h2⟩
   rw [h1,h2] at hb
   cases hb
  have hm6 : Ct s.line c = 6:=by
   by_cases h13 : c = 13
   ·have hf0 : A6 s.line = 0:=Decidable.byContradiction fun h=>hc0 ⟨h13,h⟩
    rw [h13,Qu hLO h3,if_pos hf0]
   ·exact Yv hf01 hdn h13 hn59
  have em : e = 6:=herr 6 hns (hm6) (by decide)
  rw [hL1 (by rw [em]; decide)]
  subst hD
  exact Dh em.symm
end Go.Proofs.YtdoogdbjiijifaaGreatDoor
