/- Part of the proofs of the statements about responses and messages (layers 9 and 10): a symbolic executor over the code, that it is sound, and contracts of functions; it has no conditions of its own. -/
import Derived.Test.YtdoogdbjiijifaaGreatDoorE3Pbg
import Derived.Test.YtdoogdbjiijifaaGreatDoorE3Pbc
namespace Go.Proofs.YtdoogdbjiijifaaGreatDoor
open Go Go.Sx
set_option maxRecDepth 100000
set_option maxHeartbeats 16000000
theorem Ad7:∀d:Fin 256,(if d.1<48\/(57<d.1/\d.1<65) then (-1:Int) else Lib.indexByte Alx (UInt8.ofNat (Et .or .u8 (d.1:Int) 32).toNat))=El (UInt8.ofNat d.1):=by decide +kernel
theorem Ail:∀d:Fin 256,0<=Et .or .u8 (d.1:Int) 32/\Et .or .u8 (d.1:Int) 32<=255:=by decide +kernel
theorem hex_at(c:UInt8):(if c.toNat<48\/(57<c.toNat/\c.toNat<65) then (-1:Int) else Lib.indexByte Alx (UInt8.ofNat (Et .or .u8 (c.toNat:Int) 32).toNat))=El c:=by
 have:=Ad7 ⟨c.toNat,c.toNat_lt⟩;have e:UInt8.ofNat c.toNat=c:=by simp
 rw[<-e];simpa using this
theorem Ir{f f':Nat->List SV}{n n':Int}{b b':BT}{l:List HF}(R:Bu f n l)(R':Bu f' n' l)(hb:b.den=b'.den){m m':ST}(hm:m.den=n)(hm':m'.den=n'):LeV (.sl b m 2 f) (.sl b' m' 2 f'):=by
 have h1:=R.n;have h2:=R'.n;exact LeV.sl hb (by rw[hm,hm',h1,h2]) λi hi=>by rw[hm]at hi;rw[R.f i (by omega),R'.f i (by omega)]
theorem Jo{s':Ch}{p l tl dl nl fo sz p' l' tl' dl' nl' fo' sz':Int}{tf df nf tf' df' nf':Nat->List SV}(V:En s' p l tl tf dl df nl nf fo sz)(V':En s' p' l' tl' tf' dl' df' nl' nf' fo' sz')
  {t t' ph ph' lf lf' tlt tlt' dlt dlt' dlu dlu' nlt nlt' nlu nlu' gt gt' gu gu' fot fot' szt szt':ST} {l0 d0:List UInt8} {tn tn' db db' nn nn':BT} {gr:Bool}
  (he:t.den=t'.den) (h1:ph.den=p/\ph'.den=p') (h2:lf.den=l/\lf'.den=l') (h3:tn.den=tn'.den/\tlt.den=tl/\tlt'.den=tl') (h4:db.den=db'.den/\dlt.den=dl/\dlt'.den=dl'/\dlu.den=dl/\dlu'.den=dl') (h5:nn.den=nn'.den/\nlt.den=nl/\nlt'.den=nl'/\nlu.den=nl/\nlu'.den=nl')
  (h6:gt.den=gt'.den/\gu.den=gu'.den) (h7:fot.den=fo/\fot'.den=fo') (h8:szt.den=sz/\szt'.den=sz'):
  Fin (.int .i64 t) (.int .i64 t') [.blk 220 [.int .i64 ph,.str l0,.str d0,.int .i64 lf,.sl tn tlt 2 tf,.osl db dlt 1,.vsl nn nlt gt 2,.int .i64 fot,.int .i64 szt],.own 5 dlu 1 gr df,.vec 5 nlu gu 1 nf]
   [.blk 220 [.int .i64 ph',.str l0,.str d0,.int .i64 lf',.sl tn' tlt' 2 tf',.osl db' dlt' 1,.vsl nn' nlt' gt' 2,.int .i64 fot',.int .i64 szt'],.own 5 dlu' 1 gr df',.vec 5 nlu' gu' 1 nf']:=by
 have d1:=V.da.n;have d2:=V'.da.n;have n1:=V.li.n;have n2:=V'.li.n;refine M8 he (by rw[h1.1,h1.2,V.eph,V'.eph]) (by rw[h2.1,h2.2,V.elf,V'.elf]) (Ir V.tr V'.tr h3.1 h3.2.1 h3.2.2) ⟨h4.1,by rw[h4.2.1,h4.2.2.1,d1,d2]⟩ ⟨h5.1,by rw[h5.2.1,h5.2.2.1,n1,n2],h6.1⟩ (by rw[h7.1,h7.2,V.efo,V'.efo]) (by rw[h8.1,h8.2,V.esz,V'.esz])
  ⟨by rw[h4.2.2.2.1,h4.2.2.2.2,d1,d2],λi hi=>?_⟩ ⟨by rw[h5.2.2.2.1,h5.2.2.2.2,n1,n2],h6.2,λi hi=>?_⟩
 ·rw[h4.2.2.2.1]at hi
  rw[V.da.f i (by omega),V'.da.f i (by omega)]
 ·rw[h5.2.2.2.1]at hi
  rw[V.li.f i (by omega),V'.li.f i (by omega)]
theorem Ai5{s:Ch}{c:UInt8}(hp:s.phase=0)(h:(chS s c).2=0):(chS s c).1.phase≠4/\(chS s c).1.trailers=s.trailers/\(chS s c).1.data=s.data:=by
 unfold chS at h ⊢;rw[if_pos hp]at h ⊢
 split at h
 ·rename_i g
  rw[if_pos g]
  split at h
  ·rename_i g2;rw[if_pos g2];exact⟨by simp,rfl,rfl⟩
  ·rename_i g2
   rw[if_neg g2]
   split at h
   ·cases h
   ·rename_i g3;rw[if_neg g3];exact⟨by simp,rfl,rfl⟩
 ·rename_i g
  rw[if_neg g]
  split at h
  ·rename_i g2;exact absurd h g2
  ·rename_i g2;rw[if_neg g2];exact⟨by simp,rfl,rfl⟩
theorem Af2(c:UInt8):(((c.toNat:Int) != 9)&&(decide ((c.toNat:Int)<32)||decide (126<(c.toNat:Int))))=!okB c:=by
 rw[Bool.eq_iff_iff];simp only[okB,Bool.and_eq_true,Bool.or_eq_true,bne_iff_ne,decide_eq_true_eq,Bool.not_eq_true',Bool.or_eq_false_iff,decide_eq_false_iff_not,Bool.and_eq_false_iff,ne_eq];omega
theorem W4:Ay Tryz.prog gl 186 (Kw 0):=by
 refine Ez (gh:=[]) mixed C6 (Ab (Al5 idxB_ok) (Bm Aj1 Ai)) Tryz.func186 (by kernel_rfl) (by kernel_rfl) ?_;intro xs ls K h;unfold Kw at h;obtain⟨s,c,ci,ph,lf,l0,d0,tn,tl,tf,db,dl,gr,df,nn,nl,g,nf,fo,sz,rfl,rfl,rfl,V,hp,hdb,hO,h⟩:=h;unfold Vc at h;have hkept:=Ai5 (c:=c) hp;have hline:=Ace (c:=c) hp;have hsize:=Acd hp;obtain⟨e,he⟩:∃e,e=(chS s c).2:=⟨_,rfl⟩;obtain⟨s',hs'⟩:∃s',s'=(chS s c).1:=⟨_,rfl⟩;have h:=h e he;rw[<-hs']at h;rw[<-he,<-hs']at hkept;obtain⟨L,hL1,hL2,hK⟩:∃L:List Hl,(e≠0->L=[.gone,.gone,.gone])/\(e=0->∃ph' lf' nn' nl' g' nf' fo' sz',L=[.blk 220 (rdC ph' l0 d0 lf' tn tl tf db dl nn' nl' g' fo' sz'),.own 5 (.a dl) 1 gr df,.vec 5 (.a nl') (.a g') 1 nf']/\
   En s' ph' lf' tl tf dl df nl' nf' fo' sz'/\Ajj s s' tn nn g tn nn' g' db)/\K (.int .i64 (.a e)) L:=by
  by_cases e0:e=0
  ·obtain⟨k1,k2,k3⟩:=hkept e0
   have V':En s' s'.phase s'.left tl tf dl df s'.line.length (byteRow s'.line) (if s'.phase=0 then Bd s'.line else 0) (if s'.phase=0 then ((A8 s'.line).2:Int) else 0):=⟨rfl,rfl,by rw[k2];exact V.tr,by rw[k3];exact V.da,⟨rfl,λi _=>rfl⟩,rfl,rfl⟩;have N':Ajj s s' tn nn g tn s'.line.isEmpty (g+1) db:=⟨hdb,by rw[if_neg k1],by rw[if_neg (by omega)],by rw[if_neg (by omega),if_neg k1]⟩;exact⟨_,λh=>absurd e0 h,λ_=>⟨_,_,_,_,_,_,_,_,rfl,V',N'⟩,h.2 e0 _ _ _ _ _ _ _ _ _ _ _ _ _ _ V' N'⟩
  ·exact⟨_,λ_=>rfl,λh=>absurd h e0,h.1 e0⟩
 have hfo:fo=Bd s.line:=by have:=V.efo;rwa [if_pos hp]at this
 have hsz:sz=((A8 s.line).2:Int):=by have:=V.esz;rwa [if_pos hp]at this
 have hLO:=hO.p0 hp;have hv:=T8 hLO;have hsl:=Q4 hLO;have hnl:nl=s.line.length:=V.li.n;have hll:s.line.length<=1000000:=by have:=Ua hLO;omega
 have VN:VI nl s.line.length:=⟨hnl⟩;have HL:LeN s.line.length 1000000:=⟨hll⟩;have VS:VI sz (A8 s.line).2:=⟨hsz⟩;have HV:LeN (A8 s.line).2 4294967295:=⟨by omega⟩;have EF:EqI fo (Bd s.line):=⟨hfo⟩;have hat:=hex_at c
 -- what a step within the line answers
 have herr:∀v:Int,¬(c=10/\C2 s.line=true)->C5 s.line c=v->v≠0->e=v:=λv h1 h2 h3=>by
  rw[he,hline h1,h2,if_pos h3]
 have hok:¬(c=10/\C2 s.line=true)->C5 s.line c=0->e=0/\s'=⟨0,s.line++[c],s.data,s.left,s.trailers⟩:=λh1 h2=>by
  rw[he,hs',hline h1,h2,if_neg (by simp)];exact⟨rfl,rfl⟩
 clear hline hsz hnl hll hv hfo h hkept;refine⟨_,_,hK,λD hD=>?_⟩;clear hK;cbv;refine⟨Alx,_,rfl,rfl,by subst hD;exact Ail ⟨c.toNat,c.toNat_lt⟩,λr hr=>?_⟩;cbv;refine br hD (λhb=>?_) (λhb=>?_)<;>cbv
 ·have hb:(decide ((c.toNat:Int)<48)||(decide (57<(c.toNat:Int))&&decide ((c.toNat:Int)<65)))=true:=by subst hD;exact hb
  have hd:El c=-1:=by
   rw[<-hat,if_pos];simp only[Bool.or_eq_true,Bool.and_eq_true,decide_eq_true_eq]at hb;omega
  clear hb hat hr;refine br hD (λhb=>?_) (λhb=>?_)<;>cbv
  ·have hb:((fo==3)&&((c.toNat:Int)==10))=true:=by subst hD;exact hb
   have h13:c=10/\C2 s.line=true:=by
    rw[Bool.and_eq_true,beq_iff_eq]at hb;have e10:=eqB c 10;have h2:=hb.2;rw[show ((c.toNat:Int)==10)=(c==10) from e10,beq_iff_eq]at h2;exact⟨h2,L4.1 (by rw[<-EF.h];exact hb.1)⟩
   refine⟨s,D.i (.a ph),D.i (.a lf),l0,d0,D.b (.a tn),D.i (.a tl),tf,D.b (.a db),D.i (.a dl),gr,df,D.b (.a nn),D.i (.a nl),D.i (.a g),nf,D.i (.a fo),D.i (.a sz),rfl,rfl,by subst hD;exact V,hp,by subst hD;exact hdb,h13.2,hO,λe2 he2=>⟨λhne=>?_,λh0 ph2 lf2 tn2 tl2 tf2 db2 dl2 df2 nn2 nl2 g2 nf2 fo2 sz2 V2 N2=>?_⟩⟩<;>cbv
   ·have ee:e=e2:=by rw[he,he2,h13.1]
    rw[hL1 (by rw[ee];exact hne)];subst hD;exact Dt ee.symm
   ·have ee:e=e2:=by rw[he,he2,h13.1]
    obtain⟨p3,l3,nn3,nl3,g3,nf3,fo3,sz3,rfl,V3,N3⟩:=hL2 (by rw[ee];exact h0);have es:s'=(chS s 10).1:=by rw[hs',h13.1]
    rw[<-es]at V2 N2;subst hD;exact Jo V2 V3 (by exact ee.symm) ⟨rfl,rfl⟩ ⟨rfl,rfl⟩ ⟨by exact N2.et.trans N3.et.symm,rfl,rfl⟩ ⟨by exact N2.ed.trans N3.ed.symm,rfl,rfl,rfl,rfl⟩ ⟨by exact N2.en.trans N3.en.symm,rfl,rfl,rfl,rfl⟩ ⟨by exact N2.eg.trans N3.eg.symm,by exact N2.eg.trans N3.eg.symm⟩ ⟨rfl,rfl⟩ ⟨rfl,rfl⟩
  have hb:((fo==3)&&((c.toNat:Int)==10))=false:=by subst hD;exact hb
  have hns:¬(c=10/\C2 s.line=true):=by
   rintro⟨h1,h2⟩;rw[EF.h,L4.2 h2,h1]at hb;cases hb
  clear hb;refine br hD (λhb=>?_) (λhb=>?_)<;>cbv
  ·have hb:(fo==3)=true:=by subst hD;exact hb
   rw[EF.h,beq_iff_eq]at hb;have em:e=6:=herr 6 hns (Aau hb) (by decide);rw[hL1 (by rw[em];decide)];subst hD;exact Dt em.symm
  have h3:Bd s.line≠3:=by
   have hb:(fo==3)=false:=by subst hD;exact hb
   rw[EF.h]at hb;simpa using hb
  clear hb;refine br hD (λhb=>?_) (λhb=>?_)<;>cbv
  ·have hb:(((c.toNat:Int)==13)&&(fo != 0))=true:=by subst hD;exact hb
   rw[show ((c.toNat:Int)==13)=(c==13) from eqB c 13,EF.h,Bool.and_eq_true,beq_iff_eq,bne_iff_ne]at hb;obtain⟨hc,hf0⟩:=hb;intro f3 hf3;cbv;refine⟨by subst hD;exact⟨rfl,by show (nl+1) * 1<=_;rw[VN.h];have:=HL.h;omega,by show nl+1<=_;rw[VN.h];have:=HL.h;omega⟩,by subst hD;exact⟨rfl⟩,λf4 n4 hm g4 hg4=>?_⟩;cbv;have h30:f3 0=[.int .u8 (.a (c.toNat:Int))]:=by rw[hf3.h 0 _ rfl];subst hD;rfl
   have R4:A7 f4 n4 (s.line++[c]):=V.li.more (g:=f3) (u:=[c]) rfl (row1 h30) (by subst hD;exact hm);have hgn:g4=g+1:=by subst hD;exact hg4.h
   clear hm hf3 hg4;obtain⟨e0,es⟩:=hok hns (by rw[hc,Sd hLO h3,if_neg hf0]);obtain⟨p3,l3,nn3,nl3,g3,nf3,fo3,sz3,rfl,V3,N3⟩:=hL2 e0;have V2:En s' ph lf tl tf dl df n4 f4 3 (sz):=by rw[es];exact⟨V.eph.trans hp,V.elf,V.tr,V.da,R4,by rw[if_pos rfl];exact by rw[hc];exact (Sf s.line).1.symm,by rw[if_pos rfl];exact by rw[hc];show sz=_;rw[(Sf s.line).2];exact VS.h⟩
   have hnn:nn3=false:=by have:=N3.en;rw[if_neg (by omega),es]at this;rw[this];simp
   have hg3:g3=g+1:=by have:=N3.eg;rw[if_neg (by omega),es,if_neg (by show ¬(0:Int)=4;decide)]at this;exact this
   subst hD;exact Jo V2 V3 (by exact e0.symm) ⟨rfl,rfl⟩ ⟨rfl,rfl⟩ ⟨rfl,rfl,rfl⟩ ⟨rfl,rfl,rfl,rfl,rfl⟩ ⟨by rw[hnn];exact Bool.and_false _,rfl,rfl,rfl,rfl⟩ ⟨by exact hgn.trans hg3.symm,by exact hgn.trans hg3.symm⟩ ⟨rfl,rfl⟩ ⟨by exact rfl,rfl⟩
  have hc0:¬(c=13/\Bd s.line≠0):=by
   have hb:(((c.toNat:Int)==13)&&(fo != 0))=false:=by subst hD;exact hb
   rw[show ((c.toNat:Int)==13)=(c==13) from eqB c 13,EF.h]at hb;rintro⟨h1,h2⟩;rw[h1]at hb;simp[h2]at hb
  clear hb;refine br hD (λhb=>?_) (λhb=>?_)<;>cbv
  ·have hb:(fo==2)=true:=by subst hD;exact hb
   rw[EF.h,beq_iff_eq]at hb;have hf2:=hb;clear hb;have hc13:c≠13:=λh=>hc0 ⟨h,by rw[hf2];decide⟩;refine br hD (λhb=>?_) (λhb=>?_)<;>cbv
   ·have hb:(((c.toNat:Int) != 9)&&(decide ((c.toNat:Int)<32)||decide (126<(c.toNat:Int))))=true:=by subst hD;exact hb
    rw[Af2]at hb;have em:e=6:=herr 6 hns (by rw[Jg hf2 hc13,if_pos hb]) (by decide);rw[hL1 (by rw[em];decide)];subst hD;exact Dt em.symm
   have hb:(((c.toNat:Int) != 9)&&(decide ((c.toNat:Int)<32)||decide (126<(c.toNat:Int))))=false:=by subst hD;exact hb
   rw[Af2]at hb;have hk:¬(!okB c)=true:=by rw[hb];decide
   have hne:¬((A8 s.line).1=s.line.length/\0<=El c):=λh=>(Y0 hf2).2.2 h.1;clear hb;refine br hD (λhb=>?_) (λhb=>?_)<;>cbv
   ·have hb:decide (200<=nl)=true:=by subst hD;exact hb
    have h200:200<=s.line.length:=by rw[decide_eq_true_eq]at hb;have:=VN.h;omega
    have em:e=3:=herr 3 hns (by rw[Jg hf2 hc13,if_neg hk,if_pos h200]) (by decide);rw[hL1 (by rw[em];decide)];subst hD;exact Dt em.symm
   ·have hb:decide (200<=nl)=false:=by subst hD;exact hb
    have h200:¬200<=s.line.length:=by rw[decide_eq_false_iff_not]at hb;have:=VN.h;omega
    intro f3 hf3;cbv;refine⟨by subst hD;exact⟨rfl,by show (nl+1) * 1<=_;rw[VN.h];have:=HL.h;omega,by show nl+1<=_;rw[VN.h];have:=HL.h;omega⟩,by subst hD;exact⟨rfl⟩,λf4 n4 hm g4 hg4=>?_⟩;cbv;have h30:f3 0=[.int .u8 (.a (c.toNat:Int))]:=by rw[hf3.h 0 _ rfl];subst hD;rfl
    have R4:A7 f4 n4 (s.line++[c]):=V.li.more (g:=f3) (u:=[c]) rfl (row1 h30) (by subst hD;exact hm);have hgn:g4=g+1:=by subst hD;exact hg4.h
    clear hm hf3 hg4;obtain⟨e0,es⟩:=hok hns (by rw[Jg hf2 hc13,if_neg hk,if_neg h200]);obtain⟨p3,l3,nn3,nl3,g3,nf3,fo3,sz3,rfl,V3,N3⟩:=hL2 e0;have V2:En s' ph lf tl tf dl df n4 f4 fo (sz):=by rw[es];exact⟨V.eph.trans hp,V.elf,V.tr,V.da,R4,by rw[if_pos rfl];exact by rw[(Gc hne hc13).1,EF.h,hf2],by rw[if_pos rfl];exact by rw[(Gc hne hc13).2];exact VS.h⟩
    have hnn:nn3=false:=by have:=N3.en;rw[if_neg (by omega),es]at this;rw[this];simp
    have hg3:g3=g+1:=by have:=N3.eg;rw[if_neg (by omega),es,if_neg (by show ¬(0:Int)=4;decide)]at this;exact this
    subst hD;exact Jo V2 V3 (by exact e0.symm) ⟨rfl,rfl⟩ ⟨rfl,rfl⟩ ⟨rfl,rfl,rfl⟩ ⟨rfl,rfl,rfl,rfl,rfl⟩ ⟨by rw[hnn];exact Bool.and_false _,rfl,rfl,rfl,rfl⟩ ⟨by exact hgn.trans hg3.symm,by exact hgn.trans hg3.symm⟩ ⟨rfl,rfl⟩ ⟨by exact rfl,rfl⟩
  have hf2:Bd s.line≠2:=by
   have hb:(fo==2)=false:=by subst hD;exact hb
   rw[EF.h]at hb;simpa using hb
  have hf01:Bd s.line=0\/Bd s.line=1:=by
   rcases Q9 s.line with h|h|h|h
   ·exact .inl h
   ·exact .inr h
   ·exact absurd h hf2
   ·exact absurd h h3
  clear hb;have hdn:El c<0:=by rw[hd];decide
  refine br hD (λhb=>?_) (λhb=>?_)<;>cbv
  ·have hb:(((c.toNat:Int)==59)&&(fo==1))=true:=by subst hD;exact hb
   rw[show ((c.toNat:Int)==59)=(c==59) from eqB c 59,EF.h,Bool.and_eq_true,beq_iff_eq,beq_iff_eq]at hb;obtain⟨hc,hf1⟩:=hb;have hne:¬((A8 s.line).1=s.line.length/\0<=El c):=λh=>by omega
   have hc13:c≠13:=by rw[hc];decide
   refine br hD (λhb=>?_) (λhb=>?_)<;>cbv
   ·have hb:decide (200<=nl)=true:=by subst hD;exact hb
    have h200:200<=s.line.length:=by rw[decide_eq_true_eq]at hb;have:=VN.h;omega
    have em:e=3:=herr 3 hns (by rw[hc,L3 hLO hf1,if_pos h200]) (by decide);rw[hL1 (by rw[em];decide)];subst hD;exact Dt em.symm
   ·have hb:decide (200<=nl)=false:=by subst hD;exact hb
    have h200:¬200<=s.line.length:=by rw[decide_eq_false_iff_not]at hb;have:=VN.h;omega
    intro f3 hf3;cbv;refine⟨by subst hD;exact⟨rfl,by show (nl+1) * 1<=_;rw[VN.h];have:=HL.h;omega,by show nl+1<=_;rw[VN.h];have:=HL.h;omega⟩,by subst hD;exact⟨rfl⟩,λf4 n4 hm g4 hg4=>?_⟩;cbv;have h30:f3 0=[.int .u8 (.a (c.toNat:Int))]:=by rw[hf3.h 0 _ rfl];subst hD;rfl
    have R4:A7 f4 n4 (s.line++[c]):=V.li.more (g:=f3) (u:=[c]) rfl (row1 h30) (by subst hD;exact hm);have hgn:g4=g+1:=by subst hD;exact hg4.h
    clear hm hf3 hg4;obtain⟨e0,es⟩:=hok hns (by rw[hc,L3 hLO hf1,if_neg h200]);obtain⟨p3,l3,nn3,nl3,g3,nf3,fo3,sz3,rfl,V3,N3⟩:=hL2 e0;have V2:En s' ph lf tl tf dl df n4 f4 2 (sz):=by rw[es];exact⟨V.eph.trans hp,V.elf,V.tr,V.da,R4,by rw[if_pos rfl];exact (Gc hne hc13).1.symm,by rw[if_pos rfl];exact by rw[(Gc hne hc13).2];exact VS.h⟩
    have hnn:nn3=false:=by have:=N3.en;rw[if_neg (by omega),es]at this;rw[this];simp
    have hg3:g3=g+1:=by have:=N3.eg;rw[if_neg (by omega),es,if_neg (by show ¬(0:Int)=4;decide)]at this;exact this
    subst hD;exact Jo V2 V3 (by exact e0.symm) ⟨rfl,rfl⟩ ⟨rfl,rfl⟩ ⟨rfl,rfl,rfl⟩ ⟨rfl,rfl,rfl,rfl,rfl⟩ ⟨by rw[hnn];exact Bool.and_false _,rfl,rfl,rfl,rfl⟩ ⟨by exact hgn.trans hg3.symm,by exact hgn.trans hg3.symm⟩ ⟨rfl,rfl⟩ ⟨by exact rfl,rfl⟩
  have hn59:¬(c=59/\Bd s.line=1):=by
   have hb:(((c.toNat:Int)==59)&&(fo==1))=false:=by subst hD;exact hb
   rw[show ((c.toNat:Int)==59)=(c==59) from eqB c 59,EF.h]at hb;rintro⟨h1,h2⟩;rw[h1,h2]at hb;cases hb
  have hm6:C5 s.line c=6:=by
   by_cases h13:c=13
   ·have hf0:Bd s.line=0:=Decidable.byContradiction λh=>hc0 ⟨h13,h⟩
    rw[h13,Sd hLO h3,if_pos hf0]
   ·exact Aaw hf01 hdn h13 hn59
  have em:e=6:=herr 6 hns (hm6) (by decide);rw[hL1 (by rw[em];decide)];subst hD;exact Dt em.symm
 ·have hb:(decide ((c.toNat:Int)<48)||(decide (57<(c.toNat:Int))&&decide ((c.toNat:Int)<65)))=false:=by subst hD;exact hb
  have hd:El c=r:=by
   rw[hr,<-hat,if_neg]
   ·subst hD;rfl
   ·rintro h
    simp only[Bool.or_eq_false_iff,Bool.and_eq_false_iff,decide_eq_false_iff_not]at hb;omega
  clear hb hat hr;refine br hD (λhb=>?_) (λhb=>?_)<;>cbv
  ·have hb:((fo==3)&&((c.toNat:Int)==10))=true:=by subst hD;exact hb
   have h13:c=10/\C2 s.line=true:=by
    rw[Bool.and_eq_true,beq_iff_eq]at hb;have e10:=eqB c 10;have h2:=hb.2;rw[show ((c.toNat:Int)==10)=(c==10) from e10,beq_iff_eq]at h2;exact⟨h2,L4.1 (by rw[<-EF.h];exact hb.1)⟩
   refine⟨s,D.i (.a ph),D.i (.a lf),l0,d0,D.b (.a tn),D.i (.a tl),tf,D.b (.a db),D.i (.a dl),gr,df,D.b (.a nn),D.i (.a nl),D.i (.a g),nf,D.i (.a fo),D.i (.a sz),rfl,rfl,by subst hD;exact V,hp,by subst hD;exact hdb,h13.2,hO,λe2 he2=>⟨λhne=>?_,λh0 ph2 lf2 tn2 tl2 tf2 db2 dl2 df2 nn2 nl2 g2 nf2 fo2 sz2 V2 N2=>?_⟩⟩<;>cbv
   ·have ee:e=e2:=by rw[he,he2,h13.1]
    rw[hL1 (by rw[ee];exact hne)];subst hD;exact Dt ee.symm
   ·have ee:e=e2:=by rw[he,he2,h13.1]
    obtain⟨p3,l3,nn3,nl3,g3,nf3,fo3,sz3,rfl,V3,N3⟩:=hL2 (by rw[ee];exact h0);have es:s'=(chS s 10).1:=by rw[hs',h13.1]
    rw[<-es]at V2 N2;subst hD;exact Jo V2 V3 (by exact ee.symm) ⟨rfl,rfl⟩ ⟨rfl,rfl⟩ ⟨by exact N2.et.trans N3.et.symm,rfl,rfl⟩ ⟨by exact N2.ed.trans N3.ed.symm,rfl,rfl,rfl,rfl⟩ ⟨by exact N2.en.trans N3.en.symm,rfl,rfl,rfl,rfl⟩ ⟨by exact N2.eg.trans N3.eg.symm,by exact N2.eg.trans N3.eg.symm⟩ ⟨rfl,rfl⟩ ⟨rfl,rfl⟩
  have hb:((fo==3)&&((c.toNat:Int)==10))=false:=by subst hD;exact hb
  have hns:¬(c=10/\C2 s.line=true):=by
   rintro⟨h1,h2⟩;rw[EF.h,L4.2 h2,h1]at hb;cases hb
  clear hb;refine br hD (λhb=>?_) (λhb=>?_)<;>cbv
  ·have hb:(fo==3)=true:=by subst hD;exact hb
   rw[EF.h,beq_iff_eq]at hb;have em:e=6:=herr 6 hns (Aau hb) (by decide);rw[hL1 (by rw[em];decide)];subst hD;exact Dt em.symm
  have h3:Bd s.line≠3:=by
   have hb:(fo==3)=false:=by subst hD;exact hb
   rw[EF.h]at hb;simpa using hb
  clear hb;refine br hD (λhb=>?_) (λhb=>?_)<;>cbv
  ·have hb:(((c.toNat:Int)==13)&&(fo != 0))=true:=by subst hD;exact hb
   rw[show ((c.toNat:Int)==13)=(c==13) from eqB c 13,EF.h,Bool.and_eq_true,beq_iff_eq,bne_iff_ne]at hb;obtain⟨hc,hf0⟩:=hb;intro f3 hf3;cbv;refine⟨by subst hD;exact⟨rfl,by show (nl+1) * 1<=_;rw[VN.h];have:=HL.h;omega,by show nl+1<=_;rw[VN.h];have:=HL.h;omega⟩,by subst hD;exact⟨rfl⟩,λf4 n4 hm g4 hg4=>?_⟩;cbv;have h30:f3 0=[.int .u8 (.a (c.toNat:Int))]:=by rw[hf3.h 0 _ rfl];subst hD;rfl
   have R4:A7 f4 n4 (s.line++[c]):=V.li.more (g:=f3) (u:=[c]) rfl (row1 h30) (by subst hD;exact hm);have hgn:g4=g+1:=by subst hD;exact hg4.h
   clear hm hf3 hg4;obtain⟨e0,es⟩:=hok hns (by rw[hc,Sd hLO h3,if_neg hf0]);obtain⟨p3,l3,nn3,nl3,g3,nf3,fo3,sz3,rfl,V3,N3⟩:=hL2 e0;have V2:En s' ph lf tl tf dl df n4 f4 3 (sz):=by rw[es];exact⟨V.eph.trans hp,V.elf,V.tr,V.da,R4,by rw[if_pos rfl];exact by rw[hc];exact (Sf s.line).1.symm,by rw[if_pos rfl];exact by rw[hc];show sz=_;rw[(Sf s.line).2];exact VS.h⟩
   have hnn:nn3=false:=by have:=N3.en;rw[if_neg (by omega),es]at this;rw[this];simp
   have hg3:g3=g+1:=by have:=N3.eg;rw[if_neg (by omega),es,if_neg (by show ¬(0:Int)=4;decide)]at this;exact this
   subst hD;exact Jo V2 V3 (by exact e0.symm) ⟨rfl,rfl⟩ ⟨rfl,rfl⟩ ⟨rfl,rfl,rfl⟩ ⟨rfl,rfl,rfl,rfl,rfl⟩ ⟨by rw[hnn];exact Bool.and_false _,rfl,rfl,rfl,rfl⟩ ⟨by exact hgn.trans hg3.symm,by exact hgn.trans hg3.symm⟩ ⟨rfl,rfl⟩ ⟨by exact rfl,rfl⟩
  have hc0:¬(c=13/\Bd s.line≠0):=by
   have hb:(((c.toNat:Int)==13)&&(fo != 0))=false:=by subst hD;exact hb
   rw[show ((c.toNat:Int)==13)=(c==13) from eqB c 13,EF.h]at hb;rintro⟨h1,h2⟩;rw[h1]at hb;simp[h2]at hb
  clear hb;refine br hD (λhb=>?_) (λhb=>?_)<;>cbv
  ·have hb:(fo==2)=true:=by subst hD;exact hb
   rw[EF.h,beq_iff_eq]at hb;have hf2:=hb;clear hb;have hc13:c≠13:=λh=>hc0 ⟨h,by rw[hf2];decide⟩;refine br hD (λhb=>?_) (λhb=>?_)<;>cbv
   ·have hb:(((c.toNat:Int) != 9)&&(decide ((c.toNat:Int)<32)||decide (126<(c.toNat:Int))))=true:=by subst hD;exact hb
    rw[Af2]at hb;have em:e=6:=herr 6 hns (by rw[Jg hf2 hc13,if_pos hb]) (by decide);rw[hL1 (by rw[em];decide)];subst hD;exact Dt em.symm
   have hb:(((c.toNat:Int) != 9)&&(decide ((c.toNat:Int)<32)||decide (126<(c.toNat:Int))))=false:=by subst hD;exact hb
   rw[Af2]at hb;have hk:¬(!okB c)=true:=by rw[hb];decide
   have hne:¬((A8 s.line).1=s.line.length/\0<=El c):=λh=>(Y0 hf2).2.2 h.1;clear hb;refine br hD (λhb=>?_) (λhb=>?_)<;>cbv
   ·have hb:decide (200<=nl)=true:=by subst hD;exact hb
    have h200:200<=s.line.length:=by rw[decide_eq_true_eq]at hb;have:=VN.h;omega
    have em:e=3:=herr 3 hns (by rw[Jg hf2 hc13,if_neg hk,if_pos h200]) (by decide);rw[hL1 (by rw[em];decide)];subst hD;exact Dt em.symm
   ·have hb:decide (200<=nl)=false:=by subst hD;exact hb
    have h200:¬200<=s.line.length:=by rw[decide_eq_false_iff_not]at hb;have:=VN.h;omega
    intro f3 hf3;cbv;refine⟨by subst hD;exact⟨rfl,by show (nl+1) * 1<=_;rw[VN.h];have:=HL.h;omega,by show nl+1<=_;rw[VN.h];have:=HL.h;omega⟩,by subst hD;exact⟨rfl⟩,λf4 n4 hm g4 hg4=>?_⟩;cbv;have h30:f3 0=[.int .u8 (.a (c.toNat:Int))]:=by rw[hf3.h 0 _ rfl];subst hD;rfl
    have R4:A7 f4 n4 (s.line++[c]):=V.li.more (g:=f3) (u:=[c]) rfl (row1 h30) (by subst hD;exact hm);have hgn:g4=g+1:=by subst hD;exact hg4.h
    clear hm hf3 hg4;obtain⟨e0,es⟩:=hok hns (by rw[Jg hf2 hc13,if_neg hk,if_neg h200]);obtain⟨p3,l3,nn3,nl3,g3,nf3,fo3,sz3,rfl,V3,N3⟩:=hL2 e0;have V2:En s' ph lf tl tf dl df n4 f4 fo (sz):=by rw[es];exact⟨V.eph.trans hp,V.elf,V.tr,V.da,R4,by rw[if_pos rfl];exact by rw[(Gc hne hc13).1,EF.h,hf2],by rw[if_pos rfl];exact by rw[(Gc hne hc13).2];exact VS.h⟩
    have hnn:nn3=false:=by have:=N3.en;rw[if_neg (by omega),es]at this;rw[this];simp
    have hg3:g3=g+1:=by have:=N3.eg;rw[if_neg (by omega),es,if_neg (by show ¬(0:Int)=4;decide)]at this;exact this
    subst hD;exact Jo V2 V3 (by exact e0.symm) ⟨rfl,rfl⟩ ⟨rfl,rfl⟩ ⟨rfl,rfl,rfl⟩ ⟨rfl,rfl,rfl,rfl,rfl⟩ ⟨by rw[hnn];exact Bool.and_false _,rfl,rfl,rfl,rfl⟩ ⟨by exact hgn.trans hg3.symm,by exact hgn.trans hg3.symm⟩ ⟨rfl,rfl⟩ ⟨by exact rfl,rfl⟩
  have hf2:Bd s.line≠2:=by
   have hb:(fo==2)=false:=by subst hD;exact hb
   rw[EF.h]at hb;simpa using hb
  have hf01:Bd s.line=0\/Bd s.line=1:=by
   rcases Q9 s.line with h|h|h|h
   ·exact .inl h
   ·exact .inr h
   ·exact absurd h hf2
   ·exact absurd h h3
  clear hb;refine br hD (λhb=>?_) (λhb=>?_)<;>cbv
  ·have hb:(decide (0<=r)&&(nl==8))=true:=by subst hD;exact hb
   rw[Bool.and_eq_true,decide_eq_true_eq,beq_iff_eq]at hb;have em:e=3:=herr 3 hns (more_8 hf01 (by rw[hd];exact hb.1) (by have:=VN.h;omega)) (by decide);rw[hL1 (by rw[em];decide)];subst hD;exact Dt em.symm
  have h8:¬(0<=r/\nl=8):=by
   have hb:(decide (0<=r)&&(nl==8))=false:=by subst hD;exact hb
   rintro⟨h1,h2⟩;rw[h2]at hb;simp[h1]at hb
  clear hb;refine br hD (λhb=>?_) (λhb=>?_)<;>cbv
  ·have hb:decide (0<=r)=true:=by subst hD;exact hb
   rw[decide_eq_true_eq]at hb;have hdg:0<=El c:=by rw[hd];exact hb
   have hn8:s.line.length≠8:=λh=>h8 ⟨hb,by have:=VN.h;omega⟩;have hall:=(Ox hf01).2;have hszw:IntKind.i64.wrap (IntKind.i64.wrap (16 * sz)+r)=16 * sz+r:=by
    have h1:=VS.h;have h2:=HV.h;have h3:=Agq c;have e1:IntKind.i64.wrap (16 * sz)=16 * sz:=A4 (by omega) (by omega);rw[e1];exact A4 (by omega) (by omega)
   have ESZ:EqI (IntKind.i64.wrap (IntKind.i64.wrap (16 * sz)+r)) (16 * sz+r):=⟨hszw⟩;clear hb hszw;refine br hD (λhb=>?_) (λhb=>?_)<;>cbv
   ·have hb:decide (200<=nl)=true:=by subst hD;exact hb
    have h200:200<=s.line.length:=by rw[decide_eq_true_eq]at hb;have:=VN.h;omega
    have em:e=3:=herr 3 hns (by rw[Aav hf01 hdg hn8,if_pos h200]) (by decide);rw[hL1 (by rw[em];decide)];subst hD;exact Dt em.symm
   ·have hb:decide (200<=nl)=false:=by subst hD;exact hb
    have h200:¬200<=s.line.length:=by rw[decide_eq_false_iff_not]at hb;have:=VN.h;omega
    intro f3 hf3;cbv;refine⟨by subst hD;exact⟨rfl,by show (nl+1) * 1<=_;rw[VN.h];have:=HL.h;omega,by show nl+1<=_;rw[VN.h];have:=HL.h;omega⟩,by subst hD;exact⟨rfl⟩,λf4 n4 hm g4 hg4=>?_⟩;cbv;have h30:f3 0=[.int .u8 (.a (c.toNat:Int))]:=by rw[hf3.h 0 _ rfl];subst hD;rfl
    have R4:A7 f4 n4 (s.line++[c]):=V.li.more (g:=f3) (u:=[c]) rfl (row1 h30) (by subst hD;exact hm);have hgn:g4=g+1:=by subst hD;exact hg4.h
    clear hm hf3 hg4;obtain⟨e0,es⟩:=hok hns (by rw[Aav hf01 hdg hn8,if_neg h200]);obtain⟨p3,l3,nn3,nl3,g3,nf3,fo3,sz3,rfl,V3,N3⟩:=hL2 e0;have V2:En s' ph lf tl tf dl df n4 f4 1 (16 * sz+r):=by rw[es];exact⟨V.eph.trans hp,V.elf,V.tr,V.da,R4,by rw[if_pos rfl];exact (Abp hall hdg).1.symm,by rw[if_pos rfl];exact by rw[(Abp hall hdg).2];have:=VS.h;omega⟩
    have hnn:nn3=false:=by have:=N3.en;rw[if_neg (by omega),es]at this;rw[this];simp
    have hg3:g3=g+1:=by have:=N3.eg;rw[if_neg (by omega),es,if_neg (by show ¬(0:Int)=4;decide)]at this;exact this
    subst hD;exact Jo V2 V3 (by exact e0.symm) ⟨rfl,rfl⟩ ⟨rfl,rfl⟩ ⟨rfl,rfl,rfl⟩ ⟨rfl,rfl,rfl,rfl,rfl⟩ ⟨by rw[hnn];exact Bool.and_false _,rfl,rfl,rfl,rfl⟩ ⟨by exact hgn.trans hg3.symm,by exact hgn.trans hg3.symm⟩ ⟨rfl,rfl⟩ ⟨by exact ESZ.h,rfl⟩
  have hdn:El c<0:=by
   have hb:decide (0<=r)=false:=by subst hD;exact hb
   rw[decide_eq_false_iff_not]at hb;rw[hd];omega
  clear hb;refine br hD (λhb=>?_) (λhb=>?_)<;>cbv
  ·have hb:(((c.toNat:Int)==59)&&(fo==1))=true:=by subst hD;exact hb
   rw[show ((c.toNat:Int)==59)=(c==59) from eqB c 59,EF.h,Bool.and_eq_true,beq_iff_eq,beq_iff_eq]at hb;obtain⟨hc,hf1⟩:=hb;have hne:¬((A8 s.line).1=s.line.length/\0<=El c):=λh=>by omega
   have hc13:c≠13:=by rw[hc];decide
   refine br hD (λhb=>?_) (λhb=>?_)<;>cbv
   ·have hb:decide (200<=nl)=true:=by subst hD;exact hb
    have h200:200<=s.line.length:=by rw[decide_eq_true_eq]at hb;have:=VN.h;omega
    have em:e=3:=herr 3 hns (by rw[hc,L3 hLO hf1,if_pos h200]) (by decide);rw[hL1 (by rw[em];decide)];subst hD;exact Dt em.symm
   ·have hb:decide (200<=nl)=false:=by subst hD;exact hb
    have h200:¬200<=s.line.length:=by rw[decide_eq_false_iff_not]at hb;have:=VN.h;omega
    intro f3 hf3;cbv;refine⟨by subst hD;exact⟨rfl,by show (nl+1) * 1<=_;rw[VN.h];have:=HL.h;omega,by show nl+1<=_;rw[VN.h];have:=HL.h;omega⟩,by subst hD;exact⟨rfl⟩,λf4 n4 hm g4 hg4=>?_⟩;cbv;have h30:f3 0=[.int .u8 (.a (c.toNat:Int))]:=by rw[hf3.h 0 _ rfl];subst hD;rfl
    have R4:A7 f4 n4 (s.line++[c]):=V.li.more (g:=f3) (u:=[c]) rfl (row1 h30) (by subst hD;exact hm);have hgn:g4=g+1:=by subst hD;exact hg4.h
    clear hm hf3 hg4;obtain⟨e0,es⟩:=hok hns (by rw[hc,L3 hLO hf1,if_neg h200]);obtain⟨p3,l3,nn3,nl3,g3,nf3,fo3,sz3,rfl,V3,N3⟩:=hL2 e0;have V2:En s' ph lf tl tf dl df n4 f4 2 (sz):=by rw[es];exact⟨V.eph.trans hp,V.elf,V.tr,V.da,R4,by rw[if_pos rfl];exact (Gc hne hc13).1.symm,by rw[if_pos rfl];exact by rw[(Gc hne hc13).2];exact VS.h⟩
    have hnn:nn3=false:=by have:=N3.en;rw[if_neg (by omega),es]at this;rw[this];simp
    have hg3:g3=g+1:=by have:=N3.eg;rw[if_neg (by omega),es,if_neg (by show ¬(0:Int)=4;decide)]at this;exact this
    subst hD;exact Jo V2 V3 (by exact e0.symm) ⟨rfl,rfl⟩ ⟨rfl,rfl⟩ ⟨rfl,rfl,rfl⟩ ⟨rfl,rfl,rfl,rfl,rfl⟩ ⟨by rw[hnn];exact Bool.and_false _,rfl,rfl,rfl,rfl⟩ ⟨by exact hgn.trans hg3.symm,by exact hgn.trans hg3.symm⟩ ⟨rfl,rfl⟩ ⟨by exact rfl,rfl⟩
  have hn59:¬(c=59/\Bd s.line=1):=by
   have hb:(((c.toNat:Int)==59)&&(fo==1))=false:=by subst hD;exact hb
   rw[show ((c.toNat:Int)==59)=(c==59) from eqB c 59,EF.h]at hb;rintro⟨h1,h2⟩;rw[h1,h2]at hb;cases hb
  have hm6:C5 s.line c=6:=by
   by_cases h13:c=13
   ·have hf0:Bd s.line=0:=Decidable.byContradiction λh=>hc0 ⟨h13,h⟩
    rw[h13,Sd hLO h3,if_pos hf0]
   ·exact Aaw hf01 hdn h13 hn59
  have em:e=6:=herr 6 hns (hm6) (by decide);rw[hL1 (by rw[em];decide)];subst hD;exact Dt em.symm
open Go Go.Sx Go.RowKit
set_option maxHeartbeats 8000000
def Asc(s:List UInt8):Prop:=∀b∈s,b.toNat<128
structure Ag4(s:List UInt8):Prop where
 a:Asc s
 len:s.length<=1000000
theorem Adu:∀d:Fin 256,Go.Lib.lowerB (UInt8.ofNat d.1)=Oz (UInt8.ofNat d.1):=by decide +kernel
theorem Aax(s:List UInt8):Go.Lib.toLowerA s=foldF s:=by
 unfold Go.Lib.toLowerA foldF;refine List.map_congr_left λb _=>?_;have:=Adu ⟨b.toNat,b.toNat_lt⟩;simpa using this
def spLower:FSpec:=λ_ xs ls K=>∃(s:List UInt8),xs=[.str s]/\ls=[]/\Ag4 s/\∀r,r=foldF s->K (.str r) []
theorem Alg:Ay Tryz.prog gl 195 spLower:=by
 refine⟨⟨Tryz.f195,_,Tryz.func195,rfl,by kernel_rfl⟩,λxs ls K h=>?_⟩;obtain⟨s,rfl,rfl,hs,h⟩:=h;refine⟨_,_,h _ rfl,Bx λE B w vals _ _ _ hr=>?_⟩;obtain⟨v,rfl,hv⟩:=Aab hr;rw[Dj hv];refine (Im ⟨s.toArray⟩ w (by have:=hs.len;show s.length<=_;omega) (λj b hj=>hs.a b (List.mem_of_getElem? hj))).mono ?_;rintro e w' ⟨rfl,hB⟩;refine⟨_,rfl,λE=>.ro (.str ?_),hB⟩;show Value.string _=Value.string _;rw[<-Aax];rfl
def Ai9(x:HF):Bool:=inF Lq (foldF x.name)
def spBad1:FSpec:=λ_ xs ls K=>∃(a b:List UInt8),xs=[.agg [.str a,.str b]]/\ls=[]/\Ag4 a/\∀r,r=Ai9 ⟨a,b⟩->K (.bool (.a r)) []
theorem bad1_ok:Ay Tryz.prog gl 194 spBad1:=by
 refine Bq (gh:=[]) mixed B4 (Ab Alg Ai) Tryz.func194 (by kernel_rfl) (by kernel_rfl) ?_;intro xs ls K h;unfold spBad1 at h;obtain⟨a,b,rfl,rfl,hs,h⟩:=h;obtain⟨k,hk⟩:∃k,k=Ai9 ⟨a,b⟩:=⟨_,rfl⟩;refine⟨_,_,h k hk,λD hD=>?_⟩;clear h;cbv;refine⟨a,rfl,rfl,hs,λt ht=>?_⟩;cbv;have hk:k=inF Lq t:=by rw[hk,ht];rfl
 clear ht;refine br hD (λh1=>?_) (λh1=>?_)<;>cbv
 ·refine Aw hD ?_
  have h1:(t==[99,111,110,110,101,99,116,105,111,110])=true:=h1;have h1:=eq_of_beq h1;rw[hk,h1];decide
 have n0:¬ [99,111,110,110,101,99,116,105,111,110]=t:=λe=>by
  have h1:(t==[99,111,110,110,101,99,116,105,111,110])=false:=h1;rw[e]at h1;simp at h1
 clear h1;refine br hD (λh1=>?_) (λh1=>?_)<;>cbv
 ·refine Aw hD ?_
  have h1:(t==[99,111,110,116,101,110,116,45,108,101,110,103,116,104])=true:=h1;have h1:=eq_of_beq h1;rw[hk,h1];decide
 have n1:¬ [99,111,110,116,101,110,116,45,108,101,110,103,116,104]=t:=λe=>by
  have h1:(t==[99,111,110,116,101,110,116,45,108,101,110,103,116,104])=false:=h1;rw[e]at h1;simp at h1
 clear h1;refine br hD (λh1=>?_) (λh1=>?_)<;>cbv
 ·refine Aw hD ?_
  have h1:(t==[104,111,115,116])=true:=h1;have h1:=eq_of_beq h1;rw[hk,h1];decide
 have n2:¬ [104,111,115,116]=t:=λe=>by
  have h1:(t==[104,111,115,116])=false:=h1;rw[e]at h1;simp at h1
 clear h1;refine br hD (λh1=>?_) (λh1=>?_)<;>cbv
 ·refine Aw hD ?_
  have h1:(t==[116,114,97,105,108,101,114])=true:=h1;have h1:=eq_of_beq h1;rw[hk,h1];decide
 have n3:¬ [116,114,97,105,108,101,114]=t:=λe=>by
  have h1:(t==[116,114,97,105,108,101,114])=false:=h1;rw[e]at h1;simp at h1
 clear h1;refine br hD (λh1=>?_) (λh1=>?_)<;>cbv
 ·refine Aw hD ?_
  have h1:(t==[116,114,97,110,115,102,101,114,45,101,110,99,111,100,105,110,103])=true:=h1;have h1:=eq_of_beq h1;rw[hk,h1];decide
 have n4:¬ [116,114,97,110,115,102,101,114,45,101,110,99,111,100,105,110,103]=t:=λe=>by
  have h1:(t==[116,114,97,110,115,102,101,114,45,101,110,99,111,100,105,110,103])=false:=h1;rw[e]at h1;simp at h1
 clear h1;refine Aw hD ?_;rw[hk];unfold Lq nTEnc;simp only[inF,beq_eq_false_iff_ne.2 n0,beq_eq_false_iff_ne.2 n1,beq_eq_false_iff_ne.2 n2,beq_eq_false_iff_ne.2 n3,beq_eq_false_iff_ne.2 n4,Bool.or_false];rfl
def Abf:List HF->Int->Int
 | [],_=>-1
 |x :: l,i=>if Ai9 x then i else Abf l (i+1)
theorem Abe:∀(l:List HF) (i:Int),0<=i->decide (0<=Abf l i)=We l
 | [],i,_=>rfl
 |x :: l,i,h=>by
  unfold Abf We;rw[List.any_cons];have e:inF Lq (foldF x.name)=Ai9 x:=rfl;rw[e]
  by_cases hb:Ai9 x=true
  ·rw[if_pos hb,hb];simpa using h
  ·rw[if_neg hb]
   have:Ai9 x=false:=by simpa using hb
   rw[this,Bool.false_or];exact Abe l (i+1) (by omega)
structure Ih(l:List HF):Prop where
 h:∀x∈l,Ag4 x.name
def spIdxT:FSpec:=λ_ xs ls K=>∃(l:List HF) (nl:Bool) (n:Int) (f:Nat->List SV),xs=[.sl (.a nl) (.a n) 2 f,.fn 194]/\ls=[]/\Bu f n l/\Ih l/\∀r,r=Abf l 0->K (.int .i64 (.a r)) []
def ixtJ(k:Int)(l:List HF)(nl:Bool)(n:Int)(f:Nat->List SV)(m:Nat)(vs:List (Option SV))(hp:List Hl):Prop :=
 ∃(i:Nat) (I:Int),vs=[some (.sl (.a nl) (.a n) 2 f),some (.fn 194),some (.int .i64 (.a n)),some (.int .i64 (.a I))]/\hp=[]/\AtR l i I m/\k=Abf (l.drop i) I
theorem idxT_ok:Ay Tryz.prog gl 246 spIdxT:=by
 refine Bq (gh:=[]) mixed B4 (Ab bad1_ok Ai) Tryz.func246 (by kernel_rfl) (by kernel_rfl) ?_;intro xs ls K h;unfold spIdxT at h;obtain⟨l,nl,n,f,rfl,rfl,R,hA,h⟩:=h;obtain⟨k,hk⟩:∃k,k=Abf l 0:=⟨_,rfl⟩;refine⟨_,_,h k hk,λD hD=>?_⟩;clear h;obtain⟨J,hJ⟩:∃J,J=ixtJ k l nl n f:=⟨_,rfl⟩;cbv;refine⟨[0,1,7,8],J,⟨rfl,l.length,?_⟩,?_⟩
 ·rw[hJ]
  subst hD;exact⟨0,0,rfl,rfl,AtR.zero R.len,hk⟩
 intro m vs hp hj;rw[hJ]at hj;obtain⟨i,I,rfl,rfl,V,hk2⟩:=hj;clear hk;cbv;refine br hD (λh=>?_) (λh=>?_)<;>cbv
 ·have hlt:=V.lt R.n (of_decide_eq_true (p:=I<n) h)
  clear h;refine⟨V.inB hD R.n hlt,λj hj=>?_⟩;obtain rfl:=V.j hD hj;clear hj;have e1:=R.f j hlt;have hmem:l.getD j default∈l:=by rw[List.getD_eq_getElem?_getD,List.getElem?_eq_getElem hlt];exact List.getElem_mem hlt
  have hsm:=hA.h _ hmem;rw[Kn (d:=default) hlt]at hk2;obtain⟨x,hx⟩:∃x,x=l.getD j default:=⟨_,rfl⟩;rw[<-hx]at e1 hk2 hsm;clear hmem;obtain⟨a,b⟩:=x;cbv;rw[e1];cbv;refine⟨a,b,rfl,rfl,hsm,λr hr=>?_⟩;cbv;unfold Abf at hk2;rw[<-hr]at hk2;clear hr;refine br hD (λh=>?_) (λh=>?_)<;>cbv
  ·have h:r=true:=h
   rw[if_pos h]at hk2;exact Be hD hk2.symm
  have h:¬r=true:=by have h:r=false:=h;rw[h];decide
  rw[if_neg h]at hk2;obtain⟨g1,g2⟩:=V.step hD hlt;refine⟨_,g1,?_⟩;rw[hJ];have e2:=V.I;have e3:=V.len;have e4:IntKind.i64.wrap (I+1)=I+1:=A4 (by omega) (by omega);subst hD;exact⟨j+1,_,rfl,rfl,g2,by rw[hk2];show _=Abf _ (IntKind.i64.wrap (I+1));rw[e4]⟩
 ·have hi:=V.eq R.n (of_decide_eq_false (p:=I<n) h)
  rw[hi,List.drop_length]at hk2;refine Be hD ?_;rw[hk2];rfl
def spHasT:FSpec:=λ_ xs ls K=>∃(l:List HF) (nl:Bool) (n:Int) (f:Nat->List SV),xs=[.sl (.a nl) (.a n) 2 f,.fn 194]/\ls=[]/\Bu f n l/\Ih l/\∀r,r=We l->K (.bool (.a r)) []
theorem hasT_ok:Ay Tryz.prog gl 193 spHasT:=by
 refine Bq (gh:=[]) mixed B4 (Ab idxT_ok Ai) Tryz.func193 (by kernel_rfl) (by kernel_rfl) ?_;intro xs ls K h;unfold spHasT at h;obtain⟨l,nl,n,f,rfl,rfl,R,hA,h⟩:=h;obtain⟨k,hk⟩:∃k,k=We l:=⟨_,rfl⟩;refine⟨_,_,h k hk,λD hD=>?_⟩;clear h;cbv;refine⟨l,_,_,f,rfl,rfl,by subst hD;exact R,hA,λr hr=>?_⟩;cbv;refine Aw hD ?_;show decide (0<=r)=k;rw[hr,hk,Abe l 0 (by decide)]
def spBadT:FSpec:=λ_ xs ls K=>∃(l:List HF) (nl:Bool) (n:Int) (f:Nat->List SV),xs=[.sl (.a nl) (.a n) 2 f]/\ls=[]/\Bu f n l/\Ih l/\∀r,r=We l->K (.bool (.a r)) []
theorem Amx:Ay Tryz.prog gl 141 spBadT:=by
 refine Bq (gh:=[]) mixed B4 (Ab hasT_ok Ai) Tryz.func141 (by kernel_rfl) (by kernel_rfl) ?_;intro xs ls K h;unfold spBadT at h;obtain⟨l,nl,n,f,rfl,rfl,R,hA,h⟩:=h;refine⟨_,_,h _ rfl,λD hD=>?_⟩;clear h;obtain⟨k,hk⟩:∃k,k=We l:=⟨_,rfl⟩;rw[<-hk];cbv;refine⟨l,_,_,f,rfl,rfl,by subst hD;exact R,hA,λr hr=>?_⟩;cbv;exact Aw hD (hr.trans hk.symm)
end Go.Proofs.YtdoogdbjiijifaaGreatDoor
