/- Lemmas of the proof; no conditions. -/
import Derived.Test.YtdoogdbjiijifaaGreatDoorE9Pav
namespace Go.Proofs.YtdoogdbjiijifaaGreatDoor
open Go Go.Sx
set_option maxRecDepth 100000
set_option maxHeartbeats 8000000
theorem Anh:Ap Tryz.prog gl 188 (Li 2):=by
 refine Bu (gh:=[(999985,[]),(3,[.rM 0 6 2]),(5,[.pA 0 6 2])]) mixed Du Ae Tryz.func188 (by kernel_rfl) (by kernel_rfl) ?_;intro xs ls K h;unfold Li at h;obtain⟨s,c,ci,ph,lf,l0,d0,tn,tl,tf,db,dl,gr,df,nn,nl,g,nf,fo,sz,rfl,rfl,rfl,V,hp,nG,hO,h⟩:=h;have eQ:nl=s.line.length:=V.li.n;unfold Wm at h;have hc:cF s c=if s.line=[]/\c=13 then (⟨2,[13],s.data,s.left,s.aE⟩,0) else if s.line=[13]/\c=10 then (⟨0,[],s.data,s.left,s.aE⟩,0) else (s,6):=by
  unfold cF;rw[QA (by omega),QA (by omega),QC hp]
 have mX:fo=0:=by have:=V.uk;rwa [QA (by omega)]at this
 have bC:sz=0:=by have:=V.ot;rwa [QA (by omega)]at this
 have gF:((c.toNat:Int)==13)=(c==13):=zF c 13;have JR:((c.toNat:Int)==10)=(c==10):=zF c 10;have rF:(nl==0)=decide (s.line=[]):=by rw[eQ,XY,QO,QG,<-List.length_eq_zero_iff];omega
 have y5:(nl==1)=decide (s.line=[13]):=by
  rcases (hO.p2 hp).1 with e|e
  .rw[eQ,e];decide
  .rw[eQ,e];decide
 clear eQ
 by_cases h1:s.line=[]/\c=13
 .rw[hc,QC h1]at h
  have h:=(h 0 rfl).2 rfl;simp only at h;obtain⟨G,hG⟩:∃G,G=g+1:=⟨_,rfl⟩;have h:=h ph lf tn tl tf db dl df false 1 G (aQ [13]) fo sz ⟨by rw[V.gM,hp],V.iG,V.tr,V.da,⟨rfl,λi _=>rfl⟩,mX,bC⟩ ⟨nG,by rw[QA];show ¬(2:Int)=4;decide,by rw[QA (by omega)];rfl,by rw[QA (by omega),hG,QA];show ¬(2:Int)=4;decide⟩;have EG:oZ G (g+1):=⟨hG⟩;clear hG hc;refine⟨_,_,h,λD hD=>?_⟩;cbv;refine br hD (λhb=>?_) (λhb=>?_)<;>cbv
  .intro f3 eV
   cbv;have nH:f3 0=[.int .u8 (.a (c.toNat:Int))]:=by rw[eV.h 0 _ rfl];subst hD;rfl
   refine⟨by subst hD;exact⟨rfl⟩,λg' nF=>?_⟩;cbv;have jQ:g'=g+1:=by subst hD;exact nF.h
   clear nF;subst hD;refine Nu rfl rfl rfl (aM.refl _) ⟨rfl,rfl⟩ ⟨rfl,rfl,by rw[EG.h];exact jQ⟩ rfl rfl ⟨rfl,λ_ _=>rfl⟩ ⟨rfl,by rw[EG.h];exact jQ,λi hi=>?_⟩;have hi:(i:Int)<1:=hi;obtain rfl:i=0:=by omega
   rw[nH,h1.2];rfl
  .have hb:((nl==0)&&((c.toNat:Int)==13))=false:=by subst hD;exact hb
   rw[rF,gF,h1.1,h1.2]at hb;cases hb
 by_cases h2:s.line=[13]/\c=10
 .rw[hc,QA h1,QC h2]at h
  have h:=(h 0 rfl).2 rfl;simp only at h;obtain⟨G,hG⟩:∃G,G=g+1:=⟨_,rfl⟩;have h:=h 0 lf tn tl tf db dl df true 0 G (λ_=>[]) fo sz ⟨rfl,V.iG,V.tr,V.da,⟨rfl,λi hi=>by cases hi⟩,mX,bC⟩ ⟨nG,by rw[QA];show ¬(0:Int)=4;decide,by rw[QA (by omega)];rfl,by rw[QA (by omega),hG,QA];show ¬(0:Int)=4;decide⟩;have EG:oZ G (g+1):=⟨hG⟩;clear hG hc;refine⟨_,_,h,λD hD=>?_⟩;cbv;refine br hD (λhb=>?_) (λhb=>?_)<;>cbv
  .have hb:((nl==0)&&((c.toNat:Int)==13))=true:=by subst hD;exact hb
   rw[rF,gF,h2.1]at hb;cases hb
  .refine br hD (λhb=>?_) (λhb=>?_)<;>cbv
   .intro g' nF
    cbv;have jQ:g'=g+1:=by subst hD;exact nF.h
    clear nF;subst hD;exact Nu rfl rfl rfl (aM.refl _) ⟨rfl,rfl⟩ ⟨rfl,rfl,by rw[EG.h];exact jQ⟩ rfl rfl ⟨rfl,λ_ _=>rfl⟩ ⟨rfl,by rw[EG.h];exact jQ,λi hi=>rfl⟩
   .have hb:((nl==1)&&((c.toNat:Int)==10))=false:=by subst hD;exact hb
    rw[y5,JR,h2.1,h2.2]at hb;cases hb
 .rw[hc,QA h1,QA h2]at h
  have h:=(h 6 rfl).1 (by decide);clear hc;refine⟨_,_,h,λD hD=>?_⟩;cbv;refine br hD (λhb=>?_) (λhb=>?_)<;>cbv
  .exfalso
   have hb:((nl==0)&&((c.toNat:Int)==13))=true:=by subst hD;exact hb
   rw[rF,gF,QE,QG,QO]at hb;exact h1 hb
  .refine br hD (λhb=>?_) (λhb=>?_)<;>cbv
   .exfalso
    have hb:((nl==1)&&((c.toNat:Int)==10))=true:=by subst hD;exact hb
    rw[y5,JR,QE,QG,QO]at hb;exact h2 hb
   .subst hD;exact D5 rfl
def vX:aB:=λ_ xs ls K=>∃(s:Ch) (ph lf:Int) (l0 d0:List UInt8) (tn:Bool) (tl:Int) (tf:Nat->List SV) (db:Bool) (dl:Int) (gr:Bool) (df:Nat->List SV) (nn:Bool) (nl g:Int) (nf:Nat->List SV) (fo sz:Int),
 xs=[.ptr 0 0]/\ls=[.aF 220 (yQ ph l0 d0 lf tn tl tf db dl nn nl g fo sz),.own 5 (.a dl) 1 gr df,.vec 5 (.a nl) (.a g) 1 nf]/\
 Eo s ph lf tl tf dl df nl nf fo sz/\s.phase=0/\db=false/\Da s.line=true/\D7 s/\Wm s 10 l0 d0 tn nn g gr K
theorem All:Ap Tryz.prog gl 240 vX:=by
 refine Bu (gh:=[(2,[.pA 0 6 2])]) mixed Du Ae Tryz.func240 (by kernel_rfl) (by kernel_rfl) ?_;intro xs ls K h;unfold vX at h;obtain⟨s,ph,lf,l0,d0,tn,tl,tf,db,dl,gr,df,nn,nl,g,nf,fo,sz,rfl,rfl,V,hp,nG,ni,hO,h⟩:=h;unfold Wm at h;rw[Adx hp ni]at h;have bC:sz=((Bb s.line).2:Int):=by have:=V.ot;rwa [QC hp]at this
 have hv:=U1 (hO.p0 hp);obtain⟨n,hn⟩:∃n,n=(Bb s.line).2:=⟨_,rfl⟩;rw[<-hn]at h bC hv;have eh:dl=s.data.length:=V.da.n;have VS:VI sz n:=⟨bC⟩;have VD:VI dl s.data.length:=⟨eh⟩;have HL:dX s.data.length 65536:=⟨hO.data⟩;have HV:dX n 4294967296:=⟨by omega⟩;obtain⟨G,hG⟩:∃G,G=g+1:=⟨_,rfl⟩;have EG:oZ G (g+1):=⟨hG⟩;clear hG bC hv eh hn
 by_cases h0:n=0
 .rw[QC h0]at h
  have h:=(h 0 rfl).2 rfl 3 lf tn tl tf db dl df true 0 G (λ_=>[]) 0 0 ⟨rfl,V.iG,V.tr,V.da,⟨rfl,λi hi=>by cases hi⟩,by rw[QA];show ¬(3:Int)=0;decide,by rw[QA];show ¬(3:Int)=0;decide⟩ ⟨nG,by rw[QA];show ¬(3:Int)=4;decide,by rw[QA (by omega)];rfl,by rw[QA (by omega),EG.h,QA];show ¬(3:Int)=4;decide⟩;refine⟨_,_,h,λD hD=>?_⟩;cbv;intro g' nF;cbv;have jQ:g'=g+1:=by subst hD;exact nF.h
  clear nF;refine br hD (λhb=>?_) (λhb=>?_)<;>cbv
  .subst hD
   exact Nu rfl rfl rfl (aM.refl _) ⟨rfl,rfl⟩ ⟨rfl,rfl,by rw[EG.h];exact jQ⟩ rfl rfl ⟨rfl,λ_ _=>rfl⟩ ⟨rfl,by rw[EG.h];exact jQ,λi hi=>rfl⟩
  .exfalso
   have hb:(sz==0)=false:=by subst hD;exact hb
   rw[VS.h,h0]at hb;cases hb
 rw[QA h0]at h;have hw:IntKind.i64.wrap (dl+sz)=dl+sz:=by have:=VS.h;have:=VD.h;have:=HL.h;have:=HV.h;exact wrap64 (by omega) (by omega)
 by_cases h1:65536<s.data.length+n
 .rw[QC h1]at h
  have h:=(h 3 rfl).1 (by decide);refine⟨_,_,h,λD hD=>?_⟩;have pH:decide (65536<IntKind.i64.wrap (dl+sz))=true:=by rw[hw,VS.h,VD.h,QG];omega
  clear hw;cbv;intro g' nF;cbv;refine br hD (λhb=>?_) (λhb=>?_)<;>cbv
  .exfalso
   have hb:(sz==0)=true:=by subst hD;exact hb
   rw[VS.h,QO]at hb;omega
  .refine br hD (λhb=>?_) (λhb=>?_)<;>cbv
   .subst hD;exact D5 rfl
   .exfalso
    have hb:decide (65536<IntKind.i64.wrap (dl+sz))=false:=by subst hD;exact hb
    rw[pH]at hb;cases hb
 .rw[QA h1]at h
  have h:=(h 0 rfl).2 rfl 1 sz tn tl tf db dl df true 0 G (λ_=>[]) 0 0 ⟨rfl,VS.h,V.tr,V.da,⟨rfl,λi hi=>by cases hi⟩,by rw[QA];show ¬(1:Int)=0;decide,by rw[QA];show ¬(1:Int)=0;decide⟩ ⟨nG,by rw[QA];show ¬(1:Int)=4;decide,by rw[QA (by omega)];rfl,by rw[QA (by omega),EG.h,QA];show ¬(1:Int)=4;decide⟩;refine⟨_,_,h,λD hD=>?_⟩;have pH:decide (65536<IntKind.i64.wrap (dl+sz))=false:=by rw[hw,VS.h,VD.h,QJ];omega
  clear hw;cbv;intro g' nF;cbv;have jQ:g'=g+1:=by subst hD;exact nF.h
  clear nF;refine br hD (λhb=>?_) (λhb=>?_)<;>cbv
  .exfalso
   have hb:(sz==0)=true:=by subst hD;exact hb
   rw[VS.h,QO]at hb;omega
  .refine br hD (λhb=>?_) (λhb=>?_)<;>cbv
   .exfalso
    have hb:decide (65536<IntKind.i64.wrap (dl+sz))=true:=by subst hD;exact hb
    rw[pH]at hb;cases hb
   .subst hD
    exact Nu rfl rfl rfl (aM.refl _) ⟨rfl,rfl⟩ ⟨rfl,rfl,by rw[EG.h];exact jQ⟩ rfl rfl ⟨rfl,λ_ _=>rfl⟩ ⟨rfl,by rw[EG.h];exact jQ,λi hi=>rfl⟩
set_option maxHeartbeats 16000000
theorem Afy:∀d:Fin 256,(if d.1<48\/(57<d.1/\d.1<65) then (-1:Int) else Lib.indexByte zh (UInt8.ofNat (En .or .u8 (d.1:Int) 32).toNat))=Ff (UInt8.ofNat d.1):=by decide +kernel
theorem Aj5:∀d:Fin 256,0<=En .or .u8 (d.1:Int) 32/\En .or .u8 (d.1:Int) 32<=255:=by decide +kernel
theorem zg(c:UInt8):(if c.toNat<48\/(57<c.toNat/\c.toNat<65) then (-1:Int) else Lib.indexByte zh (UInt8.ofNat (En .or .u8 (c.toNat:Int) 32).toNat))=Ff c:=by
 have:=Afy ⟨c.toNat,c.toNat_lt⟩;have e:UInt8.ofNat c.toNat=c:=by simp
 rw[<-e];simpa using this
theorem Fe{f f':Nat->List SV}{n n':Int}{b b':BT}{l:List HF}(R:A0 f n l)(R':A0 f' n' l)(hb:b.den=b'.den){m m':ST}(hm:m.den=n)(CV:m'.den=n'):aM (.sl b m 2 f) (.sl b' m' 2 f'):=by
 have h1:=R.n;have h2:=R'.n;exact aM.sl hb (by rw[hm,CV,h1,h2]) λi hi=>by rw[hm]at hi;rw[R.f i (by omega),R'.f i (by omega)]
variable {s' s:Ch}{p l tl dl nl fo sz p' l' iC yK dJ qV cH:Int}{tf df nf gT gy jL:Nat->List SV}{eW lf gK iv qG AL vE AK vD xm uA xl tZ gt zu gu zt z1 vC vp tW:ST}{l0 d0:List UInt8}{tn nK db zG nn jW:BT}{gr:Bool}{c:UInt8}{v v':SV}
theorem J6(V:Eo s' p l tl tf dl df nl nf fo sz)(V':Eo s' p' l' iC gT yK gy dJ jL qV cH)
  {t t' ph:ST}   
  (he:t.den=t'.den) (h1:ph.den=p/\eW.den=p') (h2:lf.den=l/\gK.den=l') (h3:tn.den=nK.den/\iv.den=tl/\qG.den=iC) (h4:db.den=zG.den/\AL.den=dl/\vE.den=yK/\AK.den=dl/\vD.den=yK) (h5:nn.den=jW.den/\xm.den=nl/\uA.den=dJ/\xl.den=nl/\tZ.den=dJ)
  (h6:gt.den=zu.den/\gu.den=zt.den) (h7:z1.den=fo/\vC.den=qV) (h8:vp.den=sz/\tW.den=cH):
  Fin (.int .i64 t) (.int .i64 t') [.aF 220 [.int .i64 ph,.str l0,.str d0,.int .i64 lf,.sl tn iv 2 tf,.bV db AL 1,.cR nn xm gt 2,.int .i64 z1,.int .i64 vp],.own 5 AK 1 gr df,.vec 5 xl gu 1 nf]
   [.aF 220 [.int .i64 eW,.str l0,.str d0,.int .i64 gK,.sl nK qG 2 gT,.bV zG vE 1,.cR jW uA zu 2,.int .i64 vC,.int .i64 tW],.own 5 vD 1 gr gy,.vec 5 tZ zt 1 jL]:=by
 have d1:=V.da.n;have d2:=V'.da.n;have n1:=V.li.n;have n2:=V'.li.n;refine Nu he (by rw[h1.1,h1.2,V.gM,V'.gM]) (by rw[h2.1,h2.2,V.iG,V'.iG]) (Fe V.tr V'.tr h3.1 h3.2.1 h3.2.2) ⟨h4.1,by rw[h4.2.1,h4.2.2.1,d1,d2]⟩ ⟨h5.1,by rw[h5.2.1,h5.2.2.1,n1,n2],h6.1⟩ (by rw[h7.1,h7.2,V.uk,V'.uk]) (by rw[h8.1,h8.2,V.ot,V'.ot])
  ⟨by rw[h4.2.2.2.1,h4.2.2.2.2,d1,d2],λi hi=>?_⟩ ⟨by rw[h5.2.2.2.1,h5.2.2.2.2,n1,n2],h6.2,λi hi=>?_⟩
 .rw[h4.2.2.2.1]at hi
  rw[V.da.f i (by omega),V'.da.f i (by omega)]
 .rw[h5.2.2.2.1]at hi
  rw[V.li.f i (by omega),V'.li.f i (by omega)]
theorem Ako(hp:s.phase=0)(h:(cF s c).2=0):(cF s c).1.phase≠4/\(cF s c).1.aE=s.aE/\(cF s c).1.data=s.data:=by
 unfold cF at h ⊢;rw[QC hp]at h ⊢
 split at h
 .rename_i g
  rw[QC g]
  split at h
  .rename_i g2;rw[QC g2];exact⟨by simp,rfl,rfl⟩
  .rename_i g2
   rw[QA g2]
   split at h
   .cases h
   .rename_i g3;rw[QA g3];exact⟨by simp,rfl,rfl⟩
 .rename_i g
  rw[QA g]
  split at h
  .rename_i g2;exact absurd h g2
  .rename_i g2;rw[QA g2];exact⟨by simp,rfl,rfl⟩
theorem RJ(c:UInt8):(((c.toNat:Int) != 9)&&(decide ((c.toNat:Int)<32)||decide (126<(c.toNat:Int))))=!okB c:=by
 rw[XY];simp only[okB,QE,XS,bne_iff_ne,QG,XL,QU,QJ,ZA,ne_eq];omega
theorem Yc:Ap Tryz.prog gl 186 (Li 0):=by
 refine Bu (gh:=[]) mixed Du (Aa (Adb Ahq) (Al All Ae)) Tryz.func186 (by kernel_rfl) (by kernel_rfl) ?_;intro xs ls K h;unfold Li at h;obtain⟨s,c,ci,ph,lf,l0,d0,tn,tl,tf,db,dl,gr,df,nn,nl,g,nf,fo,sz,rfl,rfl,rfl,V,hp,nG,hO,h⟩:=h;unfold Wm at h;have dp:=Ako (c:=c) hp;have sV:=Ady (c:=c) hp;have eO:=Adx hp;obtain⟨e,he⟩:∃e,e=(cF s c).2:=⟨_,rfl⟩;obtain⟨s',cD⟩:∃s',s'=(cF s c).1:=⟨_,rfl⟩;have h:=h e he;rw[<-cD]at h;rw[<-he,<-cD]at dp;obtain⟨L,lJ,gV,hK⟩:∃L:List Hl,(e≠0->L=[.gone,.gone,.gone])/\(e=0->∃eW gK jW dJ g' jL qV cH,L=[.aF 220 (yQ eW l0 d0 gK tn tl tf db dl jW dJ g' qV cH),.own 5 (.a dl) 1 gr df,.vec 5 (.a dJ) (.a g') 1 jL]/\
   Eo s' eW gK tl tf dl df dJ jL qV cH/\BX s s' tn nn g tn jW g' db)/\K (.int .i64 (.a e)) L:=by
  by_cases e0:e=0
  .obtain⟨k1,k2,k3⟩:=dp e0
   have V':Eo s' s'.phase s'.left tl tf dl df s'.line.length (aQ s'.line) (if s'.phase=0 then Bg s'.line else 0) (if s'.phase=0 then ((Bb s'.line).2:Int) else 0):=⟨rfl,rfl,by rw[k2];exact V.tr,by rw[k3];exact V.da,⟨rfl,λi _=>rfl⟩,rfl,rfl⟩;have N':BX s s' tn nn g tn s'.line.isEmpty (g+1) db:=⟨nG,by rw[QA k1],by rw[QA (by omega)],by rw[QA (by omega),QA k1]⟩;exact⟨_,λh=>absurd e0 h,λ_=>⟨_,_,_,_,_,_,_,_,rfl,V',N'⟩,h.2 e0 _ _ _ _ _ _ _ _ _ _ _ _ _ _ V' N'⟩
  .exact⟨_,λ_=>rfl,λh=>absurd h e0,h.1 e0⟩
 have mX:fo=Bg s.line:=by have:=V.uk;rwa [QC hp]at this
 have bC:sz=((Bb s.line).2:Int):=by have:=V.ot;rwa [QC hp]at this
 have ew:=hO.p0 hp;have hv:=U1 ew;have bE:=Rp ew;have eQ:nl=s.line.length:=V.li.n;have mD:s.line.length<=1000000:=by have:=U3 ew;omega
 have VN:VI nl s.line.length:=⟨eQ⟩;have HL:dX s.line.length 1000000:=⟨mD⟩;have VS:VI sz (Bb s.line).2:=⟨bC⟩;have HV:dX (Bb s.line).2 4294967295:=⟨by omega⟩;have EF:oZ fo (Bg s.line):=⟨mX⟩;have ns:=zg c
 -- vg a step within tH line answers
 have mY:∀v:Int,¬(c=10/\Da s.line=true)->B8 s.line c=v->v≠0->e=v:=λv h1 h2 h3=>by
  rw[he,sV h1,h2,QC h3]
 have gE:¬(c=10/\Da s.line=true)->B8 s.line c=0->e=0/\s'=⟨0,s.line++[c],s.data,s.left,s.aE⟩:=λh1 h2=>by
  rw[he,cD,sV h1,h2,QA (by simp)];exact⟨rfl,rfl⟩
 clear sV bC eQ mD hv mX h dp;refine⟨_,_,hK,λD hD=>?_⟩;clear hK;cbv;refine⟨zh,_,rfl,rfl,by subst hD;exact Aj5 ⟨c.toNat,c.toNat_lt⟩,λr hr=>?_⟩;cbv;refine br hD (λhb=>?_) (λhb=>?_)<;>cbv
 .have hb:(decide ((c.toNat:Int)<48)||(decide (57<(c.toNat:Int))&&decide ((c.toNat:Int)<65)))=true:=by subst hD;exact hb
  have hd:Ff c=-1:=by
   rw[<-ns,QC];simp only[XS,QE,QG]at hb;omega
  clear hb ns hr;refine br hD (λhb=>?_) (λhb=>?_)<;>cbv
  .have hb:((fo==3)&&((c.toNat:Int)==10))=true:=by subst hD;exact hb
   have qT:c=10/\Da s.line=true:=by
    rw[QE,QO]at hb;have DE:=zF c 10;have h2:=hb.2;rw[show ((c.toNat:Int)==10)=(c==10) from DE,QO]at h2;exact⟨h2,Mq.1 (by rw[<-EF.h];exact hb.1)⟩
   refine⟨s,D.i (.a ph),D.i (.a lf),l0,d0,D.b (.a tn),D.i (.a tl),tf,D.b (.a db),D.i (.a dl),gr,df,D.b (.a nn),D.i (.a nl),D.i (.a g),nf,D.i (.a fo),D.i (.a sz),rfl,rfl,by subst hD;exact V,hp,by subst hD;exact nG,qT.2,hO,λe2 oT=>⟨λbA=>?_,λh0 jK xV rO xR xT DF fh fj bh bj g2 bk fe yO V2 N2=>?_⟩⟩<;>cbv
   .have ee:e=e2:=by rw[he,oT,qT.1]
    rw[lJ (by rw[ee];exact bA)];subst hD;exact D5 ee.symm
   .have ee:e=e2:=by rw[he,oT,qT.1]
    obtain⟨p3,l3,kM,qK,g3,qL,qU,qH,rfl,V3,N3⟩:=gV (by rw[ee];exact h0);have es:s'=(cF s 10).1:=by rw[cD,qT.1]
    rw[<-es]at V2 N2;subst hD;exact J6 V2 V3 (by exact ee.symm) ⟨rfl,rfl⟩ ⟨rfl,rfl⟩ ⟨by exact N2.et.trans N3.et.symm,rfl,rfl⟩ ⟨by exact N2.ed.trans N3.ed.symm,rfl,rfl,rfl,rfl⟩ ⟨by exact N2.en.trans N3.en.symm,rfl,rfl,rfl,rfl⟩ ⟨by exact N2.eg.trans N3.eg.symm,by exact N2.eg.trans N3.eg.symm⟩ ⟨rfl,rfl⟩ ⟨rfl,rfl⟩
  have hb:((fo==3)&&((c.toNat:Int)==10))=false:=by subst hD;exact hb
  have pW:¬(c=10/\Da s.line=true):=by
   rintro⟨h1,h2⟩;rw[EF.h,Mq.2 h2,h1]at hb;cases hb
  clear hb;refine br hD (λhb=>?_) (λhb=>?_)<;>cbv
  .have hb:(fo==3)=true:=by subst hD;exact hb
   rw[EF.h,QO]at hb;have em:e=6:=mY 6 pW (Acg hb) (by decide);rw[lJ (by rw[em];decide)];subst hD;exact D5 em.symm
  have h3:Bg s.line≠3:=by
   have hb:(fo==3)=false:=by subst hD;exact hb
   rw[EF.h]at hb;simpa using hb
  clear hb;refine br hD (λhb=>?_) (λhb=>?_)<;>cbv
  .have hb:(((c.toNat:Int)==13)&&(fo != 0))=true:=by subst hD;exact hb
   rw[show ((c.toNat:Int)==13)=(c==13) from zF c 13,EF.h,QE,QO,bne_iff_ne]at hb;obtain⟨hc,dy⟩:=hb;intro f3 eV;cbv;refine⟨by subst hD;exact⟨rfl,by show (nl+1) * 1<=_;rw[VN.h];have:=HL.h;omega,by show nl+1<=_;rw[VN.h];have:=HL.h;omega⟩,by subst hD;exact⟨rfl⟩,λf4 n4 hm g4 iD=>?_⟩;cbv;have nH:f3 0=[.int .u8 (.a (c.toNat:Int))]:=by rw[eV.h 0 _ rfl];subst hD;rfl
   have R4:Bo f4 n4 (s.line++[c]):=V.li.more (g:=f3) (u:=[c]) rfl (jV nH) (by subst hD;exact hm);have jQ:g4=g+1:=by subst hD;exact iD.h
   clear hm eV iD;obtain⟨e0,es⟩:=gE pW (by rw[hc,Tb ew h3,QA dy]);obtain⟨p3,l3,kM,qK,g3,qL,qU,qH,rfl,V3,N3⟩:=gV e0;have V2:Eo s' ph lf tl tf dl df n4 f4 3 (sz):=by rw[es];exact⟨V.gM.trans hp,V.iG,V.tr,V.da,R4,by rw[QC rfl];exact by rw[hc];exact (Td s.line).1.symm,by rw[QC rfl];exact by rw[hc];show sz=_;rw[(Td s.line).2];exact VS.h⟩
   have gL:kM=false:=by have:=N3.en;rw[QA (by omega),es]at this;rw[this];simp
   have gA:g3=g+1:=by have:=N3.eg;rw[QA (by omega),es,QA (by show ¬(0:Int)=4;decide)]at this;exact this
   subst hD;exact J6 V2 V3 (by exact e0.symm) ⟨rfl,rfl⟩ ⟨rfl,rfl⟩ ⟨rfl,rfl,rfl⟩ ⟨rfl,rfl,rfl,rfl,rfl⟩ ⟨by rw[gL];exact ZO _,rfl,rfl,rfl,rfl⟩ ⟨by exact jQ.trans gA.symm,by exact jQ.trans gA.symm⟩ ⟨rfl,rfl⟩ ⟨by exact rfl,rfl⟩
  have nA:¬(c=13/\Bg s.line≠0):=by
   have hb:(((c.toNat:Int)==13)&&(fo != 0))=false:=by subst hD;exact hb
   rw[show ((c.toNat:Int)==13)=(c==13) from zF c 13,EF.h]at hb;rintro⟨h1,h2⟩;rw[h1]at hb;simp[h2]at hb
  clear hb;refine br hD (λhb=>?_) (λhb=>?_)<;>cbv
  .have hb:(fo==2)=true:=by subst hD;exact hb
   rw[EF.h,QO]at hb;have fB:=hb;clear hb;have gF:c≠13:=λh=>nA ⟨h,by rw[fB];decide⟩;refine br hD (λhb=>?_) (λhb=>?_)<;>cbv
   .have hb:(((c.toNat:Int) != 9)&&(decide ((c.toNat:Int)<32)||decide (126<(c.toNat:Int))))=true:=by subst hD;exact hb
    rw[RJ]at hb;have em:e=6:=mY 6 pW (by rw[Js fB gF,QC hb]) (by decide);rw[lJ (by rw[em];decide)];subst hD;exact D5 em.symm
   have hb:(((c.toNat:Int) != 9)&&(decide ((c.toNat:Int)<32)||decide (126<(c.toNat:Int))))=false:=by subst hD;exact hb
   rw[RJ]at hb;have hk:¬(!okB c)=true:=by rw[hb];decide
   have bA:¬((Bb s.line).1=s.line.length/\0<=Ff c):=λh=>(Z8 fB).2.2 h.1;clear hb;refine br hD (λhb=>?_) (λhb=>?_)<;>cbv
   .have hb:decide (200<=nl)=true:=by subst hD;exact hb
    have fF:200<=s.line.length:=by rw[QG]at hb;have:=VN.h;omega
    have em:e=3:=mY 3 pW (by rw[Js fB gF,QA hk,QC fF]) (by decide);rw[lJ (by rw[em];decide)];subst hD;exact D5 em.symm
   .have hb:decide (200<=nl)=false:=by subst hD;exact hb
    have fF:¬200<=s.line.length:=by rw[QJ]at hb;have:=VN.h;omega
    intro f3 eV;cbv;refine⟨by subst hD;exact⟨rfl,by show (nl+1) * 1<=_;rw[VN.h];have:=HL.h;omega,by show nl+1<=_;rw[VN.h];have:=HL.h;omega⟩,by subst hD;exact⟨rfl⟩,λf4 n4 hm g4 iD=>?_⟩;cbv;have nH:f3 0=[.int .u8 (.a (c.toNat:Int))]:=by rw[eV.h 0 _ rfl];subst hD;rfl
    have R4:Bo f4 n4 (s.line++[c]):=V.li.more (g:=f3) (u:=[c]) rfl (jV nH) (by subst hD;exact hm);have jQ:g4=g+1:=by subst hD;exact iD.h
    clear hm eV iD;obtain⟨e0,es⟩:=gE pW (by rw[Js fB gF,QA hk,QA fF]);obtain⟨p3,l3,kM,qK,g3,qL,qU,qH,rfl,V3,N3⟩:=gV e0;have V2:Eo s' ph lf tl tf dl df n4 f4 fo (sz):=by rw[es];exact⟨V.gM.trans hp,V.iG,V.tr,V.da,R4,by rw[QC rfl];exact by rw[(G6 bA gF).1,EF.h,fB],by rw[QC rfl];exact by rw[(G6 bA gF).2];exact VS.h⟩
    have gL:kM=false:=by have:=N3.en;rw[QA (by omega),es]at this;rw[this];simp
    have gA:g3=g+1:=by have:=N3.eg;rw[QA (by omega),es,QA (by show ¬(0:Int)=4;decide)]at this;exact this
    subst hD;exact J6 V2 V3 (by exact e0.symm) ⟨rfl,rfl⟩ ⟨rfl,rfl⟩ ⟨rfl,rfl,rfl⟩ ⟨rfl,rfl,rfl,rfl,rfl⟩ ⟨by rw[gL];exact ZO _,rfl,rfl,rfl,rfl⟩ ⟨by exact jQ.trans gA.symm,by exact jQ.trans gA.symm⟩ ⟨rfl,rfl⟩ ⟨by exact rfl,rfl⟩
  have fB:Bg s.line≠2:=by
   have hb:(fo==2)=false:=by subst hD;exact hb
   rw[EF.h]at hb;simpa using hb
  have uV:Bg s.line=0\/Bg s.line=1:=by
   rcases Rz s.line with h|h|h|h
   .exact .inl h
   .exact .inr h
   .exact absurd h fB
   .exact absurd h h3
  clear hb;have CY:Ff c<0:=by rw[hd];decide
  refine br hD (λhb=>?_) (λhb=>?_)<;>cbv
  .have hb:(((c.toNat:Int)==59)&&(fo==1))=true:=by subst hD;exact hb
   rw[show ((c.toNat:Int)==59)=(c==59) from zF c 59,EF.h,QE,QO,QO]at hb;obtain⟨hc,fV⟩:=hb;have bA:¬((Bb s.line).1=s.line.length/\0<=Ff c):=λh=>by omega
   have gF:c≠13:=by rw[hc];decide
   refine br hD (λhb=>?_) (λhb=>?_)<;>cbv
   .have hb:decide (200<=nl)=true:=by subst hD;exact hb
    have fF:200<=s.line.length:=by rw[QG]at hb;have:=VN.h;omega
    have em:e=3:=mY 3 pW (by rw[hc,Mn ew fV,QC fF]) (by decide);rw[lJ (by rw[em];decide)];subst hD;exact D5 em.symm
   .have hb:decide (200<=nl)=false:=by subst hD;exact hb
    have fF:¬200<=s.line.length:=by rw[QJ]at hb;have:=VN.h;omega
    intro f3 eV;cbv;refine⟨by subst hD;exact⟨rfl,by show (nl+1) * 1<=_;rw[VN.h];have:=HL.h;omega,by show nl+1<=_;rw[VN.h];have:=HL.h;omega⟩,by subst hD;exact⟨rfl⟩,λf4 n4 hm g4 iD=>?_⟩;cbv;have nH:f3 0=[.int .u8 (.a (c.toNat:Int))]:=by rw[eV.h 0 _ rfl];subst hD;rfl
    have R4:Bo f4 n4 (s.line++[c]):=V.li.more (g:=f3) (u:=[c]) rfl (jV nH) (by subst hD;exact hm);have jQ:g4=g+1:=by subst hD;exact iD.h
    clear hm eV iD;obtain⟨e0,es⟩:=gE pW (by rw[hc,Mn ew fV,QA fF]);obtain⟨p3,l3,kM,qK,g3,qL,qU,qH,rfl,V3,N3⟩:=gV e0;have V2:Eo s' ph lf tl tf dl df n4 f4 2 (sz):=by rw[es];exact⟨V.gM.trans hp,V.iG,V.tr,V.da,R4,by rw[QC rfl];exact (G6 bA gF).1.symm,by rw[QC rfl];exact by rw[(G6 bA gF).2];exact VS.h⟩
    have gL:kM=false:=by have:=N3.en;rw[QA (by omega),es]at this;rw[this];simp
    have gA:g3=g+1:=by have:=N3.eg;rw[QA (by omega),es,QA (by show ¬(0:Int)=4;decide)]at this;exact this
    subst hD;exact J6 V2 V3 (by exact e0.symm) ⟨rfl,rfl⟩ ⟨rfl,rfl⟩ ⟨rfl,rfl,rfl⟩ ⟨rfl,rfl,rfl,rfl,rfl⟩ ⟨by rw[gL];exact ZO _,rfl,rfl,rfl,rfl⟩ ⟨by exact jQ.trans gA.symm,by exact jQ.trans gA.symm⟩ ⟨rfl,rfl⟩ ⟨by exact rfl,rfl⟩
  have yu:¬(c=59/\Bg s.line=1):=by
   have hb:(((c.toNat:Int)==59)&&(fo==1))=false:=by subst hD;exact hb
   rw[show ((c.toNat:Int)==59)=(c==59) from zF c 59,EF.h]at hb;rintro⟨h1,h2⟩;rw[h1,h2]at hb;cases hb
  have WW:B8 s.line c=6:=by
   by_cases qT:c=13
   .have dy:Bg s.line=0:=Decidable.byContradiction λh=>nA ⟨qT,h⟩
    rw[qT,Tb ew h3,QC dy]
   .exact Aci uV CY qT yu
  have em:e=6:=mY 6 pW (WW) (by decide);rw[lJ (by rw[em];decide)];subst hD;exact D5 em.symm
 .have hb:(decide ((c.toNat:Int)<48)||(decide (57<(c.toNat:Int))&&decide ((c.toNat:Int)<65)))=false:=by subst hD;exact hb
  have hd:Ff c=r:=by
   rw[hr,<-ns,QA]
   .subst hD;rfl
   .rintro h
    simp only[QU,ZA,QJ]at hb;omega
  clear hb ns hr;refine br hD (λhb=>?_) (λhb=>?_)<;>cbv
  .have hb:((fo==3)&&((c.toNat:Int)==10))=true:=by subst hD;exact hb
   have qT:c=10/\Da s.line=true:=by
    rw[QE,QO]at hb;have DE:=zF c 10;have h2:=hb.2;rw[show ((c.toNat:Int)==10)=(c==10) from DE,QO]at h2;exact⟨h2,Mq.1 (by rw[<-EF.h];exact hb.1)⟩
   refine⟨s,D.i (.a ph),D.i (.a lf),l0,d0,D.b (.a tn),D.i (.a tl),tf,D.b (.a db),D.i (.a dl),gr,df,D.b (.a nn),D.i (.a nl),D.i (.a g),nf,D.i (.a fo),D.i (.a sz),rfl,rfl,by subst hD;exact V,hp,by subst hD;exact nG,qT.2,hO,λe2 oT=>⟨λbA=>?_,λh0 jK xV rO xR xT DF fh fj bh bj g2 bk fe yO V2 N2=>?_⟩⟩<;>cbv
   .have ee:e=e2:=by rw[he,oT,qT.1]
    rw[lJ (by rw[ee];exact bA)];subst hD;exact D5 ee.symm
   .have ee:e=e2:=by rw[he,oT,qT.1]
    obtain⟨p3,l3,kM,qK,g3,qL,qU,qH,rfl,V3,N3⟩:=gV (by rw[ee];exact h0);have es:s'=(cF s 10).1:=by rw[cD,qT.1]
    rw[<-es]at V2 N2;subst hD;exact J6 V2 V3 (by exact ee.symm) ⟨rfl,rfl⟩ ⟨rfl,rfl⟩ ⟨by exact N2.et.trans N3.et.symm,rfl,rfl⟩ ⟨by exact N2.ed.trans N3.ed.symm,rfl,rfl,rfl,rfl⟩ ⟨by exact N2.en.trans N3.en.symm,rfl,rfl,rfl,rfl⟩ ⟨by exact N2.eg.trans N3.eg.symm,by exact N2.eg.trans N3.eg.symm⟩ ⟨rfl,rfl⟩ ⟨rfl,rfl⟩
  have hb:((fo==3)&&((c.toNat:Int)==10))=false:=by subst hD;exact hb
  have pW:¬(c=10/\Da s.line=true):=by
   rintro⟨h1,h2⟩;rw[EF.h,Mq.2 h2,h1]at hb;cases hb
  clear hb;refine br hD (λhb=>?_) (λhb=>?_)<;>cbv
  .have hb:(fo==3)=true:=by subst hD;exact hb
   rw[EF.h,QO]at hb;have em:e=6:=mY 6 pW (Acg hb) (by decide);rw[lJ (by rw[em];decide)];subst hD;exact D5 em.symm
  have h3:Bg s.line≠3:=by
   have hb:(fo==3)=false:=by subst hD;exact hb
   rw[EF.h]at hb;simpa using hb
  clear hb;refine br hD (λhb=>?_) (λhb=>?_)<;>cbv
  .have hb:(((c.toNat:Int)==13)&&(fo != 0))=true:=by subst hD;exact hb
   rw[show ((c.toNat:Int)==13)=(c==13) from zF c 13,EF.h,QE,QO,bne_iff_ne]at hb;obtain⟨hc,dy⟩:=hb;intro f3 eV;cbv;refine⟨by subst hD;exact⟨rfl,by show (nl+1) * 1<=_;rw[VN.h];have:=HL.h;omega,by show nl+1<=_;rw[VN.h];have:=HL.h;omega⟩,by subst hD;exact⟨rfl⟩,λf4 n4 hm g4 iD=>?_⟩;cbv;have nH:f3 0=[.int .u8 (.a (c.toNat:Int))]:=by rw[eV.h 0 _ rfl];subst hD;rfl
   have R4:Bo f4 n4 (s.line++[c]):=V.li.more (g:=f3) (u:=[c]) rfl (jV nH) (by subst hD;exact hm);have jQ:g4=g+1:=by subst hD;exact iD.h
   clear hm eV iD;obtain⟨e0,es⟩:=gE pW (by rw[hc,Tb ew h3,QA dy]);obtain⟨p3,l3,kM,qK,g3,qL,qU,qH,rfl,V3,N3⟩:=gV e0;have V2:Eo s' ph lf tl tf dl df n4 f4 3 (sz):=by rw[es];exact⟨V.gM.trans hp,V.iG,V.tr,V.da,R4,by rw[QC rfl];exact by rw[hc];exact (Td s.line).1.symm,by rw[QC rfl];exact by rw[hc];show sz=_;rw[(Td s.line).2];exact VS.h⟩
   have gL:kM=false:=by have:=N3.en;rw[QA (by omega),es]at this;rw[this];simp
   have gA:g3=g+1:=by have:=N3.eg;rw[QA (by omega),es,QA (by show ¬(0:Int)=4;decide)]at this;exact this
   subst hD;exact J6 V2 V3 (by exact e0.symm) ⟨rfl,rfl⟩ ⟨rfl,rfl⟩ ⟨rfl,rfl,rfl⟩ ⟨rfl,rfl,rfl,rfl,rfl⟩ ⟨by rw[gL];exact ZO _,rfl,rfl,rfl,rfl⟩ ⟨by exact jQ.trans gA.symm,by exact jQ.trans gA.symm⟩ ⟨rfl,rfl⟩ ⟨by exact rfl,rfl⟩
  have nA:¬(c=13/\Bg s.line≠0):=by
   have hb:(((c.toNat:Int)==13)&&(fo != 0))=false:=by subst hD;exact hb
   rw[show ((c.toNat:Int)==13)=(c==13) from zF c 13,EF.h]at hb;rintro⟨h1,h2⟩;rw[h1]at hb;simp[h2]at hb
  clear hb;refine br hD (λhb=>?_) (λhb=>?_)<;>cbv
  .have hb:(fo==2)=true:=by subst hD;exact hb
   rw[EF.h,QO]at hb;have fB:=hb;clear hb;have gF:c≠13:=λh=>nA ⟨h,by rw[fB];decide⟩;refine br hD (λhb=>?_) (λhb=>?_)<;>cbv
   .have hb:(((c.toNat:Int) != 9)&&(decide ((c.toNat:Int)<32)||decide (126<(c.toNat:Int))))=true:=by subst hD;exact hb
    rw[RJ]at hb;have em:e=6:=mY 6 pW (by rw[Js fB gF,QC hb]) (by decide);rw[lJ (by rw[em];decide)];subst hD;exact D5 em.symm
   have hb:(((c.toNat:Int) != 9)&&(decide ((c.toNat:Int)<32)||decide (126<(c.toNat:Int))))=false:=by subst hD;exact hb
   rw[RJ]at hb;have hk:¬(!okB c)=true:=by rw[hb];decide
   have bA:¬((Bb s.line).1=s.line.length/\0<=Ff c):=λh=>(Z8 fB).2.2 h.1;clear hb;refine br hD (λhb=>?_) (λhb=>?_)<;>cbv
   .have hb:decide (200<=nl)=true:=by subst hD;exact hb
    have fF:200<=s.line.length:=by rw[QG]at hb;have:=VN.h;omega
    have em:e=3:=mY 3 pW (by rw[Js fB gF,QA hk,QC fF]) (by decide);rw[lJ (by rw[em];decide)];subst hD;exact D5 em.symm
   .have hb:decide (200<=nl)=false:=by subst hD;exact hb
    have fF:¬200<=s.line.length:=by rw[QJ]at hb;have:=VN.h;omega
    intro f3 eV;cbv;refine⟨by subst hD;exact⟨rfl,by show (nl+1) * 1<=_;rw[VN.h];have:=HL.h;omega,by show nl+1<=_;rw[VN.h];have:=HL.h;omega⟩,by subst hD;exact⟨rfl⟩,λf4 n4 hm g4 iD=>?_⟩;cbv;have nH:f3 0=[.int .u8 (.a (c.toNat:Int))]:=by rw[eV.h 0 _ rfl];subst hD;rfl
    have R4:Bo f4 n4 (s.line++[c]):=V.li.more (g:=f3) (u:=[c]) rfl (jV nH) (by subst hD;exact hm);have jQ:g4=g+1:=by subst hD;exact iD.h
    clear hm eV iD;obtain⟨e0,es⟩:=gE pW (by rw[Js fB gF,QA hk,QA fF]);obtain⟨p3,l3,kM,qK,g3,qL,qU,qH,rfl,V3,N3⟩:=gV e0;have V2:Eo s' ph lf tl tf dl df n4 f4 fo (sz):=by rw[es];exact⟨V.gM.trans hp,V.iG,V.tr,V.da,R4,by rw[QC rfl];exact by rw[(G6 bA gF).1,EF.h,fB],by rw[QC rfl];exact by rw[(G6 bA gF).2];exact VS.h⟩
    have gL:kM=false:=by have:=N3.en;rw[QA (by omega),es]at this;rw[this];simp
    have gA:g3=g+1:=by have:=N3.eg;rw[QA (by omega),es,QA (by show ¬(0:Int)=4;decide)]at this;exact this
    subst hD;exact J6 V2 V3 (by exact e0.symm) ⟨rfl,rfl⟩ ⟨rfl,rfl⟩ ⟨rfl,rfl,rfl⟩ ⟨rfl,rfl,rfl,rfl,rfl⟩ ⟨by rw[gL];exact ZO _,rfl,rfl,rfl,rfl⟩ ⟨by exact jQ.trans gA.symm,by exact jQ.trans gA.symm⟩ ⟨rfl,rfl⟩ ⟨by exact rfl,rfl⟩
  have fB:Bg s.line≠2:=by
   have hb:(fo==2)=false:=by subst hD;exact hb
   rw[EF.h]at hb;simpa using hb
  have uV:Bg s.line=0\/Bg s.line=1:=by
   rcases Rz s.line with h|h|h|h
   .exact .inl h
   .exact .inr h
   .exact absurd h fB
   .exact absurd h h3
  clear hb;refine br hD (λhb=>?_) (λhb=>?_)<;>cbv
  .have hb:(decide (0<=r)&&(nl==8))=true:=by subst hD;exact hb
   rw[QE,QG,QO]at hb;have em:e=3:=mY 3 pW (xq uV (by rw[hd];exact hb.1) (by have:=VN.h;omega)) (by decide);rw[lJ (by rw[em];decide)];subst hD;exact D5 em.symm
  have h8:¬(0<=r/\nl=8):=by
   have hb:(decide (0<=r)&&(nl==8))=false:=by subst hD;exact hb
   rintro⟨h1,h2⟩;rw[h2]at hb;simp[h1]at hb
  clear hb;refine br hD (λhb=>?_) (λhb=>?_)<;>cbv
  .have hb:decide (0<=r)=true:=by subst hD;exact hb
   rw[QG]at hb;have OV:0<=Ff c:=by rw[hd];exact hb
   have hn8:s.line.length≠8:=λh=>h8 ⟨hb,by have:=VN.h;omega⟩;have kB:=(Pe uV).2;have ID:IntKind.i64.wrap (IntKind.i64.wrap (16 * sz)+r)=16 * sz+r:=by
    have h1:=VS.h;have h2:=HV.h;have h3:=Ah7 c;have e1:IntKind.i64.wrap (16 * sz)=16 * sz:=wrap64 (by omega) (by omega);rw[e1];exact wrap64 (by omega) (by omega)
   have ESZ:oZ (IntKind.i64.wrap (IntKind.i64.wrap (16 * sz)+r)) (16 * sz+r):=⟨ID⟩;clear hb ID;refine br hD (λhb=>?_) (λhb=>?_)<;>cbv
   .have hb:decide (200<=nl)=true:=by subst hD;exact hb
    have fF:200<=s.line.length:=by rw[QG]at hb;have:=VN.h;omega
    have em:e=3:=mY 3 pW (by rw[Ach uV OV hn8,QC fF]) (by decide);rw[lJ (by rw[em];decide)];subst hD;exact D5 em.symm
   .have hb:decide (200<=nl)=false:=by subst hD;exact hb
    have fF:¬200<=s.line.length:=by rw[QJ]at hb;have:=VN.h;omega
    intro f3 eV;cbv;refine⟨by subst hD;exact⟨rfl,by show (nl+1) * 1<=_;rw[VN.h];have:=HL.h;omega,by show nl+1<=_;rw[VN.h];have:=HL.h;omega⟩,by subst hD;exact⟨rfl⟩,λf4 n4 hm g4 iD=>?_⟩;cbv;have nH:f3 0=[.int .u8 (.a (c.toNat:Int))]:=by rw[eV.h 0 _ rfl];subst hD;rfl
    have R4:Bo f4 n4 (s.line++[c]):=V.li.more (g:=f3) (u:=[c]) rfl (jV nH) (by subst hD;exact hm);have jQ:g4=g+1:=by subst hD;exact iD.h
    clear hm eV iD;obtain⟨e0,es⟩:=gE pW (by rw[Ach uV OV hn8,QA fF]);obtain⟨p3,l3,kM,qK,g3,qL,qU,qH,rfl,V3,N3⟩:=gV e0;have V2:Eo s' ph lf tl tf dl df n4 f4 1 (16 * sz+r):=by rw[es];exact⟨V.gM.trans hp,V.iG,V.tr,V.da,R4,by rw[QC rfl];exact (Ada kB OV).1.symm,by rw[QC rfl];exact by rw[(Ada kB OV).2];have:=VS.h;omega⟩
    have gL:kM=false:=by have:=N3.en;rw[QA (by omega),es]at this;rw[this];simp
    have gA:g3=g+1:=by have:=N3.eg;rw[QA (by omega),es,QA (by show ¬(0:Int)=4;decide)]at this;exact this
    subst hD;exact J6 V2 V3 (by exact e0.symm) ⟨rfl,rfl⟩ ⟨rfl,rfl⟩ ⟨rfl,rfl,rfl⟩ ⟨rfl,rfl,rfl,rfl,rfl⟩ ⟨by rw[gL];exact ZO _,rfl,rfl,rfl,rfl⟩ ⟨by exact jQ.trans gA.symm,by exact jQ.trans gA.symm⟩ ⟨rfl,rfl⟩ ⟨by exact ESZ.h,rfl⟩
  have CY:Ff c<0:=by
   have hb:decide (0<=r)=false:=by subst hD;exact hb
   rw[QJ]at hb;rw[hd];omega
  clear hb;refine br hD (λhb=>?_) (λhb=>?_)<;>cbv
  .have hb:(((c.toNat:Int)==59)&&(fo==1))=true:=by subst hD;exact hb
   rw[show ((c.toNat:Int)==59)=(c==59) from zF c 59,EF.h,QE,QO,QO]at hb;obtain⟨hc,fV⟩:=hb;have bA:¬((Bb s.line).1=s.line.length/\0<=Ff c):=λh=>by omega
   have gF:c≠13:=by rw[hc];decide
   refine br hD (λhb=>?_) (λhb=>?_)<;>cbv
   .have hb:decide (200<=nl)=true:=by subst hD;exact hb
    have fF:200<=s.line.length:=by rw[QG]at hb;have:=VN.h;omega
    have em:e=3:=mY 3 pW (by rw[hc,Mn ew fV,QC fF]) (by decide);rw[lJ (by rw[em];decide)];subst hD;exact D5 em.symm
   .have hb:decide (200<=nl)=false:=by subst hD;exact hb
    have fF:¬200<=s.line.length:=by rw[QJ]at hb;have:=VN.h;omega
    intro f3 eV;cbv;refine⟨by subst hD;exact⟨rfl,by show (nl+1) * 1<=_;rw[VN.h];have:=HL.h;omega,by show nl+1<=_;rw[VN.h];have:=HL.h;omega⟩,by subst hD;exact⟨rfl⟩,λf4 n4 hm g4 iD=>?_⟩;cbv;have nH:f3 0=[.int .u8 (.a (c.toNat:Int))]:=by rw[eV.h 0 _ rfl];subst hD;rfl
    have R4:Bo f4 n4 (s.line++[c]):=V.li.more (g:=f3) (u:=[c]) rfl (jV nH) (by subst hD;exact hm);have jQ:g4=g+1:=by subst hD;exact iD.h
    clear hm eV iD;obtain⟨e0,es⟩:=gE pW (by rw[hc,Mn ew fV,QA fF]);obtain⟨p3,l3,kM,qK,g3,qL,qU,qH,rfl,V3,N3⟩:=gV e0;have V2:Eo s' ph lf tl tf dl df n4 f4 2 (sz):=by rw[es];exact⟨V.gM.trans hp,V.iG,V.tr,V.da,R4,by rw[QC rfl];exact (G6 bA gF).1.symm,by rw[QC rfl];exact by rw[(G6 bA gF).2];exact VS.h⟩
    have gL:kM=false:=by have:=N3.en;rw[QA (by omega),es]at this;rw[this];simp
    have gA:g3=g+1:=by have:=N3.eg;rw[QA (by omega),es,QA (by show ¬(0:Int)=4;decide)]at this;exact this
    subst hD;exact J6 V2 V3 (by exact e0.symm) ⟨rfl,rfl⟩ ⟨rfl,rfl⟩ ⟨rfl,rfl,rfl⟩ ⟨rfl,rfl,rfl,rfl,rfl⟩ ⟨by rw[gL];exact ZO _,rfl,rfl,rfl,rfl⟩ ⟨by exact jQ.trans gA.symm,by exact jQ.trans gA.symm⟩ ⟨rfl,rfl⟩ ⟨by exact rfl,rfl⟩
  have yu:¬(c=59/\Bg s.line=1):=by
   have hb:(((c.toNat:Int)==59)&&(fo==1))=false:=by subst hD;exact hb
   rw[show ((c.toNat:Int)==59)=(c==59) from zF c 59,EF.h]at hb;rintro⟨h1,h2⟩;rw[h1,h2]at hb;cases hb
  have WW:B8 s.line c=6:=by
   by_cases qT:c=13
   .have dy:Bg s.line=0:=Decidable.byContradiction λh=>nA ⟨qT,h⟩
    rw[qT,Tb ew h3,QC dy]
   .exact Aci uV CY qT yu
  have em:e=6:=mY 6 pW (WW) (by decide);rw[lJ (by rw[em];decide)];subst hD;exact D5 em.symm
open Go Go.Sx Go.RowKit
set_option maxHeartbeats 8000000
def Asc(s:List UInt8):Prop:=∀b∈s,b.toNat<128
structure PT(s:List UInt8):Prop where
 a:Asc s
 len:s.length<=1000000
theorem Afj:∀d:Fin 256,Go.Lib.lowerB (UInt8.ofNat d.1)=RD (UInt8.ofNat d.1):=by decide +kernel
theorem Acj(s:List UInt8):Go.Lib.toLowerA s=bH s:=by
 unfold Go.Lib.toLowerA bH;refine UC λb _=>?_;have:=Afj ⟨b.toNat,b.toNat_lt⟩;simpa using this
def jb:aB:=λ_ xs ls K=>∃(s:List UInt8),xs=[.str s]/\ls=[]/\PT s/\∀r,r=bH s->K (.str r) []
theorem Amy:Ap Tryz.prog gl 195 jb:=by
 refine⟨⟨Tryz.f195,_,Tryz.func195,rfl,by kernel_rfl⟩,λxs ls K h=>?_⟩;obtain⟨s,rfl,rfl,hs,h⟩:=h;refine⟨_,_,h _ rfl,Bi λE B w aX _ _ _ hr=>?_⟩;obtain⟨v,rfl,hv⟩:=On hr;rw[Cy hv];refine (I6 ⟨s.toArray⟩ w (by have:=hs.len;show s.length<=_;omega) (λj b hj=>hs.a b (QL hj))).mono ?_;rintro e w' ⟨rfl,hB⟩;refine⟨_,rfl,λE=>.ro (.str ?_),hB⟩;show Value.string _=Value.string _;rw[<-Acj];rfl
def DX(x:HF):Bool:=CQ Mc (bH x.name)
def bc:aB:=λ_ xs ls K=>∃(a b:List UInt8),xs=[.agg [.str a,.str b]]/\ls=[]/\PT a/\∀r,r=DX ⟨a,b⟩->K (.bool (.a r)) []
theorem pg:Ap Tryz.prog gl 194 bc:=by
 refine Bq (gh:=[]) mixed Ck (Aa Amy Ae) Tryz.func194 (by kernel_rfl) (by kernel_rfl) ?_;intro xs ls K h;unfold bc at h;obtain⟨a,b,rfl,rfl,hs,h⟩:=h;obtain⟨k,hk⟩:∃k,k=DX ⟨a,b⟩:=⟨_,rfl⟩;refine⟨_,_,h k hk,λD hD=>?_⟩;clear h;cbv;refine⟨a,rfl,rfl,hs,λt ht=>?_⟩;cbv;have hk:k=CQ Mc t:=by rw[hk,ht];rfl
 clear ht;refine br hD (λh1=>?_) (λh1=>?_)<;>cbv
 .refine Ar hD ?_
  have h1:(t==[99,111,110,110,101,99,116,105,111,110])=true:=h1;have h1:=eq_of_beq h1;rw[hk,h1];decide
 have n0:¬ [99,111,110,110,101,99,116,105,111,110]=t:=λe=>by
  have h1:(t==[99,111,110,110,101,99,116,105,111,110])=false:=h1;rw[e]at h1;simp at h1
 clear h1;refine br hD (λh1=>?_) (λh1=>?_)<;>cbv
 .refine Ar hD ?_
  have h1:(t==[99,111,110,116,101,110,116,45,108,101,110,103,116,104])=true:=h1;have h1:=eq_of_beq h1;rw[hk,h1];decide
 have n1:¬ [99,111,110,116,101,110,116,45,108,101,110,103,116,104]=t:=λe=>by
  have h1:(t==[99,111,110,116,101,110,116,45,108,101,110,103,116,104])=false:=h1;rw[e]at h1;simp at h1
 clear h1;refine br hD (λh1=>?_) (λh1=>?_)<;>cbv
 .refine Ar hD ?_
  have h1:(t==[104,111,115,116])=true:=h1;have h1:=eq_of_beq h1;rw[hk,h1];decide
 have n2:¬ [104,111,115,116]=t:=λe=>by
  have h1:(t==[104,111,115,116])=false:=h1;rw[e]at h1;simp at h1
 clear h1;refine br hD (λh1=>?_) (λh1=>?_)<;>cbv
 .refine Ar hD ?_
  have h1:(t==[116,114,97,105,108,101,114])=true:=h1;have h1:=eq_of_beq h1;rw[hk,h1];decide
 have n3:¬ [116,114,97,105,108,101,114]=t:=λe=>by
  have h1:(t==[116,114,97,105,108,101,114])=false:=h1;rw[e]at h1;simp at h1
 clear h1;refine br hD (λh1=>?_) (λh1=>?_)<;>cbv
 .refine Ar hD ?_
  have h1:(t==[116,114,97,110,115,102,101,114,45,101,110,99,111,100,105,110,103])=true:=h1;have h1:=eq_of_beq h1;rw[hk,h1];decide
 have n4:¬ [116,114,97,110,115,102,101,114,45,101,110,99,111,100,105,110,103]=t:=λe=>by
  have h1:(t==[116,114,97,110,115,102,101,114,45,101,110,99,111,100,105,110,103])=false:=h1;rw[e]at h1;simp at h1
 clear h1;refine Ar hD ?_;rw[hk];unfold Mc fL;simp only[CQ,beq_eq_false_iff_ne.2 n0,beq_eq_false_iff_ne.2 n1,beq_eq_false_iff_ne.2 n2,beq_eq_false_iff_ne.2 n3,beq_eq_false_iff_ne.2 n4,Bool.or_false];rfl
def u9:List HF->Int->Int
 | [],_=>-1
 |x :: l,i=>if DX x then i else u9 l (i+1)
theorem Acy:∀(l:List HF) (i:Int),0<=i->decide (0<=u9 l i)=Wa l
 | [],i,_=>rfl
 |x :: l,i,h=>by
  unfold u9 Wa;rw[List.any_cons];have e:CQ Mc (bH x.name)=DX x:=rfl;rw[e]
  by_cases hb:DX x=true
  .rw[QC hb,hb];simpa using h
  .rw[QA hb]
   have:DX x=false:=by simpa using hb
   rw[this,UB];exact Acy l (i+1) (by omega)
structure Hr(l:List HF):Prop where
 h:∀x∈l,PT x.name
def zT:aB:=λ_ xs ls K=>∃(l:List HF) (nl:Bool) (n:Int) (f:Nat->List SV),xs=[.sl (.a nl) (.a n) 2 f,.fn 194]/\ls=[]/\A0 f n l/\Hr l/\∀r,r=u9 l 0->K (.int .i64 (.a r)) []
def TP(k:Int)(l:List HF)(nl:Bool)(n:Int)(f:Nat->List SV)(m:Nat)(vs:List (Option SV))(hp:List Hl):Prop :=
 ∃(i:Nat) (I:Int),vs=[some (.sl (.a nl) (.a n) 2 f),some (.fn 194),some (.int .i64 (.a n)),some (.int .i64 (.a I))]/\hp=[]/\AtR l i I m/\k=u9 (l.drop i) I
theorem l7:Ap Tryz.prog gl 246 zT:=by
 refine Bq (gh:=[]) mixed Ck (Aa pg Ae) Tryz.func246 (by kernel_rfl) (by kernel_rfl) ?_;intro xs ls K h;unfold zT at h;obtain⟨l,nl,n,f,rfl,rfl,R,hA,h⟩:=h;obtain⟨k,hk⟩:∃k,k=u9 l 0:=⟨_,rfl⟩;refine⟨_,_,h k hk,λD hD=>?_⟩;clear h;obtain⟨J,hJ⟩:∃J,J=TP k l nl n f:=⟨_,rfl⟩;cbv;refine⟨[0,1,7,8],J,⟨rfl,l.length,?_⟩,?_⟩
 .rw[hJ]
  subst hD;exact⟨0,0,rfl,rfl,AtR.zero R.len,hk⟩
 intro m vs hp hj;rw[hJ]at hj;obtain⟨i,I,rfl,rfl,V,aY⟩:=hj;clear hk;cbv;refine br hD (λh=>?_) (λh=>?_)<;>cbv
 .have aC:=V.lt R.n (QT (p:=I<n) h)
  clear h;refine⟨V.lY hD R.n aC,λj hj=>?_⟩;obtain rfl:=V.j hD hj;clear hj;have e1:=R.f j aC;have dN:l.getD j default∈l:=by rw[QD,QB aC];exact XO aC
  have eC:=hA.h _ dN;rw[Hg (d:=default) aC]at aY;obtain⟨x,hx⟩:∃x,x=l.getD j default:=⟨_,rfl⟩;rw[<-hx]at e1 aY eC;clear dN;obtain⟨a,b⟩:=x;cbv;rw[e1];cbv;refine⟨a,b,rfl,rfl,eC,λr hr=>?_⟩;cbv;unfold u9 at aY;rw[<-hr]at aY;clear hr;refine br hD (λh=>?_) (λh=>?_)<;>cbv
  .have h:r=true:=h
   rw[QC h]at aY;exact Bj hD aY.symm
  have h:¬r=true:=by have h:r=false:=h;rw[h];decide
  rw[QA h]at aY;obtain⟨g1,g2⟩:=V.step hD aC;refine⟨_,g1,?_⟩;rw[hJ];have e2:=V.I;have e3:=V.len;have e4:IntKind.i64.wrap (I+1)=I+1:=wrap64 (by omega) (by omega);subst hD;exact⟨j+1,_,rfl,rfl,g2,by rw[aY];show _=u9 _ (IntKind.i64.wrap (I+1));rw[e4]⟩
 .have hi:=V.eq R.n (XA (p:=I<n) h)
  rw[hi,XR]at aY;refine Bj hD ?_;rw[aY];rfl
def zY:aB:=λ_ xs ls K=>∃(l:List HF) (nl:Bool) (n:Int) (f:Nat->List SV),xs=[.sl (.a nl) (.a n) 2 f,.fn 194]/\ls=[]/\A0 f n l/\Hr l/\∀r,r=Wa l->K (.bool (.a r)) []
theorem nu:Ap Tryz.prog gl 193 zY:=by
 refine Bq (gh:=[]) mixed Ck (Aa l7 Ae) Tryz.func193 (by kernel_rfl) (by kernel_rfl) ?_;intro xs ls K h;unfold zY at h;obtain⟨l,nl,n,f,rfl,rfl,R,hA,h⟩:=h;obtain⟨k,hk⟩:∃k,k=Wa l:=⟨_,rfl⟩;refine⟨_,_,h k hk,λD hD=>?_⟩;clear h;cbv;refine⟨l,_,_,f,rfl,rfl,by subst hD;exact R,hA,λr hr=>?_⟩;cbv;refine Ar hD ?_;show decide (0<=r)=k;rw[hr,hk,Acy l 0 (by decide)]
def ba:aB:=λ_ xs ls K=>∃(l:List HF) (nl:Bool) (n:Int) (f:Nat->List SV),xs=[.sl (.a nl) (.a n) 2 f]/\ls=[]/\A0 f n l/\Hr l/\∀r,r=Wa l->K (.bool (.a r)) []
theorem Aog:Ap Tryz.prog gl 141 ba:=by
 refine Bq (gh:=[]) mixed Ck (Aa nu Ae) Tryz.func141 (by kernel_rfl) (by kernel_rfl) ?_;intro xs ls K h;unfold ba at h;obtain⟨l,nl,n,f,rfl,rfl,R,hA,h⟩:=h;refine⟨_,_,h _ rfl,λD hD=>?_⟩;clear h;obtain⟨k,hk⟩:∃k,k=Wa l:=⟨_,rfl⟩;rw[<-hk];cbv;refine⟨l,_,_,f,rfl,rfl,by subst hD;exact R,hA,λr hr=>?_⟩;cbv;exact Ar hD (hr.trans hk.symm)
set_option maxHeartbeats 16000000
theorem Zb{s:List UInt8}(h:Cb s=true):PT s:=by
 unfold Cb at h;simp only[QE,QG,List.all_eq_true,QO]at h;refine⟨λb hb=>?_,by omega⟩;have:=h.1 b hb;unfold Eu at this
 split at this
 .cases this
 .omega
theorem Ahs(b:List UInt8):∀(m p:Nat) (r:List HF),(∀x∈r,Cb x.name=true)->∀x∈(lE b m p r).1,Cb x.name=true
 |0,p,r,_,x,hx=>by simp[lE]at hx
 |m+1,p,r,hr,x,hx=>by
  unfold lE at hx
  split at hx
  .cases hx
  split at hx
  .cases hx
  split at hx
  .cases hx
  split at hx
  .exact hr x hx
  split at hx
  .cases hx
  rename_i g
  split at hx
  .cases hx
  refine Ahs b m _ _ (λy hy=>?_) x hx;rcases List.mem_append.1 hy with hy|hy
  .exact hr y hy
  .rw[List.mem_singleton.1 hy]
   simp only[XS,not_or,Bool.not_eq_true,XZ]at g;exact g.1.2
theorem Z2(b:List UInt8):Hr (A7 b).1:=⟨λx hx=>Zb (Ahs b _ _ _ (λy hy=>by cases hy) x hx)⟩
theorem Ac0(b:List UInt8):∀(m p:Nat) (r:List HF),(lE b m p r).2.2=10->b.length<=8192/\(lE b m p r).1=[]
 |0,p,r,h=>by simp[lE]at h
 |m+1,p,r,h=>by
  unfold lE at h ⊢
  split at h
  .cases h
  rename_i g1;rw[QA g1]
  split at h
  .rename_i g2
   rw[QC g2];refine⟨?_,rfl⟩;refine Decidable.byContradiction λhl=>g1 ?_;rw[YI g2,YI (show 8192<b.length by omega)];rfl
  rename_i g2;rw[QA g2]
  split at h
  .cases h
  rename_i g3;rw[QA g3]
  split at h
  .cases h
  rename_i g4;rw[QA g4]
  split at h
  .cases h
  rename_i g5;rw[QA g5]
  split at h
  .cases h
  rename_i g6;rw[QA g6];exact Ac0 b m _ _ h
theorem H4{b:List UInt8}(h:(A7 b).2.2=10):b.length<=8192/\(A7 b).1=[]:=Ac0 b _ _ _ h
theorem o6(hp:s.phase=3):cF s c =
  (if (A7 (s.line++[c])).2.2=10 then (⟨3,s.line++[c],s.data,s.left,s.aE⟩,0) else
   if (A7 (s.line++[c])).2.2≠0 then (s,(A7 (s.line++[c])).2.2) else
   if Wa (A7 (s.line++[c])).1 then (s,6) else
   if A9 (A7 (s.line++[c])).1≠0 then (s,A9 (A7 (s.line++[c])).1) else
   (⟨4,[],s.data,s.left,(A7 (s.line++[c])).1⟩,0)):=by
 unfold cF;rw[QA (by omega),QA (by omega),QA (by omega)]
theorem Z0:Ap Tryz.prog gl 189 (Li 3):=by
 refine Bu (gh:=[(14,[.pA 0 6 2])]) mixed Du (Al (Yq Qq) (Aa Aog (Aa Ia Ae))) Tryz.func189 (by kernel_rfl) (by kernel_rfl) ?_;intro xs ls K h;unfold Li at h;obtain⟨s,c,ci,ph,lf,l0,d0,tn,tl,tf,db,dl,gr,df,nn,nl,g,nf,fo,sz,rfl,rfl,rfl,V,hp,nG,hO,h⟩:=h;unfold Wm at h;have oC:=hO.p3 hp;obtain⟨mD,_⟩:=H4 oC;obtain⟨T,hT⟩:∃T,T=s.line++[c]:=⟨_,rfl⟩;have JX:T.length=s.line.length+1:=by rw[hT,QF];rfl
 have hc:=o6 (c:=c) hp;rw[<-hT]at hc;have hq:c≠10->T.length<=8192->(A7 T).2.2=10:=λh1 h2=>by rw[hT];exact Rx h1 (by omega) oC
 have yD:=Z2 T;have eC:=Jy (T.length+1) 0 [] T (by omega) (by simp) (λx hx=>by cases hx);have WU:=λh=>(H4 (b:=T) h).2;have WH:A7 T=lE T (T.length+1) 0 []:=rfl;rw[<-WH]at eC;obtain⟨q,WE⟩:∃q,q=A7 T:=⟨_,rfl⟩;rw[<-WE]at hc hq yD eC WU;clear WH;obtain⟨ql,qk,qe⟩:=q;simp only at hc hq yD eC WU;obtain⟨e,he⟩:∃e,e=(cF s c).2:=⟨_,rfl⟩;obtain⟨s',cD⟩:∃s',s'=(cF s c).1:=⟨_,rfl⟩;have h:=h e he;rw[<-cD]at h;rw[hc]at he cD;clear hc;have mX:fo=0:=by have:=V.uk;rwa [QA (by omega)]at this
 have bC:sz=0:=by have:=V.ot;rwa [QA (by omega)]at this
 have lG:e=0->s'.data=s.data/\((s'.phase=3/\s'.aE=s.aE)\/(s'.phase=4/\s'.aE=ql)):=by
  intro e0;rw[e0]at he
  by_cases g1:qe=10
  .rw[QC g1]at cD;rw[cD];exact⟨rfl,.inl ⟨rfl,rfl⟩⟩
  rw[QA g1]at cD he
  by_cases g2:qe=0
  .rw[QA (by simpa using g2)]at cD he
   by_cases g3:Wa ql=true
   .rw[QC g3]at he;cases he
   rw[QA g3]at cD he
   by_cases g4:A9 ql=0
   .rw[QA (by simpa using g4)]at cD;rw[cD];exact⟨rfl,.inr ⟨rfl,rfl⟩⟩
   .rw[QC g4]at he;exact absurd he.symm g4
  .rw[QC g2]at he;exact absurd he.symm g2
 obtain⟨L,lJ,gV,hK⟩:∃L:List Hl,(e≠0->L=[.gone,.gone,.gone])/\(e=0->∃eW gK nK iC gT jW dJ g' jL qV cH,L=[.aF 220 (yQ eW l0 d0 gK nK iC gT db dl jW dJ g' qV cH),.own 5 (.a dl) 1 gr df,.vec 5 (.a dJ) (.a g') 1 jL]/\
   Eo s' eW gK iC gT dl df dJ jL qV cH/\BX s s' tn nn g nK jW g' db)/\K (.int .i64 (.a e)) L:=by
  by_cases e0:e=0
  .obtain⟨k3,k4⟩:=lG e0
   rcases k4 with⟨k1,k2⟩|⟨k1,k2⟩
   .have V':Eo s' s'.phase s'.left tl tf dl df s'.line.length (aQ s'.line) (if s'.phase=0 then Bg s'.line else 0) (if s'.phase=0 then ((Bb s'.line).2:Int) else 0):=⟨rfl,rfl,by rw[k2];exact V.tr,by rw[k3];exact V.da,⟨rfl,λi _=>rfl⟩,rfl,rfl⟩
    have N':BX s s' tn nn g tn s'.line.isEmpty (g+1) db:=⟨nG,by rw[QA (by omega)],by rw[QA (by omega)],by rw[QA (by omega),QA (by omega)]⟩;exact⟨_,λh=>absurd e0 h,λ_=>⟨_,_,_,_,_,_,_,_,_,_,_,rfl,V',N'⟩,h.2 e0 _ _ _ _ _ _ _ _ _ _ _ _ _ _ V' N'⟩
   .have V':Eo s' s'.phase s'.left ql.length (M7 ql) dl df s'.line.length (aQ s'.line) (if s'.phase=0 then Bg s'.line else 0) (if s'.phase=0 then ((Bb s'.line).2:Int) else 0):=⟨rfl,rfl,by rw[k2];exact A0.row (by have:=eC.1;omega) (λi hi=>eC.2 _ (by rw[QD,QB hi];exact XO hi)),by rw[k3];exact V.da,⟨rfl,λi _=>rfl⟩,rfl,rfl⟩
    have N':BX s s' tn nn g ql.isEmpty s'.line.isEmpty (g+3) db:=⟨nG,by rw[QC k1,k2],by rw[QA (by omega)],by rw[QA (by omega),QC k1]⟩;exact⟨_,λh=>absurd e0 h,λ_=>⟨_,_,_,_,_,_,_,_,_,_,_,rfl,V',N'⟩,h.2 e0 _ _ _ _ _ _ _ _ _ _ _ _ _ _ V' N'⟩
  .exact⟨_,λ_=>rfl,λh=>absurd h e0,h.1 e0⟩
 have eQ:nl=s.line.length:=V.li.n;have VN:VI nl s.line.length:=⟨eQ⟩;have HL:dX s.line.length 8192:=⟨mD⟩;have HT:BR T.length (s.line.length+1):=⟨JX⟩;clear eQ mD JX oC lG h eC;refine⟨_,_,hK,λD hD=>?_⟩;clear hK;cbv;intro f3 eV;cbv;refine⟨by subst hD;exact⟨rfl,by show (nl+1) * 1<=_;rw[VN.h];have:=HL.h;omega,by show nl+1<=_;rw[VN.h];have:=HL.h;omega⟩,by subst hD;exact⟨rfl⟩,λf4 n4 hm g4 iD=>?_⟩;cbv;have nH:f3 0=[.int .u8 (.a (c.toNat:Int))]:=by rw[eV.h 0 _ rfl];subst hD;rfl
 have R4:Bo f4 n4 T:=by rw[hT];exact V.li.more (g:=f3) (u:=[c]) rfl (jV nH) (by subst hD;exact hm)
 have EG:oZ g4 (g+1):=⟨by subst hD;exact iD.h⟩;clear hm eV iD
 -- vg is left when all bytes are read and more is wanted
 have cj:qe=10->e=0/\s'=⟨3,T,s.data,s.left,s.aE⟩:=λh=>by rw[he,cD,QC h];exact⟨rfl,rfl⟩
 refine br hD (λhb=>?_) (λhb=>?_)<;>cbv
 .have hb:(((c.toNat:Int) != 10)&&decide (n4<=8192))=true:=by subst hD;exact hb
  rw[QE,bne_iff_ne,QG]at hb;obtain⟨e0,es⟩:=cj (hq (λh=>hb.1 (by rw[h];rfl)) (by have:=R4.n;omega));obtain⟨p3,l3,xQ,fz,ga,kM,qK,g3,qL,qU,qH,rfl,V3,N3⟩:=gV e0;have V2:Eo s' ph lf tl tf dl df n4 f4 fo sz:=by rw[es];exact⟨V.gM.trans hp,V.iG,V.tr,V.da,R4,by rw[QA (by show ¬(3:Int)=0;decide)];exact mX,by rw[QA (by show ¬(3:Int)=0;decide)];exact bC⟩
  have gL:kM=false:=by have:=N3.en;rw[QA (by omega),es]at this;rw[this];show T.isEmpty=false;rw[hT];simp
  have gA:g3=g+1:=by have:=N3.eg;rw[QA (by omega),es,QA (by show ¬(3:Int)=4;decide)]at this;exact this
  have IC:tn=xQ:=by have:=N3.et;rw[es,QA (by show ¬(3:Int)=4;decide)]at this;exact this.symm
  subst hD;exact J6 V2 V3 (by exact e0.symm) ⟨rfl,rfl⟩ ⟨rfl,rfl⟩ ⟨by exact IC,rfl,rfl⟩ ⟨rfl,rfl,rfl,rfl,rfl⟩ ⟨by rw[gL];exact ZO _,rfl,rfl,rfl,rfl⟩ ⟨by exact EG.h.trans gA.symm,by exact EG.h.trans gA.symm⟩ ⟨rfl,rfl⟩ ⟨rfl,rfl⟩
 clear hb hq;have HT2:dX T.length 1000000:=⟨by have:=HT.h;have:=HL.h;omega⟩;refine⟨_,_,_,_,_,_,_,f4,rfl,rfl,rfl,rfl,T,_,_,f4,rfl,rfl,by subst hD;exact R4,HT2.h,λl f5 n5 b5 k5 e5 yE G5=>?_⟩;rw[<-WE]at yE;simp only[Prod.mk.injEq]at yE;obtain⟨rfl,rfl,rfl⟩:=yE;clear WE
 by_cases kC:e5=10
 .refine .inl ⟨xi (by have:=G5.nl;rw[WU kC]at this;exact this),?_⟩
  cbv;refine br hD (λhb=>?_) (λhb=>?_)<;>cbv
  .obtain⟨e0,es⟩:=cj kC
   obtain⟨p3,l3,xQ,fz,ga,kM,qK,g3,qL,qU,qH,rfl,V3,N3⟩:=gV e0;have V2:Eo s' ph lf tl tf dl df n4 f4 fo sz:=by rw[es];exact⟨V.gM.trans hp,V.iG,V.tr,V.da,R4,by rw[QA (by show ¬(3:Int)=0;decide)];exact mX,by rw[QA (by show ¬(3:Int)=0;decide)];exact bC⟩
   have gL:kM=false:=by have:=N3.en;rw[QA (by omega),es]at this;rw[this];show T.isEmpty=false;rw[hT];simp
   have gA:g3=g+1:=by have:=N3.eg;rw[QA (by omega),es,QA (by show ¬(3:Int)=4;decide)]at this;exact this
   have IC:tn=xQ:=by have:=N3.et;rw[es,QA (by show ¬(3:Int)=4;decide)]at this;exact this.symm
   subst hD;exact J6 V2 V3 (by exact e0.symm) ⟨rfl,rfl⟩ ⟨rfl,rfl⟩ ⟨by exact IC,rfl,rfl⟩ ⟨rfl,rfl,rfl,rfl,rfl⟩ ⟨by rw[gL];exact ZO _,rfl,rfl,rfl,rfl⟩ ⟨by exact EG.h.trans gA.symm,by exact EG.h.trans gA.symm⟩ ⟨rfl,rfl⟩ ⟨rfl,rfl⟩
  .exfalso
   have hb:(e5==10)=false:=by subst hD;exact hb
   rw[kC]at hb;cases hb
 refine .inr ⟨rfl,λg6 JJ=>?_⟩;cbv;have EG6:oZ g6 (g+2):=⟨by
  have:=EG.h;have h6:g6=g4+1:=by subst hD;exact JJ.h
  omega⟩
 clear JJ cj;rw[QA kC]at he cD;refine br hD (λhb=>?_) (λhb=>?_)<;>cbv
 .exfalso
  have hb:(e5==10)=true:=by subst hD;exact hb
  exact kC (eq_of_beq hb)
 clear hb;refine br hD (λhb=>?_) (λhb=>?_)<;>cbv
 .have hb:(e5 != 0)=true:=by subst hD;exact hb
  rw[bne_iff_ne]at hb;rw[QC hb]at he;rw[lJ (by rw[he];exact hb)];subst hD;exact D5 he.symm
 have h0:e5=0:=by
  have hb:(e5 != 0)=false:=by subst hD;exact hb
  simpa using hb
 rw[QA (by simpa using h0)]at he cD;clear hb;refine⟨l,_,_,f5,rfl,rfl,by subst hD;exact G5.row,yD,λr hr=>?_⟩;cbv;rw[<-hr]at he cD;clear hr;refine br hD (λhb=>?_) (λhb=>?_)<;>cbv
 .have hb:r=true:=by subst hD;exact hb
  rw[QC hb]at he;rw[lJ (by rw[he];show ¬(6:Int)=0;decide)];subst hD;exact D5 he.symm
 have hrf:¬r=true:=by
  have hb:r=false:=by subst hD;exact hb
  rw[hb];decide
 rw[QA hrf]at he cD;clear hb hrf;refine⟨l,_,_,f5,rfl,rfl,by subst hD;exact G5.row,λr2 bZ=>?_⟩;cbv;rw[<-bZ]at he cD;clear bZ;refine br hD (λhb=>?_) (λhb=>?_)<;>cbv
 .have hb:(r2 != 0)=true:=by subst hD;exact hb
  rw[bne_iff_ne]at hb;rw[QC hb]at he;rw[lJ (by rw[he];exact hb)];subst hD;exact D5 he.symm
 have h2:r2=0:=by
  have hb:(r2 != 0)=false:=by subst hD;exact hb
  simpa using hb
 rw[QA (by simpa using h2)]at he cD;clear hb;intro g7 hg7;cbv;have EG7:g7=g+3:=by
  have:=EG6.h;have h6:g7=g6+1:=by subst hD;exact hg7.h
  omega
 clear hg7;obtain⟨p3,l3,xQ,fz,ga,kM,qK,g3,qL,qU,qH,rfl,V3,N3⟩:=gV he;have V2:Eo s' 4 lf n5 f5 dl df 0 (λ_=>[]) fo sz:=by rw[cD];exact⟨rfl,V.iG,G5.row,V.da,⟨rfl,λi hi=>by cases hi⟩,by rw[QA (by show ¬(4:Int)=0;decide)];exact mX,by rw[QA (by show ¬(4:Int)=0;decide)];exact bC⟩
 have gL:kM=true:=by have:=N3.en;rw[QA (by omega),cD]at this;rw[this];rfl
 have gA:g3=g+3:=by have:=N3.eg;rw[QA (by omega),cD,QC (by rfl)]at this;exact this
 have IC:b5=xQ:=by have:=N3.et;rw[cD,QC (by rfl)]at this;rw[this];exact G5.nl
 subst hD;exact J6 V2 V3 (by exact he.symm) ⟨rfl,rfl⟩ ⟨rfl,rfl⟩ ⟨by exact IC,rfl,rfl⟩ ⟨rfl,rfl,rfl,rfl,rfl⟩ ⟨by rw[gL];rfl,rfl,rfl,rfl,rfl⟩ ⟨by exact EG7.trans gA.symm,by exact EG7.trans gA.symm⟩ ⟨rfl,rfl⟩ ⟨rfl,rfl⟩
set_option maxHeartbeats 3000000
def vU:aB:=λ_ xs ls K=>∃(s:Ch) (ph lf:Int) (l0 d0:List UInt8) (tn:Bool) (tl:Int) (tf:Nat->List SV) (db:Bool) (dl:Int) (gr:Bool) (df:Nat->List SV) (nn:Bool) (nl g:Int) (nf:Nat->List SV) (fo sz:Int),
 xs=[.ptr 0 0]/\ls=[.aF 220 (yQ ph l0 d0 lf tn tl tf db dl nn nl g fo sz),.own 5 (.a dl) 1 gr df,.vec 5 (.a nl) (.a g) 1 nf]/\Eo s ph lf tl tf dl df nl nf fo sz/\
 K (.agg [.int .i64 (.a ph),.str s.line,.str s.data,.int .i64 (.a lf),.sl (.a tn) (.a tl) 2 tf]) [.gone,.gone,.gone]
theorem Ah0{a b c:Hl}(h:aM v v'):Fin v v' [a,b,c] [.gone,.gone,.gone]:=by
 refine⟨h,λh E w hk=>?_,QK _⟩
 match h with
 |0=>trivial
 |1=>trivial
 |2=>trivial
 |h+3=>exact hk
theorem Ale:Ap Tryz.prog gl 190 vU:=by
 refine Bu (gh:=[]) mixed Du Ae Tryz.func190 (by kernel_rfl) (by kernel_rfl) ?_;intro xs ls K h;unfold vU at h;obtain⟨s,ph,lf,l0,d0,tn,tl,tf,db,dl,gr,df,nn,nl,g,nf,fo,sz,rfl,rfl,V,h⟩:=h;refine⟨_,_,h,λD hD=>?_⟩;clear h;cbv;refine⟨⟨rfl⟩,⟨rfl⟩,by subst hD;exact V.li.byte,λr hr=>?_⟩;cbv;have e1:r=s.line:=V.li.str (by subst hD;exact hr);clear hr;refine⟨⟨rfl⟩,by subst hD;exact V.da.byte,λr2 bZ=>?_⟩;cbv;have e2:r2=s.data:=V.da.str (by subst hD;exact bZ);clear bZ;subst hD e1 e2;exact Ah0 (aM.refl _)
theorem ug(V:Eo s' p l tl tf dl df nl nf fo sz)(V':Eo s' p' l' iC gT yK gy dJ jL qV cH){i j:Nat}
  {ph:ST}   
  (he:aM v v') (h1:ph.den=p/\eW.den=p') (h2:lf.den=l/\gK.den=l') (h3:tn.den=nK.den/\iv.den=tl/\qG.den=iC) (h4:db.den=zG.den/\AL.den=dl/\vE.den=yK/\AK.den=dl/\vD.den=yK) (h5:nn.den=jW.den/\xm.den=nl/\uA.den=dJ/\xl.den=nl/\tZ.den=dJ)
  (h6:gt.den=zu.den/\gu.den=zt.den) (h7:z1.den=fo/\vC.den=qV) (h8:vp.den=sz/\tW.den=cH):
  Fin v v' [.aF 220 [.int .i64 ph,.str l0,.str d0,.int .i64 lf,.sl tn iv 2 tf,.bV db AL i,.cR nn xm gt j,.int .i64 z1,.int .i64 vp],.vec 5 xl gu 1 nf,.own 5 AK 1 gr df]
   [.aF 220 [.int .i64 eW,.str l0,.str d0,.int .i64 gK,.sl nK qG 2 gT,.bV zG vE i,.cR jW uA zu j,.int .i64 vC,.int .i64 tW],.vec 5 tZ zt 1 jL,.own 5 vD 1 gr gy]:=by
 have d1:=V.da.n;have d2:=V'.da.n;have n1:=V.li.n;have n2:=V'.li.n;refine⟨he,Ct (cL.cons (Ao (.cons (Af (by rw[h1.1,h1.2,V.gM,V'.gM])) (.cons (Cp _) (.cons (Cp _) (.cons (Af (by rw[h2.1,h2.2,V.iG,V'.iG])) (.cons (Fe V.tr V'.tr h3.1 h3.2.1 h3.2.2) (.cons (X9 h4.1 (by rw[h4.2.1,h4.2.2.1,d1,d2])) (.cons (RG h5.1 (by rw[h5.2.1,h5.2.2.1,n1,n2]) h6.1) (.cons (Af (by rw[h7.1,h7.2,V.uk,V'.uk])) (.cons (Af (by rw[h8.1,h8.2,V.ot,V'.ot])) .nil))))))))))
  (cL.cons (It (by rw[h5.2.2.2.1,h5.2.2.2.2,n1,n2]) h6.2 λi hi=>?_) (cL.cons (Zx (by rw[h4.2.2.2.1,h4.2.2.2.2,d1,d2]) λi hi=>?_) λ_ _ _ _ h=>h))),QK _⟩
 .rw[h5.2.2.2.1]at hi
  rw[V.li.f i (by omega),V'.li.f i (by omega)]
 .rw[h4.2.2.2.1]at hi
  rw[V.da.f i (by omega),V'.da.f i (by omega)]
def kx(s:Ch):Bool:=if s.phase=0 then s.line.isEmpty else false
def gB(s:Ch)(g:Int):Int:=if s.phase=0 then g+1+(s.line.length:Int) else g+2
def Ed(s:Ch)(i:Nat):Ch:=⟨0,s.line.take i,s.data,s.left,s.aE⟩
end Go.Proofs.YtdoogdbjiijifaaGreatDoor
