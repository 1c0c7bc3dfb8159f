/- Lemmas of the proof; no conditions. -/
import Derived.Test.YtdoogdbjiijifaaGreatDoorE9Pay
namespace Go.Proofs.YtdoogdbjiijifaaGreatDoor
open Go Go.Sx
set_option maxRecDepth 100000
set_option maxHeartbeats 8000000
def EH(mi st:Int)(re:List UInt8)(nl:Bool)(n:Int)(f:Nat->List SV):Hl:=.aF 25 [.int .i64 (.a mi),.int .i64 (.a st),.str re,.sl (.a nl) (.a n) 2 f]
def qw:aB:=λ_ xs ls K=>∃(m:List UInt8) (mi st:Int) (re:List UInt8) (nl:Bool) (n:Int) (f:Nat->List SV),xs=[.ptr 0 0,.ptr 1 0]/\ls=[.aF 9 [.str m],EH mi st re nl n f]/\
 ∀r,r=Zn m st->K (.bool (.a r)) [.aF 9 [.str m],EH mi st re nl n f]
theorem zy:Ap Tryz.prog gl 64 qw:=by
 refine Bu (gh:=[]) mixed Ck Ae Tryz.func64 (by kernel_rfl) (by kernel_rfl) ?_;intro xs ls K h;unfold qw at h;obtain⟨m,mi,st,re,nl,n,f,rfl,rfl,h⟩:=h;obtain⟨k,hk⟩:∃k,k=Zn m st:=⟨_,rfl⟩;refine⟨_,_,h k hk,λD hD=>?_⟩;clear h;unfold EH;cbv;subst hD hk;exact⟨Dh rfl,Ct (cL.cons (Ao (.cons (aM.refl _) .nil)) (cL.cons (Ao (.cons (aM.refl _) (.cons (aM.refl _) (.cons (aM.refl _) (.cons (aM.refl _) .nil))))) λ_ _ _ _ h=>h)),QK _⟩
def M6(mi:Int)(nI:List (List UInt8))(cA sized dF:Bool):Bool:=cA&&(((sized||(mi==0))||!dF)||!(nI==[Jj]))
def qv:aB:=λ_ xs ls K=>∃(kd:Int) (cA sized dF:Bool) (mi st:Int) (re:List UInt8) (nl:Bool) (n:Int) (f:Nat->List SV) (nI:List (List UInt8)) (cb:Bool) (cn:Int) (cf:Nat->List SV) (e:Int),
 xs=[.ptr 0 0,.ptr 1 0,.ptr 2 0,.ptr 3 0,.ptr 4 0,.ptr 5 0,.ptr 6 0]/\
 ls=[.aF 3 [.int .i64 (.a kd)],.aF 4 [.bool (.a cA)],.aF 4 [.bool (.a sized)],EH mi st re nl n f,.aF 4 [.bool (.a dF)],.aF 111 [.sl (.a cb) (.a cn) 1 cf],.aF 28 [.int .i64 (.a e)]]/\Dp cf cn nI/\
 ∀CP e',CP=(if M6 mi nI cA sized dF then 0 else 2)->e'=(if M6 mi nI cA sized dF then 6 else e)->
  K (.bool (.a cA)) [.aF 3 [.int .i64 (.a CP)],.aF 4 [.bool (.a cA)],.aF 4 [.bool (.a sized)],EH mi st re nl n f,.aF 4 [.bool (.a dF)],.aF 111 [.sl (.a cb) (.a cn) 1 cf],.aF 28 [.int .i64 (.a e')]]
theorem zx:Ap Tryz.prog gl 65 qv:=by
 refine Bu (gh:=[]) mixed Ck (Aa AG Ae) Tryz.func65 (by kernel_rfl) (by kernel_rfl) ?_;intro xs ls K h;unfold qv at h;obtain⟨kd,cA,sized,dF,mi,st,re,nl,n,f,nI,cb,cn,cf,e,rfl,rfl,R,h⟩:=h;obtain⟨k,hk⟩:∃k,k=M6 mi nI cA sized dF:=⟨_,rfl⟩;rw[<-hk]at h;refine⟨_,_,h _ _ rfl rfl,λD hD=>?_⟩;clear h;unfold EH;cbv;refine⟨λhg=>?_,λhg=>?_⟩<;>cbv
 .intro g gU
  cbv;have g0:g 0=[.str Jj]:=gU.h 0 _ rfl;have R2:Dp g 1 [Jj]:=⟨rfl,λi hi=>by
   have:i=0:=by simpa using hi
   subst this;exact g0,by decide⟩
  clear gU;refine⟨nI,[Jj],_,_,_,_,cf,g,rfl,rfl,by subst hD;exact R,by subst hD;exact R2,λx hx=>?_⟩;cbv;have mw:(cA&&(((sized||(mi==0))||!dF)||!x))=k:=by rw[hk,hx];rfl
  clear hk hx;refine br hD (λhb=>?_) (λhb=>?_)<;>cbv
  .have hb:(cA&&(((sized||(mi==0))||!dF)||!x))=true:=by subst hD;exact hb
   rw[hb]at mw;subst mw;subst hD;exact⟨Dh rfl,Ct (cL.cons (Ao (.cons (Af rfl) .nil)) (cL.cons (Ao (.cons (Dh rfl) .nil)) (cL.cons (Ao (.cons (aM.refl _) .nil)) (cL.cons (Ao (.cons (aM.refl _) (.cons (aM.refl _) (.cons (aM.refl _) (.cons (aM.refl _) .nil))))) (cL.cons (Ao (.cons (aM.refl _) .nil)) (cL.cons (Ao (.cons (aM.refl _) .nil)) (cL.cons (Ao (.cons (Af rfl) .nil)) λ_ _ _ _ h=>h))))))),QK _⟩
  .have hb:(cA&&(((sized||(mi==0))||!dF)||!x))=false:=by subst hD;exact hb
   rw[hb]at mw;subst mw;subst hD;exact⟨Dh rfl,Ct (cL.cons (Ao (.cons (Af rfl) .nil)) (cL.cons (Ao (.cons (Dh rfl) .nil)) (cL.cons (Ao (.cons (aM.refl _) .nil)) (cL.cons (Ao (.cons (aM.refl _) (.cons (aM.refl _) (.cons (aM.refl _) (.cons (aM.refl _) .nil))))) (cL.cons (Ao (.cons (aM.refl _) .nil)) (cL.cons (Ao (.cons (aM.refl _) .nil)) (cL.cons (Ao (.cons (Af rfl) .nil)) λ_ _ _ _ h=>h))))))),QK _⟩
 .have hg:(!(((sized||(mi==0))||!dF))&&cA)=false:=by subst hD;exact hg
  have R0:Dp (λ_=>[]) 0 []:=Dp.nil;refine⟨nI,[],_,_,_,_,cf,λ_=>[],rfl,rfl,by subst hD;exact R,by subst hD;exact R0,λx hx=>?_⟩;cbv;clear hx;have mw:(cA&&(((sized||(mi==0))||!dF)||!x))=k:=by
   rw[hk];unfold M6;cases cA
   .rfl
   .rw[Bool.and_true,XZ]at hg
    rw[hg];rfl
  refine br hD (λhb=>?_) (λhb=>?_)<;>cbv
  .have hb:(cA&&(((sized||(mi==0))||!dF)||!x))=true:=by subst hD;exact hb
   rw[hb]at mw;subst mw;subst hD;exact⟨Dh rfl,Ct (cL.cons (Ao (.cons (Af rfl) .nil)) (cL.cons (Ao (.cons (Dh rfl) .nil)) (cL.cons (Ao (.cons (aM.refl _) .nil)) (cL.cons (Ao (.cons (aM.refl _) (.cons (aM.refl _) (.cons (aM.refl _) (.cons (aM.refl _) .nil))))) (cL.cons (Ao (.cons (aM.refl _) .nil)) (cL.cons (Ao (.cons (aM.refl _) .nil)) (cL.cons (Ao (.cons (Af rfl) .nil)) λ_ _ _ _ h=>h))))))),QK _⟩
  .have hb:(cA&&(((sized||(mi==0))||!dF)||!x))=false:=by subst hD;exact hb
   rw[hb]at mw;subst mw;subst hD;exact⟨Dh rfl,Ct (cL.cons (Ao (.cons (Af rfl) .nil)) (cL.cons (Ao (.cons (Dh rfl) .nil)) (cL.cons (Ao (.cons (aM.refl _) .nil)) (cL.cons (Ao (.cons (aM.refl _) (.cons (aM.refl _) (.cons (aM.refl _) (.cons (aM.refl _) .nil))))) (cL.cons (Ao (.cons (aM.refl _) .nil)) (cL.cons (Ao (.cons (aM.refl _) .nil)) (cL.cons (Ao (.cons (Af rfl) .nil)) λ_ _ _ _ h=>h))))))),QK _⟩
def K3(len:List (List UInt8))(sized eJ:Bool):Int×Int:=if sized then (if eJ then Fs len else (0,6)) else (0,0)
def qu:aB:=λ_ xs ls K=>∃(kd l0 e0:Int) (sized eJ:Bool) (len:List (List UInt8)) (lb:Bool) (ln:Int) (lf:Nat->List SV),
 xs=[.ptr 0 0,.ptr 1 0,.ptr 2 0,.ptr 3 0,.ptr 4 0,.ptr 5 0]/\
 ls=[.aF 3 [.int .i64 (.a kd)],.aF 4 [.bool (.a sized)],.aF 111 [.sl (.a lb) (.a ln) 1 lf],.aF 4 [.bool (.a eJ)],.aF 3 [.int .i64 (.a l0)],.aF 28 [.int .i64 (.a e0)]]/\l0=0/\e0=0/\Dp lf ln len/\(∀x∈len,x.length<=9223372036854775807)/\
 ∀CP l' e',e'=(K3 len sized eJ).2->CP=(if e'=0 then 1 else 0)->l'=(if e'=0 then (K3 len sized eJ).1 else 0)->
  K (.bool (.a sized)) [.aF 3 [.int .i64 (.a CP)],.aF 4 [.bool (.a sized)],.aF 111 [.sl (.a lb) (.a ln) 1 lf],.aF 4 [.bool (.a eJ)],.aF 3 [.int .i64 (.a l')],.aF 28 [.int .i64 (.a e')]]
theorem zw:Ap Tryz.prog gl 67 qu:=by
 refine Bu (gh:=[]) mixed Ck (Aa Alm Ae) Tryz.func67 (by kernel_rfl) (by kernel_rfl) ?_;intro xs ls K h;unfold qu at h;obtain⟨kd,l0,e0,sized,eJ,len,lb,ln,lf,rfl,rfl,rF,mZ,R,eC,h⟩:=h;obtain⟨e',he⟩:∃k,k=(K3 len sized eJ).2:=⟨_,rfl⟩;obtain⟨CP,kF⟩:∃k:Int,k=(if e'=0 then 1 else 0):=⟨_,rfl⟩;obtain⟨l',hl⟩:∃k:Int,k=(if e'=0 then (K3 len sized eJ).1 else 0):=⟨_,rfl⟩;refine⟨_,_,h _ _ _ he kF hl,λD hD=>?_⟩;clear h;cbv;refine br hD (λhb=>?_) (λhb=>?_)<;>cbv
 .have hb:sized=true:=by subst hD;exact hb
  subst hb;refine⟨len,D.b (.a eJ),_,_,lf,rfl,rfl,by subst hD;exact R,eC,λr e cz=>?_⟩;cbv;have cz:(r,e)=if eJ then Fs len else (0,6):=by subst hD;exact cz
  have e1:K3 len true eJ=(r,e):=by rw[cz];rfl
  rw[e1]at he hl;have he:e'=e:=he;subst he;clear cz e1;refine br hD (λhb=>?_) (λhb=>?_)<;>cbv
  .have hb:(e' != 0)=true:=by subst hD;exact hb
   have hb:¬e'=0:=by simpa using hb
   rw[QA hb]at kF hl;subst kF hl;subst hD;exact⟨Dh rfl,Ct (cL.cons (Ao (.cons (Af rfl) .nil)) (cL.cons (Ao (.cons (aM.refl _) .nil)) (cL.cons (Ao (.cons (aM.refl _) .nil)) (cL.cons (Ao (.cons (aM.refl _) .nil)) (cL.cons (Ao (.cons (Af rfl) .nil)) (cL.cons (Ao (.cons (Af rfl) .nil)) λ_ _ _ _ h=>h)))))),QK _⟩
  .have hb:(e' != 0)=false:=by subst hD;exact hb
   have hb:e'=0:=by simpa using hb
   rw[QC hb]at kF hl;subst kF hl;subst hD;exact⟨Dh rfl,Ct (cL.cons (Ao (.cons (Af rfl) .nil)) (cL.cons (Ao (.cons (aM.refl _) .nil)) (cL.cons (Ao (.cons (aM.refl _) .nil)) (cL.cons (Ao (.cons (aM.refl _) .nil)) (cL.cons (Ao (.cons (Af rfl) .nil)) (cL.cons (Ao (.cons (Af rfl) .nil)) λ_ _ _ _ h=>h)))))),QK _⟩
 .have hb:sized=false:=by subst hD;exact hb
  subst hb;have he:e'=0:=he;rw[QC he]at kF hl;have hl:l'=0:=hl;refine br hD (λhb=>?_) (λhb=>?_)<;>cbv
  .exfalso
   have hb:(e0 != 0)=true:=by subst hD;exact hb
   rw[mZ]at hb;cases hb
  clear hb;subst he kF hl rF mZ;subst hD;exact⟨Dh rfl,Ct (cL.cons (Ao (.cons (Af rfl) .nil)) (cL.cons (Ao (.cons (aM.refl _) .nil)) (cL.cons (Ao (.cons (aM.refl _) .nil)) (cL.cons (Ao (.cons (aM.refl _) .nil)) (cL.cons (Ao (.cons (Af rfl) .nil)) (cL.cons (Ao (.cons (Af rfl) .nil)) λ_ _ _ _ h=>h)))))),QK _⟩
def pO:aB:=λ_ xs ls K=>∃(m:List UInt8) (hd:oL) (mi st:Int) (re:List UInt8) (nl:Bool) (n:Int) (f:Nat->List SV),xs=[.str m,T5 mi st re nl n f]/\ls=[]/\pt hd mi st n f/\m.length<=9223372036854775807/\
 ∀a b e,(a,b,e)=As m hd->K (.aI [.int .i64 (.a a),.int .i64 (.a b),.int .i64 (.a e)]) []
theorem CD{t1 t1' t2 t2' t3 t3':ST}(h1:t1.den=t1'.den)(h2:t2.den=t2'.den)(h3:t3.den=t3'.den):Fin (.aI [.int .i64 t1,.int .i64 t2,.int .i64 t3]) (.aI [.int .i64 t1',.int .i64 t2',.int .i64 t3']) [] [] :=
 Cm (.aI (.cons (Af h1) (.cons (Af h2) (.cons (Af h3) .nil))))
theorem Pi:∀(r:List (List UInt8)) (L:List (List UInt8)),Cc r=some L->∀x∈L,x.length<=9223372036854775807
 | [],L,h=>by cases h;intro x hx;cases hx
 |v :: r,L,h=>by
  unfold Cc at h
  split at h
  .cases hr:Cc r with
   |none=>rw[hr]at h;cases h
   |some L' =>
    rw[hr]at h;simp only[QQ,Option.some.injEq]at h;subst h;intro x hx;rcases List.mem_append.1 hx with hx|hx
    .obtain⟨y,hy,rfl⟩:=List.mem_map.1 hx
     have:=(Dr v).2 y hy;have h2:(bH y).length=y.length:=by unfold bH;simp
     omega
    .exact Pi r L' hr x hx
  .cases h
variable {l:List HF}{nI len:List (List UInt8)}{cA sized dF eJ:Bool}{lf tl:Int}{tf f:Nat->List SV}{s st:Rs}{i sz:Nat}{nl:BT}{cs:List SV}
theorem Aa1{t:List UInt8}(h:A9 l=0)(ht:Cb t=true)(hf:bH t=t):Ik l t=Dv l t:=by
 unfold Ik Wc;simp[h,ht,hf]
structure ML(l:List HF)(nI len:List (List UInt8))(cA sized dF eJ:Bool):Prop where
 a1:nI=(Cc (Dv l fL)).getD []
 a2:cA=!(Dv l fL).isEmpty
 a3:dF=(Cc (Dv l fL)).isSome
 b1:len=(Cc (Dv l iO)).getD []
 b2:sized=!(Dv l iO).isEmpty
 b3:eJ=(Cc (Dv l iO)).isSome
theorem af1{mi:Int}(P:ML l nI len cA sized dF eJ)(h:cA=true):
  Dv l fL≠[]/\(M6 mi nI cA sized dF=true↔(Dv l iO≠[]\/mi=0\/Cc (Dv l fL)≠some [Jj])):=by
 have ha:=P.a2;rw[h]at ha;refine⟨λe=>(by rw[e]at ha;cases ha),?_⟩;unfold M6;rw[h,P.a1,P.a3,P.b2];cases hv:Dv l iO<;>cases he:Cc (Dv l fL)<;>simp
theorem af3(P:ML l nI len cA sized dF eJ)(h:cA=false):Dv l fL=[]:=by
 have ha:=P.a2;rw[h]at ha;cases hv:Dv l fL with
 |nil=>rfl
 |cons a b=>rw[hv]at ha;cases ha
theorem af2(P:ML l nI len cA sized dF eJ)(h:sized=false):Dv l iO=[]:=by
 have ha:=P.b2;rw[h]at ha;cases hv:Dv l iO with
 |nil=>rfl
 |cons a b=>rw[hv]at ha;cases ha
theorem af0(P:ML l nI len cA sized dF eJ)(h:sized=true):
  Dv l iO≠[]/\(match Cc (Dv l iO) with
   |none=>((0:Int),(0:Int),(6:Int))
   |some l=>if (Fs l).2=0 then (1,(Fs l).1,0) else (0,0,(Fs l).2))=(if (K3 len sized eJ).2=0 then 1 else 0,if (K3 len sized eJ).2=0 then (K3 len sized eJ).1 else 0,(K3 len sized eJ).2):=by
 have ha:=P.b2;rw[h]at ha;refine⟨λe=>(by rw[e]at ha;cases ha),?_⟩;unfold K3;rw[h,P.b1,P.b3];cases he:Cc (Dv l iO) with
 |none=>rfl
 |some L =>
  simp only[XD,Option.isSome_some,if_true]
  by_cases g:(Fs L).2=0
  .rw[QC g,QC g,QC g,g]
  .rw[QA g,QA g,QA g]
theorem Vh:Ap Tryz.prog gl 19 pO:=by
 refine Bq (gh:=[(999984,[]),(999986,[.freeze 4])]) mixed Du (Aa Gt (Aa Akn (Aa Tk (Al zy (Al zx (Al zw Ae)))))) Tryz.func19 (by kernel_rfl) (by kernel_rfl) ?_;intro xs ls K h;unfold pO at h;obtain⟨m,hd,mi,st,re,nl,n,f,rfl,rfl,V,hm,h⟩:=h;obtain⟨k,hk⟩:∃k,k=As m hd:=⟨_,rfl⟩;obtain⟨ra,rb,rc⟩:=k;have h:=h ra rb rc hk;refine⟨_,_,h,λD hD=>?_⟩;clear h;unfold T5;cbv;refine⟨m,rfl,rfl,hm,λtk tJ=>?_⟩;cbv;unfold As at hk;rw[<-tJ]at hk;refine br hD (λhb=>?_) (λhb=>?_)<;>cbv
 .have hb:(!tk)=true:=by subst hD;exact hb
  rw[QC hb]at hk;simp only[Prod.mk.injEq]at hk;obtain⟨rfl,rfl,rfl⟩:=hk;subst hD;exact CD rfl rfl rfl
 have hb:(!tk)=false:=by subst hD;exact hb
 rw[QA (by rw[hb];decide)]at hk;clear hb;refine⟨hd,D.i (.a mi),D.i (.a st),re,D.b (.a nl),D.i (.a n),f,rfl,rfl,by subst hD;exact V,λe he=>?_⟩;cbv;rw[<-he]at hk;refine br hD (λhb=>?_) (λhb=>?_)<;>cbv
 .have hb:(e != 0)=true:=by subst hD;exact hb
  rw[QC (by simpa using hb)]at hk;simp only[Prod.mk.injEq]at hk;obtain⟨rfl,rfl,rfl⟩:=hk;subst hD;exact CD rfl rfl rfl
 have hb:(e != 0)=false:=by subst hD;exact hb
 have e0:e=0:=by simpa using hb
 rw[QA (by simpa using e0)]at hk;have nA:A9 hd.fields=0:=by
  rw[e0]at he;unfold Ib at he
  split at he
  .cases he
  .exact he.symm
 clear hb he;refine⟨hd.fields,_,_,f,fL,rfl,rfl,by subst hD;exact V.row,by decide,λnI cA dF cf cn cb sk G1=>?_⟩;cbv;refine⟨hd.fields,_,_,f,iO,rfl,rfl,by subst hD;exact V.row,by decide,λlen sized eJ lf ln lb jY G2=>?_⟩;cbv;have hT:Ik hd.fields fL=Dv hd.fields fL:=Aa1 nA (by decide +kernel) (by decide +kernel);have hL:Ik hd.fields iO=Dv hd.fields iO:=Aa1 nA (by decide +kernel) (by decide +kernel);have P:ML hd.fields nI len cA sized dF eJ:=by
  obtain⟨p1,p2,p3⟩:=sk;obtain⟨q1,q2,q3⟩:=jY;rw[hT]at p1 p2 p3;rw[hL]at q1 q2 q3;exact⟨p1,p2,p3,q1,q2,q3⟩
 clear sk jY hT hL;have eY:st=hd.status:=V.AF;have yw:mi=hd.minor:=V.DD;rw[<-eY,<-yw]at hk;clear eY yw nA;refine⟨m,D.i (.a mi),D.i (.a st),re,D.b (.a nl),D.i (.a n),f,rfl,rfl,λx1 mg=>?_⟩;cbv;have mg:x1=Zn m st:=by subst hD;exact mg
 rw[<-mg]at hk;refine br hD (λhb=>?_) (λhb=>?_)<;>cbv
 .have hb:x1=true:=by subst hD;exact hb
  rw[QC hb]at hk;simp only[Prod.mk.injEq]at hk;obtain⟨rfl,rfl,rfl⟩:=hk;subst hD;exact CD rfl rfl rfl
 have hb:x1=false:=by subst hD;exact hb
 rw[QA (by rw[hb];decide)]at hk;clear hb mg;refine⟨_,D.b (.a cA),D.b (.a sized),D.b (.a dF),_,_,re,_,_,f,nI,_,_,cf,_,rfl,rfl,by subst hD;exact G1.row,λgg e2 JE oT=>?_⟩;cbv;have dq:gg=if M6 mi nI cA sized dF then 0 else 2:=by subst hD;exact JE
 have tq:e2=if M6 mi nI cA sized dF then 6 else 0:=by subst hD;exact oT
 clear JE oT;refine br hD (λhb=>?_) (λhb=>?_)<;>cbv
 .have hb:cA=true:=by subst hD;exact hb
  obtain⟨p1,p2⟩:=af1 (mi:=mi) P hb;rw[QC p1]at hk
  by_cases hr:M6 mi nI cA sized dF=true
  .rw[QC (p2.1 hr)]at hk
   rw[QC hr]at dq tq;simp only[Prod.mk.injEq]at hk;obtain⟨rfl,rfl,rfl⟩:=hk;subst hD;exact CD dq rfl tq
  .rw[QA (λh=>hr (p2.2 h))]at hk
   rw[QA hr]at dq tq;simp only[Prod.mk.injEq]at hk;obtain⟨rfl,rfl,rfl⟩:=hk;subst hD;exact CD dq rfl tq
 have hb:cA=false:=by subst hD;exact hb
 have hr:M6 mi nI cA sized dF=false:=by rw[hb];rfl
 rw[hr,QA (by decide)]at tq;rw[QA (by rw[af3 P hb];simp)]at hk;clear dq hr;have kT:∀x∈len,x.length<=9223372036854775807:=by
  rw[P.b1];cases hl:Cc (Dv hd.fields iO) with
  |none=>intro x hx;cases hx
  |some L=>exact Pi _ L hl
 refine⟨_,_,_,_,_,len,_,_,lf,rfl,rfl,by subst hD;rfl,by subst hD;exact tq,by subst hD;exact G2.row,kT,λkd4 l4 e4 he4 aa7 ON=>?_⟩;cbv;have he5:e4=(K3 len sized eJ).2:=by subst hD;exact he4
 have hl5:l4=if e4=0 then (K3 len sized eJ).1 else 0:=by subst hD;exact ON
 clear he4 ON;refine br hD (λhb=>?_) (λhb=>?_)<;>cbv
 .have hb:sized=true:=by subst hD;exact hb
  obtain⟨p1,p2⟩:=af0 P hb;rw[QC p1]at hk;have hk:=hk.trans p2;rw[<-he5,<-hl5,<-aa7]at hk;simp only[Prod.mk.injEq]at hk;obtain⟨rfl,rfl,rfl⟩:=hk;subst hD;exact CD rfl rfl rfl
 .have hb:sized=false:=by subst hD;exact hb
  rw[QA (by rw[af2 P hb];simp)]at hk;simp only[Prod.mk.injEq]at hk;obtain⟨rfl,rfl,rfl⟩:=hk;subst hD;exact CD rfl rfl rfl
def Th(ph lf tl:Int)(ln dt:List UInt8):Bool:=((((ph==0)&&(ln==[]))&&(dt==[]))&&(lf==0))&&(tl==0)
def zL:aB:=λ_ xs ls K=>∃(ph lf:Int) (ln dt:List UInt8) (tn:Bool) (tl:Int) (tf:Nat->List SV),xs=[qY ph lf ln dt tn tl tf]/\ls=[]/\∀r,r=Th ph lf tl ln dt->K (.bool (.a r)) []
theorem gz:Ap Tryz.prog gl 133 zL:=by
 refine Bq (gh:=[]) mixed Du Ae Tryz.func133 (by kernel_rfl) (by kernel_rfl) ?_;intro xs ls K h;unfold zL at h;obtain⟨ph,lf,ln,dt,tn,tl,tf,rfl,rfl,h⟩:=h;obtain⟨k,hk⟩:∃k,k=Th ph lf tl ln dt:=⟨_,rfl⟩;refine⟨_,_,h k hk,λD hD=>?_⟩;clear h;unfold qY;cbv;exact Ar hD (by rw[hk];rfl)
theorem ia{s:Ch}{ph:Int}(h:s=qZ)(V:fw s ph lf tl tf):Th ph lf tl s.line s.data=true:=by
 subst h;have h1:ph=0:=V.gM;have h2:lf=0:=V.iG;have h3:tl=0:=V.tr.n;rw[h1,h2,h3];rfl
structure gD(s:Rs)(x:bB):Prop where
 m:x.m=s.method
 ph:x.ph=s.phase
 inf:x.inf=s.infos
 ln:x.ln=s.line
 mi:x.mi=s.head.minor
 st:x.st=s.head.status
 re:x.re=s.head.reason
 fl:A0 x.ff x.fl s.head.fields
 fr:x.fr=s.aD
 bo:x.bo=s.body
 lf:x.lf=s.left
 cl:x.cl=s.chunks.line
 cd:x.cd=s.chunks.data
 cv:fw s.chunks x.cp x.cf x.ct x.ctf
def vV:aB:=λ_ xs ls K=>∃(m:List UInt8),xs=[.str m]/\ls=[]/\m.length<=9223372036854775807/\
 ∀y e,y=(if Cb m then Py m else Py [])->e=(if Cb m then 0 else 2)->K (.aI [kL y,.int .i64 (.a e)]) []
theorem Alf:Ap Tryz.prog gl 22 vV:=by
 refine Bq (gh:=[]) mixed Du (Aa Gt Ae) Tryz.func22 (by kernel_rfl) (by kernel_rfl) ?_;intro xs ls K h;unfold vV at h;obtain⟨m,rfl,rfl,hm,h⟩:=h;obtain⟨tk,tJ⟩:∃tk,tk=Cb m:=⟨_,rfl⟩;obtain⟨y,hy⟩:∃y,y=(if tk then Py m else Py []):=⟨_,rfl⟩;obtain⟨e,he⟩:∃e:Int,e=(if tk then 0 else 2):=⟨_,rfl⟩;have h:=h y e (by rw[<-tJ];exact hy) (by rw[<-tJ];exact he);refine⟨_,_,h,λD hD=>?_⟩;clear h;cbv;refine⟨m,rfl,rfl,hm,λx hx=>?_⟩;cbv;obtain rfl:x=tk:=hx.trans tJ.symm;refine br hD (λhb=>?_) (λhb=>?_)<;>cbv
 .have hb:(!x)=true:=by subst hD;exact hb
  rw[QA (by simpa using hb)]at hy he;subst hy he;subst hD;exact Cm (.aI (.cons (aM.refl _) (.cons (Af rfl) .nil)))
 .have hb:(!x)=false:=by subst hD;exact hb
  rw[QC (by simpa using hb)]at hy he;subst hy he;subst hD;exact Cm (.aI (.cons (aM.refl _) (.cons (Af rfl) .nil)))
theorem FH(m:List UInt8):gD (FI m) (Py m):=⟨rfl,rfl,rfl,rfl,rfl,rfl,rfl,Ta,rfl,rfl,rfl,rfl,rfl,⟨rfl,rfl,Ta⟩⟩
theorem Amu(h:A9 l=0):Hr l:=⟨λx hx=>Zb (((Ic l).1 h).2.1 x hx).name⟩
structure MP(s:Ch)(e:Int):Prop where
 a:e=0\/e=6
 o:e=0↔D7 s
def nM:aB:=λ_ xs ls K=>∃(s:Ch) (ln dt:List UInt8) (ph lf:Int) (tn:Bool) (tl:Int) (tf:Nat->List SV),xs=[qY ph lf ln dt tn tl tf]/\ls=[]/\ln=s.line/\dt=s.data/\fw s ph lf tl tf/\dX ln.length 1000000/\dX dt.length 9223372036854775807/\
 ∀e,MP s e->K (.int .i64 (.a e)) []
theorem Ad0:Ap Tryz.prog gl 134 nM:=by
 refine Bq (gh:=[]) mixed Du (Al Uj Ae) Tryz.func134 (by kernel_rfl) (by kernel_rfl) ?_;intro xs ls K h;unfold nM at h;obtain⟨s,ln,dt,ph,lf,tn,tl,tf,rfl,rfl,fN,mG,V,HL,HD,h⟩:=h;obtain⟨k,hk⟩:∃k,MP s k:=by
  by_cases g:D7 s
  .exact⟨0,.inl rfl,λ_=>g,λ_=>rfl⟩
  .exact⟨6,.inr rfl,λe=>absurd e (by decide),λq=>absurd q g⟩
 refine⟨_,_,h k hk,λD hD=>?_⟩;clear h;unfold qY;cbv;refine⟨s,ln,dt,D.i (.a ph),D.i (.a lf),D.b (.a tn),D.i (.a tl),tf,rfl,rfl,fN,mG,by subst hD;exact V.gM,by subst hD;exact V.iG,by subst hD;exact V.tr,HL,HD,λO jK dl df nl nf fo sz nn g hR gL hg=>?_,λnO=>?_⟩<;>cbv
 .exact Bj hD (hk.o.2 O).symm
 .exact Bj hD (hk.a.resolve_left λe=>nO (hk.o.1 e)).symm
set_option maxHeartbeats 12000000
theorem Hc{b:List UInt8}(h:(Au b).2.2=10):b.length<=8500:=by
 by_cases g:Lib.indexByte (b.take 302) 10<0
 .rw[Pz g]at h
  by_cases k:302<=b.length
  .rw[QC k]at h;cases h
  .omega
 .obtain⟨p,hp⟩:∃p:Nat,Lib.indexByte (b.take 302) 10=(p:Int):=⟨(Lib.indexByte (b.take 302) 10).toNat,by omega⟩
  obtain⟨h1,h2,h3⟩:=T8 hp;rw[h3]at h;unfold Yk at h
  split at h
  .cases h
  split at h
  .have:=(H4 (b:=b.drop (p+1)) h).1
   rw[QX]at this;omega
  .cases h
theorem Mu(s:List UInt8):Bo (aQ s) s.length s:=⟨rfl,λ_i _=>rfl⟩
def iz:aB:=λ_ xs ls K=>∃(s:Rs) (x:bB),xs=[kL x]/\ls=[]/\gD s x/\Ce s/\s.method.length<=9223372036854775807/\K (.bool (.a true)) []
theorem Ail{s:Ch}{ph:Int}(V:fw s ph lf tl tf):Th ph lf tl s.line s.data=true↔s=qZ:=by
 refine⟨λh=>?_,λh=>ia h V⟩;have h1:=V.gM;have h2:=V.iG;have h3:=V.tr.n;obtain⟨p,l,d,f,t⟩:=s;unfold Th at h;simp only[QE,QO]at h h1 h2 h3;have ht:t=[]:=XH (by omega);unfold qZ;simp only[Ch.mk.injEq];exact⟨by omega,by simp_all,by simp_all,by omega,ht⟩
structure RsT(s:Rs):Prop where
 tok:Cb s.method=true
 i0:0<=s.infos
 i1:s.infos<=10
theorem wh(T:RsT s)(h:s.phase=0):Ce s↔((Au s.line).2.2=10/\s.head=jU/\s.aD=0/\s.body=[]/\s.left=0/\s.chunks=qZ) :=
 ⟨λO=>O.p0 h,λg=>⟨T.tok,T.i0,T.i1,.inl h,λ_=>g,λe=>absurd h e,λe=>absurd h e,λe=>absurd h e,λe=>absurd h e,λe=>absurd h e⟩⟩
structure BK(s:Rs):Prop where
 t:RsT s
 ph:s.phase=1\/s.phase=2
 p1:s.line=[]/\200<=s.head.status/\Ds s.head.reason=true/\s.head.reason.length<=287/\(As s.method s.head).2.2=0/\(As s.method s.head).1=s.aD/\
  (s.aD≠2->s.chunks=qZ)/\(s.aD≠1->s.left=0)
theorem BK.n(P:BK s):s.phase≠0:=by have:=P.ph;omega
theorem BK.k(P:BK s):s.aD=0\/s.aD=1\/s.aD=2\/s.aD=3:=by
 have:=Jb s.method s.head
 rwa [P.p1.2.2.2.2.2.1]at this
theorem BK.ok(P:BK s)(f0:s.aD=0->s.phase=2/\s.body=[])(f1:s.aD=1->0<=s.left/\s.left<=(As s.method s.head).2.1/\(s.body.length:Int)=(As s.method s.head).2.1-s.left/\(s.phase=2↔s.left=0))
  (f2:s.aD=2->s.body=[]/\D7 s.chunks/\(s.phase=2↔s.chunks.phase=4)) (f3:s.aD=3->s.body.length<=65536):Ce s :=
 ⟨P.t.tok,P.t.i0,P.t.i1,.inr P.ph,λe=>absurd e P.n,λ_=>P.p1,λ_=>f0,λ_=>f1,λ_=>f2,λ_=>f3⟩
structure DT(s:Rs)(k:Bool):Prop where
 h:k=true↔Ce s
theorem DT.no{k:Bool}(h:DT s k)(g:¬Ce s):k=false:=by
 cases k with
 |true=>exact absurd (h.h.1 rfl) g
 |false=>rfl
theorem DT.eq{k b:Bool}(h:DT s k)(g:b=true↔Ce s):b=k:=by
 rw[XY];exact g.trans h.h.symm
def rQ:aB:=λ_ xs ls K=>∃(s:Rs) (x:bB),xs=[kL x]/\ls=[]/\gD s x/\s.method.length<=9223372036854775807/\dX s.line.length 1000000/\dX s.chunks.line.length 1000000/\dX s.chunks.data.length 9223372036854775807/\
 dX s.body.length 9223372036854775807/\∀k,DT s k->K (.bool (.a k)) []
theorem Pv:Ap Tryz.prog gl 75 rQ:=by
 refine Bq (gh:=[]) mixed Du (Aa Gt (Aa Ahu (Aa gz (Aa Agu (Aa Vh (Aa Ad0 Ae)))))) Tryz.func75 (by kernel_rfl) (by kernel_rfl) ?_;intro xs ls K h;unfold rQ at h;obtain⟨s,x,rfl,rfl,V,hm,HL,HC,HD,HB,h⟩:=h;obtain⟨k,hk⟩:∃k,DT s k:=by
  by_cases g:Ce s
  .exact⟨true,λ_=>g,λ_=>rfl⟩
  .exact⟨false,λe=>(by cases e),λq=>absurd q g⟩
 refine⟨_,_,h k hk,λD hD=>?_⟩;clear h;obtain⟨m,ph,inf,ln,mi,st,re,fb,fl,ff,fr,bo,lf,cp,cl,cd,cf,cb,ct,ctf⟩:=x;unfold kL;cbv;have CU:m=s.method:=V.m;refine⟨m,rfl,rfl,by rw[CU];exact hm,λtk tJ=>?_⟩;cbv;have ab0:inf=s.infos:=V.inf;have IB:tk=Cb s.method:=by rw[tJ,CU]
 clear tJ;refine br hD (λhb=>?_) (λhb=>?_)<;>cbv
 .have hb:((!tk||decide (inf<0))||decide (10<inf))=true:=by subst hD;exact hb
  refine Ar hD (hk.no λO=>?_).symm;have h0:=O.i0;have h1:=O.i1;rw[IB,O.tok]at hb;simp only[YK,UB,XS,QG]at hb;omega
 have T:RsT s:=by
  have hb:((!tk||decide (inf<0))||decide (10<inf))=false:=by subst hD;exact hb
  rw[QU,QU,QJ,QJ,XZ]at hb;exact⟨by rw[<-IB];exact hb.1.1,by omega,by omega⟩
 clear hb;have eB:ph=s.phase:=V.ph;have fN:ln=s.line:=V.ln;have yw:mi=s.head.minor:=V.mi;have eY:st=s.head.status:=V.st;have cz:re=s.head.reason:=V.re;have lT:fl=s.head.fields.length:=V.fl.n;have cI:fr=s.aD:=V.fr;have jH:bo=s.body:=V.bo;have mE:lf=s.left:=V.lf;have qR:cl=s.chunks.line:=V.cl;have ua:cd=s.chunks.data:=V.cd;have uY:fw s.chunks cp cf ct ctf:=V.cv;have uE:=Ail uY;rw[<-qR,<-ua]at uE;refine br hD (λhb=>?_) (λhb=>?_)<;>cbv
 .have hb:(ph==0)=true:=by subst hD;exact hb
  have p0:s.phase=0:=by rw[<-eB];exact eq_of_beq hb
  clear hb;rw[<-fN]at HL;refine⟨⟨by have:=HL.h;omega⟩,λg hg=>?_⟩;cbv;have oE:g=aQ ln:=hg.h;obtain⟨N,VN⟩:∃N:Int,VI N ln.length:=⟨_,⟨rfl⟩⟩;have R:Bo g N ln:=by rw[oE];exact⟨VN.h,λi _=>rfl⟩
  clear hg oE;refine⟨ln,_,_,g,rfl,rfl,by subst hD;exact⟨rfl,R.f⟩,by have:=HL.h;omega,λhd u e mi2 st2 SQ f1 n1 b1 hh HV=>?_⟩;cbv;have he:e=(Au s.line).2.2:=by rw[<-fN,<-hh]
  clear hh HV;refine⟨D.i (.a cp),D.i (.a cf),cl,cd,D.b (.a cb),D.i (.a ct),ctf,rfl,rfl,λz yR=>?_⟩;cbv;have yR:z=Th cp cf ct cl cd:=by subst hD;exact yR
  refine Ar hD (hk.eq ?_);rw[wh T p0,<-he];have hh0:s.head=jU↔mi=0/\st=0/\re=[]/\fl=0:=by
   rw[yw,eY,cz,lT];obtain⟨a,b,c,d⟩:=s.head;unfold jU;simp only[oL.mk.injEq];constructor
   .rintro⟨rfl,rfl,rfl,rfl⟩;exact⟨rfl,rfl,rfl,rfl⟩
   .rintro⟨rfl,rfl,rfl,h4⟩
    have h4:(d.length:Int)=0:=h4;exact⟨rfl,rfl,rfl,XH (by omega)⟩
  rw[hh0,<-uE,<-yR,<-cI,<-jH,<-mE];show ((((((((((e==10)&&(mi==0))&&(st==0))&&(re==[]))&&(fl==0))&&(fr==0))&&(bo==[]))&&(lf==0))&&z)=true↔_);simp only[QE,QO]
  grind
 .have hb:(ph==0)=false:=by subst hD;exact hb
  have p0:s.phase≠0:=by rw[<-eB];simpa using hb
  clear hb;refine⟨re,rfl,rfl,λpl gP=>?_⟩;cbv;refine br hD (λhb=>?_) (λhb=>?_)<;>cbv
  .have hb:((((((ph != 1)&&(ph != 2))||(ln != []))||decide (st<200))||!pl)||decide (287<(re.length:Int)))=true:=by subst hD;exact hb
   refine Ar hD (hk.no λO=>?_).symm;obtain⟨q1,q2,q3,q4,_⟩:=O.p1 p0;have aU5:s.phase=1\/s.phase=2:=O.ph.resolve_left p0;rw[eB,fN,q1,eY,gP,cz,q3]at hb;simp at hb;omega
  have hb:((((((ph != 1)&&(ph != 2))||(ln != []))||decide (st<200))||!pl)||decide (287<(re.length:Int)))=false:=by subst hD;exact hb
  have P0:(s.phase=1\/s.phase=2)/\s.line=[]/\200<=s.head.status/\Ds s.head.reason=true/\s.head.reason.length<=287:=by
   rw[eB,fN,eY,gP,cz]at hb;simp only[QU,ZA,bne_eq_false_iff_eq,QJ,XZ]at hb;obtain⟨⟨⟨⟨a,b⟩,c⟩,d⟩,e⟩:=hb;exact⟨a,b,by omega,d,by omega⟩
  clear hb gP;refine⟨m,s.head,D.i (.a mi),D.i (.a st),re,D.b (.a fb),D.i (.a fl),ff,rfl,rfl,by subst hD;exact⟨V.mi,V.st,V.fl⟩,by rw[CU];exact hm,λkd le e hf=>?_⟩;cbv;rw[CU]at hf;have he:e=(As s.method s.head).2.2:=by rw[<-hf]
  have kF:kd=(As s.method s.head).1:=by rw[<-hf]
  have hle:le=(As s.method s.head).2.1:=by rw[<-hf]
  clear hf;refine⟨D.i (.a cp),D.i (.a cf),cl,cd,D.b (.a cb),D.i (.a ct),ctf,rfl,rfl,λz yR=>?_⟩;cbv;have yR:z=Th cp cf ct cl cd:=by subst hD;exact yR
  rw[<-yR]at uE;clear yR;refine br hD (λhb=>?_) (λhb=>?_)<;>cbv
  .have hb:((((e != 0)||(kd != fr))||((kd != 2)&&!z))||((kd != 1)&&(lf != 0)))=true:=by subst hD;exact hb
   refine Ar hD (hk.no λO=>?_).symm;obtain⟨_,_,_,_,q5,q6,q7,q8⟩:=O.p1 p0;rw[he,q5,kF,q6,cI,mE]at hb;have h3:s.aD≠2->z=true:=λg=>uE.2 (q7 g);simp at hb;rcases hb with⟨a,b⟩|⟨a,b⟩
   .rw[h3 a]at b;cases b
   .exact b (q8 a)
  have hb:((((e != 0)||(kd != fr))||((kd != 2)&&!z))||((kd != 1)&&(lf != 0)))=false:=by subst hD;exact hb
  have P:BK s:=by
   simp only[QU,ZA,bne_eq_false_iff_eq,XZ]at hb;obtain⟨⟨⟨a,b⟩,c⟩,d⟩:=hb;obtain⟨P1,P2,P3,P4,P5⟩:=P0;refine⟨T,P1,P2,P3,P4,P5,by rw[<-he];exact a,by rw[<-kF,b,cI],λg=>uE.1 (c.resolve_left λq=>g (by rw[<-cI,<-b];exact q)),λg=>by rw[<-mE];exact d.resolve_left λq=>g (by rw[<-cI,<-b];exact q)⟩
  have OO:kd=fr:=by
   simp only[QU,bne_eq_false_iff_eq]at hb;exact hb.1.1.2
  clear hb P0 uE he;subst OO;refine br hD (λhb=>?_) (λhb=>?_)<;>cbv
  .have hb:(kd==0)=true:=by subst hD;exact hb
   have fD:s.aD=0:=by rw[<-cI];exact eq_of_beq hb
   refine Ar hD (hk.eq ?_);show (((ph==2)&&(bo==[]))=true↔_);rw[eB,jH,QE,QO,QO];exact⟨λg=>P.ok (λ_=>g) (λe=>by omega) (λe=>by omega) (λe=>by omega),λO=>O.f0 p0 fD⟩
  have JU:(kd==0)=false:=by subst hD;exact hb
  clear hb;refine br hD (λhb=>?_) (λhb=>?_)<;>cbv
  .have hb:(kd==1)=true:=by subst hD;exact hb
   have fH:s.aD=1:=by rw[<-cI];exact eq_of_beq hb
   refine Ar hD (hk.eq ?_);have aa3:=Hn s.method s.head;rw[<-hle]at aa3;show (((decide (0<=lf)&&decide (lf<=le))&&((bo.length:Int)==IntKind.i64.wrap (le-lf))&&((ph==2)==(lf==0)))=true↔_);rw[QE,QE,QE,QG,QG,QO,QO,XY,QO,QO,eB,jH];have hw:0<=lf->lf<=le->IntKind.i64.wrap (le-lf)=le-lf:=λa b=>wrap64 (by omega) (by omega);constructor
   .rintro⟨⟨⟨a,b⟩,c⟩,d⟩
    rw[hw a b]at c;refine P.ok (λe=>by omega) (λ_=>⟨by omega,by omega,by omega,by rw[<-mE];exact d⟩) (λe=>by omega) (λe=>by omega)
   .intro O
    obtain⟨f1,f2,f3,f4⟩:=O.f1 p0 fH;refine⟨⟨⟨by omega,by omega⟩,?_⟩,by rw[mE];exact f4⟩;rw[hw (by omega) (by omega)];omega
  have lU:(kd==1)=false:=by subst hD;exact hb
  clear hb;refine br hD (λhb=>?_) (λhb=>?_)<;>cbv
  .have hb:(kd==2)=true:=by subst hD;exact hb
   have aY:s.aD=2:=by rw[<-cI];exact eq_of_beq hb
   refine⟨s.chunks,cl,cd,D.i (.a cp),D.i (.a cf),D.b (.a cb),D.i (.a ct),ctf,rfl,rfl,qR,ua,by subst hD;exact uY,by rw[qR];exact HC,by rw[ua];exact HD,λe2 oT=>?_⟩;cbv;refine Ar hD (hk.eq ?_);show ((((bo==[])&&(e2==0))&&((ph==2)==(cp==4)))=true↔_);have h4:cp=s.chunks.phase:=uY.gM;rw[QE,QE,QO,QO,QO,XY,QO,QO,eB,jH,h4,oT.o];exact⟨λg=>P.ok (λe=>by omega) (λe=>by omega) (λ_=>⟨g.1.1,g.1.2,g.2⟩) (λe=>by omega),λO=>by obtain⟨a,b,c⟩:=O.f2 p0 aY;exact⟨⟨a,b⟩,c⟩⟩
  .have hb:(kd==2)=false:=by subst hD;exact hb
   have lG:s.aD=3:=by
    have:=P.k;rw[<-cI]at this ⊢;simp only[beq_eq_false_iff_ne]at hb JU lU;omega
   refine Ar hD (hk.eq ?_);show (decide ((bo.length:Int)<=65536)=true↔_);rw[QG,jH];exact⟨λg=>P.ok (λe=>by omega) (λe=>by omega) (λe=>by omega) (λ_=>by omega),λO=>by have:=O.f3 p0 lG;omega⟩
theorem Xu(O:Ce s):s.line.length<=1000000/\s.chunks.line.length<=1000000/\s.chunks.data.length<=65536/\s.body.length<=65536:=by
 by_cases h0:s.phase=0
 .obtain⟨a,_,_,b,_,c⟩:=O.p0 h0
  rw[b,c];exact⟨XP (Hc a) (by decide),by decide,by decide,by decide⟩
 obtain⟨a,_,_,_,_,q,c,_⟩:=O.p1 h0;have hc:s.chunks.line.length<=1000000/\s.chunks.data.length<=65536:=by
  by_cases h2:s.aD=2
  .exact⟨Q6 (O.f2 h0 h2).2.1,(O.f2 h0 h2).2.1.data⟩
  .rw[c h2];exact⟨by decide,by decide⟩
 refine⟨by rw[a];exact XX _,hc.1,hc.2,?_⟩;have hk:=Jb s.method s.head;have hl:=Hn s.method s.head;rw[q]at hk;rcases hk with k|k|k|k
 .rw[(O.f0 h0 k).2];exact XX _
 .obtain⟨f1,f2,f3,_⟩:=O.f1 h0 k
  omega
 .rw[(O.f2 h0 k).1];exact XX _
 .exact O.f3 h0 k
theorem Tl:Ap Tryz.prog gl 75 iz:=by
 refine⟨Pv.1,λxs ls K h=>Pv.2 xs ls K ?_⟩;obtain⟨s,x,hx,hl,V,O,hm,h⟩:=h;obtain⟨a,b,c,d⟩:=Xu O;exact⟨s,x,hx,hl,V,hm,⟨a⟩,⟨b⟩,⟨XP c (by decide)⟩,⟨XP d (by decide)⟩,λk hk=>by have q:=hk.h.2 O;subst q;exact h⟩
set_option maxHeartbeats 8000000
def FN(k b:Int):Int:=if k=0\/(k=1/\b=0) then 2 else 1
def sG:aB:=λ_ xs ls K=>∃(x:bB) (nb:Bool) (n:Int) (f:Nat->List SV) (nn:Bool) (nl g:Int) (nf:Nat->List SV) (hd:oL) (mi st:Int) (re:List UInt8) (hb:Bool) (hn:Int) (hf:Nat->List SV),
 xs=[.ptr 0 0,T5 mi st re hb hn hf]/\ls=[.aF 125 (Kj x nb n f nn nl g),.vec 5 (.a nl) (.a g) 1 nf]/\pt hd mi st hn hf/\x.m.length<=9223372036854775807/\
 ∀a b e,(a,b,e)=As x.m hd->(e≠0->K (.int .i64 (.a e)) [.gone,.gone])/\
  (e=0->∀p,p=FN a b->K (.int .i64 (.a 0)) [.aF 125 (Kj { x with ph:=p,mi:=mi,st:=st,re:=re,fb:=hb,fl:=hn,ff:=hf,fr:=a,lf:=b } nb n f nn nl g),.vec 5 (.a nl) (.a g) 1 nf])
theorem Aks:Ap Tryz.prog gl 135 sG:=by
 refine Bu (gh:=[]) mixed Du (Aa Vh Ae) Tryz.func135 (by kernel_rfl) (by kernel_rfl) ?_;intro xs ls K h;unfold sG at h;obtain⟨x,nb,n,f,nn,nl,g,nf,hd,mi,st,re,hb,hn,hf,rfl,rfl,V,hm,h⟩:=h;obtain⟨k,hk⟩:∃k,k=As x.m hd:=⟨_,rfl⟩;obtain⟨a,b,e⟩:=k;have h:=h a b e hk;obtain⟨p,hp⟩:∃p,p=FN a b:=⟨_,rfl⟩;obtain⟨L,lJ,gV,hK⟩:∃L:List Hl,(e≠0->L=[.gone,.gone])/\(e=0->L=[.aF 125 (Kj { x with ph:=p,mi:=mi,st:=st,re:=re,fb:=hb,fl:=hn,ff:=hf,fr:=a,lf:=b } nb n f nn nl g),.vec 5 (.a nl) (.a g) 1 nf])/\K (.int .i64 (.a e)) L:=by
  by_cases e0:e=0
  .refine⟨_,λh=>absurd e0 h,λ_=>rfl,?_⟩
   rw[e0];exact h.2 e0 p hp
  .exact⟨_,λ_=>rfl,λh=>absurd h e0,h.1 e0⟩
 refine⟨_,_,hK,λD hD=>?_⟩;clear hK h;obtain⟨m,ph,inf,ln,mi0,st0,re0,fb,fl,ff,fr,bo,lf,cp,cl,cd,cf,cb,ct,ctf⟩:=x;unfold T5;simp only at hk hm;cbv;refine⟨m,hd,D.i (.a mi),D.i (.a st),re,D.b (.a hb),D.i (.a hn),hf,rfl,rfl,by subst hD;exact V,hm,λa2 b2 e2 aY=>?_⟩;cbv;obtain⟨rfl,rfl,rfl⟩:a2=a/\b2=b/\e2=e:=by
  have:=aY.trans hk.symm;simp only[Prod.mk.injEq]at this;exact this
 clear aY;refine br hD (λeE=>?_) (λeE=>?_)<;>cbv
 .have eE:(e2 != 0)=true:=by subst hD;exact eE
  rw[lJ (by simpa using eE)];subst hD;exact Kt rfl
 have e0:e2=0:=by
  have eE:(e2 != 0)=false:=by subst hD;exact eE
  simpa using eE
 clear eE;refine br hD (λeE=>?_) (λeE=>?_)<;>cbv
 .have eE:((a2==0)||((a2==1)&&(b2==0)))=true:=by subst hD;exact eE
  have pU:p=2:=by
   rw[hp];unfold FN;rw[QC (by simpa using eE)]
  rw[gV e0];subst pU;subst hD;exact⟨Af (by exact e0.symm),Ct (cL.cons (Ao (Rt rfl rfl rfl rfl (aM.refl _) rfl rfl rfl rfl (aM.refl _) (aM.refl _) (aM.refl _))) (cL.cons (It rfl rfl λ_ _=>rfl) λ_ _ _ _ h=>h)),QK _⟩
 .have eE:((a2==0)||((a2==1)&&(b2==0)))=false:=by subst hD;exact eE
  have pU:p=1:=by
   rw[hp];unfold FN;rw[QA (by
    rw[<-Bool.not_eq_true]at eE;simpa using eE)]
  rw[gV e0];subst pU;subst hD;exact⟨Af (by exact e0.symm),Ct (cL.cons (Ao (Rt rfl rfl rfl rfl (aM.refl _) rfl rfl rfl rfl (aM.refl _) (aM.refl _) (aM.refl _))) (cL.cons (It rfl rfl λ_ _=>rfl) λ_ _ _ _ h=>h)),QK _⟩
set_option maxHeartbeats 1000000
def El(s:Rs):List UInt8->Rs×Nat×Int
 | []=>(s,0,0)
 |c :: b=>if (aZ s c).2≠0 then (s,0,(aZ s c).2) else if (aZ s c).1.phase≠0 then ((aZ s c).1,1,0) else
  ((El (aZ s c).1 b).1,(El (aZ s c).1 b).2.1+1,(El (aZ s c).1 b).2.2)
def Z3(s:Rs)(nn:Bool)(g:Int):List UInt8->Bool×Int
 | []=>(nn,g)
 |c :: b=>if (Au (s.line++[c])).2.2=10 then Z3 (aZ s c).1 false (g+1) b else if (aZ s c).1.phase≠0 then (true,g+3) else Z3 (aZ s c).1 true (g+3) b
theorem T7{b:List UInt8}(h:s.phase=2\/b=[]):Ah s b=(s,0,0):=by
 cases b with
 |nil=>rfl
 |cons c b =>
  rcases h with h|h
  .rw[Ah,QC h]
  .cases h
structure aj4(s:Rs)(b:List UInt8)(k:Rs×Nat×Int):Prop where
 le:k.2.1<=b.length
 eq:Ah s b=((Ah k.1 (b.drop k.2.1)).1,k.2.1+(Ah k.1 (b.drop k.2.1)).2.1,(Ah k.1 (b.drop k.2.1)).2.2)
 all:k.1.phase=0->k.2.1=b.length
 one:b≠[]->1<=k.2.1
 ok:Ce s->Ce k.1
theorem NS:∀(b:List UInt8) (s:Rs),s.phase=0->((El s b).2.2≠0->(Ah s b).2.2=(El s b).2.2)/\((El s b).2.2=0->aj4 s b (El s b))
 | [],s,h=>⟨λh=>absurd rfl h,λ_=>⟨QK _,rfl,λ_=>rfl,λh=>absurd rfl h,λh=>h⟩⟩
 |c :: b,s,h=>by
  rw[El];have hr:Ah s (c :: b)=if (aZ s c).2≠0 then (s,0,(aZ s c).2) else ((Ah (aZ s c).1 b).1,(Ah (aZ s c).1 b).2.1+1,(Ah (aZ s c).1 b).2.2):=by
   rw[Ah,QA (by omega)]
  by_cases h1:(aZ s c).2=0
  .rw[QA (by simpa using h1)]
   rw[QA (by simpa using h1)]at hr;have gE:Ce s->Ce (aZ s c).1:=λO=>Kf O (by omega) (by rw[<-h1])
   by_cases h2:(aZ s c).1.phase=0
   .rw[QA (by simpa using h2)]
    obtain⟨i1,i2⟩:=NS b (aZ s c).1 h2;refine⟨λh3=>?_,λh3=>?_⟩
    .rw[hr];exact i1 h3
    .obtain⟨j1,j2,j3,j4,j5⟩:=i2 h3
     refine⟨by simp only[QH];omega,?_,λh4=>by have:=j3 h4;simp only[QH];omega,λ_=>Nat.succ_le_succ (XX _),λO=>j5 (gE O)⟩;rw[hr,j2];simp only[UR];refine YJ rfl (YJ ?_ rfl);show _+_+1=_+1+_;omega
   .rw[QC h2]
    refine⟨λh3=>absurd rfl h3,λ_=>⟨by simp,?_,λh3=>absurd h3 h2,λ_=>QK _,gE⟩⟩;rw[hr];simp only[UR,ZT];refine YJ rfl (YJ ?_ rfl);show _+1=1+_;omega
  .rw[QC h1]
   rw[QC h1]at hr;exact⟨λ_=>by rw[hr],λh3=>absurd h3 h1⟩
structure Lg(s:Rs)(b:List UInt8)(st:Rs)(i:Nat):Prop where
 le:i<=b.length
 eq:Ah s b=((Ah st (b.drop i)).1,i+(Ah st (b.drop i)).2.1,(Ah st (b.drop i)).2.2)
 ok:Ce st
theorem Lg.zero(b:List UInt8)(h:Ce s):Lg s b s 0:=⟨XX _,by rw[ZT,XF],h⟩
theorem Lg.trans{t:Rs}{b:List UInt8}{j:Nat}(h:Lg s b st i)(k:Lg st (b.drop i) t j):Lg s b t (i+j):=by
 have h1:=k.le;rw[QX]at h1;have h2:=h.le;refine⟨by omega,?_,k.ok⟩;rw[h.eq,k.eq,ZD];refine YJ rfl (YJ ?_ rfl);show i+(j+_)=i+j+_;omega
theorem Lg.err{b:List UInt8}(h:Lg s b st i){e:Int}(k:(Ah st (b.drop i)).2.2=e):(Ah s b).2.2=e:=by rw[h.eq];exact k
theorem Lg.fin{b:List UInt8}(h:Lg s b st i)(k:st.phase=2\/b.drop i=[]):Ah s b=(st,i,0):=by
 rw[h.eq,T7 k];rfl
theorem Af0{b:List UInt8}(O:Ce s)(h:s.phase=0)(k:(El s b).2.2=0):Lg s b (El s b).1 (El s b).2.1:=by
 have:=(NS b s h).2 k;exact⟨this.le,this.eq,this.ok O⟩
theorem Z5{b:List UInt8}(O:Ce s)(h:Ah s b=(st,i,0))(k:st.phase=2\/i=b.length):Lg s b st i:=by
 have h1:=Aly b s;rw[h]at h1;have h1:i<=b.length:=h1;have h2:=Ok b s O (by rw[h]);rw[h]at h2;have hk:st.phase=2\/b.drop i=[]:=k.imp (λk=>k) (λk=>by rw[k,XR]);refine⟨h1,?_,h2⟩;rw[h,T7 hk];rfl
theorem Ag3(O:Ce s)(h1:s.phase=1)(h2:s.aD=1):1<=s.left/\s.left+(s.body.length:Int)<=65536:=by
 obtain⟨q1,q2,q3,q4⟩:=O.f1 (by omega) h2;have h3:=Hn s.method s.head;have h4:s.left≠0:=λe=>by have:=q4.2 e;omega
 omega
theorem Afz{b:List UInt8}(O:Ce s)(h1:s.phase=1)(h2:s.aD=1){k:Nat}(hk:(k:Int)=min s.left (b.length:Int)):
  Lg s b { s with body:=s.body++b.take k,left:=s.left-(k:Int),phase:=if s.left-(k:Int)=0 then 2 else 1 } k/\(b≠[]->1<=k):=by
 obtain⟨q1,q2⟩:=Ag3 O h1 h2;have hr:=Ai4 b s h1 h2 q1 q2;have e:min s.left.toNat b.length=k:=by omega
 rw[e]at hr;refine⟨Z5 O hr ?_,λhb=>?_⟩
 .show (if s.left-(k:Int)=0 then (2:Int) else 1)=2\/k=b.length
  by_cases e0:s.left-(k:Int)=0
  .left;rw[QC e0]
  .right;omega
 .have:1<=b.length:=by
   cases b with
   |nil=>exact absurd rfl hb
   |cons c b=>simp
  omega
theorem Ac6{b:List UInt8}(O:Ce s)(h1:s.phase=1)(h2:s.aD=3):(s.body.length+b.length<=65536->Lg s b { s with body:=s.body++b } b.length)/\(65536<s.body.length+b.length->(Ah s b).2.2=3):=by
 obtain⟨q1,q2⟩:=Ae3 b s h1 h2;exact⟨λh=>Z5 O (q1 h) (.inr rfl),λh=>q2 h (O.f3 (by omega) h2)⟩
theorem Y2:∀(b:List UInt8) (s:Ch),(Bm s b).2.2=0->(Bm s b).1.phase≠4->(Bm s b).2.1=b.length
 | [],s,_,_=>rfl
 |c :: b,s,h,h4=>by
  unfold Bm at h h4 ⊢
  by_cases e:s.phase=4
  .rw[QC e]at h4;exact absurd e h4
  rw[QA e]at h h4 ⊢
  by_cases e2:(cF s c).2=0
  .rw[QA (by simpa using e2)]at h h4 ⊢
   have:=Y2 b (cF s c).1 h h4;simp only[QH];omega
  .rw[QC e2]at h
   exact absurd h e2
theorem Z6{b:List UInt8}(O:Ce s)(h1:s.phase=1)(h2:s.aD=2):((Bm s.chunks b).2.2=0->Lg s b { s with chunks:=(Bm s.chunks b).1,phase:=if (Bm s.chunks b).1.phase=4 then 2 else 1 } (Bm s.chunks b).2.1)/\((Bm s.chunks b).2.2≠0->(Ah s b).2.2=(Bm s.chunks b).2.2):=by
 obtain⟨f1,f2,f3⟩:=O.f2 (by omega) h2;obtain⟨q1,q2⟩:=Abs b s h1 h2 (λe=>by have:=f3.2 e;omega);refine⟨λh=>Z5 O (q1 h) ?_,q2⟩;show (if (Bm s.chunks b).1.phase=4 then (2:Int) else 1)=2\/(Bm s.chunks b).2.1=b.length
 by_cases e0:(Bm s.chunks b).1.phase=4
 .left;rw[QC e0]
 .right;exact Y2 b _ h e0
theorem Abv(O:Ce s):s.head.fields=[]\/A9 s.head.fields=0:=by
 by_cases h:s.phase=0
 .left;rw[(O.p0 h).2.1];rfl
 .right
  obtain⟨_,_,_,_,q5,_⟩:=O.p1 h;unfold As at q5
  split at q5
  .cases q5
  split at q5
  .rename_i h1;exact absurd q5 h1
  .rename_i h1
   have h1:Ib s.head=0:=by simpa using h1
   unfold Ib at h1
   split at h1
   .cases h1
   .exact h1
theorem Abw(O:Ce s):s.chunks=qZ\/D7 s.chunks:=by
 by_cases h:s.phase=0
 .left;exact (O.p0 h).2.2.2.2.2
 .by_cases h2:s.aD=2
  .right;exact (O.f2 h h2).2.1
  .left;exact (O.p1 h).2.2.2.2.2.2.1 h2
theorem Ww(O:Ce s):s.chunks.aE=[]\/A9 s.chunks.aE=0:=by
 rcases Abw O with h|h
 .left;rw[h];rfl
 .rcases h.gN with h4|h4
  .exact .inr (h.p4 h4).2.1
  .exact .inl h4
theorem Ua(h:l=[]\/A9 l=0):∃n f,A0 f n l:=by
 rcases h with h|h
 .subst h;exact⟨_,_,Ta⟩
 .have h1:=(Ic l).1 h
  exact⟨_,_,A0.row (by have:=h1.1;omega) (λi hi=>by
   have hm:l.getD i default∈l:=by rw[QD,QB hi];exact XO hi
   have h2:=(Amu h).h _ hm;have h3:=h1.2.1 _ hm;exact⟨by have:=h2.len;omega,by have:=h3.len;omega⟩)⟩
theorem Ag2(O:Ce s):∃fl ff ct ctf,A0 ff fl s.head.fields/\A0 ctf ct s.chunks.aE:=by
 obtain⟨n1,f1,h1⟩:=Ua (Abv O);obtain⟨n2,f2,h2⟩:=Ua (Ww O);exact⟨_,_,_,_,h1,h2⟩
theorem RI{k:IntKind}{t:ST}:Nc (.int k t):=⟨λE E' w v hr=>by rw[hr.aT];exact .ro (.int rfl)⟩
theorem FW{s:List UInt8}:Nc (.str s):=⟨λE E' w v hr=>by rw[Cy hr];exact .ro (.str rfl)⟩
theorem xk{n:ST}(h:nl.den=true):Nc (.sl nl n sz f):=⟨λE E' w v hr=>by
 rcases hr.bF.bF with⟨e1,e2,_⟩|⟨_,_,_,_,_,e1,_⟩
 .rw[e1];exact .ro (.slnil h (by simpa using e2))
 .rw[h]at e1;cases e1⟩
theorem FX(h:∀s∈cs,Nc s):Nc (.agg cs):=⟨λE E' w v hr=>by
 obtain⟨vs,hv,hl,hq⟩:∃vs:List Value,v=.agg ⟨vs⟩/\cs.length=vs.length/\∀(i:Nat) (s:SV) (u:Value),cs[i]?=some s->vs[i]?=some u->Rel E w s u:=by
  cases hr with
  |ro h=>cases h with|agg hl hq=>exact⟨_,rfl,hl,λi s u a b=>.ro (hq i s u a b)⟩
  |agg hl hq=>exact⟨_,rfl,hl,hq⟩
 subst hv;exact .agg hl λi s u a b=>(h s (QL a)).h _ _ _ _ (hq i s u a b)⟩
theorem FU(h:∀s∈cs,Nc s):Nc (.aI cs):=⟨λE E' w v hr=>by
 obtain⟨vs,hv,hl,hq⟩:∃vs:List Value,v=.tuple ⟨vs⟩/\cs.length=vs.length/\∀(i:Nat) (s:SV) (u:Value),cs[i]?=some s->vs[i]?=some u->Rel E w s u:=by
  cases hr with
  |ro h=>cases h
  |aI hl hq=>exact⟨_,rfl,hl,hq⟩
 subst hv;exact .aI hl λi s u a b=>(h s (QL a)).h _ _ _ _ (hq i s u a b)⟩
theorem xh{n:ST}{k1 k2 k3 k4:IntKind}{a b c d:ST}{re:List UInt8}(h:nl.den=true):Nc (.aI [.agg [.int k1 a,.int k2 b,.str re,.sl nl n sz f],.int k3 c,.int k4 d]):=by
 refine FU λs hs=>?_;simp only[XT,ZU,or_false]at hs;rcases hs with rfl|rfl|rfl
 .refine FX λs hs=>?_
  simp only[XT,ZU,or_false]at hs;rcases hs with rfl|rfl|rfl|rfl
  .exact RI
  .exact RI
  .exact FW
  .exact xk h
 .exact RI
 .exact RI
end Go.Proofs.YtdoogdbjiijifaaGreatDoor
