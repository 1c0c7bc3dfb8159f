/- Part of the proofs of the statements about responses and messages (layers 9 and 10): a symbolic executor over the code, that it is sound, and contracts of functions; it has no conditions of its own. -/
import Derived.Test.YtdoogdbjiijifaaGreatDoorE3Pbh
import Derived.Test.YtdoogdbjiijifaaGreatDoorE3Pbg
namespace Go.Proofs.YtdoogdbjiijifaaGreatDoor
open Go Go.Sx
set_option maxRecDepth 100000
set_option maxHeartbeats 16000000
theorem Ae7{s:List UInt8}(h:Bg s=true):Ag4 s:=by
 unfold Bg at h;simp only[Bool.and_eq_true,decide_eq_true_eq,List.all_eq_true,beq_iff_eq]at h;refine⟨λb hb=>?_,by omega⟩;have:=h.1 b hb;unfold Di at this
 split at this
 ·cases this
 ·omega
theorem Agf(b:List UInt8):∀(m p:Nat) (r:List HF),(∀x∈r,Bg x.name=true)->∀x∈(hpG b m p r).1,Bg x.name=true
 |0,p,r,_,x,hx=>by simp[hpG]at hx
 |m+1,p,r,hr,x,hx=>by
  unfold hpG at hx
  split at hx
  ·cases hx
  split at hx
  ·cases hx
  split at hx
  ·cases hx
  split at hx
  ·exact hr x hx
  split at hx
  ·cases hx
  rename_i g
  split at hx
  ·cases hx
  refine Agf b m _ _ (λy hy=>?_) x hx;rcases List.mem_append.1 hy with hy|hy
  ·exact hr y hy
  ·rw[List.mem_singleton.1 hy]
   simp only[Bool.or_eq_true,not_or,Bool.not_eq_true,Bool.not_eq_false']at g;exact g.1.2
theorem Yu(b:List UInt8):Ih (Av b).1:=⟨λx hx=>Ae7 (Agf b _ _ _ (λy hy=>by cases hy) x hx)⟩
theorem Abh(b:List UInt8):∀(m p:Nat) (r:List HF),(hpG b m p r).2.2=10->b.length<=8192/\(hpG b m p r).1=[]
 |0,p,r,h=>by simp[hpG]at h
 |m+1,p,r,h=>by
  unfold hpG at h ⊢
  split at h
  ·cases h
  rename_i g1;rw[if_neg g1]
  split at h
  ·rename_i g2
   rw[if_pos g2];refine⟨?_,rfl⟩;refine Decidable.byContradiction λhl=>g1 ?_;rw[decide_eq_true g2,decide_eq_true (show 8192<b.length by omega)];rfl
  rename_i g2;rw[if_neg g2]
  split at h
  ·cases h
  rename_i g3;rw[if_neg g3]
  split at h
  ·cases h
  rename_i g4;rw[if_neg g4]
  split at h
  ·cases h
  rename_i g5;rw[if_neg g5]
  split at h
  ·cases h
  rename_i g6;rw[if_neg g6];exact Abh b m _ _ h
theorem Hr{b:List UInt8}(h:(Av b).2.2=10):b.length<=8192/\(Av b).1=[]:=Abh b _ _ _ h
theorem chS_tr3{s:Ch}{c:UInt8}(hp:s.phase=3):chS s c =
  (if (Av (s.line++[c])).2.2=10 then (⟨3,s.line++[c],s.data,s.left,s.trailers⟩,0) else
   if (Av (s.line++[c])).2.2≠0 then (s,(Av (s.line++[c])).2.2) else
   if We (Av (s.line++[c])).1 then (s,6) else
   if A6 (Av (s.line++[c])).1≠0 then (s,A6 (Av (s.line++[c])).1) else
   (⟨4,[],s.data,s.left,(Av (s.line++[c])).1⟩,0)):=by
 unfold chS;rw[if_neg (by omega),if_neg (by omega),if_neg (by omega)]
theorem Ys:Ay Tryz.prog gl 189 (Kw 3):=by
 refine Ez (gh:=[(14,[.vnil 0 6 2])]) mixed C6 (Bm (Xh P6) (Ab Amx (Ab O8 Ai))) Tryz.func189 (by kernel_rfl) (by kernel_rfl) ?_;intro xs ls K h;unfold Kw at h;obtain⟨s,c,ci,ph,lf,l0,d0,tn,tl,tf,db,dl,gr,df,nn,nl,g,nf,fo,sz,rfl,rfl,rfl,V,hp,hdb,hO,h⟩:=h;unfold Vc at h;have hmore:=hO.p3 hp;obtain⟨hll,_⟩:=Hr hmore;obtain⟨T,hT⟩:∃T,T=s.line++[c]:=⟨_,rfl⟩;have hTl:T.length=s.line.length+1:=by rw[hT,List.length_append];rfl
 have hc:=chS_tr3 (c:=c) hp;rw[<-hT]at hc;have hq:c≠10->T.length<=8192->(Av T).2.2=10:=λh1 h2=>by rw[hT];exact Q7 h1 (by omega) hmore
 have hnm:=Yu T;have hsm:=Hc (T.length+1) 0 [] T (by omega) (by simp) (λx hx=>by cases hx);have hmr:=λh=>(Hr (b:=T) h).2;have hpq:Av T=hpG T (T.length+1) 0 []:=rfl;rw[<-hpq]at hsm;obtain⟨q,hqe⟩:∃q,q=Av T:=⟨_,rfl⟩;rw[<-hqe]at hc hq hnm hsm hmr;clear hpq;obtain⟨ql,qk,qe⟩:=q;simp only at hc hq hnm hsm hmr;obtain⟨e,he⟩:∃e,e=(chS s c).2:=⟨_,rfl⟩;obtain⟨s',hs'⟩:∃s',s'=(chS s c).1:=⟨_,rfl⟩;have h:=h e he;rw[<-hs']at h;rw[hc]at he hs';clear hc;have hfo:fo=0:=by have:=V.efo;rwa [if_neg (by omega)]at this
 have hsz:sz=0:=by have:=V.esz;rwa [if_neg (by omega)]at this
 have hk3:e=0->s'.data=s.data/\((s'.phase=3/\s'.trailers=s.trailers)\/(s'.phase=4/\s'.trailers=ql)):=by
  intro e0;rw[e0]at he
  by_cases g1:qe=10
  ·rw[if_pos g1]at hs';rw[hs'];exact⟨rfl,.inl ⟨rfl,rfl⟩⟩
  rw[if_neg g1]at hs' he
  by_cases g2:qe=0
  ·rw[if_neg (by simpa using g2)]at hs' he
   by_cases g3:We ql=true
   ·rw[if_pos g3]at he;cases he
   rw[if_neg g3]at hs' he
   by_cases g4:A6 ql=0
   ·rw[if_neg (by simpa using g4)]at hs';rw[hs'];exact⟨rfl,.inr ⟨rfl,rfl⟩⟩
   ·rw[if_pos g4]at he;exact absurd he.symm g4
  ·rw[if_pos g2]at he;exact absurd he.symm g2
 obtain⟨L,hL1,hL2,hK⟩:∃L:List Hl,(e≠0->L=[.gone,.gone,.gone])/\(e=0->∃ph' lf' tn' tl' tf' nn' nl' g' nf' fo' sz',L=[.blk 220 (rdC ph' l0 d0 lf' tn' tl' tf' db dl nn' nl' g' fo' sz'),.own 5 (.a dl) 1 gr df,.vec 5 (.a nl') (.a g') 1 nf']/\
   En s' ph' lf' tl' tf' dl df nl' nf' fo' sz'/\Ajj s s' tn nn g tn' nn' g' db)/\K (.int .i64 (.a e)) L:=by
  by_cases e0:e=0
  ·obtain⟨k3,k4⟩:=hk3 e0
   rcases k4 with⟨k1,k2⟩|⟨k1,k2⟩
   ·have V':En s' s'.phase s'.left tl tf dl df s'.line.length (byteRow s'.line) (if s'.phase=0 then Bd s'.line else 0) (if s'.phase=0 then ((A8 s'.line).2:Int) else 0):=⟨rfl,rfl,by rw[k2];exact V.tr,by rw[k3];exact V.da,⟨rfl,λi _=>rfl⟩,rfl,rfl⟩
    have N':Ajj s s' tn nn g tn s'.line.isEmpty (g+1) db:=⟨hdb,by rw[if_neg (by omega)],by rw[if_neg (by omega)],by rw[if_neg (by omega),if_neg (by omega)]⟩;exact⟨_,λh=>absurd e0 h,λ_=>⟨_,_,_,_,_,_,_,_,_,_,_,rfl,V',N'⟩,h.2 e0 _ _ _ _ _ _ _ _ _ _ _ _ _ _ V' N'⟩
   ·have V':En s' s'.phase s'.left ql.length (Agh ql) dl df s'.line.length (byteRow s'.line) (if s'.phase=0 then Bd s'.line else 0) (if s'.phase=0 then ((A8 s'.line).2:Int) else 0):=⟨rfl,rfl,by rw[k2];exact Bu.row (by have:=hsm.1;omega) (λi hi=>hsm.2 _ (by rw[List.getD_eq_getElem?_getD,List.getElem?_eq_getElem hi];exact List.getElem_mem hi)),by rw[k3];exact V.da,⟨rfl,λi _=>rfl⟩,rfl,rfl⟩
    have N':Ajj s s' tn nn g ql.isEmpty s'.line.isEmpty (g+3) db:=⟨hdb,by rw[if_pos k1,k2],by rw[if_neg (by omega)],by rw[if_neg (by omega),if_pos k1]⟩;exact⟨_,λh=>absurd e0 h,λ_=>⟨_,_,_,_,_,_,_,_,_,_,_,rfl,V',N'⟩,h.2 e0 _ _ _ _ _ _ _ _ _ _ _ _ _ _ V' N'⟩
  ·exact⟨_,λ_=>rfl,λh=>absurd h e0,h.1 e0⟩
 have hnl:nl=s.line.length:=V.li.n;have VN:VI nl s.line.length:=⟨hnl⟩;have HL:LeN s.line.length 8192:=⟨hll⟩;have HT:EqNN T.length (s.line.length+1):=⟨hTl⟩;clear hnl hll hTl hmore hk3 h hsm;refine⟨_,_,hK,λD hD=>?_⟩;clear hK;cbv;intro f3 hf3;cbv;refine⟨by subst hD;exact⟨rfl,by show (nl+1) * 1<=_;rw[VN.h];have:=HL.h;omega,by show nl+1<=_;rw[VN.h];have:=HL.h;omega⟩,by subst hD;exact⟨rfl⟩,λf4 n4 hm g4 hg4=>?_⟩;cbv;have h30:f3 0=[.int .u8 (.a (c.toNat:Int))]:=by rw[hf3.h 0 _ rfl];subst hD;rfl
 have R4:A7 f4 n4 T:=by rw[hT];exact V.li.more (g:=f3) (u:=[c]) rfl (row1 h30) (by subst hD;exact hm)
 have EG:EqI g4 (g+1):=⟨by subst hD;exact hg4.h⟩;clear hm hf3 hg4
 -- what is left when all bytes are read and more is wanted
 have hstay:qe=10->e=0/\s'=⟨3,T,s.data,s.left,s.trailers⟩:=λh=>by rw[he,hs',if_pos h];exact⟨rfl,rfl⟩
 refine br hD (λhb=>?_) (λhb=>?_)<;>cbv
 ·have hb:(((c.toNat:Int) != 10)&&decide (n4<=8192))=true:=by subst hD;exact hb
  rw[Bool.and_eq_true,bne_iff_ne,decide_eq_true_eq]at hb;obtain⟨e0,es⟩:=hstay (hq (λh=>hb.1 (by rw[h];rfl)) (by have:=R4.n;omega));obtain⟨p3,l3,tn3,tl3,tf3,nn3,nl3,g3,nf3,fo3,sz3,rfl,V3,N3⟩:=hL2 e0;have V2:En s' ph lf tl tf dl df n4 f4 fo sz:=by rw[es];exact⟨V.eph.trans hp,V.elf,V.tr,V.da,R4,by rw[if_neg (by show ¬(3:Int)=0;decide)];exact hfo,by rw[if_neg (by show ¬(3:Int)=0;decide)];exact hsz⟩
  have hnn:nn3=false:=by have:=N3.en;rw[if_neg (by omega),es]at this;rw[this];show T.isEmpty=false;rw[hT];simp
  have hg3:g3=g+1:=by have:=N3.eg;rw[if_neg (by omega),es,if_neg (by show ¬(3:Int)=4;decide)]at this;exact this
  have ht3:tn=tn3:=by have:=N3.et;rw[es,if_neg (by show ¬(3:Int)=4;decide)]at this;exact this.symm
  subst hD;exact Jo V2 V3 (by exact e0.symm) ⟨rfl,rfl⟩ ⟨rfl,rfl⟩ ⟨by exact ht3,rfl,rfl⟩ ⟨rfl,rfl,rfl,rfl,rfl⟩ ⟨by rw[hnn];exact Bool.and_false _,rfl,rfl,rfl,rfl⟩ ⟨by exact EG.h.trans hg3.symm,by exact EG.h.trans hg3.symm⟩ ⟨rfl,rfl⟩ ⟨rfl,rfl⟩
 clear hb hq;have HT2:LeN T.length 1000000:=⟨by have:=HT.h;have:=HL.h;omega⟩;refine⟨_,_,_,_,_,_,_,f4,rfl,rfl,rfl,rfl,T,_,_,f4,rfl,rfl,by subst hD;exact R4,HT2.h,λl f5 n5 b5 k5 e5 hm5 G5=>?_⟩;rw[<-hqe]at hm5;simp only[Prod.mk.injEq]at hm5;obtain⟨rfl,rfl,rfl⟩:=hm5;clear hqe
 by_cases h10:e5=10
 ·refine .inl ⟨noRow3 (by have:=G5.nl;rw[hmr h10]at this;exact this),?_⟩
  cbv;refine br hD (λhb=>?_) (λhb=>?_)<;>cbv
  ·obtain⟨e0,es⟩:=hstay h10
   obtain⟨p3,l3,tn3,tl3,tf3,nn3,nl3,g3,nf3,fo3,sz3,rfl,V3,N3⟩:=hL2 e0;have V2:En s' ph lf tl tf dl df n4 f4 fo sz:=by rw[es];exact⟨V.eph.trans hp,V.elf,V.tr,V.da,R4,by rw[if_neg (by show ¬(3:Int)=0;decide)];exact hfo,by rw[if_neg (by show ¬(3:Int)=0;decide)];exact hsz⟩
   have hnn:nn3=false:=by have:=N3.en;rw[if_neg (by omega),es]at this;rw[this];show T.isEmpty=false;rw[hT];simp
   have hg3:g3=g+1:=by have:=N3.eg;rw[if_neg (by omega),es,if_neg (by show ¬(3:Int)=4;decide)]at this;exact this
   have ht3:tn=tn3:=by have:=N3.et;rw[es,if_neg (by show ¬(3:Int)=4;decide)]at this;exact this.symm
   subst hD;exact Jo V2 V3 (by exact e0.symm) ⟨rfl,rfl⟩ ⟨rfl,rfl⟩ ⟨by exact ht3,rfl,rfl⟩ ⟨rfl,rfl,rfl,rfl,rfl⟩ ⟨by rw[hnn];exact Bool.and_false _,rfl,rfl,rfl,rfl⟩ ⟨by exact EG.h.trans hg3.symm,by exact EG.h.trans hg3.symm⟩ ⟨rfl,rfl⟩ ⟨rfl,rfl⟩
  ·exfalso
   have hb:(e5==10)=false:=by subst hD;exact hb
   rw[h10]at hb;cases hb
 refine .inr ⟨rfl,λg6 hg6=>?_⟩;cbv;have EG6:EqI g6 (g+2):=⟨by
  have:=EG.h;have h6:g6=g4+1:=by subst hD;exact hg6.h
  omega⟩
 clear hg6 hstay;rw[if_neg h10]at he hs';refine br hD (λhb=>?_) (λhb=>?_)<;>cbv
 ·exfalso
  have hb:(e5==10)=true:=by subst hD;exact hb
  exact h10 (eq_of_beq hb)
 clear hb;refine br hD (λhb=>?_) (λhb=>?_)<;>cbv
 ·have hb:(e5 != 0)=true:=by subst hD;exact hb
  rw[bne_iff_ne]at hb;rw[if_pos hb]at he;rw[hL1 (by rw[he];exact hb)];subst hD;exact Dt he.symm
 have h0:e5=0:=by
  have hb:(e5 != 0)=false:=by subst hD;exact hb
  simpa using hb
 rw[if_neg (by simpa using h0)]at he hs';clear hb;refine⟨l,_,_,f5,rfl,rfl,by subst hD;exact G5.row,hnm,λr hr=>?_⟩;cbv;rw[<-hr]at he hs';clear hr;refine br hD (λhb=>?_) (λhb=>?_)<;>cbv
 ·have hb:r=true:=by subst hD;exact hb
  rw[if_pos hb]at he;rw[hL1 (by rw[he];show ¬(6:Int)=0;decide)];subst hD;exact Dt he.symm
 have hrf:¬r=true:=by
  have hb:r=false:=by subst hD;exact hb
  rw[hb];decide
 rw[if_neg hrf]at he hs';clear hb hrf;refine⟨l,_,_,f5,rfl,rfl,by subst hD;exact G5.row,λr2 hr2=>?_⟩;cbv;rw[<-hr2]at he hs';clear hr2;refine br hD (λhb=>?_) (λhb=>?_)<;>cbv
 ·have hb:(r2 != 0)=true:=by subst hD;exact hb
  rw[bne_iff_ne]at hb;rw[if_pos hb]at he;rw[hL1 (by rw[he];exact hb)];subst hD;exact Dt he.symm
 have h2:r2=0:=by
  have hb:(r2 != 0)=false:=by subst hD;exact hb
  simpa using hb
 rw[if_neg (by simpa using h2)]at he hs';clear hb;intro g7 hg7;cbv;have EG7:g7=g+3:=by
  have:=EG6.h;have h6:g7=g6+1:=by subst hD;exact hg7.h
  omega
 clear hg7;obtain⟨p3,l3,tn3,tl3,tf3,nn3,nl3,g3,nf3,fo3,sz3,rfl,V3,N3⟩:=hL2 he;have V2:En s' 4 lf n5 f5 dl df 0 (λ_=>[]) fo sz:=by rw[hs'];exact⟨rfl,V.elf,G5.row,V.da,⟨rfl,λi hi=>by cases hi⟩,by rw[if_neg (by show ¬(4:Int)=0;decide)];exact hfo,by rw[if_neg (by show ¬(4:Int)=0;decide)];exact hsz⟩
 have hnn:nn3=true:=by have:=N3.en;rw[if_neg (by omega),hs']at this;rw[this];rfl
 have hg3:g3=g+3:=by have:=N3.eg;rw[if_neg (by omega),hs',if_pos (by rfl)]at this;exact this
 have ht3:b5=tn3:=by have:=N3.et;rw[hs',if_pos (by rfl)]at this;rw[this];exact G5.nl
 subst hD;exact Jo V2 V3 (by exact he.symm) ⟨rfl,rfl⟩ ⟨rfl,rfl⟩ ⟨by exact ht3,rfl,rfl⟩ ⟨rfl,rfl,rfl,rfl,rfl⟩ ⟨by rw[hnn];rfl,rfl,rfl,rfl,rfl⟩ ⟨by exact EG7.trans hg3.symm,by exact EG7.trans hg3.symm⟩ ⟨rfl,rfl⟩ ⟨rfl,rfl⟩
set_option maxHeartbeats 3000000
def spState:FSpec:=λ_ xs ls K=>∃(s:Ch) (ph lf:Int) (l0 d0:List UInt8) (tn:Bool) (tl:Int) (tf:Nat->List SV) (db:Bool) (dl:Int) (gr:Bool) (df:Nat->List SV) (nn:Bool) (nl g:Int) (nf:Nat->List SV) (fo sz:Int),
 xs=[.ptr 0 0]/\ls=[.blk 220 (rdC ph l0 d0 lf tn tl tf db dl nn nl g fo sz),.own 5 (.a dl) 1 gr df,.vec 5 (.a nl) (.a g) 1 nf]/\En s ph lf tl tf dl df nl nf fo sz/\
 K (.agg [.int .i64 (.a ph),.str s.line,.str s.data,.int .i64 (.a lf),.sl (.a tn) (.a tl) 2 tf]) [.gone,.gone,.gone]
theorem finGone{v v':SV}{a b c:Hl}(h:LeV v v'):Fin v v' [a,b,c] [.gone,.gone,.gone]:=by
 refine⟨h,λh E w hk=>?_,Nat.le_refl _⟩
 match h with
 |0=>trivial
 |1=>trivial
 |2=>trivial
 |h+3=>exact hk
theorem Aju:Ay Tryz.prog gl 190 spState:=by
 refine Ez (gh:=[]) mixed C6 Ai Tryz.func190 (by kernel_rfl) (by kernel_rfl) ?_;intro xs ls K h;unfold spState at h;obtain⟨s,ph,lf,l0,d0,tn,tl,tf,db,dl,gr,df,nn,nl,g,nf,fo,sz,rfl,rfl,V,h⟩:=h;refine⟨_,_,h,λD hD=>?_⟩;clear h;cbv;refine⟨⟨rfl⟩,⟨rfl⟩,by subst hD;exact V.li.byte,λr hr=>?_⟩;cbv;have e1:r=s.line:=V.li.str (by subst hD;exact hr);clear hr;refine⟨⟨rfl⟩,by subst hD;exact V.da.byte,λr2 hr2=>?_⟩;cbv;have e2:r2=s.data:=V.da.str (by subst hD;exact hr2);clear hr2;subst hD e1 e2;exact finGone (LeV.refl _)
theorem finB2{s':Ch}{p l tl dl nl fo sz p' l' tl' dl' nl' fo' sz':Int}{tf df nf tf' df' nf':Nat->List SV}(V:En s' p l tl tf dl df nl nf fo sz)(V':En s' p' l' tl' tf' dl' df' nl' nf' fo' sz'){v v':SV}{i j:Nat}
  {ph ph' lf lf' tlt tlt' dlt dlt' dlu dlu' nlt nlt' nlu nlu' gt gt' gu gu' fot fot' szt szt':ST} {l0 d0:List UInt8} {tn tn' db db' nn nn':BT} {gr:Bool}
  (he:LeV v v') (h1:ph.den=p/\ph'.den=p') (h2:lf.den=l/\lf'.den=l') (h3:tn.den=tn'.den/\tlt.den=tl/\tlt'.den=tl') (h4:db.den=db'.den/\dlt.den=dl/\dlt'.den=dl'/\dlu.den=dl/\dlu'.den=dl') (h5:nn.den=nn'.den/\nlt.den=nl/\nlt'.den=nl'/\nlu.den=nl/\nlu'.den=nl')
  (h6:gt.den=gt'.den/\gu.den=gu'.den) (h7:fot.den=fo/\fot'.den=fo') (h8:szt.den=sz/\szt'.den=sz'):
  Fin v v' [.blk 220 [.int .i64 ph,.str l0,.str d0,.int .i64 lf,.sl tn tlt 2 tf,.osl db dlt i,.vsl nn nlt gt j,.int .i64 fot,.int .i64 szt],.vec 5 nlu gu 1 nf,.own 5 dlu 1 gr df]
   [.blk 220 [.int .i64 ph',.str l0,.str d0,.int .i64 lf',.sl tn' tlt' 2 tf',.osl db' dlt' i,.vsl nn' nlt' gt' j,.int .i64 fot',.int .i64 szt'],.vec 5 nlu' gu' 1 nf',.own 5 dlu' 1 gr df']:=by
 have d1:=V.da.n;have d2:=V'.da.n;have n1:=V.li.n;have n2:=V'.li.n;refine⟨he,Cz (LeH.cons (Ao (.cons (Ak (by rw[h1.1,h1.2,V.eph,V'.eph])) (.cons (Cn _) (.cons (Cn _) (.cons (Ak (by rw[h2.1,h2.2,V.elf,V'.elf])) (.cons (Ir V.tr V'.tr h3.1 h3.2.1 h3.2.2) (.cons (Af8 h4.1 (by rw[h4.2.1,h4.2.2.1,d1,d2])) (.cons (Af7 h5.1 (by rw[h5.2.1,h5.2.2.1,n1,n2]) h6.1) (.cons (Ak (by rw[h7.1,h7.2,V.efo,V'.efo])) (.cons (Ak (by rw[h8.1,h8.2,V.esz,V'.esz])) .nil))))))))))
  (LeH.cons (Ia (by rw[h5.2.2.2.1,h5.2.2.2.2,n1,n2]) h6.2 λi hi=>?_) (LeH.cons (Yo (by rw[h4.2.2.2.1,h4.2.2.2.2,d1,d2]) λi hi=>?_) λ_ _ _ _ h=>h))),Nat.le_refl _⟩
 ·rw[h5.2.2.2.1]at hi
  rw[V.li.f i (by omega),V'.li.f i (by omega)]
 ·rw[h4.2.2.2.1]at hi
  rw[V.da.f i (by omega),V'.da.f i (by omega)]
def nnB(s:Ch):Bool:=if s.phase=0 then s.line.isEmpty else false
def gB(s:Ch)(g:Int):Int:=if s.phase=0 then g+1+(s.line.length:Int) else g+2
def spBegin:FSpec:=λ_ xs ls K=>∃(s:Ch) (ln dt:List UInt8) (ph lf:Int) (tn:Bool) (tl:Int) (tf:Nat->List SV) (b1:Bool) (n1:Int) (f1:Nat->List SV) (b2:Bool) (n2 g:Int) (f2:Nat->List SV) (fo sz:Int),
 xs=[.ptr 0 0]/\ls=[.blk 220 [.int .i64 (.a ph),.str ln,.str dt,.int .i64 (.a lf),.sl (.a tn) (.a tl) 2 tf,.sl (.a b1) (.a n1) 1 f1,.vsl (.a b2) (.a n2) (.a g) 1,.int .i64 (.a fo),.int .i64 (.a sz)],.vec 5 (.a n2) (.a g) 1 f2]/\
 ln=s.line/\dt=s.data/\ph=s.phase/\lf=s.left/\Bu tf tl s.trailers/\Ix s/\s.line.length<=1000000/\fo=0/\sz=0/\
 ∀ph dl df nn nl g' nf fo sz,En s ph lf tl tf dl df nl nf fo sz->nn=nnB s->g'=gB s g->K (.bool (.a true)) [.blk 220 [.int .i64 (.a ph),.str ln,.str dt,.int .i64 (.a lf),.sl (.a tn) (.a tl) 2 tf,.osl (.a false) (.a dl) 2,.vsl (.a nn) (.a nl) (.a g') 1,.int .i64 (.a fo),.int .i64 (.a sz)],.vec 5 (.a nl) (.a g') 1 nf,.own 5 (.a dl) 1 false df]
def Fe(s:Ch)(i:Nat):Ch:=⟨0,s.line.take i,s.data,s.left,s.trailers⟩
theorem Ah9{s:Ch}(hO:Ix s)(hp:s.phase=0)(i:Nat):Ix (Fe s i):=by
 have hl:s.left=0:=by
  rcases Decidable.em (s.left=0) with e|e
  ·exact e
  ·have:=hO.left.2 e;omega
 exact⟨hO.data,by simp[Fe,hl],.inr (hO.trail.resolve_left (by omega)),.inl rfl,λ_=>Aa7 (hO.p0 hp) i,λg=>by simp[Fe]at g,λg=>by simp[Fe]at g,λg=>by simp[Fe]at g,λg=>by simp[Fe]at g⟩
theorem Aa9{s:Ch}(hO:Ix s)(hp:s.phase=0){i:Nat}(hi:i<s.line.length):chS (Fe s i) (s.line.getD i 0)=(Fe s (i+1),0):=by
 have hm:=hO.p0 hp i hi;have hn:¬((s.line.getD i 0)=10/\C2 (Fe s i).line=true):=by
  rintro⟨_,h2⟩;have h2:C2 (s.line.take i)=true:=h2;unfold C5 at hm;rw[if_pos h2]at hm;cases hm
 rw[Ace rfl hn];have e:C5 (Fe s i).line (s.line.getD i 0)=0:=hm;rw[e,if_neg (by simp)];have e2:s.line.take (i+1)=s.line.take i++[s.line.getD i 0]:=by
  rw[List.take_add_one,List.getElem?_eq_getElem hi,List.getD_eq_getElem?_getD,List.getElem?_eq_getElem hi];rfl
 show ((⟨0,s.line.take i++[s.line.getD i 0],s.data,s.left,s.trailers⟩:Ch),(0:Int))=_;rw[<-e2];rfl
structure BgJ(s:Ch)(i:Nat)(I:Int)(m:Nat)(ph lf:Int)(tl:Int)(tf:Nat->List SV)(dl:Int)(df:Nat->List SV)(nn:Bool)(nl g G:Int)(nf:Nat->List SV)(fo sz:Int):Prop where
 at_:AtR s.line i I m
 rd:En (Fe s i) ph lf tl tf dl df nl nf fo sz
 en:nn=(s.line.take i).isEmpty
 eg:G=g+1+(i:Int)
def bgJ(s:Ch)(ln dt:List UInt8)(tn:Bool)(g N:Int)(m:Nat)(vs:List (Option SV))(hp:List Hl):Prop :=
 ∃(i:Nat) (I ph lf tl:Int) (tf:Nat->List SV) (dl:Int) (df:Nat->List SV) (db nn:Bool) (nl G:Int) (nf:Nat->List SV) (fo sz:Int),vs=[some (.ptr 0 0),some (.str ln),some (.int .i64 (.a N)),some (.int .i64 (.a I))]/\
  hp=[.blk 220 [.int .i64 (.a ph),.str ln,.str dt,.int .i64 (.a lf),.sl (.a tn) (.a tl) 2 tf,.osl (.a db) (.a dl) 2,.vsl (.a nn) (.a nl) (.a G) 1,.int .i64 (.a fo),.int .i64 (.a sz)],.vec 5 (.a nl) (.a G) 1 nf,.own 5 (.a dl) 1 false df]/\db=false/\BgJ s i I m ph lf tl tf dl df nn nl g G nf fo sz
theorem Amw:Ay Tryz.prog gl 238 spBegin:=by
 refine Ez (gh:=[(999983,[]),(2,[.vnil 0 6 1]),(4,[.vmov 0 6 1])]) mixed C6 (Bm W4 Ai) Tryz.func238 (by kernel_rfl) (by kernel_rfl) ?_;intro xs ls K h;unfold spBegin at h;obtain⟨s,ln0,dt0,ph,lf,tn,tl,tf,b1,n1,f1,b2,n2,g,f2,fo,sz,rfl,rfl,rfl,rfl,hph,hlf,hR,hO,hll,hfo,hsz,h⟩:=h;have V0:En s s.phase lf tl tf s.data.length (byteRow s.data) s.line.length (byteRow s.line) (if s.phase=0 then Bd s.line else 0) (if s.phase=0 then ((A8 s.line).2:Int) else 0):=⟨rfl,hlf,hR,⟨rfl,λi _=>rfl⟩,⟨rfl,λi _=>rfl⟩,rfl,rfl⟩;have h:=h _ _ _ _ _ _ _ _ _ V0 rfl rfl;obtain⟨L,hL,hK⟩:∃L,L=_/\K (.bool (.a true)) L:=⟨_,rfl,h⟩;clear h;have HL:LeN s.line.length 1000000:=⟨hll⟩;have HD:LeN s.data.length 65536:=⟨hO.data⟩;obtain⟨ln,hln⟩:∃ln,ln=s.line:=⟨_,rfl⟩;obtain⟨dt,hdt⟩:∃dt,dt=s.data:=⟨_,rfl⟩;rw[<-hln,<-hdt];refine⟨_,_,hK,λD hD=>?_⟩;clear hK hll;cbv;refine⟨⟨by rw[hdt];have:=HD.h;omega⟩,λf3 hf3=>?_⟩;cbv;have R3:A7 f3 s.data.length s.data:=⟨rfl,λi _=>by rw[hf3.h,hdt];rfl⟩;clear hf3;intro g3 hg3;cbv;have EG3:EqI g3 (g+1):=⟨by subst hD;exact hg3.h⟩;clear hg3;refine br hD (λhb=>?_) (λhb=>?_)<;>cbv
 ·have hp:s.phase≠0:=by
   have hb:(ph != 0)=true:=by subst hD;exact hb
   rw[hph,bne_iff_ne]at hb;exact hb
  refine⟨⟨by rw[hln];have:=HL.h;omega⟩,λf4 hf4=>?_⟩;cbv;have R4:A7 f4 s.line.length s.line:=⟨rfl,λi _=>by rw[hf4.h,hln];rfl⟩;clear hf4;refine⟨⟨rfl⟩,λg4 hg4=>?_⟩;cbv;have EG4:g4=g+2:=by
   have:=EG3.h;have h6:g4=g3+1:=by subst hD;exact hg4.h
   omega
  clear hg4;have V2:En s ph lf tl tf s.data.length f3 s.line.length f4 fo sz:=⟨hph,hlf,hR,R3,R4,by rw[if_neg hp];exact hfo,by rw[if_neg hp];exact hsz⟩;have hg2:gB s g=g+2:=by unfold gB;rw[if_neg hp]
  have hn2:nnB s=false:=by unfold nnB;rw[if_neg hp]
  rw[hL,hg2,hn2];subst hD hln hdt;exact finB2 V2 V0 (LeV.refl _) ⟨rfl,rfl⟩ ⟨rfl,rfl⟩ ⟨rfl,rfl,rfl⟩ ⟨rfl,rfl,rfl,rfl,rfl⟩ ⟨rfl,rfl,rfl,rfl,rfl⟩ ⟨by exact EG4,by exact EG4⟩ ⟨rfl,rfl⟩ ⟨rfl,rfl⟩
 have hp:s.phase=0:=by
  have hb:(ph != 0)=false:=by subst hD;exact hb
  rw[hph]at hb;simpa using hb
 clear hb;obtain⟨N,hN⟩:∃N:Int,N=ln.length:=⟨_,rfl⟩;obtain⟨J,hJ⟩:∃J,J=bgJ s ln dt tn g N:=⟨_,rfl⟩;have VN:VI N s.line.length:=⟨by rw[hN,hln]⟩;refine⟨[0,3,34,35],J,⟨rfl,s.line.length,?_⟩,?_⟩
 ·rw[hJ]
  subst hD hN hln hdt;refine⟨0,_,_,_,_,_,_,_,_,_,_,_,_,_,_,rfl,rfl,rfl,⟨AtR.zero (by have:=HL.h;omega),⟨?_,hlf,hR,R3,⟨rfl,λi hi=>by cases hi⟩,?_,?_⟩,rfl,by have:=EG3.h;show g3=_;omega⟩⟩
  ·show ph=0;rw[hph,hp]
  ·show fo=if (0:Int)=0 then Bd [] else 0;rw[hfo];rfl
  ·show sz=if (0:Int)=0 then ((A8 []).2:Int) else 0;rw[hsz];rfl
 have ENl:EqI N (ln.length:Int):=⟨hN⟩;clear R3 EG3 hN;intro m vs hp2 hv;rw[hJ]at hv;obtain⟨i,I,ph',lf',tl',tf',dl,df,db,nn,nl,G,nf,fo',sz',rfl,rfl,hdb,B⟩:=hv;cbv;refine br hD (λhb=>?_) (λhb=>?_)<;>cbv
 ·have hb:decide (I<N)=true:=by subst hD;exact hb
  have hlt:=B.at_.lt VN.h (of_decide_eq_true hb);clear hb;refine⟨⟨by subst hD;show 0<=I;have:=B.at_.I;omega,by subst hD;show I<ln.length;rw[hln];have:=B.at_.I;omega⟩,λb hc=>?_⟩;cbv;have hcx:=(Gk hD B.at_.I hc).of;rw[hln]at hcx;clear hc;obtain⟨c,hcc⟩:∃c:UInt8,c=s.line.getD i 0:=⟨_,rfl⟩;rw[<-hcc]at hcx;have hst:=Aa9 hO hp hlt;rw[<-hcc]at hst;refine⟨Fe s i,c,D.i (.a b),D.i (.a ph'),D.i (.a lf'),ln,dt,D.b (.a tn),D.i (.a tl'),tf',D.b (.a db),D.i (.a dl),false,df,D.b (.a nn),D.i (.a nl),D.i (.a G),nf,D.i (.a fo'),D.i (.a sz'),rfl,rfl,by subst hD;exact hcx.symm,by subst hD;exact B.rd,rfl,by subst hD;exact hdb,Ah9 hO hp i,λe he=>⟨λhne=>?_,λh0 ph2 lf2 tn2 tl2 tf2 db2 dl2 df2 nn2 nl2 g2 nf2 fo2 sz2 V2 N2=>?_⟩⟩
  ·cbv
   rw[hst]at he;exact absurd he hne
  cbv;rw[hst]at V2 N2;have he0:e=0:=h0;have hp2:ph2=0:=V2.eph;refine br hD (λhb=>?_) (λhb=>?_)<;>cbv
  ·exfalso
   have hb:((e != 0)||(ph2 != 0))=true:=by subst hD;exact hb
   rw[he0,hp2]at hb;cases hb
  have hs1:=(AtR.step hD B.at_ hlt);refine⟨_,hs1.1,?_⟩;rw[hJ];subst hD;refine⟨i+1,_,ph2,lf2,tl2,tf2,dl2,df2,db2,nn2,nl2,g2,nf2,fo2,sz2,rfl,?_,N2.ed,⟨hs1.2,V2,?_,?_⟩⟩
  ·have ht:tn2=tn:=by have:=N2.et;rw[if_neg (by show ¬(0:Int)=4;decide)]at this;exact this
   rw[ht];rfl
  ·have:=N2.en;rw[if_neg (by show ¬(0:Int)=1;decide)]at this;exact this
  ·have h1:=N2.eg
   rw[if_neg (by show ¬(0:Int)=1;decide),if_neg (by show ¬(0:Int)=4;decide)]at h1;have h2:=B.eg;have h3:g2=G+1:=h1
   push_cast
   omega
 ·have hb:decide (I<N)=false:=by subst hD;exact hb
  have hi:=B.at_.eq VN.h (of_decide_eq_false hb);have hat:Fe s i=s:=by
   unfold Fe;rw[hi,List.take_length,<-hp]
  have V2:=B.rd;rw[hat]at V2;have hg2:gB s g=g+1+(s.line.length:Int):=by unfold gB;rw[if_pos hp]
  have hn2:nnB s=s.line.isEmpty:=by unfold nnB;rw[if_pos hp]
  have hen:=B.en;rw[hi,List.take_length]at hen;have heg:=B.eg;rw[hi]at heg;rw[hL,hg2,hn2];subst hD hln hdt;exact finB2 V2 V0 (LeV.refl _) ⟨rfl,rfl⟩ ⟨rfl,rfl⟩ ⟨rfl,rfl,rfl⟩ ⟨by exact hdb,rfl,rfl,rfl,rfl⟩ ⟨by exact hen,rfl,rfl,rfl,rfl⟩ ⟨by exact heg,by exact heg⟩ ⟨rfl,rfl⟩ ⟨rfl,rfl⟩
set_option maxHeartbeats 6000000
theorem Abr{s':Ch}{p l tl dl nl fo sz p' l' tl' dl' nl' fo' sz':Int}{tf df nf tf' df' nf':Nat->List SV}(V:En s' p l tl tf dl df nl nf fo sz)(V':En s' p' l' tl' tf' dl' df' nl' nf' fo' sz'){v v':SV}
  {ph ph' lf lf' tlt tlt' dlt dlt' dlu dlu' nlt nlt' nlu nlu' gt gt' gu gu' fot fot' szt szt':ST} {l0 d0:List UInt8} {tn tn' db db' nn nn':BT} {gr:Bool}
  (he:LeV v v') (h1:ph.den=p/\ph'.den=p') (h2:lf.den=l/\lf'.den=l') (h3:tn.den=tn'.den/\tlt.den=tl/\tlt'.den=tl') (h4:db.den=db'.den/\dlt.den=dl/\dlt'.den=dl'/\dlu.den=dl/\dlu'.den=dl') (h5:nn.den=nn'.den/\nlt.den=nl/\nlt'.den=nl'/\nlu.den=nl/\nlu'.den=nl')
  (h6:gt.den=gt'.den/\gu.den=gu'.den) (h7:fot.den=fo/\fot'.den=fo') (h8:szt.den=sz/\szt'.den=sz'):
  Fin v v' [.blk 220 [.int .i64 ph,.str l0,.str d0,.int .i64 lf,.sl tn tlt 2 tf,.osl db dlt 1,.vsl nn nlt gt 2,.int .i64 fot,.int .i64 szt],.own 5 dlu 1 gr df,.vec 5 nlu gu 1 nf]
   [.blk 220 [.int .i64 ph',.str l0,.str d0,.int .i64 lf',.sl tn' tlt' 2 tf',.osl db' dlt' 1,.vsl nn' nlt' gt' 2,.int .i64 fot',.int .i64 szt'],.own 5 dlu' 1 gr df',.vec 5 nlu' gu' 1 nf']:=by
 have:=Jo V V' (t:=.l 0) (t':=.l 0) (l0:=l0) (d0:=d0) (gr:=gr) rfl h1 h2 h3 h4 h5 h6 h7 h8;exact⟨he,this.h,this.len⟩
def spOpen:FSpec:=λ_ xs ls K=>∃(s:Ch) (ln dt:List UInt8) (ph lf:Int) (tn:Bool) (tl:Int) (tf:Nat->List SV),
 xs=[.agg [.int .i64 (.a ph),.str ln,.str dt,.int .i64 (.a lf),.sl (.a tn) (.a tl) 2 tf]]/\ls=[]/\ln=s.line/\dt=s.data/\ph=s.phase/\lf=s.left/\Bu tf tl s.trailers/\Ix s/\(s.phase=4->Ih s.trailers)/\
 ∀ph dl df nl nf fo sz nn g,En s ph lf tl tf dl df nl nf fo sz->nn=nnB s->g=gB s 0->K (.tup [.ptr 0 0,.int .i64 (.a 0)]) [.blk 220 (rdC ph ln dt lf tn tl tf false dl nn nl g fo sz),.own 5 (.a dl) 1 false df,.vec 5 (.a nl) (.a g) 1 nf]
theorem Xu{s:Ch}(hO:Ix s):s.line.length<=1000000:=by
 rcases hO.ph with h|h|h|h|h
 ·have:=Ua (hO.p0 h);omega
 ·rw[(hO.p1 h).1];simp
 ·rcases (hO.p2 h).1 with e|e<;>rw[e]<;>simp
 ·have:=(Hr (hO.p3 h)).1;omega
 ·rw[(hO.p4 h).1];simp
theorem Afy:Ay Tryz.prog gl 185 spOpen:=by
 refine Ez (gh:=[(1,[.vecb 4 6 5]),(2000015,[.blit 5])]) mixed C6 (Ab P6 (Ab O8 (Ab Amx (Bm Amw Ai)))) Tryz.func185 (by kernel_rfl) (by kernel_rfl) ?_;intro xs ls K h;unfold spOpen at h;obtain⟨s,ln0,dt0,ph,lf,tn,tl,tf,rfl,rfl,rfl,rfl,hph,hlf,hR,hO,hnm,h⟩:=h;have V0:En s s.phase lf tl tf s.data.length (byteRow s.data) s.line.length (byteRow s.line) (if s.phase=0 then Bd s.line else 0) (if s.phase=0 then ((A8 s.line).2:Int) else 0):=⟨rfl,hlf,hR,⟨rfl,λi _=>rfl⟩,⟨rfl,λi _=>rfl⟩,rfl,rfl⟩;have h:=h _ _ _ _ _ _ _ _ _ V0 rfl rfl;obtain⟨L,hL,hK⟩:∃L,L=_/\K (.tup [.ptr 0 0,.int .i64 (.a 0)]) L:=⟨_,rfl,h⟩;clear h;have hll:=Xu hO;have HL:LeN s.line.length 1000000:=⟨hll⟩;have HD:LeN s.data.length 65536:=⟨hO.data⟩;obtain⟨ln,hln⟩:∃ln,ln=s.line:=⟨_,rfl⟩;obtain⟨dt,hdt⟩:∃dt,dt=s.data:=⟨_,rfl⟩;rw[<-hln,<-hdt]
 -- what is known of the state
 have hgood:(decide (dt.length<=65536)&&((ph==1)==(lf != 0)))=true:=by
  rw[hdt,Bool.and_eq_true,decide_eq_true_eq,beq_iff_eq];refine⟨hO.data,?_⟩;have:=hO.left;rw[hph,hlf,Bool.eq_iff_iff,beq_iff_eq,bne_iff_ne];exact this
 have htr:ph=4\/tl=0:=by
  rcases hO.trail with e|e
  ·exact .inl (by rw[hph,e])
  ·right;rw[hR.n,e];rfl
 obtain⟨N,hN⟩:∃N:Int,N=(dt.length:Int):=⟨_,rfl⟩;have hg2:((decide ((dt.length:Int)<=65536)&&((ph==1)==(lf != 0)))&&((ph==4)||(tl==0)))=true:=by
  rw[show decide ((dt.length:Int)<=65536)=decide (dt.length<=65536) by rw[decide_eq_decide];omega,hgood,Bool.true_and,Bool.or_eq_true,beq_iff_eq,beq_iff_eq];exact htr
 refine⟨_,_,hK,λD hD=>?_⟩;clear hK hll hgood htr;cbv;refine br hD (λhb=>?_) (λhb=>?_)<;>cbv
 ·
  refine⟨true,⟨by subst hD;exact hg2⟩,?_⟩;cbv;refine⟨s,ln,dt,D.i (.a ph),D.i (.a lf),D.b (.a tn),D.i (.a tl),tf,_,_,_,_,_,_,_,_,_,rfl,rfl,hln,hdt,by subst hD;exact hph,by subst hD;exact hlf,by subst hD;exact hR,hO,HL.h,by subst hD;rfl,by subst hD;rfl,λph2 dl2 df2 nn2 nl2 g2 nf2 fo2 sz2 V2 hn2 hg2'=>?_⟩;cbv;refine br hD (λhb=>?_) (λhb=>?_)<;>cbv
  ·exfalso
   have hb:(!true)=true:=by subst hD;exact hb
   cases hb
  ·rw[hL]
   subst hD hln hdt;exact Abr V2 V0 (.tup (.cons (LeV.refl _) (.cons (Ak rfl) .nil))) ⟨rfl,rfl⟩ ⟨rfl,rfl⟩ ⟨rfl,rfl,rfl⟩ ⟨rfl,rfl,rfl,rfl,rfl⟩ ⟨by exact hn2,rfl,rfl,rfl,rfl⟩ ⟨by exact hg2',by exact hg2'⟩ ⟨rfl,rfl⟩ ⟨rfl,rfl⟩
 have hp0:ph≠0:=by
  have hb:(ph==0)=false:=by subst hD;exact hb
  simpa using hb
 clear hb;refine br hD (λhb=>?_) (λhb=>?_)<;>cbv
 ·have hp:ph=1:=by
   have hb:(ph==1)=true:=by subst hD;exact hb
   exact eq_of_beq hb
  clear hb;have hs:s.phase=1:=by rw[<-hph,hp]
  obtain⟨q1,q2,q3⟩:=hO.p1 hs;have hw:IntKind.i64.wrap (65536-(dt.length:Int))=65536-(dt.length:Int):=A4 (by have:=HD.h;rw[<-hdt]at this;omega) (by omega);have hgd:(((((decide ((dt.length:Int)<=65536)&&((ph==1)==(lf != 0)))&&((ph==4)||(tl==0)))&&(ln==[]))&&decide (1<=lf))&&decide (lf<=IntKind.i64.wrap (65536-(dt.length:Int))))=true:=by
   rw[hg2,hw,hln,q1,hdt,hlf,decide_eq_true q2,decide_eq_true q3];rfl
  refine⟨true,⟨by subst hD;exact hgd⟩,?_⟩;cbv;refine⟨s,ln,dt,D.i (.a ph),D.i (.a lf),D.b (.a tn),D.i (.a tl),tf,_,_,_,_,_,_,_,_,_,rfl,rfl,hln,hdt,by subst hD;exact hph,by subst hD;exact hlf,by subst hD;exact hR,hO,HL.h,by subst hD;rfl,by subst hD;rfl,λph2 dl2 df2 nn2 nl2 g2 nf2 fo2 sz2 V2 hn2 hg2'=>?_⟩;cbv;refine br hD (λhb=>?_) (λhb=>?_)<;>cbv
  ·exfalso
   have hb:(!true)=true:=by subst hD;exact hb
   cases hb
  ·rw[hL]
   subst hD hln hdt;exact Abr V2 V0 (.tup (.cons (LeV.refl _) (.cons (Ak rfl) .nil))) ⟨rfl,rfl⟩ ⟨rfl,rfl⟩ ⟨rfl,rfl,rfl⟩ ⟨rfl,rfl,rfl,rfl,rfl⟩ ⟨by exact hn2,rfl,rfl,rfl,rfl⟩ ⟨by exact hg2',by exact hg2'⟩ ⟨rfl,rfl⟩ ⟨rfl,rfl⟩
 have hp1:ph≠1:=by
  have hb:(ph==1)=false:=by subst hD;exact hb
  simpa using hb
 clear hb;refine br hD (λhb=>?_) (λhb=>?_)<;>cbv
 ·have hp:ph=2:=by
   have hb:(ph==2)=true:=by subst hD;exact hb
   exact eq_of_beq hb
  clear hb;have hs:s.phase=2:=by rw[<-hph,hp]
  obtain⟨q1,q2⟩:=hO.p2 hs;have hgd:((((decide ((dt.length:Int)<=65536)&&((ph==1)==(lf != 0)))&&((ph==4)||(tl==0)))&&((ln==[])||(ln==[13])))&&!(dt==[]))=true:=by
   have e1:((ln==[])||(ln==[13]))=true:=by rw[hln];rcases q1 with e|e<;>rw[e]<;>rfl
   have e2:(dt==[])=false:=by rw[hdt];simpa using q2
   rw[hg2,e1,e2];rfl
  refine⟨true,⟨by subst hD;exact hgd⟩,?_⟩;cbv;refine⟨s,ln,dt,D.i (.a ph),D.i (.a lf),D.b (.a tn),D.i (.a tl),tf,_,_,_,_,_,_,_,_,_,rfl,rfl,hln,hdt,by subst hD;exact hph,by subst hD;exact hlf,by subst hD;exact hR,hO,HL.h,by subst hD;rfl,by subst hD;rfl,λph2 dl2 df2 nn2 nl2 g2 nf2 fo2 sz2 V2 hn2 hg2'=>?_⟩;cbv;refine br hD (λhb=>?_) (λhb=>?_)<;>cbv
  ·exfalso
   have hb:(!true)=true:=by subst hD;exact hb
   cases hb
  ·rw[hL]
   subst hD hln hdt;exact Abr V2 V0 (.tup (.cons (LeV.refl _) (.cons (Ak rfl) .nil))) ⟨rfl,rfl⟩ ⟨rfl,rfl⟩ ⟨rfl,rfl,rfl⟩ ⟨rfl,rfl,rfl,rfl,rfl⟩ ⟨by exact hn2,rfl,rfl,rfl,rfl⟩ ⟨by exact hg2',by exact hg2'⟩ ⟨rfl,rfl⟩ ⟨rfl,rfl⟩
 have hp2:ph≠2:=by
  have hb:(ph==2)=false:=by subst hD;exact hb
  simpa using hb
 clear hb;refine br hD (λhb=>?_) (λhb=>?_)<;>cbv
 ·have hp:ph=3:=by
   have hb:(ph==3)=true:=by subst hD;exact hb
   exact eq_of_beq hb
  clear hb;have hs:s.phase=3:=by rw[<-hph,hp]
  have q1:=hO.p3 hs;refine⟨⟨by rw[hln];have:=HL.h;omega⟩,λf3 hf3=>?_⟩;cbv;have R3:A7 f3 ln.length ln:=⟨rfl,λi _=>by rw[hf3.h];rfl⟩;refine⟨ln,_,_,f3,rfl,rfl,by subst hD;exact R3,by rw[hln];exact HL.h,λl f5 n5 b5 k5 e5 hm5 G5=>?_⟩;cbv;have he5:e5=10:=by rw[<-hln]at q1;rw[<-hm5]at q1;exact q1
  clear hm5 hf3;have hgd:(((decide ((dt.length:Int)<=65536)&&((ph==1)==(lf != 0)))&&((ph==4)||(tl==0)))&&(e5==10))=true:=by rw[hg2,he5];rfl
  refine⟨true,⟨by subst hD;exact hgd⟩,?_⟩;cbv;refine⟨s,ln,dt,D.i (.a ph),D.i (.a lf),D.b (.a tn),D.i (.a tl),tf,_,_,_,_,_,_,_,_,_,rfl,rfl,hln,hdt,by subst hD;exact hph,by subst hD;exact hlf,by subst hD;exact hR,hO,HL.h,by subst hD;rfl,by subst hD;rfl,λph2 dl2 df2 nn2 nl2 g2 nf2 fo2 sz2 V2 hn2 hg2'=>?_⟩;cbv;refine br hD (λhb=>?_) (λhb=>?_)<;>cbv
  ·exfalso
   have hb:(!true)=true:=by subst hD;exact hb
   cases hb
  ·rw[hL]
   subst hD hln hdt;exact Abr V2 V0 (.tup (.cons (LeV.refl _) (.cons (Ak rfl) .nil))) ⟨rfl,rfl⟩ ⟨rfl,rfl⟩ ⟨rfl,rfl,rfl⟩ ⟨rfl,rfl,rfl,rfl,rfl⟩ ⟨by exact hn2,rfl,rfl,rfl,rfl⟩ ⟨by exact hg2',by exact hg2'⟩ ⟨rfl,rfl⟩ ⟨rfl,rfl⟩
 have hp3:ph≠3:=by
  have hb:(ph==3)=false:=by subst hD;exact hb
  simpa using hb
 clear hb;refine br hD (λhb=>?_) (λhb=>?_)<;>cbv
 ·have hp:ph=4:=by
   have hb:(ph==4)=true:=by subst hD;exact hb
   exact eq_of_beq hb
  clear hb;have hs:s.phase=4:=by rw[<-hph,hp]
  obtain⟨q1,q2,q3⟩:=hO.p4 hs;refine⟨s.trailers,_,_,tf,rfl,rfl,by subst hD;exact hR,λr hr=>?_⟩;cbv;have hr0:r=0:=hr.trans q2;clear hr;refine⟨s.trailers,_,_,tf,rfl,rfl,by subst hD;exact hR,hnm hs,λr2 hr2=>?_⟩;cbv;have hr20:r2=false:=hr2.trans q3;clear hr2;have hgd:(((((decide ((dt.length:Int)<=65536)&&((ph==1)==(lf != 0)))&&((ph==4)||(tl==0)))&&(ln==[]))&&(r==0))&&!r2)=true:=by rw[hg2,hln,q1,hr0,hr20];rfl
  refine⟨true,⟨by subst hD;exact hgd⟩,?_⟩;cbv;refine⟨s,ln,dt,D.i (.a ph),D.i (.a lf),D.b (.a tn),D.i (.a tl),tf,_,_,_,_,_,_,_,_,_,rfl,rfl,hln,hdt,by subst hD;exact hph,by subst hD;exact hlf,by subst hD;exact hR,hO,HL.h,by subst hD;rfl,by subst hD;rfl,λph2 dl2 df2 nn2 nl2 g2 nf2 fo2 sz2 V2 hn2 hg2'=>?_⟩;cbv;refine br hD (λhb=>?_) (λhb=>?_)<;>cbv
  ·exfalso
   have hb:(!true)=true:=by subst hD;exact hb
   cases hb
  ·rw[hL]
   subst hD hln hdt;exact Abr V2 V0 (.tup (.cons (LeV.refl _) (.cons (Ak rfl) .nil))) ⟨rfl,rfl⟩ ⟨rfl,rfl⟩ ⟨rfl,rfl,rfl⟩ ⟨rfl,rfl,rfl,rfl,rfl⟩ ⟨by exact hn2,rfl,rfl,rfl,rfl⟩ ⟨by exact hg2',by exact hg2'⟩ ⟨rfl,rfl⟩ ⟨rfl,rfl⟩
 ·exfalso
  have hb:(ph==4)=false:=by subst hD;exact hb
  have hp4:ph≠4:=by simpa using hb
  have:=hO.ph;omega
end Go.Proofs.YtdoogdbjiijifaaGreatDoor
