/- Part of the proofs of the statements about responses and messages (layers 9 and 10): a symbolic executor over the code, that it is sound, and contracts of functions; it has no conditions of its own. -/
import Derived.Test.YtdoogdbjiijifaaGreatDoorE3Pbd
import Derived.Test.YtdoogdbjiijifaaGreatDoorE3Pbc
import Derived.Test.YtdoogdbjiijifaaGreatDoorE3Pbb
namespace Go.Proofs.YtdoogdbjiijifaaGreatDoor
open Go Go.Sx
set_option maxRecDepth 100000
set_option maxHeartbeats 400000
theorem Ale:K9≠nId/\K9≠nLen/\K9≠nTE/\nId≠nLen/\nId≠nTE/\nLen≠nTE:=by decide
theorem Bp(x:HF)(l:List HF)(t:List UInt8):B5 (l++[x]) t=B5 l t++(if foldF x.name==t then [x.value] else []):=by
 unfold B5;rw[List.filter_append,List.map_append];congr 1;rw[List.filter_cons]
 split<;>simp
structure FrR(r:Fr)(l:List HF):Prop where
 hosts:r.hosts=B5 l K9
 ids:r.ids=B5 l nId
 lens:r.lens=B5 l nLen
 coded:r.coded=decide (0<(B5 l nTE).length)
 rest:r.rest=l.filter λx=>!Tp (foldF x.name)
theorem Hn(t:List UInt8):Tp t=(t==K9||t==nId||t==nLen||t==nTE):=by
 rw[Bool.or_assoc,Bool.or_assoc];rfl
theorem Al2{r:Fr}{l:List HF}(x:HF)(h:FrR r l):FrR (Um r x) (l++[x]):=by
 obtain⟨h1,h2,h3,h4,h5⟩:=h;obtain⟨n1,n2,n3,n4,n5,n6⟩:=Ale;unfold Um
 by_cases e1:foldF x.name=K9
 ·rw[if_pos e1]
  refine⟨?_,?_,?_,?_,?_⟩
  ·rw[Bp,if_pos (by rw[e1];exact beq_self_eq_true _),<-h1]
  ·rw[Bp,if_neg (by rw[e1];simpa using n1),List.append_nil];exact h2
  ·rw[Bp,if_neg (by rw[e1];simpa using n2),List.append_nil];exact h3
  ·rw[Bp,if_neg (by rw[e1];simpa using n3),List.append_nil];exact h4
  ·rw[List.filter_append,<-h5,List.filter_cons,if_neg (by rw[Hn,e1];simp)];simp
 rw[if_neg e1]
 by_cases e2:foldF x.name=nId
 ·rw[if_pos e2]
  refine⟨?_,?_,?_,?_,?_⟩
  ·rw[Bp,if_neg (by simpa using e1),List.append_nil];exact h1
  ·rw[Bp,if_pos (by rw[e2];exact beq_self_eq_true _),<-h2]
  ·rw[Bp,if_neg (by rw[e2];simpa using n4),List.append_nil];exact h3
  ·rw[Bp,if_neg (by rw[e2];simpa using n5),List.append_nil];exact h4
  ·rw[List.filter_append,<-h5,List.filter_cons,if_neg (by rw[Hn,e2];simp)];simp
 rw[if_neg e2]
 by_cases e3:foldF x.name=nLen
 ·rw[if_pos e3]
  refine⟨?_,?_,?_,?_,?_⟩
  ·rw[Bp,if_neg (by simpa using e1),List.append_nil];exact h1
  ·rw[Bp,if_neg (by simpa using e2),List.append_nil];exact h2
  ·rw[Bp,if_pos (by rw[e3];exact beq_self_eq_true _),<-h3]
  ·rw[Bp,if_neg (by rw[e3];simpa using n6),List.append_nil];exact h4
  ·rw[List.filter_append,<-h5,List.filter_cons,if_neg (by rw[Hn,e3];simp)];simp
 rw[if_neg e3]
 by_cases e4:foldF x.name=nTE
 ·rw[if_pos e4]
  refine⟨?_,?_,?_,?_,?_⟩
  ·rw[Bp,if_neg (by simpa using e1),List.append_nil];exact h1
  ·rw[Bp,if_neg (by simpa using e2),List.append_nil];exact h2
  ·rw[Bp,if_neg (by simpa using e3),List.append_nil];exact h3
  ·rw[Bp,if_pos (by rw[e4];exact beq_self_eq_true _)]
   simp
  ·rw[List.filter_append,<-h5,List.filter_cons,if_neg (by rw[Hn,e4];simp)];simp
 rw[if_neg e4];refine⟨?_,?_,?_,?_,?_⟩
 ·rw[Bp,if_neg (by simpa using e1),List.append_nil];exact h1
 ·rw[Bp,if_neg (by simpa using e2),List.append_nil];exact h2
 ·rw[Bp,if_neg (by simpa using e3),List.append_nil];exact h3
 ·rw[Bp,if_neg (by simpa using e4),List.append_nil];exact h4
 ·rw[List.filter_append,<-h5,List.filter_cons,if_pos (by rw[Hn];simp[e1,e2,e3,e4])];simp
theorem Abo:∀(l l0:List HF) (r:Fr),FrR r l0->FrR (l.foldl Um r) (l0++l)
 | [],l0,r,h=>by rw[List.append_nil];exact h
 |x :: l,l0,r,h=>by
  have:=Abo l (l0++[x]) _ (Al2 x h);rw[List.append_assoc,List.singleton_append]at this;exact this
theorem Al1(l:List HF):FrR (It l) l:=by
 have:=Abo l [] ⟨[],[],[],false,[]⟩ ⟨rfl,rfl,rfl,rfl,rfl⟩
 rwa [List.nil_append]at this
theorem Ak6:Gu [48] 65536=(0,0):=by decide +kernel
set_option maxHeartbeats 8000000
theorem Acc{r:Rq}(h:(Cf r).2=0):(A3 r).2=0/\(Cf r).1=(A3 r).1/\A6 (A3 r).1=0/\A6 r.fields=0/\Ke r.fields=false:=by
 unfold Cf at h ⊢
 split at h
 ·rename_i g;exact absurd h g
 rename_i g1
 split at h
 ·cases h
 rename_i g2
 split at h
 ·rename_i g;exact absurd h g
 rename_i g3;rw[if_neg g1,if_neg g2,if_neg g3];exact⟨by simpa using g3,rfl,h,by simpa using g1,by simpa using g2⟩
theorem Uv{r:Rq}(h:(B8 r).2.2=0):O0 r=(((((r.method++[32])++r.target)++sVer)++Cm (A3 r).1)++r.body,0):=by
 have E:=Abt h;obtain⟨_,h2,h3,_,_⟩:=Acc E.chk;unfold O0;have hp:Tm (A3 r).1=(Cm (A3 r).1,0):=by unfold Tm;rw[if_neg (by simp[h3])]
 rw[if_neg (by simp[h]),E.fields,h2,hp,if_neg (by simp)]
set_option maxHeartbeats 16000000
def segW(w:List UInt8):List UInt8->List (List UInt8)
 | []=>[w]
 |b :: r=>if b=47 then w :: segW [] r else segW (w++[b]) r
structure SgR(s:List UInt8)(k out:List (List UInt8))(fr i:Nat)(F I n:Int)(b:Bool)(f:Nat->List SV)(m:Nat):Prop where
 lie:At s i I m
 F:F=fr
 f1:1<=fr
 le:fr<=i
 row:GrS f n b out
 ol:out.length<=i
 k:k=out++segW ((s.drop fr).take (i-fr)) (s.drop i)
 len:s.length<=100000
def cst(st:List (List UInt8))(s:List UInt8)(last:Bool):List (List UInt8) :=
 if s≠[46]/\s≠[46,46] then st++[s] else
 if last then (if s=[46,46]/\st≠[] then st.dropLast else st)++[[]] else (if s=[46,46]/\st≠[] then st.dropLast else st)
def Agj:List (List UInt8)->List (List UInt8)->List (List UInt8)
 |st,[]=>st
 |st,x :: r=>Agj (cst st x r.isEmpty) r
structure DeJ(s k t:List UInt8)(i:Nat)(I n:Int)(f:Nat->List SV)(m:Nat):Prop where
 lie:At s i I m
 row:A7 f n t
 k:k=t++normL s i
 le:t.length<=i
 len:s.length<=100000
set_option maxHeartbeats 40000000
structure ClJ(l st kk:List (List UInt8))(i:Nat)(I n N:Int)(f fl:Nat->List SV)(m:Nat):Prop where
 lie:AtR l i I m
 rl:Bl fl N l
 row:Bl f n st
 sl:st.length<=i
 ll:l.length<=501
 sm:∀x∈st,x.length<=500
 lm:∀x∈l,x.length<=500
 k:kk=Agj st (l.drop i)
structure CoJ(st:List (List UInt8))(o k:List UInt8)(i:Nat)(I n:Int)(f:Nat->List SV)(m:Nat):Prop where
 lie:AtR st i I m
 row:Bl f n st
 sl:st.length<=501
 sm:∀x∈st,x.length<=500
 ol:o.length<=501 * i
 k:k=o++(st.drop i).flatMap (λx=>47 :: x)
set_option maxHeartbeats 400000
inductive Un:List UInt8->Prop
 |nil:Un []
 |esc (a b:UInt8) (s:List UInt8):0<=D1 (a.toNat:Int)->0<=D1 (b.toNat:Int)->Un s->Un (37 :: a :: b :: s)
 |one (c:UInt8) (s:List UInt8):(Hp c.toNat≠0\/c=63)->Un s->Un (c :: s)
inductive Nu:List UInt8->Prop
 |nil:Nu []
 |esc (v:Nat) (s:List UInt8):v<256->Hp v≠1->Nu s->Nu (37 :: Aiz.getD (v / 16) 0 :: Aiz.getD (v % 16) 0 :: s)
 |one (c:UInt8) (s:List UInt8):(Hp c.toNat≠0\/c=63)->Nu s->Nu (c :: s)
inductive NrR:List UInt8->List UInt8->Prop
 |nil:NrR [] []
 |esc (a b:UInt8) (s t:List UInt8):0<=D1 (a.toNat:Int)->0<=D1 (b.toNat:Int)->NrR s t->NrR (37 :: a :: b :: s) (escO (16 * D1 (a.toNat:Int)+D1 (b.toNat:Int))++t)
 |one (c:UInt8) (s t:List UInt8):(Hp c.toNat≠0\/c=63)->NrR s t->NrR (c :: s) (c :: t)
theorem Sb(s:List UInt8):∀(m i e r:Nat),s.length-i<=m->Kq s i e=some r->Un (s.drop i)
 |m,i,e,r,hm,h=>by
  by_cases hl:i<s.length
  ·cases m with
   |zero=>omega
   |succ m =>
    cases he:Ut s i with
    |true =>
     rw[Akz hl he]at h;have hp:Alw s i:=of_decide_eq_true he;have ih:=Sb s m (i+3) e r (by omega) h;have d0:=Bn hl;have d1:=Bn (show i+1<s.length by have:=hp.1;omega);have d2:=Bn (show i+1+1<s.length by have:=hp.1;omega);rw[d0,d1,d2];have h37:s.getD i 0=37:=UInt8.toNat_inj.1 (by have:=hp.2.1;unfold charI at this;show (s.getD i 0).toNat=37;omega);rw[h37];exact Un.esc _ _ _ hp.2.2.1 hp.2.2.2 ih
    |false =>
     rw[Bn hl]
     by_cases h63:charI s i=63
     ·rw[Ahw hl he h63]at h
      exact Un.one _ _ (.inr (UInt8.toNat_inj.1 (by unfold charI at h63;show (s.getD i 0).toNat=63;omega))) (Sb s m (i+1) _ r (by omega) h)
     ·by_cases hk:Hp (charI s i).toNat=0
      ·rw[Ak0 hl he h63 hk]at h;cases h
      ·rw[Ahv hl he h63 hk]at h
       exact Un.one _ _ (.inl (by unfold charI at hk;simpa using hk)) (Sb s m (i+1) _ r (by omega) h)
  ·rw[List.drop_eq_nil_of_le (by omega)];exact Un.nil
theorem dig_val:∀d:Fin 16,D1 ((Aiz.getD d.1 0).toNat:Int)=(d.1:Int):=by decide
theorem O3{d:Nat}(h:d<16):D1 ((Aiz.getD d 0).toNat:Int)=(d:Int):=dig_val ⟨d,h⟩
theorem Nu.un{s:List UInt8}(h:Nu s):Un s:=by
 induction h with
 |nil=>exact .nil
 |esc v s hv _ _ ih=>exact .esc _ _ _ (by rw[O3 (by omega)];omega) (by rw[O3 (by omega)];omega) ih
 |one c s hc _ ih=>exact .one _ _ hc ih
structure Sep(c:UInt8):Prop where
 n37:c≠37
 val:¬0<=D1 (c.toNat:Int)
theorem Un.cut{c:UInt8}(hc:Sep c){u:List UInt8}(h:Un u):∀a b,u=a++c :: b->Un a/\Un b:=by
 induction h with
 |nil=>intro a b h;simp at h
 |esc x y s hx hy _ ih =>
  intro a b h
  match a,h with
  | [],h=>exact absurd (List.cons.inj h).1.symm hc.n37
  | [p],h=>have:=(List.cons.inj (List.cons.inj h).2).1;exact absurd (by rw[<-this];exact hx) hc.val
  | [p,q],h=>have:=(List.cons.inj (List.cons.inj (List.cons.inj h).2).2).1;exact absurd (by rw[<-this];exact hy) hc.val
  |p :: q :: r :: a,h =>
   simp only[List.cons_append,List.cons.injEq]at h;obtain⟨rfl,rfl,rfl,h⟩:=h;obtain⟨h1,h2⟩:=ih a b h;exact⟨.esc _ _ _ hx hy h1,h2⟩
 |one x s hx hs ih =>
  intro a b h
  match a,h with
  | [],h=>rw[(List.cons.inj h).2]at hs;exact⟨.nil,hs⟩
  |p :: a,h =>
   simp only[List.cons_append,List.cons.injEq]at h;obtain⟨rfl,h⟩:=h;obtain⟨h1,h2⟩:=ih a b h;exact⟨.one _ _ hx h1,h2⟩
theorem Nu.cut{c:UInt8}(hc:Sep c){u:List UInt8}(h:Nu u):∀a b,u=a++c :: b->Nu a/\Nu b:=by
 induction h with
 |nil=>intro a b h;simp at h
 |esc v s hv hk _ ih =>
  intro a b h
  match a,h with
  | [],h=>exact absurd (List.cons.inj h).1.symm hc.n37
  | [p],h=>have:=(List.cons.inj (List.cons.inj h).2).1;exact absurd (by rw[<-this,O3 (by omega)];omega) hc.val
  | [p,q],h=>have:=(List.cons.inj (List.cons.inj (List.cons.inj h).2).2).1;exact absurd (by rw[<-this,O3 (by omega)];omega) hc.val
  |p :: q :: r :: a,h =>
   simp only[List.cons_append,List.cons.injEq]at h;obtain⟨rfl,rfl,rfl,h⟩:=h;obtain⟨h1,h2⟩:=ih a b h;exact⟨.esc _ _ hv hk h1,h2⟩
 |one x s hx hs ih =>
  intro a b h
  match a,h with
  | [],h=>rw[(List.cons.inj h).2]at hs;exact⟨.nil,hs⟩
  |p :: a,h =>
   simp only[List.cons_append,List.cons.injEq]at h;obtain⟨rfl,h⟩:=h;obtain⟨h1,h2⟩:=ih a b h;exact⟨.one _ _ hx h1,h2⟩
theorem Nu.app{a b:List UInt8}(h:Nu a)(hb:Nu b):Nu (a++b):=by
 induction h with
 |nil=>exact hb
 |esc v s hv hk _ ih=>exact .esc _ _ hv hk ih
 |one c s hc _ ih=>exact .one _ _ hc ih
theorem Xs(c:UInt8)(s:List UInt8):c ∉ (Am c s).1/\s=(Am c s).1++(if (Am c s).2.2 then c :: (Am c s).2.1 else [])/\((Am c s).2.2=false->(Am c s).2.1=[]):=by
 induction s with
 |nil=>simp[Am]
 |cons b r ih =>
  rw[show Am c (b :: r)=if b==c then ([],r,true) else (b :: (Am c r).1,(Am c r).2) from rfl]
  by_cases hb:b=c
  ·rw[if_pos (by simpa using hb)];simp[hb]
  ·rw[if_neg (by simpa using hb)]
   obtain⟨h1,h2,h3⟩:=ih;refine⟨?_,?_,h3⟩
   ·rw[List.mem_cons,not_or];exact⟨λe=>hb e.symm,h1⟩
   ·show b :: r=b :: ((Am c r).1++_)
    rw[<-h2]
theorem Jr{c:UInt8}:∀ {a:List UInt8},c ∉ a->∀b,Am c (a++c :: b)=(a,b,true)
 | [],_,b=>by simp[Am]
 |x :: a,h,b=>by
  rw[List.mem_cons,not_or]at h;show (if x==c then ([],a++c :: b,true) else (x :: (Am c (a++c :: b)).1,(Am c (a++c :: b)).2))=_;rw[if_neg (by simpa using λe=>h.1 e.symm),Jr h.2 b]
theorem Qf{c:UInt8}:∀ {a:List UInt8},c ∉ a->Am c a=(a,[],false)
 | [],_=>by simp[Am]
 |x :: a,h=>by
  rw[List.mem_cons,not_or]at h;show (if x==c then _ else _)=_;rw[if_neg (by simpa using λe=>h.1 e.symm),Qf h.2]
structure Seg(x:List UInt8):Prop where
 nu:Nu x
 n47:(47:UInt8) ∉ x
 n63:(63:UInt8) ∉ x
structure Good(x:List UInt8):Prop where
 seg:Seg x
 d1:x≠[46]
 d2:x≠[46,46]
theorem Seg.nil:Seg []:=⟨.nil,by simp,by simp⟩
theorem Good.nil:Good []:=⟨.nil,by simp,by simp⟩
def flat(L:List (List UInt8)):List UInt8:=L.flatMap λx=>47 :: x
structure Cleaned(s t:List UInt8)(L:List (List UInt8))(Q:List UInt8)(hb:Bool):Prop where
 eq:t=flat L++(if hb then 63 :: Q else [])
 ne:L≠[]
 good:∀x∈L,Good x
 q:Nu Q
 q0:hb=false->Q=[]
 len:t.length<=s.length
 s500:s.length<=500
 sp:Mu t=(flat L,Q,hb,0)
 has:(Mu s).2.2=(hb,0)
 again:cleanF t=(t,0)
theorem orgF_un{s:List UInt8}(h:(Tq s).2=0):Un s/\s≠[]/\charI s 0=47/\s.length<=500:=by
 have hl:=Ak1 h;unfold Tq at h;rw[if_neg (by omega),pre47]at h
 split at h
 ·cases h
 rename_i h0;have h0:s≠[]/\charI s 0=47:=by simpa using h0
 cases ho:Kq s 0 s.length with
 |none=>rw[ho]at h;cases h
 |some r =>
  have:=Sb s s.length 0 s.length r (by omega) ho;rw[List.drop_zero]at this;exact⟨this,h0.1,h0.2,hl⟩
theorem Sr:Di 10≠3/\Di 13≠3/\Di 32≠3/\Di 58≠3:=by decide
theorem F4{s:List UInt8}{c:UInt8}(h:Bg s=true)(hc:Di (c.toNat:Int)≠3):c ∉ s:=by
 unfold Bg at h;rw[Bool.and_eq_true,List.all_eq_true]at h;intro hm;have:=h.1 c hm;exact hc (by simpa using this)
theorem Ajp{s:List UInt8}(h:Bg s=true):s≠[]:=by
 rintro rfl;simp[Bg]at h
theorem Un.notin{s:List UInt8}{c:UInt8}(hs:Sep c)(hk:Hp c.toNat=0)(h63:c≠63)(h:Un s):c ∉ s:=by
 induction h with
 |nil=>simp
 |esc a b s ha hb _ ih =>
  simp only[List.mem_cons,not_or];exact⟨hs.n37,λe=>hs.val (by rw[e];exact ha),λe=>hs.val (by rw[e];exact hb),ih⟩
 |one d s hd _ ih =>
  simp only[List.mem_cons,not_or];refine⟨?_,ih⟩;rintro rfl;rcases hd with h|h
  ·exact h hk
  ·exact h63 h
theorem Qx{s:List UInt8}{c:UInt8}(h:Br s=true)(hc:okB c=false):c ∉ s:=by
 unfold Br at h;rw[List.all_eq_true]at h;intro hm;rw[h c hm]at hc;cases hc
def rV:List UInt8:=[32,72,84,84,80,47,49,46,49,13]
theorem Akd{m t u:List UInt8}(hm:m≠[])(ht:t≠[])(m10:(10:UInt8) ∉ m)(m32:(32:UInt8) ∉ m)(t10:(10:UInt8) ∉ t)(t32:(32:UInt8) ∉ t)(hl:m.length+t.length+12<=1024):
  C8 (m++32 :: (t++(rVer++u)))=(m,t,((m.length+t.length+12:Nat):Int),0):=by
 obtain⟨w,hw⟩:∃w,w=m++32 :: (t++rV):=⟨_,rfl⟩;have hwl:w.length=m.length+t.length+11:=by rw[hw];simp[rV];omega
 have hb:m++32 :: (t++(rVer++u))=w++10 :: u:=by rw[hw];simp[rV,rVer]
 have w10:(10:UInt8) ∉ w:=by
  rw[hw];simp only[List.mem_append,List.mem_cons,not_or];exact⟨m10,by decide,t10,by decide⟩
 have htk:(w++10 :: u).take 1024=w++10 :: u.take (1023-w.length):=by
  rw[List.take_append,List.take_of_length_le (by omega)];congr 1;obtain⟨k,hk⟩:∃k,1024-w.length=k+1:=⟨1023-w.length,by omega⟩;rw[hk,List.take_succ_cons];congr 2;omega
 rw[hb,Aad,htk,Jr w10];simp only[Bool.not_true,Bool.false_and,Bool.false_eq_true,if_false];have es:w++[10]=(m++32 :: t)++rVer:=by rw[hw];simp[rV,rVer]
 have el:((m++32 :: t)++rVer).length-11=(m++32 :: t).length:=by rw[List.length_append];show _+11-11=_;omega
 rw[Ah6 es.symm (by rw[el,List.drop_left]),el,List.take_left];unfold Alh;rw[Jr m32];have hi:Lib.indexByte t 32=-1:=Hq (λj hj e=>t32 (by
  rw[<-e,List.getD_eq_getElem?_getD,List.getElem?_eq_getElem hj];exact List.getElem_mem hj))
 simp only[hi];rw[if_neg (by simp[Se,hm,ht])];simp only[Prod.mk.injEq,true_and,and_true];rw[<-es,List.length_append,hwl];simp only[List.length_cons,List.length_nil]
structure Ii(x:HF):Prop where
 name:Bg x.name=true
 plain:Br x.value=true
 trim:trimF x.value=x.value
 len:x.value.length<=2000
def Jt(x:HF):List UInt8:=(x.name++[58,32])++x.value
theorem Oj(x:HF):Gq x=Jt x++[13,10]:=rfl
theorem Ii.no{x:HF}(h:Ii x):(10:UInt8) ∉ Jt x/\(13:UInt8) ∉ Jt x:=by
 unfold Jt;simp only[List.mem_append,not_or];exact⟨⟨⟨F4 h.name Sr.1,by decide⟩,Qx h.plain (by decide)⟩,⟨⟨F4 h.name Sr.2.1,by decide⟩,Qx h.plain (by decide)⟩⟩
theorem Ii.read{x:HF}(h:Ii x):Er (Jt x)=(x,true):=by
 have e:Jt x=x.name++58 :: (32 :: x.value):=by unfold Jt;simp
 have hp:Br (32 :: x.value)=true:=by
  have:=h.plain;unfold Br at this ⊢;rw[List.all_cons,this];rfl
 have ht:trimF (32 :: x.value)=x.value:=by
  have:=h.trim;unfold trimF at this ⊢;rw[Hf (by decide)];exact this
 unfold Er;rw[e,Jr (F4 (c:=58) h.name Sr.2.2.2)];simp only;rw[hp,h.name,if_neg (by simp),ht]
theorem Ul{s:List UInt8}{c:UInt8}{j:Nat}(h:c ∉ s)(hj:j<s.length):s.getD j 0≠c:=λe=>h (by
 rw[<-e,List.getD_eq_getElem?_getD,List.getElem?_eq_getElem hj];exact List.getElem_mem hj)
theorem Air(b:List UInt8)(p j:Nat):(b.drop p).getD j 0=b.getD (p+j) 0:=by
 rw[List.getD_eq_getElem?_getD,List.getElem?_drop,<-List.getD_eq_getElem?_getD]
theorem Is{a u:List UInt8}{j:Nat}(h:j<a.length):(a++u).getD j 0=a.getD j 0:=by
 rw[List.getD_eq_getElem?_getD,List.getElem?_append_left h,<-List.getD_eq_getElem?_getD]
theorem Agd{b q u:List UInt8}{p m:Nat}{r:List HF}(hd:b.drop p=q++13 :: 10 :: u)(q10:(10:UInt8) ∉ q)(h8:p+q.length+2<=8192):hpG b (m+1) p r=hpL b m (p+q.length+1) r true q:=by
 have hl:p+q.length+2<=b.length:=by
  have:=congrArg List.length hd;simp at this;omega
 have hat:∀j,b.getD (p+j) 0=(q++13 :: 10 :: u).getD j 0:=λj=>by rw[<-hd,Air]
 have g13:b.getD (p+q.length) 0=13:=by rw[hat,List.getD_eq_getElem?_getD,List.getElem?_append_right (by omega)];simp
 have g10:b.getD (p+q.length+1) 0=10:=by rw[show p+q.length+1=p+(q.length+1) by omega,hat,List.getD_eq_getElem?_getD,List.getElem?_append_right (by omega)];simp
 have hno:Mb b p (p+q.length+1):=λj h1 h2=>by
  obtain⟨k,rfl⟩:∃k,j=p+k:=⟨j-p,by omega⟩
  by_cases hk:k=q.length
  ·rw[hk,g13];decide
  ·rw[hat,Is (by omega)]
   exact Ul q10 (by omega)
 have:=(Agc (m:=m) (r:=r) (p:=p) (i:=p+q.length+1) (by omega) (by omega) g10 hno (by omega) true (by
  rw[show p+q.length+1-1=p+q.length by omega,g13];simp;omega)).2 rfl
 rw[this,hd,show p+q.length+1-1-p=q.length by omega,List.take_left]
theorem Aii{s:List UInt8}{c:UInt8}(h:c ∉ s):Lib.indexByte s c=-1:=Hq λ_ hj=>Ul h hj
theorem hp_step{b u:List UInt8}{p m:Nat}{r:List HF}{x:HF}(hx:Ii x)(hd:b.drop p=Gq x++u)(h8:p+(Gq x).length<=8192)(hr:r.length<100):hpG b (m+1) p r=hpG b m (p+(Gq x).length) (r++[x]):=by
 obtain⟨n10,n13⟩:=hx.no;have hll:(Gq x).length=(Jt x).length+2:=by rw[Oj,List.length_append];rfl
 rw[Agd (q:=Jt x) (u:=u) (by rw[hd,Oj];simp) n10 (by omega)];unfold hpL;rw[hx.read,Aii n13];have hne:Jt x≠[]:=by unfold Jt;simp
 have hlen:=hx.len;rw[if_neg (by simp),if_neg hne];simp only;rw[if_neg (by simp),if_neg (by simp;omega),hll];congr 1
theorem hp_stop{b u:List UInt8}{p m:Nat}{r:List HF}(hd:b.drop p=13 :: 10 :: u)(h8:p+2<=8192):hpG b (m+1) p r=(r,((p+2:Nat):Int),0):=by
 rw[Agd (q:=[]) (u:=u) hd (by simp) (by simp;omega)];unfold hpL;rw[if_neg (by decide),if_pos rfl];simp only[List.length_nil,Nat.add_zero,Prod.mk.injEq,true_and,and_true];omega
theorem Q3(x:HF)(l:List HF):Cm (x :: l)=Gq x++Cm l:=by simp[Cm]
theorem Ad1:Cm []=[13,10]:=rfl
theorem Ah8(x:HF):4<=(Gq x).length:=by rw[Oj,List.length_append];unfold Jt;simp;omega
theorem Abg{b u:List UInt8}:∀(l:List HF) (p m:Nat) (r:List HF),b.drop p=Cm l++u->(∀x∈l,Ii x)->p+(Cm l).length<=8192->r.length+l.length<=100->b.length-p<m->hpG b m p r=(r++l,((p+(Cm l).length:Nat):Int),0)
 |_,_,0,_,_,_,_,_,h=>by omega
 | [],p,m+1,r,hd,_,h8,_,_=>by
  rw[Ad1]at hd h8 ⊢;rw[hp_stop (u:=u) (by rw[hd];simp) (by simpa using h8),List.append_nil];rfl
 |x :: l,p,m+1,r,hd,hx,h8,hr,hm=>by
  rw[Q3]at hd h8;rw[List.append_assoc]at hd;rw[List.length_append]at h8;have hpos:=Ah8 x;have hpl:p+(Gq x).length<=b.length:=by
   have:=congrArg List.length hd;simp at this;omega
  simp only[List.length_cons]at hr;rw[hp_step (hx x (List.mem_cons_self ..)) hd (by omega) (by omega)];have hd2:b.drop (p+(Gq x).length)=Cm l++u:=by rw[<-List.drop_drop,hd,List.drop_left]
  rw[Abg l _ m _ hd2 (λy hy=>hx y (List.mem_cons_of_mem _ hy)) (by omega) (by rw[List.length_append];simp;omega) (by omega),Q3,List.length_append,List.append_assoc];simp only[List.singleton_append,Prod.mk.injEq,true_and,and_true];omega
theorem U2:∀(l:List HF) (n:Int),Dw l n=0↔(∀x∈l,Ii x)/\n+((l.flatMap Gq).length:Int)<=8192
 | [],n=>by
  unfold Dw;simp only[List.flatMap_nil,List.length_nil]
  split<;>simp<;>omega
 |x :: l,n=>by
  unfold Dw;have hsz:Kx x=((Gq x).length:Int):=by
   unfold Kx;rw[Oj];unfold Jt;simp;omega
  by_cases hb:Wf x=true
  ·rw[if_pos hb]
   constructor
   ·intro h;cases h
   ·rintro⟨h,_⟩
    have hx:=h x (List.mem_cons_self ..);unfold Wf at hb;rw[hx.name,hx.plain,hx.trim]at hb;simp at hb
  ·rw[if_neg hb]
   have hb:Wf x=false:=by simpa using hb
   unfold Wf at hb;simp only[Bool.or_eq_false_iff,Bool.not_eq_false',bne_eq_false_iff_eq]at hb
   by_cases hv:2000<x.value.length
   ·rw[if_pos hv]
    constructor
    ·intro h;cases h
    ·rintro⟨h,_⟩
     have:=(h x (List.mem_cons_self ..)).len;omega
   ·rw[if_neg hv,U2 l,hsz,List.flatMap_cons,List.length_append]
    constructor
    ·rintro⟨h1,h2⟩
     refine⟨λy hy=>?_,by omega⟩;rcases List.mem_cons.1 hy with rfl|hy
     ·exact⟨hb.1,hb.2.1,hb.2.2,by omega⟩
     ·exact h1 y hy
    ·rintro⟨h1,h2⟩
     exact⟨λy hy=>h1 y (List.mem_cons_of_mem _ hy),by omega⟩
theorem Hy(l:List HF):A6 l=0↔l.length<=100/\(∀x∈l,Ii x)/\(Cm l).length<=8192:=by
 unfold A6;have hL:(Cm l).length=(l.flatMap Gq).length+2:=by unfold Cm;rw[List.length_append];rfl
 by_cases h:100<l.length
 ·rw[if_pos h]
  constructor
  ·intro g;cases g
  ·rintro⟨g,_⟩;omega
 ·rw[if_neg h,U2]
  constructor
  ·rintro⟨h1,h2⟩;exact⟨by omega,h1,by omega⟩
  ·rintro⟨_,h1,h2⟩;exact⟨h1,by omega⟩
theorem Ph:∀(s t:List UInt8) (acc:Nat),B6 acc (s++t)=B6 (B6 acc s) t
 | [],t,acc=>rfl
 |c :: s,t,acc=>by
  rw[List.cons_append,show B6 acc (c :: (s++t))=if c=45 then B6 acc (s++t) else B6 (acc * 10+(c.toNat-48)) (s++t) from rfl,show B6 acc (c :: s)=if c=45 then B6 acc s else B6 (acc * 10+(c.toNat-48)) s from rfl]
  split
  ·exact Ph s t acc
  ·exact Ph s t _
structure DecOk(u:Nat)(s:List UInt8):Prop where
 val:B6 0 s=u
 dig:Ca s=true
 ne:s≠[]
 head:s.length=1\/charI s 0≠48
 pos:1<=u->charI s 0≠48
theorem Af0:∀u:Fin 10,B6 0 [UInt8.ofNat (48+u.1)]=u.1/\Ca [UInt8.ofNat (48+u.1)]=true/\(1<=u.1->charI [UInt8.ofNat (48+u.1)] 0≠48)/\UInt8.ofNat (48+u.1)≠45/\(UInt8.ofNat (48+u.1)).toNat-48=u.1:=by decide +kernel
theorem O6:∀(n u:Nat),u<=n->DecOk u (Lib.decDigits u)
 |n,u,h=>by
  rw[Lib.decDigits]
  by_cases h10:u<10
  ·rw[dif_pos h10]
   obtain⟨h1,h2,h3,_,_⟩:=Af0 ⟨u,h10⟩;exact⟨h1,h2,by simp,.inl rfl,h3⟩
  ·rw[dif_neg h10]
   cases n with
   |zero=>omega
   |succ n =>
    have ih:=O6 n (u / 10) (by omega);obtain⟨h1,h2,h3,h4,h5⟩:=Af0 ⟨u % 10,by omega⟩;simp only at h1 h2 h3 h4 h5;have hp:=ih.pos (by omega);have hc:charI (Lib.decDigits (u / 10)++[UInt8.ofNat (48+u % 10)]) 0=charI (Lib.decDigits (u / 10)) 0:=by
     unfold charI;rw[Is (List.length_pos_iff.2 ih.ne)]
    refine⟨?_,?_,by simp,.inr (by rw[hc];exact hp),λ_=>by rw[hc];exact hp⟩
    ·rw[Ph,ih.val]
     unfold B6;rw[if_neg h4];unfold B6;rw[h5];omega
    ·unfold Ca at h2 ⊢
     rw[List.all_append,h2];have:=ih.dig;unfold Ca at this;rw[this];rfl
theorem Q6{n hi:Int}(h0:0<=n)(h1:n<=hi)(h2:hi<=1000000000):Gu (Lib.itoa n) hi=(n,0):=by
 obtain⟨u,rfl⟩:∃u:Nat,n=u:=⟨n.toNat,by omega⟩;have he:Lib.itoa (u:Int)=Lib.decDigits u:=by unfold Lib.itoa;rw[if_neg (by omega)];simp
 rw[he];obtain⟨hv,hd,hne,hh,_⟩:=O6 u u (by omega);obtain⟨s,hs⟩:∃s,s=Lib.decDigits u:=⟨_,rfl⟩;rw[<-hs]at hv hd hne hh ⊢;have h45:charI s 0≠45:=by
  cases s with
  |nil=>exact absurd rfl hne
  |cons c r =>
   have:=Nb hd c (List.mem_cons_self ..);show (c.toNat:Int)≠45;omega
 have hdec:Ab7 s=true:=by
  rw[<-Agr];unfold Aek;have ht:O4 s=s:=by unfold O4;rw[if_neg (λg=>h45 g.1.2)]
  rw[ht,hd,decide_eq_false hne];rcases hh with h|h
  ·rw[h];simp
  ·rw[decide_eq_false h];simp
 rw[Aao s (by omega) h2];have:Aif s hi=((u:Int),0):=by
  unfold Aif;rw[hdec,if_neg (by simp),if_neg h45,hv,if_pos h1]
 rw[this,if_neg (by simp)]
theorem Aiu{a b:List HF}(h:a.Sublist b):(a.flatMap Gq).length<=(b.flatMap Gq).length:=by
 induction h with
 |slnil=>exact Nat.le_refl _
 |cons x _ ih=>rw[List.flatMap_cons,List.length_append];omega
 |cons_cons x _ ih=>rw[List.flatMap_cons,List.flatMap_cons,List.length_append,List.length_append];omega
theorem Aa6(l:List HF):(Cm l).length=(l.flatMap Gq).length+2:=by unfold Cm;rw[List.length_append];rfl
theorem Aep{a b:List HF}(h:a.Sublist b)(hb:A6 b=0):A6 a=0:=by
 rw[Hy]at hb ⊢;obtain⟨h1,h2,h3⟩:=hb;have:=h.length_le;have:=Aiu h;rw[Aa6]at h3 ⊢;exact⟨by omega,λx hx=>h2 x (h.subset hx),by omega⟩
structure Am7(l l':List HF):Prop where
 sub:l'.Sublist l
 again:Sw l'=(l',0)
 chk:A6 l=0
structure Ri(r:Rq)(l':List HF):Prop where
 ex:ExOk r
 con:r.method≠S8
 bare:(r.body != []&&Agw r.method)=false
 strip:Sw r.fields=(l',0)
 st:Am7 r.fields l'
 own:Ke l'=false
 wr:A3 r=(([⟨Z4,r.host⟩,⟨Aj6,Lib.itoa r.id⟩]++l')++(if Gw r then [⟨sCL,Lib.itoa r.body.length⟩] else []),0)
 cw:A6 (A3 r).1=0
theorem Lj{r:Rq}(h1:1<=r.id)(h2:r.id<=1000000000)(h3:Jl r.method=true)(h4:r.method≠S8)(h5:(Tq r.target).2=0)(h6:Alu r.host=true)(h7:(Cf r).2=0)(h8:r.body.length<=65536)(h9:(r.body != []&&Agw r.method)=false):B8 r=([],(Cf r).1,0):=by
 unfold B8;rw[if_neg (by omega),if_neg (by simp[h3]),if_neg h4,if_neg (by simp[h5]),if_neg (by simp[h6]),if_neg (by simp[h7]),if_neg (by omega),if_neg (by rw[h9];simp)]
theorem Ai3{r:Rq}{w:List HF}(h1:A6 r.fields=0)(h2:Ke r.fields=false)(h3:A3 r=(w,0))(h4:A6 w=0):Cf r=(w,0):=by
 unfold Cf;rw[if_neg (by simp[h1]),if_neg (by simp[h2]),h3,if_neg (by simp),h4]
theorem Ri.again{r:Rq}{l':List HF}(G:Ri r l'):O0 ⟨r.id,r.method,r.target,r.host,l',r.body⟩=O0 r/\(B8 ⟨r.id,r.method,r.target,r.host,l',r.body⟩).2.2=0:=by
 obtain⟨q,hq⟩:∃q:Rq,q=⟨r.id,r.method,r.target,r.host,l',r.body⟩:=⟨_,rfl⟩;have hw:A3 q=((A3 r).1,0):=by
  rw[G.wr,hq];unfold A3;simp only;rw[G.st.again,if_neg (by simp)];rfl
 have hck:Cf q=_:=Ai3 (by rw[hq];exact Aep G.st.sub G.st.chk) (by rw[hq];exact G.own) hw G.cw;have hex:=Lj (r:=q) (by rw[hq];exact G.ex.id1) (by rw[hq];exact G.ex.id2) (by rw[hq];exact G.ex.method) (by rw[hq];exact G.con) (by rw[hq];exact G.ex.org) (by rw[hq];exact G.ex.host) (by rw[hck]) (by rw[hq];exact G.ex.body) (by rw[hq];exact G.bare);have h0:(B8 q).2.2=0:=by rw[hex]
 have hr:(B8 r).2.2=0:=by
  rw[Lj G.ex.id1 G.ex.id2 G.ex.method G.con G.ex.org G.ex.host G.ex.chk G.ex.body G.bare]
 rw[<-hq];refine⟨?_,h0⟩;rw[Uv h0,Uv hr,hw,hq]
theorem F3(a b:List HF)(t:List UInt8):B5 (a++b) t=B5 a t++B5 b t:=by
 unfold B5;rw[List.filter_append,List.map_append]
theorem Np{l:List HF}(h:Ke l=false){t:List UInt8}(ht:Tp t=true):B5 l t=[]:=by
 unfold B5;rw[List.filter_eq_nil_iff.2 ?_];rfl;intro x hx e;unfold Ke at h;rw[List.any_eq_false]at h;refine h x hx ?_;rw[eq_of_beq e];exact ht
theorem Ama{l:List HF}(h:Ke l=false):(l.filter λx=>!Tp (foldF x.name))=l:=by
 refine List.filter_eq_self.2 λx hx=>?_;unfold Ke at h;rw[List.any_eq_false]at h;simpa using h x hx
theorem Ahu:Tp K9=true/\Tp nId=true/\Tp nLen=true/\Tp nTE=true:=by decide
theorem Aec:foldF Z4=K9/\foldF Aj6=nId/\foldF sCL=nLen:=by decide
theorem Ri.frame{r:Rq}{l':List HF}(G:Ri r l'):(It (A3 r).1).hosts=[r.host]/\(It (A3 r).1).ids=[Lib.itoa r.id]/\(It (A3 r).1).lens=(if Gw r then [Lib.itoa r.body.length] else [])/\(It (A3 r).1).coded=false/\(It (A3 r).1).rest=l':=by
 obtain⟨f1,f2,f3,f4,f5⟩:=Al1 (A3 r).1;obtain⟨o1,o2,o3,o4⟩:=Ahu;obtain⟨p1,p2,p3⟩:=Aec;rw[f1,f2,f3,f4,f5,G.wr];simp only;have v:∀(t h i:List UInt8),B5 [⟨Z4,h⟩,⟨Aj6,i⟩] t=(if K9==t then [h] else [])++(if nId==t then [i] else []):=λt h i=>by
  rw[Lv,Lv];simp only[p1,p2]
  split<;>split<;>rfl
 have w:∀(t:List UInt8),B5 (if Gw r then [⟨sCL,Lib.itoa (r.body.length:Int)⟩] else []) t=if Gw r&&(nLen==t) then [Lib.itoa (r.body.length:Int)] else []:=λt=>by
  cases Gw r with
  |false=>rfl
  |true =>
   simp only[if_true,Bool.true_and];rw[Lv];simp only[p3]
   split<;>rfl
 refine⟨?_,?_,?_,?_,?_⟩
 ·rw[F3,F3,Np G.own o1,v,w,if_pos (by decide),if_neg (by decide),if_neg (by rw[show (nLen==K9)=false by decide];simp)];rfl
 ·rw[F3,F3,Np G.own o2,v,w,if_neg (by decide),if_pos (by decide),if_neg (by rw[show (nLen==nId)=false by decide];simp)];rfl
 ·rw[F3,F3,Np G.own o3,v,w,if_neg (by decide),if_neg (by decide),show (nLen==nLen)=true by decide,Bool.and_true];rfl
 ·rw[F3,F3,Np G.own o4,v,w,if_neg (by decide),if_neg (by decide),if_neg (by rw[show (nLen==nTE)=false by decide];simp)];rfl
 ·rw[List.filter_append,List.filter_append,Ama G.own]
  have e1:(List.filter (λx:HF=>!Tp (foldF x.name)) [⟨Z4,r.host⟩,⟨Aj6,Lib.itoa r.id⟩])=[]:=by
   rw[List.filter_cons,if_neg (by simp only[p1,o1];simp),List.filter_cons,if_neg (by simp only[p2,o2];simp)];rfl
  have e2:(List.filter (λx:HF=>!Tp (foldF x.name)) (if Gw r then [⟨sCL,Lib.itoa (r.body.length:Int)⟩] else []))=[]:=by
   split
   ·rw[List.filter_cons,if_neg (by simp only[p3,o3];simp)];rfl
   ·rfl
  rw[e1,e2];simp
def Oi(r:Rq):List UInt8:=r.method++32 :: (r.target++rVer)
theorem Ah7(r:Rq):(Oi r).length=r.method.length+r.target.length+12:=by unfold Oi;simp[rVer];omega
theorem Yq{s:List UInt8}(h:Jl s=true):Bg s=true/\s.length<=16:=by
 unfold Jl at h;simp only[Bool.and_eq_true,decide_eq_true_eq]at h;exact⟨h.2,h.1⟩
theorem sep10:Sep 10:=⟨by decide,by decide⟩
theorem sep32:Sep 32:=⟨by decide,by decide⟩
theorem Ri.line{r:Rq}{l':List HF}(G:Ri r l'):r.method≠[]/\r.target≠[]/\(10:UInt8) ∉ r.method/\(32:UInt8) ∉ r.method/\(10:UInt8) ∉ r.target/\(32:UInt8) ∉ r.target/\r.method.length+r.target.length+12<=1024:=by
 obtain⟨h1,h2⟩:=Yq G.ex.method;obtain⟨u1,u2,_,u4⟩:=orgF_un G.ex.org;exact⟨Ajp h1,u2,F4 h1 Sr.1,F4 h1 Sr.2.2.1,u1.notin sep10 (by decide) (by decide),u1.notin sep32 (by decide) (by decide),by omega⟩
theorem Ri.head{r:Rq}{l':List HF}(G:Ri r l')(a:List UInt8):Aks (Oi r++(Cm (A3 r).1++a)) =
  Akt (Oi r++(Cm (A3 r).1++a)) ⟨r.id,r.method,r.target,r.host,l',[]⟩ (((Oi r).length+(Cm (A3 r).1).length:Nat):Int) (r.body.length:Int):=by
 obtain⟨m1,t1,m10,m32,t10,t32,hl⟩:=G.line;obtain⟨b,hb⟩:∃b,b=Oi r++(Cm (A3 r).1++a):=⟨_,rfl⟩;have hrl:C8 b=(r.method,r.target,(((Oi r).length:Nat):Int),0):=by
  rw[hb,Ah7];have:=Akd (u:=Cm (A3 r).1++a) m1 t1 m10 m32 t10 t32 hl;rw[<-this];unfold Oi;simp
 have hd:b.drop (Oi r).length=Cm (A3 r).1++a:=by rw[hb,List.drop_left]
 have hcw:=(Hy _).1 G.cw;have hhp:Av (Cm (A3 r).1++a)=((A3 r).1,(((Cm (A3 r).1).length:Nat):Int),0):=by
  unfold Av;rw[Abg (u:=a) (A3 r).1 0 _ [] (by rw[List.drop_zero]) hcw.2.1 (by omega) (by simpa using hcw.1) (by omega)];simp
 obtain⟨f1,f2,f3,f4,f5⟩:=G.frame;have hlens:(It (A3 r).1).lens.length<=1:=by rw[f3];split<;>simp
 have hbad:Al3 (It (A3 r).1)=false:=by
  unfold Al3;rw[f1,f2,f4];simp;omega
 have hnum:Gu (lenS (It (A3 r).1)) 65536=((r.body.length:Int),0):=by
  unfold lenS;rw[f3];cases hB:Gw r with
  |true =>
   simp only[if_true];rw[if_neg (by simp),List.getD_cons_zero];exact Q6 (by omega) (by have:=G.ex.body;omega) (by decide)
  |false =>
   simp only[Bool.false_eq_true,if_false];show Gu [48] 65536=_;rw[Ak6];have:r.body=[]:=by
    unfold Gw at hB;simp only[Bool.or_eq_false_iff]at hB;simpa using hB.1.1.1
   rw[this];rfl
 have hnid:Gu (Lib.itoa r.id) 1000000000=(r.id,0):=Q6 (by have:=G.ex.id1;omega) G.ex.id2 (by decide);rw[<-hb];unfold Aks;rw[hrl];simp only[Int.toNat_natCast];rw[hd,hhp];simp only[ne_eq,not_true,if_false];unfold Akv;rw[hbad,if_neg (by simp),hnum,f1,f2,f5];simp only[List.getD_cons_zero];rw[hnid];unfold Aku;simp only;rw[if_neg (by decide),if_neg (by decide)];rw[Int.natCast_add]
end Go.Proofs.YtdoogdbjiijifaaGreatDoor
