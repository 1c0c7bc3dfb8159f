/- Part of the proofs of the statements about responses and messages (layers 9 and 10): a symbolic executor over the code, that it is sound, and contracts of functions; it has no conditions of its own. -/
import Derived.RangeFuncRecord
import Derived.Test.YtdoogdbjiijifaaGreatDoorE3Par
namespace Go.Sx
open Go
section
variable {P:Program} {cx:Cx}
theorem Pm{E:Env}{w:World}{vs:List SV}{us:List Value}(h:A2 E w vs us):Rel E w (Aaj vs) (if h:(⟨us⟩:Array Value).size=1 then (⟨us⟩:Array Value)[0] else .tuple ⟨us⟩):=by
 match vs,us,h with
 | [],[],h=>exact .tup h.1 h.2
 | [v],[u],h=>exact h.2 0 v u rfl rfl
 |_ :: _ :: _,_ :: _ :: _,h =>
  rw[dif_neg (by simp)];exact .tup h.1 h.2
 | [],_ :: _,h=>exact absurd h.1 (by simp)
 |_ :: _,[],h=>exact absurd h.1 (by simp)
 | [_],_ :: _ :: _,h=>exact absurd h.1 (by simp)
 |_ :: _ :: _,[_],h=>exact absurd h.1 (by simp)
theorem Zr:∀n,Wg n=List.range n
 |0=>rfl
 |n+1=>by rw[Wg,Zr n,List.range_succ]
theorem Agn:∀ {a b:List Nat},eqNs a b=true->a=b
 | [],[],_=>rfl
 |x :: l,y :: t,h=>by
  simp only[eqNs,Bool.and_eq_true,beq_iff_eq]at h;rw[h.1,Agn h.2]
 | [],_ :: _,h=>by cases h
 |_ :: _,[],h=>by cases h
theorem Xp(hc:A1 P cx){B:Bs}{N:Nat}{E':Env}{a':Act}{w':World}{σ':Sy}(hs':StY B N E' a' w' σ'){m:Nat}(hdom:∀h,B.β0 h≠none\/B.τ0 h≠none\/B.ζ0 h≠none->h<m){vs:List SV}{us:List Value}(u2:A2 E' w' vs us){r:SV}{ls':List Hl}(hk:Amk cx m vs σ' λr' ls''=>Fin r' r ls'' ls'):
  ∃E2,Ci B E2 w'/\(∀h,h<ls'.length->HOk E2 w' h (Aq ls' h))/\Rel E2 w' r (if h:(⟨us⟩:Array Value).size=1 then (⟨us⟩:Array Value)[0] else .tuple ⟨us⟩):=by
  have hbase:=hs'.st.base;unfold Amk at hk;rw[hc.D]at hk;obtain⟨r0,hr0⟩:∃x,x=loose (norm dn (Aaj vs)):=⟨_,rfl⟩;simp only[<-hr0]at hk;obtain⟨hs,hhs⟩:∃x,x=Tk σ'.hp σ'.hp (Lt (Wg m) (hsV r0)):=⟨_,rfl⟩;simp only[<-hhs]at hk;obtain⟨ls,hls⟩:∃x,x=Uj dn σ'.hp hs:=⟨_,rfl⟩;simp only[<-hls]at hk
  split at hk
  ·rename_i hcond
   simp only[Bool.and_eq_true]at hcond;obtain⟨⟨⟨⟨⟨c1,c2⟩,c3⟩,c4⟩,c5⟩,c6⟩:=hcond;have n1:=(Ho _).1 c1;have c2:=Agn c2;rw[A9,Zr]at c2;have c3:=(Hd _ _).1 c3;have c6:=(Gd _ _).1 c6;obtain⟨k1,k2,k3⟩:=hk;have hfirst:∀k,k<m->hs[k]?=some k:=by
    intro k hk;have:(hs.take m)[k]?=some k:=by rw[c2,List.getElem?_range hk]
    rwa [List.getElem?_take,if_pos hk]at this
   let E2:Env:=⟨λi=>(hs[i]?).bind E'.β,λi=>(hs[i]?).bind E'.τ,λb=>(E'.O b).bind λh=>hs.idxOf? h,λ_=>none,λi=>(hs[i]?).bind E'.ζ,E'.I⟩
   have hbase2:Ci B E2 w':=by
    refine⟨hbase.os,hbase.tape,hbase.output,hbase.size,hbase.old,hbase.I0,hbase.Ibd,hbase.Inew,λb j hO=>?_,⟨λk b hk=>?_,λk v hk=>?_,λk z hk=>?_⟩⟩
    ·have hO:(E'.O b).bind (λh=>hs.idxOf? h)=some j:=hO
     cases hEO:E'.O b with
     |none=>rw[hEO]at hO;cases hO
     |some q=>exact hbase.Obd b q hEO
    ·show (hs[k]?).bind E'.β=some b
     rw[hfirst k (hdom k (.inl (by rw[hk];simp)))];exact hbase.β0.β k b hk
    ·show Pc v ((hs[k]?).bind E'.τ)
     rw[hfirst k (hdom k (.inr (.inl (by rw[hk];simp))))];exact hbase.β0.τ k v hk
    ·show (hs[k]?).bind E'.ζ=some z
     rw[hfirst k (hdom k (.inr (.inr (by rw[hk];simp))))];exact hbase.β0.ζ k z hk
   have hsame:∀k∈hs,Xz E' k E2 (H4 hs k):=by
    intro k hk;obtain⟨i,hi⟩:=List.mem_iff_getElem?.1 hk;rw[Om n1 hi];exact⟨by show (hs[i]?).bind E'.β=_;rw[hi];rfl,by show (hs[i]?).bind E'.τ=_;rw[hi];rfl,by show (hs[i]?).bind E'.ζ=_;rw[hi];rfl⟩
   have hidx:∀(i k:Nat),hs[i]?=some k->hs.idxOf? k=some i:=by
    intro i k hk;rw[List.idxOf?_eq_some_iff];obtain⟨hlt,he⟩:=List.getElem?_eq_some_iff.1 hk;refine⟨hlt,by simp[he],λj hj=>?_⟩;have hne:hs[j]≠hs[i]:=List.pairwise_iff_getElem.1 n1 j i (by omega) hlt hj;rw[<-he];simpa using hne
   have n2:ls.length=hs.length:=by rw[hls,Ou,List.length_map]
   refine⟨E2,hbase2,λh hlt=>?_,?_⟩
   ·refine k2 h E2 w' ?_
    rw[J4]at k3 ⊢;rw[List.length_map,n2]at k3;have hlt2:h<hs.length:=by omega
    have hmem:hs[h]∈hs:=List.getElem_mem hlt2;have hl:ls[h]?=some ls[h]:=List.getElem?_eq_getElem (by omega);have hhf:Aq (ls.map (rnH (H4 hs))) h=rnH (H4 hs) ls[h]:=by
     simp only[Aq,Ag];rw[List.getElem?_map,hl];rfl
    rw[hhf];obtain⟨d1,d2⟩:=c6 ls[h] (List.getElem_mem _);have hk:=hs'.st.heap hs[h];have hnl:HOk E' w' hs[h] ls[h]:=by
     have hl2:=hl
     conv at hl2=>lhs;rw[hls,Ou,List.getElem?_map,List.getElem?_eq_getElem hlt2]
     simp only[Option.map_some,Option.some.injEq]at hl2;rw[<-hl2];cases hn:nth σ'.hp hs[h] with
     |none=>trivial
     |some l0=>rw[Bv hn]at hk;exact hk.normG
    have hs1:=hsame _ hmem;rw[Om n1 (List.getElem?_eq_getElem hlt2)]at hs1;refine hnl.rn (H4 hs) d1 rfl hs1 (λb hb=>?_) λj hj=>hsame j (d2 j hj);show (E'.O b).bind (λh=>hs.idxOf? h)=some h;rw[hb];exact hidx h _ (List.getElem?_eq_getElem hlt2)
   ·have hr1:=(Pm u2).norm.loose
    rw[<-hr0]at hr1;exact k1 E2 w' _ (hr1.rn (H4 hs) rfl c4 λk hk=>hsame k (c3 k hk))
  ·exact hk.elim
structure Ae2(B:Bs):Prop where
 nodup:B.dl.Nodup
 lie:∀r∈B.dl,r<B.w0.heap.size/\¬B.X r/\B.w0.heap[r]?=some (.deferred (some []))
structure Reb(B B1:Bs):Prop where
 os:B1.w0.os=B.w0.os
 tape:B1.w0.tape=B.w0.tape
 output:B1.w0.output=B.w0.output
 size:B.w0.heap.size<=B1.w0.heap.size
 old:∀b,b<B.w0.heap.size->¬B.X b->¬B1.X b/\B1.w0.heap[b]?=B.w0.heap[b]?
 I0:∀b o,B.I0 b o->B1.I0 b o/\B1.w0.cell? ⟨b,o,none⟩=B.w0.cell? ⟨b,o,none⟩
 Inew:∀b o,B1.I0 b o->B.I0 b o\/B.w0.heap.size<=b\/B.X b
 X:∀b,B1.X b->B.w0.heap.size<=b\/B.X b
 β0:B1.β0=B.β0
 τ0:B1.τ0=B.τ0
 ζ0:B1.ζ0=B.ζ0
 marks:Ae2 B->Ae2 B1
 new:∀r∈B1.dl,r∈B.dl\/B.w0.heap.size<=r
theorem Reb.refl(B:Bs):Reb B B:=⟨rfl,rfl,rfl,Nat.le_refl _,λ_ _ h=>⟨h,rfl⟩,λ_ _ h=>⟨h,rfl⟩,λ_ _ h=>.inl h,λ_ h=>.inr h,rfl,rfl,rfl,id,λ_ h=>.inl h⟩
theorem Reb.trans{A B C:Bs}(h1:Reb A B)(h2:Reb B C):Reb A C where
 os:=h2.os.trans h1.os
 tape:=h2.tape.trans h1.tape
 output:=h2.output.trans h1.output
 size:=Nat.le_trans h1.size h2.size
 old:=λb hlt hX=>by
  obtain⟨p1,p2⟩:=h1.old b hlt hX;obtain⟨q1,q2⟩:=h2.old b (Nat.lt_of_lt_of_le hlt h1.size) p1;exact⟨q1,q2.trans p2⟩
 I0:=λb o hi=>by
  obtain⟨p1,p2⟩:=h1.I0 b o hi;obtain⟨q1,q2⟩:=h2.I0 b o p1;exact⟨q1,q2.trans p2⟩
 Inew:=λb o hi=>by
  rcases h2.Inew b o hi with h|h|h
  ·exact h1.Inew b o h
  ·exact .inr (.inl (Nat.le_trans h1.size h))
  ·exact .inr (h1.X b h)
 X:=λb hX=>by
  rcases h2.X b hX with h|h
  ·exact .inl (Nat.le_trans h1.size h)
  ·exact h1.X b h
 β0:=h2.β0.trans h1.β0
 τ0:=h2.τ0.trans h1.τ0
 ζ0:=h2.ζ0.trans h1.ζ0
 marks:=λh=>h2.marks (h1.marks h)
 new:=λr hr=>by
  rcases h2.new r hr with h|h
  ·exact h1.new r h
  ·exact .inr (Nat.le_trans h1.size h)
theorem Reb.since{B B1:Bs}{E:Env}(h:Reb B B1)(hs:Mq B1 E):Mq B E :=
 ⟨λk b hk=>hs.β k b (by rw[h.β0];exact hk),λk v hk=>hs.τ k v (by rw[h.τ0];exact hk),λk n hk=>hs.ζ k n (by rw[h.ζ0];exact hk)⟩
theorem Reb.base{B B1:Bs}{E:Env}{w:World}(h:Reb B B1)(hb:Ci B1 E w):Ci B E w where
 os:=hb.os.trans h.os
 tape:=hb.tape.trans h.tape
 output:=hb.output.trans h.output
 size:=Nat.le_trans h.size hb.size
 old:=λb hlt hX=>by
  obtain⟨p1,p2⟩:=h.old b hlt hX;exact (hb.old b (Nat.lt_of_lt_of_le hlt h.size) p1).trans p2
 I0:=λb o hi=>by
  obtain⟨p1,p2⟩:=h.I0 b o hi;obtain⟨q1,q2⟩:=hb.I0 b o p1;exact⟨q1,q2.trans p2⟩
 Ibd:=hb.Ibd
 Inew:=λb o hi=>by
  rcases hb.Inew b o hi with q|q|q
  ·exact h.Inew b o q
  ·exact .inr (.inl (Nat.le_trans h.size q))
  ·exact .inr (h.X b q)
 Obd:=λb k hO=>by
  obtain⟨q1,q2⟩:=hb.Obd b k hO;refine⟨q1,?_⟩;rcases q2 with q|q
  ·exact .inl (Nat.le_trans h.size q)
  ·exact h.X b q
 β0:=h.since hb.β0
theorem Reb.gl{B B1:Bs}{gl:List (Nat×SV)}(h:Reb B B1)(hg:E6 B gl):E6 B1 gl:=λg s hl=>by
 obtain⟨g1,g2,g3,g4⟩:=hg g s hl;obtain⟨p1,p2⟩:=h.old g g2 g3;exact⟨g1.mono (λb o hi=>(h.I0 b o hi).1) (λb o hi=>(h.I0 b o hi).2),Nat.lt_of_lt_of_le g2 h.size,p1,g4.same p2⟩
theorem Reb.dom{B B1:Bs}(h:Reb B B1){m:Nat}(hd:∀h,B.β0 h≠none\/B.τ0 h≠none\/B.ζ0 h≠none->h<m):∀h,B1.β0 h≠none\/B1.τ0 h≠none\/B1.ζ0 h≠none->h<m:=by
 rw[h.β0,h.τ0,h.ζ0];exact hd
def exQ(B:Bs)(N:Nat)(K:Ex->Sy->Prop)(e:Exit)(a:Act)(w:World):Prop:=∃B1 E σ,Reb B B1/\StY B1 N E a w σ/\exK K σ e
theorem Aik{hp:List Hl}{h:Nat}{l:Hl}(hlt:h<hp.length):Aq (Ax hp h l)=upd (Aq hp) h l:=by
 have:=P7 (hp:=hp) (h:=h) (hl:=l) (Nat.le_of_lt hlt);unfold Ahs at this;rw[if_neg (by rw[Ae];simp;omega)]at this;exact this
theorem Aij{hp:List Hl}{l:Hl}:Aq (hp++[l])=upd (Aq hp) hp.length l:=by
 have:=P7 (hp:=hp) (h:=hp.length) (hl:=l) (Nat.le_refl _);unfold Ahs at this;rw[if_pos (by rw[Ae];simp)]at this;exact this
theorem Adq{α:Type}{l:List α}{i:Nat}{x:α}(h:nth l i=some x):i<l.length:=by
 rw[Ag]at h;exact (List.getElem?_eq_some_iff.1 h).1
theorem StY.setObj{B:Bs}{N:Nat}{E:Env}{a:Act}{w:World}{σ:Sy}(hs:StY B N E a w σ){h b:Nat}(hlt:h<σ.hp.length)(hO:E.O b=some h)(hI:∀o,¬E.I b o)(o':Obj)(l:Hl)
  (hl:HOk E (w.putObj b o') h l):StY B N E a (w.putObj b o') ⟨σ.fr,Ax σ.hp h l,σ.gm⟩:=by
 obtain⟨x1,x2,x3⟩:=Nv hs.st hO hI o' l hl;refine⟨?_,hs.len,⟨hs.wf.tg,hs.wf.gt,hs.wf.gf⟩,λk hk=>?_⟩
 ·have:=hs.st.step x1 x2 x3
  rw[<-Aik hlt]at this;exact this
 ·show k<(Ax σ.hp h l).length
  rw[As,List.length_set];exact hs.ge k hk
theorem Mq.comp{B:Bs}{E E':Env}{w:World}{X:Nat->Prop}{I0:Nat->Nat->Prop}{dl:List Nat}(h:Mq B E)(h':Mq ⟨w,X,I0,E.β,E.τ,E.ζ,dl⟩ E'):Mq B E':=by
 refine⟨λk b hk=>h'.β k b (h.β k b hk),λk v hk=>?_,λk n hk=>h'.ζ k n (h.ζ k n hk)⟩;have h1:=h.τ k v hk;cases he:E.τ k with
 |none=>rw[he]at h1;rcases h1 with h1|⟨_,_,_,_,_,_,_,h1,_⟩<;>cases h1
 |some u =>
  rw[he]at h1;exact h1.trans (h'.τ k u he)
theorem Wn:∀ {ps:List Tmp} {vs:List SV} {fr fr':List (Option G)},I6 ps vs fr=some fr'->vs.length=ps.length/\fr'.length=fr.length
 | [],[],fr,fr',h=>by simp[I6]at h;subst h;exact⟨rfl,rfl⟩
 |p :: ps,v :: vs,fr,fr',h=>by
  obtain⟨h1,h2⟩:=Wn (ps:=ps) (vs:=vs) (by simpa[I6] using h);exact⟨by simp[h1],by rw[h2,As,List.length_set]⟩
 | [],_ :: _,_,_,h=>by simp[I6]at h
 |_ :: _,[],_,_,h=>by simp[I6]at h
structure Ajk(E:Env)(w:World)(N:Nat)(fr:List (Option G))(tmps:Array Value):Prop where
 len:fr.length=N
 size:tmps.size=N
 lie:∀s g,Au fr s=some g->g.tg=[]/\g.gt=none/\g.gf=none/\s<N/\Rel E w g.v (tmps.getD s undef)
theorem Ajk.sets{E:Env}{w:World}{N:Nat}:∀(ps:List Tmp) (vs:List SV) (us:List Value) (fr fr':List (Option G)) (tmps:Array Value),Ajk E w N fr tmps->I6 ps vs fr=some fr'->A2 E w vs us->
  Ajk E w N fr' ((ps.zip us).foldl (λtmps (x:Tmp×Value)=>tmps.setIfInBounds x.1 x.2) tmps)
 | [],[],us,fr,fr',tmps,h,hs,_=>by simp[I6]at hs;subst hs;simpa using h
 |p :: ps,v :: vs,[],_,_,_,_,_,hr=>absurd hr.1 (by simp)
 |p :: ps,v :: vs,u :: us,fr,fr',tmps,h,hs,hr=>by
  have htl:A2 E w vs us:=⟨by have:=hr.1;simpa using this,λi s v a b=>hr.2 (i+1) s v a b⟩;have hhd:=hr.2 0 v u rfl rfl;simp only[List.zip_cons_cons,List.foldl_cons];refine Ajk.sets ps vs us _ fr' _ ?_ (by simpa[I6] using hs) htl;refine⟨by rw[As,List.length_set];exact h.len,by simp[h.size],λs g hg=>?_⟩;rw[B7]at hg
  split at hg
  ·rename_i e
   obtain⟨rfl,e2⟩:=e;cases hg;rw[h.len]at e2;refine⟨rfl,rfl,rfl,e2,?_⟩;rw[Array.getD_eq_getD_getElem?,Array.getElem?_setIfInBounds_self_of_lt (by rw[h.size];exact e2)];exact hhd
  ·rename_i e
   obtain⟨q1,q2,q3,q4,q5⟩:=h.lie s g hg;refine⟨q1,q2,q3,q4,?_⟩;have e2:p≠s:=λe2=>e ⟨e2.symm,by rw[h.len,e2];exact q4⟩;rw[Array.getD_eq_getD_getElem?,Array.getElem?_setIfInBounds_ne e2,<-Array.getD_eq_getD_getElem?];exact q5
 | [],_ :: _,_,_,_,_,_,hs,_=>by simp[I6]at hs
 |_ :: _,[],_,_,_,_,_,hs,_=>by simp[I6]at hs
theorem Aio(N s:Nat):Au (List.replicate N (none:Option G)) s=none:=by
 rw[Dz,List.getElem?_replicate]
 split<;>rfl
theorem Ac2{x:LoopState}(h:Ajw x=0):x=.ready:=by cases x<;>simp[Ajw]at h ⊢
theorem Ahf{x:LoopState}(h:Ajw x≠1):x≠.busy:=by rintro rfl;exact h rfl
def roundX(cx:Cx)(c:LC)(ps:Array Tmp)(assign bd:Code)(N:Nat)(Y:FSpec):Prop :=
 ∀xs ls K',Y cx.D xs ls K'->(∃fr,ls.head?=some (.lrec c fr 0 none))/\∃r ls',K' r ls'/\match Adi c ps N xs ls with
  |some fr0=>exec cx assign ⟨fr0,ls,[]⟩ λe σ1=>match e,nth σ1.hp 0 with
   |.normal,some (.lrec c1 fr1 0 none)=>exec cx bd ⟨σ1.fr,Ax σ1.hp 0 (.lrec c1 fr1 1 none),σ1.gm⟩ (Tf cx (Af ls) λr' ls''=>Fin r' r ls'' ls')
   |_,_=>False
  |none=>False
def Agy(P:Program)(cx:Cx)(N:Nat)(x:Code):Prop:=∀(l nn:Nat) (σ:Sy) (K:Ex->Sy->Prop),exec cx x σ K->∀(B:Bs),E6 B cx.gl->∀(E:Env) (a:Act) (w:World),StY B N E a w σ->x.wpIn (Fr (some l)) nn P (exQ B N K) a w
theorem X1(hc:A1 P cx){N:Nat}{c:LC}{ps:Array Tmp}{assign bd:Code}(hl:IsLC c ps assign bd N){Y:FSpec}(sa:Agy P cx N assign)(sb:Agy P cx N bd)(h:roundX cx c ps assign bd N Y):YOk P cx.gl Y:=by
 intro as ls K hY;rw[<-hc.D]at hY;obtain⟨⟨fr,hfr⟩,r,ls',hK,hx⟩:=h as ls K hY;refine⟨r,ls',hK,?_⟩;intro B E w vals hw0 hI0 hdom hb hg hh hr;obtain⟨rest,rfl⟩:∃rest,ls=.lrec c fr 0 none :: rest:=by
  cases ls with
  |nil=>simp at hfr
  |cons x rest=>simp at hfr;subst hfr;exact⟨rest,rfl⟩
 split at hx
 ·rename_i fr0 h0
  obtain⟨vs,rfl,hset⟩:∃vs,as=.yv 0 :: vs/\I6 ps.toList vs (Oc fr (List.replicate N none))=some fr0:=by
   unfold Adi at h0
   split at h0
   ·rename_i vs _ _ _ e
    simp only[List.cons.injEq,Hl.lrec.injEq,and_true]at e;obtain⟨⟨rfl,rfl⟩,rfl⟩:=e;exact⟨vs,rfl,h0⟩
   ·cases h0
  obtain⟨u,us,rfl,hu,hus⟩:∃u us,vals=u :: us/\Rel E w (.yv 0) u/\A2 E w vs us:=by
   cases vals with
   |nil=>exact absurd hr.1 (by simp)
   |cons u us=>exact⟨u,us,rfl,hr.2 0 _ u rfl rfl,⟨by have:=hr.1;simpa using this,λi s v a b=>hr.2 (i+1) s v a b⟩⟩
  obtain⟨b,hβ,rfl⟩:=hu.yv_inv;have h00:=hh 0;obtain⟨b',rr,k1,k2,k3,k4,k5,k6⟩:=h00;rw[hβ]at k1;cases k1;obtain⟨p1,p2⟩:=Wn hset;have hps:rr.params.toList=ps.toList:=by rw[k4.ps,hl.ps]
  have hsz:us.length=rr.params.size:=by
   rw[<-Array.length_toList,hps,<-p1];exact hus.1.symm
  refine⟨b,us,rr,rfl,k3,hsz,λro nn=>?_⟩;rw[show rr.assign=assign by rw[k4.assign,hl.assign],show rr.body=bd by rw[k4.body,hl.body]];have hdomE:∀h,E.β h≠none\/E.τ h≠none\/E.ζ h≠none->h<(Hl.lrec c fr 0 none :: rest).length:=by
   intro h hne;rcases Nat.lt_or_ge h (Hl.lrec c fr 0 none :: rest).length with hlt|hge
   ·exact hlt
   ·have hk:=hh h
    rw[show Aq (Hl.lrec c fr 0 none :: rest) h=.fresh by simp only[Aq,Ag,List.getElem?_eq_none hge,Option.getD_none]]at hk;obtain⟨q1,q2,q3,q4⟩:=hk;rcases hne with hne|hne|hne
    ·exact absurd q1 hne
    ·exact absurd q2 hne
    ·exact absurd q4 hne
  subst hw0
  let B':Bs:=⟨B.w0,B.X,B.I0,E.β,E.τ,E.ζ,[]⟩
  have hb':Ci B' E B.w0:=⟨hb.os,hb.tape,hb.output,hb.size,hb.old,hb.I0,hb.Ibd,hb.Inew,hb.Obd,⟨λ_ _ h=>h,λ_ _ h=>.inl h,λ_ _ h=>h⟩⟩;have hg':E6 B' cx.gl:=hg;have hbackB:∀ {E2:Env} {w2:World},Ci B' E2 w2->Ci B E2 w2:=λ{E2 w2} h2=>⟨h2.os,h2.tape,h2.output,h2.size,h2.old,h2.I0,h2.Ibd,h2.Inew,h2.Obd,hb.β0.comp h2.β0⟩;have hfrok:Ajk E B.w0 N fr0 ((rr.params.zip (⟨us⟩:Array Value)).foldl (λtmps (t,a)=>tmps.setIfInBounds t a) rr.tmps):=by
   have h1:Ajk E B.w0 N (Oc fr (List.replicate N none)) rr.tmps:=by
    refine⟨by rw[Uc];simp,by rw[k4.n,hl.n],λs g hs=>?_⟩;obtain⟨g1,g2,g3,v,g4,g5⟩:=Jn _ _ s g (Aio N) hs;obtain⟨q1,q2⟩:=k5 s v g4;exact⟨g1,g2,g3,by rw[<-hl.n];exact q1,by rw[g5];exact q2⟩
   have h2:=h1.sets ps.toList vs us _ fr0 _ hset hus;have e:(rr.params.zip (⟨us⟩:Array Value)).foldl (λtmps (t,a)=>tmps.setIfInBounds t a) rr.tmps=(ps.toList.zip us).foldl (λtmps (x:Tmp×Value)=>tmps.setIfInBounds x.1 x.2) rr.tmps:=by
    rw[<-Array.foldl_toList,Array.toList_zip,hps]
   rw[e];exact h2
  generalize (rr.params.zip (⟨us⟩:Array Value)).foldl (λtmps (t,a)=>tmps.setIfInBounds t a) rr.tmps=tmps' at hfrok ⊢
  have sty:StY B' N E { tmps:=tmps',defers:=[] } B.w0 ⟨fr0,.lrec c fr 0 none :: rest,[]⟩:=by
   refine⟨⟨hb',hh,λs=>?_,hfrok.size,rfl⟩,hfrok.len,⟨λs g hs i hi=>?_,λs g i hs hi=>?_,λs g i hs hi=>?_⟩,hdomE⟩
   ·simp only[Ba]
    cases hs:Au fr0 s with
    |none=>trivial
    |some g =>
     obtain⟨q1,q2,q3,q4,q5⟩:=hfrok.lie s g hs;simp only[Option.map_some,Bk,q1,Ac,List.filterMap_nil,Bh];exact⟨by rw[hfrok.size];exact q4,λ_=>q5,λh=>absurd trivial h⟩
   ·rw[(hfrok.lie s g hs).1]at hi;cases hi
   ·rw[(hfrok.lie s g hs).2.1]at hi;cases hi
   ·rw[(hfrok.lie s g hs).2.2.1]at hi;cases hi
  refine roundIn_of_wpIn trivial ?_;refine wpIn_mono (sa b nn _ _ hx B' hg' E _ B.w0 sty) ?_;rintro e a1 w1 ⟨B1,E1,σ1,hR1,hs1,hk1⟩;have hβ1:E1.β 0=some b:=(hR1.since hs1.st.base.β0).β 0 b hβ;cases e with
  |normal =>
   have hk1:match nth σ1.hp 0 with
    |some (.lrec c1 fr1 0 none)=>exec cx bd ⟨σ1.fr,Ax σ1.hp 0 (.lrec c1 fr1 1 none),σ1.gm⟩ (Tf cx (Af (Hl.lrec c fr 0 none :: rest)) λr' ls''=>Fin r' r ls'' ls')
    |_=>False:=by
    simp only[exK]at hk1
    split at hk1
    ·rename_i c1 fr1 _ hn1
     simp only[hn1];exact hk1
    ·exact hk1.elim
   split at hk1
   ·rename_i c1 fr1 hn1
    have hh1:=hs1.st.heap 0;rw[Bv hn1]at hh1;obtain⟨b1,r1,j1,j2,j3,j4,j5,j6⟩:=hh1;rw[hβ1]at j1;cases j1;refine⟨_,run_beginRound j3 (Ac2 j4.st),?_⟩;have hbl:=A5 hs1.st.base j2;have sty2:=hs1.setObj (Adq hn1) j2 j6 (.loop { r1 with state:=.busy }) (.lrec c1 fr1 1 none) (by
     obtain⟨x1,_,_⟩:=Nv hs1.st j2 j6 (.loop { r1 with state:=.busy }) .gone trivial;exact⟨b,_,hβ1,j2,World.putObj_heap_same hbl,⟨j4.fn,j4.ps,j4.assign,j4.body,j4.n,rfl,j4.pd⟩,λs v hm=>⟨(j5 s v hm).1,(j5 s v hm).2.mono x1⟩,j6⟩)
    refine wpIn_mono (sb b nn _ _ hk1 B1 (hR1.gl hg') E1 a1 _ sty2) ?_;rintro e a3 w3 ⟨B3,E3,σ3,hR3,hs3,hk3⟩;have hβ3:E3.β 0=some b:=(hR1.since (hR3.since hs3.st.base.β0)).β 0 b hβ;have hdom3:=(hR1.trans hR3).dom (m:=Af (Hl.lrec c fr 0 none :: rest)) (by rw[Ae];exact hdomE);have key:∀(x:Ex) (jump:Option Code),(jpOf x).2.1.map Jp.code=jump->(jpOf x).2.2=jump.isNone->(jpOf x).1=(if jump.isNone then 0 else 2)->Tf cx (Af (Hl.lrec c fr 0 none :: rest)) (λr' ls''=>Fin r' r ls'' ls') x σ3->
      ∃v w',(Instr.endRound b jump).run P w3=.ok v w'/\∃v_1 E',Ending.returned v=.returned v_1/\Ci B E' w'/\(∀h,h<ls'.length->HOk E' w' h (Aq ls' h))/\Rel E' w' r v_1:=by
     intro x jump e1 e2 e3 hx3;unfold Tf at hx3
     split at hx3
     ·rename_i c3 fr3 st pd bb hn3 hj
      rw[hj]at e1 e2 e3;simp only at e1 e2 e3;have hh3:=hs3.st.heap 0;rw[Bv hn3]at hh3;obtain⟨b3,r3,i1,i2,i3,i4,i5,i6⟩:=hh3;rw[hβ3]at i1;cases i1;have hbl3:=A5 hs3.st.base i2;have sty4:=hs3.setObj (Adq hn3) i2 i6 (.loop { r3 with state:=if jump.isNone then .ready else .done,pending:=jump }) (.lrec c3 fr3 st pd) (by
       obtain⟨x1,_,_⟩:=Nv hs3.st i2 i6 (.loop { r3 with state:=if jump.isNone then .ready else .done,pending:=jump }) .gone trivial;refine⟨b,_,hβ3,i2,World.putObj_heap_same hbl3,⟨i4.fn,i4.ps,i4.assign,i4.body,i4.n,?_,e1.symm⟩,λs v hm=>⟨(i5 s v hm).1,(i5 s v hm).2.mono x1⟩,i6⟩;rw[e3];show Ajw (if jump.isNone then .ready else .done)=_;cases jump.isNone<;>rfl)
      obtain⟨E5,q1,q2,q3⟩:=Xp hc sty4 hdom3 (vs:=[.bool (.l bb)]) (us:=[.bool jump.isNone]) (.cons (.ro (.bool (by rw[<-e2];rfl))) .nil) hx3;exact⟨_,_,run_endRound jump i3,_,E5,rfl,hbackB ((hR1.trans hR3).base q1),q2,q3⟩
     ·exact hx3.elim
    cases e with
    |normal=>exact key .normal none rfl rfl rfl hk3
    |ret=>exact key .ret (some .ret) rfl rfl rfl hk3
    |exit i=>exact key (.exit i) (some (.exit i)) rfl rfl rfl hk3
    |goto i=>exact key (.goto i) (some (.goto i)) rfl rfl rfl hk3
    |panic _=>exact hk3.elim
    |outgrown=>exact hk3.elim
   ·exact hk1.elim
  |ret=>simp only[exK]at hk1
  |exit i=>simp only[exK]at hk1
  |goto i=>simp only[exK]at hk1
  |panic _=>exact hk1.elim
  |outgrown=>exact hk1.elim
 ·exact hx.elim
theorem Aaz{α:Type}:∀ {l:List (Nat×α)} {k:Nat} {x:α},look k l=some x->(k,x)∈l
 | [],_,_,h=>by simp[look]at h
 |(j,y) :: l,k,x,h=>by
  simp only[look]at h
  split at h
  ·rename_i e
   have e:j=k:=by simpa using e
   subst e;cases h;exact List.mem_cons_self ..
  ·exact List.mem_cons_of_mem _ (Aaz h)
theorem Ajg{B:Bs}{N:Nat}{E:Env}{a:Act}{w:World}{ff:Nat->SG}{hf:Nat->Hl}(st:St B N E a w ff hf)(o':Obj):St B N E a (w.alloc o') ff hf:=by
 have hb:=st.base;have hx:Ext E w E (w.alloc o'):=⟨λ_ _ h=>h,λ_ _ h=>.inl h,λ_ _ h=>h,λ_ _ h=>h,λ_ _ h=>h,λb o hi=>C4 (hb.Ibd b o hi)⟩;refine st.step hx ⟨hb.os,hb.tape,hb.output,?_,?_,?_,?_,hb.Inew,?_,hb.β0⟩ λk=>?_
 ·have:=hb.size;simp;omega
 ·intro b hlt hX;rw[Dd (by have:=hb.size;omega)];exact hb.old b hlt hX
 ·intro b o hi
  obtain⟨i1,i2⟩:=hb.I0 b o hi;exact⟨i1,by rw[C4 (hb.Ibd b o i1)];exact i2⟩
 ·intro b o hi;have:=hb.Ibd b o hi;simp;omega
 ·intro b k hO
  obtain⟨o1,o2⟩:=hb.Obd b k hO;simp;exact⟨by omega,o2⟩
 ·refine HOk.keep hx (st.heap k) rfl rfl rfl rfl λb hO=>?_
  exact⟨hO,Dd (A5 hb hO),λ_ h=>h⟩
theorem Alm{N:Nat}{B:Bs}{E:Env}{a:Act}{w:World}{σ:Sy}(hs:StY B N E a w σ){n:Nat}{keep:List Nat}{s:Nat}{v:SV}(h:(s,some v)∈Ko keep (Ga dn n σ.fr keep)):s<N/\Rel E w v (a.tmps.getD s undef):=by
 obtain⟨g,q1,q2,q3,q4⟩:=J3 keep h;have hsl:=hs.st.slot s;simp only[Ba,q1,Option.map_some,Bk,q2,Ac,List.filterMap_nil,Bh]at hsl;obtain⟨s1,s2,_⟩:=hsl;rw[hs.st.size]at s1;exact⟨s1,by rw[q4];exact (s2 trivial).norm⟩
theorem Ai2{E:Env}{w:World}{v:SV}{u:Value}{f:FuncId}{cs:List SV}(h:Rel E w v u)(hc:Ags v=some (f,cs)):∃cv:List Value,u=.func (.func f) #[] ⟨cv⟩/\A2 E w cs cv:=by
 unfold Ags at hc
 split at hc
 ·simp only[Option.some.injEq,Prod.mk.injEq]at hc
  obtain⟨rfl,rfl⟩:=hc;exact h.clo_inv
 ·simp only[Option.some.injEq,Prod.mk.injEq]at hc
  obtain⟨rfl,rfl⟩:=hc;exact⟨[],h.fn_inv,.nil⟩
 ·cases hc
theorem Aae{nn:Nat}(hc:A1 P cx)(hrg:Ve P cx){B:Bs}{N:Nat}(hg:E6 B cx.gl){g:Operand}{ps:Array Tmp}{assign bd:Code}{σ:Sy}{K:Ex->Sy->Prop}{E:Env}{a:Act}{w:World}(hs:StY B N E a w σ)
  {f:FuncId} {caps:List SV} {it:FSpec->FSpec} (hv:(rd cx σ [] g).bind Ags=some (f,caps)) (hit:look f cx.its=some it)
  (h:∀c,IsLC c ps assign bd N->∃(keep:List Nat) (Y:FSpec),YOk P cx.gl Y/\
   Fp cx ⟨σ.fr,σ.hp++[.lrec c (Ko keep (Ga cx.D (Af σ.hp) σ.fr keep)) 0 none],σ.gm⟩ [] (.yv (Af σ.hp) :: caps) (it Y) λo =>
      match Ll (σ.hp++[.lrec c (Ko keep (Ga cx.D (Af σ.hp) σ.fr keep)) 0 none]) o.efs with
      |hp'=>Jf (σ.hp++[.lrec c (Ko keep (Ga cx.D (Af σ.hp) σ.fr keep)) 0 none]) o.efs=true/\match nth hp' (Af σ.hp) with
       |some (.lrec _ _ st pd)=>Nat.beq st 1=false/\K (exOf pd) ⟨σ.fr,Ax hp' (Af σ.hp) .gone,σ.gm⟩
       |_=>False):
  (Code.rangeFunc g ps assign bd).wpIn (Fr none) nn P (exQ B N K) a w:=by
 refine wpIn_rangeFunc λfn _=>?_;obtain⟨keep,Y,hY,hcall⟩:=h ⟨fn,ps,assign,bd,N⟩ ⟨rfl,rfl,rfl,rfl⟩;obtain⟨c,hcdef⟩:∃c:LC,c=⟨fn,ps,assign,bd,N⟩:=⟨_,rfl⟩;rw[<-hcdef]at hcall;rw[hc.D]at hcall;obtain⟨frs,hfrs⟩:∃x,x=Ko keep (Ga dn (Af σ.hp) σ.fr keep):=⟨_,rfl⟩;rw[<-hfrs]at hcall
 -- the function that is ranged over
 obtain⟨gv,hgv,hcl⟩:=Option.bind_eq_some_iff.1 hv;obtain⟨cv,hev,hcv⟩:=Ai2 (Aa hgv hg hs.st (λ_ _=>rfl) trivial) hcl;have hfn:=hrg.its _ (Aaz hit) Y hY;obtain⟨hgood,hfn⟩:=hfn
 -- the record and the block for the deferred calls are laid
 let lp:Loop:={ state:=.ready,pending:=none,fn,tmps:=a.tmps,params:=ps,assign,body:=bd,defers:=w.heap.size }
 let w0:World:=w.alloc (.deferred (some []))
 let w1:World:=w0.alloc (.loop lp)
 have hst0:=Ajg hs.st (.deferred (some []));have hM:Aq σ.hp σ.hp.length=.fresh:=by simp only[Aq,Ag,List.getElem?_eq_none (Nat.le_refl _),Option.getD_none]
 have hw0s:w0.heap.size=w.heap.size+1:=by simp[w0]
 obtain⟨E1,x1,b1,hh1,hβ1,hO1⟩:=Af6 hst0 hM (.loop lp) (.lrec c [] 0 none) λE' w' q1 q2 q3 q4=>⟨_,lp,q1,q2,q3,by subst hcdef;exact⟨rfl,rfl,rfl,rfl,hs.st.size,rfl,rfl⟩,by simp,q4⟩;have hh2:∀k,HOk E1 w1 k (upd (Aq σ.hp) σ.hp.length (.lrec c frs 0 none) k):=by
  intro k;have hk:=hh1 k
  by_cases e:k=σ.hp.length
  ·subst e
   simp only[upd,if_pos]at hk ⊢;obtain⟨b,r,k1,k2,k3,k4,k5,k6⟩:=hk;rw[hβ1]at k1;cases k1;have hr:r=lp:=by
    have:=heap_alloc_new w0 (.loop lp);rw[this]at k3;cases k3;rfl
   subst hr;refine⟨_,lp,hβ1,k2,k3,k4,λs v hm=>?_,k6⟩;rw[hfrs]at hm;have hs0:StY B N E a w0 σ:=⟨hst0,hs.len,hs.wf,hs.ge⟩;obtain⟨r1,r2⟩:=Alm hs0 hm;exact⟨by subst hcdef;exact r1,r2.mono x1⟩
  ·simp only[upd,if_neg e]at hk ⊢
   exact hk
 rw[<-Aij]at hh2
 -- the later start
 have hrsz:w.heap.size<w1.heap.size:=by simp[w1,w0];omega
 have hnoO:∀k,E1.O w.heap.size≠some k:=by
  intro k hk;rcases hO1 _ _ hk with h|h
  ·have:=(hs.st.base.Obd _ _ h).1;omega
  ·rw[hw0s]at h;omega
 have hdef:w1.heap[w.heap.size]?=some (.deferred (some [])):=by
  rw[Dd (by rw[hw0s];omega)];exact heap_alloc_new w _
 let B1:Bs:=⟨w1,λb=>∃h,E1.O b=some h,E1.I,B.β0,B.τ0,B.ζ0,w.heap.size :: B.dl⟩
 have hb1:Ci B1 E1 w1:=⟨rfl,rfl,rfl,Nat.le_refl _,λ_ _ _=>rfl,λb o h=>⟨h,rfl⟩,b1.Ibd,λb o h=>.inl h,λb k hO=>⟨(b1.Obd b k hO).1,.inr ⟨k,hO⟩⟩,⟨b1.β0.β,b1.β0.τ,b1.β0.ζ⟩⟩;have hreb:Reb B B1:=by
  refine⟨b1.os,b1.tape,b1.output,b1.size,λb hlt hX=>⟨?_,b1.old b hlt hX⟩,b1.I0,b1.Inew,λb ⟨k,hO⟩=>(b1.Obd b k hO).2,rfl,rfl,rfl,λhm=>⟨?_,λr hr=>?_⟩,λr hr=>?_⟩
  ·rintro⟨k,hO⟩
   rcases (b1.Obd b k hO).2 with h|h
   ·omega
   ·exact hX h
  ·refine List.nodup_cons.2 ⟨λhr=>?_,hm.nodup⟩
   have:=(hm.lie _ hr).1;have:=hs.st.base.size;omega
  ·rcases List.mem_cons.1 hr with rfl|hr
   ·exact⟨hrsz,λ⟨k,hk⟩=>hnoO k hk,hdef⟩
   ·obtain⟨r1,r2,r3⟩:=hm.lie r hr
    refine⟨Nat.lt_of_lt_of_le r1 b1.size,?_,(b1.old r r1 r2).trans r3⟩;rintro⟨k,hO⟩;rcases (b1.Obd r k hO).2 with h|h
    ·omega
    ·exact r2 h
  ·rcases List.mem_cons.1 hr with rfl|hr
   ·exact .inr hs.st.base.size
   ·exact .inl hr
 let a1:Act:={ a with defers:=Ty w.heap.size :: a.defers }
 have x0:Ext E w E w0:=⟨λ_ _ h=>h,λ_ _ h=>.inl h,λ_ _ h=>h,λ_ _ h=>h,λ_ _ h=>h,λb o hi=>C4 (hs.st.base.Ibd b o hi)⟩;have hsty:StY B1 N E1 a1 w1 ⟨σ.fr,σ.hp++[.lrec c frs 0 none],σ.gm⟩:=by
  have h3:=hst0.step x1 b1 hh2;exact⟨⟨hb1,hh2,h3.slot,h3.size,by show Ty w.heap.size :: a.defers=_;rw[hs.st.defers];rfl⟩,hs.len,⟨hs.wf.tg,hs.wf.gt,hs.wf.gf⟩,λk hk=>by have:=hs.ge k hk;simp;omega⟩
 have hE1M:E1.β σ.hp.length=some (w.heap.size+1):=by rw[hβ1,hw0s]
 -- the call
 unfold Fp at hcall;rw[hc.D]at hcall;simp only at hcall;obtain⟨hp1,hhp1⟩:∃x,x=σ.hp++[Hl.lrec c frs 0 none]:=⟨_,rfl⟩;simp only[<-hhp1]at hcall hh2 hsty;obtain⟨vs1,hvs1⟩:∃x,x=loose.looseL (norm.normL dn (.yv (Af σ.hp) :: caps)):=⟨_,rfl⟩;simp only[<-hvs1]at hcall;obtain⟨hs1,hhs1⟩:∃x,x=Tk hp1 hp1 (Lt [] (hsV.hsL vs1)):=⟨_,rfl⟩;simp only[<-hhs1]at hcall;obtain⟨ls1,hls1⟩:∃x,x=Uj dn hp1 hs1:=⟨_,rfl⟩;simp only[<-hls1]at hcall
 split at hcall
 ·rename_i h3
  simp only[Bool.and_eq_true]at h3;obtain⟨⟨⟨⟨⟨c1,c2⟩,c3⟩,c4⟩,c5⟩,c6⟩:=h3;obtain⟨r,ls',⟨k1,k2⟩,hct⟩:=hfn _ _ _ hcall;simp only[Bool.and_eq_true]at k1;obtain⟨⟨⟨k3,k4⟩,k5⟩,k6⟩:=k1;have k3:=Nat.le_of_ble_eq_true k3;simp only[Ae hs1,Ae ls',Ae hp1,A9,Bo,J4]at k3 k5 k6 k2 hct;rw[Ae]at c4;have hrelu:A2 E1 w1 (.yv (Af σ.hp) :: caps) (.func (.yield (w.heap.size+1)) #[] #[] :: cv):=by
   refine .cons (.yv (by rw[Ae];exact hE1M) rfl) ⟨hcv.1,λi s v p q=>((hcv.2 i s v p q).mono x0).mono x1⟩
  have hC:=Nd (cx:=cx) (G:=λus w R=>Calls P f ⟨us⟩ w R) (λus w R R' h hc=>hc.mono h) (hp:=hp1) hvs1 hls1 ((Ho _).1 c1) ((Hd _ _).1 c2) c3 ((F9 _ _).1 c4) ((Gd _ _).1 c5) hct k3 k4 ((F9 _ _).1 k5) ((N9 _ _).1 k6) (hreb.gl hg) hb1 hh2 (Acp _ _) hrelu;have henter:=run_enterLoop_outer (P:=P) (w:=w) fn a.tmps ps assign bd;obtain⟨fnn,body,g1,g2,g3⟩:=hgood;have g4:¬fnn.name="runtime.NumGoroutine":=by simpa using g3
  have hinv:(resolve a.eval (rangeCall g (w.heap.size+1)) 0).run P w1=.ok { target:=.fn (.func f) ⟨cv⟩,args:=#[.func (.yield (w.heap.size+1)) #[] #[]] } w1:=by
   simp[resolve,hev,Deferred.ofValue,show ∀v,a.eval (.const v)=v from λ_=>rfl]
  refine⟨w.heap.size+1,[Ty w.heap.size],w1,_,w1,f,⟨.func (.yield (w.heap.size+1)) #[] #[] :: cv⟩,w1,henter,hinv,λ_ _=>trivial,?_,by simp[Fr,Fence.wide],?_⟩
  ·have hargsE:(⟨.func (.yield (w.heap.size+1)) #[] #[] :: cv⟩:Array Value)=#[.func (.yield (w.heap.size+1)) #[] #[]]++(⟨cv⟩:Array Value):=by apply Array.ext';simp
   rw[hargsE];simp[invoke,callFunc,g1,g2,g4]
  ·refine (callsIn_wide (n:=nn-1)).2 (hC.mono ?_)
   rintro e w3 ⟨v,E3,rfl,y1,y2,y3,_⟩;obtain⟨k7,k8⟩:=k2
   split at k8
   ·rename_i c4' fr4 st pd hn4
    obtain⟨k9,k10⟩:=k8;rw[Ae]at hn4 k10;rw[<-Jm _ _ k7]at y3;have hh4:=y3 σ.hp.length;rw[Bv hn4]at hh4;obtain⟨b,r3,i1,i2,i3,i4,i5,i6⟩:=hh4;rw[y1.β _ _ hE1M]at i1;cases i1;have hnb:r3.state≠.busy:=Ahf (by rw[i4.st];intro e;subst e;cases k9);have hsty3:StY B1 N E3 a1 w3 ⟨σ.fr,Ll hp1 (D0 hs1 ((ls'.take hs1.length).map (rnH (Cq hs1 hs1.length hp1.length)))++Es hp1.length ((ls'.drop hs1.length).map (rnH (Cq hs1 hs1.length hp1.length)))),σ.gm⟩:=by
     have h5:=hsty.st.step y1 y2 y3;refine⟨h5,hs.len,⟨hs.wf.tg,hs.wf.gt,hs.wf.gf⟩,λk hk=>Nat.lt_of_lt_of_le (hsty.ge k hk) (Ok _ _)⟩
    have hsty4:=hsty3.setObj (Adq hn4) i2 i6 (.loop { r3 with state:=.exhausted }) .gone trivial;refine⟨_,_,run_endLoop i3 hnb,?_⟩;rw[i4.pd]at hsty4 ⊢;cases pd with
    |none=>exact⟨B1,E3,_,hreb,hsty4,k10⟩
    |some j =>
     cases j with
     |ret=>exact wpIn_ret ⟨B1,E3,_,hreb,hsty4,k10⟩
     |exit i=>exact wpIn_exit ⟨B1,E3,_,hreb,hsty4,k10⟩
     |goto i=>exact wpIn_goto ⟨B1,E3,_,hreb,hsty4,k10⟩
   ·exact k8.elim
 ·exact hcall.elim
theorem exQ.reb{B B1:Bs}{N:Nat}{K:Ex->Sy->Prop}{e:Exit}{a:Act}{w:World}(h:exQ B1 N K e a w)(hb:Reb B B1):exQ B N K e a w:=by
 obtain⟨B2,E,σ,h1,h2,h3⟩:=h;exact⟨B2,E,σ,hb.trans h1,h2,h3⟩
theorem Bz(hd:Qq P)(hc:A1 P cx)(htab:Em P cx.gl cx.tab)(hrg:Ve P cx){N:Nat}:∀(c:Code) (σ:Sy) (K:Ex->Sy->Prop),exec cx c σ K->∀(ro:Option Nat) (nn:Nat),ro=none\/Iq c=true->∀(B:Bs),E6 B cx.gl->∀(E:Env) (a:Act) (w:World),StY B N E a w σ->c.wpIn (Fr ro) nn P (exQ B N K) a w
 |.skip,σ,K,h,ro,nn,hro,B,hg,E,a,w,hs=>wpIn_skip ⟨B,E,σ,.refl B,hs,h⟩
 |.region id ops draw,σ,K,h,ro,nn,hro,B,hg,E,a,w,hs=>by
  obtain⟨E,σ,hs,h⟩:=hs.ghostK (id:=id+2000000) hc.D h;obtain⟨rs,σ',h1,h2,h3⟩:=Cr hc htab hrg (ops:=ops) rfl ops.toList [] σ _ hs.wf h;simp only[List.nil_append]at h3;have fin:∀ {E':Env} {a':Act} {w':World},StY B N E' a' w' σ'->Sx.ghostK cx id ⟨Sx.tidy σ'.fr,σ'.hp,[]⟩ (K .normal)->exQ B N K .normal a' w':=λhs' h3=>by
   obtain⟨E2,σ2,q1,q2⟩:=(StY.tidy hs').ghostK hc.D h3;exact⟨B,E2,σ2,.refl B,q1,q2⟩
  cases draw with
  |true =>
   simp only[if_true]at h3
   split at h3
   ·obtain⟨⟨hb⟩,h3⟩:=h3
    simp only[Bool.and_eq_true]at hb;exact hd ro nn cx.gl id ops B N σ σ' rs hg h1 hb.1 hb.2 _ E a w hs λE' a' w' hs'=>fin hs' h3
   ·split at h3
    ·rename_i hb
     simp only[Bool.and_eq_true]at hb;exact hd ro nn cx.gl id ops B N σ σ' rs hg h1 hb.1 hb.2 _ E a w hs λE' a' w' hs'=>fin hs' h3
    ·exact h3.elim
  |false =>
   simp only[Bool.false_eq_true,if_false]at h3;exact Vi (Z5 rfl hg h1 E a w hs λE' a' w' hs'=>fin hs' h3)
 |.seq x y,σ,K,h,ro,nn,hro,B,hg,E,a,w,hs=>by
  have hx:ro=none\/Iq x=true:=hro.imp (λh=>h) λh=>by simp only[Iq,Bool.and_eq_true]at h;exact h.1
  have hy:ro=none\/Iq y=true:=hro.imp (λh=>h) λh=>by simp only[Iq,Bool.and_eq_true]at h;exact h.2
  refine wpIn_seq (wpIn_mono (Bz hd hc htab hrg x σ _ h ro nn hx B hg E a w hs) λe a' w' hq=>?_);obtain⟨B',E',σ',hb,hs',hk⟩:=hq;cases e with
  |normal=>exact wpIn_mono (Bz hd hc htab hrg y σ' K hk ro nn hy B' (hb.gl hg) E' a' w' hs') λe a w hq=>hq.reb hb
  |exit i=>exact⟨B',E',σ',hb,hs',hk⟩
  |goto l=>exact⟨B',E',σ',hb,hs',hk⟩
  |ret=>exact⟨B',E',σ',hb,hs',hk⟩
  |_=>exact hk.elim
 |.cond c x y,σ,K,h,ro,nn,hro,B,hg,E,a,w,hs=>by
  have hx:ro=none\/Iq x=true:=hro.imp (λh=>h) λh=>by simp only[Iq,Bool.and_eq_true]at h;exact h.1
  have hy:ro=none\/Iq y=true:=hro.imp (λh=>h) λh=>by simp only[Iq,Bool.and_eq_true]at h;exact h.2
  simp only[exec]at h;have hv:∀b,rd cx σ [] c=some (.bool b)->a.eval c=.bool b.den:=λb hb=>(Aa hb hg hs.st (λ_ _=>rfl) trivial).bool_inv
  split at h
  ·rename_i hb
   exact wpIn_cond (t:=true) (hv _ hb) (Bz hd hc htab hrg x σ K h ro nn hx B hg E a w hs)
  ·rename_i hb
   exact wpIn_cond (t:=false) (hv _ hb) (Bz hd hc htab hrg y σ K h ro nn hy B hg E a w hs)
  ·rename_i b _ _ hb
   rw[hc.D]at h;refine wpIn_cond_split (hv _ hb) (λe=>?_) (λe=>?_)
   ·exact Bz hd hc htab hrg x _ K (h.1 e) ro nn hx B hg E a w (hs.know hb (hv _ hb) e)
   ·exact Bz hd hc htab hrg y _ K (h.2 e) ro nn hy B hg E a w (hs.know hb (hv _ hb) e)
  ·exact h.elim
 |.block id b,σ,K,h,ro,nn,hro,B,hg,E,a,w,hs=>by
  have hx:ro=none\/Iq b=true:=hro.imp (λh=>h) λh=>h;refine wpIn_block (wpIn_mono (Bz hd hc htab hrg b σ _ h ro nn hx B hg E a w hs) λe a' w' hq=>?_);obtain⟨B',E',σ',hb,hs',hk⟩:=hq;cases e with
  |normal=>exact⟨B',E',σ',hb,hs',hk⟩
  |exit i =>
   simp only[Exit.inBlock];simp only[exK]at hk
   by_cases e:i=id
   ·rw[if_pos e]
    rw[if_pos (by simpa using e)]at hk;exact⟨B',E',σ',hb,hs',hk⟩
   ·rw[if_neg e]
    rw[if_neg (by simpa using e)]at hk;exact⟨B',E',σ',hb,hs',hk⟩
  |goto l=>exact⟨B',E',σ',hb,hs',hk⟩
  |ret=>exact⟨B',E',σ',hb,hs',hk⟩
  |_=>exact hk.elim
 |.loop b,σ,K,h,ro,nn,hro,B,hg,E,a,w,hs=>by
  have hx:ro=none\/Iq b=true:=hro.imp (λh=>h) λh=>h;simp only[exec]at h
  split at h
  ·rename_i l _
   refine Zq (λm a w=>∃B1 σ1 E,Reb B B1/\Acu (exec cx b) m σ1 K/\StY B1 N E a w σ1) ⟨cntG l,B,σ,E,.refl B,h,hs⟩ ?_;rintro m a' w' ⟨B1,σ1,E',hr1,hu,hs'⟩;cases m with
   |zero=>exact hu.elim
   |succ m =>
    refine wpIn_mono (Bz hd hc htab hrg b _ _ hu ro nn hx B1 (hr1.gl hg) E' a' w' hs') λe a2 w2 hq=>?_;obtain⟨B2,E2,σ2,hr2,hs2,hk⟩:=hq;have hr:=hr1.trans hr2;cases e with
    |normal=>exact⟨m,Nat.lt_succ_self _,B2,σ2,E2,hr,hk,hs2⟩
    |exit i=>exact⟨B2,E2,σ2,hr,hs2,hk⟩
    |goto l=>exact⟨B2,E2,σ2,hr,hs2,hk⟩
    |ret=>exact⟨B2,E2,σ2,hr,hs2,hk⟩
    |_=>exact hk.elim
  obtain⟨keep,J,⟨hb0,m0,hJ0⟩,hround⟩:=h;rw[hc.D]at hJ0 hround;refine Zq (λm a w=>∃B1 vs hp E,Reb B B1/\J m vs hp/\StY B1 N E a w ⟨Oc (Ko keep vs) (Lp σ.fr),hp,[]⟩) ⟨m0,B,_,_,Cv (Af σ.hp) E,.refl B,hJ0,?_⟩ ?_
  ·have:=hs.head (n:=Af σ.hp) (keep:=keep) hs.len (by rw[Wj];exact hb0) (by rw[Ae];exact hs.ge)
   rw[Wj]at this;exact this
  ·rintro m a' w' ⟨B1,vs,hp,E',hr1,hJ,hs'⟩
   refine wpIn_mono (Bz hd hc htab hrg b _ _ (hround m vs hp hJ) ro nn hx B1 (hr1.gl hg) E' a' w' hs') λe a2 w2 hq=>?_;obtain⟨B2,E2,σ2,hr2,hs2,hk⟩:=hq;have hr:=hr1.trans hr2;cases e with
   |normal =>
    obtain⟨hb2,m2,hlt,hJ2⟩:=hk;exact⟨m2,hlt,B2,_,_,_,hr,hJ2,hs2.head hs.len hb2 (by rw[Ae];exact hr.dom hs.ge)⟩
   |exit i=>exact⟨B2,E2,σ2,hr,hs2,hk⟩
   |goto l=>exact⟨B2,E2,σ2,hr,hs2,hk⟩
   |ret=>exact⟨B2,E2,σ2,hr,hs2,hk⟩
   |_=>exact hk.elim
 |.exit id,σ,K,h,ro,nn,hro,B,hg,E,a,w,hs=>wpIn_exit ⟨B,E,σ,.refl B,hs,h⟩
 |.ret,σ,K,h,ro,nn,hro,B,hg,E,a,w,hs=>wpIn_ret ⟨B,E,σ,.refl B,hs,h⟩
 |.rangeFunc g ps assign bd,σ,K,h,ro,nn,hro,B,hg,E,a,w,hs=>by
  rcases hro with rfl|hro
  ·simp only[exec]at h
   split at h
   ·rename_i f caps hv
    split at h
    ·rename_i it hit
     obtain⟨hnr,h⟩:=h;simp only[Bool.and_eq_true]at hnr;refine Aae hc hrg hg hs hv hit λc hlc=>?_;have hN:Af σ.fr=N:=by rw[Ae];exact hs.len
     rw[<-hN]at hlc;obtain⟨keep,Y,h1,h2⟩:=h c hlc;refine⟨keep,Y,X1 hc hlc (λl nn σ K h B hg E a w hs=>?_) (λl nn σ K h B hg E a w hs=>?_) h1,h2⟩
     ·rw[hN]at hs;rw[hN];exact Bz hd hc htab hrg assign σ K h (some l) nn (.inr hnr.1) B hg E a w hs
     ·rw[hN]at hs;rw[hN];exact Bz hd hc htab hrg bd σ K h (some l) nn (.inr hnr.2) B hg E a w hs
    ·exact h.elim
   ·exact h.elim
  ·cases hro
 |.scope c,σ,K,h,ro,nn,hro,B,hg,E,a,w,hs=>by
  have hx:ro=none\/Iq c=true:=hro.imp (λh=>h) λh=>h;refine L9 (wpIn_mono (Bz hd hc htab hrg c σ _ h ro nn hx B hg E a w hs) λe a' w' hq=>?_);obtain⟨B',E',σ',hb,hs',hk⟩:=hq;cases e with
  |normal=>exact⟨B',E',σ',hb,hs',hk⟩
  |exit i=>exact⟨B',E',σ',hb,hs',hk⟩
  |goto l=>exact hk.elim
  |ret=>exact⟨B',E',σ',hb,hs',hk⟩
  |_=>exact hk.elim
 |.label _,σ,K,h,ro,nn,hro,B,hg,E,a,w,hs=>wpIn_label ⟨B,E,σ,.refl B,hs,h⟩
 |.goto _,σ,K,h,ro,nn,hro,B,hg,E,a,w,hs=>wpIn_goto ⟨B,E,σ,.refl B,hs,h⟩
 |.refuse _,_,_,h,_,_,_,_,_,_,_,_,_=>h.elim
theorem Y4(hd:Qq P)(hc:A1 P cx)(htab:Em P cx.gl cx.tab)(hrg:Ve P cx){B:Bs}{N:Nat}(hg:E6 B cx.gl)(c:Code)(σ:Sy)(K:Ex->Sy->Prop)(h:exec cx c σ K)(E:Env)(a:Act)(w:World)(hs:StY B N E a w σ):c.wp P (exQ B N K) a w :=
 wpIn_wide.1 (Bz hd hc htab hrg c σ K h none 0 (.inl rfl) B hg E a w hs)
end
end Go.Sx
