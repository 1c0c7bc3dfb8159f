/- Part of the proofs of the statements about responses and messages (layers 9 and 10): a symbolic executor over the code, that it is sound, and contracts of functions; it has no conditions of its own. -/
import Derived.Below
import Derived.Test.YtdoogdbjiijifaaGreatDoorE3Pau
import Derived.Test.YtdoogdbjiijifaaGreatDoorE3Paq
namespace Go.Sx
open Go
section
variable {P:Program} {ops:Array Oper} {gl:List (Nat×SV)} {B:Bs} {N:Nat} {σ σ':Sy} {rs:List Rec}
theorem Pr{listed:Array Bool}{i:Nat}:i∈Region.ready .any ops listed↔∃o,ops[i]?=some o/\listed.getD i true=false/\∀x∈Df o.after.toList,listed.getD x false=true:=by
 unfold Region.ready;simp only[List.mem_filter,List.mem_range,Bool.and_eq_true,Bool.not_eq_true'];constructor
 ·rintro⟨h1,h2,h3⟩
  have ho:ops[i]?=some ops[i]:=by simp[h1]
  rw[ho]at h3;refine⟨_,ho,h2,λx hx=>?_⟩;obtain⟨e,he,hb,rfl⟩:=Tw hx;simp only[Option.map_some,Option.getD_some,Array.all_eq_true_iff_forall_mem]at h3;have:=h3 e (by simpa using he);simpa[hb] using this
 ·rintro⟨o,ho,h2,h3⟩
  refine⟨(Array.getElem?_eq_some_iff.1 ho).1,h2,?_⟩;rw[ho];simp only[Option.map_some,Option.getD_some,Array.all_eq_true_iff_forall_mem];intro e he;cases hb:Region.binds .any e with
  |false=>simp
  |true=>simp only[Bool.not_true,Bool.false_or];exact h3 _ (Uz (by simpa using he) hb)
def left(n:Nat)(listed:Array Bool):Nat:=((List.range n).filter λi=>!listed.getD i true).length
theorem Alj{n i:Nat}{listed:Array Bool}(hi:i<n)(hs:listed.size=n)(h:listed.getD i true=false):left n (listed.setIfInBounds i true)+1=left n listed:=by
 have hget:∀j,(listed.setIfInBounds i true).getD j true=if j=i then true else listed.getD j true:=by
  intro j;simp only[Array.getD_eq_getD_getElem?]
  by_cases e:i=j
  ·subst e;rw[if_pos rfl,Array.getElem?_setIfInBounds_self_of_lt (by omega)];rfl
  ·rw[if_neg (λh=>e h.symm),Array.getElem?_setIfInBounds_ne e]
 unfold left;have key:∀(l:List Nat),l.Nodup->i∈l->(l.filter λj=>!(listed.setIfInBounds i true).getD j true).length+1=(l.filter λj=>!listed.getD j true).length:=by
  intro l
  induction l with
  |nil=>intro _ h;cases h
  |cons j l ih =>
   intro hn hm;rw[List.nodup_cons]at hn;simp only[List.filter_cons,hget j]
   by_cases e:j=i
   ·subst e
    rw[if_pos rfl];simp only[Bool.not_true,Bool.false_eq_true,if_false,h,Bool.not_false,if_true,List.length_cons];congr 2;refine List.filter_congr λk hk=>?_;rw[hget k,if_neg (λe=>hn.1 (by rw[<-e];exact hk))]
   ·rw[if_neg e]
    have:=ih hn.2 (by rcases List.mem_cons.1 hm with h|h;exact absurd h.symm e;exact h)
    split
    ·simp only[List.length_cons];omega
    ·exact this
 exact key _ List.nodup_range (by simpa using hi)
theorem Aid{n:Nat}{listed:Array Bool}(h:left n listed=0):∀i,i<n->listed.getD i true=true:=by
 intro i hi;unfold left at h;have:=List.eq_nil_of_length_eq_zero h;rw[List.filter_eq_nil_iff]at this;have:=this i (by simpa using hi);simpa using this
theorem Aeu(hok:G3 ops.toList 0=true){listed:Array Bool}(hs:listed.size=ops.size)(h:Region.ready .any ops listed=[]):∀i,i<ops.size->listed.getD i true=true:=by
 intro i
 induction i using Nat.strongRecOn with
 |_ i ih =>
  intro hi;cases hl:listed.getD i true with
  |true=>rfl
  |false =>
   have hm:i∈Region.ready .any ops listed:=by
    refine Pr.2 ⟨ops[i],by simp[hi],hl,λx hx=>?_⟩;have hlt:=Ln hok (j:=i) (o:=ops[i]) (by simp[hi]) x hx;have:=ih x (by omega) (by omega);rw[Array.getD_eq_getD_getElem?]at this ⊢;rw[Array.getElem?_eq_getElem (by omega)]at this ⊢;simpa using this
   rw[h]at hm;cases hm
def sOf(listed:Array Bool):Nat->Bool:=λi=>listed.getD i false
theorem Aj7{n:Nat}{listed:Array Bool}(hs:listed.size=n){i:Nat}(hi:i<n):sOf listed i=listed.getD i true:=by
 simp[sOf,Array.getD_eq_getD_getElem?,Array.getElem?_eq_getElem (show i<listed.size by omega)]
theorem Amb{f g:Nat->SG}{a b:Nat->Hl}(h:(f,a)=(g,b)):f=g/\a=b:=by
 simp only[Prod.mk.injEq]at h;exact h
theorem Akn{B:Bs}{E:Env}{a:Act}{w:World}{ff:Nat->SG}{hf:Nat->Hl}(st:St B N E a w ff hf)(d:Option Nat)(v:Value)(g:SG)
  (hg:∀cs s,g=some (cs,s)->(Bh cs->Rel E w s v)/\(¬Bh cs->v=undef)):St B N E (a.put d v) w (Gs N ff d g) hf:=by
 cases d with
 |none =>
  have:Gs N ff none g=ff:=by funext s;simp[Gs]
  rw[this];exact st
 |some k =>
  by_cases hk:k<N
  ·have:=st.put (some k) v g hg (λj hj=>by cases hj;exact hk)
   have e:Acs ff (some k) g=Gs N ff (some k) g:=by
    funext s;simp only[Acs,upd,Gs,Option.some.injEq]
    by_cases e:s=k
    ·subst e;simp[hk]
    ·rw[if_neg e,if_neg (λh=>e h.1.symm)]
   rw[<-e];exact this
  ·rw[Afu (by rw[st.size];omega)]
   have e:Gs N ff (some k) g=ff:=by
    funext s;simp only[Gs,Option.some.injEq];rw[if_neg (λh=>hk (by rw[h.1];exact h.2))]
   rw[e];exact st
theorem Aje{ro:Option Nat}{nn:Nat}(h:Ctx P ops gl N σ σ' rs)(hg:E6 B gl){Q:Exit->Act->World->Prop}(hfin:∀E a w,St B N E a w (Co N σ'.gm (ops.toList.zip rs) (Ba σ,Aq σ.hp)).1 (Co N σ'.gm (ops.toList.zip rs) (Ba σ,Aq σ.hp)).2->Q .normal a w):
  ∀(fuel:Nat) (listed:Array Bool) (E:Env) (a:Act) (w:World),listed.size=ops.size->left ops.size listed=fuel->Ae3 ops (sOf listed)->St B N E a w (xS N ops σ σ' rs (sOf listed)).1 (xS N ops σ σ' rs (sOf listed)).2->wpAnyIn (Fr ro) nn P .any ops Q fuel listed a w:=by
 have done:∀(listed:Array Bool) (E:Env) (a:Act) (w:World),listed.size=ops.size->(∀i,i<ops.size->listed.getD i true=true)->St B N E a w (xS N ops σ σ' rs (sOf listed)).1 (xS N ops σ σ' rs (sOf listed)).2->Q .normal a w:=by
  intro listed E a w hs hall st;refine hfin E a w ?_;have:xS N ops σ σ' rs (sOf listed)=Co N σ'.gm (ops.toList.zip rs) (Ba σ,Aq σ.hp):=by
   refine Xg _ _ _ λj hj=>?_;simp only[Nat.zero_add];have hj:j<ops.size:=by simp at hj;omega
   rw[Aj7 hs hj];exact hall j hj
  rw[<-this];exact st
 intro fuel
 induction fuel with
 |zero =>
  intro listed E a w hs hl hd st;have hall:=Aid hl;refine⟨?_,done listed E a w hs hall st⟩;rw[List.eq_nil_iff_forall_not_mem];intro i hi;obtain⟨o,ho,h1,_⟩:=Pr.1 hi;rw[hall i (Array.getElem?_eq_some_iff.1 ho).1]at h1;cases h1
 |succ fuel ih =>
  intro listed E a w hs hl hd st;refine⟨λh0=>done listed E a w hs (Aeu h.edges hs h0) st,λi hi=>?_⟩;obtain⟨o,ho,h1,h2⟩:=Pr.1 hi;have hin:i<ops.size:=(Array.getElem?_eq_some_iff.1 ho).1;have hSi:sOf listed i=false:=by rw[Aj7 hs hin];exact h1
  have he:∀x∈Df o.after.toList,sOf listed x=true:=h2;have hr:rs[i]?=some (rs[i]'(by rw[h.len];exact hin)):=List.getElem?_eq_getElem _
  generalize rs[i]'(by rw[h.len];exact hin)=rec at hr
  obtain⟨σi,w1,w2,w3,w4⟩:=h.step i o rec ho hr;obtain⟨f1,f2⟩:=Amb w3;have hagS:∀s∈looks ops.toList o,(xS N ops σ σ' rs (sOf listed)).1 s=Ba σi s:=λs hs'=>by
   rw[xS_slot h hd ho hr hSi he hs',f1]
  have hguard:∀j want s,o.guard=some (j,want)->(nth ops.toList j).bind (·.dst)=some s->(xS N ops σ σ' rs (sOf listed)).1 s=Ba σi s:=λj want s hgd hb =>
   hagS s (by unfold looks;exact List.mem_append.2 (.inr (V9 hgd hb)))
  -- what has come behind it
  have hsz:(listed.setIfInBounds i true).size=ops.size:=by simp[hs]
  have hset:∀j,sOf (listed.setIfInBounds i true) j=if j=i then true else sOf listed j:=by
   intro j;simp only[sOf,Array.getD_eq_getD_getElem?]
   by_cases e:i=j
   ·subst e;rw[if_pos rfl,Array.getElem?_setIfInBounds_self_of_lt (by omega)];rfl
   ·rw[if_neg (λh=>e h.symm),Array.getElem?_setIfInBounds_ne e]
  have hd':Ae3 ops (sOf (listed.setIfInBounds i true)):=by
   refine⟨λk ok hok hk x hx=>?_⟩;rw[hset]
   split
   ·rfl
   ·rw[hset]at hk
    split at hk
    ·rename_i e
     subst e;rw[ho]at hok;cases hok;exact he x hx
    ·exact hd.down k ok hok hk x hx
  have hx:=Ag5 h hd ho hr hSi he (S':=sOf (listed.setIfInBounds i true)) (by rw[hset,if_pos rfl]) (λj hj=>by rw[hset,if_neg hj]);have hleft:left ops.size (listed.setIfInBounds i true)=fuel:=by have:=Alj hin hs h1;omega
  have next:∀(E':Env) (a':Act) (w':World),St B N E' a' w' (Dy N σ'.gm o rec (xS N ops σ σ' rs (sOf listed))).1 (Dy N σ'.gm o rec (xS N ops σ σ' rs (sOf listed))).2->wpAnyIn (Fr ro) nn P .any ops Q fuel (listed.setIfInBounds i true) a' w':=by
   intro E' a' w' st';refine ih _ E' a' w' hsz hleft hd' ?_;rw[hx];exact st'
  unfold wpOpIn;rw[ho];simp only;cases rec with
  |none =>
   have hw:=Oo (ops:=ops) rfl w4 st hguard;rw[if_neg (by simp[hw])];exact⟨λ_ _=>trivial,next E _ w (Akn st _ _ none (by simp))⟩
  |some p =>
   obtain⟨σ1,T,r⟩:=p;obtain⟨q1,q2,q3,q4,q5⟩:=w4;obtain⟨g1,g2,g3,g4,g5,_,_,g8⟩:=Gx (ops:=ops) rfl q1 w1;have hwant:=g8 B N E a w _ _ st hguard
   by_cases hT:Bh (Ac σ1.gm T)
   ·rw[if_pos (hwant.2 hT)]
    have hag:AgS σ1 (xS N ops σ σ' rs (sOf listed)).1 o:=λs hs'=>by
     rw[g2];exact hagS s (by unfold looks;exact List.mem_append.2 (.inl (Tv hs')))
    have hagH:AgH σ1.hp (xS N ops σ σ' rs (sOf listed)).2 r:=by
     rw[g3];refine⟨λk hk=>?_,λx hx=>?_,λe he'=>?_⟩
     ·have:=(R8 h hd ho hr hSi he (ρ:=(k,none)) (.inl (by simp[rdR,fpR,Wa];exact hk))).2 rfl
      rw[this,<-f2]
     ·obtain⟨hh,off,n⟩:=x
      have:=(R8 h hd ho hr hSi he (ρ:=(hh,some (off,n))) (.inl (by simp[rdR,fpR,Wa];exact⟨hh,off,n,hx,rfl,rfl,rfl⟩))).1;rw[<-f2]at this;intro ty cs hcs;simp only at hcs this ⊢;rcases this with e|⟨ty',c1,c2,e1,e2,e3,e4⟩
      ·exact⟨cs,by rw[e,hcs],rfl,λ_ _ _=>rfl⟩
      ·rw[hcs]at e2
       cases e2;exact⟨c1,e1,e3.symm,λj j1 j2=>(e4 j ⟨j1,j2⟩).symm⟩
     ·have hmem:∀(es:List Ef),e∈es->match e with|.set k off vs=>(k,some (off,Af vs))∈efW es|.put k _=>(k,none)∈efW es:=by
       intro es
       induction es with
       |nil=>intro h;cases h
       |cons e' es ih =>
        intro hm;rcases List.mem_cons.1 hm with rfl|hm
        ·cases e<;>simp[efW]
        ·have:=ih hm
         cases e<;>cases e'<;>simp only[efW,List.mem_cons]at this ⊢<;>exact Or.inr this
      have hm:=hmem r.efs he';cases e with
      |set k off vs =>
       simp only at hm;have:=(R8 h hd ho hr hSi he (ρ:=(k,some (off,Af vs))) (.inr hm)).1;rw[<-f2]at this;intro ty cs hcs;rcases this with e|⟨ty',c1,c2,e1,e2,e3,e4⟩
       ·exact⟨cs,by rw[e,hcs],rfl⟩
       ·rw[hcs]at e2
        cases e2;exact⟨c1,e1,e3.symm⟩
      |put k hl =>
       simp only at hm;have:=(R8 h hd ho hr hSi he (ρ:=(k,none)) (.inr hm)).2 rfl;show (xS N ops σ σ' rs (sOf listed)).2 k=Aq σi.hp k;rw[this,<-f2]
    refine q2 B N E a w _ _ hg st hag hagH hT _ _ _ _ λv w' E' x1 x2 x3 x4=>?_;refine next E' _ w' ?_
    simp only[Dy,q5];exact Akn (st.step x1 x2 x3) _ _ _ (by rintro cs s ⟨⟩;exact⟨λ_=>x4,λh=>absurd hT h⟩)
   ·rw[if_neg (λh=>hT (hwant.1 h))]
    refine⟨λ_ _=>trivial,next E _ w ?_⟩;have hef:r.efs=[]:=by
     rcases q4.1 with h|h|h
     ·subst h;exact absurd trivial hT
     ·exact h
     ·exact absurd h hT
    simp only[Dy,q5,hef,Hw];exact Akn st _ _ _ (by rintro cs s ⟨⟩;exact⟨λh=>absurd h hT,λ_=>rfl⟩)
theorem Za(hm:P.follows .mixedOrders=true):Qq P:=by
 intro ro nn gl id ops B N σ σ' rs hg hruns hedges hind Q E a w hs hQ;obtain⟨r1,r2,r3,r4,r5,r6,r7⟩:=Aj9 hruns hs.wf N hs.len;have hctx:Ctx P ops gl N σ σ' rs:=⟨by rw[r1];simp,λi o rec ho hr=>r7 i o rec (by rw[Array.getElem?_toList];exact ho) hr,hedges,hind⟩;obtain⟨e1,e2⟩:=Amb r6;refine wpIn_region_any hm ?_;have hbase:=hs.st.base;have hst:St B N E a { w with drawn:=w.drawn+1 } (Ba σ) (Aq σ.hp) :=
  hs.st.step (E':=E) (w':={ w with drawn:=w.drawn+1 }) ⟨λ_ _ h=>h,λ_ _ h=>.inl h,λ_ _ h=>h,λ_ _ h=>h,λ_ _ h=>h,λ_ _ _=>rfl⟩ ⟨hbase.os,hbase.tape,hbase.output,hbase.size,hbase.old,hbase.I0,hbase.Ibd,hbase.Inew,hbase.Obd,hbase.β0⟩
   λk=>HOk.keep (E:=E) (w:=w) (E':=E) (w':={ w with drawn:=w.drawn+1 }) ⟨λ_ _ h=>h,λ_ _ h=>.inl h,λ_ _ h=>h,λ_ _ h=>h,λ_ _ h=>h,λ_ _ _=>rfl⟩ (hs.st.heap k) rfl rfl rfl rfl λb hO=>⟨hO,rfl,λ_ h=>h⟩
 refine Aje (B:=B) hctx hg (λE' a' w' st'=>?_) ops.size _ E a _ (by simp) ?_ ⟨λk o _ hk=>?_⟩ ?_
 ·refine hQ E' a' w' ⟨?_,r3,r2,λk hk=>Nat.lt_of_lt_of_le (hs.ge k hk) r4⟩
  rw[e1,e2];exact st'
 ·unfold left
  rw[List.filter_eq_self.2]
  ·simp
  ·intro i hi;simp at hi;simp[Array.getD_eq_getD_getElem?,hi]
 ·exfalso
  simp only[sOf,Array.getD_eq_getD_getElem?,Array.getElem?_replicate]at hk
  split at hk<;>simp at hk
 ·have:xS N ops σ σ' rs (sOf (Array.replicate ops.size false))=(Ba σ,Aq σ.hp):=by
   refine J9 _ _ _ λj _=>?_;simp only[sOf,Array.getD_eq_getD_getElem?,Array.getElem?_replicate]
   split<;>rfl
  rw[this];exact hst
end
theorem Ake{P:Program}{D:Dn}{tt:List (Nat×TI)}{tab:List (Nat×FSpec)}{gl:List (Nat×SV)}{eqs:List TypeId}{gh:List (Nat×List Gh)}:Ve P ⟨D,tt,tab,gl,eqs,gh,[],[]⟩:=⟨λ_ h=>(by cases h),λ_ h=>(by cases h)⟩
theorem Bq{P:Program}(hm:P.follows .mixedOrders=true){tt:List (Nat×TI)}{tab:List (Nat×FSpec)}{gl:List (Nat×SV)}{eqs:List TypeId}{gh:List (Nat×List Gh)}(hc:A1 P ⟨dn,tt,tab,gl,eqs,gh,[],[]⟩)(htab:Em P gl tab){f:FuncId}{fn:Func}(hf:P.funcs[f]?=some fn)(hgood:(fn.name=="runtime.NumGoroutine")=false)(hb:fn.body.isSome=true){sp:FSpec}
  (h:∀(as:List SV) (ls:List Hl) (K:SV->List Hl->Prop),sp dn as ls K->∃r ls',K r ls'/\∀D,D=dn->body ⟨D,tt,tab,gl,eqs,gh,[],[]⟩ fn as ls λr' ls''=>Fin r' r ls'' ls'):Ay P gl f sp:=by
 refine⟨?_,λas ls K hs=>?_⟩
 ·obtain⟨c,hc⟩:=Option.isSome_iff_exists.1 hb
  exact⟨fn,c,hf,hc,hgood⟩
 ·obtain⟨r,ls',hK,hbody⟩:=h as ls K hs
  exact⟨r,ls',hK,R5 (Za hm) hc htab Ake hf (hbody dn rfl)⟩
theorem Ez{P:Program}(hm:P.follows .mixedOrders=true){tt:List (Nat×TI)}{tab:List (Nat×FSpec)}{gl:List (Nat×SV)}{eqs:List TypeId}{gh:List (Nat×List Gh)}(hc:A1 P ⟨dn,tt,tab,gl,eqs,gh,[],[]⟩)(htab:Em P gl tab){f:FuncId}{fn:Func}(hf:P.funcs[f]?=some fn)(hgood:(fn.name=="runtime.NumGoroutine")=false)(hb:fn.body.isSome=true){sp:FSpec}
  (h:∀(as:List SV) (ls:List Hl) (K:SV->List Hl->Prop),sp dn as ls K->∃r ls',K r ls'/\∀D,D=dn->Agv ⟨D,tt,tab,gl,eqs,gh,[],[]⟩ fn as ls λr' ls''=>Fin r' r ls'' ls'):Ay P gl f sp:=by
 refine⟨?_,λas ls K hs=>?_⟩
 ·obtain⟨c,hc⟩:=Option.isSome_iff_exists.1 hb
  exact⟨fn,c,hf,hc,hgood⟩
 ·obtain⟨r,ls',hK,hbody⟩:=h as ls K hs
  exact⟨r,ls',hK,Js (Za hm) hc htab Ake hf (hbody dn rfl)⟩
theorem fnOkI{P:Program}(hm:P.follows .mixedOrders=true){tt:List (Nat×TI)}{tab:List (Nat×FSpec)}{gl:List (Nat×SV)}{eqs:List TypeId}{gh:List (Nat×List Gh)}{its:List (Nat×(FSpec->FSpec))}{yl:List FSpec}(hc:A1 P ⟨dn,tt,tab,gl,eqs,gh,its,yl⟩)(htab:Em P gl tab)(hrg:Ve P ⟨dn,tt,tab,gl,eqs,gh,its,yl⟩){f:FuncId}{fn:Func}(hf:P.funcs[f]?=some fn)(hgood:(fn.name=="runtime.NumGoroutine")=false)(hb:fn.body.isSome=true){sp:FSpec}
  (h:∀(as:List SV) (ls:List Hl) (K:SV->List Hl->Prop),sp dn as ls K->∃r ls',K r ls'/\∀D,D=dn->Agv ⟨D,tt,tab,gl,eqs,gh,its,yl⟩ fn as ls λr' ls''=>Fin r' r ls'' ls'):Ay P gl f sp:=by
 refine⟨?_,λas ls K hs=>?_⟩
 ·obtain⟨c,hc⟩:=Option.isSome_iff_exists.1 hb
  exact⟨fn,c,hf,hc,hgood⟩
 ·obtain⟨r,ls',hK,hbody⟩:=h as ls K hs
  exact⟨r,ls',hK,Js (Za hm) hc htab hrg hf (hbody dn rfl)⟩
theorem fnOkJ{P:Program}(hm:P.follows .mixedOrders=true){tt:List (Nat×TI)}{tab:List (Nat×FSpec)}{gl:List (Nat×SV)}{eqs:List TypeId}{gh:List (Nat×List Gh)}(hc:A1 P ⟨dn,tt,tab,gl,eqs,gh,[],[]⟩)(htab:Em P gl tab){f:FuncId}{fn:Func}(hf:P.funcs[f]?=some fn)(hgood:(fn.name=="runtime.NumGoroutine")=false){l:Nat}{pre c rest:Code}(hb:fn.body=some (.seq pre (.scope c)))(hl:findLabel c l=some rest){sp:FSpec}
  (h:∀(as:List SV) (ls:List Hl) (K:SV->List Hl->Prop),sp dn as ls K->∃r ls',K r ls'/\∀D,D=dn->bodyJ ⟨D,tt,tab,gl,eqs,gh,[],[]⟩ fn pre c l rest as ls λr' ls''=>Fin r' r ls'' ls'):Ay P gl f sp:=by
 refine⟨⟨fn,_,hf,hb,hgood⟩,λas ls K hs=>?_⟩;obtain⟨r,ls',hK,hbody⟩:=h as ls K hs;exact⟨r,ls',hK,Qj (Za hm) hc htab Ake hf hb hl (hbody dn rfl)⟩
theorem Ai{P:Program}{gl:List (Nat×SV)}:Em P gl []:=by intro x h;cases h
theorem Ab{P:Program}{gl:List (Nat×SV)}{tab:List (Nat×FSpec)}{f:Nat}{sp:FSpec}(h:Ay P gl f sp)(ht:Em P gl tab)(hf:Nat.blt f 1000000=true:=by decide):Em P gl ((f,sp) :: tab):=by
 intro x hx;rcases List.mem_cons.1 hx with rfl|hx
 ·show Ay P gl (Uq f) sp
  rw[Uq,if_pos hf];exact h
 ·exact ht x hx
theorem Bm{P:Program}{gl:List (Nat×SV)}{tab:List (Nat×FSpec)}{f:Nat}{sp:FSpec}(h:Ay P gl f sp)(ht:Em P gl tab):Em P gl ((f+1000000,sp) :: tab):=by
 intro x hx;rcases List.mem_cons.1 hx with rfl|hx
 ·show Ay P gl (Uq (f+1000000)) sp
  have e:Uq (f+1000000)=f:=by
   unfold Uq;rw[if_neg (by rw[Nat.blt_eq];omega),Nat.add_sub_cancel]
  rw[e];exact h
 ·exact ht x hx
theorem br{D:Dn}(hD:D=dn){b:BT}{A B:Prop}(ht:b.den=true->A)(hf:b.den=false->B):(D.b b=true->A)/\(D.b b=false->B):=by subst hD;exact⟨ht,hf⟩
theorem Aed{s s':SV}{ls ls':List Hl}(h:s=s')(hl:ls=ls'):Fin s s' ls ls':=by subst h hl;exact⟨LeV.refl s,LeH.refl ls,Nat.le_refl _⟩
theorem int_eq{D:Dn}(hD:D=dn){k:IntKind}{t:ST}{n:Int}(h:t.den=n):SV.int k (.a (D.i t))=.int k (.a n):=by subst hD h;rfl
theorem bool_eq{D:Dn}(hD:D=dn){t:BT}{b:Bool}(h:t.den=b):SV.bool (.a (D.b t))=.bool (.a b):=by subst hD h;rfl
theorem Be{D:Dn}(hD:D=dn){k:IntKind}{t:ST}{n:Int}{ls:List Hl}(h:t.den=n):Fin (.int k (.a (D.i t))) (.int k (.a n)) ls ls:=Aed (int_eq hD h) rfl
theorem Aw{D:Dn}(hD:D=dn){t:BT}{b:Bool}{ls:List Hl}(h:t.den=b):Fin (.bool (.a (D.b t))) (.bool (.a b)) ls ls:=Aed (bool_eq hD h) rfl
@[simp] theorem den_a (n:Int):(ST.a n).den=n:=rfl
@[simp] theorem den_l (n:Int):(ST.l n).den=n:=rfl
@[simp] theorem den_len (s:List UInt8):(ST.len s).den=s.length:=rfl
@[simp] theorem den_add (k:IntKind) (x y:ST):(ST.bin .add k x y).den=k.wrap (x.den+y.den):=rfl
@[simp] theorem den_sub (k:IntKind) (x y:ST):(ST.bin .sub k x y).den=k.wrap (x.den-y.den):=rfl
@[simp] theorem den_mul (k:IntKind) (x y:ST):(ST.bin .mul k x y).den=k.wrap (x.den * y.den):=rfl
@[simp] theorem den_quo (k:IntKind) (x y:ST):(ST.bin .quo k x y).den=k.wrap (x.den.tdiv y.den):=rfl
@[simp] theorem den_rem (k:IntKind) (x y:ST):(ST.bin .rem k x y).den=x.den.tmod y.den:=rfl
@[simp] theorem den_cv (k:IntKind) (x:ST):(ST.cv k x).den=k.wrap x.den:=rfl
@[simp] theorem bden_a (b:Bool):(BT.a b).den=b:=rfl
@[simp] theorem bden_l (b:Bool):(BT.l b).den=b:=rfl
@[simp] theorem bden_lss (x y:ST):(BT.cmp .lss x y).den=true↔x.den<y.den:=by simp[BT.den,B9]
@[simp] theorem bden_lss' (x y:ST):(BT.cmp .lss x y).den=false↔y.den<=x.den:=by simp[BT.den,B9]
@[simp] theorem bden_leq (x y:ST):(BT.cmp .leq x y).den=true↔x.den<=y.den:=by simp[BT.den,B9]
@[simp] theorem bden_leq' (x y:ST):(BT.cmp .leq x y).den=false↔y.den<x.den:=by simp[BT.den,B9]
@[simp] theorem bden_gtr (x y:ST):(BT.cmp .gtr x y).den=true↔y.den<x.den:=by simp[BT.den,B9]
@[simp] theorem bden_gtr' (x y:ST):(BT.cmp .gtr x y).den=false↔x.den<=y.den:=by simp[BT.den,B9]
@[simp] theorem bden_geq (x y:ST):(BT.cmp .geq x y).den=true↔y.den<=x.den:=by simp[BT.den,B9]
@[simp] theorem bden_geq' (x y:ST):(BT.cmp .geq x y).den=false↔x.den<y.den:=by simp[BT.den,B9]
@[simp] theorem bden_eql (x y:ST):(BT.cmp .eql x y).den=true↔x.den=y.den:=by simp[BT.den,B9]
@[simp] theorem bden_eql' (x y:ST):(BT.cmp .eql x y).den=false↔x.den≠y.den:=by simp[BT.den,B9]
@[simp] theorem bden_neq (x y:ST):(BT.cmp .neq x y).den=true↔x.den≠y.den:=by simp[BT.den,B9]
@[simp] theorem bden_neq' (x y:ST):(BT.cmp .neq x y).den=false↔x.den=y.den:=by simp[BT.den,B9]
@[simp] theorem bden_not (x:BT):(BT.not x).den=true↔x.den=false:=by simp[BT.den]
@[simp] theorem bden_not' (x:BT):(BT.not x).den=false↔x.den=true:=by simp[BT.den]
@[simp] theorem bden_and (x y:BT):(BT.and x y).den=true↔x.den=true/\y.den=true:=by simp[BT.den]
@[simp] theorem bden_and' (x y:BT):(BT.and x y).den=false↔(x.den=true->y.den=false):=by simp only[BT.den];cases x.den<;>simp
@[simp] theorem bden_or (x y:BT):(BT.or x y).den=true↔(x.den=false->y.den=true):=by simp only[BT.den];cases x.den<;>simp
@[simp] theorem bden_or' (x y:BT):(BT.or x y).den=false↔x.den=false/\y.den=false:=by simp[BT.den]
@[simp] theorem bden_beq (x y:BT):(BT.beq x y).den=true↔x.den=y.den:=by simp[BT.den]
@[simp] theorem bden_beq' (x y:BT):(BT.beq x y).den=false↔x.den=!y.den:=by simp only[BT.den];cases x.den<;>cases y.den<;>simp
@[simp] theorem bden_seq (s t:List UInt8):(BT.seq s t).den=true↔s=t:=by simp[BT.den]
@[simp] theorem bden_seq' (s t:List UInt8):(BT.seq s t).den=false↔s≠t:=by simp[BT.den]
theorem A4{n:Int}(h1:-9223372036854775808<=n)(h2:n<=9223372036854775807):IntKind.i64.wrap n=n:=IntWalk.i64_in _ ⟨by omega,by omega⟩
open Go Go.RowKit
theorem Bx{P:Program}{gl:List (Nat×SV)}{f:FuncId}{as:List SV}{r:SV}
  (h:∀(E:Env) (B:Bs) (w:World) (vals:List Value),E6 B gl->Ci B E w->B.w0=w->A2 E w as vals->Calls P f ⟨vals⟩ w λe w'=>∃v,e=.returned v/\(∀E,Rel E w' r v)/\Below w.heap.size w w'):Fh P gl f as [] r []:=by
 intro B E w vals hw0 hI hdom hb hg hh hr;refine (h E B w vals hg hb hw0 hr).mono λe w' hq=>?_;obtain⟨v,rfl,hv,hB⟩:=hq;refine⟨v,E,rfl,?_,λh hlt=>absurd hlt (by simp),hv E⟩;refine⟨hB.os.trans hb.os,hB.tape.trans hb.tape,hB.output.trans hb.output,Nat.le_trans hb.size hB.size,λb hlt hx=>?_,λb o h0=>?_,λb o hi=>Nat.lt_of_lt_of_le (hb.Ibd b o hi) hB.size,hb.Inew,λb h ho=>⟨Nat.lt_of_lt_of_le (hb.Obd b h ho).1 hB.size,(hb.Obd b h ho).2⟩,hb.β0⟩
 ·rw[hB.block b (by rw[<-hw0];exact hlt)];exact hb.old b hlt hx
 ·have h1:=hb.I0 b o h0
  refine⟨h1.1,?_⟩;rw[hB.cell (p:=⟨b,o,none⟩) (hb.Ibd b o h1.1)];exact h1.2
theorem Dj{E:Env}{w:World}{s:List UInt8}{v:Value}(h:Rel E w (.str s) v):v=.string (bytes s):=by
 cases h with
 |ro h=>cases h with
  |str h=>exact h
theorem Afn{E:Env}{w:World}{k:IntKind}{t:ST}{v:Value}(h:Rel E w (.int k t) v):v=.int k t.den:=by
 cases h with
 |ro h=>cases h with
  |int h=>rw[h]
theorem Aab{E:Env}{w:World}{a:SV}{vals:List Value}(h:A2 E w [a] vals):∃v,vals=[v]/\Rel E w a v:=by
 match vals,h with
 | [v],h=>exact⟨v,rfl,h.2 0 a v rfl rfl⟩
 | [],h=>exact absurd h.1 (by simp)
 |_ :: _ :: _,h=>exact absurd h.1 (by simp)
theorem Eg{E:Env}{w:World}{a b:SV}{vals:List Value}(h:A2 E w [a,b] vals):∃v u,vals=[v,u]/\Rel E w a v/\Rel E w b u:=by
 match vals,h with
 | [v,u],h=>exact⟨v,u,rfl,h.2 0 a v rfl rfl,h.2 1 b u rfl rfl⟩
 | [],h=>exact absurd h.1 (by simp)
 | [_],h=>exact absurd h.1 (by simp)
 |_ :: _ :: _ :: _,h=>exact absurd h.1 (by simp)
def LeL(cs cs':List SV):Prop:=∀(E:Env) (w:World) (vs:List Value),A2 E w cs vs->A2 E w cs' vs
theorem LeL.nil:LeL [] []:=λ_ _ _ h=>h
theorem LeL.refl(cs:List SV):LeL cs cs:=λ_ _ _ h=>h
theorem LeL.cons{c c':SV}{cs cs':List SV}(h:LeV c c')(hs:LeL cs cs'):LeL (c :: cs) (c' :: cs'):=by
 intro E w vs hr
 match vs,hr with
 |v :: vs,hr =>
  exact .cons (h E w v (hr.2 0 c v rfl rfl)) (hs E w vs ⟨by have:=hr.1;simpa using this,λi s v a b=>hr.2 (i+1) s v (by simpa using a) (by simpa using b)⟩)
 | [],hr=>exact absurd hr.1 (by simp)
theorem LeV.agg{cs cs':List SV}(h:LeL cs cs'):LeV (.agg cs) (.agg cs'):=by
 intro E w v hr;obtain⟨vs,rfl,hl⟩:=hr.agg_inv;exact (h E w vs hl).agg
theorem LeV.tup{cs cs':List SV}(h:LeL cs cs'):LeV (.tup cs) (.tup cs'):=by
 intro E w v hr;obtain⟨vs,rfl,hl⟩:=hr.tup_inv;have:=h E w vs hl;exact .tup this.1 this.2
theorem LeV.sl{nl nl':BT}{n n':ST}{sz:Nat}{f f':Nat->List SV}(h1:nl.den=nl'.den)(h2:n.den=n'.den)(h:∀i:Nat,(i:Int)<n.den->f i=f' i):LeV (.sl nl n sz f) (.sl nl' n' sz f'):=by
 intro E w v hr;have hr:=hr.sl_inv;rcases hr.sl_inv with⟨rfl,e0,e1⟩|⟨a,m,cap,g,rfl,e1,e2,e3,e3',e4,e5,e5',e6,e7⟩
 ·exact .ro (.slnil (by rw[<-h1];exact e1) (by rw[<-h2];exact e0))
 ·have hf:∀i,i<m->f' i=f i:=λi hi=>(h i (by omega)).symm
  exact .ro (.sl g (by rw[<-h1];exact e1) (by rw[<-h2];exact e2) e3 e3' e4 (λi hi=>by rw[hf i hi];exact e5 i hi) e5' e6 (λi j s hi hs=>by rw[hf i hi]at hs;exact e7 i j s hi hs))
theorem LeH.nil:LeH [] []:=LeH.refl []
theorem LeH.cons{l l':Hl}{ls ls':List Hl}(h:∀(k:Nat) (E:Env) (w:World),HOk E w k l->HOk E w k l')(hs:∀(k i:Nat) (E:Env) (w:World),HOk E w k (Aq ls i)->HOk E w k (Aq ls' i)):∀(k i:Nat) (E:Env) (w:World),HOk E w k (Aq (l :: ls) i)->HOk E w k (Aq (l' :: ls') i)
 |k,0,E,w,hk=>h k E w hk
 |k,i+1,E,w,hk=>hs k i E w hk
theorem Cz{ls ls':List Hl}(hs:∀(k i:Nat) (E:Env) (w:World),HOk E w k (Aq ls i)->HOk E w k (Aq ls' i)):LeH ls ls':=λh E w hk=>hs h h E w hk
theorem Ao{ty:TypeId}{cs cs':List SV}(h:LeL cs cs')(k:Nat)(E:Env)(w:World)(hk:HOk E w k (.blk ty cs)):HOk E w k (.blk ty cs'):=by
 obtain⟨b,C,k1,k2,k3,k4,k5,k6⟩:=hk.blk_inv;have hn:=h E w _ k4;exact⟨b,C,k1,k2,k3,by have:=hn.1;simpa using this.symm,λi s v p q=>hn.2 i s v p (by simpa using q),λv hv=>k5 v (by simpa using hv),k6⟩
theorem D6{s s':SV}(h:LeV s s'):Fin s s' [] []:=⟨h,LeH.refl [],Nat.le_refl _⟩
theorem Af8{nl nl':BT}{n n':ST}{h:Nat}(h1:nl.den=nl'.den)(h2:n.den=n'.den):LeV (.osl nl n h) (.osl nl' n' h):=by
 intro E w v hr;obtain⟨⟨a,m,c,t1,t2,t3⟩,a0,m0,c0,q1,q2,q3⟩:=hr.osl_inv;exact .osl ⟨a,m,c,t1,by rw[<-h2];exact t2,by rw[<-h1];exact t3⟩ ⟨a0,m0,c0,q1,by rw[<-h2];exact q2,by rw[<-h2];exact q3⟩
theorem Yo{ty:TypeId}{n n':ST}{sz:Nat}{gr:Bool}{f f':Nat->List SV}(h2:n.den=n'.den)(h:∀i:Nat,(i:Int)<n.den->f i=f' i)(k:Nat)(E:Env)(w:World)(hk:HOk E w k (.own ty n sz gr f)):HOk E w k (.own ty n' sz gr f'):=by
 obtain⟨v,m,xs,k1,kz,k2,k3,k4,k5,k6⟩:=hk;have hf:∀i,i<m->f' i=f i:=λi hi=>(h i (by omega)).symm;exact⟨v,m,xs,k1,kz,k2,by rw[<-h2];exact k3,k4,⟨λi hi=>by rw[hf i hi];exact k5.1 i hi,λi j s u hi hs=>by rw[hf i hi]at hs;exact k5.2 i j s u hi hs⟩,k6⟩
theorem Af7{nl nl':BT}{n n' g g':ST}{h:Nat}(h1:nl.den=nl'.den)(h2:n.den=n'.den)(h3:g.den=g'.den):LeV (.vsl nl n g h) (.vsl nl' n' g' h):=by
 intro E w v hr;obtain⟨⟨a,m,c,t1,t2,t3⟩,a0,m0,c0,q1,q2,q3⟩:=hr.vsl_inv;exact .vsl ⟨a,m,c,t1,by rw[<-h2];exact t2,by rw[<-h1];exact t3⟩ ⟨a0,m0,c0,q1,by rw[<-h3];exact q2,by rw[<-h3,<-h2];exact q3⟩
theorem Ia{ty:TypeId}{n n' g g':ST}{sz:Nat}{f f':Nat->List SV}(h2:n.den=n'.den)(h3:g.den=g'.den)(h:∀i:Nat,(i:Int)<n.den->f i=f' i)(k:Nat)(E:Env)(w:World)(hk:HOk E w k (.vec ty n g sz f)):HOk E w k (.vec ty n' g' sz f'):=by
 obtain⟨a,c,m,G,xs,k1,k2,k3,kg,k4,k5,k6⟩:=hk;have hf:∀i,i<m->f' i=f i:=λi hi=>(h i (by omega)).symm;exact⟨a,c,m,G,xs,k1,k2,by rw[<-h2];exact k3,by rw[<-h3];exact kg,k4,⟨λi hi=>by rw[hf i hi];exact k5.1 i hi,λi j s u hi hs=>by rw[hf i hi]at hs;exact k5.2 i j s u hi hs⟩,k6⟩
theorem Al8{s s':SV}{ty:TypeId}{n n':ST}{sz:Nat}{gr:Bool}{f f':Nat->List SV}(h:LeV s s')(h2:n.den=n'.den)(hf:∀i:Nat,(i:Int)<n.den->f i=f' i):Fin s s' [.own ty n sz gr f] [.own ty n' sz gr f'] :=
 ⟨h,Cz (LeH.cons (Yo h2 hf) λ_ _ _ _ h=>h),Nat.le_refl _⟩
theorem Ak{k:IntKind}{t t':ST}(h:t.den=t'.den):LeV (.int k t) (.int k t'):=by
 intro E w v hr;rw[hr.int_inv];exact .int h.symm
theorem Dc{t t':BT}(h:t.den=t'.den):LeV (.bool t) (.bool t'):=by
 intro E w v hr;rw[hr.bool_inv];exact .bool h.symm
set_option maxRecDepth 10000
structure Mr(r:SV):Prop where
 h:∀(E E':Env) (w:World) (v:Value),Rel E w r v->Rel E' w r v
def readSp(sp:FSpec):FSpec:=λD xs ls K=>∃(nl:BT) (n g n0 g0:ST) (sz:Nat) (ty:TypeId) (f:Nat->List SV),xs=[.vsl nl n g 0]/\ls=[.vec ty n0 g0 sz f]/\n.den=n0.den/\g.den=g0.den/\
 sp D [.sl nl n sz f] [] λr _ls'=>(Mr r/\K r [.vec ty n0 g0 sz f])\/(Al r=true/\∀g',Ag0 g' g0.den->K r [.vec ty (.l 0) (.a g') sz f])
theorem Xh{P:Program}{gl:List (Nat×SV)}{f:FuncId}{sp:FSpec}(h:Ay P gl f sp):Ay P gl f (readSp sp):=by
 refine⟨h.1,λas ls K hs=>?_⟩;obtain⟨nl,n,g,n0,g0,sz,ty,fr,rfl,rfl,hn,hgg,hs⟩:=hs;obtain⟨r,ls',hk,hc⟩:=h.2 _ _ _ hs
 -- the call itself
 have core:∀(B:Bs) (E:Env) (w:World) (vals:List Value),B.w0=w->(∀b o,E.I b o->B.I0 b o)->Ci B E w->E6 B gl->HOk E w 0 (.vec ty n0 g0 sz fr)->A2 E w [.vsl nl n g 0] vals->
   ∃(a:Option Addr) (c m G:Nat) (xs:List Value),E.τ 0=some (.slice a G c)/\Ck w false ty sz (.slice a m c) m xs/\n0.den=(m:Int)/\g0.den=(G:Int)/\(∀u,u∈xs->u.oneCell'=true)/\Fm E w fr m sz xs/\(∀b,(Value.slice a m c).ownBlock=some b->E.O b=some 0/\∀o,¬E.I b o)/\
   Calls P f ⟨vals⟩ w λe w'=>∃(v1:Value) (E':Env),e=.returned v1/\Rel E' w' r v1/\w'.os=B.w0.os/\w'.tape=B.w0.tape/\w'.output=B.w0.output/\B.w0.heap.size<=w'.heap.size/\
    (∀b,b<B.w0.heap.size->(¬B.X b\/(Value.slice a m c).ownBlock=some b)->w'.heap[b]?=B.w0.heap[b]?)/\(∀b o,E.I b o\/((Value.slice a m c).ownBlock=some b/\o<m * sz)->E'.I b o/\w'.cell? ⟨b,o,none⟩=B.w0.cell? ⟨b,o,none⟩)/\(∀b o,E'.I b o->b<w'.heap.size)/\
    (∀b o,E'.I b o->(E.I b o\/((Value.slice a m c).ownBlock=some b/\o<m * sz))\/B.w0.heap.size<=b\/(B.X b/\(Value.slice a m c).ownBlock≠some b)):=by
  intro B E w vals hw0 hI hb hg hk0 hr;obtain⟨a,c,m,G,xs,k1,k2,k3,kg,k4,k5,k6⟩:=hk0;refine⟨a,c,m,G,xs,k1,k2,k3,kg,k4,k5,k6,?_⟩;obtain⟨v,hv⟩:∃v,v=Value.slice a m c:=⟨_,rfl⟩;rw[<-hv]at k2 k6 ⊢
  let I1:Nat->Nat->Prop:=λb o=>E.I b o\/(v.ownBlock=some b/\o<m * sz)
  let E1:Env:=⟨λ_=>none,λ_=>none,λ_=>none,λ_=>none,λ_=>none,I1⟩
  let B1:Bs:=⟨B.w0,λb=>B.X b/\v.ownBlock≠some b,I1,λ_=>none,λ_=>none,λ_=>none,B.dl⟩
  have hb1:Ci B1 E1 w:=by
   refine⟨hb.os,hb.tape,hb.output,hb.size,λb hlt hnX=>by rw[hw0],λb o hi=>⟨hi,by show w.cell? _=B.w0.cell? _;rw[hw0]⟩,λb o hi=>?_,λb o hi=>.inl hi,λb h ho=>(nomatch ho),⟨λ_ _ h=>(nomatch h),λ_ _ h=>(nomatch h),λ_ _ h=>(nomatch h)⟩⟩;rcases hi with hi|⟨hi,_⟩
   ·exact hb.Ibd b o hi
   ·exact A5 hb (k6 b hi).1
  have hg1:E6 B1 gl:=by
   intro q s hq;obtain⟨g1,g2,g3,g4⟩:=hg q s hq;exact⟨g1.mono (λb o hi=>.inl (hb.I0 b o hi).1) (λ_ _ _=>rfl),g2,λh=>g3 h.1,g4⟩
  obtain⟨u,hu⟩:∃u,vals=[u]:=by
   have:=hr.1
   match vals,this with
   | [u],_=>exact⟨u,rfl⟩
  subst hu;have hr1:A2 E1 w [.sl nl n sz fr] [u]:=by
   refine A2.cons (.ro ?_) A2.nil;obtain⟨hu,hnl⟩:=Lu (hr.2 0 _ _ rfl rfl) k1 (by rw[<-hv];exact k2) (by rw[hn,k3]) kg hgg;rw[<-hv]at hu hnl;exact Yb hu hnl k2 (by rw[hn,k3]) k4 k5
  refine (hc B1 E1 w [u] hw0 (λ_ _ h=>h) (λh hq=>by rcases hq with hq|hq|hq<;>exact absurd rfl hq) hb1 hg1 (λh=>⟨rfl,rfl,rfl,rfl⟩) hr1).mono λe w' hq=>?_;obtain⟨v1,E',e1,e2,_,e4⟩:=hq;refine⟨v1,E',e1,e4,e2.os,e2.tape,e2.output,e2.size,λb hlt hX=>e2.old b hlt ?_,λb o hi=>e2.I0 b o hi,e2.Ibd,λb o hi=>?_⟩
  ·rintro⟨h1,h2⟩
   rcases hX with hX|hX
   ·exact hX h1
   ·exact h2 hX
  ·exact e2.Inew b o hi
 rcases hk with⟨hnr,hk⟩|⟨hp,hk⟩
 ·refine⟨r,[.vec ty n0 g0 sz fr],hk,?_⟩
  intro B E w vals hw0 hI hdom hb hg hh hr;obtain⟨a,c,m,G,xs,k1,k2,k3,kg,k4,k5,k6,hcall⟩:=core B E w vals hw0 hI hb hg (hh 0) hr;refine hcall.mono λe w' hq=>?_;obtain⟨v1,E',e1,e4,f1,f2,f3,f4,f5,f6,f7,f8⟩:=hq;have hsz:w.heap.size<=w'.heap.size:=by rw[<-hw0];exact f4
  have hown:∀b,(Value.slice a m c).ownBlock=some b->w'.heap[b]?=w.heap[b]?:=λb hbb=>by
   rw[<-hw0];refine f5 b ?_ (.inr hbb);rw[hw0];exact A5 hb (k6 b hbb).1
  let E2:Env:=⟨E.β,E.τ,E.O,E.κ,E.ζ,λb o=>E'.I b o/\(Value.slice a m c).ownBlock≠some b⟩
  have hIE:∀b o,E.I b o->E'.I b o/\(Value.slice a m c).ownBlock≠some b:=λb o hi=>⟨(f6 b o (.inl hi)).1,λhbb=>(k6 b hbb).2 o hi⟩;have hx:Ext E w E2 w':=⟨λ_ _ h=>h,λ_ _ h=>.inl h,λ_ _ h=>h,λ_ _ h=>h,hIE,λb o hi=>by rw[<-hw0];exact (f6 b o (.inl hi)).2⟩;refine⟨v1,E2,e1,⟨f1,f2,f3,f4,λb hlt hX=>f5 b hlt (.inl hX),λb o hi=>?_,λb o hi=>f7 b o hi.1,λb o hi=>?_,λb h ho=>⟨Nat.lt_of_lt_of_le (hb.Obd b h ho).1 hsz,(hb.Obd b h ho).2⟩,hb.β0.ext hx⟩,λh hlt=>?_,hnr.h _ _ _ _ e4⟩
  ·have hi1:=(hb.I0 b o hi).1
   exact⟨hIE b o hi1,(f6 b o (.inl hi1)).2⟩
  ·rcases f8 b o hi.1 with (hi1|⟨hi1,_⟩)|hi1|⟨hi1,_⟩
   ·exact hb.Inew b o hi1
   ·exact absurd hi1 hi.2
   ·exact .inr (.inl hi1)
   ·exact .inr (.inr hi1)
  ·match h,hlt with
   |0,_=>exact⟨a,c,m,G,xs,k1,k2.keep hown,k3,kg,k4,k5.mono hx,λb hbb=>⟨(k6 b hbb).1,λo hi=>hi.2 hbb⟩⟩
 ·have hgen:=hk (g0.den+1) ⟨rfl⟩
  refine⟨r,_,hgen,?_⟩;intro B E w vals hw0 hI hdom hb hg hh hr;obtain⟨a,c,m,G,xs,k1,k2,k3,kg,k4,k5,k6,hcall⟩:=core B E w vals hw0 hI hb hg (hh 0) hr;refine hcall.mono λe w' hq=>?_;obtain⟨v1,E',e1,e4,f1,f2,f3,f4,f5,f6,f7,f8⟩:=hq;have hsz:w.heap.size<=w'.heap.size:=by rw[<-hw0];exact f4
  let E2:Env:=⟨E.β,upd E.τ 0 (some (.slice none (G+1) 0)),E.O,E.κ,E.ζ,E'.I⟩
  have hx:Ext E w E2 w':=by
   refine⟨λ_ _ h=>h,λk v hk=>?_,λ_ _ h=>h,λ_ _ h=>h,λb o hi=>(f6 b o (.inl hi)).1,λb o hi=>by rw[<-hw0];exact (f6 b o (.inl hi)).2⟩;show upd E.τ 0 (some (.slice none (G+1) 0)) k=some v\/∃a m' c a' m'' c',v=.slice a m' c/\upd E.τ 0 (some (.slice none (G+1) 0)) k=some (.slice a' m'' c')/\m'<m'';unfold upd
   by_cases e:k=0
   ·subst e
    rw[if_pos rfl];rw[k1]at hk;cases hk;exact .inr ⟨_,G,_,none,G+1,0,rfl,rfl,Nat.lt_succ_self _⟩
   ·rw[if_neg e];exact .inl hk
  refine⟨v1,E2,e1,⟨f1,f2,f3,f4,λb hlt hX=>f5 b hlt (.inl hX),λb o hi=>?_,λb o hi=>f7 b o hi,λb o hi=>?_,λb h ho=>⟨Nat.lt_of_lt_of_le (hb.Obd b h ho).1 hsz,(hb.Obd b h ho).2⟩,hb.β0.ext hx⟩,λh hlt=>?_,e4.plain rfl hp⟩
  ·have hi1:=(hb.I0 b o hi).1
   exact⟨(f6 b o (.inl hi1)).1,(f6 b o (.inl hi1)).2⟩
  ·rcases f8 b o hi with (hi1|⟨hi1,_⟩)|hi1|⟨hi1,_⟩
   ·exact hb.Inew b o hi1
   ·exact .inr (hb.Obd b 0 (k6 b hi1).1).2
   ·exact .inr (.inl hi1)
   ·exact .inr (.inr hi1)
  ·match h,hlt with
   |0,_=>exact⟨none,0,0,G+1,[],by simp[E2,upd],⟨by simp,.inl ⟨rfl,rfl⟩⟩,rfl,by simp only[ST.den];omega,by simp,⟨by intro i hi;omega,by intro i j s u hi;omega⟩,λb hb=>by simp[Value.ownBlock]at hb⟩
theorem noRow3{nl:BT}{n:ST}{sz:Nat}{f:Nat->List SV}{k1 k2:IntKind}{a b:ST}(h:nl.den=true):Mr (.tup [.sl nl n sz f,.int k1 a,.int k2 b]):=by
 refine⟨λE E' w v hr=>?_⟩;obtain⟨vs,hv,hl,hq⟩:∃vs:List Value,v=.tuple ⟨vs⟩/\[SV.sl nl n sz f,.int k1 a,.int k2 b].length=vs.length/\∀(i:Nat) (s:SV) (u:Value),[SV.sl nl n sz f,.int k1 a,.int k2 b][i]?=some s->vs[i]?=some u->Rel E w s u:=by
  cases hr with
  |ro h=>cases h
  |tup hl hq=>exact⟨_,rfl,hl,hq⟩
 subst hv;refine .tup hl λi s u h1 h2=>?_;have h3:=hq i s u h1 h2
 match i,h1 with
 |0,h1 =>
  cases h1;rcases h3.sl_inv.sl_inv with⟨e1,e2,_⟩|⟨_,_,_,_,_,e1,_⟩
  ·rw[e1];exact .ro (.slnil h (by simpa using e2))
  ·rw[h]at e1;cases e1
 |1,h1=>cases h1;rw[h3.int_inv];exact .ro (.int rfl)
 |2,h1=>cases h1;rw[h3.int_inv];exact .ro (.int rfl)
def Aj4(sp:FSpec):FSpec:=λD xs ls K=>∃(s1:SV) (nl:BT) (n n0:ST) (sz:Nat) (gr:Bool) (ty:TypeId) (f:Nat->List SV),xs=[s1,.osl nl n 0]/\Al s1=true/\ls=[.own ty n0 sz gr f]/\n.den=n0.den/\sp D [s1,.sl nl n sz f] [] λr _ls'=>Al r=true/\K r [.gone]
theorem Abq{P:Program}{gl:List (Nat×SV)}{f:FuncId}{sp:FSpec}(h:Ay P gl f sp):Ay P gl f (Aj4 sp):=by
 refine⟨h.1,λas ls K hs=>?_⟩;obtain⟨s1,nl,n,n0,sz,gr,ty,g,rfl,hp1,rfl,hn,hs⟩:=hs;obtain⟨r,ls',⟨hp,hk⟩,hc⟩:=h.2 _ _ _ hs;refine⟨r,[.gone],hk,?_⟩;intro B E w vals hw0 hI hdom hb hg hh hr;have hk0:=hh 0;simp only[Aq,nth]at hk0;obtain⟨v,m,xs,k1,kz,k2,k3,k4,k5,k6⟩:=hk0
 let I1:Nat->Nat->Prop:=λb o=>E.I b o\/(v.ownBlock=some b/\o<m * sz)
 let E1:Env:=⟨λ_=>none,λ_=>none,λ_=>none,λ_=>none,λ_=>none,I1⟩
 let B1:Bs:=⟨B.w0,B.X,I1,λ_=>none,λ_=>none,λ_=>none,B.dl⟩
 have hb1:Ci B1 E1 w:=by
  refine⟨hb.os,hb.tape,hb.output,hb.size,hb.old,λb o hi=>⟨hi,by show w.cell? _=B.w0.cell? _;rw[hw0]⟩,λb o hi=>?_,λb o hi=>.inl hi,λb h ho=>(nomatch ho),⟨λ_ _ h=>(nomatch h),λ_ _ h=>(nomatch h),λ_ _ h=>(nomatch h)⟩⟩;rcases hi with hi|⟨hi,_⟩
  ·exact hb.Ibd b o hi
  ·exact A5 hb (k6 b hi).1
 have hg1:E6 B1 gl:=by
  intro q s hq;obtain⟨g1,g2,g3,g4⟩:=hg q s hq;exact⟨g1.mono (λb o hi=>.inl (hb.I0 b o hi).1) (λ_ _ _=>rfl),g2,g3,g4⟩
 obtain⟨u0,u,hu⟩:∃u0 u,vals=[u0,u]:=by
  have:=hr.1
  match vals,this with
  | [u0,u],_=>exact⟨u0,u,rfl⟩
 subst hu
 let E0:Env:=⟨λ_=>none,λ_=>none,λ_=>none,λ_=>none,λ_=>none,E.I⟩
 have hx0:Ext E0 w E1 w:=⟨λ_ _ h=>(nomatch h),λ_ _ h=>(nomatch h),λ_ _ h=>(nomatch h),λ_ _ h=>(nomatch h),λ_ _ h=>.inl h,λ_ _ _=>rfl⟩;have hr0:Rel E0 w s1 u0:=(hr.2 0 _ _ rfl rfl).plain rfl hp1;have hr1:A2 E1 w [s1,.sl nl n sz g] [u0,u]:=by
  refine A2.cons (hr0.mono hx0) (A2.cons (.ro ?_) A2.nil);exact Akx (hr.2 1 _ _ rfl rfl) k1 k2 k3 hn k4 k5
 refine (hc B1 E1 w [u0,u] hw0 (λ_ _ h=>h) (λh hq=>by rcases hq with hq|hq|hq<;>exact absurd rfl hq) hb1 hg1 (λh=>⟨rfl,rfl,rfl,rfl⟩) hr1).mono λe w' hq=>?_;obtain⟨v1,E',e1,e2,_,e4⟩:=hq;refine⟨v1,⟨E.β,E.τ,E.O,E.κ,E.ζ,E'.I⟩,e1,⟨e2.os,e2.tape,e2.output,e2.size,e2.old,λb o hi=>e2.I0 b o (.inl (hb.I0 b o hi).1),e2.Ibd,λb o hi=>?_,λb h ho=>⟨Nat.lt_of_lt_of_le (hb.Obd b h ho).1 (by rw[<-hw0];exact e2.size),(hb.Obd b h ho).2⟩,⟨hb.β0.β,hb.β0.τ,hb.β0.ζ⟩⟩,λh hlt=>?_,e4.plain rfl hp⟩
 ·rcases e2.Inew b o hi with (hi|⟨hi,_⟩)|hi
  ·exact hb.Inew b o hi
  ·exact .inr (hb.Obd b 0 (k6 b hi).1).2
  ·exact .inr hi
 ·match h,hlt with
  |0,_=>trivial
def orSp(a b:FSpec):FSpec:=λD xs ls K=>a D xs ls K\/b D xs ls K
theorem fnOk_or{P:Program}{gl:List (Nat×SV)}{f:FuncId}{a b:FSpec}(h:Ay P gl f a)(k:Ay P gl f b):Ay P gl f (orSp a b) :=
 ⟨h.1,λxs ls K hs=>hs.elim (h.2 xs ls K) (k.2 xs ls K)⟩
end Go.Sx
