/- Part of the proofs of the statements about responses and messages (layers 9 and 10): a symbolic executor over the code, that it is sound, and contracts of functions; it has no conditions of its own. -/
import Derived.ScopeJumps
import Derived.Test.YtdoogdbjiijifaaGreatDoorE3Pas
namespace Go.Sx
open Go
theorem LeV.refl(s:SV):LeV s s:=λ_ _ _ h=>h
theorem LeH.refl(ls:List Hl):LeH ls ls:=λ_ _ _ h=>h
section
variable {P:Program} {cx:Cx}
def Th(tmps:Array Value):ResultVar->Sem Value
 |.tmp t=>pure (tmps.getD t undef)
 |.cell ad t=>do loadVar t (<-asAddr (tmps.getD ad undef))
theorem Tg(fn:Func)(tmps:Array Value):results fn tmps=(do let vs<-fn.results.mapM (Th tmps);pure (if h:vs.size=1 then vs[0] else .tuple vs)):=by
 unfold results;congr 1
theorem H7(hc:A1 P cx){B:Bs}{N:Nat}(hg:E6 B cx.gl){E:Env}{a:Act}{w:World}{σ:Sy}(hs:StY B N E a w σ):∀(rs:List ResultVar) (vs:List SV),Jb cx σ rs=some vs->
  ∃us,(rs.mapM (Th a.tmps)).run P w=.ok us w/\A2 E w vs us
 | [],vs,h=>by simp[Jb]at h;subst h;exact⟨[],rfl,.nil⟩
 |.tmp t :: rs,vs,h=>by
  simp only[Jb]at h
  split at h
  ·rename_i v vs' hv hvs
   cases h;obtain⟨us,h1,h2⟩:=H7 hc hg hs rs vs' hvs;have hr:=Aa hv hg hs.st (λ_ _=>rfl) trivial;exact⟨a.tmps.getD t undef :: us,by simp only[List.mapM_cons,Th,Sem.run_bind,Sem.run_pure,Result.andThen_ok,h1],.cons hr h2⟩
  ·cases h
 |.cell ad t :: rs,vs,h=>by
  simp only[Jb]at h
  split at h
  ·rename_i hd off n vs' hv hn hvs
   split at h
   ·rename_i ty cs hh
    split at h
    ·rename_i hb
     split at h
     ·rename_i v hp
      cases h;rw[Ae]at hb;have hle:=Nat.le_of_ble_eq_true hb;rw[A9,Bo]at hp;obtain⟨us,h1,h2⟩:=H7 hc hg hs rs vs' hvs;obtain⟨b,hβ,hx⟩:=(Aa hv hg hs.st (λ_ _=>rfl) trivial).ptr_inv;have hk:=hs.st.heap hd;rw[Bv hh]at hk;obtain⟨b',C,k1,_,k3,k4,_,_⟩:=hk.blk_inv;obtain rfl:b=b':=Option.some.inj (hβ.symm.trans k1);obtain⟨ti,hti,hsz⟩:=size?_ti hn;have hsub:=Zw (off:=off) (n:=n) k4 rfl (λ_ _ _=>rfl);obtain⟨p1,p2⟩:=F8 hp hsub;have hlen:((C.toList.drop off).take n).length=n:=by rw[<-hsub.1];simp;omega
      have hrun:=Fq (hc.ti hti) (w:=w) (b:=b) (off:=off) (vs:=(C.toList.drop off).take n) (λj v hj=>by
       rw[List.getElem?_take]at hj
       split at hj
       ·rw[List.getElem?_drop]at hj
        rw[cell_of_row w b (off+j) C ty (0,0) k3];simpa using hj
       ·cases hj) (by rw[hlen,hsz]) (isAgg?_eq hti) p1
      have hx:a.tmps.getD ad undef=.pointer (some ⟨b,off,none⟩):=hx;have hl:(loadVar t ⟨b,off,none⟩).run P w=.ok (if isAgg? cx t then .agg ⟨(C.toList.drop off).take n⟩ else ((C.toList.drop off).take n).headD undef) w:=by
       simpa only[Instr.loadAt,Instr.sureAddr,Sem.run_bind,Sem.run_pure,Result.andThen_ok] using hrun
      refine⟨_ :: us,?_,.cons p2 h2⟩;have hrow:(Th a.tmps (.cell ad t)).run P w=.ok (if isAgg? cx t then .agg ⟨(C.toList.drop off).take n⟩ else ((C.toList.drop off).take n).headD undef) w:=by
       simp only[Th,hx,asAddr,Sem.run_bind,Sem.run_pure,Result.andThen_ok,hl]
      simp only[List.mapM_cons,Sem.run_bind,hrow,Result.andThen_ok,h1,Sem.run_pure]
     ·cases h
    ·cases h
   ·cases h
  ·cases h
theorem HOk.normH{E:Env}{w:World}{hp:List Hl}{h:Nat}(hk:HOk E w h (Aq hp h)):HOk E w h (Aq (normH dn hp) h):=by
 simp only[Aq,Ag,Ha]at hk ⊢;cases hl:hp[h]? with
 |none=>rw[hl]at hk;exact hk
 |some l =>
  rw[hl]at hk;cases l with
  |blk ty cs =>
   simp only[Option.map_some,Option.getD_some]at hk ⊢;obtain⟨b,C,k1,k2,k3,k4,k5,k6⟩:=hk.blk_inv;have hn:A2 E w (loose.looseL (norm.normL dn cs)) C.toList:=by
    rw[Cd,Cl];exact (k4.map _ λs v _ h=>h.norm).map _ λs v _ h=>h.loose
   exact⟨b,C,k1,k2,k3,by have:=hn.1;simpa using this.symm,λi s v p q=>hn.2 i s v p (by simpa using q),λv hv=>k5 v (by simpa using hv),k6⟩
  |_=>exact hk
theorem J5(ntmps:Nat)(args:List SV)(s:Nat)(g:G)(h:Au (Ea ntmps args) s=some g):∃v,args[s]?=some v/\g=⟨[],none,none,v⟩:=by
 rw[Dz]at h;unfold Ea at h
 by_cases hlt:s<args.length
 ·rw[List.getElem?_append_left (by simpa using hlt)]at h
  simp[hlt]at h;exact⟨args[s],by simp[hlt],h.symm⟩
 ·rw[List.getElem?_append_right (by simp;omega)]at h
  rw[List.getElem?_replicate]at h
  split at h<;>simp at h
theorem Pn{E E':Env}{w:World}{h k:Nat}(hI:E'.I=E.I)(hτ:E'.τ k=E.τ h):∀ {vs:List SV} {us:List Value},To h vs=true->A2 E w vs us->A2 E' w (Qy h k vs) us
 | [],us,_,hr=>⟨hr.1,by simp[Qy]⟩
 |v :: vs,[],_,hr=>absurd hr.1 (by simp)
 |v :: vs,u :: us,ho,hr=>by
  have htl:A2 E w vs us:=⟨by have:=hr.1;simpa using this,λi s v a b=>hr.2 (i+1) s v a b⟩;have hhd:=hr.2 0 v u rfl rfl
  by_cases hv:∃nl n h',v=.osl nl n h'
  ·obtain⟨nl,n,h',rfl⟩:=hv
   simp only[To,Bool.and_eq_true,beq_iff_eq]at ho;obtain⟨rfl,ho⟩:=ho;obtain⟨ht,a,m,c,t1,t2⟩:=hhd.osl_inv;exact .cons (.osl ht ⟨a,m,c,by rw[hτ];exact t1,t2⟩) (Pn hI hτ ho htl)
  ·have h1:To h (v :: vs)=(Al v&&To h vs):=by
    cases v<;>first|rfl|exact absurd ⟨_,_,_,rfl⟩ hv
   have h2:Qy h k (v :: vs)=v :: Qy h k vs:=by
    cases v<;>first|rfl|exact absurd ⟨_,_,_,rfl⟩ hv
   rw[h1,Bool.and_eq_true]at ho;rw[h2];exact .cons (hhd.plain hI ho.1) (Pn hI hτ ho.2 htl)
theorem Qa(hc:A1 P cx){B:Bs}{N:Nat}(hg:E6 B cx.gl){E':Env}{a':Act}{w':World}{σ':Sy}(hs':StY B N E' a' w' σ'){fn:Func}{m:Nat}(hdom:∀h,B.β0 h≠none\/B.τ0 h≠none\/B.ζ0 h≠none->h<m){r:SV}{ls':List Hl}(hk:match Jb cx σ' fn.results.toList with
    |some vs=>Aiw cx m vs σ' λr' ls''=>Fin r' r ls'' ls'
    |none=>False):∃v,(results fn a'.tmps).run P w'=.ok v w'/\∃v_1 E',Ending.returned v=.returned v_1/\Ci B E' w'/\(∀h,h<ls'.length->HOk E' w' h (Aq ls' h))/\Rel E' w' r v_1:=by
 split at hk
 ·rename_i vs hvs
  obtain⟨us,u1,u2⟩:=H7 hc hg hs' fn.results.toList vs hvs;have hbase:=hs'.st.base;have hres:(results fn a'.tmps).run P w'=.ok (if h:(⟨us⟩:Array Value).size=1 then (⟨us⟩:Array Value)[0] else .tuple ⟨us⟩) w':=by
   rw[Tg,Array.mapM_eq_mapM_toList];simp only[Sem.run_bind,Sem.run_map,u1,Result.andThen_ok,Sem.run_pure]
  unfold Aiw at hk;rw[hc.D]at hk
  split at hk
  ·obtain⟨k1,k2,k3⟩:=hk
   refine⟨_,hres,_,E',rfl,hbase,λh hlt=>?_,?_⟩
   ·refine k2 h E' w' ?_
    refine HOk.normH ?_;have:=hs'.st.heap h;have hlt2:h<m:=by
     rw[Ji,A9,List.length_take]at k3;omega
    simp only[Aq,Ag,A9]at this ⊢;rw[List.getElem?_take,if_pos hlt2];exact this
   ·exact k1 E' w' _ (Pm u2).norm.loose
  ·rename_i h _
   split at hk
   ·rename_i ty n sz gr f hcond hh
    simp only[Bool.and_eq_true]at hcond;obtain⟨⟨c1,c2⟩,c3⟩:=hcond;have c1:=Nat.le_of_ble_eq_true c1;obtain⟨k1,k2,k3⟩:=hk;have hm:m<=σ'.hp.length:=by
     rw[Ag]at hh;have:=(List.getElem?_eq_some_iff.1 hh).1;omega
    let O2:Nat->Option Nat:=λb=>(E'.O b).bind λj=>if j<m then some j else if j=h then some m else none
    let E2:Env:=⟨λk=>if k<m then E'.β k else if k=m then E'.β h else none,λk=>if k<m then E'.τ k else if k=m then E'.τ h else none,O2,λk=>if k<m then E'.κ k else none,λk=>if k<m then E'.ζ k else if k=m then E'.ζ h else none,E'.I⟩
    have hbase2:Ci B E2 w':=by
     refine⟨hbase.os,hbase.tape,hbase.output,hbase.size,hbase.old,hbase.I0,hbase.Ibd,hbase.Inew,λb j hO=>?_,⟨λk b hk=>?_,λk v hk=>?_,λk z hk=>?_⟩⟩
     ·have hO:(E'.O b).bind (λj=>if j<m then some j else if j=h then some m else none)=some j:=hO
      cases hEO:E'.O b with
      |none=>rw[hEO]at hO;cases hO
      |some q=>exact hbase.Obd b q hEO
     ·show (if k<m then E'.β k else if k=m then E'.β h else none)=some b
      rw[if_pos (hdom k (.inl (by rw[hk];simp)))];exact hbase.β0.β k b hk
     ·show Pc v (if k<m then E'.τ k else if k=m then E'.τ h else none)
      rw[if_pos (hdom k (.inr (.inl (by rw[hk];simp))))];exact hbase.β0.τ k v hk
     ·show (if k<m then E'.ζ k else if k=m then E'.ζ h else none)=some z
      rw[if_pos (hdom k (.inr (.inr (by rw[hk];simp))))];exact hbase.β0.ζ k z hk
    have hO1:∀b k,k<m->E'.O b=some k->O2 b=some k:=λb k hk hb=>by simp[O2,hb,hk]
    have hO2:∀b,E'.O b=some h->O2 b=some m:=λb hb=>by
     simp only[O2,hb,Option.bind_some];rw[if_neg (by omega)];simp
    refine⟨_,hres,_,E2,rfl,hbase2,λk hlt=>?_,?_⟩
    ·refine k2 k E2 w' ?_
     have hlen:(normH dn (Bf m σ'.hp++[.own ty n sz gr f])).length=m+1:=by
      rw[Ji,A9,List.length_append,List.length_take,Nat.min_eq_left hm];rfl
     rw[hlen]at k3;have htl:(Bf m σ'.hp).length=m:=by rw[A9,List.length_take,Nat.min_eq_left hm]
     have hkk:=hs'.st.heap
     by_cases hkm:k<m
     ·have h1:Aq (normH dn (Bf m σ'.hp++[.own ty n sz gr f])) k=Aq (normH dn (Bf m σ'.hp)) k:=by
       simp only[Aq,Ag,Ha];rw[List.getElem?_append_left (by omega)]
      rw[h1];have h2:HOk E' w' k (Aq (normH dn (Bf m σ'.hp)) k):=by
       refine HOk.normH ?_;have:=hkk k;simp only[Aq,Ag,A9]at this ⊢;rw[List.getElem?_take,if_pos hkm];exact this
      obtain⟨l,hl⟩:∃l,(normH dn (Bf m σ'.hp))[k]?=some l:=⟨_,List.getElem?_eq_getElem (by rw[Ji];omega)⟩;have hle:Aq (normH dn (Bf m σ'.hp)) k=l:=by simp only[Aq,Ag,hl,Option.getD_some]
      rw[hle]at h2 ⊢;exact h2.move (Fu c3 hl) rfl (if_pos hkm) (if_pos hkm) (if_pos hkm) λb hb=>hO1 b k hkm hb
     ·obtain rfl:k=m:=by omega
      have h1:Aq (normH dn (Bf k σ'.hp++[.own ty n sz gr f])) k=.own ty (.a (dn.i n)) sz gr f:=by
       simp only[Aq,Ag,Ha];rw[List.getElem?_append_right (by omega),htl,Nat.sub_self];rfl
      rw[h1];have h2:=hkk h;rw[Bv hh]at h2;have h3:HOk E' w' h (.own ty (.a (dn.i n)) sz gr f):=h2;refine h3.move trivial rfl ?_ ?_ ?_ hO2
      ·show (if k<k then E'.β k else if k=k then E'.β h else none)=E'.β h
       rw[if_neg (by omega),if_pos rfl]
      ·show (if k<k then E'.τ k else if k=k then E'.τ h else none)=E'.τ h
       rw[if_neg (by omega),if_pos rfl]
      ·show (if k<k then E'.ζ k else if k=k then E'.ζ h else none)=E'.ζ h
       rw[if_neg (by omega),if_pos rfl]
    ·have hτm:E2.τ m=E'.τ h:=by
      show (if m<m then E'.τ m else if m=m then E'.τ h else none)=E'.τ h;rw[if_neg (by omega),if_pos rfl]
     have hrel:A2 E2 w' (Qy h m vs) us:=Pn (E:=E') (E':=E2) rfl hτm c2 u2;exact k1 E2 w' _ (Pm hrel).norm.loose
   ·exact hk.elim
 ·exact hk.elim
theorem Uu(hc:A1 P cx){B:Bs}{N:Nat}(hg:E6 B cx.gl){E':Env}{a':Act}{w':World}{σ':Sy}(hs':StY B N E' a' w' σ'){fn:Func}{m:Nat}(hdom:∀h,B.β0 h≠none\/B.τ0 h≠none\/B.ζ0 h≠none->h<m){r:SV}{ls':List Hl}(hk:match Jb cx σ' fn.results.toList with
    |some vs=>Amk cx m vs σ' λr' ls''=>Fin r' r ls'' ls'
    |none=>False):∃v,(results fn a'.tmps).run P w'=.ok v w'/\∃v_1 E',Ending.returned v=.returned v_1/\Ci B E' w'/\(∀h,h<ls'.length->HOk E' w' h (Aq ls' h))/\Rel E' w' r v_1:=by
 split at hk
 ·rename_i vs hvs
  obtain⟨us,u1,u2⟩:=H7 hc hg hs' fn.results.toList vs hvs;have hbase:=hs'.st.base;have hres:(results fn a'.tmps).run P w'=.ok (if h:(⟨us⟩:Array Value).size=1 then (⟨us⟩:Array Value)[0] else .tuple ⟨us⟩) w':=by
   rw[Tg,Array.mapM_eq_mapM_toList];simp only[Sem.run_bind,Sem.run_map,u1,Result.andThen_ok,Sem.run_pure]
  obtain⟨E2,q1,q2,q3⟩:=Xp hc hs' hdom u2 hk;exact⟨_,hres,_,E2,rfl,q1,q2,q3⟩
 ·exact hk.elim
theorem Kv{B:Bs}{E:Env}{w:World}{vals:List Value}{fn:Func}{as:List SV}{ls:List Hl}(hdl:B.dl=[])(hdom:∀h,B.β0 h≠none\/B.τ0 h≠none\/B.ζ0 h≠none->h<ls.length)(hb:Ci B E w)(hh:∀h,HOk E w h (Aq ls h))(hr:A2 E w as vals):
  StY B (Ea fn.ntmps as).length E { tmps:=(⟨vals⟩:Array Value)++Array.replicate (fn.ntmps-(⟨vals⟩:Array Value).size) undef,defers:=[] } w ⟨Ea fn.ntmps as,ls,[]⟩:=by
 refine⟨⟨hb,hh,λs=>?_,?_,by rw[hdl];rfl⟩,rfl,⟨λs g hs i hi=>?_,λs g i hs hi=>?_,λs g i hs hi=>?_⟩,hdom⟩
 ·simp only[Ba]
  cases hs:Au (Ea fn.ntmps as) s with
  |none=>trivial
  |some g =>
   obtain⟨v,hv,rfl⟩:=J5 _ _ _ _ hs;have hlt:s<as.length:=(List.getElem?_eq_some_iff.1 hv).1;have hlt2:s<vals.length:=by rw[<-hr.1];exact hlt
   have hget:((⟨vals⟩:Array Value)++Array.replicate (fn.ntmps-(⟨vals⟩:Array Value).size) undef).getD s undef=vals[s]:=by
    rw[Array.getD_eq_getD_getElem?,Array.getElem?_append_left (by simpa using hlt2)];simp[hlt2]
   refine⟨by simp;omega,λ_=>?_,λh=>absurd trivial h⟩;rw[hget];exact hr.2 s v _ hv (List.getElem?_eq_getElem hlt2)
 ·simp[Ea,Ae,hr.1]
 ·obtain⟨v,_,rfl⟩:=J5 _ _ _ _ hs;simp at hi
 ·obtain⟨v,_,rfl⟩:=J5 _ _ _ _ hs;simp at hi
 ·obtain⟨v,_,rfl⟩:=J5 _ _ _ _ hs;simp at hi
def shut:List Nat->World->World
 | [],w=>w
 |r :: rs,w=>shut rs (w.putObj r (.deferred none))
theorem Gv{F:Fence}{n:Nat}{fn:Func}{tmps:Array Value}{R:Ending->World->Prop}:∀(dl:List Nat) (w:World),dl.Nodup->(∀r∈dl,w.heap[r]?=some (.deferred (some [])))->
  (∃v,(results fn tmps).run P (shut dl w)=.ok v (shut dl w)/\R (.returned v) (shut dl w))->LeavesInM F n P fn tmps R (dl.map Ty) .returning w
 | [],w,_,_,h=>h
 |r :: rs,w,hn,hd,h=>by
  obtain⟨n1,n2⟩:=List.nodup_cons.1 hn;refine⟨by simp,.inl ⟨r,_,rfl,run_takeDeferred (hd r (List.mem_cons_self ..)),Gv rs _ n2 (λk hk=>?_) h⟩⟩;rw[World.putObj_heap_other (λ(e:k=r)=>n1 (by rw[<-e];exact hk))];exact hd k (List.mem_cons_of_mem _ hk)
theorem put_raw{B:Bs}{N:Nat}{E:Env}{a:Act}{w:World}{ff:Nat->SG}{hf:Nat->Hl}(st:St B N E a w ff hf){r:Nat}{x:Option (List Deferred)}(hr:B.w0.heap.size<=r)(hO:∀k,E.O r≠some k)(hd:w.heap[r]?=some (.deferred x))(y:Option (List Deferred)):St B N E a (w.putObj r (.deferred y)) ff hf:=by
 have hb:=st.base;have hlt:r<w.heap.size:=(Array.getElem?_eq_some_iff.1 hd).1;have hcell:∀b o,(w.putObj r (.deferred y)).cell? ⟨b,o,none⟩=w.cell? ⟨b,o,none⟩:=by
  intro b o;simp only[World.cell?]
  by_cases e:b=r
  ·subst e;rw[World.putObj_heap_same hlt,hd]
  ·rw[World.putObj_heap_other e]
 have hx:Ext E w E (w.putObj r (.deferred y)):=⟨λ_ _ h=>h,λ_ _ h=>.inl h,λ_ _ h=>h,λ_ _ h=>h,λ_ _ h=>h,λb o _=>hcell b o⟩;refine st.step hx ⟨hb.os,hb.tape,hb.output,?_,?_,?_,?_,hb.Inew,?_,hb.β0⟩ λk=>?_
 ·rw[World.putObj_size];exact hb.size
 ·intro b hlt hX;rw[World.putObj_heap_other (by omega)];exact hb.old b hlt hX
 ·intro b o hi
  obtain⟨i1,i2⟩:=hb.I0 b o hi;exact⟨i1,by rw[hcell];exact i2⟩
 ·intro b o hi;rw[World.putObj_size];exact hb.Ibd b o hi
 ·intro b k hO;rw[World.putObj_size];exact hb.Obd b k hO
 ·refine HOk.keep hx (st.heap k) rfl rfl rfl rfl λb hb2=>⟨hb2,?_,λ_ h=>h⟩
  exact World.putObj_heap_other (λe=>hO k (by rw[<-e];exact hb2))
theorem Z0{B:Bs}{N:Nat}{E:Env}{a:Act}{ff:Nat->SG}{hf:Nat->Hl}:∀(dl:List Nat) (w:World),dl.Nodup->St B N E a w ff hf->(∀r∈dl,B.w0.heap.size<=r/\(∀k,E.O r≠some k)/\w.heap[r]?=some (.deferred (some [])))->St B N E a (shut dl w) ff hf
 | [],_,_,st,_=>st
 |r :: rs,w,hn,st,h=>by
  obtain⟨n1,n2⟩:=List.nodup_cons.1 hn;obtain⟨h1,h2,h3⟩:=h r (List.mem_cons_self ..);refine Z0 rs _ n2 (put_raw st h1 h2 h3 none) λk hk=>?_;obtain⟨k1,k2,k3⟩:=h k (List.mem_cons_of_mem _ hk);exact⟨k1,k2,by rw[World.putObj_heap_other (λ(e:k=r)=>n1 (by rw[<-e];exact hk))];exact k3⟩
theorem StY.shut{B B1:Bs}{N:Nat}{E:Env}{a:Act}{w:World}{σ:Sy}(hr:Reb B B1)(h0:B.dl=[])(hs:StY B1 N E a w σ):
  B1.dl.Nodup/\(∀r∈B1.dl,w.heap[r]?=some (.deferred (some [])))/\StY B N E { a with defers:=[] } (Sx.shut B1.dl w) σ:=by
 have hm:Ae2 B1:=hr.marks ⟨by rw[h0];exact List.nodup_nil,by rw[h0];simp⟩;have hb:=hs.st.base;have hd:∀r∈B1.dl,B.w0.heap.size<=r/\(∀k,E.O r≠some k)/\w.heap[r]?=some (.deferred (some [])):=by
  intro r hrm;obtain⟨m1,m2,m3⟩:=hm.lie r hrm;refine⟨?_,λk hk=>?_,(hb.old r m1 m2).trans m3⟩
  ·rcases hr.new r hrm with h|h
   ·rw[h0]at h;cases h
   ·exact h
  ·rcases (hb.Obd r k hk).2 with h|h
   ·omega
   ·exact m2 h
 have hst:St B N E { a with defers:=[] } w (Ba σ) (Aq σ.hp):=⟨hr.base hb,hs.st.heap,hs.st.slot,hs.st.size,by rw[h0];rfl⟩;refine⟨hm.nodup,λr hrm=>(hd r hrm).2.2,Z0 B1.dl w hm.nodup hst hd,hs.len,hs.wf,λk hk=>hs.ge k ?_⟩;rw[hr.β0,hr.τ0,hr.ζ0];exact hk
def Bs.bare(B:Bs):Bs:={ B with dl:=[] }
theorem Ci.bare{B:Bs}{E:Env}{w:World}(h:Ci B E w):Ci B.bare E w:=⟨h.os,h.tape,h.output,h.size,h.old,h.I0,h.Ibd,h.Inew,h.Obd,⟨h.β0.β,h.β0.τ,h.β0.ζ⟩⟩
theorem Ci.unbare{B:Bs}{E:Env}{w:World}(h:Ci B.bare E w):Ci B E w:=⟨h.os,h.tape,h.output,h.size,h.old,h.I0,h.Ibd,h.Inew,h.Obd,⟨h.β0.β,h.β0.τ,h.β0.ζ⟩⟩
theorem R5(hd:Qq P)(hc:A1 P cx)(htab:Em P cx.gl cx.tab)(hrg:Ve P cx){f:FuncId}{fn:Func}(hf:P.funcs[f]?=some fn){as:List SV}{ls:List Hl}{r:SV}{ls':List Hl}
  (h:body cx fn as ls λr' ls''=>Fin r' r ls'' ls'):Fh P cx.gl f as ls r ls':=by
 intro B E w vals hw0 hI0 hdom hb hg hh hr;unfold body at h
 split at h
 ·rename_i c hbody
  refine callsIn_wide.1 (callsIn_of_wp_marks (F:=Fence.wide) (n:=0) hf hbody trivial ?_);refine wpIn_mono (F:=Fence.wide) (Bz hd hc htab hrg c _ _ h none 0 (.inl rfl) B.bare hg E _ w (Kv (B:=B.bare) rfl hdom hb.bare hh hr)) λe a' w' hq=>?_;obtain⟨B1,E',σ',hr1,hs',hk⟩:=hq;obtain⟨m1,m2,m3⟩:=hs'.shut hr1 rfl;rw[<-Ae ls]at hdom;have done:(∃v,(results fn a'.tmps).run P (shut B1.dl w')=.ok v (shut B1.dl w')/\∃v_1 E',Ending.returned v=.returned v_1/\Ci B.bare E' (shut B1.dl w')/\(∀h,h<ls'.length->HOk E' (shut B1.dl w') h (Aq ls' h))/\Rel E' (shut B1.dl w') r v_1)->LeavesInM Fence.wide 0 P fn a'.tmps (λe w'=>∃v E',e=.returned v/\Ci B E' w'/\(∀h,h<ls'.length->HOk E' w' h (Aq ls' h))/\Rel E' w' r v) a'.defers .returning w':=by
   rintro⟨v,q1,v1,E2,q2,q3,q4,q5⟩;rw[hs'.st.defers];exact Gv B1.dl w' m1 m2 ⟨v,q1,v1,E2,q2,q3.unbare,q4,q5⟩
  cases e with
  |normal=>exact done (Qa (B:=B.bare) hc hg m3 hdom hk)
  |ret=>exact done (Qa (B:=B.bare) hc hg m3 hdom hk)
  |exit i=>exact hk.elim
  |goto l=>exact hk.elim
  |panic c=>exact hk.elim
  |outgrown=>exact hk.elim
 ·exact h.elim
theorem Js(hd:Qq P)(hc:A1 P cx)(htab:Em P cx.gl cx.tab)(hrg:Ve P cx){f:FuncId}{fn:Func}(hf:P.funcs[f]?=some fn){as:List SV}{ls:List Hl}{r:SV}{ls':List Hl}
  (h:Agv cx fn as ls λr' ls''=>Fin r' r ls'' ls'):Fh P cx.gl f as ls r ls':=by
 intro B E w vals hw0 hI0 hdom hb hg hh hr;unfold Agv at h
 split at h
 ·rename_i c hbody
  refine callsIn_wide.1 (callsIn_of_wp_marks (F:=Fence.wide) (n:=0) hf hbody trivial ?_);refine wpIn_mono (F:=Fence.wide) (Bz hd hc htab hrg c _ _ h none 0 (.inl rfl) B.bare hg E _ w (Kv (B:=B.bare) rfl hdom hb.bare hh hr)) λe a' w' hq=>?_;obtain⟨B1,E',σ',hr1,hs',hk⟩:=hq;obtain⟨m1,m2,m3⟩:=hs'.shut hr1 rfl;rw[<-Ae ls]at hdom;have done:(∃v,(results fn a'.tmps).run P (shut B1.dl w')=.ok v (shut B1.dl w')/\∃v_1 E',Ending.returned v=.returned v_1/\Ci B.bare E' (shut B1.dl w')/\(∀h,h<ls'.length->HOk E' (shut B1.dl w') h (Aq ls' h))/\Rel E' (shut B1.dl w') r v_1)->LeavesInM Fence.wide 0 P fn a'.tmps (λe w'=>∃v E',e=.returned v/\Ci B E' w'/\(∀h,h<ls'.length->HOk E' w' h (Aq ls' h))/\Rel E' w' r v) a'.defers .returning w':=by
   rintro⟨v,q1,v1,E2,q2,q3,q4,q5⟩;rw[hs'.st.defers];exact Gv B1.dl w' m1 m2 ⟨v,q1,v1,E2,q2,q3.unbare,q4,q5⟩
  cases e with
  |normal=>exact done (Uu (B:=B.bare) hc hg m3 hdom hk)
  |ret=>exact done (Uu (B:=B.bare) hc hg m3 hdom hk)
  |exit i=>exact hk.elim
  |goto l=>exact hk.elim
  |panic c=>exact hk.elim
  |outgrown=>exact hk.elim
 ·exact h.elim
theorem Ag6{c rest:Code}{Q:Exit->Act->World->Prop}{a:Act}{w:World}(l:Nat)(hf:findLabel c l=some rest)(R:Nat->Act->World->Prop)
  (first:c.wp P (Exit.jump l (λa w=>∃n,R n a w) Q) a w)
  (pass:∀n a w,R n a w->rest.wp P (Exit.jump l (λa' w'=>∃n',n'<n/\R n' a' w') Q) a w):(Code.scope c).wp P Q a w:=by
 classical
 let μ:Act->World->Nat:=λa w=>if h:∃n,R n a w then Classical.choose (Fw h) else 0
 have hμ:∀a w,(∃n,R n a w)->R (μ a w) a w/\∀m,R m a w->μ a w<=m:=by
  intro a w h;have:μ a w=Classical.choose (Fw h):=by simp only[μ];rw[dif_pos h]
  rw[this];exact Classical.choose_spec (Fw h)
 refine wp_scope_jumps l (λa w=>∃n,R n a w) μ hf first λa w hI=>?_
 obtain⟨h1,h2⟩:=hμ a w hI;refine wp_mono (pass _ a w h1) λe a' w' hq=>?_;cases e with
 |goto l' =>
  obtain⟨rfl,n',hlt,hr⟩:=hq;exact⟨rfl,⟨n',hr⟩,Nat.lt_of_le_of_lt ((hμ a' w' ⟨n',hr⟩).2 n' hr) hlt⟩
 |_=>exact hq
theorem Qj(hd:Qq P)(hc:A1 P cx)(htab:Em P cx.gl cx.tab)(hrg:Ve P cx){f:FuncId}{fn:Func}(hf:P.funcs[f]?=some fn){l:Nat}{pre c rest:Code}(hbody:fn.body=some (.seq pre (.scope c)))(hl:findLabel c l=some rest){as:List SV}{ls:List Hl}{r:SV}{ls':List Hl}
  (h:bodyJ cx fn pre c l rest as ls λr' ls''=>Fin r' r ls'' ls'):Fh P cx.gl f as ls r ls':=by
 intro B E w vals hw0 hI0 hdom hb hg hh hr;obtain⟨keep,J,h1,h2⟩:=h;rw[hc.D]at h1 h2;have hdom':=hdom;rw[<-Ae ls]at hdom';have hcw:(Code.seq pre (.scope c)).wp P (bodyPostM Fence.wide 0 P fn (λe w'=>∃v E',e=.returned v/\Ci B E' w'/\(∀h,h<ls'.length->HOk E' w' h (Aq ls' h))/\Rel E' w' r v)) { tmps:=(⟨vals⟩:Array Value)++Array.replicate (fn.ntmps-(⟨vals⟩:Array Value).size) undef,defers:=[] } w:=?_
 ·exact callsIn_wide.1 (callsIn_of_wp_marks (F:=Fence.wide) (n:=0) hf hbody trivial (wpIn_wide.2 hcw))
 have done:∀ {B1:Bs} {E':Env} {a':Act} {w':World} {σ':Sy},Reb B.bare B1->StY B1 (Ea fn.ntmps as).length E' a' w' σ'->(match Jb cx σ' fn.results.toList with
    |some vs=>Aiw cx (Af ls) vs σ' λr' ls''=>Fin r' r ls'' ls'
    |none=>False)->LeavesInM Fence.wide 0 P fn a'.tmps (λe w'=>∃v E',e=.returned v/\Ci B E' w'/\(∀h,h<ls'.length->HOk E' w' h (Aq ls' h))/\Rel E' w' r v) a'.defers .returning w':=by
  intro B1 E' a' w' σ' hr1 hs' hk;obtain⟨m1,m2,m3⟩:=hs'.shut hr1 rfl;obtain⟨v,q1,v1,E2,q2,q3,q4,q5⟩:=Qa (B:=B.bare) hc hg m3 hdom' hk;rw[hs'.st.defers];exact Gv B1.dl w' m1 m2 ⟨v,q1,v1,E2,q2,q3.unbare,q4,q5⟩
 refine wp_seq (wp_mono (Y4 hd hc htab hrg (B:=B.bare) hg pre _ _ h1 E _ w (Kv (B:=B.bare) rfl hdom hb.bare hh hr)) λe0 a0 w0 hq0=>?_);obtain⟨B0,E0,σ0,hr0,hs0,hk0⟩:=hq0;cases e0 with
 |ret=>exact hk0.elim
 |exit i=>exact hk0.elim
 |goto l=>exact hk0.elim
 |panic c=>exact hk0.elim
 |outgrown=>exact hk0.elim
 |normal =>
 have h1:=hk0;refine Ag6 l hl (λm a w=>∃B1 vs hp E,Reb B.bare B1/\J m vs hp/\StY B1 (Ea fn.ntmps as).length E a w ⟨Oc (Ko keep vs) (Lp (Ea fn.ntmps as)),hp,[]⟩) ?_ ?_
 ·refine wp_mono (Y4 hd hc htab hrg (hr0.gl hg) c _ _ h1 E0 _ w0 hs0) λe a' w' hq=>?_
  obtain⟨B1,E',σ',hr1,hs',hk⟩:=hq;have hr1:=hr0.trans hr1;cases e with
  |normal=>exact done hr1 hs' hk
  |ret=>exact done hr1 hs' hk
  |exit i=>exact hk.elim
  |goto l' =>
   obtain⟨rfl,hb2,m2,hJ2⟩:=hk;exact⟨rfl,m2,_,_,_,_,hr1,hJ2,hs'.head rfl hb2 (hr1.dom hdom')⟩
  |panic c=>exact hk.elim
  |outgrown=>exact hk.elim
 ·rintro m a1 w1 ⟨B1,vs,hp,E1,hr1,hJ,hs1⟩
  refine wp_mono (Y4 hd hc htab hrg (hr1.gl hg) rest _ _ (h2 m vs hp hJ) E1 a1 w1 hs1) λe a' w' hq=>?_;obtain⟨B2,E',σ',hr2,hs',hk⟩:=hq;have hr2:=hr1.trans hr2;cases e with
  |normal=>exact done hr2 hs' hk
  |ret=>exact done hr2 hs' hk
  |exit i=>exact hk.elim
  |goto l' =>
   obtain⟨rfl,hb2,m2,hlt,hJ2⟩:=hk;exact⟨rfl,m2,hlt,_,_,_,_,hr2,hJ2,hs'.head rfl hb2 (hr2.dom hdom')⟩
  |panic c=>exact hk.elim
  |outgrown=>exact hk.elim
end
end Go.Sx
