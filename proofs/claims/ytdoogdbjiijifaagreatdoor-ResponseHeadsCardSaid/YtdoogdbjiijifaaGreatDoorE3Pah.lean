/- Part of the proofs of the statements about responses and messages (layers 9 and 10): a symbolic executor over the code, that it is sound, and contracts of functions; it has no conditions of its own. -/
import Derived.Test.YtdoogdbjiijifaaGreatDoorE3Pag
namespace Go.Sx
open Go
section
variable {P:Program} {cx:Cx} {σ:Sy} {T:List Nat} {o:Oper} {K:Out->Prop}
def Afc(w:World)(src:Value)(m sz:Nat)(news:List Value):Prop :=
 news.length=m * sz/\(∀v∈news,v.oneCell'=true)/\((src=.slice none 0 0/\m=0)\/∃(a:Addr) (c:Nat),src=.slice (some a) m c/\∀(j:Nat) (u:Value),news[j]?=some u->w.cell? (a.add j)=some u)
theorem Nk{t e ty:TypeId}{ti:TI}(hu:P.underlying t=some (.slice e))(he:D8 P e ti){sz:Nat}(hsz:ti.size=sz)(hz0:0<sz){w:World}{v:Value}{n:Nat}{xs:List Value}(hown:w.ownsRow 0 e sz v n xs){src:Value}{m:Nat}{news:List Value}(hs:Afc w src m sz news)
  (h63:n+m<=maxLen) (hb:(n+m) * ti.bytes<=140737488355328):
  ∃v' w',(Builtin.append_ #[t,t] ty #[v,src]).run P w=.ok v' w'/\w'.ownsRow 0 e sz v' (n+m) (xs++news)/\(v'=.slice none 0 0↔v=.slice none 0 0/\m=0)/\
   ((v'.ownBlock=v.ownBlock/\w.grownBy w' v.ownBlock)\/(v'.ownBlock=some w.heap.size/\w.grownBy w' none))/\(∃a c,v'=.slice a (n+m) c)/\(m=0->v'=v):=by
 obtain⟨i,z,hi,hsize,hby,hz,hzs,_⟩:=he.info;obtain⟨hl,h1,hsrc⟩:=hs;have hown0:=hown;have shape:∀(v':Value) (w':World) (xs':List Value),w'.ownsRow 0 e sz v' (n+m) xs'->∃a c,v'=.slice a (n+m) c:=by
  intro v' w' xs' h;rcases h.2 with⟨rfl,e0⟩|⟨g,cap,cur,rfl,_⟩
  ·exact⟨none,0,by rw[e0]⟩
  ·exact⟨_,_,rfl⟩
 rcases hsrc with⟨rfl,rfl⟩|⟨a,c,rfl,hnews⟩
 ·have hn:news=[]:=List.eq_nil_of_length_eq_zero (by simpa using hl)
  subst hn;refine⟨v,w,?_,by simpa using hown,by simp,.inl ⟨rfl,⟨rfl,rfl,rfl,Nat.le_refl _,λ_ _ _=>rfl⟩⟩,shape v w xs (by simpa using hown),λ_=>rfl⟩;rcases hown.2 with⟨rfl,rfl⟩|⟨g,cap,cur,rfl,hbg,hg,hnc,hcm,hcs,htake⟩
  ·simp[Builtin.append_,run_underlying hu,sizeOf,typeInfo,hi,Builtin.lenOf,Builtin.firstCells]
  ·simp[Builtin.append_,run_underlying hu,sizeOf,typeInfo,hi,Builtin.lenOf,Builtin.firstCells,hnc,storeCells]
 ·have hzsz:z.cells.size=sz:=by
   have:=(Ju (I:=λ_ _=>False) (w:=w) hzs).1;have h2:ti.zero.length=sz:=by
    rw[he.zlen,hsz]
   simpa[h2] using this.symm
  obtain⟨v',w',hr,r1,r2,r3⟩:=run_append_own (P:=P) w 0 t ty e i z sz ti.bytes hu hi hz (by rw[hsize,hsz]) hby hzsz hz0 v n xs hown a m c news hl hnews h1 h63 hb (Nat.zero_le _);refine⟨v',w',hr,r1,r3,?_,shape v' w' _ r1,?_⟩
  case refine_2 =>
   rintro rfl;rcases hown.2 with⟨rfl,rfl⟩|⟨g,cap,cur,rfl,hbg,hg,hnc,hcm,hcs,htake⟩
   ·exact r3.2 ⟨rfl,rfl⟩
   ·have hr2:=run_append_room (P:=P) w t ty e i hu hi g n cap cur hg a 0 c news (by rw[hsize,hsz];exact hl) hnews h1 (by omega) (by rw[hl,hsize,hsz,hcs];simp only[Nat.zero_mul,Nat.add_zero];exact Nat.mul_le_mul_right _ hnc)
    rw[hr]at hr2;simp only[Result.ok.injEq]at hr2;rw[hr2.1];rfl
  have hmax:n+m<=9223372036854775807:=by simpa[maxLen] using h63
  rcases hown.2 with⟨rfl,rfl⟩|⟨g,cap,cur,rfl,hbg,hg,hnc,hcm,hcs,htake⟩
  ·by_cases hm:m=0
   ·subst hm
    left
    exact⟨by rw[r3.2 ⟨rfl,rfl⟩],r2⟩
   ·right
    have hr2:=run_append_nil (P:=P) w t ty e i z hu hi hz a m c news (by rw[hsize,hsz];exact hl) hnews (by omega) (by omega) (by rw[hby];simp only[Nat.zero_add]at hb;omega);rw[hr]at hr2;simp only[Result.ok.injEq]at hr2;rw[hr2.1,hr2.2];exact⟨rfl,⟨rfl,rfl,rfl,by simp,λk hk _=>heap_alloc_old w.drew _ hk⟩⟩
  ·by_cases hroom:n+m<=cap
   ·left
    refine⟨?_,r2⟩;have hr2:=run_append_room (P:=P) w t ty e i hu hi g n cap cur hg a m c news (by rw[hsize,hsz];exact hl) hnews h1 hroom (by rw[hl,hsize,hsz,hcs,<-Nat.add_mul];exact Nat.mul_le_mul_right _ hroom);rw[hr]at hr2;simp only[Result.ok.injEq]at hr2;rw[hr2.1];rfl
   ·right
    have holds:∀j u,xs[j]?=some u->w.cell? ((⟨g,0,none⟩:Addr).add j)=some u:=hown0.cells (g:=g) rfl;have hr2:=run_append_grow (P:=P) w t ty e i z hu hi hz ⟨g,0,none⟩ n cap xs (by rw[hsize,hsz];exact hown0.1) holds a m c news (by rw[hsize,hsz];exact hl) hnews (by omega) (by omega) (by rw[hby];exact growslice_fits (by omega) hb);rw[hr]at hr2;simp only[Result.ok.injEq]at hr2;rw[hr2.1,hr2.2];exact⟨rfl,⟨rfl,rfl,rfl,by simp,λk hk _=>heap_alloc_old w.drew _ hk⟩⟩
theorem Ja{E:Env}{w:World}{sz:Nat}{s:SV}{m:ST}{g:Nat->List SV}{v:Value}(h:Mk sz s=some (m,g))(hr:Rel E w s v):
  ∃(k:Nat) (news:List Value),m.den=(k:Int)/\k<=maxLen/\Afc w v k sz news/\(∀i,i<k->(g i).length=sz)/\∀(i j:Nat) (s:SV) (u:Value),i<k->(g i)[j]?=some s->news[i * sz+j]?=some u->RO E.I w s u:=by
 have key:∀(nl:BT),RO E.I w (.sl nl m sz g) v->∃(k:Nat) (news:List Value),m.den=(k:Int)/\k<=maxLen/\Afc w v k sz news/\(∀i,i<k->(g i).length=sz)/\∀(i j:Nat) (s:SV) (u:Value),i<k->(g i)[j]?=some s->news[i * sz+j]?=some u->RO E.I w s u:=by
  intro nl hro;rcases hro.sl_inv with⟨rfl,e0,_⟩|⟨a,k,cap,f,rfl,_,e2,e3,e3',e4,e5,e5',e6,e7⟩
  ·exact⟨0,[],by simpa using e0,Nat.zero_le _,⟨by simp,by simp,.inl ⟨rfl,rfl⟩⟩,by simp,by simp⟩
  ·refine⟨k,(List.range (k * sz)).map λq=>f (q / sz) (q % sz),e2,Nat.le_trans e3 e3',⟨by simp,λu hu=>?_,.inr ⟨a,cap,rfl,λj u hj=>?_⟩⟩,e5,λi j s u hi hs hu=>?_⟩
   ·rw[List.mem_map]at hu
    obtain⟨q,hq,rfl⟩:=hu;have hq:q<k * sz:=by simpa using hq
    have hsz:0<sz:=by rcases Nat.eq_zero_or_pos sz with h|h;subst h;omega;exact h
    exact e5' _ _ ((Nat.div_lt_iff_lt_mul hsz).2 hq) (Nat.mod_lt _ hsz)
   ·rw[List.getElem?_map]at hj
    have hjlt:j<k * sz:=by
     rcases Nat.lt_or_ge j (k * sz) with h|h
     ·exact h
     ·rw[List.getElem?_eq_none (by simpa using h)]at hj;cases hj
    have hsz:0<sz:=by rcases Nat.eq_zero_or_pos sz with h|h;subst h;omega;exact h
    have hd:=(Nat.div_lt_iff_lt_mul hsz).2 hjlt;have:=(e6 (j / sz) (j % sz) hd (Nat.mod_lt _ hsz)).1;rw[Nat.mul_comm,Nat.div_add_mod]at this;simp[hjlt]at hj;subst hj;have hspot:=e4 (by rcases Nat.eq_zero_or_pos k with h|h;subst h;omega;exact h);have:a.add j=⟨a.block,a.off+j,none⟩:=by
     obtain⟨b,o,sp⟩:=a;simp only at hspot;subst hspot;exact add_lit b o j
    rw[this]
    assumption
   ·have hsj:j<sz:=by rw[<-e5 i hi];exact (List.getElem?_eq_some_iff.1 hs).1
    have hlt:i * sz+j<k * sz:=by
     have:(i+1) * sz<=k * sz:=Nat.mul_le_mul_right _ hi;rw[Nat.add_mul]at this;omega
    rw[List.getElem?_map]at hu;simp[hlt]at hu;have h1:(i * sz+j) / sz=i:=by rw[Nat.mul_comm,Nat.mul_add_div (by omega),Nat.div_eq_of_lt hsj];omega
    rw[h1,Nat.mod_eq_of_lt hsj]at hu;subst hu;exact e7 i j s hi hs
 unfold Mk at h
 split at h
 ·rename_i nl m' sz' g'
  split at h
  ·rename_i e
   simp only[Option.some.injEq,Prod.mk.injEq]at h;obtain⟨rfl,rfl⟩:=h;have e:sz'=sz:=by simpa using e
   subst e;exact key nl hr.sl_inv
  ·cases h
 ·rename_i nl m' sz' g' h0
  split at h
  ·rename_i e
   simp only[Option.some.injEq,Prod.mk.injEq]at h;obtain⟨rfl,rfl⟩:=h;have e:sz'=sz:=by simpa using e
   subst e;exact key nl hr.gsl_inv.1
  ·cases h
 ·cases h
theorem N6{B:Bs}{N:Nat}{E:Env}{a:Act}{w:World}{ff:Nat->SG}{hf:Nat->Hl}(st:St B N E a w ff hf){h:Nat}{e:TypeId}{sz:Nat}{v v':Value}{n m:Nat}{xs news:List Value}{w':World}
  (hold:(hf h=.fresh/\v=.slice none 0 0)\/∃nt,hf h=.tail e nt sz/\E.τ h=some v/\(∀b,v.ownBlock=some b->E.O b=some h/\∀o,n * sz<=o->¬E.I b o))
  (h1:∀u∈xs++news,u.oneCell'=true)
  (hown:w.ownsRow 0 e sz v n xs) (hown':w'.ownsRow 0 e sz v' (n+m) (xs++news)) (hblk:(v'.ownBlock=v.ownBlock/\w.grownBy w' v.ownBlock)\/(v'.ownBlock=some w.heap.size/\w.grownBy w' none)) (hshape:∃a c,v'=.slice a (n+m) c) (hkeep:hf h≠.fresh->m=0->v'=v) (nt':ST) (hnt:nt'.den=((n+m:Nat):Int)):
  ∃E',Ext E w E' w'/\Ci B E' w'/\(∀k,HOk E' w' k (upd hf h (.tail e nt' sz) k))/\E'.τ h=some v'/\(∀b o,v'.ownBlock=some b->o<(n+m) * sz->E'.I b o)/\(∀b o,v'.ownBlock=some b->o<(n+m) * sz->w'.cell? ⟨b,o,none⟩=(xs++news)[o]?):=by
 have hb:=st.base;have hbold:∀b,v.ownBlock=some b->E.O b=some h/\(∀o,n * sz<=o->¬E.I b o)/\b<w.heap.size:=by
  intro b hbb;rcases hold with⟨_,rfl⟩|⟨_,_,_,h3⟩
  ·simp[Value.ownBlock]at hbb
  ·exact⟨(h3 b hbb).1,(h3 b hbb).2,A5 hb (h3 b hbb).1⟩
 let E':Env:=⟨E.β,upd E.τ h (some v'),λb=>if v'.ownBlock=some b then some h else E.O b,E.κ,E.ζ,λb o=>E.I b o\/(v'.ownBlock=some b/\o<(n+m) * sz)⟩
 have hcellv:∀b o,v.ownBlock=some b->o<n * sz->w.cell? ⟨b,o,none⟩=xs[o]?:=by
  intro b o hbb ho;rcases hown.2 with⟨rfl,_⟩|⟨g,cap,cur,rfl,_,hgg,hnc,_,hcs,htake⟩
  ·simp[Value.ownBlock]at hbb
  ·simp[Value.ownBlock]at hbb
   subst hbb;rw[cell_of_row w g o cur e (0,0) hgg,<-htake,List.getElem?_take,if_pos ho];simp
 have hcellv':∀b o,v'.ownBlock=some b->o<(n+m) * sz->w'.cell? ⟨b,o,none⟩=(xs++news)[o]?:=by
  intro b o hbb ho;rcases hown'.2 with⟨rfl,_⟩|⟨g,cap,cur,rfl,_,hgg,hnc,_,hcs,htake⟩
  ·simp[Value.ownBlock]at hbb
  ·simp[Value.ownBlock]at hbb
   subst hbb;rw[cell_of_row w' g o cur e (0,0) hgg,<-htake,List.getElem?_take,if_pos ho];simp
 have hgos:w'.os=w.os/\w'.tape=w.tape/\w'.output=w.output/\w.heap.size<=w'.heap.size:=by
  rcases hblk with⟨_,hg⟩|⟨_,hg⟩<;>exact⟨hg.os,hg.tape,hg.output,hg.size⟩
 have hother:∀b,b<w.heap.size->v.ownBlock≠some b->w'.heap[b]?=w.heap[b]?:=by
  intro b hlt hne;rcases hblk with⟨_,hg⟩|⟨_,hg⟩
  ·exact hg.block b hlt (λe=>hne e.symm)
  ·exact hg.block b hlt (by simp)
 have hI:∀b o,E.I b o->w'.cell? ⟨b,o,none⟩=w.cell? ⟨b,o,none⟩:=by
  intro b o hi;have hlt:=hb.Ibd b o hi
  by_cases hbv:v.ownBlock=some b
  ·have ho:o<n * sz:=by
    rcases Nat.lt_or_ge o (n * sz) with h|h
    ·exact h
    ·exact absurd hi ((hbold b hbv).2.1 o h)
   rcases hblk with⟨hs,_⟩|⟨_,hg⟩
   ·rw[hcellv' b o (by rw[hs];exact hbv) (by rw[Nat.add_mul];omega),hcellv b o hbv ho,List.getElem?_append_left (by rw[hown.1];exact ho)]
   ·simp only[World.cell?]
    rw[hg.block b hlt (by simp)]
  ·simp only[World.cell?]
   rw[hother b hlt hbv]
 have hx:Ext E w E' w':=by
  refine⟨λ_ _ h=>h,λk u hk=>?_,λ_ _ h=>h,λ_ _ h=>h,λb o h=>.inl h,hI⟩;show upd E.τ h (some v') k=some u\/∃a m' c a' m'' c',u=.slice a m' c/\upd E.τ h (some v') k=some (.slice a' m'' c')/\m'<m'';unfold upd
  by_cases e:k=h
  ·subst e
   rw[if_pos rfl];rcases hold with⟨hfr,_⟩|⟨nt,hne,h2,_⟩
   ·have:=st.heap k
    rw[hfr]at this;rw[this.2.1]at hk;cases hk
   ·rw[h2]at hk
    cases hk
    by_cases hm:m=0
    ·left;rw[hkeep (by rw[hne];simp) hm]
    ·right
     obtain⟨a',c',rfl⟩:=hshape;have:∃a c,v=.slice a n c:=by
      rcases hown.2 with⟨rfl,e0⟩|⟨g,cap,cur,rfl,_⟩
      ·exact⟨none,0,by rw[e0]⟩
      ·exact⟨_,_,rfl⟩
     obtain⟨a,c,rfl⟩:=this;exact⟨a,n,c,a',n+m,c',rfl,rfl,by omega⟩
  ·rw[if_neg e];exact .inl hk
 have hownlt:∀b,v'.ownBlock=some b->b<w'.heap.size:=λb hbb=>(hown'.lt b hbb).2;have hnew:∀b,v'.ownBlock=some b->B.w0.heap.size<=b\/B.X b:=by
  intro b hbb;rcases hblk with⟨hs,_⟩|⟨hs,_⟩
  ·exact (hb.Obd b h (hbold b (by rw[<-hs];exact hbb)).1).2
  ·rw[hs]at hbb;cases hbb;exact .inl hb.size
 refine⟨E',hx,⟨hgos.1.trans hb.os,hgos.2.1.trans hb.tape,hgos.2.2.1.trans hb.output,Nat.le_trans hb.size hgos.2.2.2,λb hlt hX=>?_,λb o hi=>?_,λb o hi=>?_,λb o hi=>?_,λb k hO=>?_,hb.β0.ext hx⟩,λk=>?_,by simp[E',upd],λb o hbb ho=>.inr ⟨hbb,ho⟩,hcellv'⟩
 ·have hsz:=hb.size
  rw[hother b (by omega) ?_]
  ·exact hb.old b hlt hX
  ·intro hbv
   rcases (hb.Obd b h (hbold b hbv).1).2 with h|h
   ·omega
   ·exact hX h
 ·obtain⟨i1,i2⟩:=hb.I0 b o hi
  exact⟨.inl i1,by rw[hI b o i1];exact i2⟩
 ·rcases hi with hi|⟨hbb,_⟩
  ·exact Nat.lt_of_lt_of_le (hb.Ibd b o hi) hgos.2.2.2
  ·exact hownlt b hbb
 ·rcases hi with hi|⟨hbb,ho⟩
  ·exact hb.Inew b o hi
  ·exact .inr (hnew b hbb)
 ·have hO:(if v'.ownBlock=some b then some h else E.O b)=some k:=hO
  split at hO
  ·rename_i hbb
   exact⟨hownlt b hbb,hnew b hbb⟩
  ·obtain⟨o1,o2⟩:=hb.Obd b k hO
   exact⟨Nat.lt_of_lt_of_le o1 hgos.2.2.2,o2⟩
 ·by_cases e:k=h
  ·subst e
   simp only[upd,if_pos];refine⟨v',n+m,xs++news,by simp[E',upd],hown',hnt,h1,λb hbb=>⟨by show (if v'.ownBlock=some b then some k else E.O b)=some k;rw[if_pos hbb],λo ho hi=>?_⟩⟩;rcases hi with hi|⟨_,ho2⟩
   ·rcases hblk with⟨hs,_⟩|⟨hs,_⟩
    ·exact (hbold b (by rw[<-hs];exact hbb)).2.1 o (by rw[Nat.add_mul]at ho;omega) hi
    ·rw[hs]at hbb;cases hbb
     have:=hb.Ibd _ _ hi;omega
   ·omega
  ·simp only[upd,if_neg e]
   refine HOk.keep hx (st.heap k) rfl (by simp[E',upd,e]) rfl rfl λb hO=>?_;have hlt:=A5 hb hO;have hne:v'.ownBlock≠some b:=by
    intro hbb;rcases hblk with⟨hs,_⟩|⟨hs,_⟩
    ·have:=(hbold b (by rw[<-hs];exact hbb)).1
     rw[hO]at this;exact e (Option.some.inj this)
    ·rw[hs]at hbb;cases hbb;omega
   have hnv:v.ownBlock≠some b:=by
    intro hbb;have:=(hbold b hbb).1;rw[hO]at this;exact e (Option.some.inj this)
   refine⟨by show (if v'.ownBlock=some b then some h else E.O b)=some k;rw[if_neg hne];exact hO,hother b hlt hnv,λo hi=>?_⟩;rcases hi with hi|⟨hbb,_⟩
   ·exact hi
   ·exact absurd hbb hne
end
section
variable {P:Program} {cx:Cx} {σ:Sy} {T:List Nat} {o:Oper} {K:Out->Prop}
theorem Oq{I':Nat->Nat->Prop}{w':World}{e:TypeId}{sz n m:Nat}{v':Value}{xs news:List Value}{f':Nat->List SV}{nl':BT}{nt':ST}(hown':w'.ownsRow 0 e sz v' (n+m) (xs++news))(hxl:xs.length=n * sz)
  (hnl:nl'.den=true↔v'=.slice none 0 0) (hnt:nt'.den=((n+m:Nat):Int)) (h1:∀u∈xs++news,u.oneCell'=true)
  (hI:∀b o,v'.ownBlock=some b->o<(n+m) * sz->I' b o) (hcell:∀b o,v'.ownBlock=some b->o<(n+m) * sz->w'.cell? ⟨b,o,none⟩=(xs++news)[o]?)
  (hl1:∀i,i<n->(f' i).length=sz) (hl2:∀j,j<m->(f' (n+j)).length=sz)
  (hr1:∀(i j:Nat) (s:SV) (u:Value),i<n->(f' i)[j]?=some s->xs[i * sz+j]?=some u->RO I' w' s u) (hr2:∀(i j:Nat) (s:SV) (u:Value),i<m->(f' (n+i))[j]?=some s->news[i * sz+j]?=some u->RO I' w' s u):
  RO I' w' (.sl nl' nt' sz f') v':=by
 have hlen:(xs++news).length=(n+m) * sz:=hown'.1;have hnlen:news.length=m * sz:=by rw[List.length_append,hxl,Nat.add_mul]at hlen;omega
 rcases hown'.2 with⟨rfl,e0⟩|⟨g,cap,cur,rfl,_,hgg,hnc,hcm,hcs,htake⟩
 ·exact .slnil (hnl.2 rfl) (by rw[hnt,e0];rfl)
 ·have hidx:∀i j,i<n+m->j<sz->i * sz+j<(n+m) * sz:=by
   intro i j hi hj;have:(i+1) * sz<=(n+m) * sz:=Nat.mul_le_mul_right _ hi;rw[Nat.add_mul]at this;omega
  have hlf:∀i,i<n+m->(f' i).length=sz:=by
   intro i hi
   by_cases hin:i<n
   ·exact hl1 i hin
   ·have:=hl2 (i-n) (by omega)
    rwa [show n+(i-n)=i by omega]at this
  refine .sl (λi j=>(xs++news).getD (i * sz+j) undef) ?_ hnt hnc hcm (λ_=>rfl) hlf (λi j hi hj=>?_) (λi j hi hj=>⟨?_,?_⟩) (λi j s hi hs=>?_)
  ·cases hb:nl'.den with
   |false=>rfl
   |true=>exact absurd (hnl.1 hb) (by simp)
  ·refine h1 _ ?_
   have:=hidx i j hi hj;rw[List.getD_eq_getElem?_getD,List.getElem?_eq_getElem (by rw[hlen];exact this)];exact List.getElem_mem _
  ·have hlt:=hidx i j hi hj
   simp only[Nat.zero_add];rw[hcell g _ rfl hlt,List.getD_eq_getElem?_getD,List.getElem?_eq_getElem (by rw[hlen];exact hlt)];rfl
  ·simp only[Nat.zero_add]
   exact hI g _ rfl (hidx i j hi hj)
  ·have hj:j<sz:=by rw[<-hlf i hi];exact (List.getElem?_eq_some_iff.1 hs).1
   have hlt:=hidx i j hi hj
   by_cases hin:i<n
   ·have hxi:i * sz+j<xs.length:=by
     rw[hxl];have:(i+1) * sz<=n * sz:=Nat.mul_le_mul_right _ hin;rw[Nat.add_mul]at this;omega
    refine hr1 i j s _ hin hs ?_;rw[List.getD_eq_getElem?_getD,List.getElem?_append_left hxi,List.getElem?_eq_getElem hxi];rfl
   ·have e1:i * sz+j=n * sz+((i-n) * sz+j):=by
     have:i * sz=n * sz+(i-n) * sz:=by rw[<-Nat.add_mul];congr 1;omega
     omega
    have hni:(i-n) * sz+j<news.length:=by
     rw[hnlen];have:(i-n+1) * sz<=m * sz:=Nat.mul_le_mul_right _ (by omega);rw[Nat.add_mul]at this;omega
    refine hr2 (i-n) j s _ (by omega) (by rw[show n+(i-n)=i by omega];exact hs) ?_;rw[List.getD_eq_getElem?_getD,e1,List.getElem?_append_right (by omega),hxl,Nat.add_sub_cancel_left,List.getElem?_eq_getElem hni];rfl
theorem Dr{c:Call}(ho:o.op=.call c)(hcal:c.callee=.builtin .append){x y:Operand}{t:TypeId}(hx:c.args.toList=[x,y])(ht:c.argTypes.toList=[t,t]){a:Act}{w w':World}{v':Value}(hr:(Builtin.append_ #[t,t] o.type #[a.eval x,a.eval y]).run P w=.ok v' w'):
  (execOp a.eval o).run P w=.ok (.value v') w':=by
 have e1:c.args=#[x,y]:=Array.ext' (by simpa using hx);have e2:c.argTypes=#[t,t]:=Array.ext' (by simpa using ht);simp[execOp,ho,resolve,hcal,e1,e2,invoke,builtin,hr]
theorem P2(hc:A1 P cx){c:Call}(ho:o.op=.call c)(hcal:c.callee=.builtin .append){x y:Operand}{t e sz:Nat}{te ti:TI}(hx:c.args.toList=[x,y])(ht:c.argTypes.toList=[t,t])(hlt:look t cx.tt=some ti)(hk:ti.k=.slice e)(hle:look e cx.tt=some te)(hsz:te.size=sz)(hz:0<sz)
  {sz0:Nat} {f0:Nat->List SV} (hvx:rd cx σ T x=some (.sl (.l true) (.l 0) sz0 f0)) {s:SV} (hvy:rd cx σ T y=some s) {m:ST} {g:Nat->List SV} (hrow:Mk sz s=some (m,g)) (hb:m.den * te.bytes<=140737488355328/\m.den<=9223372036854775807)
  {f':Nat->List SV} {n':Int} (hn':n'=m.den) (hf':∀j:Nat,(j:Int)<m.den->f' j=g j):Ap P cx.gl σ T o ⟨.gsl (O7 .eql m (.l 0)) (.a n') sz f' (Af σ.hp),[.put (Af σ.hp) (.tail e (.a n') sz)],[],[]⟩:=by
 intro B N E a w ff hf hg st ag agh hT K' Q hK;have mx:x∈o.op.operands.toList:=by simp[ho,Op.operands,Call.operands,hcal,hx]
 have my:y∈o.op.operands.toList:=by simp[ho,Op.operands,Call.operands,hcal,hx]
 have hrx:=(Aa hvx hg st (Ah ag mx) hT).sl_inv;have hry:=Aa hvy hg st (Ah ag my) hT;have hvx':a.eval x=.slice none 0 0:=by
  rcases hrx.sl_inv with⟨h,_⟩|⟨_,_,_,_,_,h,_⟩
  ·exact h
  ·simp[BT.den]at h
 obtain⟨k,news,r1,r2,r3,r4,r5⟩:=Ja hrow hry;have hfresh:hf (Af σ.hp)=.fresh:=by
  have:=agh.efs _ (List.mem_singleton.2 rfl);simp only[AgE,Aq,Ag,Ae]at this;rw[Ae,this];simp
 have hbk:k * te.bytes<=140737488355328:=by
  have:=hb.1;rw[r1]at this;have h:((k * te.bytes:Nat):Int)<=140737488355328:=by rw[Int.natCast_mul];exact this
  omega
 have hown:=World.ownsRow_nil w 0 e sz;obtain⟨v',w',l1,l2,l3,l4,l5,l6⟩:=Nk (P:=P) (ty:=o.type) ((hc.ti hlt).slice hk) (hc.ti hle) hsz hz hown r3 (by simpa using r2) (by simpa using hbk);obtain⟨E',x1,x2,x3,x4,x5,x6⟩:=N6 (h:=Af σ.hp) (e:=e) (sz:=sz) st (.inl ⟨hfresh,rfl⟩) (by simpa using r3.2.1) hown l2 l4 l5 (λ_=>l6) (.a n') (by rw[hn',r1];simp[ST.den]);unfold Oper.wp;rw[Dr ho hcal hx ht (a:=a) (w:=w) (w':=w') (v':=v') (by rw[hvx'];exact l1)];refine hK v' w' E' x1 x2 x3 (.gsl ?_ ?_)
 ·refine Oq l2 hown.1 ?_ (by rw[hn',r1];simp[ST.den]) (by simpa using r3.2.1) x5 x6 (by intro i hi;omega) (λj hj=>?_) (by intro i j s u hi;omega) (λi j s u hi hs hu=>?_)
  ·rw[Hx,l3]
   simp only[B9,ST.den,r1,beq_iff_eq,true_and];omega
  ·rw[Nat.zero_add,hf' j (by rw[r1];omega)];exact r4 j hj
  ·rw[Nat.zero_add,hf' i (by rw[r1];omega)]at hs
   exact (r5 i j s u hi hs hu).mono x1.I x1.cell
 ·obtain⟨a0,c0,rfl⟩:=l5
  refine⟨a0,0+k,c0,x4,?_,λ_=>rfl⟩;simp only[ST.den,hn',r1];omega
theorem Oh(hc:A1 P cx){c:Call}(ho:o.op=.call c)(hcal:c.callee=.builtin .append){x y:Operand}{t e sz:Nat}{te ti:TI}(hx:c.args.toList=[x,y])(ht:c.argTypes.toList=[t,t])(hlt:look t cx.tt=some ti)(hk:ti.k=.slice e)(hle:look e cx.tt=some te)(hsz:te.size=sz)(hz:0<sz)
  {nl:BT} {n n0:ST} {f:Nat->List SV} {h:Nat} (hvx:rd cx σ T x=some (.gsl nl n sz f h)) (hh:nth σ.hp h=some (.tail e n0 sz)) {s:SV} (hvy:rd cx σ T y=some s) {m:ST} {g:Nat->List SV} (hrow:Mk sz s=some (m,g))
  (hb:n.den=n0.den/\(n.den+m.den) * te.bytes<=140737488355328/\n.den+m.den<=9223372036854775807)
  {f':Nat->List SV} {n':Int} (hn':n'=n.den+m.den) (hf1:∀i:Nat,(i:Int)<n.den->f' i=f i) (hf':∀i j:Nat,(i:Int)=n.den+j->(j:Int)<m.den->f' i=g j):
  Ap P cx.gl σ T o ⟨.gsl (U9 nl (O7 .eql m (.l 0))) (.a n') sz f' h,[.put h (.tail e (.a n') sz)],[h],[]⟩:=by
 intro B N E a w ff hf hg st ag agh hT K' Q hK;have mx:x∈o.op.operands.toList:=by simp[ho,Op.operands,Call.operands,hcal,hx]
 have my:y∈o.op.operands.toList:=by simp[ho,Op.operands,Call.operands,hcal,hx]
 obtain⟨hrx,htok⟩:=(Aa hvx hg st (Ah ag mx) hT).gsl_inv;have hry:=Aa hvy hg st (Ah ag my) hT;obtain⟨k,news,r1,r2,r3,r4,r5⟩:=Ja hrow hry;have hkk:=st.heap h;rw[agh.rds h (List.mem_singleton.2 rfl),Bv hh]at hkk;obtain⟨v,nn,xs,k1,k2,k3,k4,k5⟩:=hkk;have hv:a.eval x=v:=by
  obtain⟨a0,m0,c0,q1,_,q3⟩:=htok;rw[k1]at q1;cases q1;have:m0=nn:=by
   rcases k2.2 with⟨e1,e2⟩|⟨g0,cap,cur,e1,_⟩
   ·cases e1;exact e2.symm
   ·cases e1;rfl
  subst this;exact q3 (by rw[hb.1,k3])
 rw[hv]at hrx;have hnn:n.den=(nn:Int):=by rw[hb.1,k3]
 have hbk:(nn+k) * te.bytes<=140737488355328:=by
  have:=hb.2.1;rw[hnn,r1]at this;have h:(((nn+k) * te.bytes:Nat):Int)<=140737488355328:=by rw[Int.natCast_mul,Int.natCast_add];exact this
  omega
 obtain⟨v',w',l1,l2,l3,l4,l5,l6⟩:=Nk (P:=P) (ty:=o.type) ((hc.ti hlt).slice hk) (hc.ti hle) hsz hz k2 r3 (by have:=hb.2.2;rw[hnn,r1]at this;simp only[maxLen];omega) hbk;have h1all:∀u∈xs++news,u.oneCell'=true:=λu hu=>by
  rcases List.mem_append.1 hu with hu|hu
  ·exact k4 u hu
  ·exact r3.2.1 u hu
 have hnt:(ST.a n').den=((nn+k:Nat):Int):=by simp only[ST.den,hn',hnn,r1];omega
 obtain⟨E',x1,x2,x3,x4,x5,x6⟩:=N6 (h:=h) (e:=e) (sz:=sz) st (.inr ⟨n0,by rw[agh.rds h (List.mem_singleton.2 rfl),Bv hh],k1,k5⟩) h1all k2 l2 l4 l5 (λ_=>l6) (.a n') hnt;unfold Oper.wp;rw[Dr ho hcal hx ht (a:=a) (w:=w) (w':=w') (v':=v') (by rw[hv];exact l1)];refine hK v' w' E' x1 x2 x3 (.gsl ?_ ?_)
 ·have hold:(v=.slice none 0 0↔nl.den=true)/\(∀i,i<nn->(f i).length=sz)/\∀(i j:Nat) (s:SV) (u:Value),i<nn->(f i)[j]?=some s->xs[i * sz+j]?=some u->RO E.I w s u:=by
   rcases hrx.sl_inv with⟨e1,e2,e3⟩|⟨ad,m0,cap0,g0,e1,e2,e3,_,_,q4,q5,_,q6,q7⟩
   ·have:nn=0:=by omega
    subst this;exact⟨⟨λ_=>e3,λ_=>e1⟩,by intro i hi;omega,by intro i j s u hi;omega⟩
   ·have hm:m0=nn:=by omega
    subst hm;refine⟨⟨λe=>by rw[e1]at e;simp at e,λe=>by rw[e2]at e;cases e⟩,q5,λi j s u hi hs hu=>?_⟩;rcases k2.2 with⟨e4,_⟩|⟨g1,cap,cur,e4,_,hgg,hnc,_,hcs,htake⟩
    ·rw[e1]at e4;simp at e4
    ·rw[e1]at e4
     simp only[Value.slice.injEq,Option.some.injEq]at e4;obtain⟨rfl,_,rfl⟩:=e4;have hj:j<sz:=by rw[<-q5 i hi];exact (List.getElem?_eq_some_iff.1 hs).1
     have hc:=(q6 i j hi hj).1;simp only[Nat.zero_add]at hc;have hlt:i * sz+j<m0 * sz:=by
      have:(i+1) * sz<=m0 * sz:=Nat.mul_le_mul_right _ hi;rw[Nat.add_mul]at this;omega
     rw[cell_of_row w g1 (i * sz+j) cur e (0,0) hgg]at hc;rw[<-htake,List.getElem?_take,if_pos hlt]at hu;simp only[Array.getElem?_toList]at hu;rw[hu]at hc;rw[Option.some.inj hc];exact q7 i j s hi hs
  obtain⟨o1,o2,o3⟩:=hold;refine Oq l2 k2.1 ?_ hnt h1all x5 x6 (λi hi=>by rw[hf1 i (by omega)];exact o2 i hi) (λj hj=>?_) (λi j s u hi hs hu=>?_) (λi j s u hi hs hu=>?_)
  ·rw[Lr,Hx,l3]
   simp only[B9,ST.den,r1,Bool.and_eq_true,beq_iff_eq];rw[o1];constructor
   ·rintro⟨h1,h2⟩;exact⟨h1,by omega⟩
   ·rintro⟨h1,h2⟩;exact⟨h1,by omega⟩
  ·rw[hf' (nn+j) j (by omega) (by omega)];exact r4 j hj
  ·rw[hf1 i (by omega)]at hs
   exact (o3 i j s u hi hs hu).mono x1.I x1.cell
  ·rw[hf' (nn+i) i (by omega) (by omega)]at hs
   exact (r5 i j s u hi hs hu).mono x1.I x1.cell
 ·obtain⟨a0,c0,rfl⟩:=l5
  exact⟨a0,nn+k,c0,x4,by rw[hnt];exact Int.le_refl _,λ_=>rfl⟩
end
theorem Rel.plainOne{E:Env}{w:World}{s:SV}{v:Value}(h:Rel E w s v)(hp:Al s=true)(h1:v.oneCell'=true):RO E.I w s v:=by
 cases h with
 |ro h=>exact h
 |ptr hb hv=>simp[Al]at hp
 |gsl hr ht=>simp[Al]at hp
 |mrow hb hm hv=>simp[Al]at hp
 |mptr hb hz hv=>simp[Al]at hp
 |osl ht hk=>simp[Al]at hp
 |optr hv ho=>simp[Al]at hp
 |mapv hb hv=>simp[Al]at hp
 |bsl hb hn hv=>simp[Al]at hp
 |yv hb hv=>simp[Al]at hp
 |vsl ht hk=>simp[Al]at hp
 |tsl ht hk=>simp[Al]at hp
 |agg hl _=>simp[Value.oneCell']at h1
 |tup hl _=>simp[Value.oneCell']at h1
 |clo hl _=>simp[Al]at hp
 |bnd hl _=>simp[Al]at hp
section
variable {P:Program} {cx:Cx} {σ:Sy} {T:List Nat} {o:Oper} {K:Out->Prop}
theorem Qg{sz:Nat}:∀(n i:Nat) (cs:List SV),i<n->(chunks sz n cs)[i]?=some (Bf sz (C3 (i * sz) cs))
 |n+1,0,cs,_=>by simp[chunks,Bo]
 |n+1,i+1,cs,h=>by
  simp only[chunks,List.getElem?_cons_succ];rw[Qg n i _ (by omega)];simp only[Bo,List.drop_drop];congr 3;rw[Nat.add_mul,Nat.one_mul,Nat.add_comm]
theorem U1{sz:Nat}:∀(n i:Nat) (cs r:List SV),(chunks sz n cs)[i]?=some r->r=Bf sz (C3 (i * sz) cs)
 |0,i,cs,r,h=>by simp[chunks]at h
 |n+1,0,cs,r,h=>by simp[chunks]at h;rw[<-h];simp[Bo]
 |n+1,i+1,cs,r,h=>by
  simp only[chunks,List.getElem?_cons_succ]at h;rw[U1 n i _ r h];simp only[Bo,List.drop_drop,Nat.add_mul,Nat.one_mul];congr 2;omega
theorem Ny{z:List SV}:∀(n q:Nat),q<n * z.length->(Aj.repN n z)[q]?=z[q % z.length]?
 |0,q,h=>by omega
 |n+1,q,h=>by
  simp only[Aj.repN]
  by_cases hq:q<z.length
  ·rw[List.getElem?_append_left hq,Nat.mod_eq_of_lt hq]
  ·have h':q<n * z.length+z.length:=by rw[<-Nat.succ_mul];exact h
   rw[List.getElem?_append_right (by omega),Ny n (q-z.length) (by omega),(Nat.mod_eq_sub_mod (show q>=z.length by omega))]
theorem Ee{z:List SV}:∀(n:Nat),(Aj.repN n z).length=n * z.length
 |0=>by simp[Aj.repN]
 |n+1=>by simp[Aj.repN,Ee n,Nat.add_mul];omega
theorem Ic{E:Env}{w:World}{sz:Nat}:∀(vs:List (Nat×SV)) (us:List (Nat×Value)) (cs cs':List SV) (C:List Value),vs.length=us.length->(∀(i:Nat) (p:Nat×SV) (q:Nat×Value),vs[i]?=some p->us[i]?=some q->p.1=q.1/\Rel E w p.2 q.2)->(∀p∈vs,Ed p.2.cells=true)->A2 E w cs C->(∀u∈C,u.oneCell'=true)->
   Aj.fillS sz cs vs=some cs'->∃C',Instr.fill (λi=>some (i * sz,sz)) ⟨C⟩ us=some ⟨C'⟩/\A2 E w cs' C'/\∀u∈C',u.oneCell'=true
 | [],us,cs,cs',C,hlen,_,_,hr,h1,h=>by
  have:us=[]:=List.eq_nil_of_length_eq_zero (by simpa using hlen.symm);subst this;simp[Aj.fillS]at h;subst h;exact⟨C,rfl,hr,h1⟩
 |(i,v) :: vs,us,cs,cs',C,hlen,hrel,h1,hr,hone,h=>by
  match us,hlen,hrel with
  |(i',u) :: us,hlen,hrel =>
   obtain⟨e0,hvu⟩:=hrel 0 (i,v) (i',u) rfl rfl;simp only at e0;subst e0;have hcells:=Hz (h1 _ (List.mem_cons_self ..)) hvu;simp only[Aj.fillS]at h
   split at h
   ·rename_i hb
    simp only[Bool.and_eq_true,beq_iff_eq,Ae]at hb;obtain⟨b1,b2⟩:=hb;have b2:=Nat.le_of_ble_eq_true b2;have hsz:u.cells.size=sz:=by rw[<-b1,hcells.1];simp
    rw[Xn rfl hsz (by rw[<-hr.1];exact b2)];refine Ic vs us _ cs' _ (by simpa using hlen) (λj p q a b=>hrel (j+1) p q (by simpa using a) (by simpa using b)) (λp hp=>h1 p (List.mem_cons_of_mem _ hp)) (Ako hr hcells _ (by show i * sz+v.cells.length<=cs.length;omega)) ?_ h;intro x hx;obtain⟨q,hq⟩:=List.mem_iff_getElem?.1 hx;rw[Hs _ _ _ _ (by rw[<-hcells.1,<-hr.1];show i * sz+v.cells.length<=cs.length;omega)]at hq
    split at hq
    ·exact L2 (h1 _ (List.mem_cons_self ..)) hcells x (List.mem_of_getElem? hq)
    ·exact hone x (List.mem_of_getElem? hq)
   ·cases h
theorem Pz(hc:A1 P cx){t len e:Nat}{ps:Array (Nat×Operand)}(ho:o.op=.buildSlice t len ps){ti te:TI}(hlt:look t cx.tt=some ti)(hk:ti.k=.slice e)(hle:look e cx.tt=some te){vs:List (Nat×SV)}(hv:F1 cx σ T ps.toList=some vs)(h1:N8 vs=true)
  {cs:List SV} (hf:Aj.fillS te.size (Aj.repN len te.zero) vs=some cs) (hpl:Al (.agg (loose.looseL (norm.normL dn cs)))=true) (hz:0<te.size) (hbig:len * te.size<=16777216):
  Ap P cx.gl σ T o ⟨.gsl (.l false) (.l len) te.size (λk=>Bf te.size (C3 (k * te.size) (loose.looseL (norm.normL dn cs)))) (Af σ.hp),[.put (Af σ.hp) (.tail e (.l len) te.size)],[],[]⟩:=by
 intro B N E a w ff hf' hg st ag agh hT K' Q hK;have hag:∀p∈ps.toList,∀s∈Cu p.2,ff s=Ba σ s:=λp hp=>Ah ag (by simp only[ho,Op.operands];simp;exact⟨p.1,by simpa using hp⟩);obtain⟨h2,h3⟩:=Eh hg st hT ps.toList vs hag hv;obtain⟨z,hzr,hzrel,hz1⟩:=(hc.ti hle).zero E w;have hzl:=(hc.ti hle).zlen;have hzsz:z.cells.size=te.size:=by have:=hzrel.1;rw[hzl]at this;simpa using this.symm
 have hus:∀(j:Nat) (p:Nat×SV) (q:Nat×Value),vs[j]?=some p->((ps.map λ(x:Nat×Operand)=>(x.1,a.eval x.2)).toList)[j]?=some q->p.1=q.1/\Rel E w p.2 q.2:=by
  intro j p q hp hq;rw[Array.toList_map,List.getElem?_map]at hq;cases hpj:ps.toList[j]? with
  |none=>rw[hpj]at hq;cases hq
  |some x =>
   rw[hpj]at hq;simp only[Option.map_some,Option.some.injEq]at hq;subst hq;exact h3 j p x hp hpj
 -- the zero cells
 let C0:List Value:=(List.range (len * te.size)).map λq=>z.cells.toList.getD (q % te.size) undef
 have hC0:A2 E w (Aj.repN len te.zero) C0:=by
  refine⟨by rw[Ee,hzl];simp[C0],λi s v hs hv=>?_⟩;have hlt:i<len * te.size:=by
   have:=(List.getElem?_eq_some_iff.1 hs).1
   rwa [Ee,hzl]at this
  rw[Ny _ _ (by rw[hzl];exact hlt),hzl]at hs;simp[C0,hlt]at hv;have hm:i % te.size<z.cells.size:=by rw[hzsz];exact Nat.mod_lt _ hz
  refine hzrel.2 (i % te.size) s v hs ?_;rw[<-hv];simp[hm]
 have hC01:∀u∈C0,u.oneCell'=true:=by
  intro u hu;simp only[C0,List.mem_map,List.mem_range]at hu;obtain⟨q,_,rfl⟩:=hu;have hm:q % te.size<z.cells.toList.length:=by simp[hzsz];exact Nat.mod_lt _ hz
  rw[List.getD_eq_getElem?_getD,List.getElem?_eq_getElem hm];exact hz1 _ (List.getElem_mem hm)
 obtain⟨C',c1,c2,c3⟩:=Ic vs (ps.map λ(x:Nat×Operand)=>(x.1,a.eval x.2)).toList _ cs C0 (by simp[h2]) hus (Je h1) hC0 hC01 hf;have hlen':C'.length=len * te.size:=by
  rw[<-c2.1];have:∀(vs:List (Nat×SV)) (cs cs':List SV),Aj.fillS te.size cs vs=some cs'->cs'.length=cs.length:=by
   intro vs
   induction vs with
   |nil=>intro cs cs' h;simp[Aj.fillS]at h;rw[h]
   |cons p vs ih =>
    intro cs cs' h;obtain⟨i,v⟩:=p;simp only[Aj.fillS]at h
    split at h
    ·rw[ih _ _ h,Db]
    ·cases h
  rw[this vs _ cs hf,Ee,hzl]
 have hrun:(Instr.buildSlice t len (ps.map λ(x:Nat×Operand)=>(x.1,a.eval x.2))).run P w=.ok (.slice (some ⟨w.heap.size,0,none⟩) len len) (w.alloc (.cells ⟨C'⟩ e)):=by
  have hu:=(hc.ti hlt).slice hk;have hS:=(hc.ti hle).sizeOf w;have harr:((Array.range (len * te.size)).map (λq=>z.cells[q % z.cells.size]!))=(⟨C0⟩:Array Value):=by
   apply Array.ext';simp only[Array.toList_map,Array.toList_range,C0];refine List.map_congr_left λq _=>?_;rw[hzsz,List.getD_eq_getElem?_getD,Array.getElem!_eq_getD,Array.getD_eq_getD_getElem?,Array.getElem?_toList];have hm:q % te.size<z.cells.size:=by rw[hzsz];exact Nat.mod_lt _ hz
   simp[hm]
  have hbig':¬(16777216<len * te.size):=by omega
  simp only[Instr.buildSlice,Sem.run_bind,run_underlying hu,Result.andThen_ok,hS,gt_iff_lt]
  by_cases h0:len * te.size=0
  ·have hC0n:C0=[]:=by simp[C0,h0]
   rw[hC0n]at c1;rw[Array.toList_map]at c1;have hemp:Array.map (λ_=>(default:Value)) (Array.range 0)=⟨[]⟩:=by simp
   simp[h0,newRow,newObj]
   first|rw[hemp,c1]|(simp at c1 ⊢;rw[c1])
   simp[Sem.run]
  ·rw[Array.toList_map]at c1
   simp[h0,hbig',hzr,harr,newRow,newObj];rw[c1];simp[Sem.run]
 have hfresh:hf' (Af σ.hp)=.fresh:=by
  have:=agh.efs _ (List.mem_singleton.2 rfl);simp only[AgE,Aq,Ag,Ae]at this;rw[Ae,this];simp
 have hmax:len<=maxLen:=by
  simp only[maxLen];have:len<=len * te.size:=Nat.le_mul_of_pos_right _ hz;omega
 have hown':=World.ownsRow_lit w (base:=0) (e:=e) (size:=te.size) ⟨C'⟩ len (Nat.zero_le _) hmax (by simpa using hlen');obtain⟨E',x1,x2,x3,x4,x5,x6⟩:=N6 (h:=Af σ.hp) (e:=e) (sz:=te.size) (n:=0) (m:=len) (xs:=[]) (news:=C') st (.inl ⟨hfresh,rfl⟩) (by simpa using c3) (World.ownsRow_nil w 0 e te.size) (by simpa using hown') (.inr ⟨rfl,World.grownBy_alloc w _ none⟩) ⟨_,_,by simp;exact⟨rfl,rfl⟩⟩ (λh=>absurd hfresh h) (.l len) (by simp[ST.den]);unfold Oper.wp;have:(execOp a.eval o).run P w=.ok (.value (.slice (some ⟨w.heap.size,0,none⟩) len len)) (w.alloc (.cells ⟨C'⟩ e)):=by
  simp only[execOp,ho,Sem.run_bind];rw[hrun];rfl
 rw[this]
 -- what it reads as
 have hpc:∀c∈loose.looseL (norm.normL dn cs),Al c=true:=by
  simp only[Al]at hpl;exact (Cw _).1 hpl
 have hcells:A2 E w (loose.looseL (norm.normL dn cs)) C':=by
  rw[Cd,Cl];exact (c2.map _ λs v _ h=>h.norm).map _ λs v _ h=>h.loose
 have hget:∀(i j:Nat) (s:SV),(Bf te.size (C3 (i * te.size) (loose.looseL (norm.normL dn cs))))[j]?=some s->(loose.looseL (norm.normL dn cs))[i * te.size+j]?=some s:=by
  intro i j s hs;rw[A9,Bo,List.getElem?_take]at hs
  split at hs
  ·rwa [List.getElem?_drop]at hs
  ·cases hs
 refine hK _ _ E' x1 x2 x3 (.gsl ?_ ⟨_,len,_,x4,by simp[ST.den],λ_=>rfl⟩);refine Oq (n:=0) (m:=len) (xs:=[]) (news:=C') (by simpa using hown') (by simp) (by simp[BT.den]) (by simp[ST.den]) (by simpa using c3) x5 x6 (by intro i hi;omega) (λj hj=>?_) (by intro i j s u hi;omega) (λi j s u hi hs hu=>?_)
 ·rw[A9,Bo,List.length_take,List.length_drop,hcells.1,hlen',Nat.zero_add]
  have:(j+1) * te.size<=len * te.size:=Nat.mul_le_mul_right _ hj;rw[Nat.add_mul]at this;omega
 ·rw[Nat.zero_add]at hs
  have hs':=hget i j s hs;exact (((hcells.2 _ s u hs' hu).plainOne (hpc s (List.mem_of_getElem? hs')) (c3 u (List.mem_of_getElem? hu)))).mono x1.I x1.cell
end
end Go.Sx
