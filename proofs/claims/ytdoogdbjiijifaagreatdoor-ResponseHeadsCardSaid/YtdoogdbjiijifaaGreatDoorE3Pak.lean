/- Part of the proofs of the statements about responses and messages (layers 9 and 10): a symbolic executor over the code, that it is sound, and contracts of functions; it has no conditions of its own. -/
import Derived.Test.YtdoogdbjiijifaaGreatDoorE3Paj
namespace Go.Sx
open Go
section
variable {P:Program} {cx:Cx} {σ:Sy} {T:List Nat} {o:Oper} {K:Out->Prop}
theorem Rh{t e ty:TypeId}{ti:TI}(hu:P.underlying t=some (.slice e))(he:D8 P e ti){sz:Nat}(hsz:ti.size=sz)(hz0:0<sz){w:World}{gr:Bool}{v:Value}{n:Nat}{xs:List Value}(hown:Ck w gr e sz v n xs){src:Value}{m:Nat}{news:List Value}(hs:Afc w src m sz news)
  (h63:n+m<=maxLen) (hb:(n+m) * ti.bytes<=140737488355328):
  ∃v' w',(Builtin.append_ #[t,t] ty #[v,src]).run P w=.ok v' w'/\Ck w' gr e sz v' (n+m) (xs++news)/\(v'=.slice none 0 0↔v=.slice none 0 0/\m=0)/\
   ((v'.ownBlock=v.ownBlock/\w.grownBy w' v.ownBlock)\/(v'.ownBlock=some w.heap.size/\w.grownBy w' none))/\(∃a c,v'=.slice a (n+m) c)/\(m=0->v'=v):=by
 by_cases hrow:w.ownsRow 0 e sz v n xs
 ·obtain⟨v',w',r1,r2,r3⟩:=Nk (P:=P) (ty:=ty) hu he hsz hz0 hrow hs h63 hb
  exact⟨v',w',r1,Ww gr r2,r3⟩
 have hown0:=hown;obtain⟨hxl,hh⟩:=hown;rcases hh with hh|⟨g,cap,cur,fr,rfl,hg,hfr,hnc,hcm,hcs,htake⟩
 ·exact absurd ⟨hxl,.inl hh⟩ hrow
 rcases hfr with rfl|⟨hgr,hfr⟩
 ·exact absurd ⟨hxl,.inr ⟨g,cap,cur,rfl,Nat.zero_le _,hg,hnc,hcm,hcs,htake⟩⟩ hrow
 obtain⟨i,z,hi,hsize,hby,hz,hzs,_⟩:=he.info;obtain⟨hl,h1,hsrc⟩:=hs;have hlen:(xs++news).length=(n+m) * sz:=by rw[List.length_append,hxl,hl,Nat.add_mul]
 rcases hsrc with⟨rfl,rfl⟩|⟨a,c,rfl,hnews⟩
 ·have hn:news=[]:=List.eq_nil_of_length_eq_zero (by simpa using hl)
  subst hn;refine⟨_,w,?_,by simpa using hown0,by simp,.inl ⟨rfl,⟨rfl,rfl,rfl,Nat.le_refl _,λ_ _ _=>rfl⟩⟩,⟨_,_,rfl⟩,λ_=>rfl⟩;simp[Builtin.append_,run_underlying hu,sizeOf,typeInfo,hi,Builtin.lenOf,Builtin.firstCells,hnc,storeCells]
 ·have hzsz:z.cells.size=sz:=by
   have:=(Ju (I:=λ_ _=>False) (w:=w) hzs).1;have h2:ti.zero.length=sz:=by
    rw[he.zlen,hsz]
   simpa[h2] using this.symm
  have hisz:i.size=sz:=by rw[hsize,hsz]
  by_cases hroom:n+m<=cap
  ·have hfit:n * i.size+news.length<=cur.size:=by rw[hl,hcs,hisz,<-Nat.add_mul];exact Nat.mul_le_mul_right _ hroom
   have hf:=run_firstCells_some (P:=P) w i.size m a m c news (by rw[hisz];exact hl) hnews;have hst:=C9 (P:=P) g (n * i.size) e fr news 0 cur w hg (.inr (by rw[hfr];exact Nat.le_refl _)) (by simpa using hfit) h1;simp only[Nat.add_zero]at hst;have hr:(Builtin.append_ #[t,t] ty #[.slice (some ⟨g,0,none⟩) n cap,.slice (some a) m c]).run P w =
     .ok (.slice (some ⟨g,0,none⟩) (n+m) cap) (w.setRow g (cur.toList.take (n * i.size)++news++cur.toList.drop (n * i.size+news.length)).toArray):=by
    simp[Builtin.append_,run_underlying hu,sizeOf,typeInfo,hi,Builtin.lenOf,hroom,hf,Addr.add_lit,hst]
   have hC:(cur.toList.take (n * i.size)++news++cur.toList.drop (n * i.size+news.length)).toArray.size=cur.size:=by
    simp only[List.size_toArray,List.length_append,List.length_take,List.length_drop,Array.length_toList];omega
   refine⟨_,_,hr,⟨hlen,.inr ⟨g,cap,_,fr,rfl,setRow_heap w g cur _ e fr hg,.inr ⟨hgr,by rw[hC];exact hfr⟩,hroom,hcm,by rw[hC];exact hcs,?_⟩⟩,by simp,.inl ⟨rfl,⟨rfl,rfl,rfl,by simp,λk _ hk=>setRow_other w g k _ (λe=>hk (by simp[Value.ownBlock,e]))⟩⟩,⟨_,_,rfl⟩,λe=>by rw[e];rfl⟩;rw[hisz,htake,<-hlen];exact List.take_left
  ·have holds:∀j u,xs[j]?=some u->w.cell? ((⟨g,0,none⟩:Addr).add j)=some u:=λj u hj=>by
    have hadd:(⟨g,0,none⟩:Addr).add j=⟨g,j,none⟩:=by rw[Addr.add_lit,Nat.zero_add]
    rw[<-htake,List.getElem?_take]at hj
    split at hj
    ·rw[hadd];simp only[World.cell?,hg];rw[Array.getElem?_toList]at hj;simpa using hj
    ·cases hj
   have hr:=run_append_grow (P:=P) w t ty e i z hu hi hz ⟨g,0,none⟩ n cap xs (by rw[hisz];exact hxl) holds a m c news (by rw[hisz];exact hl) hnews (by omega) (by simp only[maxLen]at h63;omega) (by rw[hby];exact growslice_fits (by omega) hb);have hge:=grownCap_ge w (n+m) cap e;have hcm2:grownCap w (n+m) cap e<=maxLen:=grownCap_le_maxLen w (n+m) cap e h63;refine⟨_,_,hr,⟨hlen,.inr ⟨w.heap.size,_,_,(0,0),rfl,heap_alloc_new w.drew _,.inl rfl,hge,hcm2,?_,?_⟩⟩,by simp,.inr ⟨rfl,⟨rfl,rfl,rfl,by simp,λk hk _=>heap_alloc_old w.drew _ hk⟩⟩,⟨_,_,rfl⟩,λe=>by omega⟩
   ·simp only[Array.size_append,List.size_toArray,size_zeroCells,hzsz,hxl,hl,<-Nat.add_mul]
    congr 1;omega
   ·simp only[Array.toList_append,List.append_assoc]
    rw[<-List.append_assoc,<-hlen];exact List.take_left
theorem Og(hc:A1 P cx){c:Call}(ho:o.op=.call c)(hcal:c.callee=.builtin .append){x y:Operand}{t e sz:Nat}{te ti:TI}(hx:c.args.toList=[x,y])(ht:c.argTypes.toList=[t,t])(hlt:look t cx.tt=some ti)(hk:ti.k=.slice e)(hle:look e cx.tt=some te)(hsz:te.size=sz)(hz:0<sz)
  {gr:Bool} {nl:BT} {n n0:ST} {f:Nat->List SV} {h:Nat} (hvx:rd cx σ T x=some (.osl nl n h)) (hh:nth σ.hp h=some (.own e n0 sz gr f)) {s:SV} (hvy:rd cx σ T y=some s) {m:ST} {g:Nat->List SV} (hrow:Mk sz s=some (m,g))
  (hb:n.den=n0.den/\(n.den+m.den) * te.bytes<=140737488355328/\n.den+m.den<=9223372036854775807)
  {f':Nat->List SV} {n':Int} (hn':n'=n.den+m.den) (hf1:∀i:Nat,(i:Int)<n.den->f' i=f i) (hf':∀i j:Nat,(i:Int)=n.den+j->(j:Int)<m.den->f' i=g j):
  Ap P cx.gl σ T o ⟨.osl (U9 nl (O7 .eql m (.l 0))) (.a n') h,[.put h (.own e (.a n') sz gr f')],[h],[]⟩:=by
 intro B N E a w ff hf hg st ag agh hT K' Q hK;have mx:x∈o.op.operands.toList:=by simp[ho,Op.operands,Call.operands,hcal,hx]
 have my:y∈o.op.operands.toList:=by simp[ho,Op.operands,Call.operands,hcal,hx]
 have hrx:=Aa hvx hg st (Ah ag mx) hT;have hry:=Aa hvy hg st (Ah ag my) hT;obtain⟨k,news,r1,r2,r3,r4,r5⟩:=Ja hrow hry;have hkk:=st.heap h;have hsame:=Bw agh (List.mem_singleton.2 rfl) hh;rw[hsame]at hkk;obtain⟨v,nn,xs,k1,kz,k2,k3,k4,k5,k6⟩:=hkk;obtain⟨hv,hnl⟩:=F2 hrx k1 k2 k3 hb.1;have hnn:n.den=(nn:Int):=by rw[hb.1,k3]
 have hbk:(nn+k) * te.bytes<=140737488355328:=by
  have:=hb.2.1;rw[hnn,r1]at this;have h:(((nn+k) * te.bytes:Nat):Int)<=140737488355328:=by rw[Int.natCast_mul,Int.natCast_add];exact this
  omega
 obtain⟨v',w',l1,l2,l3,l4,l5,l6⟩:=Rh (P:=P) (ty:=o.type) ((hc.ti hlt).slice hk) (hc.ti hle) hsz hz k2 r3 (by have:=hb.2.2;rw[hnn,r1]at this;simp only[maxLen];omega) hbk;have h1all:∀u∈xs++news,u.oneCell'=true:=λu hu=>by
  rcases List.mem_append.1 hu with hu|hu
  ·exact k4 u hu
  ·exact r3.2.1 u hu
 have hnt:(ST.a n').den=((nn+k:Nat):Int):=by simp only[ST.den,hn',hnn,r1];omega
 have hin:Fm E w f' (nn+k) sz (xs++news):=by
  refine⟨λi hi=>?_,λi j s u hi hs hu=>?_⟩
  ·by_cases hin:i<nn
   ·rw[hf1 i (by omega)];exact k5.1 i hin
   ·rw[hf' i (i-nn) (by omega) (by omega)];exact r4 (i-nn) (by omega)
  ·by_cases hin:i<nn
   ·rw[hf1 i (by omega)]at hs
    have hj:j<sz:=by rw[<-k5.1 i hin];exact (List.getElem?_eq_some_iff.1 hs).1
    have:(i+1) * sz<=nn * sz:=Nat.mul_le_mul_right _ hin;rw[Nat.add_mul]at this;rw[List.getElem?_append_left (by rw[k2.1];omega)]at hu;exact k5.2 i j s u hin hs hu
   ·rw[hf' i (i-nn) (by omega) (by omega)]at hs
    have e1:i * sz+j=nn * sz+((i-nn) * sz+j):=by
     have:i * sz=nn * sz+(i-nn) * sz:=by rw[<-Nat.add_mul];congr 1;omega
     omega
    rw[List.getElem?_append_right (by rw[k2.1];omega),k2.1,e1,Nat.add_sub_cancel_left]at hu;exact r5 (i-nn) j s u (by omega) hs hu
 obtain⟨E',x1,x2,x3,x4,x5⟩:=H9 (h:=h) (e:=e) (sz:=sz) (n:=nn) (m:=k) st (.inr ⟨⟨_,_,_,hsame⟩,k1,kz,k6⟩) k2.shape l2 h1all l4 (λ_=>l6) (nt':=.a n') hnt hin;unfold Oper.wp;rw[Dr ho hcal hx ht (a:=a) (w:=w) (w':=w') (v':=v') (by rw[hv];exact l1)];obtain⟨a0,c0,e0⟩:=l5;refine hK v' w' E' x1 x2 x3 (.osl ⟨a0,nn+k,c0,e0,hnt,?_⟩ ⟨a0,nn+k,c0,by rw[x4,e0],by rw[hnt];exact Int.le_refl _,λ_=>e0⟩);have hnil:(v'=.slice none 0 0)↔a0=none:=by
  rw[e0];constructor
  ·intro h;simp only[Value.slice.injEq]at h;exact h.1
  ·rintro rfl
   rcases l2.2 with⟨h1,_⟩|⟨g,cap,cur,fr,h1,_⟩
   ·rw[<-e0];exact h1
   ·rw[e0]at h1;simp at h1
 rw[<-hnil,Lr,Hx,l3];simp only[B9,ST.den,r1,Bool.and_eq_true,beq_iff_eq];rw[hnl];constructor
 ·rintro⟨h1,h2⟩;exact⟨h1,by omega⟩
 ·rintro⟨h1,h2⟩;exact⟨h1,by omega⟩
end
end Go.Sx
