/- Part of the proofs of the statements about responses and messages (layers 9 and 10): a symbolic executor over the code, that it is sound, and contracts of functions; it has no conditions of its own. -/
import Derived.Lib.AppendStr
import Derived.Test.YtdoogdbjiijifaaGreatDoorE3Pak
namespace Go.Sx
open Go Go.Lib
section
variable {P:Program} {cx:Cx} {σ:Sy} {T:List Nat} {o:Oper} {K:Out->Prop}
theorem Acl{t u e ty:TypeId}{ti:TI}(hu:P.underlying t=some (.slice e))(hus:P.underlying u=some .string)(he:D8 P e ti)(hsz:ti.size=1){w:World}{gr:Bool}{v:Value}{n:Nat}{xs:List Value}(hown:Ck w gr e 1 v n xs)(s:ByteArray)
  (h63:n+s.size<=maxLen) (hb:(n+s.size) * ti.bytes<=140737488355328):
  ∃v' w',(Builtin.append_ #[t,u] ty #[v,.string s]).run P w=.ok v' w'/\Ck w' gr e 1 v' (n+s.size) (xs++strCells s)/\(v'=.slice none 0 0↔v=.slice none 0 0/\s.size=0)/\
   ((v'.ownBlock=v.ownBlock/\w.grownBy w' v.ownBlock)\/(v'.ownBlock=some w.heap.size/\w.grownBy w' none))/\(∃a c,v'=.slice a (n+s.size) c)/\(s.size=0->v'=v):=by
 have hown0:=hown;obtain⟨hxl,hh⟩:=hown;obtain⟨i,z,hi,hsize,hby,hz,hzs,_⟩:=he.info;have hisz:i.size=1:=by rw[hsize,hsz]
 have hzsz:z.cells.size=1:=by
  have:=(Ju (I:=λ_ _=>False) (w:=w) hzs).1;have h2:ti.zero.length=1:=by rw[he.zlen,hsz]
  simpa[h2] using this.symm
 have hlen:(xs++strCells s).length=(n+s.size) * 1:=by rw[List.length_append,hxl,strCells_length];omega
 rcases hh with⟨rfl,rfl⟩|⟨g,cap,cur,fr,rfl,hg,hfr,hnc,hcm,hcs,htake⟩
 ·have hx:xs=[]:=List.eq_nil_of_length_eq_zero (by simpa using hxl)
  subst hx
  by_cases hm:s.size=0
  ·have hn:strCells s=[]:=List.eq_nil_of_length_eq_zero (by rw[strCells_length];exact hm)
   refine⟨.slice none 0 0,w,?_,by rw[hm,hn];simpa using hown0,by simp[hm],.inl ⟨rfl,⟨rfl,rfl,rfl,Nat.le_refl _,λ_ _ _=>rfl⟩⟩,⟨none,0,by rw[hm]⟩,λ_=>rfl⟩;have hf:=run_firstCells_string (P:=P) (w:=w) 1 s;rw[hm]at hf;simp[Builtin.append_,run_underlying hu,run_underlying hus,sizeOf,typeInfo,hi,hisz,Builtin.lenOf,hm,hf]
  ·have hr:=run_append_nil_string (P:=P) w t u ty e i z hu hus hi hz s (by omega) (by simp only[maxLen]at h63;omega) (by rw[hby];simp only[Nat.zero_add]at hb;omega)
   have e1:(s.data.map λb=>Value.int .u8 b.toNat)=(strCells s).toArray:=by
    apply Array.ext';simp[strCells]
   rw[e1]at hr;have hge:=grownCap_ge w s.size 0 e;have hcm2:grownCap w s.size 0 e<=maxLen:=grownCap_le_maxLen w s.size 0 e (by omega);refine⟨_,_,hr,⟨hlen,.inr ⟨w.heap.size,_,_,(0,0),by simp,heap_alloc_new w.drew _,.inl rfl,by omega,hcm2,?_,?_⟩⟩,by simp[hm],.inr ⟨rfl,⟨rfl,rfl,rfl,by simp,λk hk _=>heap_alloc_old w.drew _ hk⟩⟩,⟨_,_,by rw[Nat.zero_add]⟩,λe=>absurd e hm⟩
   ·simp only[Array.size_append,List.size_toArray,size_zeroCells,hzsz,strCells_length]
    omega
   ·simp only[Array.toList_append,List.nil_append]
    rw[List.take_append_of_le_length (by rw[strCells_length];omega),List.take_of_length_le (by rw[strCells_length];omega)]
 ·by_cases hroom:n+s.size<=cap
  ·have hfit:n * 1+(strCells s).length<=cur.size:=by rw[hcs,strCells_length];omega
   have hf:=run_firstCells_string (P:=P) (w:=w) 1 s;have hst:=C9 (P:=P) g (n * 1) e fr (strCells s) 0 cur w hg (hfr.imp (λh=>h) (λh=>by rw[h.2];exact Nat.le_refl _)) (by simpa using hfit) (strCells_oneCell s);simp only[Nat.add_zero]at hst;have hr:(Builtin.append_ #[t,u] ty #[.slice (some ⟨g,0,none⟩) n cap,.string s]).run P w =
     .ok (.slice (some ⟨g,0,none⟩) (n+s.size) cap) (w.setRow g (cur.toList.take (n * 1)++strCells s++cur.toList.drop (n * 1+(strCells s).length)).toArray):=by
    simp only[Nat.mul_one]at hst ⊢;simp[Builtin.append_,run_underlying hu,run_underlying hus,sizeOf,typeInfo,hi,hisz,Builtin.lenOf,hroom,hf,Addr.add_lit,hst]
   have hC:(cur.toList.take (n * 1)++strCells s++cur.toList.drop (n * 1+(strCells s).length)).toArray.size=cur.size:=by
    simp only[List.size_toArray,List.length_append,List.length_take,List.length_drop,Array.length_toList];omega
   refine⟨_,_,hr,⟨hlen,.inr ⟨g,cap,_,fr,rfl,setRow_heap w g cur _ e fr hg,?_,hroom,hcm,by rw[hC];exact hcs,?_⟩⟩,by simp,.inl ⟨rfl,⟨rfl,rfl,rfl,by simp,λk _ hk=>setRow_other w g k _ (λe=>hk (by simp[Value.ownBlock,e]))⟩⟩,⟨_,_,rfl⟩,λe=>by rw[e];rfl⟩
   ·rcases hfr with h|⟨h1,h2⟩
    ·exact .inl h
    ·exact .inr ⟨h1,by rw[hC];exact h2⟩
   ·rw[htake,<-hlen]
    exact List.take_left
  ·have holds:∀j u,xs[j]?=some u->w.cell? ((⟨g,0,none⟩:Addr).add j)=some u:=λj u hj=>by
    have hadd:(⟨g,0,none⟩:Addr).add j=⟨g,j,none⟩:=by rw[Addr.add_lit,Nat.zero_add]
    rw[<-htake,List.getElem?_take]at hj
    split at hj
    ·rw[hadd];simp only[World.cell?,hg];rw[Array.getElem?_toList]at hj;simpa using hj
    ·cases hj
   have hr:=run_append_grow_string (P:=P) w t u ty e i z hu hus hi hz ⟨g,0,none⟩ n cap xs (by rw[hisz];exact hxl) holds s (by omega) (by simp only[maxLen]at h63;omega) (by rw[hby];exact growslice_fits (by omega) hb);have hge:=grownCap_ge w (n+s.size) cap e;have hcm2:grownCap w (n+s.size) cap e<=maxLen:=grownCap_le_maxLen w (n+s.size) cap e h63;refine⟨_,_,hr,⟨hlen,.inr ⟨w.heap.size,_,_,(0,0),rfl,heap_alloc_new w.drew _,.inl rfl,hge,hcm2,?_,?_⟩⟩,by simp,.inr ⟨rfl,⟨rfl,rfl,rfl,by simp,λk hk _=>heap_alloc_old w.drew _ hk⟩⟩,⟨_,_,rfl⟩,λe=>by omega⟩
   ·simp only[Array.size_append,List.size_toArray,size_zeroCells,hzsz,hxl,strCells_length]
    omega
   ·simp only[Array.toList_append,List.append_assoc]
    rw[<-List.append_assoc,<-hlen];exact List.take_left
theorem Ma{c:Call}(ho:o.op=.call c)(hcal:c.callee=.builtin .append){x y:Operand}{t u:TypeId}(hx:c.args.toList=[x,y])(ht:c.argTypes.toList=[t,u]){a:Act}{w w':World}{v':Value}(hr:(Builtin.append_ #[t,u] o.type #[a.eval x,a.eval y]).run P w=.ok v' w'):
  (execOp a.eval o).run P w=.ok (.value v') w':=by
 have e1:c.args=#[x,y]:=Array.ext' (by simpa using hx);have e2:c.argTypes=#[t,u]:=Array.ext' (by simpa using ht);simp[execOp,ho,resolve,hcal,e1,e2,invoke,builtin,hr]
theorem P1(hc:A1 P cx){c:Call}(ho:o.op=.call c)(hcal:c.callee=.builtin .append){x y:Operand}{t u e:Nat}{te ti tu:TI}(hx:c.args.toList=[x,y])(ht:c.argTypes.toList=[t,u])(hlt:look t cx.tt=some ti)(hk:ti.k=.slice e)(hle:look e cx.tt=some te)(hsz:te.size=1)(hlu:look u cx.tt=some tu)(hku:tu.k=.string)
  {gr:Bool} {nl:BT} {n n0:ST} {f:Nat->List SV} {h:Nat} (hvx:rd cx σ T x=some (.osl nl n h)) (hh:nth σ.hp h=some (.own e n0 1 gr f)) {s:List UInt8} (hvy:rd cx σ T y=some (.str s))
  (hb:n.den=n0.den/\(n.den+(s.length:Int)) * te.bytes<=140737488355328/\n.den+(s.length:Int)<=9223372036854775807)
  {f':Nat->List SV} {n':Int} (hn':n'=n.den+(s.length:Int)) (hf1:∀i:Nat,(i:Int)<n.den->f' i=f i) (hf':∀i j:Nat,(i:Int)=n.den+j->(j:Int)<(s.length:Int)->f' i=byteRow s j):
  Ap P cx.gl σ T o ⟨.osl (U9 nl (O7 .eql (.len s) (.l 0))) (.a n') h,[.put h (.own e (.a n') 1 gr f')],[h],[]⟩:=by
 intro B N E a w ff hf hg st ag agh hT K' Q hK;have mx:x∈o.op.operands.toList:=by simp[ho,Op.operands,Call.operands,hcal,hx]
 have my:y∈o.op.operands.toList:=by simp[ho,Op.operands,Call.operands,hcal,hx]
 have hrx:=Aa hvx hg st (Ah ag mx) hT;have hry:=Aa hvy hg st (Ah ag my) hT;have hsv:a.eval y=.string (bytes s):=hry.str_inv;have hss:(bytes s).size=s.length:=rfl;have hcl:∀j,j<s.length->(strCells (bytes s))[j]?=some (.int .u8 ((s.getD j 0).toNat:Int)):=λj hj=>by
  unfold strCells bytes;rw[List.getElem?_map,List.getElem?_eq_getElem hj,List.getD_eq_getElem?_getD,List.getElem?_eq_getElem hj];rfl
 have hkk:=st.heap h;have hsame:=Bw agh (List.mem_singleton.2 rfl) hh;rw[hsame]at hkk;obtain⟨v,nn,xs,k1,kz,k2,k3,k4,k5,k6⟩:=hkk;obtain⟨hv,hnl⟩:=F2 hrx k1 k2 k3 hb.1;have hnn:n.den=(nn:Int):=by rw[hb.1,k3]
 have hbk:(nn+(bytes s).size) * te.bytes<=140737488355328:=by
  have:=hb.2.1;rw[hnn]at this;have h:(((nn+s.length) * te.bytes:Nat):Int)<=140737488355328:=by rw[Int.natCast_mul,Int.natCast_add];exact this
  rw[hss];omega
 obtain⟨v',w',l1,l2,l3,l4,l5,l6⟩:=Acl (P:=P) (ty:=o.type) ((hc.ti hlt).slice hk) ((hc.ti hlu).string hku) (hc.ti hle) hsz k2 (bytes s) (by have:=hb.2.2;rw[hnn]at this;rw[hss];simp only[maxLen];omega) hbk;rw[hss]at l2 l3 l5 l6;have h1all:∀u∈xs++strCells (bytes s),u.oneCell'=true:=λu hu=>by
  rcases List.mem_append.1 hu with hu|hu
  ·exact k4 u hu
  ·have:=strCells_oneCell (bytes s) u hu
   simpa using this
 have hnt:(ST.a n').den=((nn+s.length:Nat):Int):=by simp only[ST.den,hn',hnn];omega
 have hin:Fm E w f' (nn+s.length) 1 (xs++strCells (bytes s)):=by
  refine⟨λi hi=>?_,λi j r u hi hs hu=>?_⟩
  ·by_cases hin:i<nn
   ·rw[hf1 i (by omega)];exact k5.1 i hin
   ·rw[hf' i (i-nn) (by omega) (by omega)];rfl
  ·by_cases hin:i<nn
   ·rw[hf1 i (by omega)]at hs
    have hj:j<1:=by rw[<-k5.1 i hin];exact (List.getElem?_eq_some_iff.1 hs).1
    rw[List.getElem?_append_left (by rw[k2.1];omega)]at hu;exact k5.2 i j r u hin hs hu
   ·rw[hf' i (i-nn) (by omega) (by omega)]at hs
    match j,hs with
    |0,hs =>
     have hs:some (SV.int .u8 (.a ((s.getD (i-nn) 0).toNat:Int)))=some r:=hs;cases hs;have e1:i * 1+0=nn * 1+(i-nn):=by omega
     rw[List.getElem?_append_right (by rw[k2.1];omega),k2.1,e1,Nat.add_sub_cancel_left,hcl _ (by omega)]at hu;cases hu;exact .int rfl
    |j+1,hs=>simp[byteRow]at hs
 obtain⟨E',x1,x2,x3,x4,x5⟩:=H9 (h:=h) (e:=e) (sz:=1) (n:=nn) (m:=s.length) st (.inr ⟨⟨_,_,_,hsame⟩,k1,kz,k6⟩) k2.shape l2 h1all l4 (λ_=>l6) (nt':=.a n') hnt hin;unfold Oper.wp;rw[Ma ho hcal hx ht (a:=a) (w:=w) (w':=w') (v':=v') (by rw[hv,hsv];exact l1)];obtain⟨a0,c0,e0⟩:=l5;refine hK v' w' E' x1 x2 x3 (.osl ⟨a0,nn+s.length,c0,e0,hnt,?_⟩ ⟨a0,nn+s.length,c0,by rw[x4,e0],by rw[hnt];exact Int.le_refl _,λ_=>e0⟩);have hnil:(v'=.slice none 0 0)↔a0=none:=by
  rw[e0];constructor
  ·intro h;simp only[Value.slice.injEq]at h;exact h.1
  ·rintro rfl
   rcases l2.2 with⟨h1,_⟩|⟨g,cap,cur,fr,h1,_⟩
   ·rw[<-e0];exact h1
   ·rw[e0]at h1;simp at h1
 rw[<-hnil,Lr,Hx,l3];simp only[B9,ST.den,Bool.and_eq_true,beq_iff_eq];rw[hnl];constructor
 ·rintro⟨h1,h2⟩;exact⟨h1,by omega⟩
 ·rintro⟨h1,h2⟩;exact⟨h1,by omega⟩
end
end Go.Sx
