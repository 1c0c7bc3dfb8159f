/- A part of the proof: contracts of functions, or the executor and its soundness. No conditions. -/
import Derived.Test.YtdoogdbjiijifaaGreatDoorE7Pap
namespace Go.Cv
open Go Go.RowKit
section
variable {S:Sg} {ι:Ip} {hp:Tr CO} {w:World} {fr:Tr CV} {a:Act}
def Bi(S:Sg)(ι:Ip)(w:World)(a:Act)(o:Oper)(v:CV):Prop:=∃u,(execOp a.eval o).run S.P w=.ok (.value u) w/\VR ι v u
theorem Bi.of{o:Oper}{v:CV}{s:Sem Value}(h:∃u,s.run S.P w=.ok u w/\VR ι v u)(e:execOp a.eval o=(do pure (.value (<-s)))):Bi S ι w a o v:=by
 obtain⟨u,h1,h2⟩:=h;exact⟨u,by rw[e];simp[h1],h2⟩
theorem Am4{x:CV}{n:Nat}(h:So x=some n):∃k,x=.i k (n:Int):=by
 unfold So at h
 split at h
 .rename_i k i
  cases i with
  |ofNat m=>cases h;exact⟨k,rfl⟩
  |negSucc m=>cases h
 .cases h
theorem Hu{x:CV}{n:Nat}{v:Value}(h:So x=some n)(hr:VR ι x v):∃k,v=.int k (n:Int):=by
 obtain⟨k,rfl⟩:=Am4 h;exact⟨k,hr.fM⟩
theorem Aom{en:En}{d t:Nat}{x y:CV}{b:Bool}(h:uN en (d+1) t x y=some b):∃ti,en.T t=some ti/\rz en (uN en d) t ti.k x y=some b:=by
 replace h:(match en.T t with|some ti=>rz en (uN en d) t ti.k x y|none=>none)=some b:=h
 split at h
 .rename_i ti hT;exact⟨ti,hT,h⟩
 .cases h
theorem Aip{en:En}{d t:Nat}{y:CV}{b:Bool}(h:uN en (d+1) t .bot y=some b):False:=by
 obtain⟨ti,_,h⟩:=Aom h;unfold rz at h
 split at h<;>first|(cases h;done)|skip
 split at h<;>cases h
theorem Agw{en:En}{d t:Nat}{b:Bool}(h:uN en (d+1) t .ni .bot=some b):False:=by
 obtain⟨ti,_,h⟩:=Aom h;unfold rz at h
 split at h<;>first|(cases h;done)|skip
 split at h<;>cases h
theorem jl{en:En}{d t:Nat}{xs:List CV}{y:CV}{b:Bool}(h:uN en (d+1) t (.agg xs) y=some b):(∃ys,y=.agg ys)/\(en.X (1000000+t)).isSome=true:=by
 obtain⟨ti,_,h⟩:=Aom h;unfold rz at h
 split at h<;>first|(cases h;done)|skip
 .split at h<;>cases h
 .unfold yj at h
  split at h
  .rename_i RU ys e1 h'
   split at h
   .rename_i c hc
    exact⟨⟨_,rfl⟩,by rw[show en.X (1000000+t)=some c from hc];rfl⟩
   .cases h
  .cases h
theorem Ry(X:Operand):Region.isConst X=(match X with|.const _=>true|_=>false):=by cases X<;>rfl
theorem Ado(hS:eH S){op:BinOp}{t:Nat}{x y:CV}{X Y:Operand}{u v:Value}{b:Bool}(hg:Aaj (Region.isConst X||Region.isConst Y) x y=true)(hx:VR ι x u)(hy:VR ι y v)(he:uN S.en 10 t x y=some b):
  (eqGuard op t X Y u v).run S.P w=.ok () w:=by
 unfold eqGuard;have key:∀s:Sem Unit,s.run S.P w=.ok () w->((if !(match op with|.eql=>true|.neq=>true|_=>false) then (pure ():Sem Unit) else s)).run S.P w=.ok () w:=λs hs=>by
  split<;>first|rfl|exact hs|skip
  all_goals split<;>first|rfl|exact hs
 cases hx<;>first|(refine key _ ?_;rfl)|(exact (Aip he).elim)|skip
 .cases hy<;>first|(refine key _ ?_;rfl)|(exact (Agw he).elim)|skip
  refine key _ ?_;have hc:(Region.isConst X||Region.isConst Y)=true:=hg;rw[Ry,Ry,ZB]at hc;cases X<;>cases Y<;>first|rfl|simp at hc
 .rename_i xs us h1 h2
  obtain⟨⟨ys,rfl⟩,hX⟩:=jl he;obtain⟨vs,rfl,_⟩:=hy.cW;refine key _ ?_;have:=(hS.cmp t hX).2.1;simp[this]
theorem Rz{op:BinOp}{t:Nat}{X Y:Operand}{u v:Value}(h:(∀x,u≠.agg x)/\u≠.nilIface):(eqGuard op t X Y u v).run S.P w=.ok () w:=by
 unfold eqGuard;have key:∀s:Sem Unit,s.run S.P w=.ok () w->((if !(match op with|.eql=>true|.neq=>true|_=>false) then (pure ():Sem Unit) else s)).run S.P w=.ok () w:=λs hs=>by
  split<;>first|rfl|exact hs|skip
  all_goals split<;>first|rfl|exact hs
 refine key _ ?_
 split<;>first|rfl|(exact (h.2 rfl).elim)|(exact (h.1 _ rfl).elim)
def Af1:Value->Prop
 |.int _ _|.float _ _|.complex _ _ _|.string _=>False
 |_=>True
theorem binOp_eql{t:Nat}{u v:Value}(h:Af1 u):binOp .eql t u v=(do pure (.bool (<-Op.equal t u v))):=by
 cases u<;>first|rfl|exact h.elim
theorem binOp_neq{t:Nat}{u v:Value}(h:Af1 u):binOp .neq t u v=(do pure (.bool (!(<-Op.equal t u v)))):=by
 cases u<;>first|rfl|exact h.elim
theorem JW(hS:eH S)(hg:GR S ι)(hf:FR ι fr a.tmps){o:Oper}{op:BinOp}{t yt:Nat}{X Y:Operand}{v:CV}(ho:o.op=.binOp op t X Y yt)
  (h:zb S.en (Region.isConst X||Region.isConst Y) op t (ev S.en fr X) (ev S.en fr Y)=some v):Bi S ι w a o v:=by
 have hx:=Ay hg hf X;have hy:=Ay hg hf Y;have he:execOp a.eval o=(do pure (.value (<-(do eqGuard op t X Y (a.eval X) (a.eval Y);binOp op t (a.eval X) (a.eval Y))))):=by simp[execOp,ho]
 refine Bi.of ?_ he
 generalize ev S.en fr X=x at h hx
 generalize ev S.en fr Y=y at h hy
 unfold zb at h
 split at h
 .obtain⟨u,h1,h2,k',c,hc⟩:=lk (P:=S.P) (w:=w) h hy t
  have hu:=hx.fM;rw[hu]at *;exact⟨u,by simp[Rz (S:=S) (w:=w) (op:=op) (t:=t) (X:=X) (Y:=Y) (v:=a.eval Y) (u:=.int _ _) ⟨by simp,by simp⟩,h1],h2⟩
 .obtain⟨hu,hn⟩:=hx.fJ
  obtain⟨u,h1,h2,s,hs⟩:=lj (P:=S.P) (w:=w) h hn hy t;rw[hu];exact⟨u,by simp[Rz (S:=S) (w:=w) (op:=op) (t:=t) (X:=X) (Y:=Y) (v:=a.eval Y) (u:=.string _) ⟨by simp,by simp⟩,h1],h2⟩
 .rename_i wo WD
  cases kW:Aaj (Region.isConst X||Region.isConst Y) x y<;>rw[kW]at h<;>simp only[cond_true,cond_false]at h
  .cases h
  .have gB:(∃b,uN S.en 10 t x y=some b)->Af1 (a.eval X):=by
    rintro⟨b,hb⟩
    generalize a.eval X=ux at hx
    cases hx<;>first|trivial|(exact (Aip hb).elim)|exact (wo _ _ rfl).elim|exact (WD _ _ rfl).elim
   unfold KV at h
   split at h
   .split at h
    .rename_i b hb
     cases h;have h1:=Ado hS (w:=w) (op:=.eql) kW hx hy hb;have h2:=Aol hS (w:=w) 10 10000 t x y _ _ b (by omega) hb hx hy;refine⟨.bool b,?_,.b _⟩;rw[binOp_eql (gB ⟨b,hb⟩)];simp[h1,Op.equal,Op.maxDepth,h2]
    .cases h
   .split at h
    .rename_i b hb
     cases h;have h1:=Ado hS (w:=w) (op:=.neq) kW hx hy hb;have h2:=Aol hS (w:=w) 10 10000 t x y _ _ b (by omega) hb hx hy;refine⟨.bool (!b),?_,.b _⟩;rw[binOp_neq (gB ⟨b,hb⟩)];simp[h1,Op.equal,Op.maxDepth,h2]
    .cases h
   .cases h
theorem ac8(hg:GR S ι)(hf:FR ι fr a.tmps){o:Oper}{op:UnOp}{t:Nat}{X:Operand}{v:CV}(ho:o.op=.unOp op t X)(h:RX op (ev S.en fr X)=some v):Bi S ι w a o v:=by
 have hx:=Ay hg hf X
 generalize ev S.en fr X=x at h hx
 refine Bi.of (s:=Op.unary op (a.eval X)) ?_ (by simp[execOp,ho]);unfold RX at h
 split at h
 .unfold FN at h
  split at h<;>cases h
  rw[hx.jD];exact⟨_,rfl,.b _⟩
 .unfold FO at h
  split at h<;>cases h
  rw[hx.fM,Ahp];exact⟨_,by simp[Op.unary,Op.intArith],.i _ _⟩
 .cases h
theorem xx(hg:GR S ι)(hf:FR ι fr a.tmps){o:Oper}{C X Y:Operand}{v:CV}(ho:o.op=.pick C X Y)(h:PI S.en C X Y fr=some v):Bi S ι w a o v:=by
 have hc:=Ay hg hf C;unfold PI at h
 split at h
 .rename_i t e
  rw[e]at hc;cases h;have fy:=hc.jD;refine⟨if t then a.eval X else a.eval Y,by simp[execOp,ho,fy,asBool],?_⟩;cases t
  .exact Ay hg hf Y
  .exact Ay hg hf X
 .cases h
theorem xz(hS:eH S)(hR:Rd S ι hp w)(hg:GR S ι)(hf:FR ι fr a.tmps){o:Oper}{t:Nat}{X:Operand}{v:CV}(ho:o.op=.load t X)(h:NA S.en t X hp fr=some v):Bi S ι w a o v:=by
 have hx:=Ay hg hf X;unfold NA at h
 split at h
 .rename_i r g off e
  rw[e]at hx;obtain⟨L,hL,cZ,hv⟩:=hx.fL;obtain⟨u,h1,h2⟩:=Adb hS hR h hL cZ;exact Bi.of (s:=Instr.loadAt t (a.eval X)) ⟨u,by simp[Instr.loadAt,hv,Instr.sureAddr,h1],h2⟩ (by simp[execOp,ho])
 .cases h
theorem Y3(hS:eH S){t f fo ft:Nat}(h:RG S.en t f=some (fo,ft)):∃fields fd,S.P.underlying t=some (.struct fields)/\fields[f]?=some fd/\fd.offset=fo/\fd.type=ft:=by
 unfold RG at h
 split at h
 .rename_i fs n b z hT
  obtain⟨fields,hd,he,_⟩:=(hS.T t _ hT).struct rfl;obtain⟨fd,h1,h2,h3⟩:=Fw he h;exact⟨fields,fd,hd,h1,h2,h3⟩
 .cases h
theorem An1(hS:eH S)(hg:GR S ι)(hf:FR ι fr a.tmps){o:Oper}{t f:Nat}{X:Operand}{v:CV}(ho:o.op=.fieldAddr t X f)(h:To S.en t X f fr=some v):Bi S ι w a o v:=by
 have hx:=Ay hg hf X;unfold To at h
 split at h
 .rename_i fo nZ
  unfold Aof at nZ
  split at nZ
  .rename_i fo' ft WY
   split at nZ
   .rename_i m hm
    cases nZ;obtain⟨fields,fd,hd,h1,rfl,rfl⟩:=Y3 hS WY;obtain⟨ti,hT,aM⟩:=Do hm;have aT:=(hS.T _ ti hT).sizeOf w
    split at h
    .rename_i r g off e
     rw[e]at hx;cases h;obtain⟨L,hL,cZ,hv⟩:=hx.fL;refine Bi.of (s:=Instr.fieldAt t (a.eval X) f) ⟨.pointer (some ⟨L.aE,off+fd.offset-L.lo,none⟩),?_,.p hL (XO cZ (YM _ _))⟩ (by simp[execOp,ho]);have:off-L.lo+fd.offset=off+fd.offset-L.lo:=by omega
     simp[Instr.fieldAt,Ad hd,h1,hv,Instr.sureAddr,fieldPlace,aT,aM,Ff,this]
    .cases h
   .cases nZ
  .cases nZ
 .cases h
theorem iq(hS:eH S)(hg:GR S ι)(hf:FR ι fr a.tmps){o:Oper}{t f:Nat}{X:Operand}{v:CV}(ho:o.op=.field t X f)(h:RD S.en t X f fr=some v):Bi S ι w a o v:=by
 have hx:=Ay hg hf X;unfold RD at h
 split at h
 .rename_i fo ft WY
  obtain⟨fields,fd,hd,h1,rfl,rfl⟩:=Y3 hS WY
  split at h
  .rename_i cs e
   rw[e]at hx;obtain⟨us,hv,hl⟩:=hx.cW;obtain⟨u,h2,h3⟩:=Ol hS (w:=w) h hl;exact Bi.of (s:=Instr.field t (a.eval X) f) ⟨u,by simp[Instr.field,Ad hd,h1,hv,asAgg,h2],h3⟩ (by simp[execOp,ho])
  .cases h
 .cases h
theorem Aho{e sz:Nat}(h:AS S.en e sz=true):∃te,S.en.T e=some te/\te.size=sz:=by
 unfold AS at h
 split at h
 .rename_i n hn
  obtain⟨te,hT,aM⟩:=Do hn;exact⟨te,hT,by rw[aM];exact ((beq_iff _ _).1 h).symm⟩
 .cases h
theorem An0(hS:eH S)(hg:GR S ι)(hf:FR ι fr a.tmps){o:Oper}{t:Nat}{X Y:Operand}{v:CV}(ho:o.op=.indexAddr t X Y)(h:Tn S.en t X Y fr=some v):Bi S ι w a o v:=by
 have hx:=Ay hg hf X;have hy:=Ay hg hf Y;unfold Tn at h
 split at h
 .cases h
 .rename_i i hi
  obtain⟨k,hk⟩:=Hu hi hy;refine Bi.of (s:=Instr.indexAt t (a.eval X) (a.eval Y)) ?_ (by simp[execOp,ho])
  split at h
  .rename_i e n b z hT
   have hd:=(hS.T t _ hT).slice rfl
   split at h
   .rename_i r g off l sz cap he
    rw[he]at hx;cases hs:AS S.en e sz<;>rw[hs]at h<;>simp only[cond_true,cond_false]at h
    .cases h
    obtain⟨te,jC,rfl⟩:=Aho hs;have aT:=(hS.T e te jC).sizeOf w;unfold FY at h;cases hb:Nat.ble (Nat.succ i) l<;>rw[hb]at h<;>cases h;have aA:i<l:=(As _ _).1 hb;obtain⟨L,ad,c,hL,cZ,hz,fR,fQ,qW,_,_,hv⟩:=hx.aS;have hc:0<c:=by omega
    have fQ:=fQ hc;subst fQ;refine⟨.pointer (some ⟨L.aE,off+i * te.size-L.lo,none⟩),?_,.p hL (XO cZ (YM _ _))⟩;have e1:off-L.lo+i * te.size=off+i * te.size-L.lo:=by omega
    simp[Instr.indexAt,hk,hv,asIntOf,Ad hd,aA,aT,Ff,e1]
   .cases h
  .rename_i n e n' b z hT
   have hd:=(hS.T t _ hT).array rfl
   split at h
   .rename_i r g off he
    rw[he]at hx;unfold ot at h
    split at h
    .rename_i sz aM
     obtain⟨te,jC,nW⟩:=Do aM;have aT:=(hS.T e te jC).sizeOf w;cases hb:Nat.ble (Nat.succ i) n<;>rw[hb]at h<;>cases h;have aA:i<n:=(As _ _).1 hb;obtain⟨L,hL,cZ,hv⟩:=hx.fL;refine⟨.pointer (some ⟨L.aE,off+i * (sz+1)-L.lo,none⟩),?_,.p hL (XO cZ (YM _ _))⟩;have e1:off-L.lo+i * (sz+1)=off+i * (sz+1)-L.lo:=by omega
     simp[Instr.indexAt,hk,hv,asIntOf,Ad hd,Instr.sureAddr,aA,aT,nW,Ff,e1]
    .cases h
   .cases h
  .cases h
theorem ik(hS:eH S)(hg:GR S ι)(hf:FR ι fr a.tmps){o:Oper}{t:Nat}{X Y:Operand}{v:CV}(ho:o.op=.index t X Y)(h:RF S.en t X Y fr=some v):Bi S ι w a o v:=by
 have hx:=Ay hg hf X;have hy:=Ay hg hf Y;unfold RF at h
 split at h
 .cases h
 .rename_i i hi
  obtain⟨k,hk⟩:=Hu hi hy;refine Bi.of (s:=Instr.index t (a.eval X) (a.eval Y)) ?_ (by simp[execOp,ho])
  split at h
  .rename_i n b z hT
   have hd:=(hS.T t _ hT).string rfl
   split at h
   .rename_i l m he
    rw[he]at hx;obtain⟨hv,hm⟩:=hx.fJ;unfold oq at h;cases hb:Nat.ble (Nat.succ i) l<;>rw[hb]at h<;>cases h;have aA:i<l:=(As _ _).1 hb;have vF:=Tp l m i aA;cases lX:(iH l m)[i]? with
    |none=>rw[lX]at vF;cases vF
    |some c =>
     rw[lX]at vF;have vF:c.toNat=Ea m i:=by simpa using vF
     have aU:(strOf l m)[i]?=some c:=by
      have qZ:i<(strOf l m).size:=by rw[A7];exact aA
      have h2:(strOf l m).data.toList[i]?=some c:=by rw[Cj];exact lX
      rw[QG,Array.getElem?_eq_some_iff]at h2;rw[getElem?_pos (strOf l m) i qZ];congr 1;exact h2.2
     refine⟨.int .u8 c.toNat,?_,?_⟩
     .simp[Instr.index,hk,hv,asIntOf,Ad hd,aU]
     .rw[vF];exact .i _ _
   .cases h
  .rename_i n e n' b z hT
   have hd:=(hS.T t _ hT).array rfl
   split at h
   .rename_i cs he
    rw[he]at hx;obtain⟨us,hv,hl⟩:=hx.cW;unfold ou at h
    split at h
    .rename_i sz aM
     obtain⟨te,jC,rfl⟩:=Do aM;have aT:=(hS.T e te jC).sizeOf w;cases hb:Nat.ble (Nat.succ i) n<;>rw[hb]at h<;>simp only[cond_true,cond_false]at h
     .cases h
     have aA:i<n:=(As _ _).1 hb;obtain⟨u,h2,h3⟩:=Ol hS (w:=w) h hl;have h2':(part e ⟨us⟩ (i * te.size)).run S.P w=.ok u w:=h2;exact⟨u,by simp[Instr.index,hk,hv,asIntOf,Ad hd,aA,aT,h2'],h3⟩
    .cases h
   .cases h
  .cases h
theorem Ak3(hg:GR S ι)(hf:FR ι fr a.tmps){o:Oper}{X:Operand}{i:Nat}{v:CV}(ho:o.op=.extract X i)(h:Pl S.en X i fr=some v):Bi S ι w a o v:=by
 have hx:=Ay hg hf X;unfold Pl at h
 split at h
 .rename_i vs e
  rw[e]at hx;obtain⟨us,hv,hl⟩:=hx.gT;rw[Ah]at h;obtain⟨u,hu,hr⟩:=hl.get h;exact Bi.of (s:=Instr.extract (a.eval X) i) ⟨u,by simp[Instr.extract,hv,hu],hr⟩ (by simp[execOp,ho])
 .cases h
theorem JS(hg:GR S ι)(hf:FR ι fr a.tmps){o:Oper}{X:Operand}{v:CV}(ho:o.op=.nilCheck X)(h:jd S.en X fr=some v):Bi S ι w a o v:=by
 have hx:=Ay hg hf X;unfold jd at h
 split at h
 .rename_i r g off e
  rw[e]at hx;cases h;obtain⟨L,hL,cZ,hv⟩:=hx.fL;exact⟨a.eval X,by simp[execOp,ho,hv],hx⟩
 .rename_i f xs ys e
  rw[e]at hx;cases h;obtain⟨us,vs,hv,_⟩:=hx.rH;exact⟨a.eval X,by simp[execOp,ho,hv],hx⟩
 .cases h
end
section
variable {S:Sg} {ι:Ip} {hp:Tr CO} {w:World} {fr:Tr CV} {a:Act}
theorem Fo{P:Program}{w:World}{k:IntKind}{n y:Nat}{code:BoundsCode}(h:n<=y):(Instr.sliceBound (.int k (n:Int)) y code).run P w=.ok n w:=by
 have:(0:Int)<=(n:Int)/\(n:Int)<=(y:Int):=by omega
 simp[Instr.sliceBound,asIntOf,h]
theorem On(hg:GR S ι)(hf:FR ι fr a.tmps){d n:Nat}{x:Option Operand}(h:Hs S.en fr d x=some n):(x=none/\n=d)\/∃X k,x=some X/\a.eval X=.int k (n:Int):=by
 cases x with
 |none=>cases h;exact .inl ⟨rfl,rfl⟩
 |some X =>
  obtain⟨k,hk⟩:=Hu h (Ay hg hf X);exact .inr ⟨X,k,rfl,hk⟩
theorem B6(hg:GR S ι)(hf:FR ι fr a.tmps){isS:Bool}{l c h b:Nat}{lo hi:Option Operand}(h1:Hs S.en fr l hi=some h)(h2:Hs S.en fr 0 lo=some b)(hc:h<=c)(hb:b<=h):
  (Instr.sliceBounds isS l c (lo.map a.eval) (hi.map a.eval) none).run S.P w=.ok (b,h,c) w:=by
 unfold Instr.sliceBounds;rcases On hg hf h1 with⟨rfl,rfl⟩|⟨X,k,rfl,hX⟩<;>rcases On hg hf h2 with⟨rfl,rfl⟩|⟨Y,k',rfl,hY⟩<;>simp_all [Fo]
theorem Ab9(hg:GR S ι)(hf:FR ι fr a.tmps){l c h b m:Nat}{k0:IntKind}{lo:Option Operand}{H M:Operand}(h1:Hs S.en fr l (some H)=some h)(h2:Hs S.en fr 0 lo=some b)(hM:a.eval M=.int k0 (m:Int))(hm:m<=c)(hc:h<=m)(hb:b<=h):
  (Instr.sliceBounds true l c (lo.map a.eval) (some (a.eval H)) (some (a.eval M))).run S.P w=.ok (b,h,m) w:=by
 unfold Instr.sliceBounds;rcases On hg hf h1 with⟨h,_⟩|⟨X,k,hX,hX'⟩
 .cases h
 .cases hX
  rcases On hg hf h2 with⟨rfl,rfl⟩|⟨Y,k',rfl,hY⟩<;>simp_all [Fo]
theorem Xs{l n b h:Nat}(hh:h<=l)(hb:b<=h):(strOf l n).extract b h=strOf (h-b) (n / 256 ^ b % 256 ^ (h-b)):=by
 apply ByteArray.ext;rw[ByteArray.data_extract];apply XN;show _=(iH (h-b) _).toArray.toList;rw[Array.toList_extract,Cj];simp only[List.extract_eq_take_drop];rw[Aek b l n (by omega),Aej (h-b) (l-b) _ (by omega)]
theorem Th{r g off sz h b m c:Nat}{L:Loc}{ad:Addr}(hL:ι r g=some L)(cZ:L.lo<=off)(hz:0<sz)(fR:off+c * sz<=L.en)(fQ:0<c->ad=⟨L.aE,off-L.lo,none⟩)
  (hm:m<=c) (hh:h<=m) (hb:b<=h) {cap':Nat} (h0:cap'=0->m=(L.en-off) / sz) (h1:∀k,cap'=k+1->m-b=k):
  VR ι (.sl r g (off+b * sz) (h-b) sz cap') (.slice (if m=b then some ad else (some ad).map (·.add (b * sz))) (h-b) (m-b)):=by
 have e1:m * sz<=c * sz:=QH _ hm;have e2:b * sz+(m-b) * sz=m * sz:=by rw[<-XJ];congr 1;omega
 have uJ:cap'=0->m-b=(L.en-(off+b * sz)) / sz:=λe=>by
  rw[show L.en-(off+b * sz)=(L.en-off)-b * sz by omega,YI b,Nat.sub_mul_div,<-h0 e]
 by_cases hmb:m=b
 .rw[QE hmb]
  exact .sl hL (XO cZ (YM _ _)) hz (by rw[UD,e2];omega) (λh=>by omega) (by omega) uJ h1
 .rw[QD hmb]
  have:=fQ (by omega);subst this;rw[QO,Ff,show off-L.lo+b * sz=off+b * sz-L.lo by omega];exact .sl hL (XO cZ (YM _ _)) hz (by rw[UD,e2];omega) (λ_=>rfl) (by omega) uJ h1
theorem bp(hR:Rd S ι hp w){r g off sz k:Nat}{L:Loc}(hL:ι r g=some L)(h:k<=Ho hp r g off sz)(hk:0<k):off+k * sz<=L.en:=by
 unfold Ho at h
 split at h
 .rename_i ty tr n G fz ro mk hr
  cases hG:Nat.beq g G<;>rw[hG]at h
  .simp at h;omega
  .obtain rfl:=(beq_iff _ _).1 hG
   obtain⟨_,arr,gR,_,h3,_,h5⟩:=hR.of hL hr;have h6:=(h5 rfl).1;have h7:k<=(n-off) / sz:=h;have h8:k * sz<=n-off:=XO (QH _ h7) (Nat.div_mul_le_self _ _);have:sz≠0:=λe=>by subst e;simp at h7;omega
   have:0<k * sz:=Nat.mul_pos hk (by omega);omega
 .omega
theorem ij(hS:eH S)(hR:Rd S ι hp w)(hg:GR S ι)(hf:FR ι fr a.tmps){o:Oper}{t:Nat}{X:Operand}{lo hi mx:Option Operand}{v:CV}(ho:o.op=.slice t X lo hi mx)(h:rZ S.en hp t (ev S.en fr X) lo hi mx fr=some v):Bi S ι w a o v:=by
 have hx:=Ay hg hf X;refine Bi.of (s:=Instr.sliceAt t (a.eval X) (lo.map a.eval) (hi.map a.eval) (mx.map a.eval)) ?_ (by simp[execOp,ho])
 generalize ev S.en fr X=x at h hx
 unfold rZ at h
 split at h
 .rename_i n b z hT
  have hd:=(hS.T t _ hT).string rfl
  split at h
  .rename_i l m
   obtain⟨hv,hm⟩:=hx.fJ;unfold NM at h
   split at h
   .rename_i e1 e2
    unfold ny at h;rename_i hh bb;cases hb:Nat.ble hh l&&Nat.ble bb hh<;>rw[hb]at h<;>cases h;simp only[QB,As]at hb;refine⟨.string ((strOf l m).extract bb hh),?_,?_⟩
    .have hr:=B6 (S:=S) (w:=w) (isS:=false) (l:=l) (c:=l) hg hf e1 e2 hb.1 hb.2
     simp[Instr.sliceAt,Instr.slice,Ad hd,hv,A7,hr]
    .rw[Xs hb.1 hb.2]
     exact .s (YF _ (YY (by simp)))
   .cases h
  .cases h
 .rename_i e n b z hT
  have hd:=(hS.T t _ hT).slice rfl;unfold EY at h
  split at h
  .split at h
   case h_2=>cases h
   rename_i sz fA;obtain⟨te,jC,_⟩:=Do fA;have aM:=(hS.T e te jC).sizeOf w;unfold NO at h
   split at h
   .rename_i hh bb e1 e2
    unfold nz at h;cases hb:Nat.beq hh 0&&Nat.beq bb 0<;>rw[hb]at h<;>cases h;simp only[QB,beq_iff]at hb;obtain⟨rfl,rfl⟩:=hb;have hr:=B6 (S:=S) (w:=w) (isS:=true) (l:=0) (c:=0) hg hf e1 e2 (QK _) (QK _);exact⟨.slice none 0 0,by simp[Instr.sliceAt,Instr.slice,Ad hd,hx.eR,hr,aM],.ns⟩
   .cases h
  .rename_i r g off l sz cap
   cases hs:AS S.en e sz<;>rw[hs]at h<;>simp only[cond_true,cond_false]at h
   .cases h
   obtain⟨te,jC,rfl⟩:=Aho hs;have aT:=(hS.T e te jC).sizeOf w;obtain⟨L,ad,c,hL,cZ,hz,fR,fQ,qW,lY,mW,hv⟩:=hx.aS;unfold tz at h
   split at h
   .rename_i hh bb e1 e2
    split at h
    .rename_i m
     split at h
     .rename_i mm H e3
      obtain⟨k0,hM⟩:=Hu e3 (Ay hg hf m);unfold n9 at h;cases hb:(Nat.ble mm (bif Nat.beq cap 0 then l else Nat.sub cap 1)&&Nat.ble hh mm&&Nat.ble bb hh)<;>rw[hb]at h<;>cases h;simp only[QB,As]at hb;obtain⟨⟨b1,b2⟩,b3⟩:=hb;have pQ:mm<=c:=by
       cases nM:Nat.beq cap 0
       .rw[nM]at b1
        obtain⟨k,rfl⟩:∃k,cap=k+1:=⟨cap-1,by
         have:cap≠0:=λe=>by subst e;cases nM
         omega⟩
        rw[mW k rfl];exact b1
       .rw[nM]at b1;exact XO b1 qW
      have hr:=Ab9 (S:=S) (w:=w) (l:=l) (c:=c) hg hf e1 e2 hM pQ b2 b3;exact⟨_,by simp[Instr.sliceAt,Instr.slice,Ad hd,hv,hr,aT],Th hL cZ hz fR fQ pQ b2 b3 (λe=>by cases e) (λk e=>by simpa using e)⟩
     .cases h
    .unfold Yd at h
     cases nM:Nat.beq cap 0<;>rw[nM]at h<;>simp only[cond_true,cond_false]at h
     .cases hb:(Nat.ble hh (Nat.sub cap 1)&&Nat.ble bb hh)<;>rw[hb]at h<;>cases h
      simp only[QB,As]at hb;obtain⟨k,rfl⟩:∃k,cap=k+1:=⟨cap-1,by
       have:cap≠0:=λe=>by subst e;cases nM
       omega⟩
      obtain rfl:=mW k rfl;have b1:hh<=c:=hb.1;have hr:=B6 (S:=S) (w:=w) (isS:=true) (l:=l) (c:=c) hg hf e1 e2 b1 hb.2;exact⟨_,by simp[Instr.sliceAt,Instr.slice,Ad hd,hv,hr,aT],Th hL cZ hz fR fQ (QK _) b1 hb.2 (λe=>by have e:c+1-bb=0:=e;omega) (λk e=>by have e:c+1-bb=k+1:=e;omega)⟩
     .cases hb:((bif Nat.ble hh l then true else Nat.ble hh (Ho hp r g off te.size))&&Nat.ble bb hh)<;>rw[hb]at h<;>cases h
      simp only[QB]at hb;have dH:=(beq_iff _ _).1 nM;have b1:hh<=c:=by
       cases hl:Nat.ble hh l<;>rw[hl]at hb
       .have h1:hh<=Ho hp r g off te.size:=(As _ _).1 hb.1
        unfold Ho at h1
        split at h1
        .rename_i ty tr n G fz ro mk hr
         cases hG:Nat.beq g G<;>rw[hG]at h1
         .simp at h1;omega
         .obtain rfl:=(beq_iff _ _).1 hG
          obtain⟨_,arr,gR,_,h3,_,h5⟩:=hR.of hL hr;have h6:=(h5 rfl).1;rw[lY dH];exact XO h1 (Nat.div_le_div_right (Nat.sub_le_sub_right h6 off))
        .omega
       .exact XO ((As _ _).1 hl) qW
      replace hb:_/\bb<=hh:=⟨hb.1,(As _ _).1 hb.2⟩
      have hr:=B6 (S:=S) (w:=w) (isS:=true) (l:=l) (c:=c) hg hf e1 e2 b1 hb.2;exact⟨_,by simp[Instr.sliceAt,Instr.slice,Ad hd,hv,hr,aT],Th hL cZ hz fR fQ (QK _) b1 hb.2 (λ_=>lY dH) (λk e=>by cases e)⟩
   .cases h
  .cases h
 .rename_i n e n' b z hT
  have hd:=(hS.T t _ hT).array rfl
  split at h
  .rename_i r g off
   unfold EZ at h
   split at h
   .rename_i sz hh bb fA e1 e2
    obtain⟨te,jC,aM⟩:=Do fA;have aT:=(hS.T e te jC).sizeOf w;obtain⟨L,hL,cZ,hv⟩:=hx.fL;cases pD:(Nat.ble n (Ho hp r g off (Nat.succ sz))&&Nat.ble 1 n)<;>rw[pD]at h<;>simp only[cond_true,cond_false]at h
    .cases h
    simp only[QB,As]at pD;have fR:=bp hR hL pD.1 pD.2;unfold PL at h;cases hb:(Nat.ble hh n&&Nat.ble bb hh)<;>rw[hb]at h<;>cases h;simp only[QB,As]at hb;have hr:=B6 (S:=S) (w:=w) (isS:=false) (l:=n) (c:=n) hg hf e1 e2 hb.1 hb.2;have hp:=Th (ι:=ι) (ad:=⟨L.aE,off-L.lo,none⟩) (c:=n) (m:=n) (cap':=Nat.succ (Nat.sub n bb)) hL cZ (VH sz) fR (λ_=>rfl) (QK _) hb.1 hb.2 (λe=>by cases e) (λk e=>by have e:n-bb+1=k+1:=e;omega);refine⟨_,?_,hp⟩;simp only[Instr.sliceAt,Sem.run_bind,Ad hd,Result.andThen_ok,hv,Instr.sureAddr,Sem.run_pure,UI,hr,aT,aM]
    split<;>rfl
   .cases h
  .cases h
 .cases h
theorem Q5{x:CV}{m:Nat}(h:Wo x=some m):x=.i .u8 (m:Int)/\m<256:=by
 unfold Wo at h
 split at h
 .rename_i n
  unfold q9 at h
  split at h
  .rename_i q
   cases hb:Nat.ble q 255<;>rw[hb]at h<;>cases h;exact⟨rfl,by have:=(As _ _).1 hb;omega⟩
  .cases h
 .cases h
theorem Akc{l:List CV}{ns:List Nat}{us:List Value}(h:sd Wo l=some ns)(hl:cF ι l us):ns.length=us.length/\∀(i n:Nat),ns[i]?=some n->us[i]?=some (Value.int .u8 (n:Int))/\n<256:=by
 obtain⟨h1,h2⟩:=Aka Wo l ns h;refine⟨by rw[h1,hl.1],λi n hn=>?_⟩;have aA:i<l.length:=by rw[<-h1];exact (List.getElem?_eq_some_iff.1 hn).1
 have hx:=h2 i l[i] (QA aA);rw[hn]at hx;obtain⟨u,hu,hr⟩:=hl.get (QA aA);rw[hu]
 generalize l[i]=x at hx hr
 obtain⟨rfl,hm⟩:=Q5 hx;exact⟨by rw[hr.fM],hm⟩
theorem Ic:∀(ns:List Nat),(∀n∈ns,n<256)->Kr ns<256 ^ ns.length/\iH ns.length (Kr ns)=ns.map UInt8.ofNat
 | [],_=>⟨by simp[Kr],rfl⟩
 |n :: ns,h=>by
  obtain⟨h1,h2⟩:=Ic ns (λm hm=>h m (QX _ hm));have hn:=h n (QY ..);have e:Kr (n :: ns)=n+256 * Kr ns:=rfl;refine⟨by rw[e,QT,YZ];omega,?_⟩;simp only[QT,iH,UE];rw[e,show (n+256 * Kr ns) % 256=n by omega,show (n+256 * Kr ns) / 256=Kr ns by omega,h2]
theorem Zx(hR:Rd S ι hp w){r g off l n:Nat}{L:Loc}(h:Xb hp r g off l=some n)(hL:ι r g=some L)(cZ:L.lo<=off):
  ∃ns:List Nat,ns.length=l/\Kr ns=n/\∀(i m:Nat),ns[i]?=some m->w.cell? ⟨L.aE,off-L.lo+i,none⟩=some (Value.int .u8 (m:Int))/\m<256:=by
 unfold Xb at h
 split at h
 .rename_i ho
  split at h
  .rename_i cs hc
   split at h
   .rename_i ns WD
    cases h;obtain⟨us,h1,h2,_,h4⟩:=(hR.of hL ho).cells cZ hc;obtain⟨h5,h6⟩:=Akc WD h2;exact⟨ns,by rw[h5,h1],rfl,λi m hm=>⟨h4 i _ (h6 i m hm).1,(h6 i m hm).2⟩⟩
   .cases h
  .cases h
 .cases h
theorem Zu{P:Program}(w:World):∀(ns:List Nat) (acc:ByteArray),(forIn (ns.map λ(m:Nat)=>Value.int .u8 (m:Int)) acc λ(c:Value) (s:ByteArray)=>(match c with
   |.int .u8 n=>pure (ForInStep.yield (s.push (UInt8.ofNat n.toNat)))
   |_=>(do
    let _<-(stuck "bytesToString: byte expected":Sem PUnit)
    pure (ForInStep.yield s)):Sem (ForInStep ByteArray))).run P w=.ok ⟨acc.data++(ns.map UInt8.ofNat).toArray⟩ w:=by
 intro ns
 induction ns with
 |nil=>intro acc;simp
 |cons n ns ih =>
  intro acc;simp only[UE,List.forIn_cons,Sem.run_bind,Sem.run_pure,Result.andThen_ok];have:=ih (acc.push (UInt8.ofNat n));simp only[ZP]at this ⊢;rw[this];congr 1;apply ByteArray.ext;simp[ByteArray.push]
theorem Ao7(hR:Rd S ι hp w){x v:CV}{u:Value}(h:MS hp x=some v)(hx:VR ι x u):∃u',(Conv.bytesToString u).run S.P w=.ok u' w/\VR ι v u':=by
 unfold MS at h
 split at h
 .cases h
  rw[hx.eR];refine⟨.string .empty,rfl,?_⟩;have:(ByteArray.empty:ByteArray)=strOf 0 0:=rfl;rw[this];exact .s (by simp)
 .rename_i r g off l sz cap
  split at h
  .rename_i n hn
   cases h;obtain⟨L,ad,c,hL,cZ,hz,fR,fQ,qW,_,_,rfl⟩:=hx.aS;obtain⟨ns,h1,rfl,h3⟩:=Zx hR hn hL cZ;have sS:∀m∈ns,m<256:=λm hm=>by
    obtain⟨i,hi⟩:=List.mem_iff_getElem?.1 hm;exact (h3 i m hi).2
   obtain⟨d1,d2⟩:=Ic ns sS;refine⟨.string (strOf l (Kr ns)),?_,.s (by rw[<-h1];exact d1)⟩;have yA:(loadCells ad l).run S.P w=.ok ⟨ns.map λ(m:Nat)=>Value.int .u8 (m:Int)⟩ w:=by
    by_cases sQ:l=0
    .subst sQ
     have:ns=[]:=QQ h1;subst this;rfl
    .have:=fQ (by omega)
     subst this;have:=Iz (P:=S.P) (w:=w) (b:=L.aE) (o:=off-L.lo) (us:=ns.map λ(m:Nat)=>Value.int .u8 (m:Int)) (λj u hj=>by
      rw[QP]at hj;cases hm:ns[j]? with
      |none=>rw[hm]at hj;cases hj
      |some m=>rw[hm]at hj;cases hj;exact (h3 j m hm).1)
     rw[XW,h1]at this;exact this
   have hr:=Zu (P:=S.P) w ns .empty;simp only[Conv.bytesToString,Sem.run_bind,yA,Result.andThen_ok];rw[<-Array.forIn_toList]
   erw [hr]
   simp only[Result.andThen_ok,Sem.run_pure];congr 2;apply ByteArray.ext;show _=(iH l (Kr ns)).toArray;rw[<-h1,d2];simp
  .cases h
 .cases h
end
section
variable {S:Sg} {ι:Ip} {hp:Tr CO} {w:World} {fr:Tr CV} {a:Act}
theorem Bm.pU{P:Program}{t:Nat}{ti:TI}(h:Bm P t ti)(hk:ti.k=.pU):P.underlying t=some .unsafePointer:=by
 obtain⟨d,hd,hb⟩:=h.jF;rw[hk]at hb;cases d<;>simp only[Bp,QR]at hb;exact hd
theorem Bm.ptr{P:Program}{t:Nat}{ti:TI}(h:Bm P t ti){e:Nat}(hk:ti.k=.ptr e):P.underlying t=some (.pointer e):=by
 obtain⟨d,hd,hb⟩:=h.jF;rw[hk]at hb;cases d<;>simp only[Bp,QR,XI]at hb;rw[hd,hb]
theorem Uj{P:Program}{w:World}{b o:Nat}{arr:Array Value}{ty:TypeId}{fz:Nat×Nat}(h:w.heap[b]?=some (.cells arr ty fz)):(Conv.seenAt ⟨b,o,none⟩).run P w=.ok ⟨b,o,none⟩ w:=by
 simp[Conv.seenAt,viewAt,shape,Sem.run,World.shape?,h]
theorem Ao5(hS:eH S){s d:Nat}{k:IntKind}{x v:CV}{u:Value}(hd:S.P.underlying d=some (.int k))(h:Ao6 S.en s k x=some v)(hx:VR ι x u):∃u',(convert s d u).run S.P w=.ok u' w/\VR ι v u':=by
 unfold Ao6 at h
 split at h
 .rename_i k' n
  split at h
  .rename_i ti hT
   cases h;obtain⟨ds,hs,_⟩:=(hS.T s ti hT).jF;rw[hx.fM];refine⟨.int k (k.wrap n),?_,by rw[yu];exact .i _ _⟩;simp[convert,Ad hs,Ad hd,Conv.intToInt]
  .cases h
 .cases h
theorem Ao3(hS:eH S)(hR:Rd S ι hp w){s d:Nat}{x v:CV}{u:Value}(hd:S.P.underlying d=some .string)(h:PG S.en hp s x=some v)(hx:VR ι x u):∃u',(convert s d u).run S.P w=.ok u' w/\VR ι v u':=by
 unfold PG at h
 split at h
 .rename_i n b z hT
  have hs:=(hS.T s _ hT).string rfl
  split at h
  .cases h
   obtain⟨rfl,hn⟩:=hx.fJ;exact⟨_,by simp[convert,Ad hs,Ad hd],hx⟩
  .cases h
 .rename_i e n b z hT
  have hs:=(hS.T s _ hT).slice rfl
  split at h
  .rename_i n' b' z' jC
   have he:=(hS.T e _ jC).int rfl;obtain⟨u',h1,h2⟩:=Ao7 hR h hx;have hu:∃q l c,u=.slice q l c:=by
    unfold MS at h
    split at h
    .exact⟨_,_,_,hx.eR⟩
    .obtain⟨_,_,_,_,_,_,_,_,_,_,_,rfl⟩:=hx.aS;exact⟨_,_,_,rfl⟩
    .cases h
   obtain⟨q,l,c,rfl⟩:=hu;exact⟨u',by simp[convert,Ad hs,Ad hd,Ad he,h1],h2⟩
  .cases h
 .cases h
theorem Ao2(hS:eH S)(hR:Rd S ι hp w){s d:Nat}{x v:CV}{u:Value}(hd:S.P.underlying d=some .unsafePointer)(h:PD S.en hp s x=some v)(hx:VR ι x u):∃u',(convert s d u).run S.P w=.ok u' w/\VR ι v u':=by
 unfold PD at h
 split at h
 .rename_i t n b z hT
  have hs:=(hS.T s _ hT).ptr rfl
  split at h
  .cases h
   rw[hx.kR];exact⟨_,by simp[convert,Ad hs,Ad hd,Conv.unsafePointer],.np⟩
  .rename_i r g off
   split at h
   .rename_i sz ty tr n' G fz ro mk aM hr
    split at h
    .rename_i c hc
     cases h;obtain⟨te,jC,nW⟩:=Do aM;have aT:=(hS.T t te jC).sizeOf w;obtain⟨L,hL,cZ,rfl⟩:=hx.fL;obtain⟨_,arr,gR,h1,h2,h3,_⟩:=hR.of hL hr;obtain⟨cw,q1,q2,_⟩:=J9 hc;obtain⟨v',q3,_⟩:=(h3 off cw q1).2.2.2 q2 cZ;have aA:off-L.lo<arr.size:=(Array.getElem?_eq_some_iff.1 q3).1;refine⟨_,?_,hx⟩;have OA:=Uj (P:=S.P) (o:=off-L.lo) h1;have kF:(cellsIn L.aE).run S.P w=.ok (some arr.size) w:=by simp[cellsIn,shape,Sem.run,World.shape?,h1]
     have nN:¬arr.size<=off-L.lo:=by omega
     simp[convert,Ad hs,Ad hd,Conv.unsafePointer,OA,kF,aT,nW,nN]
    .cases h
   .cases h
  .cases h
 .cases h
theorem Agi{P:Program}{u count:Nat}(hc:P.cellsOf u≠0)(h:1<=count):liesAt P P.depth u count 0 u 1=true:=by
 have hd:P.depth=(2 * (P.types.size+Made.depth)+1)+1:=rfl;rw[hd];simp only[liesAt,ZB]
 left
 rw[hd];simp[rowAt,hc,h,sameLayout]
theorem Ao4(hS:eH S)(hR:Rd S ι hp w){s d e:Nat}{x v:CV}{u:Value}(hd:S.P.underlying d=some (.pointer e))(h:PF S.en hp s e x=some v)(hx:VR ι x u):∃u',(convert s d u).run S.P w=.ok u' w/\VR ι v u':=by
 unfold PF at h
 split at h
 .rename_i n b z hT
  have hs:=(hS.T s _ hT).pU rfl
  split at h
  .cases h
   rw[hx.kR];exact⟨_,by simp[convert,Ad hs,Ad hd,Conv.unsafePointer],.np⟩
  .rename_i r g off
   split at h
   .rename_i sz ty tr n' G fz ro mk aM hr
    split at h
    .rename_i c hc
     cases hb:(Nat.beq off 0&&Nat.beq ty e)<;>rw[hb]at h<;>cases h;simp only[QB,beq_iff]at hb;obtain⟨rfl,rfl⟩:=hb;obtain⟨te,jC,nW⟩:=Do aM;have iT:=hS.T ty te jC;have aT:=iT.sizeOf w;obtain⟨L,hL,cZ,rfl⟩:=hx.fL;obtain⟨_,arr,gR,h1,h2,h3,_⟩:=hR.of hL hr;obtain⟨cw,q1,q2,_⟩:=J9 hc;obtain⟨v',q3,_⟩:=(h3 sz cw q1).2.2.2 q2 (by omega);have aA:sz-L.lo<arr.size:=(Array.getElem?_eq_some_iff.1 q3).1;have fa:L.lo=0:=by omega
     have bQ:S.P.cellsOf ty=sz+1:=by
      obtain⟨i,z,hi,h1,_⟩:=iT.info;simp[Program.cellsOf,hi,h1,nW]
     refine⟨_,?_,hx⟩;have OA:=Uj (P:=S.P) (o:=0-L.lo) h1;have hv:(variablesAt ⟨L.aE,0-L.lo,none⟩ ty 1).run S.P w=.ok true w:=by
      have hl:=Agi (P:=S.P) (u:=ty) (count:=arr.size / S.P.cellsOf ty) (by omega) (by
       rw[bQ];exact (Nat.le_div_iff_mul_le (by omega)).2 (by omega))
      simp[variablesAt,shape,Sem.run,World.shape?,h1,fa,hl]
     simp only[Nat.zero_sub]at OA hv ⊢;simp[convert,Ad hs,Ad hd,Conv.unsafePointer,OA,aT,nW,hv]
    .cases h
   .cases h
  .cases h
 .cases h
theorem Aen(hS:eH S)(hR:Rd S ι hp w){s d:Nat}{x v:CV}{u:Value}(h:Po S.en hp s d x=some v)(hx:VR ι x u):∃u',(convert s d u).run S.P w=.ok u' w/\VR ι v u':=by
 unfold Po at h
 split at h
 .rename_i k n b z hT;exact Ao5 hS ((hS.T d _ hT).int rfl) h hx
 .rename_i n b z hT;exact Ao3 hS hR ((hS.T d _ hT).string rfl) h hx
 .rename_i n b z hT;exact Ao2 hS hR ((hS.T d _ hT).pU rfl) h hx
 .rename_i e n b z hT;exact Ao4 hS hR ((hS.T d _ hT).ptr rfl) h hx
 .cases h
theorem x8(hS:eH S)(hR:Rd S ι hp w)(hg:GR S ι)(hf:FR ι fr a.tmps){o:Oper}{s d:Nat}{X:Operand}{v:CV}(ho:o.op=.convert s d X)(h:Po S.en hp s d (ev S.en fr X)=some v):Bi S ι w a o v :=
 Bi.of (Aen hS hR h (Ay hg hf X)) (by simp[execOp,ho])
theorem il(hS:eH S)(hg:GR S ι)(hf:FR ι fr a.tmps){o:Oper}{t:Nat}{X:Operand}{v:CV}(ho:o.op=.makeInterface t X)(h:RE S.en t X fr=some v):Bi S ι w a o v:=by
 unfold RE at h
 split at h
 .cases h
 .rename_i ti wo hT
  cases h;obtain⟨d,hd,hn⟩:=(hS.T t ti hT).wZ (λe=>by
   obtain⟨k,n,b,z⟩:=ti;subst e;exact wo _ _ _ rfl)
  refine Bi.of (s:=Instr.makeInterface t (a.eval X)) ⟨_,?_,.ifc (Ay hg hf X)⟩ (by simp[execOp,ho]);simp only[Instr.makeInterface,Sem.run_bind,Ad hd,Result.andThen_ok];cases d<;>first|rfl|exact (hn _ rfl).elim
 .cases h
theorem x7(hg:GR S ι)(hf:FR ι fr a.tmps){o:Oper}{f:Fn}{A C:Array Operand}{v:CV}(ho:o.op=.makeFunc f A C)(h:PH S.en f A C fr=some v):Bi S ι w a o v:=by
 unfold PH at h
 split at h
 .rename_i f0 g
  cases h;have h1:=Pm hg hf A.toList;have h2:=Pm hg hf C.toList;refine Bi.of (s:=Instr.makeFunc (.func g) (A.map a.eval) (C.map a.eval)) ⟨_,rfl,?_⟩ (by simp[execOp,ho]);have e1:A.map a.eval=⟨A.toList.map a.eval⟩:=by apply XN;simp
  have e2:C.map a.eval=⟨C.toList.map a.eval⟩:=by apply XN;simp
  rw[e1,e2];exact .f h1.1 h1.2 h2.1 h2.2
 .cases h
theorem Apc{x:CV}{v:Value}(hx:Ant x=false)(h:VR ι x v):cF ι x.cells v.cells.toList:=by
 refine Za h (λus e=>?_);subst e;cases h with
 |bot=>cases hx
 |agg _ _=>exact⟨_,rfl⟩
theorem bz{cs vs:List CV}{C us:List Value}(h:cF ι cs C)(hv:cF ι vs us)(off:Nat):cF ι (B9 cs vs off) (C.take off++(us++C.drop (off+us.length))):=by
 rw[b9,hv.1];exact (h.take off).app (hv.app (h.drop _))
theorem Jd:∀(us:List Value) (C:List Value) (off k:Nat),off+k+us.length<=C.length->
  (us.zipIdx k).foldl (λ(cs:Array Value) (c:Value×Nat)=>cs.setIfInBounds (off+c.2) c.1) ⟨C⟩=⟨C.take (off+k)++(us++C.drop (off+k+us.length))⟩
 | [],C,off,k,_=>by simp
 |u :: us,C,off,k,h=>by
  simp only[List.zipIdx_cons,UA,QT]at h ⊢;have e:(⟨C⟩:Array Value).setIfInBounds (off+k) u=⟨C.set (off+k) u⟩:=by simp
  rw[e,Jd us _ off (k+1) (by simp;omega)];congr 1;have aA:off+k<C.length:=by omega
  rw[show off+(k+1)=off+k+1 by omega];rw[List.take_set,List.drop_set_of_lt (by omega),show off+k+1+us.length=off+k+(us.length+1) by omega];have:(C.take (off+k+1)).set (off+k) u=C.take (off+k)++[u]:=by
   rw[List.take_succ_eq_append_getElem aA,List.set_append_right _ _ (by simp;omega)];simp[Nat.min_eq_left (Nat.le_of_lt aA)]
  rw[this];simp
theorem Mg{place:Nat->Option (Nat×Nat)}{C:List Value}{i off n:Nat}{v:Value}{ps:List (Nat×Value)}(hp:place i=some (off,n))(hn:v.cells.size=n)(hle:off+n<=C.length):
  Instr.fill place ⟨C⟩ ((i,v) :: ps)=Instr.fill place ⟨C.take off++(v.cells.toList++C.drop (off+v.cells.toList.length))⟩ ps:=by
 have hf:=Jd v.cells.toList C off 0 (by simp;omega);simp only[ZA]at hf;have hz:v.cells.zipIdx.foldl (λ(cs:Array Value) (c:Value×Nat)=>cs.setIfInBounds (off+c.2) c.1) ⟨C⟩=⟨C.take off++(v.cells.toList++C.drop (off+v.cells.toList.length))⟩:=by
  rw[<-hf,<-Array.foldl_toList];congr 1;simp
 simp only[Instr.fill,hp];rw[QD (by simp;omega)];rw[<-hz]
theorem Adz{place:Nat->Option (Nat×Nat)}{cs:List CV}{C:List Value}{x:CV}{v:Value}{i off n:Nat}{ih:List CV->Option (List CV)}{r:List CV}{ps:List (Nat×Value)}(hp:place i=some (off,n))(h:M4 cs x off n ih=some r)(hc:cF ι cs C)(hv:VR ι x v):
  ∃dK C',ih dK=some r/\cF ι dK C'/\Instr.fill place ⟨C⟩ ((i,v) :: ps)=Instr.fill place ⟨C'⟩ ps:=by
 unfold M4 at h;cases hb:(!Ant x&&Nat.beq (len x.cells) n&&Nat.ble (Nat.add off n) (len cs))<;>rw[hb]at h<;>simp only[cond_true,cond_false]at h
 .cases h
 simp only[QB,XK,beq_iff,As,B7]at hb;obtain⟨⟨h1,h2⟩,h3⟩:=hb;have hr:=Apc h1 hv;have aM:v.cells.size=n:=by rw[<-h2,hr.1];simp
 exact⟨_,_,h,bz hc hr off,Mg hp aM (by rw[<-hc.1];exact h3)⟩
theorem Ady(hS:eH S)(hg:GR S ι)(hf:FR ι fr a.tmps){fs:List (Nat×Nat)}{place:Nat->Option (Nat×Nat)}(hp:∀i off ft n,nth fs i=some (off,ft)->Ez S.en ft=some n->place i=some (off,n)):
  ∀(ps:List (Nat×Operand)) (cs r:List CV) (C:List Value),dI S.en fs fr ps cs=some r->cF ι cs C->∃C',Instr.fill place ⟨C⟩ (ps.map λp=>(p.1,a.eval p.2))=some ⟨C'⟩/\cF ι r C'
 | [],cs,r,C,h,hc=>by cases h;exact⟨C,rfl,hc⟩
 |p :: ps,cs,r,C,h,hc=>by
  replace h:(match nth fs p.1 with|none=>none|some (off,ft)=>match Ez S.en ft with|none=>none|some n=>M4 cs (ev S.en fr p.2) off n (dI S.en fs fr ps))=some r:=h
  split at h
  .cases h
  .rename_i off ft hn
   split at h
   .cases h
   .rename_i n aM
    obtain⟨dK,C',h1,h2,h3⟩:=Adz (hp _ _ _ _ hn aM) h hc (Ay hg hf p.2) (ps:=ps.map λp=>(p.1,a.eval p.2));obtain⟨C'',h4,h5⟩:=Ady hS hg hf hp ps dK r C' h1 h2;exact⟨C'',by rw[UE,h3,h4],h5⟩
theorem V9(hg:GR S ι)(hf:FR ι fr a.tmps){sz:Nat}:
  ∀(ps:List (Nat×Operand)) (cs r:List CV) (C:List Value),Hy S.en sz fr ps cs=some r->cF ι cs C->∃C',Instr.fill (λi=>some (i * sz,sz)) ⟨C⟩ (ps.map λp=>(p.1,a.eval p.2))=some ⟨C'⟩/\cF ι r C'
 | [],cs,r,C,h,hc=>by cases h;exact⟨C,rfl,hc⟩
 |p :: ps,cs,r,C,h,hc=>by
  replace h:M4 cs (ev S.en fr p.2) (Nat.mul p.1 sz) sz (Hy S.en sz fr ps)=some r:=h
  obtain⟨dK,C',h1,h2,h3⟩:=Adz (place:=λi=>some (i * sz,sz)) (i:=p.1) rfl h hc (Ay hg hf p.2) (ps:=ps.map λp=>(p.1,a.eval p.2));obtain⟨C'',h4,h5⟩:=V9 hg hf ps dK r C' h1 h2;exact⟨C'',by rw[UE,h3,h4],h5⟩
theorem Gc{Q:Program}:∀(fs:List Field),(∀f∈fs,∃i,Q.info? f.type=some i)->∃places:List (Nat×Nat),fs.mapM (λ(f:Field)=>(Q.info? f.type).map λi=>(f.offset,i.size))=some places/\∀i:Nat,places[i]?=(fs[i]?).bind λ(f:Field)=>(Q.info? f.type).map λj=>(f.offset,j.size)
 | [],_=>⟨[],by simp,by simp⟩
 |f :: fs,h=>by
  obtain⟨i,hi⟩:=h f (QY ..);obtain⟨ps,h1,h2⟩:=Gc (Q:=Q) fs (λf hf=>h f (QX _ hf));refine⟨(f.offset,i.size) :: ps,by simp[hi,h1],λj=>?_⟩;cases j with
  |zero=>simp[hi]
  |succ j=>simp[h2]
theorem iu(hS:eH S)(hg:GR S ι)(hf:FR ι fr a.tmps){o:Oper}{t:Nat}{ps:Array (Nat×Operand)}{v:CV}(ho:o.op=.build t ps)(h:RC S.en t ps.toList fr=some v):Bi S ι w a o v:=by
 refine Bi.of (s:=Instr.build t (ps.map λ(i,x)=>(i,a.eval x))) ?_ (by simp[execOp,ho]);have e0:(ps.map λ(i,x)=>(i,a.eval x)).toList=ps.toList.map λp=>(p.1,a.eval p.2):=by simp
 unfold RC at h
 split at h
 .rename_i fs n b z hT
  have cY:=hS.T t _ hT;obtain⟨fields,hd,CA,jP⟩:=cY.struct rfl;obtain⟨i,z',hi,_,_,ef,jI,_⟩:=cY.info;have xC:=(N5 (ι:=ι) jI).1;obtain⟨places,p1,p2⟩:=Gc (Q:=S.P) fields.toList jP;unfold lz at h
  split at h
  .rename_i cs cV
   cases h;obtain⟨C',h1,h2⟩:=Ady hS hg hf (place:=(places.toArray[·]?)) (λi off ft m hn aM=>by
    obtain⟨fd,q1,q2,q3⟩:=Fw CA hn;obtain⟨te,jC,nW⟩:=Do aM;obtain⟨inf,zz,hi,yG,_⟩:=(hS.T ft te jC).info;subst q3;simp only[ZW];rw[p2 i,QG,q1];simp[hi,q2,yG,nW]) ps.toList z cs _ cV xC
   exact⟨.agg ⟨C'⟩,run_build w t _ ⟨C'⟩ (by rw[e0];simp only[Program.built,hi,hd,ef,p1];exact h1),.sY h2⟩
  .cases h
 .rename_i n e n' b z hT
  have cY:=hS.T t _ hT;have hd:=cY.array rfl;obtain⟨i,z',hi,_,_,ef,jI,_⟩:=cY.info;have xC:=(N5 (ι:=ι) jI).1
  split at h
  .rename_i sz aM
   obtain⟨te,jC,rfl⟩:=Do aM;obtain⟨ie,ze,IG,eE,_⟩:=(hS.T e te jC).info;unfold lz at h
   split at h
   .rename_i cs cV
    cases h;obtain⟨C',h1,h2⟩:=V9 hg hf ps.toList z cs _ cV xC;exact⟨.agg ⟨C'⟩,run_build w t _ ⟨C'⟩ (by rw[e0];simp only[Program.built,hi,hd,ef,IG,eE];exact h1),.sY h2⟩
   .cases h
  .cases h
 .cases h
theorem O3{k:TK}{d:TypeDesc}{x y:CV}{u v:Value}{b:Bool}(hk:AO k x=true)(hd:Bp S.P k d=true)(h:jn 6 x y=some b)(hx:VR ι x u)(hy:VR ι y v):Instr.sameNow d u v=some b:=by
 unfold AO at hk
 split at hk<;>first|(cases hk;done)|(split at hk<;>first|(cases hk;done)|skip)
 .rename_i j n _ k'
  cases d<;>simp only[Bp,QR]at hd;cases y<;>first|(cases h;done)|skip
  rename_i j' m;rw[hx.fM,hy.fM]
  replace h:(bif pT j j' then some (vP n m) else none)=some b:=h
  cases hj:pT j j'<;>rw[hj]at h<;>cases h;obtain rfl:=J8.1 hj;simp[Instr.sameNow,Nu]
 .cases d<;>simp only[Bp,QR]at hd
  cases y<;>first|(cases h;done)|skip
  obtain⟨rfl,h1⟩:=hx.fJ;obtain⟨rfl,h2⟩:=hy.fJ;cases h;have hb:=L0 h1 h2;simp only[Instr.sameNow];rw[beq_toListBytes,hb]
 .cases d<;>simp only[Bp,QR]at hd
  cases y<;>first|(cases h;done)|skip
  cases h;rw[hx.jD,hy.jD];simp only[Instr.sameNow];exact (by decide:∀s t:Bool,some (s==t)=some (bif s then t else !t)) _ _
theorem Yr{k:TK}{d:TypeDesc}{t:TypeId}{x:CV}{u:Value}{e:Bool}(hk:AO k x=true)(ht:S.P.underlying t=some d)(hd:Bp S.P k d=true):(Instr.checkKey e 10000 t u).run S.P w=.ok () w:=by
 have h2:(∃i,d=.int i)\/d=.string\/d=.bool:=by
  unfold AO at hk
  split at hk<;>first|(cases hk;done)|(split at hk<;>first|(cases hk;done)|skip)
  all_goals cases d<;>simp[Bp]at hd<;>simp
 show (Instr.checkKey e (9999+1) t u).run S.P w=.ok () w
 generalize 9999=n
 simp only[Instr.checkKey,Sem.run_bind,Ad ht,Result.andThen_ok];rcases h2 with⟨i,rfl⟩|rfl|rfl<;>cases u<;>rfl
theorem Vc{k:TK}{d:TypeDesc}{x:CV}{u:Value}(hk:AO k x=true)(hd:Bp S.P k d=true)(hx:VR ι x u):∀(es:List (CV×CV)) (ms:List MapEntry) (i:Nat) (r:Option CV),es.length=ms.length->
  (∀(i:Nat) (e:CV×CV) (m:MapEntry),es[i]?=some e->ms[i]?=some m->VR ι e.1 m.key/\VR ι e.2 m.val)->Ane x es=some r->
  ∃q,Instr.findNow d u ms i=some q/\(match r with|none=>q=none|some v=>∃j uv,q=some (j,uv)/\VR ι v uv)
 | [],[],i,r,_,_,h=>by cases h;exact⟨none,rfl,rfl⟩
 |e :: es,m :: ms,i,r,hl,hr,h=>by
  replace h:(match jn 6 x e.1 with|some true=>some (some e.2)|some false=>Ane x es|none=>none)=some r:=h
  have hm:=hr 0 e m rfl rfl
  split at h
  .rename_i he
   cases h;exact⟨some (i,m.val),by simp[Instr.findNow,O3 hk hd he hx hm.1],_,_,rfl,hm.2⟩
  .rename_i he
   obtain⟨q,h1,h2⟩:=Vc hk hd hx es ms (i+1) r (by simpa using hl) (λj e' m' a b=>hr (j+1) e' m' (by simpa using a) (by simpa using b)) h;exact⟨q,by simp[Instr.findNow,O3 hk hd he hx hm.1,h1],h2⟩
  .cases h
theorem Alv(hS:eH S){t:Nat}{z:CV}(h:Alw S.en t=some z):∃u,(zeroValue t).run S.P w=.ok u w/\VR ι z u:=by
 unfold Alw at h
 split at h
 .rename_i fs n b z' hT
  cases h;obtain⟨u,h1,_,_,_,h2⟩:=(hS.T t _ hT).zero ι w;exact⟨u,h1,h2⟩
 .rename_i m e n b z' hT
  cases h;obtain⟨u,h1,_,_,_,h2⟩:=(hS.T t _ hT).zero ι w;exact⟨u,h1,h2⟩
 .rename_i k n b v BG sH hT
  cases h;obtain⟨u,h1,_,_,_,h2⟩:=(hS.T t _ hT).zero ι w;have:Fe k=false:=by
   cases k<;>first|rfl|exact (BG _ rfl).elim|exact (sH _ _ rfl).elim
  rw[show Fe (TI.mk k n b [z]).k=false from this]at h2;exact⟨u,h1,h2⟩
 .cases h
theorem Z7{ok is:Bool}{v:CV}{u:Value}(h:VR ι v u):VR ι (NU ok v is) (if ok then .tuple #[u,.bool is] else u):=by
 cases ok
 .exact h
 .exact .nS (.cons h (.cons (.b _) .nil))
theorem xy(hS:eH S)(hR:Rd S ι hp w)(hg:GR S ι)(hf:FR ι fr a.tmps){o:Oper}{t:Nat}{X Y:Operand}{ok:Bool}{v:CV}(ho:o.op=.lookup t X Y ok)(h:NB S.en t X Y ok hp fr=some v):Bi S ι w a o v:=by
 refine Bi.of (s:=Instr.lookup t (a.eval X) (a.eval Y) ok) ?_ (by simp[execOp,ho]);have hx:=Ay hg hf X;have hy:=Ay hg hf Y;unfold NB at h
 split at h
 .rename_i kt e n b z hT
  have hd:=(hS.T t _ hT).map rfl
  split at h
  .rename_i zv hz
   obtain⟨uz,jT,lF⟩:=Alv hS (w:=w) (ι:=ι) hz;cases hk:Vo S.en kt (ev S.en fr Y)<;>rw[hk]at h<;>simp only[cond_true,cond_false]at h
   .cases h
   unfold Vo at hk
   split at hk
   .rename_i tk hTk
    obtain⟨dk,fq,pG⟩:=(hS.T kt tk hTk).jF;have vH:∀e,(Instr.checkKey e 10000 kt (a.eval Y)).run S.P w=.ok () w:=λe=>Yr (e:=e) hk fq pG
    generalize ev S.en fr X=x at h hx
    unfold NG at h
    split at h
    .cases h
     rw[hx.kS];refine⟨_,?_,Z7 lF⟩;simp[Instr.lookup,Ad hd,vH,Instr.findKey,Ad fq,Instr.findNow,jT]
    .rename_i r
     obtain⟨L,hL,hv⟩:=hx.qF;rw[hv]
     split at h
     .rename_i es hr
      obtain⟨_,fT,cl,q1,q2,q3⟩:=hR.of hL hr;have aU:(getObj L.aE).run S.P w=.ok (.map fT cl) w:=by simp[getObj,Sem.run,q1]
      have NT:es.length=fT.toList.length:=by rw[q2];simp
      have NS:∀(i:Nat) (e:CV×CV) (m:MapEntry),es[i]?=some e->fT.toList[i]?=some m->VR ι e.1 m.key/\VR ι e.2 m.val:=λi e m a b=>q3 i e m a (by rw[QG]at b;exact b)
      split at h
      .rename_i vv hl
       cases h;obtain⟨q,f1,j,uv,rfl,f2⟩:=Vc hk pG hy es fT.toList 0 _ NT NS hl;refine⟨_,?_,Z7 f2⟩;simp[Instr.lookup,Ad hd,aU,vH,Instr.findKey,Ad fq,f1]
      .rename_i hl
       cases h;obtain⟨q,f1,rfl⟩:=Vc hk pG hy es fT.toList 0 _ NT NS hl;refine⟨_,?_,Z7 lF⟩;simp[Instr.lookup,Ad hd,aU,vH,Instr.findKey,Ad fq,f1,jT]
      .cases h
     .cases h
    .cases h
   .cases hk
  .cases h
 .cases h
theorem E4{o:Oper}{c:Call}{b:Builtin}(ho:o.op=.call c)(hc:c.callee=.builtin b){f:Array TypeId->TypeId->Array Value->Sem Value}(hb:∀ts ty cs vs,builtin b ts ty cs vs=(do pure (.value (<-f ts ty vs)))):
  execOp a.eval o=(do pure (.value (<-f c.argTypes o.type (c.args.map a.eval)))):=by
 simp only[execOp,ho,resolve,hc];show (do let d<-(pure _:Sem Deferred);invoke d.target d.args)=_;simp only[pure_bind];exact hb _ _ _ _
theorem Apq{c:Call}{x:Operand}(h:c.args.toList=[x]):c.args.map a.eval=#[a.eval x]:=by
 have:c.args=#[x]:=by rw[<-Array.toList_inj];exact h
 rw[this];simp
theorem Al0{c:Call}{t:TypeId}(h:c.argTypes.toList=[t]):c.argTypes=#[t]:=by rw[<-Array.toList_inj];exact h
theorem JU(hS:eH S)(hR:Rd S ι hp w)(hg:GR S ι)(hf:FR ι fr a.tmps){o:Oper}{c:Call}{v:CV}(ho:o.op=.call c)(hc:c.callee=.builtin .len)(h:ML S.en c.args.toList c.argTypes.toList hp fr=some v):Bi S ι w a o v:=by
 unfold ML at h
 split at h
 .rename_i x t ex et
  split at h
  .rename_i ti hT
   have hx:=Ay hg hf x;refine Bi.of (s:=Builtin.len_ c.argTypes o.type (c.args.map a.eval)) ?_ (E4 ho hc (f:=Builtin.len_) (λ_ _ _ _=>rfl));rw[Apq ex,Al0 et];have cY:=hS.T t ti hT
   generalize ev S.en fr x=y at h hx
   generalize a.eval x=u at hx
   unfold MM at h
   split at h
   .rename_i hk
    split at h<;>cases h
    obtain⟨rfl,_⟩:=hx.fJ;exact⟨_,by simp[Builtin.len_,Ad (cY.string hk),goInt,A7],.i _ _⟩
   .rename_i e hk
    split at h<;>cases h
    .rw[hx.eR];exact⟨_,by simp[Builtin.len_,Ad (cY.slice hk),goInt],.i _ _⟩
    .obtain⟨L,ad,c',_,_,_,_,_,_,_,_,rfl⟩:=hx.aS
     exact⟨_,by simp[Builtin.len_,Ad (cY.slice hk),goInt],.i _ _⟩
   .rename_i k e hk
    split at h
    .cases h
     rw[hx.kS];exact⟨_,by simp[Builtin.len_,Ad (cY.map hk),goInt],.i _ _⟩
    .rename_i r
     split at h<;>cases h
     rename_i es hr;obtain⟨L,hL,rfl⟩:=hx.qF;obtain⟨_,fT,cl,q1,q2,q3⟩:=hR.of hL hr;have aU:(getObj L.aE).run S.P w=.ok (.map fT cl) w:=by simp[getObj,Sem.run,q1]
     refine⟨.int .i64 (es.length:Int),?_,by rw[B7];exact .i _ _⟩;simp[Builtin.len_,Ad (cY.map hk),aU,goInt,q2]
    .cases h
   .rename_i n e hk
    cases h;exact⟨_,by simp[Builtin.len_,Ad (cY.array hk),goInt],.i _ _⟩
   .cases h
  .cases h
 .cases h
theorem JV(hS:eH S)(hg:GR S ι)(hf:FR ι fr a.tmps){o:Oper}{c:Call}{v:CV}(ho:o.op=.call c)(hc:c.callee=.builtin .cap)(h:je S.en c.args.toList c.argTypes.toList fr=some v):Bi S ι w a o v:=by
 unfold je at h
 split at h
 .rename_i x t ex et
  split at h
  .rename_i e n b z hT
   have hx:=Ay hg hf x;refine Bi.of (s:=Builtin.cap_ c.argTypes o.type (c.args.map a.eval)) ?_ (E4 ho hc (f:=Builtin.cap_) (λ_ _ _ _=>rfl));rw[Apq ex,Al0 et];have hd:=(hS.T t _ hT).slice rfl
   generalize ev S.en fr x=y at h hx
   generalize a.eval x=u at hx
   split at h<;>cases h
   .rw[hx.eR];exact⟨_,by simp[Builtin.cap_,Ad hd,goInt],.i _ _⟩
   .obtain⟨L,ad,c',_,_,_,_,_,_,_,mW,rfl⟩:=hx.aS
    have:=mW _ rfl;subst this;exact⟨_,by simp[Builtin.cap_,Ad hd,goInt],.i _ _⟩
  .cases h
 .cases h
theorem Adt{mx:Bool}{y x v:CV}{xs:List CV}(h:Vy mx (y :: xs) x=some v):∃k p q,x=.i k p/\y=.i k q/\Vy mx xs (.i k (bif (bif mx then tW q p else tW p q) then p else q))=some v:=by
 replace h:(match (generalizing:=false) x,y with
   |.i k a,.i k' c=>bif pT k k' then Vy mx xs (.i k (bif (bif mx then tW c a else tW a c) then a else c)) else none
   |_,_=>none)=some v:=h
 split at h
 .rename_i k p k' q
  cases hk:pT k k'<;>rw[hk]at h<;>simp only[cond_true,cond_false]at h
  .cases h
  obtain rfl:=J8.1 hk;exact⟨k,p,q,rfl,rfl,h⟩
 .cases h
theorem Yz{mx:Bool}:∀(xs:List CV) (us:List Value) (x v:CV) (u:Value),cF ι xs us->VR ι x u->Vy mx xs x=some v->
  ∃u',(us.foldlM (if mx then Builtin.max2 else Builtin.min2) u).run S.P w=.ok u' w/\VR ι v u'
 | [],us,x,v,u,hl,hx,h=>by
  cases h;rw[hl.fU];exact⟨u,rfl,hx⟩
 |y :: xs,us,x,v,u,hl,hx,h=>by
  obtain⟨uy,lC,rfl,hy,iA⟩:=hl.cons_inv;obtain⟨k,p,q,rfl,rfl,h'⟩:=Adt h;rw[hx.fM,hy.fM];obtain⟨u',h1,h2⟩:=Yz xs lC _ v _ iA (.i k _) h';refine⟨u',?_,h2⟩;rw[List.foldlM_cons];have:((if mx=true then Builtin.max2 else Builtin.min2) (.int k p) (.int k q)).run S.P w=.ok (.int k (bif (bif mx then tW q p else tW p q) then p else q)) w:=by
   cases mx
   .simp only[Builtin.min2,cond_false,QR,if_false,Qo]
    by_cases er:p<=q
    .simp[er,Int.not_lt.2 er]
    .simp[er,Int.not_le.1 er]
   .simp only[Builtin.max2,cond_true,if_true,Qo]
    by_cases er:q<=p
    .simp[er,Int.not_lt.2 er]
    .simp[er,Int.not_le.1 er]
  rw[Sem.run_bind,this];exact h1
theorem JT(hg:GR S ι)(hf:FR ι fr a.tmps){o:Oper}{c:Call}{mx:Bool}{v:CV}(ho:o.op=.call c)(hc:c.callee=.builtin (if mx then .max else .min))(h:CF S.en mx c.args.toList fr=some v):Bi S ι w a o v:=by
 unfold CF at h
 split at h
 .rename_i x xs e
  obtain⟨u',h1,h2⟩:=Yz (S:=S) (w:=w) (xs.map (ev S.en fr)) (xs.map a.eval) _ v _ (Pm hg hf xs) (Ay hg hf x) h;have ea:c.args.map a.eval=⟨a.eval x :: xs.map a.eval⟩:=by
   apply XN;simp[e]
  cases mx
  .refine Bi.of (s:=Builtin.min_ c.argTypes o.type (c.args.map a.eval)) ⟨u',?_,h2⟩ (E4 ho hc (f:=Builtin.min_) (λ_ _ _ _=>rfl))
   rw[ea];exact h1
  .refine Bi.of (s:=Builtin.max_ c.argTypes o.type (c.args.map a.eval)) ⟨u',?_,h2⟩ (E4 ho hc (f:=Builtin.max_) (λ_ _ _ _=>rfl))
   rw[ea];exact h1
 .cases h
theorem JR(hg:GR S ι)(hf:FR ι fr a.tmps){o:Oper}{c:Call}{v:CV}(ho:o.op=.call c)(hc:c.callee=.builtin .unsafeSliceData)(h:jc S.en c.args.toList fr=some v):Bi S ι w a o v:=by
 unfold jc at h
 split at h
 .rename_i x ex
  have hx:=Ay hg hf x;refine Bi.of (s:=Builtin.unsafeSliceData_ c.argTypes o.type (c.args.map a.eval)) ?_ (E4 ho hc (f:=Builtin.unsafeSliceData_) (λ_ _ _ _=>rfl));rw[Apq ex]
  generalize ev S.en fr x=y at h hx
  generalize a.eval x=u at hx
  split at h
  .cases h
   rw[hx.eR];exact⟨_,rfl,.np⟩
  .rename_i r g off l sz cap
   cases hl:Nat.beq l 0<;>rw[hl]at h<;>cases h;obtain⟨L,ad,c',hL,cZ,_,_,fQ,qW,_,_,rfl⟩:=hx.aS;have lY:c'≠0:=by
    intro e;have:l=0:=by omega
    subst this;cases hl
   have:=fQ (by omega);subst this;exact⟨_,Lib.run_unsafeSliceData_row w _ _ _ _ _ lY,.p hL cZ⟩
  .cases h
 .cases h
theorem An5(hS:eH S)(hR:Rd S ι hp w)(hg:GR S ι)(hf:FR ι fr a.tmps){o:Oper}{v:CV}(h:oU S.en hp fr o=some v):Bi S ι w a o v:=by
 unfold oU at h;cases ho:o.op<;>rw[ho]at h<;>simp only[ru]at h<;>first|(cases h;done)|skip
 case move x=>cases h;exact⟨a.eval x,by simp[execOp,ho],Ay hg hf x⟩
 case assign x=>cases h;exact⟨a.eval x,by simp[execOp,ho],Ay hg hf x⟩
 case pick c x y=>exact xx hg hf ho h
 case binOp op t x y yt=>exact JW hS hg hf ho h
 case unOp op t x=>exact ac8 hg hf ho h
 case load t x=>exact xz hS hR hg hf ho h
 case fieldAddr t x f=>exact An1 hS hg hf ho h
 case field t x f=>exact iq hS hg hf ho h
 case indexAddr t x y=>exact An0 hS hg hf ho h
 case index t x y=>exact ik hS hg hf ho h
 case extract x i=>exact Ak3 hg hf ho h
 case nilCheck x=>exact JS hg hf ho h
 case slice t x lo hi mx=>exact ij hS hR hg hf ho h
 case convert s d x=>exact x8 hS hR hg hf ho h
 case makeInterface t x=>exact il hS hg hf ho h
 case makeFunc f A C=>exact x7 hg hf ho h
 case build t ps=>exact iu hS hg hf ho h
 case lookup t x y ok=>exact xy hS hR hg hf ho h
 case call c =>
  split at h
  .rename_i b hc
   cases b<;>simp only[MN]at h<;>first|(cases h;done)|skip
   .exact JV hS hg hf ho hc h
   .exact JU hS hR hg hf ho hc h
   .exact JT (mx:=true) hg hf ho hc h
   .exact JT (mx:=false) hg hf ho hc h
   .exact JR hg hf ho hc h
  .cases h
end
end Go.Cv
