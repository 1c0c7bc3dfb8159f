/- A part of the proof: contracts of functions, or the executor and its soundness. No conditions. -/
import Derived.Lib.AppendStr
import Derived.Test.YtdoogdbjiijifaaGreatDoorE8Paf
import Derived.Test.YtdoogdbjiijifaaGreatDoorE8Pah
namespace Go.Sx
open Go
section
variable {P:Program} {cx:Cx} {σ:Sy} {T:List Nat} {o:Oper}
theorem Em.map{t:Nat}{ti:TI}(h:Em P t ti){k e:TypeId}(hk:ti.k=.map k e):P.underlying t=some (.map k e):=by
 obtain⟨d,hd,hb⟩:=h.xP;rw[hk]at hb;cases d<;>simp only[Jl,XD,QS,QE]at hb;rw[hd,hb.1,hb.2]
theorem bytes_inj{s t:List UInt8}:bytes s=bytes t↔s=t:=⟨λh=>by cases h;rfl,λh=>by rw[h]⟩
theorem bytes_beq(s t:List UInt8):(bytes s==bytes t)=decide (s=t):=by
 rw[XX,decide_eq_true_iff];constructor
 .intro h
  have h:((bytes s).data==(bytes t).data)=true:=h;rw[QS]at h;have:=congrArg Array.toList h;simpa[bytes] using this
 .rintro rfl
  show ((bytes s).data==(bytes s).data)=true;simp
def Dg:List MapEntry->List UInt8->Option (Nat×Value)
 | [],_=>none
 |e :: es,s=>match e.key with
  |.string x=>if x=bytes s then some (0,e.val) else (Dg es s).map λp=>(p.1+1,p.2)
  |_=>(Dg es s).map λp=>(p.1+1,p.2)
def Anh(es:List MapEntry):Prop:=∀e∈es,∃s v,e.key=.string (bytes s)/\e.val=.bool v
theorem Xz:∀(es:List MapEntry) (s:List UInt8) (i:Nat),Anh es->Instr.findNow .string (.string (bytes s)) es i=some ((Dg es s).map λp=>(i+p.1,p.2))
 | [],s,i,_=>rfl
 |e :: es,s,i,h=>by
  obtain⟨k,v,hk,hv⟩:=h e (XA ..);have ih:=Xz es s (i+1) λe he=>h e (XB _ he);simp only[Instr.findNow,hk,Instr.sameNow,Dg,bytes_beq]
  by_cases hs:s=k
  .subst hs;simp
  .have h2:¬bytes k=bytes s:=λe=>hs (bytes_inj.1 e).symm
   simp only[hs,decide_false,QA h2,ih];cases Dg es s with
   |none=>rfl
   |some p=>simp;omega
theorem Kk:∀ {es:List MapEntry} {s:List UInt8} {p:Nat×Value},Dg es s=some p->∃e,es[p.1]?=some e/\e.key=.string (bytes s)/\e.val=p.2
 | [],s,p,h=>by cases h
 |e :: es,s,p,h=>by
  simp only[Dg]at h
  split at h
  .rename_i x hx
   split at h
   .rename_i nH
    cases h;exact⟨e,rfl,by rw[hx,nH],rfl⟩
   .obtain⟨q,hq,rfl⟩:=Option.map_eq_some_iff.1 h
    obtain⟨e',h1,h2⟩:=Kk hq;exact⟨e',by simpa using h1,h2⟩
  .obtain⟨q,hq,rfl⟩:=Option.map_eq_some_iff.1 h
   obtain⟨e',h1,h2⟩:=Kk hq;exact⟨e',by simpa using h1,h2⟩
theorem Q7:∀(es:List MapEntry) (s:List UInt8),Fy es s=match Dg es s with|some (_,.bool v)=>v|_=>false
 | [],s=>rfl
 |e :: es,s=>by
  have ih:=Q7 es s;have hr:Fy es s=match (Dg es s).map (λp=>(p.1+1,p.2)) with|some (_,.bool v)=>v|_=>false:=by
   rw[ih];cases Dg es s with
   |none=>rfl
   |some p=>obtain⟨i,v⟩:=p;cases v<;>rfl
  cases hk:e.key with
  |string x =>
   simp only[Fy,Dg,hk]
   by_cases hx:x=bytes s
   .rw[QB hx,QB hx]
    cases e.val<;>rfl
   .rw[QA hx,QA hx];exact hr
  |_=>simp only[Fy,Dg,hk];exact hr
theorem Nh:∀(es:List MapEntry) (s k:List UInt8) (b:Bool) (n:Nat),Dg es s=none->Fy (es++[⟨.string (bytes s),.bool b,n⟩]) k=if k=s then b else Fy es k
 | [],s,k,b,n,_=>by
  simp only[List.nil_append,Fy]
  by_cases h:k=s
  .subst h;simp
  .have h2:¬bytes s=bytes k:=λe=>h (bytes_inj.1 e).symm
   rw[QA h2,QA h]
 |e :: es,s,k,b,n,h=>by
  simp only[Dg]at h;simp only[UM,Fy]
  split at h
  .rename_i x hx
   split at h
   .cases h
   .rename_i nH
    have ih:=Nh es s k b n (by simpa using h);simp only[hx]
    by_cases hk:x=bytes k
    .rw[QB hk,QB hk]
     have:k≠s:=λe=>nH (by rw[hk,e]);rw[QA this]
    .rw[QA hk,QA hk,ih]
  .have ih:=Nh es s k b n (by simpa using h)
   cases hx:e.key<;>simp only[ih]<;>simp_all
theorem Xi:∀(es:List MapEntry) (s k:List UInt8) (b:Bool) (i:Nat) (v:Value),Dg es s=some (i,v)->Fy (es.modify i λe=>{ e with key:=.string (bytes s),val:=.bool b }) k=if k=s then b else Fy es k
 | [],s,k,b,i,v,h=>by cases h
 |e :: es,s,k,b,i,v,h=>by
  simp only[Dg]at h;have rest:∀(p:Nat×Value),Dg es s=some p->(∀x,e.key=.string x->¬x=bytes s)->Fy ((e :: es).modify (p.1+1) λe=>{ e with key:=.string (bytes s),val:=.bool b }) k=if k=s then b else Fy (e :: es) k:=by
   intro p hp aY;have ih:=Xi es s k b p.1 p.2 hp;rw[List.modify_succ_cons];simp only[Fy];cases hx:e.key with
   |string x =>
    simp only
    by_cases hk:x=bytes k
    .rw[QB hk,QB hk]
     have:k≠s:=λe2=>aY x hx (by rw[hk,e2]);rw[QA this]
    .rw[QA hk,QA hk,ih]
   |_=>simp only[ih]
  split at h
  .rename_i x hx
   split at h
   .rename_i nH
    cases h;rw[List.modify_zero_cons];simp only[Fy]
    by_cases hk:k=s
    .subst hk;simp
    .have h2:¬bytes s=bytes k:=λe=>hk (bytes_inj.1 e).symm
     have h3:¬x=bytes k:=λe=>h2 (by rw[<-nH,e]);rw[QA h2,QA hk,hx];simp only;rw[QA h3]
   .rename_i nH
    obtain⟨q,hq,e2⟩:=Option.map_eq_some_iff.1 h;cases e2;exact rest q hq λy hy=>by rw[hx]at hy;cases hy;exact nH
  .rename_i hx
   obtain⟨q,hq,e2⟩:=Option.map_eq_some_iff.1 h;cases e2;exact rest q hq λy hy=>absurd hy (by intro e3;exact hx _ e3)
theorem Hs{t:TypeId}(ht:P.underlying t=some .string)(b:Bool)(s:ByteArray)(w:World):(Instr.checkKey b 10000 t (.string s)).run P w=.ok () w:=by
 have h:Instr.checkKey b 10000 t (.string s)=Instr.checkKey b (9999+1) t (.string s):=rfl;rw[h,Instr.checkKey];simp only[Sem.run_bind,run_underlying ht,Result.andThen_ok,Sem.run_pure]
theorem Iu{t:TypeId}(ht:P.underlying t=some .string){es:List MapEntry}(h:Anh es)(s:List UInt8)(w:World):(Instr.findKey t (.string (bytes s)) es).run P w=.ok (Dg es s) w:=by
 simp only[Instr.findKey,Sem.run_bind,run_underlying ht,Result.andThen_ok,Xz es s 0 h,Sem.run_pure];cases Dg es s with
 |none=>rfl
 |some p=>simp
theorem Fo{w:World}{r:Nat}{es:Array MapEntry}{c:Nat}(hb:w.heap[r]?=some (.map es c)):(getObj r).run P w=.ok (.map es c) w:=by
 simp[getObj,Sem.run,hb]
theorem J6{w:World}{r:Nat}{es:Array MapEntry}{c:Nat}{o':Obj}(hb:w.heap[r]?=some (.map es c)):(setObj r o').run P w=.ok () { w with heap:=w.heap.setIfInBounds r o' }:=by
 simp[setObj,Sem.run,hb]
theorem Agp{B:Bs}{N:Nat}{E:Env}{a:Act}{w:World}{ff:Nat->SG}{hf:Nat->Hl}(st:St B N E a w ff hf){h:Nat}(bM:hf h=.fresh)(o':Obj)(l:Hl)
  (hl:∀(E':Env) (w':World),E'.β h=some w.heap.size->E'.O w.heap.size=some h->w'.heap[w.heap.size]?=some o'->(∀o,¬E'.I w.heap.size o)->bQ E' w' h l):
  ∃E',Ext E w E' (w.alloc o')/\Cl B E' (w.alloc o')/\(∀k,bQ E' (w.alloc o') k (aR hf h l k))/\E'.β h=some w.heap.size/\∀b k,E'.O b=some k->E.O b=some k\/b=w.heap.size:=by
 have hb:=st.base;have cE:=st.heap h;rw[bM]at cE;obtain⟨f1,f2,_,_⟩:=cE
 let E':Env:=⟨aR E.β h (some w.heap.size),E.τ,aR E.O w.heap.size (some h),E.κ,E.ζ,E.I⟩
 have hx:Ext E w E' (w.alloc o'):=by
  refine⟨λk b hk=>?_,λ_ _ h=>.inl h,λ_ _ h=>h,λ_ _ h=>h,λ_ _ h=>h,λb o hi=>C5 (hb.dR b o hi)⟩;show aR E.β h (some w.heap.size) k=some b;unfold aR
  by_cases e:k=h
  .subst e;rw[f1]at hk;cases hk
  .rw[QA e];exact hk
 refine⟨E',hx,⟨hb.os,hb.tape,hb.output,?_,?_,?_,?_,?_,?_,hb.cL.ext hx⟩,λk=>?_,by simp[E',aR],λb k hO=>by
  have hO:aR E.O w.heap.size (some h) b=some k:=hO;unfold aR at hO
  split at hO
  .rename_i e;exact .inr e
  .exact .inl hO⟩
 .have:=hb.size;simp;omega
 .intro b aC hX;rw[De (by have:=hb.size;omega)];exact hb.dZ b aC hX
 .intro b o hi
  obtain⟨i1,i2⟩:=hb.I0 b o hi;exact⟨i1,by rw[C5 (hb.dR b o i1)];exact i2⟩
 .intro b o hi;have:=hb.dR b o hi;simp;omega
 .exact hb.cC
 .intro b k hO
  have hO:aR E.O w.heap.size (some h) b=some k:=hO;unfold aR at hO
  split at hO
  .rename_i e;subst e;have:=hb.size;simp;exact .inl this
  .obtain⟨o1,o2⟩:=hb.cR b k hO;simp;exact⟨by omega,o2⟩
 .by_cases e:k=h
  .subst e
   simp only[aR,QB];refine hl E' _ (by simp[E',aR]) (by simp[E',aR]) (heap_alloc_new w _) λo hi=>?_;have:=hb.dR _ _ hi;omega
  .simp only[aR,QA e]
   refine bQ.keep hx (st.heap k) (by simp[E',aR,e]) rfl rfl rfl λb hO=>?_;have aC:=A9 hb hO;exact⟨by simp[E',aR,UA aC];exact hO,De aC,λ_ h=>h⟩
theorem He(w:World)(r:Nat)(o:Obj)(k:Nat)(hr:r<w.heap.size):({ w with heap:=w.heap.setIfInBounds r o }:World).heap[k]?=if k=r then some o else w.heap[k]?:=by
 show (w.heap.setIfInBounds r o)[k]?=_
 by_cases e:k=r
 .subst e;rw[QB rfl,ZW hr]
 .rw[QA e,ZP (λh=>e h.symm)]
theorem Lh(w:World)(r:Nat)(o:Obj){b off:Nat}(aY:b≠r):({ w with heap:=w.heap.setIfInBounds r o }:World).cell? ⟨b,off,none⟩=w.cell? ⟨b,off,none⟩:=by
 unfold World.cell?;have:({ w with heap:=w.heap.setIfInBounds r o }:World).heap[b]?=w.heap[b]?:=by
  show (w.heap.setIfInBounds r o)[b]?=_;rw[ZP (λh=>aY h.symm)]
 rw[this]
theorem N9{B:Bs}{N:Nat}{E:Env}{a:Act}{w:World}{ff:Nat->SG}{hf:Nat->Hl}(st:St B N E a w ff hf){h b:Nat}(hO:E.O b=some h)(hI:∀o,¬E.I b o)(o':Obj)(l:Hl)
  (hl:bQ E { w with heap:=w.heap.setIfInBounds b o' } h l):
  Ext E w E { w with heap:=w.heap.setIfInBounds b o' }/\Cl B E { w with heap:=w.heap.setIfInBounds b o' }/\∀k,bQ E { w with heap:=w.heap.setIfInBounds b o' } k (aR hf h l k):=by
 have hb:=st.base;have xL:=A9 hb hO;have hx:Ext E w E { w with heap:=w.heap.setIfInBounds b o' }:=⟨λ_ _ h=>h,λ_ _ h=>.inl h,λ_ _ h=>h,λ_ _ h=>h,λ_ _ h=>h,λb2 o hi=>Lh w b o' (λe=>by subst e;exact hI o hi)⟩;have hX:=(hb.cR b h hO).2;refine⟨hx,⟨hb.os,hb.tape,hb.output,by simpa using hb.size,?_,?_,?_,hb.cC,?_,hb.cL⟩,λk=>?_⟩
 .intro b2 aC jZ
  rw[He w b o' b2 xL]
  by_cases e:b2=b
  .subst e;rcases hX with hX|hX
   .omega
   .exact absurd hX jZ
  .rw[QA e];exact hb.dZ b2 aC jZ
 .intro b2 o hi
  obtain⟨i1,i2⟩:=hb.I0 b2 o hi;exact⟨i1,by rw[hx.cell b2 o i1];exact i2⟩
 .intro b2 o hi;have:=hb.dR b2 o hi;simpa using this
 .intro b2 k hO;have:=hb.cR b2 k hO;simpa using this
 .by_cases e:k=h
  .subst e;simp only[aR,QB];exact hl
  .simp only[aR,QA e]
   refine bQ.keep hx (st.heap k) rfl rfl rfl rfl λb2 xM=>⟨xM,?_,λ_ h=>h⟩;rw[He w b o' b2 xL,QA];intro e2;subst e2;rw[hO]at xM;exact e (Option.some.inj xM).symm
theorem Rel.jX{E:Env}{w:World}{h:Nat}{v:Value}(hr:Rel E w (.bP h) v):∃b,E.β h=some b/\v=.map (some b):=by
 cases hr with
 |ro h=>cases h
 |bP hb hv=>exact⟨_,hb,hv⟩
theorem Em.wX{t:Nat}{ti:TI}(h:Em P t ti)(hk:ti.k=.bool)(hz:ti.zero=[.bool (.l false)])(w:World):(zeroValue t).run P w=.ok (.bool false) w:=by
 obtain⟨i,z,hi,h1,h2,h3,h4,h5⟩:=h.info;have e:z=.bool false:=by
  rw[hz]at h4;rw[hk]at h5;cases z with
  |agg a=>simp[Aln]at h5
  |bool b=>simp[Value.cells,uU,zB]at h4;rw[h4]
  |_=>simp[Value.cells,uU,zB]at h4
 subst e;simp[zeroValue,typeInfo,hi,h3]
theorem Y4(hc:Az P cx){t kt vt:TypeId}{x y:Operand}(ho:o.op=.lookup t x y false){ti tk tv:TI}(hl:look t cx.tt=some ti)(hk:ti.k=.map kt vt)(qA:look kt cx.tt=some tk)(bC:tk.k=.string)(TM:look vt cx.tt=some tv)(CB:tv.k=.bool)(hzv:tv.zero=[.bool (.l false)])
  {h:Nat} {s:List UInt8} {F:List UInt8->Bool} (hx:rd cx σ T x=some (.bP h)) (hy:rd cx σ T y=some (.str s)) (hh:nth σ.hp h=some (.cZ F)):Local P cx.gl σ T o ⟨.bool (.a (F s)),[],[h],[]⟩:=by
 intro B N E a w ff hf hg st ag bK hT K' Q hK;obtain⟨b,hb,hv⟩:=(Aa hx hg st (Ak ag (by simp[ho,Op.operands])) hT).jX;have hs:=(Aa hy hg st (Ak ag (by simp[ho,Op.operands])) hT).cU;have fG:=st.heap h;rw[bK.tJ h (by simp),Bo hh]at fG;obtain⟨b',es,clock,k1,k2,k3,k4,k5,k6⟩:=fG;obtain rfl:b=b':=Option.some.inj (hb.symm.trans k1);have hu:=(hc.ti hl).map hk;have xE:=(hc.ti qA).string bC;have hz:=(hc.ti TM).wX CB hzv w;unfold Oper.wp;have nJ:(Instr.lookup t (.map (some b)) (.string (bytes s)) false).run P w=.ok (.bool (F s)) w:=by
  simp only[Instr.lookup,Sem.run_bind,run_underlying hu,Result.andThen_ok,Fo k3,Sem.run_pure,Hs xE,Iu xE k4];have h1:=k5 s;rw[Q7]at h1;cases hf:Dg es.toList s with
  |none =>
   rw[hf]at h1;simp[hz,<-h1]
  |some p =>
   obtain⟨i,v⟩:=p;obtain⟨e,e1,e2,e3⟩:=Kk hf;obtain⟨_,bv,_,e4⟩:=k4 e (QK e1);rw[hf]at h1;rw[e4]at e3;simp only at e3 h1;subst e3;simp only at h1;simp[h1]
 have:(execOp a.eval o).run P w=.ok (.value (.bool (F s))) w:=by
  simp only[execOp,ho,hv,hs,Sem.run_bind,nJ,Result.andThen_ok,Sem.run_pure]
 rw[this];exact hK _ _ E (Ext.refl E w) st.base st.heap (.ro (.bool rfl))
theorem Ky(hc:Az P cx){t kt vt:TypeId}{x y z:Operand}(ho:o.op=.mapUpdate t x y z\/o.op=.insert t x y z){ti tk:TI}(hl:look t cx.tt=some ti)(hk:ti.k=.map kt vt)(qA:look kt cx.tt=some tk)(bC:tk.k=.string)
  {h:Nat} {s:List UInt8} {bt:BT} {F F':List UInt8->Bool} (hx:rd cx σ T x=some (.bP h)) (hy:rd cx σ T y=some (.str s)) (hz:rd cx σ T z=some (.bool bt)) (hh:nth σ.hp h=some (.cZ F)) (hF:K4 F' F s bt.den):Local P cx.gl σ T o ⟨.aJ [],[.put h (.cZ F')],[h],[]⟩:=by
 intro B N E a w ff hf hg st ag bK hT K' Q hK;have mx:x∈o.op.operands.toList:=by rcases ho with ho|ho<;>simp[ho,Op.operands]
 have my:y∈o.op.operands.toList:=by rcases ho with ho|ho<;>simp[ho,Op.operands]
 have mz:z∈o.op.operands.toList:=by rcases ho with ho|ho<;>simp[ho,Op.operands]
 obtain⟨b,hb,hv⟩:=(Aa hx hg st (Ak ag mx) hT).jX;have hs:=(Aa hy hg st (Ak ag my) hT).cU;have tA:=(Aa hz hg st (Ak ag mz) hT).bI;have fG:=st.heap h;rw[bK.tJ h (by simp),Bo hh]at fG;obtain⟨b',es,clock,k1,k2,k3,k4,k5,k6⟩:=fG;obtain rfl:b=b':=Option.some.inj (hb.symm.trans k1);have hu:=(hc.ti hl).map hk;have xE:=(hc.ti qA).string bC;have xL:=A9 st.base k2;obtain⟨sP,lI,aV,HS,bL⟩:∃sP lI,(Instr.mapUpdate t (.map (some b)) (.string (bytes s)) (.bool bt.den)).run P w=.ok () { w with heap:=w.heap.setIfInBounds b (.map sP lI) }/\Anh sP.toList/\∀k,Fy sP.toList k=F' k:=by
  cases hf:Dg es.toList s with
  |none =>
   refine⟨es.push ⟨.string (bytes s),.bool bt.den,clock⟩,clock+1,?_,λe he=>?_,λk=>?_⟩
   .simp only[Instr.mapUpdate,Sem.run_bind,run_underlying hu,Result.andThen_ok,Fo k3,Hs xE,Iu xE k4,hf,J6 k3]
   .rw[Array.toList_push,ZZ,YP]at he
    rcases he with he|rfl
    .exact k4 e he
    .exact⟨s,bt.den,rfl,rfl⟩
   .rw[Array.toList_push,Nh _ _ _ _ _ hf,hF.h,k5]
  |some p =>
   obtain⟨i,v⟩:=p;obtain⟨e,e1,e2,e3⟩:=Kk hf;have e1':es[i]?=some e:=by simpa using e1
   refine⟨es.modify i λe=>{ e with key:=.string (bytes s),val:=.bool bt.den },clock,?_,λe he=>?_,λk=>?_⟩
   .have fE:(Instr.keyThatStays (.string (bytes s)) (.string (bytes s))).run P w=.ok (.string (bytes s)) w:=by
     have:Instr.sameBits 10000 (.string (bytes s)) (.string (bytes s))=true:=by
      show (bytes s==bytes s)=true;rw[bytes_beq];simp
     simp only[Instr.keyThatStays,this,if_true,Sem.run_pure]
    simp only[Instr.mapUpdate,Sem.run_bind,run_underlying hu,Result.andThen_ok,Fo k3,Hs xE,Iu xE k4,hf,e1',QP,XG,e2,fE,J6 k3]
   .rw[Array.toList_modify]at he
    obtain⟨j,hj⟩:=List.mem_iff_getElem?.1 he;rw[List.getElem?_modify]at hj;obtain⟨e0,h0,rfl⟩:=Option.map_eq_some_iff.1 hj
    split
    .exact⟨s,bt.den,rfl,rfl⟩
    .exact k4 e0 (QK h0)
   .rw[Array.toList_modify,Xi _ _ _ _ _ _ hf,hF.h,k5]
 have hn:bQ E { w with heap:=w.heap.setIfInBounds b (.map sP lI) } h (.cZ F'):=by
  refine⟨b,sP,lI,hb,k2,?_,HS,bL,k6⟩;rw[He w b _ b xL,QB rfl]
 obtain⟨x1,x2,x3⟩:=N9 st k2 k6 (.map sP lI) (.cZ F') hn;unfold Oper.wp;have:(execOp a.eval o).run P w=.ok .skip { w with heap:=w.heap.setIfInBounds b (.map sP lI) }:=by
  rcases ho with ho|ho<;>simp only[execOp,ho,hv,hs,tA,Sem.run_bind,aV,Result.andThen_ok,Sem.run_pure]
 rw[this];exact hK undef _ E x1 x2 x3 (.aJ rfl (by simp))
end
section
variable {P:Program} {cx:Cx} {σ:Sy} {T:List Nat} {o:Oper}
theorem Em.int64{t:Nat}{ti:TI}(h:Em P t ti)(hk:ti.k=.int .i64):P.underlying t=some (.int .i64):=by
 obtain⟨d,hd,hb⟩:=h.xP;rw[hk]at hb;cases d<;>simp only[Jl,XD,QS]at hb;rw[hd,hb]
def Iy:List MapEntry->Int->Option (Nat×Value)
 | [],_=>none
 |e :: es,n=>match e.key with
  |.int _ k=>if n=k then some (0,e.val) else (Iy es n).map λp=>(p.1+1,p.2)
  |_=>none
def Ani(es:List MapEntry):Prop:=∀e∈es,∃k,e.key=.int .i64 k
theorem X0:∀(es:List MapEntry) (n:Int) (i:Nat),Ani es->Instr.findNow (.int .i64) (.int .i64 n) es i=some ((Iy es n).map λp=>(i+p.1,p.2))
 | [],n,i,_=>rfl
 |e :: es,n,i,h=>by
  obtain⟨k,hk⟩:=h e (XA ..);have ih:=X0 es n (i+1) λe he=>h e (XB _ he);simp only[Instr.findNow,hk,Instr.sameNow,Iy,if_true]
  by_cases hs:n=k
  .subst hs;simp
  .have e1:(n==k)=false:=by simpa using hs
   simp only[e1,QA hs,ih];cases Iy es n with
   |none=>rfl
   |some p=>simp;omega
theorem Li{t:TypeId}(ht:P.underlying t=some (.int .i64))(b:Bool)(n:Int)(w:World):(Instr.checkKey b 10000 t (.int .i64 n)).run P w=.ok () w:=by
 have h:Instr.checkKey b 10000 t (.int .i64 n)=Instr.checkKey b (9999+1) t (.int .i64 n):=rfl;rw[h,Instr.checkKey];simp only[Sem.run_bind,run_underlying ht,Result.andThen_ok,Sem.run_pure]
theorem Mw{t:TypeId}(ht:P.underlying t=some (.int .i64)){es:List MapEntry}(h:Ani es)(n:Int)(w:World):(Instr.findKey t (.int .i64 n) es).run P w=.ok (Iy es n) w:=by
 simp only[Instr.findKey,Sem.run_bind,run_underlying ht,Result.andThen_ok,X0 es n 0 h,Sem.run_pure];cases Iy es n with
 |none=>rfl
 |some p=>simp
structure Ip(E:Env)(w:World)(es:List (Int×SV))(ms:List MapEntry):Prop where
 len:ms.length=es.length
 at_:∀(i:Nat) (p:Int×SV) (e:MapEntry),es[i]?=some p->ms[i]?=some e->e.key=.int .i64 p.1/\Rel E w p.2 e.val
theorem Ip.keys{E:Env}{w:World}{es:List (Int×SV)}{ms:List MapEntry}(h:Ip E w es ms):Ani ms:=λe he=>by
 obtain⟨i,hi⟩:=List.mem_iff_getElem?.1 he;have aC:=(List.getElem?_eq_some_iff.1 hi).1;rw[h.len]at aC;exact⟨_,(h.at_ i _ e (QC aC) hi).1⟩
theorem W3{n:Int}{F:SV->Prop}:∀ {es:List (Int×SV)},OE n (Uo es)->Yo n F es->∃v i,es[i]?=some (n,v)/\(∀(j:Nat) (p:Int×SV),j<i->es[j]?=some p->p.1≠n)/\F v
 | [],hk,_=>absurd hk.h (by simp[Uo])
 |(k,v) :: es,hk,hs=>by
  by_cases e:n=k
  .exact⟨v,0,by simp[e],λj _ hj=>by omega,hs.1 ⟨e⟩⟩
  .have aZ:OE n (Uo es):=⟨by
    have:=hk.h;simp only[Uo,XS]at this;exact this.resolve_left e⟩
   obtain⟨v',i,q1,q2,q3⟩:=W3 aZ hs.2;refine⟨v',i+1,by simpa using q1,λj p hj hp=>?_,q3⟩;cases j with
   |zero=>simp at hp;subst hp;exact λe2=>e e2.symm
   |succ j=>exact q2 j p (by omega) (by simpa using hp)
theorem Rn{E:Env}{w:World}{n:Int}{v:SV}:∀ {l:List MapEntry} {es:List (Int×SV)},Ip E w es l->∀ {i:Nat},es[i]?=some (n,v)->(∀(j:Nat) (p:Int×SV),j<i->es[j]?=some p->p.1≠n)->∃u,Iy l n=some (i,u)/\Rel E w v u
 | [],es,gO,i,q1,q2=>by
  have:=gO.len;have aC:=(List.getElem?_eq_some_iff.1 q1).1;simp at this;omega
 |e :: l,[],gO,i,q1,q2=>by simp at q1
 |e :: l,p :: es,gO,i,q1,q2=>by
  obtain⟨g1,g2⟩:=gO.at_ 0 p e rfl rfl;have hr:Ip E w es l:=⟨by have:=gO.len;simpa using this,λi p e hp he=>gO.at_ (i+1) p e (by simpa using hp) (by simpa using he)⟩;simp only[Iy,g1];cases i with
  |zero =>
   simp at q1;subst q1;exact⟨e.val,by simp,g2⟩
  |succ i =>
   have aY:n≠p.1:=λe2=>q2 0 p (by omega) rfl e2.symm;rw[QA aY];obtain⟨u,u1,u2⟩:=Rn hr (by simpa using q1) λj p' hj hp=>q2 (j+1) p' (by omega) (by simpa using hp);exact⟨u,by rw[u1];rfl,u2⟩
theorem U1{E:Env}{w:World}:∀ {es:List (Int×SV)} {ms:List MapEntry},Ip E w es ms->∀ {n:Int},ML n es=true->Iy ms n=none
 | [],[],_,n,_=>rfl
 | [],e :: ms,h,n,_=>by have:=h.len;simp at this
 |(k,v) :: es,[],h,n,_=>rfl
 |(k,v) :: es,e :: ms,h,n,hn=>by
  obtain⟨h1,h2⟩:=h.at_ 0 (k,v) e rfl rfl;have hr:Ip E w es ms:=⟨by have:=h.len;simpa using this,λi p e hp he=>h.at_ (i+1) p e (by simpa using hp) (by simpa using he)⟩;simp only[ML,QE,XO,beq_eq_false_iff_ne]at hn;simp only[Iy,h1,QA (λe=>hn.1 (Eq.symm e)),U1 hr hn.2,YY]
theorem Aev{r:Option Operand}(h:Aew r=true){a:Act}{t:TypeId}{w:World}{k e:TypeId}(hu:P.underlying t=some (.map k e)):(Instr.makeMap t (r.map a.eval)).run P w=.ok (.map (some w.heap.size)) (w.alloc (.map #[] 0)):=by
 match r,h with
 |none,_=>simp[Instr.makeMap,newObj,Sem.run]
 |some (.const (.int .i64 n)),_=>simp[Instr.makeMap,newObj,Sem.run_bind,run_underlying hu,Act.eval,asInt,asIntOf,Sem.run]
theorem Ll(hc:Az P cx){t kt vt:TypeId}{r:Option Operand}(ho:o.op=.makeMap t r){ti:TI}(hl:look t cx.tt=some ti)(hk:ti.k=.map kt vt)(hr:Aew r=true)(l:Hl)(hlm:l=.cZ (λ_=>false)\/l=.iF []):
  Local P cx.gl σ T o ⟨.bP (Ah σ.hp),[.put (Ah σ.hp) l],[],[]⟩:=by
 intro B N E a w ff hf _ st _ bK _ K' Q hK;have bM:hf (Ah σ.hp)=.fresh:=by
  have:=bK.fK _ (List.mem_singleton.2 rfl);simp only[dp,Aq,Aj,Af]at this;rw[Af,this];simp
 obtain⟨E',hx,hb,hh,fQ,_⟩:=Agp st bM (.map #[] 0) l λE' w' h1 h2 h3 h4=>by
  rcases hlm with rfl|rfl
  .exact⟨_,#[],0,h1,h2,h3,by simp,λs=>rfl,h4⟩
  .exact⟨_,#[],0,h1,h2,h3,by simp,by simp,h4⟩
 unfold Oper.wp;have:(execOp a.eval o).run P w=.ok (.value (.map (some w.heap.size))) (w.alloc (.map #[] 0)):=by
  simp only[execOp,ho,Sem.run_bind,Aev hr ((hc.ti hl).map hk),Result.andThen_ok,Sem.run_pure]
 rw[this];exact hK _ _ E' hx hb hh (.bP fQ rfl)
theorem Wf(hc:Az P cx){K:Out->Prop}{t kt vt:TypeId}{x y:Operand}(ho:o.op=.lookup t x y false){ti tk:TI}(hl:look t cx.tt=some ti)(hk:ti.k=.map kt vt)(qA:look kt cx.tt=some tk)(bC:tk.k=.int .i64)
  {h:Nat} {n:ST} {es:List (Int×SV)} (hx:rd cx σ T x=some (.bP h)) (hy:rd cx σ T y=some (.int .i64 n)) (hh:nth σ.hp h=some (.iF es)) (h1:OE n.den (Uo es)) (h2:Yo n.den (λv=>K ⟨v,[],[h],[]⟩) es) (_l7:T=[]):∃r,K r/\Local P cx.gl σ T o r:=by
 obtain⟨v,i,q1,q2,hF⟩:=W3 h1 h2;refine⟨_,hF,?_⟩;intro B N E a w ff hf hg st ag bK hT K' Q hK;obtain⟨b,hb,qu⟩:=(Aa hx hg st (Ak ag (by simp[ho,Op.operands])) hT).jX;have hs:=(Aa hy hg st (Ak ag (by simp[ho,Op.operands])) hT).aQ;have fG:=st.heap h;rw[bK.tJ h (by simp),Bo hh]at fG;obtain⟨b',ms,clock,k1,k2,k3,k4,k5,k6⟩:=fG;obtain rfl:b=b':=Option.some.inj (hb.symm.trans k1);have hu:=(hc.ti hl).map hk;have xE:=(hc.ti qA).int64 bC;have gO:Ip E w es ms.toList:=⟨by simpa using k4,k5⟩;obtain⟨u,u1,u2⟩:=Rn gO q1 q2;unfold Oper.wp;have nJ:(Instr.lookup t (.map (some b)) (.int .i64 n.den) false).run P w=.ok u w:=by
  simp only[Instr.lookup,Sem.run_bind,run_underlying hu,Result.andThen_ok,Fo k3,Sem.run_pure,Li xE,Mw xE gO.keys,u1];simp
 have:(execOp a.eval o).run P w=.ok (.value u) w:=by
  simp only[execOp,ho,qu,hs,Sem.run_bind,nJ,Result.andThen_ok,Sem.run_pure]
 rw[this];exact hK _ _ E (Ext.refl E w) st.base st.heap u2
theorem Jj(hc:Az P cx){t kt vt:TypeId}{x y z:Operand}(ho:o.op=.mapUpdate t x y z\/o.op=.insert t x y z){ti tk:TI}(hl:look t cx.tt=some ti)(hk:ti.k=.map kt vt)(qA:look kt cx.tt=some tk)(bC:tk.k=.int .i64)
  {h:Nat} {n:Int} {v:SV} {es:List (Int×SV)} (hx:rd cx σ T x=some (.bP h)) (hy:rd cx σ T y=some (.int .i64 (.l n))) (hz:rd cx σ T z=some v) (hh:nth σ.hp h=some (.iF es)) (hn:ML n es=true):Local P cx.gl σ T o ⟨.aJ [],[.put h (.iF (es++[(n,v)]))],[h],[]⟩:=by
 intro B N E a w ff hf hg st ag bK hT K' Q hK;have mx:x∈o.op.operands.toList:=by rcases ho with ho|ho<;>simp[ho,Op.operands]
 have my:y∈o.op.operands.toList:=by rcases ho with ho|ho<;>simp[ho,Op.operands]
 have mz:z∈o.op.operands.toList:=by rcases ho with ho|ho<;>simp[ho,Op.operands]
 obtain⟨b,hb,hv⟩:=(Aa hx hg st (Ak ag mx) hT).jX;have hs:=(Aa hy hg st (Ak ag my) hT).aQ;have zW:=Aa hz hg st (Ak ag mz) hT;have fG:=st.heap h;rw[bK.tJ h (by simp),Bo hh]at fG;obtain⟨b',ms,clock,k1,k2,k3,k4,k5,k6⟩:=fG;obtain rfl:b=b':=Option.some.inj (hb.symm.trans k1);have hu:=(hc.ti hl).map hk;have xE:=(hc.ti qA).int64 bC;have xL:=A9 st.base k2;have gO:Ip E w es ms.toList:=⟨by simpa using k4,k5⟩;have uE:=U1 gO hn;obtain⟨pz,TG⟩:∃pz,pz=ms.push ⟨.int .i64 n,a.eval z,clock⟩:=⟨_,rfl⟩;have aV:(Instr.mapUpdate t (.map (some b)) (.int .i64 n) (a.eval z)).run P w=.ok () { w with heap:=w.heap.setIfInBounds b (.map pz (clock+1)) }:=by
  rw[TG];simp only[Instr.mapUpdate,Sem.run_bind,run_underlying hu,Result.andThen_ok,Fo k3,Li xE,Mw xE gO.keys,uE,J6 k3]
 have pZ:Ext E w E { w with heap:=w.heap.setIfInBounds b (.map pz (clock+1)) }:=⟨λ_ _ h=>h,λ_ _ h=>.inl h,λ_ _ h=>h,λ_ _ h=>h,λ_ _ h=>h,λb2 o hi=>Lh w b _ (λe=>by subst e;exact k6 o hi)⟩;have hn:bQ E { w with heap:=w.heap.setIfInBounds b (.map pz (clock+1)) } h (.iF (es++[(n,v)])):=by
  refine⟨b,pz,clock+1,hb,k2,?_,by rw[TG];simp[k4],λi p e hp he=>?_,k6⟩
  .rw[He w b _ b xL,QB rfl]
  .rw[TG,Array.toList_push]at he
   by_cases hi:i<es.length
   .rw[QM hi]at hp
    rw[QM (by simpa[k4] using hi)]at he;obtain⟨g1,g2⟩:=k5 i p e hp he;exact⟨g1,g2.mono pZ⟩
   .rw[QO (by omega)]at hp
    rw[QO (by simp[k4];omega)]at he;have e0:i-es.length=0:=by
     have:=(List.getElem?_eq_some_iff.1 hp).1;simp at this;omega
    have e1:i-ms.toList.length=0:=by simp[k4];omega
    rw[e0]at hp;rw[e1]at he;simp at hp he;subst hp;subst he;exact⟨rfl,zW.mono pZ⟩
 obtain⟨x1,x2,x3⟩:=N9 st k2 k6 (.map pz (clock+1)) (.iF (es++[(n,v)])) hn;unfold Oper.wp;have:(execOp a.eval o).run P w=.ok .skip { w with heap:=w.heap.setIfInBounds b (.map pz (clock+1)) }:=by
  rcases ho with ho|ho<;>simp only[execOp,ho,hv,hs,ST.den,Sem.run_bind,aV,Result.andThen_ok,Sem.run_pure]
 rw[this];exact hK undef _ E x1 x2 x3 (.aJ rfl (by simp))
end
open Go Go.Lib
section
variable {P:Program} {cx:Cx} {σ:Sy} {T:List Nat} {o:Oper} {K:Out->Prop}
theorem Adh{t u e ty:TypeId}{ti:TI}(hu:P.underlying t=some (.slice e))(jB:P.underlying u=some .string)(he:Em P e ti)(bB:ti.size=1){w:World}{gr:Bool}{v:Value}{n:Nat}{xs:List Value}(bW:Co w gr e 1 v n xs)(s:ByteArray)
  (qE:n+s.size<=maxLen) (hb:(n+s.size) * ti.bytes<=140737488355328):
  ∃v' w',(Builtin.append_ #[t,u] ty #[v,.string s]).run P w=.ok v' w'/\Co w' gr e 1 v' (n+s.size) (xs++strCells s)/\(v'=.slice none 0 0↔v=.slice none 0 0/\s.size=0)/\
   ((v'.ownBlock=v.ownBlock/\w.grownBy w' v.ownBlock)\/(v'.ownBlock=some w.heap.size/\w.grownBy w' none))/\(∃a c,v'=.slice a (n+s.size) c)/\(s.size=0->v'=v):=by
 have lL:=bW;obtain⟨mB,hh⟩:=bW;obtain⟨i,z,hi,eJ,xY,hz,sQ,_⟩:=he.info;have qB:i.size=1:=by rw[eJ,bB]
 have eA:z.cells.size=1:=by
  have:=(Jz (I:=λ_ _=>False) (w:=w) sQ).1;have h2:ti.zero.length=1:=by rw[he.pP,bB]
  simpa[h2] using this.symm
 have hlen:(xs++strCells s).length=(n+s.size) * 1:=by rw[QF,mB,strCells_length];omega
 rcases hh with⟨rfl,rfl⟩|⟨g,cap,cur,fr,rfl,hg,cE,qO,eY,cX,bT⟩
 .have hx:xs=[]:=XN (by simpa using mB)
  subst hx
  by_cases hm:s.size=0
  .have hn:strCells s=[]:=XN (by rw[strCells_length];exact hm)
   refine⟨.slice none 0 0,w,?_,by rw[hm,hn];simpa using lL,by simp[hm],.inl ⟨rfl,⟨rfl,rfl,rfl,QH _,λ_ _ _=>rfl⟩⟩,⟨none,0,by rw[hm]⟩,λ_=>rfl⟩;have hf:=run_firstCells_string (P:=P) (w:=w) 1 s;rw[hm]at hf;simp[Builtin.append_,run_underlying hu,run_underlying jB,sizeOf,typeInfo,hi,qB,Builtin.lenOf,hm,hf]
  .have hr:=run_append_nil_string (P:=P) w t u ty e i z hu jB hi hz s (by omega) (by simp only[maxLen]at qE;omega) (by rw[xY];simp only[XE]at hb;omega)
   have e1:(s.data.map λb=>Value.int .u8 b.toNat)=(strCells s).toArray:=by
    apply XU;simp[strCells]
   rw[e1]at hr;have kZ:=grownCap_ge w s.size 0 e;have cr:grownCap w s.size 0 e<=maxLen:=grownCap_le_maxLen w s.size 0 e (by omega);refine⟨_,_,hr,⟨hlen,.inr ⟨w.heap.size,_,_,(0,0),by simp,heap_alloc_new w.drew _,.inl rfl,by omega,cr,?_,?_⟩⟩,by simp[hm],.inr ⟨rfl,⟨rfl,rfl,rfl,by simp,λk hk _=>heap_alloc_old w.drew _ hk⟩⟩,⟨_,_,by rw[XE]⟩,λe=>absurd e hm⟩
   .simp only[Array.size_append,UI,size_zeroCells,eA,strCells_length]
    omega
   .simp only[Array.toList_append,List.nil_append]
    rw[List.take_append_of_le_length (by rw[strCells_length];omega),XI (by rw[strCells_length];omega)]
 .by_cases iI:n+s.size<=cap
  .have x8:n * 1+(strCells s).length<=cur.size:=by rw[cX,strCells_length];omega
   have hf:=run_firstCells_string (P:=P) (w:=w) 1 s;have fE:=Db (P:=P) g (n * 1) e fr (strCells s) 0 cur w hg (cE.imp (λh=>h) (λh=>by rw[h.2];exact QH _)) (by simpa using x8) (strCells_oneCell s);simp only[XY]at fE;have hr:(Builtin.append_ #[t,u] ty #[.slice (some ⟨g,0,none⟩) n cap,.string s]).run P w =
     .ok (.slice (some ⟨g,0,none⟩) (n+s.size) cap) (w.setRow g (cur.toList.take (n * 1)++strCells s++cur.toList.drop (n * 1+(strCells s).length)).toArray):=by
    simp only[Nat.mul_one]at fE ⊢;simp[Builtin.append_,run_underlying hu,run_underlying jB,sizeOf,typeInfo,hi,qB,Builtin.lenOf,iI,hf,Addr.add_lit,fE]
   have hC:(cur.toList.take (n * 1)++strCells s++cur.toList.drop (n * 1+(strCells s).length)).toArray.size=cur.size:=by
    simp only[UI,QF,QZ,QY,Array.length_toList];omega
   refine⟨_,_,hr,⟨hlen,.inr ⟨g,cap,_,fr,rfl,setRow_heap w g cur _ e fr hg,?_,iI,eY,by rw[hC];exact cX,?_⟩⟩,by simp,.inl ⟨rfl,⟨rfl,rfl,rfl,by simp,λk _ hk=>setRow_other w g k _ (λe=>hk (by simp[Value.ownBlock,e]))⟩⟩,⟨_,_,rfl⟩,λe=>by rw[e];rfl⟩
   .rcases cE with h|⟨h1,h2⟩
    .exact .inl h
    .exact .inr ⟨h1,by rw[hC];exact h2⟩
   .rw[bT,<-hlen]
    exact US
  .have holds:∀j u,xs[j]?=some u->w.cell? ((⟨g,0,none⟩:Addr).add j)=some u:=λj u hj=>by
    have uL:(⟨g,0,none⟩:Addr).add j=⟨g,j,none⟩:=by rw[Addr.add_lit,XE]
    rw[<-bT,QN]at hj
    split at hj
    .rw[uL];simp only[World.cell?,hg];rw[QX]at hj;simpa using hj
    .cases hj
   have hr:=run_append_grow_string (P:=P) w t u ty e i z hu jB hi hz ⟨g,0,none⟩ n cap xs (by rw[qB];exact mB) holds s (by omega) (by simp only[maxLen]at qE;omega) (by rw[xY];exact growslice_fits (by omega) hb);have kZ:=grownCap_ge w (n+s.size) cap e;have cr:grownCap w (n+s.size) cap e<=maxLen:=grownCap_le_maxLen w (n+s.size) cap e qE;refine⟨_,_,hr,⟨hlen,.inr ⟨w.heap.size,_,_,(0,0),rfl,heap_alloc_new w.drew _,.inl rfl,kZ,cr,?_,?_⟩⟩,by simp,.inr ⟨rfl,⟨rfl,rfl,rfl,by simp,λk hk _=>heap_alloc_old w.drew _ hk⟩⟩,⟨_,_,rfl⟩,λe=>by omega⟩
   .simp only[Array.size_append,UI,size_zeroCells,eA,mB,strCells_length]
    omega
   .simp only[Array.toList_append,ZH]
    rw[<-ZH,<-hlen];exact US
theorem Mp{c:Call}(ho:o.op=.call c)(aP:c.callee=.builtin .append){x y:Operand}{t u:TypeId}(hx:c.args.toList=[x,y])(ht:c.argTypes.toList=[t,u]){a:Act}{w w':World}{v':Value}(hr:(Builtin.append_ #[t,u] o.type #[a.eval x,a.eval y]).run P w=.ok v' w'):
  (execOp a.eval o).run P w=.ok (.value v') w':=by
 have e1:c.args=#[x,y]:=XU (by simpa using hx);have e2:c.argTypes=#[t,u]:=XU (by simpa using ht);simp[execOp,ho,resolve,aP,e1,e2,invoke,builtin,hr]
theorem Qa(hc:Az P cx){c:Call}(ho:o.op=.call c)(aP:c.callee=.builtin .append){x y:Operand}{t u e:Nat}{te ti tu:TI}(hx:c.args.toList=[x,y])(ht:c.argTypes.toList=[t,u])(aC:look t cx.tt=some ti)(hk:ti.k=.slice e)(hle:look e cx.tt=some te)(bB:te.size=1)(TN:look u cx.tt=some tu)(hku:tu.k=.string)
  {gr:Bool} {nl:BT} {n n0:ST} {f:Nat->List SV} {h:Nat} (j0:rd cx σ T x=some (.bV nl n h)) (hh:nth σ.hp h=some (.own e n0 1 gr f)) {s:List UInt8} (jz:rd cx σ T y=some (.str s))
  (hb:n.den=n0.den/\(n.den+(s.length:Int)) * te.bytes<=140737488355328/\n.den+(s.length:Int)<=9223372036854775807)
  {f':Nat->List SV} {n':Int} (xV:n'=n.den+(s.length:Int)) (fO:∀i:Nat,(i:Int)<n.den->f' i=f i) (cY:∀i j:Nat,(i:Int)=n.den+j->(j:Int)<(s.length:Int)->f' i=aU s j):
  Local P cx.gl σ T o ⟨.bV (Vs nl (Pg .eql (.len s) (.l 0))) (.a n') h,[.put h (.own e (.a n') 1 gr f')],[h],[]⟩:=by
 intro B N E a w ff hf hg st ag bK hT K' Q hK;have mx:x∈o.op.operands.toList:=by simp[ho,Op.operands,Call.operands,aP,hx]
 have my:y∈o.op.operands.toList:=by simp[ho,Op.operands,Call.operands,aP,hx]
 have iH:=Aa j0 hg st (Ak ag mx) hT;have tT:=Aa jz hg st (Ak ag my) hT;have aq:a.eval y=.string (bytes s):=tT.cU;have SJ:(bytes s).size=s.length:=rfl;have qS:∀j,j<s.length->(strCells (bytes s))[j]?=some (.int .u8 ((s.getD j 0).toNat:Int)):=λj hj=>by
  unfold strCells bytes;rw[QR,QC hj,QD,QC hj];rfl
 have bC:=st.heap h;have bZ:=Br bK (List.mem_singleton.2 rfl) hh;rw[bZ]at bC;obtain⟨v,nn,xs,k1,kz,k2,k3,k4,k5,k6⟩:=bC;obtain⟨hv,eK⟩:=Gl iH k1 k2 k3 hb.1;have gC:n.den=(nn:Int):=by rw[hb.1,k3]
 have iR:(nn+(bytes s).size) * te.bytes<=140737488355328:=by
  have:=hb.2.1;rw[gC]at this;have h:(((nn+s.length) * te.bytes:Nat):Int)<=140737488355328:=by rw[YZ,UP];exact this
  rw[SJ];omega
 obtain⟨v',w',l1,l2,l3,l4,l5,l6⟩:=Adh (P:=P) (ty:=o.type) ((hc.ti aC).slice hk) ((hc.ti TN).string hku) (hc.ti hle) bB k2 (bytes s) (by have:=hb.2.2;rw[gC]at this;rw[SJ];simp only[maxLen];omega) iR;rw[SJ]at l2 l3 l5 l6;have lR:∀u∈xs++strCells (bytes s),u.oneCell'=true:=λu hu=>by
  rcases List.mem_append.1 hu with hu|hu
  .exact k4 u hu
  .have:=strCells_oneCell (bytes s) u hu
   simpa using this
 have mP:(ST.a n').den=((nn+s.length:Nat):Int):=by simp only[ST.den,xV,gC];omega
 have eR:Fx E w f' (nn+s.length) 1 (xs++strCells (bytes s)):=by
  refine⟨λi hi=>?_,λi j r u hi hs hu=>?_⟩
  .by_cases eR:i<nn
   .rw[fO i (by omega)];exact k5.1 i eR
   .rw[cY i (i-nn) (by omega) (by omega)];rfl
  .by_cases eR:i<nn
   .rw[fO i (by omega)]at hs
    have hj:j<1:=by rw[<-k5.1 i eR];exact (List.getElem?_eq_some_iff.1 hs).1
    rw[QM (by rw[k2.1];omega)]at hu;exact k5.2 i j r u eR hs hu
   .rw[cY i (i-nn) (by omega) (by omega)]at hs
    match j,hs with
    |0,hs =>
     have hs:some (SV.int .u8 (.a ((s.getD (i-nn) 0).toNat:Int)))=some r:=hs;cases hs;have e1:i * 1+0=nn * 1+(i-nn):=by omega
     rw[QO (by rw[k2.1];omega),k2.1,e1,ZK,qS _ (by omega)]at hu;cases hu;exact .int rfl
    |j+1,hs=>simp[aU]at hs
 obtain⟨E',x1,x2,x3,x4,x5⟩:=Ig (h:=h) (e:=e) (sz:=1) (n:=nn) (m:=s.length) st (.inr ⟨⟨_,_,_,bZ⟩,k1,kz,k6⟩) k2.shape l2 lR l4 (λ_=>l6) (nt':=.a n') mP eR;unfold Oper.wp;rw[Mp ho aP hx ht (a:=a) (w:=w) (w':=w') (v':=v') (by rw[hv,aq];exact l1)];obtain⟨a0,c0,e0⟩:=l5;refine hK v' w' E' x1 x2 x3 (.bV ⟨a0,nn+s.length,c0,e0,mP,?_⟩ ⟨a0,nn+s.length,c0,by rw[x4,e0],by rw[mP];exact ZC _,λ_=>e0⟩);have oO:(v'=.slice none 0 0)↔a0=none:=by
  rw[e0];constructor
  .intro h;simp only[Value.slice.injEq]at h;exact h.1
  .rintro rfl
   rcases l2.2 with⟨h1,_⟩|⟨g,cap,cur,fr,h1,_⟩
   .rw[<-e0];exact h1
   .rw[e0]at h1;simp at h1
 rw[<-oO,L7,Hz,l3];simp only[Bz,ST.den,QE,QS];rw[eK];constructor
 .rintro⟨h1,h2⟩;exact⟨h1,by omega⟩
 .rintro⟨h1,h2⟩;exact⟨h1,by omega⟩
end
end Go.Sx
