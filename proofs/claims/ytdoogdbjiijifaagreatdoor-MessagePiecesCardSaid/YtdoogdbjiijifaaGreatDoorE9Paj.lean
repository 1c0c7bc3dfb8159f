/- Lemmas of the proof; no conditions. -/
import Derived.Test.YtdoogdbjiijifaaGreatDoorE9Pah
namespace Go.Sx
open Go
section
variable {P:Program} {cx:Cx} {σ:Sy} {T:List Nat} {o:Oper}
theorem Ew.map{t:Nat}{ti:TI}(h:Ew P t ti){k e:TypeId}(hk:ti.k=.map k e):P.underlying t=some (.map k e):=by
 obtain⟨d,hd,hb⟩:=h.yM;rw[hk]at hb;cases d<;>simp only[Jw,XE,QO,QE]at hb;rw[hd,hb.1,hb.2]
theorem bytes_inj{s t:List UInt8}:bytes s=bytes t↔s=t:=⟨λh=>by cases h;rfl,λh=>by rw[h]⟩
theorem bytes_beq(s t:List UInt8):(bytes s==bytes t)=decide (s=t):=by
 rw[XY,decide_eq_true_iff];constructor
 .intro h
  have h:((bytes s).data==(bytes t).data)=true:=h;rw[QO]at h;have:=congrArg Array.toList h;simpa[bytes] using this
 .rintro rfl
  show ((bytes s).data==(bytes s).data)=true;simp
def Dj:List MapEntry->List UInt8->Option (Nat×Value)
 | [],_=>none
 |e :: es,s=>match e.key with
  |.string x=>if x=bytes s then some (0,e.val) else (Dj es s).map λp=>(p.1+1,p.2)
  |_=>(Dj es s).map λp=>(p.1+1,p.2)
def Aor(es:List MapEntry):Prop:=∀e∈es,∃s v,e.key=.string (bytes s)/\e.val=.bool v
theorem Yr:∀(es:List MapEntry) (s:List UInt8) (i:Nat),Aor es->Instr.findNow .string (.string (bytes s)) es i=some ((Dj es s).map λp=>(i+p.1,p.2))
 | [],s,i,_=>rfl
 |e :: es,s,i,h=>by
  obtain⟨k,v,hk,hv⟩:=h e (XB ..);have ih:=Yr es s (i+1) λe he=>h e (XC _ he);simp only[Instr.findNow,hk,Instr.sameNow,Dj,bytes_beq]
  by_cases hs:s=k
  .subst hs;simp
  .have h2:¬bytes k=bytes s:=λe=>hs (bytes_inj.1 e).symm
   simp only[hs,decide_false,QA h2,ih];cases Dj es s with
   |none=>rfl
   |some p=>simp;omega
theorem Ks:∀ {es:List MapEntry} {s:List UInt8} {p:Nat×Value},Dj es s=some p->∃e,es[p.1]?=some e/\e.key=.string (bytes s)/\e.val=p.2
 | [],s,p,h=>by cases h
 |e :: es,s,p,h=>by
  simp only[Dj]at h
  split at h
  .rename_i x hx
   split at h
   .rename_i nZ
    cases h;exact⟨e,rfl,by rw[hx,nZ],rfl⟩
   .obtain⟨q,hq,rfl⟩:=Option.map_eq_some_iff.1 h
    obtain⟨e',h1,h2⟩:=Ks hq;exact⟨e',by simpa using h1,h2⟩
  .obtain⟨q,hq,rfl⟩:=Option.map_eq_some_iff.1 h
   obtain⟨e',h1,h2⟩:=Ks hq;exact⟨e',by simpa using h1,h2⟩
theorem Rk:∀(es:List MapEntry) (s:List UInt8),Ga es s=match Dj es s with|some (_,.bool v)=>v|_=>false
 | [],s=>rfl
 |e :: es,s=>by
  have ih:=Rk es s;have hr:Ga es s=match (Dj es s).map (λp=>(p.1+1,p.2)) with|some (_,.bool v)=>v|_=>false:=by
   rw[ih];cases Dj es s with
   |none=>rfl
   |some p=>obtain⟨i,v⟩:=p;cases v<;>rfl
  cases hk:e.key with
  |string x =>
   simp only[Ga,Dj,hk]
   by_cases hx:x=bytes s
   .rw[QC hx,QC hx]
    cases e.val<;>rfl
   .rw[QA hx,QA hx];exact hr
  |_=>simp only[Ga,Dj,hk];exact hr
theorem Np:∀(es:List MapEntry) (s k:List UInt8) (b:Bool) (n:Nat),Dj es s=none->Ga (es++[⟨.string (bytes s),.bool b,n⟩]) k=if k=s then b else Ga es k
 | [],s,k,b,n,_=>by
  simp only[UI,Ga]
  by_cases h:k=s
  .subst h;simp
  .have h2:¬bytes s=bytes k:=λe=>h (bytes_inj.1 e).symm
   rw[QA h2,QA h]
 |e :: es,s,k,b,n,h=>by
  simp only[Dj]at h;simp only[UE,Ga]
  split at h
  .rename_i x hx
   split at h
   .cases h
   .rename_i nZ
    have ih:=Np es s k b n (by simpa using h);simp only[hx]
    by_cases hk:x=bytes k
    .rw[QC hk,QC hk]
     have:k≠s:=λe=>nZ (by rw[hk,e]);rw[QA this]
    .rw[QA hk,QA hk,ih]
  .have ih:=Np es s k b n (by simpa using h)
   cases hx:e.key<;>simp only[ih]<;>simp_all
theorem X6:∀(es:List MapEntry) (s k:List UInt8) (b:Bool) (i:Nat) (v:Value),Dj es s=some (i,v)->Ga (es.modify i λe=>{ e with key:=.string (bytes s),val:=.bool b }) k=if k=s then b else Ga es k
 | [],s,k,b,i,v,h=>by cases h
 |e :: es,s,k,b,i,v,h=>by
  simp only[Dj]at h;have rest:∀(p:Nat×Value),Dj es s=some p->(∀x,e.key=.string x->¬x=bytes s)->Ga ((e :: es).modify (p.1+1) λe=>{ e with key:=.string (bytes s),val:=.bool b }) k=if k=s then b else Ga (e :: es) k:=by
   intro p hp bA;have ih:=X6 es s k b p.1 p.2 hp;rw[List.modify_succ_cons];simp only[Ga];cases hx:e.key with
   |string x =>
    simp only
    by_cases hk:x=bytes k
    .rw[QC hk,QC hk]
     have:k≠s:=λe2=>bA x hx (by rw[hk,e2]);rw[QA this]
    .rw[QA hk,QA hk,ih]
   |_=>simp only[ih]
  split at h
  .rename_i x hx
   split at h
   .rename_i nZ
    cases h;rw[List.modify_zero_cons];simp only[Ga]
    by_cases hk:k=s
    .subst hk;simp
    .have h2:¬bytes s=bytes k:=λe=>hk (bytes_inj.1 e).symm
     have h3:¬x=bytes k:=λe=>h2 (by rw[<-nZ,e]);rw[QA h2,QA hk,hx];simp only;rw[QA h3]
   .rename_i nZ
    obtain⟨q,hq,e2⟩:=Option.map_eq_some_iff.1 h;cases e2;exact rest q hq λy hy=>by rw[hx]at hy;cases hy;exact nZ
  .rename_i hx
   obtain⟨q,hq,e2⟩:=Option.map_eq_some_iff.1 h;cases e2;exact rest q hq λy hy=>absurd hy (by intro e3;exact hx _ e3)
theorem H0{t:TypeId}(ht:P.underlying t=some .string)(b:Bool)(s:ByteArray)(w:World):(Instr.checkKey b 10000 t (.string s)).run P w=.ok () w:=by
 have h:Instr.checkKey b 10000 t (.string s)=Instr.checkKey b (9999+1) t (.string s):=rfl;rw[h,Instr.checkKey];simp only[Sem.run_bind,run_underlying ht,Result.andThen_ok,Sem.run_pure]
theorem I8{t:TypeId}(ht:P.underlying t=some .string){es:List MapEntry}(h:Aor es)(s:List UInt8)(w:World):(Instr.findKey t (.string (bytes s)) es).run P w=.ok (Dj es s) w:=by
 simp only[Instr.findKey,Sem.run_bind,run_underlying ht,Result.andThen_ok,Yr es s 0 h,Sem.run_pure];cases Dj es s with
 |none=>rfl
 |some p=>simp
theorem Fu{w:World}{r:Nat}{es:Array MapEntry}{c:Nat}(hb:w.heap[r]?=some (.map es c)):(getObj r).run P w=.ok (.map es c) w:=by
 simp[getObj,Sem.run,hb]
theorem Ke{w:World}{r:Nat}{es:Array MapEntry}{c:Nat}{o':Obj}(hb:w.heap[r]?=some (.map es c)):(setObj r o').run P w=.ok () { w with heap:=w.heap.setIfInBounds r o' }:=by
 simp[setObj,Sem.run,hb]
theorem Ahk{B:Bs}{N:Nat}{E:Env}{a:Act}{w:World}{ff:Nat->SG}{hf:Nat->Hl}(st:St B N E a w ff hf){h:Nat}(bN:hf h=.fresh)(o':Obj)(l:Hl)
  (hl:∀(E':Env) (w':World),E'.β h=some w.heap.size->E'.O w.heap.size=some h->w'.heap[w.heap.size]?=some o'->(∀o,¬E'.I w.heap.size o)->bR E' w' h l):
  ∃E',Ext E w E' (w.alloc o')/\Cr B E' (w.alloc o')/\(∀k,bR E' (w.alloc o') k (aU hf h l k))/\E'.β h=some w.heap.size/\∀b k,E'.O b=some k->E.O b=some k\/b=w.heap.size:=by
 have hb:=st.base;have cI:=st.heap h;rw[bN]at cI;obtain⟨f1,f2,_,_⟩:=cI
 let E':Env:=⟨aU E.β h (some w.heap.size),E.τ,aU E.O w.heap.size (some h),E.κ,E.ζ,E.I⟩
 have hx:Ext E w E' (w.alloc o'):=by
  refine⟨λk b hk=>?_,λ_ _ h=>.inl h,λ_ _ h=>h,λ_ _ h=>h,λ_ _ h=>h,λb o hi=>Dc (hb.dP b o hi)⟩;show aU E.β h (some w.heap.size) k=some b;unfold aU
  by_cases e:k=h
  .subst e;rw[f1]at hk;cases hk
  .rw[QA e];exact hk
 refine⟨E',hx,⟨hb.os,hb.tape,hb.output,?_,?_,?_,?_,?_,?_,hb.cO.ext hx⟩,λk=>?_,by simp[E',aU],λb k hO=>by
  have hO:aU E.O w.heap.size (some h) b=some k:=hO;unfold aU at hO
  split at hO
  .rename_i e;exact .inr e
  .exact .inl hO⟩
 .have:=hb.size;simp;omega
 .intro b aC hX;rw[Di (by have:=hb.size;omega)];exact hb.dY b aC hX
 .intro b o hi
  obtain⟨i1,i2⟩:=hb.I0 b o hi;exact⟨i1,by rw[Dc (hb.dP b o i1)];exact i2⟩
 .intro b o hi;have:=hb.dP b o hi;simp;omega
 .exact hb.cE
 .intro b k hO
  have hO:aU E.O w.heap.size (some h) b=some k:=hO;unfold aU at hO
  split at hO
  .rename_i e;subst e;have:=hb.size;simp;exact .inl this
  .obtain⟨o1,o2⟩:=hb.cS b k hO;simp;exact⟨by omega,o2⟩
 .by_cases e:k=h
  .subst e
   simp only[aU,QC];refine hl E' _ (by simp[E',aU]) (by simp[E',aU]) (heap_alloc_new w _) λo hi=>?_;have:=hb.dP _ _ hi;omega
  .simp only[aU,QA e]
   refine bR.keep hx (st.heap k) (by simp[E',aU,e]) rfl rfl rfl λb hO=>?_;have aC:=Bd hb hO;exact⟨by simp[E',aU,YY aC];exact hO,Di aC,λ_ h=>h⟩
theorem Hj(w:World)(r:Nat)(o:Obj)(k:Nat)(hr:r<w.heap.size):({ w with heap:=w.heap.setIfInBounds r o }:World).heap[k]?=if k=r then some o else w.heap[k]?:=by
 show (w.heap.setIfInBounds r o)[k]?=_
 by_cases e:k=r
 .subst e;rw[QC rfl,ZZ hr]
 .rw[QA e,ZP (λh=>e h.symm)]
theorem Lp(w:World)(r:Nat)(o:Obj){b off:Nat}(bA:b≠r):({ w with heap:=w.heap.setIfInBounds r o }:World).cell? ⟨b,off,none⟩=w.cell? ⟨b,off,none⟩:=by
 unfold World.cell?;have:({ w with heap:=w.heap.setIfInBounds r o }:World).heap[b]?=w.heap[b]?:=by
  show (w.heap.setIfInBounds r o)[b]?=_;rw[ZP (λh=>bA h.symm)]
 rw[this]
theorem Oh{B:Bs}{N:Nat}{E:Env}{a:Act}{w:World}{ff:Nat->SG}{hf:Nat->Hl}(st:St B N E a w ff hf){h b:Nat}(hO:E.O b=some h)(hI:∀o,¬E.I b o)(o':Obj)(l:Hl)
  (hl:bR E { w with heap:=w.heap.setIfInBounds b o' } h l):
  Ext E w E { w with heap:=w.heap.setIfInBounds b o' }/\Cr B E { w with heap:=w.heap.setIfInBounds b o' }/\∀k,bR E { w with heap:=w.heap.setIfInBounds b o' } k (aU hf h l k):=by
 have hb:=st.base;have yI:=Bd hb hO;have hx:Ext E w E { w with heap:=w.heap.setIfInBounds b o' }:=⟨λ_ _ h=>h,λ_ _ h=>.inl h,λ_ _ h=>h,λ_ _ h=>h,λ_ _ h=>h,λb2 o hi=>Lp w b o' (λe=>by subst e;exact hI o hi)⟩;have hX:=(hb.cS b h hO).2;refine⟨hx,⟨hb.os,hb.tape,hb.output,by simpa using hb.size,?_,?_,?_,hb.cE,?_,hb.cO⟩,λk=>?_⟩
 .intro b2 aC kS
  rw[Hj w b o' b2 yI]
  by_cases e:b2=b
  .subst e;rcases hX with hX|hX
   .omega
   .exact absurd hX kS
  .rw[QA e];exact hb.dY b2 aC kS
 .intro b2 o hi
  obtain⟨i1,i2⟩:=hb.I0 b2 o hi;exact⟨i1,by rw[hx.cell b2 o i1];exact i2⟩
 .intro b2 o hi;have:=hb.dP b2 o hi;simpa using this
 .intro b2 k hO;have:=hb.cS b2 k hO;simpa using this
 .by_cases e:k=h
  .subst e;simp only[aU,QC];exact hl
  .simp only[aU,QA e]
   refine bR.keep hx (st.heap k) rfl rfl rfl rfl λb2 yJ=>⟨yJ,?_,λ_ h=>h⟩;rw[Hj w b o' b2 yI,QA];intro e2;subst e2;rw[hO]at yJ;exact e (Option.some.inj yJ).symm
theorem Rel.kQ{E:Env}{w:World}{h:Nat}{v:Value}(hr:Rel E w (.bQ h) v):∃b,E.β h=some b/\v=.map (some b):=by
 cases hr with
 |ro h=>cases h
 |bQ hb hv=>exact⟨_,hb,hv⟩
theorem Ew.xN{t:Nat}{ti:TI}(h:Ew P t ti)(hk:ti.k=.bool)(hz:ti.zero=[.bool (.l false)])(w:World):(zeroValue t).run P w=.ok (.bool false) w:=by
 obtain⟨i,z,hi,h1,h2,h3,h4,h5⟩:=h.info;have e:z=.bool false:=by
  rw[hz]at h4;rw[hk]at h5;cases z with
  |agg a=>simp[Amv]at h5
  |bool b=>simp[Value.cells,vI,zB]at h4;rw[h4]
  |_=>simp[Value.cells,vI,zB]at h4
 subst e;simp[zeroValue,typeInfo,hi,h3]
theorem Zv(hc:A4 P cx){t kt vt:TypeId}{x y:Operand}(ho:o.op=.lookup t x y false){ti tk tv:TI}(hl:look t cx.tt=some ti)(hk:ti.k=.map kt vt)(qO:look kt cx.tt=some tk)(bD:tk.k=.string)(WY:look vt cx.tt=some tv)(CW:tv.k=.bool)(hzv:tv.zero=[.bool (.l false)])
  {h:Nat} {s:List UInt8} {F:List UInt8->Bool} (hx:rd cx σ T x=some (.bQ h)) (hy:rd cx σ T y=some (.str s)) (hh:nth σ.hp h=some (.dB F)):Local P cx.gl σ T o ⟨.bool (.a (F s)),[],[h],[]⟩:=by
 intro B N E a w ff hf hg st ag bL hT K' Q hK;obtain⟨b,hb,hv⟩:=(Ab hx hg st (Ak ag (by simp[ho,Op.operands])) hT).kQ;have hs:=(Ab hy hg st (Ak ag (by simp[ho,Op.operands])) hT).cV;have fD:=st.heap h;rw[bL.tX h (by simp),Bv hh]at fD;obtain⟨b',es,clock,k1,k2,k3,k4,k5,k6⟩:=fD;obtain rfl:b=b':=Option.some.inj (hb.symm.trans k1);have hu:=(hc.ti hl).map hk;have yA:=(hc.ti qO).string bD;have hz:=(hc.ti WY).xN CW hzv w;unfold Oper.wp;have mR:(Instr.lookup t (.map (some b)) (.string (bytes s)) false).run P w=.ok (.bool (F s)) w:=by
  simp only[Instr.lookup,Sem.run_bind,run_underlying hu,Result.andThen_ok,Fu k3,Sem.run_pure,H0 yA,I8 yA k4];have h1:=k5 s;rw[Rk]at h1;cases hf:Dj es.toList s with
  |none =>
   rw[hf]at h1;simp[hz,<-h1]
  |some p =>
   obtain⟨i,v⟩:=p;obtain⟨e,e1,e2,e3⟩:=Ks hf;obtain⟨_,bv,_,e4⟩:=k4 e (QL e1);rw[hf]at h1;rw[e4]at e3;simp only at e3 h1;subst e3;simp only at h1;simp[h1]
 have:(execOp a.eval o).run P w=.ok (.value (.bool (F s))) w:=by
  simp only[execOp,ho,hv,hs,Sem.run_bind,mR,Result.andThen_ok,Sem.run_pure]
 rw[this];exact hK _ _ E (Ext.refl E w) st.base st.heap (.ro (.bool rfl))
theorem K6(hc:A4 P cx){t kt vt:TypeId}{x y z:Operand}(ho:o.op=.mapUpdate t x y z\/o.op=.insert t x y z){ti tk:TI}(hl:look t cx.tt=some ti)(hk:ti.k=.map kt vt)(qO:look kt cx.tt=some tk)(bD:tk.k=.string)
  {h:Nat} {s:List UInt8} {bt:BT} {F F':List UInt8->Bool} (hx:rd cx σ T x=some (.bQ h)) (hy:rd cx σ T y=some (.str s)) (hz:rd cx σ T z=some (.bool bt)) (hh:nth σ.hp h=some (.dB F)) (hF:Lc F' F s bt.den):Local P cx.gl σ T o ⟨.aI [],[.put h (.dB F')],[h],[]⟩:=by
 intro B N E a w ff hf hg st ag bL hT K' Q hK;have mx:x∈o.op.operands.toList:=by rcases ho with ho|ho<;>simp[ho,Op.operands]
 have my:y∈o.op.operands.toList:=by rcases ho with ho|ho<;>simp[ho,Op.operands]
 have mz:z∈o.op.operands.toList:=by rcases ho with ho|ho<;>simp[ho,Op.operands]
 obtain⟨b,hb,hv⟩:=(Ab hx hg st (Ak ag mx) hT).kQ;have hs:=(Ab hy hg st (Ak ag my) hT).cV;have tP:=(Ab hz hg st (Ak ag mz) hT).bJ;have fD:=st.heap h;rw[bL.tX h (by simp),Bv hh]at fD;obtain⟨b',es,clock,k1,k2,k3,k4,k5,k6⟩:=fD;obtain rfl:b=b':=Option.some.inj (hb.symm.trans k1);have hu:=(hc.ti hl).map hk;have yA:=(hc.ti qO).string bD;have yI:=Bd st.base k2;obtain⟨tG,lW,aW,JD,bM⟩:∃tG lW,(Instr.mapUpdate t (.map (some b)) (.string (bytes s)) (.bool bt.den)).run P w=.ok () { w with heap:=w.heap.setIfInBounds b (.map tG lW) }/\Aor tG.toList/\∀k,Ga tG.toList k=F' k:=by
  cases hf:Dj es.toList s with
  |none =>
   refine⟨es.push ⟨.string (bytes s),.bool bt.den,clock⟩,clock+1,?_,λe he=>?_,λk=>?_⟩
   .simp only[Instr.mapUpdate,Sem.run_bind,run_underlying hu,Result.andThen_ok,Fu k3,H0 yA,I8 yA k4,hf,Ke k3]
   .rw[Array.toList_push,YB,YQ]at he
    rcases he with he|rfl
    .exact k4 e he
    .exact⟨s,bt.den,rfl,rfl⟩
   .rw[Array.toList_push,Np _ _ _ _ _ hf,hF.h,k5]
  |some p =>
   obtain⟨i,v⟩:=p;obtain⟨e,e1,e2,e3⟩:=Ks hf;have e1':es[i]?=some e:=by simpa using e1
   refine⟨es.modify i λe=>{ e with key:=.string (bytes s),val:=.bool bt.den },clock,?_,λe he=>?_,λk=>?_⟩
   .have eY:(Instr.keyThatStays (.string (bytes s)) (.string (bytes s))).run P w=.ok (.string (bytes s)) w:=by
     have:Instr.sameBits 10000 (.string (bytes s)) (.string (bytes s))=true:=by
      show (bytes s==bytes s)=true;rw[bytes_beq];simp
     simp only[Instr.keyThatStays,this,if_true,Sem.run_pure]
    simp only[Instr.mapUpdate,Sem.run_bind,run_underlying hu,Result.andThen_ok,Fu k3,H0 yA,I8 yA k4,hf,e1',QQ,XD,e2,eY,Ke k3]
   .rw[Array.toList_modify]at he
    obtain⟨j,hj⟩:=List.mem_iff_getElem?.1 he;rw[List.getElem?_modify]at hj;obtain⟨e0,h0,rfl⟩:=Option.map_eq_some_iff.1 hj
    split
    .exact⟨s,bt.den,rfl,rfl⟩
    .exact k4 e0 (QL h0)
   .rw[Array.toList_modify,X6 _ _ _ _ _ _ hf,hF.h,k5]
 have hn:bR E { w with heap:=w.heap.setIfInBounds b (.map tG lW) } h (.dB F'):=by
  refine⟨b,tG,lW,hb,k2,?_,JD,bM,k6⟩;rw[Hj w b _ b yI,QC rfl]
 obtain⟨x1,x2,x3⟩:=Oh st k2 k6 (.map tG lW) (.dB F') hn;unfold Oper.wp;have:(execOp a.eval o).run P w=.ok .skip { w with heap:=w.heap.setIfInBounds b (.map tG lW) }:=by
  rcases ho with ho|ho<;>simp only[execOp,ho,hv,hs,tP,Sem.run_bind,aW,Result.andThen_ok,Sem.run_pure]
 rw[this];exact hK undef _ E x1 x2 x3 (.aI rfl (by simp))
end
section
variable {P:Program} {cx:Cx} {σ:Sy} {T:List Nat} {o:Oper}
theorem Ew.int64{t:Nat}{ti:TI}(h:Ew P t ti)(hk:ti.k=.int .i64):P.underlying t=some (.int .i64):=by
 obtain⟨d,hd,hb⟩:=h.yM;rw[hk]at hb;cases d<;>simp only[Jw,XE,QO]at hb;rw[hd,hb]
def Jc:List MapEntry->Int->Option (Nat×Value)
 | [],_=>none
 |e :: es,n=>match e.key with
  |.int _ k=>if n=k then some (0,e.val) else (Jc es n).map λp=>(p.1+1,p.2)
  |_=>none
def Aos(es:List MapEntry):Prop:=∀e∈es,∃k,e.key=.int .i64 k
theorem Ys:∀(es:List MapEntry) (n:Int) (i:Nat),Aos es->Instr.findNow (.int .i64) (.int .i64 n) es i=some ((Jc es n).map λp=>(i+p.1,p.2))
 | [],n,i,_=>rfl
 |e :: es,n,i,h=>by
  obtain⟨k,hk⟩:=h e (XB ..);have ih:=Ys es n (i+1) λe he=>h e (XC _ he);simp only[Instr.findNow,hk,Instr.sameNow,Jc,if_true]
  by_cases hs:n=k
  .subst hs;simp
  .have e1:(n==k)=false:=by simpa using hs
   simp only[e1,QA hs,ih];cases Jc es n with
   |none=>rfl
   |some p=>simp;omega
theorem Lq{t:TypeId}(ht:P.underlying t=some (.int .i64))(b:Bool)(n:Int)(w:World):(Instr.checkKey b 10000 t (.int .i64 n)).run P w=.ok () w:=by
 have h:Instr.checkKey b 10000 t (.int .i64 n)=Instr.checkKey b (9999+1) t (.int .i64 n):=rfl;rw[h,Instr.checkKey];simp only[Sem.run_bind,run_underlying ht,Result.andThen_ok,Sem.run_pure]
theorem M5{t:TypeId}(ht:P.underlying t=some (.int .i64)){es:List MapEntry}(h:Aos es)(n:Int)(w:World):(Instr.findKey t (.int .i64 n) es).run P w=.ok (Jc es n) w:=by
 simp only[Instr.findKey,Sem.run_bind,run_underlying ht,Result.andThen_ok,Ys es n 0 h,Sem.run_pure];cases Jc es n with
 |none=>rfl
 |some p=>simp
structure I3(E:Env)(w:World)(es:List (Int×SV))(ms:List MapEntry):Prop where
 len:ms.length=es.length
 at_:∀(i:Nat) (p:Int×SV) (e:MapEntry),es[i]?=some p->ms[i]?=some e->e.key=.int .i64 p.1/\Rel E w p.2 e.val
theorem I3.keys{E:Env}{w:World}{es:List (Int×SV)}{ms:List MapEntry}(h:I3 E w es ms):Aos ms:=λe he=>by
 obtain⟨i,hi⟩:=List.mem_iff_getElem?.1 he;have aC:=(List.getElem?_eq_some_iff.1 hi).1;rw[h.len]at aC;exact⟨_,(h.at_ i _ e (QB aC) hi).1⟩
theorem Xn{n:Int}{F:SV->Prop}:∀ {es:List (Int×SV)},PU n (U7 es)->Zf n F es->∃v i,es[i]?=some (n,v)/\(∀(j:Nat) (p:Int×SV),j<i->es[j]?=some p->p.1≠n)/\F v
 | [],hk,_=>absurd hk.h (by simp[U7])
 |(k,v) :: es,hk,hs=>by
  by_cases e:n=k
  .exact⟨v,0,by simp[e],λj _ hj=>by omega,hs.1 ⟨e⟩⟩
  .have aY:PU n (U7 es):=⟨by
    have:=hk.h;simp only[U7,XT]at this;exact this.resolve_left e⟩
   obtain⟨v',i,q1,q2,q3⟩:=Xn aY hs.2;refine⟨v',i+1,by simpa using q1,λj p hj hp=>?_,q3⟩;cases j with
   |zero=>simp at hp;subst hp;exact λe2=>e e2.symm
   |succ j=>exact q2 j p (by omega) (by simpa using hp)
theorem Sc{E:Env}{w:World}{n:Int}{v:SV}:∀ {l:List MapEntry} {es:List (Int×SV)},I3 E w es l->∀ {i:Nat},es[i]?=some (n,v)->(∀(j:Nat) (p:Int×SV),j<i->es[j]?=some p->p.1≠n)->∃u,Jc l n=some (i,u)/\Rel E w v u
 | [],es,jR,i,q1,q2=>by
  have:=jR.len;have aC:=(List.getElem?_eq_some_iff.1 q1).1;simp at this;omega
 |e :: l,[],jR,i,q1,q2=>by simp at q1
 |e :: l,p :: es,jR,i,q1,q2=>by
  obtain⟨g1,g2⟩:=jR.at_ 0 p e rfl rfl;have hr:I3 E w es l:=⟨by have:=jR.len;simpa using this,λi p e hp he=>jR.at_ (i+1) p e (by simpa using hp) (by simpa using he)⟩;simp only[Jc,g1];cases i with
  |zero =>
   simp at q1;subst q1;exact⟨e.val,by simp,g2⟩
  |succ i =>
   have bA:n≠p.1:=λe2=>q2 0 p (by omega) rfl e2.symm;rw[QA bA];obtain⟨u,u1,u2⟩:=Sc hr (by simpa using q1) λj p' hj hp=>q2 (j+1) p' (by omega) (by simpa using hp);exact⟨u,by rw[u1];rfl,u2⟩
theorem Vk{E:Env}{w:World}:∀ {es:List (Int×SV)} {ms:List MapEntry},I3 E w es ms->∀ {n:Int},NP n es=true->Jc ms n=none
 | [],[],_,n,_=>rfl
 | [],e :: ms,h,n,_=>by have:=h.len;simp at this
 |(k,v) :: es,[],h,n,_=>rfl
 |(k,v) :: es,e :: ms,h,n,hn=>by
  obtain⟨h1,h2⟩:=h.at_ 0 (k,v) e rfl rfl;have hr:I3 E w es ms:=⟨by have:=h.len;simpa using this,λi p e hp he=>h.at_ (i+1) p e (by simpa using hp) (by simpa using he)⟩;simp only[NP,QE,XL,beq_eq_false_iff_ne]at hn;simp only[Jc,h1,QA (λe=>hn.1 (Eq.symm e)),Vk hr hn.2,YW]
theorem Afo{r:Option Operand}(h:Afp r=true){a:Act}{t:TypeId}{w:World}{k e:TypeId}(hu:P.underlying t=some (.map k e)):(Instr.makeMap t (r.map a.eval)).run P w=.ok (.map (some w.heap.size)) (w.alloc (.map #[] 0)):=by
 match r,h with
 |none,_=>simp[Instr.makeMap,newObj,Sem.run]
 |some (.const (.int .i64 n)),_=>simp[Instr.makeMap,newObj,Sem.run_bind,run_underlying hu,Act.eval,asInt,asIntOf,Sem.run]
theorem Lt(hc:A4 P cx){t kt vt:TypeId}{r:Option Operand}(ho:o.op=.makeMap t r){ti:TI}(hl:look t cx.tt=some ti)(hk:ti.k=.map kt vt)(hr:Afp r=true)(l:Hl)(hlm:l=.dB (λ_=>false)\/l=.iP []):
  Local P cx.gl σ T o ⟨.bQ (Ai σ.hp),[.put (Ai σ.hp) l],[],[]⟩:=by
 intro B N E a w ff hf _ st _ bL _ K' Q hK;have bN:hf (Ai σ.hp)=.fresh:=by
  have:=bL.fR _ (List.mem_singleton.2 rfl);simp only[fx,Aq,Aj,Ag]at this;rw[Ag,this];simp
 obtain⟨E',hx,hb,hh,fY,_⟩:=Ahk st bN (.map #[] 0) l λE' w' h1 h2 h3 h4=>by
  rcases hlm with rfl|rfl
  .exact⟨_,#[],0,h1,h2,h3,by simp,λs=>rfl,h4⟩
  .exact⟨_,#[],0,h1,h2,h3,by simp,by simp,h4⟩
 unfold Oper.wp;have:(execOp a.eval o).run P w=.ok (.value (.map (some w.heap.size))) (w.alloc (.map #[] 0)):=by
  simp only[execOp,ho,Sem.run_bind,Afo hr ((hc.ti hl).map hk),Result.andThen_ok,Sem.run_pure]
 rw[this];exact hK _ _ E' hx hb hh (.bQ fY rfl)
theorem W1(hc:A4 P cx){K:Out->Prop}{t kt vt:TypeId}{x y:Operand}(ho:o.op=.lookup t x y false){ti tk:TI}(hl:look t cx.tt=some ti)(hk:ti.k=.map kt vt)(qO:look kt cx.tt=some tk)(bD:tk.k=.int .i64)
  {h:Nat} {n:ST} {es:List (Int×SV)} (hx:rd cx σ T x=some (.bQ h)) (hy:rd cx σ T y=some (.int .i64 n)) (hh:nth σ.hp h=some (.iP es)) (h1:PU n.den (U7 es)) (h2:Zf n.den (λv=>K ⟨v,[],[h],[]⟩) es) (_nz:T=[]):∃r,K r/\Local P cx.gl σ T o r:=by
 obtain⟨v,i,q1,q2,hF⟩:=Xn h1 h2;refine⟨_,hF,?_⟩;intro B N E a w ff hf hg st ag bL hT K' Q hK;obtain⟨b,hb,gi⟩:=(Ab hx hg st (Ak ag (by simp[ho,Op.operands])) hT).kQ;have hs:=(Ab hy hg st (Ak ag (by simp[ho,Op.operands])) hT).aT;have fD:=st.heap h;rw[bL.tX h (by simp),Bv hh]at fD;obtain⟨b',ms,clock,k1,k2,k3,k4,k5,k6⟩:=fD;obtain rfl:b=b':=Option.some.inj (hb.symm.trans k1);have hu:=(hc.ti hl).map hk;have yA:=(hc.ti qO).int64 bD;have jR:I3 E w es ms.toList:=⟨by simpa using k4,k5⟩;obtain⟨u,u1,u2⟩:=Sc jR q1 q2;unfold Oper.wp;have mR:(Instr.lookup t (.map (some b)) (.int .i64 n.den) false).run P w=.ok u w:=by
  simp only[Instr.lookup,Sem.run_bind,run_underlying hu,Result.andThen_ok,Fu k3,Sem.run_pure,Lq yA,M5 yA jR.keys,u1];simp
 have:(execOp a.eval o).run P w=.ok (.value u) w:=by
  simp only[execOp,ho,gi,hs,Sem.run_bind,mR,Result.andThen_ok,Sem.run_pure]
 rw[this];exact hK _ _ E (Ext.refl E w) st.base st.heap u2
theorem Jt(hc:A4 P cx){t kt vt:TypeId}{x y z:Operand}(ho:o.op=.mapUpdate t x y z\/o.op=.insert t x y z){ti tk:TI}(hl:look t cx.tt=some ti)(hk:ti.k=.map kt vt)(qO:look kt cx.tt=some tk)(bD:tk.k=.int .i64)
  {h:Nat} {n:Int} {v:SV} {es:List (Int×SV)} (hx:rd cx σ T x=some (.bQ h)) (hy:rd cx σ T y=some (.int .i64 (.l n))) (hz:rd cx σ T z=some v) (hh:nth σ.hp h=some (.iP es)) (hn:NP n es=true):Local P cx.gl σ T o ⟨.aI [],[.put h (.iP (es++[(n,v)]))],[h],[]⟩:=by
 intro B N E a w ff hf hg st ag bL hT K' Q hK;have mx:x∈o.op.operands.toList:=by rcases ho with ho|ho<;>simp[ho,Op.operands]
 have my:y∈o.op.operands.toList:=by rcases ho with ho|ho<;>simp[ho,Op.operands]
 have mz:z∈o.op.operands.toList:=by rcases ho with ho|ho<;>simp[ho,Op.operands]
 obtain⟨b,hb,hv⟩:=(Ab hx hg st (Ak ag mx) hT).kQ;have hs:=(Ab hy hg st (Ak ag my) hT).aT;have bp:=Ab hz hg st (Ak ag mz) hT;have fD:=st.heap h;rw[bL.tX h (by simp),Bv hh]at fD;obtain⟨b',ms,clock,k1,k2,k3,k4,k5,k6⟩:=fD;obtain rfl:b=b':=Option.some.inj (hb.symm.trans k1);have hu:=(hc.ti hl).map hk;have yA:=(hc.ti qO).int64 bD;have yI:=Bd st.base k2;have jR:I3 E w es ms.toList:=⟨by simpa using k4,k5⟩;have uT:=Vk jR hn;obtain⟨r9,WT⟩:∃r9,r9=ms.push ⟨.int .i64 n,a.eval z,clock⟩:=⟨_,rfl⟩;have aW:(Instr.mapUpdate t (.map (some b)) (.int .i64 n) (a.eval z)).run P w=.ok () { w with heap:=w.heap.setIfInBounds b (.map r9 (clock+1)) }:=by
  rw[WT];simp only[Instr.mapUpdate,Sem.run_bind,run_underlying hu,Result.andThen_ok,Fu k3,Lq yA,M5 yA jR.keys,uT,Ke k3]
 have oQ:Ext E w E { w with heap:=w.heap.setIfInBounds b (.map r9 (clock+1)) }:=⟨λ_ _ h=>h,λ_ _ h=>.inl h,λ_ _ h=>h,λ_ _ h=>h,λ_ _ h=>h,λb2 o hi=>Lp w b _ (λe=>by subst e;exact k6 o hi)⟩;have hn:bR E { w with heap:=w.heap.setIfInBounds b (.map r9 (clock+1)) } h (.iP (es++[(n,v)])):=by
  refine⟨b,r9,clock+1,hb,k2,?_,by rw[WT];simp[k4],λi p e hp he=>?_,k6⟩
  .rw[Hj w b _ b yI,QC rfl]
  .rw[WT,Array.toList_push]at he
   by_cases hi:i<es.length
   .rw[QM hi]at hp
    rw[QM (by simpa[k4] using hi)]at he;obtain⟨g1,g2⟩:=k5 i p e hp he;exact⟨g1,g2.mono oQ⟩
   .rw[QP (by omega)]at hp
    rw[QP (by simp[k4];omega)]at he;have e0:i-es.length=0:=by
     have:=(List.getElem?_eq_some_iff.1 hp).1;simp at this;omega
    have e1:i-ms.toList.length=0:=by simp[k4];omega
    rw[e0]at hp;rw[e1]at he;simp at hp he;subst hp;subst he;exact⟨rfl,bp.mono oQ⟩
 obtain⟨x1,x2,x3⟩:=Oh st k2 k6 (.map r9 (clock+1)) (.iP (es++[(n,v)])) hn;unfold Oper.wp;have:(execOp a.eval o).run P w=.ok .skip { w with heap:=w.heap.setIfInBounds b (.map r9 (clock+1)) }:=by
  rcases ho with ho|ho<;>simp only[execOp,ho,hv,hs,ST.den,Sem.run_bind,aW,Result.andThen_ok,Sem.run_pure]
 rw[this];exact hK undef _ E x1 x2 x3 (.aI rfl (by simp))
end
open Go Go.Lib
section
variable {P:Program} {cx:Cx} {σ:Sy} {T:List Nat} {o:Oper} {K:Out->Prop}
theorem Ad7{t u e ty:TypeId}{ti:TI}(hu:P.underlying t=some (.slice e))(jM:P.underlying u=some .string)(he:Ew P e ti)(bC:ti.size=1){w:World}{gr:Bool}{v:Value}{n:Nat}{xs:List Value}(bY:Cu w gr e 1 v n xs)(s:ByteArray)
  (qS:n+s.size<=maxLen) (hb:(n+s.size) * ti.bytes<=140737488355328):
  ∃v' w',(Builtin.append_ #[t,u] ty #[v,.string s]).run P w=.ok v' w'/\Cu w' gr e 1 v' (n+s.size) (xs++strCells s)/\(v'=.slice none 0 0↔v=.slice none 0 0/\s.size=0)/\
   ((v'.ownBlock=v.ownBlock/\w.grownBy w' v.ownBlock)\/(v'.ownBlock=some w.heap.size/\w.grownBy w' none))/\(∃a c,v'=.slice a (n+s.size) c)/\(s.size=0->v'=v):=by
 have mB:=bY;obtain⟨mQ,hh⟩:=bY;obtain⟨i,z,hi,eO,yX,hz,tI,_⟩:=he.info;have qP:i.size=1:=by rw[eO,bC]
 have dZ:z.cells.size=1:=by
  have:=(Kb (I:=λ_ _=>False) (w:=w) tI).1;have h2:ti.zero.length=1:=by rw[he.qE,bC]
  simpa[h2] using this.symm
 have hlen:(xs++strCells s).length=(n+s.size) * 1:=by rw[QF,mQ,strCells_length];omega
 rcases hh with⟨rfl,rfl⟩|⟨g,cap,cur,fr,rfl,hg,cI,rE,fI,cY,bW⟩
 .have hx:xs=[]:=XH (by simpa using mQ)
  subst hx
  by_cases hm:s.size=0
  .have hn:strCells s=[]:=XH (by rw[strCells_length];exact hm)
   refine⟨.slice none 0 0,w,?_,by rw[hm,hn];simpa using mB,by simp[hm],.inl ⟨rfl,⟨rfl,rfl,rfl,QK _,λ_ _ _=>rfl⟩⟩,⟨none,0,by rw[hm]⟩,λ_=>rfl⟩;have hf:=run_firstCells_string (P:=P) (w:=w) 1 s;rw[hm]at hf;simp[Builtin.append_,run_underlying hu,run_underlying jM,sizeOf,typeInfo,hi,qP,Builtin.lenOf,hm,hf]
  .have hr:=run_append_nil_string (P:=P) w t u ty e i z hu jM hi hz s (by omega) (by simp only[maxLen]at qS;omega) (by rw[yX];simp only[XF]at hb;omega)
   have e1:(s.data.map λb=>Value.int .u8 b.toNat)=(strCells s).toArray:=by
    apply XV;simp[strCells]
   rw[e1]at hr;have lS:=grownCap_ge w s.size 0 e;have ei:grownCap w s.size 0 e<=maxLen:=grownCap_le_maxLen w s.size 0 e (by omega);refine⟨_,_,hr,⟨hlen,.inr ⟨w.heap.size,_,_,(0,0),by simp,heap_alloc_new w.drew _,.inl rfl,by omega,ei,?_,?_⟩⟩,by simp[hm],.inr ⟨rfl,⟨rfl,rfl,rfl,by simp,λk hk _=>heap_alloc_old w.drew _ hk⟩⟩,⟨_,_,by rw[XF]⟩,λe=>absurd e hm⟩
   .simp only[Array.size_append,UO,size_zeroCells,dZ,strCells_length]
    omega
   .simp only[Array.toList_append,UI]
    rw[List.take_append_of_le_length (by rw[strCells_length];omega),XJ (by rw[strCells_length];omega)]
 .by_cases iS:n+s.size<=cap
  .have zf:n * 1+(strCells s).length<=cur.size:=by rw[cY,strCells_length];omega
   have hf:=run_firstCells_string (P:=P) (w:=w) 1 s;have eY:=De (P:=P) g (n * 1) e fr (strCells s) 0 cur w hg (cI.imp (λh=>h) (λh=>by rw[h.2];exact QK _)) (by simpa using zf) (strCells_oneCell s);simp only[ZB]at eY;have hr:(Builtin.append_ #[t,u] ty #[.slice (some ⟨g,0,none⟩) n cap,.string s]).run P w =
     .ok (.slice (some ⟨g,0,none⟩) (n+s.size) cap) (w.setRow g (cur.toList.take (n * 1)++strCells s++cur.toList.drop (n * 1+(strCells s).length)).toArray):=by
    simp only[Nat.mul_one]at eY ⊢;simp[Builtin.append_,run_underlying hu,run_underlying jM,sizeOf,typeInfo,hi,qP,Builtin.lenOf,iS,hf,Addr.add_lit,eY]
   have hC:(cur.toList.take (n * 1)++strCells s++cur.toList.drop (n * 1+(strCells s).length)).toArray.size=cur.size:=by
    simp only[UO,QF,QW,QX,Array.length_toList];omega
   refine⟨_,_,hr,⟨hlen,.inr ⟨g,cap,_,fr,rfl,setRow_heap w g cur _ e fr hg,?_,iS,fI,by rw[hC];exact cY,?_⟩⟩,by simp,.inl ⟨rfl,⟨rfl,rfl,rfl,by simp,λk _ hk=>setRow_other w g k _ (λe=>hk (by simp[Value.ownBlock,e]))⟩⟩,⟨_,_,rfl⟩,λe=>by rw[e];rfl⟩
   .rcases cI with h|⟨h1,h2⟩
    .exact .inl h
    .exact .inr ⟨h1,by rw[hC];exact h2⟩
   .rw[bW,<-hlen]
    exact UV
  .have holds:∀j u,xs[j]?=some u->w.cell? ((⟨g,0,none⟩:Addr).add j)=some u:=λj u hj=>by
    have vB:(⟨g,0,none⟩:Addr).add j=⟨g,j,none⟩:=by rw[Addr.add_lit,XF]
    rw[<-bW,QN]at hj
    split at hj
    .rw[vB];simp only[World.cell?,hg];rw[QZ]at hj;simpa using hj
    .cases hj
   have hr:=run_append_grow_string (P:=P) w t u ty e i z hu jM hi hz ⟨g,0,none⟩ n cap xs (by rw[qP];exact mQ) holds s (by omega) (by simp only[maxLen]at qS;omega) (by rw[yX];exact growslice_fits (by omega) hb);have lS:=grownCap_ge w (n+s.size) cap e;have ei:grownCap w (n+s.size) cap e<=maxLen:=grownCap_le_maxLen w (n+s.size) cap e qS;refine⟨_,_,hr,⟨hlen,.inr ⟨w.heap.size,_,_,(0,0),rfl,heap_alloc_new w.drew _,.inl rfl,lS,ei,?_,?_⟩⟩,by simp,.inr ⟨rfl,⟨rfl,rfl,rfl,by simp,λk hk _=>heap_alloc_old w.drew _ hk⟩⟩,⟨_,_,rfl⟩,λe=>by omega⟩
   .simp only[Array.size_append,UO,size_zeroCells,dZ,mQ,strCells_length]
    omega
   .simp only[Array.toList_append,ZJ]
    rw[<-ZJ,<-hlen];exact UV
theorem My{c:Call}(ho:o.op=.call c)(aR:c.callee=.builtin .append){x y:Operand}{t u:TypeId}(hx:c.args.toList=[x,y])(ht:c.argTypes.toList=[t,u]){a:Act}{w w':World}{v':Value}(hr:(Builtin.append_ #[t,u] o.type #[a.eval x,a.eval y]).run P w=.ok v' w'):
  (execOp a.eval o).run P w=.ok (.value v') w':=by
 have e1:c.args=#[x,y]:=XV (by simpa using hx);have e2:c.argTypes=#[t,u]:=XV (by simpa using ht);simp[execOp,ho,resolve,aR,e1,e2,invoke,builtin,hr]
theorem Qk(hc:A4 P cx){c:Call}(ho:o.op=.call c)(aR:c.callee=.builtin .append){x y:Operand}{t u e:Nat}{te ti tu:TI}(hx:c.args.toList=[x,y])(ht:c.argTypes.toList=[t,u])(aC:look t cx.tt=some ti)(hk:ti.k=.slice e)(hle:look e cx.tt=some te)(bC:te.size=1)(WZ:look u cx.tt=some tu)(hku:tu.k=.string)
  {gr:Bool} {nl:BT} {n n0:ST} {f:Nat->List SV} {h:Nat} (mo:rd cx σ T x=some (.bV nl n h)) (hh:nth σ.hp h=some (.own e n0 1 gr f)) {s:List UInt8} (mm:rd cx σ T y=some (.str s))
  (hb:n.den=n0.den/\(n.den+(s.length:Int)) * te.bytes<=140737488355328/\n.den+(s.length:Int)<=9223372036854775807)
  {f':Nat->List SV} {n':Int} (yU:n'=n.den+(s.length:Int)) (fV:∀i:Nat,(i:Int)<n.den->f' i=f i) (dA:∀i j:Nat,(i:Int)=n.den+j->(j:Int)<(s.length:Int)->f' i=aQ s j):
  Local P cx.gl σ T o ⟨.bV (Wi nl (Pk .eql (.len s) (.l 0))) (.a n') h,[.put h (.own e (.a n') 1 gr f')],[h],[]⟩:=by
 intro B N E a w ff hf hg st ag bL hT K' Q hK;have mx:x∈o.op.operands.toList:=by simp[ho,Op.operands,Call.operands,aR,hx]
 have my:y∈o.op.operands.toList:=by simp[ho,Op.operands,Call.operands,aR,hx]
 have iR:=Ab mo hg st (Ak ag mx) hT;have uJ:=Ab mm hg st (Ak ag my) hT;have cg:a.eval y=.string (bytes s):=uJ.cV;have VY:(bytes s).size=s.length:=rfl;have qR:∀j,j<s.length->(strCells (bytes s))[j]?=some (.int .u8 ((s.getD j 0).toNat:Int)):=λj hj=>by
  unfold strCells bytes;rw[QS,QB hj,QD,QB hj];rfl
 have bD:=st.heap h;have cB:=Bx bL (List.mem_singleton.2 rfl) hh;rw[cB]at bD;obtain⟨v,nn,xs,k1,kz,k2,k3,k4,k5,k6⟩:=bD;obtain⟨hv,eQ⟩:=Gs iR k1 k2 k3 hb.1;have gL:n.den=(nn:Int):=by rw[hb.1,k3]
 have jA:(nn+(bytes s).size) * te.bytes<=140737488355328:=by
  have:=hb.2.1;rw[gL]at this;have h:(((nn+s.length) * te.bytes:Nat):Int)<=140737488355328:=by rw[YX,UT];exact this
  rw[VY];omega
 obtain⟨v',w',l1,l2,l3,l4,l5,l6⟩:=Ad7 (P:=P) (ty:=o.type) ((hc.ti aC).slice hk) ((hc.ti WZ).string hku) (hc.ti hle) bC k2 (bytes s) (by have:=hb.2.2;rw[gL]at this;rw[VY];simp only[maxLen];omega) jA;rw[VY]at l2 l3 l5 l6;have mH:∀u∈xs++strCells (bytes s),u.oneCell'=true:=λu hu=>by
  rcases List.mem_append.1 hu with hu|hu
  .exact k4 u hu
  .have:=strCells_oneCell (bytes s) u hu
   simpa using this
 have nE:(ST.a n').den=((nn+s.length:Nat):Int):=by simp only[ST.den,yU,gL];omega
 have fA:F9 E w f' (nn+s.length) 1 (xs++strCells (bytes s)):=by
  refine⟨λi hi=>?_,λi j r u hi hs hu=>?_⟩
  .by_cases fA:i<nn
   .rw[fV i (by omega)];exact k5.1 i fA
   .rw[dA i (i-nn) (by omega) (by omega)];rfl
  .by_cases fA:i<nn
   .rw[fV i (by omega)]at hs
    have hj:j<1:=by rw[<-k5.1 i fA];exact (List.getElem?_eq_some_iff.1 hs).1
    rw[QM (by rw[k2.1];omega)]at hu;exact k5.2 i j r u fA hs hu
   .rw[dA i (i-nn) (by omega) (by omega)]at hs
    match j,hs with
    |0,hs =>
     have hs:some (SV.int .u8 (.a ((s.getD (i-nn) 0).toNat:Int)))=some r:=hs;cases hs;have e1:i * 1+0=nn * 1+(i-nn):=by omega
     rw[QP (by rw[k2.1];omega),k2.1,e1,ZL,qR _ (by omega)]at hu;cases hu;exact .int rfl
    |j+1,hs=>simp[aQ]at hs
 obtain⟨E',x1,x2,x3,x4,x5⟩:=Ip (h:=h) (e:=e) (sz:=1) (n:=nn) (m:=s.length) st (.inr ⟨⟨_,_,_,cB⟩,k1,kz,k6⟩) k2.shape l2 mH l4 (λ_=>l6) (nt':=.a n') nE fA;unfold Oper.wp;rw[My ho aR hx ht (a:=a) (w:=w) (w':=w') (v':=v') (by rw[hv,cg];exact l1)];obtain⟨a0,c0,e0⟩:=l5;refine hK v' w' E' x1 x2 x3 (.bV ⟨a0,nn+s.length,c0,e0,nE,?_⟩ ⟨a0,nn+s.length,c0,by rw[x4,e0],by rw[nE];exact ZE _,λ_=>e0⟩);have qN:(v'=.slice none 0 0)↔a0=none:=by
  rw[e0];constructor
  .intro h;simp only[Value.slice.injEq]at h;exact h.1
  .rintro rfl
   rcases l2.2 with⟨h1,_⟩|⟨g,cap,cur,fr,h1,_⟩
   .rw[<-e0];exact h1
   .rw[e0]at h1;simp at h1
 rw[<-qN,Md,H9,l3];simp only[B6,ST.den,QE,QO];rw[eQ];constructor
 .rintro⟨h1,h2⟩;exact⟨h1,by omega⟩
 .rintro⟨h1,h2⟩;exact⟨h1,by omega⟩
end
end Go.Sx
