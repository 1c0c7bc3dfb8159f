/- Part of the proofs of the statements about responses and messages (layers 9 and 10): a symbolic executor over the code, that it is sound, and contracts of functions; it has no conditions of its own. -/
import Derived.Test.YtdoogdbjiijifaaGreatDoorE3Pac
namespace Go.Sx
open Go
def A2(E:Env)(w:World)(cs:List SV)(vs:List Value):Prop :=
 cs.length=vs.length/\∀(i:Nat) (s:SV) (v:Value),cs[i]?=some s->vs[i]?=some v->Rel E w s v
theorem A2.mono{E E':Env}{w w':World}{cs:List SV}{vs:List Value}(x:Ext E w E' w')(h:A2 E w cs vs):A2 E' w' cs vs :=
 ⟨h.1,λi s v a b=>(h.2 i s v a b).mono x⟩
theorem A2.agg{E:Env}{w:World}{cs:List SV}{vs:List Value}(h:A2 E w cs vs):Rel E w (.agg cs) (.agg ⟨vs⟩):=.agg h.1 h.2
theorem A2.nil{E:Env}{w:World}:A2 E w [] []:=⟨rfl,by simp⟩
theorem A2.cons{E:Env}{w:World}{s:SV}{v:Value}{cs:List SV}{vs:List Value}(h:Rel E w s v)(hs:A2 E w cs vs):A2 E w (s :: cs) (v :: vs) :=
 ⟨by simp[hs.1],λi s' v' h1 h2=>by
  cases i with
  |zero=>simp at h1 h2;subst h1;subst h2;exact h
  |succ i=>simp at h1 h2;exact hs.2 i s' v' h1 h2⟩
theorem A2.take{E:Env}{w:World}{cs:List SV}{vs:List Value}(n:Nat)(h:A2 E w cs vs):A2 E w (cs.take n) (vs.take n) :=
 ⟨by simp[h.1],λi s v h1 h2=>by
  rw[List.getElem?_take]at h1 h2
  split at h1
  ·rename_i e;rw[if_pos e]at h2;exact h.2 i s v h1 h2
  ·cases h1⟩
theorem A2.drop{E:Env}{w:World}{cs:List SV}{vs:List Value}(n:Nat)(h:A2 E w cs vs):A2 E w (cs.drop n) (vs.drop n) :=
 ⟨by simp[h.1],λi s v h1 h2=>by
  rw[List.getElem?_drop]at h1 h2;exact h.2 _ s v h1 h2⟩
theorem Rel.agg_inv{E:Env}{w:World}{cs:List SV}{v:Value}(h:Rel E w (.agg cs) v):∃vs,v=.agg ⟨vs⟩/\A2 E w cs vs:=by
 cases h with
 |ro h=>cases h with
  |agg hl h=>exact⟨_,rfl,hl,λi s v a b=>.ro (h i s v a b)⟩
 |agg hl h=>exact⟨_,rfl,hl,h⟩
theorem Rel.tup_inv{E:Env}{w:World}{cs:List SV}{v:Value}(h:Rel E w (.tup cs) v):∃vs,v=.tuple ⟨vs⟩/\A2 E w cs vs:=by
 cases h with
 |ro h=>cases h
 |tup hl h=>exact⟨_,rfl,hl,h⟩
theorem Rel.clo_inv{E:Env}{w:World}{f:FuncId}{cs:List SV}{v:Value}(h:Rel E w (.clo f cs) v):∃vs,v=.func (.func f) #[] ⟨vs⟩/\A2 E w cs vs:=by
 cases h with
 |ro h=>cases h
 |clo hl h=>exact⟨_,rfl,hl,h⟩
theorem Rel.bnd_inv{E:Env}{w:World}{f:FuncId}{cs:List SV}{v:Value}(h:Rel E w (.bnd f cs) v):∃vs,v=.func (.func f) ⟨vs⟩ #[]/\A2 E w cs vs:=by
 cases h with
 |ro h=>cases h
 |bnd hl h=>exact⟨_,rfl,hl,h⟩
theorem Rel.fn_inv{E:Env}{w:World}{f:FuncId}{v:Value}(h:Rel E w (.fn f) v):v=.func (.func f) #[] #[]:=by
 cases h with
 |ro h=>cases h with
  |fn h=>exact h
theorem Rel.int_inv{E:Env}{w:World}{k:IntKind}{t:ST}{v:Value}(h:Rel E w (.int k t) v):v=.int k t.den:=by
 cases h with
 |ro h=>cases h with
  |int h=>rw[h]
theorem Rel.bool_inv{E:Env}{w:World}{t:BT}{v:Value}(h:Rel E w (.bool t) v):v=.bool t.den:=by
 cases h with
 |ro h=>cases h with
  |bool h=>rw[h]
theorem Rel.str_inv{E:Env}{w:World}{s:List UInt8}{v:Value}(h:Rel E w (.str s) v):v=.string (bytes s):=by
 cases h with
 |ro h=>cases h with
  |str h=>exact h
theorem Rel.ptr_inv{E:Env}{w:World}{h off:Nat}{v:Value}(hr:Rel E w (.ptr h off) v):∃b,E.β h=some b/\v=.pointer (some ⟨b,off,none⟩):=by
 cases hr with
 |ro h=>cases h
 |ptr hb hv=>exact⟨_,hb,hv⟩
theorem Rel.osl_inv{E:Env}{w:World}{nl:BT}{n:ST}{h:Nat}{v:Value}(hr:Rel E w (.osl nl n h) v):(∃a m c,v=.slice a m c/\n.den=(m:Int)/\(nl.den=true↔a=none))/\Ss E h n.den v:=by
 cases hr with
 |ro h=>cases h
 |osl ht hk=>exact⟨ht,hk⟩
theorem Rel.vsl_inv{E:Env}{w:World}{nl:BT}{n g:ST}{h:Nat}{v:Value}(hr:Rel E w (.vsl nl n g h) v):(∃a m c,v=.slice a m c/\n.den=(m:Int)/\(nl.den=true↔a=none))/\Abm E h n.den g.den v:=by
 cases hr with
 |ro h=>cases h
 |vsl ht hk=>exact⟨ht,hk⟩
theorem Rel.tsl_inv{E:Env}{w:World}{n a:ST}{h:Nat}{v:Value}(hr:Rel E w (.tsl n a h) v):(∃ad m c,v=.slice ad m c)/\Zt E h n.den a.den v:=by
 cases hr with
 |ro h=>cases h
 |tsl ht hk=>exact⟨ht,hk⟩
theorem Rel.optr_inv{E:Env}{w:World}{n:ST}{h j off:Nat}{v:Value}(hr:Rel E w (.optr n h j off) v):(∃b o,v=.pointer (some ⟨b,o,none⟩))/\Tr E h j off n.den v:=by
 cases hr with
 |ro h=>cases h
 |optr hv ho=>exact⟨hv,ho⟩
theorem Rel.int{E:Env}{w:World}{k:IntKind}{t:ST}{n:Int}(h:t.den=n):Rel E w (.int k t) (.int k n):=.ro (.int h)
theorem Rel.bool{E:Env}{w:World}{t:BT}{b:Bool}(h:t.den=b):Rel E w (.bool t) (.bool b):=.ro (.bool h)
theorem Ak3{E:Env}{w:World}{s:SV}{v:Value}(h:Ahx s=true)(hr:Rel E w s v):v.oneCell'=true:=by
 cases hr with
 |ro hr =>
  cases hr<;>first|rfl|(simp[Ahx]at h;done)|skip
  ·rename_i h';rw[h'];rfl
  ·rename_i h';subst h';exact h
  ·rename_i h';rw[h'];rfl
  ·rename_i h';rcases h' with⟨rfl,_⟩|⟨⟨_,_,rfl⟩,_⟩<;>rfl
 |ptr hb hv=>rw[hv];rfl
 |gsl hr ht=>cases hr<;>rfl
 |mrow hb hm hv=>rw[hv];rfl
 |mptr hb hz hv=>rw[hv];rfl
 |osl ht hk=>obtain⟨a,m,c,rfl,_⟩:=ht;rfl
 |optr hv ho=>obtain⟨b,o,rfl⟩:=hv;rfl
 |mapv hb hv=>rw[hv];rfl
 |bsl hb hn hv=>rw[hv];rfl
 |yv hb hv=>rw[hv];rfl
 |vsl ht hk=>obtain⟨a,m,c,rfl,_⟩:=ht;rfl
 |tsl ht hk=>obtain⟨a,m,c,rfl⟩:=ht;rfl
 |agg hl _=>simp[Ahx]at h
 |tup hl _=>simp[Ahx]at h
 |clo hl _=>rfl
 |bnd hl _=>rfl
theorem Wy:∀ {cs:List SV} (_:Ed cs=true) {i:Nat} {s:SV},cs[i]?=some s->Ahx s=true
 | [],_,i,s,hs=>by simp at hs
 |c :: cs,h,i,s,hs=>by
  simp only[Ed,Bool.and_eq_true]at h;cases i with
  |zero=>simp at hs;subst hs;exact h.1
  |succ i=>simp at hs;exact Wy h.2 hs
theorem L2{E:Env}{w:World}{cs:List SV}{vs:List Value}(h:Ed cs=true)(hr:A2 E w cs vs):∀v∈vs,v.oneCell'=true:=by
 intro v hv;obtain⟨i,hi⟩:=List.mem_iff_getElem?.1 hv;have hlt:i<cs.length:=by rw[hr.1];exact (List.getElem?_eq_some_iff.1 hi).1
 exact Ak3 (Wy h (List.getElem?_eq_getElem hlt)) (hr.2 i _ v (List.getElem?_eq_getElem hlt) hi)
theorem Hz{E:Env}{w:World}{s:SV}{v:Value}(h:Ed s.cells=true)(hr:Rel E w s v):A2 E w s.cells v.cells.toList:=by
 by_cases ha:∃cs,s=.agg cs
 ·obtain⟨cs,rfl⟩:=ha
  obtain⟨vs,rfl,hl⟩:=hr.agg_inv;exact hl
 ·have hs:s.cells=[s]:=by
   cases s<;>first|rfl|exact (ha ⟨_,rfl⟩).elim
  rw[hs]at h ⊢;simp only[Ed,Bool.and_true]at h;have h1:=Ak3 h hr;have hv:v.cells=#[v]:=by cases v<;>first|rfl|simp[Value.oneCell']at h1
  rw[hv];exact .cons hr .nil
def Afe(op:Op):List Nat:=op.operands.toList.flatMap Cu
def AgS(σ:Sy)(ff:Nat->SG)(o:Oper):Prop:=∀s∈Afe o.op,ff s=Ba σ s
def AgC(hp:List Hl)(hf:Nat->Hl)(x:Nat×Nat×Nat):Prop :=
 ∀ty cs,Aq hp x.1=.blk ty cs->∃cs',hf x.1=.blk ty cs'/\cs'.length=cs.length/\∀j,x.2.1<=j->j<x.2.1+x.2.2->cs'[j]?=cs[j]?
def AgE(hp:List Hl)(hf:Nat->Hl):Ef->Prop
 |.set h _ _=>∀ty cs,Aq hp h=.blk ty cs->∃cs',hf h=.blk ty cs'/\cs'.length=cs.length
 |.put h _=>hf h=Aq hp h
structure AgH(hp:List Hl)(hf:Nat->Hl)(r:Out):Prop where
 rds:∀h∈r.rds,hf h=Aq hp h
 rdc:∀x∈r.rdc,AgC hp hf x
 efs:∀e∈r.efs,AgE hp hf e
def efF(hf:Nat->Hl):Ef->Nat->Hl
 |.set h off vs=>match hf h with
  |.blk ty cs=>upd hf h (.blk ty (C7 cs off vs))
  |_=>hf
 |.put h hl=>upd hf h hl
def Hw(hf:Nat->Hl):List Ef->Nat->Hl
 | []=>hf
 |e :: es=>Hw (efF hf e) es
def Aex(P:Program)(o:Oper)(r:Out)(B:Bs)(E:Env)(a:Act)(w:World)(hf:Nat->Hl):Prop :=
 ∀(K':Act->World->Prop) (Q:Exit->Act->World->Prop),
  (∀v w' E',Ext E w E' w'->Ci B E' w'->(∀h,HOk E' w' h (Hw hf r.efs h))->Rel E' w' r.v v->K' (a.put o.dst v) w')->o.wp P a w K' Q
def Ap(P:Program)(gl:List (Nat×SV))(σ:Sy)(T:List Nat)(o:Oper)(r:Out):Prop :=
 ∀(B:Bs) (N:Nat) (E:Env) (a:Act) (w:World) (ff:Nat->SG) (hf:Nat->Hl),E6 B gl->St B N E a w ff hf->AgS σ ff o->AgH σ.hp hf r->Bh (Ac σ.gm T)->Aex P o r B E a w hf
theorem Ad{P:Program}{o:Oper}{r:Out}{B:Bs}{N:Nat}{E:Env}{a:Act}{w:World}{ff:Nat->SG}{hf:Nat->Hl}(st:St B N E a w ff hf){v:Value}
  (hr:(execOp a.eval o).run P w=.ok (.value v) w) (he:r.efs=[]) (hv:Rel E w r.v v):Aex P o r B E a w hf:=by
 intro K' Q h;unfold Oper.wp;rw[hr];exact h v w E (Ext.refl E w) st.base (by rw[he];exact st.heap) hv
structure A1(P:Program)(cx:Cx):Prop where
 D:cx.D=dn
 tt:ttB P cx.tt=true
 eqs:∀t∈cx.eqs,P.stoodInHeld t=false/\P.eqGuardType P.depth t=false/\∀f∈(P.fieldsOf t).toList,(f.name≠"_")
section
variable {P:Program} {cx:Cx} {σ:Sy} {T:List Nat} {o:Oper} {K:Out->Prop}
theorem A1.ti(h:A1 P cx){t:Nat}{ti:TI}(hl:look t cx.tt=some ti):D8 P t ti:=tiB_ok (Zs h.tt hl)
theorem size?_ti{t n:Nat}(h:size? cx t=some n):∃ti,look t cx.tt=some ti/\ti.size=n:=by
 unfold size? at h;cases hl:look t cx.tt with
 |none=>rw[hl]at h;cases h
 |some ti=>rw[hl]at h;simp at h;exact⟨ti,rfl,h⟩
theorem D8.sizeOf{t:Nat}{ti:TI}(h:D8 P t ti)(w:World):(sizeOf t).run P w=.ok ti.size w:=by
 obtain⟨i,z,hi,h1,_⟩:=h.info;simp[Go.sizeOf,typeInfo,hi,h1]
theorem D8.cellsOf{t:Nat}{ti:TI}(h:D8 P t ti):P.cellsOf t=ti.size:=by
 obtain⟨i,z,hi,h1,_⟩:=h.info;simp[Program.cellsOf,hi,h1]
def Ks:TK->Bool
 |.struct _|.array _ _=>true
 |_=>false
theorem isAgg?_eq{t:Nat}{ti:TI}(hl:look t cx.tt=some ti):isAgg? cx t=Ks ti.k:=by
 obtain⟨k,a,b,c⟩:=ti;unfold isAgg?;rw[hl];cases k<;>rfl
theorem D8.isAgg{t:Nat}{ti:TI}(h:D8 P t ti)(w:World):(isAgg t).run P w=.ok (Ks ti.k) w:=by
 obtain⟨d,hd,hk⟩:=h.und;unfold Go.isAgg;simp only[Sem.run_bind,run_underlying hd,Result.andThen_ok];cases hti:ti.k<;>rw[hti]at hk<;>cases d<;>first|rfl|simp[Jj]at hk
theorem D8.zero{t:Nat}{ti:TI}(h:D8 P t ti)(E:Env)(w:World):∃z,(zeroValue t).run P w=.ok z w/\A2 E w ti.zero z.cells.toList/\(∀v∈z.cells.toList,v.oneCell'=true):=by
 obtain⟨i,z,hi,h1,h2,h3,h4,_⟩:=h.info;refine⟨z,by simp[zeroValue,typeInfo,hi,h3],?_,?_⟩
 ·obtain⟨a,b⟩:=Ju (I:=E.I) (w:=w) h4
  exact⟨a,λi s v h1 h2=>.ro (b i s v h1 h2)⟩
 ·generalize z.cells.toList=vs at h4
  generalize ti.zero=ss at h4
  induction ss generalizing vs with
  |nil=>cases vs with
   |nil=>simp
   |cons v vs=>simp[zsB]at h4
  |cons s ss ih=>cases vs with
   |nil=>simp[zsB]at h4
   |cons v vs =>
    simp only[zsB,Bool.and_eq_true]at h4;intro u hu;rcases List.mem_cons.1 hu with rfl|hu
    ·exact Ajm h4.1
    ·exact ih vs h4.2 u hu
theorem Ah{σ:Sy}{ff:Nat->SG}{o:Oper}(h:AgS σ ff o){x:Operand}(hx:x∈o.op.operands.toList):∀s∈Cu x,ff s=Ba σ s :=
 λs hs=>h s (by unfold Afe;exact List.mem_flatMap.2 ⟨x,hx,hs⟩)
theorem M9{fs:List (Nat×TypeId)}{fields:Array Field}(h:(fields.toList.map λf=>(f.offset,f.type))=fs){i fo ft:Nat}(hi:nth fs i=some (fo,ft)):
  ∃f,fields[i]?=some f/\f.offset=fo/\f.type=ft:=by
 rw[Ag,<-h,List.getElem?_map]at hi;cases hf:fields.toList[i]? with
 |none=>rw[hf]at hi;cases hi
 |some f =>
  rw[hf]at hi;simp only[Option.map_some,Option.some.injEq,Prod.mk.injEq]at hi;exact⟨f,by rw[<-Array.getElem?_toList];exact hf,hi.1,hi.2⟩
theorem D8.struct{t:Nat}{ti:TI}(h:D8 P t ti){fs:List (Nat×TypeId)}(hk:ti.k=.struct fs):
  ∃fields,P.underlying t=some (.struct fields)/\(fields.toList.map λf=>(f.offset,f.type))=fs/\∀f∈fields.toList,∃i,P.info? f.type=some i:=by
 obtain⟨d,hd,hb⟩:=h.und;rw[hk]at hb;cases d<;>simp only[Jj,Bool.false_eq_true]at hb;rename_i fields;simp only[Bool.and_eq_true,beq_iff_eq,List.all_eq_true,Option.isSome_iff_exists]at hb;exact⟨fields,hd,hb.1,hb.2⟩
theorem D8.slice{t:Nat}{ti:TI}(h:D8 P t ti){e:TypeId}(hk:ti.k=.slice e):P.underlying t=some (.slice e):=by
 obtain⟨d,hd,hb⟩:=h.und;rw[hk]at hb;cases d<;>simp only[Jj,Bool.false_eq_true,beq_iff_eq]at hb;rw[hd,hb]
theorem D8.array{t:Nat}{ti:TI}(h:D8 P t ti){n e:Nat}(hk:ti.k=.array n e):P.underlying t=some (.array n e):=by
 obtain⟨d,hd,hb⟩:=h.und;rw[hk]at hb;cases d<;>simp only[Jj,Bool.false_eq_true,beq_iff_eq,Bool.and_eq_true]at hb;rw[hd,hb.1,hb.2]
theorem D8.int{t:Nat}{ti:TI}(h:D8 P t ti){k:IntKind}(hk:ti.k=.int k):P.underlying t=some (.int k):=by
 obtain⟨d,hd,hb⟩:=h.und;rw[hk]at hb;cases d<;>simp only[Jj,Bool.false_eq_true,beq_iff_eq]at hb;rw[hd,hb]
theorem Fv{s:Option SV}(h:Aal K s):∃v,s=some v/\K ⟨v,[],[],[]⟩:=by
 cases s with
 |none=>exact h.elim
 |some v=>exact⟨v,rfl,h⟩
theorem Adv{x:Operand}(ho:o.op=.move x\/o.op=.assign x){v:SV}(hv:rd cx σ T x=some v):Ap P cx.gl σ T o ⟨v,[],[],[]⟩:=by
 intro B N E a w ff hf hg st ag _ hT;have hx:x∈o.op.operands.toList:=by rcases ho with ho|ho<;>simp[ho,Op.operands]
 have:=Aa hv hg st (Ah ag hx) hT;refine Ad st (v:=a.eval x) ?_ rfl this;rcases ho with ho|ho<;>simp[execOp,ho]
theorem Ah1{n:Nat}(ho:o.op=.move (.const (.slice none 0 0))\/o.op=.assign (.const (.slice none 0 0))):Ap P cx.gl σ T o ⟨.sl (.l true) (.l 0) n λ_=>[],[],[],[]⟩:=by
 intro B N E a w ff hf _ st _ _ _;refine Ad st (v:=.slice none 0 0) ?_ rfl (.ro (.slnil rfl rfl));rcases ho with ho|ho<;>simp[execOp,ho,Act.eval]
theorem C4{w:World}{o:Obj}{b i:Nat}(h:b<w.heap.size):(w.alloc o).cell? ⟨b,i,none⟩=w.cell? ⟨b,i,none⟩:=by
 simp only[World.cell?];rw[heap_alloc_old w o h]
theorem Dd{w:World}{o:Obj}{b:Nat}(h:b<w.heap.size):(w.alloc o).heap[b]?=w.heap[b]?:=heap_alloc_old w o h
theorem A5{B:Bs}{E:Env}{w:World}(hb:Ci B E w){b h:Nat}(ho:E.O b=some h):b<w.heap.size:=(hb.Obd b h ho).1
theorem HOk.keep{E E':Env}{w w':World}{h:Nat}{hl:Hl}(x:Ext E w E' w')(hk:HOk E w h hl)(hβ:E'.β h=E.β h)(hτ:E'.τ h=E.τ h)(hκ:E'.κ h=E.κ h)(hζ:E'.ζ h=E.ζ h)
  (hO:∀b,E.O b=some h->E'.O b=some h/\w'.heap[b]?=w.heap[b]?/\∀o,E'.I b o->E.I b o):HOk E' w' h hl:=by
 cases hl with
 |fresh=>exact⟨by rw[hβ];exact hk.1,by rw[hτ];exact hk.2.1,by rw[hκ];exact hk.2.2.1,by rw[hζ];exact hk.2.2.2⟩
 |gone=>trivial
 |blk ty cs =>
  obtain⟨b,C,h1,h2,h3,h4,h5,h6,h7⟩:=hk;obtain⟨h8,h9,h10⟩:=hO b h2;exact⟨b,C,by rw[hβ];exact h1,h8,by rw[h9];exact h3,h4,λi s v a b=>(h5 i s v a b).mono x,h6,λo ho=>h7 o (h10 o ho)⟩
 |tail ty n sz =>
  obtain⟨v,m,xs,h1,h2,h3,h4,h5⟩:=hk;refine⟨v,m,xs,by rw[hτ];exact h1,?_,h3,h4,λb hb=>?_⟩
  ·refine⟨h2.1,?_⟩
   rcases h2.2 with hn|⟨g,cap,cur,rfl,hb,hg,rest⟩
   ·exact .inl hn
   ·obtain⟨_,h9,_⟩:=hO g (h5 g rfl).1
    exact .inr ⟨g,cap,cur,rfl,hb,by rw[h9];exact hg,rest⟩
  ·obtain⟨h6,h7⟩:=h5 b hb
   obtain⟨h8,_,h10⟩:=hO b h6;exact⟨h8,λo ho hi=>h7 o ho (h10 o hi)⟩
 |row ty n sz f =>
  obtain⟨b,C,m,h1,h2,hz,h3,h4,h5,h6,h7,h8⟩:=hk;obtain⟨h9,h10,h11⟩:=hO b h3;exact⟨b,C,m,by rw[hβ];exact h1,by rw[hκ];exact h2,by rw[hζ];exact hz,h9,by rw[h10];exact h4,h5,h6,⟨h7.1,h7.2.1,λi j s v a b c=>(h7.2.2.1 i j s v a b c).mono x.I x.cell,h7.2.2.2⟩,λo ho=>h8 o (h11 o ho)⟩
 |own ty n sz gr f =>
  obtain⟨v,m,xs,h1,h2,h3,h4,h5,h6,h7⟩:=hk;refine⟨v,m,xs,by rw[hτ];exact h1,by rw[hζ];exact h2,h3.keep λb hb=>(hO b (h7 b hb).1).2.1,h4,h5,h6.mono x,λb hb=>?_⟩;obtain⟨q1,_,q3⟩:=hO b (h7 b hb).1;exact⟨q1,λo ho=>(h7 b hb).2 o (q3 o ho)⟩
 |bld T e s =>
  obtain⟨b,p,v,h1,h2,h3,h4,h5,h6,h7,h8⟩:=hk;obtain⟨q1,q2,q3⟩:=hO b h2;refine⟨b,p,v,by rw[hβ];exact h1,q1,h3,by rw[q2];exact h4,?_,h6,λo ho=>h7 o (q3 o ho),λg hg=>?_⟩
  ·refine⟨h5.1,?_⟩
   rcases h5.2 with hn|⟨g,cap,cur,rfl,hb,hg,rest⟩
   ·exact .inl hn
   ·exact .inr ⟨g,cap,cur,rfl,hb,by rw[(hO g (h8 g rfl).1).2.1];exact hg,rest⟩
  ·obtain⟨r1,_,r3⟩:=hO g (h8 g hg).1
   exact⟨r1,λo ho=>(h8 g hg).2 o (r3 o ho)⟩
 |vec ty n g sz f =>
  obtain⟨a,c,m,G,xs,h1,h3,h4,h5,h6,h7,h8⟩:=hk;refine⟨a,c,m,G,xs,by rw[hτ];exact h1,h3.keep λb hb=>(hO b (h8 b hb).1).2.1,h4,h5,h6,h7.mono x,λb hb=>?_⟩;obtain⟨q1,_,q3⟩:=hO b (h8 b hb).1;exact⟨q1,λo ho=>(h8 b hb).2 o (q3 o ho)⟩
 |mset F =>
  obtain⟨b,es,clock,h1,h2,h3,h4,h5,h6⟩:=hk;obtain⟨q1,q2,q3⟩:=hO b h2;exact⟨b,es,clock,by rw[hβ];exact h1,q1,by rw[q2];exact h3,h4,h5,λo ho=>h6 o (q3 o ho)⟩
 |mint es =>
  obtain⟨b,ms,clock,h1,h2,h3,h4,h5,h6⟩:=hk;obtain⟨q1,q2,q3⟩:=hO b h2;exact⟨b,ms,clock,by rw[hβ];exact h1,q1,by rw[q2];exact h3,h4,λi p e hp he=>⟨(h5 i p e hp he).1,(h5 i p e hp he).2.mono x⟩,λo ho=>h6 o (q3 o ho)⟩
 |lrec c fr s pd =>
  obtain⟨b,r,h1,h2,h3,h4,h5,h6⟩:=hk;obtain⟨q1,q2,q3⟩:=hO b h2;exact⟨b,r,by rw[hβ];exact h1,q1,by rw[q2];exact h3,h4,λi v hm=>⟨(h5 i v hm).1,(h5 i v hm).2.mono x⟩,λo ho=>h6 o (q3 o ho)⟩
theorem Yg{B:Bs}{N:Nat}{E:Env}{a:Act}{w:World}{ff:Nat->SG}{hf:Nat->Hl}(st:St B N E a w ff hf){h:Nat}(hfresh:hf h=.fresh){ty:TypeId}{cs:List SV}{C:Array Value}
  (hr:A2 E w cs C.toList) (h1:∀v∈C.toList,v.oneCell'=true):
  ∃E',Ext E w E' (w.alloc (.cells C ty))/\Ci B E' (w.alloc (.cells C ty))/\(∀k,HOk E' (w.alloc (.cells C ty)) k (upd hf h (.blk ty cs) k))/\E'.β h=some w.heap.size:=by
 have hb:=st.base;have hfr:=st.heap h;rw[hfresh]at hfr;obtain⟨f1,f2,_,_⟩:=hfr
 let E':Env:=⟨upd E.β h (some w.heap.size),E.τ,upd E.O w.heap.size (some h),E.κ,E.ζ,E.I⟩
 have hx:Ext E w E' (w.alloc (.cells C ty)):=by
  refine⟨λk b hk=>?_,λ_ _ h=>.inl h,λ_ _ h=>h,λ_ _ h=>h,λ_ _ h=>h,λb o hi=>C4 (hb.Ibd b o hi)⟩;show upd E.β h (some w.heap.size) k=some b;unfold upd
  by_cases e:k=h
  ·subst e;rw[f1]at hk;cases hk
  ·rw[if_neg e];exact hk
 refine⟨E',hx,⟨hb.os,hb.tape,hb.output,?_,?_,?_,?_,?_,?_,hb.β0.ext hx⟩,λk=>?_,by simp[E',upd]⟩
 ·have:=hb.size;simp;omega
 ·intro b hlt hX;rw[Dd (by have:=hb.size;omega)];exact hb.old b hlt hX
 ·intro b o hi
  obtain⟨i1,i2⟩:=hb.I0 b o hi;exact⟨i1,by rw[C4 (hb.Ibd b o i1)];exact i2⟩
 ·intro b o hi;have:=hb.Ibd b o hi;simp;omega
 ·exact hb.Inew
 ·intro b k hO
  have hO:upd E.O w.heap.size (some h) b=some k:=hO;unfold upd at hO
  split at hO
  ·rename_i e;subst e;have:=hb.size;simp;exact .inl this
  ·obtain⟨o1,o2⟩:=hb.Obd b k hO;simp;exact⟨by omega,o2⟩
 ·by_cases e:k=h
  ·subst e
   simp only[upd,if_pos];refine⟨w.heap.size,C,by simp[E',upd],by simp[E',upd],heap_alloc_new w _,by rw[hr.1];simp,λi s v p q=>(hr.2 i s v p (by simpa using q)).mono hx,λv hv=>h1 v (by simpa using hv),λo hi=>?_⟩;have:=hb.Ibd _ _ hi;omega
  ·simp only[upd,if_neg e]
   refine HOk.keep hx (st.heap k) (by simp[E',upd,e]) rfl rfl rfl λb hO=>?_;have hlt:=A5 hb hO;exact⟨by simp[E',upd,Nat.ne_of_lt hlt];exact hO,Dd hlt,λ_ h=>h⟩
theorem Aa5{e:TypeId}{ti:TI}(hc:A1 P cx)(ho:o.op=.alloc e)(hl:look e cx.tt=some ti):
  Ap P cx.gl σ T o ⟨.ptr (Af σ.hp) 0,[.put (Af σ.hp) (.blk e ti.zero)],[],[]⟩:=by
 intro B N E a w ff hf _ st _ agh _ K' Q hK;obtain⟨z,hz,hr,h1⟩:=(hc.ti hl).zero E w;have hfresh:hf (Af σ.hp)=.fresh:=by
  have:=agh.efs _ (List.mem_singleton.2 rfl);simp only[AgE,Aq,Ag,Ae]at this;rw[Ae,this];simp
 obtain⟨E',hx,hb,hh,hβ⟩:=Yg st hfresh (ty:=e) hr h1;unfold Oper.wp;have:(execOp a.eval o).run P w=.ok (.value (.pointer (some ⟨w.heap.size,0,none⟩))) (w.alloc (.cells z.cells e)):=by
  simp[execOp,ho,Instr.alloc,hz,newVar,newRow,newObj,Sem.run]
 rw[this];exact hK _ _ E' hx hb hh (.ptr hβ rfl)
theorem Ah5{e:TypeId}{x:Operand}{v:SV}(ho:o.op=.box e x)(hv:rd cx σ T x=some v)(h1:Ed v.cells=true):
  Ap P cx.gl σ T o ⟨.ptr (Af σ.hp) 0,[.put (Af σ.hp) (.blk e v.cells)],[],[]⟩:=by
 intro B N E a w ff hf hg st ag agh hT K' Q hK;have hr:=Aa hv hg st (Ah ag (by simp[ho,Op.operands])) hT;have hc:=Hz h1 hr;have hfresh:hf (Af σ.hp)=.fresh:=by
  have:=agh.efs _ (List.mem_singleton.2 rfl);simp only[AgE,Aq,Ag,Ae]at this;rw[Ae,this];simp
 obtain⟨E',hx,hb,hh,hβ⟩:=Yg st hfresh (ty:=e) hc (L2 h1 hc);unfold Oper.wp;have:(execOp a.eval o).run P w=.ok (.value (.pointer (some ⟨w.heap.size,0,none⟩))) (w.alloc (.cells (a.eval x).cells e)):=by
  simp[execOp,ho,Instr.box,newVar,newRow,newObj,Sem.run]
 rw[this];exact hK _ _ E' hx hb hh (.ptr hβ rfl)
end
section
variable {P:Program} {cx:Cx} {σ:Sy} {T:List Nat} {o:Oper} {K:Out->Prop}
theorem add_lit(b off j:Nat):(⟨b,off,none⟩:Addr).add j=⟨b,off+j,none⟩:=by
 unfold Addr.add;split<;>simp_all
theorem Fq{t:Nat}{ti:TI}(h:D8 P t ti){w:World}{b off:Nat}{vs:List Value}(hc:∀(j:Nat) (v:Value),vs[j]?=some v->w.cell? ⟨b,off+j,none⟩=some v)(hn:vs.length=ti.size)
  {agg:Bool} (ha:agg=Ks ti.k) (h1:agg=false->vs.length=1):
  (Instr.loadAt t (.pointer (some ⟨b,off,none⟩))).run P w=.ok (if agg then .agg ⟨vs⟩ else vs.headD undef) w:=by
 have hI:=h.isAgg w;have hS:=h.sizeOf w;subst ha;simp only[Instr.loadAt,Instr.sureAddr,loadVar,Sem.run_bind,Sem.run_pure,Result.andThen_ok,hI];cases hk:Ks ti.k with
 |true =>
  rw[<-hn]at hS;have:=run_loadCells_list (P:=P) w ⟨b,off,none⟩ vs (λj v hj=>by rw[add_lit];exact hc j v hj);simp[hS,this]
 |false =>
  rw[hk]at h1
  match vs,h1 rfl,hc with
  | [v],_,hc =>
   have:=hc 0 v rfl;simp only[Nat.add_zero]at this;simp[run_load,this]
theorem F8{E:Env}{w:World}{agg:Bool}{cs:List SV}{s:SV}{vs:List Value}(h:Kp agg cs=some s)(hr:A2 E w cs vs):(agg=false->vs.length=1)/\Rel E w s (if agg then .agg ⟨vs⟩ else vs.headD undef):=by
 unfold Kp at h;cases agg with
 |true=>simp only[if_true,Option.some.injEq]at h;subst h;exact⟨(λe=>by cases e),hr.agg⟩
 |false =>
  simp only[Bool.false_eq_true,if_false]at h
  split at h
  ·rename_i c
   cases h
   match vs,hr with
   | [v],hr=>exact⟨λ_=>rfl,hr.2 0 s v rfl rfl⟩
   | [],hr=>exact absurd hr.1 (by simp)
   |_ :: _ :: _,hr=>exact absurd hr.1 (by simp)
  ·cases h
theorem Bv{hp:List Hl}{h:Nat}{hl:Hl}(e:nth hp h=some hl):Aq hp h=hl:=by simp[Aq,e]
theorem Zw{E:Env}{w:World}{cs cs':List SV}{C:List Value}{off n:Nat}(hr:A2 E w cs' C)(hl:cs'.length=cs.length)(hag:∀j,off<=j->j<off+n->cs'[j]?=cs[j]?):
  A2 E w ((cs.drop off).take n) ((C.drop off).take n):=by
 refine⟨by simp[<-hr.1,hl],λi s v h1 h2=>?_⟩;rw[List.getElem?_take]at h1 h2
 split at h1
 ·rename_i hi
  rw[if_pos hi]at h2;rw[List.getElem?_drop]at h1 h2;exact hr.2 (off+i) s v (by rw[hag _ (by omega) (by omega)];exact h1) h2
 ·cases h1
theorem HOk.blk_inv{E:Env}{w:World}{h:Nat}{ty:TypeId}{cs:List SV}(hk:HOk E w h (.blk ty cs)):∃b C,E.β h=some b/\E.O b=some h/\w.heap[b]?=some (.cells C ty (0,0))/\A2 E w cs C.toList/\(∀v∈C.toList,v.oneCell'=true)/\∀o,¬E.I b o:=by
 obtain⟨b,C,h1,h2,h3,h4,h5,h6,h7⟩:=hk;exact⟨b,C,h1,h2,h3,⟨by simp[h4],λi s v p q=>h5 i s v p (by simpa using q)⟩,λv hv=>h6 v (by simpa using hv),h7⟩
theorem T2(hc:A1 P cx){t:Nat}{x:Operand}(ho:o.op=.load t x){h off n:Nat}{ty:TypeId}{cs:List SV}{s:SV}(hv:rd cx σ T x=some (.ptr h off))(hn:size? cx t=some n)
  (hh:nth σ.hp h=some (.blk ty cs)) (hle:off+n<=cs.length) (hp:Kp (isAgg? cx t) ((cs.drop off).take n)=some s):Ap P cx.gl σ T o ⟨s,[],[],[(h,off,n)]⟩:=by
 intro B N E a w ff hf hg st ag agh hT;have hr:=Aa hv hg st (Ah ag (by simp[ho,Op.operands])) hT;obtain⟨b,hb,hx⟩:=hr.ptr_inv;obtain⟨cs',e2,e3,e4⟩:=agh.rdc _ (List.mem_singleton.2 rfl) ty cs (Bv hh);have hk:=st.heap h;rw[e2]at hk;obtain⟨b',C,k1,_,k3,k4,_,_⟩:=hk.blk_inv;obtain rfl:b=b':=Option.some.inj (hb.symm.trans k1);obtain⟨ti,hti,hsz⟩:=size?_ti hn;have hsub:=Zw (off:=off) (n:=n) k4 e3 e4;obtain⟨p1,p2⟩:=F8 hp hsub;have hlen:((C.toList.drop off).take n).length=n:=by rw[<-hsub.1];simp;omega
 have hrun:=Fq (hc.ti hti) (w:=w) (b:=b) (off:=off) (vs:=(C.toList.drop off).take n) (λj v hj=>by
  rw[List.getElem?_take]at hj
  split at hj
  ·rw[List.getElem?_drop]at hj
   rw[cell_of_row w b (off+j) C ty (0,0) k3];simpa using hj
  ·cases hj) (by rw[hlen,hsz]) (isAgg?_eq hti) p1
 exact Ad st (by simp[execOp,ho,hx,hrun]) rfl p2
theorem RO.rptr_inv{I:Nat->Nat->Prop}{w:World}{cs:List SV}{v:Value}(h:RO I w (.rptr cs) v):∃a,v=.pointer (some a)/\a.spot=none/\∃g:Nat->Value,(∀j,j<cs.length->(g j).oneCell'=true/\w.cell? ⟨a.block,a.off+j,none⟩=some (g j)/\I a.block (a.off+j))/\
  ∀(j:Nat) (s:SV),cs[j]?=some s->RO I w s (g j):=by
 cases h with
 |rptr g hs h1 hcell hrel=>exact⟨_,rfl,hs,g,λj hj=>⟨h1 j hj,hcell j hj⟩,hrel⟩
theorem Rel.rptr_inv{E:Env}{w:World}{cs:List SV}{v:Value}(h:Rel E w (.rptr cs) v):RO E.I w (.rptr cs) v:=by
 cases h with
 |ro h=>exact h
theorem Ae1{E:Env}{w:World}{cs:List SV}{n:Nat}{g:Nat->Value}(hle:n<=cs.length)(h:∀(j:Nat) (s:SV),cs[j]?=some s->RO E.I w s (g j)):A2 E w (cs.take n) ((List.range n).map g):=by
 refine⟨by simp;omega,λi s v h1 h2=>?_⟩;rw[List.getElem?_take]at h1
 split at h1
 ·rename_i hi
  have:v=g i:=by simp[hi]at h2;exact h2.symm
  subst this;exact .ro (h i s h1)
 ·cases h1
theorem Rn(hc:A1 P cx){t:Nat}{x:Operand}(ho:o.op=.load t x){n:Nat}{cs:List SV}{s:SV}(hv:rd cx σ T x=some (.rptr cs))(hn:size? cx t=some n)
  (hle:n<=cs.length) (hp:Kp (isAgg? cx t) (cs.take n)=some s):Ap P cx.gl σ T o ⟨s,[],[],[]⟩:=by
 intro B N E a w ff hf hg st ag agh hT;have hr:=Aa hv hg st (Ah ag (by simp[ho,Op.operands])) hT;obtain⟨ad,hx,hs,g,hcell,hrel⟩:=hr.rptr_inv.rptr_inv;obtain⟨b,off,sp⟩:=ad;simp only at hs hcell;subst hs;obtain⟨ti,hti,hsz⟩:=size?_ti hn;have hsub:=Ae1 (E:=E) hle hrel;obtain⟨p1,p2⟩:=F8 hp hsub;have hrun:=Fq (hc.ti hti) (w:=w) (b:=b) (off:=off) (vs:=(List.range n).map g) (λj v hj=>by
  by_cases hjn:j<n
  ·simp[hjn]at hj
   rw[(hcell j (by omega)).2.1,hj]
  ·simp[hjn]at hj) (by simp[hsz]) (isAgg?_eq hti) p1
 exact Ad st (by simp[execOp,ho,hx,hrun]) rfl p2
theorem set_blk{B:Bs}{N:Nat}{E:Env}{a:Act}{w:World}{ff:Nat->SG}{hf:Nat->Hl}(st:St B N E a w ff hf){h off b:Nat}{ty:TypeId}{cs vs:List SV}{C:Array Value}{us:List Value}
  (hh:hf h=.blk ty cs) (hβ:E.β h=some b) (hC:w.heap[b]?=some (.cells C ty (0,0))) (hr:A2 E w vs us) (h1:∀v∈us,v.oneCell'=true) (hle:off+us.length<=C.size) {C':Array Value} (hC':C'=(C.toList.take off++us++C.toList.drop (off+us.length)).toArray):
  Ext E w E (w.setRow b C')/\Ci B E (w.setRow b C')/\(∀k,HOk E (w.setRow b C') k (efF hf (.set h off vs) k)):=by
 have hb:=st.base;have hk:=st.heap h;rw[hh]at hk;obtain⟨b',C1,k1,k2,k3,k4,k5,k6⟩:=hk.blk_inv;obtain rfl:b=b':=Option.some.inj (hβ.symm.trans k1);obtain⟨rfl⟩:C=C1:=by rw[hC]at k3;simpa using k3
 have hx:Ext E w E (w.setRow b C'):=⟨λ_ _ h=>h,λ_ _ h=>.inl h,λ_ _ h=>h,λ_ _ h=>h,λ_ _ h=>h,λb2 o hi=>cell_setRow_other w b C' ⟨b2,o,none⟩ (λe=>by subst e;exact k6 o hi)⟩;have hX:=(hb.Obd b h k2).2;refine⟨hx,⟨hb.os,hb.tape,hb.output,by simpa using hb.size,?_,?_,?_,hb.Inew,?_,hb.β0⟩,λk=>?_⟩
 ·intro b2 hlt hnX
  by_cases e:b2=b
  ·subst e;rcases hX with hX|hX
   ·omega
   ·exact absurd hX hnX
  ·rw[setRow_other w b b2 C' e];exact hb.old b2 hlt hnX
 ·intro b2 o hi
  obtain⟨i1,i2⟩:=hb.I0 b2 o hi;exact⟨i1,by rw[hx.cell b2 o i1];exact i2⟩
 ·intro b2 o hi;have:=hb.Ibd b2 o hi;simpa using this
 ·intro b2 k hO;have:=hb.Obd b2 k hO;simpa using this
 ·simp only[efF,hh]
  by_cases e:k=h
  ·subst e
   simp only[upd,if_pos];have hlen:C'.size=C.size:=by subst hC';simp;omega
   have hul:=hr.1;refine⟨b,C',hβ,k2,setRow_heap w b C C' ty (0,0) hC,by rw[hlen,Db];have:=k4.1;simp at this;omega,λi s v p q=>?_,λv hv=>?_,k6⟩
   ·have hcl:cs.length=C.size:=by have:=k4.1;simpa using this
    rw[Hs vs cs off i (by omega)]at p;have q:(C.toList.take off++us++C.toList.drop (off+us.length))[i]?=some v:=by subst hC';simpa using q
    split at p
    ·rename_i e
     rw[List.append_assoc,List.getElem?_append_right (by simp;omega),List.getElem?_append_left (by simp;omega)]at q;simp at q;refine (hr.2 (i-off) s v p ?_).mono hx;rw[<-q];congr 1;omega
    ·rename_i e
     have hq:C.toList[i]?=some v:=by
      by_cases hi:i<off
      ·rw[List.append_assoc,List.getElem?_append_left (by simp;omega),List.getElem?_take,if_pos hi]at q;exact q
      ·rw[List.getElem?_append_right (by simp;omega),List.getElem?_drop]at q
       rw[<-q];congr 1;simp;omega
     exact (k4.2 i s v p hq).mono hx
   ·have hv:v∈(C.toList.take off++us++C.toList.drop (off+us.length)):=by subst hC';simpa using hv
    rw[List.mem_append,List.mem_append]at hv;rcases hv with (hv|hv)|hv
    ·exact k5 v (List.mem_of_mem_take hv)
    ·exact h1 v hv
    ·exact k5 v (List.mem_of_mem_drop hv)
  ·simp only[upd,if_neg e]
   refine HOk.keep hx (st.heap k) rfl rfl rfl rfl λb2 hO=>⟨hO,?_,λ_ h=>h⟩;refine setRow_other w b b2 C' (λe2=>?_);subst e2;rw[k2]at hO;exact e (Option.some.inj hO).symm
theorem Aa0(hc:A1 P cx){t:Nat}{x y:Operand}(ho:o.op=.store t x y){h off n:Nat}{ty:TypeId}{cs:List SV}{s:SV}(hv:rd cx σ T x=some (.ptr h off))(hs:rdT cx σ T t y=some s)(hn:size? cx t=some n)
  (hh:nth σ.hp h=some (.blk ty cs)) (hl:s.cells.length=n) (hle:off+n<=cs.length) (h1:Ed s.cells=true):Ap P cx.gl σ T o ⟨.tup [],[.set h off s.cells],[],[]⟩:=by
 intro B N E a w ff hf hg st ag agh hT K' Q hK;have hr:=Aa hv hg st (Ah ag (by simp[ho,Op.operands])) hT;have hr2:=Jd hs hg st (Ah ag (by simp[ho,Op.operands])) hT;obtain⟨b,hb,hx⟩:=hr.ptr_inv;obtain⟨cs',e2,e3⟩:=agh.efs _ (List.mem_singleton.2 rfl) ty cs (Bv hh);have hk:=st.heap h;rw[e2]at hk;obtain⟨b',C,k1,_,k3,k4,_,_⟩:=hk.blk_inv;obtain rfl:b=b':=Option.some.inj (hb.symm.trans k1);obtain⟨ti,hti,hsz⟩:=size?_ti hn;have hcs:=Hz h1 hr2;have hone:=L2 h1 hcs;have hul:(a.eval y).cells.toList.length=n:=by rw[<-hcs.1];exact hl
 have hCs:cs'.length=C.size:=by have:=k4.1;simpa using this
 have hle':off+(a.eval y).cells.toList.length<=C.size:=by rw[hul];omega
 obtain⟨x1,x2,x3⟩:=set_blk (h:=h) (off:=off) st e2 hb k3 hcs hone hle' rfl;have hrun:(Instr.storeAt t (.pointer (some ⟨b,off,none⟩)) (a.eval y)).run P w=.ok () (w.setRow b (C.toList.take off++(a.eval y).cells.toList++C.toList.drop (off+(a.eval y).cells.toList.length)).toArray):=by
  have hS:=(hc.ti hti).sizeOf w;have hsc:=run_storeCells_at P b off ty (a.eval y).cells.toList 0 C w k3 (by simpa using hle') hone;have hne:((a.eval y).cells.size≠ti.size)=False:=by
   have:(a.eval y).cells.size=ti.size:=by rw[hsz];simpa using hul
   simp[this]
  simp only[Nat.add_zero]at hsc;simp only[Instr.storeAt,Instr.sureAddr,storeVar,Sem.run_bind,Sem.run_pure,Result.andThen_ok,hS,hne,if_false,hsc]
 unfold Oper.wp;have:(execOp a.eval o).run P w=.ok .skip (w.setRow b (C.toList.take off++(a.eval y).cells.toList++C.toList.drop (off+(a.eval y).cells.toList.length)).toArray):=by
  simp only[execOp,ho,hx,Sem.run_bind,hrun,Result.andThen_ok,Sem.run_pure]
 rw[this];exact hK undef _ E x1 x2 x3 (.tup rfl (by simp))
end
end Go.Sx
