/- Part of the proofs of the statements about responses and messages (layers 9 and 10): a symbolic executor over the code, that it is sound, and contracts of functions; it has no conditions of its own. -/
import Derived.Below
import Derived.Laws.IdiomStrings
import Derived.Laws.AppendOwn
import Derived.Test.YtdoogdbjiijifaaGreatDoorE3Pal
import Derived.Test.YtdoogdbjiijifaaGreatDoorE3Pag
namespace Go.Sx
open Go
variable {P:Program} {cx:Cx} {σ:Sy} {T:List Nat} {o:Oper} {K:Out->Prop}
theorem Rel.bsl_inv{E:Env}{w:World}{n h:Nat}{v:Value}(hr:Rel E w (.bsl n h) v):∃b,E.β h=some b/\n<=maxLen/\v=.slice (some ⟨b,0,none⟩) n n:=by
 cases hr with
 |ro h=>cases h
 |bsl hb hn hv=>exact⟨_,hb,hn,hv⟩
theorem Mt{F:Nat->Prop}{i:Int}:∀(n j:Nat),Ac3 i F n j->∀k:Nat,i=(k:Int)->j<=k->k<j+n->F k
 |0,j,_,k,_,h1,h2=>by omega
 |n+1,j,h,k,hk,h1,h2=>by
  rcases Nat.eq_or_lt_of_le h1 with e|e
  ·subst e;exact h.1 ⟨hk.symm⟩
  ·exact Mt n (j+1) h.2 k hk e (by omega)
theorem Agb(cx:Cx)(i:ST):(ixT cx i).den=i.den:=by
 unfold ixT
 split
 ·split<;>rfl
 ·rfl
theorem T6(hc:A1 P cx){t len e:Nat}{ps:Array (Nat×Operand)}(ho:o.op=.buildSlice t len ps){ti te:TI}(hlt:look t cx.tt=some ti)(hk:ti.k=.slice e)(hle:look e cx.tt=some te){vs:List (Nat×SV)}(hv:F1 cx σ T ps.toList=some vs)(h1:N8 vs=true)
  {cs:List SV} (hf:Aj.fillS te.size (Aj.repN len te.zero) vs=some cs) (hz:0<te.size) (hbig:len * te.size<=16777216):
  Ap P cx.gl σ T o ⟨.bsl len (Af σ.hp),[.put (Af σ.hp) (.blk e (loose.looseL (norm.normL dn cs)))],[],[]⟩:=by
 intro B N E a w ff hf' hg st ag agh hT K' Q hK;have hag:∀p∈ps.toList,∀s∈Cu p.2,ff s=Ba σ s:=λp hp=>Ah ag (by simp only[ho,Op.operands];simp;exact⟨p.1,by simpa using hp⟩);obtain⟨h2,h3⟩:=Eh hg st hT ps.toList vs hag hv;obtain⟨z,hzr,hzrel,hz1⟩:=(hc.ti hle).zero E w;have hzl:=(hc.ti hle).zlen;have hzsz:z.cells.size=te.size:=by have:=hzrel.1;rw[hzl]at this;simpa using this.symm
 have hus:∀(j:Nat) (p:Nat×SV) (q:Nat×Value),vs[j]?=some p->((ps.map λ(x:Nat×Operand)=>(x.1,a.eval x.2)).toList)[j]?=some q->p.1=q.1/\Rel E w p.2 q.2:=by
  intro j p q hp hq;rw[Array.toList_map,List.getElem?_map]at hq;cases hpj:ps.toList[j]? with
  |none=>rw[hpj]at hq;cases hq
  |some x =>
   rw[hpj]at hq;simp only[Option.map_some,Option.some.injEq]at hq;subst hq;exact h3 j p x hp hpj
 -- the zero cells
 let C0:List Value:=(List.range (len * te.size)).map λq=>z.cells.toList.getD (q % te.size) undef
 have hC0:A2 E w (Aj.repN len te.zero) C0:=by
  refine⟨by rw[Ee,hzl];simp[C0],λi s v hs hv=>?_⟩;have hlt:i<len * te.size:=by
   have:=(List.getElem?_eq_some_iff.1 hs).1
   rwa [Ee,hzl]at this
  rw[Ny _ _ (by rw[hzl];exact hlt),hzl]at hs;simp[C0,hlt]at hv;have hm:i % te.size<z.cells.size:=by rw[hzsz];exact Nat.mod_lt _ hz
  refine hzrel.2 (i % te.size) s v hs ?_;rw[<-hv];simp[hm]
 have hC01:∀u∈C0,u.oneCell'=true:=by
  intro u hu;simp only[C0,List.mem_map,List.mem_range]at hu;obtain⟨q,_,rfl⟩:=hu;have hm:q % te.size<z.cells.toList.length:=by simp[hzsz];exact Nat.mod_lt _ hz
  rw[List.getD_eq_getElem?_getD,List.getElem?_eq_getElem hm];exact hz1 _ (List.getElem_mem hm)
 obtain⟨C',c1,c2,c3⟩:=Ic vs (ps.map λ(x:Nat×Operand)=>(x.1,a.eval x.2)).toList _ cs C0 (by simp[h2]) hus (Je h1) hC0 hC01 hf;have hlen':C'.length=len * te.size:=by
  rw[<-c2.1];have:∀(vs:List (Nat×SV)) (cs cs':List SV),Aj.fillS te.size cs vs=some cs'->cs'.length=cs.length:=by
   intro vs
   induction vs with
   |nil=>intro cs cs' h;simp[Aj.fillS]at h;rw[h]
   |cons p vs ih =>
    intro cs cs' h;obtain⟨i,v⟩:=p;simp only[Aj.fillS]at h
    split at h
    ·rw[ih _ _ h,Db]
    ·cases h
  rw[this vs _ cs hf,Ee,hzl]
 have hrun:(Instr.buildSlice t len (ps.map λ(x:Nat×Operand)=>(x.1,a.eval x.2))).run P w=.ok (.slice (some ⟨w.heap.size,0,none⟩) len len) (w.alloc (.cells ⟨C'⟩ e)):=by
  have hu:=(hc.ti hlt).slice hk;have hS:=(hc.ti hle).sizeOf w;have harr:((Array.range (len * te.size)).map (λq=>z.cells[q % z.cells.size]!))=(⟨C0⟩:Array Value):=by
   apply Array.ext';simp only[Array.toList_map,Array.toList_range,C0];refine List.map_congr_left λq _=>?_;rw[hzsz,List.getD_eq_getElem?_getD,Array.getElem!_eq_getD,Array.getD_eq_getD_getElem?,Array.getElem?_toList];have hm:q % te.size<z.cells.size:=by rw[hzsz];exact Nat.mod_lt _ hz
   simp[hm]
  have hbig':¬(16777216<len * te.size):=by omega
  simp only[Instr.buildSlice,Sem.run_bind,run_underlying hu,Result.andThen_ok,hS,gt_iff_lt]
  by_cases h0:len * te.size=0
  ·have hC0n:C0=[]:=by simp[C0,h0]
   rw[hC0n]at c1;rw[Array.toList_map]at c1;have hemp:Array.map (λ_=>(default:Value)) (Array.range 0)=⟨[]⟩:=by simp
   simp[h0,newRow,newObj]
   first|rw[hemp,c1]|(simp at c1 ⊢;rw[c1])
   simp[Sem.run]
  ·rw[Array.toList_map]at c1
   simp[h0,hbig',hzr,harr,newRow,newObj];rw[c1];simp[Sem.run]
 have hfresh:hf' (Af σ.hp)=.fresh:=by
  have:=agh.efs _ (List.mem_singleton.2 rfl);simp only[AgE,Aq,Ag,Ae]at this;rw[Ae,this];simp
 have hmax:len<=maxLen:=by
  simp only[maxLen];have:len<=len * te.size:=Nat.le_mul_of_pos_right _ hz;omega
 have hcells:A2 E w (loose.looseL (norm.normL dn cs)) C':=by
  rw[Cd,Cl];exact (c2.map _ λs v _ h=>h.norm).map _ λs v _ h=>h.loose
 obtain⟨E',x1,x2,x3,x4⟩:=Yg st hfresh (ty:=e) (C:=⟨C'⟩) hcells c3;unfold Oper.wp;have:(execOp a.eval o).run P w=.ok (.value (.slice (some ⟨w.heap.size,0,none⟩) len len)) (w.alloc (.cells ⟨C'⟩ e)):=by
  simp only[execOp,ho,Sem.run_bind];rw[hrun];rfl
 rw[this];exact hK _ _ E' x1 x2 x3 (.bsl x4 hmax rfl)
theorem Kk(hc:A1 P cx){t e sz n:Nat}{ti:TI}(hl:look t cx.tt=some ti)(hk:ti.k=.slice e)(hn:size? cx e=some sz){x y:Operand}(ho:o.op=.indexAddr t x y){h:Nat}{k:IntKind}{i:ST}
  (hv:rd cx σ T x=some (.bsl n h)) (hi:rd cx σ T y=some (.int k i)) {j:Nat} (hj:i.den=(j:Int)) (hjn:j<n):Ap P cx.gl σ T o ⟨.ptr h (0+j * sz),[],[],[]⟩:=by
 intro B N E a w ff hf' hg st ag agh hT;obtain⟨b,hb,hm,e3⟩:=(Aa hv hg st (Ah ag (by simp[ho,Op.operands])) hT).bsl_inv;have hy:=(Aa hi hg st (Ah ag (by simp[ho,Op.operands])) hT).int_inv;have hrun:=Fa hc hl hk hn (w:=w) (a:=⟨b,0,none⟩) (m:=n) (cap:=n) (k:=k) (show 0<=i.den by omega) (show i.den<(n:Int) by omega);refine Ad st (v:=.pointer (some ⟨b,0+j * sz,none⟩)) ?_ rfl (.ptr hb rfl);rw[hj]at hrun hy;simp only[Int.toNat_natCast]at hrun;simp[execOp,ho,e3,hy,hrun,add_lit]
theorem Abc(hc:A1 P cx){t e sz n:Nat}{ti:TI}(hl:look t cx.tt=some ti)(hk:ti.k=.slice e)(hn:size? cx e=some sz){x y:Operand}(ho:o.op=.indexAddr t x y){h:Nat}{k:IntKind}{i:ST}
  (hv:rd cx σ T x=some (.bsl n h)) (hi:rd cx σ T y=some (.int k i)) (hs:G9 cx T h 0 n sz i K):∃r,K r/\Ap P cx.gl σ T o r:=by
 unfold G9 at hs
 split at hs
 ·rename_i q hq
  split at hs
  ·rename_i hb
   have hq2:i.den=(q:Int):=by rw[<-Agb cx i,hq];rfl
   exact⟨_,hs,Kk hc hl hk hn ho hv hi (j:=q) hq2 (by simpa using hb)⟩
  ·exact hs.elim
 ·split at hs
  ·rw[hc.D]at hs
   obtain⟨⟨h0,h1⟩,h2⟩:=hs;have h0:0<=i.den:=h0;have h1:i.den<n:=h1;have hq:i.den=((i.den.toNat:Nat):Int):=by omega
   exact⟨_,Mt n 0 h2 i.den.toNat hq (Nat.zero_le _) (by omega),Kk hc hl hk hn ho hv hi hq (by omega)⟩
  ·exact hs.elim
theorem Vy(hc:A1 P cx){c:Call}(ho:o.op=.call c)(hcal:c.callee=.builtin .len){x:Operand}{t:Nat}{ti:TI}(hx:c.args.toList=[x])(ht:c.argTypes.toList=[t])(hl:look t cx.tt=some ti){e:TypeId}(hk:ti.k=.slice e)
  {n h:Nat} (hv:rd cx σ T x=some (.bsl n h)):Ap P cx.gl σ T o ⟨.int .i64 (.l n),[],[],[]⟩:=by
 intro B N E a w ff hf' hg st ag agh hT;have hmem:x∈o.op.operands.toList:=by simp[ho,Op.operands,Call.operands,hcal,hx]
 obtain⟨b,hb,hm,e3⟩:=(Aa hv hg st (Ah ag hmem) hT).bsl_inv;have e1:c.args=#[x]:=Array.ext' (by simpa using hx);have e2:c.argTypes=#[t]:=Array.ext' (by simpa using ht);have hrun:=F6 hc hl hk (w:=w) (a:=some ⟨b,0,none⟩) (m:=n) (c:=n) (ty:=o.type);refine Ad st (v:=.int .i64 n) ?_ rfl (.int rfl);simp[execOp,ho,resolve,hcal,e1,e2,invoke,builtin,e3,hrun]
section
variable {P:Program} {cx:Cx} {σ:Sy} {T:List Nat} {o:Oper} {K:Out->Prop}
theorem T0(hc:A1 P cx){src dst e:TypeId}{x:Operand}(ho:o.op=.convert src dst x){ts td te:TI}(hls:look src cx.tt=some ts)(hks:ts.k=.string)(hld:look dst cx.tt=some td)(hkd:td.k=.slice e)(hle:look e cx.tt=some te)(hke:te.k=.int .u8)
  {s:List UInt8} (hv:rd cx σ T x=some (.str s)) (hlen:Bh (Ac σ.gm T)->s.length<=maxLen):Ap P cx.gl σ T o ⟨.sl (.l false) (.len s) 1 (byteRow s),[],[],[]⟩:=by
 intro B N E a w ff hf hg st ag agh hT K' Q hK;have hx:=(Aa hv hg st (Ah ag (by simp[ho,Op.operands])) hT).str_inv;have hb:=st.base;have hrun:=run_bytes_of_string (P:=P) w src dst e (bytes s) ((hc.ti hls).string hks) ((hc.ti hld).slice hkd) ((hc.ti hle).int hke);obtain⟨C,hC⟩:∃C,C=bytesRow (bytes s) (grownCap w (bytes s).size 0 e):=⟨_,rfl⟩;rw[<-hC]at hrun;obtain⟨w',hw'⟩:∃w',w'=w.drew.alloc (.cells C e (C.size,C.size+1)):=⟨_,rfl⟩;rw[<-hw']at hrun
 let E':Env:=⟨E.β,E.τ,E.O,E.κ,E.ζ,λb o=>E.I b o\/(b=w.heap.size/\o<s.length)⟩
 have hold:∀b,b<w.heap.size->w'.heap[b]?=w.heap[b]?:=λb hlt=>by rw[hw'];exact RowKit.Below.heap_alloc w.drew _ b hlt
 have hnew:w'.heap[w.heap.size]?=some (.cells C e (C.size,C.size+1)):=by rw[hw'];show (w.heap.push _)[w.heap.size]?=_;simp
 have hcellold:∀(p:Addr),p.block<w.heap.size->w'.cell? p=w.cell? p:=λp hp=>World.cell?_of_block (w:=w) (hold _ hp);have hext:Ext E w E' w':=⟨λ_ _ h=>h,λ_ _ h=>.inl h,λ_ _ h=>h,λ_ _ h=>h,λb o h=>.inl h,λb o h=>hcellold _ (hb.Ibd b o h)⟩;have hsz:w'.heap.size=w.heap.size+1:=by rw[hw'];show (w.heap.push _).size=_;simp
 have hbase:Ci B E' w':=by
  refine⟨by rw[hw'];exact hb.os,by rw[hw'];exact hb.tape,by rw[hw'];exact hb.output,by have:=hb.size;omega,λb hlt hX=>?_,λb o hi=>?_,λb o hi=>?_,λb o hi=>?_,λb h hO=>?_,hb.β0.ext hext⟩
  ·rw[hold b (by have:=hb.size;omega)];exact hb.old b hlt hX
  ·obtain⟨i1,i2⟩:=hb.I0 b o hi
   exact⟨.inl i1,by rw[hcellold _ (hb.Ibd b o i1)];exact i2⟩
  ·rcases hi with hi|⟨rfl,_⟩
   ·have:=hb.Ibd b o hi;omega
   ·omega
  ·rcases hi with hi|⟨rfl,_⟩
   ·exact hb.Inew b o hi
   ·exact .inr (.inl hb.size)
  ·obtain⟨o1,o2⟩:=hb.Obd b h hO
   exact⟨by omega,o2⟩
 have hbs:(bytes s).size=s.length:=by simp[bytes,ByteArray.size]
 unfold Oper.wp;have hex:(execOp a.eval o).run P w=.ok (.value (.slice (some ⟨w.heap.size,0,none⟩) (bytes s).size (grownCap w (bytes s).size 0 e))) w':=by
  simp only[execOp,ho,hx,Sem.run_bind];rw[hrun];rfl
 rw[hex];refine hK _ w' E' hext hbase (λk=>HOk.keep hext (st.heap k) rfl rfl rfl rfl λb hO=>⟨hO,hold b (A5 hb hO),λo hi=>?_⟩) (.ro ?_)
 ·rcases hi with hi|⟨rfl,_⟩
  ·exact hi
  ·exact absurd (A5 hb hO) (by omega)
 ·refine .sl (λi _=>.int .u8 ((s.getD i 0).toNat:Int)) rfl ?_ ?_ ?_ (λ_=>rfl) (λi hi=>rfl) (λi j hi hj=>rfl) (λi j hi hj=>?_) (λi j s' hi hs=>?_)
  ·show ((s.length:Nat):Int)=_
   rw[hbs]
  ·exact grownCap_ge ..
  ·exact grownCap_le_maxLen _ _ _ _ (by rw[hbs];exact hlen hT)
  ·have hj0:j=0:=by omega
   subst hj0;rw[hbs]at hi;refine⟨?_,.inr ⟨rfl,by simpa using hi⟩⟩;have hCi:C[i]?=some (.int .u8 ((s.getD i 0).toNat:Int)):=by
    rw[hC];simp[bytesRow,bytes,Array.getElem?_append,hi]
   simp[World.cell?,hnew,hCi]
  ·cases j with
   |zero=>simp[byteRow]at hs;subst hs;exact .int rfl
   |succ j=>simp[byteRow]at hs
def Agu:List SV->Nat
 | [.int _ t]=>t.den.toNat
 |_=>0
theorem Fz{n:Int}{f:Nat->List SV}(hb:Fi n f):∃r,Iw r n f:=by
 have h0:=hb.nn;refine⟨(List.range n.toNat).map λi=>UInt8.ofNat (Agu (f i)),by simp;omega,λi t hi ht=>?_⟩;obtain⟨t',ht',h1,h2⟩:=hb.h i hi;rw[ht]at ht';simp only[List.cons.injEq,SV.int.injEq,true_and,and_true]at ht';subst ht';have hlt:i<n.toNat:=by omega
 simp[List.getD_eq_getElem?_getD,hlt,ht,Agu];omega
theorem Le(hc:A1 P cx){src dst e:TypeId}{x:Operand}(ho:o.op=.convert src dst x){ts td te:TI}(hls:look src cx.tt=some ts)(hks:ts.k=.slice e)(hld:look dst cx.tt=some td)(hkd:td.k=.string)(hle:look e cx.tt=some te)(hke:te.k=.int .u8)
  {nl:BT} {n:ST} {f:Nat->List SV} (hv:rd cx σ T x=some (.sl nl n 1 f)\/∃h,rd cx σ T x=some (.gsl nl n 1 f h)) {r:List UInt8} (hr:Bh (Ac σ.gm T)->Fi n.den f/\Iw r n.den f):Ap P cx.gl σ T o ⟨.str r,[],[],[]⟩:=by
 intro B N E a w ff hf hg st ag agh hT;obtain⟨hb,hr⟩:=hr hT;have hx:RO E.I w (.sl nl n 1 f) (a.eval x):=by
  rcases hv with hv|⟨h,hv⟩
  ·cases Aa hv hg st (Ah ag (by simp[ho,Op.operands])) hT with
   |ro h=>exact h
  ·cases Aa hv hg st (Ah ag (by simp[ho,Op.operands])) hT with
   |ro h=>cases h
   |gsl h _=>exact h
 refine Ad st (v:=.string (bytes r)) ?_ rfl (.ro (.str rfl));simp only[execOp,ho,Sem.run_bind];have hus:=(hc.ti hls).slice hks;have hud:=(hc.ti hld).string hkd;have hue:=(hc.ti hle).int hke
 generalize a.eval x=vx at hx
 cases hx with
 |slnil h hn =>
  have:r=[]:=List.eq_nil_of_length_eq_zero (by have:=hr.len;omega);subst this;simp[convert,run_underlying hus,run_underlying hud,run_underlying hue,Conv.bytesToString,bytes];rfl
 |sl g h hn hcap hcm hs hl h1 hcell hrel =>
  rename_i ad m cap;have hrl:r.length=m:=by have:=hr.len;omega
  have:=run_convert_bytes_back (P:=P) w src dst e ad cap r hus hue hud (λj hj=>by
   have hjm:j<m:=by omega
   obtain⟨t,ht,_⟩:=hb.h j (by omega);have e1:=hr.row j t (by omega) ht;have hc1:=(hcell j 0 hjm (by omega)).1;have hr1:=hrel j 0 (.int .u8 t) hjm (by rw[ht];rfl);have hg1:g j 0=.int .u8 t.den:=(Rel.ro (E:=E) hr1).int_inv;rw[hg1]at hc1;rw[List.getD_eq_getElem?_getD,List.getElem?_eq_getElem hj]at e1;simp only[Option.getD_some]at e1;rw[e1,<-hc1];have hsp:=hs (by omega);obtain⟨ab,ao,asp⟩:=ad;simp only at hsp;subst hsp;simp[Addr.add]
   split
   ·rename_i hj0;subst hj0;simp
   ·rfl)
  rw[hrl]at this;rw[this];rfl
end
section
variable {P:Program} {cx:Cx} {σ:Sy} {T:List Nat} {o:Oper}
theorem D8.map{t:Nat}{ti:TI}(h:D8 P t ti){k e:TypeId}(hk:ti.k=.map k e):P.underlying t=some (.map k e):=by
 obtain⟨d,hd,hb⟩:=h.und;rw[hk]at hb;cases d<;>simp only[Jj,Bool.false_eq_true,beq_iff_eq,Bool.and_eq_true]at hb;rw[hd,hb.1,hb.2]
theorem Qk{s t:List UInt8}:bytes s=bytes t↔s=t:=⟨λh=>by cases h;rfl,λh=>by rw[h]⟩
theorem Xw(s t:List UInt8):(bytes s==bytes t)=decide (s=t):=by
 rw[Bool.eq_iff_iff,decide_eq_true_iff];constructor
 ·intro h
  have h:((bytes s).data==(bytes t).data)=true:=h;rw[beq_iff_eq]at h;have:=congrArg Array.toList h;simpa[bytes] using this
 ·rintro rfl
  show ((bytes s).data==(bytes s).data)=true;simp
def De:List MapEntry->List UInt8->Option (Nat×Value)
 | [],_=>none
 |e :: es,s=>match e.key with
  |.string x=>if x=bytes s then some (0,e.val) else (De es s).map λp=>(p.1+1,p.2)
  |_=>(De es s).map λp=>(p.1+1,p.2)
def Am9(es:List MapEntry):Prop:=∀e∈es,∃s v,e.key=.string (bytes s)/\e.val=.bool v
theorem Xi:∀(es:List MapEntry) (s:List UInt8) (i:Nat),Am9 es->Instr.findNow .string (.string (bytes s)) es i=some ((De es s).map λp=>(i+p.1,p.2))
 | [],s,i,_=>rfl
 |e :: es,s,i,h=>by
  obtain⟨k,v,hk,hv⟩:=h e (List.mem_cons_self ..);have ih:=Xi es s (i+1) λe he=>h e (List.mem_cons_of_mem _ he);simp only[Instr.findNow,hk,Instr.sameNow,De,Xw]
  by_cases hs:s=k
  ·subst hs;simp
  ·have h2:¬bytes k=bytes s:=λe=>hs (Qk.1 e).symm
   simp only[hs,decide_false,if_neg h2,ih];cases De es s with
   |none=>rfl
   |some p=>simp;omega
theorem Ka:∀ {es:List MapEntry} {s:List UInt8} {p:Nat×Value},De es s=some p->∃e,es[p.1]?=some e/\e.key=.string (bytes s)/\e.val=p.2
 | [],s,p,h=>by cases h
 |e :: es,s,p,h=>by
  simp only[De]at h
  split at h
  ·rename_i x hx
   split at h
   ·rename_i hxs
    cases h;exact⟨e,rfl,by rw[hx,hxs],rfl⟩
   ·obtain⟨q,hq,rfl⟩:=Option.map_eq_some_iff.1 h
    obtain⟨e',h1,h2⟩:=Ka hq;exact⟨e',by simpa using h1,h2⟩
  ·obtain⟨q,hq,rfl⟩:=Option.map_eq_some_iff.1 h
   obtain⟨e',h1,h2⟩:=Ka hq;exact⟨e',by simpa using h1,h2⟩
theorem Qz:∀(es:List MapEntry) (s:List UInt8),Fo es s=match De es s with|some (_,.bool v)=>v|_=>false
 | [],s=>rfl
 |e :: es,s=>by
  have ih:=Qz es s;have hr:Fo es s=match (De es s).map (λp=>(p.1+1,p.2)) with|some (_,.bool v)=>v|_=>false:=by
   rw[ih];cases De es s with
   |none=>rfl
   |some p=>obtain⟨i,v⟩:=p;cases v<;>rfl
  cases hk:e.key with
  |string x =>
   simp only[Fo,De,hk]
   by_cases hx:x=bytes s
   ·rw[if_pos hx,if_pos hx]
    cases e.val<;>rfl
   ·rw[if_neg hx,if_neg hx];exact hr
  |_=>simp only[Fo,De,hk];exact hr
theorem M3:∀(es:List MapEntry) (s k:List UInt8) (b:Bool) (n:Nat),De es s=none->Fo (es++[⟨.string (bytes s),.bool b,n⟩]) k=if k=s then b else Fo es k
 | [],s,k,b,n,_=>by
  simp only[List.nil_append,Fo]
  by_cases h:k=s
  ·subst h;simp
  ·have h2:¬bytes s=bytes k:=λe=>h (Qk.1 e).symm
   rw[if_neg h2,if_neg h]
 |e :: es,s,k,b,n,h=>by
  simp only[De]at h;simp only[List.cons_append,Fo]
  split at h
  ·rename_i x hx
   split at h
   ·cases h
   ·rename_i hxs
    have ih:=M3 es s k b n (by simpa using h);simp only[hx]
    by_cases hk:x=bytes k
    ·rw[if_pos hk,if_pos hk]
     have:k≠s:=λe=>hxs (by rw[hk,e]);rw[if_neg this]
    ·rw[if_neg hk,if_neg hk,ih]
  ·have ih:=M3 es s k b n (by simpa using h)
   cases hx:e.key<;>simp only[ih]<;>simp_all
theorem W1:∀(es:List MapEntry) (s k:List UInt8) (b:Bool) (i:Nat) (v:Value),De es s=some (i,v)->Fo (es.modify i λe=>{ e with key:=.string (bytes s),val:=.bool b }) k=if k=s then b else Fo es k
 | [],s,k,b,i,v,h=>by cases h
 |e :: es,s,k,b,i,v,h=>by
  simp only[De]at h;have rest:∀(p:Nat×Value),De es s=some p->(∀x,e.key=.string x->¬x=bytes s)->Fo ((e :: es).modify (p.1+1) λe=>{ e with key:=.string (bytes s),val:=.bool b }) k=if k=s then b else Fo (e :: es) k:=by
   intro p hp hne;have ih:=W1 es s k b p.1 p.2 hp;rw[List.modify_succ_cons];simp only[Fo];cases hx:e.key with
   |string x =>
    simp only
    by_cases hk:x=bytes k
    ·rw[if_pos hk,if_pos hk]
     have:k≠s:=λe2=>hne x hx (by rw[hk,e2]);rw[if_neg this]
    ·rw[if_neg hk,if_neg hk,ih]
   |_=>simp only[ih]
  split at h
  ·rename_i x hx
   split at h
   ·rename_i hxs
    cases h;rw[List.modify_zero_cons];simp only[Fo]
    by_cases hk:k=s
    ·subst hk;simp
    ·have h2:¬bytes s=bytes k:=λe=>hk (Qk.1 e).symm
     have h3:¬x=bytes k:=λe=>h2 (by rw[<-hxs,e]);rw[if_neg h2,if_neg hk,hx];simp only;rw[if_neg h3]
   ·rename_i hxs
    obtain⟨q,hq,e2⟩:=Option.map_eq_some_iff.1 h;cases e2;exact rest q hq λy hy=>by rw[hx]at hy;cases hy;exact hxs
  ·rename_i hx
   obtain⟨q,hq,e2⟩:=Option.map_eq_some_iff.1 h;cases e2;exact rest q hq λy hy=>absurd hy (by intro e3;exact hx _ e3)
theorem Hj{t:TypeId}(ht:P.underlying t=some .string)(b:Bool)(s:ByteArray)(w:World):(Instr.checkKey b 10000 t (.string s)).run P w=.ok () w:=by
 have h:Instr.checkKey b 10000 t (.string s)=Instr.checkKey b (9999+1) t (.string s):=rfl;rw[h,Instr.checkKey];simp only[Sem.run_bind,run_underlying ht,Result.andThen_ok,Sem.run_pure]
theorem Ip{t:TypeId}(ht:P.underlying t=some .string){es:List MapEntry}(h:Am9 es)(s:List UInt8)(w:World):(Instr.findKey t (.string (bytes s)) es).run P w=.ok (De es s) w:=by
 simp only[Instr.findKey,Sem.run_bind,run_underlying ht,Result.andThen_ok,Xi es s 0 h,Sem.run_pure];cases De es s with
 |none=>rfl
 |some p=>simp
theorem Fb{w:World}{r:Nat}{es:Array MapEntry}{c:Nat}(hb:w.heap[r]?=some (.map es c)):(getObj r).run P w=.ok (.map es c) w:=by
 simp[getObj,Sem.run,hb]
theorem Jy{w:World}{r:Nat}{es:Array MapEntry}{c:Nat}{o':Obj}(hb:w.heap[r]?=some (.map es c)):(setObj r o').run P w=.ok () { w with heap:=w.heap.setIfInBounds r o' }:=by
 simp[setObj,Sem.run,hb]
theorem Af6{B:Bs}{N:Nat}{E:Env}{a:Act}{w:World}{ff:Nat->SG}{hf:Nat->Hl}(st:St B N E a w ff hf){h:Nat}(hfresh:hf h=.fresh)(o':Obj)(l:Hl)
  (hl:∀(E':Env) (w':World),E'.β h=some w.heap.size->E'.O w.heap.size=some h->w'.heap[w.heap.size]?=some o'->(∀o,¬E'.I w.heap.size o)->HOk E' w' h l):
  ∃E',Ext E w E' (w.alloc o')/\Ci B E' (w.alloc o')/\(∀k,HOk E' (w.alloc o') k (upd hf h l k))/\E'.β h=some w.heap.size/\∀b k,E'.O b=some k->E.O b=some k\/b=w.heap.size:=by
 have hb:=st.base;have hfr:=st.heap h;rw[hfresh]at hfr;obtain⟨f1,f2,_,_⟩:=hfr
 let E':Env:=⟨upd E.β h (some w.heap.size),E.τ,upd E.O w.heap.size (some h),E.κ,E.ζ,E.I⟩
 have hx:Ext E w E' (w.alloc o'):=by
  refine⟨λk b hk=>?_,λ_ _ h=>.inl h,λ_ _ h=>h,λ_ _ h=>h,λ_ _ h=>h,λb o hi=>C4 (hb.Ibd b o hi)⟩;show upd E.β h (some w.heap.size) k=some b;unfold upd
  by_cases e:k=h
  ·subst e;rw[f1]at hk;cases hk
  ·rw[if_neg e];exact hk
 refine⟨E',hx,⟨hb.os,hb.tape,hb.output,?_,?_,?_,?_,?_,?_,hb.β0.ext hx⟩,λk=>?_,by simp[E',upd],λb k hO=>by
  have hO:upd E.O w.heap.size (some h) b=some k:=hO;unfold upd at hO
  split at hO
  ·rename_i e;exact .inr e
  ·exact .inl hO⟩
 ·have:=hb.size;simp;omega
 ·intro b hlt hX;rw[Dd (by have:=hb.size;omega)];exact hb.old b hlt hX
 ·intro b o hi
  obtain⟨i1,i2⟩:=hb.I0 b o hi;exact⟨i1,by rw[C4 (hb.Ibd b o i1)];exact i2⟩
 ·intro b o hi;have:=hb.Ibd b o hi;simp;omega
 ·exact hb.Inew
 ·intro b k hO
  have hO:upd E.O w.heap.size (some h) b=some k:=hO;unfold upd at hO
  split at hO
  ·rename_i e;subst e;have:=hb.size;simp;exact .inl this
  ·obtain⟨o1,o2⟩:=hb.Obd b k hO;simp;exact⟨by omega,o2⟩
 ·by_cases e:k=h
  ·subst e
   simp only[upd,if_pos];refine hl E' _ (by simp[E',upd]) (by simp[E',upd]) (heap_alloc_new w _) λo hi=>?_;have:=hb.Ibd _ _ hi;omega
  ·simp only[upd,if_neg e]
   refine HOk.keep hx (st.heap k) (by simp[E',upd,e]) rfl rfl rfl λb hO=>?_;have hlt:=A5 hb hO;exact⟨by simp[E',upd,Nat.ne_of_lt hlt];exact hO,Dd hlt,λ_ h=>h⟩
theorem Gt(w:World)(r:Nat)(o:Obj)(k:Nat)(hr:r<w.heap.size):({ w with heap:=w.heap.setIfInBounds r o }:World).heap[k]?=if k=r then some o else w.heap[k]?:=by
 show (w.heap.setIfInBounds r o)[k]?=_
 by_cases e:k=r
 ·subst e;rw[if_pos rfl,Array.getElem?_setIfInBounds_self_of_lt hr]
 ·rw[if_neg e,Array.getElem?_setIfInBounds_ne (λh=>e h.symm)]
theorem K3(w:World)(r:Nat)(o:Obj){b off:Nat}(hne:b≠r):({ w with heap:=w.heap.setIfInBounds r o }:World).cell? ⟨b,off,none⟩=w.cell? ⟨b,off,none⟩:=by
 unfold World.cell?;have:({ w with heap:=w.heap.setIfInBounds r o }:World).heap[b]?=w.heap[b]?:=by
  show (w.heap.setIfInBounds r o)[b]?=_;rw[Array.getElem?_setIfInBounds_ne (λh=>hne h.symm)]
 rw[this]
theorem Nv{B:Bs}{N:Nat}{E:Env}{a:Act}{w:World}{ff:Nat->SG}{hf:Nat->Hl}(st:St B N E a w ff hf){h b:Nat}(hO:E.O b=some h)(hI:∀o,¬E.I b o)(o':Obj)(l:Hl)
  (hl:HOk E { w with heap:=w.heap.setIfInBounds b o' } h l):
  Ext E w E { w with heap:=w.heap.setIfInBounds b o' }/\Ci B E { w with heap:=w.heap.setIfInBounds b o' }/\∀k,HOk E { w with heap:=w.heap.setIfInBounds b o' } k (upd hf h l k):=by
 have hb:=st.base;have hblt:=A5 hb hO;have hx:Ext E w E { w with heap:=w.heap.setIfInBounds b o' }:=⟨λ_ _ h=>h,λ_ _ h=>.inl h,λ_ _ h=>h,λ_ _ h=>h,λ_ _ h=>h,λb2 o hi=>K3 w b o' (λe=>by subst e;exact hI o hi)⟩;have hX:=(hb.Obd b h hO).2;refine⟨hx,⟨hb.os,hb.tape,hb.output,by simpa using hb.size,?_,?_,?_,hb.Inew,?_,hb.β0⟩,λk=>?_⟩
 ·intro b2 hlt hnX
  rw[Gt w b o' b2 hblt]
  by_cases e:b2=b
  ·subst e;rcases hX with hX|hX
   ·omega
   ·exact absurd hX hnX
  ·rw[if_neg e];exact hb.old b2 hlt hnX
 ·intro b2 o hi
  obtain⟨i1,i2⟩:=hb.I0 b2 o hi;exact⟨i1,by rw[hx.cell b2 o i1];exact i2⟩
 ·intro b2 o hi;have:=hb.Ibd b2 o hi;simpa using this
 ·intro b2 k hO;have:=hb.Obd b2 k hO;simpa using this
 ·by_cases e:k=h
  ·subst e;simp only[upd,if_pos];exact hl
  ·simp only[upd,if_neg e]
   refine HOk.keep hx (st.heap k) rfl rfl rfl rfl λb2 hO2=>⟨hO2,?_,λ_ h=>h⟩;rw[Gt w b o' b2 hblt,if_neg];intro e2;subst e2;rw[hO]at hO2;exact e (Option.some.inj hO2).symm
theorem Rel.mapv_inv{E:Env}{w:World}{h:Nat}{v:Value}(hr:Rel E w (.mapv h) v):∃b,E.β h=some b/\v=.map (some b):=by
 cases hr with
 |ro h=>cases h
 |mapv hb hv=>exact⟨_,hb,hv⟩
theorem D8.zero_bool{t:Nat}{ti:TI}(h:D8 P t ti)(hk:ti.k=.bool)(hz:ti.zero=[.bool (.l false)])(w:World):(zeroValue t).run P w=.ok (.bool false) w:=by
 obtain⟨i,z,hi,h1,h2,h3,h4,h5⟩:=h.info;have e:z=.bool false:=by
  rw[hz]at h4;rw[hk]at h5;cases z with
  |agg a=>simp[Ald]at h5
  |bool b=>simp[Value.cells,zsB,zB]at h4;rw[h4]
  |_=>simp[Value.cells,zsB,zB]at h4
 subst e;simp[zeroValue,typeInfo,hi,h3]
theorem Yn(hc:A1 P cx){t kt vt:TypeId}{x y:Operand}(ho:o.op=.lookup t x y false){ti tk tv:TI}(hl:look t cx.tt=some ti)(hk:ti.k=.map kt vt)(hlk:look kt cx.tt=some tk)(hkk:tk.k=.string)(hlv:look vt cx.tt=some tv)(hkv:tv.k=.bool)(hzv:tv.zero=[.bool (.l false)])
  {h:Nat} {s:List UInt8} {F:List UInt8->Bool} (hx:rd cx σ T x=some (.mapv h)) (hy:rd cx σ T y=some (.str s)) (hh:nth σ.hp h=some (.mset F)):Ap P cx.gl σ T o ⟨.bool (.a (F s)),[],[h],[]⟩:=by
 intro B N E a w ff hf hg st ag agh hT K' Q hK;obtain⟨b,hb,hv⟩:=(Aa hx hg st (Ah ag (by simp[ho,Op.operands])) hT).mapv_inv;have hs:=(Aa hy hg st (Ah ag (by simp[ho,Op.operands])) hT).str_inv;have hk0:=st.heap h;rw[agh.rds h (by simp),Bv hh]at hk0;obtain⟨b',es,clock,k1,k2,k3,k4,k5,k6⟩:=hk0;obtain rfl:b=b':=Option.some.inj (hb.symm.trans k1);have hu:=(hc.ti hl).map hk;have huk:=(hc.ti hlk).string hkk;have hz:=(hc.ti hlv).zero_bool hkv hzv w;unfold Oper.wp;have hval:(Instr.lookup t (.map (some b)) (.string (bytes s)) false).run P w=.ok (.bool (F s)) w:=by
  simp only[Instr.lookup,Sem.run_bind,run_underlying hu,Result.andThen_ok,Fb k3,Sem.run_pure,Hj huk,Ip huk k4];have h1:=k5 s;rw[Qz]at h1;cases hf:De es.toList s with
  |none =>
   rw[hf]at h1;simp[hz,<-h1]
  |some p =>
   obtain⟨i,v⟩:=p;obtain⟨e,e1,e2,e3⟩:=Ka hf;obtain⟨_,bv,_,e4⟩:=k4 e (List.mem_of_getElem? e1);rw[hf]at h1;rw[e4]at e3;simp only at e3 h1;subst e3;simp only at h1;simp[h1]
 have:(execOp a.eval o).run P w=.ok (.value (.bool (F s))) w:=by
  simp only[execOp,ho,hv,hs,Sem.run_bind,hval,Result.andThen_ok,Sem.run_pure]
 rw[this];exact hK _ _ E (Ext.refl E w) st.base st.heap (.ro (.bool rfl))
theorem Kj(hc:A1 P cx){t kt vt:TypeId}{x y z:Operand}(ho:o.op=.mapUpdate t x y z\/o.op=.insert t x y z){ti tk:TI}(hl:look t cx.tt=some ti)(hk:ti.k=.map kt vt)(hlk:look kt cx.tt=some tk)(hkk:tk.k=.string)
  {h:Nat} {s:List UInt8} {bt:BT} {F F':List UInt8->Bool} (hx:rd cx σ T x=some (.mapv h)) (hy:rd cx σ T y=some (.str s)) (hz:rd cx σ T z=some (.bool bt)) (hh:nth σ.hp h=some (.mset F)) (hF:Ag1 F' F s bt.den):Ap P cx.gl σ T o ⟨.tup [],[.put h (.mset F')],[h],[]⟩:=by
 intro B N E a w ff hf hg st ag agh hT K' Q hK;have mx:x∈o.op.operands.toList:=by rcases ho with ho|ho<;>simp[ho,Op.operands]
 have my:y∈o.op.operands.toList:=by rcases ho with ho|ho<;>simp[ho,Op.operands]
 have mz:z∈o.op.operands.toList:=by rcases ho with ho|ho<;>simp[ho,Op.operands]
 obtain⟨b,hb,hv⟩:=(Aa hx hg st (Ah ag mx) hT).mapv_inv;have hs:=(Aa hy hg st (Ah ag my) hT).str_inv;have hbv:=(Aa hz hg st (Ah ag mz) hT).bool_inv;have hk0:=st.heap h;rw[agh.rds h (by simp),Bv hh]at hk0;obtain⟨b',es,clock,k1,k2,k3,k4,k5,k6⟩:=hk0;obtain rfl:b=b':=Option.some.inj (hb.symm.trans k1);have hu:=(hc.ti hl).map hk;have huk:=(hc.ti hlk).string hkk;have hblt:=A5 st.base k2;obtain⟨es',clock',hrun,hkeys,hget⟩:∃es' clock',(Instr.mapUpdate t (.map (some b)) (.string (bytes s)) (.bool bt.den)).run P w=.ok () { w with heap:=w.heap.setIfInBounds b (.map es' clock') }/\Am9 es'.toList/\∀k,Fo es'.toList k=F' k:=by
  cases hf:De es.toList s with
  |none =>
   refine⟨es.push ⟨.string (bytes s),.bool bt.den,clock⟩,clock+1,?_,λe he=>?_,λk=>?_⟩
   ·simp only[Instr.mapUpdate,Sem.run_bind,run_underlying hu,Result.andThen_ok,Fb k3,Hj huk,Ip huk k4,hf,Jy k3]
   ·rw[Array.toList_push,List.mem_append,List.mem_singleton]at he
    rcases he with he|rfl
    ·exact k4 e he
    ·exact⟨s,bt.den,rfl,rfl⟩
   ·rw[Array.toList_push,M3 _ _ _ _ _ hf,hF.h,k5]
  |some p =>
   obtain⟨i,v⟩:=p;obtain⟨e,e1,e2,e3⟩:=Ka hf;have e1':es[i]?=some e:=by simpa using e1
   refine⟨es.modify i λe=>{ e with key:=.string (bytes s),val:=.bool bt.den },clock,?_,λe he=>?_,λk=>?_⟩
   ·have hst:(Instr.keyThatStays (.string (bytes s)) (.string (bytes s))).run P w=.ok (.string (bytes s)) w:=by
     have:Instr.sameBits 10000 (.string (bytes s)) (.string (bytes s))=true:=by
      show (bytes s==bytes s)=true;rw[Xw];simp
     simp only[Instr.keyThatStays,this,if_true,Sem.run_pure]
    simp only[Instr.mapUpdate,Sem.run_bind,run_underlying hu,Result.andThen_ok,Fb k3,Hj huk,Ip huk k4,hf,e1',Option.map_some,Option.getD_some,e2,hst,Jy k3]
   ·rw[Array.toList_modify]at he
    obtain⟨j,hj⟩:=List.mem_iff_getElem?.1 he;rw[List.getElem?_modify]at hj;obtain⟨e0,h0,rfl⟩:=Option.map_eq_some_iff.1 hj
    split
    ·exact⟨s,bt.den,rfl,rfl⟩
    ·exact k4 e0 (List.mem_of_getElem? h0)
   ·rw[Array.toList_modify,W1 _ _ _ _ _ _ hf,hF.h,k5]
 have hn:HOk E { w with heap:=w.heap.setIfInBounds b (.map es' clock') } h (.mset F'):=by
  refine⟨b,es',clock',hb,k2,?_,hkeys,hget,k6⟩;rw[Gt w b _ b hblt,if_pos rfl]
 obtain⟨x1,x2,x3⟩:=Nv st k2 k6 (.map es' clock') (.mset F') hn;unfold Oper.wp;have:(execOp a.eval o).run P w=.ok .skip { w with heap:=w.heap.setIfInBounds b (.map es' clock') }:=by
  rcases ho with ho|ho<;>simp only[execOp,ho,hv,hs,hbv,Sem.run_bind,hrun,Result.andThen_ok,Sem.run_pure]
 rw[this];exact hK undef _ E x1 x2 x3 (.tup rfl (by simp))
end
section
variable {P:Program} {cx:Cx} {σ:Sy} {T:List Nat} {o:Oper}
theorem D8.int64{t:Nat}{ti:TI}(h:D8 P t ti)(hk:ti.k=.int .i64):P.underlying t=some (.int .i64):=by
 obtain⟨d,hd,hb⟩:=h.und;rw[hk]at hb;cases d<;>simp only[Jj,Bool.false_eq_true,beq_iff_eq]at hb;rw[hd,hb]
def Iu:List MapEntry->Int->Option (Nat×Value)
 | [],_=>none
 |e :: es,n=>match e.key with
  |.int _ k=>if n=k then some (0,e.val) else (Iu es n).map λp=>(p.1+1,p.2)
  |_=>none
def Ana(es:List MapEntry):Prop:=∀e∈es,∃k,e.key=.int .i64 k
theorem Xj:∀(es:List MapEntry) (n:Int) (i:Nat),Ana es->Instr.findNow (.int .i64) (.int .i64 n) es i=some ((Iu es n).map λp=>(i+p.1,p.2))
 | [],n,i,_=>rfl
 |e :: es,n,i,h=>by
  obtain⟨k,hk⟩:=h e (List.mem_cons_self ..);have ih:=Xj es n (i+1) λe he=>h e (List.mem_cons_of_mem _ he);simp only[Instr.findNow,hk,Instr.sameNow,Iu,if_true]
  by_cases hs:n=k
  ·subst hs;simp
  ·have e1:(n==k)=false:=by simpa using hs
   simp only[e1,if_neg hs,ih];cases Iu es n with
   |none=>rfl
   |some p=>simp;omega
theorem K4{t:TypeId}(ht:P.underlying t=some (.int .i64))(b:Bool)(n:Int)(w:World):(Instr.checkKey b 10000 t (.int .i64 n)).run P w=.ok () w:=by
 have h:Instr.checkKey b 10000 t (.int .i64 n)=Instr.checkKey b (9999+1) t (.int .i64 n):=rfl;rw[h,Instr.checkKey];simp only[Sem.run_bind,run_underlying ht,Result.andThen_ok,Sem.run_pure]
theorem Mi{t:TypeId}(ht:P.underlying t=some (.int .i64)){es:List MapEntry}(h:Ana es)(n:Int)(w:World):(Instr.findKey t (.int .i64 n) es).run P w=.ok (Iu es n) w:=by
 simp only[Instr.findKey,Sem.run_bind,run_underlying ht,Result.andThen_ok,Xj es n 0 h,Sem.run_pure];cases Iu es n with
 |none=>rfl
 |some p=>simp
structure Ij(E:Env)(w:World)(es:List (Int×SV))(ms:List MapEntry):Prop where
 len:ms.length=es.length
 at_:∀(i:Nat) (p:Int×SV) (e:MapEntry),es[i]?=some p->ms[i]?=some e->e.key=.int .i64 p.1/\Rel E w p.2 e.val
theorem Ij.keys{E:Env}{w:World}{es:List (Int×SV)}{ms:List MapEntry}(h:Ij E w es ms):Ana ms:=λe he=>by
 obtain⟨i,hi⟩:=List.mem_iff_getElem?.1 he;have hlt:=(List.getElem?_eq_some_iff.1 hi).1;rw[h.len]at hlt;exact⟨_,(h.at_ i _ e (List.getElem?_eq_getElem hlt) hi).1⟩
theorem Wl{n:Int}{F:SV->Prop}:∀ {es:List (Int×SV)},Ag2 n (Ud es)->X6 n F es->∃v i,es[i]?=some (n,v)/\(∀(j:Nat) (p:Int×SV),j<i->es[j]?=some p->p.1≠n)/\F v
 | [],hk,_=>absurd hk.h (by simp[Ud])
 |(k,v) :: es,hk,hs=>by
  by_cases e:n=k
  ·exact⟨v,0,by simp[e],λj _ hj=>by omega,hs.1 ⟨e⟩⟩
  ·have hk2:Ag2 n (Ud es):=⟨by
    have:=hk.h;simp only[Ud,List.mem_cons]at this;exact this.resolve_left e⟩
   obtain⟨v',i,q1,q2,q3⟩:=Wl hk2 hs.2;refine⟨v',i+1,by simpa using q1,λj p hj hp=>?_,q3⟩;cases j with
   |zero=>simp at hp;subst hp;exact λe2=>e e2.symm
   |succ j=>exact q2 j p (by omega) (by simpa using hp)
theorem Rd{E:Env}{w:World}{n:Int}{v:SV}:∀ {l:List MapEntry} {es:List (Int×SV)},Ij E w es l->∀ {i:Nat},es[i]?=some (n,v)->(∀(j:Nat) (p:Int×SV),j<i->es[j]?=some p->p.1≠n)->∃u,Iu l n=some (i,u)/\Rel E w v u
 | [],es,hen,i,q1,q2=>by
  have:=hen.len;have hlt:=(List.getElem?_eq_some_iff.1 q1).1;simp at this;omega
 |e :: l,[],hen,i,q1,q2=>by simp at q1
 |e :: l,p :: es,hen,i,q1,q2=>by
  obtain⟨g1,g2⟩:=hen.at_ 0 p e rfl rfl;have hr:Ij E w es l:=⟨by have:=hen.len;simpa using this,λi p e hp he=>hen.at_ (i+1) p e (by simpa using hp) (by simpa using he)⟩;simp only[Iu,g1];cases i with
  |zero =>
   simp at q1;subst q1;exact⟨e.val,by simp,g2⟩
  |succ i =>
   have hne:n≠p.1:=λe2=>q2 0 p (by omega) rfl e2.symm;rw[if_neg hne];obtain⟨u,u1,u2⟩:=Rd hr (by simpa using q1) λj p' hj hp=>q2 (j+1) p' (by omega) (by simpa using hp);exact⟨u,by rw[u1];rfl,u2⟩
theorem Ur{E:Env}{w:World}:∀ {es:List (Int×SV)} {ms:List MapEntry},Ij E w es ms->∀ {n:Int},Aar n es=true->Iu ms n=none
 | [],[],_,n,_=>rfl
 | [],e :: ms,h,n,_=>by have:=h.len;simp at this
 |(k,v) :: es,[],h,n,_=>rfl
 |(k,v) :: es,e :: ms,h,n,hn=>by
  obtain⟨h1,h2⟩:=h.at_ 0 (k,v) e rfl rfl;have hr:Ij E w es ms:=⟨by have:=h.len;simpa using this,λi p e hp he=>h.at_ (i+1) p e (by simpa using hp) (by simpa using he)⟩;simp only[Aar,Bool.and_eq_true,Bool.not_eq_true',beq_eq_false_iff_ne]at hn;simp only[Iu,h1,if_neg (λe=>hn.1 (Eq.symm e)),Ur hr hn.2,Option.map_none]
theorem Adz{r:Option Operand}(h:Ad0 r=true){a:Act}{t:TypeId}{w:World}{k e:TypeId}(hu:P.underlying t=some (.map k e)):(Instr.makeMap t (r.map a.eval)).run P w=.ok (.map (some w.heap.size)) (w.alloc (.map #[] 0)):=by
 match r,h with
 |none,_=>simp[Instr.makeMap,newObj,Sem.run]
 |some (.const (.int .i64 n)),_=>simp[Instr.makeMap,newObj,Sem.run_bind,run_underlying hu,Act.eval,asInt,asIntOf,Sem.run]
theorem La(hc:A1 P cx){t kt vt:TypeId}{r:Option Operand}(ho:o.op=.makeMap t r){ti:TI}(hl:look t cx.tt=some ti)(hk:ti.k=.map kt vt)(hr:Ad0 r=true)(l:Hl)(hlm:l=.mset (λ_=>false)\/l=.mint []):
  Ap P cx.gl σ T o ⟨.mapv (Af σ.hp),[.put (Af σ.hp) l],[],[]⟩:=by
 intro B N E a w ff hf _ st _ agh _ K' Q hK;have hfresh:hf (Af σ.hp)=.fresh:=by
  have:=agh.efs _ (List.mem_singleton.2 rfl);simp only[AgE,Aq,Ag,Ae]at this;rw[Ae,this];simp
 obtain⟨E',hx,hb,hh,hβ,_⟩:=Af6 st hfresh (.map #[] 0) l λE' w' h1 h2 h3 h4=>by
  rcases hlm with rfl|rfl
  ·exact⟨_,#[],0,h1,h2,h3,by simp,λs=>rfl,h4⟩
  ·exact⟨_,#[],0,h1,h2,h3,by simp,by simp,h4⟩
 unfold Oper.wp;have:(execOp a.eval o).run P w=.ok (.value (.map (some w.heap.size))) (w.alloc (.map #[] 0)):=by
  simp only[execOp,ho,Sem.run_bind,Adz hr ((hc.ti hl).map hk),Result.andThen_ok,Sem.run_pure]
 rw[this];exact hK _ _ E' hx hb hh (.mapv hβ rfl)
theorem Vs(hc:A1 P cx){K:Out->Prop}{t kt vt:TypeId}{x y:Operand}(ho:o.op=.lookup t x y false){ti tk:TI}(hl:look t cx.tt=some ti)(hk:ti.k=.map kt vt)(hlk:look kt cx.tt=some tk)(hkk:tk.k=.int .i64)
  {h:Nat} {n:ST} {es:List (Int×SV)} (hx:rd cx σ T x=some (.mapv h)) (hy:rd cx σ T y=some (.int .i64 n)) (hh:nth σ.hp h=some (.mint es)) (h1:Ag2 n.den (Ud es)) (h2:X6 n.den (λv=>K ⟨v,[],[h],[]⟩) es) (_hT0:T=[]):∃r,K r/\Ap P cx.gl σ T o r:=by
 obtain⟨v,i,q1,q2,hF⟩:=Wl h1 h2;refine⟨_,hF,?_⟩;intro B N E a w ff hf hg st ag agh hT K' Q hK;obtain⟨b,hb,hv0⟩:=(Aa hx hg st (Ah ag (by simp[ho,Op.operands])) hT).mapv_inv;have hs:=(Aa hy hg st (Ah ag (by simp[ho,Op.operands])) hT).int_inv;have hk0:=st.heap h;rw[agh.rds h (by simp),Bv hh]at hk0;obtain⟨b',ms,clock,k1,k2,k3,k4,k5,k6⟩:=hk0;obtain rfl:b=b':=Option.some.inj (hb.symm.trans k1);have hu:=(hc.ti hl).map hk;have huk:=(hc.ti hlk).int64 hkk;have hen:Ij E w es ms.toList:=⟨by simpa using k4,k5⟩;obtain⟨u,u1,u2⟩:=Rd hen q1 q2;unfold Oper.wp;have hval:(Instr.lookup t (.map (some b)) (.int .i64 n.den) false).run P w=.ok u w:=by
  simp only[Instr.lookup,Sem.run_bind,run_underlying hu,Result.andThen_ok,Fb k3,Sem.run_pure,K4 huk,Mi huk hen.keys,u1];simp
 have:(execOp a.eval o).run P w=.ok (.value u) w:=by
  simp only[execOp,ho,hv0,hs,Sem.run_bind,hval,Result.andThen_ok,Sem.run_pure]
 rw[this];exact hK _ _ E (Ext.refl E w) st.base st.heap u2
theorem Jh(hc:A1 P cx){t kt vt:TypeId}{x y z:Operand}(ho:o.op=.mapUpdate t x y z\/o.op=.insert t x y z){ti tk:TI}(hl:look t cx.tt=some ti)(hk:ti.k=.map kt vt)(hlk:look kt cx.tt=some tk)(hkk:tk.k=.int .i64)
  {h:Nat} {n:Int} {v:SV} {es:List (Int×SV)} (hx:rd cx σ T x=some (.mapv h)) (hy:rd cx σ T y=some (.int .i64 (.l n))) (hz:rd cx σ T z=some v) (hh:nth σ.hp h=some (.mint es)) (hn:Aar n es=true):Ap P cx.gl σ T o ⟨.tup [],[.put h (.mint (es++[(n,v)]))],[h],[]⟩:=by
 intro B N E a w ff hf hg st ag agh hT K' Q hK;have mx:x∈o.op.operands.toList:=by rcases ho with ho|ho<;>simp[ho,Op.operands]
 have my:y∈o.op.operands.toList:=by rcases ho with ho|ho<;>simp[ho,Op.operands]
 have mz:z∈o.op.operands.toList:=by rcases ho with ho|ho<;>simp[ho,Op.operands]
 obtain⟨b,hb,hv⟩:=(Aa hx hg st (Ah ag mx) hT).mapv_inv;have hs:=(Aa hy hg st (Ah ag my) hT).int_inv;have hzr:=Aa hz hg st (Ah ag mz) hT;have hk0:=st.heap h;rw[agh.rds h (by simp),Bv hh]at hk0;obtain⟨b',ms,clock,k1,k2,k3,k4,k5,k6⟩:=hk0;obtain rfl:b=b':=Option.some.inj (hb.symm.trans k1);have hu:=(hc.ti hl).map hk;have huk:=(hc.ti hlk).int64 hkk;have hblt:=A5 st.base k2;have hen:Ij E w es ms.toList:=⟨by simpa using k4,k5⟩;have hfn:=Ur hen hn;obtain⟨ms',hms⟩:∃ms',ms'=ms.push ⟨.int .i64 n,a.eval z,clock⟩:=⟨_,rfl⟩;have hrun:(Instr.mapUpdate t (.map (some b)) (.int .i64 n) (a.eval z)).run P w=.ok () { w with heap:=w.heap.setIfInBounds b (.map ms' (clock+1)) }:=by
  rw[hms];simp only[Instr.mapUpdate,Sem.run_bind,run_underlying hu,Result.andThen_ok,Fb k3,K4 huk,Mi huk hen.keys,hfn,Jy k3]
 have hx0:Ext E w E { w with heap:=w.heap.setIfInBounds b (.map ms' (clock+1)) }:=⟨λ_ _ h=>h,λ_ _ h=>.inl h,λ_ _ h=>h,λ_ _ h=>h,λ_ _ h=>h,λb2 o hi=>K3 w b _ (λe=>by subst e;exact k6 o hi)⟩;have hn:HOk E { w with heap:=w.heap.setIfInBounds b (.map ms' (clock+1)) } h (.mint (es++[(n,v)])):=by
  refine⟨b,ms',clock+1,hb,k2,?_,by rw[hms];simp[k4],λi p e hp he=>?_,k6⟩
  ·rw[Gt w b _ b hblt,if_pos rfl]
  ·rw[hms,Array.toList_push]at he
   by_cases hi:i<es.length
   ·rw[List.getElem?_append_left hi]at hp
    rw[List.getElem?_append_left (by simpa[k4] using hi)]at he;obtain⟨g1,g2⟩:=k5 i p e hp he;exact⟨g1,g2.mono hx0⟩
   ·rw[List.getElem?_append_right (by omega)]at hp
    rw[List.getElem?_append_right (by simp[k4];omega)]at he;have e0:i-es.length=0:=by
     have:=(List.getElem?_eq_some_iff.1 hp).1;simp at this;omega
    have e1:i-ms.toList.length=0:=by simp[k4];omega
    rw[e0]at hp;rw[e1]at he;simp at hp he;subst hp;subst he;exact⟨rfl,hzr.mono hx0⟩
 obtain⟨x1,x2,x3⟩:=Nv st k2 k6 (.map ms' (clock+1)) (.mint (es++[(n,v)])) hn;unfold Oper.wp;have:(execOp a.eval o).run P w=.ok .skip { w with heap:=w.heap.setIfInBounds b (.map ms' (clock+1)) }:=by
  rcases ho with ho|ho<;>simp only[execOp,ho,hv,hs,ST.den,Sem.run_bind,hrun,Result.andThen_ok,Sem.run_pure]
 rw[this];exact hK undef _ E x1 x2 x3 (.tup rfl (by simp))
end
end Go.Sx
