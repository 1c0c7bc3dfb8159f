/- A part of the proof: contracts of functions, or the executor and its soundness. No conditions. -/
import Derived.Test.YtdoogdbjiijifaaGreatDoorE8Pau
import Derived.Test.YtdoogdbjiijifaaGreatDoorE8Pat
namespace Go.Proofs.YtdoogdbjiijifaaGreatDoor
open Go Go.RowKit Go.Sx
set_option maxHeartbeats 2000000
set_option maxRecDepth 100000
structure Anl(w:World)(b:Nat)(p v:Value)(s:List UInt8):Prop where
 pp:p=.pointer none\/p=.pointer (some ⟨b,0,none⟩)
 at_:w.heap[b]?=some (.cells #[p,v] 180 (0,0))
 own:w.ownsRow 0 5 1 v s.length (Lib.byteCells s)
 ne:v.ownBlock≠some b
def ny(w':World)(b:Nat)(v':Value):Hl->Prop
 |.mN T e s'=>T=180/\e=5/\∃p',Anl w' b p' v' s'
 |.gone=>v'.ownBlock=none
 |_=>False
variable {s:List UInt8}{v:Value}{n:Nat}{xs:List Value}{l:List HF}{c:UInt8}
theorem Rv{gl:List (Nat×SV)}{f:FuncId}{as1:List SV}{r:SV}{hl:Hl}
  (run:∀(E:Env) (b:Nat) (p v:Value) (w:World) (aX:List Value),Anl w b p v s->A6 E w as1 aX->Calls Tryz.prog f ⟨.pointer (some ⟨b,0,none⟩) :: aX⟩ w λe w'=>∃ev v',e=.returned ev/\(∀E,Rel E w' r ev)/\Anm b v v' w w'/\ny w' b v' hl):
  E4 Tryz.prog gl f (.ptr 0 0 :: as1) [.mN 180 5 s] r [hl]:=by
 intro B E w aX nI IX dV hb hg hh hr;have h0:=hh 0;obtain⟨b,p,v,h1,h2,h3,h4,h5,h6,h7,h8⟩:=h0
 match aX,hr with
 |u :: aX,hr =>
  obtain⟨b',oE,hu⟩:=(hr.2 0 _ u rfl rfl).dL;obtain rfl:b=b':=Option.some.inj (h1.symm.trans oE);subst hu;refine (run E b p v w aX ⟨h3,h4,h5,h6⟩ ⟨by have:=hr.1;simpa using this,λi s' u' a c=>hr.2 (i+1) s' u' a c⟩).mono ?_;rintro e w' ⟨ev,v',rfl,pK,K,sA⟩
  let E':Env:=⟨E.β,E.τ,λk=>if v'.ownBlock=some k then some 0 else E.O k,E.κ,E.ζ,E.I⟩
  have hX:∀k,E.O k=some 0->B.w0.heap.size<=k\/B.X k:=λk hk=>(hb.cR k 0 hk).2;have sF:∀k,k<w.heap.size->(∀j,E.O k=some j->j≠0)->w'.heap[k]?=w.heap[k]?:=by
   intro k hk hn;refine K.block k hk (λe=>?_) (λe=>?_)
   .subst e;exact hn 0 h2 rfl
   .exact hn 0 (h8 k e.symm).1 rfl
  have aN:∀b2 o,E.I b2 o->w'.cell? ⟨b2,o,none⟩=w.cell? ⟨b2,o,none⟩:=by
   intro b2 o hi;simp only[World.cell?];rw[K.block b2 (hb.dR b2 o hi) (λe=>by subst e;exact h7 o hi) (λe=>(h8 b2 e.symm).2 o hi)]
  have cF:∀k,v'.ownBlock=some k->B.w0.heap.size<=k\/B.X k:=by
   intro k hk;rcases K.new k hk with h|h
   .exact hX k (h8 k h).1
   .left;have:=hb.size;omega
  refine⟨ev,E',rfl,⟨K.os.trans hb.os,K.tape.trans hb.tape,K.output.trans hb.output,XV hb.size K.size,λb2 aC jZ=>?_,λb2 o hi=>?_,λb2 o hi=>XP (hb.dR b2 o hi) K.size,hb.cC,λb2 j hO=>?_,⟨hb.cL.β,hb.cL.τ,hb.cL.ζ⟩⟩,λk hk=>?_,pK E'⟩
  .rw[sF b2 (by have:=hb.size;omega) (λj hj e=>?_)]
   .exact hb.dZ b2 aC jZ
   .subst e
    rcases hX b2 hj with h|h
    .omega
    .exact jZ h
  .obtain⟨i1,i2⟩:=hb.I0 b2 o hi
   exact⟨i1,by rw[aN b2 o i1];exact i2⟩
  .have hO:(if v'.ownBlock=some b2 then some 0 else E.O b2)=some j:=hO
   split at hO
   .rename_i hv
    refine⟨?_,cF b2 hv⟩;cases hl with
    |mN T e s' =>
     obtain⟨_,_,p',hA⟩:=sA;exact (hA.own.lt b2 hv).2
    |gone =>
     have hn:v'.ownBlock=none:=sA;rw[hn]at hv;cases hv
    |_=>exact sA.elim
   .obtain⟨o1,o2⟩:=hb.cR b2 j hO
    exact⟨XP o1 K.size,o2⟩
  .obtain rfl:k=0:=by simpa using hk
   cases hl with
   |mN T e s' =>
    obtain⟨rfl,rfl,p',hA⟩:=sA;have hI:∀g,v'.ownBlock=some g->∀o,¬E.I g o:=by
     intro g hg o hi;rcases K.new g hg with h|h
     .exact (h8 g h).2 o hi
     .have:=hb.dR g o hi;omega
    refine⟨b,p',v',h1,?_,hA.pp,hA.at_,hA.own,hA.ne,h7,λg hg=>⟨?_,hI g hg⟩⟩
    .show (if v'.ownBlock=some b then some 0 else E.O b)=some 0
     rw[QA hA.ne];exact h2
    .show (if v'.ownBlock=some g then some 0 else E.O g)=some 0
     rw[QB hg]
   |gone=>trivial
   |_=>exact sA.elim
 | [],hr=>exact absurd hr.1 (by simp)
theorem KG:Tryz.prog.underlying 225=some (.pointer 5):=by kernel_rfl
theorem zs:Tryz.prog.cellsOf 5=1:=by kernel_rfl
structure Jy(v:Value)(w w':World):Prop where
 os:w'.os=w.os
 tape:w'.tape=w.tape
 output:w'.output=w.output
 size:w.heap.size<=w'.heap.size
 block:∀k,k<w.heap.size->some k≠v.ownBlock->w'.heap[k]?=w.heap[k]?
theorem Jy.drew(v:Value)(w:World):Jy v w w.drew:=⟨rfl,rfl,rfl,QH _,λ_ _ _=>rfl⟩
theorem unsafeString_none(W:World)(q:Option Addr):(Builtin.unsafeString_ #[225,3] 9 #[.pointer q,.int .i64 0]).run Tryz.prog W=.ok (.string .empty) W :=
 Lib.run_unsafeString_none W _ _ _ q
theorem Aaj(b g cap:Nat)(p:Value)(cur:Array Value)(l:List UInt8)(w:World)(h0:l≠[])(iR:w.heap[b]?=some (.cells #[p,.slice (some ⟨g,0,none⟩) l.length cap] 180 (0,0)))(hg:w.heap[g]?=some (.cells cur 5 (0,0)))
  (bW:w.ownsRow 0 5 1 (.slice (some ⟨g,0,none⟩) l.length cap) l.length (Lib.byteCells l)) (qO:l.length<=cap) (eY:cap<=maxLen) (cX:cur.size=cap * 1):
  Calls Tryz.prog 143 #[.pointer (some ⟨b,0,none⟩)] w λe w'=>e=.returned (.string ⟨l.toArray⟩)/\Jy (.slice (some ⟨g,0,none⟩) l.length cap) w w':=by
 have qP:l.length≠0:=by simpa using h0
 have c1:w.drew.cell? ⟨b,1,none⟩=some (.slice (some ⟨g,0,none⟩) l.length cap):=by
  have:w.drew.heap[b]?=some (.cells #[p,.slice (some ⟨g,0,none⟩) l.length cap] 180 (0,0)):=iR;rw[Lib.cell_of_heap this];rfl
 have WM:(Builtin.unsafeSliceData_ #[22] 225 #[.slice (some ⟨g,0,none⟩) l.length cap]).run Tryz.prog w.drew=.ok (.pointer (some ⟨g,0,none⟩)) w.drew :=
  Lib.run_unsafeSliceData_row _ _ _ _ _ _ (by omega)
 have WL:(Builtin.unsafeString_ #[225,3] 9 #[.pointer (some ⟨g,0,none⟩),.int .i64 l.length]).run Tryz.prog w.drew=.ok (.string ⟨l.toArray⟩) (w.drew.freeze ⟨g,0,none⟩ l.length):=by
  refine Lib.run_unsafeString_row w.drew 225 3 9 5 KG zs g cur.size (by have mR:w.drew.heap[g]?=some (.cells cur 5 (0,0)):=hg;simp[World.shape?,mR]) l h0 (by omega) (by unfold maxLen at eY;omega) ?_;intro j x hx;have:=bW.cells (g:=g) rfl j (.int .u8 x.toNat) (by simp[Lib.byteCells,hx]);exact this
 have hfz:Jy (.slice (some ⟨g,0,none⟩) l.length cap) w (w.drew.freeze ⟨g,0,none⟩ l.length):=by
  unfold World.freeze;rw[QA qP];refine⟨rfl,rfl,rfl,by simp,λk hk aY=>?_⟩;simp only[YL];rw[QA (λe=>aY (by rw[<-e];rfl))];rfl
 go_enter Tryz.func143,Tryz.ntmps143
 go_wp2
 go_region
 all_goals (go_wp2;go_ret;exact⟨rfl,hfz⟩)
theorem Adw(b:Nat)(p:Value)(w:World)(iR:w.heap[b]?=some (.cells #[p,.slice none 0 0] 180 (0,0))):
  Calls Tryz.prog 143 #[.pointer (some ⟨b,0,none⟩)] w λe w'=>e=.returned (.string ⟨#[]⟩)/\Jy (.slice none 0 0) w w':=by
 have WL:=unsafeString_none;have c1:w.drew.cell? ⟨b,1,none⟩=some (.slice none 0 0):=by
  have:w.drew.heap[b]?=some (.cells #[p,.slice none 0 0] 180 (0,0)):=iR;rw[Lib.cell_of_heap this];rfl
 have WM:(Builtin.unsafeSliceData_ #[22] 225 #[.slice none 0 0]).run Tryz.prog w.drew=.ok (.pointer none) w.drew:=rfl
 go_enter Tryz.func143,Tryz.ntmps143
 go_wp2
 go_region
 all_goals (go_wp2;go_ret;exact⟨rfl,Jy.drew _ w⟩)
theorem Aak(b g cap:Nat)(p:Value)(w:World)(mL:cap≠0)(iR:w.heap[b]?=some (.cells #[p,.slice (some ⟨g,0,none⟩) 0 cap] 180 (0,0))):
  Calls Tryz.prog 143 #[.pointer (some ⟨b,0,none⟩)] w λe w'=>e=.returned (.string ⟨#[]⟩)/\Jy (.slice (some ⟨g,0,none⟩) 0 cap) w w':=by
 have WL:=unsafeString_none;have c1:w.drew.cell? ⟨b,1,none⟩=some (.slice (some ⟨g,0,none⟩) 0 cap):=by
  have:w.drew.heap[b]?=some (.cells #[p,.slice (some ⟨g,0,none⟩) 0 cap] 180 (0,0)):=iR;rw[Lib.cell_of_heap this];rfl
 have WM:(Builtin.unsafeSliceData_ #[22] 225 #[.slice (some ⟨g,0,none⟩) 0 cap]).run Tryz.prog w.drew=.ok (.pointer (some ⟨g,0,none⟩)) w.drew :=
  Lib.run_unsafeSliceData_row _ _ _ _ _ _ mL
 clear mL
 go_enter Tryz.func143,Tryz.ntmps143
 go_wp2
 go_region
 all_goals (go_wp2;go_ret;exact⟨rfl,Jy.drew _ w⟩)
theorem V6(b g:Nat)(p:Value)(cur:Array Value)(w:World)(iR:w.heap[b]?=some (.cells #[p,.slice (some ⟨g,0,none⟩) 0 0] 180 (0,0)))(hg:w.heap[g]?=some (.cells cur 5 (0,0))):
  Calls Tryz.prog 143 #[.pointer (some ⟨b,0,none⟩)] w λe w'=>e=.returned (.string ⟨#[]⟩)/\Jy (.slice (some ⟨g,0,none⟩) 0 0) w w':=by
 have WL:=unsafeString_none;have aC:b<w.heap.size:=by
  rcases ZJ b w.heap.size with h'|h'
  .exact h'
  .simp[Array.getElem?_eq_none h']at iR
 have c1:w.drew.cell? ⟨b,1,none⟩=some (.slice (some ⟨g,0,none⟩) 0 0):=by
  have:w.drew.heap[b]?=some (.cells #[p,.slice (some ⟨g,0,none⟩) 0 0] 180 (0,0)):=iR;rw[Lib.cell_of_heap this];rfl
 have WM:(Builtin.unsafeSliceData_ #[22] 225 #[.slice (some ⟨g,0,none⟩) 0 0]).run Tryz.prog w.drew=.ok (.pointer (some ⟨w.drew.heap.size,0,none⟩)) (w.drew.alloc (.view ⟨g,0,none⟩ 5)) :=
  Lib.run_unsafeSliceData_zero w.drew _ _ 5 KG ⟨g,0,none⟩ 0 (5,cur.size) (by have mR:w.drew.heap[g]?=some (.cells cur 5 (0,0)):=hg;simp[World.shape?,mR])
 have c2:(w.drew.alloc (.view ⟨g,0,none⟩ 5)).cell? ⟨b,1,none⟩=some (.slice (some ⟨g,0,none⟩) 0 0):=by
  have:(w.drew.alloc (.view ⟨g,0,none⟩ 5)).heap[b]?=_:=(Lib.alloc_old w.drew _ b aC).trans iR;rw[Lib.cell_of_heap this];rfl
 have c3:(w.alloc (.view ⟨g,0,none⟩ 5)).drew.cell? ⟨b,1,none⟩=some (.slice (some ⟨g,0,none⟩) 0 0):=c2;have c0:w.cell? ⟨b,1,none⟩=some (.slice (some ⟨g,0,none⟩) 0 0):=c1;have hk:Jy (.slice (some ⟨g,0,none⟩) 0 0) w (w.alloc (.view ⟨g,0,none⟩ 5)).drew:=⟨rfl,rfl,rfl,by show w.heap.size<=(w.heap.push _).size;simp,λk hk _=>Lib.alloc_old w _ k hk⟩
 go_enter Tryz.func143,Tryz.ntmps143
 go_wp2
 go_region
 all_goals (go_wp2;go_ret;exact⟨rfl,hk⟩)
theorem Jy.b{v:Value}{b:Nat}{w w':World}(h:Jy v w w'):Anm b v .nilIface w w' :=
 ⟨h.os,h.tape,h.output,h.size,λk h1 _ h3=>h.block k h1 h3,λk hk=>by simp[Value.ownBlock]at hk⟩
theorem Adv(b:Nat)(p v:Value)(s:List UInt8)(w:World)(A:Anl w b p v s):
  Calls Tryz.prog 143 #[.pointer (some ⟨b,0,none⟩)] w λe w'=>e=.returned (.string (Sx.bytes s))/\Jy v w w':=by
 have bW:=A.own;have iR:=A.at_;rcases bW.2 with⟨rfl,h0⟩|⟨g,cap,cur,rfl,_,hg,qO,eY,cX,_⟩
 .obtain rfl:s=[]:=XN h0
  exact Adw b p w iR
 .by_cases h0:s=[]
  .subst h0
   by_cases hc:cap=0
   .subst hc;exact V6 b g p cur w iR hg
   .exact Aak b g cap p w hc iR
  .exact Aaj b g cap p cur s w h0 iR hg bW qO eY cX
def PE:aB:=λ_ xs ls K=>∃(s:List UInt8),xs=[.ptr 0 0]/\ls=[.mN 180 5 s]/\K (.str s) [.gone]
theorem Ahs:Ap Tryz.prog gl 143 PE:=by
 refine⟨⟨Tryz.f143,_,Tryz.func143,rfl,by kernel_rfl⟩,λxs ls K h=>?_⟩;obtain⟨s,rfl,rfl,h⟩:=h;refine⟨_,_,h,Rv (as1:=[]) λE b p v w aX A hr=>?_⟩;obtain rfl:aX=[]:=XN (by have:=hr.1;simpa using this.symm);refine (Adv b p v s w A).mono ?_;rintro e w' ⟨rfl,k⟩;exact⟨_,.nilIface,rfl,λE=>.ro (.str rfl),k.b,rfl⟩
theorem LQ:Tryz.prog.underlying 9=some .string:=by kernel_rfl
theorem zt:∃i,Tryz.prog.info? 5=some i/\i.zero=some (.int .u8 0)/\i.size=1/\i.bytes=1:=by
 obtain⟨i,hi,h⟩:=Option.map_eq_some_iff.1 KJ;simp only[Prod.mk.injEq]at h;exact⟨i,hi,h.1,h.2.1,h.2.2⟩
theorem fz{w:World}(bW:w.ownsRow 0 5 1 v n xs)(s:ByteArray)(hb:n+s.size<=140737488355328):
  ∃v' w',(Builtin.append_ #[22,9] 22 #[v,.string s]).run Tryz.prog w=.ok v' w'/\w'.ownsRow 0 5 1 v' (n+s.size) (xs++Lib.strCells s)/\w.grownBy w' v.ownBlock/\(v'.ownBlock=v.ownBlock\/v'.ownBlock=some w.heap.size):=by
 obtain⟨i,hi,hz,cA,lF⟩:=zt;have qE:n+s.size<=maxLen:=by unfold maxLen;omega
 obtain⟨v',w',hr,h2,h3,_⟩:=Lib.run_append_own_string (P:=Tryz.prog) w 0 22 9 22 5 i Vm LQ hi hz cA lF v n xs bW s qE hb (ZB _);refine⟨v',w',hr,h2,h3,?_⟩;have mB:xs.length=n:=by simpa using bW.1
 rcases bW.2 with⟨rfl,rfl⟩|⟨g,cap,cur,rfl,WJ,hg,qO,eY,cX,bT⟩
 .by_cases hm:s.size=0
  .have hf:=Lib.run_firstCells_string (P:=Tryz.prog) w 1 s
   rw[hm]at hf;simp[Builtin.append_,run_underlying Vm,run_underlying LQ,sizeOf,typeInfo,hi,cA,Builtin.lenOf,hm,hf]at hr
   left;rw[<-hr.1]
  .have cO:=run_append_nil_string (P:=Tryz.prog) w 22 9 22 5 i (.int .u8 0) Vm LQ hi hz s (by omega) (by unfold maxLen at qE;omega) (by rw[lF];omega)
   rw[hr]at cO
   injection cO with e1 e2
   right;rw[e1];rfl
 .by_cases iI:n+s.size<=cap
  .have lk:cur.size=cap:=by simpa using cX
   have cO:=Lib.run_append_room_string (P:=Tryz.prog) w 22 9 22 5 i Vm LQ hi cA g n cap cur hg s iI (by omega);rw[hr]at cO
   injection cO with e1 e2
   left;rw[e1];rfl
  .have holds:∀j u,xs[j]?=some u->w.cell? ((⟨g,0,none⟩:Addr).add j)=some u:=bW.cells (g:=g) rfl
   have cO:=Lib.run_append_grow_string (P:=Tryz.prog) w 22 9 22 5 i (.int .u8 0) Vm LQ hi hz ⟨g,0,none⟩ n cap xs (by rw[cA];simpa using mB) holds s (by omega) (by unfold maxLen at qE;omega) (by rw[lF];exact growslice_fits (by omega) (by omega));rw[hr]at cO
   injection cO with e1 e2
   right;rw[e1];rfl
theorem fj{ops:Array Oper}{rest:List Oper}{o:Oper}{a:Act}{w:World}{Q:Exit->Act->World->Prop}(uD:o.guard=none)(sl x:Operand)
  (ho:o.op=.call { callee:=.builtin .append,args:=#[sl,x],argTypes:=#[22,9] }) (hty:o.type=22)    (hs:a.eval sl=v) (bW:w.ownsRow 0 5 1 v n xs) (s:ByteArray) (hx:a.eval x=.string s) (hb:n+s.size<=140737488355328)
  (h:∀v' w',w'.ownsRow 0 5 1 v' (n+s.size) (xs++Lib.strCells s)->w.grownBy w' v.ownBlock->(v'.ownBlock=v.ownBlock\/v'.ownBlock=some w.heap.size)->wpList Tryz.prog ops Q rest (a.put o.dst v') w'):wpList Tryz.prog ops Q (o :: rest) a w:=by
 refine wpList_plain uD λK hK=>?_;obtain⟨v',w',hr,h2,h3,h4⟩:=fz bW s hb;unfold Oper.wp execOp;simp only[ho,hty,resolve,invoke,builtin,Sem.run_bind,Sem.run_pure,Result.andThen_ok,List.map_toArray,UV,List.map_nil,hs,hx,hr];exact hK _ _ (h v' w' h2 h3 h4)
theorem Ry(b:Nat)(p v:Value)(s t:List UInt8)(w:World)(iR:w.heap[b]?=some (.cells #[p,v] 180 (0,0)))(hp:p=.pointer none\/p=.pointer (some ⟨b,0,none⟩))(bW:w.ownsRow 0 5 1 v s.length (Lib.byteCells s))(aY:v.ownBlock≠some b)(hlen:s.length+t.length<=140737488355328):
  Calls Tryz.prog 142 #[.pointer (some ⟨b,0,none⟩),.string (Sx.bytes t)] w λe w'=>e=.returned (.tuple #[.int .i64 t.length,.nilIface])/\∃v',w'.heap[b]?=some (.cells #[.pointer (some ⟨b,0,none⟩),v'] 180 (0,0))/\w'.ownsRow 0 5 1 v' (s.length+t.length) (Lib.byteCells s++Lib.strCells (Sx.bytes t))/\v'.ownBlock≠some b/\Anm b v v' w w':=by
 have RZ:(Sx.bytes t).size=t.length:=rfl
 go_enter Tryz.func142,Tryz.ntmps142
 go_wp2_with (go_at_call 196;refine (Wv b p v s _ iR hp bW aY).mono ?_)
 rintro e w1 ⟨rfl,lr,GR,k1,k2,k3,k4,k5⟩;have c0:w1.cell? ⟨b,0,none⟩=some (.pointer (some ⟨b,0,none⟩)):=by rw[Lib.cell_of_heap lr];rfl
 have c1:w1.cell? ⟨b,1,none⟩=some v:=by rw[Lib.cell_of_heap lr];rfl
 go_wp2_with (at_builtin;refine fj (v:=v) (n:=s.length) (xs:=Lib.byteCells s) rfl _ _ rfl rfl rfl GR (Sx.bytes t) rfl (by rw[RZ];exact hlen) ?_)
 intro v' w2 qw hg fW;have aC:b<w1.heap.size:=by
  rcases ZJ b w1.heap.size with h'|h'
  .exact h'
  .simp[Array.getElem?_eq_none h']at lr
 have hold:∀k,k<w1.heap.size->some k≠v.ownBlock->w2.heap[k]?=w1.heap[k]?:=λk hk mE=>hg.block k hk mE;have bB:w1.heap.size<=w2.heap.size:=hg.size;have eW:w2.os=w1.os/\w2.tape=w1.tape/\w2.output=w1.output:=⟨hg.os,hg.tape,hg.output⟩;have mE:v'.ownBlock≠some b:=by
  rcases fW with h|h
  .rw[h];exact aY
  .rw[h];intro e;simp at e;omega
 have fX:w2.heap[b]?=some (.cells #[.pointer (some ⟨b,0,none⟩),v] 180 (0,0)):=by rw[hold b aC (λe=>aY e.symm)];exact lr
 have d0:w2.cell? ⟨b,0,none⟩=some (.pointer (some ⟨b,0,none⟩)):=by rw[Lib.cell_of_heap fX];rfl
 have d1:w2.cell? ⟨b,1,none⟩=some v:=by rw[Lib.cell_of_heap fX];rfl
 have f1:w2.frozen? ⟨b,1,none⟩=false:=Lib.frozen_of_heap fX 1;have mD:∀k,v'.ownBlock=some k->v.ownBlock=some k\/w.heap.size<=k:=by
  intro k hk;rcases fW with h|h
  .left;rw[<-h];exact hk
  .right;rw[h]at hk;simp at hk;omega
 obtain⟨v2,iQ⟩:∃v2,v2=v':=⟨_,rfl⟩;have aw:∃a c,v'=.slice a (s.length+t.length) c:=by
  rcases qw.2 with⟨h,h2⟩|⟨g,cap,cur,h,_⟩
  .have h2:s.length+t.length=0:=h2
   rw[h,h2];exact⟨_,_,rfl⟩
  .exact⟨_,_,h⟩
 obtain⟨ao,co,rfl⟩:=aw
 go_wp2
 go_ret2
 refine⟨by simp,_,by simp[World.setCell,YL,fX],?_,mE,⟨?_,?_,?_,by simp[World.setCell];omega,λk h1 h2 h3=>?_,mD⟩⟩
 .exact qw.kept (row:=some b) ⟨rfl,rfl,rfl,by simp[World.setCell],λk _ hk=>RowKit.Below.heap_setCell _ _ _ _ (λe=>hk (by simp[e]))⟩ (Or.inr mE)
 .exact eW.1.trans k1
 .exact eW.2.1.trans k2
 .exact eW.2.2.trans k3
 .rw[RowKit.Below.heap_setCell _ _ _ _ (λe=>h2 (by simp[e])),hold k (by omega) h3]
  exact k5 k h2
def PD:aB:=λ_ xs ls K=>∃(s t:List UInt8),xs=[.ptr 0 0,.str t]/\ls=[.mN 180 5 s]/\s.length+t.length<=140737488355328/\∀r n,r=s++t->n=(t.length:Int)->K (.aJ [.int .i64 (.a n),.raw .nilIface]) [.mN 180 5 r]
theorem S4:Ap Tryz.prog gl 142 PD:=by
 refine⟨⟨Tryz.f142,_,Tryz.func142,rfl,by kernel_rfl⟩,λxs ls K h=>?_⟩;obtain⟨s,t,rfl,rfl,hs,h⟩:=h;refine⟨_,_,h _ _ rfl rfl,Rv λE b p v w aX A hr=>?_⟩;obtain⟨u,rfl,hu⟩:=Oh hr;rw[Cr hu];refine (Ry b p v s t w A.at_ A.pp A.own A.ne hs).mono ?_;rintro e w' ⟨rfl,v',k1,k2,k3,k4⟩;refine⟨_,v',rfl,λE=>?_,k4,rfl,rfl,_,.inr rfl,k1,?_,k3⟩
 .refine .aJ rfl λi x y a b=>?_
  match i,a,b with
  |0,a,b=>cases a;cases b;exact .ro (.int rfl)
  |1,a,b=>cases a;cases b;exact .ro (.raw rfl)
 .have:Lib.byteCells (s++t)=Lib.byteCells s++Lib.strCells (Sx.bytes t):=by simp[Lib.byteCells,Lib.strCells,Sx.bytes]
  rw[this,QF];exact k2
open Go Go.Sx
set_option maxHeartbeats 16000000
def Rc(x:HF):List UInt8:=((x.name++[58,32])++x.value)++[13,10]
def Lq(l:List HF):List UInt8:=l.flatMap Rc++[13,10]
def Iw(l:List HF):List UInt8×Int:=if Bb l≠0 then ([],Bb l) else (Lq l,0)
theorem Ph:∀ {l:List HF} {n:Int},Ft l n=0->∀x∈l,x.name.length<=64/\x.value.length<=2000
 | [],_,_,x,hx=>by cases hx
 |y :: l,n,h,x,hx=>by
  unfold Ft at h
  split at h
  .cases h
  .rename_i hb
   split at h
   .cases h
   .rename_i hv
    rcases List.mem_cons.1 hx with rfl|hx
    .refine⟨?_,by omega⟩
     have hb:Zw x=false:=by simpa using hb
     unfold Zw at hb;simp only[XC,ZO]at hb;have:=hb.1;unfold Ca at this;simp only[QE,QJ]at this;exact this.2.2
    .exact Ph h x hx
theorem Pi(h:Bb l=0):∀x∈l,x.name.length<=64/\x.value.length<=2000:=by
 unfold Bb at h
 split at h
 .cases h
 .exact Ph h
def vR:aB:=λ_ xs ls K=>∃(l:List HF) (nl:Bool) (n:Int) (f:Nat->List SV),xs=[.sl (.a nl) (.a n) 2 f]/\ls=[]/\A5 f n l/\∀t e,(t,e)=Iw l->K (.aJ [.str t,.int .i64 (.a e)]) []
structure PrJ(l:List HF)(k t:List UInt8)(i:Nat)(I:Int)(m:Nat):Prop where
 bY:AtR l i I m
 k:k=t++Lq (l.drop i)
 len:t.length<=3000 * i
def prJ(l:List HF)(k:List UInt8)(nl:Bool)(n:Int)(f:Nat->List SV)(m:Nat)(vs:List (Option SV))(hp:List Hl):Prop :=
 ∃(t:List UInt8) (i:Nat) (I:Int),vs=[some (.ptr 0 0),some (.sl (.a nl) (.a n) 2 f),some (.int .i64 (.a n)),some (.int .i64 (.a I))]/\hp=[.mN 180 5 t]/\PrJ l k t i I m
theorem Ak6:Ap Tryz.prog gl 86 vR:=by
 refine Bv (gh:=[(4,[.mN 5 5])]) mixed Ck (Ab H0 (Ab S4 (Ab Ahs Ae))) Tryz.func86 (by kernel_rfl) (by kernel_rfl) ?_;intro xs ls K h;unfold vR at h;obtain⟨l,nl,n,f,rfl,rfl,R,h⟩:=h;obtain⟨k,hk⟩:∃k,k=Iw l:=⟨_,rfl⟩;obtain⟨kt,ke⟩:=k;refine⟨_,_,h kt ke hk,λD hD=>?_⟩;clear h;unfold Iw at hk;obtain⟨J,hJ⟩:∃J,J=prJ l kt nl n f:=⟨_,rfl⟩;cbv;refine⟨l,_,_,f,rfl,rfl,by subst hD;exact R,λe he=>?_⟩;cbv;have NL:=Pi (l:=l);have qS:=Dz (l:=l);rw[<-he]at hk NL qS;clear he;refine br hD (λh=>?_) (λh=>?_)<;>cbv
 .have h1:e≠0:=by simpa using h
  rw[QB h1]at hk;simp only[Prod.mk.injEq]at hk;obtain⟨eQ,dA⟩:=hk;subst eQ dA;subst hD;exact Bt rfl rfl
 have h1:e=0:=by simpa using h
 rw[QA (by simp[h1])]at hk;simp only[Prod.mk.injEq]at hk;obtain⟨eQ,dA⟩:=hk;have NL:=NL h1;have qS:=qS h1;clear h;refine⟨[5,13,14,15],J,⟨rfl,l.length,?_⟩,?_⟩
 .rw[hJ]
  subst hD;exact⟨[],0,0,rfl,rfl,AtR.zero R.len,eQ,by simp⟩
 clear eQ;intro m vs hp hj;rw[hJ]at hj;obtain⟨t,i,I,rfl,rfl,V⟩:=hj;cbv;refine br hD (λh=>?_) (λh=>?_)<;>cbv
 .have aC:=V.bY.lt R.n (QT (p:=I<n) h)
  clear h;refine⟨V.bY.fS hD R.n aC,λj hj=>?_⟩;obtain rfl:=V.bY.j hD hj;clear hj;have e1:=R.f j aC;have eF:=NL (l.getD j default) (by rw[QD,QC aC];exact XL aC);have aZ:=V.k;have hlen:=V.len;rw[Hb (d:=default) aC]at aZ;obtain⟨x,hx⟩:∃x,x=l.getD j default:=⟨_,rfl⟩;rw[<-hx]at e1 aZ eF;obtain⟨a,b⟩:=x;simp only at eF;cbv;rw[e1];cbv;refine⟨⟨by simp only[QG,QU];omega⟩,λs1 cA=>?_⟩;cbv;have cA:s1=a++[58,32]:=cA.h;have l1:s1.length<=66:=by rw[cA];simp;omega
  refine⟨⟨by omega⟩,λs2 eH=>?_⟩;cbv;have eH:s2=s1++b:=eH.h;have l2:s2.length<=2066:=by rw[eH];simp;omega
  refine⟨⟨by simp only[QG,QU];omega⟩,λs3 sT=>?_⟩;cbv;have sT:s3=s2++[13,10]:=sT.h;have l3:s3.length<=2068:=by rw[sT];simp;omega
  have sD:s3=Rc ⟨a,b⟩:=by rw[sT,eH,cA];rfl
  clear cA eH sT;refine⟨t,s3,rfl,rfl,by omega,λr nn hr gC=>?_⟩;cbv;obtain⟨g1,g2⟩:=V.bY.step hD aC;refine⟨_,g1,?_⟩;rw[hJ];unfold prJ;subst hD;refine⟨r,j+1,_,rfl,rfl,g2,?_,?_⟩
  .rw[aZ,hr,sD];simp[Lq]
  .rw[hr,QF];omega
 .have hi:=V.bY.eq R.n (QW (p:=I<n) h)
  have aZ:=V.k;have hlen:=V.len;rw[hi,XQ]at aZ;clear h;refine⟨t,[13,10],rfl,rfl,by simp only[QG,QU];omega,λr nn hr gC=>?_⟩;cbv;have lO:r=kt:=by rw[hr,aZ];rfl
  refine⟨r,rfl,rfl,?_⟩;cbv;rw[lO,dA];subst hD;exact Bt rfl rfl
set_option maxHeartbeats 4000000
def gn:List UInt8:=[32,72,84,84,80,47,49,46,49,13,10]
def Bw(r:Rq):List UInt8×Int :=
 if (Bm r).2.2≠0 then ([],(Bm r).2.2) else if (Iw (Bm r).2.1).2≠0 then ([],(Iw (Bm r).2.1).2) else
 (((((r.method++[32])++r.target)++gn)++(Iw (Bm r).2.1).1)++r.body,0)
structure AM(r:Rq):Prop where
 method:Ge r.method=true
 org:(tz r.target).2=0
 chk:(B4 r).2=0
 host:MH r.host=true
 body:r.body.length<=65536
 fields:(Bm r).2.1=(B4 r).1
 BU:1<=r.id
 BS:r.id<=1000000000
 part:(Bm r).1=[]
theorem Ij{r:Rq}(h:(Bm r).2.2=0):AM r:=by
 have h0:=h;unfold Bm at h
 split at h
 .cases h
 .rename_i g1
  split at h
  .cases h
  .rename_i g2
   split at h
   .cases h
   .rename_i g3
    split at h
    .rename_i g4;exact absurd h g4
    .rename_i g4
     split at h
     .cases h
     .rename_i g5
      split at h
      .rename_i g6;exact absurd h g6
      .rename_i g6
       split at h
       .cases h
       .rename_i g7
        split at h
        .cases h
        .rename_i g8
         refine⟨by simpa using g2,by simpa using g4,by simpa using g6,by simpa using g5,by omega,?_,by omega,by omega,?_⟩
         .unfold Bm
          rw[QA g1,QA g2,QA g3,QA g4,QA g5,QA g6,QA g7,QA g8]
         .unfold Bm
          rw[QA g1,QA g2,QA g3,QA g4,QA g5,QA g6,QA g7,QA g8]
theorem AM.nG{r:Rq}(E:AM r):r.method.length<=16:=by
 have:=E.method;unfold Ge at this;simp only[QE,QJ]at this;exact this.1
theorem Aex(h:∀x∈l,x.name.length<=64/\x.value.length<=2000):(Lq l).length<=3000 * l.length+2:=by
 have:(l.flatMap Rc).length<=3000 * l.length:=by
  induction l with
  |nil=>simp
  |cons x l ih =>
   have h1:=h x (XA ..);have h2:=ih λy hy=>h y (XB _ hy);simp only[List.flatMap_cons,QF,QG,Rc,QU];omega
 unfold Lq;simp only[QF,QG,QU];omega
theorem Aek:(Iw l).1.length<=400000:=by
 unfold Iw
 split
 .simp
 .rename_i h
  have h:Bb l=0:=by simpa using h
  have h1:=Aex (Pi h);have h2:=Dz h;simp only;omega
def pb:aB:=λ_ xs ls K=>∃(r:Rq) (nl:Bool) (n:Int) (f:Nat->List SV),xs=[.agg [.int .i64 (.a r.id),.str r.method,.str r.target,.str r.host,.sl (.a nl) (.a n) 2 f,.str r.body]]/\ls=[]/\Pn r nl n f/\
 ∀t e,(t,e)=Bw r->K (.aJ [.str t,.int .i64 (.a e)]) []
theorem X5:Ap Tryz.prog qT 90 pb:=by
 refine Bv (gh:=[]) mixed Ck (Ab mw (Ab (Df Ak6) Ae)) Tryz.func90 (by kernel_rfl) (by kernel_rfl) ?_;intro xs ls K h;unfold pb at h;obtain⟨r,nl,n,f,rfl,rfl,R,h⟩:=h;obtain⟨k,hk⟩:∃k,k=Bw r:=⟨_,rfl⟩;obtain⟨kt,ke⟩:=k;refine⟨_,_,h kt ke hk,λD hD=>?_⟩;clear h;unfold Bw at hk;have hE:=Ij (r:=r);have hM:(Bm r).2.2=0->r.method.length<=16:=λh=>(hE h).nG;have hT:(Bm r).2.2=0->r.target.length<=500:=λh=>Abd (hE h).org;have hB:(Bm r).2.2=0->r.body.length<=65536:=λh=>(hE h).body;clear hE;obtain⟨ck,CE⟩:∃w,w=Bm r:=⟨_,rfl⟩;rw[<-CE]at hk hM hT hB;obtain⟨cp,cl,ce⟩:=ck;obtain⟨id,me,ta,ho,fs,bo⟩:=r;simp only at hk hM hT hB;cbv;refine⟨⟨id,me,ta,ho,fs,bo⟩,nl,n,f,by subst hD;rfl,rfl,R,λp l e PX n3 g3 hc R3 uA=>?_⟩;cbv;rw[<-CE]at hc;simp only[Prod.mk.injEq]at hc;obtain⟨eQ,dA,oN⟩:=hc;subst eQ dA oN;clear CE;refine br hD (λh=>?_) (λh=>?_)<;>cbv
 .have h1:e≠0:=by simpa using h
  rw[QB h1]at hk;simp only[Prod.mk.injEq]at hk;obtain⟨eQ,dA⟩:=hk;subst eQ dA;subst hD;exact Bt rfl rfl
 have h1:e=0:=by simpa using h
 rw[QA (by simp[h1])]at hk;have hM:=hM h1;have hT:=hT h1;have hB:=hB h1;clear h;refine⟨l,_,_,g3,rfl,rfl,by subst hD;exact R3,λt e2 ht=>?_⟩;cbv;have hPl:=Aek (l:=l);rw[<-ht]at hk hPl;simp only at hk hPl;clear ht;refine br hD (λh=>?_) (λh=>?_)<;>cbv
 .have h1:e2≠0:=by simpa using h
  rw[QB h1]at hk;simp only[Prod.mk.injEq]at hk;obtain⟨eQ,dA⟩:=hk;subst eQ dA;subst hD;exact Bt rfl rfl
 have h1:e2=0:=by simpa using h
 rw[QA (by simp[h1])]at hk;simp only[Prod.mk.injEq]at hk;obtain⟨eQ,dA⟩:=hk;clear h;refine⟨⟨by simp only[QG,QU];omega⟩,λs1 cA=>?_⟩;cbv;have cA:s1=me++[32]:=cA.h;have l1:s1.length<=17:=by rw[cA];simp;omega
 refine⟨⟨by omega⟩,λs2 eH=>?_⟩;cbv;have eH:s2=s1++ta:=eH.h;have l2:s2.length<=517:=by rw[eH];simp;omega
 refine⟨⟨by simp only[QG,QU];omega⟩,λs3 sT=>?_⟩;cbv;have sT:s3=s2++gn:=sT.h;have l3:s3.length<=528:=by rw[sT,QF];have:gn.length=11:=rfl;omega
 refine⟨⟨by omega⟩,λs4 xF=>?_⟩;cbv;have xF:s4=s3++t:=xF.h;have l4:s4.length<=400528:=by rw[xF,QF];omega
 refine⟨⟨by omega⟩,λs5 SK=>?_⟩;cbv;have SK:s5=s4++bo:=SK.h;have:s5=kt:=by rw[SK,xF,sT,eH,cA,eQ]
 rw[this,dA];subst hD;exact Bt rfl rfl
instance:DecidableEq HF:=λa b=>decidable_of_iff (a.name=b.name/\a.value=b.value) (by cases a;cases b;simp)
instance:DecidableEq Rq:=λa b=>decidable_of_iff (a.id=b.id/\a.method=b.method/\a.target=b.target/\a.host=b.host/\a.fields=b.fields/\a.body=b.body) (by cases a;cases b;simp)
set_option maxHeartbeats 8000000
set_option maxHeartbeats 16000000
set_option maxHeartbeats 8000000
set_option maxHeartbeats 16000000
set_option maxHeartbeats 8000000
def Do(l:List HF)(t:List UInt8):List (List UInt8):=(l.filter λx=>bG x.name==t).map HF.value
theorem Ahn(x:HF)(l:List HF)(t:List UInt8):Do (x :: l) t=if bG x.name==t then x.value :: Do l t else Do l t:=by
 unfold Do;rw[UN]
 split<;>simp
theorem S7(l:List HF)(t:List UInt8):(Do l t).length<=l.length:=by
 unfold Do;rw[XW];exact YX ..
def ni(c:Int):Bool:=decide (48<=c)&&decide (c<=57)
set_option maxHeartbeats 400000
set_option maxHeartbeats 8000000
def Qo(s:List UInt8):Bool:=s.all λb=>ni (b.toNat:Int)
theorem Ams(t:List UInt8):(Lib.trimS t AX=[])↔Qo t=true:=by
 unfold Qo;rw[List.all_eq_true];have e:∀c:UInt8,AX.contains c=ni (c.toNat:Int):=λc=>by
  rw[XX,zj];unfold ni;simp only[QE,QJ];omega
 constructor
 .intro h c hc
  rw[<-e];exact Ahp h c hc
 .intro h
  show ((t.reverse.dropWhile (λx=>AX.contains x)).reverse).dropWhile (λx=>AX.contains x)=[];rw[dropWhile_nil];intro x hx;have hx:=List.mem_reverse.1 hx;have hx:x∈t.reverse:=(List.dropWhile_suffix _).subset hx;rw[e];exact h x (List.mem_reverse.1 hx)
set_option maxHeartbeats 16000000
def W4:Nat->List UInt8->Nat
 |acc,[]=>acc
 |acc,c :: r=>if c=45 then W4 acc r else W4 (acc * 10+(c.toNat-48)) r
theorem Afg(h:Qo s=true):∀c∈s,48<=c.toNat/\c.toNat<=57:=λc hc=>by
 have:=List.all_eq_true.1 h c hc;unfold ni at this;simp only[QE,QJ]at this;omega
set_option maxHeartbeats 4000000
set_option maxHeartbeats 16000000
theorem Agv(b:List UInt8):∀(m p:Nat) (r:List HF),p<=b.length->(∀x∈r,x.value.length<=2000)->
  (∀x∈(kK b m p r).1,x.value.length<=2000)/\0<=(kK b m p r).2.1/\(kK b m p r).2.1<=b.length
 |0,p,r,_,_=>⟨λx hx=>by simp[kK]at hx,by simp[kK],by simp[kK]⟩
 |m+1,p,r,hp,hs=>by
  have h0:∀z:Int,(∀x∈(([],0,z):List HF×Int×Int).1,x.value.length<=2000)/\0<=(([],0,z):List HF×Int×Int).2.1/\(([],0,z):List HF×Int×Int).2.1<=(b.length:Int):=λz=>⟨λx hx=>(nomatch hx),by simp,by simp⟩;have hi:=Mi (s:=b.drop p) (c:=10);rw[QY]at hi;unfold kK
  split
  .exact h0 _
  split
  .exact h0 _
  rename_i hn;have UZ:=hi.2 (by omega)
  split
  .exact h0 _
  split
  .exact⟨hs,by show 0<=(p:Int)+_+1;omega,by show (p:Int)+_+1<=_;omega⟩
  split
  .exact h0 _
  split
  .exact h0 _
  rename_i h;simp only[XR,QJ,not_or]at h;obtain⟨h1,h2⟩:=h;refine Agv b m _ _ (by omega) λx hx=>?_;rcases List.mem_append.1 hx with hx|hx
  .exact hs x hx
  .have hx:=List.mem_singleton.1 hx
   subst hx;show (trimF _).length<=_;omega
theorem Ae1(b:List UInt8):(∀x∈(A7 b).1,x.value.length<=2000)/\0<=(A7 b).2.1/\(A7 b).2.1<=b.length:=Agv b _ 0 [] (by omega) (λx hx=>by cases hx)
def PG:Rq:=⟨0,[],[],[],[],[]⟩
set_option maxHeartbeats 4000000
set_option maxHeartbeats 400000
set_option maxHeartbeats 8000000
theorem Ac8{r:Rq}(h:(B4 r).2=0):(Cg r).2=0/\(B4 r).1=(Cg r).1/\Bb (Cg r).1=0/\Bb r.fields=0/\Qx r.fields=false:=by
 unfold B4 at h ⊢
 split at h
 .rename_i g;exact absurd h g
 rename_i g1
 split at h
 .cases h
 rename_i g2
 split at h
 .rename_i g;exact absurd h g
 rename_i g3;rw[QA g1,QA g2,QA g3];exact⟨by simpa using g3,rfl,h,by simpa using g1,by simpa using g2⟩
set_option maxHeartbeats 16000000
set_option maxHeartbeats 40000000
set_option maxHeartbeats 400000
theorem X7(c:UInt8)(s:List UInt8):c ∉ (Bf c s).1/\s=(Bf c s).1++(if (Bf c s).2.2 then c :: (Bf c s).2.1 else [])/\((Bf c s).2.2=false->(Bf c s).2.1=[]):=by
 induction s with
 |nil=>simp[Bf]
 |cons b r ih =>
  rw[show Bf c (b :: r)=if b==c then ([],r,true) else (b :: (Bf c r).1,(Bf c r).2) from rfl]
  by_cases hb:b=c
  .rw[QB (by simpa using hb)];simp[hb]
  .rw[QA (by simpa using hb)]
   obtain⟨h1,h2,h3⟩:=ih;refine⟨?_,?_,h3⟩
   .rw[XS,not_or];exact⟨λe=>hb e.symm,h1⟩
   .show b :: r=b :: ((Bf c r).1++_)
    rw[<-h2]
theorem Ac4{c:UInt8}:∀ {a:List UInt8},c ∉ a->∀b,Bf c (a++c :: b)=(a,b,true)
 | [],_,b=>by simp[Bf]
 |x :: a,h,b=>by
  rw[XS,not_or]at h;show (if x==c then ([],a++c :: b,true) else (x :: (Bf c (a++c :: b)).1,(Bf c (a++c :: b)).2))=_;rw[QA (by simpa using λe=>h.1 e.symm),Ac4 h.2 b]
theorem X8{c:UInt8}:∀ {a:List UInt8},c ∉ a->Bf c a=(a,[],false)
 | [],_=>by simp[Bf]
 |x :: a,h=>by
  rw[XS,not_or]at h;show (if x==c then _ else _)=_;rw[QA (by simpa using λe=>h.1 e.symm),X8 h.2]
structure Ahi(x:HF):Prop where
 name:Ca x.name=true
 plain:D3 x.value=true
 trim:trimF x.value=x.value
 len:x.value.length<=2000
def sn(x:HF):List UInt8:=(x.name++[58,32])++x.value
theorem Alu(x:HF):Rc x=sn x++[13,10]:=rfl
theorem Wr{a u:List UInt8}{j:Nat}(h:j<a.length):(a++u).getD j 0=a.getD j 0:=by
 rw[QD,QM h,<-QD]
theorem Vi:∀(l:List HF) (n:Int),Ft l n=0↔(∀x∈l,Ahi x)/\n+((l.flatMap Rc).length:Int)<=8192
 | [],n=>by
  unfold Ft;simp only[List.flatMap_nil,QU]
  split<;>simp<;>omega
 |x :: l,n=>by
  unfold Ft;have bB:MP x=((Rc x).length:Int):=by
   unfold MP;rw[Alu];unfold sn;simp;omega
  by_cases hb:Zw x=true
  .rw[QB hb]
   constructor
   .intro h;cases h
   .rintro⟨h,_⟩
    have hx:=h x (XA ..);unfold Zw at hb;rw[hx.name,hx.plain,hx.trim]at hb;simp at hb
  .rw[QA hb]
   have hb:Zw x=false:=by simpa using hb
   unfold Zw at hb;simp only[XC,ZO,bne_eq_false_iff_eq]at hb
   by_cases hv:2000<x.value.length
   .rw[QB hv]
    constructor
    .intro h;cases h
    .rintro⟨h,_⟩
     have:=(h x (XA ..)).len;omega
   .rw[QA hv,Vi l,bB,List.flatMap_cons,QF]
    constructor
    .rintro⟨h1,h2⟩
     refine⟨λy hy=>?_,by omega⟩;rcases List.mem_cons.1 hy with rfl|hy
     .exact⟨hb.1,hb.2.1,hb.2.2,by omega⟩
     .exact h1 y hy
    .rintro⟨h1,h2⟩
     exact⟨λy hy=>h1 y (XB _ hy),by omega⟩
theorem Ko(l:List HF):Bb l=0↔l.length<=100/\(∀x∈l,Ahi x)/\(Lq l).length<=8192:=by
 unfold Bb;have hL:(Lq l).length=(l.flatMap Rc).length+2:=by unfold Lq;rw[QF];rfl
 by_cases h:100<l.length
 .rw[QB h]
  constructor
  .intro g;cases g
  .rintro⟨g,_⟩;omega
 .rw[QA h,Vi]
  constructor
  .rintro⟨h1,h2⟩;exact⟨by omega,h1,by omega⟩
  .rintro⟨_,h1,h2⟩;exact⟨h1,by omega⟩
structure qL where
 minor:Int
 status:Int
 reason:List UInt8
 fields:List HF
structure Ch where
 phase:Int
 line:List UInt8
 data:List UInt8
 left:Int
 aE:List HF
structure Rs where
 method:List UInt8
 phase:Int
 infos:Int
 line:List UInt8
 head:qL
 aD:Int
 body:List UInt8
 left:Int
 chunks:Ch
def lZ:qL:=⟨0,0,[],[]⟩
def uP:Ch:=⟨0,[],[],0,[]⟩
def BG(m:List UInt8):Rs:=⟨m,0,0,[],lZ,0,[],0,uP⟩
def Js(s:List UInt8):Int:=if (decide (1<=s.length)&&decide (s.length<=10))&&Qo s then (W4 0 s:Int) else -1
def Hr:List UInt8:=[72,84,84,80,47,49,46]
def uc(w:List UInt8):Bool :=
 decide (13<=w.length)&&(w.take 7==Hr)&&(w.getD 7 0==48||w.getD 7 0==49)&&(w.getD 8 0==32)&&(w.getD 12 0==32)&&D3 (w.drop 13)&&decide (100<=Js ((w.drop 9).take 3))&&decide (Js ((w.drop 9).take 3)<=599)
def ox(w:List UInt8):qL:=⟨((w.getD 7 0).toNat:Int)-48,Js ((w.drop 9).take 3),w.drop 13,[]⟩
def Ar(b:List UInt8):qL×Int×Int :=
 if !(Bf 10 (b.take 302)).2.2 then (lZ,0,if 302<=b.length then 3 else 10) else
 if !(Lib.hasSuffix (Bf 10 (b.take 302)).1 [13]&&uc (Lib.trimSuffix (Bf 10 (b.take 302)).1 [13])) then (lZ,0,6) else
 if (A7 (b.drop ((Bf 10 (b.take 302)).1.length+1))).2.2≠0 then (lZ,0,(A7 (b.drop ((Bf 10 (b.take 302)).1.length+1))).2.2) else
 ({ ox (Lib.trimSuffix (Bf 10 (b.take 302)).1 [13]) with fields:=(A7 (b.drop ((Bf 10 (b.take 302)).1.length+1))).1 },((Bf 10 (b.take 302)).1.length:Int)+1+(A7 (b.drop ((Bf 10 (b.take 302)).1.length+1))).2.1,0)
def B7:List (List UInt8)->Option (List (List UInt8))
 | []=>some []
 |v :: r=>if (A0 v).2=0 then (B7 r).map λl=>(A0 v).1.map bG++l else none
def fD:List UInt8:=[116,114,97,110,115,102,101,114,45,101,110,99,111,100,105,110,103]
def Ja:List UInt8:=[99,104,117,110,107,101,100]
def DY:List UInt8:=[72,69,65,68]
def H3(h:qL):Int:=if (h.minor≠0/\h.minor≠1)\/h.status<100\/599<h.status then 6 else Bb h.fields
def Fl(l:List (List UInt8)):Int×Int :=
 match l with
 | []=>(0,6)
 |x :: r=>if (x :: r).all (λs=>decide (0<=Js s)&&(Js s==Js x)) then (if 65536<Js x then (0,3) else (Js x,0)) else (0,6)
def Yw(m:List UInt8)(st:Int):Bool:=((m==DY||decide (st<200))||st==204)||st==304
def Av(m:List UInt8)(h:qL):Int×Int×Int :=
 if !Ca m then (0,0,2) else if H3 h≠0 then (0,0,H3 h) else
 if Yw m h.status then (0,0,0) else
 if (Do h.fields fD)≠[] then
  (if (Do h.fields iE)≠[]\/h.minor=0\/B7 (Do h.fields fD)≠some [Ja] then (0,0,6) else (2,0,0)) else
 if (Do h.fields iE)≠[] then
  (match B7 (Do h.fields iE) with
   |none=>(0,0,6)
   |some l=>if (Fl l).2=0 then (1,(Fl l).1,0) else (0,0,(Fl l).2)) else (3,0,0)
def E9(c:UInt8):Int:=Fz (c.toNat:Int)
def Fw:List UInt8->Nat->Nat->Nat×Nat
 | [],k,n=>(k,n)
 |c :: r,k,n=>if 0<=E9 c then Fw r (k+1) (16 * n+(E9 c).toNat) else (k,n)
def Ba(l:List UInt8):Nat×Nat:=Fw l 0 0
def Cz(l:List UInt8):Bool:=decide (l≠[])&&(l.getD (l.length-1) 0==13)
def C8(l:List UInt8)(c:UInt8):Int :=
 if Cz l then 6 else
 if c=13 then (if (Ba l).1=0 then 6 else 0) else
 if (Ba l).1=l.length then
  (if 0<=E9 c/\(Ba l).1=8 then 3 else if E9 c<0/\(c≠59\/(Ba l).1=0) then 6 else if 200<=l.length then 3 else 0)
 else if !okB c then 6 else if 200<=l.length then 3 else 0
def L6:List (List UInt8):=[[99,111,110,110,101,99,116,105,111,110],[99,111,110,116,101,110,116,45,108,101,110,103,116,104],[104,111,115,116],[116,114,97,105,108,101,114],fD]
def Wy(l:List HF):Bool:=l.any λx=>BR L6 (bG x.name)
def cJ(s:Ch)(c:UInt8):Ch×Int :=
 if s.phase=0 then
  (if c=10/\Cz s.line=true then
   (if (Ba s.line).2=0 then (⟨3,[],s.data,s.left,s.aE⟩,0) else if 65536<s.data.length+(Ba s.line).2 then (s,3) else (⟨1,[],s.data,(Ba s.line).2,s.aE⟩,0))
   else if C8 s.line c≠0 then (s,C8 s.line c) else (⟨0,s.line++[c],s.data,s.left,s.aE⟩,0))
 else if s.phase=1 then (⟨if s.left-1=0 then 2 else 1,s.line,s.data++[c],s.left-1,s.aE⟩,0)
 else if s.phase=2 then
  (if s.line=[]/\c=13 then (⟨2,[13],s.data,s.left,s.aE⟩,0) else if s.line=[13]/\c=10 then (⟨0,[],s.data,s.left,s.aE⟩,0) else (s,6))
 else
  (if (A7 (s.line++[c])).2.2=10 then (⟨3,s.line++[c],s.data,s.left,s.aE⟩,0) else
   if (A7 (s.line++[c])).2.2≠0 then (s,(A7 (s.line++[c])).2.2) else
   if Wy (A7 (s.line++[c])).1 then (s,6) else
   if Bb (A7 (s.line++[c])).1≠0 then (s,Bb (A7 (s.line++[c])).1) else
   (⟨4,[],s.data,s.left,(A7 (s.line++[c])).1⟩,0))
def Gi(l:List UInt8):Prop:=∀i,i<l.length->C8 (l.take i) (l.getD i 0)=0
instance (l:List UInt8):Decidable (Gi l):=by unfold Gi;exact inferInstance
structure Iz(s:Ch):Prop where
 data:s.data.length<=65536
 left:s.phase=1↔s.left≠0
 oV:s.phase=4\/s.aE=[]
 ph:s.phase=0\/s.phase=1\/s.phase=2\/s.phase=3\/s.phase=4
 p0:s.phase=0->Gi s.line
 p1:s.phase=1->s.line=[]/\1<=s.left/\s.left<=65536-(s.data.length:Int)
 p2:s.phase=2->(s.line=[]\/s.line=[13])/\s.data≠[]
 p3:s.phase=3->(A7 s.line).2.2=10
 p4:s.phase=4->s.line=[]/\Bb s.aE=0/\Wy s.aE=false
theorem Ab4{l:List UInt8}(h:Gi l)(hc:C8 l c=0):Gi (l++[c]):=λi hi=>by
 rw[QF]at hi
 by_cases h1:i<l.length
 .rw[List.take_append_of_le_length (by omega),Wr h1]
  exact h i h1
 .have:i=l.length:=by simp only[QG,QU]at hi;omega
  subst this;rw[US,QD,QO (by omega)];simpa using hc
theorem Ae2:A7 []=([],0,10):=rfl
theorem JU:Iz uP:=⟨by simp[uP],by simp[uP],.inr rfl,.inl rfl,λ_ i hi=>by simp[uP]at hi,λh=>by simp[uP]at h,λh=>by simp[uP]at h,λh=>by simp[uP]at h,λh=>by simp[uP]at h⟩
theorem Qr{s t:Ch}(h:Iz s)(h4:s.phase≠4)(hs:cJ s c=(t,0)):Iz t:=by
 unfold cJ at hs;have an:s.aE=[]:=h.oV.resolve_left h4
 split at hs
 .rename_i h0
  have hl:s.left=0:=by
   rcases Decidable.em (s.left=0) with e|e
   .exact e
   .have:=h.left.2 e;omega
  split at hs
  .split at hs
   .have:=(Prod.mk.inj hs).1;subst this
    exact⟨h.data,by simp[hl],.inr an,by simp,λg=>by simp at g,λg=>by simp at g,λg=>by simp at g,λ_=>by rw[Ae2],λg=>by simp at g⟩
   .rename_i hn
    split at hs
    .have:=(Prod.mk.inj hs).2;cases this
    .rename_i hd
     have:=(Prod.mk.inj hs).1;subst this;refine⟨h.data,?_,.inr an,by simp,λg=>by simp at g,λ_=>⟨rfl,?_,?_⟩,λg=>by simp at g,λg=>by simp at g,λg=>by simp at g⟩
     .simp only[true_iff];show ((Ba s.line).2:Int)≠0;omega
     .show 1<=((Ba s.line).2:Int);omega
     .show ((Ba s.line).2:Int)<=65536-(s.data.length:Int);omega
  .split at hs
   .rename_i g;have:=(Prod.mk.inj hs).2;exact absurd this g
   .rename_i g
    have:=(Prod.mk.inj hs).1;subst this;exact⟨h.data,by simp[hl],.inr an,by simp,λ_=>Ab4 (h.p0 h0) (by simpa using g),λg=>by simp at g,λg=>by simp at g,λg=>by simp at g,λg=>by simp at g⟩
 split at hs
 .rename_i h1
  obtain⟨q1,q2,q3⟩:=h.p1 h1;have:=(Prod.mk.inj hs).1;subst this
  by_cases hz:s.left-1=0
  .rw[QB hz]
   exact⟨by simp only[QF,QG,QU];omega,by simp;omega,.inr an,by simp,λg=>by simp at g,λg=>by simp at g,λ_=>⟨.inl q1,by simp⟩,λg=>by simp at g,λg=>by simp at g⟩
  .rw[QA hz]
   exact⟨by simp only[QF,QG,QU];omega,by simp;omega,.inr an,by simp,λg=>by simp at g,λ_=>⟨q1,by simp only;omega,by simp only[QF,QG,QU];omega⟩,λg=>by simp at g,λg=>by simp at g,λg=>by simp at g⟩
 split at hs
 .rename_i h2
  obtain⟨q1,q2⟩:=h.p2 h2;have hl:s.left=0:=by
   rcases Decidable.em (s.left=0) with e|e
   .exact e
   .have:=h.left.2 e;omega
  split at hs
  .have:=(Prod.mk.inj hs).1;subst this
   exact⟨h.data,by simp[hl],.inr an,by simp,λg=>by simp at g,λg=>by simp at g,λ_=>⟨.inr rfl,q2⟩,λg=>by simp at g,λg=>by simp at g⟩
  .split at hs
   .have:=(Prod.mk.inj hs).1;subst this
    exact⟨h.data,by simp[hl],.inr an,by simp,λ_ i hi=>by simp at hi,λg=>by simp at g,λg=>by simp at g,λg=>by simp at g,λg=>by simp at g⟩
   .have:=(Prod.mk.inj hs).2;cases this
 rename_i g0 g1 g2;have h3:s.phase=3:=by rcases h.ph with g|g|g|g|g<;>omega
 have hl:s.left=0:=by
  rcases Decidable.em (s.left=0) with e|e
  .exact e
  .have:=h.left.2 e;omega
 split at hs
 .rename_i hm
  have:=(Prod.mk.inj hs).1;subst this;exact⟨h.data,by simp[hl],.inr an,by simp,λg=>by simp at g,λg=>by simp at g,λg=>by simp at g,λ_=>hm,λg=>by simp at g⟩
 split at hs
 .rename_i g;exact absurd (Prod.mk.inj hs).2 g
 split at hs
 .have:=(Prod.mk.inj hs).2;cases this
 rename_i hb
 split at hs
 .rename_i g;exact absurd (Prod.mk.inj hs).2 g
 rename_i hc;have:=(Prod.mk.inj hs).1;subst this;exact⟨h.data,by simp[hl],.inl rfl,by simp,λg=>by simp at g,λg=>by simp at g,λg=>by simp at g,λg=>by simp at g,λ_=>⟨rfl,by simpa using hc,by simpa using hb⟩⟩
def B8(s:Rs)(h:qL):Rs×Int :=
 if (Av s.method h).2.2≠0 then (s,(Av s.method h).2.2) else
 (⟨s.method,if (Av s.method h).1=0\/((Av s.method h).1=1/\(Av s.method h).2.1=0) then 2 else 1,s.infos,[],h,(Av s.method h).1,s.body,(Av s.method h).2.1,s.chunks⟩,0)
def bA(s:Rs)(c:UInt8):Rs×Int :=
 if s.phase=0 then
  (if (Ar (s.line++[c])).2.2=10 then ({ s with line:=s.line++[c] },0) else
   if (Ar (s.line++[c])).2.2≠0 then (s,(Ar (s.line++[c])).2.2) else
   if (Ar (s.line++[c])).1.status=101 then (s,6) else
   if 200<=(Ar (s.line++[c])).1.status then B8 s (Ar (s.line++[c])).1 else
   if 10<s.infos+1 then (s,3) else ({ s with line:=[],infos:=s.infos+1 },0))
 else if s.aD=2 then
  (if (cJ s.chunks c).2≠0 then (s,(cJ s.chunks c).2) else ({ s with chunks:=(cJ s.chunks c).1,phase:=if (cJ s.chunks c).1.phase=4 then 2 else s.phase },0))
 else if 65536<=s.body.length then (s,3) else
 if s.aD=1 then ({ s with body:=s.body++[c],left:=s.left-1,phase:=if s.left-1=0 then 2 else s.phase },0) else ({ s with body:=s.body++[c] },0)
def Ag(s:Rs):List UInt8->Rs×Nat×Int
 | []=>(s,0,0)
 |c :: b=>if s.phase=2 then (s,0,0) else if (bA s c).2≠0 then (s,0,(bA s c).2) else ((Ag (bA s c).1 b).1,(Ag (bA s c).1 b).2.1+1,(Ag (bA s c).1 b).2.2)
structure C7(s:Rs):Prop where
 tok:Ca s.method=true
 i0:0<=s.infos
 i1:s.infos<=10
 ph:s.phase=0\/s.phase=1\/s.phase=2
 p0:s.phase=0->(Ar s.line).2.2=10/\s.head=lZ/\s.aD=0/\s.body=[]/\s.left=0/\s.chunks=uP
 p1:s.phase≠0->s.line=[]/\200<=s.head.status/\D3 s.head.reason=true/\s.head.reason.length<=287/\(Av s.method s.head).2.2=0/\(Av s.method s.head).1=s.aD/\
  (s.aD≠2->s.chunks=uP)/\(s.aD≠1->s.left=0)
 f0:s.phase≠0->s.aD=0->s.phase=2/\s.body=[]
 f1:s.phase≠0->s.aD=1->0<=s.left/\s.left<=(Av s.method s.head).2.1/\(s.body.length:Int)=(Av s.method s.head).2.1-s.left/\(s.phase=2↔s.left=0)
 f2:s.phase≠0->s.aD=2->s.body=[]/\Iz s.chunks/\(s.phase=2↔s.chunks.phase=4)
 f3:s.phase≠0->s.aD=3->s.body.length<=65536
theorem M1(m:List UInt8)(h:qL):(Av m h).1=0\/(Av m h).1=1\/(Av m h).1=2\/(Av m h).1=3:=by
 unfold Av
 split
 .simp
 split
 .simp
 split
 .simp
 split
 .split<;>simp
 split
 .split
  .simp
  .split<;>simp
 .simp
theorem Ad2(l:List (List UInt8)):0<=(Fl l).1/\(Fl l).1<=65536:=by
 unfold Fl
 split
 .simp
 .split
  .rename_i h
   split
   .simp
   .rename_i g
    rw[List.all_cons,QE,QE]at h;have:=QT h.1.1;exact⟨this,by show Js _<=_;omega⟩
  .simp
theorem Kg(m:List UInt8)(h:qL):0<=(Av m h).2.1/\(Av m h).2.1<=65536/\((Av m h).1≠1->(Av m h).2.1=0):=by
 unfold Av
 split
 .simp
 split
 .simp
 split
 .simp
 split
 .split<;>simp
 split
 .split
  .simp
  .rename_i l _
   have:=Ad2 l
   split
   .exact⟨this.1,this.2,λg=>absurd rfl g⟩
   .simp
 .simp
theorem Wu(b:List UInt8)(h:(Bf 10 (b.take 302)).2.2=true):(Bf 10 (b.take 302)).1.length<=301:=by
 obtain⟨h1,h2,h3⟩:=X7 10 (b.take 302);rw[h,QB rfl]at h2;have:=congrArg List.length h2;rw[QZ,QF,QG]at this;omega
theorem Adz{w:List UInt8}(h:uc w=true):D3 (ox w).reason=true/\100<=(ox w).status/\(ox w).status<=599/\(ox w).reason.length=w.length-13/\13<=w.length:=by
 unfold uc at h;simp only[QE,QJ]at h;obtain⟨⟨⟨⟨⟨⟨⟨a,_⟩,_⟩,_⟩,_⟩,b⟩,c⟩,d⟩:=h;exact⟨b,c,d,by show (w.drop 13).length=_;rw[QY],a⟩
theorem Aeh{b:List UInt8}(h:(Ar b).2.2=0):D3 (Ar b).1.reason=true/\100<=(Ar b).1.status/\(Ar b).1.reason.length<=287:=by
 unfold Ar at h ⊢
 split at h
 .split at h<;>cases h
 rename_i g1
 split at h
 .cases h
 rename_i g2
 split at h
 .rename_i g;exact absurd h g
 rename_i g3;rw[QA g1,QA g2,QA g3];have g1:(Bf 10 (b.take 302)).2.2=true:=by simpa using g1
 have g2:(Lib.hasSuffix (Bf 10 (b.take 302)).1 [13]&&uc (Lib.trimSuffix (Bf 10 (b.take 302)).1 [13]))=true:=by simpa using g2
 rw[QE]at g2;obtain⟨s1,s2,s3,s4,s5⟩:=Adz g2.2;have hl:=Wu b g1;have aC:(Lib.trimSuffix (Bf 10 (b.take 302)).1 [13]).length<=300:=by
  unfold Lib.trimSuffix;rw[QB g2.1,QZ];simp only[QG,QU];omega
 exact⟨s1,s2,by show (ox _).reason.length<=287;rw[s4];omega⟩
theorem Tr:(Ar []).2.2=10:=rfl
theorem u3{m:List UInt8}(h:Ca m=true):C7 (BG m) :=
 ⟨h,by simp[BG],by simp[BG],.inl rfl,λ_=>⟨Tr,rfl,rfl,rfl,rfl,rfl⟩,λg=>absurd rfl g,λg=>absurd rfl g,λg=>absurd rfl g,λg=>absurd rfl g,λg=>absurd rfl g⟩
theorem J7{s t:Rs}(h:C7 s)(h2:s.phase≠2)(hs:bA s c=(t,0)):C7 t:=by
 unfold bA at hs
 split at hs
 .rename_i h0
  obtain⟨p1,p2,p3,p4,p5,p6⟩:=h.p0 h0
  split at hs
  .rename_i hm
   have:=(Prod.mk.inj hs).1;subst this;exact⟨h.tok,h.i0,h.i1,h.ph,λ_=>⟨hm,p2,p3,p4,p5,p6⟩,λg=>absurd h0 g,λg=>absurd h0 g,λg=>absurd h0 g,λg=>absurd h0 g,λg=>absurd h0 g⟩
  split at hs
  .rename_i g;exact absurd (Prod.mk.inj hs).2 g
  rename_i fT;have fT:(Ar (s.line++[c])).2.2=0:=by simpa using fT
  split at hs
  .have:=(Prod.mk.inj hs).2;cases this
  split at hs
  .rename_i fE
   unfold B8 at hs
   split at hs
   .rename_i g;exact absurd (Prod.mk.inj hs).2 g
   rename_i hf;have hf:(Av s.method (Ar (s.line++[c])).1).2.2=0:=by simpa using hf
   have:=(Prod.mk.inj hs).1;subst this;obtain⟨q1,q2,q3⟩:=Aeh fT;obtain⟨r1,r2,r3⟩:=Kg s.method (Ar (s.line++[c])).1;obtain⟨k,hk⟩:∃k,k=Av s.method (Ar (s.line++[c])).1:=⟨_,rfl⟩;obtain⟨H,hH⟩:∃H,H=(Ar (s.line++[c])).1:=⟨_,rfl⟩;rw[<-hH]at hk fE q1 q2 q3;rw[<-hH,<-hk]at hf r1 r2 r3;rw[<-hH,<-hk];clear hs fT hH;refine⟨h.tok,h.i0,h.i1,by simp only;split<;>simp,λg=>?_,λ_=>⟨rfl,fE,q1,q3,by show (Av s.method H).2.2=0;rw[<-hk];exact hf,by show (Av s.method H).1=_;rw[<-hk],λ_=>p6,λg=>r3 g⟩,λ_ g=>?_,λ_ g=>?_,λ_ g=>?_,λ_ _=>?_⟩
   .simp only at g;split at g<;>cases g
   .have g:k.1=0:=g
    exact⟨by simp only;rw[QB (.inl g)],p4⟩
   .have g:k.1=1:=g
    refine⟨r1,by show k.2.1<=(Av s.method H).2.1;rw[<-hk];omega,?_,?_⟩
    .show (s.body.length:Int)=(Av s.method H).2.1-k.2.1
     rw[<-hk,p4];simp
    .show (if k.1=0\/(k.1=1/\k.2.1=0) then (2:Int) else 1)=2↔k.2.1=0
     by_cases hz:k.2.1=0
     .rw[QB (.inr ⟨g,hz⟩)];simp[hz]
     .rw[QA (by rintro (e|e)<;>omega)];simp[hz]
   .have g:k.1=2:=g
    refine⟨p4,by show Iz s.chunks;rw[p6];exact JU,?_⟩;show (if k.1=0\/(k.1=1/\k.2.1=0) then (2:Int) else 1)=2↔s.chunks.phase=4;rw[QA (by rintro (e|e)<;>omega),p6];simp[uP]
   .show s.body.length<=65536;rw[p4];simp
  split at hs
  .have:=(Prod.mk.inj hs).2;cases this
  .rename_i hi
   have:=(Prod.mk.inj hs).1;subst this;exact⟨h.tok,by show 0<=s.infos+1;have:=h.i0;omega,by show s.infos+1<=10;omega,h.ph,λ_=>⟨Tr,p2,p3,p4,p5,p6⟩,λg=>absurd h0 g,λg=>absurd h0 g,λg=>absurd h0 g,λg=>absurd h0 g,λg=>absurd h0 g⟩
 rename_i h0;have h1:s.phase=1:=by rcases h.ph with g|g|g<;>omega
 obtain⟨p1,p2,p3,p4,p5,p6,p7,p8⟩:=h.p1 h0
 split at hs
 .rename_i hf
  obtain⟨q1,q2,q3⟩:=h.f2 h0 hf;have hc4:s.chunks.phase≠4:=λe=>by have:=q3.2 e;omega
  split at hs
  .rename_i g;exact absurd (Prod.mk.inj hs).2 g
  rename_i g;have g:(cJ s.chunks c).2=0:=by simpa using g
  have fT:Iz (cJ s.chunks c).1:=Qr q2 hc4 (by rw[<-g]);have:=(Prod.mk.inj hs).1;subst this;refine⟨h.tok,h.i0,h.i1,by simp only;split<;>simp[h1],λe=>?_,λ_=>⟨p1,p2,p3,p4,p5,p6,λe=>absurd hf e,p8⟩,λ_ e=>?_,λ_ e=>?_,λ_ _=>⟨q1,fT,?_⟩,λ_ e=>?_⟩
  .simp only at e;split at e<;>omega
  .have e:s.aD=0:=e;omega
  .have e:s.aD=1:=e;omega
  .show (if (cJ s.chunks c).1.phase=4 then (2:Int) else s.phase)=2↔(cJ s.chunks c).1.phase=4
   by_cases e:(cJ s.chunks c).1.phase=4
   .rw[QB e];simp[e]
   .rw[QA e];simp[e,h1]
  .have e:s.aD=3:=e;omega
 rename_i eS
 split at hs
 .have:=(Prod.mk.inj hs).2;cases this
 rename_i hb
 split at hs
 .rename_i hf
  obtain⟨q1,q2,q3,q4⟩:=h.f1 h0 hf;have hl:s.left≠0:=λe=>by have:=q4.2 e;omega
  have:=(Prod.mk.inj hs).1;subst this;refine⟨h.tok,h.i0,h.i1,by simp only;split<;>simp[h1],λe=>?_,λ_=>⟨p1,p2,p3,p4,p5,p6,p7,λe=>absurd hf e⟩,λ_ e=>?_,λ_ _=>⟨by show 0<=s.left-1;omega,by show s.left-1<=(Av s.method s.head).2.1;omega,?_,?_⟩,λ_ e=>?_,λ_ e=>?_⟩
  .simp only at e;split at e<;>omega
  .have e:s.aD=0:=e;omega
  .show ((s.body++[c]).length:Int)=(Av s.method s.head).2.1-(s.left-1)
   rw[QF];simp only[QG,QU];omega
  .show (if s.left-1=0 then (2:Int) else s.phase)=2↔s.left-1=0
   by_cases e:s.left-1=0
   .rw[QB e];simp[e]
   .rw[QA e];simp[e,h1]
  .have e:s.aD=2:=e;omega
  .have e:s.aD=3:=e;omega
 .rename_i fO
  have:=(Prod.mk.inj hs).1;subst this;refine⟨h.tok,h.i0,h.i1,h.ph,λe=>absurd e h0,λ_=>⟨p1,p2,p3,p4,p5,p6,p7,p8⟩,λ_ e=>?_,λ_ e=>absurd e fO,λ_ e=>absurd e eS,λ_ _=>?_⟩
  .have:=(h.f0 h0 e).1;omega
  .show (s.body++[c]).length<=65536
   rw[QF];simp only[QG,QU];omega
theorem Akr(b:List UInt8):∀s,(Ag s b).2.1<=b.length:=by
 induction b with
 |nil=>intro s;simp[Ag]
 |cons c b ih =>
  intro s;unfold Ag
  split
  .simp
  split
  .simp
  .have:=ih (bA s c).1
   simp only[QG];omega
theorem Oe(b:List UInt8):∀s,C7 s->(Ag s b).2.2=0->C7 (Ag s b).1:=by
 induction b with
 |nil=>intro s h _;exact h
 |cons c b ih =>
  intro s h he;unfold Ag at he ⊢
  split
  .exact h
  rename_i h2;rw[QA h2]at he
  split
  .exact h
  rename_i h3;rw[QA h3]at he;exact ih _ (J7 h h2 (by rw[show (bA s c)=((bA s c).1,(bA s c).2) from rfl,show (bA s c).2=0 by simpa using h3])) he
set_option maxHeartbeats 8000000
end Go.Proofs.YtdoogdbjiijifaaGreatDoor
