/- Lemmas of the proof; no conditions. -/
import Derived.Test.YtdoogdbjiijifaaGreatDoorE9Pab
namespace Go.Sx
open Go
structure Env where
 β:Nat->Option Nat
 τ:Nat->Option Value
 O:Nat->Option Nat
 κ:Nat->Option Nat
 ζ:Nat->Option Nat
 I:Nat->Nat->Prop
def bytes(l:List UInt8):ByteArray:=⟨⟨l⟩⟩
inductive RO(I:Nat->Nat->Prop)(w:World):SV->Value->Prop where
 |int {k:IntKind} {t:ST} {n:Int} (h:t.den=n):RO I w (.int k t) (.int k n)
 |bool {t:BT} {b:Bool} (h:t.den=b):RO I w (.bool t) (.bool b)
 |str {s:List UInt8} {v:Value} (h:v=.string (bytes s)):RO I w (.str s) v
 |eX:RO I w .eX (.pointer none)
 |raw {v v':Value} (h:v'=v):RO I w (.raw v) v'
 |fn {f:FuncId} {v:Value} (h:v=.func (.func f) #[] #[]):RO I w (.fn f) v
 |sL {b:BT} {v:Value} (h:(v=.nilIface/\b.den=true)\/((∃t x,v=.iface t x)/\b.den=false)):RO I w (.sL b) v
 |slnil {nl:BT} {n:ST} {sz:Nat} {f:Nat->List SV} (h:nl.den=true) (hn:n.den=0):RO I w (.sl nl n sz f) (.slice none 0 0)
 |sl {nl:BT} {n:ST} {sz:Nat} {f:Nat->List SV} {a:Addr} {m cap:Nat} (g:Nat->Nat->Value) (h:nl.den=false) (hn:n.den=(m:Int)) (hc:m<=cap) (fI:cap<=maxLen)
   (hs:0<m->a.spot=none)
   (hl:∀i,i<m->(f i).length=sz) (h1:∀i j,i<m->j<sz->(g i j).oneCell'=true)
   (aP:∀i j,i<m->j<sz->w.cell? ⟨a.block,a.off+(i * sz+j),none⟩=some (g i j)/\I a.block (a.off+(i * sz+j)))
   (bG:∀(i j:Nat) (s:SV),i<m->(f i)[j]?=some s->RO I w s (g i j)):RO I w (.sl nl n sz f) (.slice (some a) m cap)
 |dK {cs:List SV} {a:Addr} (g:Nat->Value) (hs:a.spot=none) (h1:∀j,j<cs.length->(g j).oneCell'=true) (aP:∀j,j<cs.length->w.cell? ⟨a.block,a.off+j,none⟩=some (g j)/\I a.block (a.off+j))
   (bG:∀(j:Nat) (s:SV),cs[j]?=some s->RO I w s (g j)):RO I w (.dK cs) (.pointer (some a))
 |dR {n sz:Nat} {f:Nat->List SV} {a:Addr} (g:Nat->Nat->Value) (hs:a.spot=none) (hl:∀i,i<n->(f i).length=sz) (h1:∀i j,i<n->j<sz->(g i j).oneCell'=true)
   (aP:∀i j,i<n->j<sz->w.cell? ⟨a.block,a.off+(i * sz+j),none⟩=some (g i j)/\I a.block (a.off+(i * sz+j)))
   (bG:∀(i j:Nat) (s:SV),i<n->(f i)[j]?=some s->RO I w s (g i j)):RO I w (.dR n sz f) (.pointer (some a))
 |agg {cs:List SV} {vs:List Value} (hl:cs.length=vs.length) (h:∀(i:Nat) (s:SV) (v:Value),cs[i]?=some s->vs[i]?=some v->RO I w s v):RO I w (.agg cs) (.agg ⟨vs⟩)
theorem RO.mono{I I':Nat->Nat->Prop}{w w':World}{s:SV}{v:Value}(h:RO I w s v)
  (hI:∀b o,I b o->I' b o) (hw:∀b o,I b o->w'.cell? ⟨b,o,none⟩=w.cell? ⟨b,o,none⟩):RO I' w' s v:=by
 induction h with
 |int h=>exact .int h
 |bool h=>exact .bool h
 |str h=>exact .str h
 |eX=>exact .eX
 |raw h=>exact .raw h
 |fn h=>exact .fn h
 |sL h=>exact .sL h
 |slnil h hn=>exact .slnil h hn
 |sl g h hn hc fI hs hl h1 aP bG ih =>
  exact .sl g h hn hc fI hs hl h1 (λi j hi hj=>⟨by rw[hw _ _ (aP i j hi hj).2];exact (aP i j hi hj).1,hI _ _ (aP i j hi hj).2⟩) ih
 |dK g hs h1 aP bG ih =>
  exact .dK g hs h1 (λj hj=>⟨by rw[hw _ _ (aP j hj).2];exact (aP j hj).1,hI _ _ (aP j hj).2⟩) ih
 |dR g hs hl h1 aP bG ih =>
  exact .dR g hs hl h1 (λi j hi hj=>⟨by rw[hw _ _ (aP i j hi hj).2];exact (aP i j hi hj).1,hI _ _ (aP i j hi hj).2⟩) ih
 |agg hl h ih=>exact .agg hl ih
def Tq(E:Env)(h:Nat)(n:Int)(v:Value):Prop :=
 ∃a m c,E.τ h=some (.slice a m c)/\n<=(m:Int)/\(n=(m:Int)->v=.slice a m c)
def Ui(E:Env)(h j off:Nat)(n:Int)(v:Value):Prop :=
 ∃a m c sz,E.τ h=some (.slice a m c)/\E.ζ h=some sz/\n<=(m:Int)/\(n=(m:Int)->∃b,a=some ⟨b,0,none⟩/\v=.pointer (some ⟨b,j * sz+off,none⟩))
def RP(ad:Option Addr)(m c sz k:Nat):Value:=.slice (if c=k then ad else ad.map (·.add (k * sz))) (m-k) (c-k)
def OD(E:Env)(h:Nat)(n a:Int)(v:Value):Prop :=
 ∃ad m c sz,E.τ h=some (.slice ad m c)/\E.ζ h=some sz/\n<=(m:Int)/\(n=(m:Int)->∃k:Nat,a=(k:Int)/\k<=m/\v=RP ad m c sz k)
def NQ(E:Env)(h:Nat)(n g:Int)(v:Value):Prop :=
 ∃a G c,E.τ h=some (.slice a G c)/\g<=(G:Int)/\(g=(G:Int)->∃m:Nat,n=(m:Int)/\v=.slice a m c)
inductive Rel(E:Env)(w:World):SV->Value->Prop where
 |ro {s:SV} {v:Value} (h:RO E.I w s v):Rel E w s v
 |ptr {h off b:Nat} {v:Value} (hb:E.β h=some b) (hv:v=.pointer (some ⟨b,off,none⟩)):Rel E w (.ptr h off) v
 |dO {nl:BT} {n:ST} {sz:Nat} {f:Nat->List SV} {h:Nat} {v:Value} (hr:RO E.I w (.sl nl n sz f) v) (ht:Tq E h n.den v):Rel E w (.dO nl n sz f h) v
 |dH {h b m:Nat} {v:Value} (hb:E.β h=some b) (hm:E.κ h=some m) (hv:v=.slice (some ⟨b,0,none⟩) m m):Rel E w (.dH h) v
 |cT {h j off b:Nat} {sz:Nat} {v:Value} (hb:E.β h=some b) (hz:E.ζ h=some sz) (hv:v=.pointer (some ⟨b,j * sz+off,none⟩)):Rel E w (.cT h j off) v
 |bV {nl:BT} {n:ST} {h:Nat} {v:Value} (ht:∃a m c,v=.slice a m c/\n.den=(m:Int)/\(nl.den=true↔a=none)) (hk:Tq E h n.den v):Rel E w (.bV nl n h) v
 |cN {n:ST} {h j off:Nat} {v:Value} (hv:∃b o,v=.pointer (some ⟨b,o,none⟩)) (ho:Ui E h j off n.den v):Rel E w (.cN n h j off) v
 |bQ {h b:Nat} {v:Value} (hb:E.β h=some b) (hv:v=.map (some b)):Rel E w (.bQ h) v
 |jI {n h b:Nat} {v:Value} (hb:E.β h=some b) (hn:n<=maxLen) (hv:v=.slice (some ⟨b,0,none⟩) n n):Rel E w (.jI n h) v
 |yv {h b:Nat} {v:Value} (hb:E.β h=some b) (hv:v=.func (.yield b) #[] #[]):Rel E w (.yv h) v
 |cR {nl:BT} {n g:ST} {h:Nat} {v:Value} (ht:∃a m c,v=.slice a m c/\n.den=(m:Int)/\(nl.den=true↔a=none)) (hk:NQ E h n.den g.den v):Rel E w (.cR nl n g h) v
 |kD {n a:ST} {h:Nat} {v:Value} (ht:∃ad m c,v=.slice ad m c) (hk:OD E h n.den a.den v):Rel E w (.kD n a h) v
 |agg {cs:List SV} {vs:List Value} (hl:cs.length=vs.length) (h:∀(i:Nat) (s:SV) (v:Value),cs[i]?=some s->vs[i]?=some v->Rel E w s v):Rel E w (.agg cs) (.agg ⟨vs⟩)
 |aI {cs:List SV} {vs:List Value} (hl:cs.length=vs.length) (h:∀(i:Nat) (s:SV) (v:Value),cs[i]?=some s->vs[i]?=some v->Rel E w s v):Rel E w (.aI cs) (.tuple ⟨vs⟩)
 |fJ {f:FuncId} {cs:List SV} {vs:List Value} (hl:cs.length=vs.length) (h:∀(i:Nat) (s:SV) (v:Value),cs[i]?=some s->vs[i]?=some v->Rel E w s v):Rel E w (.fJ f cs) (.func (.func f) #[] ⟨vs⟩)
 |gS {f:FuncId} {cs:List SV} {vs:List Value} (hl:cs.length=vs.length) (h:∀(i:Nat) (s:SV) (v:Value),cs[i]?=some s->vs[i]?=some v->Rel E w s v):Rel E w (.gS f cs) (.func (.func f) ⟨vs⟩ #[])
structure Ext(E:Env)(w:World)(E':Env)(w':World):Prop where
 β:∀h b,E.β h=some b->E'.β h=some b
 τ:∀h v,E.τ h=some v->E'.τ h=some v\/∃a m c a' m' c',v=.slice a m c/\E'.τ h=some (.slice a' m' c')/\m<m'
 κ:∀h m,E.κ h=some m->E'.κ h=some m
 ζ:∀h m,E.ζ h=some m->E'.ζ h=some m
 I:∀b o,E.I b o->E'.I b o
 cell:∀b o,E.I b o->w'.cell? ⟨b,o,none⟩=w.cell? ⟨b,o,none⟩
theorem Ext.refl(E:Env)(w:World):Ext E w E w:=⟨λ_ _ h=>h,λ_ _ h=>.inl h,λ_ _ h=>h,λ_ _ h=>h,λ_ _ h=>h,λ_ _ _=>rfl⟩
theorem Tq.mono{E E':Env}{w w':World}{h:Nat}{n:Int}{v:Value}(x:Ext E w E' w')(ht:Tq E h n v):Tq E' h n v:=by
 obtain⟨a,m,c,h1,h2,h3⟩:=ht;rcases x.τ h _ h1 with h4|⟨a0,m0,c0,a',m',c',e,h5,aC⟩
 .exact⟨a,m,c,h4,h2,h3⟩
 .cases e
  exact⟨a',m',c',h5,by omega,λe=>by omega⟩
theorem NQ.mono{E E':Env}{w w':World}{h:Nat}{n g:Int}{v:Value}(x:Ext E w E' w')(ht:NQ E h n g v):NQ E' h n g v:=by
 obtain⟨a,m,c,h1,h2,h3⟩:=ht;rcases x.τ h _ h1 with h4|⟨a0,m0,c0,a',m',c',e,h5,aC⟩
 .exact⟨a,m,c,h4,h2,h3⟩
 .cases e
  exact⟨a',m',c',h5,by omega,λe=>by omega⟩
theorem Ui.mono{E E':Env}{w w':World}{h j off:Nat}{n:Int}{v:Value}(x:Ext E w E' w')(ht:Ui E h j off n v):Ui E' h j off n v:=by
 obtain⟨a,m,c,sz,h1,h0,h2,h3⟩:=ht;rcases x.τ h _ h1 with h4|⟨a0,m0,c0,a',m',c',e,h5,aC⟩
 .exact⟨a,m,c,sz,h4,x.ζ _ _ h0,h2,h3⟩
 .cases e
  exact⟨a',m',c',sz,h5,x.ζ _ _ h0,by omega,λe=>by omega⟩
theorem OD.mono{E E':Env}{w w':World}{h:Nat}{n a:Int}{v:Value}(x:Ext E w E' w')(ht:OD E h n a v):OD E' h n a v:=by
 obtain⟨ad,m,c,sz,h1,h0,h2,h3⟩:=ht;rcases x.τ h _ h1 with h4|⟨a0,m0,c0,a',m',c',e,h5,aC⟩
 .exact⟨ad,m,c,sz,h4,x.ζ _ _ h0,h2,h3⟩
 .cases e
  exact⟨a',m',c',sz,h5,x.ζ _ _ h0,by omega,λe=>by omega⟩
theorem Rel.mono{E E':Env}{w w':World}{s:SV}{v:Value}(x:Ext E w E' w')(h:Rel E w s v):Rel E' w' s v:=by
 induction h with
 |ro h=>exact .ro (h.mono x.I x.cell)
 |ptr hb hv=>exact .ptr (x.β _ _ hb) hv
 |dO hr ht=>exact .dO (hr.mono x.I x.cell) (ht.mono x)
 |dH hb hm hv=>exact .dH (x.β _ _ hb) (x.κ _ _ hm) hv
 |cT hb hz hv=>exact .cT (x.β _ _ hb) (x.ζ _ _ hz) hv
 |bV ht hk=>exact .bV ht (hk.mono x)
 |cN hv ho=>exact .cN hv (ho.mono x)
 |bQ hb hv=>exact .bQ (x.β _ _ hb) hv
 |jI hb hn hv=>exact .jI (x.β _ _ hb) hn hv
 |yv hb hv=>exact .yv (x.β _ _ hb) hv
 |cR ht hk=>exact .cR ht (hk.mono x)
 |kD ht hk=>exact .kD ht (hk.mono x)
 |agg hl _ ih=>exact .agg hl ih
 |aI hl _ ih=>exact .aI hl ih
 |fJ hl _ ih=>exact .fJ hl ih
 |gS hl _ ih=>exact .gS hl ih
structure Bs where
 w0:World
 X:Nat->Prop
 I0:Nat->Nat->Prop
 cO:Nat->Option Nat
 oN:Nat->Option Value
 oO:Nat->Option Nat
 dl:List Nat
def Pr(v:Value)(o:Option Value):Prop:=o=some v\/∃a m c a' m' c',v=.slice a m c/\o=some (.slice a' m' c')/\m<m'
theorem Pr.trans{u v:Value}{o:Option Value}(h1:Pr u (some v))(h2:Pr v o):Pr u o:=by
 rcases h1 with h1|⟨a,m,c,a',m',c',e,h1,aC⟩
 .cases h1;exact h2
 .cases h1
  rcases h2 with h2|⟨a1,m1,c1,a2,m2,c2,e2,h2,eS⟩
  .exact .inr ⟨a,m,c,a',m',c',e,h2,aC⟩
  .cases e2
   exact .inr ⟨a,m,c,a2,m2,c2,e,h2,by omega⟩
structure Nb(B:Bs)(E:Env):Prop where
 β:∀h b,B.cO h=some b->E.β h=some b
 τ:∀h v,B.oN h=some v->Pr v (E.τ h)
 ζ:∀h n,B.oO h=some n->E.ζ h=some n
theorem Nb.ext{B:Bs}{E E':Env}{w w':World}(x:Ext E w E' w')(h:Nb B E):Nb B E':=by
 refine⟨λk b hk=>x.β k b (h.β k b hk),λk v hk=>?_,λk n hk=>x.ζ k n (h.ζ k n hk)⟩;have h1:=h.τ k v hk;cases he:E.τ k with
 |none=>rw[he]at h1;rcases h1 with h1|⟨_,_,_,_,_,_,_,h1,_⟩<;>cases h1
 |some u =>
  rw[he]at h1;exact h1.trans (x.τ k u he)
structure Cr(B:Bs)(E:Env)(w:World):Prop where
 os:w.os=B.w0.os
 tape:w.tape=B.w0.tape
 output:w.output=B.w0.output
 size:B.w0.heap.size<=w.heap.size
 dY:∀b,b<B.w0.heap.size->¬B.X b->w.heap[b]?=B.w0.heap[b]?
 I0:∀b o,B.I0 b o->E.I b o/\w.cell? ⟨b,o,none⟩=B.w0.cell? ⟨b,o,none⟩
 dP:∀b o,E.I b o->b<w.heap.size
 cE:∀b o,E.I b o->B.I0 b o\/B.w0.heap.size<=b\/B.X b
 cS:∀b h,E.O b=some h->b<w.heap.size/\(B.w0.heap.size<=b\/B.X b)
 cO:Nb B E
def Rf(E:Env)(w:World)(f:Nat->List SV)(m sz:Nat)(C:Array Value):Prop :=
 C.size=m * sz/\(∀i,i<m->(f i).length=sz)/\(∀(i j:Nat) (s:SV) (v:Value),i<m->(f i)[j]?=some s->C[i * sz+j]?=some v->RO E.I w s v)/\∀v,v∈C->v.oneCell'=true
def Cu(w:World)(gr:Bool)(e:TypeId)(sz:Nat)(v:Value)(m:Nat)(xs:List Value):Prop :=
 xs.length=m * sz/\((v=.slice none 0 0/\m=0)\/∃g cap cur fr,v=.slice (some ⟨g,0,none⟩) m cap/\w.heap[g]?=some (.cells cur e fr)/\(fr=(0,0)\/gr=false/\fr=(cur.size,cur.size+1))/\m<=cap/\cap<=maxLen/\cur.size=cap * sz/\cur.toList.take (m * sz)=xs)
theorem X0{w:World}{e:TypeId}{sz m:Nat}{v:Value}{xs:List Value}(gr:Bool)(h:w.ownsRow 0 e sz v m xs):Cu w gr e sz v m xs:=by
 refine⟨h.1,?_⟩;rcases h.2 with h|⟨g,cap,cur,h1,_,h2,h3⟩
 .exact .inl h
 .exact .inr ⟨g,cap,cur,(0,0),h1,h2,.inl rfl,h3⟩
theorem Cu.shape{w:World}{gr:Bool}{e:TypeId}{sz m:Nat}{v:Value}{xs:List Value}(h:Cu w gr e sz v m xs):∃a c,v=.slice a m c:=by
 rcases h.2 with⟨h,h2⟩|⟨g,cap,cur,fr,h1,h2⟩
 .exact⟨none,0,by rw[h,h2]⟩
 .exact⟨_,_,h1⟩
theorem Cu.keep{w w':World}{gr:Bool}{e:TypeId}{sz m:Nat}{v:Value}{xs:List Value}(h:Cu w gr e sz v m xs)(hb:∀b,v.ownBlock=some b->w'.heap[b]?=w.heap[b]?):Cu w' gr e sz v m xs:=by
 refine⟨h.1,?_⟩;rcases h.2 with h|⟨g,cap,cur,fr,rfl,h2⟩
 .exact .inl h
 .exact .inr ⟨g,cap,cur,fr,rfl,by rw[hb g rfl];exact h2⟩
def F9(E:Env)(w:World)(f:Nat->List SV)(m sz:Nat)(xs:List Value):Prop :=
 (∀i,i<m->(f i).length=sz)/\∀(i j:Nat) (s:SV) (u:Value),i<m->(f i)[j]?=some s->xs[i * sz+j]?=some u->RO E.I w s u
theorem F9.mono{E E':Env}{w w':World}{f:Nat->List SV}{m sz:Nat}{xs:List Value}(x:Ext E w E' w')(h:F9 E w f m sz xs):F9 E' w' f m sz xs :=
 ⟨h.1,λi j s u hi hs hu=>(h.2 i j s u hi hs hu).mono x.I x.cell⟩
def Ga:List MapEntry->List UInt8->Bool
 | [],_=>false
 |e :: es,s=>match e.key with
  |.string x=>if x=bytes s then (match e.val with|.bool v=>v|_=>false) else Ga es s
  |_=>Ga es s
def NF:LoopState->Nat
 |.ready=>0
 |.busy=>1
 |.done=>2
 |.exhausted=>3
structure MA(c:LC)(st:Nat)(pd:Option Jp)(r:Loop):Prop where
 fn:r.fn=c.fn
 ps:r.params=c.ps
 assign:r.assign=c.assign
 body:r.body=c.body
 n:r.tmps.size=c.n
 st:NF r.state=st
 pd:r.pending=pd.map Jp.code
def bR(E:Env)(w:World)(h:Nat):Hl->Prop
 |.fresh=>E.β h=none/\E.τ h=none/\E.κ h=none/\E.ζ h=none
 |.gone=>True
 |.aF ty cs=>∃b C,E.β h=some b/\E.O b=some h/\w.heap[b]?=some (.cells C ty (0,0))/\C.size=cs.length/\
   (∀(i:Nat) (s:SV) (v:Value),cs[i]?=some s->C[i]?=some v->Rel E w s v)/\(∀v,v∈C->v.oneCell'=true)/\∀o,¬E.I b o
 |.tail ty n sz=>∃v m xs,E.τ h=some v/\w.ownsRow 0 ty sz v m xs/\n.den=(m:Int)/\(∀v,v∈xs->v.oneCell'=true)/\
   ∀b,v.ownBlock=some b->E.O b=some h/\∀o,m * sz<=o->¬E.I b o
 |.row ty n sz f=>∃b C m,E.β h=some b/\E.κ h=some m/\E.ζ h=some sz/\E.O b=some h/\w.heap[b]?=some (.cells C ty (0,0))/\n.den=(m:Int)/\m<=maxLen/\Rf E w f m sz C/\∀o,¬E.I b o
 |.own ty n sz gr f=>∃v m xs,E.τ h=some v/\E.ζ h=some sz/\Cu w gr ty sz v m xs/\n.den=(m:Int)/\(∀u,u∈xs->u.oneCell'=true)/\F9 E w f m sz xs/\∀b,v.ownBlock=some b->E.O b=some h/\∀o,¬E.I b o
 |.nC T e s=>∃b p v,E.β h=some b/\E.O b=some h/\(p=.pointer none\/p=.pointer (some ⟨b,0,none⟩))/\w.heap[b]?=some (.cells #[p,v] T (0,0))/\w.ownsRow 0 e 1 v s.length (Lib.byteCells s)/\v.ownBlock≠some b/\
   (∀o,¬E.I b o)/\∀g,v.ownBlock=some g->E.O g=some h/\∀o,¬E.I g o
 |.vec ty n g sz f=>∃a c m G xs,E.τ h=some (.slice a G c)/\Cu w false ty sz (.slice a m c) m xs/\n.den=(m:Int)/\g.den=(G:Int)/\(∀u,u∈xs->u.oneCell'=true)/\F9 E w f m sz xs/\∀b,(Value.slice a m c).ownBlock=some b->E.O b=some h/\∀o,¬E.I b o
 |.dB F=>∃b es clock,E.β h=some b/\E.O b=some h/\w.heap[b]?=some (.map es clock)/\(∀e∈es.toList,∃s v,e.key=.string (bytes s)/\e.val=.bool v)/\(∀s,Ga es.toList s=F s)/\∀o,¬E.I b o
 |.iP es=>∃b ms clock,E.β h=some b/\E.O b=some h/\w.heap[b]?=some (.map ms clock)/\ms.size=es.length/\(∀(i:Nat) (p:Int×SV) (e:MapEntry),es[i]?=some p->ms.toList[i]?=some e->e.key=.int .i64 p.1/\Rel E w p.2 e.val)/\∀o,¬E.I b o
 |.bO c fr st pd=>∃b r,E.β h=some b/\E.O b=some h/\w.heap[b]?=some (.loop r)/\MA c st pd r/\(∀s v,(s,some v)∈fr->s<c.n/\Rel E w v (r.tmps.getD s undef))/\∀o,¬E.I b o
def Bk:List BT->Prop
 | []=>True
 |b :: l=>b.den=true/\Bk l
abbrev SG:=Option (List BT×SV)
def Bn(E:Env)(w:World)(a:Act)(s:Nat):SG->Prop
 |none=>True
 |some (cs,v)=>s<a.tmps.size/\(Bk cs->Rel E w v (a.tmps.getD s undef))/\(¬Bk cs->a.tmps.getD s undef=undef)
def Us(r:Nat):Deferred:={ target:=.collected r,args:=#[] }
structure St(B:Bs)(N:Nat)(E:Env)(a:Act)(w:World)(ff:Nat->SG)(hf:Nat->Hl):Prop where
 base:Cr B E w
 heap:∀h,bR E w h (hf h)
 slot:∀s,Bn E w a s (ff s)
 size:a.tmps.size=N
 defers:a.defers=B.dl.map Us
theorem St.step{B:Bs}{N:Nat}{E E':Env}{a:Act}{w w':World}{ff:Nat->SG}{hf dA:Nat->Hl}(h:St B N E a w ff hf)(x:Ext E w E' w')(hb:Cr B E' w')
  (hh:∀k,bR E' w' k (dA k)):St B N E' a w' ff dA where
 base:=hb
 heap:=hh
 slot:=λs=>by
  have:=h.slot s;cases hs:ff s with
  |none=>trivial
  |some p =>
   rw[hs]at this;exact⟨this.1,λha=>(this.2.1 ha).mono x,this.2.2⟩
 size:=h.size
 defers:=h.defers
def aU{α:Type}(f:Nat->α)(k:Nat)(x:α):Nat->α:=λj=>if j=k then x else f j
def CE{α:Type}(f:Nat->α)(k:Option Nat)(x:α):Nat->α:=match k with
 |some k=>aU f k x
 |none=>f
theorem Pc{a:Act}{d s:Nat}{v:Value}(h:s<a.tmps.size):(a.put (some d) v).tmps.getD s undef=if s=d then v else a.tmps.getD s undef:=by
 simp only[Act.put,XI]
 by_cases e:s=d
 .subst e;simp[h]
 .rw[QA e,ZP (λe'=>e e'.symm)]
theorem St.put{B:Bs}{N:Nat}{E:Env}{a:Act}{w:World}{ff:Nat->SG}{hf:Nat->Hl}(h:St B N E a w ff hf)(d:Option Nat)(v:Value)(g:SG)
  (hg:∀cs s,g=some (cs,s)->(Bk cs->Rel E w s v)/\(¬Bk cs->v=undef)) (hd:∀k,d=some k->k<N):St B N E (a.put d v) w (CE ff d g) hf:=by
 cases d with
 |none=>exact h
 |some k =>
  refine⟨h.base,h.heap,λs=>?_,by simp[Act.put,h.size],h.defers⟩;have hk:=hd k rfl
  by_cases e:s=k
  .subst e
   simp only[CE,aU,QC];cases g with
   |none=>trivial
   |some p =>
    obtain⟨cs,x⟩:=p;obtain⟨h1,h2⟩:=hg cs x rfl;have hs:s<a.tmps.size:=by rw[h.size];exact hk
    refine⟨by simp[Act.put];exact hs,λha=>?_,λha=>?_⟩
    .rw[Pc hs,QC rfl];exact h1 ha
    .rw[Pc hs,QC rfl];exact h2 ha
  .have:=h.slot s
   simp only[CE,aU,QA e];cases hs:ff s with
   |none=>trivial
   |some p =>
    rw[hs]at this;obtain⟨h1,h2,h3⟩:=this;refine⟨by simp[Act.put];exact h1,?_,?_⟩
    .rw[Pc h1,QA e];exact h2
    .rw[Pc h1,QA e];exact h3
def Aq(hp:List Hl):Nat->Hl:=λh=>(nth hp h).getD .fresh
def aM(s s':SV):Prop:=∀(E:Env) (w:World) (v:Value),Rel E w s v->Rel E w s' v
def cL(ls aK:List Hl):Prop:=∀(h:Nat) (E:Env) (w:World),bR E w h (Aq ls h)->bR E w h (Aq aK h)
structure Fin(r' r:SV)(dS aK:List Hl):Prop where
 v:aM r' r
 h:cL dS aK
 len:aK.length<=dS.length
def OA:List SV->SV
 | [v]=>v
 |vs=>.aI vs
def Xl:Nat->List Nat
 |0=>[]
 |n+1=>Xl n++[n]
def ou:List Nat->List Nat->Bool
 | [],[]=>true
 |x :: l,y :: t=>x==y&&ou l t
 |_,_=>false
def MY(cx:Cx)(m:Nat)(vs:List SV)(σ:Sy)(K:SV->List Hl->Prop):Prop :=
 match loose (norm cx.D (OA vs)) with
 |r =>
  match reach σ.hp σ.hp (Mg (Xl m) (iJ r)) with
  |hs =>
   match Vg cx.D σ.hp hs with
   |ls =>
    if Qa hs&&ou (takeN m hs) (Xl m)&&Wj hs (iJ r)&&Cf r&&vb (Ai σ.hp) hs&&Mr hs ls then K (nW (Ih hs) r) (W0 (mP (Ih hs)) ls) else False
structure BM(c:LC)(ps:Array Tmp)(assign body:Code)(n:Nat):Prop where
 ps:c.ps=ps
 assign:c.assign=assign
 body:c.body=body
 n:c.n=n
def Ji:List Tmp->List SV->List (Option G)->Option (List (Option G))
 | [],[],fr=>some fr
 |p :: ps,v :: vs,fr=>Ji ps vs (Ay fr p (some ⟨[],none,none,v⟩))
 |_,_,_=>none
def ly:Ex->Nat×Option Jp×Bool
 |.normal=>(0,none,true)
 |.ret=>(2,some .ret,false)
 |.exit id=>(2,some (.exit id),false)
 |.goto l=>(2,some (.goto l),false)
def KL:Option Jp->Ex
 |none=>.normal
 |some .ret=>.ret
 |some (.exit id)=>.exit id
 |some (.goto l)=>.goto l
def Ja:Code->Bool
 |.seq a b=>Ja a&&Ja b
 |.cond _ t e=>Ja t&&Ja e
 |.block _ b=>Ja b
 |.loop b=>Ja b
 |.scope b=>Ja b
 |.rangeFunc ..=>false
 |_=>true
def Ub(cx:Cx)(m:Nat)(K:SV->List Hl->Prop)(e:Ex)(σ:Sy):Prop :=
 match nth σ.hp 0,ly e with
 |some (.bO c fr 1 none),(st,pd,b)=>MY cx m [.bool (.l b)] ⟨σ.fr,Ay σ.hp 0 (.bO c fr st pd),σ.gm⟩ K
 |_,_=>False
def Ae9(_c:LC)(ps:Array Tmp)(n:Nat)(xs:List SV)(ls:List Hl):Option (List (Option G)) :=
 match xs,ls with
 |.yv 0 :: vs,.bO _ fr 0 none :: _=>Ji ps.toList vs (Oy fr (List.replicate n none))
 |_,_=>none
def RM:SV->Option (FuncId×List SV)
 |.fJ f cs=>some (f,cs)
 |.fn f=>some (f,[])
 |_=>none
def Aeh(X:Sy->(Ex->Sy->Prop)->Prop):Nat->Sy->(Ex->Sy->Prop)->Prop
 |0,_,_=>False
 |n+1,σ,K=>X σ λe aL=>match e with
  |.normal=>Aeh X n aL K
  |e=>K e aL
def KX:List Gh->Nat
 | [.freeze n]=>n
 |_=>0
def exec(cx:Cx):Code->Sy->(Ex->Sy->Prop)->Prop
 |.skip,σ,K=>K .normal σ
 |.region id ops draw,σ,K =>
  gI cx (id+2000000) σ λσ=>E9 cx ops.toList ops.toList [] σ λfs σ =>
   if draw then (if Nat.blt 40 (Ai ops.toList) then qa ops.toList fs/\gI cx id ⟨tidy σ.fr,σ.hp,[]⟩ (K .normal)
    else if Ho ops.toList 0&&indep ops.toList (Ix ops.toList []) ops.toList fs 0 then gI cx id ⟨tidy σ.fr,σ.hp,[]⟩ (K .normal) else False)
   else gI cx id ⟨tidy σ.fr,σ.hp,[]⟩ (K .normal)
 |.seq a b,σ,K=>exec cx a σ λe σ=>match e with
  |.normal=>exec cx b σ K
  |e=>K e σ
 |.cond c t e,σ,K =>
  match rd cx σ [] c with
  |some (.bool (.l true))=>exec cx t σ K
  |some (.bool (.l false))=>exec cx e σ K
  |some (.bool b)=>(cx.D.b b=true->exec cx t (uB σ c true) K)/\(cx.D.b b=false->exec cx e (uB σ c false) K)
  |_=>False
 |.block id b,σ,K=>exec cx b σ λe σ=>match e with
  |.exit i=>if i==id then K .normal σ else K (.exit i) σ
  |e=>K e σ
 |.loop b,σ,K=>match look 999986 cx.gh with
  |some l=>Aeh (exec cx b) (KX l) σ K
  |none =>
  ∃(keep:List Nat) (J:Nat->List (Option SV)->List Hl->Prop),
   (Ee (Ai σ.hp) σ.hp=true/\∃m,J m (Gz cx.D (Ai σ.hp) σ.fr keep) (G3 cx.D σ.hp))/\
   ∀m vs hp,J m vs hp->exec cx b ⟨Oy (Ld keep vs) (blank σ.fr),hp,[]⟩ λe aL=>match e with
    |.normal=>Ee (Ai σ.hp) (takeN (Ai σ.hp) aL.hp)=true/\∃m',m'<m/\J m' (Gz cx.D (Ai σ.hp) aL.fr keep) (G3 cx.D (takeN (Ai σ.hp) aL.hp))
    |e=>K e aL
 |.exit id,σ,K=>K (.exit id) σ
 |.ret,σ,K=>K .ret σ
 |.label _,σ,K=>K .normal σ
 |.goto l,σ,K=>K (.goto l) σ
 |.scope c,σ,K=>exec cx c σ λe σ=>match e with
  |.goto _=>False
  |e=>K e σ
 |.rangeFunc g ps assign bd,σ,K =>
  match (rd cx σ [] g).bind RM with
  |some (f,vF) =>
   match look f cx.its with
   |some it =>
    (Ja assign&&Ja bd)=true/\∀c:LC,BM c ps assign bd (Ai σ.fr)->∃(keep:List Nat) (Y:aB),
     (∀xs ls K',Y cx.D xs ls K'->(∃fr,ls.head?=some (.bO c fr 0 none))/\∃r aK,K' r aK/\match Ae9 c ps (Ai σ.fr) xs ls with
      |some tF=>exec cx assign ⟨tF,ls,[]⟩ λe dQ=>match e,nth dQ.hp 0 with
       |.normal,some (.bO c1 uc 0 none)=>exec cx bd ⟨dQ.fr,Ay dQ.hp 0 (.bO c1 uc 1 none),dQ.gm⟩ (Ub cx (Ai ls) λr' dS=>Fin r' r dS aK)
       |_,_=>False
      |none=>False)/\
     Gd cx ⟨σ.fr,σ.hp++[.bO c (Ld keep (Gz cx.D (Ai σ.hp) σ.fr keep)) 0 none],σ.gm⟩ [] (.yv (Ai σ.hp) :: vF) (it Y) λo =>
      match L7 (σ.hp++[.bO c (Ld keep (Gz cx.D (Ai σ.hp) σ.fr keep)) 0 none]) o.fR with
      |mA=>Jr (σ.hp++[.bO c (Ld keep (Gz cx.D (Ai σ.hp) σ.fr keep)) 0 none]) o.fR=true/\match nth mA (Ai σ.hp) with
       |some (.bO _ _ st pd)=>Nat.beq st 1=false/\K (KL pd) ⟨σ.fr,Ay mA (Ai σ.hp) .gone,σ.gm⟩
       |_=>False
   |none=>False
  |none=>False
 |_,_,_=>False
def Jn(cx:Cx)(σ:Sy):List ResultVar->Option (List SV)
 | []=>some []
 |.tmp t :: rs=>match rd cx σ [] (.tmp t),Jn cx σ rs with
  |some v,some vs=>some (v :: vs)
  |_,_=>none
 |.cell a t :: rs=>match rd cx σ [] (.tmp a),size? cx t,Jn cx σ rs with
  |some (.ptr h off),some n,some vs =>
   match nth σ.hp h with
   |some (.aF _ cs)=>if Nat.ble (off+n) (Ai cs) then
     match pack (cK cx t) (takeN n (Db off cs)) with
     |some v=>some (v :: vs)
     |none=>none
    else none
   |_=>none
  |_,_,_=>none
def Ep(ntmps:Nat)(args:List SV):List (Option G) :=
 (args.map λv=>some ⟨[],none,none,v⟩)++List.replicate (ntmps-Ai args) none
def Amg:List SV->Option Nat
 | []=>none
 |.bV _ _ h :: _=>some h
 |_ :: vs=>Amg vs
def Ri(h k:Nat):List SV->List SV
 | []=>[]
 |.bV nl n _ :: vs=>.bV nl n k :: Ri h k vs
 |v :: vs=>v :: Ri h k vs
def Uh(h:Nat):List SV->Bool
 | []=>true
 |.bV _ _ h' :: vs=>h'==h&&Uh h vs
 |v :: vs=>An v&&Uh h vs
def DY(cx:Cx)(m:Nat)(vs:List SV)(σ:Sy)(K:SV->List Hl->Prop):Prop :=
 match Amg vs with
 |none=>K (loose (norm cx.D (OA vs))) (cQ cx.D (takeN m σ.hp))
 |some h=>match Nat.ble m h&&Uh h vs&&He (cQ cx.D (takeN m σ.hp)),nth σ.hp h with
  |true,some (.own ty n sz gr f)=>K (loose (norm cx.D (OA (Ri h m vs)))) (cQ cx.D (takeN m σ.hp++[.own ty n sz gr f]))
  |_,_=>False
def PY(cx:Cx)(fn:Func)(args:List SV)(hp:List Hl)(K:SV->List Hl->Prop):Prop :=
 match fn.body with
 |some c=>exec cx c ⟨Ep fn.ntmps args,hp,[]⟩ λe σ=>match e with
  |.normal|.ret=>match Jn cx σ fn.results.toList with
   |some vs=>MY cx (Ai hp) vs σ K
   |none=>False
  |_=>False
 |none=>False
def body(cx:Cx)(fn:Func)(args:List SV)(hp:List Hl)(K:SV->List Hl->Prop):Prop :=
 match fn.body with
 |some c=>exec cx c ⟨Ep fn.ntmps args,hp,[]⟩ λe σ=>match e with
  |.normal|.ret=>match Jn cx σ fn.results.toList with
   |some vs=>DY cx (Ai hp) vs σ K
   |none=>False
  |_=>False
 |none=>False
def uu(cx:Cx)(fn:Func)(pre c:Code)(l:Nat)(rest:Code)(args:List SV)(hp:List Hl)(K:SV->List Hl->Prop):Prop :=
 ∃(keep:List Nat) (J:Nat->List (Option SV)->List Hl->Prop),
  (exec cx pre ⟨Ep fn.ntmps args,hp,[]⟩ λe σ=>match e with
   |.normal=>exec cx c σ λe σ=>match e with
    |.normal|.ret=>match Jn cx σ fn.results.toList with
     |some vs=>DY cx (Ai hp) vs σ K
     |none=>False
    |.goto l'=>l'=l/\Ee (Ai hp) (takeN (Ai hp) σ.hp)=true/\∃m,J m (Gz cx.D (Ai hp) σ.fr keep) (G3 cx.D (takeN (Ai hp) σ.hp))
    |_=>False
   |_=>False)/\
  ∀m vs mA,J m vs mA->exec cx rest ⟨Oy (Ld keep vs) (blank (Ep fn.ntmps args)),mA,[]⟩ λe σ=>match e with
   |.normal|.ret=>match Jn cx σ fn.results.toList with
    |some vs=>DY cx (Ai hp) vs σ K
    |none=>False
   |.goto l'=>l'=l/\Ee (Ai hp) (takeN (Ai hp) σ.hp)=true/\∃m',m'<m/\J m' (Gz cx.D (Ai hp) σ.fr keep) (G3 cx.D (takeN (Ai hp) σ.hp))
   |_=>False
theorem Aj{α:Type}:∀(l:List α) (n:Nat),nth l n=l[n]?
 | [],_=>by simp[nth]
 |_ :: _,0=>by simp[nth]
 |_ :: l,n+1=>by simp[nth,Aj l n]
theorem Eh{α:Type}:∀(l:List (Option α)) (n:Nat),Ax l n=(l[n]?).getD none
 | [],_=>by simp[Ax]
 |_ :: _,0=>by simp[Ax]
 |_ :: l,n+1=>by simp[Ax,Eh l n]
theorem Av{α:Type}:∀(l:List α) (n:Nat) (v:α),Ay l n v=l.set n v
 | [],_,_=>by simp[Ay]
 |_ :: _,0,_=>by simp[Ay]
 |_ :: l,n+1,v=>by simp[Ay,Av l n v]
theorem Ba{α:Type}:∀(n:Nat) (l:List α),takeN n l=l.take n
 |0,_=>by simp[takeN]
 |_+1,[]=>by simp[takeN]
 |n+1,_ :: l=>by simp[takeN,Ba n l]
theorem Bl{α:Type}:∀(n:Nat) (l:List α),Db n l=l.drop n
 |0,_=>by simp[Db]
 |_+1,[]=>by simp[Db]
 |n+1,_ :: l=>by simp[Db,Bl n l]
theorem Ag{α:Type}:∀(l:List α),Ai l=l.length
 | []=>rfl
 |_ :: l=>by simp[Ai,Ag l]
theorem Dg{α:Type}:∀(vs l:List α) (off:Nat),(Dd l off vs).length=l.length
 | [],_,_=>rfl
 |v :: vs,l,off=>by simp[Dd,Dg vs,Av]
theorem H5{α:Type}:∀(vs l:List α) (off i:Nat),off+vs.length<=l.length->(Dd l off vs)[i]?=if off<=i/\i<off+vs.length then vs[i-off]? else l[i]?
 | [],l,off,i,_=>by rw[Dd,QA (by simp only[QV];omega)]
 |v :: vs,l,off,i,h=>by
  simp only[QH]at h;rw[Dd,H5 vs _ (off+1) i (by simp[Av];omega),Av]
  by_cases e:i=off
  .subst e
   rw[QA (by omega),QC (by simp)];rw[ZH (by omega)];simp
  .by_cases e2:off+1<=i/\i<off+1+vs.length
   .rw[QC e2,QC (by simp;omega)]
    obtain⟨k,hk⟩:∃k,i-off=k+1:=⟨i-off-1,by omega⟩;rw[hk,show i-(off+1)=k by omega];simp
   .rw[QA e2,QA (by simp;omega),XU (by omega)]
theorem D9(x:Nat):∀l,Le x l=true↔x∈l
 | []=>by simp[Le]
 |y :: l=>by
  simp only[Le,XS,QO,D9 x l,XT];constructor
  .rintro (h|h)
   .exact .inl h.symm
   .exact .inr h
  .rintro (h|h)
   .exact .inl h.symm
   .exact .inr h
theorem Aa9:∀(l t:List Nat),Wr l t=true↔∀x∈l,x∈t
 | [],t=>by simp[Wr]
 |x :: l,t=>by simp[Wr,D9,Aa9 l t]
def Ac(gm:List BT)(T:List Nat):List BT:=T.filterMap (nth gm)
theorem Ad9:∀(l:List BT),Bk l↔∀b∈l,b.den=true
 | []=>by simp[Bk]
 |b :: l=>by simp[Bk,Ad9 l]
theorem Ad8{gm:List BT}{t T:List Nat}(h:Wr t T=true)(hT:Bk (Ac gm T)):Bk (Ac gm t):=by
 rw[Ad9]at *;intro b hb;rw[Ac,List.mem_filterMap]at hb;obtain⟨i,hi,hb⟩:=hb;exact hT b (by rw[Ac,List.mem_filterMap];exact⟨i,(Aa9 _ _).1 h i hi,hb⟩)
theorem Dm(gm:List BT)(A:Prop):∀(T:List Nat),Ob dn gm T A↔(Bk (Ac gm T)->A)
 | []=>by simp[Ob,Ac,Bk]
 |i :: T=>by
  have ih:=Dm gm A T;simp only[Ob,Ac,ZX];cases h:nth gm i with
  |none=>simpa[Ac] using ih
  |some b =>
   simp only[Bk];rw[ih];constructor
   .intro h1 ⟨h2,h3⟩;exact h1 h2 h3
   .intro h1 h2 h3;exact h1 ⟨h2,h3⟩
def Jw(P:Program):TK->TypeDesc->Bool
 |.int k,.int k'=>k==k'
 |.bool,.bool=>true
 |.string,.string=>true
 |.pointer e,.pointer e'=>e==e'
 |.slice e,.slice e'=>e==e'
 |.struct fs,.struct fields=>(fields.toList.map λf=>(f.offset,f.type))==fs&&fields.toList.all λf=>(P.info? f.type).isSome
 |.array n e,.array n' e'=>n==n'&&e==e'
 |.map k e,.map k' e'=>k==k'&&e==e'
 |.iface,.interface _=>true
 |.other,.struct _=>false
 |.other,.array ..=>false
 |.other,_=>true
 |_,_=>false
def zB:SV->Value->Bool
 |.int k (.l n),.int k' n'=>k==k'&&n==n'
 |.bool (.l b),.bool b'=>b==b'
 |.str s,.string s'=>s==s'.data.toList
 |.eX,.pointer none=>true
 |.sl (.l true) (.l 0) _ _,.slice none 0 0=>true
 |.raw .nilIface,.nilIface=>true
 |.raw .nilFunc,.nilFunc=>true
 |.raw (.map none),.map none=>true
 |_,_=>false
def vI:List SV->List Value->Bool
 | [],[]=>true
 |s :: ss,v :: vs=>zB s v&&vI ss vs
 |_,_=>false
def Amv(k:TK)(z:Value):Bool:=match z with
 |.agg _=>(match k with|.struct _=>true|.array _ _=>true|_=>false)
 |_=>true
def OE(P:Program)(t:TypeId)(ti:TI):Bool :=
 match P.underlying t,P.info? t with
 |some d,some i=>ti.zero.length==ti.size&&Jw P ti.k d&&i.size==ti.size&&i.bytes==ti.bytes&&(match i.zero with|some z=>vI ti.zero z.cells.toList&&Amv ti.k z|none=>false)
 |_,_=>false
def yN(P:Program):List (Nat×TI)->Bool
 | []=>true
 |(t,ti) :: l=>OE P t ti&&yN P l
theorem Aa4{P:Program}:∀ {tt:List (Nat×TI)} {t:Nat} {ti:TI},yN P tt=true->look t tt=some ti->OE P t ti=true
 | [],_,_,_,h=>by simp[look]at h
 |(u,ui) :: l,t,ti,hB,h=>by
  simp only[yN,QE]at hB;simp only[look]at h
  split at h
  .rename_i e
   have e:u=t:=by simpa using e
   subst e;simp only[Option.some.injEq]at h;subst h;exact hB.1
  .exact Aa4 hB.2 h
theorem EM{I:Nat->Nat->Prop}{w:World}{s:SV}{v:Value}(h:zB s v=true):RO I w s v:=by
 unfold zB at h
 split at h<;>simp at h
 .obtain⟨rfl,rfl⟩:=h;exact .int rfl
 .subst h;exact .bool rfl
 .subst h;exact .str rfl
 .exact .eX
 .exact .slnil rfl rfl
 .exact .raw rfl
 .exact .raw rfl
 .exact .raw rfl
theorem Kb{I:Nat->Nat->Prop}{w:World}:∀ {ss:List SV} {vs:List Value},vI ss vs=true->ss.length=vs.length/\∀(i:Nat) (s:SV) (v:Value),ss[i]?=some s->vs[i]?=some v->RO I w s v
 | [],[],_=>by simp
 |s :: ss,v :: vs,h=>by
  simp only[vI,QE]at h;obtain⟨h1,h2⟩:=Kb (I:=I) (w:=w) h.2;refine⟨by simp[h1],λi s' v' hs hv=>?_⟩;cases i with
  |zero=>simp at hs hv;subst hs;subst hv;exact EM h.1
  |succ i=>simp at hs hv;exact h2 i s' v' hs hv
 | [],_ :: _,h=>by simp[vI]at h
 |_ :: _,[],h=>by simp[vI]at h
theorem Ak4{s:SV}{v:Value}(h:zB s v=true):v.oneCell'=true:=by
 unfold zB at h
 split at h<;>first|rfl|simp at h
structure Ew(P:Program)(t:TypeId)(ti:TI):Prop where
 qE:ti.zero.length=ti.size
 yM:∃d,P.underlying t=some d/\Jw P ti.k d=true
 info:∃i z,P.info? t=some i/\i.size=ti.size/\i.bytes=ti.bytes/\i.zero=some z/\vI ti.zero z.cells.toList=true/\Amv ti.k z=true
theorem vo{P:Program}{t:TypeId}{ti:TI}(h:OE P t ti=true):Ew P t ti:=by
 unfold OE at h
 split at h
 .rename_i d i hd hi
  simp only[QE,QO]at h;obtain⟨⟨⟨⟨h0,h1⟩,h2⟩,h3⟩,h4⟩:=h
  split at h4
  .rename_i z hz
   simp only[QE]at h4;exact⟨h0,⟨d,hd,h1⟩,⟨i,z,hi,h2,h3,hz,h4⟩⟩
  .simp at h4
 .simp at h
theorem Afc{I:Nat->Nat->Prop}{w:World}{v:Value}{s:SV}(h:ofConst v=some s):(∃vs,s=.aI []/\v=.tuple vs/\vs=#[])\/RO I w s v:=by
 unfold ofConst at h
 split at h
 .cases h;exact .inr (.int rfl)
 .cases h;exact .inr (.bool rfl)
 .cases h;exact .inr (.str rfl)
 .cases h;exact .inr .eX
 .cases h;exact .inr (.slnil rfl rfl)
 .cases h;exact .inr (.raw rfl)
 .cases h;exact .inr (.raw rfl)
 .cases h;exact .inr (.raw rfl)
 .rename_i vs
  split at h
  .rename_i e
   cases h;exact .inl ⟨vs,rfl,rfl,by simpa using e⟩
  .cases h
 .cases h
theorem Ab9{E:Env}{w:World}{v:Value}{s:SV}(h:ofConst v=some s):Rel E w s v:=by
 rcases Afc (I:=E.I) (w:=w) h with⟨vs,rfl,rfl,rfl⟩|h
 .exact .aI rfl (by simp)
 .exact .ro h
def Ry(w:World)(g:Nat)(s:SV):Prop:=match s with
 |.dR n sz _=>∃(C:Array Value) (t:TypeId) (fr:Nat×Nat),w.heap[g]?=some (.cells C t fr)/\C.size=n * sz
 |_=>True
theorem Ry.same{w w':World}{g:Nat}{s:SV}(h:Ry w g s)(e:w'.heap[g]?=w.heap[g]?):Ry w' g s:=by
 unfold Ry at h ⊢
 split at h
 .obtain⟨C,t,fr,h1,h2⟩:=h
  exact⟨C,t,fr,e.trans h1,h2⟩
 .trivial
def Fm(B:Bs)(gl:List (Nat×SV)):Prop:=∀g s,look g gl=some s->RO B.I0 B.w0 s (.pointer (some ⟨g,0,none⟩))/\g<B.w0.heap.size/\¬B.X g/\Ry B.w0 g s
def Bf(σ:Sy):Nat->SG:=λs=>(Ax σ.fr s).map λg=>(Ac σ.gm g.tg,g.v)
def C4(x:Operand):List Nat:=match x with
 |.tmp s=>[s]
 |_=>[]
theorem Ab{B:Bs}{N:Nat}{E:Env}{a:Act}{w:World}{ff:Nat->SG}{hf:Nat->Hl}{cx:Cx}{σ:Sy}{T:List Nat}{x:Operand}{v:SV}
  (h:rd cx σ T x=some v) (hg:Fm B cx.gl) (st:St B N E a w ff hf) (ag:∀s∈C4 x,ff s=Bf σ s) (hT:Bk (Ac σ.gm T)):Rel E w v (a.eval x):=by
 cases x with
 |tmp s =>
  simp only[rd]at h
  split at h
  .rename_i g jF
   split at h
   .rename_i hs
    cases h;have h1:=st.slot s;rw[ag s (by simp[C4]),Bf,jF]at h1;simp only[QQ,Bn]at h1;exact h1.2.1 (Ad8 hs hT)
   .cases h
  .cases h
 |const v'=>exact Ab9 h
 |global g =>
  have h1:=(hg g v h).1;exact .ro (h1.mono (λb o hb=>(st.base.I0 b o hb).1) (λb o hb=>(st.base.I0 b o hb).2))
 |func f =>
  cases h;exact .ro (.fn rfl)
theorem Aji{E:Env}{w:World}{cx:Cx}{t:TypeId}{v:SV}{u:Value}(h:Rel E w v u):Rel E w (Amr cx t v) u:=by
 unfold Amr
 split
 .rename_i f
  have hn:∀(n:Nat) (g:Nat->List SV),Rel E w (.sl (.l true) (.l 0) n g) u:=by
   intro n g;cases h with
   |ro h=>cases h with
    |slnil h hn=>exact .ro (.slnil rfl rfl)
    |sl g h=>simp[BT.den]at h
  split
  .split
   .exact hn _ _
   .exact hn _ _
  .exact hn _ _
 .exact h
theorem Jo{B:Bs}{N:Nat}{E:Env}{a:Act}{w:World}{ff:Nat->SG}{hf:Nat->Hl}{cx:Cx}{σ:Sy}{T:List Nat}{t:TypeId}{x:Operand}{v:SV}
  (h:gb cx σ T t x=some v) (hg:Fm B cx.gl) (st:St B N E a w ff hf) (ag:∀s∈C4 x,ff s=Bf σ s) (hT:Bk (Ac σ.gm T)):Rel E w v (a.eval x):=by
 unfold gb at h
 split at h
 .rename_i v0 h0
  cases h;exact Aji (Ab h0 hg st ag hT)
 .cases h
def A8(E:Env)(w:World)(cs:List SV)(vs:List Value):Prop :=
 cs.length=vs.length/\∀(i:Nat) (s:SV) (v:Value),cs[i]?=some s->vs[i]?=some v->Rel E w s v
theorem A8.agg{E:Env}{w:World}{cs:List SV}{vs:List Value}(h:A8 E w cs vs):Rel E w (.agg cs) (.agg ⟨vs⟩):=.agg h.1 h.2
theorem A8.nil{E:Env}{w:World}:A8 E w [] []:=⟨rfl,by simp⟩
theorem A8.cons{E:Env}{w:World}{s:SV}{v:Value}{cs:List SV}{vs:List Value}(h:Rel E w s v)(hs:A8 E w cs vs):A8 E w (s :: cs) (v :: vs) :=
 ⟨by simp[hs.1],λi s' v' h1 h2=>by
  cases i with
  |zero=>simp at h1 h2;subst h1;subst h2;exact h
  |succ i=>simp at h1 h2;exact hs.2 i s' v' h1 h2⟩
theorem A8.take{E:Env}{w:World}{cs:List SV}{vs:List Value}(n:Nat)(h:A8 E w cs vs):A8 E w (cs.take n) (vs.take n) :=
 ⟨by simp[h.1],λi s v h1 h2=>by
  rw[QN]at h1 h2
  split at h1
  .rename_i e;rw[QC e]at h2;exact h.2 i s v h1 h2
  .cases h1⟩
theorem A8.drop{E:Env}{w:World}{cs:List SV}{vs:List Value}(n:Nat)(h:A8 E w cs vs):A8 E w (cs.drop n) (vs.drop n) :=
 ⟨by simp[h.1],λi s v h1 h2=>by
  rw[XG]at h1 h2;exact h.2 _ s v h1 h2⟩
theorem Rel.jB{E:Env}{w:World}{cs:List SV}{v:Value}(h:Rel E w (.agg cs) v):∃vs,v=.agg ⟨vs⟩/\A8 E w cs vs:=by
 cases h with
 |ro h=>cases h with
  |agg hl h=>exact⟨_,rfl,hl,λi s v a b=>.ro (h i s v a b)⟩
 |agg hl h=>exact⟨_,rfl,hl,h⟩
theorem Rel.vK{E:Env}{w:World}{cs:List SV}{v:Value}(h:Rel E w (.aI cs) v):∃vs,v=.tuple ⟨vs⟩/\A8 E w cs vs:=by
 cases h with
 |ro h=>cases h
 |aI hl h=>exact⟨_,rfl,hl,h⟩
theorem Rel.qX{E:Env}{w:World}{f:FuncId}{cs:List SV}{v:Value}(h:Rel E w (.fJ f cs) v):∃vs,v=.func (.func f) #[] ⟨vs⟩/\A8 E w cs vs:=by
 cases h with
 |ro h=>cases h
 |fJ hl h=>exact⟨_,rfl,hl,h⟩
theorem Rel.pc{E:Env}{w:World}{f:FuncId}{cs:List SV}{v:Value}(h:Rel E w (.gS f cs) v):∃vs,v=.func (.func f) ⟨vs⟩ #[]/\A8 E w cs vs:=by
 cases h with
 |ro h=>cases h
 |gS hl h=>exact⟨_,rfl,hl,h⟩
theorem Rel.qW{E:Env}{w:World}{f:FuncId}{v:Value}(h:Rel E w (.fn f) v):v=.func (.func f) #[] #[]:=by
 cases h with
 |ro h=>cases h with
  |fn h=>exact h
theorem Rel.aT{E:Env}{w:World}{k:IntKind}{t:ST}{v:Value}(h:Rel E w (.int k t) v):v=.int k t.den:=by
 cases h with
 |ro h=>cases h with
  |int h=>rw[h]
theorem Rel.bJ{E:Env}{w:World}{t:BT}{v:Value}(h:Rel E w (.bool t) v):v=.bool t.den:=by
 cases h with
 |ro h=>cases h with
  |bool h=>rw[h]
theorem Rel.cV{E:Env}{w:World}{s:List UInt8}{v:Value}(h:Rel E w (.str s) v):v=.string (bytes s):=by
 cases h with
 |ro h=>cases h with
  |str h=>exact h
theorem Rel.dL{E:Env}{w:World}{h off:Nat}{v:Value}(hr:Rel E w (.ptr h off) v):∃b,E.β h=some b/\v=.pointer (some ⟨b,off,none⟩):=by
 cases hr with
 |ro h=>cases h
 |ptr hb hv=>exact⟨_,hb,hv⟩
theorem Rel.iY{E:Env}{w:World}{nl:BT}{n:ST}{h:Nat}{v:Value}(hr:Rel E w (.bV nl n h) v):(∃a m c,v=.slice a m c/\n.den=(m:Int)/\(nl.den=true↔a=none))/\Tq E h n.den v:=by
 cases hr with
 |ro h=>cases h
 |bV ht hk=>exact⟨ht,hk⟩
theorem Rel.kH{E:Env}{w:World}{nl:BT}{n g:ST}{h:Nat}{v:Value}(hr:Rel E w (.cR nl n g h) v):(∃a m c,v=.slice a m c/\n.den=(m:Int)/\(nl.den=true↔a=none))/\NQ E h n.den g.den v:=by
 cases hr with
 |ro h=>cases h
 |cR ht hk=>exact⟨ht,hk⟩
theorem Rel.il{E:Env}{w:World}{n a:ST}{h:Nat}{v:Value}(hr:Rel E w (.kD n a h) v):(∃ad m c,v=.slice ad m c)/\OD E h n.den a.den v:=by
 cases hr with
 |ro h=>cases h
 |kD ht hk=>exact⟨ht,hk⟩
theorem Rel.nX{E:Env}{w:World}{n:ST}{h j off:Nat}{v:Value}(hr:Rel E w (.cN n h j off) v):(∃b o,v=.pointer (some ⟨b,o,none⟩))/\Ui E h j off n.den v:=by
 cases hr with
 |ro h=>cases h
 |cN hv ho=>exact⟨hv,ho⟩
theorem Rel.int{E:Env}{w:World}{k:IntKind}{t:ST}{n:Int}(h:t.den=n):Rel E w (.int k t) (.int k n):=.ro (.int h)
theorem Rel.bool{E:Env}{w:World}{t:BT}{b:Bool}(h:t.den=b):Rel E w (.bool t) (.bool b):=.ro (.bool h)
theorem Amm{E:Env}{w:World}{s:SV}{v:Value}(h:EC s=true)(hr:Rel E w s v):v.oneCell'=true:=by
 cases hr with
 |ro hr =>
  cases hr<;>first|rfl|(simp[EC]at h;done)|skip
  .rename_i h';rw[h'];rfl
  .rename_i h';subst h';exact h
  .rename_i h';rw[h'];rfl
  .rename_i h';rcases h' with⟨rfl,_⟩|⟨⟨_,_,rfl⟩,_⟩<;>rfl
 |ptr hb hv=>rw[hv];rfl
 |dO hr ht=>cases hr<;>rfl
 |dH hb hm hv=>rw[hv];rfl
 |cT hb hz hv=>rw[hv];rfl
 |bV ht hk=>obtain⟨a,m,c,rfl,_⟩:=ht;rfl
 |cN hv ho=>obtain⟨b,o,rfl⟩:=hv;rfl
 |bQ hb hv=>rw[hv];rfl
 |jI hb hn hv=>rw[hv];rfl
 |yv hb hv=>rw[hv];rfl
 |cR ht hk=>obtain⟨a,m,c,rfl,_⟩:=ht;rfl
 |kD ht hk=>obtain⟨a,m,c,rfl⟩:=ht;rfl
 |agg hl _=>simp[EC]at h
 |aI hl _=>simp[EC]at h
 |fJ hl _=>rfl
 |gS hl _=>rfl
theorem X2:∀ {cs:List SV} (_:Es cs=true) {i:Nat} {s:SV},cs[i]?=some s->EC s=true
 | [],_,i,s,hs=>by simp at hs
 |c :: cs,h,i,s,hs=>by
  simp only[Es,QE]at h;cases i with
  |zero=>simp at hs;subst hs;exact h.1
  |succ i=>simp at hs;exact X2 h.2 hs
theorem Mm{E:Env}{w:World}{cs:List SV}{vs:List Value}(h:Es cs=true)(hr:A8 E w cs vs):∀v∈vs,v.oneCell'=true:=by
 intro v hv;obtain⟨i,hi⟩:=List.mem_iff_getElem?.1 hv;have aC:i<cs.length:=by rw[hr.1];exact (List.getElem?_eq_some_iff.1 hi).1
 exact Amm (X2 h (QB aC)) (hr.2 i _ v (QB aC) hi)
theorem Id{E:Env}{w:World}{s:SV}{v:Value}(h:Es s.cells=true)(hr:Rel E w s v):A8 E w s.cells v.cells.toList:=by
 by_cases ha:∃cs,s=.agg cs
 .obtain⟨cs,rfl⟩:=ha
  obtain⟨vs,rfl,hl⟩:=hr.jB;exact hl
 .have hs:s.cells=[s]:=by
   cases s<;>first|rfl|exact (ha ⟨_,rfl⟩).elim
  rw[hs]at h ⊢;simp only[Es,Bool.and_true]at h;have h1:=Amm h hr;have hv:v.cells=#[v]:=by cases v<;>first|rfl|simp[Value.oneCell']at h1
  rw[hv];exact .cons hr .nil
def slotsOf(op:Op):List Nat:=op.operands.toList.flatMap C4
def EL(σ:Sy)(ff:Nat->SG)(o:Oper):Prop:=∀s∈slotsOf o.op,ff s=Bf σ s
def AgC(hp:List Hl)(hf:Nat->Hl)(x:Nat×Nat×Nat):Prop :=
 ∀ty cs,Aq hp x.1=.aF ty cs->∃dI,hf x.1=.aF ty dI/\dI.length=cs.length/\∀j,x.2.1<=j->j<x.2.1+x.2.2->dI[j]?=cs[j]?
def fx(hp:List Hl)(hf:Nat->Hl):Ef->Prop
 |.set h _ _=>∀ty cs,Aq hp h=.aF ty cs->∃dI,hf h=.aF ty dI/\dI.length=cs.length
 |.put h _=>hf h=Aq hp h
structure CB(hp:List Hl)(hf:Nat->Hl)(r:Out):Prop where
 tX:∀h∈r.tX,hf h=Aq hp h
 CJ:∀x∈r.CJ,AgC hp hf x
 fR:∀e∈r.fR,fx hp hf e
def fg(hf:Nat->Hl):Ef->Nat->Hl
 |.set h off vs=>match hf h with
  |.aF ty cs=>aU hf h (.aF ty (Dd cs off vs))
  |_=>hf
 |.put h hl=>aU hf h hl
def H8(hf:Nat->Hl):List Ef->Nat->Hl
 | []=>hf
 |e :: es=>H8 (fg hf e) es
def Yields(P:Program)(o:Oper)(r:Out)(B:Bs)(E:Env)(a:Act)(w:World)(hf:Nat->Hl):Prop :=
 ∀(K':Act->World->Prop) (Q:Exit->Act->World->Prop),
  (∀v w' E',Ext E w E' w'->Cr B E' w'->(∀h,bR E' w' h (H8 hf r.fR h))->Rel E' w' r.v v->K' (a.put o.dst v) w')->o.wp P a w K' Q
def Local(P:Program)(gl:List (Nat×SV))(σ:Sy)(T:List Nat)(o:Oper)(r:Out):Prop :=
 ∀(B:Bs) (N:Nat) (E:Env) (a:Act) (w:World) (ff:Nat->SG) (hf:Nat->Hl),Fm B gl->St B N E a w ff hf->EL σ ff o->CB σ.hp hf r->Bk (Ac σ.gm T)->Yields P o r B E a w hf
theorem Ad{P:Program}{o:Oper}{r:Out}{B:Bs}{N:Nat}{E:Env}{a:Act}{w:World}{ff:Nat->SG}{hf:Nat->Hl}(st:St B N E a w ff hf){v:Value}
  (hr:(execOp a.eval o).run P w=.ok (.value v) w) (he:r.fR=[]) (hv:Rel E w r.v v):Yields P o r B E a w hf:=by
 intro K' Q h;unfold Oper.wp;rw[hr];exact h v w E (Ext.refl E w) st.base (by rw[he];exact st.heap) hv
structure A4(P:Program)(cx:Cx):Prop where
 D:cx.D=dn
 tt:yN P cx.tt=true
 eqs:∀t∈cx.eqs,P.stoodInHeld t=false/\P.eqGuardType P.depth t=false/\∀f∈(P.fieldsOf t).toList,(f.name≠"_")
section
variable {P:Program} {cx:Cx} {σ:Sy} {T:List Nat} {o:Oper} {K:Out->Prop}
theorem A4.ti(h:A4 P cx){t:Nat}{ti:TI}(hl:look t cx.tt=some ti):Ew P t ti:=vo (Aa4 h.tt hl)
theorem bI{t n:Nat}(h:size? cx t=some n):∃ti,look t cx.tt=some ti/\ti.size=n:=by
 unfold size? at h;cases hl:look t cx.tt with
 |none=>rw[hl]at h;cases h
 |some ti=>rw[hl]at h;simp at h;exact⟨ti,rfl,h⟩
theorem Ew.sizeOf{t:Nat}{ti:TI}(h:Ew P t ti)(w:World):(sizeOf t).run P w=.ok ti.size w:=by
 obtain⟨i,z,hi,h1,_⟩:=h.info;simp[Go.sizeOf,typeInfo,hi,h1]
def Lf:TK->Bool
 |.struct _|.array _ _=>true
 |_=>false
theorem dG{t:Nat}{ti:TI}(hl:look t cx.tt=some ti):cK cx t=Lf ti.k:=by
 obtain⟨k,a,b,c⟩:=ti;unfold cK;rw[hl];cases k<;>rfl
theorem Ew.isAgg{t:Nat}{ti:TI}(h:Ew P t ti)(w:World):(isAgg t).run P w=.ok (Lf ti.k) w:=by
 obtain⟨d,hd,hk⟩:=h.yM;unfold Go.isAgg;simp only[Sem.run_bind,run_underlying hd,Result.andThen_ok];cases kZ:ti.k<;>rw[kZ]at hk<;>cases d<;>first|rfl|simp[Jw]at hk
theorem Ew.zero{t:Nat}{ti:TI}(h:Ew P t ti)(E:Env)(w:World):∃z,(zeroValue t).run P w=.ok z w/\A8 E w ti.zero z.cells.toList/\(∀v∈z.cells.toList,v.oneCell'=true):=by
 obtain⟨i,z,hi,h1,h2,h3,h4,_⟩:=h.info;refine⟨z,by simp[zeroValue,typeInfo,hi,h3],?_,?_⟩
 .obtain⟨a,b⟩:=Kb (I:=E.I) (w:=w) h4
  exact⟨a,λi s v h1 h2=>.ro (b i s v h1 h2)⟩
 .generalize z.cells.toList=vs at h4
  generalize ti.zero=ss at h4
  induction ss generalizing vs with
  |nil=>cases vs with
   |nil=>simp
   |cons v vs=>simp[vI]at h4
  |cons s ss ih=>cases vs with
   |nil=>simp[vI]at h4
   |cons v vs =>
    simp only[vI,QE]at h4;intro u hu;rcases List.mem_cons.1 hu with rfl|hu
    .exact Ak4 h4.1
    .exact ih vs h4.2 u hu
theorem Ak{σ:Sy}{ff:Nat->SG}{o:Oper}(h:EL σ ff o){x:Operand}(hx:x∈o.op.operands.toList):∀s∈C4 x,ff s=Bf σ s :=
 λs hs=>h s (by unfold slotsOf;exact List.mem_flatMap.2 ⟨x,hx,hs⟩)
theorem Nv{fs:List (Nat×TypeId)}{fields:Array Field}(h:(fields.toList.map λf=>(f.offset,f.type))=fs){i fo ft:Nat}(hi:nth fs i=some (fo,ft)):
  ∃f,fields[i]?=some f/\f.offset=fo/\f.type=ft:=by
 rw[Aj,<-h,QS]at hi;cases hf:fields.toList[i]? with
 |none=>rw[hf]at hi;cases hi
 |some f =>
  rw[hf]at hi;simp only[QQ,Option.some.injEq,Prod.mk.injEq]at hi;exact⟨f,by rw[<-QZ];exact hf,hi.1,hi.2⟩
theorem Ew.struct{t:Nat}{ti:TI}(h:Ew P t ti){fs:List (Nat×TypeId)}(hk:ti.k=.struct fs):
  ∃fields,P.underlying t=some (.struct fields)/\(fields.toList.map λf=>(f.offset,f.type))=fs/\∀f∈fields.toList,∃i,P.info? f.type=some i:=by
 obtain⟨d,hd,hb⟩:=h.yM;rw[hk]at hb;cases d<;>simp only[Jw,XE]at hb;rename_i fields;simp only[QE,QO,List.all_eq_true,Option.isSome_iff_exists]at hb;exact⟨fields,hd,hb.1,hb.2⟩
theorem Ew.slice{t:Nat}{ti:TI}(h:Ew P t ti){e:TypeId}(hk:ti.k=.slice e):P.underlying t=some (.slice e):=by
 obtain⟨d,hd,hb⟩:=h.yM;rw[hk]at hb;cases d<;>simp only[Jw,XE,QO]at hb;rw[hd,hb]
theorem Ew.array{t:Nat}{ti:TI}(h:Ew P t ti){n e:Nat}(hk:ti.k=.array n e):P.underlying t=some (.array n e):=by
 obtain⟨d,hd,hb⟩:=h.yM;rw[hk]at hb;cases d<;>simp only[Jw,XE,QO,QE]at hb;rw[hd,hb.1,hb.2]
theorem Ew.int{t:Nat}{ti:TI}(h:Ew P t ti){k:IntKind}(hk:ti.k=.int k):P.underlying t=some (.int k):=by
 obtain⟨d,hd,hb⟩:=h.yM;rw[hk]at hb;cases d<;>simp only[Jw,XE,QO]at hb;rw[hd,hb]
theorem Gi{s:Option SV}(h:ve K s):∃v,s=some v/\K ⟨v,[],[],[]⟩:=by
 cases s with
 |none=>exact h.elim
 |some v=>exact⟨v,rfl,h⟩
theorem Afk{x:Operand}(ho:o.op=.move x\/o.op=.assign x){v:SV}(hv:rd cx σ T x=some v):Local P cx.gl σ T o ⟨v,[],[],[]⟩:=by
 intro B N E a w ff hf hg st ag _ hT;have hx:x∈o.op.operands.toList:=by rcases ho with ho|ho<;>simp[ho,Op.operands]
 have:=Ab hv hg st (Ak ag hx) hT;refine Ad st (v:=a.eval x) ?_ rfl this;rcases ho with ho|ho<;>simp[execOp,ho]
theorem Ajp{n:Nat}(ho:o.op=.move (.const (.slice none 0 0))\/o.op=.assign (.const (.slice none 0 0))):Local P cx.gl σ T o ⟨.sl (.l true) (.l 0) n λ_=>[],[],[],[]⟩:=by
 intro B N E a w ff hf _ st _ _ _;refine Ad st (v:=.slice none 0 0) ?_ rfl (.ro (.slnil rfl rfl));rcases ho with ho|ho<;>simp[execOp,ho,Act.eval]
theorem Dc{w:World}{o:Obj}{b i:Nat}(h:b<w.heap.size):(w.alloc o).cell? ⟨b,i,none⟩=w.cell? ⟨b,i,none⟩:=by
 simp only[World.cell?];rw[heap_alloc_old w o h]
theorem Di{w:World}{o:Obj}{b:Nat}(h:b<w.heap.size):(w.alloc o).heap[b]?=w.heap[b]?:=heap_alloc_old w o h
theorem Bd{B:Bs}{E:Env}{w:World}(hb:Cr B E w){b h:Nat}(ho:E.O b=some h):b<w.heap.size:=(hb.cS b h ho).1
theorem bR.keep{E E':Env}{w w':World}{h:Nat}{hl:Hl}(x:Ext E w E' w')(hk:bR E w h hl)(fY:E'.β h=E.β h)(oP:E'.τ h=E.τ h)(GZ:E'.κ h=E.κ h)(HA:E'.ζ h=E.ζ h)
  (hO:∀b,E.O b=some h->E'.O b=some h/\w'.heap[b]?=w.heap[b]?/\∀o,E'.I b o->E.I b o):bR E' w' h hl:=by
 cases hl with
 |fresh=>exact⟨by rw[fY];exact hk.1,by rw[oP];exact hk.2.1,by rw[GZ];exact hk.2.2.1,by rw[HA];exact hk.2.2.2⟩
 |gone=>trivial
 |aF ty cs =>
  obtain⟨b,C,h1,h2,h3,h4,h5,h6,h7⟩:=hk;obtain⟨h8,h9,kC⟩:=hO b h2;exact⟨b,C,by rw[fY];exact h1,h8,by rw[h9];exact h3,h4,λi s v a b=>(h5 i s v a b).mono x,h6,λo ho=>h7 o (kC o ho)⟩
 |tail ty n sz =>
  obtain⟨v,m,xs,h1,h2,h3,h4,h5⟩:=hk;refine⟨v,m,xs,by rw[oP];exact h1,?_,h3,h4,λb hb=>?_⟩
  .refine⟨h2.1,?_⟩
   rcases h2.2 with hn|⟨g,cap,cur,rfl,hb,hg,rest⟩
   .exact .inl hn
   .obtain⟨_,h9,_⟩:=hO g (h5 g rfl).1
    exact .inr ⟨g,cap,cur,rfl,hb,by rw[h9];exact hg,rest⟩
  .obtain⟨h6,h7⟩:=h5 b hb
   obtain⟨h8,_,kC⟩:=hO b h6;exact⟨h8,λo ho hi=>h7 o ho (kC o hi)⟩
 |row ty n sz f =>
  obtain⟨b,C,m,h1,h2,hz,h3,h4,h5,h6,h7,h8⟩:=hk;obtain⟨h9,kC,od⟩:=hO b h3;exact⟨b,C,m,by rw[fY];exact h1,by rw[GZ];exact h2,by rw[HA];exact hz,h9,by rw[kC];exact h4,h5,h6,⟨h7.1,h7.2.1,λi j s v a b c=>(h7.2.2.1 i j s v a b c).mono x.I x.cell,h7.2.2.2⟩,λo ho=>h8 o (od o ho)⟩
 |own ty n sz gr f =>
  obtain⟨v,m,xs,h1,h2,h3,h4,h5,h6,h7⟩:=hk;refine⟨v,m,xs,by rw[oP];exact h1,by rw[HA];exact h2,h3.keep λb hb=>(hO b (h7 b hb).1).2.1,h4,h5,h6.mono x,λb hb=>?_⟩;obtain⟨q1,_,q3⟩:=hO b (h7 b hb).1;exact⟨q1,λo ho=>(h7 b hb).2 o (q3 o ho)⟩
 |nC T e s =>
  obtain⟨b,p,v,h1,h2,h3,h4,h5,h6,h7,h8⟩:=hk;obtain⟨q1,q2,q3⟩:=hO b h2;refine⟨b,p,v,by rw[fY];exact h1,q1,h3,by rw[q2];exact h4,?_,h6,λo ho=>h7 o (q3 o ho),λg hg=>?_⟩
  .refine⟨h5.1,?_⟩
   rcases h5.2 with hn|⟨g,cap,cur,rfl,hb,hg,rest⟩
   .exact .inl hn
   .exact .inr ⟨g,cap,cur,rfl,hb,by rw[(hO g (h8 g rfl).1).2.1];exact hg,rest⟩
  .obtain⟨r1,_,r3⟩:=hO g (h8 g hg).1
   exact⟨r1,λo ho=>(h8 g hg).2 o (r3 o ho)⟩
 |vec ty n g sz f =>
  obtain⟨a,c,m,G,xs,h1,h3,h4,h5,h6,h7,h8⟩:=hk;refine⟨a,c,m,G,xs,by rw[oP];exact h1,h3.keep λb hb=>(hO b (h8 b hb).1).2.1,h4,h5,h6,h7.mono x,λb hb=>?_⟩;obtain⟨q1,_,q3⟩:=hO b (h8 b hb).1;exact⟨q1,λo ho=>(h8 b hb).2 o (q3 o ho)⟩
 |dB F =>
  obtain⟨b,es,clock,h1,h2,h3,h4,h5,h6⟩:=hk;obtain⟨q1,q2,q3⟩:=hO b h2;exact⟨b,es,clock,by rw[fY];exact h1,q1,by rw[q2];exact h3,h4,h5,λo ho=>h6 o (q3 o ho)⟩
 |iP es =>
  obtain⟨b,ms,clock,h1,h2,h3,h4,h5,h6⟩:=hk;obtain⟨q1,q2,q3⟩:=hO b h2;exact⟨b,ms,clock,by rw[fY];exact h1,q1,by rw[q2];exact h3,h4,λi p e hp he=>⟨(h5 i p e hp he).1,(h5 i p e hp he).2.mono x⟩,λo ho=>h6 o (q3 o ho)⟩
 |bO c fr s pd =>
  obtain⟨b,r,h1,h2,h3,h4,h5,h6⟩:=hk;obtain⟨q1,q2,q3⟩:=hO b h2;exact⟨b,r,by rw[fY];exact h1,q1,by rw[q2];exact h3,h4,λi v hm=>⟨(h5 i v hm).1,(h5 i v hm).2.mono x⟩,λo ho=>h6 o (q3 o ho)⟩
theorem Zo{B:Bs}{N:Nat}{E:Env}{a:Act}{w:World}{ff:Nat->SG}{hf:Nat->Hl}(st:St B N E a w ff hf){h:Nat}(bN:hf h=.fresh){ty:TypeId}{cs:List SV}{C:Array Value}
  (hr:A8 E w cs C.toList) (h1:∀v∈C.toList,v.oneCell'=true):
  ∃E',Ext E w E' (w.alloc (.cells C ty))/\Cr B E' (w.alloc (.cells C ty))/\(∀k,bR E' (w.alloc (.cells C ty)) k (aU hf h (.aF ty cs) k))/\E'.β h=some w.heap.size:=by
 have hb:=st.base;have cI:=st.heap h;rw[bN]at cI;obtain⟨f1,f2,_,_⟩:=cI
 let E':Env:=⟨aU E.β h (some w.heap.size),E.τ,aU E.O w.heap.size (some h),E.κ,E.ζ,E.I⟩
 have hx:Ext E w E' (w.alloc (.cells C ty)):=by
  refine⟨λk b hk=>?_,λ_ _ h=>.inl h,λ_ _ h=>h,λ_ _ h=>h,λ_ _ h=>h,λb o hi=>Dc (hb.dP b o hi)⟩;show aU E.β h (some w.heap.size) k=some b;unfold aU
  by_cases e:k=h
  .subst e;rw[f1]at hk;cases hk
  .rw[QA e];exact hk
 refine⟨E',hx,⟨hb.os,hb.tape,hb.output,?_,?_,?_,?_,?_,?_,hb.cO.ext hx⟩,λk=>?_,by simp[E',aU]⟩
 .have:=hb.size;simp;omega
 .intro b aC hX;rw[Di (by have:=hb.size;omega)];exact hb.dY b aC hX
 .intro b o hi
  obtain⟨i1,i2⟩:=hb.I0 b o hi;exact⟨i1,by rw[Dc (hb.dP b o i1)];exact i2⟩
 .intro b o hi;have:=hb.dP b o hi;simp;omega
 .exact hb.cE
 .intro b k hO
  have hO:aU E.O w.heap.size (some h) b=some k:=hO;unfold aU at hO
  split at hO
  .rename_i e;subst e;have:=hb.size;simp;exact .inl this
  .obtain⟨o1,o2⟩:=hb.cS b k hO;simp;exact⟨by omega,o2⟩
 .by_cases e:k=h
  .subst e
   simp only[aU,QC];refine⟨w.heap.size,C,by simp[E',aU],by simp[E',aU],heap_alloc_new w _,by rw[hr.1];simp,λi s v p q=>(hr.2 i s v p (by simpa using q)).mono hx,λv hv=>h1 v (by simpa using hv),λo hi=>?_⟩;have:=hb.dP _ _ hi;omega
  .simp only[aU,QA e]
   refine bR.keep hx (st.heap k) (by simp[E',aU,e]) rfl rfl rfl λb hO=>?_;have aC:=Bd hb hO;exact⟨by simp[E',aU,YY aC];exact hO,Di aC,λ_ h=>h⟩
theorem Acr{e:TypeId}{ti:TI}(hc:A4 P cx)(ho:o.op=.alloc e)(hl:look e cx.tt=some ti):
  Local P cx.gl σ T o ⟨.ptr (Ai σ.hp) 0,[.put (Ai σ.hp) (.aF e ti.zero)],[],[]⟩:=by
 intro B N E a w ff hf _ st _ bL _ K' Q hK;obtain⟨z,hz,hr,h1⟩:=(hc.ti hl).zero E w;have bN:hf (Ai σ.hp)=.fresh:=by
  have:=bL.fR _ (List.mem_singleton.2 rfl);simp only[fx,Aq,Aj,Ag]at this;rw[Ag,this];simp
 obtain⟨E',hx,hb,hh,fY⟩:=Zo st bN (ty:=e) hr h1;unfold Oper.wp;have:(execOp a.eval o).run P w=.ok (.value (.pointer (some ⟨w.heap.size,0,none⟩))) (w.alloc (.cells z.cells e)):=by
  simp[execOp,ho,Instr.alloc,hz,newVar,newRow,newObj,Sem.run]
 rw[this];exact hK _ _ E' hx hb hh (.ptr fY rfl)
theorem Ajt{e:TypeId}{x:Operand}{v:SV}(ho:o.op=.box e x)(hv:rd cx σ T x=some v)(h1:Es v.cells=true):
  Local P cx.gl σ T o ⟨.ptr (Ai σ.hp) 0,[.put (Ai σ.hp) (.aF e v.cells)],[],[]⟩:=by
 intro B N E a w ff hf hg st ag bL hT K' Q hK;have hr:=Ab hv hg st (Ak ag (by simp[ho,Op.operands])) hT;have hc:=Id h1 hr;have bN:hf (Ai σ.hp)=.fresh:=by
  have:=bL.fR _ (List.mem_singleton.2 rfl);simp only[fx,Aq,Aj,Ag]at this;rw[Ag,this];simp
 obtain⟨E',hx,hb,hh,fY⟩:=Zo st bN (ty:=e) hc (Mm h1 hc);unfold Oper.wp;have:(execOp a.eval o).run P w=.ok (.value (.pointer (some ⟨w.heap.size,0,none⟩))) (w.alloc (.cells (a.eval x).cells e)):=by
  simp[execOp,ho,Instr.box,newVar,newRow,newObj,Sem.run]
 rw[this];exact hK _ _ E' hx hb hh (.ptr fY rfl)
end
end Go.Sx
