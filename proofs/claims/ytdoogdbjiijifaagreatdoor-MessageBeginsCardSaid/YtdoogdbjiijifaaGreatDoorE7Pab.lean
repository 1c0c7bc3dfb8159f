/- A part of the proof: contracts of functions, or the executor and its soundness. No conditions. -/
import Derived.Lib.Builder
import Derived.Test.YtdoogdbjiijifaaGreatDoorE7Paa
namespace Go.Sx
open Go
structure Env where
 β:Nat->Option Nat
 τ:Nat->Option Value
 O:Nat->Option Nat
 κ:Nat->Option Nat
 ζ:Nat->Option Nat
 I:Nat->Nat->Prop
def bytes(l:List UInt8):ByteArray:=⟨⟨l⟩⟩
inductive RO(I:Nat->Nat->Prop)(w:World):SV->Value->Prop where
 |int {k:IntKind} {t:ST} {n:Int} (h:t.den=n):RO I w (.int k t) (.int k n)
 |bool {t:BT} {b:Bool} (h:t.den=b):RO I w (.bool t) (.bool b)
 |str {s:List UInt8} {v:Value} (h:v=.string (bytes s)):RO I w (.str s) v
 |iC:RO I w .iC (.pointer none)
 |raw {v v':Value} (h:v'=v):RO I w (.raw v) v'
 |fn {f:FuncId} {v:Value} (h:v=.func (.func f) #[] #[]):RO I w (.fn f) v
 |ifc {b:BT} {v:Value} (h:(v=.nilIface/\b.den=true)\/((∃t x,v=.iface t x)/\b.den=false)):RO I w (.ifc b) v
 |slnil {nl:BT} {n:ST} {sz:Nat} {f:Nat->List SV} (h:nl.den=true) (hn:n.den=0):RO I w (.sl nl n sz f) (.slice none 0 0)
 |sl {nl:BT} {n:ST} {sz:Nat} {f:Nat->List SV} {a:Addr} {m cap:Nat} (g:Nat->Nat->Value) (h:nl.den=false) (hn:n.den=(m:Int)) (hc:m<=cap) (fX:cap<=maxLen)
   (hs:0<m->a.spot=none)
   (hl:∀i,i<m->(f i).length=sz) (h1:∀i j,i<m->j<sz->(g i j).oneCell'=true)
   (aK:∀i j,i<m->j<sz->w.cell? ⟨a.block,a.off+(i * sz+j),none⟩=some (g i j)/\I a.block (a.off+(i * sz+j)))
   (aY:∀(i j:Nat) (s:SV),i<m->(f i)[j]?=some s->RO I w s (g i j)):RO I w (.sl nl n sz f) (.slice (some a) m cap)
 |dB {cs:List SV} {a:Addr} (g:Nat->Value) (hs:a.spot=none) (h1:∀j,j<cs.length->(g j).oneCell'=true) (aK:∀j,j<cs.length->w.cell? ⟨a.block,a.off+j,none⟩=some (g j)/\I a.block (a.off+j))
   (aY:∀(j:Nat) (s:SV),cs[j]?=some s->RO I w s (g j)):RO I w (.dB cs) (.pointer (some a))
 |dP {n sz:Nat} {f:Nat->List SV} {a:Addr} (g:Nat->Nat->Value) (hs:a.spot=none) (hl:∀i,i<n->(f i).length=sz) (h1:∀i j,i<n->j<sz->(g i j).oneCell'=true)
   (aK:∀i j,i<n->j<sz->w.cell? ⟨a.block,a.off+(i * sz+j),none⟩=some (g i j)/\I a.block (a.off+(i * sz+j)))
   (aY:∀(i j:Nat) (s:SV),i<n->(f i)[j]?=some s->RO I w s (g i j)):RO I w (.dP n sz f) (.pointer (some a))
 |agg {cs:List SV} {vs:List Value} (hl:cs.length=vs.length) (h:∀(i:Nat) (s:SV) (v:Value),cs[i]?=some s->vs[i]?=some v->RO I w s v):RO I w (.agg cs) (.agg ⟨vs⟩)
theorem RO.mono{I I':Nat->Nat->Prop}{w w':World}{s:SV}{v:Value}(h:RO I w s v)
  (hI:∀b o,I b o->I' b o) (hw:∀b o,I b o->w'.cell? ⟨b,o,none⟩=w.cell? ⟨b,o,none⟩):RO I' w' s v:=by
 induction h with
 |int h=>exact .int h
 |bool h=>exact .bool h
 |str h=>exact .str h
 |iC=>exact .iC
 |raw h=>exact .raw h
 |fn h=>exact .fn h
 |ifc h=>exact .ifc h
 |slnil h hn=>exact .slnil h hn
 |sl g h hn hc fX hs hl h1 aK aY ih =>
  exact .sl g h hn hc fX hs hl h1 (λi j hi hj=>⟨by rw[hw _ _ (aK i j hi hj).2];exact (aK i j hi hj).1,hI _ _ (aK i j hi hj).2⟩) ih
 |dB g hs h1 aK aY ih =>
  exact .dB g hs h1 (λj hj=>⟨by rw[hw _ _ (aK j hj).2];exact (aK j hj).1,hI _ _ (aK j hj).2⟩) ih
 |dP g hs hl h1 aK aY ih =>
  exact .dP g hs hl h1 (λi j hi hj=>⟨by rw[hw _ _ (aK i j hi hj).2];exact (aK i j hi hj).1,hI _ _ (aK i j hi hj).2⟩) ih
 |agg hl h ih=>exact .agg hl ih
def T3(E:Env)(h:Nat)(n:Int)(v:Value):Prop :=
 ∃a m c,E.τ h=some (.slice a m c)/\n<=(m:Int)/\(n=(m:Int)->v=.slice a m c)
def Uz(E:Env)(h j off:Nat)(n:Int)(v:Value):Prop :=
 ∃a m c sz,E.τ h=some (.slice a m c)/\E.ζ h=some sz/\n<=(m:Int)/\(n=(m:Int)->∃b,a=some ⟨b,0,none⟩/\v=.pointer (some ⟨b,j * sz+off,none⟩))
def PT(ad:Option Addr)(m c sz k:Nat):Value:=.slice (if c=k then ad else ad.map (·.add (k * sz))) (m-k) (c-k)
def NI(E:Env)(h:Nat)(n a:Int)(v:Value):Prop :=
 ∃ad m c sz,E.τ h=some (.slice ad m c)/\E.ζ h=some sz/\n<=(m:Int)/\(n=(m:Int)->∃k:Nat,a=(k:Int)/\k<=m/\v=PT ad m c sz k)
def MX(E:Env)(h:Nat)(n g:Int)(v:Value):Prop :=
 ∃a G c,E.τ h=some (.slice a G c)/\g<=(G:Int)/\(g=(G:Int)->∃m:Nat,n=(m:Int)/\v=.slice a m c)
inductive Rel(E:Env)(w:World):SV->Value->Prop where
 |ro {s:SV} {v:Value} (h:RO E.I w s v):Rel E w s v
 |ptr {h off b:Nat} {v:Value} (hb:E.β h=some b) (hv:v=.pointer (some ⟨b,off,none⟩)):Rel E w (.ptr h off) v
 |eD {nl:BT} {n:ST} {sz:Nat} {f:Nat->List SV} {h:Nat} {v:Value} (hr:RO E.I w (.sl nl n sz f) v) (ht:T3 E h n.den v):Rel E w (.eD nl n sz f h) v
 |dM {h b m:Nat} {v:Value} (hb:E.β h=some b) (hm:E.κ h=some m) (hv:v=.slice (some ⟨b,0,none⟩) m m):Rel E w (.dM h) v
 |cU {h j off b:Nat} {sz:Nat} {v:Value} (hb:E.β h=some b) (hz:E.ζ h=some sz) (hv:v=.pointer (some ⟨b,j * sz+off,none⟩)):Rel E w (.cU h j off) v
 |bY {nl:BT} {n:ST} {h:Nat} {v:Value} (ht:∃a m c,v=.slice a m c/\n.den=(m:Int)/\(nl.den=true↔a=none)) (hk:T3 E h n.den v):Rel E w (.bY nl n h) v
 |cK {n:ST} {h j off:Nat} {v:Value} (hv:∃b o,v=.pointer (some ⟨b,o,none⟩)) (ho:Uz E h j off n.den v):Rel E w (.cK n h j off) v
 |bP {h b:Nat} {v:Value} (hb:E.β h=some b) (hv:v=.map (some b)):Rel E w (.bP h) v
 |yv {h b:Nat} {v:Value} (hb:E.β h=some b) (hv:v=.func (.yield b) #[] #[]):Rel E w (.yv h) v
 |fB {nl:BT} {n g:ST} {h:Nat} {v:Value} (ht:∃a m c,v=.slice a m c/\n.den=(m:Int)/\(nl.den=true↔a=none)) (hk:MX E h n.den g.den v):Rel E w (.fB nl n g h) v
 |jS {n a:ST} {h:Nat} {v:Value} (ht:∃ad m c,v=.slice ad m c) (hk:NI E h n.den a.den v):Rel E w (.jS n a h) v
 |agg {cs:List SV} {vs:List Value} (hl:cs.length=vs.length) (h:∀(i:Nat) (s:SV) (v:Value),cs[i]?=some s->vs[i]?=some v->Rel E w s v):Rel E w (.agg cs) (.agg ⟨vs⟩)
 |tup {cs:List SV} {vs:List Value} (hl:cs.length=vs.length) (h:∀(i:Nat) (s:SV) (v:Value),cs[i]?=some s->vs[i]?=some v->Rel E w s v):Rel E w (.tup cs) (.tuple ⟨vs⟩)
 |fI {f:FuncId} {cs:List SV} {vs:List Value} (hl:cs.length=vs.length) (h:∀(i:Nat) (s:SV) (v:Value),cs[i]?=some s->vs[i]?=some v->Rel E w s v):Rel E w (.fI f cs) (.func (.func f) #[] ⟨vs⟩)
structure Ext(E:Env)(w:World)(E':Env)(w':World):Prop where
 β:∀h b,E.β h=some b->E'.β h=some b
 τ:∀h v,E.τ h=some v->E'.τ h=some v\/∃a m c a' m' c',v=.slice a m c/\E'.τ h=some (.slice a' m' c')/\m<m'
 κ:∀h m,E.κ h=some m->E'.κ h=some m
 ζ:∀h m,E.ζ h=some m->E'.ζ h=some m
 I:∀b o,E.I b o->E'.I b o
 cell:∀b o,E.I b o->w'.cell? ⟨b,o,none⟩=w.cell? ⟨b,o,none⟩
theorem Ext.refl(E:Env)(w:World):Ext E w E w:=⟨λ_ _ h=>h,λ_ _ h=>.inl h,λ_ _ h=>h,λ_ _ h=>h,λ_ _ h=>h,λ_ _ _=>rfl⟩
theorem T3.mono{E E':Env}{w w':World}{h:Nat}{n:Int}{v:Value}(x:Ext E w E' w')(ht:T3 E h n v):T3 E' h n v:=by
 obtain⟨a,m,c,h1,h2,h3⟩:=ht;rcases x.τ h _ h1 with h4|⟨a0,m0,c0,a',m',c',e,h5,aA⟩
 .exact⟨a,m,c,h4,h2,h3⟩
 .cases e
  exact⟨a',m',c',h5,by omega,λe=>by omega⟩
theorem MX.mono{E E':Env}{w w':World}{h:Nat}{n g:Int}{v:Value}(x:Ext E w E' w')(ht:MX E h n g v):MX E' h n g v:=by
 obtain⟨a,m,c,h1,h2,h3⟩:=ht;rcases x.τ h _ h1 with h4|⟨a0,m0,c0,a',m',c',e,h5,aA⟩
 .exact⟨a,m,c,h4,h2,h3⟩
 .cases e
  exact⟨a',m',c',h5,by omega,λe=>by omega⟩
theorem Uz.mono{E E':Env}{w w':World}{h j off:Nat}{n:Int}{v:Value}(x:Ext E w E' w')(ht:Uz E h j off n v):Uz E' h j off n v:=by
 obtain⟨a,m,c,sz,h1,h0,h2,h3⟩:=ht;rcases x.τ h _ h1 with h4|⟨a0,m0,c0,a',m',c',e,h5,aA⟩
 .exact⟨a,m,c,sz,h4,x.ζ _ _ h0,h2,h3⟩
 .cases e
  exact⟨a',m',c',sz,h5,x.ζ _ _ h0,by omega,λe=>by omega⟩
theorem NI.mono{E E':Env}{w w':World}{h:Nat}{n a:Int}{v:Value}(x:Ext E w E' w')(ht:NI E h n a v):NI E' h n a v:=by
 obtain⟨ad,m,c,sz,h1,h0,h2,h3⟩:=ht;rcases x.τ h _ h1 with h4|⟨a0,m0,c0,a',m',c',e,h5,aA⟩
 .exact⟨ad,m,c,sz,h4,x.ζ _ _ h0,h2,h3⟩
 .cases e
  exact⟨a',m',c',sz,h5,x.ζ _ _ h0,by omega,λe=>by omega⟩
theorem Rel.mono{E E':Env}{w w':World}{s:SV}{v:Value}(x:Ext E w E' w')(h:Rel E w s v):Rel E' w' s v:=by
 induction h with
 |ro h=>exact .ro (h.mono x.I x.cell)
 |ptr hb hv=>exact .ptr (x.β _ _ hb) hv
 |eD hr ht=>exact .eD (hr.mono x.I x.cell) (ht.mono x)
 |dM hb hm hv=>exact .dM (x.β _ _ hb) (x.κ _ _ hm) hv
 |cU hb hz hv=>exact .cU (x.β _ _ hb) (x.ζ _ _ hz) hv
 |bY ht hk=>exact .bY ht (hk.mono x)
 |cK hv ho=>exact .cK hv (ho.mono x)
 |bP hb hv=>exact .bP (x.β _ _ hb) hv
 |yv hb hv=>exact .yv (x.β _ _ hb) hv
 |fB ht hk=>exact .fB ht (hk.mono x)
 |jS ht hk=>exact .jS ht (hk.mono x)
 |agg hl _ ih=>exact .agg hl ih
 |tup hl _ ih=>exact .tup hl ih
 |fI hl _ ih=>exact .fI hl ih
structure Bs where
 w0:World
 X:Nat->Prop
 I0:Nat->Nat->Prop
 cS:Nat->Option Nat
 nF:Nat->Option Value
 nG:Nat->Option Nat
 dl:List Nat
def Pw(v:Value)(o:Option Value):Prop:=o=some v\/∃a m c a' m' c',v=.slice a m c/\o=some (.slice a' m' c')/\m<m'
theorem Pw.trans{u v:Value}{o:Option Value}(h1:Pw u (some v))(h2:Pw v o):Pw u o:=by
 rcases h1 with h1|⟨a,m,c,a',m',c',e,h1,aA⟩
 .cases h1;exact h2
 .cases h1
  rcases h2 with h2|⟨a1,m1,c1,a2,m2,c2,e2,h2,eC⟩
  .exact .inr ⟨a,m,c,a',m',c',e,h2,aA⟩
  .cases e2
   exact .inr ⟨a,m,c,a2,m2,c2,e,h2,by omega⟩
structure M7(B:Bs)(E:Env):Prop where
 β:∀h b,B.cS h=some b->E.β h=some b
 τ:∀h v,B.nF h=some v->Pw v (E.τ h)
 ζ:∀h n,B.nG h=some n->E.ζ h=some n
theorem M7.ext{B:Bs}{E E':Env}{w w':World}(x:Ext E w E' w')(h:M7 B E):M7 B E':=by
 refine⟨λk b hk=>x.β k b (h.β k b hk),λk v hk=>?_,λk n hk=>x.ζ k n (h.ζ k n hk)⟩;have h1:=h.τ k v hk;cases he:E.τ k with
 |none=>rw[he]at h1;rcases h1 with h1|⟨_,_,_,_,_,_,_,h1,_⟩<;>cases h1
 |some u =>
  rw[he]at h1;exact h1.trans (x.τ k u he)
structure B8(B:Bs)(E:Env)(w:World):Prop where
 os:w.os=B.w0.os
 tape:w.tape=B.w0.tape
 output:w.output=B.w0.output
 size:B.w0.heap.size<=w.heap.size
 old:∀b,b<B.w0.heap.size->¬B.X b->w.heap[b]?=B.w0.heap[b]?
 I0:∀b o,B.I0 b o->E.I b o/\w.cell? ⟨b,o,none⟩=B.w0.cell? ⟨b,o,none⟩
 eJ:∀b o,E.I b o->b<w.heap.size
 cE:∀b o,E.I b o->B.I0 b o\/B.w0.heap.size<=b\/B.X b
 dG:∀b h,E.O b=some h->b<w.heap.size/\(B.w0.heap.size<=b\/B.X b)
 cS:M7 B E
def Rk(E:Env)(w:World)(f:Nat->List SV)(m sz:Nat)(C:Array Value):Prop :=
 C.size=m * sz/\(∀i,i<m->(f i).length=sz)/\(∀(i j:Nat) (s:SV) (v:Value),i<m->(f i)[j]?=some s->C[i * sz+j]?=some v->RO E.I w s v)/\∀v,v∈C->v.oneCell'=true
def Cu(w:World)(gr:Bool)(e:TypeId)(sz:Nat)(v:Value)(m:Nat)(xs:List Value):Prop :=
 xs.length=m * sz/\((v=.slice none 0 0/\m=0)\/∃g cap cur fr,v=.slice (some ⟨g,0,none⟩) m cap/\w.heap[g]?=some (.cells cur e fr)/\(fr=(0,0)\/gr=false/\fr=(cur.size,cur.size+1))/\m<=cap/\cap<=maxLen/\cur.size=cap * sz/\cur.toList.take (m * sz)=xs)
theorem Qa{w:World}{e:TypeId}{sz m:Nat}{v:Value}{xs:List Value}(gr:Bool)(h:w.ownsRow 0 e sz v m xs):Cu w gr e sz v m xs:=by
 refine⟨h.1,?_⟩;rcases h.2 with h|⟨g,cap,cur,h1,_,h2,h3⟩
 .exact .inl h
 .exact .inr ⟨g,cap,cur,(0,0),h1,h2,.inl rfl,h3⟩
theorem Cu.row{w:World}{e:TypeId}{sz m:Nat}{v:Value}{xs:List Value}(h:Cu w true e sz v m xs):w.ownsRow 0 e sz v m xs:=by
 refine⟨h.1,?_⟩;rcases h.2 with h|⟨g,cap,cur,fr,h1,h2,h3,h4⟩
 .exact .inl h
 .rcases h3 with rfl|⟨h3,_⟩
  .exact .inr ⟨g,cap,cur,h1,ZD _,h2,h4⟩
  .cases h3
theorem Cu.shape{w:World}{gr:Bool}{e:TypeId}{sz m:Nat}{v:Value}{xs:List Value}(h:Cu w gr e sz v m xs):∃a c,v=.slice a m c:=by
 rcases h.2 with⟨h,h2⟩|⟨g,cap,cur,fr,h1,h2⟩
 .exact⟨none,0,by rw[h,h2]⟩
 .exact⟨_,_,h1⟩
theorem Cu.keep{w w':World}{gr:Bool}{e:TypeId}{sz m:Nat}{v:Value}{xs:List Value}(h:Cu w gr e sz v m xs)(hb:∀b,v.ownBlock=some b->w'.heap[b]?=w.heap[b]?):Cu w' gr e sz v m xs:=by
 refine⟨h.1,?_⟩;rcases h.2 with h|⟨g,cap,cur,fr,rfl,h2⟩
 .exact .inl h
 .exact .inr ⟨g,cap,cur,fr,rfl,by rw[hb g rfl];exact h2⟩
def Gx(E:Env)(w:World)(f:Nat->List SV)(m sz:Nat)(xs:List Value):Prop :=
 (∀i,i<m->(f i).length=sz)/\∀(i j:Nat) (s:SV) (u:Value),i<m->(f i)[j]?=some s->xs[i * sz+j]?=some u->RO E.I w s u
theorem Gx.mono{E E':Env}{w w':World}{f:Nat->List SV}{m sz:Nat}{xs:List Value}(x:Ext E w E' w')(h:Gx E w f m sz xs):Gx E' w' f m sz xs :=
 ⟨h.1,λi j s u hi hs hu=>(h.2 i j s u hi hs hu).mono x.I x.cell⟩
def Fj:List MapEntry->List UInt8->Bool
 | [],_=>false
 |e :: es,s=>match e.key with
  |.string x=>if x=bytes s then (match e.val with|.bool v=>v|_=>false) else Fj es s
  |_=>Fj es s
def se:LoopState->Nat
 |.ready=>0
 |.busy=>1
 |.done=>2
 |.exhausted=>3
structure LV(c:LC)(st:Nat)(pd:Option Jp)(r:Loop):Prop where
 fn:r.fn=c.fn
 ps:r.params=c.ps
 assign:r.assign=c.assign
 body:r.body=c.body
 n:r.tmps.size=c.n
 st:se r.state=st
 pd:r.pending=pd.map Jp.code
def bO(E:Env)(w:World)(h:Nat):Hl->Prop
 |.fresh=>E.β h=none/\E.τ h=none/\E.κ h=none/\E.ζ h=none
 |.gone=>True
 |.aE ty cs=>∃b C,E.β h=some b/\E.O b=some h/\w.heap[b]?=some (.cells C ty (0,0))/\C.size=cs.length/\
   (∀(i:Nat) (s:SV) (v:Value),cs[i]?=some s->C[i]?=some v->Rel E w s v)/\(∀v,v∈C->v.oneCell'=true)/\∀o,¬E.I b o
 |.tail ty n sz=>∃v m xs,E.τ h=some v/\w.ownsRow 0 ty sz v m xs/\n.den=(m:Int)/\(∀v,v∈xs->v.oneCell'=true)/\
   ∀b,v.ownBlock=some b->E.O b=some h/\∀o,m * sz<=o->¬E.I b o
 |.row ty n sz f=>∃b C m,E.β h=some b/\E.κ h=some m/\E.ζ h=some sz/\E.O b=some h/\w.heap[b]?=some (.cells C ty (0,0))/\n.den=(m:Int)/\m<=maxLen/\Rk E w f m sz C/\∀o,¬E.I b o
 |.own ty n sz gr f=>∃v m xs,E.τ h=some v/\E.ζ h=some sz/\Cu w gr ty sz v m xs/\n.den=(m:Int)/\(∀u,u∈xs->u.oneCell'=true)/\Gx E w f m sz xs/\∀b,v.ownBlock=some b->E.O b=some h/\∀o,¬E.I b o
 |.lZ T e s=>∃b p v,E.β h=some b/\E.O b=some h/\(p=.pointer none\/p=.pointer (some ⟨b,0,none⟩))/\w.heap[b]?=some (.cells #[p,v] T (0,0))/\w.ownsRow 0 e 1 v s.length (Lib.byteCells s)/\v.ownBlock≠some b/\
   (∀o,¬E.I b o)/\∀g,v.ownBlock=some g->E.O g=some h/\∀o,¬E.I g o
 |.vec ty n g sz f=>∃a c m G xs,E.τ h=some (.slice a G c)/\Cu w true ty sz (.slice a m c) m xs/\n.den=(m:Int)/\g.den=(G:Int)/\(∀u,u∈xs->u.oneCell'=true)/\Gx E w f m sz xs/\∀b,(Value.slice a m c).ownBlock=some b->E.O b=some h/\∀o,¬E.I b o
 |.dC F=>∃b es clock,E.β h=some b/\E.O b=some h/\w.heap[b]?=some (.map es clock)/\(∀e∈es.toList,∃s v,e.key=.string (bytes s)/\e.val=.bool v)/\(∀s,Fj es.toList s=F s)/\∀o,¬E.I b o
 |.bK c fr st pd=>∃b r,E.β h=some b/\E.O b=some h/\w.heap[b]?=some (.loop r)/\LV c st pd r/\(∀s v,(s,some v)∈fr->s<c.n/\Rel E w v (r.tmps.getD s undef))/\∀o,¬E.I b o
def Ba:List BT->Prop
 | []=>True
 |b :: l=>b.den=true/\Ba l
abbrev SG:=Option (List BT×SV)
def Bf(E:Env)(w:World)(a:Act)(s:Nat):SG->Prop
 |none=>True
 |some (cs,v)=>s<a.tmps.size/\(Ba cs->Rel E w v (a.tmps.getD s undef))/\(¬Ba cs->a.tmps.getD s undef=undef)
def Va(r:Nat):Deferred:={ target:=.collected r,args:=#[] }
structure St(B:Bs)(N:Nat)(E:Env)(a:Act)(w:World)(ff:Nat->SG)(hf:Nat->Hl):Prop where
 base:B8 B E w
 heap:∀h,bO E w h (hf h)
 slot:∀s,Bf E w a s (ff s)
 size:a.tmps.size=N
 defers:a.defers=B.dl.map Va
theorem St.step{B:Bs}{N:Nat}{E E':Env}{a:Act}{w w':World}{ff:Nat->SG}{hf cR:Nat->Hl}(h:St B N E a w ff hf)(x:Ext E w E' w')(hb:B8 B E' w')
  (hh:∀k,bO E' w' k (cR k)):St B N E' a w' ff cR where
 base:=hb
 heap:=hh
 slot:=λs=>by
  have:=h.slot s;cases hs:ff s with
  |none=>trivial
  |some p =>
   rw[hs]at this;exact⟨this.1,λha=>(this.2.1 ha).mono x,this.2.2⟩
 size:=h.size
 defers:=h.defers
def aL{α:Type}(f:Nat->α)(k:Nat)(x:α):Nat->α:=λj=>if j=k then x else f j
def AT{α:Type}(f:Nat->α)(k:Option Nat)(x:α):Nat->α:=match k with
 |some k=>aL f k x
 |none=>f
theorem Pd{a:Act}{d s:Nat}{v:Value}(h:s<a.tmps.size):(a.put (some d) v).tmps.getD s undef=if s=d then v else a.tmps.getD s undef:=by
 simp only[Act.put,QM]
 by_cases e:s=d
 .subst e;simp[h]
 .rw[QD e,XX (λe'=>e e'.symm)]
theorem St.put{B:Bs}{N:Nat}{E:Env}{a:Act}{w:World}{ff:Nat->SG}{hf:Nat->Hl}(h:St B N E a w ff hf)(d:Option Nat)(v:Value)(g:SG)
  (hg:∀cs s,g=some (cs,s)->(Ba cs->Rel E w s v)/\(¬Ba cs->v=undef)) (hd:∀k,d=some k->k<N):St B N E (a.put d v) w (AT ff d g) hf:=by
 cases d with
 |none=>exact h
 |some k =>
  refine⟨h.base,h.heap,λs=>?_,by simp[Act.put,h.size],h.defers⟩;have hk:=hd k rfl
  by_cases e:s=k
  .subst e
   simp only[AT,aL,QE];cases g with
   |none=>trivial
   |some p =>
    obtain⟨cs,x⟩:=p;obtain⟨h1,h2⟩:=hg cs x rfl;have hs:s<a.tmps.size:=by rw[h.size];exact hk
    refine⟨by simp[Act.put];exact hs,λha=>?_,λha=>?_⟩
    .rw[Pd hs,QE rfl];exact h1 ha
    .rw[Pd hs,QE rfl];exact h2 ha
  .have:=h.slot s
   simp only[AT,aL,QD e];cases hs:ff s with
   |none=>trivial
   |some p =>
    rw[hs]at this;obtain⟨h1,h2,h3⟩:=this;refine⟨by simp[Act.put];exact h1,?_,?_⟩
    .rw[Pd h1,QD e];exact h2
    .rw[Pd h1,QD e];exact h3
def Ap(hp:List Hl):Nat->Hl:=λh=>(nth hp h).getD .fresh
def fE(s s':SV):Prop:=∀(E:Env) (w:World) (v:Value),Rel E w s v->Rel E w s' v
def vT(ls aI:List Hl):Prop:=∀(h:Nat) (E:Env) (w:World),bO E w h (Ap ls h)->bO E w h (Ap aI h)
structure Fin(r' r:SV)(eG aI:List Hl):Prop where
 v:fE r' r
 h:vT eG aI
 len:aI.length<=eG.length
def NC:List SV->SV
 | [v]=>v
 |vs=>.tup vs
def Xy:Nat->List Nat
 |0=>[]
 |n+1=>Xy n++[n]
def jm:List Nat->List Nat->Bool
 | [],[]=>true
 |x :: l,y :: t=>x==y&&jm l t
 |_,_=>false
def MJ(cx:Cx)(m:Nat)(vs:List SV)(σ:Sy)(K:SV->List Hl->Prop):Prop :=
 match loose (norm cx.D (NC vs)) with
 |r =>
  match reach σ.hp σ.hp (Lu (Xy m) (iQ r)) with
  |hs =>
   match Vv cx.D σ.hp hs with
   |ls =>
    if Qd hs&&jm (takeN m hs) (Xy m)&&Wy hs (iQ r)&&Bw r&&sc (Ag σ.hp) hs&&Mi hs ls then K (nI (H4 hs) r) (Xi (lT (H4 hs)) ls) else False
structure AF(c:LC)(ps:Array Tmp)(assign body:Code)(n:Nat):Prop where
 ps:c.ps=ps
 assign:c.assign=assign
 body:c.body=body
 n:c.n=n
def D6:List Tmp->List SV->List (Option G)->Option (List (Option G))
 | [],[],fr=>some fr
 |p :: ps,v :: vs,fr=>D6 ps vs (A0 fr p (some ⟨[],none,none,v⟩))
 |_,_,_=>none
def dp:Ex->Nat×Option Jp×Bool
 |.normal=>(0,none,true)
 |.ret=>(2,some .ret,false)
 |.exit id=>(2,some (.exit id),false)
 |.goto l=>(2,some (.goto l),false)
def KF:Option Jp->Ex
 |none=>.normal
 |some .ret=>.ret
 |some (.exit id)=>.exit id
 |some (.goto l)=>.goto l
def Io:Code->Bool
 |.seq a b=>Io a&&Io b
 |.cond _ t e=>Io t&&Io e
 |.block _ b=>Io b
 |.loop b=>Io b
 |.scope b=>Io b
 |.rangeFunc ..=>false
 |_=>true
def Uk(cx:Cx)(m:Nat)(K:SV->List Hl->Prop)(e:Ex)(σ:Sy):Prop :=
 match nth σ.hp 0,dp e with
 |some (.bK c fr 1 none),(st,pd,b)=>MJ cx m [.bool (.l b)] ⟨σ.fr,A0 σ.hp 0 (.bK c fr st pd),σ.gm⟩ K
 |_,_=>False
def Afv(_c:LC)(ps:Array Tmp)(n:Nat)(xs:List SV)(ls:List Hl):Option (List (Option G)) :=
 match xs,ls with
 |.yv 0 :: vs,.bK _ fr 0 none :: _=>D6 ps.toList vs (Ou fr (List.replicate n none))
 |_,_=>none
def PC:SV->Option (FuncId×List SV)
 |.fI f cs=>some (f,cs)
 |.fn f=>some (f,[])
 |_=>none
def Afb(X:Sy->(Ex->Sy->Prop)->Prop):Nat->Sy->(Ex->Sy->Prop)->Prop
 |0,_,_=>False
 |n+1,σ,K=>X σ λe aJ=>match e with
  |.normal=>Afb X n aJ K
  |e=>K e aJ
def KQ:List Gh->Nat
 | [.freeze n]=>n
 |_=>0
def exec(cx:Cx):Code->Sy->(Ex->Sy->Prop)->Prop
 |.skip,σ,K=>K .normal σ
 |.region id ops draw,σ,K =>
  gD cx (id+2000000) σ λσ=>Fz cx ops.toList ops.toList [] σ λfs σ =>
   if draw then (if Nat.blt 40 (Ag ops.toList) then ma ops.toList fs/\gD cx id ⟨tidy σ.fr,σ.hp,[]⟩ (K .normal)
    else if G7 ops.toList 0&&indep ops.toList (If ops.toList []) ops.toList fs 0 then gD cx id ⟨tidy σ.fr,σ.hp,[]⟩ (K .normal) else False)
   else gD cx id ⟨tidy σ.fr,σ.hp,[]⟩ (K .normal)
 |.seq a b,σ,K=>exec cx a σ λe σ=>match e with
  |.normal=>exec cx b σ K
  |e=>K e σ
 |.cond c t e,σ,K =>
  match rd cx σ [] c with
  |some (.bool (.l true))=>exec cx t σ K
  |some (.bool (.l false))=>exec cx e σ K
  |some (.bool b)=>(cx.D.b b=true->exec cx t (sE σ c true) K)/\(cx.D.b b=false->exec cx e (sE σ c false) K)
  |_=>False
 |.block id b,σ,K=>exec cx b σ λe σ=>match e with
  |.exit i=>if i==id then K .normal σ else K (.exit i) σ
  |e=>K e σ
 |.loop b,σ,K=>match look 999986 cx.gh with
  |some l=>Afb (exec cx b) (KQ l) σ K
  |none =>
  ∃(keep:List Nat) (J:Nat->List (Option SV)->List Hl->Prop),
   (Fc (Ag σ.hp) σ.hp=true/\∃m,J m (Ge cx.D (Ag σ.hp) σ.fr keep) (Gf cx.D σ.hp))/\
   ∀m vs hp,J m vs hp->exec cx b ⟨Ou (Kq keep vs) (blank σ.fr),hp,[]⟩ λe aJ=>match e with
    |.normal=>Fc (Ag σ.hp) (takeN (Ag σ.hp) aJ.hp)=true/\∃m',m'<m/\J m' (Ge cx.D (Ag σ.hp) aJ.fr keep) (Gf cx.D (takeN (Ag σ.hp) aJ.hp))
    |e=>K e aJ
 |.exit id,σ,K=>K (.exit id) σ
 |.ret,σ,K=>K .ret σ
 |.label _,σ,K=>K .normal σ
 |.goto l,σ,K=>K (.goto l) σ
 |.scope c,σ,K=>exec cx c σ λe σ=>match e with
  |.goto _=>False
  |e=>K e σ
 |.rangeFunc g ps assign bd,σ,K =>
  match (rd cx σ [] g).bind PC with
  |some (f,sX) =>
   match look f cx.its with
   |some it =>
    (Io assign&&Io bd)=true/\∀c:LC,AF c ps assign bd (Ag σ.fr)->∃(keep:List Nat) (Y:aD),
     (∀xs ls K',Y cx.D xs ls K'->(∃fr,ls.head?=some (.bK c fr 0 none))/\∃r aI,K' r aI/\match Afv c ps (Ag σ.fr) xs ls with
      |some rG=>exec cx assign ⟨rG,ls,[]⟩ λe eI=>match e,nth eI.hp 0 with
       |.normal,some (.bK c1 qa 0 none)=>exec cx bd ⟨eI.fr,A0 eI.hp 0 (.bK c1 qa 1 none),eI.gm⟩ (Uk cx (Ag ls) λr' eG=>Fin r' r eG aI)
       |_,_=>False
      |none=>False)/\
     Fl cx ⟨σ.fr,σ.hp++[.bK c (Kq keep (Ge cx.D (Ag σ.hp) σ.fr keep)) 0 none],σ.gm⟩ [] (.yv (Ag σ.hp) :: sX) (it Y) λo =>
      match Mp (σ.hp++[.bK c (Kq keep (Ge cx.D (Ag σ.hp) σ.fr keep)) 0 none]) o.gF with
      |dS=>Kj (σ.hp++[.bK c (Kq keep (Ge cx.D (Ag σ.hp) σ.fr keep)) 0 none]) o.gF=true/\match nth dS (Ag σ.hp) with
       |some (.bK _ _ st pd)=>Nat.beq st 1=false/\K (KF pd) ⟨σ.fr,A0 dS (Ag σ.hp) .gone,σ.gm⟩
       |_=>False
   |none=>False
  |none=>False
 |_,_,_=>False
def I3(cx:Cx)(σ:Sy):List ResultVar->Option (List SV)
 | []=>some []
 |.tmp t :: rs=>match rd cx σ [] (.tmp t),I3 cx σ rs with
  |some v,some vs=>some (v :: vs)
  |_,_=>none
 |.cell a t :: rs=>match rd cx σ [] (.tmp a),size? cx t,I3 cx σ rs with
  |some (.ptr h off),some n,some vs =>
   match nth σ.hp h with
   |some (.aE _ cs)=>if Nat.ble (off+n) (Ag cs) then
     match pack (cG cx t) (takeN n (By off cs)) with
     |some v=>some (v :: vs)
     |none=>none
    else none
   |_=>none
  |_,_,_=>none
def D1(ntmps:Nat)(args:List SV):List (Option G) :=
 (args.map λv=>some ⟨[],none,none,v⟩)++List.replicate (ntmps-Ag args) none
def Amy:List SV->Option Nat
 | []=>none
 |.bY _ _ h :: _=>some h
 |_ :: vs=>Amy vs
def Ro(h k:Nat):List SV->List SV
 | []=>[]
 |.bY nl n _ :: vs=>.bY nl n k :: Ro h k vs
 |v :: vs=>v :: Ro h k vs
def Uy(h:Nat):List SV->Bool
 | []=>true
 |.bY _ _ h' :: vs=>h'==h&&Uy h vs
 |v :: vs=>Ak v&&Uy h vs
def DC(cx:Cx)(m:Nat)(vs:List SV)(σ:Sy)(K:SV->List Hl->Prop):Prop :=
 match Amy vs with
 |none=>K (loose (norm cx.D (NC vs))) (cO cx.D (takeN m σ.hp))
 |some h=>match Nat.ble m h&&Uy h vs&&Gr (cO cx.D (takeN m σ.hp)),nth σ.hp h with
  |true,some (.own ty n sz gr f)=>K (loose (norm cx.D (NC (Ro h m vs)))) (cO cx.D (takeN m σ.hp++[.own ty n sz gr f]))
  |_,_=>False
def PO(cx:Cx)(fn:Func)(args:List SV)(hp:List Hl)(K:SV->List Hl->Prop):Prop :=
 match fn.body with
 |some c=>exec cx c ⟨D1 fn.ntmps args,hp,[]⟩ λe σ=>match e with
  |.normal|.ret=>match I3 cx σ fn.results.toList with
   |some vs=>MJ cx (Ag hp) vs σ K
   |none=>False
  |_=>False
 |none=>False
def body(cx:Cx)(fn:Func)(args:List SV)(hp:List Hl)(K:SV->List Hl->Prop):Prop :=
 match fn.body with
 |some c=>exec cx c ⟨D1 fn.ntmps args,hp,[]⟩ λe σ=>match e with
  |.normal|.ret=>match I3 cx σ fn.results.toList with
   |some vs=>DC cx (Ag hp) vs σ K
   |none=>False
  |_=>False
 |none=>False
def ra(cx:Cx)(fn:Func)(pre c:Code)(l:Nat)(rest:Code)(args:List SV)(hp:List Hl)(K:SV->List Hl->Prop):Prop :=
 ∃(keep:List Nat) (J:Nat->List (Option SV)->List Hl->Prop),
  (exec cx pre ⟨D1 fn.ntmps args,hp,[]⟩ λe σ=>match e with
   |.normal=>exec cx c σ λe σ=>match e with
    |.normal|.ret=>match I3 cx σ fn.results.toList with
     |some vs=>DC cx (Ag hp) vs σ K
     |none=>False
    |.goto l'=>l'=l/\Fc (Ag hp) (takeN (Ag hp) σ.hp)=true/\∃m,J m (Ge cx.D (Ag hp) σ.fr keep) (Gf cx.D (takeN (Ag hp) σ.hp))
    |_=>False
   |_=>False)/\
  ∀m vs dS,J m vs dS->exec cx rest ⟨Ou (Kq keep vs) (blank (D1 fn.ntmps args)),dS,[]⟩ λe σ=>match e with
   |.normal|.ret=>match I3 cx σ fn.results.toList with
    |some vs=>DC cx (Ag hp) vs σ K
    |none=>False
   |.goto l'=>l'=l/\Fc (Ag hp) (takeN (Ag hp) σ.hp)=true/\∃m',m'<m/\J m' (Ge cx.D (Ag hp) σ.fr keep) (Gf cx.D (takeN (Ag hp) σ.hp))
   |_=>False
theorem Ah{α:Type}:∀(l:List α) (n:Nat),nth l n=l[n]?
 | [],_=>by simp[nth]
 |_ :: _,0=>by simp[nth]
 |_ :: l,n+1=>by simp[nth,Ah l n]
theorem D5{α:Type}:∀(l:List (Option α)) (n:Nat),Au l n=(l[n]?).getD none
 | [],_=>by simp[Au]
 |_ :: _,0=>by simp[Au]
 |_ :: l,n+1=>by simp[Au,D5 l n]
theorem Ar{α:Type}:∀(l:List α) (n:Nat) (v:α),A0 l n v=l.set n v
 | [],_,_=>by simp[A0]
 |_ :: _,0,_=>by simp[A0]
 |_ :: l,n+1,v=>by simp[A0,Ar l n v]
theorem Ax{α:Type}:∀(n:Nat) (l:List α),takeN n l=l.take n
 |0,_=>by simp[takeN]
 |_+1,[]=>by simp[takeN]
 |n+1,_ :: l=>by simp[takeN,Ax n l]
theorem A5{α:Type}:∀(n:Nat) (l:List α),By n l=l.drop n
 |0,_=>by simp[By]
 |_+1,[]=>by simp[By]
 |n+1,_ :: l=>by simp[By,A5 n l]
theorem Af{α:Type}:∀(l:List α),Ag l=l.length
 | []=>rfl
 |_ :: l=>by simp[Ag,Af l]
theorem Dd{α:Type}:∀(vs l:List α) (off:Nat),(B9 l off vs).length=l.length
 | [],_,_=>rfl
 |v :: vs,l,off=>by simp[B9,Dd vs,Ar]
theorem Hv{α:Type}:∀(vs l:List α) (off i:Nat),off+vs.length<=l.length->(B9 l off vs)[i]?=if off<=i/\i<off+vs.length then vs[i-off]? else l[i]?
 | [],l,off,i,_=>by rw[B9,QD (by simp only[XV];omega)]
 |v :: vs,l,off,i,h=>by
  simp only[QT]at h;rw[B9,Hv vs _ (off+1) i (by simp[Ar];omega),Ar]
  by_cases e:i=off
  .subst e
   rw[QD (by omega),QE (by simp)];rw[YO (by omega)];simp
  .by_cases e2:off+1<=i/\i<off+1+vs.length
   .rw[QE e2,QE (by simp;omega)]
    obtain⟨k,hk⟩:∃k,i-off=k+1:=⟨i-off-1,by omega⟩;rw[hk,show i-(off+1)=k by omega];simp
   .rw[QD e2,QD (by simp;omega),ZG (by omega)]
theorem Ca(x:Nat):∀l,Dx x l=true↔x∈l
 | []=>by simp[Dx]
 |y :: l=>by
  simp only[Dx,ZB,XI,Ca x l,ZO];constructor
  .rintro (h|h)
   .exact .inl h.symm
   .exact .inr h
  .rintro (h|h)
   .exact .inl h.symm
   .exact .inr h
theorem Abu:∀(l t:List Nat),W5 l t=true↔∀x∈l,x∈t
 | [],t=>by simp[W5]
 |x :: l,t=>by simp[W5,Ca,Abu l t]
def Ac(gm:List BT)(T:List Nat):List BT:=T.filterMap (nth gm)
theorem Ae4:∀(l:List BT),Ba l↔∀b∈l,b.den=true
 | []=>by simp[Ba]
 |b :: l=>by simp[Ba,Ae4 l]
theorem Ae3{gm:List BT}{t T:List Nat}(h:W5 t T=true)(hT:Ba (Ac gm T)):Ba (Ac gm t):=by
 rw[Ae4]at *;intro b hb;rw[Ac,List.mem_filterMap]at hb;obtain⟨i,hi,hb⟩:=hb;exact hT b (by rw[Ac,List.mem_filterMap];exact⟨i,(Abu _ _).1 h i hi,hb⟩)
theorem C7(gm:List BT)(A:Prop):∀(T:List Nat),Ob dn gm T A↔(Ba (Ac gm T)->A)
 | []=>by simp[Ob,Ac,Ba]
 |i :: T=>by
  have ih:=C7 gm A T;simp only[Ob,Ac,YE];cases h:nth gm i with
  |none=>simpa[Ac] using ih
  |some b =>
   simp only[Ba];rw[ih];constructor
   .intro h1 ⟨h2,h3⟩;exact h1 h2 h3
   .intro h1 h2 h3;exact h1 ⟨h2,h3⟩
def Bp(P:Program):TK->TypeDesc->Bool
 |.int k,.int k'=>k==k'
 |.bool,.bool=>true
 |.string,.string=>true
 |.pointer e,.pointer e'=>e==e'
 |.slice e,.slice e'=>e==e'
 |.struct fs,.struct fields=>(fields.toList.map λf=>(f.offset,f.type))==fs&&fields.toList.all λf=>(P.info? f.type).isSome
 |.array n e,.array n' e'=>n==n'&&e==e'
 |.map k e,.map k' e'=>k==k'&&e==e'
 |.iface,.interface _=>true
 |.other,.struct _=>false
 |.other,.array ..=>false
 |.other,_=>true
 |_,_=>false
def zB:SV->Value->Bool
 |.int k (.l n),.int k' n'=>k==k'&&n==n'
 |.bool (.l b),.bool b'=>b==b'
 |.str s,.string s'=>s==s'.data.toList
 |.iC,.pointer none=>true
 |.sl (.l true) (.l 0) _ _,.slice none 0 0=>true
 |.raw .nilIface,.nilIface=>true
 |.raw .nilFunc,.nilFunc=>true
 |.raw (.map none),.map none=>true
 |_,_=>false
def nH:List SV->List Value->Bool
 | [],[]=>true
 |s :: ss,v :: vs=>zB s v&&nH ss vs
 |_,_=>false
def Am7(k:TK)(z:Value):Bool:=match z with
 |.agg _=>(match k with|.struct _=>true|.array _ _=>true|_=>false)
 |_=>true
def zJ(P:Program)(t:TypeId)(ti:TI):Bool :=
 match P.underlying t,P.info? t with
 |some d,some i=>ti.zero.length==ti.size&&Bp P ti.k d&&i.size==ti.size&&i.bytes==ti.bytes&&(match i.zero with|some z=>nH ti.zero z.cells.toList&&Am7 ti.k z|none=>false)
 |_,_=>false
def nc(P:Program):List (Nat×TI)->Bool
 | []=>true
 |(t,ti) :: l=>zJ P t ti&&nc P l
theorem Abp{P:Program}:∀ {tt:List (Nat×TI)} {t:Nat} {ti:TI},nc P tt=true->look t tt=some ti->zJ P t ti=true
 | [],_,_,_,h=>by simp[look]at h
 |(u,ui) :: l,t,ti,hB,h=>by
  simp only[nc,QB]at hB;simp only[look]at h
  split at h
  .rename_i e
   have e:u=t:=by simpa using e
   subst e;simp only[Option.some.injEq]at h;subst h;exact hB.1
  .exact Abp hB.2 h
theorem DK{I:Nat->Nat->Prop}{w:World}{s:SV}{v:Value}(h:zB s v=true):RO I w s v:=by
 unfold zB at h
 split at h<;>simp at h
 .obtain⟨rfl,rfl⟩:=h;exact .int rfl
 .subst h;exact .bool rfl
 .subst h;exact .str rfl
 .exact .iC
 .exact .slnil rfl rfl
 .exact .raw rfl
 .exact .raw rfl
 .exact .raw rfl
theorem Lz{I:Nat->Nat->Prop}{w:World}:∀ {ss:List SV} {vs:List Value},nH ss vs=true->ss.length=vs.length/\∀(i:Nat) (s:SV) (v:Value),ss[i]?=some s->vs[i]?=some v->RO I w s v
 | [],[],_=>by simp
 |s :: ss,v :: vs,h=>by
  simp only[nH,QB]at h;obtain⟨h1,h2⟩:=Lz (I:=I) (w:=w) h.2;refine⟨by simp[h1],λi s' v' hs hv=>?_⟩;cases i with
  |zero=>simp at hs hv;subst hs;subst hv;exact DK h.1
  |succ i=>simp at hs hv;exact h2 i s' v' hs hv
 | [],_ :: _,h=>by simp[nH]at h
 |_ :: _,[],h=>by simp[nH]at h
theorem Alx{s:SV}{v:Value}(h:zB s v=true):v.oneCell'=true:=by
 unfold zB at h
 split at h<;>first|rfl|simp at h
structure Bm(P:Program)(t:TypeId)(ti:TI):Prop where
 nR:ti.zero.length=ti.size
 jF:∃d,P.underlying t=some d/\Bp P ti.k d=true
 info:∃i z,P.info? t=some i/\i.size=ti.size/\i.bytes=ti.bytes/\i.zero=some z/\nH ti.zero z.cells.toList=true/\Am7 ti.k z=true
theorem Afe{P:Program}{t:TypeId}{ti:TI}(h:zJ P t ti=true):Bm P t ti:=by
 unfold zJ at h
 split at h
 .rename_i d i hd hi
  simp only[QB,XI]at h;obtain⟨⟨⟨⟨h0,h1⟩,h2⟩,h3⟩,h4⟩:=h
  split at h4
  .rename_i z hz
   simp only[QB]at h4;exact⟨h0,⟨d,hd,h1⟩,⟨i,z,hi,h2,h3,hz,h4⟩⟩
  .simp at h4
 .simp at h
theorem Af4{I:Nat->Nat->Prop}{w:World}{v:Value}{s:SV}(h:ofConst v=some s):(∃vs,s=.tup []/\v=.tuple vs/\vs=#[])\/RO I w s v:=by
 unfold ofConst at h
 split at h
 .cases h;exact .inr (.int rfl)
 .cases h;exact .inr (.bool rfl)
 .cases h;exact .inr (.str rfl)
 .cases h;exact .inr .iC
 .cases h;exact .inr (.slnil rfl rfl)
 .cases h;exact .inr (.raw rfl)
 .cases h;exact .inr (.raw rfl)
 .cases h;exact .inr (.raw rfl)
 .rename_i vs
  split at h
  .rename_i e
   cases h;exact .inl ⟨vs,rfl,rfl,by simpa using e⟩
  .cases h
 .cases h
theorem Acx{E:Env}{w:World}{v:Value}{s:SV}(h:ofConst v=some s):Rel E w s v:=by
 rcases Af4 (I:=E.I) (w:=w) h with⟨vs,rfl,rfl,rfl⟩|h
 .exact .tup rfl (by simp)
 .exact .ro h
def Mx(w:World)(g:Nat)(s:SV):Prop:=match s with
 |.dP n sz _=>∃(C:Array Value) (t:TypeId) (fr:Nat×Nat),w.heap[g]?=some (.cells C t fr)/\C.size=n * sz
 |_=>True
theorem Mx.same{w w':World}{g:Nat}{s:SV}(h:Mx w g s)(e:w'.heap[g]?=w.heap[g]?):Mx w' g s:=by
 unfold Mx at h ⊢
 split at h
 .obtain⟨C,t,fr,h1,h2⟩:=h
  exact⟨C,t,fr,e.trans h1,h2⟩
 .trivial
def Ep(B:Bs)(gl:List (Nat×SV)):Prop:=∀g s,look g gl=some s->RO B.I0 B.w0 s (.pointer (some ⟨g,0,none⟩))/\g<B.w0.heap.size/\¬B.X g/\Mx B.w0 g s
def A6(σ:Sy):Nat->SG:=λs=>(Au σ.fr s).map λg=>(Ac σ.gm g.tg,g.v)
def Cw(x:Operand):List Nat:=match x with
 |.tmp s=>[s]
 |_=>[]
theorem Aa{B:Bs}{N:Nat}{E:Env}{a:Act}{w:World}{ff:Nat->SG}{hf:Nat->Hl}{cx:Cx}{σ:Sy}{T:List Nat}{x:Operand}{v:SV}
  (h:rd cx σ T x=some v) (hg:Ep B cx.gl) (st:St B N E a w ff hf) (ag:∀s∈Cw x,ff s=A6 σ s) (hT:Ba (Ac σ.gm T)):Rel E w v (a.eval x):=by
 cases x with
 |tmp s =>
  simp only[rd]at h
  split at h
  .rename_i g iK
   split at h
   .rename_i hs
    cases h;have h1:=st.slot s;rw[ag s (by simp[Cw]),A6,iK]at h1;simp only[QO,Bf]at h1;exact h1.2.1 (Ae3 hs hT)
   .cases h
  .cases h
 |const v'=>exact Acx h
 |global g =>
  have h1:=(hg g v h).1;exact .ro (h1.mono (λb o hb=>(st.base.I0 b o hb).1) (λb o hb=>(st.base.I0 b o hb).2))
 |func f =>
  cases h;exact .ro (.fn rfl)
theorem Aj7{E:Env}{w:World}{cx:Cx}{t:TypeId}{v:SV}{u:Value}(h:Rel E w v u):Rel E w (Am2 cx t v) u:=by
 unfold Am2
 split
 .rename_i f
  have hn:∀(n:Nat) (g:Nat->List SV),Rel E w (.sl (.l true) (.l 0) n g) u:=by
   intro n g;cases h with
   |ro h=>cases h with
    |slnil h hn=>exact .ro (.slnil rfl rfl)
    |sl g h=>simp[BT.den]at h
  split
  .split
   .exact hn _ _
   .exact hn _ _
  .exact hn _ _
 .exact h
theorem I6{B:Bs}{N:Nat}{E:Env}{a:Act}{w:World}{ff:Nat->SG}{hf:Nat->Hl}{cx:Cx}{σ:Sy}{T:List Nat}{t:TypeId}{x:Operand}{v:SV}
  (h:zM cx σ T t x=some v) (hg:Ep B cx.gl) (st:St B N E a w ff hf) (ag:∀s∈Cw x,ff s=A6 σ s) (hT:Ba (Ac σ.gm T)):Rel E w v (a.eval x):=by
 unfold zM at h
 split at h
 .rename_i v0 h0
  cases h;exact Aj7 (Aa h0 hg st ag hT)
 .cases h
def A1(E:Env)(w:World)(cs:List SV)(vs:List Value):Prop :=
 cs.length=vs.length/\∀(i:Nat) (s:SV) (v:Value),cs[i]?=some s->vs[i]?=some v->Rel E w s v
theorem A1.agg{E:Env}{w:World}{cs:List SV}{vs:List Value}(h:A1 E w cs vs):Rel E w (.agg cs) (.agg ⟨vs⟩):=.agg h.1 h.2
theorem A1.nil{E:Env}{w:World}:A1 E w [] []:=⟨rfl,by simp⟩
theorem A1.cons{E:Env}{w:World}{s:SV}{v:Value}{cs:List SV}{vs:List Value}(h:Rel E w s v)(hs:A1 E w cs vs):A1 E w (s :: cs) (v :: vs) :=
 ⟨by simp[hs.1],λi s' v' h1 h2=>by
  cases i with
  |zero=>simp at h1 h2;subst h1;subst h2;exact h
  |succ i=>simp at h1 h2;exact hs.2 i s' v' h1 h2⟩
theorem A1.take{E:Env}{w:World}{cs:List SV}{vs:List Value}(n:Nat)(h:A1 E w cs vs):A1 E w (cs.take n) (vs.take n) :=
 ⟨by simp[h.1],λi s v h1 h2=>by
  rw[QL]at h1 h2
  split at h1
  .rename_i e;rw[QE e]at h2;exact h.2 i s v h1 h2
  .cases h1⟩
theorem A1.drop{E:Env}{w:World}{cs:List SV}{vs:List Value}(n:Nat)(h:A1 E w cs vs):A1 E w (cs.drop n) (vs.drop n) :=
 ⟨by simp[h.1],λi s v h1 h2=>by
  rw[XL]at h1 h2;exact h.2 _ s v h1 h2⟩
theorem Rel.cW{E:Env}{w:World}{cs:List SV}{v:Value}(h:Rel E w (.agg cs) v):∃vs,v=.agg ⟨vs⟩/\A1 E w cs vs:=by
 cases h with
 |ro h=>cases h with
  |agg hl h=>exact⟨_,rfl,hl,λi s v a b=>.ro (h i s v a b)⟩
 |agg hl h=>exact⟨_,rfl,hl,h⟩
theorem Rel.gT{E:Env}{w:World}{cs:List SV}{v:Value}(h:Rel E w (.tup cs) v):∃vs,v=.tuple ⟨vs⟩/\A1 E w cs vs:=by
 cases h with
 |ro h=>cases h
 |tup hl h=>exact⟨_,rfl,hl,h⟩
theorem Rel.pM{E:Env}{w:World}{f:FuncId}{cs:List SV}{v:Value}(h:Rel E w (.fI f cs) v):∃vs,v=.func (.func f) #[] ⟨vs⟩/\A1 E w cs vs:=by
 cases h with
 |ro h=>cases h
 |fI hl h=>exact⟨_,rfl,hl,h⟩
theorem Rel.sW{E:Env}{w:World}{f:FuncId}{v:Value}(h:Rel E w (.fn f) v):v=.func (.func f) #[] #[]:=by
 cases h with
 |ro h=>cases h with
  |fn h=>exact h
theorem Rel.aW{E:Env}{w:World}{k:IntKind}{t:ST}{v:Value}(h:Rel E w (.int k t) v):v=.int k t.den:=by
 cases h with
 |ro h=>cases h with
  |int h=>rw[h]
theorem Rel.bG{E:Env}{w:World}{t:BT}{v:Value}(h:Rel E w (.bool t) v):v=.bool t.den:=by
 cases h with
 |ro h=>cases h with
  |bool h=>rw[h]
theorem Rel.dD{E:Env}{w:World}{s:List UInt8}{v:Value}(h:Rel E w (.str s) v):v=.string (bytes s):=by
 cases h with
 |ro h=>cases h with
  |str h=>exact h
theorem Rel.dW{E:Env}{w:World}{h off:Nat}{v:Value}(hr:Rel E w (.ptr h off) v):∃b,E.β h=some b/\v=.pointer (some ⟨b,off,none⟩):=by
 cases hr with
 |ro h=>cases h
 |ptr hb hv=>exact⟨_,hb,hv⟩
theorem Rel.iO{E:Env}{w:World}{nl:BT}{n:ST}{h:Nat}{v:Value}(hr:Rel E w (.bY nl n h) v):(∃a m c,v=.slice a m c/\n.den=(m:Int)/\(nl.den=true↔a=none))/\T3 E h n.den v:=by
 cases hr with
 |ro h=>cases h
 |bY ht hk=>exact⟨ht,hk⟩
theorem Rel.mA{E:Env}{w:World}{nl:BT}{n g:ST}{h:Nat}{v:Value}(hr:Rel E w (.fB nl n g h) v):(∃a m c,v=.slice a m c/\n.den=(m:Int)/\(nl.den=true↔a=none))/\MX E h n.den g.den v:=by
 cases hr with
 |ro h=>cases h
 |fB ht hk=>exact⟨ht,hk⟩
theorem Rel.ai{E:Env}{w:World}{n a:ST}{h:Nat}{v:Value}(hr:Rel E w (.jS n a h) v):(∃ad m c,v=.slice ad m c)/\NI E h n.den a.den v:=by
 cases hr with
 |ro h=>cases h
 |jS ht hk=>exact⟨ht,hk⟩
theorem Rel.mM{E:Env}{w:World}{n:ST}{h j off:Nat}{v:Value}(hr:Rel E w (.cK n h j off) v):(∃b o,v=.pointer (some ⟨b,o,none⟩))/\Uz E h j off n.den v:=by
 cases hr with
 |ro h=>cases h
 |cK hv ho=>exact⟨hv,ho⟩
theorem Rel.int{E:Env}{w:World}{k:IntKind}{t:ST}{n:Int}(h:t.den=n):Rel E w (.int k t) (.int k n):=.ro (.int h)
theorem Rel.bool{E:Env}{w:World}{t:BT}{b:Bool}(h:t.den=b):Rel E w (.bool t) (.bool b):=.ro (.bool h)
theorem Z6{E:Env}{w:World}{s:SV}{v:Value}(h:DG s=true)(hr:Rel E w s v):v.oneCell'=true:=by
 cases hr with
 |ro hr =>
  cases hr<;>first|rfl|(simp[DG]at h;done)|skip
  .rename_i h';rw[h'];rfl
  .rename_i h';subst h';exact h
  .rename_i h';rw[h'];rfl
  .rename_i h';rcases h' with⟨rfl,_⟩|⟨⟨_,_,rfl⟩,_⟩<;>rfl
 |ptr hb hv=>rw[hv];rfl
 |eD hr ht=>cases hr<;>rfl
 |dM hb hm hv=>rw[hv];rfl
 |cU hb hz hv=>rw[hv];rfl
 |bY ht hk=>obtain⟨a,m,c,rfl,_⟩:=ht;rfl
 |cK hv ho=>obtain⟨b,o,rfl⟩:=hv;rfl
 |bP hb hv=>rw[hv];rfl
 |yv hb hv=>rw[hv];rfl
 |fB ht hk=>obtain⟨a,m,c,rfl,_⟩:=ht;rfl
 |jS ht hk=>obtain⟨a,m,c,rfl⟩:=ht;rfl
 |agg hl _=>simp[DG]at h
 |tup hl _=>simp[DG]at h
 |fI hl _=>rfl
theorem Yj:∀ {cs:List SV} (_:D8 cs=true) {i:Nat} {s:SV},cs[i]?=some s->DG s=true
 | [],_,i,s,hs=>by simp at hs
 |c :: cs,h,i,s,hs=>by
  simp only[D8,QB]at h;cases i with
  |zero=>simp at hs;subst hs;exact h.1
  |succ i=>simp at hs;exact Yj h.2 hs
theorem L8{E:Env}{w:World}{cs:List SV}{vs:List Value}(h:D8 cs=true)(hr:A1 E w cs vs):∀v∈vs,v.oneCell'=true:=by
 intro v hv;obtain⟨i,hi⟩:=List.mem_iff_getElem?.1 hv;have aA:i<cs.length:=by rw[hr.1];exact (List.getElem?_eq_some_iff.1 hi).1
 exact Z6 (Yj h (QA aA)) (hr.2 i _ v (QA aA) hi)
theorem H1{E:Env}{w:World}{s:SV}{v:Value}(h:D8 s.cells=true)(hr:Rel E w s v):A1 E w s.cells v.cells.toList:=by
 by_cases ha:∃cs,s=.agg cs
 .obtain⟨cs,rfl⟩:=ha
  obtain⟨vs,rfl,hl⟩:=hr.cW;exact hl
 .have hs:s.cells=[s]:=by
   cases s<;>first|rfl|exact (ha ⟨_,rfl⟩).elim
  rw[hs]at h ⊢;simp only[D8,Bool.and_true]at h;have h1:=Z6 h hr;have hv:v.cells=#[v]:=by cases v<;>first|rfl|simp[Value.oneCell']at h1
  rw[hv];exact .cons hr .nil
def slotsOf(op:Op):List Nat:=op.operands.toList.flatMap Cw
def DI(σ:Sy)(ff:Nat->SG)(o:Oper):Prop:=∀s∈slotsOf o.op,ff s=A6 σ s
def AgC(hp:List Hl)(hf:Nat->Hl)(x:Nat×Nat×Nat):Prop :=
 ∀ty cs,Ap hp x.1=.aE ty cs->∃dK,hf x.1=.aE ty dK/\dK.length=cs.length/\∀j,x.2.1<=j->j<x.2.1+x.2.2->dK[j]?=cs[j]?
def zY(hp:List Hl)(hf:Nat->Hl):Ef->Prop
 |.set h _ _=>∀ty cs,Ap hp h=.aE ty cs->∃dK,hf h=.aE ty dK/\dK.length=cs.length
 |.put h _=>hf h=Ap hp h
structure AQ(hp:List Hl)(hf:Nat->Hl)(r:Out):Prop where
 uT:∀h∈r.uT,hf h=Ap hp h
 AX:∀x∈r.AX,AgC hp hf x
 gF:∀e∈r.gF,zY hp hf e
def yX(hf:Nat->Hl):Ef->Nat->Hl
 |.set h off vs=>match hf h with
  |.aE ty cs=>aL hf h (.aE ty (B9 cs off vs))
  |_=>hf
 |.put h hl=>aL hf h hl
def Hz(hf:Nat->Hl):List Ef->Nat->Hl
 | []=>hf
 |e :: es=>Hz (yX hf e) es
def Yields(P:Program)(o:Oper)(r:Out)(B:Bs)(E:Env)(a:Act)(w:World)(hf:Nat->Hl):Prop :=
 ∀(K':Act->World->Prop) (Q:Exit->Act->World->Prop),
  (∀v w' E',Ext E w E' w'->B8 B E' w'->(∀h,bO E' w' h (Hz hf r.gF h))->Rel E' w' r.v v->K' (a.put o.dst v) w')->o.wp P a w K' Q
def Local(P:Program)(gl:List (Nat×SV))(σ:Sy)(T:List Nat)(o:Oper)(r:Out):Prop :=
 ∀(B:Bs) (N:Nat) (E:Env) (a:Act) (w:World) (ff:Nat->SG) (hf:Nat->Hl),Ep B gl->St B N E a w ff hf->DI σ ff o->AQ σ.hp hf r->Ba (Ac σ.gm T)->Yields P o r B E a w hf
theorem Ae{P:Program}{o:Oper}{r:Out}{B:Bs}{N:Nat}{E:Env}{a:Act}{w:World}{ff:Nat->SG}{hf:Nat->Hl}(st:St B N E a w ff hf){v:Value}
  (hr:(execOp a.eval o).run P w=.ok (.value v) w) (he:r.gF=[]) (hv:Rel E w r.v v):Yields P o r B E a w hf:=by
 intro K' Q h;unfold Oper.wp;rw[hr];exact h v w E (Ext.refl E w) st.base (by rw[he];exact st.heap) hv
structure Az(P:Program)(cx:Cx):Prop where
 D:cx.D=dn
 tt:nc P cx.tt=true
 eqs:∀t∈cx.eqs,P.stoodInHeld t=false/\P.eqGuardType P.depth t=false/\∀f∈(P.fieldsOf t).toList,(f.name≠"_")
section
variable {P:Program} {cx:Cx} {σ:Sy} {T:List Nat} {o:Oper} {K:Out->Prop}
theorem Az.ti(h:Az P cx){t:Nat}{ti:TI}(hl:look t cx.tt=some ti):Bm P t ti:=Afe (Abp h.tt hl)
theorem bF{t n:Nat}(h:size? cx t=some n):∃ti,look t cx.tt=some ti/\ti.size=n:=by
 unfold size? at h;cases hl:look t cx.tt with
 |none=>rw[hl]at h;cases h
 |some ti=>rw[hl]at h;simp at h;exact⟨ti,rfl,h⟩
theorem Bm.sizeOf{t:Nat}{ti:TI}(h:Bm P t ti)(w:World):(sizeOf t).run P w=.ok ti.size w:=by
 obtain⟨i,z,hi,h1,_⟩:=h.info;simp[Go.sizeOf,typeInfo,hi,h1]
def Fe:TK->Bool
 |.struct _|.array _ _=>true
 |_=>false
theorem dJ{t:Nat}{ti:TI}(hl:look t cx.tt=some ti):cG cx t=Fe ti.k:=by
 obtain⟨k,a,b,c⟩:=ti;unfold cG;rw[hl];cases k<;>rfl
theorem Bm.isAgg{t:Nat}{ti:TI}(h:Bm P t ti)(w:World):(isAgg t).run P w=.ok (Fe ti.k) w:=by
 obtain⟨d,hd,hk⟩:=h.jF;unfold Go.isAgg;simp only[Sem.run_bind,run_underlying hd,Result.andThen_ok];cases cY:ti.k<;>rw[cY]at hk<;>cases d<;>first|rfl|simp[Bp]at hk
theorem Bm.zero{t:Nat}{ti:TI}(h:Bm P t ti)(E:Env)(w:World):∃z,(zeroValue t).run P w=.ok z w/\A1 E w ti.zero z.cells.toList/\(∀v∈z.cells.toList,v.oneCell'=true):=by
 obtain⟨i,z,hi,h1,h2,h3,h4,_⟩:=h.info;refine⟨z,by simp[zeroValue,typeInfo,hi,h3],?_,?_⟩
 .obtain⟨a,b⟩:=Lz (I:=E.I) (w:=w) h4
  exact⟨a,λi s v h1 h2=>.ro (b i s v h1 h2)⟩
 .generalize z.cells.toList=vs at h4
  generalize ti.zero=ss at h4
  induction ss generalizing vs with
  |nil=>cases vs with
   |nil=>simp
   |cons v vs=>simp[nH]at h4
  |cons s ss ih=>cases vs with
   |nil=>simp[nH]at h4
   |cons v vs =>
    simp only[nH,QB]at h4;intro u hu;rcases List.mem_cons.1 hu with rfl|hu
    .exact Alx h4.1
    .exact ih vs h4.2 u hu
theorem Aj{σ:Sy}{ff:Nat->SG}{o:Oper}(h:DI σ ff o){x:Operand}(hx:x∈o.op.operands.toList):∀s∈Cw x,ff s=A6 σ s :=
 λs hs=>h s (by unfold slotsOf;exact List.mem_flatMap.2 ⟨x,hx,hs⟩)
theorem Fw{fs:List (Nat×TypeId)}{fields:Array Field}(h:(fields.toList.map λf=>(f.offset,f.type))=fs){i fo ft:Nat}(hi:nth fs i=some (fo,ft)):
  ∃f,fields[i]?=some f/\f.offset=fo/\f.type=ft:=by
 rw[Ah,<-h,QP]at hi;cases hf:fields.toList[i]? with
 |none=>rw[hf]at hi;cases hi
 |some f =>
  rw[hf]at hi;simp only[QO,Option.some.injEq,Prod.mk.injEq]at hi;exact⟨f,by rw[<-QG];exact hf,hi.1,hi.2⟩
theorem Bm.struct{t:Nat}{ti:TI}(h:Bm P t ti){fs:List (Nat×TypeId)}(hk:ti.k=.struct fs):
  ∃fields,P.underlying t=some (.struct fields)/\(fields.toList.map λf=>(f.offset,f.type))=fs/\∀f∈fields.toList,∃i,P.info? f.type=some i:=by
 obtain⟨d,hd,hb⟩:=h.jF;rw[hk]at hb;cases d<;>simp only[Bp,QR]at hb;rename_i fields;simp only[QB,XI,VD,Option.isSome_iff_exists]at hb;exact⟨fields,hd,hb.1,hb.2⟩
theorem Bm.slice{t:Nat}{ti:TI}(h:Bm P t ti){e:TypeId}(hk:ti.k=.slice e):P.underlying t=some (.slice e):=by
 obtain⟨d,hd,hb⟩:=h.jF;rw[hk]at hb;cases d<;>simp only[Bp,QR,XI]at hb;rw[hd,hb]
theorem Bm.array{t:Nat}{ti:TI}(h:Bm P t ti){n e:Nat}(hk:ti.k=.array n e):P.underlying t=some (.array n e):=by
 obtain⟨d,hd,hb⟩:=h.jF;rw[hk]at hb;cases d<;>simp only[Bp,QR,XI,QB]at hb;rw[hd,hb.1,hb.2]
theorem Bm.int{t:Nat}{ti:TI}(h:Bm P t ti){k:IntKind}(hk:ti.k=.int k):P.underlying t=some (.int k):=by
 obtain⟨d,hd,hb⟩:=h.jF;rw[hk]at hb;cases d<;>simp only[Bp,QR,XI]at hb;rw[hd,hb]
theorem Fu{s:Option SV}(h:r8 K s):∃v,s=some v/\K ⟨v,[],[],[]⟩:=by
 cases s with
 |none=>exact h.elim
 |some v=>exact⟨v,rfl,h⟩
theorem Agb{x:Operand}(ho:o.op=.move x\/o.op=.assign x){v:SV}(hv:rd cx σ T x=some v):Local P cx.gl σ T o ⟨v,[],[],[]⟩:=by
 intro B N E a w ff hf hg st ag _ hT;have hx:x∈o.op.operands.toList:=by rcases ho with ho|ho<;>simp[ho,Op.operands]
 have:=Aa hv hg st (Aj ag hx) hT;refine Ae st (v:=a.eval x) ?_ rfl this;rcases ho with ho|ho<;>simp[execOp,ho]
theorem Ake{n:Nat}(ho:o.op=.move (.const (.slice none 0 0))\/o.op=.assign (.const (.slice none 0 0))):Local P cx.gl σ T o ⟨.sl (.l true) (.l 0) n λ_=>[],[],[],[]⟩:=by
 intro B N E a w ff hf _ st _ _ _;refine Ae st (v:=.slice none 0 0) ?_ rfl (.ro (.slnil rfl rfl));rcases ho with ho|ho<;>simp[execOp,ho,Act.eval]
theorem Co{w:World}{o:Obj}{b i:Nat}(h:b<w.heap.size):(w.alloc o).cell? ⟨b,i,none⟩=w.cell? ⟨b,i,none⟩:=by
 simp only[World.cell?];rw[heap_alloc_old w o h]
theorem C3{w:World}{o:Obj}{b:Nat}(h:b<w.heap.size):(w.alloc o).heap[b]?=w.heap[b]?:=heap_alloc_old w o h
theorem A4{B:Bs}{E:Env}{w:World}(hb:B8 B E w){b h:Nat}(ho:E.O b=some h):b<w.heap.size:=(hb.dG b h ho).1
theorem bO.keep{E E':Env}{w w':World}{h:Nat}{hl:Hl}(x:Ext E w E' w')(hk:bO E w h hl)(gA:E'.β h=E.β h)(nL:E'.τ h=E.τ h)(GD:E'.κ h=E.κ h)(GF:E'.ζ h=E.ζ h)
  (hO:∀b,E.O b=some h->E'.O b=some h/\w'.heap[b]?=w.heap[b]?/\∀o,E'.I b o->E.I b o):bO E' w' h hl:=by
 cases hl with
 |fresh=>exact⟨by rw[gA];exact hk.1,by rw[nL];exact hk.2.1,by rw[GD];exact hk.2.2.1,by rw[GF];exact hk.2.2.2⟩
 |gone=>trivial
 |aE ty cs =>
  obtain⟨b,C,h1,h2,h3,h4,h5,h6,h7⟩:=hk;obtain⟨h8,h9,JO⟩:=hO b h2;exact⟨b,C,by rw[gA];exact h1,h8,by rw[h9];exact h3,h4,λi s v a b=>(h5 i s v a b).mono x,h6,λo ho=>h7 o (JO o ho)⟩
 |tail ty n sz =>
  obtain⟨v,m,xs,h1,h2,h3,h4,h5⟩:=hk;refine⟨v,m,xs,by rw[nL];exact h1,?_,h3,h4,λb hb=>?_⟩
  .refine⟨h2.1,?_⟩
   rcases h2.2 with hn|⟨g,cap,cur,rfl,hb,hg,rest⟩
   .exact .inl hn
   .obtain⟨_,h9,_⟩:=hO g (h5 g rfl).1
    exact .inr ⟨g,cap,cur,rfl,hb,by rw[h9];exact hg,rest⟩
  .obtain⟨h6,h7⟩:=h5 b hb
   obtain⟨h8,_,JO⟩:=hO b h6;exact⟨h8,λo ho hi=>h7 o ho (JO o hi)⟩
 |row ty n sz f =>
  obtain⟨b,C,m,h1,h2,hz,h3,h4,h5,h6,h7,h8⟩:=hk;obtain⟨h9,JO,h11⟩:=hO b h3;exact⟨b,C,m,by rw[gA];exact h1,by rw[GD];exact h2,by rw[GF];exact hz,h9,by rw[JO];exact h4,h5,h6,⟨h7.1,h7.2.1,λi j s v a b c=>(h7.2.2.1 i j s v a b c).mono x.I x.cell,h7.2.2.2⟩,λo ho=>h8 o (h11 o ho)⟩
 |own ty n sz gr f =>
  obtain⟨v,m,xs,h1,h2,h3,h4,h5,h6,h7⟩:=hk;refine⟨v,m,xs,by rw[nL];exact h1,by rw[GF];exact h2,h3.keep λb hb=>(hO b (h7 b hb).1).2.1,h4,h5,h6.mono x,λb hb=>?_⟩;obtain⟨q1,_,q3⟩:=hO b (h7 b hb).1;exact⟨q1,λo ho=>(h7 b hb).2 o (q3 o ho)⟩
 |lZ T e s =>
  obtain⟨b,p,v,h1,h2,h3,h4,h5,h6,h7,h8⟩:=hk;obtain⟨q1,q2,q3⟩:=hO b h2;refine⟨b,p,v,by rw[gA];exact h1,q1,h3,by rw[q2];exact h4,?_,h6,λo ho=>h7 o (q3 o ho),λg hg=>?_⟩
  .refine⟨h5.1,?_⟩
   rcases h5.2 with hn|⟨g,cap,cur,rfl,hb,hg,rest⟩
   .exact .inl hn
   .exact .inr ⟨g,cap,cur,rfl,hb,by rw[(hO g (h8 g rfl).1).2.1];exact hg,rest⟩
  .obtain⟨r1,_,r3⟩:=hO g (h8 g hg).1
   exact⟨r1,λo ho=>(h8 g hg).2 o (r3 o ho)⟩
 |vec ty n g sz f =>
  obtain⟨a,c,m,G,xs,h1,h3,h4,h5,h6,h7,h8⟩:=hk;refine⟨a,c,m,G,xs,by rw[nL];exact h1,h3.keep λb hb=>(hO b (h8 b hb).1).2.1,h4,h5,h6,h7.mono x,λb hb=>?_⟩;obtain⟨q1,_,q3⟩:=hO b (h8 b hb).1;exact⟨q1,λo ho=>(h8 b hb).2 o (q3 o ho)⟩
 |dC F =>
  obtain⟨b,es,clock,h1,h2,h3,h4,h5,h6⟩:=hk;obtain⟨q1,q2,q3⟩:=hO b h2;exact⟨b,es,clock,by rw[gA];exact h1,q1,by rw[q2];exact h3,h4,h5,λo ho=>h6 o (q3 o ho)⟩
 |bK c fr s pd =>
  obtain⟨b,r,h1,h2,h3,h4,h5,h6⟩:=hk;obtain⟨q1,q2,q3⟩:=hO b h2;exact⟨b,r,by rw[gA];exact h1,q1,by rw[q2];exact h3,h4,λi v hm=>⟨(h5 i v hm).1,(h5 i v hm).2.mono x⟩,λo ho=>h6 o (q3 o ho)⟩
theorem Aii{B:Bs}{N:Nat}{E:Env}{a:Act}{w:World}{ff:Nat->SG}{hf:Nat->Hl}(st:St B N E a w ff hf){h:Nat}(bH:hf h=.fresh){ty:TypeId}{cs:List SV}{C:Array Value}
  (hr:A1 E w cs C.toList) (h1:∀v∈C.toList,v.oneCell'=true):
  ∃E',Ext E w E' (w.alloc (.cells C ty))/\B8 B E' (w.alloc (.cells C ty))/\(∀k,bO E' (w.alloc (.cells C ty)) k (aL hf h (.aE ty cs) k))/\E'.β h=some w.heap.size:=by
 have hb:=st.base;have cI:=st.heap h;rw[bH]at cI;obtain⟨f1,f2,_,_⟩:=cI
 let E':Env:=⟨aL E.β h (some w.heap.size),E.τ,aL E.O w.heap.size (some h),E.κ,E.ζ,E.I⟩
 have hx:Ext E w E' (w.alloc (.cells C ty)):=by
  refine⟨λk b hk=>?_,λ_ _ h=>.inl h,λ_ _ h=>h,λ_ _ h=>h,λ_ _ h=>h,λb o hi=>Co (hb.eJ b o hi)⟩;show aL E.β h (some w.heap.size) k=some b;unfold aL
  by_cases e:k=h
  .subst e;rw[f1]at hk;cases hk
  .rw[QD e];exact hk
 refine⟨E',hx,⟨hb.os,hb.tape,hb.output,?_,?_,?_,?_,?_,?_,hb.cS.ext hx⟩,λk=>?_,by simp[E',aL]⟩
 .have:=hb.size;simp;omega
 .intro b aA hX;rw[C3 (by have:=hb.size;omega)];exact hb.old b aA hX
 .intro b o hi
  obtain⟨i1,i2⟩:=hb.I0 b o hi;exact⟨i1,by rw[Co (hb.eJ b o i1)];exact i2⟩
 .intro b o hi;have:=hb.eJ b o hi;simp;omega
 .exact hb.cE
 .intro b k hO
  have hO:aL E.O w.heap.size (some h) b=some k:=hO;unfold aL at hO
  split at hO
  .rename_i e;subst e;have:=hb.size;simp;exact .inl this
  .obtain⟨o1,o2⟩:=hb.dG b k hO;simp;exact⟨by omega,o2⟩
 .by_cases e:k=h
  .subst e
   simp only[aL,QE];refine⟨w.heap.size,C,by simp[E',aL],by simp[E',aL],heap_alloc_new w _,by rw[hr.1];simp,λi s v p q=>(hr.2 i s v p (by simpa using q)).mono hx,λv hv=>h1 v (by simpa using hv),λo hi=>?_⟩;have:=hb.eJ _ _ hi;omega
  .simp only[aL,QD e]
   refine bO.keep hx (st.heap k) (by simp[E',aL,e]) rfl rfl rfl λb hO=>?_;have aA:=A4 hb hO;exact⟨by simp[E',aL,UJ aA];exact hO,C3 aA,λ_ h=>h⟩
theorem Ada{e:TypeId}{ti:TI}(hc:Az P cx)(ho:o.op=.alloc e)(hl:look e cx.tt=some ti):
  Local P cx.gl σ T o ⟨.ptr (Ag σ.hp) 0,[.put (Ag σ.hp) (.aE e ti.zero)],[],[]⟩:=by
 intro B N E a w ff hf _ st _ bJ _ K' Q hK;obtain⟨z,hz,hr,h1⟩:=(hc.ti hl).zero E w;have bH:hf (Ag σ.hp)=.fresh:=by
  have:=bJ.gF _ (List.mem_singleton.2 rfl);simp only[zY,Ap,Ah,Af]at this;rw[Af,this];simp
 obtain⟨E',hx,hb,hh,gA⟩:=Aii st bH (ty:=e) hr h1;unfold Oper.wp;have:(execOp a.eval o).run P w=.ok (.value (.pointer (some ⟨w.heap.size,0,none⟩))) (w.alloc (.cells z.cells e)):=by
  simp[execOp,ho,Instr.alloc,hz,newVar,newRow,newObj,Sem.run]
 rw[this];exact hK _ _ E' hx hb hh (.ptr gA rfl)
theorem Aki{e:TypeId}{x:Operand}{v:SV}(ho:o.op=.box e x)(hv:rd cx σ T x=some v)(h1:D8 v.cells=true):
  Local P cx.gl σ T o ⟨.ptr (Ag σ.hp) 0,[.put (Ag σ.hp) (.aE e v.cells)],[],[]⟩:=by
 intro B N E a w ff hf hg st ag bJ hT K' Q hK;have hr:=Aa hv hg st (Aj ag (by simp[ho,Op.operands])) hT;have hc:=H1 h1 hr;have bH:hf (Ag σ.hp)=.fresh:=by
  have:=bJ.gF _ (List.mem_singleton.2 rfl);simp only[zY,Ap,Ah,Af]at this;rw[Af,this];simp
 obtain⟨E',hx,hb,hh,gA⟩:=Aii st bH (ty:=e) hc (L8 h1 hc);unfold Oper.wp;have:(execOp a.eval o).run P w=.ok (.value (.pointer (some ⟨w.heap.size,0,none⟩))) (w.alloc (.cells (a.eval x).cells e)):=by
  simp[execOp,ho,Instr.box,newVar,newRow,newObj,Sem.run]
 rw[this];exact hK _ _ E' hx hb hh (.ptr gA rfl)
end
end Go.Sx
