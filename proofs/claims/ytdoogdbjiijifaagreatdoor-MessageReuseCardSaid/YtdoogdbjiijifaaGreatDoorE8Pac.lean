/- A part of the proof: contracts of functions, or the executor and its soundness. No conditions. -/
import Derived.Lib.Builder
import Derived.Test.YtdoogdbjiijifaaGreatDoorE8Pab
namespace Go.Sx
open Go
structure Env where
 β:Nat->Option Nat
 τ:Nat->Option Value
 O:Nat->Option Nat
 κ:Nat->Option Nat
 ζ:Nat->Option Nat
 I:Nat->Nat->Prop
def bytes(l:List UInt8):ByteArray:=⟨⟨l⟩⟩
inductive RO(I:Nat->Nat->Prop)(w:World):SV->Value->Prop where
 |int {k:IntKind} {t:ST} {n:Int} (h:t.den=n):RO I w (.int k t) (.int k n)
 |bool {t:BT} {b:Bool} (h:t.den=b):RO I w (.bool t) (.bool b)
 |str {s:List UInt8} {v:Value} (h:v=.string (bytes s)):RO I w (.str s) v
 |fC:RO I w .fC (.pointer none)
 |raw {v v':Value} (h:v'=v):RO I w (.raw v) v'
 |fn {f:FuncId} {v:Value} (h:v=.func (.func f) #[] #[]):RO I w (.fn f) v
 |rU {b:BT} {v:Value} (h:(v=.nilIface/\b.den=true)\/((∃t x,v=.iface t x)/\b.den=false)):RO I w (.rU b) v
 |slnil {nl:BT} {n:ST} {sz:Nat} {f:Nat->List SV} (h:nl.den=true) (hn:n.den=0):RO I w (.sl nl n sz f) (.slice none 0 0)
 |sl {nl:BT} {n:ST} {sz:Nat} {f:Nat->List SV} {a:Addr} {m cap:Nat} (g:Nat->Nat->Value) (h:nl.den=false) (hn:n.den=(m:Int)) (hc:m<=cap) (eY:cap<=maxLen)
   (hs:0<m->a.spot=none)
   (hl:∀i,i<m->(f i).length=sz) (h1:∀i j,i<m->j<sz->(g i j).oneCell'=true)
   (aN:∀i j,i<m->j<sz->w.cell? ⟨a.block,a.off+(i * sz+j),none⟩=some (g i j)/\I a.block (a.off+(i * sz+j)))
   (bF:∀(i j:Nat) (s:SV),i<m->(f i)[j]?=some s->RO I w s (g i j)):RO I w (.sl nl n sz f) (.slice (some a) m cap)
 |dK {cs:List SV} {a:Addr} (g:Nat->Value) (hs:a.spot=none) (h1:∀j,j<cs.length->(g j).oneCell'=true) (aN:∀j,j<cs.length->w.cell? ⟨a.block,a.off+j,none⟩=some (g j)/\I a.block (a.off+j))
   (bF:∀(j:Nat) (s:SV),cs[j]?=some s->RO I w s (g j)):RO I w (.dK cs) (.pointer (some a))
 |dT {n sz:Nat} {f:Nat->List SV} {a:Addr} (g:Nat->Nat->Value) (hs:a.spot=none) (hl:∀i,i<n->(f i).length=sz) (h1:∀i j,i<n->j<sz->(g i j).oneCell'=true)
   (aN:∀i j,i<n->j<sz->w.cell? ⟨a.block,a.off+(i * sz+j),none⟩=some (g i j)/\I a.block (a.off+(i * sz+j)))
   (bF:∀(i j:Nat) (s:SV),i<n->(f i)[j]?=some s->RO I w s (g i j)):RO I w (.dT n sz f) (.pointer (some a))
 |agg {cs:List SV} {vs:List Value} (hl:cs.length=vs.length) (h:∀(i:Nat) (s:SV) (v:Value),cs[i]?=some s->vs[i]?=some v->RO I w s v):RO I w (.agg cs) (.agg ⟨vs⟩)
theorem RO.mono{I I':Nat->Nat->Prop}{w w':World}{s:SV}{v:Value}(h:RO I w s v)
  (hI:∀b o,I b o->I' b o) (hw:∀b o,I b o->w'.cell? ⟨b,o,none⟩=w.cell? ⟨b,o,none⟩):RO I' w' s v:=by
 induction h with
 |int h=>exact .int h
 |bool h=>exact .bool h
 |str h=>exact .str h
 |fC=>exact .fC
 |raw h=>exact .raw h
 |fn h=>exact .fn h
 |rU h=>exact .rU h
 |slnil h hn=>exact .slnil h hn
 |sl g h hn hc eY hs hl h1 aN bF ih =>
  exact .sl g h hn hc eY hs hl h1 (λi j hi hj=>⟨by rw[hw _ _ (aN i j hi hj).2];exact (aN i j hi hj).1,hI _ _ (aN i j hi hj).2⟩) ih
 |dK g hs h1 aN bF ih =>
  exact .dK g hs h1 (λj hj=>⟨by rw[hw _ _ (aN j hj).2];exact (aN j hj).1,hI _ _ (aN j hj).2⟩) ih
 |dT g hs hl h1 aN bF ih =>
  exact .dT g hs hl h1 (λi j hi hj=>⟨by rw[hw _ _ (aN i j hi hj).2];exact (aN i j hi hj).1,hI _ _ (aN i j hi hj).2⟩) ih
 |agg hl h ih=>exact .agg hl ih
def Tb(E:Env)(h:Nat)(n:Int)(v:Value):Prop :=
 ∃a m c,E.τ h=some (.slice a m c)/\n<=(m:Int)/\(n=(m:Int)->v=.slice a m c)
def T0(E:Env)(h j off:Nat)(n:Int)(v:Value):Prop :=
 ∃a m c sz,E.τ h=some (.slice a m c)/\E.ζ h=some sz/\n<=(m:Int)/\(n=(m:Int)->∃b,a=some ⟨b,0,none⟩/\v=.pointer (some ⟨b,j * sz+off,none⟩))
def OU(ad:Option Addr)(m c sz k:Nat):Value:=.slice (if c=k then ad else ad.map (·.add (k * sz))) (m-k) (c-k)
def MR(E:Env)(h:Nat)(n a:Int)(v:Value):Prop :=
 ∃ad m c sz,E.τ h=some (.slice ad m c)/\E.ζ h=some sz/\n<=(m:Int)/\(n=(m:Int)->∃k:Nat,a=(k:Int)/\k<=m/\v=OU ad m c sz k)
def MD(E:Env)(h:Nat)(n g:Int)(v:Value):Prop :=
 ∃a G c,E.τ h=some (.slice a G c)/\g<=(G:Int)/\(g=(G:Int)->∃m:Nat,n=(m:Int)/\v=.slice a m c)
inductive Rel(E:Env)(w:World):SV->Value->Prop where
 |ro {s:SV} {v:Value} (h:RO E.I w s v):Rel E w s v
 |ptr {h off b:Nat} {v:Value} (hb:E.β h=some b) (hv:v=.pointer (some ⟨b,off,none⟩)):Rel E w (.ptr h off) v
 |dQ {nl:BT} {n:ST} {sz:Nat} {f:Nat->List SV} {h:Nat} {v:Value} (hr:RO E.I w (.sl nl n sz f) v) (ht:Tb E h n.den v):Rel E w (.dQ nl n sz f h) v
 |dG {h b m:Nat} {v:Value} (hb:E.β h=some b) (hm:E.κ h=some m) (hv:v=.slice (some ⟨b,0,none⟩) m m):Rel E w (.dG h) v
 |cS {h j off b:Nat} {sz:Nat} {v:Value} (hb:E.β h=some b) (hz:E.ζ h=some sz) (hv:v=.pointer (some ⟨b,j * sz+off,none⟩)):Rel E w (.cS h j off) v
 |bV {nl:BT} {n:ST} {h:Nat} {v:Value} (ht:∃a m c,v=.slice a m c/\n.den=(m:Int)/\(nl.den=true↔a=none)) (hk:Tb E h n.den v):Rel E w (.bV nl n h) v
 |cK {n:ST} {h j off:Nat} {v:Value} (hv:∃b o,v=.pointer (some ⟨b,o,none⟩)) (ho:T0 E h j off n.den v):Rel E w (.cK n h j off) v
 |bP {h b:Nat} {v:Value} (hb:E.β h=some b) (hv:v=.map (some b)):Rel E w (.bP h) v
 |iZ {n h b:Nat} {v:Value} (hb:E.β h=some b) (hn:n<=maxLen) (hv:v=.slice (some ⟨b,0,none⟩) n n):Rel E w (.iZ n h) v
 |yv {h b:Nat} {v:Value} (hb:E.β h=some b) (hv:v=.func (.yield b) #[] #[]):Rel E w (.yv h) v
 |cP {nl:BT} {n g:ST} {h:Nat} {v:Value} (ht:∃a m c,v=.slice a m c/\n.den=(m:Int)/\(nl.den=true↔a=none)) (hk:MD E h n.den g.den v):Rel E w (.cP nl n g h) v
 |jP {n a:ST} {h:Nat} {v:Value} (ht:∃ad m c,v=.slice ad m c) (hk:MR E h n.den a.den v):Rel E w (.jP n a h) v
 |agg {cs:List SV} {vs:List Value} (hl:cs.length=vs.length) (h:∀(i:Nat) (s:SV) (v:Value),cs[i]?=some s->vs[i]?=some v->Rel E w s v):Rel E w (.agg cs) (.agg ⟨vs⟩)
 |aJ {cs:List SV} {vs:List Value} (hl:cs.length=vs.length) (h:∀(i:Nat) (s:SV) (v:Value),cs[i]?=some s->vs[i]?=some v->Rel E w s v):Rel E w (.aJ cs) (.tuple ⟨vs⟩)
 |eZ {f:FuncId} {cs:List SV} {vs:List Value} (hl:cs.length=vs.length) (h:∀(i:Nat) (s:SV) (v:Value),cs[i]?=some s->vs[i]?=some v->Rel E w s v):Rel E w (.eZ f cs) (.func (.func f) #[] ⟨vs⟩)
 |gI {f:FuncId} {cs:List SV} {vs:List Value} (hl:cs.length=vs.length) (h:∀(i:Nat) (s:SV) (v:Value),cs[i]?=some s->vs[i]?=some v->Rel E w s v):Rel E w (.gI f cs) (.func (.func f) ⟨vs⟩ #[])
structure Ext(E:Env)(w:World)(E':Env)(w':World):Prop where
 β:∀h b,E.β h=some b->E'.β h=some b
 τ:∀h v,E.τ h=some v->E'.τ h=some v\/∃a m c a' m' c',v=.slice a m c/\E'.τ h=some (.slice a' m' c')/\m<m'
 κ:∀h m,E.κ h=some m->E'.κ h=some m
 ζ:∀h m,E.ζ h=some m->E'.ζ h=some m
 I:∀b o,E.I b o->E'.I b o
 cell:∀b o,E.I b o->w'.cell? ⟨b,o,none⟩=w.cell? ⟨b,o,none⟩
theorem Ext.refl(E:Env)(w:World):Ext E w E w:=⟨λ_ _ h=>h,λ_ _ h=>.inl h,λ_ _ h=>h,λ_ _ h=>h,λ_ _ h=>h,λ_ _ _=>rfl⟩
theorem Tb.mono{E E':Env}{w w':World}{h:Nat}{n:Int}{v:Value}(x:Ext E w E' w')(ht:Tb E h n v):Tb E' h n v:=by
 obtain⟨a,m,c,h1,h2,h3⟩:=ht;rcases x.τ h _ h1 with h4|⟨a0,m0,c0,a',m',c',e,h5,aC⟩
 .exact⟨a,m,c,h4,h2,h3⟩
 .cases e
  exact⟨a',m',c',h5,by omega,λe=>by omega⟩
theorem MD.mono{E E':Env}{w w':World}{h:Nat}{n g:Int}{v:Value}(x:Ext E w E' w')(ht:MD E h n g v):MD E' h n g v:=by
 obtain⟨a,m,c,h1,h2,h3⟩:=ht;rcases x.τ h _ h1 with h4|⟨a0,m0,c0,a',m',c',e,h5,aC⟩
 .exact⟨a,m,c,h4,h2,h3⟩
 .cases e
  exact⟨a',m',c',h5,by omega,λe=>by omega⟩
theorem T0.mono{E E':Env}{w w':World}{h j off:Nat}{n:Int}{v:Value}(x:Ext E w E' w')(ht:T0 E h j off n v):T0 E' h j off n v:=by
 obtain⟨a,m,c,sz,h1,h0,h2,h3⟩:=ht;rcases x.τ h _ h1 with h4|⟨a0,m0,c0,a',m',c',e,h5,aC⟩
 .exact⟨a,m,c,sz,h4,x.ζ _ _ h0,h2,h3⟩
 .cases e
  exact⟨a',m',c',sz,h5,x.ζ _ _ h0,by omega,λe=>by omega⟩
theorem MR.mono{E E':Env}{w w':World}{h:Nat}{n a:Int}{v:Value}(x:Ext E w E' w')(ht:MR E h n a v):MR E' h n a v:=by
 obtain⟨ad,m,c,sz,h1,h0,h2,h3⟩:=ht;rcases x.τ h _ h1 with h4|⟨a0,m0,c0,a',m',c',e,h5,aC⟩
 .exact⟨ad,m,c,sz,h4,x.ζ _ _ h0,h2,h3⟩
 .cases e
  exact⟨a',m',c',sz,h5,x.ζ _ _ h0,by omega,λe=>by omega⟩
theorem Rel.mono{E E':Env}{w w':World}{s:SV}{v:Value}(x:Ext E w E' w')(h:Rel E w s v):Rel E' w' s v:=by
 induction h with
 |ro h=>exact .ro (h.mono x.I x.cell)
 |ptr hb hv=>exact .ptr (x.β _ _ hb) hv
 |dQ hr ht=>exact .dQ (hr.mono x.I x.cell) (ht.mono x)
 |dG hb hm hv=>exact .dG (x.β _ _ hb) (x.κ _ _ hm) hv
 |cS hb hz hv=>exact .cS (x.β _ _ hb) (x.ζ _ _ hz) hv
 |bV ht hk=>exact .bV ht (hk.mono x)
 |cK hv ho=>exact .cK hv (ho.mono x)
 |bP hb hv=>exact .bP (x.β _ _ hb) hv
 |iZ hb hn hv=>exact .iZ (x.β _ _ hb) hn hv
 |yv hb hv=>exact .yv (x.β _ _ hb) hv
 |cP ht hk=>exact .cP ht (hk.mono x)
 |jP ht hk=>exact .jP ht (hk.mono x)
 |agg hl _ ih=>exact .agg hl ih
 |aJ hl _ ih=>exact .aJ hl ih
 |eZ hl _ ih=>exact .eZ hl ih
 |gI hl _ ih=>exact .gI hl ih
structure Bs where
 w0:World
 X:Nat->Prop
 I0:Nat->Nat->Prop
 cL:Nat->Option Nat
 nX:Nat->Option Value
 nY:Nat->Option Nat
 dl:List Nat
def Pm(v:Value)(o:Option Value):Prop:=o=some v\/∃a m c a' m' c',v=.slice a m c/\o=some (.slice a' m' c')/\m<m'
theorem Pm.trans{u v:Value}{o:Option Value}(h1:Pm u (some v))(h2:Pm v o):Pm u o:=by
 rcases h1 with h1|⟨a,m,c,a',m',c',e,h1,aC⟩
 .cases h1;exact h2
 .cases h1
  rcases h2 with h2|⟨a1,m1,c1,a2,m2,c2,e2,h2,eL⟩
  .exact .inr ⟨a,m,c,a',m',c',e,h2,aC⟩
  .cases e2
   exact .inr ⟨a,m,c,a2,m2,c2,e,h2,by omega⟩
structure M4(B:Bs)(E:Env):Prop where
 β:∀h b,B.cL h=some b->E.β h=some b
 τ:∀h v,B.nX h=some v->Pm v (E.τ h)
 ζ:∀h n,B.nY h=some n->E.ζ h=some n
theorem M4.ext{B:Bs}{E E':Env}{w w':World}(x:Ext E w E' w')(h:M4 B E):M4 B E':=by
 refine⟨λk b hk=>x.β k b (h.β k b hk),λk v hk=>?_,λk n hk=>x.ζ k n (h.ζ k n hk)⟩;have h1:=h.τ k v hk;cases he:E.τ k with
 |none=>rw[he]at h1;rcases h1 with h1|⟨_,_,_,_,_,_,_,h1,_⟩<;>cases h1
 |some u =>
  rw[he]at h1;exact h1.trans (x.τ k u he)
structure Cl(B:Bs)(E:Env)(w:World):Prop where
 os:w.os=B.w0.os
 tape:w.tape=B.w0.tape
 output:w.output=B.w0.output
 size:B.w0.heap.size<=w.heap.size
 dZ:∀b,b<B.w0.heap.size->¬B.X b->w.heap[b]?=B.w0.heap[b]?
 I0:∀b o,B.I0 b o->E.I b o/\w.cell? ⟨b,o,none⟩=B.w0.cell? ⟨b,o,none⟩
 dR:∀b o,E.I b o->b<w.heap.size
 cC:∀b o,E.I b o->B.I0 b o\/B.w0.heap.size<=b\/B.X b
 cR:∀b h,E.O b=some h->b<w.heap.size/\(B.w0.heap.size<=b\/B.X b)
 cL:M4 B E
def Q3(E:Env)(w:World)(f:Nat->List SV)(m sz:Nat)(C:Array Value):Prop :=
 C.size=m * sz/\(∀i,i<m->(f i).length=sz)/\(∀(i j:Nat) (s:SV) (v:Value),i<m->(f i)[j]?=some s->C[i * sz+j]?=some v->RO E.I w s v)/\∀v,v∈C->v.oneCell'=true
def Co(w:World)(gr:Bool)(e:TypeId)(sz:Nat)(v:Value)(m:Nat)(xs:List Value):Prop :=
 xs.length=m * sz/\((v=.slice none 0 0/\m=0)\/∃g cap cur fr,v=.slice (some ⟨g,0,none⟩) m cap/\w.heap[g]?=some (.cells cur e fr)/\(fr=(0,0)\/gr=false/\fr=(cur.size,cur.size+1))/\m<=cap/\cap<=maxLen/\cur.size=cap * sz/\cur.toList.take (m * sz)=xs)
theorem Xe{w:World}{e:TypeId}{sz m:Nat}{v:Value}{xs:List Value}(gr:Bool)(h:w.ownsRow 0 e sz v m xs):Co w gr e sz v m xs:=by
 refine⟨h.1,?_⟩;rcases h.2 with h|⟨g,cap,cur,h1,_,h2,h3⟩
 .exact .inl h
 .exact .inr ⟨g,cap,cur,(0,0),h1,h2,.inl rfl,h3⟩
theorem Co.shape{w:World}{gr:Bool}{e:TypeId}{sz m:Nat}{v:Value}{xs:List Value}(h:Co w gr e sz v m xs):∃a c,v=.slice a m c:=by
 rcases h.2 with⟨h,h2⟩|⟨g,cap,cur,fr,h1,h2⟩
 .exact⟨none,0,by rw[h,h2]⟩
 .exact⟨_,_,h1⟩
theorem Co.keep{w w':World}{gr:Bool}{e:TypeId}{sz m:Nat}{v:Value}{xs:List Value}(h:Co w gr e sz v m xs)(hb:∀b,v.ownBlock=some b->w'.heap[b]?=w.heap[b]?):Co w' gr e sz v m xs:=by
 refine⟨h.1,?_⟩;rcases h.2 with h|⟨g,cap,cur,fr,rfl,h2⟩
 .exact .inl h
 .exact .inr ⟨g,cap,cur,fr,rfl,by rw[hb g rfl];exact h2⟩
def Fx(E:Env)(w:World)(f:Nat->List SV)(m sz:Nat)(xs:List Value):Prop :=
 (∀i,i<m->(f i).length=sz)/\∀(i j:Nat) (s:SV) (u:Value),i<m->(f i)[j]?=some s->xs[i * sz+j]?=some u->RO E.I w s u
theorem Fx.mono{E E':Env}{w w':World}{f:Nat->List SV}{m sz:Nat}{xs:List Value}(x:Ext E w E' w')(h:Fx E w f m sz xs):Fx E' w' f m sz xs :=
 ⟨h.1,λi j s u hi hs hu=>(h.2 i j s u hi hs hu).mono x.I x.cell⟩
def Fy:List MapEntry->List UInt8->Bool
 | [],_=>false
 |e :: es,s=>match e.key with
  |.string x=>if x=bytes s then (match e.val with|.bool v=>v|_=>false) else Fy es s
  |_=>Fy es s
def LX:LoopState->Nat
 |.ready=>0
 |.busy=>1
 |.done=>2
 |.exhausted=>3
structure KR(c:LC)(st:Nat)(pd:Option Jp)(r:Loop):Prop where
 fn:r.fn=c.fn
 ps:r.params=c.ps
 assign:r.assign=c.assign
 body:r.body=c.body
 n:r.tmps.size=c.n
 st:LX r.state=st
 pd:r.pending=pd.map Jp.code
def bQ(E:Env)(w:World)(h:Nat):Hl->Prop
 |.fresh=>E.β h=none/\E.τ h=none/\E.κ h=none/\E.ζ h=none
 |.gone=>True
 |.aG ty cs=>∃b C,E.β h=some b/\E.O b=some h/\w.heap[b]?=some (.cells C ty (0,0))/\C.size=cs.length/\
   (∀(i:Nat) (s:SV) (v:Value),cs[i]?=some s->C[i]?=some v->Rel E w s v)/\(∀v,v∈C->v.oneCell'=true)/\∀o,¬E.I b o
 |.tail ty n sz=>∃v m xs,E.τ h=some v/\w.ownsRow 0 ty sz v m xs/\n.den=(m:Int)/\(∀v,v∈xs->v.oneCell'=true)/\
   ∀b,v.ownBlock=some b->E.O b=some h/\∀o,m * sz<=o->¬E.I b o
 |.row ty n sz f=>∃b C m,E.β h=some b/\E.κ h=some m/\E.ζ h=some sz/\E.O b=some h/\w.heap[b]?=some (.cells C ty (0,0))/\n.den=(m:Int)/\m<=maxLen/\Q3 E w f m sz C/\∀o,¬E.I b o
 |.own ty n sz gr f=>∃v m xs,E.τ h=some v/\E.ζ h=some sz/\Co w gr ty sz v m xs/\n.den=(m:Int)/\(∀u,u∈xs->u.oneCell'=true)/\Fx E w f m sz xs/\∀b,v.ownBlock=some b->E.O b=some h/\∀o,¬E.I b o
 |.mN T e s=>∃b p v,E.β h=some b/\E.O b=some h/\(p=.pointer none\/p=.pointer (some ⟨b,0,none⟩))/\w.heap[b]?=some (.cells #[p,v] T (0,0))/\w.ownsRow 0 e 1 v s.length (Lib.byteCells s)/\v.ownBlock≠some b/\
   (∀o,¬E.I b o)/\∀g,v.ownBlock=some g->E.O g=some h/\∀o,¬E.I g o
 |.vec ty n g sz f=>∃a c m G xs,E.τ h=some (.slice a G c)/\Co w false ty sz (.slice a m c) m xs/\n.den=(m:Int)/\g.den=(G:Int)/\(∀u,u∈xs->u.oneCell'=true)/\Fx E w f m sz xs/\∀b,(Value.slice a m c).ownBlock=some b->E.O b=some h/\∀o,¬E.I b o
 |.cZ F=>∃b es clock,E.β h=some b/\E.O b=some h/\w.heap[b]?=some (.map es clock)/\(∀e∈es.toList,∃s v,e.key=.string (bytes s)/\e.val=.bool v)/\(∀s,Fy es.toList s=F s)/\∀o,¬E.I b o
 |.iF es=>∃b ms clock,E.β h=some b/\E.O b=some h/\w.heap[b]?=some (.map ms clock)/\ms.size=es.length/\(∀(i:Nat) (p:Int×SV) (e:MapEntry),es[i]?=some p->ms.toList[i]?=some e->e.key=.int .i64 p.1/\Rel E w p.2 e.val)/\∀o,¬E.I b o
 |.bO c fr st pd=>∃b r,E.β h=some b/\E.O b=some h/\w.heap[b]?=some (.loop r)/\KR c st pd r/\(∀s v,(s,some v)∈fr->s<c.n/\Rel E w v (r.tmps.getD s undef))/\∀o,¬E.I b o
def Bh:List BT->Prop
 | []=>True
 |b :: l=>b.den=true/\Bh l
abbrev SG:=Option (List BT×SV)
def Bk(E:Env)(w:World)(a:Act)(s:Nat):SG->Prop
 |none=>True
 |some (cs,v)=>s<a.tmps.size/\(Bh cs->Rel E w v (a.tmps.getD s undef))/\(¬Bh cs->a.tmps.getD s undef=undef)
def T9(r:Nat):Deferred:={ target:=.collected r,args:=#[] }
structure St(B:Bs)(N:Nat)(E:Env)(a:Act)(w:World)(ff:Nat->SG)(hf:Nat->Hl):Prop where
 base:Cl B E w
 heap:∀h,bQ E w h (hf h)
 slot:∀s,Bk E w a s (ff s)
 size:a.tmps.size=N
 defers:a.defers=B.dl.map T9
theorem St.step{B:Bs}{N:Nat}{E E':Env}{a:Act}{w w':World}{ff:Nat->SG}{hf cY:Nat->Hl}(h:St B N E a w ff hf)(x:Ext E w E' w')(hb:Cl B E' w')
  (hh:∀k,bQ E' w' k (cY k)):St B N E' a w' ff cY where
 base:=hb
 heap:=hh
 slot:=λs=>by
  have:=h.slot s;cases hs:ff s with
  |none=>trivial
  |some p =>
   rw[hs]at this;exact⟨this.1,λha=>(this.2.1 ha).mono x,this.2.2⟩
 size:=h.size
 defers:=h.defers
def aR{α:Type}(f:Nat->α)(k:Nat)(x:α):Nat->α:=λj=>if j=k then x else f j
def BB{α:Type}(f:Nat->α)(k:Option Nat)(x:α):Nat->α:=match k with
 |some k=>aR f k x
 |none=>f
theorem O6{a:Act}{d s:Nat}{v:Value}(h:s<a.tmps.size):(a.put (some d) v).tmps.getD s undef=if s=d then v else a.tmps.getD s undef:=by
 simp only[Act.put,XH]
 by_cases e:s=d
 .subst e;simp[h]
 .rw[QA e,ZP (λe'=>e e'.symm)]
theorem St.put{B:Bs}{N:Nat}{E:Env}{a:Act}{w:World}{ff:Nat->SG}{hf:Nat->Hl}(h:St B N E a w ff hf)(d:Option Nat)(v:Value)(g:SG)
  (hg:∀cs s,g=some (cs,s)->(Bh cs->Rel E w s v)/\(¬Bh cs->v=undef)) (hd:∀k,d=some k->k<N):St B N E (a.put d v) w (BB ff d g) hf:=by
 cases d with
 |none=>exact h
 |some k =>
  refine⟨h.base,h.heap,λs=>?_,by simp[Act.put,h.size],h.defers⟩;have hk:=hd k rfl
  by_cases e:s=k
  .subst e
   simp only[BB,aR,QB];cases g with
   |none=>trivial
   |some p =>
    obtain⟨cs,x⟩:=p;obtain⟨h1,h2⟩:=hg cs x rfl;have hs:s<a.tmps.size:=by rw[h.size];exact hk
    refine⟨by simp[Act.put];exact hs,λha=>?_,λha=>?_⟩
    .rw[O6 hs,QB rfl];exact h1 ha
    .rw[O6 hs,QB rfl];exact h2 ha
  .have:=h.slot s
   simp only[BB,aR,QA e];cases hs:ff s with
   |none=>trivial
   |some p =>
    rw[hs]at this;obtain⟨h1,h2,h3⟩:=this;refine⟨by simp[Act.put];exact h1,?_,?_⟩
    .rw[O6 h1,QA e];exact h2
    .rw[O6 h1,QA e];exact h3
def Aq(hp:List Hl):Nat->Hl:=λh=>(nth hp h).getD .fresh
def aO(s s':SV):Prop:=∀(E:Env) (w:World) (v:Value),Rel E w s v->Rel E w s' v
def cI(ls aK:List Hl):Prop:=∀(h:Nat) (E:Env) (w:World),bQ E w h (Aq ls h)->bQ E w h (Aq aK h)
structure Fin(r' r:SV)(dU aK:List Hl):Prop where
 v:aO r' r
 h:cI dU aK
 len:aK.length<=dU.length
def MM:List SV->SV
 | [v]=>v
 |vs=>.aJ vs
def W1:Nat->List Nat
 |0=>[]
 |n+1=>W1 n++[n]
def nd:List Nat->List Nat->Bool
 | [],[]=>true
 |x :: l,y :: t=>x==y&&nd l t
 |_,_=>false
def LN(cx:Cx)(m:Nat)(vs:List SV)(σ:Sy)(K:SV->List Hl->Prop):Prop :=
 match loose (norm cx.D (MM vs)) with
 |r =>
  match reach σ.hp σ.hp (L9 (W1 m) (iA r)) with
  |hs =>
   match Ux cx.D σ.hp hs with
   |ls =>
    if P0 hs&&nd (takeN m hs) (W1 m)&&Vt hs (iA r)&&Cb r&&tx (Ah σ.hp) hs&&Mk hs ls then K (nE (H7 hs) r) (We (mA (H7 hs)) ls) else False
structure AH(c:LC)(ps:Array Tmp)(assign body:Code)(n:Nat):Prop where
 ps:c.ps=ps
 assign:c.assign=assign
 body:c.body=body
 n:c.n=n
def I9:List Tmp->List SV->List (Option G)->Option (List (Option G))
 | [],[],fr=>some fr
 |p :: ps,v :: vs,fr=>I9 ps vs (Ax fr p (some ⟨[],none,none,v⟩))
 |_,_,_=>none
def jq:Ex->Nat×Option Jp×Bool
 |.normal=>(0,none,true)
 |.ret=>(2,some .ret,false)
 |.exit id=>(2,some (.exit id),false)
 |.goto l=>(2,some (.goto l),false)
def JF:Option Jp->Ex
 |none=>.normal
 |some .ret=>.ret
 |some (.exit id)=>.exit id
 |some (.goto l)=>.goto l
def Ix:Code->Bool
 |.seq a b=>Ix a&&Ix b
 |.cond _ t e=>Ix t&&Ix e
 |.block _ b=>Ix b
 |.loop b=>Ix b
 |.scope b=>Ix b
 |.rangeFunc ..=>false
 |_=>true
def Tt(cx:Cx)(m:Nat)(K:SV->List Hl->Prop)(e:Ex)(σ:Sy):Prop :=
 match nth σ.hp 0,jq e with
 |some (.bO c fr 1 none),(st,pd,b)=>LN cx m [.bool (.l b)] ⟨σ.fr,Ax σ.hp 0 (.bO c fr st pd),σ.gm⟩ K
 |_,_=>False
def Aej(_c:LC)(ps:Array Tmp)(n:Nat)(xs:List SV)(ls:List Hl):Option (List (Option G)) :=
 match xs,ls with
 |.yv 0 :: vs,.bO _ fr 0 none :: _=>I9 ps.toList vs (Oo fr (List.replicate n none))
 |_,_=>none
def OR:SV->Option (FuncId×List SV)
 |.eZ f cs=>some (f,cs)
 |.fn f=>some (f,[])
 |_=>none
def Adr(X:Sy->(Ex->Sy->Prop)->Prop):Nat->Sy->(Ex->Sy->Prop)->Prop
 |0,_,_=>False
 |n+1,σ,K=>X σ λe aL=>match e with
  |.normal=>Adr X n aL K
  |e=>K e aL
def JT:List Gh->Nat
 | [.freeze n]=>n
 |_=>0
def exec(cx:Cx):Code->Sy->(Ex->Sy->Prop)->Prop
 |.skip,σ,K=>K .normal σ
 |.region id ops draw,σ,K =>
  fY cx (id+2000000) σ λσ=>Ey cx ops.toList ops.toList [] σ λfs σ =>
   if draw then (if Nat.blt 40 (Ah ops.toList) then ow ops.toList fs/\fY cx id ⟨tidy σ.fr,σ.hp,[]⟩ (K .normal)
    else if Hh ops.toList 0&&indep ops.toList (Il ops.toList []) ops.toList fs 0 then fY cx id ⟨tidy σ.fr,σ.hp,[]⟩ (K .normal) else False)
   else fY cx id ⟨tidy σ.fr,σ.hp,[]⟩ (K .normal)
 |.seq a b,σ,K=>exec cx a σ λe σ=>match e with
  |.normal=>exec cx b σ K
  |e=>K e σ
 |.cond c t e,σ,K =>
  match rd cx σ [] c with
  |some (.bool (.l true))=>exec cx t σ K
  |some (.bool (.l false))=>exec cx e σ K
  |some (.bool b)=>(cx.D.b b=true->exec cx t (tN σ c true) K)/\(cx.D.b b=false->exec cx e (tN σ c false) K)
  |_=>False
 |.block id b,σ,K=>exec cx b σ λe σ=>match e with
  |.exit i=>if i==id then K .normal σ else K (.exit i) σ
  |e=>K e σ
 |.loop b,σ,K=>match look 999986 cx.gh with
  |some l=>Adr (exec cx b) (JT l) σ K
  |none =>
  ∃(keep:List Nat) (J:Nat->List (Option SV)->List Hl->Prop),
   (D5 (Ah σ.hp) σ.hp=true/\∃m,J m (Gw cx.D (Ah σ.hp) σ.fr keep) (Gx cx.D σ.hp))/\
   ∀m vs hp,J m vs hp->exec cx b ⟨Oo (K5 keep vs) (blank σ.fr),hp,[]⟩ λe aL=>match e with
    |.normal=>D5 (Ah σ.hp) (takeN (Ah σ.hp) aL.hp)=true/\∃m',m'<m/\J m' (Gw cx.D (Ah σ.hp) aL.fr keep) (Gx cx.D (takeN (Ah σ.hp) aL.hp))
    |e=>K e aL
 |.exit id,σ,K=>K (.exit id) σ
 |.ret,σ,K=>K .ret σ
 |.label _,σ,K=>K .normal σ
 |.goto l,σ,K=>K (.goto l) σ
 |.scope c,σ,K=>exec cx c σ λe σ=>match e with
  |.goto _=>False
  |e=>K e σ
 |.rangeFunc g ps assign bd,σ,K =>
  match (rd cx σ [] g).bind OR with
  |some (f,uQ) =>
   match look f cx.its with
   |some it =>
    (Ix assign&&Ix bd)=true/\∀c:LC,AH c ps assign bd (Ah σ.fr)->∃(keep:List Nat) (Y:aB),
     (∀xs ls K',Y cx.D xs ls K'->(∃fr,ls.head?=some (.bO c fr 0 none))/\∃r aK,K' r aK/\match Aej c ps (Ah σ.fr) xs ls with
      |some sO=>exec cx assign ⟨sO,ls,[]⟩ λe dS=>match e,nth dS.hp 0 with
       |.normal,some (.bO c1 rm 0 none)=>exec cx bd ⟨dS.fr,Ax dS.hp 0 (.bO c1 rm 1 none),dS.gm⟩ (Tt cx (Ah ls) λr' dU=>Fin r' r dU aK)
       |_,_=>False
      |none=>False)/\
     F9 cx ⟨σ.fr,σ.hp++[.bO c (K5 keep (Gw cx.D (Ah σ.hp) σ.fr keep)) 0 none],σ.gm⟩ [] (.yv (Ah σ.hp) :: uQ) (it Y) λo =>
      match Lw (σ.hp++[.bO c (K5 keep (Gw cx.D (Ah σ.hp) σ.fr keep)) 0 none]) o.fK with
      |mC=>Jh (σ.hp++[.bO c (K5 keep (Gw cx.D (Ah σ.hp) σ.fr keep)) 0 none]) o.fK=true/\match nth mC (Ah σ.hp) with
       |some (.bO _ _ st pd)=>Nat.beq st 1=false/\K (JF pd) ⟨σ.fr,Ax mC (Ah σ.hp) .gone,σ.gm⟩
       |_=>False
   |none=>False
  |none=>False
 |_,_,_=>False
def Je(cx:Cx)(σ:Sy):List ResultVar->Option (List SV)
 | []=>some []
 |.tmp t :: rs=>match rd cx σ [] (.tmp t),Je cx σ rs with
  |some v,some vs=>some (v :: vs)
  |_,_=>none
 |.cell a t :: rs=>match rd cx σ [] (.tmp a),size? cx t,Je cx σ rs with
  |some (.ptr h off),some n,some vs =>
   match nth σ.hp h with
   |some (.aG _ cs)=>if Nat.ble (off+n) (Ah cs) then
     match pack (cH cx t) (takeN n (C4 off cs)) with
     |some v=>some (v :: vs)
     |none=>none
    else none
   |_=>none
  |_,_,_=>none
def Eh(ntmps:Nat)(args:List SV):List (Option G) :=
 (args.map λv=>some ⟨[],none,none,v⟩)++List.replicate (ntmps-Ah args) none
def Ak9:List SV->Option Nat
 | []=>none
 |.bV _ _ h :: _=>some h
 |_ :: vs=>Ak9 vs
def Q5(h k:Nat):List SV->List SV
 | []=>[]
 |.bV nl n _ :: vs=>.bV nl n k :: Q5 h k vs
 |v :: vs=>v :: Q5 h k vs
def Tz(h:Nat):List SV->Bool
 | []=>true
 |.bV _ _ h' :: vs=>h'==h&&Tz h vs
 |v :: vs=>An v&&Tz h vs
def DC(cx:Cx)(m:Nat)(vs:List SV)(σ:Sy)(K:SV->List Hl->Prop):Prop :=
 match Ak9 vs with
 |none=>K (loose (norm cx.D (MM vs))) (cN cx.D (takeN m σ.hp))
 |some h=>match Nat.ble m h&&Tz h vs&&G9 (cN cx.D (takeN m σ.hp)),nth σ.hp h with
  |true,some (.own ty n sz gr f)=>K (loose (norm cx.D (MM (Q5 h m vs)))) (cN cx.D (takeN m σ.hp++[.own ty n sz gr f]))
  |_,_=>False
def OI(cx:Cx)(fn:Func)(args:List SV)(hp:List Hl)(K:SV->List Hl->Prop):Prop :=
 match fn.body with
 |some c=>exec cx c ⟨Eh fn.ntmps args,hp,[]⟩ λe σ=>match e with
  |.normal|.ret=>match Je cx σ fn.results.toList with
   |some vs=>LN cx (Ah hp) vs σ K
   |none=>False
  |_=>False
 |none=>False
def body(cx:Cx)(fn:Func)(args:List SV)(hp:List Hl)(K:SV->List Hl->Prop):Prop :=
 match fn.body with
 |some c=>exec cx c ⟨Eh fn.ntmps args,hp,[]⟩ λe σ=>match e with
  |.normal|.ret=>match Je cx σ fn.results.toList with
   |some vs=>DC cx (Ah hp) vs σ K
   |none=>False
  |_=>False
 |none=>False
def sk(cx:Cx)(fn:Func)(pre c:Code)(l:Nat)(rest:Code)(args:List SV)(hp:List Hl)(K:SV->List Hl->Prop):Prop :=
 ∃(keep:List Nat) (J:Nat->List (Option SV)->List Hl->Prop),
  (exec cx pre ⟨Eh fn.ntmps args,hp,[]⟩ λe σ=>match e with
   |.normal=>exec cx c σ λe σ=>match e with
    |.normal|.ret=>match Je cx σ fn.results.toList with
     |some vs=>DC cx (Ah hp) vs σ K
     |none=>False
    |.goto l'=>l'=l/\D5 (Ah hp) (takeN (Ah hp) σ.hp)=true/\∃m,J m (Gw cx.D (Ah hp) σ.fr keep) (Gx cx.D (takeN (Ah hp) σ.hp))
    |_=>False
   |_=>False)/\
  ∀m vs mC,J m vs mC->exec cx rest ⟨Oo (K5 keep vs) (blank (Eh fn.ntmps args)),mC,[]⟩ λe σ=>match e with
   |.normal|.ret=>match Je cx σ fn.results.toList with
    |some vs=>DC cx (Ah hp) vs σ K
    |none=>False
   |.goto l'=>l'=l/\D5 (Ah hp) (takeN (Ah hp) σ.hp)=true/\∃m',m'<m/\J m' (Gw cx.D (Ah hp) σ.fr keep) (Gx cx.D (takeN (Ah hp) σ.hp))
   |_=>False
theorem Aj{α:Type}:∀(l:List α) (n:Nat),nth l n=l[n]?
 | [],_=>by simp[nth]
 |_ :: _,0=>by simp[nth]
 |_ :: l,n+1=>by simp[nth,Aj l n]
theorem D7{α:Type}:∀(l:List (Option α)) (n:Nat),Au l n=(l[n]?).getD none
 | [],_=>by simp[Au]
 |_ :: _,0=>by simp[Au]
 |_ :: l,n+1=>by simp[Au,D7 l n]
theorem As{α:Type}:∀(l:List α) (n:Nat) (v:α),Ax l n v=l.set n v
 | [],_,_=>by simp[Ax]
 |_ :: _,0,_=>by simp[Ax]
 |_ :: l,n+1,v=>by simp[Ax,As l n v]
theorem A8{α:Type}:∀(n:Nat) (l:List α),takeN n l=l.take n
 |0,_=>by simp[takeN]
 |_+1,[]=>by simp[takeN]
 |n+1,_ :: l=>by simp[takeN,A8 n l]
theorem Bi{α:Type}:∀(n:Nat) (l:List α),C4 n l=l.drop n
 |0,_=>by simp[C4]
 |_+1,[]=>by simp[C4]
 |n+1,_ :: l=>by simp[C4,Bi n l]
theorem Af{α:Type}:∀(l:List α),Ah l=l.length
 | []=>rfl
 |_ :: l=>by simp[Ah,Af l]
theorem Dd{α:Type}:∀(vs l:List α) (off:Nat),(C9 l off vs).length=l.length
 | [],_,_=>rfl
 |v :: vs,l,off=>by simp[C9,Dd vs,As]
theorem Hv{α:Type}:∀(vs l:List α) (off i:Nat),off+vs.length<=l.length->(C9 l off vs)[i]?=if off<=i/\i<off+vs.length then vs[i-off]? else l[i]?
 | [],l,off,i,_=>by rw[C9,QA (by simp only[QU];omega)]
 |v :: vs,l,off,i,h=>by
  simp only[QG]at h;rw[C9,Hv vs _ (off+1) i (by simp[As];omega),As]
  by_cases e:i=off
  .subst e
   rw[QA (by omega),QB (by simp)];rw[ZF (by omega)];simp
  .by_cases e2:off+1<=i/\i<off+1+vs.length
   .rw[QB e2,QB (by simp;omega)]
    obtain⟨k,hk⟩:∃k,i-off=k+1:=⟨i-off-1,by omega⟩;rw[hk,show i-(off+1)=k by omega];simp
   .rw[QA e2,QA (by simp;omega),XT (by omega)]
theorem D1(x:Nat):∀l,K6 x l=true↔x∈l
 | []=>by simp[K6]
 |y :: l=>by
  simp only[K6,XR,QS,D1 x l,XS];constructor
  .rintro (h|h)
   .exact .inl h.symm
   .exact .inr h
  .rintro (h|h)
   .exact .inl h.symm
   .exact .inr h
theorem Aai:∀(l t:List Nat),V4 l t=true↔∀x∈l,x∈t
 | [],t=>by simp[V4]
 |x :: l,t=>by simp[V4,D1,Aai l t]
def Ac(gm:List BT)(T:List Nat):List BT:=T.filterMap (nth gm)
theorem Adj:∀(l:List BT),Bh l↔∀b∈l,b.den=true
 | []=>by simp[Bh]
 |b :: l=>by simp[Bh,Adj l]
theorem Adi{gm:List BT}{t T:List Nat}(h:V4 t T=true)(hT:Bh (Ac gm T)):Bh (Ac gm t):=by
 rw[Adj]at *;intro b hb;rw[Ac,List.mem_filterMap]at hb;obtain⟨i,hi,hb⟩:=hb;exact hT b (by rw[Ac,List.mem_filterMap];exact⟨i,(Aai _ _).1 h i hi,hb⟩)
theorem Dj(gm:List BT)(A:Prop):∀(T:List Nat),Ob dn gm T A↔(Bh (Ac gm T)->A)
 | []=>by simp[Ob,Ac,Bh]
 |i :: T=>by
  have ih:=Dj gm A T;simp only[Ob,Ac,ZU];cases h:nth gm i with
  |none=>simpa[Ac] using ih
  |some b =>
   simp only[Bh];rw[ih];constructor
   .intro h1 ⟨h2,h3⟩;exact h1 h2 h3
   .intro h1 h2 h3;exact h1 ⟨h2,h3⟩
def Jl(P:Program):TK->TypeDesc->Bool
 |.int k,.int k'=>k==k'
 |.bool,.bool=>true
 |.string,.string=>true
 |.pointer e,.pointer e'=>e==e'
 |.slice e,.slice e'=>e==e'
 |.struct fs,.struct fields=>(fields.toList.map λf=>(f.offset,f.type))==fs&&fields.toList.all λf=>(P.info? f.type).isSome
 |.array n e,.array n' e'=>n==n'&&e==e'
 |.map k e,.map k' e'=>k==k'&&e==e'
 |.iface,.interface _=>true
 |.other,.struct _=>false
 |.other,.array ..=>false
 |.other,_=>true
 |_,_=>false
def zB:SV->Value->Bool
 |.int k (.l n),.int k' n'=>k==k'&&n==n'
 |.bool (.l b),.bool b'=>b==b'
 |.str s,.string s'=>s==s'.data.toList
 |.fC,.pointer none=>true
 |.sl (.l true) (.l 0) _ _,.slice none 0 0=>true
 |.raw .nilIface,.nilIface=>true
 |.raw .nilFunc,.nilFunc=>true
 |.raw (.map none),.map none=>true
 |_,_=>false
def uU:List SV->List Value->Bool
 | [],[]=>true
 |s :: ss,v :: vs=>zB s v&&uU ss vs
 |_,_=>false
def Aln(k:TK)(z:Value):Bool:=match z with
 |.agg _=>(match k with|.struct _=>true|.array _ _=>true|_=>false)
 |_=>true
def MT(P:Program)(t:TypeId)(ti:TI):Bool :=
 match P.underlying t,P.info? t with
 |some d,some i=>ti.zero.length==ti.size&&Jl P ti.k d&&i.size==ti.size&&i.bytes==ti.bytes&&(match i.zero with|some z=>uU ti.zero z.cells.toList&&Aln ti.k z|none=>false)
 |_,_=>false
def yK(P:Program):List (Nat×TI)->Bool
 | []=>true
 |(t,ti) :: l=>MT P t ti&&yK P l
theorem Aad{P:Program}:∀ {tt:List (Nat×TI)} {t:Nat} {ti:TI},yK P tt=true->look t tt=some ti->MT P t ti=true
 | [],_,_,_,h=>by simp[look]at h
 |(u,ui) :: l,t,ti,hB,h=>by
  simp only[yK,QE]at hB;simp only[look]at h
  split at h
  .rename_i e
   have e:u=t:=by simpa using e
   subst e;simp only[Option.some.injEq]at h;subst h;exact hB.1
  .exact Aad hB.2 h
theorem DK{I:Nat->Nat->Prop}{w:World}{s:SV}{v:Value}(h:zB s v=true):RO I w s v:=by
 unfold zB at h
 split at h<;>simp at h
 .obtain⟨rfl,rfl⟩:=h;exact .int rfl
 .subst h;exact .bool rfl
 .subst h;exact .str rfl
 .exact .fC
 .exact .slnil rfl rfl
 .exact .raw rfl
 .exact .raw rfl
 .exact .raw rfl
theorem Jz{I:Nat->Nat->Prop}{w:World}:∀ {ss:List SV} {vs:List Value},uU ss vs=true->ss.length=vs.length/\∀(i:Nat) (s:SV) (v:Value),ss[i]?=some s->vs[i]?=some v->RO I w s v
 | [],[],_=>by simp
 |s :: ss,v :: vs,h=>by
  simp only[uU,QE]at h;obtain⟨h1,h2⟩:=Jz (I:=I) (w:=w) h.2;refine⟨by simp[h1],λi s' v' hs hv=>?_⟩;cases i with
  |zero=>simp at hs hv;subst hs;subst hv;exact DK h.1
  |succ i=>simp at hs hv;exact h2 i s' v' hs hv
 | [],_ :: _,h=>by simp[uU]at h
 |_ :: _,[],h=>by simp[uU]at h
theorem Aj1{s:SV}{v:Value}(h:zB s v=true):v.oneCell'=true:=by
 unfold zB at h
 split at h<;>first|rfl|simp at h
structure Em(P:Program)(t:TypeId)(ti:TI):Prop where
 pP:ti.zero.length=ti.size
 xP:∃d,P.underlying t=some d/\Jl P ti.k d=true
 info:∃i z,P.info? t=some i/\i.size=ti.size/\i.bytes=ti.bytes/\i.zero=some z/\uU ti.zero z.cells.toList=true/\Aln ti.k z=true
theorem uk{P:Program}{t:TypeId}{ti:TI}(h:MT P t ti=true):Em P t ti:=by
 unfold MT at h
 split at h
 .rename_i d i hd hi
  simp only[QE,QS]at h;obtain⟨⟨⟨⟨h0,h1⟩,h2⟩,h3⟩,h4⟩:=h
  split at h4
  .rename_i z hz
   simp only[QE]at h4;exact⟨h0,⟨d,hd,h1⟩,⟨i,z,hi,h2,h3,hz,h4⟩⟩
  .simp at h4
 .simp at h
theorem Ael{I:Nat->Nat->Prop}{w:World}{v:Value}{s:SV}(h:ofConst v=some s):(∃vs,s=.aJ []/\v=.tuple vs/\vs=#[])\/RO I w s v:=by
 unfold ofConst at h
 split at h
 .cases h;exact .inr (.int rfl)
 .cases h;exact .inr (.bool rfl)
 .cases h;exact .inr (.str rfl)
 .cases h;exact .inr .fC
 .cases h;exact .inr (.slnil rfl rfl)
 .cases h;exact .inr (.raw rfl)
 .cases h;exact .inr (.raw rfl)
 .cases h;exact .inr (.raw rfl)
 .rename_i vs
  split at h
  .rename_i e
   cases h;exact .inl ⟨vs,rfl,rfl,by simpa using e⟩
  .cases h
 .cases h
theorem Abg{E:Env}{w:World}{v:Value}{s:SV}(h:ofConst v=some s):Rel E w s v:=by
 rcases Ael (I:=E.I) (w:=w) h with⟨vs,rfl,rfl,rfl⟩|h
 .exact .aJ rfl (by simp)
 .exact .ro h
def Rh(w:World)(g:Nat)(s:SV):Prop:=match s with
 |.dT n sz _=>∃(C:Array Value) (t:TypeId) (fr:Nat×Nat),w.heap[g]?=some (.cells C t fr)/\C.size=n * sz
 |_=>True
theorem Rh.same{w w':World}{g:Nat}{s:SV}(h:Rh w g s)(e:w'.heap[g]?=w.heap[g]?):Rh w' g s:=by
 unfold Rh at h ⊢
 split at h
 .obtain⟨C,t,fr,h1,h2⟩:=h
  exact⟨C,t,fr,e.trans h1,h2⟩
 .trivial
def Fh(B:Bs)(gl:List (Nat×SV)):Prop:=∀g s,look g gl=some s->RO B.I0 B.w0 s (.pointer (some ⟨g,0,none⟩))/\g<B.w0.heap.size/\¬B.X g/\Rh B.w0 g s
def Bd(σ:Sy):Nat->SG:=λs=>(Au σ.fr s).map λg=>(Ac σ.gm g.tg,g.v)
def Ct(x:Operand):List Nat:=match x with
 |.tmp s=>[s]
 |_=>[]
theorem Aa{B:Bs}{N:Nat}{E:Env}{a:Act}{w:World}{ff:Nat->SG}{hf:Nat->Hl}{cx:Cx}{σ:Sy}{T:List Nat}{x:Operand}{v:SV}
  (h:rd cx σ T x=some v) (hg:Fh B cx.gl) (st:St B N E a w ff hf) (ag:∀s∈Ct x,ff s=Bd σ s) (hT:Bh (Ac σ.gm T)):Rel E w v (a.eval x):=by
 cases x with
 |tmp s =>
  simp only[rd]at h
  split at h
  .rename_i g iX
   split at h
   .rename_i hs
    cases h;have h1:=st.slot s;rw[ag s (by simp[Ct]),Bd,iX]at h1;simp only[QP,Bk]at h1;exact h1.2.1 (Adi hs hT)
   .cases h
  .cases h
 |const v'=>exact Abg h
 |global g =>
  have h1:=(hg g v h).1;exact .ro (h1.mono (λb o hb=>(st.base.I0 b o hb).1) (λb o hb=>(st.base.I0 b o hb).2))
 |func f =>
  cases h;exact .ro (.fn rfl)
theorem Aii{E:Env}{w:World}{cx:Cx}{t:TypeId}{v:SV}{u:Value}(h:Rel E w v u):Rel E w (Alk cx t v) u:=by
 unfold Alk
 split
 .rename_i f
  have hn:∀(n:Nat) (g:Nat->List SV),Rel E w (.sl (.l true) (.l 0) n g) u:=by
   intro n g;cases h with
   |ro h=>cases h with
    |slnil h hn=>exact .ro (.slnil rfl rfl)
    |sl g h=>simp[BT.den]at h
  split
  .split
   .exact hn _ _
   .exact hn _ _
  .exact hn _ _
 .exact h
theorem Jf{B:Bs}{N:Nat}{E:Env}{a:Act}{w:World}{ff:Nat->SG}{hf:Nat->Hl}{cx:Cx}{σ:Sy}{T:List Nat}{t:TypeId}{x:Operand}{v:SV}
  (h:dx cx σ T t x=some v) (hg:Fh B cx.gl) (st:St B N E a w ff hf) (ag:∀s∈Ct x,ff s=Bd σ s) (hT:Bh (Ac σ.gm T)):Rel E w v (a.eval x):=by
 unfold dx at h
 split at h
 .rename_i v0 h0
  cases h;exact Aii (Aa h0 hg st ag hT)
 .cases h
def A6(E:Env)(w:World)(cs:List SV)(vs:List Value):Prop :=
 cs.length=vs.length/\∀(i:Nat) (s:SV) (v:Value),cs[i]?=some s->vs[i]?=some v->Rel E w s v
theorem A6.agg{E:Env}{w:World}{cs:List SV}{vs:List Value}(h:A6 E w cs vs):Rel E w (.agg cs) (.agg ⟨vs⟩):=.agg h.1 h.2
theorem A6.nil{E:Env}{w:World}:A6 E w [] []:=⟨rfl,by simp⟩
theorem A6.cons{E:Env}{w:World}{s:SV}{v:Value}{cs:List SV}{vs:List Value}(h:Rel E w s v)(hs:A6 E w cs vs):A6 E w (s :: cs) (v :: vs) :=
 ⟨by simp[hs.1],λi s' v' h1 h2=>by
  cases i with
  |zero=>simp at h1 h2;subst h1;subst h2;exact h
  |succ i=>simp at h1 h2;exact hs.2 i s' v' h1 h2⟩
theorem A6.take{E:Env}{w:World}{cs:List SV}{vs:List Value}(n:Nat)(h:A6 E w cs vs):A6 E w (cs.take n) (vs.take n) :=
 ⟨by simp[h.1],λi s v h1 h2=>by
  rw[QN]at h1 h2
  split at h1
  .rename_i e;rw[QB e]at h2;exact h.2 i s v h1 h2
  .cases h1⟩
theorem A6.drop{E:Env}{w:World}{cs:List SV}{vs:List Value}(n:Nat)(h:A6 E w cs vs):A6 E w (cs.drop n) (vs.drop n) :=
 ⟨by simp[h.1],λi s v h1 h2=>by
  rw[XF]at h1 h2;exact h.2 _ s v h1 h2⟩
theorem Rel.iT{E:Env}{w:World}{cs:List SV}{v:Value}(h:Rel E w (.agg cs) v):∃vs,v=.agg ⟨vs⟩/\A6 E w cs vs:=by
 cases h with
 |ro h=>cases h with
  |agg hl h=>exact⟨_,rfl,hl,λi s v a b=>.ro (h i s v a b)⟩
 |agg hl h=>exact⟨_,rfl,hl,h⟩
theorem Rel.uW{E:Env}{w:World}{cs:List SV}{v:Value}(h:Rel E w (.aJ cs) v):∃vs,v=.tuple ⟨vs⟩/\A6 E w cs vs:=by
 cases h with
 |ro h=>cases h
 |aJ hl h=>exact⟨_,rfl,hl,h⟩
theorem Rel.qI{E:Env}{w:World}{f:FuncId}{cs:List SV}{v:Value}(h:Rel E w (.eZ f cs) v):∃vs,v=.func (.func f) #[] ⟨vs⟩/\A6 E w cs vs:=by
 cases h with
 |ro h=>cases h
 |eZ hl h=>exact⟨_,rfl,hl,h⟩
theorem Rel.nw{E:Env}{w:World}{f:FuncId}{cs:List SV}{v:Value}(h:Rel E w (.gI f cs) v):∃vs,v=.func (.func f) ⟨vs⟩ #[]/\A6 E w cs vs:=by
 cases h with
 |ro h=>cases h
 |gI hl h=>exact⟨_,rfl,hl,h⟩
theorem Rel.qH{E:Env}{w:World}{f:FuncId}{v:Value}(h:Rel E w (.fn f) v):v=.func (.func f) #[] #[]:=by
 cases h with
 |ro h=>cases h with
  |fn h=>exact h
theorem Rel.aQ{E:Env}{w:World}{k:IntKind}{t:ST}{v:Value}(h:Rel E w (.int k t) v):v=.int k t.den:=by
 cases h with
 |ro h=>cases h with
  |int h=>rw[h]
theorem Rel.bI{E:Env}{w:World}{t:BT}{v:Value}(h:Rel E w (.bool t) v):v=.bool t.den:=by
 cases h with
 |ro h=>cases h with
  |bool h=>rw[h]
theorem Rel.cU{E:Env}{w:World}{s:List UInt8}{v:Value}(h:Rel E w (.str s) v):v=.string (bytes s):=by
 cases h with
 |ro h=>cases h with
  |str h=>exact h
theorem Rel.dL{E:Env}{w:World}{h off:Nat}{v:Value}(hr:Rel E w (.ptr h off) v):∃b,E.β h=some b/\v=.pointer (some ⟨b,off,none⟩):=by
 cases hr with
 |ro h=>cases h
 |ptr hb hv=>exact⟨_,hb,hv⟩
theorem Rel.iO{E:Env}{w:World}{nl:BT}{n:ST}{h:Nat}{v:Value}(hr:Rel E w (.bV nl n h) v):(∃a m c,v=.slice a m c/\n.den=(m:Int)/\(nl.den=true↔a=none))/\Tb E h n.den v:=by
 cases hr with
 |ro h=>cases h
 |bV ht hk=>exact⟨ht,hk⟩
theorem Rel.jR{E:Env}{w:World}{nl:BT}{n g:ST}{h:Nat}{v:Value}(hr:Rel E w (.cP nl n g h) v):(∃a m c,v=.slice a m c/\n.den=(m:Int)/\(nl.den=true↔a=none))/\MD E h n.den g.den v:=by
 cases hr with
 |ro h=>cases h
 |cP ht hk=>exact⟨ht,hk⟩
theorem Rel.fu{E:Env}{w:World}{n a:ST}{h:Nat}{v:Value}(hr:Rel E w (.jP n a h) v):(∃ad m c,v=.slice ad m c)/\MR E h n.den a.den v:=by
 cases hr with
 |ro h=>cases h
 |jP ht hk=>exact⟨ht,hk⟩
theorem Rel.nF{E:Env}{w:World}{n:ST}{h j off:Nat}{v:Value}(hr:Rel E w (.cK n h j off) v):(∃b o,v=.pointer (some ⟨b,o,none⟩))/\T0 E h j off n.den v:=by
 cases hr with
 |ro h=>cases h
 |cK hv ho=>exact⟨hv,ho⟩
theorem Rel.int{E:Env}{w:World}{k:IntKind}{t:ST}{n:Int}(h:t.den=n):Rel E w (.int k t) (.int k n):=.ro (.int h)
theorem Rel.bool{E:Env}{w:World}{t:BT}{b:Bool}(h:t.den=b):Rel E w (.bool t) (.bool b):=.ro (.bool h)
theorem Alf{E:Env}{w:World}{s:SV}{v:Value}(h:DE s=true)(hr:Rel E w s v):v.oneCell'=true:=by
 cases hr with
 |ro hr =>
  cases hr<;>first|rfl|(simp[DE]at h;done)|skip
  .rename_i h';rw[h'];rfl
  .rename_i h';subst h';exact h
  .rename_i h';rw[h'];rfl
  .rename_i h';rcases h' with⟨rfl,_⟩|⟨⟨_,_,rfl⟩,_⟩<;>rfl
 |ptr hb hv=>rw[hv];rfl
 |dQ hr ht=>cases hr<;>rfl
 |dG hb hm hv=>rw[hv];rfl
 |cS hb hz hv=>rw[hv];rfl
 |bV ht hk=>obtain⟨a,m,c,rfl,_⟩:=ht;rfl
 |cK hv ho=>obtain⟨b,o,rfl⟩:=hv;rfl
 |bP hb hv=>rw[hv];rfl
 |iZ hb hn hv=>rw[hv];rfl
 |yv hb hv=>rw[hv];rfl
 |cP ht hk=>obtain⟨a,m,c,rfl,_⟩:=ht;rfl
 |jP ht hk=>obtain⟨a,m,c,rfl⟩:=ht;rfl
 |agg hl _=>simp[DE]at h
 |aJ hl _=>simp[DE]at h
 |eZ hl _=>rfl
 |gI hl _=>rfl
theorem Xg:∀ {cs:List SV} (_:Ej cs=true) {i:Nat} {s:SV},cs[i]?=some s->DE s=true
 | [],_,i,s,hs=>by simp at hs
 |c :: cs,h,i,s,hs=>by
  simp only[Ej,QE]at h;cases i with
  |zero=>simp at hs;subst hs;exact h.1
  |succ i=>simp at hs;exact Xg h.2 hs
theorem Mf{E:Env}{w:World}{cs:List SV}{vs:List Value}(h:Ej cs=true)(hr:A6 E w cs vs):∀v∈vs,v.oneCell'=true:=by
 intro v hv;obtain⟨i,hi⟩:=List.mem_iff_getElem?.1 hv;have aC:i<cs.length:=by rw[hr.1];exact (List.getElem?_eq_some_iff.1 hi).1
 exact Alf (Xg h (QC aC)) (hr.2 i _ v (QC aC) hi)
theorem H4{E:Env}{w:World}{s:SV}{v:Value}(h:Ej s.cells=true)(hr:Rel E w s v):A6 E w s.cells v.cells.toList:=by
 by_cases ha:∃cs,s=.agg cs
 .obtain⟨cs,rfl⟩:=ha
  obtain⟨vs,rfl,hl⟩:=hr.iT;exact hl
 .have hs:s.cells=[s]:=by
   cases s<;>first|rfl|exact (ha ⟨_,rfl⟩).elim
  rw[hs]at h ⊢;simp only[Ej,Bool.and_true]at h;have h1:=Alf h hr;have hv:v.cells=#[v]:=by cases v<;>first|rfl|simp[Value.oneCell']at h1
  rw[hv];exact .cons hr .nil
def slotsOf(op:Op):List Nat:=op.operands.toList.flatMap Ct
def DJ(σ:Sy)(ff:Nat->SG)(o:Oper):Prop:=∀s∈slotsOf o.op,ff s=Bd σ s
def AgC(hp:List Hl)(hf:Nat->Hl)(x:Nat×Nat×Nat):Prop :=
 ∀ty cs,Aq hp x.1=.aG ty cs->∃dH,hf x.1=.aG ty dH/\dH.length=cs.length/\∀j,x.2.1<=j->j<x.2.1+x.2.2->dH[j]?=cs[j]?
def dp(hp:List Hl)(hf:Nat->Hl):Ef->Prop
 |.set h _ _=>∀ty cs,Aq hp h=.aG ty cs->∃dH,hf h=.aG ty dH/\dH.length=cs.length
 |.put h _=>hf h=Aq hp h
structure AU(hp:List Hl)(hf:Nat->Hl)(r:Out):Prop where
 tJ:∀h∈r.tJ,hf h=Aq hp h
 BH:∀x∈r.BH,AgC hp hf x
 fK:∀e∈r.fK,dp hp hf e
def dc(hf:Nat->Hl):Ef->Nat->Hl
 |.set h off vs=>match hf h with
  |.aG ty cs=>aR hf h (.aG ty (C9 cs off vs))
  |_=>hf
 |.put h hl=>aR hf h hl
def Hy(hf:Nat->Hl):List Ef->Nat->Hl
 | []=>hf
 |e :: es=>Hy (dc hf e) es
def Yields(P:Program)(o:Oper)(r:Out)(B:Bs)(E:Env)(a:Act)(w:World)(hf:Nat->Hl):Prop :=
 ∀(K':Act->World->Prop) (Q:Exit->Act->World->Prop),
  (∀v w' E',Ext E w E' w'->Cl B E' w'->(∀h,bQ E' w' h (Hy hf r.fK h))->Rel E' w' r.v v->K' (a.put o.dst v) w')->o.wp P a w K' Q
def Local(P:Program)(gl:List (Nat×SV))(σ:Sy)(T:List Nat)(o:Oper)(r:Out):Prop :=
 ∀(B:Bs) (N:Nat) (E:Env) (a:Act) (w:World) (ff:Nat->SG) (hf:Nat->Hl),Fh B gl->St B N E a w ff hf->DJ σ ff o->AU σ.hp hf r->Bh (Ac σ.gm T)->Yields P o r B E a w hf
theorem Ad{P:Program}{o:Oper}{r:Out}{B:Bs}{N:Nat}{E:Env}{a:Act}{w:World}{ff:Nat->SG}{hf:Nat->Hl}(st:St B N E a w ff hf){v:Value}
  (hr:(execOp a.eval o).run P w=.ok (.value v) w) (he:r.fK=[]) (hv:Rel E w r.v v):Yields P o r B E a w hf:=by
 intro K' Q h;unfold Oper.wp;rw[hr];exact h v w E (Ext.refl E w) st.base (by rw[he];exact st.heap) hv
structure Az(P:Program)(cx:Cx):Prop where
 D:cx.D=dn
 tt:yK P cx.tt=true
 eqs:∀t∈cx.eqs,P.stoodInHeld t=false/\P.eqGuardType P.depth t=false/\∀f∈(P.fieldsOf t).toList,(f.name≠"_")
section
variable {P:Program} {cx:Cx} {σ:Sy} {T:List Nat} {o:Oper} {K:Out->Prop}
theorem Az.ti(h:Az P cx){t:Nat}{ti:TI}(hl:look t cx.tt=some ti):Em P t ti:=uk (Aad h.tt hl)
theorem bH{t n:Nat}(h:size? cx t=some n):∃ti,look t cx.tt=some ti/\ti.size=n:=by
 unfold size? at h;cases hl:look t cx.tt with
 |none=>rw[hl]at h;cases h
 |some ti=>rw[hl]at h;simp at h;exact⟨ti,rfl,h⟩
theorem Em.sizeOf{t:Nat}{ti:TI}(h:Em P t ti)(w:World):(sizeOf t).run P w=.ok ti.size w:=by
 obtain⟨i,z,hi,h1,_⟩:=h.info;simp[Go.sizeOf,typeInfo,hi,h1]
def K7:TK->Bool
 |.struct _|.array _ _=>true
 |_=>false
theorem dF{t:Nat}{ti:TI}(hl:look t cx.tt=some ti):cH cx t=K7 ti.k:=by
 obtain⟨k,a,b,c⟩:=ti;unfold cH;rw[hl];cases k<;>rfl
theorem Em.isAgg{t:Nat}{ti:TI}(h:Em P t ti)(w:World):(isAgg t).run P w=.ok (K7 ti.k) w:=by
 obtain⟨d,hd,hk⟩:=h.xP;unfold Go.isAgg;simp only[Sem.run_bind,run_underlying hd,Result.andThen_ok];cases kH:ti.k<;>rw[kH]at hk<;>cases d<;>first|rfl|simp[Jl]at hk
theorem Em.zero{t:Nat}{ti:TI}(h:Em P t ti)(E:Env)(w:World):∃z,(zeroValue t).run P w=.ok z w/\A6 E w ti.zero z.cells.toList/\(∀v∈z.cells.toList,v.oneCell'=true):=by
 obtain⟨i,z,hi,h1,h2,h3,h4,_⟩:=h.info;refine⟨z,by simp[zeroValue,typeInfo,hi,h3],?_,?_⟩
 .obtain⟨a,b⟩:=Jz (I:=E.I) (w:=w) h4
  exact⟨a,λi s v h1 h2=>.ro (b i s v h1 h2)⟩
 .generalize z.cells.toList=vs at h4
  generalize ti.zero=ss at h4
  induction ss generalizing vs with
  |nil=>cases vs with
   |nil=>simp
   |cons v vs=>simp[uU]at h4
  |cons s ss ih=>cases vs with
   |nil=>simp[uU]at h4
   |cons v vs =>
    simp only[uU,QE]at h4;intro u hu;rcases List.mem_cons.1 hu with rfl|hu
    .exact Aj1 h4.1
    .exact ih vs h4.2 u hu
theorem Ak{σ:Sy}{ff:Nat->SG}{o:Oper}(h:DJ σ ff o){x:Operand}(hx:x∈o.op.operands.toList):∀s∈Ct x,ff s=Bd σ s :=
 λs hs=>h s (by unfold slotsOf;exact List.mem_flatMap.2 ⟨x,hx,hs⟩)
theorem Nn{fs:List (Nat×TypeId)}{fields:Array Field}(h:(fields.toList.map λf=>(f.offset,f.type))=fs){i fo ft:Nat}(hi:nth fs i=some (fo,ft)):
  ∃f,fields[i]?=some f/\f.offset=fo/\f.type=ft:=by
 rw[Aj,<-h,QR]at hi;cases hf:fields.toList[i]? with
 |none=>rw[hf]at hi;cases hi
 |some f =>
  rw[hf]at hi;simp only[QP,Option.some.injEq,Prod.mk.injEq]at hi;exact⟨f,by rw[<-QX];exact hf,hi.1,hi.2⟩
theorem Em.struct{t:Nat}{ti:TI}(h:Em P t ti){fs:List (Nat×TypeId)}(hk:ti.k=.struct fs):
  ∃fields,P.underlying t=some (.struct fields)/\(fields.toList.map λf=>(f.offset,f.type))=fs/\∀f∈fields.toList,∃i,P.info? f.type=some i:=by
 obtain⟨d,hd,hb⟩:=h.xP;rw[hk]at hb;cases d<;>simp only[Jl,XD]at hb;rename_i fields;simp only[QE,QS,List.all_eq_true,Option.isSome_iff_exists]at hb;exact⟨fields,hd,hb.1,hb.2⟩
theorem Em.slice{t:Nat}{ti:TI}(h:Em P t ti){e:TypeId}(hk:ti.k=.slice e):P.underlying t=some (.slice e):=by
 obtain⟨d,hd,hb⟩:=h.xP;rw[hk]at hb;cases d<;>simp only[Jl,XD,QS]at hb;rw[hd,hb]
theorem Em.array{t:Nat}{ti:TI}(h:Em P t ti){n e:Nat}(hk:ti.k=.array n e):P.underlying t=some (.array n e):=by
 obtain⟨d,hd,hb⟩:=h.xP;rw[hk]at hb;cases d<;>simp only[Jl,XD,QS,QE]at hb;rw[hd,hb.1,hb.2]
theorem Em.int{t:Nat}{ti:TI}(h:Em P t ti){k:IntKind}(hk:ti.k=.int k):P.underlying t=some (.int k):=by
 obtain⟨d,hd,hb⟩:=h.xP;rw[hk]at hb;cases d<;>simp only[Jl,XD,QS]at hb;rw[hd,hb]
theorem Gd{s:Option SV}(h:ua K s):∃v,s=some v/\K ⟨v,[],[],[]⟩:=by
 cases s with
 |none=>exact h.elim
 |some v=>exact⟨v,rfl,h⟩
theorem Aer{x:Operand}(ho:o.op=.move x\/o.op=.assign x){v:SV}(hv:rd cx σ T x=some v):Local P cx.gl σ T o ⟨v,[],[],[]⟩:=by
 intro B N E a w ff hf hg st ag _ hT;have hx:x∈o.op.operands.toList:=by rcases ho with ho|ho<;>simp[ho,Op.operands]
 have:=Aa hv hg st (Ak ag hx) hT;refine Ad st (v:=a.eval x) ?_ rfl this;rcases ho with ho|ho<;>simp[execOp,ho]
theorem Aio{n:Nat}(ho:o.op=.move (.const (.slice none 0 0))\/o.op=.assign (.const (.slice none 0 0))):Local P cx.gl σ T o ⟨.sl (.l true) (.l 0) n λ_=>[],[],[],[]⟩:=by
 intro B N E a w ff hf _ st _ _ _;refine Ad st (v:=.slice none 0 0) ?_ rfl (.ro (.slnil rfl rfl));rcases ho with ho|ho<;>simp[execOp,ho,Act.eval]
theorem C5{w:World}{o:Obj}{b i:Nat}(h:b<w.heap.size):(w.alloc o).cell? ⟨b,i,none⟩=w.cell? ⟨b,i,none⟩:=by
 simp only[World.cell?];rw[heap_alloc_old w o h]
theorem De{w:World}{o:Obj}{b:Nat}(h:b<w.heap.size):(w.alloc o).heap[b]?=w.heap[b]?:=heap_alloc_old w o h
theorem A9{B:Bs}{E:Env}{w:World}(hb:Cl B E w){b h:Nat}(ho:E.O b=some h):b<w.heap.size:=(hb.cR b h ho).1
theorem bQ.keep{E E':Env}{w w':World}{h:Nat}{hl:Hl}(x:Ext E w E' w')(hk:bQ E w h hl)(fQ:E'.β h=E.β h)(oA:E'.τ h=E.τ h)(FL:E'.κ h=E.κ h)(FM:E'.ζ h=E.ζ h)
  (hO:∀b,E.O b=some h->E'.O b=some h/\w'.heap[b]?=w.heap[b]?/\∀o,E'.I b o->E.I b o):bQ E' w' h hl:=by
 cases hl with
 |fresh=>exact⟨by rw[fQ];exact hk.1,by rw[oA];exact hk.2.1,by rw[FL];exact hk.2.2.1,by rw[FM];exact hk.2.2.2⟩
 |gone=>trivial
 |aG ty cs =>
  obtain⟨b,C,h1,h2,h3,h4,h5,h6,h7⟩:=hk;obtain⟨h8,h9,jN⟩:=hO b h2;exact⟨b,C,by rw[fQ];exact h1,h8,by rw[h9];exact h3,h4,λi s v a b=>(h5 i s v a b).mono x,h6,λo ho=>h7 o (jN o ho)⟩
 |tail ty n sz =>
  obtain⟨v,m,xs,h1,h2,h3,h4,h5⟩:=hk;refine⟨v,m,xs,by rw[oA];exact h1,?_,h3,h4,λb hb=>?_⟩
  .refine⟨h2.1,?_⟩
   rcases h2.2 with hn|⟨g,cap,cur,rfl,hb,hg,rest⟩
   .exact .inl hn
   .obtain⟨_,h9,_⟩:=hO g (h5 g rfl).1
    exact .inr ⟨g,cap,cur,rfl,hb,by rw[h9];exact hg,rest⟩
  .obtain⟨h6,h7⟩:=h5 b hb
   obtain⟨h8,_,jN⟩:=hO b h6;exact⟨h8,λo ho hi=>h7 o ho (jN o hi)⟩
 |row ty n sz f =>
  obtain⟨b,C,m,h1,h2,hz,h3,h4,h5,h6,h7,h8⟩:=hk;obtain⟨h9,jN,mj⟩:=hO b h3;exact⟨b,C,m,by rw[fQ];exact h1,by rw[FL];exact h2,by rw[FM];exact hz,h9,by rw[jN];exact h4,h5,h6,⟨h7.1,h7.2.1,λi j s v a b c=>(h7.2.2.1 i j s v a b c).mono x.I x.cell,h7.2.2.2⟩,λo ho=>h8 o (mj o ho)⟩
 |own ty n sz gr f =>
  obtain⟨v,m,xs,h1,h2,h3,h4,h5,h6,h7⟩:=hk;refine⟨v,m,xs,by rw[oA];exact h1,by rw[FM];exact h2,h3.keep λb hb=>(hO b (h7 b hb).1).2.1,h4,h5,h6.mono x,λb hb=>?_⟩;obtain⟨q1,_,q3⟩:=hO b (h7 b hb).1;exact⟨q1,λo ho=>(h7 b hb).2 o (q3 o ho)⟩
 |mN T e s =>
  obtain⟨b,p,v,h1,h2,h3,h4,h5,h6,h7,h8⟩:=hk;obtain⟨q1,q2,q3⟩:=hO b h2;refine⟨b,p,v,by rw[fQ];exact h1,q1,h3,by rw[q2];exact h4,?_,h6,λo ho=>h7 o (q3 o ho),λg hg=>?_⟩
  .refine⟨h5.1,?_⟩
   rcases h5.2 with hn|⟨g,cap,cur,rfl,hb,hg,rest⟩
   .exact .inl hn
   .exact .inr ⟨g,cap,cur,rfl,hb,by rw[(hO g (h8 g rfl).1).2.1];exact hg,rest⟩
  .obtain⟨r1,_,r3⟩:=hO g (h8 g hg).1
   exact⟨r1,λo ho=>(h8 g hg).2 o (r3 o ho)⟩
 |vec ty n g sz f =>
  obtain⟨a,c,m,G,xs,h1,h3,h4,h5,h6,h7,h8⟩:=hk;refine⟨a,c,m,G,xs,by rw[oA];exact h1,h3.keep λb hb=>(hO b (h8 b hb).1).2.1,h4,h5,h6,h7.mono x,λb hb=>?_⟩;obtain⟨q1,_,q3⟩:=hO b (h8 b hb).1;exact⟨q1,λo ho=>(h8 b hb).2 o (q3 o ho)⟩
 |cZ F =>
  obtain⟨b,es,clock,h1,h2,h3,h4,h5,h6⟩:=hk;obtain⟨q1,q2,q3⟩:=hO b h2;exact⟨b,es,clock,by rw[fQ];exact h1,q1,by rw[q2];exact h3,h4,h5,λo ho=>h6 o (q3 o ho)⟩
 |iF es =>
  obtain⟨b,ms,clock,h1,h2,h3,h4,h5,h6⟩:=hk;obtain⟨q1,q2,q3⟩:=hO b h2;exact⟨b,ms,clock,by rw[fQ];exact h1,q1,by rw[q2];exact h3,h4,λi p e hp he=>⟨(h5 i p e hp he).1,(h5 i p e hp he).2.mono x⟩,λo ho=>h6 o (q3 o ho)⟩
 |bO c fr s pd =>
  obtain⟨b,r,h1,h2,h3,h4,h5,h6⟩:=hk;obtain⟨q1,q2,q3⟩:=hO b h2;exact⟨b,r,by rw[fQ];exact h1,q1,by rw[q2];exact h3,h4,λi v hm=>⟨(h5 i v hm).1,(h5 i v hm).2.mono x⟩,λo ho=>h6 o (q3 o ho)⟩
theorem Yx{B:Bs}{N:Nat}{E:Env}{a:Act}{w:World}{ff:Nat->SG}{hf:Nat->Hl}(st:St B N E a w ff hf){h:Nat}(bM:hf h=.fresh){ty:TypeId}{cs:List SV}{C:Array Value}
  (hr:A6 E w cs C.toList) (h1:∀v∈C.toList,v.oneCell'=true):
  ∃E',Ext E w E' (w.alloc (.cells C ty))/\Cl B E' (w.alloc (.cells C ty))/\(∀k,bQ E' (w.alloc (.cells C ty)) k (aR hf h (.aG ty cs) k))/\E'.β h=some w.heap.size:=by
 have hb:=st.base;have cE:=st.heap h;rw[bM]at cE;obtain⟨f1,f2,_,_⟩:=cE
 let E':Env:=⟨aR E.β h (some w.heap.size),E.τ,aR E.O w.heap.size (some h),E.κ,E.ζ,E.I⟩
 have hx:Ext E w E' (w.alloc (.cells C ty)):=by
  refine⟨λk b hk=>?_,λ_ _ h=>.inl h,λ_ _ h=>h,λ_ _ h=>h,λ_ _ h=>h,λb o hi=>C5 (hb.dR b o hi)⟩;show aR E.β h (some w.heap.size) k=some b;unfold aR
  by_cases e:k=h
  .subst e;rw[f1]at hk;cases hk
  .rw[QA e];exact hk
 refine⟨E',hx,⟨hb.os,hb.tape,hb.output,?_,?_,?_,?_,?_,?_,hb.cL.ext hx⟩,λk=>?_,by simp[E',aR]⟩
 .have:=hb.size;simp;omega
 .intro b aC hX;rw[De (by have:=hb.size;omega)];exact hb.dZ b aC hX
 .intro b o hi
  obtain⟨i1,i2⟩:=hb.I0 b o hi;exact⟨i1,by rw[C5 (hb.dR b o i1)];exact i2⟩
 .intro b o hi;have:=hb.dR b o hi;simp;omega
 .exact hb.cC
 .intro b k hO
  have hO:aR E.O w.heap.size (some h) b=some k:=hO;unfold aR at hO
  split at hO
  .rename_i e;subst e;have:=hb.size;simp;exact .inl this
  .obtain⟨o1,o2⟩:=hb.cR b k hO;simp;exact⟨by omega,o2⟩
 .by_cases e:k=h
  .subst e
   simp only[aR,QB];refine⟨w.heap.size,C,by simp[E',aR],by simp[E',aR],heap_alloc_new w _,by rw[hr.1];simp,λi s v p q=>(hr.2 i s v p (by simpa using q)).mono hx,λv hv=>h1 v (by simpa using hv),λo hi=>?_⟩;have:=hb.dR _ _ hi;omega
  .simp only[aR,QA e]
   refine bQ.keep hx (st.heap k) (by simp[E',aR,e]) rfl rfl rfl λb hO=>?_;have aC:=A9 hb hO;exact⟨by simp[E',aR,UA aC];exact hO,De aC,λ_ h=>h⟩
theorem Ab2{e:TypeId}{ti:TI}(hc:Az P cx)(ho:o.op=.alloc e)(hl:look e cx.tt=some ti):
  Local P cx.gl σ T o ⟨.ptr (Ah σ.hp) 0,[.put (Ah σ.hp) (.aG e ti.zero)],[],[]⟩:=by
 intro B N E a w ff hf _ st _ bK _ K' Q hK;obtain⟨z,hz,hr,h1⟩:=(hc.ti hl).zero E w;have bM:hf (Ah σ.hp)=.fresh:=by
  have:=bK.fK _ (List.mem_singleton.2 rfl);simp only[dp,Aq,Aj,Af]at this;rw[Af,this];simp
 obtain⟨E',hx,hb,hh,fQ⟩:=Yx st bM (ty:=e) hr h1;unfold Oper.wp;have:(execOp a.eval o).run P w=.ok (.value (.pointer (some ⟨w.heap.size,0,none⟩))) (w.alloc (.cells z.cells e)):=by
  simp[execOp,ho,Instr.alloc,hz,newVar,newRow,newObj,Sem.run]
 rw[this];exact hK _ _ E' hx hb hh (.ptr fQ rfl)
theorem Ais{e:TypeId}{x:Operand}{v:SV}(ho:o.op=.box e x)(hv:rd cx σ T x=some v)(h1:Ej v.cells=true):
  Local P cx.gl σ T o ⟨.ptr (Ah σ.hp) 0,[.put (Ah σ.hp) (.aG e v.cells)],[],[]⟩:=by
 intro B N E a w ff hf hg st ag bK hT K' Q hK;have hr:=Aa hv hg st (Ak ag (by simp[ho,Op.operands])) hT;have hc:=H4 h1 hr;have bM:hf (Ah σ.hp)=.fresh:=by
  have:=bK.fK _ (List.mem_singleton.2 rfl);simp only[dp,Aq,Aj,Af]at this;rw[Af,this];simp
 obtain⟨E',hx,hb,hh,fQ⟩:=Yx st bM (ty:=e) hc (Mf h1 hc);unfold Oper.wp;have:(execOp a.eval o).run P w=.ok (.value (.pointer (some ⟨w.heap.size,0,none⟩))) (w.alloc (.cells (a.eval x).cells e)):=by
  simp[execOp,ho,Instr.box,newVar,newRow,newObj,Sem.run]
 rw[this];exact hK _ _ E' hx hb hh (.ptr fQ rfl)
end
end Go.Sx
