/- Part of the proofs of the statements about responses and messages (layers 9 and 10): a symbolic executor over the code, that it is sound, and contracts of functions; it has no conditions of its own. -/
import Derived.Lib.Builder
import Derived.Test.YtdoogdbjiijifaaGreatDoorE3Pab
namespace Go.Sx
open Go
structure Env where
 β:Nat->Option Nat
 τ:Nat->Option Value
 O:Nat->Option Nat
 κ:Nat->Option Nat
 ζ:Nat->Option Nat
 I:Nat->Nat->Prop
def bytes(l:List UInt8):ByteArray:=⟨⟨l⟩⟩
inductive RO(I:Nat->Nat->Prop)(w:World):SV->Value->Prop where
 |int {k:IntKind} {t:ST} {n:Int} (h:t.den=n):RO I w (.int k t) (.int k n)
 |bool {t:BT} {b:Bool} (h:t.den=b):RO I w (.bool t) (.bool b)
 |str {s:List UInt8} {v:Value} (h:v=.string (bytes s)):RO I w (.str s) v
 |nilp:RO I w .nilp (.pointer none)
 |raw {v v':Value} (h:v'=v):RO I w (.raw v) v'
 |fn {f:FuncId} {v:Value} (h:v=.func (.func f) #[] #[]):RO I w (.fn f) v
 |ifc {b:BT} {v:Value} (h:(v=.nilIface/\b.den=true)\/((∃t x,v=.iface t x)/\b.den=false)):RO I w (.ifc b) v
 |slnil {nl:BT} {n:ST} {sz:Nat} {f:Nat->List SV} (h:nl.den=true) (hn:n.den=0):RO I w (.sl nl n sz f) (.slice none 0 0)
 |sl {nl:BT} {n:ST} {sz:Nat} {f:Nat->List SV} {a:Addr} {m cap:Nat} (g:Nat->Nat->Value) (h:nl.den=false) (hn:n.den=(m:Int)) (hc:m<=cap) (hcm:cap<=maxLen)
   (hs:0<m->a.spot=none)
   (hl:∀i,i<m->(f i).length=sz) (h1:∀i j,i<m->j<sz->(g i j).oneCell'=true)
   (hcell:∀i j,i<m->j<sz->w.cell? ⟨a.block,a.off+(i * sz+j),none⟩=some (g i j)/\I a.block (a.off+(i * sz+j)))
   (hrel:∀(i j:Nat) (s:SV),i<m->(f i)[j]?=some s->RO I w s (g i j)):RO I w (.sl nl n sz f) (.slice (some a) m cap)
 |rptr {cs:List SV} {a:Addr} (g:Nat->Value) (hs:a.spot=none) (h1:∀j,j<cs.length->(g j).oneCell'=true) (hcell:∀j,j<cs.length->w.cell? ⟨a.block,a.off+j,none⟩=some (g j)/\I a.block (a.off+j))
   (hrel:∀(j:Nat) (s:SV),cs[j]?=some s->RO I w s (g j)):RO I w (.rptr cs) (.pointer (some a))
 |rarr {n sz:Nat} {f:Nat->List SV} {a:Addr} (g:Nat->Nat->Value) (hs:a.spot=none) (hl:∀i,i<n->(f i).length=sz) (h1:∀i j,i<n->j<sz->(g i j).oneCell'=true)
   (hcell:∀i j,i<n->j<sz->w.cell? ⟨a.block,a.off+(i * sz+j),none⟩=some (g i j)/\I a.block (a.off+(i * sz+j)))
   (hrel:∀(i j:Nat) (s:SV),i<n->(f i)[j]?=some s->RO I w s (g i j)):RO I w (.rarr n sz f) (.pointer (some a))
 |agg {cs:List SV} {vs:List Value} (hl:cs.length=vs.length) (h:∀(i:Nat) (s:SV) (v:Value),cs[i]?=some s->vs[i]?=some v->RO I w s v):RO I w (.agg cs) (.agg ⟨vs⟩)
theorem RO.mono{I I':Nat->Nat->Prop}{w w':World}{s:SV}{v:Value}(h:RO I w s v)
  (hI:∀b o,I b o->I' b o) (hw:∀b o,I b o->w'.cell? ⟨b,o,none⟩=w.cell? ⟨b,o,none⟩):RO I' w' s v:=by
 induction h with
 |int h=>exact .int h
 |bool h=>exact .bool h
 |str h=>exact .str h
 |nilp=>exact .nilp
 |raw h=>exact .raw h
 |fn h=>exact .fn h
 |ifc h=>exact .ifc h
 |slnil h hn=>exact .slnil h hn
 |sl g h hn hc hcm hs hl h1 hcell hrel ih =>
  exact .sl g h hn hc hcm hs hl h1 (λi j hi hj=>⟨by rw[hw _ _ (hcell i j hi hj).2];exact (hcell i j hi hj).1,hI _ _ (hcell i j hi hj).2⟩) ih
 |rptr g hs h1 hcell hrel ih =>
  exact .rptr g hs h1 (λj hj=>⟨by rw[hw _ _ (hcell j hj).2];exact (hcell j hj).1,hI _ _ (hcell j hj).2⟩) ih
 |rarr g hs hl h1 hcell hrel ih =>
  exact .rarr g hs hl h1 (λi j hi hj=>⟨by rw[hw _ _ (hcell i j hi hj).2];exact (hcell i j hi hj).1,hI _ _ (hcell i j hi hj).2⟩) ih
 |agg hl h ih=>exact .agg hl ih
def Ss(E:Env)(h:Nat)(n:Int)(v:Value):Prop :=
 ∃a m c,E.τ h=some (.slice a m c)/\n<=(m:Int)/\(n=(m:Int)->v=.slice a m c)
def Tr(E:Env)(h j off:Nat)(n:Int)(v:Value):Prop :=
 ∃a m c sz,E.τ h=some (.slice a m c)/\E.ζ h=some sz/\n<=(m:Int)/\(n=(m:Int)->∃b,a=some ⟨b,0,none⟩/\v=.pointer (some ⟨b,j * sz+off,none⟩))
def Afa(ad:Option Addr)(m c sz k:Nat):Value:=.slice (if c=k then ad else ad.map (·.add (k * sz))) (m-k) (c-k)
def Zt(E:Env)(h:Nat)(n a:Int)(v:Value):Prop :=
 ∃ad m c sz,E.τ h=some (.slice ad m c)/\E.ζ h=some sz/\n<=(m:Int)/\(n=(m:Int)->∃k:Nat,a=(k:Int)/\k<=m/\v=Afa ad m c sz k)
def Abm(E:Env)(h:Nat)(n g:Int)(v:Value):Prop :=
 ∃a G c,E.τ h=some (.slice a G c)/\g<=(G:Int)/\(g=(G:Int)->∃m:Nat,n=(m:Int)/\v=.slice a m c)
inductive Rel(E:Env)(w:World):SV->Value->Prop where
 |ro {s:SV} {v:Value} (h:RO E.I w s v):Rel E w s v
 |ptr {h off b:Nat} {v:Value} (hb:E.β h=some b) (hv:v=.pointer (some ⟨b,off,none⟩)):Rel E w (.ptr h off) v
 |gsl {nl:BT} {n:ST} {sz:Nat} {f:Nat->List SV} {h:Nat} {v:Value} (hr:RO E.I w (.sl nl n sz f) v) (ht:Ss E h n.den v):Rel E w (.gsl nl n sz f h) v
 |mrow {h b m:Nat} {v:Value} (hb:E.β h=some b) (hm:E.κ h=some m) (hv:v=.slice (some ⟨b,0,none⟩) m m):Rel E w (.mrow h) v
 |mptr {h j off b:Nat} {sz:Nat} {v:Value} (hb:E.β h=some b) (hz:E.ζ h=some sz) (hv:v=.pointer (some ⟨b,j * sz+off,none⟩)):Rel E w (.mptr h j off) v
 |osl {nl:BT} {n:ST} {h:Nat} {v:Value} (ht:∃a m c,v=.slice a m c/\n.den=(m:Int)/\(nl.den=true↔a=none)) (hk:Ss E h n.den v):Rel E w (.osl nl n h) v
 |optr {n:ST} {h j off:Nat} {v:Value} (hv:∃b o,v=.pointer (some ⟨b,o,none⟩)) (ho:Tr E h j off n.den v):Rel E w (.optr n h j off) v
 |mapv {h b:Nat} {v:Value} (hb:E.β h=some b) (hv:v=.map (some b)):Rel E w (.mapv h) v
 |bsl {n h b:Nat} {v:Value} (hb:E.β h=some b) (hn:n<=maxLen) (hv:v=.slice (some ⟨b,0,none⟩) n n):Rel E w (.bsl n h) v
 |yv {h b:Nat} {v:Value} (hb:E.β h=some b) (hv:v=.func (.yield b) #[] #[]):Rel E w (.yv h) v
 |vsl {nl:BT} {n g:ST} {h:Nat} {v:Value} (ht:∃a m c,v=.slice a m c/\n.den=(m:Int)/\(nl.den=true↔a=none)) (hk:Abm E h n.den g.den v):Rel E w (.vsl nl n g h) v
 |tsl {n a:ST} {h:Nat} {v:Value} (ht:∃ad m c,v=.slice ad m c) (hk:Zt E h n.den a.den v):Rel E w (.tsl n a h) v
 |agg {cs:List SV} {vs:List Value} (hl:cs.length=vs.length) (h:∀(i:Nat) (s:SV) (v:Value),cs[i]?=some s->vs[i]?=some v->Rel E w s v):Rel E w (.agg cs) (.agg ⟨vs⟩)
 |tup {cs:List SV} {vs:List Value} (hl:cs.length=vs.length) (h:∀(i:Nat) (s:SV) (v:Value),cs[i]?=some s->vs[i]?=some v->Rel E w s v):Rel E w (.tup cs) (.tuple ⟨vs⟩)
 |clo {f:FuncId} {cs:List SV} {vs:List Value} (hl:cs.length=vs.length) (h:∀(i:Nat) (s:SV) (v:Value),cs[i]?=some s->vs[i]?=some v->Rel E w s v):Rel E w (.clo f cs) (.func (.func f) #[] ⟨vs⟩)
 |bnd {f:FuncId} {cs:List SV} {vs:List Value} (hl:cs.length=vs.length) (h:∀(i:Nat) (s:SV) (v:Value),cs[i]?=some s->vs[i]?=some v->Rel E w s v):Rel E w (.bnd f cs) (.func (.func f) ⟨vs⟩ #[])
structure Ext(E:Env)(w:World)(E':Env)(w':World):Prop where
 β:∀h b,E.β h=some b->E'.β h=some b
 τ:∀h v,E.τ h=some v->E'.τ h=some v\/∃a m c a' m' c',v=.slice a m c/\E'.τ h=some (.slice a' m' c')/\m<m'
 κ:∀h m,E.κ h=some m->E'.κ h=some m
 ζ:∀h m,E.ζ h=some m->E'.ζ h=some m
 I:∀b o,E.I b o->E'.I b o
 cell:∀b o,E.I b o->w'.cell? ⟨b,o,none⟩=w.cell? ⟨b,o,none⟩
theorem Ext.refl(E:Env)(w:World):Ext E w E w:=⟨λ_ _ h=>h,λ_ _ h=>.inl h,λ_ _ h=>h,λ_ _ h=>h,λ_ _ h=>h,λ_ _ _=>rfl⟩
theorem Ss.mono{E E':Env}{w w':World}{h:Nat}{n:Int}{v:Value}(x:Ext E w E' w')(ht:Ss E h n v):Ss E' h n v:=by
 obtain⟨a,m,c,h1,h2,h3⟩:=ht;rcases x.τ h _ h1 with h4|⟨a0,m0,c0,a',m',c',e,h5,hlt⟩
 ·exact⟨a,m,c,h4,h2,h3⟩
 ·cases e
  exact⟨a',m',c',h5,by omega,λe=>by omega⟩
theorem Abm.mono{E E':Env}{w w':World}{h:Nat}{n g:Int}{v:Value}(x:Ext E w E' w')(ht:Abm E h n g v):Abm E' h n g v:=by
 obtain⟨a,m,c,h1,h2,h3⟩:=ht;rcases x.τ h _ h1 with h4|⟨a0,m0,c0,a',m',c',e,h5,hlt⟩
 ·exact⟨a,m,c,h4,h2,h3⟩
 ·cases e
  exact⟨a',m',c',h5,by omega,λe=>by omega⟩
theorem Tr.mono{E E':Env}{w w':World}{h j off:Nat}{n:Int}{v:Value}(x:Ext E w E' w')(ht:Tr E h j off n v):Tr E' h j off n v:=by
 obtain⟨a,m,c,sz,h1,h0,h2,h3⟩:=ht;rcases x.τ h _ h1 with h4|⟨a0,m0,c0,a',m',c',e,h5,hlt⟩
 ·exact⟨a,m,c,sz,h4,x.ζ _ _ h0,h2,h3⟩
 ·cases e
  exact⟨a',m',c',sz,h5,x.ζ _ _ h0,by omega,λe=>by omega⟩
theorem Zt.mono{E E':Env}{w w':World}{h:Nat}{n a:Int}{v:Value}(x:Ext E w E' w')(ht:Zt E h n a v):Zt E' h n a v:=by
 obtain⟨ad,m,c,sz,h1,h0,h2,h3⟩:=ht;rcases x.τ h _ h1 with h4|⟨a0,m0,c0,a',m',c',e,h5,hlt⟩
 ·exact⟨ad,m,c,sz,h4,x.ζ _ _ h0,h2,h3⟩
 ·cases e
  exact⟨a',m',c',sz,h5,x.ζ _ _ h0,by omega,λe=>by omega⟩
theorem Rel.mono{E E':Env}{w w':World}{s:SV}{v:Value}(x:Ext E w E' w')(h:Rel E w s v):Rel E' w' s v:=by
 induction h with
 |ro h=>exact .ro (h.mono x.I x.cell)
 |ptr hb hv=>exact .ptr (x.β _ _ hb) hv
 |gsl hr ht=>exact .gsl (hr.mono x.I x.cell) (ht.mono x)
 |mrow hb hm hv=>exact .mrow (x.β _ _ hb) (x.κ _ _ hm) hv
 |mptr hb hz hv=>exact .mptr (x.β _ _ hb) (x.ζ _ _ hz) hv
 |osl ht hk=>exact .osl ht (hk.mono x)
 |optr hv ho=>exact .optr hv (ho.mono x)
 |mapv hb hv=>exact .mapv (x.β _ _ hb) hv
 |bsl hb hn hv=>exact .bsl (x.β _ _ hb) hn hv
 |yv hb hv=>exact .yv (x.β _ _ hb) hv
 |vsl ht hk=>exact .vsl ht (hk.mono x)
 |tsl ht hk=>exact .tsl ht (hk.mono x)
 |agg hl _ ih=>exact .agg hl ih
 |tup hl _ ih=>exact .tup hl ih
 |clo hl _ ih=>exact .clo hl ih
 |bnd hl _ ih=>exact .bnd hl ih
structure Bs where
 w0:World
 X:Nat->Prop
 I0:Nat->Nat->Prop
 β0:Nat->Option Nat
 τ0:Nat->Option Value
 ζ0:Nat->Option Nat
 dl:List Nat
def Pc(v:Value)(o:Option Value):Prop:=o=some v\/∃a m c a' m' c',v=.slice a m c/\o=some (.slice a' m' c')/\m<m'
theorem Pc.trans{u v:Value}{o:Option Value}(h1:Pc u (some v))(h2:Pc v o):Pc u o:=by
 rcases h1 with h1|⟨a,m,c,a',m',c',e,h1,hlt⟩
 ·cases h1;exact h2
 ·cases h1
  rcases h2 with h2|⟨a1,m1,c1,a2,m2,c2,e2,h2,hlt2⟩
  ·exact .inr ⟨a,m,c,a',m',c',e,h2,hlt⟩
  ·cases e2
   exact .inr ⟨a,m,c,a2,m2,c2,e,h2,by omega⟩
structure Mq(B:Bs)(E:Env):Prop where
 β:∀h b,B.β0 h=some b->E.β h=some b
 τ:∀h v,B.τ0 h=some v->Pc v (E.τ h)
 ζ:∀h n,B.ζ0 h=some n->E.ζ h=some n
theorem Mq.ext{B:Bs}{E E':Env}{w w':World}(x:Ext E w E' w')(h:Mq B E):Mq B E':=by
 refine⟨λk b hk=>x.β k b (h.β k b hk),λk v hk=>?_,λk n hk=>x.ζ k n (h.ζ k n hk)⟩;have h1:=h.τ k v hk;cases he:E.τ k with
 |none=>rw[he]at h1;rcases h1 with h1|⟨_,_,_,_,_,_,_,h1,_⟩<;>cases h1
 |some u =>
  rw[he]at h1;exact h1.trans (x.τ k u he)
structure Ci(B:Bs)(E:Env)(w:World):Prop where
 os:w.os=B.w0.os
 tape:w.tape=B.w0.tape
 output:w.output=B.w0.output
 size:B.w0.heap.size<=w.heap.size
 old:∀b,b<B.w0.heap.size->¬B.X b->w.heap[b]?=B.w0.heap[b]?
 I0:∀b o,B.I0 b o->E.I b o/\w.cell? ⟨b,o,none⟩=B.w0.cell? ⟨b,o,none⟩
 Ibd:∀b o,E.I b o->b<w.heap.size
 Inew:∀b o,E.I b o->B.I0 b o\/B.w0.heap.size<=b\/B.X b
 Obd:∀b h,E.O b=some h->b<w.heap.size/\(B.w0.heap.size<=b\/B.X b)
 β0:Mq B E
def Qt(E:Env)(w:World)(f:Nat->List SV)(m sz:Nat)(C:Array Value):Prop :=
 C.size=m * sz/\(∀i,i<m->(f i).length=sz)/\(∀(i j:Nat) (s:SV) (v:Value),i<m->(f i)[j]?=some s->C[i * sz+j]?=some v->RO E.I w s v)/\∀v,v∈C->v.oneCell'=true
def Ck(w:World)(gr:Bool)(e:TypeId)(sz:Nat)(v:Value)(m:Nat)(xs:List Value):Prop :=
 xs.length=m * sz/\((v=.slice none 0 0/\m=0)\/∃g cap cur fr,v=.slice (some ⟨g,0,none⟩) m cap/\w.heap[g]?=some (.cells cur e fr)/\(fr=(0,0)\/gr=false/\fr=(cur.size,cur.size+1))/\m<=cap/\cap<=maxLen/\cur.size=cap * sz/\cur.toList.take (m * sz)=xs)
theorem Ww{w:World}{e:TypeId}{sz m:Nat}{v:Value}{xs:List Value}(gr:Bool)(h:w.ownsRow 0 e sz v m xs):Ck w gr e sz v m xs:=by
 refine⟨h.1,?_⟩;rcases h.2 with h|⟨g,cap,cur,h1,_,h2,h3⟩
 ·exact .inl h
 ·exact .inr ⟨g,cap,cur,(0,0),h1,h2,.inl rfl,h3⟩
theorem Ck.row{w:World}{e:TypeId}{sz m:Nat}{v:Value}{xs:List Value}(h:Ck w true e sz v m xs):w.ownsRow 0 e sz v m xs:=by
 refine⟨h.1,?_⟩;rcases h.2 with h|⟨g,cap,cur,fr,h1,h2,h3,h4⟩
 ·exact .inl h
 ·rcases h3 with rfl|⟨h3,_⟩
  ·exact .inr ⟨g,cap,cur,h1,Nat.zero_le _,h2,h4⟩
  ·cases h3
theorem Ck.shape{w:World}{gr:Bool}{e:TypeId}{sz m:Nat}{v:Value}{xs:List Value}(h:Ck w gr e sz v m xs):∃a c,v=.slice a m c:=by
 rcases h.2 with⟨h,h2⟩|⟨g,cap,cur,fr,h1,h2⟩
 ·exact⟨none,0,by rw[h,h2]⟩
 ·exact⟨_,_,h1⟩
theorem Ck.keep{w w':World}{gr:Bool}{e:TypeId}{sz m:Nat}{v:Value}{xs:List Value}(h:Ck w gr e sz v m xs)(hb:∀b,v.ownBlock=some b->w'.heap[b]?=w.heap[b]?):Ck w' gr e sz v m xs:=by
 refine⟨h.1,?_⟩;rcases h.2 with h|⟨g,cap,cur,fr,rfl,h2⟩
 ·exact .inl h
 ·exact .inr ⟨g,cap,cur,fr,rfl,by rw[hb g rfl];exact h2⟩
def Fm(E:Env)(w:World)(f:Nat->List SV)(m sz:Nat)(xs:List Value):Prop :=
 (∀i,i<m->(f i).length=sz)/\∀(i j:Nat) (s:SV) (u:Value),i<m->(f i)[j]?=some s->xs[i * sz+j]?=some u->RO E.I w s u
theorem Fm.mono{E E':Env}{w w':World}{f:Nat->List SV}{m sz:Nat}{xs:List Value}(x:Ext E w E' w')(h:Fm E w f m sz xs):Fm E' w' f m sz xs :=
 ⟨h.1,λi j s u hi hs hu=>(h.2 i j s u hi hs hu).mono x.I x.cell⟩
def Fo:List MapEntry->List UInt8->Bool
 | [],_=>false
 |e :: es,s=>match e.key with
  |.string x=>if x=bytes s then (match e.val with|.bool v=>v|_=>false) else Fo es s
  |_=>Fo es s
def Ajw:LoopState->Nat
 |.ready=>0
 |.busy=>1
 |.done=>2
 |.exhausted=>3
structure RecIs(c:LC)(st:Nat)(pd:Option Jp)(r:Loop):Prop where
 fn:r.fn=c.fn
 ps:r.params=c.ps
 assign:r.assign=c.assign
 body:r.body=c.body
 n:r.tmps.size=c.n
 st:Ajw r.state=st
 pd:r.pending=pd.map Jp.code
def HOk(E:Env)(w:World)(h:Nat):Hl->Prop
 |.fresh=>E.β h=none/\E.τ h=none/\E.κ h=none/\E.ζ h=none
 |.gone=>True
 |.blk ty cs=>∃b C,E.β h=some b/\E.O b=some h/\w.heap[b]?=some (.cells C ty (0,0))/\C.size=cs.length/\
   (∀(i:Nat) (s:SV) (v:Value),cs[i]?=some s->C[i]?=some v->Rel E w s v)/\(∀v,v∈C->v.oneCell'=true)/\∀o,¬E.I b o
 |.tail ty n sz=>∃v m xs,E.τ h=some v/\w.ownsRow 0 ty sz v m xs/\n.den=(m:Int)/\(∀v,v∈xs->v.oneCell'=true)/\
   ∀b,v.ownBlock=some b->E.O b=some h/\∀o,m * sz<=o->¬E.I b o
 |.row ty n sz f=>∃b C m,E.β h=some b/\E.κ h=some m/\E.ζ h=some sz/\E.O b=some h/\w.heap[b]?=some (.cells C ty (0,0))/\n.den=(m:Int)/\m<=maxLen/\Qt E w f m sz C/\∀o,¬E.I b o
 |.own ty n sz gr f=>∃v m xs,E.τ h=some v/\E.ζ h=some sz/\Ck w gr ty sz v m xs/\n.den=(m:Int)/\(∀u,u∈xs->u.oneCell'=true)/\Fm E w f m sz xs/\∀b,v.ownBlock=some b->E.O b=some h/\∀o,¬E.I b o
 |.bld T e s=>∃b p v,E.β h=some b/\E.O b=some h/\(p=.pointer none\/p=.pointer (some ⟨b,0,none⟩))/\w.heap[b]?=some (.cells #[p,v] T (0,0))/\w.ownsRow 0 e 1 v s.length (Lib.byteCells s)/\v.ownBlock≠some b/\
   (∀o,¬E.I b o)/\∀g,v.ownBlock=some g->E.O g=some h/\∀o,¬E.I g o
 |.vec ty n g sz f=>∃a c m G xs,E.τ h=some (.slice a G c)/\Ck w false ty sz (.slice a m c) m xs/\n.den=(m:Int)/\g.den=(G:Int)/\(∀u,u∈xs->u.oneCell'=true)/\Fm E w f m sz xs/\∀b,(Value.slice a m c).ownBlock=some b->E.O b=some h/\∀o,¬E.I b o
 |.mset F=>∃b es clock,E.β h=some b/\E.O b=some h/\w.heap[b]?=some (.map es clock)/\(∀e∈es.toList,∃s v,e.key=.string (bytes s)/\e.val=.bool v)/\(∀s,Fo es.toList s=F s)/\∀o,¬E.I b o
 |.mint es=>∃b ms clock,E.β h=some b/\E.O b=some h/\w.heap[b]?=some (.map ms clock)/\ms.size=es.length/\(∀(i:Nat) (p:Int×SV) (e:MapEntry),es[i]?=some p->ms.toList[i]?=some e->e.key=.int .i64 p.1/\Rel E w p.2 e.val)/\∀o,¬E.I b o
 |.lrec c fr st pd=>∃b r,E.β h=some b/\E.O b=some h/\w.heap[b]?=some (.loop r)/\RecIs c st pd r/\(∀s v,(s,some v)∈fr->s<c.n/\Rel E w v (r.tmps.getD s undef))/\∀o,¬E.I b o
def Bh:List BT->Prop
 | []=>True
 |b :: l=>b.den=true/\Bh l
abbrev SG:=Option (List BT×SV)
def Bk(E:Env)(w:World)(a:Act)(s:Nat):SG->Prop
 |none=>True
 |some (cs,v)=>s<a.tmps.size/\(Bh cs->Rel E w v (a.tmps.getD s undef))/\(¬Bh cs->a.tmps.getD s undef=undef)
def Ty(r:Nat):Deferred:={ target:=.collected r,args:=#[] }
structure St(B:Bs)(N:Nat)(E:Env)(a:Act)(w:World)(ff:Nat->SG)(hf:Nat->Hl):Prop where
 base:Ci B E w
 heap:∀h,HOk E w h (hf h)
 slot:∀s,Bk E w a s (ff s)
 size:a.tmps.size=N
 defers:a.defers=B.dl.map Ty
theorem St.step{B:Bs}{N:Nat}{E E':Env}{a:Act}{w w':World}{ff:Nat->SG}{hf hf':Nat->Hl}(h:St B N E a w ff hf)(x:Ext E w E' w')(hb:Ci B E' w')
  (hh:∀k,HOk E' w' k (hf' k)):St B N E' a w' ff hf' where
 base:=hb
 heap:=hh
 slot:=λs=>by
  have:=h.slot s;cases hs:ff s with
  |none=>trivial
  |some p =>
   rw[hs]at this;exact⟨this.1,λha=>(this.2.1 ha).mono x,this.2.2⟩
 size:=h.size
 defers:=h.defers
def upd{α:Type}(f:Nat->α)(k:Nat)(x:α):Nat->α:=λj=>if j=k then x else f j
def Acs{α:Type}(f:Nat->α)(k:Option Nat)(x:α):Nat->α:=match k with
 |some k=>upd f k x
 |none=>f
theorem Ov{a:Act}{d s:Nat}{v:Value}(h:s<a.tmps.size):(a.put (some d) v).tmps.getD s undef=if s=d then v else a.tmps.getD s undef:=by
 simp only[Act.put,Array.getD_eq_getD_getElem?]
 by_cases e:s=d
 ·subst e;simp[h]
 ·rw[if_neg e,Array.getElem?_setIfInBounds_ne (λe'=>e e'.symm)]
theorem St.put{B:Bs}{N:Nat}{E:Env}{a:Act}{w:World}{ff:Nat->SG}{hf:Nat->Hl}(h:St B N E a w ff hf)(d:Option Nat)(v:Value)(g:SG)
  (hg:∀cs s,g=some (cs,s)->(Bh cs->Rel E w s v)/\(¬Bh cs->v=undef)) (hd:∀k,d=some k->k<N):St B N E (a.put d v) w (Acs ff d g) hf:=by
 cases d with
 |none=>exact h
 |some k =>
  refine⟨h.base,h.heap,λs=>?_,by simp[Act.put,h.size],h.defers⟩;have hk:=hd k rfl
  by_cases e:s=k
  ·subst e
   simp only[Acs,upd,if_pos];cases g with
   |none=>trivial
   |some p =>
    obtain⟨cs,x⟩:=p;obtain⟨h1,h2⟩:=hg cs x rfl;have hs:s<a.tmps.size:=by rw[h.size];exact hk
    refine⟨by simp[Act.put];exact hs,λha=>?_,λha=>?_⟩
    ·rw[Ov hs,if_pos rfl];exact h1 ha
    ·rw[Ov hs,if_pos rfl];exact h2 ha
  ·have:=h.slot s
   simp only[Acs,upd,if_neg e];cases hs:ff s with
   |none=>trivial
   |some p =>
    rw[hs]at this;obtain⟨h1,h2,h3⟩:=this;refine⟨by simp[Act.put];exact h1,?_,?_⟩
    ·rw[Ov h1,if_neg e];exact h2
    ·rw[Ov h1,if_neg e];exact h3
def Aq(hp:List Hl):Nat->Hl:=λh=>(nth hp h).getD .fresh
def LeV(s s':SV):Prop:=∀(E:Env) (w:World) (v:Value),Rel E w s v->Rel E w s' v
def LeH(ls ls':List Hl):Prop:=∀(h:Nat) (E:Env) (w:World),HOk E w h (Aq ls h)->HOk E w h (Aq ls' h)
structure Fin(r' r:SV)(ls'' ls':List Hl):Prop where
 v:LeV r' r
 h:LeH ls'' ls'
 len:ls'.length<=ls''.length
def Aaj:List SV->SV
 | [v]=>v
 |vs=>.tup vs
def Wg:Nat->List Nat
 |0=>[]
 |n+1=>Wg n++[n]
def eqNs:List Nat->List Nat->Bool
 | [],[]=>true
 |x :: l,y :: t=>x==y&&eqNs l t
 |_,_=>false
def Amk(cx:Cx)(m:Nat)(vs:List SV)(σ:Sy)(K:SV->List Hl->Prop):Prop :=
 match loose (norm cx.D (Aaj vs)) with
 |r =>
  match Tk σ.hp σ.hp (Lt (Wg m) (hsV r)) with
  |hs =>
   match Uj cx.D σ.hp hs with
   |ls =>
    if Po hs&&eqNs (Bf m hs) (Wg m)&&Va hs (hsV r)&&Cb r&&Aay (Af σ.hp) hs&&L6 hs ls then K (rnV (H4 hs) r) (Vr (rnH (H4 hs)) ls) else False
structure IsLC(c:LC)(ps:Array Tmp)(assign body:Code)(n:Nat):Prop where
 ps:c.ps=ps
 assign:c.assign=assign
 body:c.body=body
 n:c.n=n
def I6:List Tmp->List SV->List (Option G)->Option (List (Option G))
 | [],[],fr=>some fr
 |p :: ps,v :: vs,fr=>I6 ps vs (Ax fr p (some ⟨[],none,none,v⟩))
 |_,_,_=>none
def jpOf:Ex->Nat×Option Jp×Bool
 |.normal=>(0,none,true)
 |.ret=>(2,some .ret,false)
 |.exit id=>(2,some (.exit id),false)
 |.goto l=>(2,some (.goto l),false)
def exOf:Option Jp->Ex
 |none=>.normal
 |some .ret=>.ret
 |some (.exit id)=>.exit id
 |some (.goto l)=>.goto l
def Iq:Code->Bool
 |.seq a b=>Iq a&&Iq b
 |.cond _ t e=>Iq t&&Iq e
 |.block _ b=>Iq b
 |.loop b=>Iq b
 |.scope b=>Iq b
 |.rangeFunc ..=>false
 |_=>true
def Tf(cx:Cx)(m:Nat)(K:SV->List Hl->Prop)(e:Ex)(σ:Sy):Prop :=
 match nth σ.hp 0,jpOf e with
 |some (.lrec c fr 1 none),(st,pd,b)=>Amk cx m [.bool (.l b)] ⟨σ.fr,Ax σ.hp 0 (.lrec c fr st pd),σ.gm⟩ K
 |_,_=>False
def Adi(_c:LC)(ps:Array Tmp)(n:Nat)(xs:List SV)(ls:List Hl):Option (List (Option G)) :=
 match xs,ls with
 |.yv 0 :: vs,.lrec _ fr 0 none :: _=>I6 ps.toList vs (Oc fr (List.replicate n none))
 |_,_=>none
def Ags:SV->Option (FuncId×List SV)
 |.clo f cs=>some (f,cs)
 |.fn f=>some (f,[])
 |_=>none
def Acu(X:Sy->(Ex->Sy->Prop)->Prop):Nat->Sy->(Ex->Sy->Prop)->Prop
 |0,_,_=>False
 |n+1,σ,K=>X σ λe σ'=>match e with
  |.normal=>Acu X n σ' K
  |e=>K e σ'
def cntG:List Gh->Nat
 | [.freeze n]=>n
 |_=>0
def exec(cx:Cx):Code->Sy->(Ex->Sy->Prop)->Prop
 |.skip,σ,K=>K .normal σ
 |.region id ops draw,σ,K =>
  ghostK cx (id+2000000) σ λσ=>Eo cx ops.toList ops.toList [] σ λfs σ =>
   if draw then (if Nat.blt 40 (Af ops.toList) then IndepOk ops.toList fs/\ghostK cx id ⟨tidy σ.fr,σ.hp,[]⟩ (K .normal)
    else if G3 ops.toList 0&&Ue ops.toList (Ie ops.toList []) ops.toList fs 0 then ghostK cx id ⟨tidy σ.fr,σ.hp,[]⟩ (K .normal) else False)
   else ghostK cx id ⟨tidy σ.fr,σ.hp,[]⟩ (K .normal)
 |.seq a b,σ,K=>exec cx a σ λe σ=>match e with
  |.normal=>exec cx b σ K
  |e=>K e σ
 |.cond c t e,σ,K =>
  match rd cx σ [] c with
  |some (.bool (.l true))=>exec cx t σ K
  |some (.bool (.l false))=>exec cx e σ K
  |some (.bool b)=>(cx.D.b b=true->exec cx t (know σ c true) K)/\(cx.D.b b=false->exec cx e (know σ c false) K)
  |_=>False
 |.block id b,σ,K=>exec cx b σ λe σ=>match e with
  |.exit i=>if i==id then K .normal σ else K (.exit i) σ
  |e=>K e σ
 |.loop b,σ,K=>match look 999986 cx.gh with
  |some l=>Acu (exec cx b) (cntG l) σ K
  |none =>
  ∃(keep:List Nat) (J:Nat->List (Option SV)->List Hl->Prop),
   (Dx (Af σ.hp) σ.hp=true/\∃m,J m (Ga cx.D (Af σ.hp) σ.fr keep) (Gb cx.D σ.hp))/\
   ∀m vs hp,J m vs hp->exec cx b ⟨Oc (Ko keep vs) (Lp σ.fr),hp,[]⟩ λe σ'=>match e with
    |.normal=>Dx (Af σ.hp) (Bf (Af σ.hp) σ'.hp)=true/\∃m',m'<m/\J m' (Ga cx.D (Af σ.hp) σ'.fr keep) (Gb cx.D (Bf (Af σ.hp) σ'.hp))
    |e=>K e σ'
 |.exit id,σ,K=>K (.exit id) σ
 |.ret,σ,K=>K .ret σ
 |.label _,σ,K=>K .normal σ
 |.goto l,σ,K=>K (.goto l) σ
 |.scope c,σ,K=>exec cx c σ λe σ=>match e with
  |.goto _=>False
  |e=>K e σ
 |.rangeFunc g ps assign bd,σ,K =>
  match (rd cx σ [] g).bind Ags with
  |some (f,caps) =>
   match look f cx.its with
   |some it =>
    (Iq assign&&Iq bd)=true/\∀c:LC,IsLC c ps assign bd (Af σ.fr)->∃(keep:List Nat) (Y:FSpec),
     (∀xs ls K',Y cx.D xs ls K'->(∃fr,ls.head?=some (.lrec c fr 0 none))/\∃r ls',K' r ls'/\match Adi c ps (Af σ.fr) xs ls with
      |some fr0=>exec cx assign ⟨fr0,ls,[]⟩ λe σ1=>match e,nth σ1.hp 0 with
       |.normal,some (.lrec c1 fr1 0 none)=>exec cx bd ⟨σ1.fr,Ax σ1.hp 0 (.lrec c1 fr1 1 none),σ1.gm⟩ (Tf cx (Af ls) λr' ls''=>Fin r' r ls'' ls')
       |_,_=>False
      |none=>False)/\
     Fp cx ⟨σ.fr,σ.hp++[.lrec c (Ko keep (Ga cx.D (Af σ.hp) σ.fr keep)) 0 none],σ.gm⟩ [] (.yv (Af σ.hp) :: caps) (it Y) λo =>
      match Ll (σ.hp++[.lrec c (Ko keep (Ga cx.D (Af σ.hp) σ.fr keep)) 0 none]) o.efs with
      |hp'=>Jf (σ.hp++[.lrec c (Ko keep (Ga cx.D (Af σ.hp) σ.fr keep)) 0 none]) o.efs=true/\match nth hp' (Af σ.hp) with
       |some (.lrec _ _ st pd)=>Nat.beq st 1=false/\K (exOf pd) ⟨σ.fr,Ax hp' (Af σ.hp) .gone,σ.gm⟩
       |_=>False
   |none=>False
  |none=>False
 |_,_,_=>False
def Jb(cx:Cx)(σ:Sy):List ResultVar->Option (List SV)
 | []=>some []
 |.tmp t :: rs=>match rd cx σ [] (.tmp t),Jb cx σ rs with
  |some v,some vs=>some (v :: vs)
  |_,_=>none
 |.cell a t :: rs=>match rd cx σ [] (.tmp a),size? cx t,Jb cx σ rs with
  |some (.ptr h off),some n,some vs =>
   match nth σ.hp h with
   |some (.blk _ cs)=>if Nat.ble (off+n) (Af cs) then
     match Kp (isAgg? cx t) (Bf n (C3 off cs)) with
     |some v=>some (v :: vs)
     |none=>none
    else none
   |_=>none
  |_,_,_=>none
def Ea(ntmps:Nat)(args:List SV):List (Option G) :=
 (args.map λv=>some ⟨[],none,none,v⟩)++List.replicate (ntmps-Af args) none
def Aky:List SV->Option Nat
 | []=>none
 |.osl _ _ h :: _=>some h
 |_ :: vs=>Aky vs
def Qy(h k:Nat):List SV->List SV
 | []=>[]
 |.osl nl n _ :: vs=>.osl nl n k :: Qy h k vs
 |v :: vs=>v :: Qy h k vs
def To(h:Nat):List SV->Bool
 | []=>true
 |.osl _ _ h' :: vs=>h'==h&&To h vs
 |v :: vs=>Al v&&To h vs
def Aiw(cx:Cx)(m:Nat)(vs:List SV)(σ:Sy)(K:SV->List Hl->Prop):Prop :=
 match Aky vs with
 |none=>K (loose (norm cx.D (Aaj vs))) (normH cx.D (Bf m σ.hp))
 |some h=>match Nat.ble m h&&To h vs&&Gi (normH cx.D (Bf m σ.hp)),nth σ.hp h with
  |true,some (.own ty n sz gr f)=>K (loose (norm cx.D (Aaj (Qy h m vs)))) (normH cx.D (Bf m σ.hp++[.own ty n sz gr f]))
  |_,_=>False
def Agv(cx:Cx)(fn:Func)(args:List SV)(hp:List Hl)(K:SV->List Hl->Prop):Prop :=
 match fn.body with
 |some c=>exec cx c ⟨Ea fn.ntmps args,hp,[]⟩ λe σ=>match e with
  |.normal|.ret=>match Jb cx σ fn.results.toList with
   |some vs=>Amk cx (Af hp) vs σ K
   |none=>False
  |_=>False
 |none=>False
def body(cx:Cx)(fn:Func)(args:List SV)(hp:List Hl)(K:SV->List Hl->Prop):Prop :=
 match fn.body with
 |some c=>exec cx c ⟨Ea fn.ntmps args,hp,[]⟩ λe σ=>match e with
  |.normal|.ret=>match Jb cx σ fn.results.toList with
   |some vs=>Aiw cx (Af hp) vs σ K
   |none=>False
  |_=>False
 |none=>False
def bodyJ(cx:Cx)(fn:Func)(pre c:Code)(l:Nat)(rest:Code)(args:List SV)(hp:List Hl)(K:SV->List Hl->Prop):Prop :=
 ∃(keep:List Nat) (J:Nat->List (Option SV)->List Hl->Prop),
  (exec cx pre ⟨Ea fn.ntmps args,hp,[]⟩ λe σ=>match e with
   |.normal=>exec cx c σ λe σ=>match e with
    |.normal|.ret=>match Jb cx σ fn.results.toList with
     |some vs=>Aiw cx (Af hp) vs σ K
     |none=>False
    |.goto l'=>l'=l/\Dx (Af hp) (Bf (Af hp) σ.hp)=true/\∃m,J m (Ga cx.D (Af hp) σ.fr keep) (Gb cx.D (Bf (Af hp) σ.hp))
    |_=>False
   |_=>False)/\
  ∀m vs hp',J m vs hp'->exec cx rest ⟨Oc (Ko keep vs) (Lp (Ea fn.ntmps args)),hp',[]⟩ λe σ=>match e with
   |.normal|.ret=>match Jb cx σ fn.results.toList with
    |some vs=>Aiw cx (Af hp) vs σ K
    |none=>False
   |.goto l'=>l'=l/\Dx (Af hp) (Bf (Af hp) σ.hp)=true/\∃m',m'<m/\J m' (Ga cx.D (Af hp) σ.fr keep) (Gb cx.D (Bf (Af hp) σ.hp))
   |_=>False
theorem Ag{α:Type}:∀(l:List α) (n:Nat),nth l n=l[n]?
 | [],_=>by simp[nth]
 |_ :: _,0=>by simp[nth]
 |_ :: l,n+1=>by simp[nth,Ag l n]
theorem Dz{α:Type}:∀(l:List (Option α)) (n:Nat),Au l n=(l[n]?).getD none
 | [],_=>by simp[Au]
 |_ :: _,0=>by simp[Au]
 |_ :: l,n+1=>by simp[Au,Dz l n]
theorem As{α:Type}:∀(l:List α) (n:Nat) (v:α),Ax l n v=l.set n v
 | [],_,_=>by simp[Ax]
 |_ :: _,0,_=>by simp[Ax]
 |_ :: l,n+1,v=>by simp[Ax,As l n v]
theorem A9{α:Type}:∀(n:Nat) (l:List α),Bf n l=l.take n
 |0,_=>by simp[Bf]
 |_+1,[]=>by simp[Bf]
 |n+1,_ :: l=>by simp[Bf,A9 n l]
theorem Bo{α:Type}:∀(n:Nat) (l:List α),C3 n l=l.drop n
 |0,_=>by simp[C3]
 |_+1,[]=>by simp[C3]
 |n+1,_ :: l=>by simp[C3,Bo n l]
theorem Ae{α:Type}:∀(l:List α),Af l=l.length
 | []=>rfl
 |_ :: l=>by simp[Af,Ae l]
theorem Db{α:Type}:∀(vs l:List α) (off:Nat),(C7 l off vs).length=l.length
 | [],_,_=>rfl
 |v :: vs,l,off=>by simp[C7,Db vs,As]
theorem Hs{α:Type}:∀(vs l:List α) (off i:Nat),off+vs.length<=l.length->(C7 l off vs)[i]?=if off<=i/\i<off+vs.length then vs[i-off]? else l[i]?
 | [],l,off,i,_=>by rw[C7,if_neg (by simp only[List.length_nil];omega)]
 |v :: vs,l,off,i,h=>by
  simp only[List.length_cons]at h;rw[C7,Hs vs _ (off+1) i (by simp[As];omega),As]
  by_cases e:i=off
  ·subst e
   rw[if_neg (by omega),if_pos (by simp)];rw[List.getElem?_set_self (by omega)];simp
  ·by_cases e2:off+1<=i/\i<off+1+vs.length
   ·rw[if_pos e2,if_pos (by simp;omega)]
    obtain⟨k,hk⟩:∃k,i-off=k+1:=⟨i-off-1,by omega⟩;rw[hk,show i-(off+1)=k by omega];simp
   ·rw[if_neg e2,if_neg (by simp;omega),List.getElem?_set_ne (by omega)]
theorem Dv(x:Nat):∀l,Kr x l=true↔x∈l
 | []=>by simp[Kr]
 |y :: l=>by
  simp only[Kr,Bool.or_eq_true,beq_iff_eq,Dv x l,List.mem_cons];constructor
  ·rintro (h|h)
   ·exact .inl h.symm
   ·exact .inr h
  ·rintro (h|h)
   ·exact .inl h.symm
   ·exact .inr h
theorem Zx:∀(l t:List Nat),Vj l t=true↔∀x∈l,x∈t
 | [],t=>by simp[Vj]
 |x :: l,t=>by simp[Vj,Dv,Zx l t]
def Ac(gm:List BT)(T:List Nat):List BT:=T.filterMap (nth gm)
theorem Acn:∀(l:List BT),Bh l↔∀b∈l,b.den=true
 | []=>by simp[Bh]
 |b :: l=>by simp[Bh,Acn l]
theorem Acm{gm:List BT}{t T:List Nat}(h:Vj t T=true)(hT:Bh (Ac gm T)):Bh (Ac gm t):=by
 rw[Acn]at *;intro b hb;rw[Ac,List.mem_filterMap]at hb;obtain⟨i,hi,hb⟩:=hb;exact hT b (by rw[Ac,List.mem_filterMap];exact⟨i,(Zx _ _).1 h i hi,hb⟩)
theorem Dh(gm:List BT)(A:Prop):∀(T:List Nat),Ob dn gm T A↔(Bh (Ac gm T)->A)
 | []=>by simp[Ob,Ac,Bh]
 |i :: T=>by
  have ih:=Dh gm A T;simp only[Ob,Ac,List.filterMap_cons];cases h:nth gm i with
  |none=>simpa[Ac] using ih
  |some b =>
   simp only[Bh];rw[ih];constructor
   ·intro h1 ⟨h2,h3⟩;exact h1 h2 h3
   ·intro h1 h2 h3;exact h1 ⟨h2,h3⟩
def Jj(P:Program):TK->TypeDesc->Bool
 |.int k,.int k'=>k==k'
 |.bool,.bool=>true
 |.string,.string=>true
 |.pointer e,.pointer e'=>e==e'
 |.slice e,.slice e'=>e==e'
 |.struct fs,.struct fields=>(fields.toList.map λf=>(f.offset,f.type))==fs&&fields.toList.all λf=>(P.info? f.type).isSome
 |.array n e,.array n' e'=>n==n'&&e==e'
 |.map k e,.map k' e'=>k==k'&&e==e'
 |.iface,.interface _=>true
 |.other,.struct _=>false
 |.other,.array ..=>false
 |.other,_=>true
 |_,_=>false
def zB:SV->Value->Bool
 |.int k (.l n),.int k' n'=>k==k'&&n==n'
 |.bool (.l b),.bool b'=>b==b'
 |.str s,.string s'=>s==s'.data.toList
 |.nilp,.pointer none=>true
 |.sl (.l true) (.l 0) _ _,.slice none 0 0=>true
 |.raw .nilIface,.nilIface=>true
 |.raw .nilFunc,.nilFunc=>true
 |.raw (.map none),.map none=>true
 |_,_=>false
def zsB:List SV->List Value->Bool
 | [],[]=>true
 |s :: ss,v :: vs=>zB s v&&zsB ss vs
 |_,_=>false
def Ald(k:TK)(z:Value):Bool:=match z with
 |.agg _=>(match k with|.struct _=>true|.array _ _=>true|_=>false)
 |_=>true
def tiB(P:Program)(t:TypeId)(ti:TI):Bool :=
 match P.underlying t,P.info? t with
 |some d,some i=>ti.zero.length==ti.size&&Jj P ti.k d&&i.size==ti.size&&i.bytes==ti.bytes&&(match i.zero with|some z=>zsB ti.zero z.cells.toList&&Ald ti.k z|none=>false)
 |_,_=>false
def ttB(P:Program):List (Nat×TI)->Bool
 | []=>true
 |(t,ti) :: l=>tiB P t ti&&ttB P l
theorem Zs{P:Program}:∀ {tt:List (Nat×TI)} {t:Nat} {ti:TI},ttB P tt=true->look t tt=some ti->tiB P t ti=true
 | [],_,_,_,h=>by simp[look]at h
 |(u,ui) :: l,t,ti,hB,h=>by
  simp only[ttB,Bool.and_eq_true]at hB;simp only[look]at h
  split at h
  ·rename_i e
   have e:u=t:=by simpa using e
   subst e;simp only[Option.some.injEq]at h;subst h;exact hB.1
  ·exact Zs hB.2 h
theorem zB_RO{I:Nat->Nat->Prop}{w:World}{s:SV}{v:Value}(h:zB s v=true):RO I w s v:=by
 unfold zB at h
 split at h<;>simp at h
 ·obtain⟨rfl,rfl⟩:=h;exact .int rfl
 ·subst h;exact .bool rfl
 ·subst h;exact .str rfl
 ·exact .nilp
 ·exact .slnil rfl rfl
 ·exact .raw rfl
 ·exact .raw rfl
 ·exact .raw rfl
theorem Ju{I:Nat->Nat->Prop}{w:World}:∀ {ss:List SV} {vs:List Value},zsB ss vs=true->ss.length=vs.length/\∀(i:Nat) (s:SV) (v:Value),ss[i]?=some s->vs[i]?=some v->RO I w s v
 | [],[],_=>by simp
 |s :: ss,v :: vs,h=>by
  simp only[zsB,Bool.and_eq_true]at h;obtain⟨h1,h2⟩:=Ju (I:=I) (w:=w) h.2;refine⟨by simp[h1],λi s' v' hs hv=>?_⟩;cases i with
  |zero=>simp at hs hv;subst hs;subst hv;exact zB_RO h.1
  |succ i=>simp at hs hv;exact h2 i s' v' hs hv
 | [],_ :: _,h=>by simp[zsB]at h
 |_ :: _,[],h=>by simp[zsB]at h
theorem Ajm{s:SV}{v:Value}(h:zB s v=true):v.oneCell'=true:=by
 unfold zB at h
 split at h<;>first|rfl|simp at h
structure D8(P:Program)(t:TypeId)(ti:TI):Prop where
 zlen:ti.zero.length=ti.size
 und:∃d,P.underlying t=some d/\Jj P ti.k d=true
 info:∃i z,P.info? t=some i/\i.size=ti.size/\i.bytes=ti.bytes/\i.zero=some z/\zsB ti.zero z.cells.toList=true/\Ald ti.k z=true
theorem tiB_ok{P:Program}{t:TypeId}{ti:TI}(h:tiB P t ti=true):D8 P t ti:=by
 unfold tiB at h
 split at h
 ·rename_i d i hd hi
  simp only[Bool.and_eq_true,beq_iff_eq]at h;obtain⟨⟨⟨⟨h0,h1⟩,h2⟩,h3⟩,h4⟩:=h
  split at h4
  ·rename_i z hz
   simp only[Bool.and_eq_true]at h4;exact⟨h0,⟨d,hd,h1⟩,⟨i,z,hi,h2,h3,hz,h4⟩⟩
  ·simp at h4
 ·simp at h
theorem Ado{I:Nat->Nat->Prop}{w:World}{v:Value}{s:SV}(h:Oa v=some s):(∃vs,s=.tup []/\v=.tuple vs/\vs=#[])\/RO I w s v:=by
 unfold Oa at h
 split at h
 ·cases h;exact .inr (.int rfl)
 ·cases h;exact .inr (.bool rfl)
 ·cases h;exact .inr (.str rfl)
 ·cases h;exact .inr .nilp
 ·cases h;exact .inr (.slnil rfl rfl)
 ·cases h;exact .inr (.raw rfl)
 ·cases h;exact .inr (.raw rfl)
 ·cases h;exact .inr (.raw rfl)
 ·rename_i vs
  split at h
  ·rename_i e
   cases h;exact .inl ⟨vs,rfl,rfl,by simpa using e⟩
  ·cases h
 ·cases h
theorem Aan{E:Env}{w:World}{v:Value}{s:SV}(h:Oa v=some s):Rel E w s v:=by
 rcases Ado (I:=E.I) (w:=w) h with⟨vs,rfl,rfl,rfl⟩|h
 ·exact .tup rfl (by simp)
 ·exact .ro h
def Q8(w:World)(g:Nat)(s:SV):Prop:=match s with
 |.rarr n sz _=>∃(C:Array Value) (t:TypeId) (fr:Nat×Nat),w.heap[g]?=some (.cells C t fr)/\C.size=n * sz
 |_=>True
theorem Q8.same{w w':World}{g:Nat}{s:SV}(h:Q8 w g s)(e:w'.heap[g]?=w.heap[g]?):Q8 w' g s:=by
 unfold Q8 at h ⊢
 split at h
 ·obtain⟨C,t,fr,h1,h2⟩:=h
  exact⟨C,t,fr,e.trans h1,h2⟩
 ·trivial
def E6(B:Bs)(gl:List (Nat×SV)):Prop:=∀g s,look g gl=some s->RO B.I0 B.w0 s (.pointer (some ⟨g,0,none⟩))/\g<B.w0.heap.size/\¬B.X g/\Q8 B.w0 g s
def Ba(σ:Sy):Nat->SG:=λs=>(Au σ.fr s).map λg=>(Ac σ.gm g.tg,g.v)
def Cu(x:Operand):List Nat:=match x with
 |.tmp s=>[s]
 |_=>[]
theorem Aa{B:Bs}{N:Nat}{E:Env}{a:Act}{w:World}{ff:Nat->SG}{hf:Nat->Hl}{cx:Cx}{σ:Sy}{T:List Nat}{x:Operand}{v:SV}
  (h:rd cx σ T x=some v) (hg:E6 B cx.gl) (st:St B N E a w ff hf) (ag:∀s∈Cu x,ff s=Ba σ s) (hT:Bh (Ac σ.gm T)):Rel E w v (a.eval x):=by
 cases x with
 |tmp s =>
  simp only[rd]at h
  split at h
  ·rename_i g hgo
   split at h
   ·rename_i hs
    cases h;have h1:=st.slot s;rw[ag s (by simp[Cu]),Ba,hgo]at h1;simp only[Option.map_some,Bk]at h1;exact h1.2.1 (Acm hs hT)
   ·cases h
  ·cases h
 |const v'=>exact Aan h
 |global g =>
  have h1:=(hg g v h).1;exact .ro (h1.mono (λb o hb=>(st.base.I0 b o hb).1) (λb o hb=>(st.base.I0 b o hb).2))
 |func f =>
  cases h;exact .ro (.fn rfl)
theorem Ahy{E:Env}{w:World}{cx:Cx}{t:TypeId}{v:SV}{u:Value}(h:Rel E w v u):Rel E w (Ak9 cx t v) u:=by
 unfold Ak9
 split
 ·rename_i f
  have hn:∀(n:Nat) (g:Nat->List SV),Rel E w (.sl (.l true) (.l 0) n g) u:=by
   intro n g;cases h with
   |ro h=>cases h with
    |slnil h hn=>exact .ro (.slnil rfl rfl)
    |sl g h=>simp[BT.den]at h
  split
  ·split
   ·exact hn _ _
   ·exact hn _ _
  ·exact hn _ _
 ·exact h
theorem Jd{B:Bs}{N:Nat}{E:Env}{a:Act}{w:World}{ff:Nat->SG}{hf:Nat->Hl}{cx:Cx}{σ:Sy}{T:List Nat}{t:TypeId}{x:Operand}{v:SV}
  (h:rdT cx σ T t x=some v) (hg:E6 B cx.gl) (st:St B N E a w ff hf) (ag:∀s∈Cu x,ff s=Ba σ s) (hT:Bh (Ac σ.gm T)):Rel E w v (a.eval x):=by
 unfold rdT at h
 split at h
 ·rename_i v0 h0
  cases h;exact Ahy (Aa h0 hg st ag hT)
 ·cases h
end Go.Sx
