/- Part of the proofs of the statements about responses and messages (layers 9 and 10): a symbolic executor over the code, that it is sound, and contracts of functions; it has no conditions of its own. -/
import Derived.Lib.Walk
import Derived.WalkKit
import Derived.ProofKit
import Derived.Below
import Derived.Carry
import Derived.ChangeOld
import Derived.ChangeArms
import Derived.OpenShut
import Derived.MakeChecks
import Derived.Shelf.Bytes.SlIndexAt
import Derived.Test.YtdoogdbjiijifaaGreatDoorCards
import Derived.Test.YtdoogdbjiijifaaGreatDoorTie
import Derived.LaidLaws
import Derived.LaidHandle
import Derived.LaidMore
import Derived.Lay
import Derived.Stop.Joined
import Derived.Stop.LaidErr
import Derived.Lib.SmallJoins
import Derived.Test.YtdoogdbjiijifaaGreatDoorE3Paz
import Derived.Test.YtdoogdbjiijifaaGreatDoorE3Pav
import Derived.Test.YtdoogdbjiijifaaGreatDoorE3Paw
namespace Go.Proofs.YtdoogdbjiijifaaGreatDoor
open Go Go.RowKit Go.Sx Go.Sort
set_option maxRecDepth 100000
set_option maxHeartbeats 2000000
def Qb(x:ByteArray):Bool:=x.toList.isEmpty
theorem Ab6(x:ByteArray)(w:World):Calls Tryz.prog 180 #[.string x] w λe w'=>e=.returned (.bool (Qb x))/\∃q,w'=w.drewN q:=by
 go_enter Tryz.func180,Tryz.ntmps51
 go_wp2
 go_ret
 exact⟨rfl,0,rfl⟩
theorem Y9(x:List UInt8):(!Qb (Sx.bytes x))=neB x:=by
 unfold Qb neB Sx.bytes;rw[Lib.toList_data];cases x<;>rfl
theorem Y3(l:List (List UInt8)):(l.map Sx.bytes).filter (λx=>!Qb x)=(l.filter neB).map Sx.bytes:=by
 rw[List.filter_map];congr 1;refine List.filter_congr λx _=>Y9 x
theorem Amy:∀args w,(callFunc 180 args).run Tryz.prog w=.ok (.enter 180 args) w:=enters_of Tryz.func180 (by kernel_rfl) rfl
theorem Qw{α:Type}[Inhabited α](enc:α->Value)(w:World)(blk off:Nat)(d:Array α)(k:Nat):(putRow enc w blk off d).heap[k]?=if blk=k then (w.heap[k]?).map (onCells (putCells enc off d)) else w.heap[k]?:=by
 unfold putRow mapBlock;simp only[Array.getElem?_modify]
theorem delPut{w:World}{q b:Nat}{cur:Array Value}{fr:Nat×Nat}{t:TypeId}(hg:w.heap[b]?=some (.cells cur t fr))(N:Array ByteArray){i:Nat}(hi:i<N.size)(hc:N.size<=cur.size):(putRow Value.string (Go.Sort.ahead w q) b 0 N).cell? ⟨b,i,none⟩=some (.string N[i]!):=by
 have h1:(putRow Value.string (Go.Sort.ahead w q) b 0 N).heap[b]?=some (.cells (putCells Value.string 0 N cur) t fr):=by
  rw[Qw,if_pos rfl];have:(Go.Sort.ahead w q).heap[b]?=w.heap[b]?:=rfl;rw[this,hg];rfl
 rw[cell_of_row _ b _ _ _ _ h1];simp only[putCells,Array.getElem?_mapIdx];rw[Array.getElem?_eq_getElem (by omega),Option.map_some,if_pos ⟨Nat.zero_le _,by omega⟩];rfl
def spDel:FSpec:=λ_ xs ls K=>∃(l:List (List UInt8)) (nb:Bool) (n:Int) (f:Nat->List SV),xs=[.osl (.a nb) (.a n) 0,.fn 180]/\ls=[.own 9 (.a n) 1 true f]/\Bl f n l/\0<l.length/\∀l' n',l'=l.filter neB->n'=(l'.length:Int)->K (.sl (.a false) (.a n') 1 (Cj l')) [.gone]
theorem Ai0:Ay Tryz.prog gl 179 spDel:=by
 refine⟨⟨Tryz.f179,_,Tryz.func179,rfl,by kernel_rfl⟩,λxs ls K h=>?_⟩;obtain⟨l,nb,n,f,rfl,rfl,R,h0,h⟩:=h;refine⟨_,_,h _ _ rfl rfl,?_⟩;intro B E w vals hw0 hI0 hdom hb hg hh hr;obtain⟨v,m,xs,k1,kz,k2,k3,k4,k5,k6⟩:=hh 0;have k3':n=(m:Int):=k3;have hm:m=l.length:=by have:=R.n;omega
 obtain⟨u,g,rfl,hu,hgv⟩:=Eg hr;obtain⟨huv,hnl⟩:=F2 hu k1 k2 k3 rfl;subst huv;obtain rfl:g=.func (.func 180) #[] #[]:=by
  cases hgv with
  |ro h=>cases h with
   |fn h=>exact h
 rcases k2.2 with⟨e0,e1⟩|⟨b,cap,cur,fr,e0,hg2,hfr,hmc,hcm,hcs,htake⟩
 ·omega
 subst e0;obtain rfl:fr=(0,0):=by
  rcases hfr with h|⟨h,_⟩
  ·exact h
  ·cases h
 have hxl:xs.length=l.length:=by rw[k2.1,hm];simp
 have hxs:xs=l.map λx=>Value.string (Sx.bytes x):=by
  refine List.ext_getElem (by rw[hxl];simp) λi h1 h2=>?_;have hi:i<l.length:=by omega
  have:=k5.2 i 0 (.str (l.getD i [])) xs[i] (by omega) (by rw[R.f i hi];rfl) (by simp[List.getElem?_eq_getElem h1]);cases this with
  |str h =>
   rw[h,List.getElem_map,List.getD_eq_getElem?_getD,List.getElem?_eq_getElem hi];rfl
 obtain⟨hO,hnI⟩:=k6 b rfl;have hlt:b<w.heap.size:=(hb.Obd b 0 hO).1;obtain⟨d,hd⟩:∃d,d=(l.map Sx.bytes).toArray:=⟨_,rfl⟩;have hds:d.size=m:=by rw[hd,hm];simp
 have hdl:d.toList=l.map Sx.bytes:=by rw[hd]
 have hH:Holds Value.string w b 0 d:=by
  intro j hj;have hj':j<l.length:=by omega
  refine⟨?_,Lib.frozen_of_heap hg2 _⟩;rw[cell_of_row w b _ cur _ _ hg2,Nat.zero_add];have h1:cur.toList[j]?=some (Value.string (Sx.bytes l[j])):=by
   have:(cur.toList.take (m * 1))[j]?=xs[j]?:=by rw[htake]
   rw[List.getElem?_take,if_pos (by omega),hxs]at this;rw[this];simp[List.getElem?_eq_getElem hj']
  rw[<-Array.getElem?_toList,h1,getElem!_pos d j hj];simp[hd]
 have hF:(d.toList.filter λx=>!Qb x)=(l.filter neB).map Sx.bytes:=by rw[hdl];exact Y3 l
 have run:=K1 Value.string (λ_=>rfl) Qb 180 #[] Amy ⟨#[]⟩ Tryz.zeroValue9 b 0 cap d w (λW x _=>by simpa[FnGives] using Ab6 x W) (λq os dk x _=>by simpa[FnGives] using Ab6 x _) hH (by have:=R.len;omega) (by omega);rw[hF,hds]at run;refine run.mono ?_;clear run;rintro e w' ⟨rfl,q,rfl⟩;obtain⟨l',hl'⟩:∃l',l'=l.filter neB:=⟨_,rfl⟩;rw[<-hl'];have hle:l'.length<=l.length:=by rw[hl'];exact List.length_filter_le _ _
 obtain⟨N,hN⟩:∃N,N=(l'.map Sx.bytes++List.replicate (m-(l'.map Sx.bytes).length) (⟨#[]⟩:ByteArray)).toArray:=⟨_,rfl⟩;rw[<-hN];have hNs:N.size=m:=by rw[hN];simp;omega
 have hNi:∀i,i<l'.length->N[i]! = Sx.bytes (l'.getD i []):=by
  intro i hi;rw[getElem!_pos N i (by omega),List.getD_eq_getElem?_getD,List.getElem?_eq_getElem hi];simp only[hN,List.getElem_toArray];rw[List.getElem_append_left (by simpa using hi)];simp
 have hcell:∀i,i<l'.length->(putRow Value.string (Go.Sort.ahead w q) b 0 N).cell? ⟨b,i,none⟩=some (.string (Sx.bytes (l'.getD i []))):=by
  intro i hi;rw[delPut hg2 N (by omega) (by omega),hNi i hi]
 have hheap:∀k,k≠b->(putRow Value.string (Go.Sort.ahead w q) b 0 N).heap[k]?=w.heap[k]?:=λk hk=>by rw[Qw,if_neg (λe=>hk e.symm)];rfl
 have hc2:∀b2 o,b2≠b->(putRow Value.string (Go.Sort.ahead w q) b 0 N).cell? ⟨b2,o,none⟩=w.cell? ⟨b2,o,none⟩:=λb2 o hb2=>by simp only[World.cell?];rw[hheap b2 hb2]
 have hsz:(putRow Value.string (Go.Sort.ahead w q) b 0 N).heap.size=w.heap.size:=by simp[putRow,mapBlock,Go.Sort.ahead]
 have hX:=(hb.Obd b 0 hO).2
 let E':Env:=⟨E.β,E.τ,E.O,E.κ,E.ζ,λb2 o=>E.I b2 o\/(b2=b/\o<l'.length)⟩
 refine⟨_,E',rfl,⟨hb.os,hb.tape,hb.output,by rw[hsz];exact hb.size,λb2 hlt2 hnX=>?_,λb2 o hi=>?_,λb2 o hi=>?_,λb2 o hi=>?_,λb2 j hO2=>?_,⟨hb.β0.β,hb.β0.τ,hb.β0.ζ⟩⟩,λk hk=>?_,?_⟩
 ·rw[hheap b2 (λe=>?_)]
  ·exact hb.old b2 hlt2 hnX
  ·subst e
   rcases hX with h|h
   ·omega
   ·exact hnX h
 ·obtain⟨i1,i2⟩:=hb.I0 b2 o hi
  refine⟨.inl i1,?_⟩;rw[hc2 b2 o (λe=>hnI o (by rw[<-e];exact i1))];exact i2
 ·rw[hsz]
  rcases hi with hi|⟨rfl,_⟩
  ·exact hb.Ibd b2 o hi
  ·exact hlt
 ·rcases hi with hi|⟨rfl,_⟩
  ·exact hb.Inew b2 o hi
  ·exact .inr hX
 ·rw[hsz];exact hb.Obd b2 j hO2
 ·obtain rfl:k=0:=by simpa using hk
  trivial
 ·refine .ro (.sl (λi j=>.string (Sx.bytes (l'.getD i []))) rfl ?_ ?_ hcm (λ_=>rfl) (λi hi=>rfl) (λi j hi hj=>rfl) (λi j hi hj=>?_) (λi j s hi hs=>?_))
  ·show (l'.length:Int)=_
   simp
  ·simp;omega
  ·obtain rfl:j=0:=by omega
   have hi:i<l'.length:=by simpa using hi
   refine⟨?_,.inr ⟨rfl,by simpa using hi⟩⟩;simpa using hcell i hi
  ·match j,hs with
   |0,hs =>
    have hs:some (SV.str (l'.getD i []))=some s:=hs;cases hs;exact .str rfl
   |j+1,hs=>simp[Cj]at hs
open Go.Sx
set_option maxRecDepth 10000
def Aby(s:List UInt8):Bool:=(Az s).2 != 0
theorem Abz:Ay Tryz.prog gl 127 (Sa Az Aby):=by
 refine Bq (gh:=[]) mixed B4 (Ab Ajy (Ab Ai0 Ai)) Tryz.func127 (by kernel_rfl) (by kernel_rfl) ?_;intro xs ls K h;unfold Sa at h;obtain⟨s,rfl,rfl,hl,h⟩:=h;obtain⟨k,hk⟩:∃k,k=Az s:=⟨_,rfl⟩;obtain⟨kl,ke⟩:=k;obtain⟨kn,hkn⟩:∃kn:Int,kn=(kl.length:Int):=⟨_,rfl⟩;obtain⟨knb,hknb⟩:∃knb:Bool,knb=(ke != 0):=⟨_,rfl⟩;refine⟨_,_,h kl ke kn knb hk hkn (by rw[hknb,Aby,<-hk]),λD hD=>?_⟩;clear h;obtain⟨kr,hkr⟩:∃kr,kr=Cj kl:=⟨_,rfl⟩;rw[<-hkr];rw[Az]at hk;cbv;refine br hD (λh=>?_) (λh=>?_)<;>cbv
 ·have h:decide (2000<(s.length:Int))=true:=h
  rw[if_pos (by simpa using h)]at hk;exact Xl (f:=λ_=>[]) hD hk hkn hkr Bl.nil rfl (by simp only[Prod.mk.injEq]at hk;rw[hknb,hk.2];rfl) rfl
 have h:decide (2000<(s.length:Int))=false:=h;have h2:¬(2000<(s.length:Int)):=by simpa using h
 rw[if_neg h2]at hk;have hs:s.length<=2000:=by omega
 clear h h2;refine⟨s,_,rfl,rfl,by omega,λk l n b nb f hp0 hl' hn hb hnb hf=>?_⟩;have hp:k=Hm 44 s:=by subst hD;exact hp0
 clear hp0;rw[<-hp]at hk;cbv;refine br hD (λh=>?_) (λh=>?_)<;>cbv
 ·have h:(!b)=true:=h
  have hn0:k=none:=by
   cases k with
   |none=>rfl
   |some l=>rw[hb]at h;cases h
  rw[hn0]at hk;exact Xl (f:=λ_=>[]) hD hk hkn hkr Bl.nil rfl (by simp only[Prod.mk.injEq]at hk;rw[hknb,hk.2];rfl) rfl
 have h:(!b)=false:=h;obtain⟨l0,rfl⟩:∃l,k=some l:=by
  cases k with
  |none=>rw[hb]at h;cases h
  |some l=>exact⟨l,rfl⟩
 clear h;obtain⟨h1,h2,h3⟩:=M1 hp.symm;simp only[Option.getD_some]at hl';have hll:l.length=l0.length:=by rw[hl',List.length_map]
 have RL:Bl f n l:=by rw[hf,hn];exact Bl.row (by omega)
 have hl2e:l.filter neB=Jk l0:=by rw[hl',Jk]
 have hk2:l.filter neB=kl/\ke=0:=by simp only[Prod.mk.injEq]at hk;rw[hl2e];exact⟨hk.1.symm,hk.2⟩
 refine⟨l,_,_,f,rfl,rfl,by subst hD;exact RL,by omega,λl2 n2 hl2 hn2=>?_⟩;have hl3:l2=kl:=by rw[hl2,hk2.1]
 have R2:Bl (Cj l2) n2 l2:=by
  rw[hn2];refine Bl.row ?_;have:(l.filter neB).length<=l.length:=List.length_filter_le _ _;rw[hl2];omega
 obtain⟨g,hg⟩:∃g,g=Cj l2:=⟨_,rfl⟩;rw[<-hg]at R2 ⊢;cbv;exact Xl (f:=g) (l':=l2) (e':=0) hD (by rw[hl3,hk2.2]) hkn hkr R2 rfl (by rw[hknb,hk2.2];rfl) rfl
open Go Go.Sx
def Am(c:UInt8):List UInt8->List UInt8×List UInt8×Bool
 | []=>([],[],false)
 |b :: r=>if b==c then ([],r,true) else (b :: (Am c r).1,(Am c r).2)
theorem Sh{c:UInt8}{s:List UInt8}(h:(Am c s).2.2=false):(Am c s).1=s/\(Am c s).2.1=[]/\Lib.indexByte s c=-1:=by
 induction s with
 |nil=>exact⟨rfl,rfl,rfl⟩
 |cons b r ih =>
  simp only[Am]at h ⊢
  split at h
  ·cases h
  ·rename_i hb
   obtain⟨h1,h2,h3⟩:=ih h;rw[if_neg hb];refine⟨by rw[h1],h2,?_⟩;rw[Lib.indexByte,if_neg hb,h3];rfl
theorem Jq{c:UInt8}{s:List UInt8}(h:(Am c s).2.2=true):Lib.indexByte s c=((Am c s).1.length:Int)/\(Am c s).1=s.take (Am c s).1.length/\(Am c s).2.1=s.drop ((Am c s).1.length+1)/\(Am c s).1.length<s.length:=by
 induction s with
 |nil=>cases h
 |cons b r ih =>
  simp only[Am]at h ⊢
  by_cases hb:(b==c)=true
  ·simp only[if_pos hb]
   rw[Lib.indexByte,if_pos hb];simp
  ·rw[if_neg hb]at h ⊢
   obtain⟨h1,h2,h3,h4⟩:=ih h;rw[Lib.indexByte,if_neg hb,h1];refine⟨?_,?_,?_,by simp;omega⟩
   ·rw[if_neg (by simp)];simp
   ·simp only[List.length_cons,List.take_succ_cons];rw[<-h2]
   ·simp only[List.length_cons,List.drop_succ_cons];exact h3
def spIdx1:FSpec:=λ_ xs ls K=>∃(s:List UInt8) (c:UInt8),xs=[.str s,.str [c]]/\ls=[]/\∀r:Int,r=Lib.indexByte s c->K (.int .i64 (.a r)) []
theorem Aig:Ay Tryz.prog gl 228 spIdx1:=by
 refine⟨⟨Tryz.f228,_,Tryz.func228,rfl,by kernel_rfl⟩,λxs ls K h=>?_⟩;obtain⟨s,c,rfl,rfl,h⟩:=h;refine⟨_,_,h _ rfl,Bx λE B w vals _ _ _ hr=>?_⟩;obtain⟨v,u,rfl,hv,hu⟩:=Eg hr;rw[Dj hv,Dj hu];refine (Il ⟨s.toArray⟩ c w).mono ?_;rintro e w' ⟨rfl,rfl⟩;exact⟨_,rfl,λE=>.ro (.int rfl),RowKit.Below.refl _ _⟩
def spCut:FSpec:=λ_ xs ls K=>∃(s:List UInt8) (c:UInt8),xs=[.str s,.str [c]]/\ls=[]/\s.length<=100000/\∀a b t,(a,b,t)=Am c s->K (.tup [.str a,.str b,.bool (.a t)]) []
theorem Aeg{D:Dn}(hD:D=dn){a b a' b':List UInt8}{t:Bool}{x:BT}(h:(a,b,t)=(a',b',x.den)):Fin (.tup [.str a',.str b',.bool (.a (D.b x))]) (.tup [.str a,.str b,.bool (.a t)]) [] []:=by
 subst hD;simp only[Prod.mk.injEq]at h;obtain⟨rfl,rfl,rfl⟩:=h;exact D6 (LeV.refl _)
theorem Amp:Ay Tryz.prog gl 169 spCut:=by
 refine Bq (gh:=[]) mixed B4 (Ab Aig Ai) Tryz.func169 (by kernel_rfl) (by kernel_rfl) ?_;intro xs ls K h;unfold spCut at h;obtain⟨s,c,rfl,rfl,hl,h⟩:=h;obtain⟨k,hk⟩:∃k,k=Am c s:=⟨_,rfl⟩;obtain⟨ka,kb,kt⟩:=k;refine⟨_,_,h ka kb kt hk,λD hD=>?_⟩;clear h;cbv;refine⟨s,c,rfl,rfl,λr hr=>?_⟩;cbv;refine br hD (λh=>?_) (λh=>?_)<;>cbv
 ·have h0:0<=r:=of_decide_eq_true (p:=0<=r) h
  have hy:(Am c s).2.2=true:=by
   cases hb:(Am c s).2.2 with
   |true=>rfl
   |false=>rw[(Sh hb).2.2]at hr;omega
  obtain⟨y1,y2,y3,y4⟩:=Jq hy;rw[<-hk]at y1 y2 y3 y4 hy;simp only at y1 y2 y3 y4 hy;rw[<-hr]at y1;have hk':(ka,kb,kt)=(ka,kb,true):=by rw[hy]
  clear hk hy h h0 hr;have yr:ST.den (.a r)=((ka.length:Nat):Int):=y1;have yr2:ST.den (.bin .add .i64 (.a r) (.len [c]))=((ka.length+1:Nat):Int):=by
   show IntKind.i64.wrap (r+(([c]:List UInt8).length:Int))=_;rw[y1,List.length_singleton,A4 (by omega) (by omega)];omega
  refine⟨by subst hD;exact D9 (s:=s) (i:=0) (a:=.l 0) rfl yr (by omega) (by omega),λr1 hr1=>?_⟩;have hr1':r1=ka:=by
   have:=Hh (i:=0) (a:=.l 0) hD rfl yr hr1;rw[this];exact y2.symm
  clear hr1;cbv;refine⟨by subst hD;exact D9 (s:=s) (j:=s.length) (b:=.len s) yr2 rfl (by omega) (Nat.le_refl _),λr2 hr2=>?_⟩;have hr2':r2=kb:=by
   have:=Hh (j:=s.length) (b:=.len s) hD yr2 rfl hr2;rw[this,y3];exact List.take_of_length_le (by simp)
  clear hr2;cbv;refine Aeg (x:=.l true) hD ?_;rw[hk',hr1',hr2'];rfl
 ·have h0:¬0<=r:=of_decide_eq_false (p:=0<=r) h
  have hy:(Am c s).2.2=false:=by
   cases hb:(Am c s).2.2 with
   |false=>rfl
   |true=>rw[(Jq hb).1]at hr;omega
  obtain⟨y1,y2,y3⟩:=Sh hy;refine Aeg (x:=.l false) hD ?_;rw[hk];exact Prod.ext y1 (Prod.ext y2 hy)
theorem cut_ok:Ay Tryz.prog gl 119 spCut:=by
 refine Bq (gh:=[]) mixed B4 (Ab Amp Ai) Tryz.func119 (by kernel_rfl) (by kernel_rfl) ?_;intro xs ls K h;unfold spCut at h;obtain⟨s,c,rfl,rfl,hl,h⟩:=h;obtain⟨k,hk⟩:∃k,k=Am c s:=⟨_,rfl⟩;obtain⟨ka,kb,kt⟩:=k;refine⟨_,_,h ka kb kt hk,λD hD=>?_⟩;clear h;cbv;refine⟨s,c,rfl,rfl,hl,λa b t he=>?_⟩;cbv;exact Aeg hD (by rw[hk,<-he];rfl)
set_option maxRecDepth 100000
set_option maxHeartbeats 8000000
def Hp(c:Nat):Int :=
 if (48<=c/\c<=57)\/(65<=c/\c<=90)\/(97<=c/\c<=122)\/c=45\/c=46\/c=95\/c=126 then 1
 else if c=33\/c=36\/(38<=c/\c<=44)\/c=47\/c=58\/c=59\/c=61\/c=64 then 2 else 0
def spIdxB:FSpec:=λ_ xs ls K=>∃(s:List UInt8) (c:Int),xs=[.str s,.int .u8 (.a c)]/\ls=[]/\(0<=c/\c<=255)/\∀r,r=Lib.indexByte s (UInt8.ofNat c.toNat)->K (.int .i64 (.a r)) []
end Go.Proofs.YtdoogdbjiijifaaGreatDoor
namespace Go.Sx
open Go Go.ChangeShapes Go.WideShapes Go.RowKit
def K7(W:World):Nat->Nat->Prop:=λb _=>b<W.heap.size
def ROL(I:Nat->Nat->Prop)(w:World)(cs:List SV)(vs:List Value):Prop:=cs.length=vs.length/\(∀(i:Nat) (s:SV) (v:Value),cs[i]?=some s->vs[i]?=some v->RO I w s v)/\∀v∈vs,v.oneCell'=true
theorem ROL.one{I:Nat->Nat->Prop}{w:World}{s:SV}{v:Value}(h:RO I w s v)(h1:v.oneCell'=true):ROL I w [s] [v] :=
 ⟨rfl,λi s' v' a b=>by cases i with|zero=>simp at a b;subst a b;exact h|succ i=>simp at a,by simpa using h1⟩
theorem ROL.nil{I:Nat->Nat->Prop}{w:World}:ROL I w [] []:=⟨rfl,by simp,by simp⟩
theorem ROL.app{I:Nat->Nat->Prop}{w:World}{cs cs':List SV}{vs vs':List Value}(h:ROL I w cs vs)(h':ROL I w cs' vs'):ROL I w (cs++cs') (vs++vs'):=by
 refine⟨by simp[h.1,h'.1],λi s v a b=>?_,λv hv=>?_⟩
 ·rw[List.getElem?_append]at a b
  rw[h.1]at a
  split at a
  ·rename_i hi
   rw[if_pos hi]at b;exact h.2.1 i s v a b
  ·rename_i hi
   rw[if_neg hi]at b;exact h'.2.1 _ s v a b
 ·rcases List.mem_append.1 hv with hv|hv
  ·exact h.2.2 v hv
  ·exact h'.2.2 v hv
section
variable {P:Program}
def Do(P:Program)(t:TypeId){α:Type}(enc:α->List SV):Prop :=
 ∀(H:Type) (tok:TypeId×Value->H) (W:World) (spare:Nat->Bool) (held:Bool) (fuel:Nat) (cs:List Value) (x:DataW H×List MemPlace),DataW.trod tok P W 0 spare held fuel t cs=some x->∃a,ROL (K7 W) W (enc a) cs
theorem Do.int{t:TypeId}{k:IntKind}(ht:P.underlying t=some (.int k)):Do P t (λn:Int=>[.int k (.a n)]):=by
 intro H tok W spare held fuel cs x h;obtain⟨n,rfl,_,_⟩:=DataW.trod_int ht h;exact⟨n,.one (.int rfl) rfl⟩
theorem Do.intB{t:TypeId}{k:IntKind}(ht:P.underlying t=some (.int k)):Do P t (λn:{n:Int // (Lit.int k n).wf=true}=>[.int k (.a n.1)]):=by
 intro H tok W spare held fuel cs x h;obtain⟨n,rfl,_,hw⟩:=DataW.trod_int ht h;exact⟨⟨n,hw⟩,.one (.int rfl) rfl⟩
theorem Do.bool{t:TypeId}(ht:P.underlying t=some .bool):Do P t (λb:Bool=>[.bool (.a b)]):=by
 intro H tok W spare held fuel cs x h;obtain⟨n,rfl,_⟩:=DataW.trod_bool ht h;exact⟨n,.one (.bool rfl) rfl⟩
theorem Do.str{t:TypeId}(ht:P.underlying t=some .string):Do P t (λs:{s:List UInt8 // s.length<=maxLen}=>[.str s.1]):=by
 intro H tok W spare held fuel cs x h;obtain⟨s,rfl,_,hs⟩:=DataW.trod_string ht h;exact⟨⟨s.data.toList,by simpa using hs⟩,.one (.str (by simp[bytes])) rfl⟩
theorem Do.map{t:TypeId}{α β:Type}{enc:α->List SV}{enc':β->List SV}(h:Do P t enc)(f:α->β)(hf:∀a,enc' (f a)=enc a):Do P t enc':=by
 intro H tok W spare held fuel cs x hx;obtain⟨a,ha⟩:=h H tok W spare held fuel cs x hx;exact⟨f a,by rw[hf];exact ha⟩
theorem Xv{W:World}{base:Nat}{a:Addr}{n:Nat}{cs:List Value}(h:W.cells? base a n=some cs):cs.length=n/\∀i,i<n->W.cell? (a.add i)=cs[i]?:=by
 unfold World.cells? at h
 split at h
 ·have h2:=mapM_some_get h
  have h1:cs.length=n:=by simpa using mapM_some_length h
  refine⟨h1,λi hi=>?_⟩;exact h2 i i (by simp[hi])
 ·cases h
theorem Si{W:World}{b o:Nat}{sp:Option Nat}{v:Value}(h:W.cell? ⟨b,o,sp⟩=some v):b<W.heap.size/\sp=none:=by
 unfold World.cell? at h
 split at h
 ·rename_i c _ _ hc
  split at h
  ·cases h
  ·rename_i hs
   exact⟨(Array.getElem?_eq_some_iff.1 hc).1,by cases sp<;>simp at hs ⊢⟩
 ·cases h
def Hk{α:Type}(enc:α->List SV)(l:List α)(i:Nat):List SV:=match l[i]? with
 |some a=>enc a
 |none=>[]
def slC{α:Type}(sz:Nat)(enc:α->List SV)(x:Bool×List α):List SV:=[.sl (.a x.1) (.a x.2.length) sz (Hk enc x.2)]
theorem Do.slice{t e:TypeId}{α:Type}{sz:Nat}{enc:α->List SV}(ht:P.underlying t=some (.slice e))(hz:P.cellsOf e=sz)(h0:0<sz)(he:Do P e enc):Do P t (λx:{x:Bool×List α // x.1=true->x.2=[]}=>slC sz enc x.1):=by
 intro H tok W spare held fuel cs x h;rcases DataW.trod_slice ht h with⟨rfl,_⟩|⟨a,len,cap,elems,rest,n,_,rfl,_,_,hle,hcap,hlen,hel,_,_⟩
 ·exact⟨⟨(true,[]),λ_=>rfl⟩,.one (.slnil rfl rfl) rfl⟩
 ·rw[hz]at hel
  have key:∀i,i<len->∃(al:α) (vs:List Value),ROL (K7 W) W (enc al) vs/\vs.length=sz/\∀j,j<sz->W.cell? ((a.add (i * sz)).add j)=vs[j]?:=by
   intro i hi;have h1:=hel i hi;rw[List.getElem?_eq_getElem (by omega)]at h1;cases hc:W.cells? 0 (a.add (i * sz)) sz with
   |none=>rw[hc]at h1;cases h1
   |some vs =>
    rw[hc]at h1;obtain⟨al,hal⟩:=he H tok W _ _ _ vs _ h1;have hg:=Xv hc;exact⟨al,vs,hal,hg.1,hg.2⟩
  have gen:∀len:Nat,(∀i,i<len->∃(al:α) (vs:List Value),ROL (K7 W) W (enc al) vs/\vs.length=sz/\∀j,j<sz->W.cell? ((a.add (i * sz)).add j)=vs[j]?)->∃(l:List α) (g:Nat->Nat->Value),l.length=len/\∀i al,l[i]?=some al->(enc al).length=sz/\(∀j,j<sz->W.cell? ((a.add (i * sz)).add j)=some (g i j)/\(g i j).oneCell'=true)/\∀j s,(enc al)[j]?=some s->RO (K7 W) W s (g i j):=by
   clear key hel hlen hcap hle h;intro len key
   induction len with
   |zero=>exact⟨[],λ_ _=>undef,rfl,by simp⟩
   |succ len ih =>
    obtain⟨l,g,hl,hg⟩:=ih (λi hi=>key i (by omega));obtain⟨al,vs,k1,k2,k3⟩:=key len (by omega);refine⟨l++[al],λi j=>if i=len then vs.getD j undef else g i j,by simp[hl],λi al' hi=>?_⟩;rw[List.getElem?_append]at hi
    split at hi
    ·rename_i hlt
     have hne:i≠len:=by omega
     obtain⟨g1,g2,g3⟩:=hg i al' hi;exact⟨g1,λj hj=>by simpa only[if_neg hne] using g2 j hj,λj s hs=>by simpa only[if_neg hne] using g3 j s hs⟩
    ·rename_i hlt
     have hil:i=len:=by
      have:=(List.getElem?_eq_some_iff.1 hi).1;simp at this;omega
     subst hil;have h00:i-l.length=0:=by omega
     rw[h00]at hi;simp at hi;subst hi;refine⟨by rw[k1.1,k2],λj hj=>?_,λj s hs=>?_⟩
     ·simp only[if_pos]
      have hjv:vs[j]?=some vs[j]:=List.getElem?_eq_getElem (by omega);rw[k3 j hj,hjv];simp only[List.getD_eq_getElem?_getD,hjv,Option.getD_some,true_and];exact k1.2.2 _ (List.getElem_mem _)
     ·simp only[if_pos]
      have hjl:j<vs.length:=by rw[<-k1.1];exact (List.getElem?_eq_some_iff.1 hs).1
      have hjv:vs[j]?=some vs[j]:=List.getElem?_eq_getElem hjl;simp only[List.getD_eq_getElem?_getD,hjv,Option.getD_some];exact k1.2.1 j s _ hs hjv
  obtain⟨l,g,hl,hg⟩:=gen len key;have hspot:0<len->a.spot=none:=λhpos=>by
   obtain⟨al,hal⟩:∃al,l[0]?=some al:=⟨_,List.getElem?_eq_getElem (by omega)⟩;obtain⟨_,g2,_⟩:=hg 0 al hal;have:=(g2 0 h0).1;obtain⟨b,o,sp⟩:=a;simp only[Nat.zero_mul,Addr.add,if_pos]at this;exact (Si this).2
  refine⟨⟨(false,l),λh=>by cases h⟩,.one (.sl g rfl (by simp[ST.den,hl]) hle hcap hspot (λi hi=>?_) (λi j hi hj=>?_) (λi j hi hj=>?_) (λi j s hi hs=>?_)) rfl⟩
  ·obtain⟨al,hal⟩:∃al,l[i]?=some al:=⟨_,List.getElem?_eq_getElem (by omega)⟩
   simp only[Hk,hal];exact (hg i al hal).1
  ·obtain⟨al,hal⟩:∃al,l[i]?=some al:=⟨_,List.getElem?_eq_getElem (by omega)⟩
   exact ((hg i al hal).2.1 j hj).2
  ·obtain⟨al,hal⟩:∃al,l[i]?=some al:=⟨_,List.getElem?_eq_getElem (by omega)⟩
   have hc:=((hg i al hal).2.1 j hj).1;have e:(a.add (i * sz)).add j=⟨a.block,a.off+(i * sz+j),none⟩:=by
    have hs:=hspot (by omega);obtain⟨b,o,sp⟩:=a;simp only at hs;subst hs;simp only[add_lit];congr 1;omega
   rw[e]at hc;exact⟨hc,(Si hc).1⟩
  ·obtain⟨al,hal⟩:∃al,l[i]?=some al:=⟨_,List.getElem?_eq_getElem (by omega)⟩
   simp only[Hk,hal]at hs;exact (hg i al hal).2.2 j s hs
def Ig(P:Program)(fs:List (Nat×TypeId))(o len:Nat){α:Type}(enc:α->List SV):Prop :=
 ∀(H:Type) (tok:TypeId×Value->H) (W:World) (spare:Nat->Bool) (held:Bool) (cs:List Value),cs.length=o+len->(∀p∈fs,∃fuel x,DataW.trod tok P W 0 spare held fuel p.2 ((cs.drop p.1).take (P.cellsOf p.2))=some x)->∃a,ROL (K7 W) W (enc a) (cs.drop o)
theorem Ig.nil{o:Nat}:Ig P [] o 0 (λ_:Unit=>[]):=by
 intro H tok W spare held cs hl _;rw[List.drop_of_length_le (by omega)];exact⟨(),.nil⟩
theorem Ig.cons{fs:List (Nat×TypeId)}(o n len:Nat){t:TypeId}{α β:Type}{enc:α->List SV}{enc':β->List SV}(hn:P.cellsOf t=n)(h:Do P t enc)(hs:Ig P fs (o+n) len enc'):Ig P ((o,t) :: fs) o (n+len) (λx:α×β=>enc x.1++enc' x.2):=by
 intro H tok W spare held cs hl hx;obtain⟨fuel,x,h1⟩:=hx (o,t) (List.mem_cons_self ..);simp only[hn]at h1;obtain⟨a,ha⟩:=h H tok W _ _ _ _ _ h1;obtain⟨b,hb⟩:=hs H tok W spare held cs (by omega) λp hp=>hx p (List.mem_cons_of_mem _ hp);refine⟨(a,b),?_⟩;have e:cs.drop o=(cs.drop o).take n++cs.drop (o+n):=by rw[<-List.drop_drop,List.take_append_drop]
 rw[e];exact ha.app hb
theorem Do.struct{t:TypeId}{fields:Array Field}{fs:List (Nat×TypeId)}{len:Nat}{α:Type}{enc:α->List SV}(ht:P.underlying t=some (.struct fields))(hfs:(fields.toList.map λf=>(f.offset,f.type))=fs)(hlen:P.cellsOf t=len)(h:Ig P fs 0 len enc):Do P t enc:=by
 intro H tok W spare held fuel cs x hx;obtain⟨xs,n,_,_,hl,hxl,hf⟩:=DataW.trod_struct ht hx;have:=h H tok W spare held cs (by omega) λp hp=>?_
 ·simpa using this
 ·rw[<-hfs,List.mem_map]at hp
  obtain⟨f,hf1,rfl⟩:=hp;obtain⟨i,hi,hfi⟩:=List.mem_iff_getElem.1 hf1;have hi':i<fields.size:=by simpa using hi
  have:=hf i f (by rw[<-hfi];simp[hi']);rw[List.getElem?_eq_getElem (by omega)]at this;exact⟨n,_,this⟩
theorem law_run{gl:List (Nat×SV)}{f:FuncId}{xas:List SV}{W:World}{args:List Value}(h:Fh P gl f xas [] (.bool (.a true)) [])
  (hgl:∀g s,look g gl=some s->RO (K7 W) W s (.pointer (some ⟨g,0,none⟩))/\g<W.heap.size/\Q8 W g s) (hl:xas.length=args.length) (hr:∀(i:Nat) (s:SV) (v:Value),xas[i]?=some s->args[i]?=some v->RO (K7 W) W s v):
  Calls P f ⟨args⟩ W λe W'=>e=.returned (.bool true)/\Below W.heap.size W W':=by
 refine (h ⟨W,λ_=>False,K7 W,λ_=>none,λ_=>none,λ_=>none,[]⟩ ⟨λ_=>none,λ_=>none,λ_=>none,λ_=>none,λ_=>none,K7 W⟩ W args rfl (λ_ _ h=>h) (λ_ h=>absurd h (by simp)) ⟨rfl,rfl,rfl,Nat.le_refl _,λ_ _ _=>rfl,λ_ _ h=>⟨h,rfl⟩,λ_ _ h=>h,λ_ _ h=>.inl h,λ_ _ h=>(by cases h),⟨λ_ _ h=>(by cases h),λ_ _ h=>(by cases h),λ_ _ h=>(by cases h)⟩⟩ (λg s h=>⟨(hgl g s h).1,(hgl g s h).2.1,λh=>h,(hgl g s h).2.2⟩) (λh=>?_) ⟨hl,λi s v a b=>.ro (hr i s v a b)⟩).mono λe W' hq=>?_
 ·simp only[Aq,nth]
  exact⟨rfl,rfl,rfl,rfl⟩
 ·obtain⟨v,E',rfl,hb,_,hv⟩:=hq
  rw[hv.bool_inv];exact⟨rfl,⟨hb.os,hb.tape,hb.output,hb.size,λk hk=>hb.old k hk (λh=>h)⟩⟩
section
variable {H:Type} {enc:TypeId×Value->H}
theorem Vp{f:Func}{s:ChangeSpec}{apart fresh handsOn again:Bool}{W W':World}{args:Array Value}{v:Value}{ds gs:List (DataW H)}{before pa pv:List MemPlace}
  (hW:DataW.Whole enc P f.params.toList s.vars apart W args.toList ds gs before)
  (hres:∀(b:Nat) (sp:Nat->Bool) (hd:Bool),DataW.TrodAll enc P W' b sp hd f.resultTypes.toList (v.resultList f.resultTypes.size) (s.fn H (ds++gs)).results [])
  (hargs:∀sp:Nat->Bool,(∀p∈before,sp p.block=true)->DataW.TrodAll enc P W' 0 sp true f.params.toList args.toList (s.fn H (ds++gs)).args pa)
  (hvars:∀sp:Nat->Bool,(∀p∈before,sp p.block=true)->DataW.TrodVars enc P W' sp s.vars (s.fn H (ds++gs)).vars pv)
  (hps:before=pa++pv) (hb:Below W.heap.size W W')
  (hok:∀(j:Nat) (t:TypeId) (r:Value),f.resultTypes[j]?=some t->(v.resultList f.resultTypes.size)[j]?=some r->Value.okWide P W' .any 0 t r):
  s.post enc P f apart fresh handsOn again W args v W':=by
 have hlt:∀p∈before,p.block<W.heap.size:=λp hp=>hW.lt p hp;have hold:∀p∈before,(λb=>decide (b<W.heap.size)) p.block=true:=λp hp=>by simpa using hlt p hp
 refine⟨ds,gs,before,[],pa,pv,hW,hres _ _ _,hargs _ hold,hvars _ hold,World.keptBut_mono (λp hp=>⟨hp,?_⟩) (hb.frame (·∈before)),λ_=>?_⟩
 ·rw[hps,List.mem_append]at hp
  exact Or.inr hp
 ·obtain⟨_,_,_,_,_,hz,hn⟩:=hW
  refine⟨hok,_,_,([]++pa)++pv,⟨[]++pa,pv,trodAll_append (hargs _ (λ_ _=>rfl)) (hres _ _ _),hvars _ (λ_ _=>rfl),rfl,?_,?_⟩,?_⟩
  ·intro b off hp
   have hin:MemPlace.cell b off∈before:=by rw[hps];simpa using hp
   rw[hb.frozen (hlt _ hin)];exact hz b off hin
  ·intro ha
   have:=hn ha;rw[hps]at this;simpa using this
  ·intro p hp _
   rw[hps];simpa using hp
theorem Mf(hl:laidOutB P=true){W W':World}{sp:Nat->Bool}(hb:Below W.heap.size W W'):∀ {ts:List TypeId} {vs:List Value} {ds:List (DataW H)} {ps:List MemPlace},(∀t∈ts,P.readableRec t=true/\t<P.types.size)->
  DataW.TrodAll enc P W 0 (λ_=>true) true ts vs ds ps->(∀p∈ps,p.block<W.heap.size)->(∀p∈ps,sp p.block=true)->DataW.TrodAll enc P W' 0 sp true ts vs ds ps
 | [],[],[],_,_,h,_,_=>h
 |t :: ts,v :: vs,d :: ds,ps,ht,h,hlt,hs=>by
  obtain⟨p,q,h1,h2,rfl⟩:=h;refine⟨p,q,WideElems.Trod_stays hl (ht t (List.mem_cons_self ..)).1 (ht t (List.mem_cons_self ..)).2 h1 (λx hx=>hb.same (hlt x (List.mem_append_left _ hx))) (λx hx=>hs x (List.mem_append_left _ hx)),?_,rfl⟩;exact Mf hl hb (λt h=>ht t (List.mem_cons_of_mem _ h)) h2 (λx hx=>hlt x (List.mem_append_right _ hx)) (λx hx=>hs x (List.mem_append_right _ hx))
 | [],_ :: _,_,_,_,h,_,_=>h.elim
 | [],[],_ :: _,_,_,h,_,_=>h.elim
 |_ :: _,[],_,_,_,h,_,_=>h.elim
 |_ :: _,_ :: _,[],_,_,h,_,_=>h.elim
theorem All(hl:laidOutB P=true){fn:Func}{s:ChangeSpec}{apart fresh handsOn again:Bool}{W W':World}{args:Array Value}{ds gs:List (DataW H)}{before:List MemPlace}{tb:TypeId}
  (hts:∀t∈fn.params.toList,P.readableRec t=true/\t<P.types.size) (hv:s.vars=[]) (hres:fn.resultTypes=#[tb]) (htb:P.underlying tb=some .bool)
  (hW:DataW.Whole enc P fn.params.toList s.vars apart W args.toList ds gs before) (hfn:(s.fn H (ds++gs))={ results:=[.lit (.bool true)],args:=ds }) (hb:Below W.heap.size W W'):
  s.post enc P fn apart fresh handsOn again W args (.bool true) W':=by
 have hW':=hW;obtain⟨p,q,hA,hV,rfl,hz,hn⟩:=hW;have hlt:∀x∈p++q,x.block<W.heap.size:=λx hx=>hW'.lt x hx;have hq:gs=[]/\q=[]:=by rw[hv]at hV;exact trodVars_none hV
 obtain⟨rfl,rfl⟩:=hq;refine Vp (pa:=p) (pv:=[]) hW' (λb sp hd=>?_) (λsp hs=>?_) (λsp hs=>?_) (by simp) hb (ok_one hres rfl (okWide_bool_mk htb _))
 ·rw[hfn,hres]
  exact trodAll_mk1 (shut_bool htb true)
 ·rw[hfn]
  exact Mf hl hb hts hA (λx hx=>hlt x (by simp[hx])) (λx hx=>hs x (by simp[hx]))
 ·rw[hfn,hv]
  rfl
end
theorem Agx{I:Nat->Nat->Prop}{W:World}{s:SV}{v:Value}(hn:∀a,v≠.agg a)(h:ROL I W [s] v.cells.toList):RO I W s v:=by
 cases v with
 |agg a=>exact absurd rfl (hn a)
 |_=>exact h.2.1 0 s _ rfl (by simp[Value.cells])
theorem Ajd{I:Nat->Nat->Prop}{W:World}{r:Reach}{base:Nat}{t e:TypeId}{s:SV}{v:Value}(ht:P.underlying t=some (.slice e))(hv:Value.okWide P W r base t v)(h:ROL I W [s] v.cells.toList):RO I W s v:=by
 obtain⟨a,len,cap,rfl⟩:=okWide_slice ht hv;exact Agx (λ_ h=>by cases h) h
theorem Aet{I:Nat->Nat->Prop}{W:World}{r:Reach}{base:Nat}{t:TypeId}{s:SV}{v:Value}(ht:P.underlying t=some .string)(hv:Value.okWide P W r base t v)(h:ROL I W [s] v.cells.toList):RO I W s v:=by
 obtain⟨n,rfl⟩:=okWide_string ht hv;exact Agx (λ_ h=>by cases h) h
theorem Aes{I:Nat->Nat->Prop}{W:World}{r:Reach}{base:Nat}{t:TypeId}{fs:Array Field}{cs:List SV}{v:Value}(ht:P.underlying t=some (.struct fs))(hv:Value.okWide P W r base t v)(h:ROL I W cs v.cells.toList):RO I W (.agg cs) v:=by
 obtain⟨a,rfl,_⟩:=okWide_struct ht hv;exact .agg (vs:=a.toList) h.1 h.2.1
end
end Go.Sx
namespace Go.Proofs.YtdoogdbjiijifaaGreatDoor
open Go Go.Sx Go.RowKit Go.Sort
set_option maxHeartbeats 2000000
theorem idxB_ok:Ay Tryz.prog [] 239 spIdxB:=by
 refine⟨⟨Tryz.f239,_,Tryz.func239,rfl,by kernel_rfl⟩,λxs ls K h=>?_⟩;obtain⟨s,c,rfl,rfl,hc,h⟩:=h;refine⟨_,_,h _ rfl,Bx λE B w vals _ _ _ hr=>?_⟩;obtain⟨v,u,rfl,hv,hu⟩:=Eg hr;rw[Dj hv,Afn hu];refine (Ky ⟨s.toArray⟩ c w).mono ?_;rintro e w' ⟨rfl,rfl⟩;exact⟨_,rfl,λE=>.ro (.int rfl),Below.refl _ _⟩
def spCutSuf:FSpec:=λ_ xs ls K=>∃(s p:List UInt8),xs=[.str s,.str p]/\ls=[]/\s.length<=9223372036854775807/\∀r b,r=Lib.trimSuffix s p->b=Lib.hasSuffix s p->K (.tup [.str r,.bool (.a b)]) []
theorem Xr:Ay Tryz.prog gl 54 spCutSuf:=by
 refine⟨⟨Tryz.f54,_,Tryz.func54,rfl,by kernel_rfl⟩,λxs ls K h=>?_⟩;obtain⟨s,p,rfl,rfl,hs,h⟩:=h;refine⟨_,_,h _ _ rfl rfl,Bx λE B w vals _ _ _ hr=>?_⟩;obtain⟨v,u,rfl,hv,hu⟩:=Eg hr;rw[Dj hv,Dj hu];refine (Kz ⟨s.toArray⟩ ⟨p.toArray⟩ w (by simpa[ByteArray.size] using hs)).mono ?_;rintro e w' ⟨rfl,rfl⟩;refine⟨_,rfl,λE=>?_,Below.refl _ _⟩;refine .tup rfl λi x y a b=>?_
 match i,a,b with
 |0,a,b=>cases a;cases b;exact .ro (.str rfl)
 |1,a,b=>cases a;cases b;exact .ro (.bool rfl)
def spCont1:FSpec:=λ_ xs ls K=>∃(s:List UInt8) (c:UInt8),xs=[.str s,.str [c]]/\ls=[]/\∀r,r=decide (0<=Lib.indexByte s c)->K (.bool (.a r)) []
theorem Amr:Ay Tryz.prog gl 118 spCont1:=by
 refine⟨⟨Tryz.f118,_,Tryz.func118,rfl,by kernel_rfl⟩,λxs ls K h=>?_⟩;obtain⟨s,c,rfl,rfl,h⟩:=h;refine⟨_,_,h _ rfl,Bx λE B w vals _ _ _ hr=>?_⟩;obtain⟨v,u,rfl,hv,hu⟩:=Eg hr;rw[Dj hv,Dj hu];refine (I5 ⟨s.toArray⟩ c w).mono ?_;rintro e w' ⟨rfl,rfl⟩;exact⟨_,rfl,λE=>.ro (.bool rfl),Below.refl _ _⟩
theorem kPow:Tryz.prog.globalNamed "internal/strconv.uint64pow10"=some 4:=by kernel_rfl
theorem kErrR:Tryz.prog.globalNamed "strconv.ErrRange"=some 3:=by kernel_rfl
def fair{α:Type}:Lib.NumEnd α->Bool
 |.ok _=>true
 |.range=>true
 |_=>false
def Aht(s:List UInt8):Int×Bool:=match Lib.parseIntB 64 s with
 |.ok v=>(v,true)
 |.range=>(Lib.intSat 64 s,false)
 |_=>(0,false)
structure IntS(s:List UInt8)(b z:Int):Prop where
 b:b=10
 z:z=64
 len:s.length<=100000
 ok:fair (Lib.parseIntB 64 s)=true
end Go.Proofs.YtdoogdbjiijifaaGreatDoor
namespace Go.Sx
open Go Go.ChangeShapes Go.WideShapes Go.RowKit
section
variable {P:Program}
end
end Go.Sx
namespace Go.Proofs.YtdoogdbjiijifaaGreatDoor
open Go Go.Sx Go.ChangeShapes Go.WideShapes Go.RowKit
theorem kOwn:ownKnob Tryz.prog.godebug=none:=by kernel_rfl
theorem Aln:laidOutB Tryz.prog=true:=by kernel_rfl
abbrev Ml:List (String×DataW Unit):=[("math/bits.deBruijn32tab",Rows.laid_math_bits_deBruijn32tab),("math/bits.deBruijn64tab",Rows.laid_math_bits_deBruijn64tab),("internal/strconv.uint64pow10",Rows.laid_internal_strconv_uint64pow10),("unicode/utf8.acceptRanges",Rows.laid_unicode_utf8_acceptRanges),("strconv.ErrRange",Rows.laid_strconv_ErrRange),("strconv.ErrSyntax",Rows.laid_strconv_ErrSyntax),("unicode.CaseRanges",Rows.laid_unicode_CaseRanges),("unicode/utf8.first",Rows.laid_unicode_utf8_first)]
theorem Aiy(os:Os):(World.holding Tryz.prog os ⟨#[],#[],[]⟩).layFits Tryz.prog Ml []=true:=by kernel_rfl
theorem Ab3(os:Os):(World.holding Tryz.prog os ⟨#[],#[],[]⟩).layIfaces Tryz.prog Ml (World.laidAll Tryz.prog os Ml)=true:=by kernel_rfl
theorem Amm(os:Os)(args:Array Value):laidMetH Tryz.prog Ml ((World.laidAll Tryz.prog os Ml).forCall (λ_ _=>0) ⟨#[],args,[]⟩).memory:=by
 rw[MakeChecks.laidMetH_plain _ _ _ (by kernel_rfl)];exact laidMet_laidAll _ (Aiy os) (Ab3 os)
theorem kPowT:(Tryz.prog.globals[4]?).map (·.type)=some 284:=by kernel_rfl
theorem kPowU:Tryz.prog.underlying 284=some (.array 20 249):=by kernel_rfl
theorem kPowE:Tryz.prog.underlying 249=some (.int .u64):=by kernel_rfl
theorem kPowC:Tryz.prog.cellsOf 249=1:=by kernel_rfl
theorem kPowD:Tryz.prog.cellsOf 284=20:=by kernel_rfl
theorem kC9:Tryz.prog.cellsOf 9=1:=by kernel_rfl
theorem kErrT:(Tryz.prog.globals[3]?).map (·.type)=some 157:=by kernel_rfl
theorem kC305:Tryz.prog.cellsOf 305=1:=by kernel_rfl
theorem kStar:"*"++"errors.errorString"="*errors.errorString":=by decide
theorem kRow303(u:TypeId)(h:Tryz.prog.typeName? 3 u=some "*errors.errorString"):u=303 :=
 typeName_ptr_named (nm:="errors.errorString") (by rw[kStar];kernel_rfl) (by kernel_rfl) (by decide) u (by rw[kStar];exact h)
theorem gl_of{W:World}(h:laidMetH Tryz.prog Ml W):∀g s,Sx.look g gl=some s->RO (K7 W) W s (.pointer (some ⟨g,0,none⟩))/\g<W.heap.size/\Q8 W g s:=by
 rw[MakeChecks.laidMetH_plain _ _ _ (by kernel_rfl)]at h;have ht:Lib.TabIs Tryz.prog W "internal/strconv.uint64pow10" .u64 Lib.pow10Tab :=
  Lib.tabIs_of_head kPow kPowT kPowU kPowE kPowC kPowD (h.tail.tail)
 obtain⟨ea,es,he1,_,_,_⟩:=laid_sentinel h.tail.tail.tail.tail kErrR kErrT Tryz.underlying157 kRow303 Tryz.underlying303 Tryz.underlying305 rfl rfl Tryz.underlying9 kC305 kC9;intro g s hs;simp only[Sx.look,gl]at hs
 split at hs
 ·rename_i e
  have e:3=g:=by simpa using e
  subst e;cases hs;unfold World.var? at he1;rw[kErrR]at he1;simp only[Option.bind_some]at he1
  split at he1
  ·rename_i cs t fr hc
   have hcs:=Option.some.inj he1;subst hcs;have hlt:3<W.heap.size:=(Array.getElem?_eq_some_iff.1 hc).1;refine⟨.rarr (λ_ _=>.iface 303 (.pointer (some ea))) rfl (λi _=>rfl) (λi j _ _=>rfl) (λi j hi hj=>⟨?_,hlt⟩) (λi j s hi hs=>?_),hlt,_,t,fr,hc,rfl⟩
   ·obtain rfl:i=0:=by omega
    obtain rfl:j=0:=by omega
    simp[World.cell?,hc]
   ·match j,hs with
    |0,hs =>
     have hs:some (SV.ifc (.l false))=some s:=hs;cases hs;exact .ifc (.inr ⟨⟨_,_,rfl⟩,rfl⟩)
    |_+1,hs=>simp[Amh]at hs
  ·cases he1
 split at hs
 ·rename_i e
  have e:4=g:=by simpa using e
  subst e;cases hs;have ht2:=ht;unfold Lib.TabIs World.var? at ht2;rw[kPow]at ht2;simp only[Option.bind_some]at ht2
  split at ht2
  ·rename_i cs t fr hc
   have hlt:4<W.heap.size:=(Array.getElem?_eq_some_iff.1 hc).1;have hsz:cs.size=20 * 1:=by
    rw[Option.some.inj ht2];simp[Lib.pow10Tab_length]
   refine⟨.rarr (λi _=>.int .u64 (Lib.pow10Tab.getD i 0)) rfl (λi _=>rfl) (λi j _ _=>rfl) (λi j hi hj=>⟨?_,hlt⟩) (λi j s hi hs=>?_),hlt,cs,t,fr,hc,hsz⟩
   ·have:=ht.cell kPow i (by rw[Lib.pow10Tab_length];exact hi)
    have e:0+(i * 1+j)=i:=by omega
    show W.cell? ⟨4,0+(i * 1+j),none⟩=_;rw[e];exact this
   ·match j,hs with
    |0,hs =>
     have hs:some (SV.int .u64 (.a (Lib.pow10Tab.getD i 0)))=some s:=hs;cases hs;exact .int rfl
    |_+1,hs=>simp[Akp]at hs
  ·cases ht2
 ·cases hs
end Go.Proofs.YtdoogdbjiijifaaGreatDoor
