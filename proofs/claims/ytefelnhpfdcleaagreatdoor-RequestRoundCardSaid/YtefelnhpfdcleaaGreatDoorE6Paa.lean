/- Part of the proofs of the statements about requests (layer 7): a symbolic executor over the code, that it is sound, and contracts of functions; it has no conditions of its own. -/
import Derived.Test.YtefelnhpfdcleaaGreatDoorSzPat
import Derived.Test.YtefelnhpfdcleaaGreatDoorSzPao
namespace Go.Sx
set_option maxRecDepth 10000
open Go
def shareSp (sp : FSpec) : FSpec:=fun D xs ls K=>∃ (nl : BT) (n n0 : ST) (sz : Nat) (gr : Bool) (ty : TypeId) (f : Nat→List SV),xs = [.osl nl n 0]∧ls = [.own ty n0 sz gr f]∧n.den = n0.den∧sp D [.sl nl n sz f] [] fun r _ls'=>Ap r = true∧K r [.gone]
theorem Aga {P : Program} {gl : List (Nat×SV)} {f : FuncId} {sp : FSpec} (h : Ar P gl f sp) : Ar P gl f (shareSp sp):=by
 refine ⟨h.1,fun as ls K hs=>?_⟩
 obtain ⟨nl,n,n0,sz,gr,ty,g,rfl,rfl,hn,hs⟩:=hs
 obtain ⟨r,ls',⟨hp,hk⟩,hc⟩:=h.2 _ _ _ hs
 refine ⟨r,[.gone],hk,?_⟩
 intro B E w vals hw0 hI hdom hb hg hh hr
 have hk0:=hh 0
 simp only [Aq,nth] at hk0
 obtain ⟨v,m,xs,k1,kz,k2,k3,k4,k5,k6⟩:=hk0
 let I1 : Nat→Nat→Prop:=fun b o=>E.I b o∨(v.ownBlock = some b∧o < m * sz)
 let E1 : Env:=⟨fun _=>none,fun _=>none,fun _=>none,fun _=>none,fun _=>none,I1⟩
 let B1 : Bs:=⟨B.w0,B.X,I1,fun _=>none,fun _=>none,fun _=>none,B.dl⟩
 have hb1 : Cm B1 E1 w:=by
  refine ⟨hb.os,hb.tape,hb.output,hb.size,hb.old,fun b o hi=>⟨hi,by show w.cell? _ = B.w0.cell? _; rw [hw0]⟩,fun b o hi=>?_,fun b o hi=>.inl hi,fun b h ho=>(nomatch ho),⟨fun _ _ h=>(nomatch h),fun _ _ h=>(nomatch h),fun _ _ h=>(nomatch h)⟩⟩
  rcases hi with hi | ⟨hi,_⟩
  ·exact hb.Ibd b o hi
  ·exact Bb hb (k6 b hi).1
 have hg1 : Fp B1 gl:=by
  intro q s hq
  obtain ⟨g1,g2,g3,g4⟩:=hg q s hq
  exact ⟨g1.mono (fun b o hi=>.inl (hb.I0 b o hi).1) (fun _ _ _=>rfl),g2,g3,g4⟩
 obtain ⟨u,hu⟩ : ∃ u,vals = [u]:=by
  have:=hr.1
  match vals,this with
  | [u],_=>exact ⟨u,rfl⟩
 subst hu
 have hr1 : A2 E1 w [.sl nl n sz g] [u]:=by
  refine A2.cons (.ro ?_) A2.nil
  exact Alg (hr.2 0 _ _ rfl rfl) k1 k2 k3 hn k4 k5
 refine (hc B1 E1 w [u] hw0 (fun _ _ h=>h) (fun h hq=>by rcases hq with hq | hq | hq<;>exact absurd rfl hq) hb1 hg1 (fun h=>⟨rfl,rfl,rfl,rfl⟩) hr1).mono fun e w' hq=>?_
 obtain ⟨v1,E',e1,e2,_,e4⟩:=hq
 refine ⟨v1,⟨E.β,E.τ,E.O,E.κ,E.ζ,E'.I⟩,e1,⟨e2.os,e2.tape,e2.output,e2.size,e2.old,fun b o hi=>e2.I0 b o (.inl (hb.I0 b o hi).1),e2.Ibd,fun b o hi=>?_,fun b h ho=>⟨Nat.lt_of_lt_of_le (hb.Obd b h ho).1 (by rw [←hw0]; exact e2.size),(hb.Obd b h ho).2⟩,⟨hb.β0.β,hb.β0.τ,hb.β0.ζ⟩⟩,fun h hlt=>?_,e4.plain rfl hp⟩
 ·rcases e2.Inew b o hi with (hi | ⟨hi,_⟩) | hi
  ·exact hb.Inew b o hi
  ·exact .inr (hb.Obd b 0 (k6 b hi).1).2
  ·exact .inr hi
 ·match h,hlt with
  | 0,_=>trivial
end Go.Sx
