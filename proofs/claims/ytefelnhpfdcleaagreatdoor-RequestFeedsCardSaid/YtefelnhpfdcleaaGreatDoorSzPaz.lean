/- Part of the proofs of the statements about requests (layer 7): a symbolic executor over the code, that it is sound, and contracts of functions; it has no conditions of its own. -/
import Derived.Shelf.Bytes.SlIndexAt
import Derived.Test.YtefelnhpfdcleaaGreatDoorCards
import Derived.Test.YtefelnhpfdcleaaGreatDoorTie
import Derived.LaidLaws
import Derived.LaidHandle
import Derived.LaidMore
import Derived.Lay
import Derived.Stop.Joined
import Derived.Stop.LaidErr
import Derived.Lib.SmallJoins
import Derived.Laws.RangeString
import Derived.Laws.RangeAny
import Derived.Test.YtefelnhpfdcleaaGreatDoorSzPay
import Derived.Test.YtefelnhpfdcleaaGreatDoorSzPau
namespace Go.Proofs.YtefelnhpfdcleaaGreatDoor
open Go Go.Sx Go.RowKit Go.Sort
set_option maxRecDepth 100000
set_option maxHeartbeats 2000000
theorem Ae9 {E : Env} {w : World} {a b c : SV} {vals : List Value} (h : A2 E w [a,b,c] vals) : ∃ v u t,vals = [v,u,t]∧Rel E w a v∧Rel E w b u∧Rel E w c t:=by
 match vals,h with
 | [v,u,t],h=>exact ⟨v,u,t,rfl,h.2 0 a v rfl rfl,h.2 1 b u rfl rfl,h.2 2 c t rfl rfl⟩
 | [],h=>exact absurd h.1 (by simp)
 | [_],h=>exact absurd h.1 (by simp)
 | [_,_],h=>exact absurd h.1 (by simp)
 | _ :: _ :: _ :: _ :: _,h=>exact absurd h.1 (by simp)
theorem idxB_ok : Ar Tryz.prog [] 105 spIdxB:=by
 refine ⟨⟨Tryz.f105,_,Tryz.func105,rfl,by kernel_rfl⟩,fun xs ls K h=>?_⟩
 obtain ⟨s,c,rfl,rfl,hc,h⟩:=h
 refine ⟨_,_,h _ rfl,Bt fun E B w vals _ _ _ hr=>?_⟩
 obtain ⟨v,u,rfl,hv,hu⟩:=Ek hr
 rw [D0 hv,K1 hu]
 refine (L9 ⟨s.toArray⟩ c w).mono ?_
 rintro e w' ⟨rfl,rfl⟩
 exact ⟨_,rfl,fun E=>.ro (.int rfl),Below.refl _ _⟩
def spHasPre : FSpec:=fun _ xs ls K=>∃ (s p : List UInt8),xs = [.str s,.str p]∧ls = []∧∀ r,r = Lib.hasPrefix s p→K (.bool (.a r)) []
theorem Zn : Ar Tryz.prog gl 71 spHasPre:=by
 refine ⟨⟨Tryz.f71,_,Tryz.func71,rfl,by kernel_rfl⟩,fun xs ls K h=>?_⟩
 obtain ⟨s,p,rfl,rfl,h⟩:=h
 refine ⟨_,_,h _ rfl,Bt fun E B w vals _ _ _ hr=>?_⟩
 obtain ⟨v,u,rfl,hv,hu⟩:=Ek hr
 rw [D0 hv,D0 hu]
 refine (Ma ⟨s.toArray⟩ ⟨p.toArray⟩ w).mono ?_
 rintro e w' ⟨rfl,rfl⟩
 exact ⟨_,rfl,fun E=>.ro (.bool rfl),Below.refl _ _⟩
def spCutSuf : FSpec:=fun _ xs ls K=>∃ (s p : List UInt8),xs = [.str s,.str p]∧ls = []∧s.length≤9223372036854775807∧∀ r b,r = Lib.trimSuffix s p→b = Lib.hasSuffix s p→K (.tup [.str r,.bool (.a b)]) []
theorem Z0 : Ar Tryz.prog gl 90 spCutSuf:=by
 refine ⟨⟨Tryz.f90,_,Tryz.func90,rfl,by kernel_rfl⟩,fun xs ls K h=>?_⟩
 obtain ⟨s,p,rfl,rfl,hs,h⟩:=h
 refine ⟨_,_,h _ _ rfl rfl,Bt fun E B w vals _ _ _ hr=>?_⟩
 obtain ⟨v,u,rfl,hv,hu⟩:=Ek hr
 rw [D0 hv,D0 hu]
 refine (Mb ⟨s.toArray⟩ ⟨p.toArray⟩ w (by simpa [ByteArray.size] using hs)).mono ?_
 rintro e w' ⟨rfl,rfl⟩
 refine ⟨_,rfl,fun E=>?_,Below.refl _ _⟩
 refine .tup rfl fun i x y a b=>?_
 match i,a,b with
 | 0,a,b=>cases a; cases b; exact .ro (.str rfl)
 | 1,a,b=>cases a; cases b; exact .ro (.bool rfl)
def spCont1 : FSpec:=fun _ xs ls K=>∃ (s : List UInt8) (c : UInt8),xs = [.str s,.str [c]]∧ls = []∧∀ r,r = decide (0≤Lib.indexByte s c)→K (.bool (.a r)) []
theorem Ad5 : Ar Tryz.prog gl 91 spCont1:=by
 refine ⟨⟨Tryz.f91,_,Tryz.func91,rfl,by kernel_rfl⟩,fun xs ls K h=>?_⟩
 obtain ⟨s,c,rfl,rfl,h⟩:=h
 refine ⟨_,_,h _ rfl,Bt fun E B w vals _ _ _ hr=>?_⟩
 obtain ⟨v,u,rfl,hv,hu⟩:=Ek hr
 rw [D0 hv,D0 hu]
 refine (Jx ⟨s.toArray⟩ c w).mono ?_
 rintro e w' ⟨rfl,rfl⟩
 exact ⟨_,rfl,fun E=>.ro (.bool rfl),Below.refl _ _⟩
theorem kPow : Tryz.prog.globalNamed "internal/strconv.uint64pow10" = some 6:=by kernel_rfl
theorem Alz : Tryz.prog.globalNamed "strconv.ErrRange" = some 5:=by kernel_rfl
theorem Ako {B : Bs} (hg : Fp B gl) : Lib.TabIs Tryz.prog B.w0 "internal/strconv.uint64pow10" .u64 Lib.pow10Tab:=by
 obtain ⟨h1,h2,h3,C,t,fr,h4,h5⟩:=hg 6 (.rarr 20 1 Afg) rfl
 unfold Lib.TabIs World.var?
 rw [kPow]
 simp only [Option.bind_some,h4,Option.some.injEq]
 generalize hp : Value.pointer (some ⟨6,0,none⟩) = p at h1
 cases h1 with
 | rarr g hs hl h1 hcell hrel =>
  cases hp
  refine Array.ext (by rw [h5]; simp [Lib.pow10Tab_length]) fun i hi hi'=>?_
  rw [h5] at hi
  have hc:=(hcell i 0 (by omega) (by omega)).1
  have hr:=hrel i 0 (.int .u64 (.a (Lib.pow10Tab.getD i 0))) (by omega) rfl
  have e : C[i]? = some (g i 0):=by
   rw [←hc]
   simp [World.cell?,h4]
  rw [Array.getElem?_eq_getElem (by omega)] at e
  have e2 : g i 0 = .int .u64 (Lib.pow10Tab.getD i 0):=by
   generalize g i 0 = v at hr
   cases hr with
   | int h=>rw [←h]; rfl
  rw [e2] at e
  rw [Option.some.inj e]
  have hi20 : i < Lib.pow10Tab.length:=by rw [Lib.pow10Tab_length]; omega
  simp [List.getD_eq_getElem?_getD,List.getElem?_eq_getElem hi20]
theorem err_of {B : Bs} (hg : Fp B gl) : ∃ tp p,B.w0.var? Tryz.prog "strconv.ErrRange" = some #[.iface tp p]:=by
 obtain ⟨h1,h2,h3,C,t,fr,h4,h5⟩:=hg 5 (.rarr 1 1 Agd) rfl
 unfold World.var?
 rw [Alz]
 simp only [Option.bind_some,h4,Option.some.injEq]
 generalize hp : Value.pointer (some ⟨5,0,none⟩) = p at h1
 cases h1 with
 | rarr g hs hl h1 hcell hrel =>
  cases hp
  have hc:=(hcell 0 0 (by omega) (by omega)).1
  have hr:=hrel 0 0 (.ifc (.l false)) (by omega) rfl
  have e : C[0]? = some (g 0 0):=by
   rw [←hc]
   simp [World.cell?,h4]
  cases hr with
  | ifc h =>
   rcases h with ⟨_,h⟩ | ⟨⟨tp,q,h⟩,_⟩
   ·cases h
   ·rw [h] at e
    refine ⟨tp,q,?_⟩
    refine Array.ext (by rw [h5]; rfl) fun i hi hi'=>?_
    have : i = 0:=by rw [h5] at hi; omega
    subst this
    rw [Array.getElem?_eq_getElem (by omega)] at e
    exact Option.some.inj e
def spItoa : FSpec:=fun _ xs ls K=>∃ (n : Int),xs = [.int .i64 (.a n)]∧ls = []∧-9223372036854775808≤n∧n≤9223372036854775807∧∀ r,r = Lib.itoa n→K (.str r) []
theorem Xh {w : World} {k : Nat} {os : Array Obj} : Below w.heap.size w (grow (w.drewN k) os):=by
 refine ⟨rfl,rfl,rfl,?_,fun j hj=>?_⟩
 ·simp [grow,World.drewN]
 ·show (w.heap ++ os)[j]? = w.heap[j]?
  rw [Array.getElem?_append_left hj]
theorem itoa_ok : Ar Tryz.prog gl 140 spItoa:=by
 refine ⟨⟨Tryz.f140,_,Tryz.func140,rfl,by kernel_rfl⟩,fun xs ls K h=>?_⟩
 obtain ⟨n,rfl,rfl,h0,h1,h⟩:=h
 refine ⟨_,_,h _ rfl,Bt fun E B w vals hg hb hw hr=>?_⟩
 obtain ⟨v,rfl,hv⟩:=Aci hr
 rw [K1 hv]
 refine (Ts n h0 h1 w (by rw [←hw]; exact Ako hg)).mono ?_
 rintro e w' ⟨rfl,k,os,rfl⟩
 exact ⟨_,rfl,fun E=>.ro (.str rfl),Xh⟩
def spFmt : FSpec:=fun _ xs ls K=>∃ (n b : Int),xs = [.int .i64 (.a n),.int .i64 (.a b)]∧ls = []∧-9223372036854775808≤n∧n≤9223372036854775807∧b = 10∧∀ r,r = Lib.itoa n→K (.str r) []
theorem fmt_ok : Ar Tryz.prog gl 139 spFmt:=by
 refine ⟨⟨Tryz.f139,_,Tryz.func139,rfl,by kernel_rfl⟩,fun xs ls K h=>?_⟩
 obtain ⟨n,b,rfl,rfl,h0,h1,rfl,h⟩:=h
 refine ⟨_,_,h _ rfl,Bt fun E B w vals hg hb hw hr=>?_⟩
 obtain ⟨v,u,rfl,hv,hu⟩:=Ek hr
 rw [K1 hv,K1 hu]
 refine (Jy n h0 h1 w (by rw [←hw]; exact Ako hg)).mono ?_
 rintro e w' ⟨rfl,k,os,rfl⟩
 exact ⟨_,rfl,fun E=>.ro (.str rfl),Xh⟩
def Adp {α : Type} : Lib.NumEnd α→Bool
 | .ok _=>true
 | .range=>true
 | _=>false
def Mk (s : List UInt8) : Int×Bool:=match Lib.parseIntB 64 s with
 | .ok v=>(v,true)
 | .range=>(Lib.intSat 64 s,false)
 | _=>(0,false)
structure IntS (s : List UInt8) (b z : Int) : Prop where
 b : b = 10
 z : z = 64
 len : s.length≤100000
 ok : Adp (Lib.parseIntB 64 s) = true
def spPInt : FSpec:=fun _ xs ls K=>∃ (s : List UInt8) (b z : Int),xs = [.str s,.int .i64 (.a b),.int .i64 (.a z)]∧ls = []∧IntS s b z∧∀ v e,(v,e) = Mk s→K (.tup [.int .i64 (.a v),.ifc (.a e)]) []
theorem pInt_ok : Ar Tryz.prog gl 126 spPInt:=by
 refine ⟨⟨Tryz.f126,_,Tryz.func126,rfl,by kernel_rfl⟩,fun xs ls K h=>?_⟩
 obtain ⟨s,b,z,rfl,rfl,I,h⟩:=h
 obtain ⟨rfl,rfl,hl,hok⟩:=I
 refine ⟨_,_,h (Mk s).1 (Mk s).2 rfl,Bt fun E B w vals hg hb hw hr=>?_⟩
 obtain ⟨v,u,t,rfl,hv,hu,ht⟩:=Ae9 hr
 rw [D0 hv,K1 hu,K1 ht]
 rcases hp : Lib.parseIntB 64 s with x | _ | _
 ·skip
  have e : Mk s = (x,true):=by rw [Mk,hp]
  rw [e]
  refine (Gj ⟨s.toArray⟩ (by simp [ByteArray.size]; omega) x hp w).mono ?_
  rintro e w' ⟨rfl,hw'⟩
  refine ⟨_,rfl,fun E=>?_,?_⟩
  ·refine .tup rfl fun i x y a b=>?_
   match i,a,b with
   | 0,a,b=>cases a; cases b; exact .ro (.int rfl)
   | 1,a,b=>cases a; cases b; exact .ro (.ifc (.inl ⟨rfl,rfl⟩))
  ·rcases hw' with rfl | ⟨t,rfl⟩
   ·exact Below.refl _ _
   ·exact Lib.bytesWorld_below _ _ _
 ·rw [hp] at hok
  cases hok
 ·skip
  have e : Mk s = (Lib.intSat 64 s,false):=by rw [Mk,hp]
  rw [e]
  obtain ⟨tp,p,hvar⟩:=err_of hg
  rw [hw] at hvar
  refine (Et ⟨s.toArray⟩ (by simp [ByteArray.size]; omega) hp tp p w hvar).mono ?_
  rintro e w' ⟨N,rfl,_,_,hB⟩
  refine ⟨_,rfl,fun E=>?_,hB⟩
  refine .tup rfl fun i x y a b=>?_
  match i,a,b with
  | 0,a,b=>cases a; cases b; exact .ro (.int rfl)
  | 1,a,b=>cases a; cases b; exact .ro (.ifc (.inr ⟨⟨_,_,rfl⟩,rfl⟩))
end Go.Proofs.YtefelnhpfdcleaaGreatDoor
namespace Go.Sx
open Go Go.ChangeShapes Go.WideShapes Go.RowKit
section
variable {P : Program}
end
end Go.Sx
namespace Go.Proofs.YtefelnhpfdcleaaGreatDoor
open Go Go.Sx Go.ChangeShapes Go.WideShapes Go.RowKit
set_option maxRecDepth 100000
theorem kOwn : ownKnob Tryz.prog.godebug = none:=by kernel_rfl
theorem Qf : laidOutB Tryz.prog = true:=by kernel_rfl
abbrev En : List (String×DataW Unit):=[("math/bits.deBruijn32tab",Rows.laid_math_bits_deBruijn32tab),("math/bits.deBruijn64tab",Rows.laid_math_bits_deBruijn64tab),("internal/strconv.uint64pow10",Rows.laid_internal_strconv_uint64pow10),("unicode/utf8.acceptRanges",Rows.laid_unicode_utf8_acceptRanges),("strconv.ErrRange",Rows.laid_strconv_ErrRange),("strconv.ErrSyntax",Rows.laid_strconv_ErrSyntax),("spillway/request.methods",Rows.laid_spillway_request_methods),("unicode/utf8.first",Rows.laid_unicode_utf8_first)]
theorem Aj1 (os : Os) : (World.holding Tryz.prog os ⟨#[],#[],[]⟩).layFits Tryz.prog En [] = true:=by kernel_rfl
theorem Adx (os : Os) : (World.holding Tryz.prog os ⟨#[],#[],[]⟩).layIfaces Tryz.prog En (World.laidAll Tryz.prog os En) = true:=by kernel_rfl
theorem Qw (os : Os) (args : Array Value) : laidMetH Tryz.prog En ((World.laidAll Tryz.prog os En).forCall (fun _ _=>0) ⟨#[],args,[]⟩).memory:=by
 rw [MakeChecks.laidMetH_plain _ _ _ (by kernel_rfl)]
 exact laidMet_laidAll _ (Aj1 os) (Adx os)
theorem kPowT : (Tryz.prog.globals[6]?).map (·.type) = some 190:=by kernel_rfl
theorem kPowU : Tryz.prog.underlying 190 = some (.array 20 165):=by kernel_rfl
theorem kPowE : Tryz.prog.underlying 165 = some (.int .u64):=by kernel_rfl
theorem kPowC : Tryz.prog.cellsOf 165 = 1:=by kernel_rfl
theorem kPowD : Tryz.prog.cellsOf 190 = 20:=by kernel_rfl
theorem kMet : Tryz.prog.globalNamed "spillway/request.methods" = some 0:=by kernel_rfl
theorem kMetT : (Tryz.prog.globals[0]?).map (·.type) = some 92:=by kernel_rfl
theorem kC92 : Tryz.prog.cellsOf 92 = 24:=by kernel_rfl
theorem kC91 : Tryz.prog.cellsOf 91 = 4:=by kernel_rfl
theorem kC4 : Tryz.prog.cellsOf 4 = 1:=by kernel_rfl
theorem kC9 : Tryz.prog.cellsOf 9 = 1:=by kernel_rfl
theorem kF91 : (match Tryz.prog.underlying 91 with | some (.struct fs)=>fs.toList.map (fun f=>(f.offset,f.type)) | _=>[]) = [(0,9),(1,4),(2,4),(3,4)]:=by kernel_rfl
theorem kErrT : (Tryz.prog.globals[5]?).map (·.type) = some 107:=by kernel_rfl
theorem kC196 : Tryz.prog.cellsOf 196 = 1:=by kernel_rfl
theorem kStar : "*" ++ "errors.errorString" = "*errors.errorString":=by decide
theorem kRow194 (u : TypeId) (h : Tryz.prog.typeName? 3 u = some "*errors.errorString") : u = 194 :=
 typeName_ptr_named (nm:="errors.errorString") (by rw [kStar]; kernel_rfl) (by kernel_rfl) (by decide) u (by rw [kStar]; exact h)
theorem met4 {H : Type} {tok : TypeId×Value→H} {W : World} {base : Nat} {spare : Nat→Bool} {held : Bool} {fuel : Nat} {cs : List Value} {s : List UInt8} {a b c : Bool} {ps : List MemPlace} (h : DataW.trod tok Tryz.prog W base spare held fuel 91 cs = some (.agg [.lit (.string s),.lit (.bool a),.lit (.bool b),.lit (.bool c)],ps)) : cs = [.string (Sx.bytes s),.bool a,.bool b,.bool c]:=by
 cases hu : Tryz.prog.underlying 91 with
 | none=>have:=kF91; rw [hu] at this; cases this
 | some d =>
  cases d with
  | struct fs =>
   have hf:=kF91
   rw [hu] at hf
   simp only at hf
   obtain ⟨xs,n,_,hx,hl,hxl,hel⟩:=DataW.trod_struct hu h
   rw [kC91] at hl
   have hs : fs.size = 4:=by have:=congrArg List.length hf; simpa using this
   match cs,hl with
   | [c0,c1,c2,c3],_ =>
    have fk : ∀ (k o t : Nat),[(0,9),(1,4),(2,4),(3,4)][k]? = some (o,t)→∃ fd,fs[k]? = some fd∧fd.offset = o∧fd.type = t:=by
     intro k o t hk
     rw [←hf,List.getElem?_map] at hk
     cases hfd : fs.toList[k]? with
     | none=>rw [hfd] at hk; cases hk
     | some fd =>
      rw [hfd] at hk
      simp only [Option.map_some,Option.some.injEq,Prod.mk.injEq] at hk
      exact ⟨fd,by rw [←hfd,Array.getElem?_toList],hk.1,hk.2⟩
    obtain ⟨d0,g0,o0,t0⟩:=fk 0 0 9 rfl
    obtain ⟨d1,g1,o1,t1⟩:=fk 1 1 4 rfl
    obtain ⟨d2,g2,o2,t2⟩:=fk 2 2 4 rfl
    obtain ⟨d3,g3,o3,t3⟩:=fk 3 3 4 rfl
    have e0:=hel 0 _ g0
    have e1:=hel 1 _ g1
    have e2:=hel 2 _ g2
    have e3:=hel 3 _ g3
    rw [o0,t0,kC9] at e0
    rw [o1,t1,kC4] at e1
    rw [o2,t2,kC4] at e2
    rw [o3,t3,kC4] at e3
    rw [hs] at hxl
    match xs,hxl,hx,e0,e1,e2,e3 with
    | [x0,x1,x2,x3],_,hx,e0,e1,e2,e3 =>
     simp only [Prod.mk.injEq,DataW.agg.injEq,List.map_cons,List.map_nil,List.cons.injEq] at hx
     simp at e0 e1 e2 e3
     obtain ⟨b0,q0,r0,_⟩:=DataW.trod_string Tryz.underlying9 e0
     obtain ⟨b1,q1,r1⟩:=DataW.trod_bool Tryz.underlying4 e1
     obtain ⟨b2,q2,r2⟩:=DataW.trod_bool Tryz.underlying4 e2
     obtain ⟨b3,q3,r3⟩:=DataW.trod_bool Tryz.underlying4 e3
     simp at q0 q1 q2 q3
     subst q0 q1 q2 q3 r0 r1 r2 r3
     simp at hx
     rw [hx.1.1,hx.1.2.1,hx.1.2.2.1,hx.1.2.2.2]
     rfl
  | _=>have:=kF91; rw [hu] at this; cases this
def metVals : List Value:=[.string (Sx.bytes [71,69,84]),.bool true,.bool true,.bool true,.string (Sx.bytes [72,69,65,68]),.bool true,.bool true,.bool true,.string (Sx.bytes [79,80,84,73,79,78,83]),.bool true,.bool true,.bool false,.string (Sx.bytes [84,82,65,67,69]),.bool true,.bool true,.bool true,.string (Sx.bytes [80,85,84]),.bool false,.bool true,.bool false,.string (Sx.bytes [68,69,76,69,84,69]),.bool false,.bool true,.bool false]
theorem Ai8 {W : World} (h : laidMet Tryz.prog (En.drop 6) W) : ∃ (cs : Array Value) (t : TypeId) (fr : Nat×Nat),W.heap[0]? = some (.cells cs t fr)∧cs.toList = metVals:=by
 obtain ⟨ps,⟨g0,t0,cs0,f0,p0,q0,hg0,ht0,hv0,hd0,_,_⟩,_,_⟩:=h
 obtain rfl:=Option.some.inj (kMet.symm.trans hg0)
 obtain rfl:=Option.some.inj (kMetT.symm.trans ht0)
 obtain ⟨xs,m1,rfl,hx1,hlen,hn3,hel⟩:=DataW.trod_array Tryz.underlying92 hd0
 rw [kC91] at hel
 rw [kC92] at hlen
 simp only [Prod.mk.injEq,Rows.laid_spillway_request_methods,DataW.agg.injEq] at hx1
 have hrow : ∀ (i : Nat) s a b c,i < 6→[DataW.agg [.lit (.string [71,69,84]),.lit (.bool true),.lit (.bool true),.lit (.bool true)],.agg [.lit (.string [72,69,65,68]),.lit (.bool true),.lit (.bool true),.lit (.bool true)],.agg [.lit (.string [79,80,84,73,79,78,83]),.lit (.bool true),.lit (.bool true),.lit (.bool false)],.agg [.lit (.string [84,82,65,67,69]),.lit (.bool true),.lit (.bool true),.lit (.bool true)],.agg [.lit (.string [80,85,84]),.lit (.bool false),.lit (.bool true),.lit (.bool false)],.agg [.lit (.string [68,69,76,69,84,69]),.lit (.bool false),.lit (.bool true),.lit (.bool false)]][i]? = some (DataW.agg (H:=Unit) [.lit (.string s),.lit (.bool a),.lit (.bool b),.lit (.bool c)])→(cs0.toList.drop (i * 4)).take 4 = [.string (Sx.bytes s),.bool a,.bool b,.bool c]:=by
  intro i s a b c hi hd
  rw [hx1.1,List.getElem?_map] at hd
  have:=hel i hi
  cases hxi : xs[i]? with
  | none=>rw [hxi] at hd; cases hd
  | some x =>
   rw [hxi] at hd this
   obtain ⟨x1,x2⟩:=x
   simp only [Option.map_some,Option.some.injEq] at hd
   subst hd
   exact met4 this
 have h0:=hrow 0 _ _ _ _ (by omega) rfl
 have h1:=hrow 1 _ _ _ _ (by omega) rfl
 have h2:=hrow 2 _ _ _ _ (by omega) rfl
 have h3:=hrow 3 _ _ _ _ (by omega) rfl
 have h4:=hrow 4 _ _ _ _ (by omega) rfl
 have h5:=hrow 5 _ _ _ _ (by omega) rfl
 have step : ∀ (k : Nat) (v : List Value),(cs0.toList.drop k).take 4 = v→cs0.toList.drop k = v ++ cs0.toList.drop (k + 4):=by
  intro k v hv
  rw [←hv,←List.drop_drop,List.take_append_drop]
 have hall : cs0.toList = metVals:=by
  have e0:=step 0 _ h0
  rw [List.drop_zero] at e0
  rw [e0,step 4 _ h1,step 8 _ h2,step 12 _ h3,step 16 _ h4,step 20 _ h5,List.drop_eq_nil_of_le (by omega)]
  rfl
 unfold World.var? at hv0
 rw [kMet] at hv0
 simp only [Option.bind_some] at hv0
 split at hv0
 ·rename_i cs t fr hc
  cases hv0
  exact ⟨_,t,fr,hc,hall⟩
 ·cases hv0
theorem met_one : ∀ v,v∈metVals→v.oneCell' = true:=by decide +kernel
theorem Aa0 {I : Nat→Nat→Prop} {W : World} : ∀ (j : Nat) (s : SV),Fk[j]? = some s→∃ v,metVals[j]? = some v∧RO I W s v:=by
 have key : ∀ (l : List SV) (m : List Value),(∀ (x : SV×Value),x∈l.zip m→(∃ t,x = (.str t,.string (Sx.bytes t)))∨∃ b,x = (.bool (.l b),.bool b))→l.length = m.length→∀ (j : Nat) (s : SV),l[j]? = some s→∃ v,m[j]? = some v∧RO I W s v:=by
  intro l m h hl j s hj
  obtain ⟨hjl,e⟩:=List.getElem?_eq_some_iff.1 hj
  have hm : m[j]? = some (m[j]'(by omega)):=List.getElem?_eq_getElem (by omega)
  refine ⟨_,hm,?_⟩
  have hz : (s,m[j]'(by omega))∈l.zip m:=by
   apply List.mem_iff_getElem?.2
   exact ⟨j,by rw [List.getElem?_zip_eq_some]; exact ⟨hj,hm⟩⟩
  rcases h _ hz with ⟨t,e⟩ | ⟨b,e⟩
  ·obtain ⟨e1,e2⟩:=Prod.mk.inj e
   rw [e1,e2]
   exact .str rfl
  ·obtain ⟨e1,e2⟩:=Prod.mk.inj e
   rw [e1,e2]
   exact .bool rfl
 refine key Fk metVals ?_ rfl
 intro x hx
 simp only [Fk,metVals,List.zip_cons_cons,List.zip_nil_left,List.mem_cons,List.not_mem_nil,or_false] at hx
 rcases hx with rfl | rfl | rfl | rfl | rfl | rfl | rfl | rfl | rfl | rfl | rfl | rfl | rfl | rfl | rfl | rfl | rfl | rfl | rfl | rfl | rfl | rfl | rfl | rfl
 all_goals first
  | exact .inl ⟨_,rfl⟩
  | exact .inr ⟨_,rfl⟩
theorem Ahp {W : World} (h : laidMetH Tryz.prog En W) : ∀ g s,Sx.look g gl = some s→RO (Ka W) W s (.pointer (some ⟨g,0,none⟩))∧g < W.heap.size∧Tg W g s:=by
 rw [MakeChecks.laidMetH_plain _ _ _ (by kernel_rfl)] at h
 have ht : Lib.TabIs Tryz.prog W "internal/strconv.uint64pow10" .u64 Lib.pow10Tab :=
  Lib.tabIs_of_head kPow kPowT kPowU kPowE kPowC kPowD (h.tail.tail)
 obtain ⟨mc,mt,mf,hm1,hm2⟩:=Ai8 h.tail.tail.tail.tail.tail.tail
 obtain ⟨ea,es,he1,_,_,_⟩:=laid_sentinel h.tail.tail.tail.tail Alz kErrT Tryz.underlying107 kRow194 Tryz.underlying194 Tryz.underlying196 rfl rfl Tryz.underlying9 kC196 kC9
 intro g s hs
 simp only [Sx.look,gl] at hs
 split at hs
 ·rename_i e
  have e : 0 = g:=by simpa using e
  subst e
  cases hs
  have hlt : 0 < W.heap.size:=(Array.getElem?_eq_some_iff.1 hm1).1
  refine ⟨.rptr (fun j=>metVals.getD j undef) rfl (fun j hj=>?_) (fun j hj=>⟨?_,hlt⟩) (fun j s hs=>?_),hlt,trivial⟩
  ·obtain ⟨s,hs⟩ : ∃ s,Fk[j]? = some s:=⟨_,List.getElem?_eq_getElem hj⟩
   obtain ⟨v,hv,_⟩:=Aa0 (I:=Ka W) (W:=W) j s hs
   rw [List.getD_eq_getElem?_getD,hv]
   exact met_one _ (List.mem_of_getElem? hv)
  ·obtain ⟨s,hs⟩ : ∃ s,Fk[j]? = some s:=⟨_,List.getElem?_eq_getElem hj⟩
   obtain ⟨v,hv,_⟩:=Aa0 (I:=Ka W) (W:=W) j s hs
   rw [List.getD_eq_getElem?_getD,hv]
   rw [←hm2,Array.getElem?_toList] at hv
   simp [World.cell?,hm1,hv]
  ·obtain ⟨v,hv,hr⟩:=Aa0 (I:=Ka W) (W:=W) j s hs
   rw [List.getD_eq_getElem?_getD,hv]
   exact hr
 split at hs
 ·rename_i e
  have e : 5 = g:=by simpa using e
  subst e
  cases hs
  unfold World.var? at he1
  rw [Alz] at he1
  simp only [Option.bind_some] at he1
  split at he1
  ·rename_i cs t fr hc
   have hcs:=Option.some.inj he1
   subst hcs
   have hlt : 5 < W.heap.size:=(Array.getElem?_eq_some_iff.1 hc).1
   refine ⟨.rarr (fun _ _=>.iface 194 (.pointer (some ea))) rfl (fun i _=>rfl) (fun i j _ _=>rfl) (fun i j hi hj=>⟨?_,hlt⟩) (fun i j s hi hs=>?_),hlt,_,t,fr,hc,rfl⟩
   ·obtain rfl : i = 0:=by omega
    obtain rfl : j = 0:=by omega
    simp [World.cell?,hc]
   ·match j,hs with
    | 0,hs =>
     have hs : some (SV.ifc (.l false)) = some s:=hs
     cases hs
     exact .ifc (.inr ⟨⟨_,_,rfl⟩,rfl⟩)
    | _ + 1,hs=>simp [Agd] at hs
  ·cases he1
 split at hs
 ·rename_i e
  have e : 6 = g:=by simpa using e
  subst e
  cases hs
  have ht2:=ht
  unfold Lib.TabIs World.var? at ht2
  rw [kPow] at ht2
  simp only [Option.bind_some] at ht2
  split at ht2
  ·rename_i cs t fr hc
   have hlt : 6 < W.heap.size:=(Array.getElem?_eq_some_iff.1 hc).1
   have hsz : cs.size = 20 * 1:=by
    rw [Option.some.inj ht2]; simp [Lib.pow10Tab_length]
   refine ⟨.rarr (fun i _=>.int .u64 (Lib.pow10Tab.getD i 0)) rfl (fun i _=>rfl) (fun i j _ _=>rfl) (fun i j hi hj=>⟨?_,hlt⟩) (fun i j s hi hs=>?_),hlt,cs,t,fr,hc,hsz⟩
   ·have:=ht.cell kPow i (by rw [Lib.pow10Tab_length]; exact hi)
    have e : 0 + (i * 1 + j) = i:=by omega
    show W.cell? ⟨6,0 + (i * 1 + j),none⟩ = _
    rw [e]; exact this
   ·match j,hs with
    | 0,hs =>
     have hs : some (SV.int .u64 (.a (Lib.pow10Tab.getD i 0))) = some s:=hs
     cases hs
     exact .int rfl
    | _ + 1,hs=>simp [Afg] at hs
  ·cases ht2
 ·cases hs
end Go.Proofs.YtefelnhpfdcleaaGreatDoor
namespace Go.Sx
open Go Go.ChangeShapes Go.WideShapes Go.RowKit
section
variable {P : Program}
theorem B9.sliceN {t e : TypeId} {α : Type} {sz : Nat} {enc : α→List SV} (ht : P.underlying t = some (.slice e)) (hz : P.cellsOf e = sz) (h0 : 0 < sz) (he : B9 P e enc) : B9 P t (fun x : {x : Bool×List α // x.2.length≤maxLen∧(x.1 = true→x.2 = [])}=>slC sz enc x.1):=by
 intro H tok W spare held fuel cs x h
 rcases DataW.trod_slice ht h with ⟨rfl,_⟩ | ⟨a,len,cap,elems,rest,n,_,rfl,_,_,hle,hcap,hlen,hel,_,_⟩
 ·exact ⟨⟨(true,[]),Nat.zero_le _,fun _=>rfl⟩,.one (.slnil rfl rfl) rfl⟩
 ·rw [hz] at hel
  have key : ∀ i,i < len→∃ (al : α) (vs : List Value),ROL (Ka W) W (enc al) vs∧vs.length = sz∧∀ j,j < sz→W.cell? ((a.add (i * sz)).add j) = vs[j]?:=by
   intro i hi
   have h1:=hel i hi
   rw [List.getElem?_eq_getElem (by omega)] at h1
   cases hc : W.cells? 0 (a.add (i * sz)) sz with
   | none=>rw [hc] at h1; cases h1
   | some vs =>
    rw [hc] at h1
    obtain ⟨al,hal⟩:=he H tok W _ _ _ vs _ h1
    have hg:=Z7 hc
    exact ⟨al,vs,hal,hg.1,hg.2⟩
  have gen : ∀ len : Nat,(∀ i,i < len→∃ (al : α) (vs : List Value),ROL (Ka W) W (enc al) vs∧vs.length = sz∧∀ j,j < sz→W.cell? ((a.add (i * sz)).add j) = vs[j]?)→∃ (l : List α) (g : Nat→Nat→Value),l.length = len∧∀ i al,l[i]? = some al→(enc al).length = sz∧(∀ j,j < sz→W.cell? ((a.add (i * sz)).add j) = some (g i j)∧(g i j).oneCell' = true)∧∀ j s,(enc al)[j]? = some s→RO (Ka W) W s (g i j):=by
   clear key hel hlen hcap hle h
   intro len key
   induction len with
   | zero=>exact ⟨[],fun _ _=>undef,rfl,by simp⟩
   | succ len ih =>
    obtain ⟨l,g,hl,hg⟩:=ih (fun i hi=>key i (by omega))
    obtain ⟨al,vs,k1,k2,k3⟩:=key len (by omega)
    refine ⟨l ++ [al],fun i j=>if i = len then vs.getD j undef else g i j,by simp [hl],fun i al' hi=>?_⟩
    rw [List.getElem?_append] at hi
    split at hi
    ·rename_i hlt
     have hne : i≠len:=by omega
     obtain ⟨g1,g2,g3⟩:=hg i al' hi
     exact ⟨g1,fun j hj=>by simpa only [if_neg hne] using g2 j hj,fun j s hs=>by simpa only [if_neg hne] using g3 j s hs⟩
    ·rename_i hlt
     have hil : i = len:=by
      have:=(List.getElem?_eq_some_iff.1 hi).1
      simp at this; omega
     subst hil
     have h00 : i - l.length = 0:=by omega
     rw [h00] at hi
     simp at hi
     subst hi
     refine ⟨by rw [k1.1,k2],fun j hj=>?_,fun j s hs=>?_⟩
     ·simp only [if_pos]
      have hjv : vs[j]? = some vs[j]:=List.getElem?_eq_getElem (by omega)
      rw [k3 j hj,hjv]
      simp only [List.getD_eq_getElem?_getD,hjv,Option.getD_some,true_and]
      exact k1.2.2 _ (List.getElem_mem _)
     ·simp only [if_pos]
      have hjl : j < vs.length:=by rw [←k1.1]; exact (List.getElem?_eq_some_iff.1 hs).1
      have hjv : vs[j]? = some vs[j]:=List.getElem?_eq_getElem hjl
      simp only [List.getD_eq_getElem?_getD,hjv,Option.getD_some]
      exact k1.2.1 j s _ hs hjv
  obtain ⟨l,g,hl,hg⟩:=gen len key
  have hspot : 0 < len→a.spot = none:=fun hpos=>by
   obtain ⟨al,hal⟩ : ∃ al,l[0]? = some al:=⟨_,List.getElem?_eq_getElem (by omega)⟩
   obtain ⟨_,g2,_⟩:=hg 0 al hal
   have:=(g2 0 h0).1
   obtain ⟨b,o,sp⟩:=a
   simp only [Nat.zero_mul,Addr.add,if_pos] at this
   exact (Up this).2
  refine ⟨⟨(false,l),by simp only [hl]; omega,fun h=>by cases h⟩,.one (.sl g rfl (by simp [ST.den,hl]) hle hcap hspot (fun i hi=>?_) (fun i j hi hj=>?_) (fun i j hi hj=>?_) (fun i j s hi hs=>?_)) rfl⟩
  ·obtain ⟨al,hal⟩ : ∃ al,l[i]? = some al:=⟨_,List.getElem?_eq_getElem (by omega)⟩
   simp only [Ci,hal]
   exact (hg i al hal).1
  ·obtain ⟨al,hal⟩ : ∃ al,l[i]? = some al:=⟨_,List.getElem?_eq_getElem (by omega)⟩
   exact ((hg i al hal).2.1 j hj).2
  ·obtain ⟨al,hal⟩ : ∃ al,l[i]? = some al:=⟨_,List.getElem?_eq_getElem (by omega)⟩
   have hc:=((hg i al hal).2.1 j hj).1
   have e : (a.add (i * sz)).add j = ⟨a.block,a.off + (i * sz + j),none⟩:=by
    have hs:=hspot (by omega)
    obtain ⟨b,o,sp⟩:=a
    simp only at hs
    subst hs
    simp only [add_lit]
    congr 1
    omega
   rw [e] at hc
   exact ⟨hc,(Up hc).1⟩
  ·obtain ⟨al,hal⟩ : ∃ al,l[i]? = some al:=⟨_,List.getElem?_eq_getElem (by omega)⟩
   simp only [Ci,hal] at hs
   exact (hg i al hal).2.2 j s hs
end
end Go.Sx
namespace Go.Proofs.YtefelnhpfdcleaaGreatDoor
open Go Go.Sx
set_option maxRecDepth 100000
set_option maxHeartbeats 8000000
def C8 (s : List UInt8) : Bool:=decide (s.length≤16) && Br s
def C5 (p : List UInt8→Bool) : FSpec:=fun _ xs ls K=>∃ (s : List UInt8),xs = [.str s]∧ls = []∧s.length≤9223372036854775807∧∀ r,r = p s→K (.bool (.a r)) []
theorem Ade : Ar Tryz.prog gl 70 (C5 C8):=by
 refine A4 (gh:=[]) mixed A0 (Aa L0 Ae) Tryz.func70 (by kernel_rfl) (by kernel_rfl) ?_
 intro xs ls K h
 unfold C5 at h
 obtain ⟨s,rfl,rfl,hs,h⟩:=h
 obtain ⟨k,hk⟩ : ∃ k,k = C8 s:=⟨_,rfl⟩
 refine ⟨_,_,h k hk,fun D hD=>?_⟩
 clear h
 cbv
 refine ⟨s,rfl,rfl,hs,fun t ht=>?_⟩
 cbv
 refine Aj hD ?_
 rw [hk,C8,←ht]
 have : decide ((s.length : Int)≤16) = decide (s.length≤16):=by rw [decide_eq_decide]; omega
 rw [←this]; rfl
def I4 (t : List UInt8) : Bool:=t == [104,111,115,116] || (t == [120,45,114,101,113,117,101,115,116,45,105,100] || (t == [99,111,110,116,101,110,116,45,108,101,110,103,116,104] || t == [116,114,97,110,115,102,101,114,45,101,110,99,111,100,105,110,103]))
theorem Al3 : Ar Tryz.prog gl 110 (C5 fun s=>I4 (Ao s)):=by
 refine A4 (gh:=[]) mixed A0 (Aa K9 Ae) Tryz.func110 (by kernel_rfl) (by kernel_rfl) ?_
 intro xs ls K h
 unfold C5 at h
 obtain ⟨s,rfl,rfl,hs,h⟩:=h
 obtain ⟨k,hk⟩ : ∃ k,k = I4 (Ao s):=⟨_,rfl⟩
 refine ⟨_,_,h k hk,fun D hD=>?_⟩
 clear h
 cbv
 refine ⟨s,rfl,rfl,hs,fun t ht=>?_⟩
 have ht : t = Ao s:=ht
 rw [←ht] at hk
 clear ht
 unfold I4 at hk
 cbv
 refine br hD (fun h=>?_) (fun h=>?_)<;>cbv
 ·have h1 : (t == [104,111,115,116]) = true:=h
  refine Aj hD ?_
  rw [hk,h1]; simp
 have h1 : (t == [104,111,115,116]) = false:=h
 rw [h1,Bool.false_or] at hk
 clear h h1
 refine br hD (fun h=>?_) (fun h=>?_)<;>cbv
 ·have h1 : (t == [120,45,114,101,113,117,101,115,116,45,105,100]) = true:=h
  refine Aj hD ?_
  rw [hk,h1]; simp
 have h1 : (t == [120,45,114,101,113,117,101,115,116,45,105,100]) = false:=h
 rw [h1,Bool.false_or] at hk
 clear h h1
 refine br hD (fun h=>?_) (fun h=>?_)<;>cbv
 ·have h1 : (t == [99,111,110,116,101,110,116,45,108,101,110,103,116,104]) = true:=h
  refine Aj hD ?_
  rw [hk,h1]; simp
 have h1 : (t == [99,111,110,116,101,110,116,45,108,101,110,103,116,104]) = false:=h
 rw [h1,Bool.false_or] at hk
 clear h h1
 refine br hD (fun h=>?_) (fun h=>?_)<;>cbv
 ·have h1 : (t == [116,114,97,110,115,102,101,114,45,101,110,99,111,100,105,110,103]) = true:=h
  refine Aj hD ?_
  rw [hk,h1]; simp
 have h1 : (t == [116,114,97,110,115,102,101,114,45,101,110,99,111,100,105,110,103]) = false:=h
 rw [h1] at hk
 clear h h1
 refine Aj hD ?_
 rw [hk]; rfl
def No : List UInt8:=[97,98,99,100,101,102,103,104,105,106,107,108,109,110,111,112,113,114,115,116,117,118,119,120,121,122,48,49,50,51,52,53,54,55,56,57,45,46,58]
def Oc (s : List UInt8) : Bool:=s != [] && (decide (s.length≤100) && (Lib.trimS s No == []))
theorem Ajk : Ar Tryz.prog gl 83 (C5 Oc):=by
 refine A4 (gh:=[]) mixed A0 (Aa Jr Ae) Tryz.func83 (by kernel_rfl) (by kernel_rfl) ?_
 intro xs ls K h
 unfold C5 at h
 obtain ⟨s,rfl,rfl,hs,h⟩:=h
 obtain ⟨k,hk⟩ : ∃ k,k = Oc s:=⟨_,rfl⟩
 refine ⟨_,_,h k hk,fun D hD=>?_⟩
 clear h
 cbv
 refine ⟨s,No,rfl,rfl,hs,by decide,by decide,fun t ht=>?_⟩
 cbv
 refine Aj hD ?_
 rw [hk,Oc,←ht]
 have : decide ((s.length : Int)≤100) = decide (s.length≤100):=by rw [decide_eq_decide]; omega
 rw [←this,←Bool.and_assoc]; rfl
def ttM : List (Nat×TI):=[
 (3,⟨.int .i64,1,8,[.int .i64 (.l 0)]⟩),
 (4,⟨.bool,1,1,[.bool (.l false)]⟩),
 (9,⟨.string,1,16,[.str []]⟩),
 (23,⟨.int .i64,1,8,[.int .i64 (.l 0)]⟩),
 (91,⟨.struct [(0,9),(1,4),(2,4),(3,4)],4,24,[.str [],.bool (.l false),.bool (.l false),.bool (.l false)]⟩),
 (92,⟨.array 6 91,24,144,[.str [],.bool (.l false),.bool (.l false),.bool (.l false),.str [],.bool (.l false),.bool (.l false),.bool (.l false),.str [],.bool (.l false),.bool (.l false),.bool (.l false),.str [],.bool (.l false),.bool (.l false),.bool (.l false),.str [],.bool (.l false),.bool (.l false),.bool (.l false),.str [],.bool (.l false),.bool (.l false),.bool (.l false)]⟩)]
theorem ttM_ok : Sx.ttB Tryz.prog ttM = true:=by kernel_rfl
theorem cxOkM {tab : List (Nat×FSpec)} {gl : List (Nat×SV)} {gh : List (Nat×List Gh)} {its : List (Nat×(FSpec→FSpec))} {yl : List FSpec} : A5 Tryz.prog ⟨dn,ttM,tab,gl,[],gh,its,yl⟩:=⟨rfl,ttM_ok,fun _ h=>(by cases h)⟩
def I3 (s : List UInt8) : Bool:=if s = [71,69,84] then true else if s = [72,69,65,68] then true else if s = [79,80,84,73,79,78,83] then false else if s = [84,82,65,67,69] then true else if s = [80,85,84] then false else if s = [68,69,76,69,84,69] then false else false
theorem Zg : Ar Tryz.prog gl 56 (C5 I3):=by
 refine A4 (gh:=[(999986,[.freeze 10])]) mixed cxOkM Ae Tryz.func56 (by kernel_rfl) (by kernel_rfl) ?_
 intro xs ls K h
 unfold C5 at h
 obtain ⟨s,rfl,rfl,hs,h⟩:=h
 obtain ⟨k,hk⟩ : ∃ k,k = I3 s:=⟨_,rfl⟩
 refine ⟨_,_,h k hk,fun D hD=>?_⟩
 clear h
 unfold I3 at hk
 cbv
 refine br hD (fun h=>?_) (fun h=>?_)<;>cbv
 ·have h1 : s = [71,69,84]:=by have h : ([71,69,84] == s) = true:=h; exact (eq_of_beq h).symm
  refine Aj hD ?_
  rw [hk,if_pos h1]; rfl
 have h1 : ¬ s = [71,69,84]:=by have h : ([71,69,84] == s) = false:=h; intro e; rw [e] at h; simp at h
 rw [if_neg h1] at hk
 clear h h1
 refine br hD (fun h=>?_) (fun h=>?_)<;>cbv
 ·have h1 : s = [72,69,65,68]:=by have h : ([72,69,65,68] == s) = true:=h; exact (eq_of_beq h).symm
  refine Aj hD ?_
  rw [hk,if_pos h1]; rfl
 have h1 : ¬ s = [72,69,65,68]:=by have h : ([72,69,65,68] == s) = false:=h; intro e; rw [e] at h; simp at h
 rw [if_neg h1] at hk
 clear h h1
 refine br hD (fun h=>?_) (fun h=>?_)<;>cbv
 ·have h1 : s = [79,80,84,73,79,78,83]:=by have h : ([79,80,84,73,79,78,83] == s) = true:=h; exact (eq_of_beq h).symm
  refine Aj hD ?_
  rw [hk,if_pos h1]; rfl
 have h1 : ¬ s = [79,80,84,73,79,78,83]:=by have h : ([79,80,84,73,79,78,83] == s) = false:=h; intro e; rw [e] at h; simp at h
 rw [if_neg h1] at hk
 clear h h1
 refine br hD (fun h=>?_) (fun h=>?_)<;>cbv
 ·have h1 : s = [84,82,65,67,69]:=by have h : ([84,82,65,67,69] == s) = true:=h; exact (eq_of_beq h).symm
  refine Aj hD ?_
  rw [hk,if_pos h1]; rfl
 have h1 : ¬ s = [84,82,65,67,69]:=by have h : ([84,82,65,67,69] == s) = false:=h; intro e; rw [e] at h; simp at h
 rw [if_neg h1] at hk
 clear h h1
 refine br hD (fun h=>?_) (fun h=>?_)<;>cbv
 ·have h1 : s = [80,85,84]:=by have h : ([80,85,84] == s) = true:=h; exact (eq_of_beq h).symm
  refine Aj hD ?_
  rw [hk,if_pos h1]; rfl
 have h1 : ¬ s = [80,85,84]:=by have h : ([80,85,84] == s) = false:=h; intro e; rw [e] at h; simp at h
 rw [if_neg h1] at hk
 clear h h1
 refine br hD (fun h=>?_) (fun h=>?_)<;>cbv
 ·have h1 : s = [68,69,76,69,84,69]:=by have h : ([68,69,76,69,84,69] == s) = true:=h; exact (eq_of_beq h).symm
  refine Aj hD ?_
  rw [hk,if_pos h1]; rfl
 have h1 : ¬ s = [68,69,76,69,84,69]:=by have h : ([68,69,76,69,84,69] == s) = false:=h; intro e; rw [e] at h; simp at h
 rw [if_neg h1] at hk
 clear h h1
 refine Aj hD ?_
 rw [hk]; rfl
end Go.Proofs.YtefelnhpfdcleaaGreatDoor
namespace Go.Proofs.YtefelnhpfdcleaaGreatDoor
open Go Go.Sx Go.RowKit
set_option maxRecDepth 100000
set_option maxHeartbeats 2000000
theorem Aio {P : Program} {b : Bool} {gl : List (Nat×SV)} {f : FuncId} {xs : List SV} {W : World} {args : List Value} (h : Dk P gl f xs [] (.bool (.a b)) [])
  (hgl : ∀ g s,Sx.look g gl = some s→RO (Ka W) W s (.pointer (some ⟨g,0,none⟩))∧g < W.heap.size∧Tg W g s) (hl : xs.length = args.length) (hr : ∀ (i : Nat) (s : SV) (v : Value),xs[i]? = some s→args[i]? = some v→RO (Ka W) W s v) :
  Calls P f ⟨args⟩ W fun e W'=>e = .returned (.bool b)∧Below W.heap.size W W':=by
 refine (h ⟨W,fun _=>False,Ka W,fun _=>none,fun _=>none,fun _=>none,[]⟩ ⟨fun _=>none,fun _=>none,fun _=>none,fun _=>none,fun _=>none,Ka W⟩ W args rfl (fun _ _ h=>h) (fun _ h=>absurd h (by simp)) ⟨rfl,rfl,rfl,Nat.le_refl _,fun _ _ _=>rfl,fun _ _ h=>⟨h,rfl⟩,fun _ _ h=>h,fun _ _ h=>.inl h,fun _ _ h=>(by cases h),⟨fun _ _ h=>(by cases h),fun _ _ h=>(by cases h),fun _ _ h=>(by cases h)⟩⟩ (fun g s h=>⟨(hgl g s h).1,(hgl g s h).2.1,fun h=>h,(hgl g s h).2.2⟩) (fun h=>?_) ⟨hl,fun i s v a b=>.ro (hr i s v a b)⟩).mono fun e W' hq=>?_
 ·simp only [Aq,nth]
  exact ⟨rfl,rfl,rfl,rfl⟩
 ·obtain ⟨v,E',rfl,hb,_,hv⟩:=hq
  rw [hv.bool_inv]
  exact ⟨rfl,⟨hb.os,hb.tape,hb.output,hb.size,fun k hk=>hb.old k hk (fun h=>h)⟩⟩
def Sq (x : Nat) : Bool:=decide (x≠9) && (decide (x < 32) || decide (126 < x))
def okB (c : UInt8) : Bool:=decide (c.toNat = 9) || (decide (32≤c.toNat) && decide (c.toNat≤126))
def D2 (s : List UInt8) : Bool:=s.all okB
def spRune : FSpec:=fun _ xs ls K=>∃ (x : Nat),xs = [.int .i32 (.a (x : Int))]∧ls = []∧∀ r,r = Sq x→K (.bool (.a r)) []
theorem rune_ok : Ar Tryz.prog [] 117 spRune:=by
 refine A4 (gh:=[]) mixed A0 Ae Tryz.func117 (by kernel_rfl) (by kernel_rfl) ?_
 intro xs ls K h
 unfold spRune at h
 obtain ⟨x,rfl,rfl,h⟩:=h
 obtain ⟨k,hk⟩ : ∃ k,k = Sq x:=⟨_,rfl⟩
 refine ⟨_,_,h k hk,fun D hD=>?_⟩
 clear h
 cbv
 refine Aj hD ?_
 rw [hk]
 have e1 : ((x : Int) = 9)↔x = 9:=by omega
 have e2 : ((x : Int) < 32)↔x < 32:=by omega
 have e3 : ((126 : Int) < x)↔126 < x:=by omega
 simp only [BT.den,B8,ST.den,Sq]
 rw [Bool.eq_iff_iff]
 simp only [Bool.and_eq_true,Bool.or_eq_true,bne_iff_ne,decide_eq_true_eq,Int.ofNat_eq_natCast]
 constructor
 ·rintro ⟨h1,h2⟩
  exact ⟨fun e=>h1 (e1.2 e),h2.imp (fun e=>e2.1 (of_decide_eq_true e)) (fun e=>e3.1 (of_decide_eq_true e))⟩
 ·rintro ⟨h1,h2⟩
  exact ⟨fun e=>h1 (e1.1 e),h2.imp (fun e=>decide_eq_true (e2.2 e)) (fun e=>decide_eq_true (e3.2 e))⟩
theorem Ahd (c : UInt8) : okB c = !Sq c.toNat:=by
 unfold okB Sq
 by_cases h1 : c.toNat = 9<;>by_cases h2 : c.toNat < 32<;>by_cases h3 : 126 < c.toNat<;>simp [h1,h2,h3]<;>omega
theorem Adf (s : ByteArray) : ∀ (f pos : Nat),s.size≤pos + f→decide (0≤Lib.idxFuncFrom Sq true s f pos) = !((s.data.toList.drop pos).all okB)
 | 0,pos,h=>by
  have : s.data.toList.drop pos = []:=List.drop_eq_nil_of_le (show s.data.toList.length≤pos from h)
  rw [this]; rfl
 | f + 1,pos,h=>by
  unfold Lib.idxFuncFrom
  by_cases hp : pos < s.size
  ·have hp' : pos < s.data.toList.length:=hp
   have hd : s.data.toList.drop pos = s[pos]'hp :: s.data.toList.drop (pos + 1):=by
    rw [List.drop_eq_getElem_cons hp']; rfl
   rw [if_pos hp,hd,List.all_cons]
   by_cases ha : (s[pos]'hp).toNat < 128
   ·rw [decode_ascii s pos hp ha]
    have ih:=Adf s f (pos + 1) (by omega)
    have hb:=Ahd (s[pos]'hp)
    by_cases hr : Sq (s[pos]'hp).toNat = true
    ·rw [if_pos hr,hb,hr]; simp
    ·rw [if_neg hr,hb,ih]
     simp only [Bool.not_eq_true] at hr
     rw [hr]; simp
   ·obtain ⟨d1,_⟩:=decode_high s pos hp (by omega)
    have hr : Sq (Utf8.decode s pos).1 = true:=by
     unfold Sq
     simp; omega
    have hb : okB (s[pos]'hp) = false:=by
     rw [Ahd]
     simp only [Sq]
     simp; omega
    rw [if_pos hr,hb]; simp
  ·rw [if_neg hp]
   have : s.data.toList.drop pos = []:=List.drop_eq_nil_of_le (show s.data.toList.length≤pos from Nat.not_lt.1 hp)
   rw [this]; rfl
def spPlainH : FSpec:=fun _ xs ls K=>∃ (s : List UInt8),xs = [.str s]∧ls = []∧∀ r,r = D2 s→K (.bool (.a r)) []
def spHasR : FSpec:=fun _ xs ls K=>∃ (s : List UInt8),xs = [.str s,.fn 117]∧ls = []∧∀ r,r = !D2 s→K (.bool (.a r)) []
theorem Aj9 : ∀ args w,(callFunc 117 args).run Tryz.prog w = .ok (.enter 117 args) w:=enters_of Tryz.func117 (by kernel_rfl) rfl
theorem Ae5 (w : World) : PredGrows Tryz.prog 117 #[] Sq w:=by
 intro W x _ _
 obtain ⟨r,ls',⟨hr,hl⟩,hc⟩:=rune_ok.2 [.int .i32 (.a (x : Int))] [] (fun r ls'=>r = .bool (.a (Sq x))∧ls' = []) ⟨x,rfl,rfl,fun r hr=>by rw [hr]; exact ⟨rfl,rfl⟩⟩
 subst hr hl
 refine Aio (gl:=[]) hc (fun g s h=>by simp [Sx.look] at h) (by simp [encR]) fun i s v a b=>?_
 cases i with
 | zero=>simp [encR] at a b; subst a b; exact .int rfl
 | succ i=>simp at a
theorem hasR_ok : Ar Tryz.prog gl 116 spHasR:=by
 refine ⟨⟨Tryz.f116,_,Tryz.func116,rfl,by kernel_rfl⟩,fun xs ls K h=>?_⟩
 obtain ⟨s,rfl,rfl,h⟩:=h
 refine ⟨_,_,h _ rfl,Bt fun E B w vals _ _ _ hr=>?_⟩
 obtain ⟨v,g,rfl,hu,hgv⟩:=Ek hr
 rw [D0 hu,hgv.fn_inv]
 refine (Ha 117 #[] Aj9 Sq (Sx.bytes s) w (Ae5 w)).mono ?_
 rintro e w' ⟨rfl,hB⟩
 refine ⟨_,rfl,fun E=>.ro (.bool ?_),hB⟩
 have:=Adf (Sx.bytes s) (Sx.bytes s).size 0 (by omega)
 show (!D2 s) = _
 rw [Lib.idxFunc,this]; rfl
theorem Zk : Ar Tryz.prog gl 93 spPlainH:=by
 refine A4 (gh:=[]) mixed A0 (Aa hasR_ok Ae) Tryz.func93 (by kernel_rfl) (by kernel_rfl) ?_
 intro xs ls K h
 unfold spPlainH at h
 obtain ⟨s,rfl,rfl,h⟩:=h
 obtain ⟨k,hk⟩ : ∃ k,k = D2 s:=⟨_,rfl⟩
 refine ⟨_,_,h k hk,fun D hD=>?_⟩
 clear h
 cbv
 refine ⟨s,rfl,rfl,fun r hr=>?_⟩
 cbv
 refine Aj hD ?_
 rw [hk,←Bool.not_not (D2 s),←hr]
 simp [BT.den]
end Go.Proofs.YtefelnhpfdcleaaGreatDoor
