/- Part of the proofs of the statements about responses and messages (layers 9 and 10): a symbolic executor over the code, that it is sound, and contracts of functions; it has no conditions of its own. -/
import Derived.Test.YtdoogdbjiijifaaGreatDoorE3Pbo
import Derived.Test.YtdoogdbjiijifaaGreatDoorE3Pbq
import Derived.Test.YtdoogdbjiijifaaGreatDoorE3Pbn
namespace Go.Proofs.YtdoogdbjiijifaaGreatDoor
open Go Go.Sx
set_option maxRecDepth 100000
set_option maxHeartbeats 16000000
def spHeads3:FSpec:=λ_ xs ls K=>∃(b:List UInt8) (nb:Bool) (nn:Int) (g:Nat->List SV) (m:List UInt8) (hd:RsH) (mi st:Int) (re:List UInt8) (nl:Bool) (n:Int) (f:Nat->List SV),
 xs=[.sl (.a nb) (.a nn) 1 g,.str m,I8 mi st re nl n f]/\ls=[]/\A7 g nn b/\Ae0 g b/\m.length<=9223372036854775807/\Aez hd mi st n f/\(∀j,f j=Dk (hd.fields.getD j default))/\K (.bool (.a true)) []
theorem Xa:Ay Tryz.prog gl 3 spHeads3:=by
 refine Bq (gh:=[]) mixed C6 (Ab far9_ok (Ab Ahh (Ab Yv (Ab Ad9 (Ab J6 (Ab Abn (Ab Aj5 Ai))))))) Tryz.func3 (by kernel_rfl) (by kernel_rfl) ?_;intro xs ls K h;unfold spHeads3 at h;obtain⟨b,nb,nn,g,m,hd,mi,st,re,nl,n,f,rfl,rfl,R,T,hm,V,hT,h⟩:=h;refine⟨_,_,h,λD hD=>?_⟩;clear h;have VN:VI nn b.length:=⟨R.n⟩;unfold I8;cbv;refine⟨hd.fields,_,_,f,rfl,rfl,by subst hD;exact V.row,hT,λr=>?_⟩;cbv;refine br hD (λhbr=>?_) (λhbr=>?_)<;>cbv
 ·exact Aw hD rfl
 have hbr:((decide (9000<nn)||r)||decide (200<(m.length:Int)))=false:=by subst hD;exact hbr
 simp only[Bool.or_eq_false_iff,decide_eq_false_iff_not]at hbr;have HB:LeN b.length 1000000:=⟨by have:=VN.h;have:=hbr.1.1;omega⟩;clear hbr;refine⟨b,_,_,g,rfl,rfl,by subst hD;exact R,HB.h,λh1 u1 e1 m1 s1 r1 f1 n1 b1 k1 V1=>?_⟩;cbv;refine⟨b,_,_,g,rfl,rfl,by subst hD;exact R,T,HB.h,λh2 u2 e2 m2 s2 r2 f2 n2 b2 k2 V2=>?_⟩;cbv;rw[<-k1]at k2;simp only[Prod.mk.injEq]at k2;obtain⟨rfl,rfl,rfl⟩:=k2;refine⟨m,hd,D.i (.a mi),D.i (.a st),re,D.b (.a nl),D.i (.a n),f,rfl,rfl,by subst hD;exact V,hm,λa1 a2 a3 k3=>?_⟩;cbv;refine⟨m,hd,D.i (.a mi),D.i (.a st),re,D.b (.a nl),D.i (.a n),f,rfl,rfl,by subst hD;exact V,hm,λc1 c2 c3 k4=>?_⟩;cbv;rw[<-k3]at k4;simp only[Prod.mk.injEq]at k4;obtain⟨rfl,rfl,rfl⟩:=k4;refine⟨h2,h2,_,_,_,_,_,_,_,_,_,_,f1,f2,rfl,rfl,by subst hD;exact⟨V1.emi,V1.est,V1.ere,V1.g.row⟩,by subst hD;exact⟨V2.emi,V2.est,V2.ere,V2.g.row⟩,λz hz=>?_⟩;have hz:z=true:=by rw[hz];unfold Afg;simp
 cbv;refine Aw hD ?_;show (((((((z&&(u2==u2))&&(e2==e2))&&(c1==c1))&&(c2==c2))&&(c3==c3))&&true))=true;rw[hz];simp
def spHeads3D:FSpec:=λ_ xs ls K=>∃(b:List UInt8) (nb:Bool) (nn:Int) (g:Nat->List SV) (m:List UInt8) (hd:RsH) (mi st:Int) (re:List UInt8) (nl:Bool) (n:Int) (f:Nat->List SV),
 xs=[.sl (.a nb) (.a nn) 1 g,.str m,I8 mi st re nl n f]/\ls=[]/\A7 g nn b/\m.length<=9223372036854775807/\Aez hd mi st n f/\K (.bool (.a true)) []
theorem Ad8:Ay Tryz.prog gl 3 spHeads3D:=by
 refine⟨Xa.1,λxs ls K h=>?_⟩;obtain⟨b,nb,nn,g,m,hd,mi,st,re,nl,n,f,rfl,rfl,R,hm,V,h⟩:=h;obtain⟨v,ls',hK,hc⟩:=Xa.2 _ [] K ⟨b,nb,nn,byteRow b,m,hd,mi,st,re,nl,n,rowT hd.fields,rfl,rfl,R.total.1,R.total.2,hm,⟨V.emi,V.est,V.row.total⟩,λ_=>rfl,h⟩;exact⟨v,ls',hK,Acg (LeL.cons (rowULe R) (LeL.cons (LeV.refl _) (LeL.cons (.agg (.cons (LeV.refl _) (.cons (LeV.refl _) (.cons (LeV.refl _) (.cons (rowHLe V.row) .nil))))) LeL.nil))) hc⟩
end Go.Proofs.YtdoogdbjiijifaaGreatDoor
