/- Part of the proofs of the statements about responses and messages (layers 9 and 10): a symbolic executor over the code, that it is sound, and contracts of functions; it has no conditions of its own. -/
import Derived.Laws.RangeString
import Derived.Laws.RangeAny
import Derived.Lib.ItoaLen
import Derived.Test.YtdoogdbjiijifaaGreatDoorE3Pba
namespace Go.Sx
open Go Go.ChangeShapes Go.WideShapes Go.RowKit
section
variable {P:Program}
theorem Do.sliceN{t e:TypeId}{α:Type}{sz:Nat}{enc:α->List SV}(ht:P.underlying t=some (.slice e))(hz:P.cellsOf e=sz)(h0:0<sz)(he:Do P e enc):Do P t (λx:{x:Bool×List α // x.2.length<=maxLen/\(x.1=true->x.2=[])}=>slC sz enc x.1):=by
 intro H tok W spare held fuel cs x h;rcases DataW.trod_slice ht h with⟨rfl,_⟩|⟨a,len,cap,elems,rest,n,_,rfl,_,_,hle,hcap,hlen,hel,_,_⟩
 ·exact⟨⟨(true,[]),Nat.zero_le _,λ_=>rfl⟩,.one (.slnil rfl rfl) rfl⟩
 ·rw[hz]at hel
  have key:∀i,i<len->∃(al:α) (vs:List Value),ROL (K7 W) W (enc al) vs/\vs.length=sz/\∀j,j<sz->W.cell? ((a.add (i * sz)).add j)=vs[j]?:=by
   intro i hi;have h1:=hel i hi;rw[List.getElem?_eq_getElem (by omega)]at h1;cases hc:W.cells? 0 (a.add (i * sz)) sz with
   |none=>rw[hc]at h1;cases h1
   |some vs =>
    rw[hc]at h1;obtain⟨al,hal⟩:=he H tok W _ _ _ vs _ h1;have hg:=Xv hc;exact⟨al,vs,hal,hg.1,hg.2⟩
  have gen:∀len:Nat,(∀i,i<len->∃(al:α) (vs:List Value),ROL (K7 W) W (enc al) vs/\vs.length=sz/\∀j,j<sz->W.cell? ((a.add (i * sz)).add j)=vs[j]?)->∃(l:List α) (g:Nat->Nat->Value),l.length=len/\∀i al,l[i]?=some al->(enc al).length=sz/\(∀j,j<sz->W.cell? ((a.add (i * sz)).add j)=some (g i j)/\(g i j).oneCell'=true)/\∀j s,(enc al)[j]?=some s->RO (K7 W) W s (g i j):=by
   clear key hel hlen hcap hle h;intro len key
   induction len with
   |zero=>exact⟨[],λ_ _=>undef,rfl,by simp⟩
   |succ len ih =>
    obtain⟨l,g,hl,hg⟩:=ih (λi hi=>key i (by omega));obtain⟨al,vs,k1,k2,k3⟩:=key len (by omega);refine⟨l++[al],λi j=>if i=len then vs.getD j undef else g i j,by simp[hl],λi al' hi=>?_⟩;rw[List.getElem?_append]at hi
    split at hi
    ·rename_i hlt
     have hne:i≠len:=by omega
     obtain⟨g1,g2,g3⟩:=hg i al' hi;exact⟨g1,λj hj=>by simpa only[if_neg hne] using g2 j hj,λj s hs=>by simpa only[if_neg hne] using g3 j s hs⟩
    ·rename_i hlt
     have hil:i=len:=by
      have:=(List.getElem?_eq_some_iff.1 hi).1;simp at this;omega
     subst hil;have h00:i-l.length=0:=by omega
     rw[h00]at hi;simp at hi;subst hi;refine⟨by rw[k1.1,k2],λj hj=>?_,λj s hs=>?_⟩
     ·simp only[if_pos]
      have hjv:vs[j]?=some vs[j]:=List.getElem?_eq_getElem (by omega);rw[k3 j hj,hjv];simp only[List.getD_eq_getElem?_getD,hjv,Option.getD_some,true_and];exact k1.2.2 _ (List.getElem_mem _)
     ·simp only[if_pos]
      have hjl:j<vs.length:=by rw[<-k1.1];exact (List.getElem?_eq_some_iff.1 hs).1
      have hjv:vs[j]?=some vs[j]:=List.getElem?_eq_getElem hjl;simp only[List.getD_eq_getElem?_getD,hjv,Option.getD_some];exact k1.2.1 j s _ hs hjv
  obtain⟨l,g,hl,hg⟩:=gen len key;have hspot:0<len->a.spot=none:=λhpos=>by
   obtain⟨al,hal⟩:∃al,l[0]?=some al:=⟨_,List.getElem?_eq_getElem (by omega)⟩;obtain⟨_,g2,_⟩:=hg 0 al hal;have:=(g2 0 h0).1;obtain⟨b,o,sp⟩:=a;simp only[Nat.zero_mul,Addr.add,if_pos]at this;exact (Si this).2
  refine⟨⟨(false,l),by simp only[hl];omega,λh=>by cases h⟩,.one (.sl g rfl (by simp[ST.den,hl]) hle hcap hspot (λi hi=>?_) (λi j hi hj=>?_) (λi j hi hj=>?_) (λi j s hi hs=>?_)) rfl⟩
  ·obtain⟨al,hal⟩:∃al,l[i]?=some al:=⟨_,List.getElem?_eq_getElem (by omega)⟩
   simp only[Hk,hal];exact (hg i al hal).1
  ·obtain⟨al,hal⟩:∃al,l[i]?=some al:=⟨_,List.getElem?_eq_getElem (by omega)⟩
   exact ((hg i al hal).2.1 j hj).2
  ·obtain⟨al,hal⟩:∃al,l[i]?=some al:=⟨_,List.getElem?_eq_getElem (by omega)⟩
   have hc:=((hg i al hal).2.1 j hj).1;have e:(a.add (i * sz)).add j=⟨a.block,a.off+(i * sz+j),none⟩:=by
    have hs:=hspot (by omega);obtain⟨b,o,sp⟩:=a;simp only at hs;subst hs;simp only[add_lit];congr 1;omega
   rw[e]at hc;exact⟨hc,(Si hc).1⟩
  ·obtain⟨al,hal⟩:∃al,l[i]?=some al:=⟨_,List.getElem?_eq_getElem (by omega)⟩
   simp only[Hk,hal]at hs;exact (hg i al hal).2.2 j s hs
end
end Go.Sx
namespace Go.Proofs.YtdoogdbjiijifaaGreatDoor
open Go Go.Sx
set_option maxRecDepth 100000
set_option maxHeartbeats 40000000
def mayL:List Nat:=[33,36,38,39,40,41,42,43,44,59,61,58,64,47]
def may2(i:Nat)(c:Nat):ST:=if c∈mayL.take i then .a 2 else .l 0
structure KaV(i:Nat)(I:Int)(f:Nat->List SV)(m:Nat):Prop where
 I:I=i
 le:i<=14
 m:m=14-i
 row:∀c,c<256->f c=[.int .u8 (may2 i c)]
def kd2(n c:Nat):ST:=if c<n/\Hp c=1 then .a 1 else may2 14 c
structure KdV(c:Nat)(I:Int)(f:Nat->List SV)(m:Nat):Prop where
 I:I=c
 le:c<=256
 m:m=256-c
 row:∀k,k<256->f k=[.int .u8 (kd2 c k)]
theorem KdV.lo{c:Nat}{I:Int}{f:Nat->List SV}{m:Nat}(V:KdV c I f m):0<=I:=by have:=V.I;omega
theorem KdV.row1{c:Nat}{I:Int}{f:Nat->List SV}{m:Nat}(V:KdV c I f m)(h:c<256):∃X,f c=[.int .u8 X]:=⟨_,V.row c h⟩
theorem KdV.no{c:Nat}{I:Int}{f:Nat->List SV}{m:Nat}(V:KdV c I f m)(h:c<256)(hk:Hp c≠1):KdV (c+1) (dn.i (.bin .add .i64 (.a I) (.l 1))) f (256-(c+1)):=by
 refine⟨?_,by omega,rfl,λk hk2=>?_⟩
 ·have:=V.I
  show IntKind.i64.wrap (I+1)=_;rw[A4 (by omega) (by omega)];omega
 ·rw[V.row k hk2]
  unfold kd2;have:(k<c/\Hp k=1)↔(k<c+1/\Hp k=1):=by
   constructor
   ·rintro⟨a,b⟩;exact⟨by omega,b⟩
   ·rintro⟨a,b⟩
    refine⟨?_,b⟩;rcases Nat.lt_or_ge k c with h|h
    ·exact h
    ·obtain rfl:k=c:=by omega
     exact absurd b hk
  simp only[this]
structure FlOk(fl:Nat->List SV):Prop where
 h:∀j,j<14->fl j=[.int .u8 (.a ((mayL.getD j 0:Nat):Int))]
structure VI(vi:Int)(v:Nat):Prop where
 h:vi=(v:Int)
set_option maxHeartbeats 8000000
def D1(c:Int):Int:=if 48<=c/\c<=57 then c-48 else if 65<=c/\c<=70 then c-55 else if 97<=c/\c<=102 then c-87 else -1
theorem Ag7(c:Int):-1<=D1 c/\D1 c<=15:=by
 unfold D1
 split
 ·omega
 ·split
  ·omega
  ·split<;>omega
def Alw(s:List UInt8)(i:Nat):Prop:=i+2<s.length/\charI s i=37/\0<=D1 (charI s (i+1))/\0<=D1 (charI s (i+2))
instance (s:List UInt8) (i:Nat):Decidable (Alw s i):=by unfold Alw;exact inferInstance
def Ut(s:List UInt8)(i:Nat):Bool:=decide (Alw s i)
def escV(s:List UInt8)(i:Nat):Int:=if Alw s i then 16 * D1 (charI s (i+1))+D1 (charI s (i+2)) else 0
set_option maxHeartbeats 16000000
def Kq(s:List UInt8)(i e:Nat):Option Nat :=
 if h:i<s.length then
  if Ut s i then Kq s (i+3) e
  else if charI s i=63 then Kq s (i+1) (min e i)
  else if Hp (charI s i).toNat=0 then none
  else Kq s (i+1) e
 else some e
 termination_by s.length-i
def Tq(s:List UInt8):Int×Int :=
 if 500<s.length then (0,3) else if !Lib.hasPrefix s [47] then (0,6) else match Kq s 0 s.length with
  |some e=>((e:Int),0)
  |none=>(0,6)
structure KRow(f:Nat->List SV):Prop where
 h:∀i,i<256->f i=[.int .u8 (.a (Hp i))]
structure OrgJ(s:List UInt8)(k:Option Nat)(i e:Nat)(I E:Int)(m:Nat):Prop where
 lie:At s i I m
 E:E=e
 k:k=Kq s i e
 len:s.length<=500
theorem Akz{s:List UInt8}{i e:Nat}(h:i<s.length)(h1:Ut s i=true):Kq s i e=Kq s (i+3) e:=by
 rw[Kq,dif_pos h,if_pos h1]
theorem Ahw{s:List UInt8}{i e:Nat}(h:i<s.length)(h1:Ut s i=false)(h2:charI s i=63):Kq s i e=Kq s (i+1) (min e i):=by
 rw[Kq,dif_pos h,if_neg (by simp[h1]),if_pos h2]
theorem Ak0{s:List UInt8}{i e:Nat}(h:i<s.length)(h1:Ut s i=false)(h2:charI s i≠63)(h3:Hp (charI s i).toNat=0):Kq s i e=none:=by
 rw[Kq,dif_pos h,if_neg (by simp[h1]),if_neg h2,if_pos h3]
theorem Ahv{s:List UInt8}{i e:Nat}(h:i<s.length)(h1:Ut s i=false)(h2:charI s i≠63)(h3:Hp (charI s i).toNat≠0):Kq s i e=Kq s (i+1) e:=by
 rw[Kq,dif_pos h,if_neg (by simp[h1]),if_neg h2,if_neg h3]
def Mu(s:List UInt8):List UInt8×List UInt8×Bool×Int :=
 if (Tq s).2≠0 then ([],[],false,(Tq s).2) else if (Tq s).1≠(Am 63 s).1.length then ([],[],false,6) else ((Am 63 s).1,(Am 63 s).2.1,(Am 63 s).2.2,0)
theorem Ak1{s:List UInt8}(h:(Tq s).2=0):s.length<=500:=by
 unfold Tq at h
 split at h
 ·cases h
 ·omega
def Aiz:List UInt8:=[48,49,50,51,52,53,54,55,56,57,65,66,67,68,69,70]
def escO(v:Int):List UInt8:=if Hp v.toNat=1 then [UInt8.ofNat v.toNat] else [37,Aiz.getD (v.toNat / 16) 0,Aiz.getD (v.toNat % 16) 0]
def normL(s:List UInt8)(i:Nat):List UInt8 :=
 if h:i<s.length then if Ut s i then escO (escV s i)++normL s (i+3) else s.getD i 0 :: normL s (i+1) else []
 termination_by s.length-i
structure A7(f:Nat->List SV)(n:Int)(t:List UInt8):Prop where
 n:n=t.length
 f:∀i,i<t.length->f i=[.int .u8 (.a ((t.getD i 0).toNat:Int))]
theorem A7.more{f f' g:Nat->List SV}{n n' m:Int}{t u:List UInt8}(R:A7 f n t)(hm:m=u.length)(hg:∀i,i<u.length->g i=[.int .u8 (.a ((u.getD i 0).toNat:Int))])(h:G8 f' n' n m f g):A7 f' n' (t++u):=by
 have hn:=R.n;refine⟨by rw[h.len,hn,hm,List.length_append];omega,λi hi=>?_⟩;rw[List.length_append]at hi;rw[List.getD_eq_getElem?_getD,List.getElem?_append]
 split
 ·rename_i h1
  rw[h.lo i (by omega),R.f i h1,List.getD_eq_getElem?_getD]
 ·rename_i h1
  rw[h.hi i (i-t.length) (by omega) (by omega),hg _ (by omega),List.getD_eq_getElem?_getD]
theorem A7.str{f:Nat->List SV}{n:Int}{t r:List UInt8}(R:A7 f n t)(h:Iw r n f):r=t:=by
 have hn:=R.n;have hl:r.length=t.length:=by have:=h.len;omega
 refine List.ext_getElem hl λi h1 h2=>?_;have:=h.row i _ (by omega) (R.f i h2);have h5:((r.getD i 0).toNat:Int)=((t.getD i 0).toNat:Int):=this;have this:(r.getD i 0).toNat=(t.getD i 0).toNat:=by omega
 rw[List.getD_eq_getElem?_getD,List.getElem?_eq_getElem h1,List.getD_eq_getElem?_getD,List.getElem?_eq_getElem h2]at this;exact UInt8.toNat_inj.1 this
theorem A7.byte{f:Nat->List SV}{n:Int}{t:List UInt8}(R:A7 f n t):Fi n f:=by
 refine⟨by rw[R.n];omega,λi hi=>⟨_,R.f i (by have:=R.n;omega),?_,?_⟩⟩
 ·show (0:Int)<=((t.getD i 0).toNat:Int);omega
 ·have:=(t.getD i 0).toNat_lt;show ((t.getD i 0).toNat:Int)<256;omega
structure NoJ(s k t:List UInt8)(i:Nat)(I n:Int)(f:Nat->List SV)(m:Nat):Prop where
 lie:At s i I m
 row:A7 f n t
 k:k=t++normL s i
 le:t.length<=i
 len:s.length<=100000
theorem toNat8:∀q:Fin 256,(UInt8.ofNat q.1).toNat=q.1:=by decide
open Go Go.Sx Go.ChangeShapes Go.WideShapes Go.RowKit
theorem open3:Do Tryz.prog 3 (λn:Int=>[.int .i64 (.a n)]):=.int Tryz.underlying3
theorem Afz:Do Tryz.prog 9 (λs:{s:List UInt8 // s.length<=maxLen}=>[.str s.1]):=.str Tryz.underlying9
theorem ro3{I:Nat->Nat->Prop}{W:World}{s t r:SV}{v u x:Value}(h:RO I W s v)(k:RO I W t u)(l:RO I W r x):∀(i:Nat) (s':SV) (v':Value),[s,t,r][i]?=some s'->[v,u,x][i]?=some v'->RO I W s' v'
 |0,_,_,a,b=>by simp at a b;subst a b;exact h
 |1,_,_,a,b=>by simp at a b;subst a b;exact k
 |2,_,_,a,b=>by simp at a b;subst a b;exact l
 |_+3,_,_,a,_=>by simp at a
theorem str_fit(x:{s:List UInt8 // s.length<=maxLen}):x.1.length<=9223372036854775807:=Nat.le_trans x.2 (by decide)
abbrev U8:={n:Int // (Lit.int .u8 n).wf=true}
def u8C(n:U8):List SV:=[.int .u8 (.a n.1)]
theorem open5:Do Tryz.prog 5 u8C:=.intB Tryz.underlying5
abbrev BsD:={x:Bool×List U8 // x.2.length<=maxLen/\(x.1=true->x.2=[])}
theorem open22:Do Tryz.prog 22 (λx:BsD=>slC 1 u8C x.1):=.sliceN Tryz.underlying22 (by kernel_rfl) (by decide) open5
def sl22(x:BsD):SV:=.sl (.a x.1.1) (.a (x.1.2.length:Int)) 1 (Hk u8C x.1.2)
def Zd(x:BsD):List UInt8:=x.1.2.map λn=>UInt8.ofNat n.1.toNat
theorem u8_fit(n:U8):0<=n.1/\n.1<=255:=by
 have:=n.2;simpa[Lit.wf,IntKind.min,IntKind.max,IntKind.signed,IntKind.bits] using this
theorem rowU_of(x:BsD):A7 (Hk u8C x.1.2) (x.1.2.length:Int) (Zd x):=by
 refine⟨by unfold Zd;rw[List.length_map],λi hi=>?_⟩;unfold Zd at hi ⊢;rw[List.length_map]at hi;unfold Hk;rw[List.getElem?_eq_getElem hi,List.getD_eq_getElem?_getD,List.getElem?_map,List.getElem?_eq_getElem hi];have hf:=u8_fit x.1.2[i];have h8:=toNat8 ⟨x.1.2[i].1.toNat,by omega⟩;simp only[Option.map_some,Option.getD_some,u8C];simp only at h8;rw[h8];congr 3;omega
set_option maxHeartbeats 4000000
def preB(s p:List UInt8):Bool:=decide (p.length<=s.length)&&(s.take p.length==p)
def He(s p:List UInt8):List UInt8:=if preB s p then s.drop p.length else s
structure Two(s p:List UInt8):Prop where
 s:s.length<=9223372036854775807
 p:p.length<=9223372036854775807
def Zb:List UInt8:=[48,49,50,51,52,53,54,55,56,57]
def Ab7(s:List UInt8):Bool :=
 if He s [45]=[]\/Lib.trimS (He s [45]) Zb≠[] then false else ((He s [45]).getD 0 0 != 48)||(s==[48])
def intF(s:List UInt8)(lo hi:Int):Int×Int :=
 if !Ab7 s then (0,6) else if (Aht s).2=false\/(Aht s).1<lo\/hi<(Aht s).1 then (0,7) else ((Aht s).1,0)
theorem dig_in(c:UInt8):Zb.contains c=true↔48<=c.toNat/\c.toNat<=57:=by
 have:∀n:Fin 256,Zb.contains (UInt8.ofNat n.1)=true↔48<=n.1/\n.1<=57:=by decide
 have h:=this ⟨c.toNat,c.toNat_lt⟩;simpa using h
theorem Km(p:UInt8->Bool):∀l:List UInt8,(l.dropWhile p).dropWhile p=l.dropWhile p
 | []=>rfl
 |c :: r=>by
  by_cases h:p c=true
  ·rw[List.dropWhile_cons_of_pos h,Km p r]
  ·rw[List.dropWhile_cons_of_neg h,List.dropWhile_cons_of_neg h]
theorem Ek(p:UInt8->Bool):∀l:List UInt8,l.dropWhile p=[]↔∀x∈l,p x=true
 | []=>by simp
 |c :: r=>by
  by_cases h:p c=true
  ·rw[List.dropWhile_cons_of_pos h,Ek p r]
   simp[h]
  ·rw[List.dropWhile_cons_of_neg h]
   simp[h]
theorem Aha{l cs:List UInt8}(h:Lib.trimS l cs=[]):∀c∈l,cs.contains c=true:=by
 have h:((l.reverse.dropWhile (λx=>cs.contains x)).reverse).dropWhile (λx=>cs.contains x)=[]:=h;rw[Ek]at h;have h2:(l.reverse.dropWhile (λx=>cs.contains x)).dropWhile (λx=>cs.contains x)=[]:=by
  rw[Ek];exact λx hx=>h x (List.mem_reverse.2 hx)
 rw[Km,Ek]at h2;exact λc hc=>h2 c (List.mem_reverse.2 hc)
structure IntA(s:List UInt8)(lo hi:Int):Prop where
 len:s.length<=100000
def Gu(s:List UInt8)(hi:Int):Int×Int:=if Lib.hasPrefix s [45] then (0,6) else intF s 0 hi
theorem A7.sub{f f':Nat->List SV}{n n':Int}{t:List UInt8}{a b:Nat}{A B:Int}(R:A7 f n t)(h:Aey f' n' f A B)(hA:A=a)(hB:B=b)(hab:a<=b)(hb:b<=t.length):A7 f' n' ((t.drop a).take (b-a)):=by
 refine⟨by rw[h.len,hA,hB,List.length_take,List.length_drop];omega,λi hi=>?_⟩;rw[List.length_take,List.length_drop]at hi;rw[h.row i (i+a) (by rw[hA];omega),R.f (i+a) (by omega)];rw[List.getD_eq_getElem?_getD,List.getD_eq_getElem?_getD,List.getElem?_take,if_pos (by omega),List.getElem?_drop,Nat.add_comm a i]
theorem L5(c:UInt8)(s:List UInt8):(Am c s).1.length<=s.length/\(Am c s).2.1.length<=s.length:=by
 induction s with
 |nil=>exact⟨Nat.le_refl _,Nat.le_refl _⟩
 |cons b r ih=>unfold Am;split<;>simp<;>omega
def rVer:List UInt8:=[32,72,84,84,80,47,49,46,49,13,10]
def Se(is both:Bool)(m t:List UInt8)(has:Bool):Bool:=(((!is||!both)||m==[])||t==[])||has
def C8(b:List UInt8):List UInt8×List UInt8×Int×Int :=
 if !(Am 10 (b.take 1024)).2.2&&decide (b.length<1024) then ([],[],0,10) else if !(Am 10 (b.take 1024)).2.2 then ([],[],0,3) else
 if Se (Lib.hasSuffix ((Am 10 (b.take 1024)).1++[10]) rVer) (Am 32 (Lib.trimSuffix ((Am 10 (b.take 1024)).1++[10]) rVer)).2.2 (Am 32 (Lib.trimSuffix ((Am 10 (b.take 1024)).1++[10]) rVer)).1 (Am 32 (Lib.trimSuffix ((Am 10 (b.take 1024)).1++[10]) rVer)).2.1 (decide (0<=Lib.indexByte (Am 32 (Lib.trimSuffix ((Am 10 (b.take 1024)).1++[10]) rVer)).2.1 32)) then ([],[],0,6) else
 ((Am 32 (Lib.trimSuffix ((Am 10 (b.take 1024)).1++[10]) rVer)).1,(Am 32 (Lib.trimSuffix ((Am 10 (b.take 1024)).1++[10]) rVer)).2.1,((Am 10 (b.take 1024)).1.length:Int)+1,0)
set_option maxHeartbeats 8000000
def Jl(s:List UInt8):Bool:=decide (s.length<=16)&&Bg s
def Ly(p:List UInt8->Bool):FSpec:=λ_ xs ls K=>∃(s:List UInt8),xs=[.str s]/\ls=[]/\s.length<=9223372036854775807/\∀r,r=p s->K (.bool (.a r)) []
def Tp(t:List UInt8):Bool:=t==[104,111,115,116]||(t==[120,45,114,101,113,117,101,115,116,45,105,100]||(t==[99,111,110,116,101,110,116,45,108,101,110,103,116,104]||t==[116,114,97,110,115,102,101,114,45,101,110,99,111,100,105,110,103]))
def hostSet:List UInt8:=[97,98,99,100,101,102,103,104,105,106,107,108,109,110,111,112,113,114,115,116,117,118,119,120,121,122,48,49,50,51,52,53,54,55,56,57,45,46,58]
def Alu(s:List UInt8):Bool:=s != []&&(decide (s.length<=100)&&(Lib.trimS s hostSet==[]))
def Agw(s:List UInt8):Bool:=if s=[71,69,84] then true else if s=[72,69,65,68] then true else if s=[79,80,84,73,79,78,83] then false else if s=[84,82,65,67,69] then true else if s=[80,85,84] then false else if s=[68,69,76,69,84,69] then false else false
open Go Go.Sx Go.RowKit
set_option maxHeartbeats 2000000
theorem Wp{P:Program}{b:Bool}{gl:List (Nat×SV)}{f:FuncId}{xs:List SV}{W:World}{args:List Value}(h:Fh P gl f xs [] (.bool (.a b)) [])
  (hgl:∀g s,Sx.look g gl=some s->RO (K7 W) W s (.pointer (some ⟨g,0,none⟩))/\g<W.heap.size/\Q8 W g s) (hl:xs.length=args.length) (hr:∀(i:Nat) (s:SV) (v:Value),xs[i]?=some s->args[i]?=some v->RO (K7 W) W s v):
  Calls P f ⟨args⟩ W λe W'=>e=.returned (.bool b)/\Below W.heap.size W W':=by
 refine (h ⟨W,λ_=>False,K7 W,λ_=>none,λ_=>none,λ_=>none,[]⟩ ⟨λ_=>none,λ_=>none,λ_=>none,λ_=>none,λ_=>none,K7 W⟩ W args rfl (λ_ _ h=>h) (λ_ h=>absurd h (by simp)) ⟨rfl,rfl,rfl,Nat.le_refl _,λ_ _ _=>rfl,λ_ _ h=>⟨h,rfl⟩,λ_ _ h=>h,λ_ _ h=>.inl h,λ_ _ h=>(by cases h),⟨λ_ _ h=>(by cases h),λ_ _ h=>(by cases h),λ_ _ h=>(by cases h)⟩⟩ (λg s h=>⟨(hgl g s h).1,(hgl g s h).2.1,λh=>h,(hgl g s h).2.2⟩) (λh=>?_) ⟨hl,λi s v a b=>.ro (hr i s v a b)⟩).mono λe W' hq=>?_
 ·simp only[Aq,nth]
  exact⟨rfl,rfl,rfl,rfl⟩
 ·obtain⟨v,E',rfl,hb,_,hv⟩:=hq
  rw[hv.bool_inv];exact⟨rfl,⟨hb.os,hb.tape,hb.output,hb.size,λk hk=>hb.old k hk (λh=>h)⟩⟩
def H0(x:Nat):Bool:=decide (x≠9)&&(decide (x<32)||decide (126<x))
def okB(c:UInt8):Bool:=decide (c.toNat=9)||(decide (32<=c.toNat)&&decide (c.toNat<=126))
def Br(s:List UInt8):Bool:=s.all okB
def spRune:FSpec:=λ_ xs ls K=>∃(x:Nat),xs=[.int .i32 (.a (x:Int))]/\ls=[]/\∀r,r=H0 x->K (.bool (.a r)) []
theorem rune_ok:Ay Tryz.prog [] 171 spRune:=by
 refine Bq (gh:=[]) mixed B4 Ai Tryz.func171 (by kernel_rfl) (by kernel_rfl) ?_;intro xs ls K h;unfold spRune at h;obtain⟨x,rfl,rfl,h⟩:=h;obtain⟨k,hk⟩:∃k,k=H0 x:=⟨_,rfl⟩;refine⟨_,_,h k hk,λD hD=>?_⟩;clear h;cbv;refine Aw hD ?_;rw[hk];have e1:((x:Int)=9)↔x=9:=by omega
 have e2:((x:Int)<32)↔x<32:=by omega
 have e3:((126:Int)<x)↔126<x:=by omega
 simp only[BT.den,B9,ST.den,H0];rw[Bool.eq_iff_iff];simp only[Bool.and_eq_true,Bool.or_eq_true,bne_iff_ne,decide_eq_true_eq,Int.ofNat_eq_natCast];constructor
 ·rintro⟨h1,h2⟩
  exact⟨λe=>h1 (e1.2 e),h2.imp (λe=>e2.1 (of_decide_eq_true e)) (λe=>e3.1 (of_decide_eq_true e))⟩
 ·rintro⟨h1,h2⟩
  exact⟨λe=>h1 (e1.1 e),h2.imp (λe=>decide_eq_true (e2.2 e)) (λe=>decide_eq_true (e3.2 e))⟩
theorem Af1(c:UInt8):okB c=!H0 c.toNat:=by
 unfold okB H0
 by_cases h1:c.toNat=9<;>by_cases h2:c.toNat<32<;>by_cases h3:126<c.toNat<;>simp[h1,h2,h3]<;>omega
theorem Uf(s:ByteArray):∀(f pos:Nat),s.size<=pos+f->decide (0<=Lib.idxFuncFrom H0 true s f pos)=!((s.data.toList.drop pos).all okB)
 |0,pos,h=>by
  have:s.data.toList.drop pos=[]:=List.drop_eq_nil_of_le (show s.data.toList.length<=pos from h);rw[this];rfl
 |f+1,pos,h=>by
  unfold Lib.idxFuncFrom
  by_cases hp:pos<s.size
  ·have hp':pos<s.data.toList.length:=hp
   have hd:s.data.toList.drop pos=s[pos]'hp :: s.data.toList.drop (pos+1):=by
    rw[List.drop_eq_getElem_cons hp'];rfl
   rw[if_pos hp,hd,List.all_cons]
   by_cases ha:(s[pos]'hp).toNat<128
   ·rw[decode_ascii s pos hp ha]
    have ih:=Uf s f (pos+1) (by omega);have hb:=Af1 (s[pos]'hp)
    by_cases hr:H0 (s[pos]'hp).toNat=true
    ·rw[if_pos hr,hb,hr];simp
    ·rw[if_neg hr,hb,ih]
     simp only[Bool.not_eq_true]at hr;rw[hr];simp
   ·obtain⟨d1,_⟩:=decode_high s pos hp (by omega)
    have hr:H0 (Utf8.decode s pos).1=true:=by
     unfold H0;simp;omega
    have hb:okB (s[pos]'hp)=false:=by
     rw[Af1];simp only[H0];simp;omega
    rw[if_pos hr,hb];simp
  ·rw[if_neg hp]
   have:s.data.toList.drop pos=[]:=List.drop_eq_nil_of_le (show s.data.toList.length<=pos from Nat.not_lt.1 hp);rw[this];rfl
def spPlainH:FSpec:=λ_ xs ls K=>∃(s:List UInt8),xs=[.str s]/\ls=[]/\∀r,r=Br s->K (.bool (.a r)) []
def spHasR:FSpec:=λ_ xs ls K=>∃(s:List UInt8),xs=[.str s,.fn 171]/\ls=[]/\∀r,r=!Br s->K (.bool (.a r)) []
theorem Aja:∀args w,(callFunc 171 args).run Tryz.prog w=.ok (.enter 171 args) w:=enters_of Tryz.func171 (by kernel_rfl) rfl
theorem Ade(w:World):PredGrows Tryz.prog 171 #[] H0 w:=by
 intro W x _ _;obtain⟨r,ls',⟨hr,hl⟩,hc⟩:=rune_ok.2 [.int .i32 (.a (x:Int))] [] (λr ls'=>r=.bool (.a (H0 x))/\ls'=[]) ⟨x,rfl,rfl,λr hr=>by rw[hr];exact⟨rfl,rfl⟩⟩;subst hr hl;refine Wp (gl:=[]) hc (λg s h=>by simp[Sx.look]at h) (by simp[encR]) λi s v a b=>?_;cases i with
 |zero=>simp[encR]at a b;subst a b;exact .int rfl
 |succ i=>simp at a
theorem hasR_ok:Ay Tryz.prog gl 170 spHasR:=by
 refine⟨⟨Tryz.f170,_,Tryz.func170,rfl,by kernel_rfl⟩,λxs ls K h=>?_⟩;obtain⟨s,rfl,rfl,h⟩:=h;refine⟨_,_,h _ rfl,Bx λE B w vals _ _ _ hr=>?_⟩;obtain⟨v,g,rfl,hu,hgv⟩:=Eg hr;rw[Dj hu,hgv.fn_inv];refine (F5 171 #[] Aja H0 (Sx.bytes s) w (Ade w)).mono ?_;rintro e w' ⟨rfl,hB⟩;refine⟨_,rfl,λE=>.ro (.bool ?_),hB⟩;have:=Uf (Sx.bytes s) (Sx.bytes s).size 0 (by omega);show (!Br s)=_;rw[Lib.idxFunc,this];rfl
theorem W8:Ay Tryz.prog gl 120 spPlainH:=by
 refine Bq (gh:=[]) mixed B4 (Ab hasR_ok Ai) Tryz.func120 (by kernel_rfl) (by kernel_rfl) ?_;intro xs ls K h;unfold spPlainH at h;obtain⟨s,rfl,rfl,h⟩:=h;obtain⟨k,hk⟩:∃k,k=Br s:=⟨_,rfl⟩;refine⟨_,_,h k hk,λD hD=>?_⟩;clear h;cbv;refine⟨s,rfl,rfl,λr hr=>?_⟩;cbv;refine Aw hD ?_;rw[hk,<-Bool.not_not (Br s),<-hr];simp[BT.den]
open Go.Sx
set_option maxHeartbeats 8000000
structure HF where
 name:List UInt8
 value:List UInt8
 deriving Inhabited
def Dk(x:HF):List SV:=[.str x.name,.str x.value]
def HF.small(x:HF):Prop:=x.name.length<=9223372036854775807/\x.value.length<=9223372036854775807
structure Bu(f:Nat->List SV)(n:Int)(l:List HF):Prop where
 n:n=l.length
 f:∀i,i<l.length->f i=Dk (l.getD i default)
 len:l.length<=9223372036854775807
 small:∀i,i<l.length->(l.getD i default).small
def Kx(x:HF):Int:=x.name.length+x.value.length+4
structure SizeOk(a b:List UInt8):Prop where
 a:a.length<=1000000000000
 b:b.length<=1000000000000
def spSize:FSpec:=λ_ xs ls K=>∃(a b:List UInt8),xs=[.agg [.str a,.str b]]/\ls=[]/\SizeOk a b/\∀r,r=Kx ⟨a,b⟩->K (.int .i64 (.a r)) []
theorem size_ok:Ay Tryz.prog gl 175 spSize:=by
 refine Bq (gh:=[]) mixed B4 Ai Tryz.func175 (by kernel_rfl) (by kernel_rfl) ?_;intro xs ls K h;unfold spSize at h;obtain⟨a,b,rfl,rfl,hs,h⟩:=h;obtain⟨k,hk⟩:∃k,k=Kx ⟨a,b⟩:=⟨_,rfl⟩;refine⟨_,_,h k hk,λD hD=>?_⟩;clear h;cbv;refine Be hD ?_;have h1:=hs.a;have h2:=hs.b;rw[hk];show IntKind.i64.wrap (IntKind.i64.wrap ((a.length:Int)+b.length)+4)=_;rw[A4 (n:=(a.length:Int)+b.length) (by omega) (by omega),A4 (by omega) (by omega)];rfl
def Wf(x:HF):Bool:=!Bg x.name||(!Br x.value||trimF x.value != x.value)
def Dw:List HF->Int->Int
 | [],n=>if 8192<n then 3 else 0
 |x :: l,n=>if Wf x then 6 else if 2000<x.value.length then 3 else Dw l (n+Kx x)
def A6(l:List HF):Int:=if 100<l.length then 3 else Dw l 2
def spCheck:FSpec:=λ_ xs ls K=>∃(l:List HF) (nl:Bool) (n:Int) (f:Nat->List SV),xs=[.sl (.a nl) (.a n) 2 f]/\ls=[]/\Bu f n l/\∀r,r=A6 l->K (.int .i64 (.a r)) []
structure ChJ(k:Int)(l:List HF)(i:Nat)(I N:Int)(m:Nat):Prop where
 at_:AtR l i I m
 lo:0<=N
 hi:N<=3000 * (i+1)
 k:k=Dw (l.drop i) N
def chJ(k:Int)(l:List HF)(nl:Bool)(n:Int)(f:Nat->List SV)(m:Nat)(vs:List (Option SV))(hp:List Hl):Prop :=
 ∃(i:Nat) (I N:Int),vs=[some (.int .i64 (.a N)),some (.sl (.a nl) (.a n) 2 f),some (.int .i64 (.a n)),some (.int .i64 (.a I))]/\hp=[]/\ChJ k l i I N m
theorem O8:Ay Tryz.prog gl 125 spCheck:=by
 refine Bq (gh:=[]) mixed B4 (Ab Iz (Ab W8 (Ab Lw (Ab size_ok Ai)))) Tryz.func125 (by kernel_rfl) (by kernel_rfl) ?_;intro xs ls K h;unfold spCheck at h;obtain⟨l,nl,n,f,rfl,rfl,R,h⟩:=h;obtain⟨k,hk⟩:∃k,k=A6 l:=⟨_,rfl⟩;refine⟨_,_,h k hk,λD hD=>?_⟩;clear h;obtain⟨J,hJ⟩:∃J,J=chJ k l nl n f:=⟨_,rfl⟩;cbv;refine br hD (λh=>?_) (λh=>?_)<;>cbv
 ·refine Be hD ?_
  have h2:100<n:=of_decide_eq_true (p:=(100:Int)<n) h;rw[hk,A6,if_pos (by have:=R.n;omega)];rfl
 have h2:n<=100:=by
  have:=of_decide_eq_false (p:=(100:Int)<n) h;omega
 clear h;refine⟨[3,9,10,11],J,⟨rfl,l.length,?_⟩,?_⟩
 ·rw[hJ]
  subst hD;refine⟨0,0,2,rfl,rfl,AtR.zero R.len,by omega,by omega,?_⟩;rw[hk,A6,if_neg (by have:=R.n;omega)];rfl
 intro m vs hp hj;rw[hJ]at hj;obtain⟨i,I,N,rfl,rfl,V⟩:=hj;clear hk;cbv;refine br hD (λh=>?_) (λh=>?_)<;>cbv
 ·have hlt:=V.at_.lt R.n (of_decide_eq_true (p:=I<n) h)
  clear h;refine⟨V.at_.inB hD R.n hlt,λj hj=>?_⟩;obtain rfl:=V.at_.j hD hj;clear hj;have e1:=R.f j hlt;have hsm:=R.small j hlt;have hk2:=V.k;rw[Kn (d:=default) hlt]at hk2;obtain⟨x,hx⟩:∃x,x=l.getD j default:=⟨_,rfl⟩;rw[<-hx]at e1 hk2 hsm;obtain⟨a,b⟩:=x;cbv;rw[e1];cbv;refine⟨a,rfl,rfl,hsm.1,λt ht=>?_⟩;cbv;refine⟨b,rfl,rfl,λp hp=>?_⟩;cbv;refine⟨b,_,rfl,rfl,hsm.2,?_,?_,λq hq=>?_⟩
  ·decide
  ·decide
  cbv;have hbad:∀v:Bool,(((!t||!p)||!(q==b))=v)->Wf ⟨a,b⟩=v:=by
   intro v hv;rw[<-hv,ht,hp,hq,Sm,Bool.or_assoc];rfl
  clear ht hp hq;refine br hD (λh=>?_) (λh=>?_)<;>cbv
  ·have h3:=hbad true (by simpa[BT.den] using h)
   refine Be hD ?_;rw[hk2,Dw,if_pos h3];rfl
  have h3:=hbad false (by simpa[BT.den] using h);clear h hbad;refine br hD (λh=>?_) (λh=>?_)<;>cbv
  ·have h4:(2000:Int)<b.length:=of_decide_eq_true (p:=(2000:Int)<b.length) h
   refine Be hD ?_;rw[hk2,Dw,h3,if_neg (by simp),if_pos (by show 2000<b.length;omega)];rfl
  have h4:b.length<=2000:=by
   have:=of_decide_eq_false (p:=(2000:Int)<b.length) h;omega
  clear h;have ha:a.length<=64:=by
   unfold Wf at h3;simp only[Bool.or_eq_false_iff,Bool.not_eq_false']at h3;have:=h3.1;unfold Bg at this;simp only[Bool.and_eq_true,decide_eq_true_eq]at this;exact this.2.2
  refine⟨a,b,rfl,rfl,⟨by omega,by omega⟩,λz hz=>?_⟩;cbv;obtain⟨g1,g2⟩:=V.at_.step hD hlt;refine⟨_,g1,?_⟩;rw[hJ];have h5:z=a.length+b.length+4:=hz;have h6:=V.lo;have h7:=V.hi;have h8:=V.at_.le;have h9:IntKind.i64.wrap (N+z)=N+z:=A4 (by omega) (by have:=R.n;omega);subst hD;refine⟨j+1,_,_,rfl,rfl,g2,?_,?_,?_⟩
  ·show 0<=IntKind.i64.wrap (N+z);omega
  ·show IntKind.i64.wrap (N+z)<=_;omega
  ·show k=Dw _ (IntKind.i64.wrap (N+z))
   rw[h9,hk2,Dw,h3,if_neg (by simp),if_neg (by show ¬2000<b.length;omega),h5];rfl
 ·have hi:=V.at_.eq R.n (of_decide_eq_false (p:=I<n) h)
  have hk2:=V.k;rw[hi,List.drop_length]at hk2;clear h;refine br hD (λh=>?_) (λh=>?_)<;>cbv
  ·refine Be hD ?_
   have h2:8192<N:=of_decide_eq_true (p:=(8192:Int)<N) h;rw[hk2,Dw,if_pos h2];rfl
  ·refine Be hD ?_
   have h2:¬8192<N:=of_decide_eq_false (p:=(8192:Int)<N) h;rw[hk2,Dw,if_neg h2];rfl
def spNamed:FSpec:=λ_ xs ls K=>∃(nl:Bool) (n:Int) (f:Nat->List SV) (s:List UInt8),xs=[.sl (.a nl) (.a n) 2 f,.str s]/\ls=[]/\s.length<=9223372036854775807/\
 ∀t,t=foldF s->K (.clo 230 [.ptr 0 0,.ptr 1 0]) [.blk 23 [.sl (.a nl) (.a n) 2 f],.blk 9 [.str t]]
theorem Alc:Ay Tryz.prog gl 177 spNamed:=by
 refine Ez (gh:=[]) mixed B4 (Ab Y2 Ai) Tryz.func177 (by kernel_rfl) (by kernel_rfl) ?_;intro xs ls K h;unfold spNamed at h;obtain⟨nl,n,f,s,rfl,rfl,hs,h⟩:=h;obtain⟨k,hk⟩:∃k,k=foldF s:=⟨_,rfl⟩;refine⟨_,_,h k hk,λD hD=>?_⟩;clear h;cbv;refine⟨s,rfl,rfl,hs,λt ht=>?_⟩;rw[<-hk]at ht;subst ht;cbv;subst hD;exact Aed rfl rfl
def setF(F:List UInt8->Bool)(s:List UInt8):List UInt8->Bool:=λk=>if k=s then true else F k
def Aew(F:List UInt8->Bool)(els:List (List UInt8)):List UInt8->Bool:=els.foldl (λF s=>if Bg s then setF F (foldF s) else F) F
def Agg(t:List UInt8):List HF->(List UInt8->Bool)->(List UInt8->Bool)×Bool
 | [],F=>(F,true)
 |x :: l,F=>if foldF x.name=t then (if (Az x.value).2=0 then Agg t l (Aew F (Az x.value).1) else (F,false)) else Agg t l F
structure NmJ(t:List UInt8)(k:(List UInt8->Bool)×Bool)(l:List HF)(F:List UInt8->Bool)(i:Nat)(I:Int)(m:Nat):Prop where
 lie:AtR l i I m
 k:k=Agg t (l.drop i) F
def conn:List UInt8:=[99,111,110,110,101,99,116,105,111,110]
def fixedL:List (List UInt8):=[conn,[107,101,101,112,45,97,108,105,118,101],[112,114,111,120,121,45,99,111,110,110,101,99,116,105,111,110],[116,101],[116,114,97,105,108,101,114],[116,114,97,110,115,102,101,114,45,101,110,99,111,100,105,110,103],[117,112,103,114,97,100,101]]
def baseS:List UInt8->Bool:=fixedL.foldl setF λ_=>false
def hopsF(l:List HF):(List UInt8->Bool)×Bool:=Agg conn l baseS
theorem Ag1.eq{F' F:List UInt8->Bool}{s:List UInt8}(h:Ag1 F' F s true):F'=setF F s:=funext λk=>h.h k
structure HopJ(els:List (List UInt8))(F0 F:List UInt8->Bool)(i:Nat)(I L:Int)(m:Nat):Prop where
 lie:AtR els i I m
 L:L=els.length
 k:Aew F0 els=Aew F (els.drop i)
def Agh(l:List HF)(i:Nat):List SV:=match l[i]? with
 |some x=>Dk x
 |none=>[]
theorem Alv{l:List HF}{i:Nat}(h:i<l.length):Agh l i=Dk (l.getD i default):=by
 unfold Agh;rw[List.getElem?_eq_getElem h,List.getD_eq_getElem?_getD,List.getElem?_eq_getElem h];rfl
theorem Bu.row{l:List HF}(h:l.length<=9223372036854775807)(hs:∀i,i<l.length->(l.getD i default).small):Bu (Agh l) l.length l:=⟨rfl,λ_ hi=>Alv hi,h,hs⟩
def keepH(F:List UInt8->Bool)(x:HF):Bool:=!F (foldF x.name)
def idxH(p:HF->Bool):List HF->Int->Int
 | [],_=>-1
 |x :: l,i=>if p x then i else idxH p l (i+1)
structure IxJ(k:Int)(F:List UInt8->Bool)(l:List HF)(i:Nat)(I:Int)(m:Nat):Prop where
 lie:AtR l i I m
 k:k=idxH (λx=>F (foldF x.name)) (l.drop i) I
def Abb(F:List UInt8->Bool)(l:List HF):List HF:=l.filter (keepH F)
structure DelJ(F:List UInt8->Bool)(l:List HF)(f:Nat->List SV)(j:Nat)(I J:Int)(m:Nat):Prop where
 lie:AtR l j J m
 I:I=((Abb F (l.take j)).length:Int)
 row:∀k,k<(Abb F (l.take j)).length->f k=Dk ((Abb F (l.take j)).getD k default)
 rest:∀k,j<=k->k<l.length->f k=Dk (l.getD k default)
 tot:∀k,k<l.length->∃x,f k=Dk x
 lt:(Abb F (l.take j)).length<j
def Sw(l:List HF):List HF×Int :=
 if A6 l≠0 then ([],A6 l) else if (hopsF l).2 then (Abb (hopsF l).1 l,0) else ([],6)
structure ResH(l:List HF)(nb:Bool)(n:Int)(f:Nat->List SV):Prop where
 row:Bu f n l
 nil:nb=true->l=[]
theorem Nc{l:List HF}(h:A6 l=0):l.length<=100:=by
 unfold A6 at h
 split at h
 ·cases h
 ·omega
set_option maxHeartbeats 16000000
abbrev CS:=List (List UInt8)×Bool×Int
def capp(x:List UInt8)(σ:CS):CS:=(σ.1++[x],false,σ.2.2+1)
def cpop(σ:CS):CS:=(σ.1.dropLast,σ.2.1,σ.2.2+1)
def cstep(σ:CS)(s:List UInt8)(last:Bool):CS :=
 if s≠[46]/\s≠[46,46] then capp s σ else
 if last then capp [] (if s=[46,46]/\σ.1≠[] then cpop σ else σ) else (if s=[46,46]/\σ.1≠[] then cpop σ else σ)
theorem cutF_lt{c:UInt8}{s:List UInt8}(h:(Am c s).2.2=true):(Am c s).2.1.length<s.length:=by
 obtain⟨_,_,h3,h4⟩:=Jq h;rw[h3,List.length_drop];omega
def X9(σ:CS)(rest:List UInt8):CS :=
 if _h:(Am 47 rest).2.2=true then X9 (cstep σ (Am 47 rest).1 false) (Am 47 rest).2.1 else cstep σ (Am 47 rest).1 true
 termination_by rest.length
decreasing_by exact cutF_lt _h
structure SgJ(k:CS)(rest:List UInt8)(st:List (List UInt8))(nl:Bool)(g n:Int)(f:Nat->List SV)(m:Nat):Prop where
 m:m=rest.length
 row:Bl f n st
 k:k=X9 (st,nl,g) rest
 len:st.length+rest.length<=50000
set_option maxHeartbeats 2000000
set_option maxHeartbeats 40000000
def cleanF(s:List UInt8):List UInt8×Int :=
 if (Mu s).2.2.2≠0 then ([],(Mu s).2.2.2) else
 ([47]++Lib.join (X9 ([],true,0) ((normL (Mu s).1 0).drop 1)).1 [47]++(if (Mu s).2.2.1 then [63]++normL (Mu s).2.1 0 else []),0)
structure CBound(p q:List UInt8):Prop where
 p1:1<=p.length
 p:p.length<=500
 q:q.length<=500
structure EqI(a b:Int):Prop where
 h:a=b
set_option maxHeartbeats 2000000
structure Rq where
 id:Int
 method:List UInt8
 target:List UInt8
 host:List UInt8
 fields:List HF
 body:List UInt8
structure RqOk(r:Rq)(nl:Bool)(n:Int)(f:Nat->List SV):Prop where
 id1:-9223372036854775808<=r.id
 id2:r.id<=9223372036854775807
 method:r.method.length<=9223372036854775807
 target:r.target.length<=9223372036854775807
 host:r.host.length<=9223372036854775807
 body:r.body.length<=9223372036854775807
 row:Bu f n r.fields
 nil:nl=true->r.fields=[]
def Z4:List UInt8:=[72,111,115,116]
def Aj6:List UInt8:=[88,45,82,101,113,117,101,115,116,45,73,100]
def sCL:List UInt8:=[67,111,110,116,101,110,116,45,76,101,110,103,116,104]
def sPost:List UInt8:=[80,79,83,84]
def sPut:List UInt8:=[80,85,84]
def sPatch:List UInt8:=[80,65,84,67,72]
def S8:List UInt8:=[67,79,78,78,69,67,84]
def sId:List UInt8:=[105,100]
def Afh:List UInt8:=[109,101,116,104,111,100]
def sTarget:List UInt8:=[116,97,114,103,101,116]
def sHostP:List UInt8:=[104,111,115,116]
def sFields:List UInt8:=[102,105,101,108,100,115]
def sBody:List UInt8:=[98,111,100,121]
def Gw(r:Rq):Bool:=((r.body != []||r.method==sPost)||r.method==sPut)||r.method==sPatch
def A3(r:Rq):List HF×Int :=
 if (Sw r.fields).2≠0 then ([],(Sw r.fields).2) else
 (([⟨Z4,r.host⟩,⟨Aj6,Lib.itoa r.id⟩]++(Sw r.fields).1)++(if Gw r then [⟨sCL,Lib.itoa r.body.length⟩] else []),0)
theorem Bu.app{f g f':Nat->List SV}{n m n':Int}{a b:List HF}(R:Bu f n a)(S:Bu g m b)(h:G8 f' n' n m f g)(hl:a.length+b.length<=9223372036854775807):Bu f' n' (a++b):=by
 have hn:=R.n;have hm:=S.n;refine⟨by rw[h.len,hn,hm,List.length_append];omega,λi hi=>?_,by rw[List.length_append];exact hl,λi hi=>?_⟩
 ·rw[List.length_append]at hi
  rw[List.getD_eq_getElem?_getD,List.getElem?_append]
  split
  ·rename_i h1
   rw[h.lo i (by omega),R.f i h1,List.getD_eq_getElem?_getD]
  ·rename_i h1
   rw[h.hi i (i-a.length) (by omega) (by omega),S.f _ (by omega),List.getD_eq_getElem?_getD]
 ·rw[List.length_append]at hi
  rw[List.getD_eq_getElem?_getD,List.getElem?_append]
  split
  ·rename_i h1
   have:=R.small i h1
   rwa [List.getD_eq_getElem?_getD]at this
  ·rename_i h1
   have:=S.small (i-a.length) (by omega)
   rwa [List.getD_eq_getElem?_getD]at this
theorem Bu.one{f:Nat->List SV}{x:HF}(h:f 0=Dk x)(hs:x.small):Bu f 1 [x]:=by
 refine⟨rfl,λi hi=>?_,by simp,λi hi=>?_⟩
 ·have:i=0:=by simpa using hi
  subst this;exact h
 ·have:i=0:=by simpa using hi
  subst this;exact hs
theorem Bu.two{f:Nat->List SV}{x y:HF}(h:f 0=Dk x)(h1:f 1=Dk y)(hs:x.small)(hs1:y.small):Bu f 2 [x,y]:=by
 refine⟨rfl,λi hi=>?_,by simp,λi hi=>?_⟩
 ·match i,hi with
  |0,_=>exact h
  |1,_=>exact h1
 ·match i,hi with
  |0,_=>exact hs
  |1,_=>exact hs1
theorem Mk(l:List HF)(h:l.length<=9223372036854775807)(hs:∀i,i<l.length->(l.getD i default).small):∃g n,Bu g n l:=⟨_,_,Bu.row h hs⟩
end Go.Proofs.YtdoogdbjiijifaaGreatDoor
