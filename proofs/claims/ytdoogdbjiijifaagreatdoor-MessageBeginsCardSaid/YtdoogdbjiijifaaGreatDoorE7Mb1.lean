/- A part of the proof: contracts of functions, or the executor and its soundness. No conditions. -/
import Derived.Test.YtdoogdbjiijifaaGreatDoorE7Mbt
namespace Go.Proofs.YtdoogdbjiijifaaGreatDoor
open Go Go.Cv
set_option maxRecDepth 100000
def M0:MT:=[]
def a0:List CV:=[.s 3 0x303032]
def v0:CV:=.i .i64 200
variable {W:World}
theorem qq(τ:Nat->Nat)(h:Bv Tryz.prog W.heap.size W M0)(hw:Ly W (jX τ))(hb:∀x∈jX τ,x.1<W.heap.size):Fact Tryz.prog W.heap.size W 57 a0 v0 :=
 Eg (S:=sg M0) (H0:=H0 τ) (nx0:=nx0) (q:=10000000) (Xa _) (Xr _) (W3 _) rfl h (Mw _ τ hw hb) (by kernel_rfl)
def a1:List CV:=[.s 1 0x32]
def v1:CV:=.i .i64 2
theorem qp(τ:Nat->Nat)(h:Bv Tryz.prog W.heap.size W M0)(hw:Ly W (jX τ))(hb:∀x∈jX τ,x.1<W.heap.size):Fact Tryz.prog W.heap.size W 57 a1 v1 :=
 Eg (S:=sg M0) (H0:=H0 τ) (nx0:=nx0) (q:=10000000) (Xa _) (Xr _) (W3 _) rfl h (Mw _ τ hw hb) (by kernel_rfl)
def a2:List CV:=[.s 3 0x544547]
def v2:CV:=.b true
theorem qo(τ:Nat->Nat)(h:Bv Tryz.prog W.heap.size W M0)(hw:Ly W (jX τ))(hb:∀x∈jX τ,x.1<W.heap.size):Fact Tryz.prog W.heap.size W 61 a2 v2 :=
 Eg (S:=sg M0) (H0:=H0 τ) (nx0:=nx0) (q:=10000000) (Xa _) (Xr _) (W3 _) rfl h (Mw _ τ hw hb) (by kernel_rfl)
def a3:List CV:=[.s 14 0x6874676e654c2d746e65746e6f43]
def v3:CV:=.b true
theorem qn(τ:Nat->Nat)(h:Bv Tryz.prog W.heap.size W M0)(hw:Ly W (jX τ))(hb:∀x∈jX τ,x.1<W.heap.size):Fact Tryz.prog W.heap.size W 61 a3 v3 :=
 Eg (S:=sg M0) (H0:=H0 τ) (nx0:=nx0) (q:=10000000) (Xa _) (Xr _) (W3 _) rfl h (Mw _ τ hw hb) (by kernel_rfl)
def a4:List CV:=[.s 17 0x676e69646f636e652d726566736e617274]
def v4:CV:=.b true
theorem ql(τ:Nat->Nat)(h:Bv Tryz.prog W.heap.size W M0)(hw:Ly W (jX τ))(hb:∀x∈jX τ,x.1<W.heap.size):Fact Tryz.prog W.heap.size W 61 a4 v4 :=
 Eg (S:=sg M0) (H0:=H0 τ) (nx0:=nx0) (q:=10000000) (Xa _) (Xr _) (W3 _) rfl h (Mw _ τ hw hb) (by kernel_rfl)
def a5:List CV:=[.s 14 0x6874676e656c2d746e65746e6f63]
def v5:CV:=.b true
theorem qk(τ:Nat->Nat)(h:Bv Tryz.prog W.heap.size W M0)(hw:Ly W (jX τ))(hb:∀x∈jX τ,x.1<W.heap.size):Fact Tryz.prog W.heap.size W 61 a5 v5 :=
 Eg (S:=sg M0) (H0:=H0 τ) (nx0:=nx0) (q:=10000000) (Xa _) (Xr _) (W3 _) rfl h (Mw _ τ hw hb) (by kernel_rfl)
def a6:List CV:=[.s 1 0x32,.s 2 0x0920]
def v6:CV:=.s 1 0x32
theorem qj(τ:Nat->Nat)(h:Bv Tryz.prog W.heap.size W M0)(hw:Ly W (jX τ))(hb:∀x∈jX τ,x.1<W.heap.size):Fact Tryz.prog W.heap.size W 116 a6 v6 :=
 Eg (S:=sg M0) (H0:=H0 τ) (nx0:=nx0) (q:=10000000) (Xa _) (Xr _) (W3 _) rfl h (Mw _ τ hw hb) (by kernel_rfl)
def a7:List CV:=[.s 14 0x6874676e654c2d746e65746e6f43]
def v7:CV:=.s 14 0x6874676e656c2d746e65746e6f63
theorem qg(τ:Nat->Nat)(h:Bv Tryz.prog W.heap.size W M0)(hw:Ly W (jX τ))(hb:∀x∈jX τ,x.1<W.heap.size):Fact Tryz.prog W.heap.size W 128 a7 v7 :=
 Eg (S:=sg M0) (H0:=H0 τ) (nx0:=nx0) (q:=10000000) (Xa _) (Xr _) (W3 _) rfl h (Mw _ τ hw hb) (by kernel_rfl)
end Go.Proofs.YtdoogdbjiijifaaGreatDoor
