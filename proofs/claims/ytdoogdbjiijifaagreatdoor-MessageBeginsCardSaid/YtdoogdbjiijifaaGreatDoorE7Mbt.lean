/- A part of the proof: contracts of functions, or the executor and its soundness. No conditions. -/
import Derived.Test.YtdoogdbjiijifaaGreatDoorProg
import Derived.Test.YtdoogdbjiijifaaGreatDoorE7Pav
namespace Go.Proofs.YtdoogdbjiijifaaGreatDoor
noncomputable section
open Go Go.Cv
set_option maxRecDepth 100000
def cL(a b:Tr TI):Tr TI:=.n none a b
def eB(x:TI):Tr TI:=.n (some x) .e .e
def eO(x:TI)(a b:Tr TI):Tr TI:=.n (some x) a b
def vU(n:Nat):TI:=⟨.ptr n,1,8,[.np]⟩
def wE(n:Nat):TI:=⟨.slice n,1,24,[.ns]⟩
def dV:CV:=.i .i64 0
def eF:CV:=.s 0 0
def ng:TI:=⟨.func,1,8,[.nf]⟩
def EO:TI:=⟨.int .i64,1,8,[dV]⟩
def NK:TI:=⟨.int .u8,1,1,[.i .u8 0]⟩
def SB:TI:=⟨.int .i32,1,4,[.i .i32 0]⟩
def SA:TI:=⟨.string,1,16,[eF]⟩
def RZ:TI:=⟨.int .u64,1,8,[.i .u64 0]⟩
def RY:TI:=⟨.iface,1,16,[.ni]⟩
def tq7:TI:=⟨.struct [(0,2),(1,3),(2,4),(3,6)],4,24,[dV,dV,.b false,.i .u8 0]⟩
def tq8:TI:=⟨.struct [(0,59)],29,368,[dV,eF,eF,eF,.ns,eF,eF,dV,eF,dV,dV,eF,dV,dV,eF,.ns,dV,eF,dV,dV,eF,eF,dV,.ns,dV,dV,dV,.b false,dV]⟩
def tq9:TI:=⟨.struct [(0,17),(1,17),(2,17),(3,9)],4,40,[.np,.np,.np,eF]⟩
def EN:TI:=⟨.struct [(0,2),(1,9),(2,9),(3,9),(4,23),(5,9)],6,96,[dV,eF,eF,eF,.ns,eF]⟩
def EM:TI:=⟨.struct [(0,9),(1,9),(2,157)],3,48,[eF,eF,.ni]⟩
def EL:TI:=⟨.struct [(0,17)],1,8,[.np]⟩
def EK:TI:=⟨.struct [(0,3),(1,9),(2,9),(3,3),(4,23)],5,72,[dV,eF,eF,dV,.ns]⟩
def EJ:TI:=⟨.struct [(0,45),(8,4),(9,57)],10,128,[dV,dV,eF,.ns,dV,eF,.ns,.b false,.b false,dV]⟩
def EI:TI:=⟨.array 3 21,3,12,[.i .i32 0,.i .i32 0,.i .i32 0]⟩
def EH:TI:=⟨.struct [(0,9),(1,9)],2,32,[eF,eF]⟩
def EG:TI:=⟨.struct [(0,3),(1,3),(2,9),(3,57)],4,40,[dV,dV,eF,dV]⟩
def EF:TI:=⟨.struct [(0,178),(1,22)],2,32,[.np,.ns]⟩
def EE:TI:=⟨.struct [(0,329)],0,0,[]⟩
def ED:TI:=⟨.struct [(0,5),(1,5)],2,2,[.i .u8 0,.i .u8 0]⟩
def EC:TI:=⟨.struct [(0,55),(6,9),(7,3),(8,38),(24,3),(25,3),(26,3),(27,4),(28,57)],29,368,[dV,eF,eF,eF,.ns,eF,eF,dV,eF,dV,dV,eF,dV,dV,eF,.ns,dV,eF,dV,dV,eF,eF,dV,.ns,dV,dV,dV,.b false,dV]⟩
def EB:TI:=⟨.struct [(0,36),(5,22),(6,22),(7,3),(8,3)],9,136,[dV,eF,eF,dV,.ns,.ns,.ns,dV,dV]⟩
def EA:TI:=⟨.struct [(0,3),(1,192)],2,16,[dV,.nf]⟩
def DZ:TI:=⟨.struct [(0,12),(1,12),(2,285),(3,332),(4,5),(5,5),(6,333),(7,334),(8,225),(9,335),(10,336)],11,48,[.i .u64 0,.i .u64 0,.i .u32 0,.i .u8 0,.i .u8 0,.i .u8 0,.i .u8 0,.nf,.np,.i .i32 0,.i .i32 0]⟩
def DY:TI:=⟨.struct [(0,9)],1,16,[eF]⟩
def DX:TI:=⟨.struct [(0,3),(1,3),(2,9),(3,23)],4,56,[dV,dV,eF,.ns]⟩
def DW:TI:=⟨.struct [(0,9),(1,12)],2,24,[eF,.i .u64 0]⟩
def DV:TI:=⟨.struct [(0,9),(1,3),(2,3),(3,9),(4,25),(8,3),(9,9),(10,3),(11,36)],16,208,[eF,dV,dV,eF,dV,dV,eF,.ns,dV,eF,dV,dV,eF,eF,dV,.ns]⟩
def DU:TI:=⟨.array 256 4,256,256,List.replicate 256 (.b false)⟩
def DT:TI:=⟨.struct [(0,285),(1,285),(2,324)],5,20,[.i .u32 0,.i .u32 0,.i .i32 0,.i .i32 0,.i .i32 0]⟩
def DS:TI:=⟨.struct [(0,25),(4,3),(5,9),(6,23),(7,4)],8,112,[dV,dV,eF,.ns,dV,eF,.ns,.b false]⟩
def DR:TI:=⟨.struct [(0,3),(1,3),(2,23),(3,9),(4,3),(5,5)],6,72,[dV,dV,.ns,eF,dV,.i .u8 0]⟩
def DQ:TI:=⟨.struct [(0,38),(16,22),(17,22)],18,256,[eF,dV,dV,eF,dV,dV,eF,.ns,dV,eF,dV,dV,eF,eF,dV,.ns,.ns,.ns]⟩
def TT:Tr TI:=(cL (cL (eO EO (eO tq7 (eO (vU 328) (cL (cL (eB ⟨.map 3 126,1,8,[.nm]⟩) (cL (eB ⟨.array 64 5,64,64,List.replicate 64 (.i .u8 0)⟩) .e)) .e) (cL (cL (eB tq8) (cL
 (eB SB) .e)) (eO (wE 9) (cL (eB (vU 305)) .e) (eB (vU 280))))) (eO (wE 100) (cL (cL .e (cL (eB tq9) .e)) .e) (eO EN (cL (cL (eB EM) .e) .e) .e))) (eO SA
 (eO EL (eO EK (eO EJ (cL (eB ⟨.pU,1,8,[.np]⟩) .e) (cL (eB EI) .e)) (eB EH)) (cL (eB EG) (cL (eB EF) .e))) (eO ng (cL (cL .e (cL (eB EE) .e))
 (cL (cL (eB ED) .e) .e)) (eO EC (cL .e (eB EB)) (eB (vU 125)))))) (eO NK (eO SA (eO (vU 338) (cL (cL .e (eB EA)) (eO ⟨.int .u16,1,2,[.i .u16 0]⟩ .e (eB
 (vU 5)))) (cL (cL .e (cL (eB DZ) .e)) (cL (cL (eB DY) .e) .e))) (eO DX (cL (cL (cL (eB ⟨.struct [(0,9),(1,4),(2,4),(3,4)],4,24,[eF,.b false,.b false,
 .b false]⟩) .e) (cL (eB ⟨.array 0 16,0,0,[]⟩) .e)) .e) (eO EO (cL .e (eB ng)) (cL (cL (eB (wE 326)) .e) (eB RZ))))) (eO DW (eO SB (eO DV (cL (cL (eB
 ⟨.array 256 5,256,256,List.replicate 256 (.i .u8 0)⟩) .e) (eO DU (eB DT) .e)) .e) (cL .e (eB (wE 27)))) (cL (eO DS (cL .e (cL (eB NK) .e)) (cL (cL (eB ⟨.array
 16 300,32,32,List.replicate 32 (.i .u8 0)⟩) .e) .e)) (cL (eO DR (eO RY (eB ⟨.int .u32,1,4,[.i .u32 0]⟩) .e) .e) (eB DQ)))))) (eO EO (eO ⟨.bool,1,1,[.b false]⟩
 (eO tq7 (eO (vU 331) (eO ng (eO ng (cL (eB ng) .e) (eO ng (eB (vU 326)) .e)) .e) (cL (cL (eB tq8) (cL (eB SB) .e)) (cL (cL (eB DY) .e) .e))) (eO DX (cL
 (cL .e (cL (eB tq9) .e)) (cL (cL (eB ⟨.array 5 9,5,80,List.replicate 5 (eF)⟩) .e) .e)) (cL (eO (wE 97) (cL (eB EM) .e) .e) (cL .e (eB ⟨.array 24 5,24,24,
 List.replicate 24 (.i .u8 0)⟩))))) (eO RZ (eO RY (eO EK (eO EJ (eB (wE 3)) (cL (eB EI) .e)) (eB EH)) (cL .e (cL (eB EF) .e))) (eO EO (eO DS (eO (wE
 28) .e (cL (eB NK) .e)) (cL (cL (eB ED) .e) (eB EO))) (cL (cL (eO RY (eB ⟨.array 20 249,20,160,List.replicate 20 (.i .u64 0)⟩) .e) (eB EB)) (eB DQ))))) (eO
 NK (eO SA (eO EL (cL (cL .e (eB EA)) .e) (cL (eO EG .e (cL (eB DZ) .e)) (cL (eB (vU 180)) .e))) (cL (cL (eO (wE 83) (cL (eB ⟨.array 6 265,24,144,[eF,
 .b false,.b false,.b false,eF,.b false,.b false,.b false,eF,.b false,.b false,.b false,eF,.b false,.b false,.b false,eF,.b false,.b false,.b false,eF,.b
 false,.b false,.b false]⟩) .e) (eO (vU 198) (eB EE) .e)) .e) (eO EC (cL .e (eB ⟨.array 4 217,4,32,[.nf,.nf,.nf,.nf]⟩)) (cL (cL (eB ⟨.map 9 4,1,8,[.nm]⟩) .e)
 .e)))) (eO DW (eO (wE 5) (eO DV (cL .e (eO DU (eB DT) .e)) .e) (eO EN (cL (cL (eB RZ) .e) (eB (vU 220))) (cL (eB (wE 22)) .e))) (cL (cL (cL (eB (vU
 144)) (cL (eB ng) .e)) .e) (cL (eO DR (cL (eB ⟨.array 65 5,65,65,List.replicate 65 (.i .u8 0)⟩) .e) .e) (eO ng (eO (wE 194) (eB ⟨.array 32 5,32,32,List.replicate
 32 (.i .u8 0)⟩) .e) .e)))))))
def XT:Tr Nat:=(.n none (.n none (.n none (.n none (.n none .e
 (.n none (.n none .e
 (.n none .e
 (.n none (.n none .e
 (.n none (.n none (.n none (.n none (.n none .e
 (.n none (.n none .e
 (.n none .e
 (.n none .e
 (.n (some 0) .e
 .e))))
 .e))
 .e)
 .e)
 .e)
 .e))
 .e)))
 (.n (some 2) .e
 .e)))
 (.n none (.n none (.n none .e
 (.n none (.n none (.n none .e
 (.n none (.n none (.n none (.n none (.n none .e
 (.n none (.n none .e
 (.n none .e
 (.n none .e
 (.n (some 0) .e
 .e))))
 .e))
 .e)
 .e)
 .e)
 .e))
 .e)
 .e))
 .e)
 (.n none .e
 (.n none .e
 (.n none (.n none (.n none .e
 (.n none (.n none (.n none (.n none (.n none .e
 (.n none (.n none .e
 (.n none .e
 (.n none .e
 (.n (some 0) .e
 .e))))
 .e))
 .e)
 .e)
 .e)
 .e))
 .e)
 .e)))))
 (.n none (.n none (.n none (.n none (.n none .e
 (.n none (.n none .e
 (.n none (.n none (.n none (.n none (.n none .e
 (.n none (.n none .e
 (.n none .e
 (.n none .e
 (.n (some 0) .e
 .e))))
 .e))
 .e)
 .e)
 .e)
 .e))
 .e))
 .e)
 (.n none (.n none .e
 (.n none (.n none .e
 (.n none (.n none (.n none (.n none (.n none .e
 (.n none (.n none .e
 (.n none .e
 (.n none .e
 (.n (some 0) .e
 .e))))
 .e))
 .e)
 .e)
 .e)
 .e))
 .e))
 (.n none (.n none (.n none .e
 (.n none (.n none (.n none (.n none (.n none .e
 (.n none (.n none .e
 (.n none .e
 (.n none .e
 (.n (some 0) .e
 .e))))
 .e))
 .e)
 .e)
 .e)
 .e))
 .e)
 .e)))
 (.n none (.n none (.n none .e
 (.n none (.n none .e
 (.n none (.n none (.n none (.n none (.n none .e
 (.n none (.n none .e
 (.n none .e
 (.n none .e
 (.n (some 0) .e
 .e))))
 .e))
 .e)
 .e)
 .e)
 .e))
 .e))
 .e)
 (.n none .e
 (.n none .e
 (.n none (.n none .e
 (.n none (.n none (.n none (.n none (.n none .e
 (.n none (.n none .e
 (.n none .e
 (.n none .e
 (.n (some 0) .e
 .e))))
 .e))
 .e)
 .e)
 .e)
 .e))
 .e)))))
 (.n none (.n none .e
 (.n none .e
 (.n none (.n none .e
 (.n none .e
 (.n none (.n none (.n none (.n none (.n none .e
 (.n none (.n none .e
 (.n none .e
 (.n none .e
 (.n (some 0) .e
 .e))))
 .e))
 .e)
 .e)
 .e)
 .e)))
 .e)))
 (.n none (.n none (.n none (.n none .e
 (.n none .e
 (.n none (.n none (.n none (.n none (.n none .e
 (.n none (.n none .e
 (.n none .e
 (.n none .e
 (.n (some 0) .e
 .e))))
 .e))
 .e)
 .e)
 .e)
 .e)))
 .e)
 .e)
 (.n none .e
 (.n (some 3) (.n none (.n none .e
 (.n none (.n none (.n none (.n none (.n none .e
 (.n none (.n none .e
 (.n none .e
 (.n none .e
 (.n (some 0) .e
 .e))))
 .e))
 .e)
 .e)
 .e)
 .e))
 .e)
 .e))))))
 (.n none (.n none (.n none (.n none (.n none (.n none (.n none .e
 (.n none .e
 (.n none (.n none (.n none (.n none (.n none .e
 (.n none (.n none .e
 (.n none .e
 (.n none .e
 (.n (some 0) .e
 .e))))
 .e))
 .e)
 .e)
 .e)
 .e)))
 .e)
 .e)
 .e)
 (.n none .e
 (.n none .e
 (.n none (.n none .e
 (.n none .e
 (.n none (.n none (.n none (.n none (.n none .e
 (.n none (.n none .e
 (.n none .e
 (.n none .e
 (.n (some 0) .e
 .e))))
 .e))
 .e)
 .e)
 .e)
 .e)))
 .e))))
 (.n none (.n none (.n none .e
 (.n none (.n none .e
 (.n none .e
 (.n none (.n none (.n none (.n none (.n none .e
 (.n none (.n none .e
 (.n none .e
 (.n none .e
 (.n (some 0) .e
 .e))))
 .e))
 .e)
 .e)
 .e)
 .e)))
 .e))
 .e)
 (.n none (.n none .e
 (.n none (.n none (.n none .e
 (.n none (.n none (.n none (.n none (.n none .e
 (.n none (.n none .e
 (.n none .e
 (.n none .e
 (.n (some 0) .e
 .e))))
 .e))
 .e)
 .e)
 .e)
 .e))
 .e)
 .e))
 .e)))
 (.n none (.n none (.n none (.n none (.n none .e
 (.n none .e
 (.n none .e
 (.n none (.n none (.n none (.n none (.n none .e
 (.n none (.n none .e
 (.n none .e
 (.n none .e
 (.n (some 0) .e
 .e))))
 .e))
 .e)
 .e)
 .e)
 .e))))
 .e)
 (.n none .e
 (.n none (.n none (.n none .e
 (.n none (.n none (.n none (.n none (.n none .e
 (.n none (.n none .e
 (.n none .e
 (.n none .e
 (.n (some 0) .e
 .e))))
 .e))
 .e)
 .e)
 .e)
 .e))
 .e)
 .e)))
 .e)
 (.n none (.n none .e
 (.n none .e
 (.n none (.n none (.n none .e
 (.n none (.n none (.n none (.n none (.n none .e
 (.n none (.n none .e
 (.n none .e
 (.n none .e
 (.n (some 0) .e
 .e))))
 .e))
 .e)
 .e)
 .e)
 .e))
 .e)
 .e)))
 (.n none (.n none (.n none .e
 (.n none (.n none .e
 (.n none (.n none (.n none (.n none (.n none .e
 (.n none (.n none .e
 (.n none .e
 (.n none .e
 (.n (some 0) .e
 .e))))
 .e))
 .e)
 .e)
 .e)
 .e))
 .e))
 .e)
 (.n none (.n none .e
 (.n none (.n none .e
 (.n none (.n none (.n none (.n none (.n none .e
 (.n none (.n none .e
 (.n none .e
 (.n none .e
 (.n (some 0) .e
 .e))))
 .e))
 .e)
 .e)
 .e)
 .e))
 .e))
 .e))))))
 (.n none (.n none (.n none (.n none .e
 (.n none (.n none .e
 (.n none .e
 (.n none (.n none .e
 (.n none (.n none (.n none (.n none (.n none .e
 (.n none (.n none .e
 (.n none .e
 (.n none .e
 (.n (some 0) .e
 .e))))
 .e))
 .e)
 .e)
 .e)
 .e))
 .e)))
 (.n none (.n none (.n (some 4) .e
 .e)
 .e)
 (.n none (.n none .e
 (.n none .e
 (.n none (.n none (.n none (.n none (.n none .e
 (.n none (.n none .e
 (.n none .e
 (.n none .e
 (.n (some 0) .e
 .e))))
 .e))
 .e)
 .e)
 .e)
 .e)))
 (.n none .e
 (.n none .e
 (.n none .e
 (.n none (.n none (.n none (.n none .e
 (.n none .e
 (.n none .e
 (.n none (.n none .e
 (.n none .e
 (.n none (.n (some 5) .e
 .e)
 .e)))
 .e))))
 .e)
 .e)
 .e))))))))
 (.n none (.n none (.n none .e
 (.n none (.n none (.n none .e
 (.n none (.n none (.n none (.n none (.n none .e
 (.n none (.n none .e
 (.n none .e
 (.n none .e
 (.n (some 0) .e
 .e))))
 .e))
 .e)
 .e)
 .e)
 .e))
 .e)
 .e))
 .e)
 (.n none (.n none .e
 (.n none (.n none (.n none .e
 (.n none (.n none (.n none (.n none (.n none .e
 (.n none (.n none .e
 (.n none .e
 (.n none .e
 (.n (some 0) .e
 .e))))
 .e))
 .e)
 .e)
 .e)
 .e))
 .e)
 .e))
 .e)))
 (.n none (.n none (.n none (.n none (.n none .e
 (.n none (.n none .e
 (.n none (.n none (.n none (.n none (.n none .e
 (.n none (.n none .e
 (.n none .e
 (.n none .e
 (.n (some 0) .e
 .e))))
 .e))
 .e)
 .e)
 .e)
 .e))
 .e))
 .e)
 (.n none (.n none .e
 (.n none (.n none .e
 (.n none (.n none (.n none (.n none (.n none .e
 (.n none (.n none .e
 (.n none .e
 (.n none .e
 (.n (some 0) .e
 .e))))
 .e))
 .e)
 .e)
 .e)
 .e))
 .e))
 (.n none (.n none (.n none .e
 (.n none (.n none (.n none (.n none (.n none .e
 (.n none (.n none .e
 (.n none .e
 (.n none .e
 (.n (some 0) .e
 .e))))
 .e))
 .e)
 .e)
 .e)
 .e))
 .e)
 .e)))
 (.n none .e
 (.n none .e
 (.n none .e
 (.n none (.n none .e
 (.n none (.n none (.n none (.n none (.n none .e
 (.n none (.n none .e
 (.n none .e
 (.n none .e
 (.n (some 0) .e
 .e))))
 .e))
 .e)
 .e)
 .e)
 .e))
 .e)))))
 (.n none (.n none .e
 (.n none (.n none (.n (some 1) .e
 .e)
 .e)
 (.n none (.n none (.n none .e
 (.n none (.n none (.n none (.n none (.n none .e
 (.n none (.n none .e
 (.n none .e
 (.n none .e
 (.n (some 0) .e
 .e))))
 .e))
 .e)
 .e)
 .e)
 .e))
 (.n none .e
 (.n none (.n none (.n none (.n none (.n none .e
 (.n none (.n none .e
 (.n none .e
 (.n none .e
 (.n (some 0) .e
 .e))))
 .e))
 .e)
 .e)
 .e)
 .e)))
 .e)))
 (.n none (.n none (.n none (.n none .e
 (.n none .e
 (.n none (.n none (.n none (.n none (.n none .e
 (.n none (.n none .e
 (.n none .e
 (.n none .e
 (.n (some 0) .e
 .e))))
 .e))
 .e)
 .e)
 .e)
 .e)))
 .e)
 .e)
 (.n none (.n none .e
 (.n none (.n none .e
 (.n none (.n none (.n none (.n none (.n none .e
 (.n none (.n none .e
 (.n none .e
 (.n none .e
 (.n (some 0) .e
 .e))))
 .e))
 .e)
 .e)
 .e)
 .e))
 .e))
 .e)))))
 (.n none (.n none (.n none (.n none (.n none (.n none (.n none .e
 (.n none .e
 (.n none (.n none (.n none (.n none (.n none .e
 (.n none (.n none .e
 (.n none .e
 (.n none .e
 (.n (some 0) .e
 .e))))
 .e))
 .e)
 .e)
 .e)
 .e)))
 .e)
 .e)
 .e)
 (.n none (.n none (.n none .e
 (.n none (.n none .e
 (.n none (.n none (.n none (.n none (.n none .e
 (.n none (.n none .e
 (.n none .e
 (.n none .e
 (.n (some 0) .e
 .e))))
 .e))
 .e)
 .e)
 .e)
 .e))
 .e))
 .e)
 .e))
 (.n none .e
 (.n none .e
 (.n none .e
 (.n none (.n none (.n none .e
 (.n none (.n none (.n none (.n none (.n none .e
 (.n none (.n none .e
 (.n none .e
 (.n none .e
 (.n (some 0) .e
 .e))))
 .e))
 .e)
 .e)
 .e)
 .e))
 .e)
 .e)))))
 (.n none (.n none (.n none (.n none (.n none .e
 (.n none .e
 (.n none .e
 (.n none (.n none (.n none (.n none (.n none .e
 (.n none (.n none .e
 (.n none .e
 (.n none .e
 (.n (some 0) .e
 .e))))
 .e))
 .e)
 .e)
 .e)
 .e))))
 .e)
 (.n none .e
 (.n none (.n none (.n none .e
 (.n none (.n none (.n none (.n none (.n none .e
 (.n none (.n none .e
 (.n none .e
 (.n none .e
 (.n (some 0) .e
 .e))))
 .e))
 .e)
 .e)
 .e)
 .e))
 .e)
 .e)))
 (.n none .e
 (.n none .e
 (.n none (.n none (.n none .e
 (.n none (.n none (.n none (.n none (.n none .e
 (.n none (.n none .e
 (.n none .e
 (.n none .e
 (.n (some 0) .e
 .e))))
 .e))
 .e)
 .e)
 .e)
 .e))
 .e)
 .e))))
 (.n none .e
 (.n none (.n none (.n none .e
 (.n none (.n none .e
 (.n none (.n none (.n none (.n none (.n none .e
 (.n none (.n none .e
 (.n none .e
 (.n none .e
 (.n (some 0) .e
 .e))))
 .e))
 .e)
 .e)
 .e)
 .e))
 .e))
 .e)
 .e))))))
def OX:List CV:=[.i .u64 1,.i .u64 10,.i .u64 100,.i .u64 1000,.i .u64 10000,.i .u64 100000,.i .u64 1000000,.i .u64 10000000,.i .u64 100000000,.i .u64 1000000000,.i .u64 10000000000,.i .u64 100000000000,.i .u64 1000000000000,.i .u64 10000000000000,.i .u64 100000000000000,.i .u64 1000000000000000,.i .u64 10000000000000000,.i .u64 100000000000000000,.i .u64 1000000000000000000,.i .u64 10000000000000000000]
def OW:List CV:=[.s 3 5522759,.b true,.b true,.b true,.s 4 1145128264,.b true,.b true,.b true,.s 7 23448525506629711,.b true,.b true,.b false,.s 5 297481097812,.b true,.b true,.b true,.s 3 5526864,.b false,.b true,.b false,.s 6 76228242195780,.b false,.b true,.b false]
def GT:Tr Nat:=(.n none (.n (some 1) .e .e) (.n none (.n (some 0) .e .e) .e))
def jX(τ:Nat->Nat):GL:=[(4,τ 4,OX),(1,τ 1,OW)]
def H0(τ:Nat->Nat):Tr CO:=(.n (some (.c (τ 4) (oZ OX 0) 20 1 0 true false)) (.n (some (.c (τ 1) (oZ OW 0) 24 1 0 true false)) .e .e) .e)
def nx0:Nat:=2
def enM(M:MT):En:={ T:=TT.get,F:=yc Tryz.prog,G:=GT.get,X:=XT.get,M:=λf=>NF f M }
def sg(M:MT):Sg:=⟨Tryz.prog,enM M⟩
theorem ckM:Tryz.prog.follows .mixedOrders=true:=by kernel_rfl
theorem ckT:Jh 40 (λt ti=>zJ Tryz.prog t ti) TT=true:=by kernel_rfl
theorem ckN:(Tryz.prog.funcs.toList.all λfn=>!(fn.name=="runtime.NumGoroutine"))=true:=by kernel_rfl
theorem ckC:Jh 40 (λk _=>bif Nat.ble 1000000 k then CZ Tryz.prog (k-1000000) else true) XT=true:=by kernel_rfl
def exts:List (Nat×Nat):=[(111,2),(251,3),(300,1),(304,4)]
theorem ckX:Jh 40 (λk v=>bif Nat.ble 1000000 k then true else DE exts k v) XT=true:=by kernel_rfl
theorem yi(M:MT):Pv (sg M) 111 2:=.ib (by simp) Tryz.func111 (by kernel_rfl) (by kernel_rfl) (by kernel_rfl) (by kernel_rfl)
theorem yh(M:MT):Pv (sg M) 251 3:=.ne Tryz.func251 (by kernel_rfl) (by kernel_rfl) (by kernel_rfl) (by kernel_rfl)
theorem yg(M:MT):Pv (sg M) 300 1:=.ib (by simp) Tryz.func300 (by kernel_rfl) (by kernel_rfl) (by kernel_rfl) (by kernel_rfl)
theorem yf(M:MT):Pv (sg M) 304 4:=.mz (ps:=Tryz.f304.params) (t:=22) (e:=5) Tryz.func304 (by kernel_rfl) (by kernel_rfl) (by kernel_rfl) (by kernel_rfl) (by kernel_rfl) (by kernel_rfl)
theorem Xa(M:MT):eH (sg M):=tu (S:=sg M) (TT:=TT) (XT:=XT) ckM rfl rfl ckT ckC
theorem Xr(M:MT):vZ (sg M):=x9 (S:=sg M) rfl ckN
theorem W3(M:MT):zy (sg M):=sk (S:=sg M) (XT:=XT) (l:=exts) rfl ckX (Mh (yi M) (Mh (yh M) (Mh (yg M) (Mh (yf M) Aor))))
theorem Mw(M:MT){W:World}(τ:Nat->Nat)(hw:Ly W (jX τ))(hb:∀x∈jX τ,x.1<W.heap.size):Init (sg M) W.heap.size W (H0 τ) nx0 :=
 dx (S:=sg M) (l:=jX τ) (GT:=GT) rfl (by kernel_rfl) (by kernel_rfl) (by simp[jX]) (by kernel_rfl) (by simp[jX]) (by simp[jX,OX,OW]) hb hw
end
end Go.Proofs.YtdoogdbjiijifaaGreatDoor
