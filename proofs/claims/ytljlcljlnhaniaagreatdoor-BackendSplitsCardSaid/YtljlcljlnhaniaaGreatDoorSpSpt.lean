/- Part of the proof of the statement: an evaluator of the code at closed data, run by the kernel, and that it is sound; it has no conditions of its own. -/
import Derived.Test.YtljlcljlnhaniaaGreatDoorProg
import Derived.Test.YtljlcljlnhaniaaGreatDoorCvg
set_option linter.unusedVariables false
set_option linter.unusedSimpArgs false
namespace Go.Proofs.YtljlcljlnhaniaaGreatDoor
open Go Go.Cv
set_option maxRecDepth 100000
/-! The tables. -/
noncomputable def TT : Tr TI := (.n none (.n (some ⟨.func, 1, 8, [.nf]⟩) (.n (some ⟨.int .i64, 1, 8, [.i .i64 0]⟩) (.n (some ⟨.struct [(0, 2), (1, 3), (2, 4), (3, 6)], 4, 24, [.i .i64 0, .i .i64 0, .b false, .i .u8 0]⟩) (.n (some ⟨.ptr 437, 1, 8, [.np]⟩) (.n (some ⟨.func, 1, 8, [.nf]⟩) (.n (some ⟨.struct [(0, 2), (1, 9), (2, 9), (3, 9), (4, 22), (5, 9)], 6, 96, [.i .i64 0, .s 0 0, .s 0 0, .s 0 0, .ns, .s 0 0]⟩) (.n (some ⟨.func, 1, 8, [.nf]⟩) (.n (some ⟨.func, 1, 8, [.nf]⟩) .e
 .e)
 (.n (some ⟨.func, 1, 8, [.nf]⟩) .e
 .e))
 (.n none (.n (some ⟨.func, 1, 8, [.nf]⟩) .e
 .e)
 (.n (some ⟨.struct [(0, 12), (1, 12), (2, 301), (3, 441), (4, 5), (5, 5), (6, 442), (7, 443), (8, 180), (9, 444), (10, 445)], 11, 48, [.i .u64 0, .i .u64 0, .i .u32 0, .i .u8 0, .i .u8 0, .i .u8 0, .i .u8 0, .nf, .np, .i .i32 0, .i .i32 0]⟩) .e
 .e)))
 (.n (some ⟨.struct [(0, 3), (1, 2), (2, 3), (3, 3), (4, 2), (5, 4), (6, 86), (35, 3), (36, 27), (37, 4)], 38, 440, [.i .i64 0, .i .i64 0, .i .i64 0, .i .i64 0, .i .i64 0, .b false, .i .i64 0, .s 0 0, .s 0 0, .s 0 0, .ns, .s 0 0, .s 0 0, .i .i64 0, .s 0 0, .i .i64 0, .i .i64 0, .s 0 0, .i .i64 0, .i .i64 0, .s 0 0, .ns, .i .i64 0, .s 0 0, .i .i64 0, .i .i64 0, .s 0 0, .s 0 0, .i .i64 0, .ns, .i .i64 0, .i .i64 0, .i .i64 0, .b false, .i .i64 0, .i .i64 0, .i .i64 0, .b false]⟩) (.n (some ⟨.func, 1, 8, [.nf]⟩) (.n (some ⟨.func, 1, 8, [.nf]⟩) .e
 .e)
 (.n (some ⟨.struct [(0, 5), (1, 5)], 2, 2, [.i .u8 0, .i .u8 0]⟩) .e
 .e))
 (.n (some ⟨.func, 1, 8, [.nf]⟩) (.n (some ⟨.func, 1, 8, [.nf]⟩) .e
 .e)
 .e)))
 (.n (some ⟨.slice 46, 1, 24, [.ns]⟩) (.n (some ⟨.struct [(0, 2), (1, 2), (2, 2), (3, 3), (4, 9), (5, 3)], 6, 56, [.i .i64 0, .i .i64 0, .i .i64 0, .i .i64 0, .s 0 0, .i .i64 0]⟩) (.n (some ⟨.func, 1, 8, [.nf]⟩) .e
 (.n (some ⟨.func, 1, 8, [.nf]⟩) .e
 .e))
 (.n (some ⟨.struct [(0, 3), (1, 205)], 2, 16, [.i .i64 0, .nf]⟩) (.n (some ⟨.func, 1, 8, [.nf]⟩) .e
 .e)
 .e))
 (.n (some ⟨.struct [(0, 9), (1, 9), (2, 3), (3, 3), (4, 3), (5, 3), (6, 3), (7, 9), (8, 3), (9, 2), (10, 3), (11, 2), (12, 3), (13, 3), (14, 4)], 15, 144, [.s 0 0, .s 0 0, .i .i64 0, .i .i64 0, .i .i64 0, .i .i64 0, .i .i64 0, .s 0 0, .i .i64 0, .i .i64 0, .i .i64 0, .i .i64 0, .i .i64 0, .i .i64 0, .b false]⟩) (.n (some ⟨.func, 1, 8, [.nf]⟩) (.n (some ⟨.func, 1, 8, [.nf]⟩) .e
 .e)
 (.n (some ⟨.struct [(0, 9)], 1, 16, [.s 0 0]⟩) .e
 .e))
 (.n none (.n (some ⟨.func, 1, 8, [.nf]⟩) .e
 .e)
 .e))))
 (.n (some ⟨.struct [(0, 3), (1, 3), (2, 9), (3, 22)], 4, 56, [.i .i64 0, .i .i64 0, .s 0 0, .ns]⟩) (.n (some ⟨.struct [(0, 3), (1, 3), (2, 3), (3, 2), (4, 4)], 5, 40, [.i .i64 0, .i .i64 0, .i .i64 0, .i .i64 0, .b false]⟩) (.n none (.n (some ⟨.func, 1, 8, [.nf]⟩) (.n (some ⟨.struct [(0, 84), (16, 115), (17, 115)], 18, 256, [.s 0 0, .i .i64 0, .i .i64 0, .s 0 0, .i .i64 0, .i .i64 0, .s 0 0, .ns, .i .i64 0, .s 0 0, .i .i64 0, .i .i64 0, .s 0 0, .s 0 0, .i .i64 0, .ns, .ns, .ns]⟩) .e
 .e)
 .e)
 (.n none (.n (some ⟨.func, 1, 8, [.nf]⟩) .e
 .e)
 .e))
 (.n none (.n (some ⟨.func, 1, 8, [.nf]⟩) (.n (some ⟨.func, 1, 8, [.nf]⟩) .e
 .e)
 (.n (some ⟨.struct [(0, 9), (1, 9), (2, 123)], 3, 48, [.s 0 0, .s 0 0, .ni]⟩) .e
 .e))
 (.n none (.n (some ⟨.func, 1, 8, [.nf]⟩) .e
 .e)
 .e)))
 (.n (some ⟨.struct [(0, 9), (1, 2), (2, 3), (3, 2), (4, 3)], 5, 48, [.s 0 0, .i .i64 0, .i .i64 0, .i .i64 0, .i .i64 0]⟩) (.n none (.n (some ⟨.ptr 39, 1, 8, [.np]⟩) (.n (some ⟨.func, 1, 8, [.nf]⟩) .e
 .e)
 (.n (some ⟨.func, 1, 8, [.nf]⟩) .e
 .e))
 (.n (some ⟨.slice 221, 1, 24, [.ns]⟩) .e
 .e))
 (.n (some ⟨.array 4 9, 4, 64, [.s 0 0, .s 0 0, .s 0 0, .s 0 0]⟩) (.n (some ⟨.func, 1, 8, [.nf]⟩) (.n (some ⟨.func, 1, 8, [.nf]⟩) .e
 .e)
 (.n (some ⟨.struct [(0, 438)], 0, 0, []⟩) .e
 .e))
 (.n (some ⟨.struct [(0, 4)], 1, 1, [.b false]⟩) (.n (some ⟨.func, 1, 8, [.nf]⟩) .e
 .e)
 .e)))))
 (.n (some ⟨.string, 1, 16, [.s 0 0]⟩) (.n (some ⟨.struct [(0, 17)], 1, 8, [.np]⟩) (.n (some ⟨.func, 1, 8, [.nf]⟩) (.n (some ⟨.func, 1, 8, [.nf]⟩) (.n (some ⟨.ptr 134, 1, 8, [.np]⟩) (.n (some ⟨.func, 1, 8, [.nf]⟩) .e
 .e)
 .e)
 (.n (some ⟨.func, 1, 8, [.nf]⟩) (.n (some ⟨.struct [(0, 50), (1, 50), (2, 50), (3, 4), (4, 22)], 5, 104, [.ns, .ns, .ns, .b false, .ns]⟩) .e
 .e)
 .e))
 (.n none (.n (some ⟨.struct [(0, 2), (1, 9), (2, 162), (3, 4)], 4, 56, [.i .i64 0, .s 0 0, .ns, .b false]⟩) .e
 (.n (some ⟨.func, 1, 8, [.nf]⟩) .e
 .e))
 (.n (some ⟨.struct [(0, 9), (1, 4), (2, 4), (3, 4)], 4, 24, [.s 0 0, .b false, .b false, .b false]⟩) (.n (some ⟨.func, 1, 8, [.nf]⟩) .e
 .e)
 .e)))
 (.n (some ⟨.int .i64, 1, 8, [.i .i64 0]⟩) (.n (some ⟨.struct [(0, 9), (1, 3), (2, 3), (3, 9), (4, 24), (8, 3), (9, 9), (10, 3), (11, 82)], 16, 208, [.s 0 0, .i .i64 0, .i .i64 0, .s 0 0, .i .i64 0, .i .i64 0, .s 0 0, .ns, .i .i64 0, .s 0 0, .i .i64 0, .i .i64 0, .s 0 0, .s 0 0, .i .i64 0, .ns]⟩) (.n (some ⟨.func, 1, 8, [.nf]⟩) (.n (some ⟨.func, 1, 8, [.nf]⟩) .e
 .e)
 (.n (some ⟨.func, 1, 8, [.nf]⟩) .e
 .e))
 (.n (some ⟨.func, 1, 8, [.nf]⟩) (.n (some ⟨.func, 1, 8, [.nf]⟩) .e
 .e)
 .e))
 (.n (some ⟨.slice 5, 1, 24, [.ns]⟩) (.n (some ⟨.func, 1, 8, [.nf]⟩) (.n (some ⟨.array 24 5, 24, 24, [.i .u8 0, .i .u8 0, .i .u8 0, .i .u8 0, .i .u8 0, .i .u8 0, .i .u8 0, .i .u8 0, .i .u8 0, .i .u8 0, .i .u8 0, .i .u8 0, .i .u8 0, .i .u8 0, .i .u8 0, .i .u8 0, .i .u8 0, .i .u8 0, .i .u8 0, .i .u8 0, .i .u8 0, .i .u8 0, .i .u8 0, .i .u8 0]⟩) .e
 .e)
 (.n (some ⟨.struct [(0, 301), (1, 301), (2, 433)], 5, 20, [.i .u32 0, .i .u32 0, .i .i32 0, .i .i32 0, .i .i32 0]⟩) .e
 .e))
 (.n (some ⟨.func, 1, 8, [.nf]⟩) (.n (some ⟨.slice 115, 1, 24, [.ns]⟩) .e
 .e)
 .e))))
 (.n (some ⟨.int .i64, 1, 8, [.i .i64 0]⟩) (.n none (.n (some ⟨.func, 1, 8, [.nf]⟩) (.n (some ⟨.func, 1, 8, [.nf]⟩) (.n (some ⟨.func, 1, 8, [.nf]⟩) .e
 .e)
 (.n (some ⟨.func, 1, 8, [.nf]⟩) .e
 .e))
 (.n (some ⟨.slice 207, 1, 24, [.ns]⟩) (.n (some ⟨.func, 1, 8, [.nf]⟩) .e
 .e)
 .e))
 (.n (some ⟨.func, 1, 8, [.nf]⟩) (.n (some ⟨.struct [(0, 9), (1, 9)], 2, 32, [.s 0 0, .s 0 0]⟩) (.n (some ⟨.func, 1, 8, [.nf]⟩) .e
 .e)
 (.n (some ⟨.func, 1, 8, [.nf]⟩) .e
 .e))
 (.n (some ⟨.func, 1, 8, [.nf]⟩) (.n (some ⟨.func, 1, 8, [.nf]⟩) .e
 .e)
 .e)))
 (.n (some ⟨.slice 112, 1, 24, [.ns]⟩) (.n (some ⟨.func, 1, 8, [.nf]⟩) (.n (some ⟨.func, 1, 8, [.nf]⟩) (.n (some ⟨.slice 215, 1, 24, [.ns]⟩) .e
 .e)
 (.n (some ⟨.ptr 424, 1, 8, [.np]⟩) .e
 .e))
 (.n (some ⟨.func, 1, 8, [.nf]⟩) (.n (some ⟨.func, 1, 8, [.nf]⟩) .e
 .e)
 .e))
 (.n (some ⟨.iface, 1, 16, [.ni]⟩) (.n (some ⟨.func, 1, 8, [.nf]⟩) (.n (some ⟨.func, 1, 8, [.nf]⟩) .e
 .e)
 (.n (some ⟨.func, 1, 8, [.nf]⟩) .e
 .e))
 (.n (some ⟨.array 5 250, 10, 10, [.i .u8 0, .i .u8 0, .i .u8 0, .i .u8 0, .i .u8 0, .i .u8 0, .i .u8 0, .i .u8 0, .i .u8 0, .i .u8 0]⟩) (.n (some ⟨.struct [(0, 82), (5, 115), (6, 115), (7, 3), (8, 3)], 9, 136, [.i .i64 0, .s 0 0, .s 0 0, .i .i64 0, .ns, .ns, .ns, .i .i64 0, .i .i64 0]⟩) .e
 .e)
 .e))))))
 (.n (some ⟨.int .u8, 1, 1, [.i .u8 0]⟩) (.n (some ⟨.string, 1, 16, [.s 0 0]⟩) (.n (some ⟨.ptr 447, 1, 8, [.np]⟩) (.n (some ⟨.struct [(0, 3), (1, 3), (2, 9), (3, 27)], 4, 40, [.i .i64 0, .i .i64 0, .s 0 0, .i .i64 0]⟩) (.n (some ⟨.func, 1, 8, [.nf]⟩) (.n (some ⟨.func, 1, 8, [.nf]⟩) (.n (some ⟨.func, 1, 8, [.nf]⟩) .e
 .e)
 (.n (some ⟨.func, 1, 8, [.nf]⟩) .e
 .e))
 (.n (some ⟨.func, 1, 8, [.nf]⟩) (.n (some ⟨.func, 1, 8, [.nf]⟩) .e
 .e)
 .e))
 (.n none (.n (some ⟨.struct [(0, 50), (1, 2), (2, 2), (3, 3)], 4, 48, [.ns, .i .i64 0, .i .i64 0, .i .i64 0]⟩) (.n (some ⟨.array 256 5, 256, 256, [.i .u8 0, .i .u8 0, .i .u8 0, .i .u8 0, .i .u8 0, .i .u8 0, .i .u8 0, .i .u8 0, .i .u8 0, .i .u8 0, .i .u8 0, .i .u8 0, .i .u8 0, .i .u8 0, .i .u8 0, .i .u8 0, .i .u8 0, .i .u8 0, .i .u8 0, .i .u8 0, .i .u8 0, .i .u8 0, .i .u8 0, .i .u8 0, .i .u8 0, .i .u8 0, .i .u8 0, .i .u8 0, .i .u8 0, .i .u8 0, .i .u8 0, .i .u8 0, .i .u8 0, .i .u8 0, .i .u8 0, .i .u8 0, .i .u8 0, .i .u8 0, .i .u8 0, .i .u8 0, .i .u8 0, .i .u8 0, .i .u8 0, .i .u8 0, .i .u8 0, .i .u8 0, .i .u8 0, .i .u8 0, .i .u8 0, .i .u8 0, .i .u8 0, .i .u8 0, .i .u8 0, .i .u8 0, .i .u8 0, .i .u8 0, .i .u8 0, .i .u8 0, .i .u8 0, .i .u8 0, .i .u8 0, .i .u8 0, .i .u8 0, .i .u8 0, .i .u8 0, .i .u8 0, .i .u8 0, .i .u8 0, .i .u8 0, .i .u8 0, .i .u8 0, .i .u8 0, .i .u8 0, .i .u8 0, .i .u8 0, .i .u8 0, .i .u8 0, .i .u8 0, .i .u8 0, .i .u8 0, .i .u8 0, .i .u8 0, .i .u8 0, .i .u8 0, .i .u8 0, .i .u8 0, .i .u8 0, .i .u8 0, .i .u8 0, .i .u8 0, .i .u8 0, .i .u8 0, .i .u8 0, .i .u8 0, .i .u8 0, .i .u8 0, .i .u8 0, .i .u8 0, .i .u8 0, .i .u8 0, .i .u8 0, .i .u8 0, .i .u8 0, .i .u8 0, .i .u8 0, .i .u8 0, .i .u8 0, .i .u8 0, .i .u8 0, .i .u8 0, .i .u8 0, .i .u8 0, .i .u8 0, .i .u8 0, .i .u8 0, .i .u8 0, .i .u8 0, .i .u8 0, .i .u8 0, .i .u8 0, .i .u8 0, .i .u8 0, .i .u8 0, .i .u8 0, .i .u8 0, .i .u8 0, .i .u8 0, .i .u8 0, .i .u8 0, .i .u8 0, .i .u8 0, .i .u8 0, .i .u8 0, .i .u8 0, .i .u8 0, .i .u8 0, .i .u8 0, .i .u8 0, .i .u8 0, .i .u8 0, .i .u8 0, .i .u8 0, .i .u8 0, .i .u8 0, .i .u8 0, .i .u8 0, .i .u8 0, .i .u8 0, .i .u8 0, .i .u8 0, .i .u8 0, .i .u8 0, .i .u8 0, .i .u8 0, .i .u8 0, .i .u8 0, .i .u8 0, .i .u8 0, .i .u8 0, .i .u8 0, .i .u8 0, .i .u8 0, .i .u8 0, .i .u8 0, .i .u8 0, .i .u8 0, .i .u8 0, .i .u8 0, .i .u8 0, .i .u8 0, .i .u8 0, .i .u8 0, .i .u8 0, .i .u8 0, .i .u8 0, .i .u8 0, .i .u8 0, .i .u8 0, .i .u8 0, .i .u8 0, .i .u8 0, .i .u8 0, .i .u8 0, .i .u8 0, .i .u8 0, .i .u8 0, .i .u8 0, .i .u8 0, .i .u8 0, .i .u8 0, .i .u8 0, .i .u8 0, .i .u8 0, .i .u8 0, .i .u8 0, .i .u8 0, .i .u8 0, .i .u8 0, .i .u8 0, .i .u8 0, .i .u8 0, .i .u8 0, .i .u8 0, .i .u8 0, .i .u8 0, .i .u8 0, .i .u8 0, .i .u8 0, .i .u8 0, .i .u8 0, .i .u8 0, .i .u8 0, .i .u8 0, .i .u8 0, .i .u8 0, .i .u8 0, .i .u8 0, .i .u8 0, .i .u8 0, .i .u8 0, .i .u8 0, .i .u8 0, .i .u8 0, .i .u8 0, .i .u8 0, .i .u8 0, .i .u8 0, .i .u8 0, .i .u8 0, .i .u8 0, .i .u8 0, .i .u8 0, .i .u8 0, .i .u8 0, .i .u8 0, .i .u8 0, .i .u8 0, .i .u8 0, .i .u8 0, .i .u8 0, .i .u8 0, .i .u8 0, .i .u8 0, .i .u8 0, .i .u8 0, .i .u8 0, .i .u8 0, .i .u8 0, .i .u8 0, .i .u8 0, .i .u8 0, .i .u8 0, .i .u8 0, .i .u8 0, .i .u8 0, .i .u8 0]⟩) .e
 .e)
 (.n (some ⟨.func, 1, 8, [.nf]⟩) .e
 .e))
 (.n (some ⟨.func, 1, 8, [.nf]⟩) (.n (some ⟨.func, 1, 8, [.nf]⟩) .e
 .e)
 .e)))
 (.n (some ⟨.struct [(0, 3), (1, 3), (2, 2), (3, 9), (4, 4)], 5, 48, [.i .i64 0, .i .i64 0, .i .i64 0, .s 0 0, .b false]⟩) (.n (some ⟨.struct [(0, 3), (1, 9), (2, 9), (3, 3), (4, 22)], 5, 72, [.i .i64 0, .s 0 0, .s 0 0, .i .i64 0, .ns]⟩) (.n (some ⟨.func, 1, 8, [.nf]⟩) (.n (some ⟨.func, 1, 8, [.nf]⟩) .e
 .e)
 (.n (some ⟨.func, 1, 8, [.nf]⟩) .e
 .e))
 (.n (some ⟨.func, 1, 8, [.nf]⟩) (.n (some ⟨.func, 1, 8, [.nf]⟩) .e
 .e)
 .e))
 (.n (some ⟨.func, 1, 8, [.nf]⟩) (.n (some ⟨.func, 1, 8, [.nf]⟩) .e
 (.n (some ⟨.array 3 21, 3, 12, [.i .i32 0, .i .i32 0, .i .i32 0]⟩) .e
 .e))
 (.n (some ⟨.func, 1, 8, [.nf]⟩) (.n (some ⟨.array 65 5, 65, 65, [.i .u8 0, .i .u8 0, .i .u8 0, .i .u8 0, .i .u8 0, .i .u8 0, .i .u8 0, .i .u8 0, .i .u8 0, .i .u8 0, .i .u8 0, .i .u8 0, .i .u8 0, .i .u8 0, .i .u8 0, .i .u8 0, .i .u8 0, .i .u8 0, .i .u8 0, .i .u8 0, .i .u8 0, .i .u8 0, .i .u8 0, .i .u8 0, .i .u8 0, .i .u8 0, .i .u8 0, .i .u8 0, .i .u8 0, .i .u8 0, .i .u8 0, .i .u8 0, .i .u8 0, .i .u8 0, .i .u8 0, .i .u8 0, .i .u8 0, .i .u8 0, .i .u8 0, .i .u8 0, .i .u8 0, .i .u8 0, .i .u8 0, .i .u8 0, .i .u8 0, .i .u8 0, .i .u8 0, .i .u8 0, .i .u8 0, .i .u8 0, .i .u8 0, .i .u8 0, .i .u8 0, .i .u8 0, .i .u8 0, .i .u8 0, .i .u8 0, .i .u8 0, .i .u8 0, .i .u8 0, .i .u8 0, .i .u8 0, .i .u8 0, .i .u8 0, .i .u8 0]⟩) .e
 .e)
 .e))))
 (.n (some ⟨.struct [(0, 24), (4, 3), (5, 9), (6, 22), (7, 4)], 8, 112, [.i .i64 0, .i .i64 0, .s 0 0, .ns, .i .i64 0, .s 0 0, .ns, .b false]⟩) (.n (some ⟨.struct [(0, 39), (5, 27), (6, 26), (14, 4), (15, 3)], 16, 176, [.i .i64 0, .i .i64 0, .i .i64 0, .i .i64 0, .b false, .i .i64 0, .i .i64 0, .i .i64 0, .s 0 0, .ns, .i .i64 0, .s 0 0, .ns, .b false, .b false, .i .i64 0]⟩) (.n (some ⟨.slice 80, 1, 24, [.ns]⟩) (.n (some ⟨.ptr 141, 1, 8, [.np]⟩) (.n (some ⟨.func, 1, 8, [.nf]⟩) .e
 .e)
 (.n (some ⟨.func, 1, 8, [.nf]⟩) .e
 .e))
 (.n (some ⟨.func, 1, 8, [.nf]⟩) (.n (some ⟨.func, 1, 8, [.nf]⟩) .e
 .e)
 .e))
 (.n (some ⟨.func, 1, 8, [.nf]⟩) (.n (some ⟨.func, 1, 8, [.nf]⟩) (.n (some ⟨.func, 1, 8, [.nf]⟩) .e
 .e)
 (.n (some ⟨.func, 1, 8, [.nf]⟩) .e
 .e))
 (.n (some ⟨.func, 1, 8, [.nf]⟩) (.n (some ⟨.ptr 357, 1, 8, [.np]⟩) .e
 .e)
 .e)))
 (.n none (.n (some ⟨.slice 51, 1, 24, [.ns]⟩) (.n (some ⟨.ptr 96, 1, 8, [.np]⟩) (.n (some ⟨.func, 1, 8, [.nf]⟩) .e
 .e)
 (.n (some ⟨.func, 1, 8, [.nf]⟩) .e
 .e))
 (.n (some ⟨.slice 3, 1, 24, [.ns]⟩) (.n (some ⟨.func, 1, 8, [.nf]⟩) .e
 .e)
 .e))
 (.n (some ⟨.array 6 9, 6, 96, [.s 0 0, .s 0 0, .s 0 0, .s 0 0, .s 0 0, .s 0 0]⟩) (.n (some ⟨.func, 1, 8, [.nf]⟩) (.n (some ⟨.func, 1, 8, [.nf]⟩) .e
 .e)
 (.n (some ⟨.int .u8, 1, 1, [.i .u8 0]⟩) .e
 .e))
 (.n (some ⟨.func, 1, 8, [.nf]⟩) (.n (some ⟨.func, 1, 8, [.nf]⟩) .e
 .e)
 .e)))))
 (.n (some ⟨.struct [(0, 9), (1, 12)], 2, 24, [.s 0 0, .i .u64 0]⟩) (.n (some ⟨.int .i32, 1, 4, [.i .i32 0]⟩) (.n (some ⟨.func, 1, 8, [.nf]⟩) (.n (some ⟨.struct [(0, 61), (1, 2), (2, 3), (3, 68)], 4, 64, [.ns, .i .i64 0, .i .i64 0, .ns]⟩) (.n (some ⟨.struct [(0, 70), (4, 73)], 5, 88, [.ns, .i .i64 0, .i .i64 0, .ns, .ns]⟩) (.n (some ⟨.func, 1, 8, [.nf]⟩) .e
 .e)
 (.n (some ⟨.func, 1, 8, [.nf]⟩) .e
 .e))
 (.n none (.n (some ⟨.func, 1, 8, [.nf]⟩) .e
 .e)
 .e))
 (.n none (.n (some ⟨.func, 1, 8, [.nf]⟩) (.n (some ⟨.func, 1, 8, [.nf]⟩) .e
 .e)
 .e)
 (.n (some ⟨.ptr 84, 1, 8, [.np]⟩) (.n (some ⟨.array 256 4, 256, 256, [.b false, .b false, .b false, .b false, .b false, .b false, .b false, .b false, .b false, .b false, .b false, .b false, .b false, .b false, .b false, .b false, .b false, .b false, .b false, .b false, .b false, .b false, .b false, .b false, .b false, .b false, .b false, .b false, .b false, .b false, .b false, .b false, .b false, .b false, .b false, .b false, .b false, .b false, .b false, .b false, .b false, .b false, .b false, .b false, .b false, .b false, .b false, .b false, .b false, .b false, .b false, .b false, .b false, .b false, .b false, .b false, .b false, .b false, .b false, .b false, .b false, .b false, .b false, .b false, .b false, .b false, .b false, .b false, .b false, .b false, .b false, .b false, .b false, .b false, .b false, .b false, .b false, .b false, .b false, .b false, .b false, .b false, .b false, .b false, .b false, .b false, .b false, .b false, .b false, .b false, .b false, .b false, .b false, .b false, .b false, .b false, .b false, .b false, .b false, .b false, .b false, .b false, .b false, .b false, .b false, .b false, .b false, .b false, .b false, .b false, .b false, .b false, .b false, .b false, .b false, .b false, .b false, .b false, .b false, .b false, .b false, .b false, .b false, .b false, .b false, .b false, .b false, .b false, .b false, .b false, .b false, .b false, .b false, .b false, .b false, .b false, .b false, .b false, .b false, .b false, .b false, .b false, .b false, .b false, .b false, .b false, .b false, .b false, .b false, .b false, .b false, .b false, .b false, .b false, .b false, .b false, .b false, .b false, .b false, .b false, .b false, .b false, .b false, .b false, .b false, .b false, .b false, .b false, .b false, .b false, .b false, .b false, .b false, .b false, .b false, .b false, .b false, .b false, .b false, .b false, .b false, .b false, .b false, .b false, .b false, .b false, .b false, .b false, .b false, .b false, .b false, .b false, .b false, .b false, .b false, .b false, .b false, .b false, .b false, .b false, .b false, .b false, .b false, .b false, .b false, .b false, .b false, .b false, .b false, .b false, .b false, .b false, .b false, .b false, .b false, .b false, .b false, .b false, .b false, .b false, .b false, .b false, .b false, .b false, .b false, .b false, .b false, .b false, .b false, .b false, .b false, .b false, .b false, .b false, .b false, .b false, .b false, .b false, .b false, .b false, .b false, .b false, .b false, .b false, .b false, .b false, .b false, .b false, .b false, .b false, .b false, .b false, .b false, .b false, .b false, .b false]⟩) .e
 .e)
 .e)))
 (.n (some ⟨.func, 1, 8, [.nf]⟩) (.n (some ⟨.struct [(0, 64), (6, 9), (7, 3), (8, 84), (24, 3), (25, 3), (26, 3), (27, 4), (28, 27)], 29, 368, [.i .i64 0, .s 0 0, .s 0 0, .s 0 0, .ns, .s 0 0, .s 0 0, .i .i64 0, .s 0 0, .i .i64 0, .i .i64 0, .s 0 0, .i .i64 0, .i .i64 0, .s 0 0, .ns, .i .i64 0, .s 0 0, .i .i64 0, .i .i64 0, .s 0 0, .s 0 0, .i .i64 0, .ns, .i .i64 0, .i .i64 0, .i .i64 0, .b false, .i .i64 0]⟩) (.n none (.n (some ⟨.func, 1, 8, [.nf]⟩) .e
 .e)
 (.n (some ⟨.array 32 5, 32, 32, [.i .u8 0, .i .u8 0, .i .u8 0, .i .u8 0, .i .u8 0, .i .u8 0, .i .u8 0, .i .u8 0, .i .u8 0, .i .u8 0, .i .u8 0, .i .u8 0, .i .u8 0, .i .u8 0, .i .u8 0, .i .u8 0, .i .u8 0, .i .u8 0, .i .u8 0, .i .u8 0, .i .u8 0, .i .u8 0, .i .u8 0, .i .u8 0, .i .u8 0, .i .u8 0, .i .u8 0, .i .u8 0, .i .u8 0, .i .u8 0, .i .u8 0, .i .u8 0]⟩) .e
 .e))
 (.n (some ⟨.struct [(0, 96)], 38, 440, [.i .i64 0, .i .i64 0, .i .i64 0, .i .i64 0, .i .i64 0, .b false, .i .i64 0, .s 0 0, .s 0 0, .s 0 0, .ns, .s 0 0, .s 0 0, .i .i64 0, .s 0 0, .i .i64 0, .i .i64 0, .s 0 0, .i .i64 0, .i .i64 0, .s 0 0, .ns, .i .i64 0, .s 0 0, .i .i64 0, .i .i64 0, .s 0 0, .s 0 0, .i .i64 0, .ns, .i .i64 0, .i .i64 0, .i .i64 0, .b false, .i .i64 0, .i .i64 0, .i .i64 0, .b false]⟩) (.n (some ⟨.slice 37, 1, 24, [.ns]⟩) .e
 .e)
 .e))
 (.n (some ⟨.struct [(0, 114), (1, 115)], 2, 32, [.np, .ns]⟩) (.n (some ⟨.func, 1, 8, [.nf]⟩) (.n (some ⟨.func, 1, 8, [.nf]⟩) .e
 .e)
 (.n (some ⟨.struct [(0, 17), (1, 17), (2, 17), (3, 9)], 4, 40, [.np, .np, .np, .s 0 0]⟩) .e
 .e))
 (.n (some ⟨.func, 1, 8, [.nf]⟩) (.n (some ⟨.func, 1, 8, [.nf]⟩) .e
 .e)
 .e))))
 (.n (some ⟨.struct [(0, 26), (8, 4), (9, 27)], 10, 128, [.i .i64 0, .i .i64 0, .s 0 0, .ns, .i .i64 0, .s 0 0, .ns, .b false, .b false, .i .i64 0]⟩) (.n (some ⟨.struct [(0, 3), (1, 3), (2, 2), (3, 3), (4, 9), (5, 27)], 6, 56, [.i .i64 0, .i .i64 0, .i .i64 0, .i .i64 0, .s 0 0, .i .i64 0]⟩) (.n (some ⟨.struct [(0, 3), (1, 2), (2, 9), (3, 2)], 4, 40, [.i .i64 0, .i .i64 0, .s 0 0, .i .i64 0]⟩) (.n (some ⟨.struct [(0, 86)], 29, 368, [.i .i64 0, .s 0 0, .s 0 0, .s 0 0, .ns, .s 0 0, .s 0 0, .i .i64 0, .s 0 0, .i .i64 0, .i .i64 0, .s 0 0, .i .i64 0, .i .i64 0, .s 0 0, .ns, .i .i64 0, .s 0 0, .i .i64 0, .i .i64 0, .s 0 0, .s 0 0, .i .i64 0, .ns, .i .i64 0, .i .i64 0, .i .i64 0, .b false, .i .i64 0]⟩) (.n (some ⟨.func, 1, 8, [.nf]⟩) .e
 .e)
 (.n (some ⟨.func, 1, 8, [.nf]⟩) .e
 .e))
 (.n (some ⟨.func, 1, 8, [.nf]⟩) (.n (some ⟨.func, 1, 8, [.nf]⟩) .e
 .e)
 .e))
 (.n (some ⟨.func, 1, 8, [.nf]⟩) (.n (some ⟨.func, 1, 8, [.nf]⟩) (.n (some ⟨.int .u32, 1, 4, [.i .u32 0]⟩) .e
 .e)
 (.n (some ⟨.ptr 431, 1, 8, [.np]⟩) .e
 .e))
 (.n (some ⟨.func, 1, 8, [.nf]⟩) (.n (some ⟨.func, 1, 8, [.nf]⟩) .e
 .e)
 .e)))
 (.n (some ⟨.struct [(0, 59)], 1, 24, [.ns]⟩) (.n (some ⟨.func, 1, 8, [.nf]⟩) (.n (some ⟨.func, 1, 8, [.nf]⟩) (.n (some ⟨.func, 1, 8, [.nf]⟩) .e
 .e)
 (.n (some ⟨.func, 1, 8, [.nf]⟩) .e
 .e))
 (.n (some ⟨.struct [(0, 3), (1, 217), (2, 218), (3, 219)], 4, 48, [.i .i64 0, .ns, .nf, .nf]⟩) .e
 .e))
 (.n (some ⟨.func, 1, 8, [.nf]⟩) (.n (some ⟨.ptr 164, 1, 8, [.np]⟩) (.n (some ⟨.func, 1, 8, [.nf]⟩) .e
 .e)
 (.n (some ⟨.int .i32, 1, 4, [.i .i32 0]⟩) .e
 .e))
 (.n (some ⟨.func, 1, 8, [.nf]⟩) (.n (some ⟨.func, 1, 8, [.nf]⟩) .e
 .e)
 .e)))))))
 (.n (some ⟨.int .i64, 1, 8, [.i .i64 0]⟩) (.n (some ⟨.bool, 1, 1, [.b false]⟩) (.n (some ⟨.struct [(0, 2), (1, 3), (2, 4), (3, 6)], 4, 24, [.i .i64 0, .i .i64 0, .b false, .i .u8 0]⟩) (.n (some ⟨.ptr 440, 1, 8, [.np]⟩) (.n (some ⟨.struct [(0, 3), (1, 3), (2, 9), (3, 27)], 4, 40, [.i .i64 0, .i .i64 0, .s 0 0, .i .i64 0]⟩) (.n (some ⟨.struct [(0, 2), (1, 9), (2, 9), (3, 9), (4, 22), (5, 9)], 6, 96, [.i .i64 0, .s 0 0, .s 0 0, .s 0 0, .ns, .s 0 0]⟩) (.n (some ⟨.func, 1, 8, [.nf]⟩) (.n (some ⟨.func, 1, 8, [.nf]⟩) .e
 .e)
 (.n (some ⟨.func, 1, 8, [.nf]⟩) .e
 .e))
 (.n (some ⟨.func, 1, 8, [.nf]⟩) .e
 .e))
 (.n (some ⟨.struct [(0, 3), (1, 2), (2, 3), (3, 3), (4, 2), (5, 4), (6, 86), (35, 3), (36, 27), (37, 4)], 38, 440, [.i .i64 0, .i .i64 0, .i .i64 0, .i .i64 0, .i .i64 0, .b false, .i .i64 0, .s 0 0, .s 0 0, .s 0 0, .ns, .s 0 0, .s 0 0, .i .i64 0, .s 0 0, .i .i64 0, .i .i64 0, .s 0 0, .i .i64 0, .i .i64 0, .s 0 0, .ns, .i .i64 0, .s 0 0, .i .i64 0, .i .i64 0, .s 0 0, .s 0 0, .i .i64 0, .ns, .i .i64 0, .i .i64 0, .i .i64 0, .b false, .i .i64 0, .i .i64 0, .i .i64 0, .b false]⟩) (.n (some ⟨.struct [(0, 50), (1, 2), (2, 2), (3, 3)], 4, 48, [.ns, .i .i64 0, .i .i64 0, .i .i64 0]⟩) (.n (some ⟨.func, 1, 8, [.nf]⟩) .e
 .e)
 (.n (some ⟨.array 16 415, 32, 32, [.i .u8 0, .i .u8 0, .i .u8 0, .i .u8 0, .i .u8 0, .i .u8 0, .i .u8 0, .i .u8 0, .i .u8 0, .i .u8 0, .i .u8 0, .i .u8 0, .i .u8 0, .i .u8 0, .i .u8 0, .i .u8 0, .i .u8 0, .i .u8 0, .i .u8 0, .i .u8 0, .i .u8 0, .i .u8 0, .i .u8 0, .i .u8 0, .i .u8 0, .i .u8 0, .i .u8 0, .i .u8 0, .i .u8 0, .i .u8 0, .i .u8 0, .i .u8 0]⟩) .e
 .e))
 (.n (some ⟨.func, 1, 8, [.nf]⟩) (.n (some ⟨.func, 1, 8, [.nf]⟩) .e
 .e)
 .e)))
 (.n (some ⟨.struct [(0, 3), (1, 3), (2, 2), (3, 9), (4, 4)], 5, 48, [.i .i64 0, .i .i64 0, .i .i64 0, .s 0 0, .b false]⟩) (.n (some ⟨.struct [(0, 2), (1, 2), (2, 2), (3, 3), (4, 9), (5, 3)], 6, 56, [.i .i64 0, .i .i64 0, .i .i64 0, .i .i64 0, .s 0 0, .i .i64 0]⟩) (.n none (.n (some ⟨.func, 1, 8, [.nf]⟩) .e
 .e)
 .e)
 (.n none (.n (some ⟨.func, 1, 8, [.nf]⟩) .e
 .e)
 .e))
 (.n (some ⟨.struct [(0, 9), (1, 9), (2, 3), (3, 3), (4, 3), (5, 3), (6, 3), (7, 9), (8, 3), (9, 2), (10, 3), (11, 2), (12, 3), (13, 3), (14, 4)], 15, 144, [.s 0 0, .s 0 0, .i .i64 0, .i .i64 0, .i .i64 0, .i .i64 0, .i .i64 0, .s 0 0, .i .i64 0, .i .i64 0, .i .i64 0, .i .i64 0, .i .i64 0, .i .i64 0, .b false]⟩) (.n (some ⟨.func, 1, 8, [.nf]⟩) (.n (some ⟨.int .u64, 1, 8, [.i .u64 0]⟩) .e
 .e)
 (.n (some ⟨.array 3 21, 3, 12, [.i .i32 0, .i .i32 0, .i .i32 0]⟩) .e
 .e))
 (.n (some ⟨.func, 1, 8, [.nf]⟩) (.n (some ⟨.array 20 304, 20, 160, [.i .u64 0, .i .u64 0, .i .u64 0, .i .u64 0, .i .u64 0, .i .u64 0, .i .u64 0, .i .u64 0, .i .u64 0, .i .u64 0, .i .u64 0, .i .u64 0, .i .u64 0, .i .u64 0, .i .u64 0, .i .u64 0, .i .u64 0, .i .u64 0, .i .u64 0, .i .u64 0]⟩) .e
 .e)
 .e))))
 (.n (some ⟨.struct [(0, 3), (1, 3), (2, 9), (3, 22)], 4, 56, [.i .i64 0, .i .i64 0, .s 0 0, .ns]⟩) (.n (some ⟨.struct [(0, 39), (5, 27), (6, 26), (14, 4), (15, 3)], 16, 176, [.i .i64 0, .i .i64 0, .i .i64 0, .i .i64 0, .b false, .i .i64 0, .i .i64 0, .i .i64 0, .s 0 0, .ns, .i .i64 0, .s 0 0, .ns, .b false, .b false, .i .i64 0]⟩) (.n (some ⟨.func, 1, 8, [.nf]⟩) (.n (some ⟨.func, 1, 8, [.nf]⟩) (.n (some ⟨.struct [(0, 84), (16, 115), (17, 115)], 18, 256, [.s 0 0, .i .i64 0, .i .i64 0, .s 0 0, .i .i64 0, .i .i64 0, .s 0 0, .ns, .i .i64 0, .s 0 0, .i .i64 0, .i .i64 0, .s 0 0, .s 0 0, .i .i64 0, .ns, .ns, .ns]⟩) .e
 .e)
 (.n (some ⟨.func, 1, 8, [.nf]⟩) .e
 .e))
 (.n (some ⟨.func, 1, 8, [.nf]⟩) .e
 .e))
 (.n (some ⟨.func, 1, 8, [.nf]⟩) (.n (some ⟨.func, 1, 8, [.nf]⟩) .e
 (.n (some ⟨.struct [(0, 9), (1, 9), (2, 123)], 3, 48, [.s 0 0, .s 0 0, .ni]⟩) .e
 .e))
 (.n (some ⟨.func, 1, 8, [.nf]⟩) (.n (some ⟨.func, 1, 8, [.nf]⟩) .e
 .e)
 .e)))
 (.n (some ⟨.struct [(0, 9), (1, 2), (2, 3), (3, 2), (4, 3)], 5, 48, [.s 0 0, .i .i64 0, .i .i64 0, .i .i64 0, .i .i64 0]⟩) (.n (some ⟨.func, 1, 8, [.nf]⟩) (.n (some ⟨.func, 1, 8, [.nf]⟩) (.n (some ⟨.slice 27, 1, 24, [.ns]⟩) .e
 .e)
 (.n (some ⟨.func, 1, 8, [.nf]⟩) .e
 .e))
 (.n (some ⟨.func, 1, 8, [.nf]⟩) (.n (some ⟨.func, 1, 8, [.nf]⟩) .e
 .e)
 .e))
 (.n (some ⟨.func, 1, 8, [.nf]⟩) (.n (some ⟨.func, 1, 8, [.nf]⟩) (.n (some ⟨.func, 1, 8, [.nf]⟩) .e
 .e)
 (.n (some ⟨.struct [(0, 438)], 0, 0, []⟩) .e
 .e))
 (.n (some ⟨.struct [(0, 4)], 1, 1, [.b false]⟩) (.n (some ⟨.func, 1, 8, [.nf]⟩) .e
 .e)
 .e)))))
 (.n (some ⟨.int .u64, 1, 8, [.i .u64 0]⟩) (.n (some ⟨.iface, 1, 16, [.ni]⟩) (.n (some ⟨.slice 33, 1, 24, [.ns]⟩) (.n (some ⟨.slice 164, 1, 24, [.ns]⟩) (.n (some ⟨.func, 1, 8, [.nf]⟩) (.n (some ⟨.func, 1, 8, [.nf]⟩) .e
 .e)
 (.n (some ⟨.func, 1, 8, [.nf]⟩) .e
 .e))
 (.n (some ⟨.func, 1, 8, [.nf]⟩) (.n (some ⟨.func, 1, 8, [.nf]⟩) .e
 .e)
 .e))
 (.n (some ⟨.func, 1, 8, [.nf]⟩) (.n (some ⟨.struct [(0, 2), (1, 9), (2, 162), (3, 4)], 4, 56, [.i .i64 0, .s 0 0, .ns, .b false]⟩) (.n (some ⟨.func, 1, 8, [.nf]⟩) .e
 .e)
 (.n (some ⟨.slice 435, 1, 24, [.ns]⟩) .e
 .e))
 (.n (some ⟨.array 6 227, 24, 144, [.s 0 0, .b false, .b false, .b false, .s 0 0, .b false, .b false, .b false, .s 0 0, .b false, .b false, .b false, .s 0 0, .b false, .b false, .b false, .s 0 0, .b false, .b false, .b false, .s 0 0, .b false, .b false, .b false]⟩) (.n (some ⟨.array 256 4, 256, 256, [.b false, .b false, .b false, .b false, .b false, .b false, .b false, .b false, .b false, .b false, .b false, .b false, .b false, .b false, .b false, .b false, .b false, .b false, .b false, .b false, .b false, .b false, .b false, .b false, .b false, .b false, .b false, .b false, .b false, .b false, .b false, .b false, .b false, .b false, .b false, .b false, .b false, .b false, .b false, .b false, .b false, .b false, .b false, .b false, .b false, .b false, .b false, .b false, .b false, .b false, .b false, .b false, .b false, .b false, .b false, .b false, .b false, .b false, .b false, .b false, .b false, .b false, .b false, .b false, .b false, .b false, .b false, .b false, .b false, .b false, .b false, .b false, .b false, .b false, .b false, .b false, .b false, .b false, .b false, .b false, .b false, .b false, .b false, .b false, .b false, .b false, .b false, .b false, .b false, .b false, .b false, .b false, .b false, .b false, .b false, .b false, .b false, .b false, .b false, .b false, .b false, .b false, .b false, .b false, .b false, .b false, .b false, .b false, .b false, .b false, .b false, .b false, .b false, .b false, .b false, .b false, .b false, .b false, .b false, .b false, .b false, .b false, .b false, .b false, .b false, .b false, .b false, .b false, .b false, .b false, .b false, .b false, .b false, .b false, .b false, .b false, .b false, .b false, .b false, .b false, .b false, .b false, .b false, .b false, .b false, .b false, .b false, .b false, .b false, .b false, .b false, .b false, .b false, .b false, .b false, .b false, .b false, .b false, .b false, .b false, .b false, .b false, .b false, .b false, .b false, .b false, .b false, .b false, .b false, .b false, .b false, .b false, .b false, .b false, .b false, .b false, .b false, .b false, .b false, .b false, .b false, .b false, .b false, .b false, .b false, .b false, .b false, .b false, .b false, .b false, .b false, .b false, .b false, .b false, .b false, .b false, .b false, .b false, .b false, .b false, .b false, .b false, .b false, .b false, .b false, .b false, .b false, .b false, .b false, .b false, .b false, .b false, .b false, .b false, .b false, .b false, .b false, .b false, .b false, .b false, .b false, .b false, .b false, .b false, .b false, .b false, .b false, .b false, .b false, .b false, .b false, .b false, .b false, .b false, .b false, .b false, .b false, .b false, .b false, .b false, .b false, .b false, .b false, .b false, .b false, .b false, .b false, .b false, .b false, .b false, .b false, .b false, .b false, .b false, .b false, .b false]⟩) .e
 .e)
 .e)))
 (.n none (.n (some ⟨.struct [(0, 9), (1, 3), (2, 3), (3, 9), (4, 24), (8, 3), (9, 9), (10, 3), (11, 82)], 16, 208, [.s 0 0, .i .i64 0, .i .i64 0, .s 0 0, .i .i64 0, .i .i64 0, .s 0 0, .ns, .i .i64 0, .s 0 0, .i .i64 0, .i .i64 0, .s 0 0, .s 0 0, .i .i64 0, .ns]⟩) (.n (some ⟨.ptr 86, 1, 8, [.np]⟩) (.n (some ⟨.func, 1, 8, [.nf]⟩) .e
 .e)
 (.n (some ⟨.func, 1, 8, [.nf]⟩) .e
 .e))
 (.n (some ⟨.ptr 214, 1, 8, [.np]⟩) (.n (some ⟨.func, 1, 8, [.nf]⟩) .e
 .e)
 .e))
 (.n (some ⟨.struct [(0, 114), (1, 115)], 2, 32, [.np, .ns]⟩) (.n (some ⟨.ptr 5, 1, 8, [.np]⟩) (.n (some ⟨.func, 1, 8, [.nf]⟩) .e
 .e)
 (.n (some ⟨.struct [(0, 17), (1, 17), (2, 17), (3, 9)], 4, 40, [.np, .np, .np, .s 0 0]⟩) .e
 .e))
 (.n none (.n (some ⟨.func, 1, 8, [.nf]⟩) .e
 .e)
 .e))))
 (.n (some ⟨.struct [(0, 26), (8, 4), (9, 27)], 10, 128, [.i .i64 0, .i .i64 0, .s 0 0, .ns, .i .i64 0, .s 0 0, .ns, .b false, .b false, .i .i64 0]⟩) (.n (some ⟨.func, 1, 8, [.nf]⟩) (.n (some ⟨.struct [(0, 3), (1, 2), (2, 9), (3, 2)], 4, 40, [.i .i64 0, .i .i64 0, .s 0 0, .i .i64 0]⟩) (.n (some ⟨.struct [(0, 86)], 29, 368, [.i .i64 0, .s 0 0, .s 0 0, .s 0 0, .ns, .s 0 0, .s 0 0, .i .i64 0, .s 0 0, .i .i64 0, .i .i64 0, .s 0 0, .i .i64 0, .i .i64 0, .s 0 0, .ns, .i .i64 0, .s 0 0, .i .i64 0, .i .i64 0, .s 0 0, .s 0 0, .i .i64 0, .ns, .i .i64 0, .i .i64 0, .i .i64 0, .b false, .i .i64 0]⟩) .e
 (.n (some ⟨.func, 1, 8, [.nf]⟩) .e
 .e))
 (.n (some ⟨.func, 1, 8, [.nf]⟩) (.n (some ⟨.func, 1, 8, [.nf]⟩) .e
 .e)
 .e))
 (.n none (.n (some ⟨.struct [(0, 9), (1, 9)], 2, 32, [.s 0 0, .s 0 0]⟩) (.n (some ⟨.func, 1, 8, [.nf]⟩) .e
 .e)
 (.n (some ⟨.func, 1, 8, [.nf]⟩) .e
 .e))
 (.n none (.n (some ⟨.func, 1, 8, [.nf]⟩) .e
 .e)
 .e)))
 (.n (some ⟨.struct [(0, 59)], 1, 24, [.ns]⟩) (.n none (.n (some ⟨.func, 1, 8, [.nf]⟩) (.n (some ⟨.func, 1, 8, [.nf]⟩) .e
 .e)
 (.n (some ⟨.func, 1, 8, [.nf]⟩) .e
 .e))
 (.n (some ⟨.struct [(0, 3), (1, 217), (2, 218), (3, 219)], 4, 48, [.i .i64 0, .ns, .nf, .nf]⟩) (.n (some ⟨.func, 1, 8, [.nf]⟩) .e
 .e)
 .e))
 (.n none (.n (some ⟨.func, 1, 8, [.nf]⟩) (.n (some ⟨.ptr 248, 1, 8, [.np]⟩) .e
 .e)
 (.n (some ⟨.int .i32, 1, 4, [.i .i32 0]⟩) .e
 .e))
 (.n (some ⟨.uptr, 1, 8, [.np]⟩) (.n (some ⟨.struct [(0, 82), (5, 115), (6, 115), (7, 3), (8, 3)], 9, 136, [.i .i64 0, .s 0 0, .s 0 0, .i .i64 0, .ns, .ns, .ns, .i .i64 0, .i .i64 0]⟩) .e
 .e)
 .e))))))
 (.n (some ⟨.int .u8, 1, 1, [.i .u8 0]⟩) (.n (some ⟨.string, 1, 16, [.s 0 0]⟩) (.n (some ⟨.struct [(0, 17)], 1, 8, [.np]⟩) (.n (some ⟨.func, 1, 8, [.nf]⟩) (.n none (.n (some ⟨.func, 1, 8, [.nf]⟩) (.n (some ⟨.func, 1, 8, [.nf]⟩) .e
 .e)
 (.n (some ⟨.func, 1, 8, [.nf]⟩) .e
 .e))
 (.n (some ⟨.func, 1, 8, [.nf]⟩) (.n (some ⟨.struct [(0, 50), (1, 50), (2, 50), (3, 4), (4, 22)], 5, 104, [.ns, .ns, .ns, .b false, .ns]⟩) .e
 .e)
 .e))
 (.n (some ⟨.func, 1, 8, [.nf]⟩) (.n (some ⟨.slice 161, 1, 24, [.ns]⟩) (.n (some ⟨.func, 1, 8, [.nf]⟩) .e
 .e)
 .e)
 (.n (some ⟨.func, 1, 8, [.nf]⟩) (.n (some ⟨.func, 1, 8, [.nf]⟩) .e
 .e)
 .e)))
 (.n (some ⟨.slice 9, 1, 24, [.ns]⟩) (.n (some ⟨.struct [(0, 3), (1, 9), (2, 9), (3, 3), (4, 22)], 5, 72, [.i .i64 0, .s 0 0, .s 0 0, .i .i64 0, .ns]⟩) (.n (some ⟨.func, 1, 8, [.nf]⟩) (.n (some ⟨.func, 1, 8, [.nf]⟩) .e
 .e)
 (.n (some ⟨.func, 1, 8, [.nf]⟩) .e
 .e))
 (.n (some ⟨.func, 1, 8, [.nf]⟩) (.n (some ⟨.func, 1, 8, [.nf]⟩) .e
 .e)
 .e))
 (.n (some ⟨.ptr 117, 1, 8, [.np]⟩) (.n (some ⟨.int .u64, 1, 8, [.i .u64 0]⟩) (.n (some ⟨.func, 1, 8, [.nf]⟩) .e
 .e)
 (.n (some ⟨.struct [(0, 301), (1, 301), (2, 433)], 5, 20, [.i .u32 0, .i .u32 0, .i .i32 0, .i .i32 0, .i .i32 0]⟩) .e
 .e))
 (.n none (.n (some ⟨.func, 1, 8, [.nf]⟩) .e
 .e)
 .e))))
 (.n (some ⟨.struct [(0, 24), (4, 3), (5, 9), (6, 22), (7, 4)], 8, 112, [.i .i64 0, .i .i64 0, .s 0 0, .ns, .i .i64 0, .s 0 0, .ns, .b false]⟩) (.n (some ⟨.slice 49, 1, 24, [.ns]⟩) (.n none (.n (some ⟨.func, 1, 8, [.nf]⟩) (.n (some ⟨.map 3 265, 1, 8, [.nm]⟩) .e
 .e)
 (.n (some ⟨.func, 1, 8, [.nf]⟩) .e
 .e))
 (.n (some ⟨.func, 1, 8, [.nf]⟩) (.n (some ⟨.func, 1, 8, [.nf]⟩) .e
 .e)
 .e))
 (.n none (.n (some ⟨.func, 1, 8, [.nf]⟩) (.n (some ⟨.func, 1, 8, [.nf]⟩) .e
 .e)
 (.n (some ⟨.ptr 435, 1, 8, [.np]⟩) .e
 .e))
 (.n (some ⟨.func, 1, 8, [.nf]⟩) (.n (some ⟨.func, 1, 8, [.nf]⟩) .e
 .e)
 .e)))
 (.n (some ⟨.func, 1, 8, [.nf]⟩) (.n none (.n none (.n (some ⟨.func, 1, 8, [.nf]⟩) .e
 .e)
 (.n (some ⟨.int .i64, 1, 8, [.i .i64 0]⟩) .e
 .e))
 (.n (some ⟨.func, 1, 8, [.nf]⟩) (.n (some ⟨.func, 1, 8, [.nf]⟩) .e
 .e)
 .e))
 (.n (some ⟨.iface, 1, 16, [.ni]⟩) (.n none (.n (some ⟨.func, 1, 8, [.nf]⟩) .e
 .e)
 (.n (some ⟨.int .u8, 1, 1, [.i .u8 0]⟩) .e
 .e))
 (.n (some ⟨.struct [(0, 5), (1, 5)], 2, 2, [.i .u8 0, .i .u8 0]⟩) (.n (some ⟨.array 4 377, 4, 32, [.nf, .nf, .nf, .nf]⟩) .e
 .e)
 .e)))))
 (.n (some ⟨.struct [(0, 9), (1, 12)], 2, 24, [.s 0 0, .i .u64 0]⟩) (.n (some ⟨.slice 172, 1, 24, [.ns]⟩) (.n (some ⟨.struct [(0, 3), (1, 3), (2, 3), (3, 2), (4, 4)], 5, 40, [.i .i64 0, .i .i64 0, .i .i64 0, .i .i64 0, .b false]⟩) (.n (some ⟨.struct [(0, 61), (1, 2), (2, 3), (3, 68)], 4, 64, [.ns, .i .i64 0, .i .i64 0, .ns]⟩) (.n (some ⟨.struct [(0, 70), (4, 73)], 5, 88, [.ns, .i .i64 0, .i .i64 0, .ns, .ns]⟩) (.n (some ⟨.ptr 264, 1, 8, [.np]⟩) .e
 .e)
 (.n (some ⟨.map 9 4, 1, 8, [.nm]⟩) .e
 .e))
 (.n (some ⟨.func, 1, 8, [.nf]⟩) (.n (some ⟨.ptr 161, 1, 8, [.np]⟩) .e
 .e)
 .e))
 (.n (some ⟨.func, 1, 8, [.nf]⟩) (.n (some ⟨.func, 1, 8, [.nf]⟩) (.n (some ⟨.func, 1, 8, [.nf]⟩) .e
 .e)
 (.n (some ⟨.func, 1, 8, [.nf]⟩) .e
 .e))
 (.n (some ⟨.func, 1, 8, [.nf]⟩) .e
 .e)))
 (.n (some ⟨.func, 1, 8, [.nf]⟩) (.n (some ⟨.struct [(0, 64), (6, 9), (7, 3), (8, 84), (24, 3), (25, 3), (26, 3), (27, 4), (28, 27)], 29, 368, [.i .i64 0, .s 0 0, .s 0 0, .s 0 0, .ns, .s 0 0, .s 0 0, .i .i64 0, .s 0 0, .i .i64 0, .i .i64 0, .s 0 0, .i .i64 0, .i .i64 0, .s 0 0, .ns, .i .i64 0, .s 0 0, .i .i64 0, .i .i64 0, .s 0 0, .s 0 0, .i .i64 0, .ns, .i .i64 0, .i .i64 0, .i .i64 0, .b false, .i .i64 0]⟩) (.n (some ⟨.func, 1, 8, [.nf]⟩) (.n (some ⟨.func, 1, 8, [.nf]⟩) .e
 .e)
 (.n (some ⟨.array 64 5, 64, 64, [.i .u8 0, .i .u8 0, .i .u8 0, .i .u8 0, .i .u8 0, .i .u8 0, .i .u8 0, .i .u8 0, .i .u8 0, .i .u8 0, .i .u8 0, .i .u8 0, .i .u8 0, .i .u8 0, .i .u8 0, .i .u8 0, .i .u8 0, .i .u8 0, .i .u8 0, .i .u8 0, .i .u8 0, .i .u8 0, .i .u8 0, .i .u8 0, .i .u8 0, .i .u8 0, .i .u8 0, .i .u8 0, .i .u8 0, .i .u8 0, .i .u8 0, .i .u8 0, .i .u8 0, .i .u8 0, .i .u8 0, .i .u8 0, .i .u8 0, .i .u8 0, .i .u8 0, .i .u8 0, .i .u8 0, .i .u8 0, .i .u8 0, .i .u8 0, .i .u8 0, .i .u8 0, .i .u8 0, .i .u8 0, .i .u8 0, .i .u8 0, .i .u8 0, .i .u8 0, .i .u8 0, .i .u8 0, .i .u8 0, .i .u8 0, .i .u8 0, .i .u8 0, .i .u8 0, .i .u8 0, .i .u8 0, .i .u8 0, .i .u8 0, .i .u8 0]⟩) .e
 .e))
 (.n (some ⟨.struct [(0, 96)], 38, 440, [.i .i64 0, .i .i64 0, .i .i64 0, .i .i64 0, .i .i64 0, .b false, .i .i64 0, .s 0 0, .s 0 0, .s 0 0, .ns, .s 0 0, .s 0 0, .i .i64 0, .s 0 0, .i .i64 0, .i .i64 0, .s 0 0, .i .i64 0, .i .i64 0, .s 0 0, .ns, .i .i64 0, .s 0 0, .i .i64 0, .i .i64 0, .s 0 0, .s 0 0, .i .i64 0, .ns, .i .i64 0, .i .i64 0, .i .i64 0, .b false, .i .i64 0, .i .i64 0, .i .i64 0, .b false]⟩) (.n (some ⟨.ptr 380, 1, 8, [.np]⟩) .e
 .e)
 .e))
 (.n (some ⟨.func, 1, 8, [.nf]⟩) (.n (some ⟨.func, 1, 8, [.nf]⟩) .e
 (.n (some ⟨.array 0 16, 0, 0, []⟩) .e
 .e))
 (.n (some ⟨.func, 1, 8, [.nf]⟩) (.n (some ⟨.func, 1, 8, [.nf]⟩) .e
 .e)
 .e))))
 (.n none (.n (some ⟨.struct [(0, 3), (1, 3), (2, 2), (3, 3), (4, 9), (5, 27)], 6, 56, [.i .i64 0, .i .i64 0, .i .i64 0, .i .i64 0, .s 0 0, .i .i64 0]⟩) (.n (some ⟨.func, 1, 8, [.nf]⟩) (.n none (.n (some ⟨.func, 1, 8, [.nf]⟩) .e
 .e)
 (.n (some ⟨.func, 1, 8, [.nf]⟩) .e
 .e))
 (.n (some ⟨.struct [(0, 3), (1, 205)], 2, 16, [.i .i64 0, .nf]⟩) .e
 .e))
 (.n (some ⟨.func, 1, 8, [.nf]⟩) (.n (some ⟨.func, 1, 8, [.nf]⟩) .e
 (.n (some ⟨.struct [(0, 9)], 1, 16, [.s 0 0]⟩) .e
 .e))
 (.n (some ⟨.func, 1, 8, [.nf]⟩) (.n (some ⟨.func, 1, 8, [.nf]⟩) .e
 .e)
 .e)))
 (.n (some ⟨.func, 1, 8, [.nf]⟩) (.n (some ⟨.func, 1, 8, [.nf]⟩) (.n (some ⟨.func, 1, 8, [.nf]⟩) (.n (some ⟨.func, 1, 8, [.nf]⟩) .e
 .e)
 (.n (some ⟨.struct [(0, 5), (1, 5)], 2, 2, [.i .u8 0, .i .u8 0]⟩) .e
 .e))
 (.n (some ⟨.func, 1, 8, [.nf]⟩) (.n (some ⟨.func, 1, 8, [.nf]⟩) .e
 .e)
 .e))
 (.n (some ⟨.func, 1, 8, [.nf]⟩) (.n (some ⟨.slice 64, 1, 24, [.ns]⟩) .e
 (.n (some ⟨.struct [(0, 12), (1, 12), (2, 301), (3, 441), (4, 5), (5, 5), (6, 442), (7, 443), (8, 180), (9, 444), (10, 445)], 11, 48, [.i .u64 0, .i .u64 0, .i .u32 0, .i .u8 0, .i .u8 0, .i .u8 0, .i .u8 0, .nf, .np, .i .i32 0, .i .i32 0]⟩) .e
 .e))
 (.n none (.n (some ⟨.func, 1, 8, [.nf]⟩) .e
 .e)
 .e))))))))
noncomputable def XT : Tr Nat := (.n none (.n none (.n none (.n none (.n none (.n none (.n none (.n none .e
 (.n none (.n none .e
 (.n none (.n none (.n none (.n none (.n none .e
 (.n none (.n none .e
 (.n none .e
 (.n none .e
 (.n (some 0) .e
 .e))))
 .e))
 .e)
 .e)
 .e)
 .e))
 .e))
 .e)
 (.n none (.n none .e
 (.n none (.n none .e
 (.n none (.n none (.n none (.n none (.n none .e
 (.n none (.n none .e
 (.n none .e
 (.n none .e
 (.n (some 0) .e
 .e))))
 .e))
 .e)
 .e)
 .e)
 .e))
 .e))
 (.n none .e
 (.n none .e
 (.n none .e
 (.n none (.n none (.n none (.n none (.n none .e
 (.n none (.n none .e
 (.n none .e
 (.n none .e
 (.n (some 0) .e
 .e))))
 .e))
 .e)
 .e)
 .e)
 .e))))))
 (.n none (.n none (.n none (.n (some 2) .e
 (.n none .e
 (.n none (.n none (.n none (.n none (.n none .e
 (.n none (.n none .e
 (.n none .e
 (.n none .e
 (.n (some 0) .e
 .e))))
 .e))
 .e)
 .e)
 .e)
 .e)))
 (.n none (.n none .e
 (.n none (.n none (.n none (.n none (.n none .e
 (.n none (.n none .e
 (.n none .e
 (.n none .e
 (.n (some 0) .e
 .e))))
 .e))
 .e)
 .e)
 .e)
 .e))
 .e))
 .e)
 (.n none (.n none .e
 (.n none (.n none .e
 (.n none (.n none (.n none (.n none (.n none .e
 (.n none (.n none .e
 (.n none .e
 (.n none .e
 (.n (some 0) .e
 .e))))
 .e))
 .e)
 .e)
 .e)
 .e))
 .e))
 (.n none .e
 (.n none .e
 (.n none .e
 (.n none (.n none (.n none (.n none (.n none .e
 (.n none (.n none .e
 (.n none .e
 (.n none .e
 (.n (some 0) .e
 .e))))
 .e))
 .e)
 .e)
 .e)
 .e)))))))
 (.n none (.n none (.n none .e
 (.n none (.n none (.n none .e
 (.n none (.n none (.n none (.n none (.n none .e
 (.n none (.n none .e
 (.n none .e
 (.n none .e
 (.n (some 0) .e
 .e))))
 .e))
 .e)
 .e)
 .e)
 .e))
 (.n none .e
 (.n none (.n none (.n none (.n none (.n none .e
 (.n none (.n none .e
 (.n none .e
 (.n none .e
 (.n (some 0) .e
 .e))))
 .e))
 .e)
 .e)
 .e)
 .e)))
 .e))
 (.n none .e
 (.n none (.n none (.n none .e
 (.n none (.n none (.n none (.n none (.n none .e
 (.n none (.n none .e
 (.n none .e
 (.n none .e
 (.n (some 0) .e
 .e))))
 .e))
 .e)
 .e)
 .e)
 .e))
 .e)
 .e)))
 (.n none (.n none .e
 (.n none (.n none (.n none .e
 (.n none (.n none (.n none (.n none (.n none .e
 (.n none (.n none .e
 (.n none .e
 (.n none .e
 (.n (some 0) .e
 .e))))
 .e))
 .e)
 .e)
 .e)
 .e))
 .e)
 .e))
 (.n none (.n none (.n none .e
 (.n none .e
 (.n none (.n none (.n none (.n none (.n none .e
 (.n none (.n none .e
 (.n none .e
 (.n none .e
 (.n (some 0) .e
 .e))))
 .e))
 .e)
 .e)
 .e)
 .e)))
 .e)
 (.n none (.n none (.n none .e
 (.n none (.n none (.n none (.n none (.n none .e
 (.n none (.n none .e
 (.n none .e
 (.n none .e
 (.n (some 0) .e
 .e))))
 .e))
 .e)
 .e)
 .e)
 .e))
 .e)
 .e)))))
 (.n none (.n none (.n none (.n none (.n none .e
 (.n none .e
 (.n none .e
 (.n none (.n none (.n none (.n none (.n none .e
 (.n none (.n none .e
 (.n none .e
 (.n none .e
 (.n (some 0) .e
 .e))))
 .e))
 .e)
 .e)
 .e)
 .e))))
 .e)
 (.n none (.n none (.n none .e
 (.n none .e
 (.n none (.n none (.n none (.n none (.n none .e
 (.n none (.n none .e
 (.n none .e
 (.n none .e
 (.n (some 0) .e
 .e))))
 .e))
 .e)
 .e)
 .e)
 .e)))
 .e)
 (.n none .e
 (.n none (.n none .e
 (.n none (.n none (.n none (.n none (.n none .e
 (.n none (.n none .e
 (.n none .e
 (.n none .e
 (.n (some 0) .e
 .e))))
 .e))
 .e)
 .e)
 .e)
 .e))
 .e))))
 (.n none (.n none (.n none .e
 (.n none (.n none .e
 (.n none (.n none (.n none (.n none (.n none .e
 (.n none (.n none .e
 (.n none .e
 (.n none .e
 (.n (some 0) .e
 .e))))
 .e))
 .e)
 .e)
 .e)
 .e))
 .e))
 .e)
 (.n none .e
 (.n none .e
 (.n none .e
 (.n none .e
 (.n none (.n none (.n none (.n none (.n none .e
 (.n none (.n none .e
 (.n none .e
 (.n none .e
 (.n (some 0) .e
 .e))))
 .e))
 .e)
 .e)
 .e)
 .e)))))))
 (.n none (.n none .e
 (.n none .e
 (.n none .e
 (.n none (.n none .e
 (.n none (.n none (.n none (.n none (.n none .e
 (.n none (.n none .e
 (.n none .e
 (.n none .e
 (.n (some 0) .e
 .e))))
 .e))
 .e)
 .e)
 .e)
 .e))
 .e))))
 (.n none .e
 (.n none (.n none .e
 (.n none .e
 (.n none .e
 (.n none (.n none (.n none (.n none (.n none .e
 (.n none (.n none .e
 (.n none .e
 (.n none .e
 (.n (some 0) .e
 .e))))
 .e))
 .e)
 .e)
 .e)
 .e))))
 .e)))))
 (.n none (.n none (.n none (.n none (.n none (.n (some 3) .e
 .e)
 .e)
 (.n none .e
 (.n none (.n none (.n none .e
 (.n none (.n none (.n none (.n none (.n none .e
 (.n none (.n none .e
 (.n none .e
 (.n none .e
 (.n (some 0) .e
 .e))))
 .e))
 .e)
 .e)
 .e)
 .e))
 .e)
 (.n none (.n none .e
 (.n none (.n none (.n none (.n none (.n none .e
 (.n none (.n none .e
 (.n none .e
 (.n none .e
 (.n (some 0) .e
 .e))))
 .e))
 .e)
 .e)
 .e)
 .e))
 .e))))
 (.n none (.n none (.n none .e
 (.n none (.n none .e
 (.n none (.n none (.n none (.n none (.n none .e
 (.n none (.n none .e
 (.n none .e
 (.n none .e
 (.n (some 0) .e
 .e))))
 .e))
 .e)
 .e)
 .e)
 .e))
 .e))
 .e)
 (.n none .e
 (.n none (.n none (.n none .e
 (.n none (.n none (.n none (.n none (.n none .e
 (.n none (.n none .e
 (.n none .e
 (.n none .e
 (.n (some 0) .e
 .e))))
 .e))
 .e)
 .e)
 .e)
 .e))
 .e)
 .e))))
 (.n none (.n none .e
 (.n none .e
 (.n none (.n none (.n none .e
 (.n none (.n none (.n none (.n none (.n none .e
 (.n none (.n none .e
 (.n none .e
 (.n none .e
 (.n (some 0) .e
 .e))))
 .e))
 .e)
 .e)
 .e)
 .e))
 .e)
 .e)))
 (.n none (.n none .e
 (.n none (.n none (.n none .e
 (.n none (.n none (.n none (.n none (.n none .e
 (.n none (.n none .e
 (.n none .e
 (.n none .e
 (.n (some 0) .e
 .e))))
 .e))
 .e)
 .e)
 .e)
 .e))
 .e)
 .e))
 .e)))
 (.n none (.n none (.n none (.n none (.n none .e
 (.n none (.n none .e
 (.n none (.n none (.n none (.n none (.n none .e
 (.n none (.n none .e
 (.n none .e
 (.n none .e
 (.n (some 0) .e
 .e))))
 .e))
 .e)
 .e)
 .e)
 .e))
 .e))
 (.n none .e
 (.n none (.n none .e
 (.n none (.n none (.n none (.n none (.n none .e
 (.n none (.n none .e
 (.n none .e
 (.n none .e
 (.n (some 0) .e
 .e))))
 .e))
 .e)
 .e)
 .e)
 .e))
 .e)))
 .e)
 (.n none (.n none (.n none (.n none .e
 (.n none .e
 (.n none (.n none (.n none (.n none (.n none .e
 (.n none (.n none .e
 (.n none .e
 (.n none .e
 (.n (some 0) .e
 .e))))
 .e))
 .e)
 .e)
 .e)
 .e)))
 (.n none (.n none .e
 (.n none (.n none (.n none (.n none (.n none .e
 (.n none (.n none .e
 (.n none .e
 (.n none .e
 (.n (some 0) .e
 .e))))
 .e))
 .e)
 .e)
 .e)
 .e))
 .e))
 .e)
 (.n none (.n none .e
 (.n none (.n none .e
 (.n none (.n none (.n none (.n none (.n none .e
 (.n none (.n none .e
 (.n none .e
 (.n none .e
 (.n (some 0) .e
 .e))))
 .e))
 .e)
 .e)
 .e)
 .e))
 .e))
 .e)))
 (.n none (.n none (.n none (.n none .e
 (.n none (.n none .e
 (.n none (.n none (.n none (.n none (.n none .e
 (.n none (.n none .e
 (.n none .e
 (.n none .e
 (.n (some 0) .e
 .e))))
 .e))
 .e)
 .e)
 .e)
 .e))
 .e))
 (.n none .e
 (.n none (.n none .e
 (.n none (.n none (.n none (.n none (.n none .e
 (.n none (.n none .e
 (.n none .e
 (.n none .e
 (.n (some 0) .e
 .e))))
 .e))
 .e)
 .e)
 .e)
 .e))
 .e)))
 (.n none .e
 (.n none (.n none (.n none .e
 (.n none (.n none (.n none (.n none (.n none .e
 (.n none (.n none .e
 (.n none .e
 (.n none .e
 (.n (some 0) .e
 .e))))
 .e))
 .e)
 .e)
 .e)
 .e))
 .e)
 .e)))
 (.n none (.n none (.n none (.n none .e
 (.n none .e
 (.n none (.n none (.n none (.n none (.n none .e
 (.n none (.n none .e
 (.n none .e
 (.n none .e
 (.n (some 0) .e
 .e))))
 .e))
 .e)
 .e)
 .e)
 .e)))
 .e)
 (.n none (.n none (.n none .e
 (.n none (.n none (.n none (.n none (.n none .e
 (.n none (.n none .e
 (.n none .e
 (.n none .e
 (.n (some 0) .e
 .e))))
 .e))
 .e)
 .e)
 .e)
 .e))
 .e)
 .e))
 (.n none .e
 (.n none (.n none (.n none .e
 (.n none (.n none (.n none (.n none (.n none .e
 (.n none (.n none .e
 (.n none .e
 (.n none .e
 (.n (some 0) .e
 .e))))
 .e))
 .e)
 .e)
 .e)
 .e))
 .e)
 .e)))))))
 (.n none (.n none (.n none (.n none (.n none (.n none (.n none .e
 (.n none (.n none .e
 (.n none (.n none (.n none (.n none (.n none .e
 (.n none (.n none .e
 (.n none .e
 (.n none .e
 (.n (some 0) .e
 .e))))
 .e))
 .e)
 .e)
 .e)
 .e))
 .e))
 .e)
 (.n none (.n none .e
 (.n none (.n none .e
 (.n none (.n none (.n none (.n none (.n none .e
 (.n none (.n none .e
 (.n none .e
 (.n none .e
 (.n (some 0) .e
 .e))))
 .e))
 .e)
 .e)
 .e)
 .e))
 .e))
 (.n none (.n none (.n none .e
 (.n none (.n none (.n none (.n none (.n none .e
 (.n none (.n none .e
 (.n none .e
 (.n none .e
 (.n (some 0) .e
 .e))))
 .e))
 .e)
 .e)
 .e)
 .e))
 .e)
 (.n none (.n none .e
 (.n none (.n none (.n none (.n none (.n none .e
 (.n none (.n none .e
 (.n none .e
 (.n none .e
 (.n (some 0) .e
 .e))))
 .e))
 .e)
 .e)
 .e)
 .e))
 .e))))
 (.n none (.n none (.n none .e
 (.n none (.n none .e
 (.n none (.n none (.n none (.n none (.n none .e
 (.n none (.n none .e
 (.n none .e
 (.n none .e
 (.n (some 0) .e
 .e))))
 .e))
 .e)
 .e)
 .e)
 .e))
 .e))
 .e)
 (.n none (.n none .e
 (.n none (.n none .e
 (.n none (.n none (.n none (.n none (.n none .e
 (.n none (.n none .e
 (.n none .e
 (.n none .e
 (.n (some 0) .e
 .e))))
 .e))
 .e)
 .e)
 .e)
 .e))
 .e))
 (.n none (.n none (.n none .e
 (.n none (.n none (.n none (.n none (.n none .e
 (.n none (.n none .e
 (.n none .e
 (.n none .e
 (.n (some 0) .e
 .e))))
 .e))
 .e)
 .e)
 .e)
 .e))
 .e)
 .e))))
 (.n none (.n none (.n none .e
 (.n none (.n none (.n none .e
 (.n none (.n none (.n none (.n none (.n none .e
 (.n none (.n none .e
 (.n none .e
 (.n none .e
 (.n (some 0) .e
 .e))))
 .e))
 .e)
 .e)
 .e)
 .e))
 (.n none .e
 (.n none (.n none (.n none (.n none (.n none .e
 (.n none (.n none .e
 (.n none .e
 (.n none .e
 (.n (some 0) .e
 .e))))
 .e))
 .e)
 .e)
 .e)
 .e)))
 .e))
 (.n none .e
 (.n none (.n none (.n none .e
 (.n none (.n none (.n none (.n none (.n none .e
 (.n none (.n none .e
 (.n none .e
 (.n none .e
 (.n (some 0) .e
 .e))))
 .e))
 .e)
 .e)
 .e)
 .e))
 .e)
 .e)))
 (.n none (.n none .e
 (.n none (.n none (.n none .e
 (.n none (.n none (.n none (.n none (.n none .e
 (.n none (.n none .e
 (.n none .e
 (.n none .e
 (.n (some 0) .e
 .e))))
 .e))
 .e)
 .e)
 .e)
 .e))
 .e)
 .e))
 (.n none (.n none (.n none .e
 (.n none .e
 (.n none (.n none (.n none (.n none (.n none .e
 (.n none (.n none .e
 (.n none .e
 (.n none .e
 (.n (some 0) .e
 .e))))
 .e))
 .e)
 .e)
 .e)
 .e)))
 .e)
 (.n none (.n none (.n none .e
 (.n none (.n none (.n none (.n none (.n none .e
 (.n none (.n none .e
 (.n none .e
 (.n none .e
 (.n (some 0) .e
 .e))))
 .e))
 .e)
 .e)
 .e)
 .e))
 .e)
 .e)))))
 (.n none (.n none (.n none .e
 (.n none .e
 (.n none .e
 (.n none (.n none .e
 (.n none (.n none (.n none (.n none (.n none .e
 (.n none (.n none .e
 (.n none .e
 (.n none .e
 (.n (some 0) .e
 .e))))
 .e))
 .e)
 .e)
 .e)
 .e))
 .e))))
 (.n none (.n none (.n none .e
 (.n none (.n none .e
 (.n none (.n none (.n none (.n none (.n none .e
 (.n none (.n none .e
 (.n none .e
 (.n none .e
 (.n (some 0) .e
 .e))))
 .e))
 .e)
 .e)
 .e)
 .e))
 .e))
 .e)
 (.n none (.n none .e
 (.n none (.n none .e
 (.n none (.n none (.n none (.n none (.n none .e
 (.n none (.n none .e
 (.n none .e
 (.n none .e
 (.n (some 0) .e
 .e))))
 .e))
 .e)
 .e)
 .e)
 .e))
 .e))
 .e)))
 (.n none (.n none (.n none (.n none .e
 (.n none (.n none .e
 (.n none (.n none (.n none (.n none (.n none .e
 (.n none (.n none .e
 (.n none .e
 (.n none .e
 (.n (some 0) .e
 .e))))
 .e))
 .e)
 .e)
 .e)
 .e))
 (.n none .e
 (.n none .e
 (.n none (.n none (.n none (.n none .e
 (.n none .e
 (.n none .e
 (.n none (.n none .e
 (.n none .e
 (.n none (.n (some 5) .e
 .e)
 .e)))
 .e))))
 .e)
 .e)
 .e)))))
 (.n (some 4) .e
 (.n none (.n none .e
 (.n none (.n none (.n none (.n none (.n none .e
 (.n none (.n none .e
 (.n none .e
 (.n none .e
 (.n (some 0) .e
 .e))))
 .e))
 .e)
 .e)
 .e)
 .e))
 .e)))
 (.n none .e
 (.n none .e
 (.n none (.n none .e
 (.n none (.n none (.n none (.n none (.n none .e
 (.n none (.n none .e
 (.n none .e
 (.n none .e
 (.n (some 0) .e
 .e))))
 .e))
 .e)
 .e)
 .e)
 .e))
 .e))))
 (.n none (.n none (.n none (.n none .e
 (.n none .e
 (.n none (.n none (.n none (.n none (.n none .e
 (.n none (.n none .e
 (.n none .e
 (.n none .e
 (.n (some 0) .e
 .e))))
 .e))
 .e)
 .e)
 .e)
 .e)))
 .e)
 (.n none (.n none (.n none .e
 (.n none (.n none (.n none (.n none (.n none .e
 (.n none (.n none .e
 (.n none .e
 (.n none .e
 (.n (some 0) .e
 .e))))
 .e))
 .e)
 .e)
 .e)
 .e))
 .e)
 .e))
 (.n none (.n none .e
 (.n none .e
 (.n none .e
 (.n none (.n none (.n none (.n none (.n none .e
 (.n none (.n none .e
 (.n none .e
 (.n none .e
 (.n (some 0) .e
 .e))))
 .e))
 .e)
 .e)
 .e)
 .e))))
 (.n none (.n none (.n none .e
 (.n none (.n none (.n none (.n none (.n none .e
 (.n none (.n none .e
 (.n none .e
 (.n none .e
 (.n (some 0) .e
 .e))))
 .e))
 .e)
 .e)
 .e)
 .e))
 .e)
 .e))))))
 (.n none (.n none (.n none (.n none (.n none (.n none .e
 (.n none .e
 (.n none .e
 (.n none (.n none (.n none (.n none (.n none .e
 (.n none (.n none .e
 (.n none .e
 (.n none .e
 (.n (some 0) .e
 .e))))
 .e))
 .e)
 .e)
 .e)
 .e))))
 .e)
 .e)
 (.n none (.n none (.n none .e
 (.n none (.n none .e
 (.n none (.n none (.n none (.n none (.n none .e
 (.n none (.n none .e
 (.n none .e
 (.n none .e
 (.n (some 0) .e
 .e))))
 .e))
 .e)
 .e)
 .e)
 .e))
 .e))
 .e)
 (.n none (.n none (.n (some 1) .e
 .e)
 .e)
 (.n none .e
 (.n none .e
 (.n none .e
 (.n none (.n none (.n none (.n none (.n none .e
 (.n none (.n none .e
 (.n none .e
 (.n none .e
 (.n (some 0) .e
 .e))))
 .e))
 .e)
 .e)
 .e)
 .e)))))))
 (.n none .e
 (.n none (.n none .e
 (.n none (.n none (.n none .e
 (.n none (.n none (.n none (.n none (.n none .e
 (.n none (.n none .e
 (.n none .e
 (.n none .e
 (.n (some 0) .e
 .e))))
 .e))
 .e)
 .e)
 .e)
 .e))
 .e)
 .e))
 (.n none (.n none (.n none .e
 (.n none .e
 (.n none (.n none (.n none (.n none (.n none .e
 (.n none (.n none .e
 (.n none .e
 (.n none .e
 (.n (some 0) .e
 .e))))
 .e))
 .e)
 .e)
 .e)
 .e)))
 .e)
 .e))))
 (.n none (.n none (.n none (.n none (.n none .e
 (.n none (.n none .e
 (.n none (.n none (.n none (.n none (.n none .e
 (.n none (.n none .e
 (.n none .e
 (.n none .e
 (.n (some 0) .e
 .e))))
 .e))
 .e)
 .e)
 .e)
 .e))
 .e))
 (.n none .e
 (.n none (.n none .e
 (.n none (.n none (.n none (.n none (.n none .e
 (.n none (.n none .e
 (.n none .e
 (.n none .e
 (.n (some 0) .e
 .e))))
 .e))
 .e)
 .e)
 .e)
 .e))
 .e)))
 (.n none .e
 (.n none (.n none (.n none .e
 (.n none (.n none (.n none (.n none (.n none .e
 (.n none (.n none .e
 (.n none .e
 (.n none .e
 (.n (some 0) .e
 .e))))
 .e))
 .e)
 .e)
 .e)
 .e))
 .e)
 .e)))
 (.n none (.n none (.n none (.n none .e
 (.n none .e
 (.n none (.n none (.n none (.n none (.n none .e
 (.n none (.n none .e
 (.n none .e
 (.n none .e
 (.n (some 0) .e
 .e))))
 .e))
 .e)
 .e)
 .e)
 .e)))
 (.n none (.n none .e
 (.n none (.n none (.n none (.n none (.n none .e
 (.n none (.n none .e
 (.n none .e
 (.n none .e
 (.n (some 0) .e
 .e))))
 .e))
 .e)
 .e)
 .e)
 .e))
 .e))
 .e)
 .e))
 (.n none (.n none (.n none (.n none (.n none .e
 (.n none .e
 (.n none (.n none (.n none (.n none (.n none .e
 (.n none (.n none .e
 (.n none .e
 (.n none .e
 (.n (some 0) .e
 .e))))
 .e))
 .e)
 .e)
 .e)
 .e)))
 .e)
 .e)
 (.n none .e
 (.n none (.n none (.n none .e
 (.n none (.n none (.n none (.n none (.n none .e
 (.n none (.n none .e
 (.n none .e
 (.n none .e
 (.n (some 0) .e
 .e))))
 .e))
 .e)
 .e)
 .e)
 .e))
 .e)
 (.n none .e
 (.n none .e
 (.n none (.n none (.n none (.n none (.n none .e
 (.n none (.n none .e
 (.n none .e
 (.n none .e
 (.n (some 0) .e
 .e))))
 .e))
 .e)
 .e)
 .e)
 .e))))))
 (.n none (.n none .e
 (.n none .e
 (.n none .e
 (.n none .e
 (.n none (.n none (.n none (.n none (.n none .e
 (.n none (.n none .e
 (.n none .e
 (.n none .e
 (.n (some 0) .e
 .e))))
 .e))
 .e)
 .e)
 .e)
 .e)))))
 .e))))))
/-- internal/strconv.uint64pow10. -/
def cl0 : List CV := [.i .u64 1, .i .u64 10, .i .u64 100, .i .u64 1000, .i .u64 10000, .i .u64 100000, .i .u64 1000000, .i .u64 10000000, .i .u64 100000000, .i .u64 1000000000, .i .u64 10000000000, .i .u64 100000000000, .i .u64 1000000000000, .i .u64 10000000000000, .i .u64 100000000000000, .i .u64 1000000000000000, .i .u64 10000000000000000, .i .u64 100000000000000000, .i .u64 1000000000000000000, .i .u64 10000000000000000000]
/-- spillway/request.methods. -/
def cl1 : List CV := [.s 3 5522759, .b true, .b true, .b true, .s 4 1145128264, .b true, .b true, .b true, .s 7 23448525506629711, .b true, .b true, .b false, .s 5 297481097812, .b true, .b true, .b true, .s 3 5526864, .b false, .b true, .b false, .s 6 76228242195780, .b false, .b true, .b false]
noncomputable def GT : Tr Nat := (.n none .e (.n (some 1) (.n (some 0) .e .e) .e))
def gl (τ : Nat → Nat) : GL := [(4, τ 4, cl0), (2, τ 2, cl1)]
noncomputable def H0 (τ : Nat → Nat) : Tr CO := (.n (some (.c (τ 4) (trL cl0 0) 20 1 0 true false)) (.n (some (.c (τ 2) (trL cl1 0) 24 1 0 true false)) .e .e) .e)
def nx0 : Nat := 2
noncomputable def enM (M : MT) : En := { T := TT.get, F := fiOf Tryz.prog, G := GT.get, X := XT.get, M := fun f => lookF f M }
noncomputable def sg (M : MT) : Sg := ⟨Tryz.prog, enM M⟩
theorem ckM : Tryz.prog.follows .mixedOrders = true := by kernel_rfl
theorem ckT : allTr 40 (fun t ti => tiB Tryz.prog t ti) TT = true := by kernel_rfl
theorem ckN : (Tryz.prog.funcs.toList.all fun fn => !(fn.name == "runtime.NumGoroutine")) = true := by kernel_rfl
theorem ckC : allTr 40 (fun k _ => bif Nat.ble 1000000 k then cmpB Tryz.prog (k - 1000000) else true) XT = true := by kernel_rfl
def exts : List (Nat × Nat) := [(129, 3), (204, 4), (271, 2), (306, 1)]
theorem ckX : allTr 40 (fun k v => bif Nat.ble 1000000 k then true else memB exts k v) XT = true := by kernel_rfl
theorem ext129 (M : MT) : XEnt (sg M) 129 3 := .ne Tryz.func129 (by kernel_rfl) (by kernel_rfl) (by kernel_rfl) (by kernel_rfl)
theorem ext204 (M : MT) : XEnt (sg M) 204 4 := .mz (ps := Tryz.f204.params) (t := 115) (e := 5) Tryz.func204 (by kernel_rfl) (by kernel_rfl) (by kernel_rfl) (by kernel_rfl) (by kernel_rfl) (by kernel_rfl)
theorem ext271 (M : MT) : XEnt (sg M) 271 2 := .ib (by simp) Tryz.func271 (by kernel_rfl) (by kernel_rfl) (by kernel_rfl) (by kernel_rfl)
theorem ext306 (M : MT) : XEnt (sg M) 306 1 := .ib (by simp) Tryz.func306 (by kernel_rfl) (by kernel_rfl) (by kernel_rfl) (by kernel_rfl)
theorem sokM (M : MT) : SOk (sg M) := sok_of (S := sg M) (TT := TT) (XT := XT) ckM rfl rfl ckT ckC
theorem fokM (M : MT) : FOk (sg M) := fok_of (S := sg M) rfl ckN
theorem xokM (M : MT) : XOk (sg M) := xok_of (S := sg M) (XT := XT) (l := exts) rfl ckX (ents_cons (ext129 M) (ents_cons (ext204 M) (ents_cons (ext271 M) (ents_cons (ext306 M) ents_nil))))
/-- How it begins. -/
theorem initM (M : MT) {W : World} (τ : Nat → Nat) (hw : GHas W (gl τ)) (hb : ∀ x ∈ gl τ, x.1 < W.heap.size) : Init (sg M) W.heap.size W (H0 τ) nx0 :=
  init_of (S := sg M) (l := gl τ) (GT := GT) rfl (by kernel_rfl) (by kernel_rfl) (by simp [gl]) (by kernel_rfl) (by simp [gl]) (by simp [gl, cl0, cl1]) hb hw
end Go.Proofs.YtljlcljlnhaniaaGreatDoor
