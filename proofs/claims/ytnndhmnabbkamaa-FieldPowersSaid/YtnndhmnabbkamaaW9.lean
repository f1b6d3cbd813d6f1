/-
  Ways through the program, by the evaluator: what each comes to, under the conditions that it lists (printed by gen.py).
  Conditions: those that each theorem names.
-/
import Derived.Test.YtnndhmnabbkamaaTab
import Derived.Test.YtnndhmnabbkamaaNum
import Derived.Test.YtnndhmnabbkamaaEv15
namespace Go.Proofs.Ytnndhmnabbkamaa
open Go Go.Ev Go.Proofs
set_option maxRecDepth 100000

theorem nw9_38 : Named Try.prog 38 Try.f38 := ⟨Try.func38, by kernel_rfl, by kernel_rfl⟩
theorem p38_e (which m : Int) (hc : Conj [
    (which.tmod 2 == 0) = true,
    CallOk Try.prog 35 [] [] (AV.t (nv m)) [] []]) :
    FnOk Try.prog 38 ([.one (.int .i64 (which))]) ([]) (AV.tup [AT.one (A0.lit IntKind.i64 1), nv m]) ([]) :=
  fn_run tOk mixed nw9_38 ([]) ([.yes, .call (.t (nv m)) [] [] []]) (by kernel_rfl) hc

theorem p38_o (which m : Int) (hc : Conj [
    (which.tmod 2 == 0) = false,
    CallOk Try.prog 50 [] [] (AV.t (nv m)) [] []]) :
    FnOk Try.prog 38 ([.one (.int .i64 (which))]) ([]) (AV.tup [AT.one (A0.lit IntKind.i64 2), nv m]) ([]) :=
  fn_run tOk mixed nw9_38 ([]) ([.no, .call (.t (nv m)) [] [] []]) (by kernel_rfl) hc

theorem nw9_7 : Named Try.prog 7 Try.f7 := ⟨Try.func7, by kernel_rfl, by kernel_rfl⟩
theorem p7_z (which k x y z m a b c ab bc l p r g o q u : Int) (hc : Conj [
    CallOk Try.prog 38 [AT.one (A0.int IntKind.i64 which)] [] (AV.tup [AT.one (A0.int IntKind.i64 k), nv m]) [] [],
    CallOk Try.prog 20 [AT.one (A0.int IntKind.i64 k), nv x] [] (AV.tup [nv a, AT.one (A0.lit IntKind.i64 0)]) [] [],
    CallOk Try.prog 20 [AT.one (A0.int IntKind.i64 k), nv y] [] (AV.tup [nv b, AT.one (A0.lit IntKind.i64 0)]) [] [],
    CallOk Try.prog 20 [AT.one (A0.int IntKind.i64 k), nv z] [] (AV.tup [nv c, AT.one (A0.lit IntKind.i64 0)]) [] [],
    CallOk Try.prog 17 [] [] (AV.t (AT.one (A0.blit true))) [] [],
    CallOk Try.prog 26 [AT.one (A0.int IntKind.i64 k), nv a, nv b] [] (AV.tup [nv ab, AT.one (A0.lit IntKind.i64 0)]) [] [],
    CallOk Try.prog 26 [AT.one (A0.int IntKind.i64 k), nv b, nv a] [] (AV.tup [nv ab, AT.one (A0.lit IntKind.i64 0)]) [] [],
    CallOk Try.prog 26 [AT.one (A0.int IntKind.i64 k), nv b, nv c] [] (AV.tup [nv bc, AT.one (A0.lit IntKind.i64 0)]) [] [],
    CallOk Try.prog 26 [AT.one (A0.int IntKind.i64 k), nv ab, nv c] [] (AV.tup [nv l, AT.one (A0.lit IntKind.i64 0)]) [] [],
    CallOk Try.prog 26 [AT.one (A0.int IntKind.i64 k), nv a, nv bc] [] (AV.tup [nv l, AT.one (A0.lit IntKind.i64 0)]) [] [],
    CallOk Try.prog 27 [AT.one (A0.int IntKind.i64 k), nv ab, nv b] [] (AV.tup [nv a, AT.one (A0.lit IntKind.i64 0)]) [] [],
    decide ([l0 ab, l1 ab, l2 ab, l3 ab] = [l0 ab, l1 ab, l2 ab, l3 ab]) = true,
    decide ([l0 l, l1 l, l2 l, l3 l] = [l0 l, l1 l, l2 l, l3 l]) = true,
    CallOk Try.prog 28 [AT.one (A0.int IntKind.i64 k), nv a, nv b] [] (AV.tup [nv p, AT.one (A0.lit IntKind.i64 0)]) [] [],
    CallOk Try.prog 28 [AT.one (A0.int IntKind.i64 k), nv b, nv a] [] (AV.tup [nv p, AT.one (A0.lit IntKind.i64 0)]) [] [],
    CallOk Try.prog 28 [AT.one (A0.int IntKind.i64 k), nv b, nv c] [] (AV.tup [nv r, AT.one (A0.lit IntKind.i64 0)]) [] [],
    CallOk Try.prog 28 [AT.one (A0.int IntKind.i64 k), nv p, nv c] [] (AV.tup [nv g, AT.one (A0.lit IntKind.i64 0)]) [] [],
    CallOk Try.prog 28 [AT.one (A0.int IntKind.i64 k), nv a, nv r] [] (AV.tup [nv g, AT.one (A0.lit IntKind.i64 0)]) [] [],
    decide ([l0 p, l1 p, l2 p, l3 p] = [l0 p, l1 p, l2 p, l3 p]) = true,
    CallOk Try.prog 28 [AT.one (A0.int IntKind.i64 k), nv a, nv bc] [] (AV.tup [nv o, AT.one (A0.lit IntKind.i64 0)]) [] [],
    CallOk Try.prog 28 [AT.one (A0.int IntKind.i64 k), nv a, nv c] [] (AV.tup [nv q, AT.one (A0.lit IntKind.i64 0)]) [] [],
    CallOk Try.prog 26 [AT.one (A0.int IntKind.i64 k), nv p, nv q] [] (AV.tup [nv o, AT.one (A0.lit IntKind.i64 0)]) [] [],
    CallOk Try.prog 20 [AT.one (A0.int IntKind.i64 k), AT.agg (Cells.vals [A0.lit IntKind.u64 1, A0.lit IntKind.u64 0, A0.lit IntKind.u64 0, A0.lit IntKind.u64 0])] [] (AV.tup [nv u, AT.one (A0.lit IntKind.i64 0)]) [] [],
    CallOk Try.prog 28 [AT.one (A0.int IntKind.i64 k), nv a, nv u] [] (AV.tup [nv a, AT.one (A0.lit IntKind.i64 0)]) [] [],
    decide ([l0 o, l1 o, l2 o, l3 o] = [l0 o, l1 o, l2 o, l3 o]) = true,
    decide ([l0 a, l1 a, l2 a, l3 a] = [0, 0, 0, 0]) = true,
    decide ([l0 a, l1 a, l2 a, l3 a] = [l0 a, l1 a, l2 a, l3 a]) = true,
    decide ([l0 g, l1 g, l2 g, l3 g] = [l0 g, l1 g, l2 g, l3 g]) = true]) :
    FnOk Try.prog 7 ([.one (.int .i64 (which)), .agg (.vals [.int .u64 (l0 x), .int .u64 (l1 x), .int .u64 (l2 x), .int .u64 (l3 x), .int .u64 (l0 y), .int .u64 (l1 y), .int .u64 (l2 y), .int .u64 (l3 y), .int .u64 (l0 z), .int .u64 (l1 z), .int .u64 (l2 z), .int .u64 (l3 z)])]) ([]) (AV.t (AT.one (A0.bool (decide ([l0 a, l1 a, l2 a, l3 a] = [l0 a, l1 a, l2 a, l3 a]))))) ([]) :=
  fn_run tOk mixed nw9_7 ([]) ([.call (.tup [.one (.int .i64 (k)), nv m]) [] [] [], .call (.tup [nv a, .one (.lit .i64 (0))]) [] [] [], .call (.tup [nv b, .one (.lit .i64 (0))]) [] [] [], .call (.tup [nv c, .one (.lit .i64 (0))]) [] [] [], .call (.one (.blit true)) [] [] [], .call (.tup [nv ab, .one (.lit .i64 (0))]) [] [] [], .call (.tup [nv ab, .one (.lit .i64 (0))]) [] [] [], .call (.tup [nv bc, .one (.lit .i64 (0))]) [] [] [], .call (.tup [nv l, .one (.lit .i64 (0))]) [] [] [], .call (.tup [nv l, .one (.lit .i64 (0))]) [] [] [], .call (.tup [nv a, .one (.lit .i64 (0))]) [] [] [], .yes, .yes, .yes, .yes, .yes, .yes, .yes, .yes, .call (.tup [nv p, .one (.lit .i64 (0))]) [] [] [], .call (.tup [nv p, .one (.lit .i64 (0))]) [] [] [], .call (.tup [nv r, .one (.lit .i64 (0))]) [] [] [], .call (.tup [nv g, .one (.lit .i64 (0))]) [] [] [], .call (.tup [nv g, .one (.lit .i64 (0))]) [] [] [], .yes, .yes, .yes, .yes, .call (.tup [nv o, .one (.lit .i64 (0))]) [] [] [], .call (.tup [nv q, .one (.lit .i64 (0))]) [] [] [], .call (.tup [nv o, .one (.lit .i64 (0))]) [] [] [], .call (.tup [nv u, .one (.lit .i64 (0))]) [] [] [], .call (.tup [nv a, .one (.lit .i64 (0))]) [] [] [], .yes, .yes, .yes, .yes, .yes, .yes, .yes, .yes, .yes]) (by kernel_rfl) (Conj.pick hc [0, 1, 2, 3, 4, 5, 6, 7, 8, 9, 10, 11, 11, 11, 11, 12, 12, 12, 12, 13, 14, 15, 16, 17, 18, 18, 18, 18, 19, 20, 21, 22, 23, 24, 24, 24, 24, 25, 26, 26, 27, 27])

theorem p7_i (which k x y z m a b c ab bc l p r g o q u i : Int) (hc : Conj [
    CallOk Try.prog 38 [AT.one (A0.int IntKind.i64 which)] [] (AV.tup [AT.one (A0.int IntKind.i64 k), nv m]) [] [],
    CallOk Try.prog 20 [AT.one (A0.int IntKind.i64 k), nv x] [] (AV.tup [nv a, AT.one (A0.lit IntKind.i64 0)]) [] [],
    CallOk Try.prog 20 [AT.one (A0.int IntKind.i64 k), nv y] [] (AV.tup [nv b, AT.one (A0.lit IntKind.i64 0)]) [] [],
    CallOk Try.prog 20 [AT.one (A0.int IntKind.i64 k), nv z] [] (AV.tup [nv c, AT.one (A0.lit IntKind.i64 0)]) [] [],
    CallOk Try.prog 17 [] [] (AV.t (AT.one (A0.blit true))) [] [],
    CallOk Try.prog 26 [AT.one (A0.int IntKind.i64 k), nv a, nv b] [] (AV.tup [nv ab, AT.one (A0.lit IntKind.i64 0)]) [] [],
    CallOk Try.prog 26 [AT.one (A0.int IntKind.i64 k), nv b, nv a] [] (AV.tup [nv ab, AT.one (A0.lit IntKind.i64 0)]) [] [],
    CallOk Try.prog 26 [AT.one (A0.int IntKind.i64 k), nv b, nv c] [] (AV.tup [nv bc, AT.one (A0.lit IntKind.i64 0)]) [] [],
    CallOk Try.prog 26 [AT.one (A0.int IntKind.i64 k), nv ab, nv c] [] (AV.tup [nv l, AT.one (A0.lit IntKind.i64 0)]) [] [],
    CallOk Try.prog 26 [AT.one (A0.int IntKind.i64 k), nv a, nv bc] [] (AV.tup [nv l, AT.one (A0.lit IntKind.i64 0)]) [] [],
    CallOk Try.prog 27 [AT.one (A0.int IntKind.i64 k), nv ab, nv b] [] (AV.tup [nv a, AT.one (A0.lit IntKind.i64 0)]) [] [],
    decide ([l0 ab, l1 ab, l2 ab, l3 ab] = [l0 ab, l1 ab, l2 ab, l3 ab]) = true,
    decide ([l0 l, l1 l, l2 l, l3 l] = [l0 l, l1 l, l2 l, l3 l]) = true,
    CallOk Try.prog 28 [AT.one (A0.int IntKind.i64 k), nv a, nv b] [] (AV.tup [nv p, AT.one (A0.lit IntKind.i64 0)]) [] [],
    CallOk Try.prog 28 [AT.one (A0.int IntKind.i64 k), nv b, nv a] [] (AV.tup [nv p, AT.one (A0.lit IntKind.i64 0)]) [] [],
    CallOk Try.prog 28 [AT.one (A0.int IntKind.i64 k), nv b, nv c] [] (AV.tup [nv r, AT.one (A0.lit IntKind.i64 0)]) [] [],
    CallOk Try.prog 28 [AT.one (A0.int IntKind.i64 k), nv p, nv c] [] (AV.tup [nv g, AT.one (A0.lit IntKind.i64 0)]) [] [],
    CallOk Try.prog 28 [AT.one (A0.int IntKind.i64 k), nv a, nv r] [] (AV.tup [nv g, AT.one (A0.lit IntKind.i64 0)]) [] [],
    decide ([l0 p, l1 p, l2 p, l3 p] = [l0 p, l1 p, l2 p, l3 p]) = true,
    CallOk Try.prog 28 [AT.one (A0.int IntKind.i64 k), nv a, nv bc] [] (AV.tup [nv o, AT.one (A0.lit IntKind.i64 0)]) [] [],
    CallOk Try.prog 28 [AT.one (A0.int IntKind.i64 k), nv a, nv c] [] (AV.tup [nv q, AT.one (A0.lit IntKind.i64 0)]) [] [],
    CallOk Try.prog 26 [AT.one (A0.int IntKind.i64 k), nv p, nv q] [] (AV.tup [nv o, AT.one (A0.lit IntKind.i64 0)]) [] [],
    CallOk Try.prog 20 [AT.one (A0.int IntKind.i64 k), AT.agg (Cells.vals [A0.lit IntKind.u64 1, A0.lit IntKind.u64 0, A0.lit IntKind.u64 0, A0.lit IntKind.u64 0])] [] (AV.tup [nv u, AT.one (A0.lit IntKind.i64 0)]) [] [],
    CallOk Try.prog 28 [AT.one (A0.int IntKind.i64 k), nv a, nv u] [] (AV.tup [nv a, AT.one (A0.lit IntKind.i64 0)]) [] [],
    decide ([l0 o, l1 o, l2 o, l3 o] = [l0 o, l1 o, l2 o, l3 o]) = true,
    decide ([l0 a, l1 a, l2 a, l3 a] = [0, 0, 0, 0]) = false,
    CallOk Try.prog 33 [AT.one (A0.int IntKind.i64 k), nv a] [] (AV.tup [nv i, AT.one (A0.lit IntKind.i64 0)]) [] [],
    CallOk Try.prog 28 [AT.one (A0.int IntKind.i64 k), nv a, nv i] [] (AV.tup [nv u, AT.one (A0.lit IntKind.i64 0)]) [] [],
    CallOk Try.prog 32 [AT.one (A0.int IntKind.i64 k), nv a, w4 (IntKind.u64.wrap (l0 m - 1)) (l1 m) (l2 m) (l3 m)] [] (AV.tup [nv u, AT.one (A0.lit IntKind.i64 0)]) [] [],
    decide ([l0 a, l1 a, l2 a, l3 a] = [l0 a, l1 a, l2 a, l3 a]) = true,
    decide ([l0 g, l1 g, l2 g, l3 g] = [l0 g, l1 g, l2 g, l3 g]) = true,
    decide ([l0 u, l1 u, l2 u, l3 u] = [l0 u, l1 u, l2 u, l3 u]) = true]) :
    FnOk Try.prog 7 ([.one (.int .i64 (which)), .agg (.vals [.int .u64 (l0 x), .int .u64 (l1 x), .int .u64 (l2 x), .int .u64 (l3 x), .int .u64 (l0 y), .int .u64 (l1 y), .int .u64 (l2 y), .int .u64 (l3 y), .int .u64 (l0 z), .int .u64 (l1 z), .int .u64 (l2 z), .int .u64 (l3 z)])]) ([]) (AV.t (AT.one (A0.bool (decide ([l0 u, l1 u, l2 u, l3 u] = [l0 u, l1 u, l2 u, l3 u]))))) ([]) :=
  fn_run tOk mixed nw9_7 ([]) ([.call (.tup [.one (.int .i64 (k)), nv m]) [] [] [], .call (.tup [nv a, .one (.lit .i64 (0))]) [] [] [], .call (.tup [nv b, .one (.lit .i64 (0))]) [] [] [], .call (.tup [nv c, .one (.lit .i64 (0))]) [] [] [], .call (.one (.blit true)) [] [] [], .call (.tup [nv ab, .one (.lit .i64 (0))]) [] [] [], .call (.tup [nv ab, .one (.lit .i64 (0))]) [] [] [], .call (.tup [nv bc, .one (.lit .i64 (0))]) [] [] [], .call (.tup [nv l, .one (.lit .i64 (0))]) [] [] [], .call (.tup [nv l, .one (.lit .i64 (0))]) [] [] [], .call (.tup [nv a, .one (.lit .i64 (0))]) [] [] [], .yes, .yes, .yes, .yes, .yes, .yes, .yes, .yes, .call (.tup [nv p, .one (.lit .i64 (0))]) [] [] [], .call (.tup [nv p, .one (.lit .i64 (0))]) [] [] [], .call (.tup [nv r, .one (.lit .i64 (0))]) [] [] [], .call (.tup [nv g, .one (.lit .i64 (0))]) [] [] [], .call (.tup [nv g, .one (.lit .i64 (0))]) [] [] [], .yes, .yes, .yes, .yes, .call (.tup [nv o, .one (.lit .i64 (0))]) [] [] [], .call (.tup [nv q, .one (.lit .i64 (0))]) [] [] [], .call (.tup [nv o, .one (.lit .i64 (0))]) [] [] [], .call (.tup [nv u, .one (.lit .i64 (0))]) [] [] [], .call (.tup [nv a, .one (.lit .i64 (0))]) [] [] [], .yes, .yes, .yes, .yes, .no, .call (.tup [nv i, .one (.lit .i64 (0))]) [] [] [], .call (.tup [nv u, .one (.lit .i64 (0))]) [] [] [], .call (.tup [nv u, .one (.lit .i64 (0))]) [] [] [], .yes, .yes, .yes, .yes, .yes, .yes, .yes, .yes, .yes, .yes, .yes]) (by kernel_rfl) (Conj.pick hc [0, 1, 2, 3, 4, 5, 6, 7, 8, 9, 10, 11, 11, 11, 11, 12, 12, 12, 12, 13, 14, 15, 16, 17, 18, 18, 18, 18, 19, 20, 21, 22, 23, 24, 24, 24, 24, 25, 26, 27, 28, 29, 29, 30, 30, 29, 29, 29, 31, 31, 31, 31])

end Go.Proofs.Ytnndhmnabbkamaa
