/-
  Ways through the program, by the evaluator: what each comes to, under the conditions that it lists (printed by gen.py).
  Conditions: those that each theorem names.
-/
import Derived.Test.YtnndhmnabbkamaaTab
import Derived.Test.YtnndhmnabbkamaaNum
import Derived.Test.YtnndhmnabbkamaaEv15
namespace Go.Proofs.Ytnndhmnabbkamaa
open Go Go.Ev Go.Proofs
set_option maxRecDepth 100000

theorem nw2_80 : Named Try.prog 80 Try.f80 := ⟨Try.func80, by kernel_rfl, by kernel_rfl⟩
theorem p80_c (a c m v s r b : Int) (hc : Conj [
    (c != 0) = true,
    CallOk Try.prog 85 [nv a, nv m] [] (AV.tup [nv r, AT.one (A0.int IntKind.i64 b)]) [] []]) :
    FnOk Try.prog 80 ([.one (.ptr true 1000 0), nv a, .one (.int .i64 c)]) ([(1000, pview m v s)]) (AV.t (nv r)) ([(1000, pview m v s)]) :=
  fn_run tOk mixed nw2_80 ([1000]) ([.yes, .yes, .yes, .yes, .yes, .yes, .yes, .yes, .call (.tup [nv r, .one (.int .i64 (b))]) [] [] []]) (by kernel_rfl) (Conj.pick hc [0, 0, 0, 0, 0, 0, 0, 0, 1])

theorem p80_ge (a c m v s r b k : Int) (hc : Conj [
    (c != 0) = false,
    CallOk Try.prog 100 [nv a, nv m] [] (AV.t (AT.one (A0.int IntKind.i64 k))) [] [],
    decide (k ≥ 0) = true,
    CallOk Try.prog 85 [nv a, nv m] [] (AV.tup [nv r, AT.one (A0.int IntKind.i64 b)]) [] []]) :
    FnOk Try.prog 80 ([.one (.ptr true 1000 0), nv a, .one (.int .i64 c)]) ([(1000, pview m v s)]) (AV.t (nv r)) ([(1000, pview m v s)]) :=
  fn_run tOk mixed nw2_80 ([1000]) ([.no, .no, .no, .no, .no, .no, .call (.one (.int .i64 (k))) [] [] [], .no, .no, .yes, .call (.tup [nv r, .one (.int .i64 (b))]) [] [] []]) (by kernel_rfl) (Conj.pick hc [0, 0, 0, 0, 0, 0, 1, 0, 0, 2, 3])

theorem p80_lt (a c m v s k : Int) (hc : Conj [
    (c != 0) = false,
    CallOk Try.prog 100 [nv a, nv m] [] (AV.t (AT.one (A0.int IntKind.i64 k))) [] [],
    decide (k ≥ 0) = false]) :
    FnOk Try.prog 80 ([.one (.ptr true 1000 0), nv a, .one (.int .i64 c)]) ([(1000, pview m v s)]) (AV.t (nv a)) ([(1000, pview m v s)]) :=
  fn_run tOk mixed nw2_80 ([1000]) ([.no, .no, .no, .no, .no, .no, .call (.one (.int .i64 (k))) [] [] [], .no, .no, .no]) (by kernel_rfl) (Conj.pick hc [0, 0, 0, 0, 0, 0, 1, 0, 0, 2])

theorem nw2_79 : Named Try.prog 79 Try.f79 := ⟨Try.func79, by kernel_rfl, by kernel_rfl⟩
theorem p79 (a b m v s r t0 t1 t2 t3 f00 f01 f02 f03 f04 d0 g00 g01 g02 g03 g04 e0 f10 f11 f12 f13 f14 d1 g10 g11 g12 g13 g14 e1 f20 f21 f22 f23 f24 d2 g20 g21 g22 g23 g24 e2 f30 f31 f32 f33 f34 d3 g30 g31 g32 g33 g34 e3 : Int) (hc : Conj [
    CallOk Try.prog 112 [AT.one (A0.sl true 7 0 5 6), AT.one (A0.int IntKind.u64 (l0 a)), nv b] [(7, Blk.mk BK.own 123 (Cells.vals [A0.lit IntKind.u64 0, A0.lit IntKind.u64 0, A0.lit IntKind.u64 0, A0.lit IntKind.u64 0, A0.lit IntKind.u64 0, A0.lit IntKind.u64 0]) none)] (AV.t (AT.one (A0.int IntKind.u64 d0))) [(7, Blk.mk BK.own 123 (Cells.vals [A0.int IntKind.u64 f00, A0.int IntKind.u64 f01, A0.int IntKind.u64 f02, A0.int IntKind.u64 f03, A0.int IntKind.u64 f04, A0.int IntKind.u64 t0]) none)] [],
    CallOk Try.prog 112 [AT.one (A0.sl true 7 0 5 6), AT.one (A0.int IntKind.u64 (IntKind.u64.wrap (f00 * v))), nv m] [(7, Blk.mk BK.own 123 (Cells.vals [A0.int IntKind.u64 f00, A0.int IntKind.u64 f01, A0.int IntKind.u64 f02, A0.int IntKind.u64 f03, A0.int IntKind.u64 f04, A0.int IntKind.u64 d0]) none)] (AV.t (AT.one (A0.int IntKind.u64 e0))) [(7, Blk.mk BK.own 123 (Cells.vals [A0.int IntKind.u64 g00, A0.int IntKind.u64 g01, A0.int IntKind.u64 g02, A0.int IntKind.u64 g03, A0.int IntKind.u64 g04, A0.int IntKind.u64 d0]) none)] [],
    CallOk Try.prog 112 [AT.one (A0.sl true 7 0 5 6), AT.one (A0.int IntKind.u64 (l1 a)), nv b] [(7, Blk.mk BK.own 123 (Cells.vals [A0.int IntKind.u64 g01, A0.int IntKind.u64 g02, A0.int IntKind.u64 g03, A0.int IntKind.u64 g04, A0.int IntKind.u64 (IntKind.u64.wrap (d0 + e0)), A0.int IntKind.u64 (IntKind.u64.wrap (d0 + e0))]) none)] (AV.t (AT.one (A0.int IntKind.u64 d1))) [(7, Blk.mk BK.own 123 (Cells.vals [A0.int IntKind.u64 f10, A0.int IntKind.u64 f11, A0.int IntKind.u64 f12, A0.int IntKind.u64 f13, A0.int IntKind.u64 f14, A0.int IntKind.u64 t1]) none)] [],
    CallOk Try.prog 112 [AT.one (A0.sl true 7 0 5 6), AT.one (A0.int IntKind.u64 (IntKind.u64.wrap (f10 * v))), nv m] [(7, Blk.mk BK.own 123 (Cells.vals [A0.int IntKind.u64 f10, A0.int IntKind.u64 f11, A0.int IntKind.u64 f12, A0.int IntKind.u64 f13, A0.int IntKind.u64 f14, A0.int IntKind.u64 d1]) none)] (AV.t (AT.one (A0.int IntKind.u64 e1))) [(7, Blk.mk BK.own 123 (Cells.vals [A0.int IntKind.u64 g10, A0.int IntKind.u64 g11, A0.int IntKind.u64 g12, A0.int IntKind.u64 g13, A0.int IntKind.u64 g14, A0.int IntKind.u64 d1]) none)] [],
    CallOk Try.prog 112 [AT.one (A0.sl true 7 0 5 6), AT.one (A0.int IntKind.u64 (l2 a)), nv b] [(7, Blk.mk BK.own 123 (Cells.vals [A0.int IntKind.u64 g11, A0.int IntKind.u64 g12, A0.int IntKind.u64 g13, A0.int IntKind.u64 g14, A0.int IntKind.u64 (IntKind.u64.wrap (d1 + e1)), A0.int IntKind.u64 (IntKind.u64.wrap (d1 + e1))]) none)] (AV.t (AT.one (A0.int IntKind.u64 d2))) [(7, Blk.mk BK.own 123 (Cells.vals [A0.int IntKind.u64 f20, A0.int IntKind.u64 f21, A0.int IntKind.u64 f22, A0.int IntKind.u64 f23, A0.int IntKind.u64 f24, A0.int IntKind.u64 t2]) none)] [],
    CallOk Try.prog 112 [AT.one (A0.sl true 7 0 5 6), AT.one (A0.int IntKind.u64 (IntKind.u64.wrap (f20 * v))), nv m] [(7, Blk.mk BK.own 123 (Cells.vals [A0.int IntKind.u64 f20, A0.int IntKind.u64 f21, A0.int IntKind.u64 f22, A0.int IntKind.u64 f23, A0.int IntKind.u64 f24, A0.int IntKind.u64 d2]) none)] (AV.t (AT.one (A0.int IntKind.u64 e2))) [(7, Blk.mk BK.own 123 (Cells.vals [A0.int IntKind.u64 g20, A0.int IntKind.u64 g21, A0.int IntKind.u64 g22, A0.int IntKind.u64 g23, A0.int IntKind.u64 g24, A0.int IntKind.u64 d2]) none)] [],
    CallOk Try.prog 112 [AT.one (A0.sl true 7 0 5 6), AT.one (A0.int IntKind.u64 (l3 a)), nv b] [(7, Blk.mk BK.own 123 (Cells.vals [A0.int IntKind.u64 g21, A0.int IntKind.u64 g22, A0.int IntKind.u64 g23, A0.int IntKind.u64 g24, A0.int IntKind.u64 (IntKind.u64.wrap (d2 + e2)), A0.int IntKind.u64 (IntKind.u64.wrap (d2 + e2))]) none)] (AV.t (AT.one (A0.int IntKind.u64 d3))) [(7, Blk.mk BK.own 123 (Cells.vals [A0.int IntKind.u64 f30, A0.int IntKind.u64 f31, A0.int IntKind.u64 f32, A0.int IntKind.u64 f33, A0.int IntKind.u64 f34, A0.int IntKind.u64 t3]) none)] [],
    CallOk Try.prog 112 [AT.one (A0.sl true 7 0 5 6), AT.one (A0.int IntKind.u64 (IntKind.u64.wrap (f30 * v))), nv m] [(7, Blk.mk BK.own 123 (Cells.vals [A0.int IntKind.u64 f30, A0.int IntKind.u64 f31, A0.int IntKind.u64 f32, A0.int IntKind.u64 f33, A0.int IntKind.u64 f34, A0.int IntKind.u64 d3]) none)] (AV.t (AT.one (A0.int IntKind.u64 e3))) [(7, Blk.mk BK.own 123 (Cells.vals [A0.int IntKind.u64 g30, A0.int IntKind.u64 g31, A0.int IntKind.u64 g32, A0.int IntKind.u64 g33, A0.int IntKind.u64 g34, A0.int IntKind.u64 d3]) none)] [],
    CallOk Try.prog 80 [AT.one (A0.ptr true 1000 0), w4 g31 g32 g33 g34, AT.one (A0.int IntKind.i64 (IntKind.i64.wrap (IntKind.u64.wrap (d3 + e3))))] [(1000, pview m v s)] (AV.t (nv r)) [] []]) :
    FnOk Try.prog 79 ([.one (.ptr true 1000 0), nv a, nv b]) ([(1000, pview m v s)]) (AV.t (nv r)) ([(1000, pview m v s)]) :=
  fn_run tOk mixed nw2_79 ([1000]) ([.go, .call (.one (.int .u64 (d0))) [7] [(7, { kind := .own, e := 123, c := c6 f00 f01 f02 f03 f04 t0 })] [], .call (.one (.int .u64 (e0))) [7] [(7, { kind := .own, e := 123, c := c6 g00 g01 g02 g03 g04 d0 })] [], .call (.one (.int .u64 (d1))) [7] [(7, { kind := .own, e := 123, c := c6 f10 f11 f12 f13 f14 t1 })] [], .call (.one (.int .u64 (e1))) [7] [(7, { kind := .own, e := 123, c := c6 g10 g11 g12 g13 g14 d1 })] [], .call (.one (.int .u64 (d2))) [7] [(7, { kind := .own, e := 123, c := c6 f20 f21 f22 f23 f24 t2 })] [], .call (.one (.int .u64 (e2))) [7] [(7, { kind := .own, e := 123, c := c6 g20 g21 g22 g23 g24 d2 })] [], .call (.one (.int .u64 (d3))) [7] [(7, { kind := .own, e := 123, c := c6 f30 f31 f32 f33 f34 t3 })] [], .call (.one (.int .u64 (e3))) [7] [(7, { kind := .own, e := 123, c := c6 g30 g31 g32 g33 g34 d3 })] [], .call (.t (nv r)) [1000] [] []]) (by kernel_rfl) hc

end Go.Proofs.Ytnndhmnabbkamaa
