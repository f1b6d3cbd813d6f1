/-
  Ways through the program, by the evaluator: what each comes to, under the conditions that it lists (printed by gen.py).
  Conditions: those that each theorem names.
-/
import Derived.Test.YtnndhmnabbkamaaTab
import Derived.Test.YtnndhmnabbkamaaNum
import Derived.Test.YtnndhmnabbkamaaEv15
namespace Go.Proofs.Ytnndhmnabbkamaa
open Go Go.Ev Go.Proofs
set_option maxRecDepth 100000

theorem nw8_90 : Named Try.prog 90 Try.f90 := ⟨Try.func90, by kernel_rfl, by kernel_rfl⟩
theorem p90 (e i : Int) (hc : Conj [
    decide (i < 0) = false,
    decide (i > 255) = false,
    0 ≤ IntKind.i64.wrap (i.tdiv 64) ∧ IntKind.i64.wrap (i.tdiv 64) < 4,
    0 + (IntKind.i64.wrap (i.tdiv 64)).toNat < 4,
    0 ≤ i.tmod 64]) :
    FnOk Try.prog 90 ([nv e, .one (.int .i64 (i))]) ([]) (AV.t (AT.one (A0.int IntKind.i64 (IntKind.i64.wrap (bitOp BinOp.and IntKind.u64 (([l0 e, l1 e, l2 e, l3 e].getD (0 + (IntKind.i64.wrap (i.tdiv 64)).toNat) 0).fdiv (2 ^ min (i.tmod 64).toNat 64)) 1))))) ([]) :=
  fn_run tOk mixed nw8_90 ([]) ([.no, .no, .no, .no]) (by kernel_rfl) (Conj.pick hc [0, 0, 0, 1, 2, 3, 4])

theorem nw8_96 : Named Try.prog 96 Try.f96 := ⟨Try.func96, by kernel_rfl, by kernel_rfl⟩
theorem p96_3 (e r : Int) (hc : Conj [
    (l3 e != 0) = true,
    CallOk Try.prog 118 [AT.one (A0.int IntKind.u64 (l3 e))] [] (AV.t (AT.one (A0.int IntKind.i64 r))) [] []]) :
    FnOk Try.prog 96 ([nv e]) ([]) (AV.t (AT.one (A0.int IntKind.i64 (IntKind.i64.wrap (192 + r))))) ([]) :=
  fn_run tOk mixed nw8_96 ([]) ([.go, .yes, .call (.one (.int .i64 (r))) [] [] []]) (by kernel_rfl) hc

theorem p96_2 (e r : Int) (hc : Conj [
    (l3 e != 0) = false,
    (l2 e != 0) = true,
    CallOk Try.prog 118 [AT.one (A0.int IntKind.u64 (l2 e))] [] (AV.t (AT.one (A0.int IntKind.i64 r))) [] []]) :
    FnOk Try.prog 96 ([nv e]) ([]) (AV.t (AT.one (A0.int IntKind.i64 (IntKind.i64.wrap (128 + r))))) ([]) :=
  fn_run tOk mixed nw8_96 ([]) ([.go, .no, .yes, .call (.one (.int .i64 (r))) [] [] []]) (by kernel_rfl) hc

theorem p96_1 (e r : Int) (hc : Conj [
    (l3 e != 0) = false,
    (l2 e != 0) = false,
    (l1 e != 0) = true,
    CallOk Try.prog 118 [AT.one (A0.int IntKind.u64 (l1 e))] [] (AV.t (AT.one (A0.int IntKind.i64 r))) [] []]) :
    FnOk Try.prog 96 ([nv e]) ([]) (AV.t (AT.one (A0.int IntKind.i64 (IntKind.i64.wrap (64 + r))))) ([]) :=
  fn_run tOk mixed nw8_96 ([]) ([.go, .no, .no, .yes, .call (.one (.int .i64 (r))) [] [] []]) (by kernel_rfl) hc

theorem p96_0 (e r : Int) (hc : Conj [
    (l3 e != 0) = false,
    (l2 e != 0) = false,
    (l1 e != 0) = false,
    (l0 e != 0) = true,
    CallOk Try.prog 118 [AT.one (A0.int IntKind.u64 (l0 e))] [] (AV.t (AT.one (A0.int IntKind.i64 r))) [] []]) :
    FnOk Try.prog 96 ([nv e]) ([]) (AV.t (AT.one (A0.int IntKind.i64 (IntKind.i64.wrap (0 + r))))) ([]) :=
  fn_run tOk mixed nw8_96 ([]) ([.go, .no, .no, .no, .yes, .call (.one (.int .i64 (r))) [] [] []]) (by kernel_rfl) hc

theorem p96_z (e : Int) (hc : Conj [
    (l3 e != 0) = false,
    (l2 e != 0) = false,
    (l1 e != 0) = false,
    (l0 e != 0) = false]) :
    FnOk Try.prog 96 ([nv e]) ([]) (AV.t (AT.one (A0.lit IntKind.i64 0))) ([]) :=
  fn_run tOk mixed nw8_96 ([]) ([.go, .no, .no, .no, .no]) (by kernel_rfl) hc

theorem r88_1 (a e m v s x q r i b : Int) (hc : Conj [
    decide (i ≥ 0) = true,
    CallOk Try.prog 79 [AT.one (A0.ptr true 1000 0), nv x, nv x] [(1000, pview m v s)] (AV.t (nv q)) [] [],
    CallOk Try.prog 90 [nv e, AT.one (A0.int IntKind.i64 i)] [] (AV.t (AT.one (A0.int IntKind.i64 b))) [] [],
    (b == 1) = true,
    CallOk Try.prog 79 [AT.one (A0.ptr true 1000 0), nv q, nv a] [(1000, pview m v s)] (AV.t (nv r)) [] []]) :
    Runs Try.prog (codeAt Try.f88 [1, 1, 0, 1, 0, 0]) (mkT Try.f88.ntmps ([(0, .one (.ptr true 1000 0)), (4, .one (.ptr true 4 0)), (5, .one (.ptr true 5 0)), (6, .one (.ptr true 6 0)), (7, .one (.ptr true 7 0)), (8, .one (.int .i64 (i)))]), [(1000, pview m v s), (4, { kind := .own, e := 24, c := .vals [.int .u64 (l0 a), .int .u64 (l1 a), .int .u64 (l2 a), .int .u64 (l3 a)] }), (5, { kind := .own, e := 24, c := .vals [.int .u64 (l0 e), .int .u64 (l1 e), .int .u64 (l2 e), .int .u64 (l3 e)] }), (6, { kind := .own, e := 24, c := .vals [.lit .u64 0, .lit .u64 0, .lit .u64 0, .lit .u64 0] }), (7, { kind := .own, e := 24, c := .vals [.int .u64 (l0 x), .int .u64 (l1 x), .int .u64 (l2 x), .int .u64 (l3 x)] })]) (Exit.normal) (mkT 36 [(0, AV.t (AT.one (A0.ptr true 1000 0))), (4, AV.t (AT.one (A0.ptr true 4 0))), (5, AV.t (AT.one (A0.ptr true 5 0))), (6, AV.t (AT.one (A0.ptr true 6 0))), (7, AV.t (AT.one (A0.ptr true 7 0))), (8, AV.t (AT.one (A0.int IntKind.i64 (IntKind.i64.wrap (i - 1)))))], [(1000, pview m v s), (4, Blk.mk BK.own 24 (Cells.vals [A0.int IntKind.u64 (l0 a), A0.int IntKind.u64 (l1 a), A0.int IntKind.u64 (l2 a), A0.int IntKind.u64 (l3 a)]) none), (5, Blk.mk BK.own 24 (Cells.vals [A0.int IntKind.u64 (l0 e), A0.int IntKind.u64 (l1 e), A0.int IntKind.u64 (l2 e), A0.int IntKind.u64 (l3 e)]) none), (6, Blk.mk BK.own 24 (Cells.vals [A0.lit IntKind.u64 0, A0.lit IntKind.u64 0, A0.lit IntKind.u64 0, A0.lit IntKind.u64 0]) none), (7, Blk.mk BK.own 24 (Cells.vals [A0.int IntKind.u64 (l0 r), A0.int IntKind.u64 (l1 r), A0.int IntKind.u64 (l2 r), A0.int IntKind.u64 (l3 r)]) none)]) :=
  sel_run tOk mixed [0, 4, 5, 6, 7, 8] [1000, 4, 5, 6, 7] ([.yes, .call (.t (nv q)) [1000] [] [], .call (.one (.int .i64 (b))) [] [] [], .yes, .call (.t (nv r)) [1000] [] []]) (by kernel_rfl) hc

theorem r88_0 (a e m v s x q i b : Int) (hc : Conj [
    decide (i ≥ 0) = true,
    CallOk Try.prog 79 [AT.one (A0.ptr true 1000 0), nv x, nv x] [(1000, pview m v s)] (AV.t (nv q)) [] [],
    CallOk Try.prog 90 [nv e, AT.one (A0.int IntKind.i64 i)] [] (AV.t (AT.one (A0.int IntKind.i64 b))) [] [],
    (b == 1) = false]) :
    Runs Try.prog (codeAt Try.f88 [1, 1, 0, 1, 0, 0]) (mkT Try.f88.ntmps ([(0, .one (.ptr true 1000 0)), (4, .one (.ptr true 4 0)), (5, .one (.ptr true 5 0)), (6, .one (.ptr true 6 0)), (7, .one (.ptr true 7 0)), (8, .one (.int .i64 (i)))]), [(1000, pview m v s), (4, { kind := .own, e := 24, c := .vals [.int .u64 (l0 a), .int .u64 (l1 a), .int .u64 (l2 a), .int .u64 (l3 a)] }), (5, { kind := .own, e := 24, c := .vals [.int .u64 (l0 e), .int .u64 (l1 e), .int .u64 (l2 e), .int .u64 (l3 e)] }), (6, { kind := .own, e := 24, c := .vals [.lit .u64 0, .lit .u64 0, .lit .u64 0, .lit .u64 0] }), (7, { kind := .own, e := 24, c := .vals [.int .u64 (l0 x), .int .u64 (l1 x), .int .u64 (l2 x), .int .u64 (l3 x)] })]) (Exit.normal) (mkT 36 [(0, AV.t (AT.one (A0.ptr true 1000 0))), (4, AV.t (AT.one (A0.ptr true 4 0))), (5, AV.t (AT.one (A0.ptr true 5 0))), (6, AV.t (AT.one (A0.ptr true 6 0))), (7, AV.t (AT.one (A0.ptr true 7 0))), (8, AV.t (AT.one (A0.int IntKind.i64 (IntKind.i64.wrap (i - 1)))))], [(1000, pview m v s), (4, Blk.mk BK.own 24 (Cells.vals [A0.int IntKind.u64 (l0 a), A0.int IntKind.u64 (l1 a), A0.int IntKind.u64 (l2 a), A0.int IntKind.u64 (l3 a)]) none), (5, Blk.mk BK.own 24 (Cells.vals [A0.int IntKind.u64 (l0 e), A0.int IntKind.u64 (l1 e), A0.int IntKind.u64 (l2 e), A0.int IntKind.u64 (l3 e)]) none), (6, Blk.mk BK.own 24 (Cells.vals [A0.lit IntKind.u64 0, A0.lit IntKind.u64 0, A0.lit IntKind.u64 0, A0.lit IntKind.u64 0]) none), (7, Blk.mk BK.own 24 (Cells.vals [A0.int IntKind.u64 (l0 q), A0.int IntKind.u64 (l1 q), A0.int IntKind.u64 (l2 q), A0.int IntKind.u64 (l3 q)]) none)]) :=
  sel_run tOk mixed [0, 4, 5, 6, 7, 8] [1000, 4, 5, 6, 7] ([.yes, .call (.t (nv q)) [1000] [] [], .call (.one (.int .i64 (b))) [] [] [], .no]) (by kernel_rfl) hc

theorem r88_o (a e m v s x i : Int) (hc : Conj [
    decide (i ≥ 0) = false]) :
    Runs Try.prog (codeAt Try.f88 [1, 1, 0, 1, 0, 0]) (mkT Try.f88.ntmps ([(0, .one (.ptr true 1000 0)), (4, .one (.ptr true 4 0)), (5, .one (.ptr true 5 0)), (6, .one (.ptr true 6 0)), (7, .one (.ptr true 7 0)), (8, .one (.int .i64 (i)))]), [(1000, pview m v s), (4, { kind := .own, e := 24, c := .vals [.int .u64 (l0 a), .int .u64 (l1 a), .int .u64 (l2 a), .int .u64 (l3 a)] }), (5, { kind := .own, e := 24, c := .vals [.int .u64 (l0 e), .int .u64 (l1 e), .int .u64 (l2 e), .int .u64 (l3 e)] }), (6, { kind := .own, e := 24, c := .vals [.lit .u64 0, .lit .u64 0, .lit .u64 0, .lit .u64 0] }), (7, { kind := .own, e := 24, c := .vals [.int .u64 (l0 x), .int .u64 (l1 x), .int .u64 (l2 x), .int .u64 (l3 x)] })]) (Exit.exit 0) (mkT 36 [(6, AV.t (AT.one (A0.ptr true 6 0))), (7, AV.t (AT.one (A0.ptr true 7 0)))], [(1000, pview m v s), (6, Blk.mk BK.own 24 (Cells.vals [A0.lit IntKind.u64 0, A0.lit IntKind.u64 0, A0.lit IntKind.u64 0, A0.lit IntKind.u64 0]) none), (7, Blk.mk BK.own 24 (Cells.vals [A0.int IntKind.u64 (l0 x), A0.int IntKind.u64 (l1 x), A0.int IntKind.u64 (l2 x), A0.int IntKind.u64 (l3 x)]) none)]) :=
  sel_run tOk mixed [6, 7] [1000, 6, 7] ([.no]) (by kernel_rfl) hc

theorem nw8_88 : Named Try.prog 88 Try.f88 := ⟨Try.func88, by kernel_rfl, by kernel_rfl⟩
theorem p88 (a e m v s x b r : Int) (hc : Conj [
    CallOk Try.prog 79 [AT.one (A0.ptr true 1000 0), AT.agg (Cells.vals [A0.lit IntKind.u64 1, A0.lit IntKind.u64 0, A0.lit IntKind.u64 0, A0.lit IntKind.u64 0]), nv s] [(1000, pview m v s)] (AV.t (nv x)) [] [],
    CallOk Try.prog 96 [nv e] [] (AV.t (AT.one (A0.int IntKind.i64 b))) [] [],
    Runs Try.prog (codeAt Try.f88 [1, 1, 0, 1, 0]) (mkT 36 [(0, AV.t (AT.one (A0.ptr true 1000 0))), (4, AV.t (AT.one (A0.ptr true 4 0))), (5, AV.t (AT.one (A0.ptr true 5 0))), (6, AV.t (AT.one (A0.ptr true 6 0))), (7, AV.t (AT.one (A0.ptr true 7 0))), (8, AV.t (AT.one (A0.int IntKind.i64 (IntKind.i64.wrap (b - 1)))))], [(1000, pview m v s), (4, Blk.mk BK.own 24 (Cells.vals [A0.int IntKind.u64 (l0 a), A0.int IntKind.u64 (l1 a), A0.int IntKind.u64 (l2 a), A0.int IntKind.u64 (l3 a)]) none), (5, Blk.mk BK.own 24 (Cells.vals [A0.int IntKind.u64 (l0 e), A0.int IntKind.u64 (l1 e), A0.int IntKind.u64 (l2 e), A0.int IntKind.u64 (l3 e)]) none), (6, Blk.mk BK.own 24 (Cells.vals [A0.lit IntKind.u64 0, A0.lit IntKind.u64 0, A0.lit IntKind.u64 0, A0.lit IntKind.u64 0]) none), (7, Blk.mk BK.own 24 (Cells.vals [A0.int IntKind.u64 (l0 x), A0.int IntKind.u64 (l1 x), A0.int IntKind.u64 (l2 x), A0.int IntKind.u64 (l3 x)]) none)]) (Exit.exit 0) (mkT 36 [(6, AV.one (A0.ptr true 6 0)), (7, AV.one (A0.ptr true 7 0))], [(1000, pview m v s), (6, Blk.mk BK.own 24 (Cells.vals [A0.lit IntKind.u64 0, A0.lit IntKind.u64 0, A0.lit IntKind.u64 0, A0.lit IntKind.u64 0]) none), (7, Blk.mk BK.own 24 (Cells.vals [A0.int IntKind.u64 (l0 r), A0.int IntKind.u64 (l1 r), A0.int IntKind.u64 (l2 r), A0.int IntKind.u64 (l3 r)]) none)])]) :
    FnOk Try.prog 88 ([.one (.ptr true 1000 0), nv a, nv e]) ([(1000, pview m v s)]) (AV.t (nv r)) ([(1000, pview m v s)]) :=
  fn_run tOk mixed nw8_88 ([1000]) ([.call (.t (nv x)) [1000] [] [], .call (.one (.int .i64 (b))) [] [] [], .seg [0, 4, 5, 6, 7, 8] [1000, 4, 5, 6, 7] (.exit 0) (mkT 36 [(6, .one (.ptr true 6 0)), (7, .one (.ptr true 7 0))]) [(1000, pview m v s), (6, { kind := .own, e := 24, c := .vals [.lit .u64 0, .lit .u64 0, .lit .u64 0, .lit .u64 0] }), (7, { kind := .own, e := 24, c := .vals [.int .u64 (l0 r), .int .u64 (l1 r), .int .u64 (l2 r), .int .u64 (l3 r)] })]]) (by kernel_rfl) hc

theorem nw8_32 : Named Try.prog 32 Try.f32 := ⟨Try.func32, by kernel_rfl, by kernel_rfl⟩
theorem p32_ok (which a e m v s r : Int) (hc : Conj [
    CallOk Try.prog 81 [AT.one (A0.int IntKind.i64 which), AT.one (A0.sl true 13 0 1 1)] [(13, Blk.mk BK.own 24 (Cells.vals [A0.int IntKind.u64 (l0 a), A0.int IntKind.u64 (l1 a), A0.int IntKind.u64 (l2 a), A0.int IntKind.u64 (l3 a)]) none)] (AV.tup [AT.agg (pcell m v s), AT.one (A0.lit IntKind.i64 0)]) [] [],
    CallOk Try.prog 88 [AT.one (A0.ptr true 8 0), nv a, nv e] [(8, Blk.mk BK.own 90 (pcell m v s) none)] (AV.t (nv r)) [] []]) :
    FnOk Try.prog 32 ([.one (.int .i64 (which)), nv a, nv e]) ([]) (AV.tup [nv r, AT.one (A0.lit IntKind.i64 0)]) ([]) :=
  fn_run tOk mixed nw8_32 ([]) ([.call (.tup [.agg (pcell m v s), .one (.lit .i64 (0))]) [13] [] [], .call (.t (nv r)) [8] [] []]) (by kernel_rfl) hc

theorem p32_no (which a e m v s c : Int) (hc : Conj [
    CallOk Try.prog 81 [AT.one (A0.int IntKind.i64 which), AT.one (A0.sl true 13 0 1 1)] [(13, Blk.mk BK.own 24 (Cells.vals [A0.int IntKind.u64 (l0 a), A0.int IntKind.u64 (l1 a), A0.int IntKind.u64 (l2 a), A0.int IntKind.u64 (l3 a)]) none)] (AV.tup [AT.agg (pcell m v s), AT.one (A0.int IntKind.i64 c)]) [] [],
    (c != 0) = true]) :
    FnOk Try.prog 32 ([.one (.int .i64 (which)), nv a, nv e]) ([]) (AV.tup [AT.agg (Cells.vals [A0.lit IntKind.u64 0, A0.lit IntKind.u64 0, A0.lit IntKind.u64 0, A0.lit IntKind.u64 0]), AT.one (A0.int IntKind.i64 c)]) ([]) :=
  fn_run tOk mixed nw8_32 ([]) ([.call (.tup [.agg (pcell m v s), .one (.int .i64 (c))]) [13] [] [], .yes]) (by kernel_rfl) hc

theorem nw8_33 : Named Try.prog 33 Try.f33 := ⟨Try.func33, by kernel_rfl, by kernel_rfl⟩
theorem p33_ok (which a m v s d b r : Int) (hc : Conj [
    CallOk Try.prog 81 [AT.one (A0.int IntKind.i64 which), AT.one (A0.sl true 13 0 1 1)] [(13, Blk.mk BK.own 24 (Cells.vals [A0.int IntKind.u64 (l0 a), A0.int IntKind.u64 (l1 a), A0.int IntKind.u64 (l2 a), A0.int IntKind.u64 (l3 a)]) none)] (AV.tup [AT.agg (pcell m v s), AT.one (A0.lit IntKind.i64 0)]) [] [],
    decide ([l0 a, l1 a, l2 a, l3 a] = [0, 0, 0, 0]) = false,
    CallOk Try.prog 85 [nv m, AT.agg (Cells.vals [A0.lit IntKind.u64 2, A0.lit IntKind.u64 0, A0.lit IntKind.u64 0, A0.lit IntKind.u64 0])] [] (AV.tup [nv d, AT.one (A0.int IntKind.i64 b)]) [] [],
    CallOk Try.prog 88 [AT.one (A0.ptr true 6 0), nv a, nv d] [(6, Blk.mk BK.own 90 (pcell m v s) none)] (AV.t (nv r)) [] []]) :
    FnOk Try.prog 33 ([.one (.int .i64 (which)), nv a]) ([]) (AV.tup [nv r, AT.one (A0.lit IntKind.i64 0)]) ([]) :=
  fn_run tOk mixed nw8_33 ([]) ([.call (.tup [.agg (pcell m v s), .one (.lit .i64 (0))]) [13] [] [], .no, .call (.tup [nv d, .one (.int .i64 (b))]) [] [] [], .call (.t (nv r)) [6] [] []]) (by kernel_rfl) hc

theorem p33_z (which a m v s : Int) (hc : Conj [
    CallOk Try.prog 81 [AT.one (A0.int IntKind.i64 which), AT.one (A0.sl true 13 0 1 1)] [(13, Blk.mk BK.own 24 (Cells.vals [A0.int IntKind.u64 (l0 a), A0.int IntKind.u64 (l1 a), A0.int IntKind.u64 (l2 a), A0.int IntKind.u64 (l3 a)]) none)] (AV.tup [AT.agg (pcell m v s), AT.one (A0.lit IntKind.i64 0)]) [] [],
    decide ([l0 a, l1 a, l2 a, l3 a] = [0, 0, 0, 0]) = true]) :
    FnOk Try.prog 33 ([.one (.int .i64 (which)), nv a]) ([]) (AV.tup [AT.agg (Cells.vals [A0.lit IntKind.u64 0, A0.lit IntKind.u64 0, A0.lit IntKind.u64 0, A0.lit IntKind.u64 0]), AT.one (A0.lit IntKind.i64 53)]) ([]) :=
  fn_run tOk mixed nw8_33 ([]) ([.call (.tup [.agg (pcell m v s), .one (.lit .i64 (0))]) [13] [] [], .yes]) (by kernel_rfl) hc

theorem p33_no (which a m v s c : Int) (hc : Conj [
    CallOk Try.prog 81 [AT.one (A0.int IntKind.i64 which), AT.one (A0.sl true 13 0 1 1)] [(13, Blk.mk BK.own 24 (Cells.vals [A0.int IntKind.u64 (l0 a), A0.int IntKind.u64 (l1 a), A0.int IntKind.u64 (l2 a), A0.int IntKind.u64 (l3 a)]) none)] (AV.tup [AT.agg (pcell m v s), AT.one (A0.int IntKind.i64 c)]) [] [],
    (c != 0) = true]) :
    FnOk Try.prog 33 ([.one (.int .i64 (which)), nv a]) ([]) (AV.tup [AT.agg (Cells.vals [A0.lit IntKind.u64 0, A0.lit IntKind.u64 0, A0.lit IntKind.u64 0, A0.lit IntKind.u64 0]), AT.one (A0.int IntKind.i64 c)]) ([]) :=
  fn_run tOk mixed nw8_33 ([]) ([.call (.tup [.agg (pcell m v s), .one (.int .i64 (c))]) [13] [] [], .yes]) (by kernel_rfl) hc

end Go.Proofs.Ytnndhmnabbkamaa
