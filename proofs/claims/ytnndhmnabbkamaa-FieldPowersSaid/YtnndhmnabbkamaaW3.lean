/-
  Ways through the program, by the evaluator: what each comes to, under the conditions that it lists (printed by gen.py).
  Conditions: those that each theorem names.
-/
import Derived.Test.YtnndhmnabbkamaaTab
import Derived.Test.YtnndhmnabbkamaaNum
import Derived.Test.YtnndhmnabbkamaaEv15
namespace Go.Proofs.Ytnndhmnabbkamaa
open Go Go.Ev Go.Proofs
set_option maxRecDepth 100000

theorem nw3_78 : Named Try.prog 78 Try.f78 := ⟨Try.func78, by kernel_rfl, by kernel_rfl⟩
theorem p78_1 (which : Int) (hc : Conj [
    (which == 1) = true]) :
    FnOk Try.prog 78 ([.one (.int .i64 (which))]) ([]) (AV.tup [AT.agg (Cells.vals [A0.lit IntKind.u64 18446744073709551615, A0.lit IntKind.u64 4294967295, A0.lit IntKind.u64 0, A0.lit IntKind.u64 18446744069414584321, A0.lit IntKind.u64 1, A0.lit IntKind.u64 3, A0.lit IntKind.u64 18446744056529682431, A0.lit IntKind.u64 18446744073709551614, A0.lit IntKind.u64 21474836477]), AT.one (A0.lit IntKind.i64 0)]) ([]) :=
  fn_run tOk mixed nw3_78 ([]) ([.yes]) (by kernel_rfl) hc

theorem p78_2 (which : Int) (hc : Conj [
    (which == 1) = false,
    (which == 2) = true]) :
    FnOk Try.prog 78 ([.one (.int .i64 (which))]) ([]) (AV.tup [AT.agg (Cells.vals [A0.lit IntKind.u64 17562291160714782033, A0.lit IntKind.u64 13611842547513532036, A0.lit IntKind.u64 18446744073709551615, A0.lit IntKind.u64 18446744069414584320, A0.lit IntKind.u64 14758798090332847183, A0.lit IntKind.u64 9449762124159643298, A0.lit IntKind.u64 5087230966250696614, A0.lit IntKind.u64 2901921493521525849, A0.lit IntKind.u64 7413256579398063648]), AT.one (A0.lit IntKind.i64 0)]) ([]) :=
  fn_run tOk mixed nw3_78 ([]) ([.no, .yes]) (by kernel_rfl) hc

theorem p78_0 (which : Int) (hc : Conj [
    (which == 1) = false,
    (which == 2) = false]) :
    FnOk Try.prog 78 ([.one (.int .i64 (which))]) ([]) (AV.tup [AT.agg (Cells.vals [A0.lit IntKind.u64 0, A0.lit IntKind.u64 0, A0.lit IntKind.u64 0, A0.lit IntKind.u64 0, A0.lit IntKind.u64 0, A0.lit IntKind.u64 0, A0.lit IntKind.u64 0, A0.lit IntKind.u64 0, A0.lit IntKind.u64 0]), AT.one (A0.lit IntKind.i64 51)]) ([]) :=
  fn_run tOk mixed nw3_78 ([]) ([.no, .no]) (by kernel_rfl) hc

theorem nw3_19 : Named Try.prog 19 Try.f19 := ⟨Try.func19, by kernel_rfl, by kernel_rfl⟩
theorem p19_ok (which m v s : Int) (hc : Conj [
    CallOk Try.prog 78 [AT.one (A0.int IntKind.i64 which)] [] (AV.tup [AT.agg (pcell m v s), AT.one (A0.lit IntKind.i64 0)]) [] []]) :
    FnOk Try.prog 19 ([.one (.int .i64 (which))]) ([]) (AV.tup [nv m, AT.one (A0.lit IntKind.i64 0)]) ([]) :=
  fn_run tOk mixed nw3_19 ([]) ([.call (.tup [.agg (pcell m v s), .one (.lit .i64 0)]) [] [] []]) (by kernel_rfl) hc

theorem p19_no (which : Int) (hc : Conj [
    CallOk Try.prog 78 [AT.one (A0.int IntKind.i64 which)] [] (AV.tup [AT.agg (Cells.vals [A0.lit IntKind.u64 0, A0.lit IntKind.u64 0, A0.lit IntKind.u64 0, A0.lit IntKind.u64 0, A0.lit IntKind.u64 0, A0.lit IntKind.u64 0, A0.lit IntKind.u64 0, A0.lit IntKind.u64 0, A0.lit IntKind.u64 0]), AT.one (A0.lit IntKind.i64 51)]) [] []]) :
    FnOk Try.prog 19 ([.one (.int .i64 (which))]) ([]) (AV.tup [AT.agg (Cells.vals [A0.lit IntKind.u64 0, A0.lit IntKind.u64 0, A0.lit IntKind.u64 0, A0.lit IntKind.u64 0]), AT.one (A0.lit IntKind.i64 51)]) ([]) :=
  fn_run tOk mixed nw3_19 ([]) ([.call (.tup [.agg (.vals [.lit .u64 0, .lit .u64 0, .lit .u64 0, .lit .u64 0, .lit .u64 0, .lit .u64 0, .lit .u64 0, .lit .u64 0, .lit .u64 0]), .one (.lit .i64 51)]) [] [] []]) (by kernel_rfl) hc

theorem nw3_20 : Named Try.prog 20 Try.f20 := ⟨Try.func20, by kernel_rfl, by kernel_rfl⟩
theorem p20_ok (which a m v s r q : Int) (hc : Conj [
    CallOk Try.prog 78 [AT.one (A0.int IntKind.i64 which)] [] (AV.tup [AT.agg (pcell m v s), AT.one (A0.lit IntKind.i64 0)]) [] [],
    CallOk Try.prog 80 [AT.one (A0.ptr true 6 0), nv a, AT.one (A0.lit IntKind.i64 0)] [(6, Blk.mk BK.own 90 (pcell m v s) none)] (AV.t (nv r)) [] [],
    CallOk Try.prog 79 [AT.one (A0.ptr true 6 0), nv r, nv s] [(6, Blk.mk BK.own 90 (pcell m v s) none)] (AV.t (nv q)) [] []]) :
    FnOk Try.prog 20 ([.one (.int .i64 (which)), nv a]) ([]) (AV.tup [nv q, AT.one (A0.lit IntKind.i64 0)]) ([]) :=
  fn_run tOk mixed nw3_20 ([]) ([.call (.tup [.agg (pcell m v s), .one (.lit .i64 0)]) [] [] [], .call (.t (nv r)) [6] [] [], .call (.t (nv q)) [6] [] []]) (by kernel_rfl) hc

theorem p20_no (which a : Int) (hc : Conj [
    CallOk Try.prog 78 [AT.one (A0.int IntKind.i64 which)] [] (AV.tup [AT.agg (Cells.vals [A0.lit IntKind.u64 0, A0.lit IntKind.u64 0, A0.lit IntKind.u64 0, A0.lit IntKind.u64 0, A0.lit IntKind.u64 0, A0.lit IntKind.u64 0, A0.lit IntKind.u64 0, A0.lit IntKind.u64 0, A0.lit IntKind.u64 0]), AT.one (A0.lit IntKind.i64 51)]) [] []]) :
    FnOk Try.prog 20 ([.one (.int .i64 (which)), nv a]) ([]) (AV.tup [AT.agg (Cells.vals [A0.lit IntKind.u64 0, A0.lit IntKind.u64 0, A0.lit IntKind.u64 0, A0.lit IntKind.u64 0]), AT.one (A0.lit IntKind.i64 51)]) ([]) :=
  fn_run tOk mixed nw3_20 ([]) ([.call (.tup [.agg (.vals [.lit .u64 0, .lit .u64 0, .lit .u64 0, .lit .u64 0, .lit .u64 0, .lit .u64 0, .lit .u64 0, .lit .u64 0, .lit .u64 0]), .one (.lit .i64 51)]) [] [] []]) (by kernel_rfl) hc

theorem nw3_81 : Named Try.prog 81 Try.f81 := ⟨Try.func81, by kernel_rfl, by kernel_rfl⟩
theorem p81_1 (which a m v s c : Int) (hc : Conj [
    CallOk Try.prog 78 [AT.one (A0.int IntKind.i64 which)] [] (AV.tup [AT.agg (pcell m v s), AT.one (A0.lit IntKind.i64 0)]) [] [],
    CallOk Try.prog 100 [nv a, nv m] [] (AV.t (AT.one (A0.int IntKind.i64 c))) [] [],
    decide (c ≥ 0) = false]) :
    FnOk Try.prog 81 ([.one (.int .i64 (which)), .one (.sl true 1000 0 1 1)]) ([(1000, { kind := .view, e := 24, c := .vals [.int .u64 (l0 a), .int .u64 (l1 a), .int .u64 (l2 a), .int .u64 (l3 a)] })]) (AV.tup [AT.agg (pcell m v s), AT.one (A0.lit IntKind.i64 0)]) ([(1000, Blk.mk BK.view 24 (Cells.vals [A0.int IntKind.u64 (l0 a), A0.int IntKind.u64 (l1 a), A0.int IntKind.u64 (l2 a), A0.int IntKind.u64 (l3 a)]) none)]) :=
  fn_run tOk mixed nw3_81 ([1000]) ([.call (.tup [.agg (pcell m v s), .one (.lit .i64 0)]) [] [] [], .go, .call (.one (.int .i64 (c))) [] [] [], .no]) (by kernel_rfl) hc

theorem p81_1r (which a m v s c : Int) (hc : Conj [
    CallOk Try.prog 78 [AT.one (A0.int IntKind.i64 which)] [] (AV.tup [AT.agg (pcell m v s), AT.one (A0.lit IntKind.i64 0)]) [] [],
    CallOk Try.prog 100 [nv a, nv m] [] (AV.t (AT.one (A0.int IntKind.i64 c))) [] [],
    decide (c ≥ 0) = true]) :
    FnOk Try.prog 81 ([.one (.int .i64 (which)), .one (.sl true 1000 0 1 1)]) ([(1000, { kind := .view, e := 24, c := .vals [.int .u64 (l0 a), .int .u64 (l1 a), .int .u64 (l2 a), .int .u64 (l3 a)] })]) (AV.tup [AT.agg (pcell m v s), AT.one (A0.lit IntKind.i64 52)]) ([(1000, Blk.mk BK.view 24 (Cells.vals [A0.int IntKind.u64 (l0 a), A0.int IntKind.u64 (l1 a), A0.int IntKind.u64 (l2 a), A0.int IntKind.u64 (l3 a)]) none)]) :=
  fn_run tOk mixed nw3_81 ([1000]) ([.call (.tup [.agg (pcell m v s), .one (.lit .i64 0)]) [] [] [], .go, .call (.one (.int .i64 (c))) [] [] [], .yes]) (by kernel_rfl) hc

theorem p81_1n (which a : Int) (hc : Conj [
    CallOk Try.prog 78 [AT.one (A0.int IntKind.i64 which)] [] (AV.tup [AT.agg (Cells.vals [A0.lit IntKind.u64 0, A0.lit IntKind.u64 0, A0.lit IntKind.u64 0, A0.lit IntKind.u64 0, A0.lit IntKind.u64 0, A0.lit IntKind.u64 0, A0.lit IntKind.u64 0, A0.lit IntKind.u64 0, A0.lit IntKind.u64 0]), AT.one (A0.lit IntKind.i64 51)]) [] []]) :
    FnOk Try.prog 81 ([.one (.int .i64 (which)), .one (.sl true 1000 0 1 1)]) ([(1000, { kind := .view, e := 24, c := .vals [.int .u64 (l0 a), .int .u64 (l1 a), .int .u64 (l2 a), .int .u64 (l3 a)] })]) (AV.tup [AT.agg (Cells.vals [A0.lit IntKind.u64 0, A0.lit IntKind.u64 0, A0.lit IntKind.u64 0, A0.lit IntKind.u64 0, A0.lit IntKind.u64 0, A0.lit IntKind.u64 0, A0.lit IntKind.u64 0, A0.lit IntKind.u64 0, A0.lit IntKind.u64 0]), AT.one (A0.lit IntKind.i64 51)]) ([(1000, Blk.mk BK.view 24 (Cells.vals [A0.int IntKind.u64 (l0 a), A0.int IntKind.u64 (l1 a), A0.int IntKind.u64 (l2 a), A0.int IntKind.u64 (l3 a)]) none)]) :=
  fn_run tOk mixed nw3_81 ([1000]) ([.call (.tup [.agg (.vals [.lit .u64 0, .lit .u64 0, .lit .u64 0, .lit .u64 0, .lit .u64 0, .lit .u64 0, .lit .u64 0, .lit .u64 0, .lit .u64 0]), .one (.lit .i64 51)]) [] [] []]) (by kernel_rfl) hc

theorem p81_2 (which a b m v s c d : Int) (hc : Conj [
    CallOk Try.prog 78 [AT.one (A0.int IntKind.i64 which)] [] (AV.tup [AT.agg (pcell m v s), AT.one (A0.lit IntKind.i64 0)]) [] [],
    CallOk Try.prog 100 [nv a, nv m] [] (AV.t (AT.one (A0.int IntKind.i64 c))) [] [],
    decide (c ≥ 0) = false,
    CallOk Try.prog 100 [nv b, nv m] [] (AV.t (AT.one (A0.int IntKind.i64 d))) [] [],
    decide (d ≥ 0) = false]) :
    FnOk Try.prog 81 ([.one (.int .i64 (which)), .one (.sl true 1000 0 2 2)]) ([(1000, { kind := .view, e := 24, c := .vals [.int .u64 (l0 a), .int .u64 (l1 a), .int .u64 (l2 a), .int .u64 (l3 a), .int .u64 (l0 b), .int .u64 (l1 b), .int .u64 (l2 b), .int .u64 (l3 b)] })]) (AV.tup [AT.agg (pcell m v s), AT.one (A0.lit IntKind.i64 0)]) ([(1000, Blk.mk BK.view 24 (Cells.vals [A0.int IntKind.u64 (l0 a), A0.int IntKind.u64 (l1 a), A0.int IntKind.u64 (l2 a), A0.int IntKind.u64 (l3 a), A0.int IntKind.u64 (l0 b), A0.int IntKind.u64 (l1 b), A0.int IntKind.u64 (l2 b), A0.int IntKind.u64 (l3 b)]) none)]) :=
  fn_run tOk mixed nw3_81 ([1000]) ([.call (.tup [.agg (pcell m v s), .one (.lit .i64 0)]) [] [] [], .go, .call (.one (.int .i64 (c))) [] [] [], .no, .call (.one (.int .i64 (d))) [] [] [], .no]) (by kernel_rfl) hc

theorem p81_2r (which a b m v s c : Int) (hc : Conj [
    CallOk Try.prog 78 [AT.one (A0.int IntKind.i64 which)] [] (AV.tup [AT.agg (pcell m v s), AT.one (A0.lit IntKind.i64 0)]) [] [],
    CallOk Try.prog 100 [nv a, nv m] [] (AV.t (AT.one (A0.int IntKind.i64 c))) [] [],
    decide (c ≥ 0) = true]) :
    FnOk Try.prog 81 ([.one (.int .i64 (which)), .one (.sl true 1000 0 2 2)]) ([(1000, { kind := .view, e := 24, c := .vals [.int .u64 (l0 a), .int .u64 (l1 a), .int .u64 (l2 a), .int .u64 (l3 a), .int .u64 (l0 b), .int .u64 (l1 b), .int .u64 (l2 b), .int .u64 (l3 b)] })]) (AV.tup [AT.agg (pcell m v s), AT.one (A0.lit IntKind.i64 52)]) ([(1000, Blk.mk BK.view 24 (Cells.vals [A0.int IntKind.u64 (l0 a), A0.int IntKind.u64 (l1 a), A0.int IntKind.u64 (l2 a), A0.int IntKind.u64 (l3 a), A0.int IntKind.u64 (l0 b), A0.int IntKind.u64 (l1 b), A0.int IntKind.u64 (l2 b), A0.int IntKind.u64 (l3 b)]) none)]) :=
  fn_run tOk mixed nw3_81 ([1000]) ([.call (.tup [.agg (pcell m v s), .one (.lit .i64 0)]) [] [] [], .go, .call (.one (.int .i64 (c))) [] [] [], .yes]) (by kernel_rfl) hc

theorem p81_2s (which a b m v s c d : Int) (hc : Conj [
    CallOk Try.prog 78 [AT.one (A0.int IntKind.i64 which)] [] (AV.tup [AT.agg (pcell m v s), AT.one (A0.lit IntKind.i64 0)]) [] [],
    CallOk Try.prog 100 [nv a, nv m] [] (AV.t (AT.one (A0.int IntKind.i64 c))) [] [],
    decide (c ≥ 0) = false,
    CallOk Try.prog 100 [nv b, nv m] [] (AV.t (AT.one (A0.int IntKind.i64 d))) [] [],
    decide (d ≥ 0) = true]) :
    FnOk Try.prog 81 ([.one (.int .i64 (which)), .one (.sl true 1000 0 2 2)]) ([(1000, { kind := .view, e := 24, c := .vals [.int .u64 (l0 a), .int .u64 (l1 a), .int .u64 (l2 a), .int .u64 (l3 a), .int .u64 (l0 b), .int .u64 (l1 b), .int .u64 (l2 b), .int .u64 (l3 b)] })]) (AV.tup [AT.agg (pcell m v s), AT.one (A0.lit IntKind.i64 52)]) ([(1000, Blk.mk BK.view 24 (Cells.vals [A0.int IntKind.u64 (l0 a), A0.int IntKind.u64 (l1 a), A0.int IntKind.u64 (l2 a), A0.int IntKind.u64 (l3 a), A0.int IntKind.u64 (l0 b), A0.int IntKind.u64 (l1 b), A0.int IntKind.u64 (l2 b), A0.int IntKind.u64 (l3 b)]) none)]) :=
  fn_run tOk mixed nw3_81 ([1000]) ([.call (.tup [.agg (pcell m v s), .one (.lit .i64 0)]) [] [] [], .go, .call (.one (.int .i64 (c))) [] [] [], .no, .call (.one (.int .i64 (d))) [] [] [], .yes]) (by kernel_rfl) hc

theorem p81_2n (which a b : Int) (hc : Conj [
    CallOk Try.prog 78 [AT.one (A0.int IntKind.i64 which)] [] (AV.tup [AT.agg (Cells.vals [A0.lit IntKind.u64 0, A0.lit IntKind.u64 0, A0.lit IntKind.u64 0, A0.lit IntKind.u64 0, A0.lit IntKind.u64 0, A0.lit IntKind.u64 0, A0.lit IntKind.u64 0, A0.lit IntKind.u64 0, A0.lit IntKind.u64 0]), AT.one (A0.lit IntKind.i64 51)]) [] []]) :
    FnOk Try.prog 81 ([.one (.int .i64 (which)), .one (.sl true 1000 0 2 2)]) ([(1000, { kind := .view, e := 24, c := .vals [.int .u64 (l0 a), .int .u64 (l1 a), .int .u64 (l2 a), .int .u64 (l3 a), .int .u64 (l0 b), .int .u64 (l1 b), .int .u64 (l2 b), .int .u64 (l3 b)] })]) (AV.tup [AT.agg (Cells.vals [A0.lit IntKind.u64 0, A0.lit IntKind.u64 0, A0.lit IntKind.u64 0, A0.lit IntKind.u64 0, A0.lit IntKind.u64 0, A0.lit IntKind.u64 0, A0.lit IntKind.u64 0, A0.lit IntKind.u64 0, A0.lit IntKind.u64 0]), AT.one (A0.lit IntKind.i64 51)]) ([(1000, Blk.mk BK.view 24 (Cells.vals [A0.int IntKind.u64 (l0 a), A0.int IntKind.u64 (l1 a), A0.int IntKind.u64 (l2 a), A0.int IntKind.u64 (l3 a), A0.int IntKind.u64 (l0 b), A0.int IntKind.u64 (l1 b), A0.int IntKind.u64 (l2 b), A0.int IntKind.u64 (l3 b)]) none)]) :=
  fn_run tOk mixed nw3_81 ([1000]) ([.call (.tup [.agg (.vals [.lit .u64 0, .lit .u64 0, .lit .u64 0, .lit .u64 0, .lit .u64 0, .lit .u64 0, .lit .u64 0, .lit .u64 0, .lit .u64 0]), .one (.lit .i64 51)]) [] [] []]) (by kernel_rfl) hc

theorem nw3_21 : Named Try.prog 21 Try.f21 := ⟨Try.func21, by kernel_rfl, by kernel_rfl⟩
theorem p21_ok (which a m v s r : Int) (hc : Conj [
    CallOk Try.prog 81 [AT.one (A0.int IntKind.i64 which), AT.one (A0.sl true 11 0 1 1)] [(11, Blk.mk BK.own 24 (Cells.vals [A0.int IntKind.u64 (l0 a), A0.int IntKind.u64 (l1 a), A0.int IntKind.u64 (l2 a), A0.int IntKind.u64 (l3 a)]) none)] (AV.tup [AT.agg (pcell m v s), AT.one (A0.lit IntKind.i64 0)]) [] [],
    CallOk Try.prog 79 [AT.one (A0.ptr true 6 0), nv a, AT.agg (Cells.vals [A0.lit IntKind.u64 1, A0.lit IntKind.u64 0, A0.lit IntKind.u64 0, A0.lit IntKind.u64 0])] [(6, Blk.mk BK.own 90 (pcell m v s) none)] (AV.t (nv r)) [] []]) :
    FnOk Try.prog 21 ([.one (.int .i64 (which)), nv a]) ([]) (AV.tup [nv r, AT.one (A0.lit IntKind.i64 0)]) ([]) :=
  fn_run tOk mixed nw3_21 ([]) ([.call (.tup [.agg (pcell m v s), .one (.lit .i64 0)]) [11] [] [], .call (.t (nv r)) [6] [] []]) (by kernel_rfl) hc

theorem nw3_26 : Named Try.prog 26 Try.f26 := ⟨Try.func26, by kernel_rfl, by kernel_rfl⟩
theorem p26_ok (which a b m v s q c r : Int) (hc : Conj [
    CallOk Try.prog 81 [AT.one (A0.int IntKind.i64 which), AT.one (A0.sl true 16 0 2 2)] [(16, Blk.mk BK.own 24 (Cells.vals [A0.int IntKind.u64 (l0 a), A0.int IntKind.u64 (l1 a), A0.int IntKind.u64 (l2 a), A0.int IntKind.u64 (l3 a), A0.int IntKind.u64 (l0 b), A0.int IntKind.u64 (l1 b), A0.int IntKind.u64 (l2 b), A0.int IntKind.u64 (l3 b)]) none)] (AV.tup [AT.agg (pcell m v s), AT.one (A0.lit IntKind.i64 0)]) [] [],
    CallOk Try.prog 84 [nv a, nv b] [] (AV.tup [nv q, AT.one (A0.int IntKind.i64 c)]) [] [],
    CallOk Try.prog 80 [AT.one (A0.ptr true 8 0), nv q, AT.one (A0.int IntKind.i64 c)] [(8, Blk.mk BK.own 90 (pcell m v s) none)] (AV.t (nv r)) [] []]) :
    FnOk Try.prog 26 ([.one (.int .i64 (which)), nv a, nv b]) ([]) (AV.tup [nv r, AT.one (A0.lit IntKind.i64 0)]) ([]) :=
  fn_run tOk mixed nw3_26 ([]) ([.call (.tup [.agg (pcell m v s), .one (.lit .i64 0)]) [16] [] [], .call (.tup [nv q, .one (.int .i64 (c))]) [] [] [], .call (.t (nv r)) [8] [] []]) (by kernel_rfl) hc

theorem nw3_35 : Named Try.prog 35 Try.f35 := ⟨Try.func35, by kernel_rfl, by kernel_rfl⟩
theorem p35  :
    FnOk Try.prog 35 ([]) ([]) (AV.t (AT.agg (Cells.vals [A0.lit IntKind.u64 18446744073709551615, A0.lit IntKind.u64 4294967295, A0.lit IntKind.u64 0, A0.lit IntKind.u64 18446744069414584321]))) ([]) :=
  fn_run tOk mixed nw3_35 ([]) ([]) (by kernel_rfl) (ps := []) trivial

theorem nw3_50 : Named Try.prog 50 Try.f50 := ⟨Try.func50, by kernel_rfl, by kernel_rfl⟩
theorem p50  :
    FnOk Try.prog 50 ([]) ([]) (AV.t (AT.agg (Cells.vals [A0.lit IntKind.u64 17562291160714782033, A0.lit IntKind.u64 13611842547513532036, A0.lit IntKind.u64 18446744073709551615, A0.lit IntKind.u64 18446744069414584320]))) ([]) :=
  fn_run tOk mixed nw3_50 ([]) ([]) (by kernel_rfl) (ps := []) trivial

theorem nw3_18 : Named Try.prog 18 Try.f18 := ⟨Try.func18, by kernel_rfl, by kernel_rfl⟩
theorem p18_1 (which m : Int) (hc : Conj [
    (which == 1) = true,
    CallOk Try.prog 35 [] [] (AV.t (nv m)) [] []]) :
    FnOk Try.prog 18 ([.one (.int .i64 (which))]) ([]) (AV.tup [nv m, AT.one (A0.blit true)]) ([]) :=
  fn_run tOk mixed nw3_18 ([]) ([.yes, .call (.t (nv m)) [] [] []]) (by kernel_rfl) hc

theorem p18_2 (which m : Int) (hc : Conj [
    (which == 1) = false,
    (which == 2) = true,
    CallOk Try.prog 50 [] [] (AV.t (nv m)) [] []]) :
    FnOk Try.prog 18 ([.one (.int .i64 (which))]) ([]) (AV.tup [nv m, AT.one (A0.blit true)]) ([]) :=
  fn_run tOk mixed nw3_18 ([]) ([.no, .yes, .call (.t (nv m)) [] [] []]) (by kernel_rfl) hc

theorem p18_0 (which : Int) (hc : Conj [
    (which == 1) = false,
    (which == 2) = false]) :
    FnOk Try.prog 18 ([.one (.int .i64 (which))]) ([]) (AV.tup [AT.agg (Cells.vals [A0.lit IntKind.u64 0, A0.lit IntKind.u64 0, A0.lit IntKind.u64 0, A0.lit IntKind.u64 0]), AT.one (A0.blit false)]) ([]) :=
  fn_run tOk mixed nw3_18 ([]) ([.no, .no]) (by kernel_rfl) hc

theorem nw3_24 : Named Try.prog 24 Try.f24 := ⟨Try.func24, by kernel_rfl, by kernel_rfl⟩
theorem p24_3 (a0 a1 a2 a3 b0 b1 b2 b3 : Int) (hc : Conj [
    (a3 != b3) = true]) :
    FnOk Try.prog 24 ([w4 a0 a1 a2 a3, w4 b0 b1 b2 b3]) ([]) (AV.t (AT.one (A0.bool (decide (a3 < b3))))) ([]) :=
  fn_run tOk mixed nw3_24 ([]) ([.go, .yes]) (by kernel_rfl) hc

theorem p24_2 (a0 a1 a2 a3 b0 b1 b2 b3 : Int) (hc : Conj [
    (a3 != b3) = false,
    (a2 != b2) = true]) :
    FnOk Try.prog 24 ([w4 a0 a1 a2 a3, w4 b0 b1 b2 b3]) ([]) (AV.t (AT.one (A0.bool (decide (a2 < b2))))) ([]) :=
  fn_run tOk mixed nw3_24 ([]) ([.go, .no, .yes]) (by kernel_rfl) hc

theorem p24_1 (a0 a1 a2 a3 b0 b1 b2 b3 : Int) (hc : Conj [
    (a3 != b3) = false,
    (a2 != b2) = false,
    (a1 != b1) = true]) :
    FnOk Try.prog 24 ([w4 a0 a1 a2 a3, w4 b0 b1 b2 b3]) ([]) (AV.t (AT.one (A0.bool (decide (a1 < b1))))) ([]) :=
  fn_run tOk mixed nw3_24 ([]) ([.go, .no, .no, .yes]) (by kernel_rfl) hc

theorem p24_0 (a0 a1 a2 a3 b0 b1 b2 b3 : Int) (hc : Conj [
    (a3 != b3) = false,
    (a2 != b2) = false,
    (a1 != b1) = false,
    (a0 != b0) = true]) :
    FnOk Try.prog 24 ([w4 a0 a1 a2 a3, w4 b0 b1 b2 b3]) ([]) (AV.t (AT.one (A0.bool (decide (a0 < b0))))) ([]) :=
  fn_run tOk mixed nw3_24 ([]) ([.go, .no, .no, .no, .yes]) (by kernel_rfl) hc

theorem p24_e (a0 a1 a2 a3 b0 b1 b2 b3 : Int) (hc : Conj [
    (a3 != b3) = false,
    (a2 != b2) = false,
    (a1 != b1) = false,
    (a0 != b0) = false]) :
    FnOk Try.prog 24 ([w4 a0 a1 a2 a3, w4 b0 b1 b2 b3]) ([]) (AV.t (AT.one (A0.blit false))) ([]) :=
  fn_run tOk mixed nw3_24 ([]) ([.go, .no, .no, .no, .no]) (by kernel_rfl) hc

theorem r83_0y (a0 a1 a2 a3 b0 b1 b2 b3 c : Int) (hc : Conj [
    decide (IntKind.u64.wrap (a0 + b0) < a0) = true]) :
    Runs Try.prog (codeAt Try.f83 [1, 1, 1, 0, 1, 0, 0]) (mkT Try.f83.ntmps ([(2, .one (.ptr true 2 0)), (3, .one (.ptr true 3 0)), (4, .one (.ptr true 4 0)), (6, .one (.lit .u64 c)), (7, .one (.ptr true 7 0)), (8, .one (.lit .i64 (0)))]), [(2, { kind := .own, e := 24, c := .vals [.int .u64 a0, .int .u64 a1, .int .u64 a2, .int .u64 a3] }), (3, { kind := .own, e := 24, c := .vals [.int .u64 b0, .int .u64 b1, .int .u64 b2, .int .u64 b3] }), (4, { kind := .own, e := 24, c := .vals [.lit .u64 0, .lit .u64 0, .lit .u64 0, .lit .u64 0] }), (7, { kind := .own, e := 24, c := .vals [.lit .u64 0, .lit .u64 0, .lit .u64 0, .lit .u64 0] })]) (Exit.normal) (mkT 43 [(2, AV.t (AT.one (A0.ptr true 2 0))), (3, AV.t (AT.one (A0.ptr true 3 0))), (4, AV.t (AT.one (A0.ptr true 4 0))), (6, AV.t (AT.one (A0.lit IntKind.u64 1))), (7, AV.t (AT.one (A0.ptr true 7 0))), (8, AV.t (AT.one (A0.lit IntKind.i64 1)))], [(2, Blk.mk BK.own 24 (Cells.vals [A0.int IntKind.u64 a0, A0.int IntKind.u64 a1, A0.int IntKind.u64 a2, A0.int IntKind.u64 a3]) none), (3, Blk.mk BK.own 24 (Cells.vals [A0.int IntKind.u64 b0, A0.int IntKind.u64 b1, A0.int IntKind.u64 b2, A0.int IntKind.u64 b3]) none), (4, Blk.mk BK.own 24 (Cells.vals [A0.lit IntKind.u64 0, A0.lit IntKind.u64 0, A0.lit IntKind.u64 0, A0.lit IntKind.u64 0]) none), (7, Blk.mk BK.own 24 (Cells.vals [A0.int IntKind.u64 (IntKind.u64.wrap (IntKind.u64.wrap (a0 + b0) + c)), A0.lit IntKind.u64 0, A0.lit IntKind.u64 0, A0.lit IntKind.u64 0]) none)]) :=
  sel_run tOk mixed [2, 3, 4, 6, 7, 8] [2, 3, 4, 7] ([.yes, .yes, .yes, .yes, .yes, .yes]) (by kernel_rfl) (Conj.pick hc [0, 0, 0, 0, 0, 0])

theorem r83_0ny (a0 a1 a2 a3 b0 b1 b2 b3 c : Int) (hc : Conj [
    decide (IntKind.u64.wrap (a0 + b0) < a0) = false,
    decide (IntKind.u64.wrap (IntKind.u64.wrap (a0 + b0) + c) < IntKind.u64.wrap (a0 + b0)) = true]) :
    Runs Try.prog (codeAt Try.f83 [1, 1, 1, 0, 1, 0, 0]) (mkT Try.f83.ntmps ([(2, .one (.ptr true 2 0)), (3, .one (.ptr true 3 0)), (4, .one (.ptr true 4 0)), (6, .one (.lit .u64 c)), (7, .one (.ptr true 7 0)), (8, .one (.lit .i64 (0)))]), [(2, { kind := .own, e := 24, c := .vals [.int .u64 a0, .int .u64 a1, .int .u64 a2, .int .u64 a3] }), (3, { kind := .own, e := 24, c := .vals [.int .u64 b0, .int .u64 b1, .int .u64 b2, .int .u64 b3] }), (4, { kind := .own, e := 24, c := .vals [.lit .u64 0, .lit .u64 0, .lit .u64 0, .lit .u64 0] }), (7, { kind := .own, e := 24, c := .vals [.lit .u64 0, .lit .u64 0, .lit .u64 0, .lit .u64 0] })]) (Exit.normal) (mkT 43 [(2, AV.t (AT.one (A0.ptr true 2 0))), (3, AV.t (AT.one (A0.ptr true 3 0))), (4, AV.t (AT.one (A0.ptr true 4 0))), (6, AV.t (AT.one (A0.lit IntKind.u64 1))), (7, AV.t (AT.one (A0.ptr true 7 0))), (8, AV.t (AT.one (A0.lit IntKind.i64 1)))], [(2, Blk.mk BK.own 24 (Cells.vals [A0.int IntKind.u64 a0, A0.int IntKind.u64 a1, A0.int IntKind.u64 a2, A0.int IntKind.u64 a3]) none), (3, Blk.mk BK.own 24 (Cells.vals [A0.int IntKind.u64 b0, A0.int IntKind.u64 b1, A0.int IntKind.u64 b2, A0.int IntKind.u64 b3]) none), (4, Blk.mk BK.own 24 (Cells.vals [A0.lit IntKind.u64 0, A0.lit IntKind.u64 0, A0.lit IntKind.u64 0, A0.lit IntKind.u64 0]) none), (7, Blk.mk BK.own 24 (Cells.vals [A0.int IntKind.u64 (IntKind.u64.wrap (IntKind.u64.wrap (a0 + b0) + c)), A0.lit IntKind.u64 0, A0.lit IntKind.u64 0, A0.lit IntKind.u64 0]) none)]) :=
  sel_run tOk mixed [2, 3, 4, 6, 7, 8] [2, 3, 4, 7] ([.no, .no, .no, .no, .no, .no, .yes]) (by kernel_rfl) (Conj.pick hc [0, 0, 0, 0, 0, 0, 1])

theorem r83_0nn (a0 a1 a2 a3 b0 b1 b2 b3 c : Int) (hc : Conj [
    decide (IntKind.u64.wrap (a0 + b0) < a0) = false,
    decide (IntKind.u64.wrap (IntKind.u64.wrap (a0 + b0) + c) < IntKind.u64.wrap (a0 + b0)) = false]) :
    Runs Try.prog (codeAt Try.f83 [1, 1, 1, 0, 1, 0, 0]) (mkT Try.f83.ntmps ([(2, .one (.ptr true 2 0)), (3, .one (.ptr true 3 0)), (4, .one (.ptr true 4 0)), (6, .one (.lit .u64 c)), (7, .one (.ptr true 7 0)), (8, .one (.lit .i64 (0)))]), [(2, { kind := .own, e := 24, c := .vals [.int .u64 a0, .int .u64 a1, .int .u64 a2, .int .u64 a3] }), (3, { kind := .own, e := 24, c := .vals [.int .u64 b0, .int .u64 b1, .int .u64 b2, .int .u64 b3] }), (4, { kind := .own, e := 24, c := .vals [.lit .u64 0, .lit .u64 0, .lit .u64 0, .lit .u64 0] }), (7, { kind := .own, e := 24, c := .vals [.lit .u64 0, .lit .u64 0, .lit .u64 0, .lit .u64 0] })]) (Exit.normal) (mkT 43 [(2, AV.t (AT.one (A0.ptr true 2 0))), (3, AV.t (AT.one (A0.ptr true 3 0))), (4, AV.t (AT.one (A0.ptr true 4 0))), (6, AV.t (AT.one (A0.lit IntKind.u64 0))), (7, AV.t (AT.one (A0.ptr true 7 0))), (8, AV.t (AT.one (A0.lit IntKind.i64 1)))], [(2, Blk.mk BK.own 24 (Cells.vals [A0.int IntKind.u64 a0, A0.int IntKind.u64 a1, A0.int IntKind.u64 a2, A0.int IntKind.u64 a3]) none), (3, Blk.mk BK.own 24 (Cells.vals [A0.int IntKind.u64 b0, A0.int IntKind.u64 b1, A0.int IntKind.u64 b2, A0.int IntKind.u64 b3]) none), (4, Blk.mk BK.own 24 (Cells.vals [A0.lit IntKind.u64 0, A0.lit IntKind.u64 0, A0.lit IntKind.u64 0, A0.lit IntKind.u64 0]) none), (7, Blk.mk BK.own 24 (Cells.vals [A0.int IntKind.u64 (IntKind.u64.wrap (IntKind.u64.wrap (a0 + b0) + c)), A0.lit IntKind.u64 0, A0.lit IntKind.u64 0, A0.lit IntKind.u64 0]) none)]) :=
  sel_run tOk mixed [2, 3, 4, 6, 7, 8] [2, 3, 4, 7] ([.no, .no, .no, .no, .no, .no, .no]) (by kernel_rfl) (Conj.pick hc [0, 0, 0, 0, 0, 0, 1])

theorem r82_0y (a0 a1 a2 a3 b0 b1 b2 b3 c : Int) (hc : Conj [
    decide (a0 < b0) = true]) :
    Runs Try.prog (codeAt Try.f82 [1, 1, 1, 0, 1, 0, 0]) (mkT Try.f82.ntmps ([(2, .one (.ptr true 2 0)), (3, .one (.ptr true 3 0)), (4, .one (.ptr true 4 0)), (5, .one (.lit .u64 c)), (6, .one (.ptr true 6 0)), (7, .one (.lit .i64 (0)))]), [(2, { kind := .own, e := 24, c := .vals [.int .u64 a0, .int .u64 a1, .int .u64 a2, .int .u64 a3] }), (3, { kind := .own, e := 24, c := .vals [.int .u64 b0, .int .u64 b1, .int .u64 b2, .int .u64 b3] }), (4, { kind := .own, e := 24, c := .vals [.lit .u64 0, .lit .u64 0, .lit .u64 0, .lit .u64 0] }), (6, { kind := .own, e := 24, c := .vals [.lit .u64 0, .lit .u64 0, .lit .u64 0, .lit .u64 0] })]) (Exit.normal) (mkT 40 [(2, AV.t (AT.one (A0.ptr true 2 0))), (3, AV.t (AT.one (A0.ptr true 3 0))), (4, AV.t (AT.one (A0.ptr true 4 0))), (5, AV.t (AT.one (A0.lit IntKind.u64 1))), (6, AV.t (AT.one (A0.ptr true 6 0))), (7, AV.t (AT.one (A0.lit IntKind.i64 1)))], [(2, Blk.mk BK.own 24 (Cells.vals [A0.int IntKind.u64 a0, A0.int IntKind.u64 a1, A0.int IntKind.u64 a2, A0.int IntKind.u64 a3]) none), (3, Blk.mk BK.own 24 (Cells.vals [A0.int IntKind.u64 b0, A0.int IntKind.u64 b1, A0.int IntKind.u64 b2, A0.int IntKind.u64 b3]) none), (4, Blk.mk BK.own 24 (Cells.vals [A0.lit IntKind.u64 0, A0.lit IntKind.u64 0, A0.lit IntKind.u64 0, A0.lit IntKind.u64 0]) none), (6, Blk.mk BK.own 24 (Cells.vals [A0.int IntKind.u64 (IntKind.u64.wrap (IntKind.u64.wrap (a0 - b0) - c)), A0.lit IntKind.u64 0, A0.lit IntKind.u64 0, A0.lit IntKind.u64 0]) none)]) :=
  sel_run tOk mixed [2, 3, 4, 5, 6, 7] [2, 3, 4, 6] ([.yes, .yes, .yes, .yes]) (by kernel_rfl) (Conj.pick hc [0, 0, 0, 0])

theorem r82_0ny (a0 a1 a2 a3 b0 b1 b2 b3 c : Int) (hc : Conj [
    decide (a0 < b0) = false,
    decide (IntKind.u64.wrap (a0 - b0) < c) = true]) :
    Runs Try.prog (codeAt Try.f82 [1, 1, 1, 0, 1, 0, 0]) (mkT Try.f82.ntmps ([(2, .one (.ptr true 2 0)), (3, .one (.ptr true 3 0)), (4, .one (.ptr true 4 0)), (5, .one (.lit .u64 c)), (6, .one (.ptr true 6 0)), (7, .one (.lit .i64 (0)))]), [(2, { kind := .own, e := 24, c := .vals [.int .u64 a0, .int .u64 a1, .int .u64 a2, .int .u64 a3] }), (3, { kind := .own, e := 24, c := .vals [.int .u64 b0, .int .u64 b1, .int .u64 b2, .int .u64 b3] }), (4, { kind := .own, e := 24, c := .vals [.lit .u64 0, .lit .u64 0, .lit .u64 0, .lit .u64 0] }), (6, { kind := .own, e := 24, c := .vals [.lit .u64 0, .lit .u64 0, .lit .u64 0, .lit .u64 0] })]) (Exit.normal) (mkT 40 [(2, AV.t (AT.one (A0.ptr true 2 0))), (3, AV.t (AT.one (A0.ptr true 3 0))), (4, AV.t (AT.one (A0.ptr true 4 0))), (5, AV.t (AT.one (A0.lit IntKind.u64 1))), (6, AV.t (AT.one (A0.ptr true 6 0))), (7, AV.t (AT.one (A0.lit IntKind.i64 1)))], [(2, Blk.mk BK.own 24 (Cells.vals [A0.int IntKind.u64 a0, A0.int IntKind.u64 a1, A0.int IntKind.u64 a2, A0.int IntKind.u64 a3]) none), (3, Blk.mk BK.own 24 (Cells.vals [A0.int IntKind.u64 b0, A0.int IntKind.u64 b1, A0.int IntKind.u64 b2, A0.int IntKind.u64 b3]) none), (4, Blk.mk BK.own 24 (Cells.vals [A0.lit IntKind.u64 0, A0.lit IntKind.u64 0, A0.lit IntKind.u64 0, A0.lit IntKind.u64 0]) none), (6, Blk.mk BK.own 24 (Cells.vals [A0.int IntKind.u64 (IntKind.u64.wrap (IntKind.u64.wrap (a0 - b0) - c)), A0.lit IntKind.u64 0, A0.lit IntKind.u64 0, A0.lit IntKind.u64 0]) none)]) :=
  sel_run tOk mixed [2, 3, 4, 5, 6, 7] [2, 3, 4, 6] ([.no, .no, .no, .no, .yes]) (by kernel_rfl) (Conj.pick hc [0, 0, 0, 0, 1])

theorem r82_0nn (a0 a1 a2 a3 b0 b1 b2 b3 c : Int) (hc : Conj [
    decide (a0 < b0) = false,
    decide (IntKind.u64.wrap (a0 - b0) < c) = false]) :
    Runs Try.prog (codeAt Try.f82 [1, 1, 1, 0, 1, 0, 0]) (mkT Try.f82.ntmps ([(2, .one (.ptr true 2 0)), (3, .one (.ptr true 3 0)), (4, .one (.ptr true 4 0)), (5, .one (.lit .u64 c)), (6, .one (.ptr true 6 0)), (7, .one (.lit .i64 (0)))]), [(2, { kind := .own, e := 24, c := .vals [.int .u64 a0, .int .u64 a1, .int .u64 a2, .int .u64 a3] }), (3, { kind := .own, e := 24, c := .vals [.int .u64 b0, .int .u64 b1, .int .u64 b2, .int .u64 b3] }), (4, { kind := .own, e := 24, c := .vals [.lit .u64 0, .lit .u64 0, .lit .u64 0, .lit .u64 0] }), (6, { kind := .own, e := 24, c := .vals [.lit .u64 0, .lit .u64 0, .lit .u64 0, .lit .u64 0] })]) (Exit.normal) (mkT 40 [(2, AV.t (AT.one (A0.ptr true 2 0))), (3, AV.t (AT.one (A0.ptr true 3 0))), (4, AV.t (AT.one (A0.ptr true 4 0))), (5, AV.t (AT.one (A0.lit IntKind.u64 0))), (6, AV.t (AT.one (A0.ptr true 6 0))), (7, AV.t (AT.one (A0.lit IntKind.i64 1)))], [(2, Blk.mk BK.own 24 (Cells.vals [A0.int IntKind.u64 a0, A0.int IntKind.u64 a1, A0.int IntKind.u64 a2, A0.int IntKind.u64 a3]) none), (3, Blk.mk BK.own 24 (Cells.vals [A0.int IntKind.u64 b0, A0.int IntKind.u64 b1, A0.int IntKind.u64 b2, A0.int IntKind.u64 b3]) none), (4, Blk.mk BK.own 24 (Cells.vals [A0.lit IntKind.u64 0, A0.lit IntKind.u64 0, A0.lit IntKind.u64 0, A0.lit IntKind.u64 0]) none), (6, Blk.mk BK.own 24 (Cells.vals [A0.int IntKind.u64 (IntKind.u64.wrap (IntKind.u64.wrap (a0 - b0) - c)), A0.lit IntKind.u64 0, A0.lit IntKind.u64 0, A0.lit IntKind.u64 0]) none)]) :=
  sel_run tOk mixed [2, 3, 4, 5, 6, 7] [2, 3, 4, 6] ([.no, .no, .no, .no, .no]) (by kernel_rfl) (Conj.pick hc [0, 0, 0, 0, 1])

theorem r83_1y (a0 a1 a2 a3 b0 b1 b2 b3 o0 c : Int) (hc : Conj [
    decide (IntKind.u64.wrap (a1 + b1) < a1) = true]) :
    Runs Try.prog (codeAt Try.f83 [1, 1, 1, 0, 1, 0, 0]) (mkT Try.f83.ntmps ([(2, .one (.ptr true 2 0)), (3, .one (.ptr true 3 0)), (4, .one (.ptr true 4 0)), (6, .one (.lit .u64 c)), (7, .one (.ptr true 7 0)), (8, .one (.lit .i64 (1)))]), [(2, { kind := .own, e := 24, c := .vals [.int .u64 a0, .int .u64 a1, .int .u64 a2, .int .u64 a3] }), (3, { kind := .own, e := 24, c := .vals [.int .u64 b0, .int .u64 b1, .int .u64 b2, .int .u64 b3] }), (4, { kind := .own, e := 24, c := .vals [.lit .u64 0, .lit .u64 0, .lit .u64 0, .lit .u64 0] }), (7, { kind := .own, e := 24, c := .vals [.int .u64 o0, .lit .u64 0, .lit .u64 0, .lit .u64 0] })]) (Exit.normal) (mkT 43 [(2, AV.t (AT.one (A0.ptr true 2 0))), (3, AV.t (AT.one (A0.ptr true 3 0))), (4, AV.t (AT.one (A0.ptr true 4 0))), (6, AV.t (AT.one (A0.lit IntKind.u64 1))), (7, AV.t (AT.one (A0.ptr true 7 0))), (8, AV.t (AT.one (A0.lit IntKind.i64 2)))], [(2, Blk.mk BK.own 24 (Cells.vals [A0.int IntKind.u64 a0, A0.int IntKind.u64 a1, A0.int IntKind.u64 a2, A0.int IntKind.u64 a3]) none), (3, Blk.mk BK.own 24 (Cells.vals [A0.int IntKind.u64 b0, A0.int IntKind.u64 b1, A0.int IntKind.u64 b2, A0.int IntKind.u64 b3]) none), (4, Blk.mk BK.own 24 (Cells.vals [A0.lit IntKind.u64 0, A0.lit IntKind.u64 0, A0.lit IntKind.u64 0, A0.lit IntKind.u64 0]) none), (7, Blk.mk BK.own 24 (Cells.vals [A0.int IntKind.u64 o0, A0.int IntKind.u64 (IntKind.u64.wrap (IntKind.u64.wrap (a1 + b1) + c)), A0.lit IntKind.u64 0, A0.lit IntKind.u64 0]) none)]) :=
  sel_run tOk mixed [2, 3, 4, 6, 7, 8] [2, 3, 4, 7] ([.yes, .yes, .yes, .yes, .yes, .yes]) (by kernel_rfl) (Conj.pick hc [0, 0, 0, 0, 0, 0])

theorem r83_1ny (a0 a1 a2 a3 b0 b1 b2 b3 o0 c : Int) (hc : Conj [
    decide (IntKind.u64.wrap (a1 + b1) < a1) = false,
    decide (IntKind.u64.wrap (IntKind.u64.wrap (a1 + b1) + c) < IntKind.u64.wrap (a1 + b1)) = true]) :
    Runs Try.prog (codeAt Try.f83 [1, 1, 1, 0, 1, 0, 0]) (mkT Try.f83.ntmps ([(2, .one (.ptr true 2 0)), (3, .one (.ptr true 3 0)), (4, .one (.ptr true 4 0)), (6, .one (.lit .u64 c)), (7, .one (.ptr true 7 0)), (8, .one (.lit .i64 (1)))]), [(2, { kind := .own, e := 24, c := .vals [.int .u64 a0, .int .u64 a1, .int .u64 a2, .int .u64 a3] }), (3, { kind := .own, e := 24, c := .vals [.int .u64 b0, .int .u64 b1, .int .u64 b2, .int .u64 b3] }), (4, { kind := .own, e := 24, c := .vals [.lit .u64 0, .lit .u64 0, .lit .u64 0, .lit .u64 0] }), (7, { kind := .own, e := 24, c := .vals [.int .u64 o0, .lit .u64 0, .lit .u64 0, .lit .u64 0] })]) (Exit.normal) (mkT 43 [(2, AV.t (AT.one (A0.ptr true 2 0))), (3, AV.t (AT.one (A0.ptr true 3 0))), (4, AV.t (AT.one (A0.ptr true 4 0))), (6, AV.t (AT.one (A0.lit IntKind.u64 1))), (7, AV.t (AT.one (A0.ptr true 7 0))), (8, AV.t (AT.one (A0.lit IntKind.i64 2)))], [(2, Blk.mk BK.own 24 (Cells.vals [A0.int IntKind.u64 a0, A0.int IntKind.u64 a1, A0.int IntKind.u64 a2, A0.int IntKind.u64 a3]) none), (3, Blk.mk BK.own 24 (Cells.vals [A0.int IntKind.u64 b0, A0.int IntKind.u64 b1, A0.int IntKind.u64 b2, A0.int IntKind.u64 b3]) none), (4, Blk.mk BK.own 24 (Cells.vals [A0.lit IntKind.u64 0, A0.lit IntKind.u64 0, A0.lit IntKind.u64 0, A0.lit IntKind.u64 0]) none), (7, Blk.mk BK.own 24 (Cells.vals [A0.int IntKind.u64 o0, A0.int IntKind.u64 (IntKind.u64.wrap (IntKind.u64.wrap (a1 + b1) + c)), A0.lit IntKind.u64 0, A0.lit IntKind.u64 0]) none)]) :=
  sel_run tOk mixed [2, 3, 4, 6, 7, 8] [2, 3, 4, 7] ([.no, .no, .no, .no, .no, .no, .yes]) (by kernel_rfl) (Conj.pick hc [0, 0, 0, 0, 0, 0, 1])

theorem r83_1nn (a0 a1 a2 a3 b0 b1 b2 b3 o0 c : Int) (hc : Conj [
    decide (IntKind.u64.wrap (a1 + b1) < a1) = false,
    decide (IntKind.u64.wrap (IntKind.u64.wrap (a1 + b1) + c) < IntKind.u64.wrap (a1 + b1)) = false]) :
    Runs Try.prog (codeAt Try.f83 [1, 1, 1, 0, 1, 0, 0]) (mkT Try.f83.ntmps ([(2, .one (.ptr true 2 0)), (3, .one (.ptr true 3 0)), (4, .one (.ptr true 4 0)), (6, .one (.lit .u64 c)), (7, .one (.ptr true 7 0)), (8, .one (.lit .i64 (1)))]), [(2, { kind := .own, e := 24, c := .vals [.int .u64 a0, .int .u64 a1, .int .u64 a2, .int .u64 a3] }), (3, { kind := .own, e := 24, c := .vals [.int .u64 b0, .int .u64 b1, .int .u64 b2, .int .u64 b3] }), (4, { kind := .own, e := 24, c := .vals [.lit .u64 0, .lit .u64 0, .lit .u64 0, .lit .u64 0] }), (7, { kind := .own, e := 24, c := .vals [.int .u64 o0, .lit .u64 0, .lit .u64 0, .lit .u64 0] })]) (Exit.normal) (mkT 43 [(2, AV.t (AT.one (A0.ptr true 2 0))), (3, AV.t (AT.one (A0.ptr true 3 0))), (4, AV.t (AT.one (A0.ptr true 4 0))), (6, AV.t (AT.one (A0.lit IntKind.u64 0))), (7, AV.t (AT.one (A0.ptr true 7 0))), (8, AV.t (AT.one (A0.lit IntKind.i64 2)))], [(2, Blk.mk BK.own 24 (Cells.vals [A0.int IntKind.u64 a0, A0.int IntKind.u64 a1, A0.int IntKind.u64 a2, A0.int IntKind.u64 a3]) none), (3, Blk.mk BK.own 24 (Cells.vals [A0.int IntKind.u64 b0, A0.int IntKind.u64 b1, A0.int IntKind.u64 b2, A0.int IntKind.u64 b3]) none), (4, Blk.mk BK.own 24 (Cells.vals [A0.lit IntKind.u64 0, A0.lit IntKind.u64 0, A0.lit IntKind.u64 0, A0.lit IntKind.u64 0]) none), (7, Blk.mk BK.own 24 (Cells.vals [A0.int IntKind.u64 o0, A0.int IntKind.u64 (IntKind.u64.wrap (IntKind.u64.wrap (a1 + b1) + c)), A0.lit IntKind.u64 0, A0.lit IntKind.u64 0]) none)]) :=
  sel_run tOk mixed [2, 3, 4, 6, 7, 8] [2, 3, 4, 7] ([.no, .no, .no, .no, .no, .no, .no]) (by kernel_rfl) (Conj.pick hc [0, 0, 0, 0, 0, 0, 1])

theorem r82_1y (a0 a1 a2 a3 b0 b1 b2 b3 o0 c : Int) (hc : Conj [
    decide (a1 < b1) = true]) :
    Runs Try.prog (codeAt Try.f82 [1, 1, 1, 0, 1, 0, 0]) (mkT Try.f82.ntmps ([(2, .one (.ptr true 2 0)), (3, .one (.ptr true 3 0)), (4, .one (.ptr true 4 0)), (5, .one (.lit .u64 c)), (6, .one (.ptr true 6 0)), (7, .one (.lit .i64 (1)))]), [(2, { kind := .own, e := 24, c := .vals [.int .u64 a0, .int .u64 a1, .int .u64 a2, .int .u64 a3] }), (3, { kind := .own, e := 24, c := .vals [.int .u64 b0, .int .u64 b1, .int .u64 b2, .int .u64 b3] }), (4, { kind := .own, e := 24, c := .vals [.lit .u64 0, .lit .u64 0, .lit .u64 0, .lit .u64 0] }), (6, { kind := .own, e := 24, c := .vals [.int .u64 o0, .lit .u64 0, .lit .u64 0, .lit .u64 0] })]) (Exit.normal) (mkT 40 [(2, AV.t (AT.one (A0.ptr true 2 0))), (3, AV.t (AT.one (A0.ptr true 3 0))), (4, AV.t (AT.one (A0.ptr true 4 0))), (5, AV.t (AT.one (A0.lit IntKind.u64 1))), (6, AV.t (AT.one (A0.ptr true 6 0))), (7, AV.t (AT.one (A0.lit IntKind.i64 2)))], [(2, Blk.mk BK.own 24 (Cells.vals [A0.int IntKind.u64 a0, A0.int IntKind.u64 a1, A0.int IntKind.u64 a2, A0.int IntKind.u64 a3]) none), (3, Blk.mk BK.own 24 (Cells.vals [A0.int IntKind.u64 b0, A0.int IntKind.u64 b1, A0.int IntKind.u64 b2, A0.int IntKind.u64 b3]) none), (4, Blk.mk BK.own 24 (Cells.vals [A0.lit IntKind.u64 0, A0.lit IntKind.u64 0, A0.lit IntKind.u64 0, A0.lit IntKind.u64 0]) none), (6, Blk.mk BK.own 24 (Cells.vals [A0.int IntKind.u64 o0, A0.int IntKind.u64 (IntKind.u64.wrap (IntKind.u64.wrap (a1 - b1) - c)), A0.lit IntKind.u64 0, A0.lit IntKind.u64 0]) none)]) :=
  sel_run tOk mixed [2, 3, 4, 5, 6, 7] [2, 3, 4, 6] ([.yes, .yes, .yes, .yes]) (by kernel_rfl) (Conj.pick hc [0, 0, 0, 0])

theorem r82_1ny (a0 a1 a2 a3 b0 b1 b2 b3 o0 c : Int) (hc : Conj [
    decide (a1 < b1) = false,
    decide (IntKind.u64.wrap (a1 - b1) < c) = true]) :
    Runs Try.prog (codeAt Try.f82 [1, 1, 1, 0, 1, 0, 0]) (mkT Try.f82.ntmps ([(2, .one (.ptr true 2 0)), (3, .one (.ptr true 3 0)), (4, .one (.ptr true 4 0)), (5, .one (.lit .u64 c)), (6, .one (.ptr true 6 0)), (7, .one (.lit .i64 (1)))]), [(2, { kind := .own, e := 24, c := .vals [.int .u64 a0, .int .u64 a1, .int .u64 a2, .int .u64 a3] }), (3, { kind := .own, e := 24, c := .vals [.int .u64 b0, .int .u64 b1, .int .u64 b2, .int .u64 b3] }), (4, { kind := .own, e := 24, c := .vals [.lit .u64 0, .lit .u64 0, .lit .u64 0, .lit .u64 0] }), (6, { kind := .own, e := 24, c := .vals [.int .u64 o0, .lit .u64 0, .lit .u64 0, .lit .u64 0] })]) (Exit.normal) (mkT 40 [(2, AV.t (AT.one (A0.ptr true 2 0))), (3, AV.t (AT.one (A0.ptr true 3 0))), (4, AV.t (AT.one (A0.ptr true 4 0))), (5, AV.t (AT.one (A0.lit IntKind.u64 1))), (6, AV.t (AT.one (A0.ptr true 6 0))), (7, AV.t (AT.one (A0.lit IntKind.i64 2)))], [(2, Blk.mk BK.own 24 (Cells.vals [A0.int IntKind.u64 a0, A0.int IntKind.u64 a1, A0.int IntKind.u64 a2, A0.int IntKind.u64 a3]) none), (3, Blk.mk BK.own 24 (Cells.vals [A0.int IntKind.u64 b0, A0.int IntKind.u64 b1, A0.int IntKind.u64 b2, A0.int IntKind.u64 b3]) none), (4, Blk.mk BK.own 24 (Cells.vals [A0.lit IntKind.u64 0, A0.lit IntKind.u64 0, A0.lit IntKind.u64 0, A0.lit IntKind.u64 0]) none), (6, Blk.mk BK.own 24 (Cells.vals [A0.int IntKind.u64 o0, A0.int IntKind.u64 (IntKind.u64.wrap (IntKind.u64.wrap (a1 - b1) - c)), A0.lit IntKind.u64 0, A0.lit IntKind.u64 0]) none)]) :=
  sel_run tOk mixed [2, 3, 4, 5, 6, 7] [2, 3, 4, 6] ([.no, .no, .no, .no, .yes]) (by kernel_rfl) (Conj.pick hc [0, 0, 0, 0, 1])

theorem r82_1nn (a0 a1 a2 a3 b0 b1 b2 b3 o0 c : Int) (hc : Conj [
    decide (a1 < b1) = false,
    decide (IntKind.u64.wrap (a1 - b1) < c) = false]) :
    Runs Try.prog (codeAt Try.f82 [1, 1, 1, 0, 1, 0, 0]) (mkT Try.f82.ntmps ([(2, .one (.ptr true 2 0)), (3, .one (.ptr true 3 0)), (4, .one (.ptr true 4 0)), (5, .one (.lit .u64 c)), (6, .one (.ptr true 6 0)), (7, .one (.lit .i64 (1)))]), [(2, { kind := .own, e := 24, c := .vals [.int .u64 a0, .int .u64 a1, .int .u64 a2, .int .u64 a3] }), (3, { kind := .own, e := 24, c := .vals [.int .u64 b0, .int .u64 b1, .int .u64 b2, .int .u64 b3] }), (4, { kind := .own, e := 24, c := .vals [.lit .u64 0, .lit .u64 0, .lit .u64 0, .lit .u64 0] }), (6, { kind := .own, e := 24, c := .vals [.int .u64 o0, .lit .u64 0, .lit .u64 0, .lit .u64 0] })]) (Exit.normal) (mkT 40 [(2, AV.t (AT.one (A0.ptr true 2 0))), (3, AV.t (AT.one (A0.ptr true 3 0))), (4, AV.t (AT.one (A0.ptr true 4 0))), (5, AV.t (AT.one (A0.lit IntKind.u64 0))), (6, AV.t (AT.one (A0.ptr true 6 0))), (7, AV.t (AT.one (A0.lit IntKind.i64 2)))], [(2, Blk.mk BK.own 24 (Cells.vals [A0.int IntKind.u64 a0, A0.int IntKind.u64 a1, A0.int IntKind.u64 a2, A0.int IntKind.u64 a3]) none), (3, Blk.mk BK.own 24 (Cells.vals [A0.int IntKind.u64 b0, A0.int IntKind.u64 b1, A0.int IntKind.u64 b2, A0.int IntKind.u64 b3]) none), (4, Blk.mk BK.own 24 (Cells.vals [A0.lit IntKind.u64 0, A0.lit IntKind.u64 0, A0.lit IntKind.u64 0, A0.lit IntKind.u64 0]) none), (6, Blk.mk BK.own 24 (Cells.vals [A0.int IntKind.u64 o0, A0.int IntKind.u64 (IntKind.u64.wrap (IntKind.u64.wrap (a1 - b1) - c)), A0.lit IntKind.u64 0, A0.lit IntKind.u64 0]) none)]) :=
  sel_run tOk mixed [2, 3, 4, 5, 6, 7] [2, 3, 4, 6] ([.no, .no, .no, .no, .no]) (by kernel_rfl) (Conj.pick hc [0, 0, 0, 0, 1])

theorem r83_2y (a0 a1 a2 a3 b0 b1 b2 b3 o0 o1 c : Int) (hc : Conj [
    decide (IntKind.u64.wrap (a2 + b2) < a2) = true]) :
    Runs Try.prog (codeAt Try.f83 [1, 1, 1, 0, 1, 0, 0]) (mkT Try.f83.ntmps ([(2, .one (.ptr true 2 0)), (3, .one (.ptr true 3 0)), (4, .one (.ptr true 4 0)), (6, .one (.lit .u64 c)), (7, .one (.ptr true 7 0)), (8, .one (.lit .i64 (2)))]), [(2, { kind := .own, e := 24, c := .vals [.int .u64 a0, .int .u64 a1, .int .u64 a2, .int .u64 a3] }), (3, { kind := .own, e := 24, c := .vals [.int .u64 b0, .int .u64 b1, .int .u64 b2, .int .u64 b3] }), (4, { kind := .own, e := 24, c := .vals [.lit .u64 0, .lit .u64 0, .lit .u64 0, .lit .u64 0] }), (7, { kind := .own, e := 24, c := .vals [.int .u64 o0, .int .u64 o1, .lit .u64 0, .lit .u64 0] })]) (Exit.normal) (mkT 43 [(2, AV.t (AT.one (A0.ptr true 2 0))), (3, AV.t (AT.one (A0.ptr true 3 0))), (4, AV.t (AT.one (A0.ptr true 4 0))), (6, AV.t (AT.one (A0.lit IntKind.u64 1))), (7, AV.t (AT.one (A0.ptr true 7 0))), (8, AV.t (AT.one (A0.lit IntKind.i64 3)))], [(2, Blk.mk BK.own 24 (Cells.vals [A0.int IntKind.u64 a0, A0.int IntKind.u64 a1, A0.int IntKind.u64 a2, A0.int IntKind.u64 a3]) none), (3, Blk.mk BK.own 24 (Cells.vals [A0.int IntKind.u64 b0, A0.int IntKind.u64 b1, A0.int IntKind.u64 b2, A0.int IntKind.u64 b3]) none), (4, Blk.mk BK.own 24 (Cells.vals [A0.lit IntKind.u64 0, A0.lit IntKind.u64 0, A0.lit IntKind.u64 0, A0.lit IntKind.u64 0]) none), (7, Blk.mk BK.own 24 (Cells.vals [A0.int IntKind.u64 o0, A0.int IntKind.u64 o1, A0.int IntKind.u64 (IntKind.u64.wrap (IntKind.u64.wrap (a2 + b2) + c)), A0.lit IntKind.u64 0]) none)]) :=
  sel_run tOk mixed [2, 3, 4, 6, 7, 8] [2, 3, 4, 7] ([.yes, .yes, .yes, .yes, .yes, .yes]) (by kernel_rfl) (Conj.pick hc [0, 0, 0, 0, 0, 0])

theorem r83_2ny (a0 a1 a2 a3 b0 b1 b2 b3 o0 o1 c : Int) (hc : Conj [
    decide (IntKind.u64.wrap (a2 + b2) < a2) = false,
    decide (IntKind.u64.wrap (IntKind.u64.wrap (a2 + b2) + c) < IntKind.u64.wrap (a2 + b2)) = true]) :
    Runs Try.prog (codeAt Try.f83 [1, 1, 1, 0, 1, 0, 0]) (mkT Try.f83.ntmps ([(2, .one (.ptr true 2 0)), (3, .one (.ptr true 3 0)), (4, .one (.ptr true 4 0)), (6, .one (.lit .u64 c)), (7, .one (.ptr true 7 0)), (8, .one (.lit .i64 (2)))]), [(2, { kind := .own, e := 24, c := .vals [.int .u64 a0, .int .u64 a1, .int .u64 a2, .int .u64 a3] }), (3, { kind := .own, e := 24, c := .vals [.int .u64 b0, .int .u64 b1, .int .u64 b2, .int .u64 b3] }), (4, { kind := .own, e := 24, c := .vals [.lit .u64 0, .lit .u64 0, .lit .u64 0, .lit .u64 0] }), (7, { kind := .own, e := 24, c := .vals [.int .u64 o0, .int .u64 o1, .lit .u64 0, .lit .u64 0] })]) (Exit.normal) (mkT 43 [(2, AV.t (AT.one (A0.ptr true 2 0))), (3, AV.t (AT.one (A0.ptr true 3 0))), (4, AV.t (AT.one (A0.ptr true 4 0))), (6, AV.t (AT.one (A0.lit IntKind.u64 1))), (7, AV.t (AT.one (A0.ptr true 7 0))), (8, AV.t (AT.one (A0.lit IntKind.i64 3)))], [(2, Blk.mk BK.own 24 (Cells.vals [A0.int IntKind.u64 a0, A0.int IntKind.u64 a1, A0.int IntKind.u64 a2, A0.int IntKind.u64 a3]) none), (3, Blk.mk BK.own 24 (Cells.vals [A0.int IntKind.u64 b0, A0.int IntKind.u64 b1, A0.int IntKind.u64 b2, A0.int IntKind.u64 b3]) none), (4, Blk.mk BK.own 24 (Cells.vals [A0.lit IntKind.u64 0, A0.lit IntKind.u64 0, A0.lit IntKind.u64 0, A0.lit IntKind.u64 0]) none), (7, Blk.mk BK.own 24 (Cells.vals [A0.int IntKind.u64 o0, A0.int IntKind.u64 o1, A0.int IntKind.u64 (IntKind.u64.wrap (IntKind.u64.wrap (a2 + b2) + c)), A0.lit IntKind.u64 0]) none)]) :=
  sel_run tOk mixed [2, 3, 4, 6, 7, 8] [2, 3, 4, 7] ([.no, .no, .no, .no, .no, .no, .yes]) (by kernel_rfl) (Conj.pick hc [0, 0, 0, 0, 0, 0, 1])

theorem r83_2nn (a0 a1 a2 a3 b0 b1 b2 b3 o0 o1 c : Int) (hc : Conj [
    decide (IntKind.u64.wrap (a2 + b2) < a2) = false,
    decide (IntKind.u64.wrap (IntKind.u64.wrap (a2 + b2) + c) < IntKind.u64.wrap (a2 + b2)) = false]) :
    Runs Try.prog (codeAt Try.f83 [1, 1, 1, 0, 1, 0, 0]) (mkT Try.f83.ntmps ([(2, .one (.ptr true 2 0)), (3, .one (.ptr true 3 0)), (4, .one (.ptr true 4 0)), (6, .one (.lit .u64 c)), (7, .one (.ptr true 7 0)), (8, .one (.lit .i64 (2)))]), [(2, { kind := .own, e := 24, c := .vals [.int .u64 a0, .int .u64 a1, .int .u64 a2, .int .u64 a3] }), (3, { kind := .own, e := 24, c := .vals [.int .u64 b0, .int .u64 b1, .int .u64 b2, .int .u64 b3] }), (4, { kind := .own, e := 24, c := .vals [.lit .u64 0, .lit .u64 0, .lit .u64 0, .lit .u64 0] }), (7, { kind := .own, e := 24, c := .vals [.int .u64 o0, .int .u64 o1, .lit .u64 0, .lit .u64 0] })]) (Exit.normal) (mkT 43 [(2, AV.t (AT.one (A0.ptr true 2 0))), (3, AV.t (AT.one (A0.ptr true 3 0))), (4, AV.t (AT.one (A0.ptr true 4 0))), (6, AV.t (AT.one (A0.lit IntKind.u64 0))), (7, AV.t (AT.one (A0.ptr true 7 0))), (8, AV.t (AT.one (A0.lit IntKind.i64 3)))], [(2, Blk.mk BK.own 24 (Cells.vals [A0.int IntKind.u64 a0, A0.int IntKind.u64 a1, A0.int IntKind.u64 a2, A0.int IntKind.u64 a3]) none), (3, Blk.mk BK.own 24 (Cells.vals [A0.int IntKind.u64 b0, A0.int IntKind.u64 b1, A0.int IntKind.u64 b2, A0.int IntKind.u64 b3]) none), (4, Blk.mk BK.own 24 (Cells.vals [A0.lit IntKind.u64 0, A0.lit IntKind.u64 0, A0.lit IntKind.u64 0, A0.lit IntKind.u64 0]) none), (7, Blk.mk BK.own 24 (Cells.vals [A0.int IntKind.u64 o0, A0.int IntKind.u64 o1, A0.int IntKind.u64 (IntKind.u64.wrap (IntKind.u64.wrap (a2 + b2) + c)), A0.lit IntKind.u64 0]) none)]) :=
  sel_run tOk mixed [2, 3, 4, 6, 7, 8] [2, 3, 4, 7] ([.no, .no, .no, .no, .no, .no, .no]) (by kernel_rfl) (Conj.pick hc [0, 0, 0, 0, 0, 0, 1])

theorem r82_2y (a0 a1 a2 a3 b0 b1 b2 b3 o0 o1 c : Int) (hc : Conj [
    decide (a2 < b2) = true]) :
    Runs Try.prog (codeAt Try.f82 [1, 1, 1, 0, 1, 0, 0]) (mkT Try.f82.ntmps ([(2, .one (.ptr true 2 0)), (3, .one (.ptr true 3 0)), (4, .one (.ptr true 4 0)), (5, .one (.lit .u64 c)), (6, .one (.ptr true 6 0)), (7, .one (.lit .i64 (2)))]), [(2, { kind := .own, e := 24, c := .vals [.int .u64 a0, .int .u64 a1, .int .u64 a2, .int .u64 a3] }), (3, { kind := .own, e := 24, c := .vals [.int .u64 b0, .int .u64 b1, .int .u64 b2, .int .u64 b3] }), (4, { kind := .own, e := 24, c := .vals [.lit .u64 0, .lit .u64 0, .lit .u64 0, .lit .u64 0] }), (6, { kind := .own, e := 24, c := .vals [.int .u64 o0, .int .u64 o1, .lit .u64 0, .lit .u64 0] })]) (Exit.normal) (mkT 40 [(2, AV.t (AT.one (A0.ptr true 2 0))), (3, AV.t (AT.one (A0.ptr true 3 0))), (4, AV.t (AT.one (A0.ptr true 4 0))), (5, AV.t (AT.one (A0.lit IntKind.u64 1))), (6, AV.t (AT.one (A0.ptr true 6 0))), (7, AV.t (AT.one (A0.lit IntKind.i64 3)))], [(2, Blk.mk BK.own 24 (Cells.vals [A0.int IntKind.u64 a0, A0.int IntKind.u64 a1, A0.int IntKind.u64 a2, A0.int IntKind.u64 a3]) none), (3, Blk.mk BK.own 24 (Cells.vals [A0.int IntKind.u64 b0, A0.int IntKind.u64 b1, A0.int IntKind.u64 b2, A0.int IntKind.u64 b3]) none), (4, Blk.mk BK.own 24 (Cells.vals [A0.lit IntKind.u64 0, A0.lit IntKind.u64 0, A0.lit IntKind.u64 0, A0.lit IntKind.u64 0]) none), (6, Blk.mk BK.own 24 (Cells.vals [A0.int IntKind.u64 o0, A0.int IntKind.u64 o1, A0.int IntKind.u64 (IntKind.u64.wrap (IntKind.u64.wrap (a2 - b2) - c)), A0.lit IntKind.u64 0]) none)]) :=
  sel_run tOk mixed [2, 3, 4, 5, 6, 7] [2, 3, 4, 6] ([.yes, .yes, .yes, .yes]) (by kernel_rfl) (Conj.pick hc [0, 0, 0, 0])

theorem r82_2ny (a0 a1 a2 a3 b0 b1 b2 b3 o0 o1 c : Int) (hc : Conj [
    decide (a2 < b2) = false,
    decide (IntKind.u64.wrap (a2 - b2) < c) = true]) :
    Runs Try.prog (codeAt Try.f82 [1, 1, 1, 0, 1, 0, 0]) (mkT Try.f82.ntmps ([(2, .one (.ptr true 2 0)), (3, .one (.ptr true 3 0)), (4, .one (.ptr true 4 0)), (5, .one (.lit .u64 c)), (6, .one (.ptr true 6 0)), (7, .one (.lit .i64 (2)))]), [(2, { kind := .own, e := 24, c := .vals [.int .u64 a0, .int .u64 a1, .int .u64 a2, .int .u64 a3] }), (3, { kind := .own, e := 24, c := .vals [.int .u64 b0, .int .u64 b1, .int .u64 b2, .int .u64 b3] }), (4, { kind := .own, e := 24, c := .vals [.lit .u64 0, .lit .u64 0, .lit .u64 0, .lit .u64 0] }), (6, { kind := .own, e := 24, c := .vals [.int .u64 o0, .int .u64 o1, .lit .u64 0, .lit .u64 0] })]) (Exit.normal) (mkT 40 [(2, AV.t (AT.one (A0.ptr true 2 0))), (3, AV.t (AT.one (A0.ptr true 3 0))), (4, AV.t (AT.one (A0.ptr true 4 0))), (5, AV.t (AT.one (A0.lit IntKind.u64 1))), (6, AV.t (AT.one (A0.ptr true 6 0))), (7, AV.t (AT.one (A0.lit IntKind.i64 3)))], [(2, Blk.mk BK.own 24 (Cells.vals [A0.int IntKind.u64 a0, A0.int IntKind.u64 a1, A0.int IntKind.u64 a2, A0.int IntKind.u64 a3]) none), (3, Blk.mk BK.own 24 (Cells.vals [A0.int IntKind.u64 b0, A0.int IntKind.u64 b1, A0.int IntKind.u64 b2, A0.int IntKind.u64 b3]) none), (4, Blk.mk BK.own 24 (Cells.vals [A0.lit IntKind.u64 0, A0.lit IntKind.u64 0, A0.lit IntKind.u64 0, A0.lit IntKind.u64 0]) none), (6, Blk.mk BK.own 24 (Cells.vals [A0.int IntKind.u64 o0, A0.int IntKind.u64 o1, A0.int IntKind.u64 (IntKind.u64.wrap (IntKind.u64.wrap (a2 - b2) - c)), A0.lit IntKind.u64 0]) none)]) :=
  sel_run tOk mixed [2, 3, 4, 5, 6, 7] [2, 3, 4, 6] ([.no, .no, .no, .no, .yes]) (by kernel_rfl) (Conj.pick hc [0, 0, 0, 0, 1])

theorem r82_2nn (a0 a1 a2 a3 b0 b1 b2 b3 o0 o1 c : Int) (hc : Conj [
    decide (a2 < b2) = false,
    decide (IntKind.u64.wrap (a2 - b2) < c) = false]) :
    Runs Try.prog (codeAt Try.f82 [1, 1, 1, 0, 1, 0, 0]) (mkT Try.f82.ntmps ([(2, .one (.ptr true 2 0)), (3, .one (.ptr true 3 0)), (4, .one (.ptr true 4 0)), (5, .one (.lit .u64 c)), (6, .one (.ptr true 6 0)), (7, .one (.lit .i64 (2)))]), [(2, { kind := .own, e := 24, c := .vals [.int .u64 a0, .int .u64 a1, .int .u64 a2, .int .u64 a3] }), (3, { kind := .own, e := 24, c := .vals [.int .u64 b0, .int .u64 b1, .int .u64 b2, .int .u64 b3] }), (4, { kind := .own, e := 24, c := .vals [.lit .u64 0, .lit .u64 0, .lit .u64 0, .lit .u64 0] }), (6, { kind := .own, e := 24, c := .vals [.int .u64 o0, .int .u64 o1, .lit .u64 0, .lit .u64 0] })]) (Exit.normal) (mkT 40 [(2, AV.t (AT.one (A0.ptr true 2 0))), (3, AV.t (AT.one (A0.ptr true 3 0))), (4, AV.t (AT.one (A0.ptr true 4 0))), (5, AV.t (AT.one (A0.lit IntKind.u64 0))), (6, AV.t (AT.one (A0.ptr true 6 0))), (7, AV.t (AT.one (A0.lit IntKind.i64 3)))], [(2, Blk.mk BK.own 24 (Cells.vals [A0.int IntKind.u64 a0, A0.int IntKind.u64 a1, A0.int IntKind.u64 a2, A0.int IntKind.u64 a3]) none), (3, Blk.mk BK.own 24 (Cells.vals [A0.int IntKind.u64 b0, A0.int IntKind.u64 b1, A0.int IntKind.u64 b2, A0.int IntKind.u64 b3]) none), (4, Blk.mk BK.own 24 (Cells.vals [A0.lit IntKind.u64 0, A0.lit IntKind.u64 0, A0.lit IntKind.u64 0, A0.lit IntKind.u64 0]) none), (6, Blk.mk BK.own 24 (Cells.vals [A0.int IntKind.u64 o0, A0.int IntKind.u64 o1, A0.int IntKind.u64 (IntKind.u64.wrap (IntKind.u64.wrap (a2 - b2) - c)), A0.lit IntKind.u64 0]) none)]) :=
  sel_run tOk mixed [2, 3, 4, 5, 6, 7] [2, 3, 4, 6] ([.no, .no, .no, .no, .no]) (by kernel_rfl) (Conj.pick hc [0, 0, 0, 0, 1])

theorem r83_3y (a0 a1 a2 a3 b0 b1 b2 b3 o0 o1 o2 c : Int) (hc : Conj [
    decide (IntKind.u64.wrap (a3 + b3) < a3) = true]) :
    Runs Try.prog (codeAt Try.f83 [1, 1, 1, 0, 1, 0, 0]) (mkT Try.f83.ntmps ([(2, .one (.ptr true 2 0)), (3, .one (.ptr true 3 0)), (4, .one (.ptr true 4 0)), (6, .one (.lit .u64 c)), (7, .one (.ptr true 7 0)), (8, .one (.lit .i64 (3)))]), [(2, { kind := .own, e := 24, c := .vals [.int .u64 a0, .int .u64 a1, .int .u64 a2, .int .u64 a3] }), (3, { kind := .own, e := 24, c := .vals [.int .u64 b0, .int .u64 b1, .int .u64 b2, .int .u64 b3] }), (4, { kind := .own, e := 24, c := .vals [.lit .u64 0, .lit .u64 0, .lit .u64 0, .lit .u64 0] }), (7, { kind := .own, e := 24, c := .vals [.int .u64 o0, .int .u64 o1, .int .u64 o2, .lit .u64 0] })]) (Exit.normal) (mkT 43 [(2, AV.t (AT.one (A0.ptr true 2 0))), (3, AV.t (AT.one (A0.ptr true 3 0))), (4, AV.t (AT.one (A0.ptr true 4 0))), (6, AV.t (AT.one (A0.lit IntKind.u64 1))), (7, AV.t (AT.one (A0.ptr true 7 0))), (8, AV.t (AT.one (A0.lit IntKind.i64 4)))], [(2, Blk.mk BK.own 24 (Cells.vals [A0.int IntKind.u64 a0, A0.int IntKind.u64 a1, A0.int IntKind.u64 a2, A0.int IntKind.u64 a3]) none), (3, Blk.mk BK.own 24 (Cells.vals [A0.int IntKind.u64 b0, A0.int IntKind.u64 b1, A0.int IntKind.u64 b2, A0.int IntKind.u64 b3]) none), (4, Blk.mk BK.own 24 (Cells.vals [A0.lit IntKind.u64 0, A0.lit IntKind.u64 0, A0.lit IntKind.u64 0, A0.lit IntKind.u64 0]) none), (7, Blk.mk BK.own 24 (Cells.vals [A0.int IntKind.u64 o0, A0.int IntKind.u64 o1, A0.int IntKind.u64 o2, A0.int IntKind.u64 (IntKind.u64.wrap (IntKind.u64.wrap (a3 + b3) + c))]) none)]) :=
  sel_run tOk mixed [2, 3, 4, 6, 7, 8] [2, 3, 4, 7] ([.yes, .yes, .yes, .yes, .yes, .yes]) (by kernel_rfl) (Conj.pick hc [0, 0, 0, 0, 0, 0])

theorem r83_3ny (a0 a1 a2 a3 b0 b1 b2 b3 o0 o1 o2 c : Int) (hc : Conj [
    decide (IntKind.u64.wrap (a3 + b3) < a3) = false,
    decide (IntKind.u64.wrap (IntKind.u64.wrap (a3 + b3) + c) < IntKind.u64.wrap (a3 + b3)) = true]) :
    Runs Try.prog (codeAt Try.f83 [1, 1, 1, 0, 1, 0, 0]) (mkT Try.f83.ntmps ([(2, .one (.ptr true 2 0)), (3, .one (.ptr true 3 0)), (4, .one (.ptr true 4 0)), (6, .one (.lit .u64 c)), (7, .one (.ptr true 7 0)), (8, .one (.lit .i64 (3)))]), [(2, { kind := .own, e := 24, c := .vals [.int .u64 a0, .int .u64 a1, .int .u64 a2, .int .u64 a3] }), (3, { kind := .own, e := 24, c := .vals [.int .u64 b0, .int .u64 b1, .int .u64 b2, .int .u64 b3] }), (4, { kind := .own, e := 24, c := .vals [.lit .u64 0, .lit .u64 0, .lit .u64 0, .lit .u64 0] }), (7, { kind := .own, e := 24, c := .vals [.int .u64 o0, .int .u64 o1, .int .u64 o2, .lit .u64 0] })]) (Exit.normal) (mkT 43 [(2, AV.t (AT.one (A0.ptr true 2 0))), (3, AV.t (AT.one (A0.ptr true 3 0))), (4, AV.t (AT.one (A0.ptr true 4 0))), (6, AV.t (AT.one (A0.lit IntKind.u64 1))), (7, AV.t (AT.one (A0.ptr true 7 0))), (8, AV.t (AT.one (A0.lit IntKind.i64 4)))], [(2, Blk.mk BK.own 24 (Cells.vals [A0.int IntKind.u64 a0, A0.int IntKind.u64 a1, A0.int IntKind.u64 a2, A0.int IntKind.u64 a3]) none), (3, Blk.mk BK.own 24 (Cells.vals [A0.int IntKind.u64 b0, A0.int IntKind.u64 b1, A0.int IntKind.u64 b2, A0.int IntKind.u64 b3]) none), (4, Blk.mk BK.own 24 (Cells.vals [A0.lit IntKind.u64 0, A0.lit IntKind.u64 0, A0.lit IntKind.u64 0, A0.lit IntKind.u64 0]) none), (7, Blk.mk BK.own 24 (Cells.vals [A0.int IntKind.u64 o0, A0.int IntKind.u64 o1, A0.int IntKind.u64 o2, A0.int IntKind.u64 (IntKind.u64.wrap (IntKind.u64.wrap (a3 + b3) + c))]) none)]) :=
  sel_run tOk mixed [2, 3, 4, 6, 7, 8] [2, 3, 4, 7] ([.no, .no, .no, .no, .no, .no, .yes]) (by kernel_rfl) (Conj.pick hc [0, 0, 0, 0, 0, 0, 1])

theorem r83_3nn (a0 a1 a2 a3 b0 b1 b2 b3 o0 o1 o2 c : Int) (hc : Conj [
    decide (IntKind.u64.wrap (a3 + b3) < a3) = false,
    decide (IntKind.u64.wrap (IntKind.u64.wrap (a3 + b3) + c) < IntKind.u64.wrap (a3 + b3)) = false]) :
    Runs Try.prog (codeAt Try.f83 [1, 1, 1, 0, 1, 0, 0]) (mkT Try.f83.ntmps ([(2, .one (.ptr true 2 0)), (3, .one (.ptr true 3 0)), (4, .one (.ptr true 4 0)), (6, .one (.lit .u64 c)), (7, .one (.ptr true 7 0)), (8, .one (.lit .i64 (3)))]), [(2, { kind := .own, e := 24, c := .vals [.int .u64 a0, .int .u64 a1, .int .u64 a2, .int .u64 a3] }), (3, { kind := .own, e := 24, c := .vals [.int .u64 b0, .int .u64 b1, .int .u64 b2, .int .u64 b3] }), (4, { kind := .own, e := 24, c := .vals [.lit .u64 0, .lit .u64 0, .lit .u64 0, .lit .u64 0] }), (7, { kind := .own, e := 24, c := .vals [.int .u64 o0, .int .u64 o1, .int .u64 o2, .lit .u64 0] })]) (Exit.normal) (mkT 43 [(2, AV.t (AT.one (A0.ptr true 2 0))), (3, AV.t (AT.one (A0.ptr true 3 0))), (4, AV.t (AT.one (A0.ptr true 4 0))), (6, AV.t (AT.one (A0.lit IntKind.u64 0))), (7, AV.t (AT.one (A0.ptr true 7 0))), (8, AV.t (AT.one (A0.lit IntKind.i64 4)))], [(2, Blk.mk BK.own 24 (Cells.vals [A0.int IntKind.u64 a0, A0.int IntKind.u64 a1, A0.int IntKind.u64 a2, A0.int IntKind.u64 a3]) none), (3, Blk.mk BK.own 24 (Cells.vals [A0.int IntKind.u64 b0, A0.int IntKind.u64 b1, A0.int IntKind.u64 b2, A0.int IntKind.u64 b3]) none), (4, Blk.mk BK.own 24 (Cells.vals [A0.lit IntKind.u64 0, A0.lit IntKind.u64 0, A0.lit IntKind.u64 0, A0.lit IntKind.u64 0]) none), (7, Blk.mk BK.own 24 (Cells.vals [A0.int IntKind.u64 o0, A0.int IntKind.u64 o1, A0.int IntKind.u64 o2, A0.int IntKind.u64 (IntKind.u64.wrap (IntKind.u64.wrap (a3 + b3) + c))]) none)]) :=
  sel_run tOk mixed [2, 3, 4, 6, 7, 8] [2, 3, 4, 7] ([.no, .no, .no, .no, .no, .no, .no]) (by kernel_rfl) (Conj.pick hc [0, 0, 0, 0, 0, 0, 1])

theorem r82_3y (a0 a1 a2 a3 b0 b1 b2 b3 o0 o1 o2 c : Int) (hc : Conj [
    decide (a3 < b3) = true]) :
    Runs Try.prog (codeAt Try.f82 [1, 1, 1, 0, 1, 0, 0]) (mkT Try.f82.ntmps ([(2, .one (.ptr true 2 0)), (3, .one (.ptr true 3 0)), (4, .one (.ptr true 4 0)), (5, .one (.lit .u64 c)), (6, .one (.ptr true 6 0)), (7, .one (.lit .i64 (3)))]), [(2, { kind := .own, e := 24, c := .vals [.int .u64 a0, .int .u64 a1, .int .u64 a2, .int .u64 a3] }), (3, { kind := .own, e := 24, c := .vals [.int .u64 b0, .int .u64 b1, .int .u64 b2, .int .u64 b3] }), (4, { kind := .own, e := 24, c := .vals [.lit .u64 0, .lit .u64 0, .lit .u64 0, .lit .u64 0] }), (6, { kind := .own, e := 24, c := .vals [.int .u64 o0, .int .u64 o1, .int .u64 o2, .lit .u64 0] })]) (Exit.normal) (mkT 40 [(2, AV.t (AT.one (A0.ptr true 2 0))), (3, AV.t (AT.one (A0.ptr true 3 0))), (4, AV.t (AT.one (A0.ptr true 4 0))), (5, AV.t (AT.one (A0.lit IntKind.u64 1))), (6, AV.t (AT.one (A0.ptr true 6 0))), (7, AV.t (AT.one (A0.lit IntKind.i64 4)))], [(2, Blk.mk BK.own 24 (Cells.vals [A0.int IntKind.u64 a0, A0.int IntKind.u64 a1, A0.int IntKind.u64 a2, A0.int IntKind.u64 a3]) none), (3, Blk.mk BK.own 24 (Cells.vals [A0.int IntKind.u64 b0, A0.int IntKind.u64 b1, A0.int IntKind.u64 b2, A0.int IntKind.u64 b3]) none), (4, Blk.mk BK.own 24 (Cells.vals [A0.lit IntKind.u64 0, A0.lit IntKind.u64 0, A0.lit IntKind.u64 0, A0.lit IntKind.u64 0]) none), (6, Blk.mk BK.own 24 (Cells.vals [A0.int IntKind.u64 o0, A0.int IntKind.u64 o1, A0.int IntKind.u64 o2, A0.int IntKind.u64 (IntKind.u64.wrap (IntKind.u64.wrap (a3 - b3) - c))]) none)]) :=
  sel_run tOk mixed [2, 3, 4, 5, 6, 7] [2, 3, 4, 6] ([.yes, .yes, .yes, .yes]) (by kernel_rfl) (Conj.pick hc [0, 0, 0, 0])

theorem r82_3ny (a0 a1 a2 a3 b0 b1 b2 b3 o0 o1 o2 c : Int) (hc : Conj [
    decide (a3 < b3) = false,
    decide (IntKind.u64.wrap (a3 - b3) < c) = true]) :
    Runs Try.prog (codeAt Try.f82 [1, 1, 1, 0, 1, 0, 0]) (mkT Try.f82.ntmps ([(2, .one (.ptr true 2 0)), (3, .one (.ptr true 3 0)), (4, .one (.ptr true 4 0)), (5, .one (.lit .u64 c)), (6, .one (.ptr true 6 0)), (7, .one (.lit .i64 (3)))]), [(2, { kind := .own, e := 24, c := .vals [.int .u64 a0, .int .u64 a1, .int .u64 a2, .int .u64 a3] }), (3, { kind := .own, e := 24, c := .vals [.int .u64 b0, .int .u64 b1, .int .u64 b2, .int .u64 b3] }), (4, { kind := .own, e := 24, c := .vals [.lit .u64 0, .lit .u64 0, .lit .u64 0, .lit .u64 0] }), (6, { kind := .own, e := 24, c := .vals [.int .u64 o0, .int .u64 o1, .int .u64 o2, .lit .u64 0] })]) (Exit.normal) (mkT 40 [(2, AV.t (AT.one (A0.ptr true 2 0))), (3, AV.t (AT.one (A0.ptr true 3 0))), (4, AV.t (AT.one (A0.ptr true 4 0))), (5, AV.t (AT.one (A0.lit IntKind.u64 1))), (6, AV.t (AT.one (A0.ptr true 6 0))), (7, AV.t (AT.one (A0.lit IntKind.i64 4)))], [(2, Blk.mk BK.own 24 (Cells.vals [A0.int IntKind.u64 a0, A0.int IntKind.u64 a1, A0.int IntKind.u64 a2, A0.int IntKind.u64 a3]) none), (3, Blk.mk BK.own 24 (Cells.vals [A0.int IntKind.u64 b0, A0.int IntKind.u64 b1, A0.int IntKind.u64 b2, A0.int IntKind.u64 b3]) none), (4, Blk.mk BK.own 24 (Cells.vals [A0.lit IntKind.u64 0, A0.lit IntKind.u64 0, A0.lit IntKind.u64 0, A0.lit IntKind.u64 0]) none), (6, Blk.mk BK.own 24 (Cells.vals [A0.int IntKind.u64 o0, A0.int IntKind.u64 o1, A0.int IntKind.u64 o2, A0.int IntKind.u64 (IntKind.u64.wrap (IntKind.u64.wrap (a3 - b3) - c))]) none)]) :=
  sel_run tOk mixed [2, 3, 4, 5, 6, 7] [2, 3, 4, 6] ([.no, .no, .no, .no, .yes]) (by kernel_rfl) (Conj.pick hc [0, 0, 0, 0, 1])

theorem r82_3nn (a0 a1 a2 a3 b0 b1 b2 b3 o0 o1 o2 c : Int) (hc : Conj [
    decide (a3 < b3) = false,
    decide (IntKind.u64.wrap (a3 - b3) < c) = false]) :
    Runs Try.prog (codeAt Try.f82 [1, 1, 1, 0, 1, 0, 0]) (mkT Try.f82.ntmps ([(2, .one (.ptr true 2 0)), (3, .one (.ptr true 3 0)), (4, .one (.ptr true 4 0)), (5, .one (.lit .u64 c)), (6, .one (.ptr true 6 0)), (7, .one (.lit .i64 (3)))]), [(2, { kind := .own, e := 24, c := .vals [.int .u64 a0, .int .u64 a1, .int .u64 a2, .int .u64 a3] }), (3, { kind := .own, e := 24, c := .vals [.int .u64 b0, .int .u64 b1, .int .u64 b2, .int .u64 b3] }), (4, { kind := .own, e := 24, c := .vals [.lit .u64 0, .lit .u64 0, .lit .u64 0, .lit .u64 0] }), (6, { kind := .own, e := 24, c := .vals [.int .u64 o0, .int .u64 o1, .int .u64 o2, .lit .u64 0] })]) (Exit.normal) (mkT 40 [(2, AV.t (AT.one (A0.ptr true 2 0))), (3, AV.t (AT.one (A0.ptr true 3 0))), (4, AV.t (AT.one (A0.ptr true 4 0))), (5, AV.t (AT.one (A0.lit IntKind.u64 0))), (6, AV.t (AT.one (A0.ptr true 6 0))), (7, AV.t (AT.one (A0.lit IntKind.i64 4)))], [(2, Blk.mk BK.own 24 (Cells.vals [A0.int IntKind.u64 a0, A0.int IntKind.u64 a1, A0.int IntKind.u64 a2, A0.int IntKind.u64 a3]) none), (3, Blk.mk BK.own 24 (Cells.vals [A0.int IntKind.u64 b0, A0.int IntKind.u64 b1, A0.int IntKind.u64 b2, A0.int IntKind.u64 b3]) none), (4, Blk.mk BK.own 24 (Cells.vals [A0.lit IntKind.u64 0, A0.lit IntKind.u64 0, A0.lit IntKind.u64 0, A0.lit IntKind.u64 0]) none), (6, Blk.mk BK.own 24 (Cells.vals [A0.int IntKind.u64 o0, A0.int IntKind.u64 o1, A0.int IntKind.u64 o2, A0.int IntKind.u64 (IntKind.u64.wrap (IntKind.u64.wrap (a3 - b3) - c))]) none)]) :=
  sel_run tOk mixed [2, 3, 4, 5, 6, 7] [2, 3, 4, 6] ([.no, .no, .no, .no, .no]) (by kernel_rfl) (Conj.pick hc [0, 0, 0, 0, 1])

theorem nw3_83 : Named Try.prog 83 Try.f83 := ⟨Try.func83, by kernel_rfl, by kernel_rfl⟩
theorem p83 (a0 a1 a2 a3 b0 b1 b2 b3 o0 o1 o2 o3 c : Int) (hc : Conj [
    Runs Try.prog (codeAt Try.f83 [1, 1, 1, 0, 1, 0]) (mkT 43 [(2, AV.t (AT.one (A0.ptr true 2 0))), (3, AV.t (AT.one (A0.ptr true 3 0))), (4, AV.t (AT.one (A0.ptr true 4 0))), (6, AV.t (AT.one (A0.lit IntKind.u64 0))), (7, AV.t (AT.one (A0.ptr true 7 0))), (8, AV.t (AT.one (A0.lit IntKind.i64 0)))], [(2, Blk.mk BK.own 24 (Cells.vals [A0.int IntKind.u64 a0, A0.int IntKind.u64 a1, A0.int IntKind.u64 a2, A0.int IntKind.u64 a3]) none), (3, Blk.mk BK.own 24 (Cells.vals [A0.int IntKind.u64 b0, A0.int IntKind.u64 b1, A0.int IntKind.u64 b2, A0.int IntKind.u64 b3]) none), (4, Blk.mk BK.own 24 (Cells.vals [A0.lit IntKind.u64 0, A0.lit IntKind.u64 0, A0.lit IntKind.u64 0, A0.lit IntKind.u64 0]) none), (7, Blk.mk BK.own 24 (Cells.vals [A0.lit IntKind.u64 0, A0.lit IntKind.u64 0, A0.lit IntKind.u64 0, A0.lit IntKind.u64 0]) none)]) (Exit.exit 0) (mkT 43 [(4, AV.one (A0.ptr true 4 0)), (6, AV.one (A0.lit IntKind.u64 c)), (7, AV.one (A0.ptr true 7 0))], [(4, Blk.mk BK.own 24 (Cells.vals [A0.lit IntKind.u64 0, A0.lit IntKind.u64 0, A0.lit IntKind.u64 0, A0.lit IntKind.u64 0]) none), (7, Blk.mk BK.own 24 (Cells.vals [A0.int IntKind.u64 o0, A0.int IntKind.u64 o1, A0.int IntKind.u64 o2, A0.int IntKind.u64 o3]) none)])]) :
    FnOk Try.prog 83 ([w4 a0 a1 a2 a3, w4 b0 b1 b2 b3]) ([]) (AV.tup [w4 o0 o1 o2 o3, AT.one (A0.blit (c == 1))]) ([]) :=
  fn_run tOk mixed nw3_83 ([]) ([.seg [2, 3, 4, 6, 7, 8] [2, 3, 4, 7] (.exit 0) (mkT 43 [(4, .one (.ptr true 4 0)), (6, .one (.lit .u64 c)), (7, .one (.ptr true 7 0))]) [(4, { kind := .own, e := 24, c := .vals [.lit .u64 0, .lit .u64 0, .lit .u64 0, .lit .u64 0] }), (7, { kind := .own, e := 24, c := .vals [.int .u64 o0, .int .u64 o1, .int .u64 o2, .int .u64 o3] })]]) (by kernel_rfl) hc

theorem nw3_82 : Named Try.prog 82 Try.f82 := ⟨Try.func82, by kernel_rfl, by kernel_rfl⟩
theorem p82 (a0 a1 a2 a3 b0 b1 b2 b3 o0 o1 o2 o3 : Int) (hc : Conj [
    Runs Try.prog (codeAt Try.f82 [1, 1, 1, 0, 1, 0]) (mkT 40 [(2, AV.t (AT.one (A0.ptr true 2 0))), (3, AV.t (AT.one (A0.ptr true 3 0))), (4, AV.t (AT.one (A0.ptr true 4 0))), (5, AV.t (AT.one (A0.lit IntKind.u64 0))), (6, AV.t (AT.one (A0.ptr true 6 0))), (7, AV.t (AT.one (A0.lit IntKind.i64 0)))], [(2, Blk.mk BK.own 24 (Cells.vals [A0.int IntKind.u64 a0, A0.int IntKind.u64 a1, A0.int IntKind.u64 a2, A0.int IntKind.u64 a3]) none), (3, Blk.mk BK.own 24 (Cells.vals [A0.int IntKind.u64 b0, A0.int IntKind.u64 b1, A0.int IntKind.u64 b2, A0.int IntKind.u64 b3]) none), (4, Blk.mk BK.own 24 (Cells.vals [A0.lit IntKind.u64 0, A0.lit IntKind.u64 0, A0.lit IntKind.u64 0, A0.lit IntKind.u64 0]) none), (6, Blk.mk BK.own 24 (Cells.vals [A0.lit IntKind.u64 0, A0.lit IntKind.u64 0, A0.lit IntKind.u64 0, A0.lit IntKind.u64 0]) none)]) (Exit.exit 0) (mkT 40 [(4, AV.one (A0.ptr true 4 0)), (6, AV.one (A0.ptr true 6 0))], [(4, Blk.mk BK.own 24 (Cells.vals [A0.lit IntKind.u64 0, A0.lit IntKind.u64 0, A0.lit IntKind.u64 0, A0.lit IntKind.u64 0]) none), (6, Blk.mk BK.own 24 (Cells.vals [A0.int IntKind.u64 o0, A0.int IntKind.u64 o1, A0.int IntKind.u64 o2, A0.int IntKind.u64 o3]) none)])]) :
    FnOk Try.prog 82 ([w4 a0 a1 a2 a3, w4 b0 b1 b2 b3]) ([]) (AV.t (w4 o0 o1 o2 o3)) ([]) :=
  fn_run tOk mixed nw3_82 ([]) ([.seg [2, 3, 4, 5, 6, 7] [2, 3, 4, 6] (.exit 0) (mkT 40 [(4, .one (.ptr true 4 0)), (6, .one (.ptr true 6 0))]) [(4, { kind := .own, e := 24, c := .vals [.lit .u64 0, .lit .u64 0, .lit .u64 0, .lit .u64 0] }), (6, { kind := .own, e := 24, c := .vals [.int .u64 o0, .int .u64 o1, .int .u64 o2, .int .u64 o3] })]]) (by kernel_rfl) hc

theorem r83_4 (a0 a1 a2 a3 b0 b1 b2 b3 o0 o1 o2 o3 c : Int) :
    Runs Try.prog (codeAt Try.f83 [1, 1, 1, 0, 1, 0, 0]) (mkT Try.f83.ntmps ([(2, .one (.ptr true 2 0)), (3, .one (.ptr true 3 0)), (4, .one (.ptr true 4 0)), (6, .one (.lit .u64 c)), (7, .one (.ptr true 7 0)), (8, .one (.lit .i64 (4)))]), [(2, { kind := .own, e := 24, c := .vals [.int .u64 a0, .int .u64 a1, .int .u64 a2, .int .u64 a3] }), (3, { kind := .own, e := 24, c := .vals [.int .u64 b0, .int .u64 b1, .int .u64 b2, .int .u64 b3] }), (4, { kind := .own, e := 24, c := .vals [.lit .u64 0, .lit .u64 0, .lit .u64 0, .lit .u64 0] }), (7, { kind := .own, e := 24, c := .vals [.int .u64 o0, .int .u64 o1, .int .u64 o2, .int .u64 o3] })]) (Exit.exit 0) (mkT 43 [(4, AV.t (AT.one (A0.ptr true 4 0))), (6, AV.t (AT.one (A0.lit IntKind.u64 c))), (7, AV.t (AT.one (A0.ptr true 7 0)))], [(4, Blk.mk BK.own 24 (Cells.vals [A0.lit IntKind.u64 0, A0.lit IntKind.u64 0, A0.lit IntKind.u64 0, A0.lit IntKind.u64 0]) none), (7, Blk.mk BK.own 24 (Cells.vals [A0.int IntKind.u64 o0, A0.int IntKind.u64 o1, A0.int IntKind.u64 o2, A0.int IntKind.u64 o3]) none)]) :=
  sel_run tOk mixed [4, 6, 7] [4, 7] ([]) (by kernel_rfl) (ps := []) trivial

theorem r82_4 (a0 a1 a2 a3 b0 b1 b2 b3 o0 o1 o2 o3 c : Int) :
    Runs Try.prog (codeAt Try.f82 [1, 1, 1, 0, 1, 0, 0]) (mkT Try.f82.ntmps ([(2, .one (.ptr true 2 0)), (3, .one (.ptr true 3 0)), (4, .one (.ptr true 4 0)), (5, .one (.lit .u64 c)), (6, .one (.ptr true 6 0)), (7, .one (.lit .i64 (4)))]), [(2, { kind := .own, e := 24, c := .vals [.int .u64 a0, .int .u64 a1, .int .u64 a2, .int .u64 a3] }), (3, { kind := .own, e := 24, c := .vals [.int .u64 b0, .int .u64 b1, .int .u64 b2, .int .u64 b3] }), (4, { kind := .own, e := 24, c := .vals [.lit .u64 0, .lit .u64 0, .lit .u64 0, .lit .u64 0] }), (6, { kind := .own, e := 24, c := .vals [.int .u64 o0, .int .u64 o1, .int .u64 o2, .int .u64 o3] })]) (Exit.exit 0) (mkT 40 [(4, AV.t (AT.one (A0.ptr true 4 0))), (6, AV.t (AT.one (A0.ptr true 6 0)))], [(4, Blk.mk BK.own 24 (Cells.vals [A0.lit IntKind.u64 0, A0.lit IntKind.u64 0, A0.lit IntKind.u64 0, A0.lit IntKind.u64 0]) none), (6, Blk.mk BK.own 24 (Cells.vals [A0.int IntKind.u64 o0, A0.int IntKind.u64 o1, A0.int IntKind.u64 o2, A0.int IntKind.u64 o3]) none)]) :=
  sel_run tOk mixed [4, 6] [4, 6] ([]) (by kernel_rfl) (ps := []) trivial

end Go.Proofs.Ytnndhmnabbkamaa
