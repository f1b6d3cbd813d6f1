/-
  Ways through the program, by the evaluator: what each comes to, under the conditions that it lists (printed by gen.py).
  Conditions: those that each theorem names.
-/
import Derived.Test.YtnndhmnabbkamaaTab
import Derived.Test.YtnndhmnabbkamaaNum
import Derived.Test.YtnndhmnabbkamaaEv15
namespace Go.Proofs.Ytnndhmnabbkamaa
open Go Go.Ev Go.Proofs
set_option maxRecDepth 100000

theorem nw5_21 : Named Try.prog 21 Try.f21 := ⟨Try.func21, by kernel_rfl, by kernel_rfl⟩
theorem p21_no (which a m v s e : Int) (hc : Conj [
    CallOk Try.prog 81 [AT.one (A0.int IntKind.i64 which), AT.one (A0.sl true 11 0 1 1)] [(11, Blk.mk BK.own 24 (Cells.vals [A0.int IntKind.u64 (l0 a), A0.int IntKind.u64 (l1 a), A0.int IntKind.u64 (l2 a), A0.int IntKind.u64 (l3 a)]) none)] (AV.tup [AT.agg (pcell m v s), AT.one (A0.int IntKind.i64 e)]) [] [],
    (e != 0) = true]) :
    FnOk Try.prog 21 ([.one (.int .i64 (which)), nv a]) ([]) (AV.tup [AT.agg (Cells.vals [A0.lit IntKind.u64 0, A0.lit IntKind.u64 0, A0.lit IntKind.u64 0, A0.lit IntKind.u64 0]), AT.one (A0.int IntKind.i64 e)]) ([]) :=
  fn_run tOk mixed nw5_21 ([]) ([.call (.tup [.agg (pcell m v s), .one (.int .i64 (e))]) [11] [] [], .yes]) (by kernel_rfl) hc

theorem nw5_26 : Named Try.prog 26 Try.f26 := ⟨Try.func26, by kernel_rfl, by kernel_rfl⟩
theorem p26_no (which a b m v s e : Int) (hc : Conj [
    CallOk Try.prog 81 [AT.one (A0.int IntKind.i64 which), AT.one (A0.sl true 16 0 2 2)] [(16, Blk.mk BK.own 24 (Cells.vals [A0.int IntKind.u64 (l0 a), A0.int IntKind.u64 (l1 a), A0.int IntKind.u64 (l2 a), A0.int IntKind.u64 (l3 a), A0.int IntKind.u64 (l0 b), A0.int IntKind.u64 (l1 b), A0.int IntKind.u64 (l2 b), A0.int IntKind.u64 (l3 b)]) none)] (AV.tup [AT.agg (pcell m v s), AT.one (A0.int IntKind.i64 e)]) [] [],
    (e != 0) = true]) :
    FnOk Try.prog 26 ([.one (.int .i64 (which)), nv a, nv b]) ([]) (AV.tup [AT.agg (Cells.vals [A0.lit IntKind.u64 0, A0.lit IntKind.u64 0, A0.lit IntKind.u64 0, A0.lit IntKind.u64 0]), AT.one (A0.int IntKind.i64 e)]) ([]) :=
  fn_run tOk mixed nw5_26 ([]) ([.call (.tup [.agg (pcell m v s), .one (.int .i64 (e))]) [16] [] [], .yes]) (by kernel_rfl) hc

theorem nw5_27 : Named Try.prog 27 Try.f27 := ⟨Try.func27, by kernel_rfl, by kernel_rfl⟩
theorem p27_no (which a b m v s e : Int) (hc : Conj [
    CallOk Try.prog 81 [AT.one (A0.int IntKind.i64 which), AT.one (A0.sl true 16 0 2 2)] [(16, Blk.mk BK.own 24 (Cells.vals [A0.int IntKind.u64 (l0 a), A0.int IntKind.u64 (l1 a), A0.int IntKind.u64 (l2 a), A0.int IntKind.u64 (l3 a), A0.int IntKind.u64 (l0 b), A0.int IntKind.u64 (l1 b), A0.int IntKind.u64 (l2 b), A0.int IntKind.u64 (l3 b)]) none)] (AV.tup [AT.agg (pcell m v s), AT.one (A0.int IntKind.i64 e)]) [] [],
    (e != 0) = true]) :
    FnOk Try.prog 27 ([.one (.int .i64 (which)), nv a, nv b]) ([]) (AV.tup [AT.agg (Cells.vals [A0.lit IntKind.u64 0, A0.lit IntKind.u64 0, A0.lit IntKind.u64 0, A0.lit IntKind.u64 0]), AT.one (A0.int IntKind.i64 e)]) ([]) :=
  fn_run tOk mixed nw5_27 ([]) ([.call (.tup [.agg (pcell m v s), .one (.int .i64 (e))]) [16] [] [], .yes]) (by kernel_rfl) hc

theorem nw5_28 : Named Try.prog 28 Try.f28 := ⟨Try.func28, by kernel_rfl, by kernel_rfl⟩
theorem p28_no (which a b m v s e : Int) (hc : Conj [
    CallOk Try.prog 81 [AT.one (A0.int IntKind.i64 which), AT.one (A0.sl true 14 0 2 2)] [(14, Blk.mk BK.own 24 (Cells.vals [A0.int IntKind.u64 (l0 a), A0.int IntKind.u64 (l1 a), A0.int IntKind.u64 (l2 a), A0.int IntKind.u64 (l3 a), A0.int IntKind.u64 (l0 b), A0.int IntKind.u64 (l1 b), A0.int IntKind.u64 (l2 b), A0.int IntKind.u64 (l3 b)]) none)] (AV.tup [AT.agg (pcell m v s), AT.one (A0.int IntKind.i64 e)]) [] [],
    (e != 0) = true]) :
    FnOk Try.prog 28 ([.one (.int .i64 (which)), nv a, nv b]) ([]) (AV.tup [AT.agg (Cells.vals [A0.lit IntKind.u64 0, A0.lit IntKind.u64 0, A0.lit IntKind.u64 0, A0.lit IntKind.u64 0]), AT.one (A0.int IntKind.i64 e)]) ([]) :=
  fn_run tOk mixed nw5_28 ([]) ([.call (.tup [.agg (pcell m v s), .one (.int .i64 (e))]) [14] [] [], .yes]) (by kernel_rfl) hc

theorem p27_l (which a b m v s d c r o : Int) (hc : Conj [
    CallOk Try.prog 81 [AT.one (A0.int IntKind.i64 which), AT.one (A0.sl true 16 0 2 2)] [(16, Blk.mk BK.own 24 (Cells.vals [A0.int IntKind.u64 (l0 a), A0.int IntKind.u64 (l1 a), A0.int IntKind.u64 (l2 a), A0.int IntKind.u64 (l3 a), A0.int IntKind.u64 (l0 b), A0.int IntKind.u64 (l1 b), A0.int IntKind.u64 (l2 b), A0.int IntKind.u64 (l3 b)]) none)] (AV.tup [AT.agg (pcell m v s), AT.one (A0.lit IntKind.i64 0)]) [] [],
    CallOk Try.prog 85 [nv a, nv b] [] (AV.tup [nv d, AT.one (A0.int IntKind.i64 c)]) [] [],
    (c != 0) = true,
    CallOk Try.prog 84 [nv d, nv m] [] (AV.tup [nv r, AT.one (A0.int IntKind.i64 o)]) [] []]) :
    FnOk Try.prog 27 ([.one (.int .i64 (which)), nv a, nv b]) ([]) (AV.tup [nv r, AT.one (A0.lit IntKind.i64 0)]) ([]) :=
  fn_run tOk mixed nw5_27 ([]) ([.call (.tup [.agg (pcell m v s), .one (.lit .i64 (0))]) [16] [] [], .call (.tup [nv d, .one (.int .i64 (c))]) [] [] [], .yes, .call (.tup [nv r, .one (.int .i64 (o))]) [] [] []]) (by kernel_rfl) hc

theorem p27_g (which a b m v s d c : Int) (hc : Conj [
    CallOk Try.prog 81 [AT.one (A0.int IntKind.i64 which), AT.one (A0.sl true 16 0 2 2)] [(16, Blk.mk BK.own 24 (Cells.vals [A0.int IntKind.u64 (l0 a), A0.int IntKind.u64 (l1 a), A0.int IntKind.u64 (l2 a), A0.int IntKind.u64 (l3 a), A0.int IntKind.u64 (l0 b), A0.int IntKind.u64 (l1 b), A0.int IntKind.u64 (l2 b), A0.int IntKind.u64 (l3 b)]) none)] (AV.tup [AT.agg (pcell m v s), AT.one (A0.lit IntKind.i64 0)]) [] [],
    CallOk Try.prog 85 [nv a, nv b] [] (AV.tup [nv d, AT.one (A0.int IntKind.i64 c)]) [] [],
    (c != 0) = false]) :
    FnOk Try.prog 27 ([.one (.int .i64 (which)), nv a, nv b]) ([]) (AV.tup [nv d, AT.one (A0.lit IntKind.i64 0)]) ([]) :=
  fn_run tOk mixed nw5_27 ([]) ([.call (.tup [.agg (pcell m v s), .one (.lit .i64 (0))]) [16] [] [], .call (.tup [nv d, .one (.int .i64 (c))]) [] [] [], .no]) (by kernel_rfl) hc

theorem p28_ok (which a b m v s r : Int) (hc : Conj [
    CallOk Try.prog 81 [AT.one (A0.int IntKind.i64 which), AT.one (A0.sl true 14 0 2 2)] [(14, Blk.mk BK.own 24 (Cells.vals [A0.int IntKind.u64 (l0 a), A0.int IntKind.u64 (l1 a), A0.int IntKind.u64 (l2 a), A0.int IntKind.u64 (l3 a), A0.int IntKind.u64 (l0 b), A0.int IntKind.u64 (l1 b), A0.int IntKind.u64 (l2 b), A0.int IntKind.u64 (l3 b)]) none)] (AV.tup [AT.agg (pcell m v s), AT.one (A0.lit IntKind.i64 0)]) [] [],
    CallOk Try.prog 79 [AT.one (A0.ptr true 8 0), nv a, nv b] [(8, Blk.mk BK.own 90 (pcell m v s) none)] (AV.t (nv r)) [] []]) :
    FnOk Try.prog 28 ([.one (.int .i64 (which)), nv a, nv b]) ([]) (AV.tup [nv r, AT.one (A0.lit IntKind.i64 0)]) ([]) :=
  fn_run tOk mixed nw5_28 ([]) ([.call (.tup [.agg (pcell m v s), .one (.lit .i64 (0))]) [14] [] [], .call (.t (nv r)) [8] [] []]) (by kernel_rfl) hc

theorem nw5_17 : Named Try.prog 17 Try.f17 := ⟨Try.func17, by kernel_rfl, by kernel_rfl⟩
theorem p17  (hc : Conj [
    CallOk Try.prog 20 [AT.one (A0.lit IntKind.i64 1), AT.agg (Cells.vals [A0.lit IntKind.u64 1, A0.lit IntKind.u64 0, A0.lit IntKind.u64 0, A0.lit IntKind.u64 0])] [] (AV.tup [AT.agg (Cells.vals [A0.lit IntKind.u64 1, A0.lit IntKind.u64 18446744069414584320, A0.lit IntKind.u64 18446744073709551615, A0.lit IntKind.u64 4294967294]), AT.one (A0.lit IntKind.i64 0)]) [] [],
    CallOk Try.prog 21 [AT.one (A0.lit IntKind.i64 1), AT.agg (Cells.vals [A0.lit IntKind.u64 1, A0.lit IntKind.u64 18446744069414584320, A0.lit IntKind.u64 18446744073709551615, A0.lit IntKind.u64 4294967294])] [] (AV.tup [AT.agg (Cells.vals [A0.lit IntKind.u64 1, A0.lit IntKind.u64 0, A0.lit IntKind.u64 0, A0.lit IntKind.u64 0]), AT.one (A0.lit IntKind.i64 0)]) [] []]) :
    FnOk Try.prog 17 ([]) ([]) (AV.t (AT.one (A0.bool true))) ([]) :=
  fn_run tOk mixed nw5_17 ([]) ([.call (.tup [.agg (.vals [.lit .u64 1, .lit .u64 18446744069414584320, .lit .u64 18446744073709551615, .lit .u64 4294967294]), .one (.lit .i64 (0))]) [] [] [], .call (.tup [.agg (.vals [.lit .u64 1, .lit .u64 0, .lit .u64 0, .lit .u64 0]), .one (.lit .i64 (0))]) [] [] []]) (by kernel_rfl) hc

theorem nw5_3 : Named Try.prog 3 Try.f3 := ⟨Try.func3, by kernel_rfl, by kernel_rfl⟩
theorem p3_no (which x : Int) (hc : Conj [
    CallOk Try.prog 17 [] [] (AV.t (AT.one (A0.blit true))) [] [],
    CallOk Try.prog 18 [AT.one (A0.int IntKind.i64 which)] [] (AV.tup [AT.agg (Cells.vals [A0.lit IntKind.u64 0, A0.lit IntKind.u64 0, A0.lit IntKind.u64 0, A0.lit IntKind.u64 0]), AT.one (A0.blit false)]) [] [],
    CallOk Try.prog 19 [AT.one (A0.int IntKind.i64 which)] [] (AV.tup [AT.agg (Cells.vals [A0.lit IntKind.u64 0, A0.lit IntKind.u64 0, A0.lit IntKind.u64 0, A0.lit IntKind.u64 0]), AT.one (A0.lit IntKind.i64 51)]) [] [],
    CallOk Try.prog 20 [AT.one (A0.int IntKind.i64 which), nv x] [] (AV.tup [AT.agg (Cells.vals [A0.lit IntKind.u64 0, A0.lit IntKind.u64 0, A0.lit IntKind.u64 0, A0.lit IntKind.u64 0]), AT.one (A0.lit IntKind.i64 51)]) [] [],
    CallOk Try.prog 21 [AT.one (A0.int IntKind.i64 which), nv x] [] (AV.tup [AT.agg (Cells.vals [A0.lit IntKind.u64 0, A0.lit IntKind.u64 0, A0.lit IntKind.u64 0, A0.lit IntKind.u64 0]), AT.one (A0.lit IntKind.i64 51)]) [] [],
    true = true]) :
    FnOk Try.prog 3 ([.one (.int .i64 (which)), nv x]) ([]) (AV.t (AT.one (A0.blit true))) ([]) :=
  fn_run tOk mixed nw5_3 ([]) ([.call (.one (.blit true)) [] [] [], .call (.tup [.agg (.vals [.lit .u64 0, .lit .u64 0, .lit .u64 0, .lit .u64 0]), .one (.blit false)]) [] [] [], .call (.tup [.agg (.vals [.lit .u64 0, .lit .u64 0, .lit .u64 0, .lit .u64 0]), .one (.lit .i64 (51))]) [] [] [], .call (.tup [.agg (.vals [.lit .u64 0, .lit .u64 0, .lit .u64 0, .lit .u64 0]), .one (.lit .i64 (51))]) [] [] [], .call (.tup [.agg (.vals [.lit .u64 0, .lit .u64 0, .lit .u64 0, .lit .u64 0]), .one (.lit .i64 (51))]) [] [] [], .yes, .yes, .yes, .yes, .yes, .yes, .yes, .yes, .yes, .yes, .yes]) (by kernel_rfl) (Conj.pick hc [0, 1, 2, 3, 4, 5, 5, 5, 5, 5, 5, 5, 5, 5, 5, 5])

theorem p3_far (which x m b r : Int) (hc : Conj [
    CallOk Try.prog 17 [] [] (AV.t (AT.one (A0.blit true))) [] [],
    CallOk Try.prog 18 [AT.one (A0.int IntKind.i64 which)] [] (AV.tup [nv m, AT.one (A0.blit true)]) [] [],
    CallOk Try.prog 19 [AT.one (A0.int IntKind.i64 which)] [] (AV.tup [nv m, AT.one (A0.lit IntKind.i64 0)]) [] [],
    CallOk Try.prog 20 [AT.one (A0.int IntKind.i64 which), nv x] [] (AV.tup [nv b, AT.one (A0.lit IntKind.i64 0)]) [] [],
    CallOk Try.prog 21 [AT.one (A0.int IntKind.i64 which), nv x] [] (AV.tup [AT.agg (Cells.vals [A0.lit IntKind.u64 0, A0.lit IntKind.u64 0, A0.lit IntKind.u64 0, A0.lit IntKind.u64 0]), AT.one (A0.lit IntKind.i64 52)]) [] [],
    (!decide ([l0 m, l1 m, l2 m, l3 m] = [l0 m, l1 m, l2 m, l3 m])) = false,
    CallOk Try.prog 23 [nv x, AT.one (A0.blit false), nv m] [] (AV.t (nv r)) [] [],
    CallOk Try.prog 22 [nv r, nv m] [] (AV.t (nv b)) [] [],
    (!decide ([l0 b, l1 b, l2 b, l3 b] = [l0 b, l1 b, l2 b, l3 b])) = false,
    CallOk Try.prog 24 [nv x, nv m] [] (AV.t (AT.one (A0.blit false))) [] []]) :
    FnOk Try.prog 3 ([.one (.int .i64 (which)), nv x]) ([]) (AV.t (AT.one (A0.bool true))) ([]) :=
  fn_run tOk mixed nw5_3 ([]) ([.call (.one (.blit true)) [] [] [], .call (.tup [nv m, .one (.blit true)]) [] [] [], .call (.tup [nv m, .one (.lit .i64 (0))]) [] [] [], .call (.tup [nv b, .one (.lit .i64 (0))]) [] [] [], .call (.tup [.agg (.vals [.lit .u64 0, .lit .u64 0, .lit .u64 0, .lit .u64 0]), .one (.lit .i64 (52))]) [] [] [], .no, .no, .no, .call (.t (nv r)) [] [] [], .call (.t (nv b)) [] [] [], .no, .call (.one (.blit false)) [] [] []]) (by kernel_rfl) (Conj.pick hc [0, 1, 2, 3, 4, 5, 5, 5, 6, 7, 8, 9])

theorem p3_in (which x m b r c : Int) (hc : Conj [
    CallOk Try.prog 17 [] [] (AV.t (AT.one (A0.blit true))) [] [],
    CallOk Try.prog 18 [AT.one (A0.int IntKind.i64 which)] [] (AV.tup [nv m, AT.one (A0.blit true)]) [] [],
    CallOk Try.prog 19 [AT.one (A0.int IntKind.i64 which)] [] (AV.tup [nv m, AT.one (A0.lit IntKind.i64 0)]) [] [],
    CallOk Try.prog 20 [AT.one (A0.int IntKind.i64 which), nv x] [] (AV.tup [nv b, AT.one (A0.lit IntKind.i64 0)]) [] [],
    CallOk Try.prog 21 [AT.one (A0.int IntKind.i64 which), nv x] [] (AV.tup [nv c, AT.one (A0.lit IntKind.i64 0)]) [] [],
    (!decide ([l0 m, l1 m, l2 m, l3 m] = [l0 m, l1 m, l2 m, l3 m])) = false,
    CallOk Try.prog 23 [nv x, AT.one (A0.blit false), nv m] [] (AV.t (nv r)) [] [],
    CallOk Try.prog 22 [nv r, nv m] [] (AV.t (nv b)) [] [],
    (!decide ([l0 b, l1 b, l2 b, l3 b] = [l0 b, l1 b, l2 b, l3 b])) = false,
    CallOk Try.prog 24 [nv x, nv m] [] (AV.t (AT.one (A0.blit true))) [] [],
    CallOk Try.prog 21 [AT.one (A0.int IntKind.i64 which), nv b] [] (AV.tup [nv x, AT.one (A0.lit IntKind.i64 0)]) [] [],
    CallOk Try.prog 25 [nv x, nv m] [] (AV.t (nv c)) [] [],
    decide ([l0 c, l1 c, l2 c, l3 c] = [l0 c, l1 c, l2 c, l3 c]) = true]) :
    FnOk Try.prog 3 ([.one (.int .i64 (which)), nv x]) ([]) (AV.t (AT.one (A0.bool (decide ([l0 x, l1 x, l2 x, l3 x] = [l0 x, l1 x, l2 x, l3 x]))))) ([]) :=
  fn_run tOk mixed nw5_3 ([]) ([.call (.one (.blit true)) [] [] [], .call (.tup [nv m, .one (.blit true)]) [] [] [], .call (.tup [nv m, .one (.lit .i64 (0))]) [] [] [], .call (.tup [nv b, .one (.lit .i64 (0))]) [] [] [], .call (.tup [nv c, .one (.lit .i64 (0))]) [] [] [], .no, .no, .no, .call (.t (nv r)) [] [] [], .call (.t (nv b)) [] [] [], .no, .call (.one (.blit true)) [] [] [], .call (.tup [nv x, .one (.lit .i64 (0))]) [] [] [], .call (.t (nv c)) [] [] [], .yes, .yes, .yes]) (by kernel_rfl) (Conj.pick hc [0, 1, 2, 3, 4, 5, 5, 5, 6, 7, 8, 9, 10, 11, 12, 12, 12])

end Go.Proofs.Ytnndhmnabbkamaa
