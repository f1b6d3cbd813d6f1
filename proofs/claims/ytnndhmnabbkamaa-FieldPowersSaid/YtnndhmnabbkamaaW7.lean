/-
  Ways through the program, by the evaluator: what each comes to, under the conditions that it lists (printed by gen.py).
  Conditions: those that each theorem names.
-/
import Derived.Test.YtnndhmnabbkamaaTab
import Derived.Test.YtnndhmnabbkamaaNum
import Derived.Test.YtnndhmnabbkamaaEv15
namespace Go.Proofs.Ytnndhmnabbkamaa
open Go Go.Ev Go.Proofs
set_option maxRecDepth 100000

theorem nw7_4 : Named Try.prog 4 Try.f4 := ⟨Try.func4, by kernel_rfl, by kernel_rfl⟩
theorem p4_no (which a b : Int) (hc : Conj [
    CallOk Try.prog 17 [] [] (AV.t (AT.one (A0.blit true))) [] [],
    CallOk Try.prog 18 [AT.one (A0.int IntKind.i64 which)] [] (AV.tup [AT.agg (Cells.vals [A0.lit IntKind.u64 0, A0.lit IntKind.u64 0, A0.lit IntKind.u64 0, A0.lit IntKind.u64 0]), AT.one (A0.blit false)]) [] [],
    CallOk Try.prog 26 [AT.one (A0.int IntKind.i64 which), nv a, nv b] [] (AV.tup [AT.agg (Cells.vals [A0.lit IntKind.u64 0, A0.lit IntKind.u64 0, A0.lit IntKind.u64 0, A0.lit IntKind.u64 0]), AT.one (A0.lit IntKind.i64 51)]) [] [],
    CallOk Try.prog 27 [AT.one (A0.int IntKind.i64 which), nv a, nv b] [] (AV.tup [AT.agg (Cells.vals [A0.lit IntKind.u64 0, A0.lit IntKind.u64 0, A0.lit IntKind.u64 0, A0.lit IntKind.u64 0]), AT.one (A0.lit IntKind.i64 51)]) [] [],
    CallOk Try.prog 28 [AT.one (A0.int IntKind.i64 which), nv a, nv b] [] (AV.tup [AT.agg (Cells.vals [A0.lit IntKind.u64 0, A0.lit IntKind.u64 0, A0.lit IntKind.u64 0, A0.lit IntKind.u64 0]), AT.one (A0.lit IntKind.i64 51)]) [] [],
    CallOk Try.prog 24 [nv a, AT.agg (Cells.vals [A0.lit IntKind.u64 0, A0.lit IntKind.u64 0, A0.lit IntKind.u64 0, A0.lit IntKind.u64 0])] [] (AV.t (AT.one (A0.blit false))) [] [],
    CallOk Try.prog 24 [nv b, AT.agg (Cells.vals [A0.lit IntKind.u64 0, A0.lit IntKind.u64 0, A0.lit IntKind.u64 0, A0.lit IntKind.u64 0])] [] (AV.t (AT.one (A0.blit false))) [] [],
    true = true]) :
    FnOk Try.prog 4 ([.one (.int .i64 (which)), nv a, nv b]) ([]) (AV.t (AT.one (A0.bool true))) ([]) :=
  fn_run tOk mixed nw7_4 ([]) ([.call (.one (.blit true)) [] [] [], .call (.tup [.agg (.vals [.lit .u64 0, .lit .u64 0, .lit .u64 0, .lit .u64 0]), .one (.blit false)]) [] [] [], .call (.tup [.agg (.vals [.lit .u64 0, .lit .u64 0, .lit .u64 0, .lit .u64 0]), .one (.lit .i64 (51))]) [] [] [], .call (.tup [.agg (.vals [.lit .u64 0, .lit .u64 0, .lit .u64 0, .lit .u64 0]), .one (.lit .i64 (51))]) [] [] [], .call (.tup [.agg (.vals [.lit .u64 0, .lit .u64 0, .lit .u64 0, .lit .u64 0]), .one (.lit .i64 (51))]) [] [] [], .call (.one (.blit false)) [] [] [], .call (.one (.blit false)) [] [] [], .yes, .yes, .yes, .yes, .yes, .yes, .yes, .yes]) (by kernel_rfl) (Conj.pick hc [0, 1, 2, 3, 4, 5, 6, 7, 7, 7, 7, 7, 7, 7, 7])

theorem p4_far1 (which a b m : Int) (s : Bool) (hc : Conj [
    CallOk Try.prog 17 [] [] (AV.t (AT.one (A0.blit true))) [] [],
    CallOk Try.prog 18 [AT.one (A0.int IntKind.i64 which)] [] (AV.tup [nv m, AT.one (A0.blit true)]) [] [],
    CallOk Try.prog 26 [AT.one (A0.int IntKind.i64 which), nv a, nv b] [] (AV.tup [AT.agg (Cells.vals [A0.lit IntKind.u64 0, A0.lit IntKind.u64 0, A0.lit IntKind.u64 0, A0.lit IntKind.u64 0]), AT.one (A0.lit IntKind.i64 52)]) [] [],
    CallOk Try.prog 27 [AT.one (A0.int IntKind.i64 which), nv a, nv b] [] (AV.tup [AT.agg (Cells.vals [A0.lit IntKind.u64 0, A0.lit IntKind.u64 0, A0.lit IntKind.u64 0, A0.lit IntKind.u64 0]), AT.one (A0.lit IntKind.i64 52)]) [] [],
    CallOk Try.prog 28 [AT.one (A0.int IntKind.i64 which), nv a, nv b] [] (AV.tup [AT.agg (Cells.vals [A0.lit IntKind.u64 0, A0.lit IntKind.u64 0, A0.lit IntKind.u64 0, A0.lit IntKind.u64 0]), AT.one (A0.lit IntKind.i64 52)]) [] [],
    CallOk Try.prog 24 [nv a, nv m] [] (AV.t (AT.one (A0.blit false))) [] [],
    CallOk Try.prog 24 [nv b, nv m] [] (AV.t (AT.one (A0.bool s))) [] [],
    true = true]) :
    FnOk Try.prog 4 ([.one (.int .i64 (which)), nv a, nv b]) ([]) (AV.t (AT.one (A0.bool true))) ([]) :=
  fn_run tOk mixed nw7_4 ([]) ([.call (.one (.blit true)) [] [] [], .call (.tup [nv m, .one (.blit true)]) [] [] [], .call (.tup [.agg (.vals [.lit .u64 0, .lit .u64 0, .lit .u64 0, .lit .u64 0]), .one (.lit .i64 (52))]) [] [] [], .call (.tup [.agg (.vals [.lit .u64 0, .lit .u64 0, .lit .u64 0, .lit .u64 0]), .one (.lit .i64 (52))]) [] [] [], .call (.tup [.agg (.vals [.lit .u64 0, .lit .u64 0, .lit .u64 0, .lit .u64 0]), .one (.lit .i64 (52))]) [] [] [], .call (.one (.blit false)) [] [] [], .call (.one (.bool s)) [] [] [], .yes, .yes, .yes, .yes, .yes, .yes, .yes, .yes]) (by kernel_rfl) (Conj.pick hc [0, 1, 2, 3, 4, 5, 6, 7, 7, 7, 7, 7, 7, 7, 7])

theorem p4_far2 (which a b m : Int) (hc : Conj [
    CallOk Try.prog 17 [] [] (AV.t (AT.one (A0.blit true))) [] [],
    CallOk Try.prog 18 [AT.one (A0.int IntKind.i64 which)] [] (AV.tup [nv m, AT.one (A0.blit true)]) [] [],
    CallOk Try.prog 26 [AT.one (A0.int IntKind.i64 which), nv a, nv b] [] (AV.tup [AT.agg (Cells.vals [A0.lit IntKind.u64 0, A0.lit IntKind.u64 0, A0.lit IntKind.u64 0, A0.lit IntKind.u64 0]), AT.one (A0.lit IntKind.i64 52)]) [] [],
    CallOk Try.prog 27 [AT.one (A0.int IntKind.i64 which), nv a, nv b] [] (AV.tup [AT.agg (Cells.vals [A0.lit IntKind.u64 0, A0.lit IntKind.u64 0, A0.lit IntKind.u64 0, A0.lit IntKind.u64 0]), AT.one (A0.lit IntKind.i64 52)]) [] [],
    CallOk Try.prog 28 [AT.one (A0.int IntKind.i64 which), nv a, nv b] [] (AV.tup [AT.agg (Cells.vals [A0.lit IntKind.u64 0, A0.lit IntKind.u64 0, A0.lit IntKind.u64 0, A0.lit IntKind.u64 0]), AT.one (A0.lit IntKind.i64 52)]) [] [],
    CallOk Try.prog 24 [nv a, nv m] [] (AV.t (AT.one (A0.blit true))) [] [],
    CallOk Try.prog 24 [nv b, nv m] [] (AV.t (AT.one (A0.blit false))) [] [],
    true = true]) :
    FnOk Try.prog 4 ([.one (.int .i64 (which)), nv a, nv b]) ([]) (AV.t (AT.one (A0.bool true))) ([]) :=
  fn_run tOk mixed nw7_4 ([]) ([.call (.one (.blit true)) [] [] [], .call (.tup [nv m, .one (.blit true)]) [] [] [], .call (.tup [.agg (.vals [.lit .u64 0, .lit .u64 0, .lit .u64 0, .lit .u64 0]), .one (.lit .i64 (52))]) [] [] [], .call (.tup [.agg (.vals [.lit .u64 0, .lit .u64 0, .lit .u64 0, .lit .u64 0]), .one (.lit .i64 (52))]) [] [] [], .call (.tup [.agg (.vals [.lit .u64 0, .lit .u64 0, .lit .u64 0, .lit .u64 0]), .one (.lit .i64 (52))]) [] [] [], .call (.one (.blit true)) [] [] [], .call (.one (.blit false)) [] [] [], .yes, .yes, .yes, .yes, .yes, .yes, .yes, .yes]) (by kernel_rfl) (Conj.pick hc [0, 1, 2, 3, 4, 5, 6, 7, 7, 7, 7, 7, 7, 7, 7])

theorem p4_in (which a b m s d p q : Int) (hc : Conj [
    CallOk Try.prog 17 [] [] (AV.t (AT.one (A0.blit true))) [] [],
    CallOk Try.prog 18 [AT.one (A0.int IntKind.i64 which)] [] (AV.tup [nv m, AT.one (A0.blit true)]) [] [],
    CallOk Try.prog 26 [AT.one (A0.int IntKind.i64 which), nv a, nv b] [] (AV.tup [nv s, AT.one (A0.lit IntKind.i64 0)]) [] [],
    CallOk Try.prog 27 [AT.one (A0.int IntKind.i64 which), nv a, nv b] [] (AV.tup [nv d, AT.one (A0.lit IntKind.i64 0)]) [] [],
    CallOk Try.prog 28 [AT.one (A0.int IntKind.i64 which), nv a, nv b] [] (AV.tup [nv p, AT.one (A0.lit IntKind.i64 0)]) [] [],
    CallOk Try.prog 24 [nv a, nv m] [] (AV.t (AT.one (A0.blit true))) [] [],
    CallOk Try.prog 24 [nv b, nv m] [] (AV.t (AT.one (A0.blit true))) [] [],
    CallOk Try.prog 24 [nv p, nv m] [] (AV.t (AT.one (A0.blit true))) [] [],
    CallOk Try.prog 22 [nv p, nv m] [] (AV.t (nv q)) [] [],
    CallOk Try.prog 29 [nv a, nv b, nv m] [] (AV.t (nv q)) [] [],
    CallOk Try.prog 30 [nv a, nv b, nv m] [] (AV.t (nv s)) [] [],
    decide ([l0 s, l1 s, l2 s, l3 s] = [l0 s, l1 s, l2 s, l3 s]) = true,
    CallOk Try.prog 31 [nv a, nv b, nv m] [] (AV.t (nv d)) [] [],
    decide ([l0 d, l1 d, l2 d, l3 d] = [l0 d, l1 d, l2 d, l3 d]) = true]) :
    FnOk Try.prog 4 ([.one (.int .i64 (which)), nv a, nv b]) ([]) (AV.t (AT.one (A0.bool (decide ([l0 q, l1 q, l2 q, l3 q] = [l0 q, l1 q, l2 q, l3 q]))))) ([]) :=
  fn_run tOk mixed nw7_4 ([]) ([.call (.one (.blit true)) [] [] [], .call (.tup [nv m, .one (.blit true)]) [] [] [], .call (.tup [nv s, .one (.lit .i64 (0))]) [] [] [], .call (.tup [nv d, .one (.lit .i64 (0))]) [] [] [], .call (.tup [nv p, .one (.lit .i64 (0))]) [] [] [], .call (.one (.blit true)) [] [] [], .call (.one (.blit true)) [] [] [], .call (.one (.blit true)) [] [] [], .call (.t (nv q)) [] [] [], .call (.t (nv q)) [] [] [], .call (.t (nv s)) [] [] [], .yes, .yes, .yes, .yes, .yes, .call (.t (nv d)) [] [] [], .yes, .yes, .yes, .yes]) (by kernel_rfl) (Conj.pick hc [0, 1, 2, 3, 4, 5, 6, 7, 8, 9, 10, 11, 11, 11, 11, 11, 12, 11, 11, 13, 13])

end Go.Proofs.Ytnndhmnabbkamaa
