/-
  Ways through the program, by the evaluator: what each comes to, under the conditions that it lists (printed by gen.py).
  Conditions: those that each theorem names.
-/
import Derived.Test.YtnndhmnabbkamaaTab
import Derived.Test.YtnndhmnabbkamaaNum
import Derived.Test.YtnndhmnabbkamaaEv15
namespace Go.Proofs.Ytnndhmnabbkamaa
open Go Go.Ev Go.Proofs
set_option maxRecDepth 100000

theorem nw4_23 : Named Try.prog 23 Try.f23 := ⟨Try.func23, by kernel_rfl, by kernel_rfl⟩
theorem p23_s (x m : Int) (b s : Bool) (hc : Conj [
    CallOk Try.prog 24 [nv x, nv m] [] (AV.t (AT.one (A0.bool s))) [] [],
    (!b) = true,
    s = true]) :
    FnOk Try.prog 23 ([nv x, .one (.bool b), nv m]) ([]) (AV.t (nv x)) ([]) :=
  fn_run tOk mixed nw4_23 ([]) ([.call (.one (.bool s)) [] [] [], .yes, .yes, .yes]) (by kernel_rfl) (Conj.pick hc [0, 1, 1, 2])

theorem p23_g (x m r : Int) (b s : Bool) (hc : Conj [
    CallOk Try.prog 24 [nv x, nv m] [] (AV.t (AT.one (A0.bool s))) [] [],
    (!b) = true,
    s = false,
    CallOk Try.prog 82 [nv x, nv m] [] (AV.t (nv r)) [] []]) :
    FnOk Try.prog 23 ([nv x, .one (.bool b), nv m]) ([]) (AV.t (nv r)) ([]) :=
  fn_run tOk mixed nw4_23 ([]) ([.call (.one (.bool s)) [] [] [], .yes, .yes, .no, .call (.t (nv r)) [] [] []]) (by kernel_rfl) (Conj.pick hc [0, 1, 1, 2, 3])

theorem p23_o (x m r : Int) (b s : Bool) (hc : Conj [
    CallOk Try.prog 24 [nv x, nv m] [] (AV.t (AT.one (A0.bool s))) [] [],
    (!b) = false,
    CallOk Try.prog 82 [nv x, nv m] [] (AV.t (nv r)) [] []]) :
    FnOk Try.prog 23 ([nv x, .one (.bool b), nv m]) ([]) (AV.t (nv r)) ([]) :=
  fn_run tOk mixed nw4_23 ([]) ([.call (.one (.bool s)) [] [] [], .no, .no, .call (.t (nv r)) [] [] []]) (by kernel_rfl) (Conj.pick hc [0, 1, 1, 2])

theorem nw4_30 : Named Try.prog 30 Try.f30 := ⟨Try.func30, by kernel_rfl, by kernel_rfl⟩
theorem p30 (a b m q r : Int) (o : Bool) (hc : Conj [
    CallOk Try.prog 83 [nv a, nv b] [] (AV.tup [nv q, AT.one (A0.bool o)]) [] [],
    CallOk Try.prog 23 [nv q, AT.one (A0.bool o), nv m] [] (AV.t (nv r)) [] []]) :
    FnOk Try.prog 30 ([nv a, nv b, nv m]) ([]) (AV.t (nv r)) ([]) :=
  fn_run tOk mixed nw4_30 ([]) ([.call (.tup [nv q, .one (.bool o)]) [] [] [], .call (.t (nv r)) [] [] []]) (by kernel_rfl) hc

theorem nw4_31 : Named Try.prog 31 Try.f31 := ⟨Try.func31, by kernel_rfl, by kernel_rfl⟩
theorem p31_l (a b m d r : Int) (o s : Bool) (hc : Conj [
    CallOk Try.prog 24 [nv a, nv b] [] (AV.t (AT.one (A0.bool s))) [] [],
    CallOk Try.prog 82 [nv a, nv b] [] (AV.t (nv d)) [] [],
    s = true,
    CallOk Try.prog 83 [nv d, nv m] [] (AV.tup [nv r, AT.one (A0.bool o)]) [] []]) :
    FnOk Try.prog 31 ([nv a, nv b, nv m]) ([]) (AV.t (nv r)) ([]) :=
  fn_run tOk mixed nw4_31 ([]) ([.call (.one (.bool s)) [] [] [], .call (.t (nv d)) [] [] [], .yes, .call (.tup [nv r, .one (.bool o)]) [] [] []]) (by kernel_rfl) hc

theorem p31_g (a b m d : Int) (s : Bool) (hc : Conj [
    CallOk Try.prog 24 [nv a, nv b] [] (AV.t (AT.one (A0.bool s))) [] [],
    CallOk Try.prog 82 [nv a, nv b] [] (AV.t (nv d)) [] [],
    s = false]) :
    FnOk Try.prog 31 ([nv a, nv b, nv m]) ([]) (AV.t (nv d)) ([]) :=
  fn_run tOk mixed nw4_31 ([]) ([.call (.one (.bool s)) [] [] [], .call (.t (nv d)) [] [] [], .no]) (by kernel_rfl) hc

theorem r22 (x m r i : Int) (hc : Conj [
    decide (i < 256) = true,
    CallOk Try.prog 30 [nv x, nv x, nv m] [] (AV.t (nv r)) [] []]) :
    Runs Try.prog (codeAt Try.f22 [1, 0, 1, 0, 0]) (mkT Try.f22.ntmps ([(2, .one (.ptr true 2 0)), (3, .one (.ptr true 3 0)), (4, .one (.ptr true 4 0)), (5, .one (.int .i64 (i)))]), [(2, { kind := .own, e := 24, c := .vals [.int .u64 (l0 x), .int .u64 (l1 x), .int .u64 (l2 x), .int .u64 (l3 x)] }), (3, { kind := .own, e := 24, c := .vals [.int .u64 (l0 m), .int .u64 (l1 m), .int .u64 (l2 m), .int .u64 (l3 m)] }), (4, { kind := .own, e := 24, c := .vals [.lit .u64 0, .lit .u64 0, .lit .u64 0, .lit .u64 0] })]) (Exit.normal) (mkT 15 [(2, AV.t (AT.one (A0.ptr true 2 0))), (3, AV.t (AT.one (A0.ptr true 3 0))), (4, AV.t (AT.one (A0.ptr true 4 0))), (5, AV.t (AT.one (A0.int IntKind.i64 (IntKind.i64.wrap (i + 1)))))], [(2, Blk.mk BK.own 24 (Cells.vals [A0.int IntKind.u64 (l0 r), A0.int IntKind.u64 (l1 r), A0.int IntKind.u64 (l2 r), A0.int IntKind.u64 (l3 r)]) none), (3, Blk.mk BK.own 24 (Cells.vals [A0.int IntKind.u64 (l0 m), A0.int IntKind.u64 (l1 m), A0.int IntKind.u64 (l2 m), A0.int IntKind.u64 (l3 m)]) none), (4, Blk.mk BK.own 24 (Cells.vals [A0.lit IntKind.u64 0, A0.lit IntKind.u64 0, A0.lit IntKind.u64 0, A0.lit IntKind.u64 0]) none)]) :=
  sel_run tOk mixed [2, 3, 4, 5] [2, 3, 4] ([.yes, .call (.t (nv r)) [] [] []]) (by kernel_rfl) hc

theorem r22_out (x m i : Int) (hc : Conj [
    decide (i < 256) = false]) :
    Runs Try.prog (codeAt Try.f22 [1, 0, 1, 0, 0]) (mkT Try.f22.ntmps ([(2, .one (.ptr true 2 0)), (3, .one (.ptr true 3 0)), (4, .one (.ptr true 4 0)), (5, .one (.int .i64 (i)))]), [(2, { kind := .own, e := 24, c := .vals [.int .u64 (l0 x), .int .u64 (l1 x), .int .u64 (l2 x), .int .u64 (l3 x)] }), (3, { kind := .own, e := 24, c := .vals [.int .u64 (l0 m), .int .u64 (l1 m), .int .u64 (l2 m), .int .u64 (l3 m)] }), (4, { kind := .own, e := 24, c := .vals [.lit .u64 0, .lit .u64 0, .lit .u64 0, .lit .u64 0] })]) (Exit.exit 0) (mkT 15 [(2, AV.t (AT.one (A0.ptr true 2 0))), (4, AV.t (AT.one (A0.ptr true 4 0)))], [(2, Blk.mk BK.own 24 (Cells.vals [A0.int IntKind.u64 (l0 x), A0.int IntKind.u64 (l1 x), A0.int IntKind.u64 (l2 x), A0.int IntKind.u64 (l3 x)]) none), (4, Blk.mk BK.own 24 (Cells.vals [A0.lit IntKind.u64 0, A0.lit IntKind.u64 0, A0.lit IntKind.u64 0, A0.lit IntKind.u64 0]) none)]) :=
  sel_run tOk mixed [2, 4] [2, 4] ([.no]) (by kernel_rfl) hc

theorem nw4_22 : Named Try.prog 22 Try.f22 := ⟨Try.func22, by kernel_rfl, by kernel_rfl⟩
theorem p22 (x m r : Int) (hc : Conj [
    Runs Try.prog (codeAt Try.f22 [1, 0, 1, 0]) (mkT 15 [(2, AV.t (AT.one (A0.ptr true 2 0))), (3, AV.t (AT.one (A0.ptr true 3 0))), (4, AV.t (AT.one (A0.ptr true 4 0))), (5, AV.t (AT.one (A0.lit IntKind.i64 0)))], [(2, Blk.mk BK.own 24 (Cells.vals [A0.int IntKind.u64 (l0 x), A0.int IntKind.u64 (l1 x), A0.int IntKind.u64 (l2 x), A0.int IntKind.u64 (l3 x)]) none), (3, Blk.mk BK.own 24 (Cells.vals [A0.int IntKind.u64 (l0 m), A0.int IntKind.u64 (l1 m), A0.int IntKind.u64 (l2 m), A0.int IntKind.u64 (l3 m)]) none), (4, Blk.mk BK.own 24 (Cells.vals [A0.lit IntKind.u64 0, A0.lit IntKind.u64 0, A0.lit IntKind.u64 0, A0.lit IntKind.u64 0]) none)]) (Exit.exit 0) (mkT 15 [(2, AV.one (A0.ptr true 2 0)), (4, AV.one (A0.ptr true 4 0))], [(2, Blk.mk BK.own 24 (Cells.vals [A0.int IntKind.u64 (l0 r), A0.int IntKind.u64 (l1 r), A0.int IntKind.u64 (l2 r), A0.int IntKind.u64 (l3 r)]) none), (4, Blk.mk BK.own 24 (Cells.vals [A0.lit IntKind.u64 0, A0.lit IntKind.u64 0, A0.lit IntKind.u64 0, A0.lit IntKind.u64 0]) none)])]) :
    FnOk Try.prog 22 ([nv x, nv m]) ([]) (AV.t (nv r)) ([]) :=
  fn_run tOk mixed nw4_22 ([]) ([.seg [2, 3, 4, 5] [2, 3, 4] (.exit 0) (mkT 15 [(2, .one (.ptr true 2 0)), (4, .one (.ptr true 4 0))]) [(2, { kind := .own, e := 24, c := .vals [.int .u64 (l0 r), .int .u64 (l1 r), .int .u64 (l2 r), .int .u64 (l3 r)] }), (4, { kind := .own, e := 24, c := .vals [.lit .u64 0, .lit .u64 0, .lit .u64 0, .lit .u64 0] })]]) (by kernel_rfl) hc

theorem r25_oo (x0 x1 x2 x3 m q0 q1 q2 q3 i : Int) (o : Bool) (hc : Conj [
    decide (i < 256) = true,
    (x0.tmod 2 == 1) = true,
    CallOk Try.prog 83 [w4 x0 x1 x2 x3, nv m] [] (AV.tup [w4 q0 q1 q2 q3, AT.one (A0.bool o)]) [] [],
    o = true]) :
    Runs Try.prog (codeAt Try.f25 [1, 0, 1, 0, 0]) (mkT Try.f25.ntmps ([(2, .one (.ptr true 2 0)), (3, .one (.ptr true 3 0)), (4, .one (.ptr true 4 0)), (5, .one (.int .i64 (i)))]), [(2, { kind := .own, e := 24, c := .vals [.int .u64 x0, .int .u64 x1, .int .u64 x2, .int .u64 x3] }), (3, { kind := .own, e := 24, c := .vals [.int .u64 (l0 m), .int .u64 (l1 m), .int .u64 (l2 m), .int .u64 (l3 m)] }), (4, { kind := .own, e := 24, c := .vals [.lit .u64 0, .lit .u64 0, .lit .u64 0, .lit .u64 0] })]) (Exit.normal) (mkT 51 [(2, AV.t (AT.one (A0.ptr true 2 0))), (3, AV.t (AT.one (A0.ptr true 3 0))), (4, AV.t (AT.one (A0.ptr true 4 0))), (5, AV.t (AT.one (A0.int IntKind.i64 (IntKind.i64.wrap (i + 1)))))], [(2, Blk.mk BK.own 24 (Cells.vals [A0.int IntKind.u64 (IntKind.u64.wrap (IntKind.u64.wrap (q0.tdiv 2) + IntKind.u64.wrap (q1 * 9223372036854775808))), A0.int IntKind.u64 (IntKind.u64.wrap (IntKind.u64.wrap (q1.tdiv 2) + IntKind.u64.wrap (q2 * 9223372036854775808))), A0.int IntKind.u64 (IntKind.u64.wrap (IntKind.u64.wrap (q2.tdiv 2) + IntKind.u64.wrap (q3 * 9223372036854775808))), A0.int IntKind.u64 (IntKind.u64.wrap (IntKind.u64.wrap (q3.tdiv 2) + 9223372036854775808))]) none), (3, Blk.mk BK.own 24 (Cells.vals [A0.int IntKind.u64 (l0 m), A0.int IntKind.u64 (l1 m), A0.int IntKind.u64 (l2 m), A0.int IntKind.u64 (l3 m)]) none), (4, Blk.mk BK.own 24 (Cells.vals [A0.lit IntKind.u64 0, A0.lit IntKind.u64 0, A0.lit IntKind.u64 0, A0.lit IntKind.u64 0]) none)]) :=
  sel_run tOk mixed [2, 3, 4, 5] [2, 3, 4] ([.yes, .yes, .call (.tup [w4 q0 q1 q2 q3, .one (.bool o)]) [] [] [], .yes]) (by kernel_rfl) hc

theorem r25_on (x0 x1 x2 x3 m q0 q1 q2 q3 i : Int) (o : Bool) (hc : Conj [
    decide (i < 256) = true,
    (x0.tmod 2 == 1) = true,
    CallOk Try.prog 83 [w4 x0 x1 x2 x3, nv m] [] (AV.tup [w4 q0 q1 q2 q3, AT.one (A0.bool o)]) [] [],
    o = false]) :
    Runs Try.prog (codeAt Try.f25 [1, 0, 1, 0, 0]) (mkT Try.f25.ntmps ([(2, .one (.ptr true 2 0)), (3, .one (.ptr true 3 0)), (4, .one (.ptr true 4 0)), (5, .one (.int .i64 (i)))]), [(2, { kind := .own, e := 24, c := .vals [.int .u64 x0, .int .u64 x1, .int .u64 x2, .int .u64 x3] }), (3, { kind := .own, e := 24, c := .vals [.int .u64 (l0 m), .int .u64 (l1 m), .int .u64 (l2 m), .int .u64 (l3 m)] }), (4, { kind := .own, e := 24, c := .vals [.lit .u64 0, .lit .u64 0, .lit .u64 0, .lit .u64 0] })]) (Exit.normal) (mkT 51 [(2, AV.t (AT.one (A0.ptr true 2 0))), (3, AV.t (AT.one (A0.ptr true 3 0))), (4, AV.t (AT.one (A0.ptr true 4 0))), (5, AV.t (AT.one (A0.int IntKind.i64 (IntKind.i64.wrap (i + 1)))))], [(2, Blk.mk BK.own 24 (Cells.vals [A0.int IntKind.u64 (IntKind.u64.wrap (IntKind.u64.wrap (q0.tdiv 2) + IntKind.u64.wrap (q1 * 9223372036854775808))), A0.int IntKind.u64 (IntKind.u64.wrap (IntKind.u64.wrap (q1.tdiv 2) + IntKind.u64.wrap (q2 * 9223372036854775808))), A0.int IntKind.u64 (IntKind.u64.wrap (IntKind.u64.wrap (q2.tdiv 2) + IntKind.u64.wrap (q3 * 9223372036854775808))), A0.int IntKind.u64 (IntKind.u64.wrap (IntKind.u64.wrap (q3.tdiv 2) + 0))]) none), (3, Blk.mk BK.own 24 (Cells.vals [A0.int IntKind.u64 (l0 m), A0.int IntKind.u64 (l1 m), A0.int IntKind.u64 (l2 m), A0.int IntKind.u64 (l3 m)]) none), (4, Blk.mk BK.own 24 (Cells.vals [A0.lit IntKind.u64 0, A0.lit IntKind.u64 0, A0.lit IntKind.u64 0, A0.lit IntKind.u64 0]) none)]) :=
  sel_run tOk mixed [2, 3, 4, 5] [2, 3, 4] ([.yes, .yes, .call (.tup [w4 q0 q1 q2 q3, .one (.bool o)]) [] [] [], .no]) (by kernel_rfl) hc

theorem r25_e (x0 x1 x2 x3 m i : Int) (hc : Conj [
    decide (i < 256) = true,
    (x0.tmod 2 == 1) = false]) :
    Runs Try.prog (codeAt Try.f25 [1, 0, 1, 0, 0]) (mkT Try.f25.ntmps ([(2, .one (.ptr true 2 0)), (3, .one (.ptr true 3 0)), (4, .one (.ptr true 4 0)), (5, .one (.int .i64 (i)))]), [(2, { kind := .own, e := 24, c := .vals [.int .u64 x0, .int .u64 x1, .int .u64 x2, .int .u64 x3] }), (3, { kind := .own, e := 24, c := .vals [.int .u64 (l0 m), .int .u64 (l1 m), .int .u64 (l2 m), .int .u64 (l3 m)] }), (4, { kind := .own, e := 24, c := .vals [.lit .u64 0, .lit .u64 0, .lit .u64 0, .lit .u64 0] })]) (Exit.normal) (mkT 51 [(2, AV.t (AT.one (A0.ptr true 2 0))), (3, AV.t (AT.one (A0.ptr true 3 0))), (4, AV.t (AT.one (A0.ptr true 4 0))), (5, AV.t (AT.one (A0.int IntKind.i64 (IntKind.i64.wrap (i + 1)))))], [(2, Blk.mk BK.own 24 (Cells.vals [A0.int IntKind.u64 (IntKind.u64.wrap (IntKind.u64.wrap (x0.tdiv 2) + IntKind.u64.wrap (x1 * 9223372036854775808))), A0.int IntKind.u64 (IntKind.u64.wrap (IntKind.u64.wrap (x1.tdiv 2) + IntKind.u64.wrap (x2 * 9223372036854775808))), A0.int IntKind.u64 (IntKind.u64.wrap (IntKind.u64.wrap (x2.tdiv 2) + IntKind.u64.wrap (x3 * 9223372036854775808))), A0.int IntKind.u64 (IntKind.u64.wrap (IntKind.u64.wrap (x3.tdiv 2) + 0))]) none), (3, Blk.mk BK.own 24 (Cells.vals [A0.int IntKind.u64 (l0 m), A0.int IntKind.u64 (l1 m), A0.int IntKind.u64 (l2 m), A0.int IntKind.u64 (l3 m)]) none), (4, Blk.mk BK.own 24 (Cells.vals [A0.lit IntKind.u64 0, A0.lit IntKind.u64 0, A0.lit IntKind.u64 0, A0.lit IntKind.u64 0]) none)]) :=
  sel_run tOk mixed [2, 3, 4, 5] [2, 3, 4] ([.yes, .no]) (by kernel_rfl) hc

theorem r25_out (x m i : Int) (hc : Conj [
    decide (i < 256) = false]) :
    Runs Try.prog (codeAt Try.f25 [1, 0, 1, 0, 0]) (mkT Try.f25.ntmps ([(2, .one (.ptr true 2 0)), (3, .one (.ptr true 3 0)), (4, .one (.ptr true 4 0)), (5, .one (.int .i64 (i)))]), [(2, { kind := .own, e := 24, c := .vals [.int .u64 (l0 x), .int .u64 (l1 x), .int .u64 (l2 x), .int .u64 (l3 x)] }), (3, { kind := .own, e := 24, c := .vals [.int .u64 (l0 m), .int .u64 (l1 m), .int .u64 (l2 m), .int .u64 (l3 m)] }), (4, { kind := .own, e := 24, c := .vals [.lit .u64 0, .lit .u64 0, .lit .u64 0, .lit .u64 0] })]) (Exit.exit 0) (mkT 51 [(2, AV.t (AT.one (A0.ptr true 2 0))), (4, AV.t (AT.one (A0.ptr true 4 0)))], [(2, Blk.mk BK.own 24 (Cells.vals [A0.int IntKind.u64 (l0 x), A0.int IntKind.u64 (l1 x), A0.int IntKind.u64 (l2 x), A0.int IntKind.u64 (l3 x)]) none), (4, Blk.mk BK.own 24 (Cells.vals [A0.lit IntKind.u64 0, A0.lit IntKind.u64 0, A0.lit IntKind.u64 0, A0.lit IntKind.u64 0]) none)]) :=
  sel_run tOk mixed [2, 4] [2, 4] ([.no]) (by kernel_rfl) hc

theorem nw4_25 : Named Try.prog 25 Try.f25 := ⟨Try.func25, by kernel_rfl, by kernel_rfl⟩
theorem p25 (x m r : Int) (hc : Conj [
    Runs Try.prog (codeAt Try.f25 [1, 0, 1, 0]) (mkT 51 [(2, AV.t (AT.one (A0.ptr true 2 0))), (3, AV.t (AT.one (A0.ptr true 3 0))), (4, AV.t (AT.one (A0.ptr true 4 0))), (5, AV.t (AT.one (A0.lit IntKind.i64 0)))], [(2, Blk.mk BK.own 24 (Cells.vals [A0.int IntKind.u64 (l0 x), A0.int IntKind.u64 (l1 x), A0.int IntKind.u64 (l2 x), A0.int IntKind.u64 (l3 x)]) none), (3, Blk.mk BK.own 24 (Cells.vals [A0.int IntKind.u64 (l0 m), A0.int IntKind.u64 (l1 m), A0.int IntKind.u64 (l2 m), A0.int IntKind.u64 (l3 m)]) none), (4, Blk.mk BK.own 24 (Cells.vals [A0.lit IntKind.u64 0, A0.lit IntKind.u64 0, A0.lit IntKind.u64 0, A0.lit IntKind.u64 0]) none)]) (Exit.exit 0) (mkT 51 [(2, AV.one (A0.ptr true 2 0)), (4, AV.one (A0.ptr true 4 0))], [(2, Blk.mk BK.own 24 (Cells.vals [A0.int IntKind.u64 (l0 r), A0.int IntKind.u64 (l1 r), A0.int IntKind.u64 (l2 r), A0.int IntKind.u64 (l3 r)]) none), (4, Blk.mk BK.own 24 (Cells.vals [A0.lit IntKind.u64 0, A0.lit IntKind.u64 0, A0.lit IntKind.u64 0, A0.lit IntKind.u64 0]) none)])]) :
    FnOk Try.prog 25 ([nv x, nv m]) ([]) (AV.t (nv r)) ([]) :=
  fn_run tOk mixed nw4_25 ([]) ([.seg [2, 3, 4, 5] [2, 3, 4] (.exit 0) (mkT 51 [(2, .one (.ptr true 2 0)), (4, .one (.ptr true 4 0))]) [(2, { kind := .own, e := 24, c := .vals [.int .u64 (l0 r), .int .u64 (l1 r), .int .u64 (l2 r), .int .u64 (l3 r)] }), (4, { kind := .own, e := 24, c := .vals [.lit .u64 0, .lit .u64 0, .lit .u64 0, .lit .u64 0] })]]) (by kernel_rfl) hc

end Go.Proofs.Ytnndhmnabbkamaa
