/-
  Ways through the program, by the evaluator: what each comes to, under the conditions that it lists (printed by gen.py).
  Conditions: those that each theorem names.
-/
import Derived.Test.YtnndhmnabbkamaaTab
import Derived.Test.YtnndhmnabbkamaaNum
namespace Go.Proofs.Ytnndhmnabbkamaa
open Go Go.Ev Go.Proofs
set_option maxRecDepth 100000

theorem nw1_128 : Named Try.prog 128 Try.f128 := ⟨Try.func128, by kernel_rfl, by kernel_rfl⟩
theorem p128 (a : Int) :
    FnOk Try.prog 128 ([.one (.int .u64 a)]) ([]) (AV.t (AT.one (A0.bool (a != a)))) ([]) :=
  fn_run tOk mixed nw1_128 ([]) ([]) (by kernel_rfl) (ps := []) trivial

theorem nw1_123 : Named Try.prog 123 Try.f123 := ⟨Try.func123, by kernel_rfl, by kernel_rfl⟩
theorem p123_lt (a b : Int) (hc : Conj [
    CallOk Try.prog 128 [AT.one (A0.int IntKind.u64 a)] [] (AV.t (AT.one (A0.blit false))) [] [],
    CallOk Try.prog 128 [AT.one (A0.int IntKind.u64 b)] [] (AV.t (AT.one (A0.blit false))) [] [],
    decide (a < b) = true]) :
    FnOk Try.prog 123 ([.one (.int .u64 a), .one (.int .u64 b)]) ([]) (AV.t (AT.one (A0.lit IntKind.i64 (-1)))) ([]) :=
  fn_run tOk mixed nw1_123 ([]) ([.call (.one (.blit false)) [] [] [], .call (.one (.blit false)) [] [] [], .yes]) (by kernel_rfl) hc

theorem p123_gt (a b : Int) (hc : Conj [
    CallOk Try.prog 128 [AT.one (A0.int IntKind.u64 a)] [] (AV.t (AT.one (A0.blit false))) [] [],
    CallOk Try.prog 128 [AT.one (A0.int IntKind.u64 b)] [] (AV.t (AT.one (A0.blit false))) [] [],
    decide (a < b) = false,
    decide (a > b) = true]) :
    FnOk Try.prog 123 ([.one (.int .u64 a), .one (.int .u64 b)]) ([]) (AV.t (AT.one (A0.lit IntKind.i64 1))) ([]) :=
  fn_run tOk mixed nw1_123 ([]) ([.call (.one (.blit false)) [] [] [], .call (.one (.blit false)) [] [] [], .no, .yes]) (by kernel_rfl) hc

theorem p123_eq (a b : Int) (hc : Conj [
    CallOk Try.prog 128 [AT.one (A0.int IntKind.u64 a)] [] (AV.t (AT.one (A0.blit false))) [] [],
    CallOk Try.prog 128 [AT.one (A0.int IntKind.u64 b)] [] (AV.t (AT.one (A0.blit false))) [] [],
    decide (a < b) = false,
    decide (a > b) = false]) :
    FnOk Try.prog 123 ([.one (.int .u64 a), .one (.int .u64 b)]) ([]) (AV.t (AT.one (A0.lit IntKind.i64 0))) ([]) :=
  fn_run tOk mixed nw1_123 ([]) ([.call (.one (.blit false)) [] [] [], .call (.one (.blit false)) [] [] [], .no, .no]) (by kernel_rfl) hc

theorem nw1_100 : Named Try.prog 100 Try.f100 := ⟨Try.func100, by kernel_rfl, by kernel_rfl⟩
theorem p100_3 (a0 a1 a2 a3 b0 b1 b2 b3 : Int) (r : Int) (hc : Conj [
    (a3 != b3) = true,
    CallOk Try.prog 123 [AT.one (A0.int IntKind.u64 a3), AT.one (A0.int IntKind.u64 b3)] [] (AV.t (AT.one (A0.int IntKind.i64 r))) [] []]) :
    FnOk Try.prog 100 ([w4 a0 a1 a2 a3, w4 b0 b1 b2 b3]) ([]) (AV.t (AT.one (A0.int IntKind.i64 r))) ([]) :=
  fn_run tOk mixed nw1_100 ([]) ([.go, .yes, .call (.one (.int .i64 (r))) [] [] []]) (by kernel_rfl) hc

theorem p100_2 (a0 a1 a2 a3 b0 b1 b2 b3 : Int) (r : Int) (hc : Conj [
    (a3 != b3) = false,
    (a2 != b2) = true,
    CallOk Try.prog 123 [AT.one (A0.int IntKind.u64 a2), AT.one (A0.int IntKind.u64 b2)] [] (AV.t (AT.one (A0.int IntKind.i64 r))) [] []]) :
    FnOk Try.prog 100 ([w4 a0 a1 a2 a3, w4 b0 b1 b2 b3]) ([]) (AV.t (AT.one (A0.int IntKind.i64 r))) ([]) :=
  fn_run tOk mixed nw1_100 ([]) ([.go, .no, .yes, .call (.one (.int .i64 (r))) [] [] []]) (by kernel_rfl) hc

theorem p100_1 (a0 a1 a2 a3 b0 b1 b2 b3 : Int) (r : Int) (hc : Conj [
    (a3 != b3) = false,
    (a2 != b2) = false,
    (a1 != b1) = true,
    CallOk Try.prog 123 [AT.one (A0.int IntKind.u64 a1), AT.one (A0.int IntKind.u64 b1)] [] (AV.t (AT.one (A0.int IntKind.i64 r))) [] []]) :
    FnOk Try.prog 100 ([w4 a0 a1 a2 a3, w4 b0 b1 b2 b3]) ([]) (AV.t (AT.one (A0.int IntKind.i64 r))) ([]) :=
  fn_run tOk mixed nw1_100 ([]) ([.go, .no, .no, .yes, .call (.one (.int .i64 (r))) [] [] []]) (by kernel_rfl) hc

theorem p100_0 (a0 a1 a2 a3 b0 b1 b2 b3 : Int) (r : Int) (hc : Conj [
    (a3 != b3) = false,
    (a2 != b2) = false,
    (a1 != b1) = false,
    CallOk Try.prog 123 [AT.one (A0.int IntKind.u64 a0), AT.one (A0.int IntKind.u64 b0)] [] (AV.t (AT.one (A0.int IntKind.i64 r))) [] []]) :
    FnOk Try.prog 100 ([w4 a0 a1 a2 a3, w4 b0 b1 b2 b3]) ([]) (AV.t (AT.one (A0.int IntKind.i64 r))) ([]) :=
  fn_run tOk mixed nw1_100 ([]) ([.go, .no, .no, .no, .call (.one (.int .i64 (r))) [] [] []]) (by kernel_rfl) hc

theorem nw1_84 : Named Try.prog 84 Try.f84 := ⟨Try.func84, by kernel_rfl, by kernel_rfl⟩
theorem p84 (a0 a1 a2 a3 b0 b1 b2 b3 : Int) (s0 c0 s1 c1 s2 c2 s3 c3 : Int) (hc : Conj [
    CallOk Try.prog 113 [AT.one (A0.int IntKind.u64 a0), AT.one (A0.int IntKind.u64 b0), AT.one (A0.lit IntKind.u64 0)] [] (AV.tup [AT.one (A0.int IntKind.u64 s0), AT.one (A0.int IntKind.u64 c0)]) [] [],
    CallOk Try.prog 113 [AT.one (A0.int IntKind.u64 a1), AT.one (A0.int IntKind.u64 b1), AT.one (A0.int IntKind.u64 c0)] [] (AV.tup [AT.one (A0.int IntKind.u64 s1), AT.one (A0.int IntKind.u64 c1)]) [] [],
    CallOk Try.prog 113 [AT.one (A0.int IntKind.u64 a2), AT.one (A0.int IntKind.u64 b2), AT.one (A0.int IntKind.u64 c1)] [] (AV.tup [AT.one (A0.int IntKind.u64 s2), AT.one (A0.int IntKind.u64 c2)]) [] [],
    CallOk Try.prog 113 [AT.one (A0.int IntKind.u64 a3), AT.one (A0.int IntKind.u64 b3), AT.one (A0.int IntKind.u64 c2)] [] (AV.tup [AT.one (A0.int IntKind.u64 s3), AT.one (A0.int IntKind.u64 c3)]) [] []]) :
    FnOk Try.prog 84 ([w4 a0 a1 a2 a3, w4 b0 b1 b2 b3]) ([]) (AV.tup [w4 s0 s1 s2 s3, AT.one (A0.int IntKind.i64 (IntKind.i64.wrap c3))]) ([]) :=
  fn_run tOk mixed nw1_84 ([]) ([.go, .call (.tup [.one (.int .u64 s0), .one (.int .u64 c0)]) [] [] [], .call (.tup [.one (.int .u64 s1), .one (.int .u64 c1)]) [] [] [], .call (.tup [.one (.int .u64 s2), .one (.int .u64 c2)]) [] [] [], .call (.tup [.one (.int .u64 s3), .one (.int .u64 c3)]) [] [] []]) (by kernel_rfl) hc

theorem nw1_85 : Named Try.prog 85 Try.f85 := ⟨Try.func85, by kernel_rfl, by kernel_rfl⟩
theorem p85 (a0 a1 a2 a3 b0 b1 b2 b3 : Int) (s0 c0 s1 c1 s2 c2 s3 c3 : Int) (hc : Conj [
    CallOk Try.prog 114 [AT.one (A0.int IntKind.u64 a0), AT.one (A0.int IntKind.u64 b0), AT.one (A0.lit IntKind.u64 0)] [] (AV.tup [AT.one (A0.int IntKind.u64 s0), AT.one (A0.int IntKind.u64 c0)]) [] [],
    CallOk Try.prog 114 [AT.one (A0.int IntKind.u64 a1), AT.one (A0.int IntKind.u64 b1), AT.one (A0.int IntKind.u64 c0)] [] (AV.tup [AT.one (A0.int IntKind.u64 s1), AT.one (A0.int IntKind.u64 c1)]) [] [],
    CallOk Try.prog 114 [AT.one (A0.int IntKind.u64 a2), AT.one (A0.int IntKind.u64 b2), AT.one (A0.int IntKind.u64 c1)] [] (AV.tup [AT.one (A0.int IntKind.u64 s2), AT.one (A0.int IntKind.u64 c2)]) [] [],
    CallOk Try.prog 114 [AT.one (A0.int IntKind.u64 a3), AT.one (A0.int IntKind.u64 b3), AT.one (A0.int IntKind.u64 c2)] [] (AV.tup [AT.one (A0.int IntKind.u64 s3), AT.one (A0.int IntKind.u64 c3)]) [] []]) :
    FnOk Try.prog 85 ([w4 a0 a1 a2 a3, w4 b0 b1 b2 b3]) ([]) (AV.tup [w4 s0 s1 s2 s3, AT.one (A0.int IntKind.i64 (IntKind.i64.wrap c3))]) ([]) :=
  fn_run tOk mixed nw1_85 ([]) ([.go, .call (.tup [.one (.int .u64 s0), .one (.int .u64 c0)]) [] [] [], .call (.tup [.one (.int .u64 s1), .one (.int .u64 c1)]) [] [] [], .call (.tup [.one (.int .u64 s2), .one (.int .u64 c2)]) [] [] [], .call (.tup [.one (.int .u64 s3), .one (.int .u64 c3)]) [] [] []]) (by kernel_rfl) hc

theorem nw1_127 : Named Try.prog 127 Try.f127 := ⟨Try.func127, by kernel_rfl, by kernel_rfl⟩
theorem p127 (a b : Int) :
    FnOk Try.prog 127 ([.one (.int .u64 a), .one (.int .u64 b)]) ([]) (AV.tup [AT.one (A0.int IntKind.u64 (IntKind.u64.wrap (IntKind.u64.wrap (IntKind.u64.wrap (a.fdiv 4294967296 * b.fdiv 4294967296) + (IntKind.u64.wrap (IntKind.u64.wrap (a.fdiv 4294967296 * bitOp BinOp.and IntKind.u64 b 4294967295) + (IntKind.u64.wrap (bitOp BinOp.and IntKind.u64 a 4294967295 * bitOp BinOp.and IntKind.u64 b 4294967295)).fdiv 4294967296)).fdiv 4294967296) + (IntKind.u64.wrap (bitOp BinOp.and IntKind.u64 (IntKind.u64.wrap (IntKind.u64.wrap (a.fdiv 4294967296 * bitOp BinOp.and IntKind.u64 b 4294967295) + (IntKind.u64.wrap (bitOp BinOp.and IntKind.u64 a 4294967295 * bitOp BinOp.and IntKind.u64 b 4294967295)).fdiv 4294967296)) 4294967295 + IntKind.u64.wrap (bitOp BinOp.and IntKind.u64 a 4294967295 * b.fdiv 4294967296))).fdiv 4294967296))), AT.one (A0.int IntKind.u64 (IntKind.u64.wrap (a * b)))]) ([]) :=
  fn_run tOk mixed nw1_127 ([]) ([]) (by kernel_rfl) (ps := []) trivial

theorem nw1_118 : Named Try.prog 118 Try.f118 := ⟨Try.func118, by kernel_rfl, by kernel_rfl⟩
theorem p118_0 (a : Int) (hc : Conj [
    decide (a ≥ 4294967296) = false,
    decide (a ≥ 65536) = false,
    decide (a ≥ 256) = false,
    0 ≤ IntKind.u8.wrap a ∧ IntKind.u8.wrap a < 256]) :
    FnOk Try.prog 118 ([.one (.int .u64 a)]) ([]) (AV.t (AT.one (A0.int IntKind.i64 (IntKind.i64.wrap (0 + IntKind.i64.wrap ↑((ByteArray.mk (([0, 1, 2, 2, 3, 3, 3, 3, 4, 4, 4, 4, 4, 4, 4, 4, 5, 5, 5, 5, 5, 5, 5, 5, 5, 5, 5, 5, 5, 5, 5, 5, 6, 6, 6, 6, 6, 6, 6, 6, 6, 6, 6, 6, 6, 6, 6, 6, 6, 6, 6, 6, 6, 6, 6, 6, 6, 6, 6, 6, 6, 6, 6, 6].append [7, 7, 7, 7, 7, 7, 7, 7, 7, 7, 7, 7, 7, 7, 7, 7, 7, 7, 7, 7, 7, 7, 7, 7, 7, 7, 7, 7, 7, 7, 7, 7, 7, 7, 7, 7, 7, 7, 7, 7, 7, 7, 7, 7, 7, 7, 7, 7, 7, 7, 7, 7, 7, 7, 7, 7, 7, 7, 7, 7, 7, 7, 7, 7]).append ([8, 8, 8, 8, 8, 8, 8, 8, 8, 8, 8, 8, 8, 8, 8, 8, 8, 8, 8, 8, 8, 8, 8, 8, 8, 8, 8, 8, 8, 8, 8, 8, 8, 8, 8, 8, 8, 8, 8, 8, 8, 8, 8, 8, 8, 8, 8, 8, 8, 8, 8, 8, 8, 8, 8, 8, 8, 8, 8, 8, 8, 8, 8, 8].append [8, 8, 8, 8, 8, 8, 8, 8, 8, 8, 8, 8, 8, 8, 8, 8, 8, 8, 8, 8, 8, 8, 8, 8, 8, 8, 8, 8, 8, 8, 8, 8, 8, 8, 8, 8, 8, 8, 8, 8, 8, 8, 8, 8, 8, 8, 8, 8, 8, 8, 8, 8, 8, 8, 8, 8, 8, 8, 8, 8, 8, 8, 8, 8])).toArray).data.getD (IntKind.u8.wrap a).toNat 0).toNat))))) ([]) :=
  fn_run tOk mixed nw1_118 ([]) ([.no, .no, .no]) (by kernel_rfl) hc

theorem p118_1 (a : Int) (hc : Conj [
    decide (a ≥ 4294967296) = false,
    decide (a ≥ 65536) = false,
    decide (a ≥ 256) = true,
    0 ≤ IntKind.u8.wrap (a.fdiv 256) ∧ IntKind.u8.wrap (a.fdiv 256) < 256]) :
    FnOk Try.prog 118 ([.one (.int .u64 a)]) ([]) (AV.t (AT.one (A0.int IntKind.i64 (IntKind.i64.wrap (8 + IntKind.i64.wrap ↑((ByteArray.mk (([0, 1, 2, 2, 3, 3, 3, 3, 4, 4, 4, 4, 4, 4, 4, 4, 5, 5, 5, 5, 5, 5, 5, 5, 5, 5, 5, 5, 5, 5, 5, 5, 6, 6, 6, 6, 6, 6, 6, 6, 6, 6, 6, 6, 6, 6, 6, 6, 6, 6, 6, 6, 6, 6, 6, 6, 6, 6, 6, 6, 6, 6, 6, 6].append [7, 7, 7, 7, 7, 7, 7, 7, 7, 7, 7, 7, 7, 7, 7, 7, 7, 7, 7, 7, 7, 7, 7, 7, 7, 7, 7, 7, 7, 7, 7, 7, 7, 7, 7, 7, 7, 7, 7, 7, 7, 7, 7, 7, 7, 7, 7, 7, 7, 7, 7, 7, 7, 7, 7, 7, 7, 7, 7, 7, 7, 7, 7, 7]).append ([8, 8, 8, 8, 8, 8, 8, 8, 8, 8, 8, 8, 8, 8, 8, 8, 8, 8, 8, 8, 8, 8, 8, 8, 8, 8, 8, 8, 8, 8, 8, 8, 8, 8, 8, 8, 8, 8, 8, 8, 8, 8, 8, 8, 8, 8, 8, 8, 8, 8, 8, 8, 8, 8, 8, 8, 8, 8, 8, 8, 8, 8, 8, 8].append [8, 8, 8, 8, 8, 8, 8, 8, 8, 8, 8, 8, 8, 8, 8, 8, 8, 8, 8, 8, 8, 8, 8, 8, 8, 8, 8, 8, 8, 8, 8, 8, 8, 8, 8, 8, 8, 8, 8, 8, 8, 8, 8, 8, 8, 8, 8, 8, 8, 8, 8, 8, 8, 8, 8, 8, 8, 8, 8, 8, 8, 8, 8, 8])).toArray).data.getD (IntKind.u8.wrap (a.fdiv 256)).toNat 0).toNat))))) ([]) :=
  fn_run tOk mixed nw1_118 ([]) ([.no, .no, .yes]) (by kernel_rfl) hc

theorem p118_2 (a : Int) (hc : Conj [
    decide (a ≥ 4294967296) = false,
    decide (a ≥ 65536) = true,
    decide (a.fdiv 65536 ≥ 256) = false,
    0 ≤ IntKind.u8.wrap (a.fdiv 65536) ∧ IntKind.u8.wrap (a.fdiv 65536) < 256]) :
    FnOk Try.prog 118 ([.one (.int .u64 a)]) ([]) (AV.t (AT.one (A0.int IntKind.i64 (IntKind.i64.wrap (16 + IntKind.i64.wrap ↑((ByteArray.mk (([0, 1, 2, 2, 3, 3, 3, 3, 4, 4, 4, 4, 4, 4, 4, 4, 5, 5, 5, 5, 5, 5, 5, 5, 5, 5, 5, 5, 5, 5, 5, 5, 6, 6, 6, 6, 6, 6, 6, 6, 6, 6, 6, 6, 6, 6, 6, 6, 6, 6, 6, 6, 6, 6, 6, 6, 6, 6, 6, 6, 6, 6, 6, 6].append [7, 7, 7, 7, 7, 7, 7, 7, 7, 7, 7, 7, 7, 7, 7, 7, 7, 7, 7, 7, 7, 7, 7, 7, 7, 7, 7, 7, 7, 7, 7, 7, 7, 7, 7, 7, 7, 7, 7, 7, 7, 7, 7, 7, 7, 7, 7, 7, 7, 7, 7, 7, 7, 7, 7, 7, 7, 7, 7, 7, 7, 7, 7, 7]).append ([8, 8, 8, 8, 8, 8, 8, 8, 8, 8, 8, 8, 8, 8, 8, 8, 8, 8, 8, 8, 8, 8, 8, 8, 8, 8, 8, 8, 8, 8, 8, 8, 8, 8, 8, 8, 8, 8, 8, 8, 8, 8, 8, 8, 8, 8, 8, 8, 8, 8, 8, 8, 8, 8, 8, 8, 8, 8, 8, 8, 8, 8, 8, 8].append [8, 8, 8, 8, 8, 8, 8, 8, 8, 8, 8, 8, 8, 8, 8, 8, 8, 8, 8, 8, 8, 8, 8, 8, 8, 8, 8, 8, 8, 8, 8, 8, 8, 8, 8, 8, 8, 8, 8, 8, 8, 8, 8, 8, 8, 8, 8, 8, 8, 8, 8, 8, 8, 8, 8, 8, 8, 8, 8, 8, 8, 8, 8, 8])).toArray).data.getD (IntKind.u8.wrap (a.fdiv 65536)).toNat 0).toNat))))) ([]) :=
  fn_run tOk mixed nw1_118 ([]) ([.no, .yes, .no]) (by kernel_rfl) hc

theorem p118_3 (a : Int) (hc : Conj [
    decide (a ≥ 4294967296) = false,
    decide (a ≥ 65536) = true,
    decide (a.fdiv 65536 ≥ 256) = true,
    0 ≤ IntKind.u8.wrap ((a.fdiv 65536).fdiv 256) ∧ IntKind.u8.wrap ((a.fdiv 65536).fdiv 256) < 256]) :
    FnOk Try.prog 118 ([.one (.int .u64 a)]) ([]) (AV.t (AT.one (A0.int IntKind.i64 (IntKind.i64.wrap (24 + IntKind.i64.wrap ↑((ByteArray.mk (([0, 1, 2, 2, 3, 3, 3, 3, 4, 4, 4, 4, 4, 4, 4, 4, 5, 5, 5, 5, 5, 5, 5, 5, 5, 5, 5, 5, 5, 5, 5, 5, 6, 6, 6, 6, 6, 6, 6, 6, 6, 6, 6, 6, 6, 6, 6, 6, 6, 6, 6, 6, 6, 6, 6, 6, 6, 6, 6, 6, 6, 6, 6, 6].append [7, 7, 7, 7, 7, 7, 7, 7, 7, 7, 7, 7, 7, 7, 7, 7, 7, 7, 7, 7, 7, 7, 7, 7, 7, 7, 7, 7, 7, 7, 7, 7, 7, 7, 7, 7, 7, 7, 7, 7, 7, 7, 7, 7, 7, 7, 7, 7, 7, 7, 7, 7, 7, 7, 7, 7, 7, 7, 7, 7, 7, 7, 7, 7]).append ([8, 8, 8, 8, 8, 8, 8, 8, 8, 8, 8, 8, 8, 8, 8, 8, 8, 8, 8, 8, 8, 8, 8, 8, 8, 8, 8, 8, 8, 8, 8, 8, 8, 8, 8, 8, 8, 8, 8, 8, 8, 8, 8, 8, 8, 8, 8, 8, 8, 8, 8, 8, 8, 8, 8, 8, 8, 8, 8, 8, 8, 8, 8, 8].append [8, 8, 8, 8, 8, 8, 8, 8, 8, 8, 8, 8, 8, 8, 8, 8, 8, 8, 8, 8, 8, 8, 8, 8, 8, 8, 8, 8, 8, 8, 8, 8, 8, 8, 8, 8, 8, 8, 8, 8, 8, 8, 8, 8, 8, 8, 8, 8, 8, 8, 8, 8, 8, 8, 8, 8, 8, 8, 8, 8, 8, 8, 8, 8])).toArray).data.getD (IntKind.u8.wrap ((a.fdiv 65536).fdiv 256)).toNat 0).toNat))))) ([]) :=
  fn_run tOk mixed nw1_118 ([]) ([.no, .yes, .yes]) (by kernel_rfl) hc

theorem p118_4 (a : Int) (hc : Conj [
    decide (a ≥ 4294967296) = true,
    decide (a.fdiv 4294967296 ≥ 65536) = false,
    decide (a.fdiv 4294967296 ≥ 256) = false,
    0 ≤ IntKind.u8.wrap (a.fdiv 4294967296) ∧ IntKind.u8.wrap (a.fdiv 4294967296) < 256]) :
    FnOk Try.prog 118 ([.one (.int .u64 a)]) ([]) (AV.t (AT.one (A0.int IntKind.i64 (IntKind.i64.wrap (32 + IntKind.i64.wrap ↑((ByteArray.mk (([0, 1, 2, 2, 3, 3, 3, 3, 4, 4, 4, 4, 4, 4, 4, 4, 5, 5, 5, 5, 5, 5, 5, 5, 5, 5, 5, 5, 5, 5, 5, 5, 6, 6, 6, 6, 6, 6, 6, 6, 6, 6, 6, 6, 6, 6, 6, 6, 6, 6, 6, 6, 6, 6, 6, 6, 6, 6, 6, 6, 6, 6, 6, 6].append [7, 7, 7, 7, 7, 7, 7, 7, 7, 7, 7, 7, 7, 7, 7, 7, 7, 7, 7, 7, 7, 7, 7, 7, 7, 7, 7, 7, 7, 7, 7, 7, 7, 7, 7, 7, 7, 7, 7, 7, 7, 7, 7, 7, 7, 7, 7, 7, 7, 7, 7, 7, 7, 7, 7, 7, 7, 7, 7, 7, 7, 7, 7, 7]).append ([8, 8, 8, 8, 8, 8, 8, 8, 8, 8, 8, 8, 8, 8, 8, 8, 8, 8, 8, 8, 8, 8, 8, 8, 8, 8, 8, 8, 8, 8, 8, 8, 8, 8, 8, 8, 8, 8, 8, 8, 8, 8, 8, 8, 8, 8, 8, 8, 8, 8, 8, 8, 8, 8, 8, 8, 8, 8, 8, 8, 8, 8, 8, 8].append [8, 8, 8, 8, 8, 8, 8, 8, 8, 8, 8, 8, 8, 8, 8, 8, 8, 8, 8, 8, 8, 8, 8, 8, 8, 8, 8, 8, 8, 8, 8, 8, 8, 8, 8, 8, 8, 8, 8, 8, 8, 8, 8, 8, 8, 8, 8, 8, 8, 8, 8, 8, 8, 8, 8, 8, 8, 8, 8, 8, 8, 8, 8, 8])).toArray).data.getD (IntKind.u8.wrap (a.fdiv 4294967296)).toNat 0).toNat))))) ([]) :=
  fn_run tOk mixed nw1_118 ([]) ([.yes, .no, .no]) (by kernel_rfl) hc

theorem p118_5 (a : Int) (hc : Conj [
    decide (a ≥ 4294967296) = true,
    decide (a.fdiv 4294967296 ≥ 65536) = false,
    decide (a.fdiv 4294967296 ≥ 256) = true,
    0 ≤ IntKind.u8.wrap ((a.fdiv 4294967296).fdiv 256) ∧ IntKind.u8.wrap ((a.fdiv 4294967296).fdiv 256) < 256]) :
    FnOk Try.prog 118 ([.one (.int .u64 a)]) ([]) (AV.t (AT.one (A0.int IntKind.i64 (IntKind.i64.wrap (40 + IntKind.i64.wrap ↑((ByteArray.mk (([0, 1, 2, 2, 3, 3, 3, 3, 4, 4, 4, 4, 4, 4, 4, 4, 5, 5, 5, 5, 5, 5, 5, 5, 5, 5, 5, 5, 5, 5, 5, 5, 6, 6, 6, 6, 6, 6, 6, 6, 6, 6, 6, 6, 6, 6, 6, 6, 6, 6, 6, 6, 6, 6, 6, 6, 6, 6, 6, 6, 6, 6, 6, 6].append [7, 7, 7, 7, 7, 7, 7, 7, 7, 7, 7, 7, 7, 7, 7, 7, 7, 7, 7, 7, 7, 7, 7, 7, 7, 7, 7, 7, 7, 7, 7, 7, 7, 7, 7, 7, 7, 7, 7, 7, 7, 7, 7, 7, 7, 7, 7, 7, 7, 7, 7, 7, 7, 7, 7, 7, 7, 7, 7, 7, 7, 7, 7, 7]).append ([8, 8, 8, 8, 8, 8, 8, 8, 8, 8, 8, 8, 8, 8, 8, 8, 8, 8, 8, 8, 8, 8, 8, 8, 8, 8, 8, 8, 8, 8, 8, 8, 8, 8, 8, 8, 8, 8, 8, 8, 8, 8, 8, 8, 8, 8, 8, 8, 8, 8, 8, 8, 8, 8, 8, 8, 8, 8, 8, 8, 8, 8, 8, 8].append [8, 8, 8, 8, 8, 8, 8, 8, 8, 8, 8, 8, 8, 8, 8, 8, 8, 8, 8, 8, 8, 8, 8, 8, 8, 8, 8, 8, 8, 8, 8, 8, 8, 8, 8, 8, 8, 8, 8, 8, 8, 8, 8, 8, 8, 8, 8, 8, 8, 8, 8, 8, 8, 8, 8, 8, 8, 8, 8, 8, 8, 8, 8, 8])).toArray).data.getD (IntKind.u8.wrap ((a.fdiv 4294967296).fdiv 256)).toNat 0).toNat))))) ([]) :=
  fn_run tOk mixed nw1_118 ([]) ([.yes, .no, .yes]) (by kernel_rfl) hc

theorem p118_6 (a : Int) (hc : Conj [
    decide (a ≥ 4294967296) = true,
    decide (a.fdiv 4294967296 ≥ 65536) = true,
    decide ((a.fdiv 4294967296).fdiv 65536 ≥ 256) = false,
    0 ≤ IntKind.u8.wrap ((a.fdiv 4294967296).fdiv 65536) ∧ IntKind.u8.wrap ((a.fdiv 4294967296).fdiv 65536) < 256]) :
    FnOk Try.prog 118 ([.one (.int .u64 a)]) ([]) (AV.t (AT.one (A0.int IntKind.i64 (IntKind.i64.wrap (48 + IntKind.i64.wrap ↑((ByteArray.mk (([0, 1, 2, 2, 3, 3, 3, 3, 4, 4, 4, 4, 4, 4, 4, 4, 5, 5, 5, 5, 5, 5, 5, 5, 5, 5, 5, 5, 5, 5, 5, 5, 6, 6, 6, 6, 6, 6, 6, 6, 6, 6, 6, 6, 6, 6, 6, 6, 6, 6, 6, 6, 6, 6, 6, 6, 6, 6, 6, 6, 6, 6, 6, 6].append [7, 7, 7, 7, 7, 7, 7, 7, 7, 7, 7, 7, 7, 7, 7, 7, 7, 7, 7, 7, 7, 7, 7, 7, 7, 7, 7, 7, 7, 7, 7, 7, 7, 7, 7, 7, 7, 7, 7, 7, 7, 7, 7, 7, 7, 7, 7, 7, 7, 7, 7, 7, 7, 7, 7, 7, 7, 7, 7, 7, 7, 7, 7, 7]).append ([8, 8, 8, 8, 8, 8, 8, 8, 8, 8, 8, 8, 8, 8, 8, 8, 8, 8, 8, 8, 8, 8, 8, 8, 8, 8, 8, 8, 8, 8, 8, 8, 8, 8, 8, 8, 8, 8, 8, 8, 8, 8, 8, 8, 8, 8, 8, 8, 8, 8, 8, 8, 8, 8, 8, 8, 8, 8, 8, 8, 8, 8, 8, 8].append [8, 8, 8, 8, 8, 8, 8, 8, 8, 8, 8, 8, 8, 8, 8, 8, 8, 8, 8, 8, 8, 8, 8, 8, 8, 8, 8, 8, 8, 8, 8, 8, 8, 8, 8, 8, 8, 8, 8, 8, 8, 8, 8, 8, 8, 8, 8, 8, 8, 8, 8, 8, 8, 8, 8, 8, 8, 8, 8, 8, 8, 8, 8, 8])).toArray).data.getD (IntKind.u8.wrap ((a.fdiv 4294967296).fdiv 65536)).toNat 0).toNat))))) ([]) :=
  fn_run tOk mixed nw1_118 ([]) ([.yes, .yes, .no]) (by kernel_rfl) hc

theorem p118_7 (a : Int) (hc : Conj [
    decide (a ≥ 4294967296) = true,
    decide (a.fdiv 4294967296 ≥ 65536) = true,
    decide ((a.fdiv 4294967296).fdiv 65536 ≥ 256) = true,
    0 ≤ IntKind.u8.wrap (((a.fdiv 4294967296).fdiv 65536).fdiv 256) ∧ IntKind.u8.wrap (((a.fdiv 4294967296).fdiv 65536).fdiv 256) < 256]) :
    FnOk Try.prog 118 ([.one (.int .u64 a)]) ([]) (AV.t (AT.one (A0.int IntKind.i64 (IntKind.i64.wrap (56 + IntKind.i64.wrap ↑((ByteArray.mk (([0, 1, 2, 2, 3, 3, 3, 3, 4, 4, 4, 4, 4, 4, 4, 4, 5, 5, 5, 5, 5, 5, 5, 5, 5, 5, 5, 5, 5, 5, 5, 5, 6, 6, 6, 6, 6, 6, 6, 6, 6, 6, 6, 6, 6, 6, 6, 6, 6, 6, 6, 6, 6, 6, 6, 6, 6, 6, 6, 6, 6, 6, 6, 6].append [7, 7, 7, 7, 7, 7, 7, 7, 7, 7, 7, 7, 7, 7, 7, 7, 7, 7, 7, 7, 7, 7, 7, 7, 7, 7, 7, 7, 7, 7, 7, 7, 7, 7, 7, 7, 7, 7, 7, 7, 7, 7, 7, 7, 7, 7, 7, 7, 7, 7, 7, 7, 7, 7, 7, 7, 7, 7, 7, 7, 7, 7, 7, 7]).append ([8, 8, 8, 8, 8, 8, 8, 8, 8, 8, 8, 8, 8, 8, 8, 8, 8, 8, 8, 8, 8, 8, 8, 8, 8, 8, 8, 8, 8, 8, 8, 8, 8, 8, 8, 8, 8, 8, 8, 8, 8, 8, 8, 8, 8, 8, 8, 8, 8, 8, 8, 8, 8, 8, 8, 8, 8, 8, 8, 8, 8, 8, 8, 8].append [8, 8, 8, 8, 8, 8, 8, 8, 8, 8, 8, 8, 8, 8, 8, 8, 8, 8, 8, 8, 8, 8, 8, 8, 8, 8, 8, 8, 8, 8, 8, 8, 8, 8, 8, 8, 8, 8, 8, 8, 8, 8, 8, 8, 8, 8, 8, 8, 8, 8, 8, 8, 8, 8, 8, 8, 8, 8, 8, 8, 8, 8, 8, 8])).toArray).data.getD (IntKind.u8.wrap (((a.fdiv 4294967296).fdiv 65536).fdiv 256)).toNat 0).toNat))))) ([]) :=
  fn_run tOk mixed nw1_118 ([]) ([.yes, .yes, .yes]) (by kernel_rfl) hc

theorem nw1_112 : Named Try.prog 112 Try.f112 := ⟨Try.func112, by kernel_rfl, by kernel_rfl⟩
theorem p112 (t0 t1 t2 t3 t4 : Int) (t5 x y0 y1 y2 y3 : Int) (h0 m0 p0 c0 q0 d0 h1 m1 p1 c1 q1 d1 h2 m2 p2 c2 q2 d2 h3 m3 p3 c3 q3 d3 q4 d4 : Int) (hc : Conj [
    CallOk Try.prog 127 [AT.one (A0.int IntKind.u64 x), AT.one (A0.int IntKind.u64 y0)] [] (AV.tup [AT.one (A0.int IntKind.u64 h0), AT.one (A0.int IntKind.u64 m0)]) [] [],
    CallOk Try.prog 113 [AT.one (A0.int IntKind.u64 m0), AT.one (A0.int IntKind.u64 t0), AT.one (A0.lit IntKind.u64 0)] [] (AV.tup [AT.one (A0.int IntKind.u64 p0), AT.one (A0.int IntKind.u64 c0)]) [] [],
    CallOk Try.prog 113 [AT.one (A0.int IntKind.u64 p0), AT.one (A0.lit IntKind.u64 0), AT.one (A0.lit IntKind.u64 0)] [] (AV.tup [AT.one (A0.int IntKind.u64 q0), AT.one (A0.int IntKind.u64 d0)]) [] [],
    CallOk Try.prog 127 [AT.one (A0.int IntKind.u64 x), AT.one (A0.int IntKind.u64 y1)] [] (AV.tup [AT.one (A0.int IntKind.u64 h1), AT.one (A0.int IntKind.u64 m1)]) [] [],
    CallOk Try.prog 113 [AT.one (A0.int IntKind.u64 m1), AT.one (A0.int IntKind.u64 t1), AT.one (A0.lit IntKind.u64 0)] [] (AV.tup [AT.one (A0.int IntKind.u64 p1), AT.one (A0.int IntKind.u64 c1)]) [] [],
    CallOk Try.prog 113 [AT.one (A0.int IntKind.u64 p1), AT.one (A0.int IntKind.u64 (IntKind.u64.wrap (IntKind.u64.wrap (h0 + c0) + d0))), AT.one (A0.lit IntKind.u64 0)] [] (AV.tup [AT.one (A0.int IntKind.u64 q1), AT.one (A0.int IntKind.u64 d1)]) [] [],
    CallOk Try.prog 127 [AT.one (A0.int IntKind.u64 x), AT.one (A0.int IntKind.u64 y2)] [] (AV.tup [AT.one (A0.int IntKind.u64 h2), AT.one (A0.int IntKind.u64 m2)]) [] [],
    CallOk Try.prog 113 [AT.one (A0.int IntKind.u64 m2), AT.one (A0.int IntKind.u64 t2), AT.one (A0.lit IntKind.u64 0)] [] (AV.tup [AT.one (A0.int IntKind.u64 p2), AT.one (A0.int IntKind.u64 c2)]) [] [],
    CallOk Try.prog 113 [AT.one (A0.int IntKind.u64 p2), AT.one (A0.int IntKind.u64 (IntKind.u64.wrap (IntKind.u64.wrap (h1 + c1) + d1))), AT.one (A0.lit IntKind.u64 0)] [] (AV.tup [AT.one (A0.int IntKind.u64 q2), AT.one (A0.int IntKind.u64 d2)]) [] [],
    CallOk Try.prog 127 [AT.one (A0.int IntKind.u64 x), AT.one (A0.int IntKind.u64 y3)] [] (AV.tup [AT.one (A0.int IntKind.u64 h3), AT.one (A0.int IntKind.u64 m3)]) [] [],
    CallOk Try.prog 113 [AT.one (A0.int IntKind.u64 m3), AT.one (A0.int IntKind.u64 t3), AT.one (A0.lit IntKind.u64 0)] [] (AV.tup [AT.one (A0.int IntKind.u64 p3), AT.one (A0.int IntKind.u64 c3)]) [] [],
    CallOk Try.prog 113 [AT.one (A0.int IntKind.u64 p3), AT.one (A0.int IntKind.u64 (IntKind.u64.wrap (IntKind.u64.wrap (h2 + c2) + d2))), AT.one (A0.lit IntKind.u64 0)] [] (AV.tup [AT.one (A0.int IntKind.u64 q3), AT.one (A0.int IntKind.u64 d3)]) [] [],
    CallOk Try.prog 113 [AT.one (A0.int IntKind.u64 t4), AT.one (A0.int IntKind.u64 (IntKind.u64.wrap (IntKind.u64.wrap (h3 + c3) + d3))), AT.one (A0.lit IntKind.u64 0)] [] (AV.tup [AT.one (A0.int IntKind.u64 q4), AT.one (A0.int IntKind.u64 d4)]) [] []]) :
    FnOk Try.prog 112 ([.one (.sl true 1000 0 5 6), .one (.int .u64 x), w4 y0 y1 y2 y3]) ([(1000, { kind := .own, e := 123, c := .vals [.int .u64 t0, .int .u64 t1, .int .u64 t2, .int .u64 t3, .int .u64 t4, .int .u64 t5] })]) (AV.t (AT.one (A0.int IntKind.u64 d4))) ([(1000, Blk.mk BK.own 123 (Cells.vals [A0.int IntKind.u64 q0, A0.int IntKind.u64 q1, A0.int IntKind.u64 q2, A0.int IntKind.u64 q3, A0.int IntKind.u64 q4, A0.int IntKind.u64 t5]) none)]) :=
  fn_run tOk mixed nw1_112 ([1000]) ([.go, .call (.tup [.one (.int .u64 h0), .one (.int .u64 m0)]) [] [] [], .call (.tup [.one (.int .u64 p0), .one (.int .u64 c0)]) [] [] [], .call (.tup [.one (.int .u64 q0), .one (.int .u64 d0)]) [] [] [], .call (.tup [.one (.int .u64 h1), .one (.int .u64 m1)]) [] [] [], .call (.tup [.one (.int .u64 p1), .one (.int .u64 c1)]) [] [] [], .call (.tup [.one (.int .u64 q1), .one (.int .u64 d1)]) [] [] [], .call (.tup [.one (.int .u64 h2), .one (.int .u64 m2)]) [] [] [], .call (.tup [.one (.int .u64 p2), .one (.int .u64 c2)]) [] [] [], .call (.tup [.one (.int .u64 q2), .one (.int .u64 d2)]) [] [] [], .call (.tup [.one (.int .u64 h3), .one (.int .u64 m3)]) [] [] [], .call (.tup [.one (.int .u64 p3), .one (.int .u64 c3)]) [] [] [], .call (.tup [.one (.int .u64 q3), .one (.int .u64 d3)]) [] [] [], .call (.tup [.one (.int .u64 q4), .one (.int .u64 d4)]) [] [] []]) (by kernel_rfl) hc

end Go.Proofs.Ytnndhmnabbkamaa
