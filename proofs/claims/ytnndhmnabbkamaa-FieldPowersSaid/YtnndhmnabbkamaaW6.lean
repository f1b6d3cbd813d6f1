/-
  Ways through the program, by the evaluator: what each comes to, under the conditions that it lists (printed by gen.py).
  Conditions: those that each theorem names.
-/
import Derived.Test.YtnndhmnabbkamaaTab
import Derived.Test.YtnndhmnabbkamaaNum
import Derived.Test.YtnndhmnabbkamaaEv15
namespace Go.Proofs.Ytnndhmnabbkamaa
open Go Go.Ev Go.Proofs
set_option maxRecDepth 100000

theorem nw6_115 : Named Try.prog 115 Try.f115 := ⟨Try.func115, by kernel_rfl, by kernel_rfl⟩
theorem p115 (a : Int) :
    FnOk Try.prog 115 ([nv a]) ([]) (AV.t (AT.agg (Cells.vals [A0.int IntKind.u64 ((l0 a).tmod 4294967296), A0.int IntKind.u64 (IntKind.u64.wrap ((l0 a).tdiv 4294967296)), A0.int IntKind.u64 ((l1 a).tmod 4294967296), A0.int IntKind.u64 (IntKind.u64.wrap ((l1 a).tdiv 4294967296)), A0.int IntKind.u64 ((l2 a).tmod 4294967296), A0.int IntKind.u64 (IntKind.u64.wrap ((l2 a).tdiv 4294967296)), A0.int IntKind.u64 ((l3 a).tmod 4294967296), A0.int IntKind.u64 (IntKind.u64.wrap ((l3 a).tdiv 4294967296))]))) ([]) :=
  fn_run tOk mixed nw6_115 ([]) ([.go]) (by kernel_rfl) (ps := []) trivial

theorem nw6_87 : Named Try.prog 87 Try.f87 := ⟨Try.func87, by kernel_rfl, by kernel_rfl⟩
theorem p87_0 (d0 d1 d2 d3 d4 d5 d6 d7 d8 d9 d10 d11 d12 d13 d14 d15 : Int) :
    FnOk Try.prog 87 ([.agg (.vals [.int .u64 d0, .int .u64 d1, .int .u64 d2, .int .u64 d3, .int .u64 d4, .int .u64 d5, .int .u64 d6, .int .u64 d7, .int .u64 d8, .int .u64 d9, .int .u64 d10, .int .u64 d11, .int .u64 d12, .int .u64 d13, .int .u64 d14, .int .u64 d15]), .one (.lit .i64 0)]) ([]) (AV.t (w4 (IntKind.u64.wrap (d0 + IntKind.u64.wrap (d1 * 4294967296))) (IntKind.u64.wrap (d2 + IntKind.u64.wrap (d3 * 4294967296))) (IntKind.u64.wrap (d4 + IntKind.u64.wrap (d5 * 4294967296))) (IntKind.u64.wrap (d6 + IntKind.u64.wrap (d7 * 4294967296))))) ([]) :=
  fn_run tOk mixed nw6_87 ([]) ([.go]) (by kernel_rfl) (ps := []) trivial

theorem p87_8 (d0 d1 d2 d3 d4 d5 d6 d7 d8 d9 d10 d11 d12 d13 d14 d15 : Int) :
    FnOk Try.prog 87 ([.agg (.vals [.int .u64 d0, .int .u64 d1, .int .u64 d2, .int .u64 d3, .int .u64 d4, .int .u64 d5, .int .u64 d6, .int .u64 d7, .int .u64 d8, .int .u64 d9, .int .u64 d10, .int .u64 d11, .int .u64 d12, .int .u64 d13, .int .u64 d14, .int .u64 d15]), .one (.lit .i64 8)]) ([]) (AV.t (w4 (IntKind.u64.wrap (d8 + IntKind.u64.wrap (d9 * 4294967296))) (IntKind.u64.wrap (d10 + IntKind.u64.wrap (d11 * 4294967296))) (IntKind.u64.wrap (d12 + IntKind.u64.wrap (d13 * 4294967296))) (IntKind.u64.wrap (d14 + IntKind.u64.wrap (d15 * 4294967296))))) ([]) :=
  fn_run tOk mixed nw6_87 ([]) ([.go]) (by kernel_rfl) (ps := []) trivial

theorem r86_i (X Y O : List Int) (i c k : Int) (hc : Conj [
    decide (k < 8) = true,
    0 ≤ i ∧ i < 8,
    0 + i.toNat < X.length,
    0 ≤ k ∧ k < 8,
    0 + k.toNat < Y.length,
    0 ≤ IntKind.i64.wrap (i + k) ∧ IntKind.i64.wrap (i + k) < 16,
    0 + (IntKind.i64.wrap (i + k)).toNat < O.length]) :
    Runs Try.prog (codeAt Try.f86 [1, 1, 1, 1, 1, 1, 0, 1, 0, 0, 1, 0, 0, 1, 0, 1, 0, 0]) (mkT Try.f86.ntmps ([(6, .one (.ptr true 6 0)), (7, .one (.ptr true 7 0)), (8, .one (.ptr true 8 0)), (10, .one (.ptr true 10 0)), (12, .one (.int .i64 (i))), (13, .one (.int .u64 (c))), (14, .one (.int .i64 (k)))]), [(6, { kind := .own, e := 97, c := .ints .u64 [0, 0, 0, 0, 0, 0, 0, 0, 0, 0, 0, 0, 0, 0, 0, 0] }), (7, { kind := .own, e := 128, c := .ints .u64 X }), (8, { kind := .own, e := 128, c := .ints .u64 Y }), (10, { kind := .own, e := 97, c := .ints .u64 O })]) (Exit.normal) (mkT 86 [(6, AV.t (AT.one (A0.ptr true 6 0))), (7, AV.t (AT.one (A0.ptr true 7 0))), (8, AV.t (AT.one (A0.ptr true 8 0))), (10, AV.t (AT.one (A0.ptr true 10 0))), (12, AV.t (AT.one (A0.int IntKind.i64 i))), (13, AV.t (AT.one (A0.int IntKind.u64 (IntKind.u64.wrap ((IntKind.u64.wrap (IntKind.u64.wrap (IntKind.u64.wrap (X.getD (0 + i.toNat) 0 * Y.getD (0 + k.toNat) 0) + O.getD (0 + (IntKind.i64.wrap (i + k)).toNat) 0) + c)).tdiv 4294967296))))), (14, AV.t (AT.one (A0.int IntKind.i64 (IntKind.i64.wrap (k + 1)))))], [(6, Blk.mk BK.own 97 (Cells.ints IntKind.u64 [0, 0, 0, 0, 0, 0, 0, 0, 0, 0, 0, 0, 0, 0, 0, 0]) none), (7, Blk.mk BK.own 128 (Cells.ints IntKind.u64 X) none), (8, Blk.mk BK.own 128 (Cells.ints IntKind.u64 Y) none), (10, Blk.mk BK.own 97 (Cells.ints IntKind.u64 (O.set (0 + (IntKind.i64.wrap (i + k)).toNat) ((IntKind.u64.wrap (IntKind.u64.wrap (IntKind.u64.wrap (X.getD (0 + i.toNat) 0 * Y.getD (0 + k.toNat) 0) + O.getD (0 + (IntKind.i64.wrap (i + k)).toNat) 0) + c)).tmod 4294967296))) none)]) :=
  sel_run tOk mixed [6, 7, 8, 10, 12, 13, 14] [6, 7, 8, 10] ([.yes]) (by kernel_rfl) (Conj.pick hc [0, 1, 2, 3, 4, 5, 6, 5, 6])

theorem r86_io (X Y O : List Int) (i c k : Int) (hc : Conj [
    decide (k < 8) = false]) :
    Runs Try.prog (codeAt Try.f86 [1, 1, 1, 1, 1, 1, 0, 1, 0, 0, 1, 0, 0, 1, 0, 1, 0, 0]) (mkT Try.f86.ntmps ([(6, .one (.ptr true 6 0)), (7, .one (.ptr true 7 0)), (8, .one (.ptr true 8 0)), (10, .one (.ptr true 10 0)), (12, .one (.int .i64 (i))), (13, .one (.int .u64 (c))), (14, .one (.int .i64 (k)))]), [(6, { kind := .own, e := 97, c := .ints .u64 [0, 0, 0, 0, 0, 0, 0, 0, 0, 0, 0, 0, 0, 0, 0, 0] }), (7, { kind := .own, e := 128, c := .ints .u64 X }), (8, { kind := .own, e := 128, c := .ints .u64 Y }), (10, { kind := .own, e := 97, c := .ints .u64 O })]) (Exit.exit 4) (mkT 86 [(6, AV.t (AT.one (A0.ptr true 6 0))), (7, AV.t (AT.one (A0.ptr true 7 0))), (8, AV.t (AT.one (A0.ptr true 8 0))), (10, AV.t (AT.one (A0.ptr true 10 0))), (12, AV.t (AT.one (A0.int IntKind.i64 i))), (13, AV.t (AT.one (A0.int IntKind.u64 c)))], [(6, Blk.mk BK.own 97 (Cells.ints IntKind.u64 [0, 0, 0, 0, 0, 0, 0, 0, 0, 0, 0, 0, 0, 0, 0, 0]) none), (7, Blk.mk BK.own 128 (Cells.ints IntKind.u64 X) none), (8, Blk.mk BK.own 128 (Cells.ints IntKind.u64 Y) none), (10, Blk.mk BK.own 97 (Cells.ints IntKind.u64 O) none)]) :=
  sel_run tOk mixed [6, 7, 8, 10, 12, 13] [6, 7, 8, 10] ([.no]) (by kernel_rfl) hc

theorem r86_c (X Y O : List Int) (i c k : Int) (hc : Conj [
    decide (k < 16) = true,
    decide (c > 0) = true,
    0 ≤ k ∧ k < 16,
    0 + k.toNat < O.length]) :
    Runs Try.prog (codeAt Try.f86 [1, 1, 1, 1, 1, 1, 0, 1, 0, 0, 1, 0, 0, 1, 1, 1, 0, 0]) (mkT Try.f86.ntmps ([(6, .one (.ptr true 6 0)), (7, .one (.ptr true 7 0)), (8, .one (.ptr true 8 0)), (10, .one (.ptr true 10 0)), (12, .one (.int .i64 (i))), (13, .one (.int .u64 (c))), (16, .one (.int .i64 (k)))]), [(6, { kind := .own, e := 97, c := .ints .u64 [0, 0, 0, 0, 0, 0, 0, 0, 0, 0, 0, 0, 0, 0, 0, 0] }), (7, { kind := .own, e := 128, c := .ints .u64 X }), (8, { kind := .own, e := 128, c := .ints .u64 Y }), (10, { kind := .own, e := 97, c := .ints .u64 O })]) (Exit.normal) (mkT 86 [(6, AV.t (AT.one (A0.ptr true 6 0))), (7, AV.t (AT.one (A0.ptr true 7 0))), (8, AV.t (AT.one (A0.ptr true 8 0))), (10, AV.t (AT.one (A0.ptr true 10 0))), (12, AV.t (AT.one (A0.int IntKind.i64 i))), (13, AV.t (AT.one (A0.int IntKind.u64 (IntKind.u64.wrap ((IntKind.u64.wrap (O.getD (0 + k.toNat) 0 + c)).tdiv 4294967296))))), (16, AV.t (AT.one (A0.int IntKind.i64 (IntKind.i64.wrap (k + 1)))))], [(6, Blk.mk BK.own 97 (Cells.ints IntKind.u64 [0, 0, 0, 0, 0, 0, 0, 0, 0, 0, 0, 0, 0, 0, 0, 0]) none), (7, Blk.mk BK.own 128 (Cells.ints IntKind.u64 X) none), (8, Blk.mk BK.own 128 (Cells.ints IntKind.u64 Y) none), (10, Blk.mk BK.own 97 (Cells.ints IntKind.u64 (O.set (0 + k.toNat) ((IntKind.u64.wrap (O.getD (0 + k.toNat) 0 + c)).tmod 4294967296))) none)]) :=
  sel_run tOk mixed [6, 7, 8, 10, 12, 13, 16] [6, 7, 8, 10] ([.yes, .yes, .yes, .yes]) (by kernel_rfl) (Conj.pick hc [0, 0, 0, 1, 2, 3, 2, 3])

theorem r86_co0 (X Y O : List Int) (i c k : Int) (hc : Conj [
    decide (k < 16) = false]) :
    Runs Try.prog (codeAt Try.f86 [1, 1, 1, 1, 1, 1, 0, 1, 0, 0, 1, 0, 0, 1, 1, 1, 0, 0]) (mkT Try.f86.ntmps ([(6, .one (.ptr true 6 0)), (7, .one (.ptr true 7 0)), (8, .one (.ptr true 8 0)), (10, .one (.ptr true 10 0)), (12, .one (.int .i64 (i))), (13, .one (.int .u64 (c))), (16, .one (.int .i64 (k)))]), [(6, { kind := .own, e := 97, c := .ints .u64 [0, 0, 0, 0, 0, 0, 0, 0, 0, 0, 0, 0, 0, 0, 0, 0] }), (7, { kind := .own, e := 128, c := .ints .u64 X }), (8, { kind := .own, e := 128, c := .ints .u64 Y }), (10, { kind := .own, e := 97, c := .ints .u64 O })]) (Exit.exit 6) (mkT 86 [(6, AV.t (AT.one (A0.ptr true 6 0))), (7, AV.t (AT.one (A0.ptr true 7 0))), (8, AV.t (AT.one (A0.ptr true 8 0))), (10, AV.t (AT.one (A0.ptr true 10 0))), (12, AV.t (AT.one (A0.int IntKind.i64 i)))], [(6, Blk.mk BK.own 97 (Cells.ints IntKind.u64 [0, 0, 0, 0, 0, 0, 0, 0, 0, 0, 0, 0, 0, 0, 0, 0]) none), (7, Blk.mk BK.own 128 (Cells.ints IntKind.u64 X) none), (8, Blk.mk BK.own 128 (Cells.ints IntKind.u64 Y) none), (10, Blk.mk BK.own 97 (Cells.ints IntKind.u64 O) none)]) :=
  sel_run tOk mixed [6, 7, 8, 10, 12] [6, 7, 8, 10] ([.no, .no, .no]) (by kernel_rfl) (Conj.pick hc [0, 0, 0])

theorem r86_co1 (X Y O : List Int) (i c k : Int) (hc : Conj [
    decide (k < 16) = true,
    decide (c > 0) = false]) :
    Runs Try.prog (codeAt Try.f86 [1, 1, 1, 1, 1, 1, 0, 1, 0, 0, 1, 0, 0, 1, 1, 1, 0, 0]) (mkT Try.f86.ntmps ([(6, .one (.ptr true 6 0)), (7, .one (.ptr true 7 0)), (8, .one (.ptr true 8 0)), (10, .one (.ptr true 10 0)), (12, .one (.int .i64 (i))), (13, .one (.int .u64 (c))), (16, .one (.int .i64 (k)))]), [(6, { kind := .own, e := 97, c := .ints .u64 [0, 0, 0, 0, 0, 0, 0, 0, 0, 0, 0, 0, 0, 0, 0, 0] }), (7, { kind := .own, e := 128, c := .ints .u64 X }), (8, { kind := .own, e := 128, c := .ints .u64 Y }), (10, { kind := .own, e := 97, c := .ints .u64 O })]) (Exit.exit 6) (mkT 86 [(6, AV.t (AT.one (A0.ptr true 6 0))), (7, AV.t (AT.one (A0.ptr true 7 0))), (8, AV.t (AT.one (A0.ptr true 8 0))), (10, AV.t (AT.one (A0.ptr true 10 0))), (12, AV.t (AT.one (A0.int IntKind.i64 i)))], [(6, Blk.mk BK.own 97 (Cells.ints IntKind.u64 [0, 0, 0, 0, 0, 0, 0, 0, 0, 0, 0, 0, 0, 0, 0, 0]) none), (7, Blk.mk BK.own 128 (Cells.ints IntKind.u64 X) none), (8, Blk.mk BK.own 128 (Cells.ints IntKind.u64 Y) none), (10, Blk.mk BK.own 97 (Cells.ints IntKind.u64 O) none)]) :=
  sel_run tOk mixed [6, 7, 8, 10, 12] [6, 7, 8, 10] ([.yes, .yes, .yes, .no]) (by kernel_rfl) (Conj.pick hc [0, 0, 0, 1])

theorem r86_o (X Y O O1 O2 : List Int) (i c : Int) (hc : Conj [
    decide (i < 8) = true,
    Runs Try.prog (codeAt Try.f86 [1, 1, 1, 1, 1, 1, 0, 1, 0, 0, 1, 0, 0, 1, 0, 1, 0]) (mkT 86 [(6, AV.t (AT.one (A0.ptr true 6 0))), (7, AV.t (AT.one (A0.ptr true 7 0))), (8, AV.t (AT.one (A0.ptr true 8 0))), (10, AV.t (AT.one (A0.ptr true 10 0))), (12, AV.t (AT.one (A0.int IntKind.i64 i))), (13, AV.t (AT.one (A0.lit IntKind.u64 0))), (14, AV.t (AT.one (A0.lit IntKind.i64 0)))], [(6, Blk.mk BK.own 97 (Cells.ints IntKind.u64 [0, 0, 0, 0, 0, 0, 0, 0, 0, 0, 0, 0, 0, 0, 0, 0]) none), (7, Blk.mk BK.own 128 (Cells.ints IntKind.u64 X) none), (8, Blk.mk BK.own 128 (Cells.ints IntKind.u64 Y) none), (10, Blk.mk BK.own 97 (Cells.ints IntKind.u64 O) none)]) (Exit.exit 4) (mkT 86 [(6, AV.one (A0.ptr true 6 0)), (7, AV.one (A0.ptr true 7 0)), (8, AV.one (A0.ptr true 8 0)), (10, AV.one (A0.ptr true 10 0)), (12, AV.one (A0.int IntKind.i64 i)), (13, AV.one (A0.int IntKind.u64 c))], [(6, Blk.mk BK.own 97 (Cells.ints IntKind.u64 [0, 0, 0, 0, 0, 0, 0, 0, 0, 0, 0, 0, 0, 0, 0, 0]) none), (7, Blk.mk BK.own 128 (Cells.ints IntKind.u64 X) none), (8, Blk.mk BK.own 128 (Cells.ints IntKind.u64 Y) none), (10, Blk.mk BK.own 97 (Cells.ints IntKind.u64 O1) none)]),
    Runs Try.prog (codeAt Try.f86 [1, 1, 1, 1, 1, 1, 0, 1, 0, 0, 1, 0, 0, 1, 1, 1, 0]) (mkT 86 [(6, AV.t (AT.one (A0.ptr true 6 0))), (7, AV.t (AT.one (A0.ptr true 7 0))), (8, AV.t (AT.one (A0.ptr true 8 0))), (10, AV.t (AT.one (A0.ptr true 10 0))), (12, AV.t (AT.one (A0.int IntKind.i64 i))), (13, AV.t (AT.one (A0.int IntKind.u64 c))), (16, AV.t (AT.one (A0.int IntKind.i64 (IntKind.i64.wrap (i + 8)))))], [(6, Blk.mk BK.own 97 (Cells.ints IntKind.u64 [0, 0, 0, 0, 0, 0, 0, 0, 0, 0, 0, 0, 0, 0, 0, 0]) none), (7, Blk.mk BK.own 128 (Cells.ints IntKind.u64 X) none), (8, Blk.mk BK.own 128 (Cells.ints IntKind.u64 Y) none), (10, Blk.mk BK.own 97 (Cells.ints IntKind.u64 O1) none)]) (Exit.exit 6) (mkT 86 [(6, AV.one (A0.ptr true 6 0)), (7, AV.one (A0.ptr true 7 0)), (8, AV.one (A0.ptr true 8 0)), (10, AV.one (A0.ptr true 10 0)), (12, AV.one (A0.int IntKind.i64 i))], [(6, Blk.mk BK.own 97 (Cells.ints IntKind.u64 [0, 0, 0, 0, 0, 0, 0, 0, 0, 0, 0, 0, 0, 0, 0, 0]) none), (7, Blk.mk BK.own 128 (Cells.ints IntKind.u64 X) none), (8, Blk.mk BK.own 128 (Cells.ints IntKind.u64 Y) none), (10, Blk.mk BK.own 97 (Cells.ints IntKind.u64 O2) none)])]) :
    Runs Try.prog (codeAt Try.f86 [1, 1, 1, 1, 1, 1, 0, 1, 0, 0]) (mkT Try.f86.ntmps ([(6, .one (.ptr true 6 0)), (7, .one (.ptr true 7 0)), (8, .one (.ptr true 8 0)), (10, .one (.ptr true 10 0)), (12, .one (.int .i64 (i)))]), [(6, { kind := .own, e := 97, c := .ints .u64 [0, 0, 0, 0, 0, 0, 0, 0, 0, 0, 0, 0, 0, 0, 0, 0] }), (7, { kind := .own, e := 128, c := .ints .u64 X }), (8, { kind := .own, e := 128, c := .ints .u64 Y }), (10, { kind := .own, e := 97, c := .ints .u64 O })]) (Exit.normal) (mkT 86 [(6, AV.t (AT.one (A0.ptr true 6 0))), (7, AV.t (AT.one (A0.ptr true 7 0))), (8, AV.t (AT.one (A0.ptr true 8 0))), (10, AV.t (AT.one (A0.ptr true 10 0))), (12, AV.t (AT.one (A0.int IntKind.i64 (IntKind.i64.wrap (i + 1)))))], [(6, Blk.mk BK.own 97 (Cells.ints IntKind.u64 [0, 0, 0, 0, 0, 0, 0, 0, 0, 0, 0, 0, 0, 0, 0, 0]) none), (7, Blk.mk BK.own 128 (Cells.ints IntKind.u64 X) none), (8, Blk.mk BK.own 128 (Cells.ints IntKind.u64 Y) none), (10, Blk.mk BK.own 97 (Cells.ints IntKind.u64 O2) none)]) :=
  sel_run tOk mixed [6, 7, 8, 10, 12] [6, 7, 8, 10] ([.yes, .seg [6, 7, 8, 10, 12, 13, 14] [6, 7, 8, 10] (.exit 4) (mkT 86 [(6, .one (.ptr true 6 0)), (7, .one (.ptr true 7 0)), (8, .one (.ptr true 8 0)), (10, .one (.ptr true 10 0)), (12, .one (.int .i64 (i))), (13, .one (.int .u64 (c)))]) [(6, { kind := .own, e := 97, c := .ints .u64 [0, 0, 0, 0, 0, 0, 0, 0, 0, 0, 0, 0, 0, 0, 0, 0] }), (7, { kind := .own, e := 128, c := .ints .u64 X }), (8, { kind := .own, e := 128, c := .ints .u64 Y }), (10, { kind := .own, e := 97, c := .ints .u64 O1 })], .seg [6, 7, 8, 10, 12, 13, 16] [6, 7, 8, 10] (.exit 6) (mkT 86 [(6, .one (.ptr true 6 0)), (7, .one (.ptr true 7 0)), (8, .one (.ptr true 8 0)), (10, .one (.ptr true 10 0)), (12, .one (.int .i64 (i)))]) [(6, { kind := .own, e := 97, c := .ints .u64 [0, 0, 0, 0, 0, 0, 0, 0, 0, 0, 0, 0, 0, 0, 0, 0] }), (7, { kind := .own, e := 128, c := .ints .u64 X }), (8, { kind := .own, e := 128, c := .ints .u64 Y }), (10, { kind := .own, e := 97, c := .ints .u64 O2 })]]) (by kernel_rfl) hc

theorem r86_oo (X Y O : List Int) (i : Int) (hc : Conj [
    decide (i < 8) = false]) :
    Runs Try.prog (codeAt Try.f86 [1, 1, 1, 1, 1, 1, 0, 1, 0, 0]) (mkT Try.f86.ntmps ([(6, .one (.ptr true 6 0)), (7, .one (.ptr true 7 0)), (8, .one (.ptr true 8 0)), (10, .one (.ptr true 10 0)), (12, .one (.int .i64 (i)))]), [(6, { kind := .own, e := 97, c := .ints .u64 [0, 0, 0, 0, 0, 0, 0, 0, 0, 0, 0, 0, 0, 0, 0, 0] }), (7, { kind := .own, e := 128, c := .ints .u64 X }), (8, { kind := .own, e := 128, c := .ints .u64 Y }), (10, { kind := .own, e := 97, c := .ints .u64 O })]) (Exit.exit 2) (mkT 86 [(6, AV.t (AT.one (A0.ptr true 6 0))), (10, AV.t (AT.one (A0.ptr true 10 0)))], [(6, Blk.mk BK.own 97 (Cells.ints IntKind.u64 [0, 0, 0, 0, 0, 0, 0, 0, 0, 0, 0, 0, 0, 0, 0, 0]) none), (10, Blk.mk BK.own 97 (Cells.ints IntKind.u64 O) none)]) :=
  sel_run tOk mixed [6, 10] [6, 10] ([.no]) (by kernel_rfl) hc

theorem nw6_86 : Named Try.prog 86 Try.f86 := ⟨Try.func86, by kernel_rfl, by kernel_rfl⟩
theorem p86 (a b c : Int) (X Y O : List Int) (z0 z1 z2 z3 z4 z5 z6 z7 : Int) (hc : Conj [
    CallOk Try.prog 115 [nv a] [] (AV.t (AT.agg (Cells.ints IntKind.u64 X))) [] [],
    X.length = 8,
    CallOk Try.prog 115 [nv b] [] (AV.t (AT.agg (Cells.ints IntKind.u64 Y))) [] [],
    Y.length = 8,
    CallOk Try.prog 115 [nv c] [] (AV.t (AT.agg (Cells.vals [A0.int IntKind.u64 z0, A0.int IntKind.u64 z1, A0.int IntKind.u64 z2, A0.int IntKind.u64 z3, A0.int IntKind.u64 z4, A0.int IntKind.u64 z5, A0.int IntKind.u64 z6, A0.int IntKind.u64 z7]))) [] [],
    0 < 16,
    1 < 16,
    2 < 16,
    3 < 16,
    4 < 16,
    5 < 16,
    6 < 16,
    7 < 16,
    Runs Try.prog (codeAt Try.f86 [1, 1, 1, 1, 1, 1, 0, 1, 0]) (mkT 86 [(6, AV.t (AT.one (A0.ptr true 6 0))), (7, AV.t (AT.one (A0.ptr true 7 0))), (8, AV.t (AT.one (A0.ptr true 8 0))), (10, AV.t (AT.one (A0.ptr true 10 0))), (12, AV.t (AT.one (A0.lit IntKind.i64 0)))], [(6, Blk.mk BK.own 97 (Cells.ints IntKind.u64 [0, 0, 0, 0, 0, 0, 0, 0, 0, 0, 0, 0, 0, 0, 0, 0]) none), (7, Blk.mk BK.own 128 (Cells.ints IntKind.u64 X) none), (8, Blk.mk BK.own 128 (Cells.ints IntKind.u64 Y) none), (10, Blk.mk BK.own 97 (Cells.ints IntKind.u64 [z0, z1, z2, z3, z4, z5, z6, z7, 0, 0, 0, 0, 0, 0, 0, 0]) none)]) (Exit.exit 2) (mkT 86 [(6, AV.one (A0.ptr true 6 0)), (10, AV.one (A0.ptr true 10 0))], [(6, Blk.mk BK.own 97 (Cells.ints IntKind.u64 [0, 0, 0, 0, 0, 0, 0, 0, 0, 0, 0, 0, 0, 0, 0, 0]) none), (10, Blk.mk BK.own 97 (Cells.ints IntKind.u64 O) none)]),
    O.length = 16,
    16 = 16]) :
    FnOk Try.prog 86 ([nv a, nv b, nv c]) ([]) (AV.t (AT.agg (Cells.ints IntKind.u64 O))) ([]) :=
  fn_run tOk mixed nw6_86 ([]) ([.call (.t (.agg (.ints .u64 X))) [] [] [], .call (.t (.agg (.ints .u64 Y))) [] [] [], .call (.t (.agg (.vals [.int .u64 z0, .int .u64 z1, .int .u64 z2, .int .u64 z3, .int .u64 z4, .int .u64 z5, .int .u64 z6, .int .u64 z7]))) [] [] [], .go, .seg [6, 7, 8, 10, 12] [6, 7, 8, 10] (.exit 2) (mkT 86 [(6, .one (.ptr true 6 0)), (10, .one (.ptr true 10 0))]) [(6, { kind := .own, e := 97, c := .ints .u64 [0, 0, 0, 0, 0, 0, 0, 0, 0, 0, 0, 0, 0, 0, 0, 0] }), (10, { kind := .own, e := 97, c := .ints .u64 O })]]) (by kernel_rfl) (Conj.pick hc [0, 1, 2, 3, 4, 5, 6, 7, 8, 9, 10, 11, 12, 13, 14, 14, 15, 14])

theorem r29 (O O1 : List Int) (m d i h l : Int) (hc : Conj [
    decide (i < 600) = true,
    O.length = 16,
    CallOk Try.prog 87 [AT.agg (Cells.ints IntKind.u64 O), AT.one (A0.lit IntKind.i64 8)] [] (AV.t (nv h)) [] [],
    (!decide ([l0 h, l1 h, l2 h, l3 h] = [0, 0, 0, 0])) = true,
    CallOk Try.prog 87 [AT.agg (Cells.ints IntKind.u64 O), AT.one (A0.lit IntKind.i64 0)] [] (AV.t (nv l)) [] [],
    CallOk Try.prog 86 [nv h, nv d, nv l] [] (AV.t (AT.agg (Cells.ints IntKind.u64 O1))) [] [],
    O1.length = 16]) :
    Runs Try.prog (codeAt Try.f29 [1, 1, 1, 1, 0, 1, 0, 0]) (mkT Try.f29.ntmps ([(5, .one (.ptr true 5 0)), (6, .one (.ptr true 6 0)), (7, .one (.ptr true 7 0)), (8, .one (.ptr true 8 0)), (9, .one (.ptr true 9 0)), (10, .one (.int .i64 (i)))]), [(5, { kind := .own, e := 24, c := .vals [.int .u64 (l0 m), .int .u64 (l1 m), .int .u64 (l2 m), .int .u64 (l3 m)] }), (6, { kind := .own, e := 24, c := .vals [.lit .u64 0, .lit .u64 0, .lit .u64 0, .lit .u64 0] }), (7, { kind := .own, e := 24, c := .vals [.lit .u64 0, .lit .u64 0, .lit .u64 0, .lit .u64 0] }), (8, { kind := .own, e := 24, c := .vals [.int .u64 (l0 d), .int .u64 (l1 d), .int .u64 (l2 d), .int .u64 (l3 d)] }), (9, { kind := .own, e := 97, c := .ints .u64 O })]) (Exit.normal) (mkT 39 [(5, AV.t (AT.one (A0.ptr true 5 0))), (6, AV.t (AT.one (A0.ptr true 6 0))), (7, AV.t (AT.one (A0.ptr true 7 0))), (8, AV.t (AT.one (A0.ptr true 8 0))), (9, AV.t (AT.one (A0.ptr true 9 0))), (10, AV.t (AT.one (A0.int IntKind.i64 (IntKind.i64.wrap (i + 1)))))], [(5, Blk.mk BK.own 24 (Cells.vals [A0.int IntKind.u64 (l0 m), A0.int IntKind.u64 (l1 m), A0.int IntKind.u64 (l2 m), A0.int IntKind.u64 (l3 m)]) none), (6, Blk.mk BK.own 24 (Cells.vals [A0.lit IntKind.u64 0, A0.lit IntKind.u64 0, A0.lit IntKind.u64 0, A0.lit IntKind.u64 0]) none), (7, Blk.mk BK.own 24 (Cells.vals [A0.lit IntKind.u64 0, A0.lit IntKind.u64 0, A0.lit IntKind.u64 0, A0.lit IntKind.u64 0]) none), (8, Blk.mk BK.own 24 (Cells.vals [A0.int IntKind.u64 (l0 d), A0.int IntKind.u64 (l1 d), A0.int IntKind.u64 (l2 d), A0.int IntKind.u64 (l3 d)]) none), (9, Blk.mk BK.own 97 (Cells.ints IntKind.u64 O1) none)]) :=
  sel_run tOk mixed [5, 6, 7, 8, 9, 10] [5, 6, 7, 8, 9] ([.yes, .yes, .call (.t (nv h)) [] [] [], .yes, .yes, .yes, .yes, .call (.t (nv h)) [] [] [], .call (.t (nv l)) [] [] [], .call (.t (.agg (.ints .u64 O1))) [] [] []]) (by kernel_rfl) (Conj.pick hc [0, 1, 0, 2, 0, 0, 0, 3, 1, 2, 1, 4, 5, 6, 1])

theorem r29_o (O : List Int) (m d i h : Int) (hc : Conj [
    decide (i < 600) = true,
    O.length = 16,
    CallOk Try.prog 87 [AT.agg (Cells.ints IntKind.u64 O), AT.one (A0.lit IntKind.i64 8)] [] (AV.t (nv h)) [] [],
    (!decide ([l0 h, l1 h, l2 h, l3 h] = [0, 0, 0, 0])) = false]) :
    Runs Try.prog (codeAt Try.f29 [1, 1, 1, 1, 0, 1, 0, 0]) (mkT Try.f29.ntmps ([(5, .one (.ptr true 5 0)), (6, .one (.ptr true 6 0)), (7, .one (.ptr true 7 0)), (8, .one (.ptr true 8 0)), (9, .one (.ptr true 9 0)), (10, .one (.int .i64 (i)))]), [(5, { kind := .own, e := 24, c := .vals [.int .u64 (l0 m), .int .u64 (l1 m), .int .u64 (l2 m), .int .u64 (l3 m)] }), (6, { kind := .own, e := 24, c := .vals [.lit .u64 0, .lit .u64 0, .lit .u64 0, .lit .u64 0] }), (7, { kind := .own, e := 24, c := .vals [.lit .u64 0, .lit .u64 0, .lit .u64 0, .lit .u64 0] }), (8, { kind := .own, e := 24, c := .vals [.int .u64 (l0 d), .int .u64 (l1 d), .int .u64 (l2 d), .int .u64 (l3 d)] }), (9, { kind := .own, e := 97, c := .ints .u64 O })]) (Exit.exit 0) (mkT 39 [(5, AV.t (AT.one (A0.ptr true 5 0))), (6, AV.t (AT.one (A0.ptr true 6 0))), (9, AV.t (AT.one (A0.ptr true 9 0)))], [(5, Blk.mk BK.own 24 (Cells.vals [A0.int IntKind.u64 (l0 m), A0.int IntKind.u64 (l1 m), A0.int IntKind.u64 (l2 m), A0.int IntKind.u64 (l3 m)]) none), (6, Blk.mk BK.own 24 (Cells.vals [A0.lit IntKind.u64 0, A0.lit IntKind.u64 0, A0.lit IntKind.u64 0, A0.lit IntKind.u64 0]) none), (9, Blk.mk BK.own 97 (Cells.ints IntKind.u64 O) none)]) :=
  sel_run tOk mixed [5, 6, 9] [5, 6, 9] ([.yes, .yes, .call (.t (nv h)) [] [] [], .yes, .yes, .yes, .no]) (by kernel_rfl) (Conj.pick hc [0, 1, 0, 2, 0, 0, 0, 3])

theorem nw6_29 : Named Try.prog 29 Try.f29 := ⟨Try.func29, by kernel_rfl, by kernel_rfl⟩
theorem p29 (a b m d l r : Int) (O O1 : List Int) (hc : Conj [
    CallOk Try.prog 82 [AT.agg (Cells.vals [A0.lit IntKind.u64 0, A0.lit IntKind.u64 0, A0.lit IntKind.u64 0, A0.lit IntKind.u64 0]), nv m] [] (AV.t (nv d)) [] [],
    CallOk Try.prog 86 [nv a, nv b, AT.agg (Cells.vals [A0.lit IntKind.u64 0, A0.lit IntKind.u64 0, A0.lit IntKind.u64 0, A0.lit IntKind.u64 0])] [] (AV.t (AT.agg (Cells.ints IntKind.u64 O))) [] [],
    O.length = 16,
    16 = 16,
    Runs Try.prog (codeAt Try.f29 [1, 1, 1, 1, 0, 1, 0]) (mkT 39 [(5, AV.t (AT.one (A0.ptr true 5 0))), (6, AV.t (AT.one (A0.ptr true 6 0))), (7, AV.t (AT.one (A0.ptr true 7 0))), (8, AV.t (AT.one (A0.ptr true 8 0))), (9, AV.t (AT.one (A0.ptr true 9 0))), (10, AV.t (AT.one (A0.lit IntKind.i64 0)))], [(5, Blk.mk BK.own 24 (Cells.vals [A0.int IntKind.u64 (l0 m), A0.int IntKind.u64 (l1 m), A0.int IntKind.u64 (l2 m), A0.int IntKind.u64 (l3 m)]) none), (6, Blk.mk BK.own 24 (Cells.vals [A0.lit IntKind.u64 0, A0.lit IntKind.u64 0, A0.lit IntKind.u64 0, A0.lit IntKind.u64 0]) none), (7, Blk.mk BK.own 24 (Cells.vals [A0.lit IntKind.u64 0, A0.lit IntKind.u64 0, A0.lit IntKind.u64 0, A0.lit IntKind.u64 0]) none), (8, Blk.mk BK.own 24 (Cells.vals [A0.int IntKind.u64 (l0 d), A0.int IntKind.u64 (l1 d), A0.int IntKind.u64 (l2 d), A0.int IntKind.u64 (l3 d)]) none), (9, Blk.mk BK.own 97 (Cells.ints IntKind.u64 O) none)]) (Exit.exit 0) (mkT 39 [(5, AV.one (A0.ptr true 5 0)), (6, AV.one (A0.ptr true 6 0)), (9, AV.one (A0.ptr true 9 0))], [(5, Blk.mk BK.own 24 (Cells.vals [A0.int IntKind.u64 (l0 m), A0.int IntKind.u64 (l1 m), A0.int IntKind.u64 (l2 m), A0.int IntKind.u64 (l3 m)]) none), (6, Blk.mk BK.own 24 (Cells.vals [A0.lit IntKind.u64 0, A0.lit IntKind.u64 0, A0.lit IntKind.u64 0, A0.lit IntKind.u64 0]) none), (9, Blk.mk BK.own 97 (Cells.ints IntKind.u64 O1) none)]),
    O1.length = 16,
    CallOk Try.prog 87 [AT.agg (Cells.ints IntKind.u64 O1), AT.one (A0.lit IntKind.i64 0)] [] (AV.t (nv l)) [] [],
    CallOk Try.prog 23 [nv l, AT.one (A0.blit false), nv m] [] (AV.t (nv r)) [] []]) :
    FnOk Try.prog 29 ([nv a, nv b, nv m]) ([]) (AV.t (nv r)) ([]) :=
  fn_run tOk mixed nw6_29 ([]) ([.call (.t (nv d)) [] [] [], .call (.t (.agg (.ints .u64 O))) [] [] [], .seg [5, 6, 7, 8, 9, 10] [5, 6, 7, 8, 9] (.exit 0) (mkT 39 [(5, .one (.ptr true 5 0)), (6, .one (.ptr true 6 0)), (9, .one (.ptr true 9 0))]) [(5, { kind := .own, e := 24, c := .vals [.int .u64 (l0 m), .int .u64 (l1 m), .int .u64 (l2 m), .int .u64 (l3 m)] }), (6, { kind := .own, e := 24, c := .vals [.lit .u64 0, .lit .u64 0, .lit .u64 0, .lit .u64 0] }), (9, { kind := .own, e := 97, c := .ints .u64 O1 })], .call (.t (nv l)) [] [] [], .call (.t (nv r)) [] [] []]) (by kernel_rfl) hc

end Go.Proofs.Ytnndhmnabbkamaa
