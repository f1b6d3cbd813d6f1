/-
  The types of the program, as the evaluator asks for them.
  Conditions: none.
-/
import Derived.Test.YtnndhmnabbkamaaEv14
import Derived.Test.YtnndhmnabbkamaaProg
namespace Go.Proofs.Ytnndhmnabbkamaa
open Go Go.Ev

noncomputable def ti1 : TI := { und := Try.t1.desc, size := 1, bytes := 8, zero := .one (.val .nilFunc), flat := none }
theorem ti1_ok : TIOk Try.prog 1 ti1 := tiOk (by kernel_rfl) (by kernel_rfl) (by kernel_rfl) (fun _ => by kernel_rfl) (flat_none)
noncomputable def ti2 : TI := { und := Try.t2.desc, size := 1, bytes := 8, zero := .one (.lit .i64 0), flat := none }
theorem ti2_ok : TIOk Try.prog 2 ti2 := tiOk (by kernel_rfl) (by kernel_rfl) (by kernel_rfl) (fun _ => by kernel_rfl) (flat_none)
noncomputable def ti3 : TI := { und := Try.t3.desc, size := 1, bytes := 8, zero := .one (.lit .i64 0), flat := none }
theorem ti3_ok : TIOk Try.prog 3 ti3 := tiOk (by kernel_rfl) (by kernel_rfl) (by kernel_rfl) (fun _ => by kernel_rfl) (flat_none)
noncomputable def ti4 : TI := { und := Try.t4.desc, size := 1, bytes := 1, zero := .one (.blit false), flat := none }
theorem ti4_ok : TIOk Try.prog 4 ti4 := tiOk (by kernel_rfl) (by kernel_rfl) (by kernel_rfl) (fun _ => by kernel_rfl) (flat_none)
noncomputable def ti5 : TI := { und := Try.t5.desc, size := 1, bytes := 1, zero := .one (.lit .u8 0), flat := none }
theorem ti5_ok : TIOk Try.prog 5 ti5 := tiOk (by kernel_rfl) (by kernel_rfl) (by kernel_rfl) (fun _ => by kernel_rfl) (flat_none)
noncomputable def ti6 : TI := { und := Try.t5.desc, size := 1, bytes := 1, zero := .one (.lit .u8 0), flat := none }
theorem ti6_ok : TIOk Try.prog 6 ti6 := tiOk (by kernel_rfl) (by kernel_rfl) (by kernel_rfl) (fun _ => by kernel_rfl) (flat_none)
noncomputable def ti7 : TI := { und := Try.t7.desc, size := 4, bytes := 24, zero := .agg (.vals [.lit .i64 0, .lit .i64 0, .blit false, .lit .u8 0]), flat := none }
theorem ti7_ok : TIOk Try.prog 7 ti7 := tiOk (by kernel_rfl) (by kernel_rfl) (by kernel_rfl) (fun _ => by kernel_rfl) (flat_none)
noncomputable def ti8 : TI := { und := Try.t7.desc, size := 4, bytes := 24, zero := .agg (.vals [.lit .i64 0, .lit .i64 0, .blit false, .lit .u8 0]), flat := none }
theorem ti8_ok : TIOk Try.prog 8 ti8 := tiOk (by kernel_rfl) (by kernel_rfl) (by kernel_rfl) (fun _ => by kernel_rfl) (flat_none)
noncomputable def ti9 : TI := { und := Try.t9.desc, size := 1, bytes := 16, zero := .one (.str ⟨#[]⟩), flat := none }
theorem ti9_ok : TIOk Try.prog 9 ti9 := tiOk (by kernel_rfl) (by kernel_rfl) (by kernel_rfl) (fun _ => by kernel_rfl) (flat_none)
noncomputable def ti10 : TI := { und := Try.t9.desc, size := 1, bytes := 16, zero := .one (.str ⟨#[]⟩), flat := none }
theorem ti10_ok : TIOk Try.prog 10 ti10 := tiOk (by kernel_rfl) (by kernel_rfl) (by kernel_rfl) (fun _ => by kernel_rfl) (flat_none)
noncomputable def ti11 : TI := { und := Try.t9.desc, size := 1, bytes := 16, zero := .one (.str ⟨#[]⟩), flat := none }
theorem ti11_ok : TIOk Try.prog 11 ti11 := tiOk (by kernel_rfl) (by kernel_rfl) (by kernel_rfl) (fun _ => by kernel_rfl) (flat_none)
noncomputable def ti12 : TI := { und := Try.t12.desc, size := 1, bytes := 8, zero := .one (.lit .u64 0), flat := none }
theorem ti12_ok : TIOk Try.prog 12 ti12 := tiOk (by kernel_rfl) (by kernel_rfl) (by kernel_rfl) (fun _ => by kernel_rfl) (flat_none)
noncomputable def ti13 : TI := { und := Try.t13.desc, size := 2, bytes := 24, zero := .agg (.vals [.str ⟨#[]⟩, .lit .u64 0]), flat := none }
theorem ti13_ok : TIOk Try.prog 13 ti13 := tiOk (by kernel_rfl) (by kernel_rfl) (by kernel_rfl) (fun _ => by kernel_rfl) (flat_none)
noncomputable def ti14 : TI := { und := Try.t13.desc, size := 2, bytes := 24, zero := .agg (.vals [.str ⟨#[]⟩, .lit .u64 0]), flat := none }
theorem ti14_ok : TIOk Try.prog 14 ti14 := tiOk (by kernel_rfl) (by kernel_rfl) (by kernel_rfl) (fun _ => by kernel_rfl) (flat_none)
noncomputable def ti15 : TI := { und := Try.t15.desc, size := 1, bytes := 8, zero := .one (.nilp), flat := none }
theorem ti15_ok : TIOk Try.prog 15 ti15 := tiOk (by kernel_rfl) (by kernel_rfl) (by kernel_rfl) (fun _ => by kernel_rfl) (flat_none)
noncomputable def ti16 : TI := { und := Try.t16.desc, size := 1, bytes := 8, zero := .one (.nilp), flat := none }
theorem ti16_ok : TIOk Try.prog 16 ti16 := tiOk (by kernel_rfl) (by kernel_rfl) (by kernel_rfl) (fun _ => by kernel_rfl) (flat_none)
noncomputable def ti17 : TI := { und := Try.t17.desc, size := 1, bytes := 8, zero := .one (.nilp), flat := none }
theorem ti17_ok : TIOk Try.prog 17 ti17 := tiOk (by kernel_rfl) (by kernel_rfl) (by kernel_rfl) (fun _ => by kernel_rfl) (flat_none)
noncomputable def ti18 : TI := { und := Try.t18.desc, size := 1, bytes := 8, zero := .agg (.vals [.nilp]), flat := none }
theorem ti18_ok : TIOk Try.prog 18 ti18 := tiOk (by kernel_rfl) (by kernel_rfl) (by kernel_rfl) (fun _ => by kernel_rfl) (flat_none)
noncomputable def ti19 : TI := { und := Try.t18.desc, size := 1, bytes := 8, zero := .agg (.vals [.nilp]), flat := none }
theorem ti19_ok : TIOk Try.prog 19 ti19 := tiOk (by kernel_rfl) (by kernel_rfl) (by kernel_rfl) (fun _ => by kernel_rfl) (flat_none)
noncomputable def ti20 : TI := { und := Try.t20.desc, size := 1, bytes := 16, zero := .one (.val .nilIface), flat := none }
theorem ti20_ok : TIOk Try.prog 20 ti20 := tiOk (by kernel_rfl) (by kernel_rfl) (by kernel_rfl) (fun _ => by kernel_rfl) (flat_none)
noncomputable def ti21 : TI := { und := Try.t21.desc, size := 1, bytes := 4, zero := .one (.lit .i32 0), flat := none }
theorem ti21_ok : TIOk Try.prog 21 ti21 := tiOk (by kernel_rfl) (by kernel_rfl) (by kernel_rfl) (fun _ => by kernel_rfl) (flat_none)
noncomputable def ti22 : TI := { und := Try.t22.desc, size := 1, bytes := 8, zero := .one (.lit .u64 0), flat := none }
theorem ti22_ok : TIOk Try.prog 22 ti22 := tiOk (by kernel_rfl) (by kernel_rfl) (by kernel_rfl) (fun _ => by kernel_rfl) (flat_none)
noncomputable def ti23 : TI := { und := Try.t23.desc, size := 4, bytes := 32, zero := .agg (.vals [.lit .u64 0, .lit .u64 0, .lit .u64 0, .lit .u64 0]), flat := some [.int .u64, .int .u64, .int .u64, .int .u64] }
theorem ti23_ok : TIOk Try.prog 23 ti23 := tiOk (by kernel_rfl) (by kernel_rfl) (by kernel_rfl) (fun _ => by kernel_rfl) (flat_some (flatOk (m := 6) (by kernel_rfl) (by decide) (by kernel_rfl) (by kernel_rfl)))
noncomputable def ti24 : TI := { und := Try.t23.desc, size := 4, bytes := 32, zero := .agg (.vals [.lit .u64 0, .lit .u64 0, .lit .u64 0, .lit .u64 0]), flat := some [.int .u64, .int .u64, .int .u64, .int .u64] }
theorem ti24_ok : TIOk Try.prog 24 ti24 := tiOk (by kernel_rfl) (by kernel_rfl) (by kernel_rfl) (fun _ => by kernel_rfl) (flat_some (flatOk (m := 6) (by kernel_rfl) (by decide) (by kernel_rfl) (by kernel_rfl)))
noncomputable def ti25 : TI := { und := Try.t25.desc, size := 1, bytes := 8, zero := .one (.val .nilFunc), flat := none }
theorem ti25_ok : TIOk Try.prog 25 ti25 := tiOk (by kernel_rfl) (by kernel_rfl) (by kernel_rfl) (fun _ => by kernel_rfl) (flat_none)
noncomputable def ti27 : TI := { und := Try.t27.desc, size := 1, bytes := 8, zero := .one (.val .nilFunc), flat := none }
theorem ti27_ok : TIOk Try.prog 27 ti27 := tiOk (by kernel_rfl) (by kernel_rfl) (by kernel_rfl) (fun _ => by kernel_rfl) (flat_none)
noncomputable def ti28 : TI := { und := Try.t3.desc, size := 1, bytes := 8, zero := .one (.lit .i64 0), flat := none }
theorem ti28_ok : TIOk Try.prog 28 ti28 := tiOk (by kernel_rfl) (by kernel_rfl) (by kernel_rfl) (fun _ => by kernel_rfl) (flat_none)
noncomputable def ti30 : TI := { und := Try.t30.desc, size := 1, bytes := 8, zero := .one (.val .nilFunc), flat := none }
theorem ti30_ok : TIOk Try.prog 30 ti30 := tiOk (by kernel_rfl) (by kernel_rfl) (by kernel_rfl) (fun _ => by kernel_rfl) (flat_none)
noncomputable def ti31 : TI := { und := Try.t31.desc, size := 1, bytes := 8, zero := .one (.val .nilFunc), flat := none }
theorem ti31_ok : TIOk Try.prog 31 ti31 := tiOk (by kernel_rfl) (by kernel_rfl) (by kernel_rfl) (fun _ => by kernel_rfl) (flat_none)
noncomputable def ti32 : TI := { und := Try.t32.desc, size := 1, bytes := 8, zero := .one (.val .nilFunc), flat := none }
theorem ti32_ok : TIOk Try.prog 32 ti32 := tiOk (by kernel_rfl) (by kernel_rfl) (by kernel_rfl) (fun _ => by kernel_rfl) (flat_none)
noncomputable def ti33 : TI := { und := Try.t33.desc, size := 1, bytes := 8, zero := .one (.val .nilFunc), flat := none }
theorem ti33_ok : TIOk Try.prog 33 ti33 := tiOk (by kernel_rfl) (by kernel_rfl) (by kernel_rfl) (fun _ => by kernel_rfl) (flat_none)
noncomputable def ti34 : TI := { und := Try.t34.desc, size := 1, bytes := 8, zero := .one (.val .nilFunc), flat := none }
theorem ti34_ok : TIOk Try.prog 34 ti34 := tiOk (by kernel_rfl) (by kernel_rfl) (by kernel_rfl) (fun _ => by kernel_rfl) (flat_none)
noncomputable def ti35 : TI := { und := Try.t35.desc, size := 1, bytes := 8, zero := .one (.val .nilFunc), flat := none }
theorem ti35_ok : TIOk Try.prog 35 ti35 := tiOk (by kernel_rfl) (by kernel_rfl) (by kernel_rfl) (fun _ => by kernel_rfl) (flat_none)
noncomputable def ti36 : TI := { und := Try.t36.desc, size := 1, bytes := 8, zero := .one (.val .nilFunc), flat := none }
theorem ti36_ok : TIOk Try.prog 36 ti36 := tiOk (by kernel_rfl) (by kernel_rfl) (by kernel_rfl) (fun _ => by kernel_rfl) (flat_none)
noncomputable def ti37 : TI := { und := Try.t37.desc, size := 1, bytes := 8, zero := .one (.val .nilFunc), flat := none }
theorem ti37_ok : TIOk Try.prog 37 ti37 := tiOk (by kernel_rfl) (by kernel_rfl) (by kernel_rfl) (fun _ => by kernel_rfl) (flat_none)
noncomputable def ti38 : TI := { und := Try.t38.desc, size := 1, bytes := 8, zero := .one (.val .nilFunc), flat := none }
theorem ti38_ok : TIOk Try.prog 38 ti38 := tiOk (by kernel_rfl) (by kernel_rfl) (by kernel_rfl) (fun _ => by kernel_rfl) (flat_none)
noncomputable def ti39 : TI := { und := Try.t39.desc, size := 1, bytes := 8, zero := .one (.val .nilFunc), flat := none }
theorem ti39_ok : TIOk Try.prog 39 ti39 := tiOk (by kernel_rfl) (by kernel_rfl) (by kernel_rfl) (fun _ => by kernel_rfl) (flat_none)
noncomputable def ti40 : TI := { und := Try.t40.desc, size := 1, bytes := 8, zero := .one (.val .nilFunc), flat := none }
theorem ti40_ok : TIOk Try.prog 40 ti40 := tiOk (by kernel_rfl) (by kernel_rfl) (by kernel_rfl) (fun _ => by kernel_rfl) (flat_none)
noncomputable def ti41 : TI := { und := Try.t41.desc, size := 12, bytes := 96, zero := .agg (.ints .u64 (List.replicate 12 0)), flat := some (List.replicate 12 (.int .u64)) }
theorem ti41_ok : TIOk Try.prog 41 ti41 := tiOk (by kernel_rfl) (by kernel_rfl) (by kernel_rfl) (fun _ => by kernel_rfl) (flat_some (flatOk (m := 6) (by kernel_rfl) (by decide) (by kernel_rfl) (by kernel_rfl)))
noncomputable def ti43 : TI := { und := Try.t43.desc, size := 1, bytes := 8, zero := .one (.val .nilFunc), flat := none }
theorem ti43_ok : TIOk Try.prog 43 ti43 := tiOk (by kernel_rfl) (by kernel_rfl) (by kernel_rfl) (fun _ => by kernel_rfl) (flat_none)
noncomputable def ti44 : TI := { und := Try.t44.desc, size := 1, bytes := 8, zero := .one (.val .nilFunc), flat := none }
theorem ti44_ok : TIOk Try.prog 44 ti44 := tiOk (by kernel_rfl) (by kernel_rfl) (by kernel_rfl) (fun _ => by kernel_rfl) (flat_none)
noncomputable def ti45 : TI := { und := Try.t45.desc, size := 9, bytes := 72, zero := .agg (.vals [.lit .u64 0, .lit .u64 0, .lit .u64 0, .lit .u64 0, .lit .u64 0, .lit .u64 0, .lit .u64 0, .lit .u64 0, .blit false]), flat := some [.int .u64, .int .u64, .int .u64, .int .u64, .int .u64, .int .u64, .int .u64, .int .u64, .bool] }
theorem ti45_ok : TIOk Try.prog 45 ti45 := tiOk (by kernel_rfl) (by kernel_rfl) (by kernel_rfl) (fun _ => by kernel_rfl) (flat_some (flatOk (m := 6) (by kernel_rfl) (by decide) (by kernel_rfl) (by kernel_rfl)))
noncomputable def ti46 : TI := { und := Try.t45.desc, size := 9, bytes := 72, zero := .agg (.vals [.lit .u64 0, .lit .u64 0, .lit .u64 0, .lit .u64 0, .lit .u64 0, .lit .u64 0, .lit .u64 0, .lit .u64 0, .blit false]), flat := some [.int .u64, .int .u64, .int .u64, .int .u64, .int .u64, .int .u64, .int .u64, .int .u64, .bool] }
theorem ti46_ok : TIOk Try.prog 46 ti46 := tiOk (by kernel_rfl) (by kernel_rfl) (by kernel_rfl) (fun _ => by kernel_rfl) (flat_some (flatOk (m := 6) (by kernel_rfl) (by decide) (by kernel_rfl) (by kernel_rfl)))
noncomputable def ti48 : TI := { und := Try.t48.desc, size := 1, bytes := 8, zero := .one (.val .nilFunc), flat := none }
theorem ti48_ok : TIOk Try.prog 48 ti48 := tiOk (by kernel_rfl) (by kernel_rfl) (by kernel_rfl) (fun _ => by kernel_rfl) (flat_none)
noncomputable def ti49 : TI := { und := Try.t49.desc, size := 1, bytes := 8, zero := .one (.val .nilFunc), flat := none }
theorem ti49_ok : TIOk Try.prog 49 ti49 := tiOk (by kernel_rfl) (by kernel_rfl) (by kernel_rfl) (fun _ => by kernel_rfl) (flat_none)
noncomputable def ti50 : TI := { und := Try.t50.desc, size := 1, bytes := 8, zero := .one (.val .nilFunc), flat := none }
theorem ti50_ok : TIOk Try.prog 50 ti50 := tiOk (by kernel_rfl) (by kernel_rfl) (by kernel_rfl) (fun _ => by kernel_rfl) (flat_none)
noncomputable def ti51 : TI := { und := Try.t51.desc, size := 1, bytes := 8, zero := .one (.val .nilFunc), flat := none }
theorem ti51_ok : TIOk Try.prog 51 ti51 := tiOk (by kernel_rfl) (by kernel_rfl) (by kernel_rfl) (fun _ => by kernel_rfl) (flat_none)
noncomputable def ti52 : TI := { und := Try.t52.desc, size := 1, bytes := 8, zero := .one (.val .nilFunc), flat := none }
theorem ti52_ok : TIOk Try.prog 52 ti52 := tiOk (by kernel_rfl) (by kernel_rfl) (by kernel_rfl) (fun _ => by kernel_rfl) (flat_none)
noncomputable def ti53 : TI := { und := Try.t53.desc, size := 1, bytes := 8, zero := .one (.val .nilFunc), flat := none }
theorem ti53_ok : TIOk Try.prog 53 ti53 := tiOk (by kernel_rfl) (by kernel_rfl) (by kernel_rfl) (fun _ => by kernel_rfl) (flat_none)
noncomputable def ti54 : TI := { und := Try.t54.desc, size := 1, bytes := 8, zero := .one (.val .nilFunc), flat := none }
theorem ti54_ok : TIOk Try.prog 54 ti54 := tiOk (by kernel_rfl) (by kernel_rfl) (by kernel_rfl) (fun _ => by kernel_rfl) (flat_none)
noncomputable def ti55 : TI := { und := Try.t55.desc, size := 1, bytes := 8, zero := .one (.val .nilFunc), flat := none }
theorem ti55_ok : TIOk Try.prog 55 ti55 := tiOk (by kernel_rfl) (by kernel_rfl) (by kernel_rfl) (fun _ => by kernel_rfl) (flat_none)
noncomputable def ti56 : TI := { und := Try.t56.desc, size := 1, bytes := 8, zero := .one (.val .nilFunc), flat := none }
theorem ti56_ok : TIOk Try.prog 56 ti56 := tiOk (by kernel_rfl) (by kernel_rfl) (by kernel_rfl) (fun _ => by kernel_rfl) (flat_none)
noncomputable def ti57 : TI := { und := Try.t57.desc, size := 12, bytes := 96, zero := .agg (.vals [.lit .u64 0, .lit .u64 0, .lit .u64 0, .lit .u64 0, .lit .u64 0, .lit .u64 0, .lit .u64 0, .lit .u64 0, .lit .u64 0, .lit .u64 0, .lit .u64 0, .lit .u64 0]), flat := some (List.replicate 12 (.int .u64)) }
theorem ti57_ok : TIOk Try.prog 57 ti57 := tiOk (by kernel_rfl) (by kernel_rfl) (by kernel_rfl) (fun _ => by kernel_rfl) (flat_some (flatOk (m := 6) (by kernel_rfl) (by decide) (by kernel_rfl) (by kernel_rfl)))
noncomputable def ti58 : TI := { und := Try.t57.desc, size := 12, bytes := 96, zero := .agg (.vals [.lit .u64 0, .lit .u64 0, .lit .u64 0, .lit .u64 0, .lit .u64 0, .lit .u64 0, .lit .u64 0, .lit .u64 0, .lit .u64 0, .lit .u64 0, .lit .u64 0, .lit .u64 0]), flat := some (List.replicate 12 (.int .u64)) }
theorem ti58_ok : TIOk Try.prog 58 ti58 := tiOk (by kernel_rfl) (by kernel_rfl) (by kernel_rfl) (fun _ => by kernel_rfl) (flat_some (flatOk (m := 6) (by kernel_rfl) (by decide) (by kernel_rfl) (by kernel_rfl)))
noncomputable def ti59 : TI := { und := Try.t59.desc, size := 1, bytes := 8, zero := .one (.val .nilFunc), flat := none }
theorem ti59_ok : TIOk Try.prog 59 ti59 := tiOk (by kernel_rfl) (by kernel_rfl) (by kernel_rfl) (fun _ => by kernel_rfl) (flat_none)
noncomputable def ti60 : TI := { und := Try.t60.desc, size := 1, bytes := 8, zero := .one (.val .nilFunc), flat := none }
theorem ti60_ok : TIOk Try.prog 60 ti60 := tiOk (by kernel_rfl) (by kernel_rfl) (by kernel_rfl) (fun _ => by kernel_rfl) (flat_none)
noncomputable def ti61 : TI := { und := Try.t61.desc, size := 1, bytes := 24, zero := .one (.nilsl), flat := none }
theorem ti61_ok : TIOk Try.prog 61 ti61 := tiOk (by kernel_rfl) (by kernel_rfl) (by kernel_rfl) (fun _ => by kernel_rfl) (flat_none)
noncomputable def ti62 : TI := { und := Try.t62.desc, size := 1, bytes := 8, zero := .one (.val .nilFunc), flat := none }
theorem ti62_ok : TIOk Try.prog 62 ti62 := tiOk (by kernel_rfl) (by kernel_rfl) (by kernel_rfl) (fun _ => by kernel_rfl) (flat_none)
noncomputable def ti63 : TI := { und := Try.t63.desc, size := 1, bytes := 8, zero := .one (.val .nilFunc), flat := none }
theorem ti63_ok : TIOk Try.prog 63 ti63 := tiOk (by kernel_rfl) (by kernel_rfl) (by kernel_rfl) (fun _ => by kernel_rfl) (flat_none)
noncomputable def ti64 : TI := { und := Try.t64.desc, size := 1, bytes := 8, zero := .one (.val .nilFunc), flat := none }
theorem ti64_ok : TIOk Try.prog 64 ti64 := tiOk (by kernel_rfl) (by kernel_rfl) (by kernel_rfl) (fun _ => by kernel_rfl) (flat_none)
noncomputable def ti66 : TI := { und := Try.t66.desc, size := 1, bytes := 8, zero := .one (.val .nilFunc), flat := none }
theorem ti66_ok : TIOk Try.prog 66 ti66 := tiOk (by kernel_rfl) (by kernel_rfl) (by kernel_rfl) (fun _ => by kernel_rfl) (flat_none)
noncomputable def ti67 : TI := { und := Try.t67.desc, size := 1, bytes := 8, zero := .one (.val .nilFunc), flat := none }
theorem ti67_ok : TIOk Try.prog 67 ti67 := tiOk (by kernel_rfl) (by kernel_rfl) (by kernel_rfl) (fun _ => by kernel_rfl) (flat_none)
noncomputable def ti68 : TI := { und := Try.t68.desc, size := 1, bytes := 8, zero := .one (.val .nilFunc), flat := none }
theorem ti68_ok : TIOk Try.prog 68 ti68 := tiOk (by kernel_rfl) (by kernel_rfl) (by kernel_rfl) (fun _ => by kernel_rfl) (flat_none)
noncomputable def ti70 : TI := { und := Try.t70.desc, size := 1, bytes := 8, zero := .one (.val .nilFunc), flat := none }
theorem ti70_ok : TIOk Try.prog 70 ti70 := tiOk (by kernel_rfl) (by kernel_rfl) (by kernel_rfl) (fun _ => by kernel_rfl) (flat_none)
noncomputable def ti72 : TI := { und := Try.t72.desc, size := 1, bytes := 8, zero := .one (.val .nilFunc), flat := none }
theorem ti72_ok : TIOk Try.prog 72 ti72 := tiOk (by kernel_rfl) (by kernel_rfl) (by kernel_rfl) (fun _ => by kernel_rfl) (flat_none)
noncomputable def ti73 : TI := { und := Try.t73.desc, size := 1, bytes := 8, zero := .one (.val .nilFunc), flat := none }
theorem ti73_ok : TIOk Try.prog 73 ti73 := tiOk (by kernel_rfl) (by kernel_rfl) (by kernel_rfl) (fun _ => by kernel_rfl) (flat_none)
noncomputable def ti74 : TI := { und := Try.t74.desc, size := 1, bytes := 8, zero := .one (.val .nilFunc), flat := none }
theorem ti74_ok : TIOk Try.prog 74 ti74 := tiOk (by kernel_rfl) (by kernel_rfl) (by kernel_rfl) (fun _ => by kernel_rfl) (flat_none)
noncomputable def ti75 : TI := { und := Try.t75.desc, size := 1, bytes := 8, zero := .one (.val .nilFunc), flat := none }
theorem ti75_ok : TIOk Try.prog 75 ti75 := tiOk (by kernel_rfl) (by kernel_rfl) (by kernel_rfl) (fun _ => by kernel_rfl) (flat_none)
noncomputable def ti76 : TI := { und := Try.t76.desc, size := 1, bytes := 8, zero := .one (.val .nilFunc), flat := none }
theorem ti76_ok : TIOk Try.prog 76 ti76 := tiOk (by kernel_rfl) (by kernel_rfl) (by kernel_rfl) (fun _ => by kernel_rfl) (flat_none)
noncomputable def ti77 : TI := { und := Try.t77.desc, size := 9, bytes := 88, zero := .agg (.vals [.lit .u64 0, .lit .u64 0, .lit .u64 0, .lit .u64 0, .lit .u64 0, .lit .u64 0, .lit .u64 0, .lit .u64 0, .nilsl]), flat := none }
theorem ti77_ok : TIOk Try.prog 77 ti77 := tiOk (by kernel_rfl) (by kernel_rfl) (by kernel_rfl) (fun _ => by kernel_rfl) (flat_none)
noncomputable def ti78 : TI := { und := Try.t77.desc, size := 9, bytes := 88, zero := .agg (.vals [.lit .u64 0, .lit .u64 0, .lit .u64 0, .lit .u64 0, .lit .u64 0, .lit .u64 0, .lit .u64 0, .lit .u64 0, .nilsl]), flat := none }
theorem ti78_ok : TIOk Try.prog 78 ti78 := tiOk (by kernel_rfl) (by kernel_rfl) (by kernel_rfl) (fun _ => by kernel_rfl) (flat_none)
noncomputable def ti79 : TI := { und := Try.t79.desc, size := 1, bytes := 8, zero := .one (.val .nilFunc), flat := none }
theorem ti79_ok : TIOk Try.prog 79 ti79 := tiOk (by kernel_rfl) (by kernel_rfl) (by kernel_rfl) (fun _ => by kernel_rfl) (flat_none)
noncomputable def ti80 : TI := { und := Try.t80.desc, size := 1, bytes := 8, zero := .one (.val .nilFunc), flat := none }
theorem ti80_ok : TIOk Try.prog 80 ti80 := tiOk (by kernel_rfl) (by kernel_rfl) (by kernel_rfl) (fun _ => by kernel_rfl) (flat_none)
noncomputable def ti81 : TI := { und := Try.t81.desc, size := 1, bytes := 8, zero := .one (.val .nilFunc), flat := none }
theorem ti81_ok : TIOk Try.prog 81 ti81 := tiOk (by kernel_rfl) (by kernel_rfl) (by kernel_rfl) (fun _ => by kernel_rfl) (flat_none)
noncomputable def ti83 : TI := { und := Try.t83.desc, size := 1, bytes := 8, zero := .one (.val .nilFunc), flat := none }
theorem ti83_ok : TIOk Try.prog 83 ti83 := tiOk (by kernel_rfl) (by kernel_rfl) (by kernel_rfl) (fun _ => by kernel_rfl) (flat_none)
noncomputable def ti85 : TI := { und := Try.t85.desc, size := 1, bytes := 8, zero := .one (.val .nilFunc), flat := none }
theorem ti85_ok : TIOk Try.prog 85 ti85 := tiOk (by kernel_rfl) (by kernel_rfl) (by kernel_rfl) (fun _ => by kernel_rfl) (flat_none)
noncomputable def ti86 : TI := { und := Try.t86.desc, size := 32, bytes := 32, zero := .agg (.ints .u8 (List.replicate 32 0)), flat := some (List.replicate 32 (.int .u8)) }
theorem ti86_ok : TIOk Try.prog 86 ti86 := tiOk (by kernel_rfl) (by kernel_rfl) (by kernel_rfl) (fun _ => by kernel_rfl) (flat_some (flatOk (m := 6) (by kernel_rfl) (by decide) (by kernel_rfl) (by kernel_rfl)))
noncomputable def ti87 : TI := { und := Try.t87.desc, size := 1, bytes := 8, zero := .one (.val .nilFunc), flat := none }
theorem ti87_ok : TIOk Try.prog 87 ti87 := tiOk (by kernel_rfl) (by kernel_rfl) (by kernel_rfl) (fun _ => by kernel_rfl) (flat_none)
noncomputable def ti88 : TI := { und := Try.t88.desc, size := 1, bytes := 8, zero := .one (.val .nilFunc), flat := none }
theorem ti88_ok : TIOk Try.prog 88 ti88 := tiOk (by kernel_rfl) (by kernel_rfl) (by kernel_rfl) (fun _ => by kernel_rfl) (flat_none)
noncomputable def ti89 : TI := { und := Try.t89.desc, size := 9, bytes := 72, zero := .agg (.vals [.lit .u64 0, .lit .u64 0, .lit .u64 0, .lit .u64 0, .lit .u64 0, .lit .u64 0, .lit .u64 0, .lit .u64 0, .lit .u64 0]), flat := some (List.replicate 9 (.int .u64)) }
theorem ti89_ok : TIOk Try.prog 89 ti89 := tiOk (by kernel_rfl) (by kernel_rfl) (by kernel_rfl) (fun _ => by kernel_rfl) (flat_some (flatOk (m := 6) (by kernel_rfl) (by decide) (by kernel_rfl) (by kernel_rfl)))
noncomputable def ti90 : TI := { und := Try.t89.desc, size := 9, bytes := 72, zero := .agg (.vals [.lit .u64 0, .lit .u64 0, .lit .u64 0, .lit .u64 0, .lit .u64 0, .lit .u64 0, .lit .u64 0, .lit .u64 0, .lit .u64 0]), flat := some (List.replicate 9 (.int .u64)) }
theorem ti90_ok : TIOk Try.prog 90 ti90 := tiOk (by kernel_rfl) (by kernel_rfl) (by kernel_rfl) (fun _ => by kernel_rfl) (flat_some (flatOk (m := 6) (by kernel_rfl) (by decide) (by kernel_rfl) (by kernel_rfl)))
noncomputable def ti92 : TI := { und := Try.t92.desc, size := 1, bytes := 8, zero := .one (.val .nilFunc), flat := none }
theorem ti92_ok : TIOk Try.prog 92 ti92 := tiOk (by kernel_rfl) (by kernel_rfl) (by kernel_rfl) (fun _ => by kernel_rfl) (flat_none)
noncomputable def ti93 : TI := { und := Try.t93.desc, size := 1, bytes := 8, zero := .one (.val .nilFunc), flat := none }
theorem ti93_ok : TIOk Try.prog 93 ti93 := tiOk (by kernel_rfl) (by kernel_rfl) (by kernel_rfl) (fun _ => by kernel_rfl) (flat_none)
noncomputable def ti94 : TI := { und := Try.t94.desc, size := 1, bytes := 8, zero := .one (.val .nilFunc), flat := none }
theorem ti94_ok : TIOk Try.prog 94 ti94 := tiOk (by kernel_rfl) (by kernel_rfl) (by kernel_rfl) (fun _ => by kernel_rfl) (flat_none)
noncomputable def ti95 : TI := { und := Try.t95.desc, size := 1, bytes := 8, zero := .one (.val .nilFunc), flat := none }
theorem ti95_ok : TIOk Try.prog 95 ti95 := tiOk (by kernel_rfl) (by kernel_rfl) (by kernel_rfl) (fun _ => by kernel_rfl) (flat_none)
noncomputable def ti96 : TI := { und := Try.t96.desc, size := 1, bytes := 8, zero := .one (.lit .u64 0), flat := none }
theorem ti96_ok : TIOk Try.prog 96 ti96 := tiOk (by kernel_rfl) (by kernel_rfl) (by kernel_rfl) (fun _ => by kernel_rfl) (flat_none)
noncomputable def ti97 : TI := { und := Try.t97.desc, size := 16, bytes := 128, zero := .agg (.ints .u64 (List.replicate 16 0)), flat := some (List.replicate 16 (.int .u64)) }
theorem ti97_ok : TIOk Try.prog 97 ti97 := tiOk (by kernel_rfl) (by kernel_rfl) (by kernel_rfl) (fun _ => by kernel_rfl) (flat_some (flatOk (m := 6) (by kernel_rfl) (by decide) (by kernel_rfl) (by kernel_rfl)))
noncomputable def ti98 : TI := { und := Try.t98.desc, size := 1, bytes := 8, zero := .one (.val .nilFunc), flat := none }
theorem ti98_ok : TIOk Try.prog 98 ti98 := tiOk (by kernel_rfl) (by kernel_rfl) (by kernel_rfl) (fun _ => by kernel_rfl) (flat_none)
noncomputable def ti99 : TI := { und := Try.t99.desc, size := 1, bytes := 8, zero := .one (.val .nilFunc), flat := none }
theorem ti99_ok : TIOk Try.prog 99 ti99 := tiOk (by kernel_rfl) (by kernel_rfl) (by kernel_rfl) (fun _ => by kernel_rfl) (flat_none)
noncomputable def ti100 : TI := { und := Try.t100.desc, size := 1, bytes := 8, zero := .one (.val .nilFunc), flat := none }
theorem ti100_ok : TIOk Try.prog 100 ti100 := tiOk (by kernel_rfl) (by kernel_rfl) (by kernel_rfl) (fun _ => by kernel_rfl) (flat_none)
noncomputable def ti101 : TI := { und := Try.t23.desc, size := 4, bytes := 32, zero := .agg (.vals [.lit .u64 0, .lit .u64 0, .lit .u64 0, .lit .u64 0]), flat := some [.int .u64, .int .u64, .int .u64, .int .u64] }
theorem ti101_ok : TIOk Try.prog 101 ti101 := tiOk (by kernel_rfl) (by kernel_rfl) (by kernel_rfl) (fun _ => by kernel_rfl) (flat_some (flatOk (m := 6) (by kernel_rfl) (by decide) (by kernel_rfl) (by kernel_rfl)))
noncomputable def ti102 : TI := { und := Try.t102.desc, size := 12, bytes := 96, zero := .agg (.vals [.lit .u64 0, .lit .u64 0, .lit .u64 0, .lit .u64 0, .lit .u64 0, .lit .u64 0, .lit .u64 0, .lit .u64 0, .lit .u64 0, .lit .u64 0, .lit .u64 0, .lit .u64 0]), flat := some (List.replicate 12 (.int .u64)) }
theorem ti102_ok : TIOk Try.prog 102 ti102 := tiOk (by kernel_rfl) (by kernel_rfl) (by kernel_rfl) (fun _ => by kernel_rfl) (flat_some (flatOk (m := 6) (by kernel_rfl) (by decide) (by kernel_rfl) (by kernel_rfl)))
noncomputable def ti103 : TI := { und := Try.t102.desc, size := 12, bytes := 96, zero := .agg (.vals [.lit .u64 0, .lit .u64 0, .lit .u64 0, .lit .u64 0, .lit .u64 0, .lit .u64 0, .lit .u64 0, .lit .u64 0, .lit .u64 0, .lit .u64 0, .lit .u64 0, .lit .u64 0]), flat := some (List.replicate 12 (.int .u64)) }
theorem ti103_ok : TIOk Try.prog 103 ti103 := tiOk (by kernel_rfl) (by kernel_rfl) (by kernel_rfl) (fun _ => by kernel_rfl) (flat_some (flatOk (m := 6) (by kernel_rfl) (by decide) (by kernel_rfl) (by kernel_rfl)))
noncomputable def ti104 : TI := { und := Try.t104.desc, size := 1, bytes := 8, zero := .one (.val .nilFunc), flat := none }
theorem ti104_ok : TIOk Try.prog 104 ti104 := tiOk (by kernel_rfl) (by kernel_rfl) (by kernel_rfl) (fun _ => by kernel_rfl) (flat_none)
noncomputable def ti105 : TI := { und := Try.t105.desc, size := 1, bytes := 8, zero := .one (.val .nilFunc), flat := none }
theorem ti105_ok : TIOk Try.prog 105 ti105 := tiOk (by kernel_rfl) (by kernel_rfl) (by kernel_rfl) (fun _ => by kernel_rfl) (flat_none)
noncomputable def ti106 : TI := { und := Try.t106.desc, size := 48, bytes := 384, zero := .agg (.ints .u64 (List.replicate 48 0)), flat := some (List.replicate 48 (.int .u64)) }
theorem ti106_ok : TIOk Try.prog 106 ti106 := tiOk (by kernel_rfl) (by kernel_rfl) (by kernel_rfl) (fun _ => by kernel_rfl) (flat_some (flatOk (m := 6) (by kernel_rfl) (by decide) (by kernel_rfl) (by kernel_rfl)))
noncomputable def ti107 : TI := { und := Try.t107.desc, size := 1, bytes := 8, zero := .one (.val .nilFunc), flat := none }
theorem ti107_ok : TIOk Try.prog 107 ti107 := tiOk (by kernel_rfl) (by kernel_rfl) (by kernel_rfl) (fun _ => by kernel_rfl) (flat_none)
noncomputable def ti108 : TI := { und := Try.t108.desc, size := 1, bytes := 8, zero := .one (.val .nilFunc), flat := none }
theorem ti108_ok : TIOk Try.prog 108 ti108 := tiOk (by kernel_rfl) (by kernel_rfl) (by kernel_rfl) (fun _ => by kernel_rfl) (flat_none)
noncomputable def ti109 : TI := { und := Try.t109.desc, size := 12, bytes := 96, zero := .agg (.vals [.lit .u64 0, .lit .u64 0, .lit .u64 0, .lit .u64 0, .lit .u64 0, .lit .u64 0, .lit .u64 0, .lit .u64 0, .lit .u64 0, .lit .u64 0, .lit .u64 0, .lit .u64 0]), flat := some (List.replicate 12 (.int .u64)) }
theorem ti109_ok : TIOk Try.prog 109 ti109 := tiOk (by kernel_rfl) (by kernel_rfl) (by kernel_rfl) (fun _ => by kernel_rfl) (flat_some (flatOk (m := 6) (by kernel_rfl) (by decide) (by kernel_rfl) (by kernel_rfl)))
noncomputable def ti110 : TI := { und := Try.t109.desc, size := 12, bytes := 96, zero := .agg (.vals [.lit .u64 0, .lit .u64 0, .lit .u64 0, .lit .u64 0, .lit .u64 0, .lit .u64 0, .lit .u64 0, .lit .u64 0, .lit .u64 0, .lit .u64 0, .lit .u64 0, .lit .u64 0]), flat := some (List.replicate 12 (.int .u64)) }
theorem ti110_ok : TIOk Try.prog 110 ti110 := tiOk (by kernel_rfl) (by kernel_rfl) (by kernel_rfl) (fun _ => by kernel_rfl) (flat_some (flatOk (m := 6) (by kernel_rfl) (by decide) (by kernel_rfl) (by kernel_rfl)))
noncomputable def ti111 : TI := { und := Try.t111.desc, size := 1, bytes := 8, zero := .one (.val .nilFunc), flat := none }
theorem ti111_ok : TIOk Try.prog 111 ti111 := tiOk (by kernel_rfl) (by kernel_rfl) (by kernel_rfl) (fun _ => by kernel_rfl) (flat_none)
noncomputable def ti112 : TI := { und := Try.t112.desc, size := 1, bytes := 8, zero := .one (.val .nilFunc), flat := none }
theorem ti112_ok : TIOk Try.prog 112 ti112 := tiOk (by kernel_rfl) (by kernel_rfl) (by kernel_rfl) (fun _ => by kernel_rfl) (flat_none)
noncomputable def ti113 : TI := { und := Try.t113.desc, size := 1, bytes := 8, zero := .one (.val .nilFunc), flat := none }
theorem ti113_ok : TIOk Try.prog 113 ti113 := tiOk (by kernel_rfl) (by kernel_rfl) (by kernel_rfl) (fun _ => by kernel_rfl) (flat_none)
noncomputable def ti114 : TI := { und := Try.t114.desc, size := 1, bytes := 8, zero := .one (.val .nilFunc), flat := none }
theorem ti114_ok : TIOk Try.prog 114 ti114 := tiOk (by kernel_rfl) (by kernel_rfl) (by kernel_rfl) (fun _ => by kernel_rfl) (flat_none)
noncomputable def ti115 : TI := { und := Try.t115.desc, size := 1, bytes := 8, zero := .one (.val .nilFunc), flat := none }
theorem ti115_ok : TIOk Try.prog 115 ti115 := tiOk (by kernel_rfl) (by kernel_rfl) (by kernel_rfl) (fun _ => by kernel_rfl) (flat_none)
noncomputable def ti116 : TI := { und := Try.t116.desc, size := 1, bytes := 8, zero := .one (.val .nilFunc), flat := none }
theorem ti116_ok : TIOk Try.prog 116 ti116 := tiOk (by kernel_rfl) (by kernel_rfl) (by kernel_rfl) (fun _ => by kernel_rfl) (flat_none)
noncomputable def ti117 : TI := { und := Try.t117.desc, size := 1, bytes := 24, zero := .one (.nilsl), flat := none }
theorem ti117_ok : TIOk Try.prog 117 ti117 := tiOk (by kernel_rfl) (by kernel_rfl) (by kernel_rfl) (fun _ => by kernel_rfl) (flat_none)
noncomputable def ti118 : TI := { und := Try.t118.desc, size := 1, bytes := 24, zero := .one (.nilsl), flat := none }
theorem ti118_ok : TIOk Try.prog 118 ti118 := tiOk (by kernel_rfl) (by kernel_rfl) (by kernel_rfl) (fun _ => by kernel_rfl) (flat_none)
noncomputable def ti119 : TI := { und := Try.t119.desc, size := 1, bytes := 8, zero := .one (.val .nilFunc), flat := none }
theorem ti119_ok : TIOk Try.prog 119 ti119 := tiOk (by kernel_rfl) (by kernel_rfl) (by kernel_rfl) (fun _ => by kernel_rfl) (flat_none)
noncomputable def ti120 : TI := { und := Try.t120.desc, size := 1, bytes := 4, zero := .one (.lit .u32 0), flat := none }
theorem ti120_ok : TIOk Try.prog 120 ti120 := tiOk (by kernel_rfl) (by kernel_rfl) (by kernel_rfl) (fun _ => by kernel_rfl) (flat_none)
noncomputable def ti121 : TI := { und := Try.t121.desc, size := 1, bytes := 8, zero := .one (.val .nilFunc), flat := none }
theorem ti121_ok : TIOk Try.prog 121 ti121 := tiOk (by kernel_rfl) (by kernel_rfl) (by kernel_rfl) (fun _ => by kernel_rfl) (flat_none)
noncomputable def ti122 : TI := { und := Try.t122.desc, size := 1, bytes := 8, zero := .one (.nilp), flat := none }
theorem ti122_ok : TIOk Try.prog 122 ti122 := tiOk (by kernel_rfl) (by kernel_rfl) (by kernel_rfl) (fun _ => by kernel_rfl) (flat_none)
noncomputable def ti123 : TI := { und := Try.t123.desc, size := 6, bytes := 48, zero := .agg (.vals [.lit .u64 0, .lit .u64 0, .lit .u64 0, .lit .u64 0, .lit .u64 0, .lit .u64 0]), flat := some [.int .u64, .int .u64, .int .u64, .int .u64, .int .u64, .int .u64] }
theorem ti123_ok : TIOk Try.prog 123 ti123 := tiOk (by kernel_rfl) (by kernel_rfl) (by kernel_rfl) (fun _ => by kernel_rfl) (flat_some (flatOk (m := 6) (by kernel_rfl) (by decide) (by kernel_rfl) (by kernel_rfl)))
noncomputable def ti124 : TI := { und := Try.t124.desc, size := 1, bytes := 8, zero := .one (.val .nilFunc), flat := none }
theorem ti124_ok : TIOk Try.prog 124 ti124 := tiOk (by kernel_rfl) (by kernel_rfl) (by kernel_rfl) (fun _ => by kernel_rfl) (flat_none)
noncomputable def ti125 : TI := { und := Try.t125.desc, size := 1, bytes := 24, zero := .one (.nilsl), flat := none }
theorem ti125_ok : TIOk Try.prog 125 ti125 := tiOk (by kernel_rfl) (by kernel_rfl) (by kernel_rfl) (fun _ => by kernel_rfl) (flat_none)
noncomputable def ti127 : TI := { und := Try.t127.desc, size := 1, bytes := 8, zero := .one (.val .nilFunc), flat := none }
theorem ti127_ok : TIOk Try.prog 127 ti127 := tiOk (by kernel_rfl) (by kernel_rfl) (by kernel_rfl) (fun _ => by kernel_rfl) (flat_none)
noncomputable def ti128 : TI := { und := Try.t128.desc, size := 8, bytes := 64, zero := .agg (.vals [.lit .u64 0, .lit .u64 0, .lit .u64 0, .lit .u64 0, .lit .u64 0, .lit .u64 0, .lit .u64 0, .lit .u64 0]), flat := some [.int .u64, .int .u64, .int .u64, .int .u64, .int .u64, .int .u64, .int .u64, .int .u64] }
theorem ti128_ok : TIOk Try.prog 128 ti128 := tiOk (by kernel_rfl) (by kernel_rfl) (by kernel_rfl) (fun _ => by kernel_rfl) (flat_some (flatOk (m := 6) (by kernel_rfl) (by decide) (by kernel_rfl) (by kernel_rfl)))
noncomputable def ti129 : TI := { und := Try.t129.desc, size := 1, bytes := 8, zero := .one (.val .nilFunc), flat := none }
theorem ti129_ok : TIOk Try.prog 129 ti129 := tiOk (by kernel_rfl) (by kernel_rfl) (by kernel_rfl) (fun _ => by kernel_rfl) (flat_none)
noncomputable def ti130 : TI := { und := Try.t130.desc, size := 1, bytes := 8, zero := .one (.val .nilFunc), flat := none }
theorem ti130_ok : TIOk Try.prog 130 ti130 := tiOk (by kernel_rfl) (by kernel_rfl) (by kernel_rfl) (fun _ => by kernel_rfl) (flat_none)
noncomputable def ti131 : TI := { und := Try.t131.desc, size := 1, bytes := 8, zero := .one (.val .nilFunc), flat := none }
theorem ti131_ok : TIOk Try.prog 131 ti131 := tiOk (by kernel_rfl) (by kernel_rfl) (by kernel_rfl) (fun _ => by kernel_rfl) (flat_none)
noncomputable def ti132 : TI := { und := Try.t132.desc, size := 1, bytes := 8, zero := .one (.val .nilFunc), flat := none }
theorem ti132_ok : TIOk Try.prog 132 ti132 := tiOk (by kernel_rfl) (by kernel_rfl) (by kernel_rfl) (fun _ => by kernel_rfl) (flat_none)
noncomputable def ti133 : TI := { und := Try.t133.desc, size := 1, bytes := 24, zero := .one (.nilsl), flat := none }
theorem ti133_ok : TIOk Try.prog 133 ti133 := tiOk (by kernel_rfl) (by kernel_rfl) (by kernel_rfl) (fun _ => by kernel_rfl) (flat_none)
noncomputable def ti134 : TI := { und := Try.t134.desc, size := 1, bytes := 8, zero := .one (.val .nilFunc), flat := none }
theorem ti134_ok : TIOk Try.prog 134 ti134 := tiOk (by kernel_rfl) (by kernel_rfl) (by kernel_rfl) (fun _ => by kernel_rfl) (flat_none)
noncomputable def ti135 : TI := { und := Try.t135.desc, size := 1, bytes := 8, zero := .one (.val .nilFunc), flat := none }
theorem ti135_ok : TIOk Try.prog 135 ti135 := tiOk (by kernel_rfl) (by kernel_rfl) (by kernel_rfl) (fun _ => by kernel_rfl) (flat_none)
noncomputable def ti136 : TI := { und := Try.t136.desc, size := 1, bytes := 8, zero := .one (.val .nilFunc), flat := none }
theorem ti136_ok : TIOk Try.prog 136 ti136 := tiOk (by kernel_rfl) (by kernel_rfl) (by kernel_rfl) (fun _ => by kernel_rfl) (flat_none)
noncomputable def ti137 : TI := { und := Try.t137.desc, size := 1, bytes := 8, zero := .one (.val .nilFunc), flat := none }
theorem ti137_ok : TIOk Try.prog 137 ti137 := tiOk (by kernel_rfl) (by kernel_rfl) (by kernel_rfl) (fun _ => by kernel_rfl) (flat_none)
noncomputable def ti138 : TI := { und := Try.t138.desc, size := 1, bytes := 8, zero := .one (.val .nilFunc), flat := none }
theorem ti138_ok : TIOk Try.prog 138 ti138 := tiOk (by kernel_rfl) (by kernel_rfl) (by kernel_rfl) (fun _ => by kernel_rfl) (flat_none)
noncomputable def ti139 : TI := { und := Try.t139.desc, size := 1, bytes := 8, zero := .one (.val .nilFunc), flat := none }
theorem ti139_ok : TIOk Try.prog 139 ti139 := tiOk (by kernel_rfl) (by kernel_rfl) (by kernel_rfl) (fun _ => by kernel_rfl) (flat_none)
noncomputable def ti140 : TI := { und := Try.t140.desc, size := 4, bytes := 40, zero := .agg (.vals [.nilp, .nilp, .nilp, .str ⟨#[]⟩]), flat := none }
theorem ti140_ok : TIOk Try.prog 140 ti140 := tiOk (by kernel_rfl) (by kernel_rfl) (by kernel_rfl) (fun _ => by kernel_rfl) (flat_none)
noncomputable def ti141 : TI := { und := Try.t140.desc, size := 4, bytes := 40, zero := .agg (.vals [.nilp, .nilp, .nilp, .str ⟨#[]⟩]), flat := none }
theorem ti141_ok : TIOk Try.prog 141 ti141 := tiOk (by kernel_rfl) (by kernel_rfl) (by kernel_rfl) (fun _ => by kernel_rfl) (flat_none)
noncomputable def ti142 : TI := { und := Try.t142.desc, size := 0, bytes := 0, zero := .agg (.vals []), flat := none }
theorem ti142_ok : TIOk Try.prog 142 ti142 := tiOk (by kernel_rfl) (by kernel_rfl) (by kernel_rfl) (fun _ => by kernel_rfl) (flat_none)
noncomputable def ti143 : TI := { und := Try.t143.desc, size := 0, bytes := 0, zero := .agg (.vals []), flat := none }
theorem ti143_ok : TIOk Try.prog 143 ti143 := tiOk (by kernel_rfl) (by kernel_rfl) (by kernel_rfl) (fun _ => by kernel_rfl) (flat_none)
noncomputable def ti144 : TI := { und := Try.t143.desc, size := 0, bytes := 0, zero := .agg (.vals []), flat := none }
theorem ti144_ok : TIOk Try.prog 144 ti144 := tiOk (by kernel_rfl) (by kernel_rfl) (by kernel_rfl) (fun _ => by kernel_rfl) (flat_none)
noncomputable def ti145 : TI := { und := Try.t145.desc, size := 1, bytes := 8, zero := .one (.val .nilFunc), flat := none }
theorem ti145_ok : TIOk Try.prog 145 ti145 := tiOk (by kernel_rfl) (by kernel_rfl) (by kernel_rfl) (fun _ => by kernel_rfl) (flat_none)
noncomputable def ti146 : TI := { und := Try.t5.desc, size := 1, bytes := 1, zero := .one (.lit .u8 0), flat := none }
theorem ti146_ok : TIOk Try.prog 146 ti146 := tiOk (by kernel_rfl) (by kernel_rfl) (by kernel_rfl) (fun _ => by kernel_rfl) (flat_none)
noncomputable def ti147 : TI := { und := Try.t5.desc, size := 1, bytes := 1, zero := .one (.lit .u8 0), flat := none }
theorem ti147_ok : TIOk Try.prog 147 ti147 := tiOk (by kernel_rfl) (by kernel_rfl) (by kernel_rfl) (fun _ => by kernel_rfl) (flat_none)
noncomputable def ti148 : TI := { und := Try.t148.desc, size := 1, bytes := 8, zero := .one (.val .nilFunc), flat := none }
theorem ti148_ok : TIOk Try.prog 148 ti148 := tiOk (by kernel_rfl) (by kernel_rfl) (by kernel_rfl) (fun _ => by kernel_rfl) (flat_none)
noncomputable def ti149 : TI := { und := Try.t149.desc, size := 1, bytes := 8, zero := .one (.nilp), flat := none }
theorem ti149_ok : TIOk Try.prog 149 ti149 := tiOk (by kernel_rfl) (by kernel_rfl) (by kernel_rfl) (fun _ => by kernel_rfl) (flat_none)
noncomputable def ti150 : TI := { und := Try.t21.desc, size := 1, bytes := 4, zero := .one (.lit .i32 0), flat := none }
theorem ti150_ok : TIOk Try.prog 150 ti150 := tiOk (by kernel_rfl) (by kernel_rfl) (by kernel_rfl) (fun _ => by kernel_rfl) (flat_none)
noncomputable def ti151 : TI := { und := Try.t21.desc, size := 1, bytes := 4, zero := .one (.lit .i32 0), flat := none }
theorem ti151_ok : TIOk Try.prog 151 ti151 := tiOk (by kernel_rfl) (by kernel_rfl) (by kernel_rfl) (fun _ => by kernel_rfl) (flat_none)
noncomputable def ti152 : TI := { und := Try.t152.desc, size := 11, bytes := 48, zero := .agg (.vals [.lit .u64 0, .lit .u64 0, .lit .u32 0, .lit .u8 0, .lit .u8 0, .lit .u8 0, .lit .u8 0, .val .nilFunc, .nilp, .lit .i32 0, .lit .i32 0]), flat := none }
theorem ti152_ok : TIOk Try.prog 152 ti152 := tiOk (by kernel_rfl) (by kernel_rfl) (by kernel_rfl) (fun _ => by kernel_rfl) (flat_none)
noncomputable def ti153 : TI := { und := Try.t152.desc, size := 11, bytes := 48, zero := .agg (.vals [.lit .u64 0, .lit .u64 0, .lit .u32 0, .lit .u8 0, .lit .u8 0, .lit .u8 0, .lit .u8 0, .val .nilFunc, .nilp, .lit .i32 0, .lit .i32 0]), flat := none }
theorem ti153_ok : TIOk Try.prog 153 ti153 := tiOk (by kernel_rfl) (by kernel_rfl) (by kernel_rfl) (fun _ => by kernel_rfl) (flat_none)

noncomputable def tab : Tab TI := .node 79 (.node 38 (.node 18 (.node 9 (.node 5 (.node 3 (.node 2 (.leaf 1 ti1) (.leaf 2 ti2)) (.node 4 (.leaf 3 ti3) (.leaf 4 ti4))) (.node 7 (.node 6 (.leaf 5 ti5) (.leaf 6 ti6)) (.node 8 (.leaf 7 ti7) (.leaf 8 ti8)))) (.node 13 (.node 11 (.node 10 (.leaf 9 ti9) (.leaf 10 ti10)) (.node 12 (.leaf 11 ti11) (.leaf 12 ti12))) (.node 15 (.node 14 (.leaf 13 ti13) (.leaf 14 ti14)) (.node 16 (.leaf 15 ti15) (.node 17 (.leaf 16 ti16) (.leaf 17 ti17)))))) (.node 28 (.node 22 (.node 20 (.node 19 (.leaf 18 ti18) (.leaf 19 ti19)) (.node 21 (.leaf 20 ti20) (.leaf 21 ti21))) (.node 24 (.node 23 (.leaf 22 ti22) (.leaf 23 ti23)) (.node 25 (.leaf 24 ti24) (.node 27 (.leaf 25 ti25) (.leaf 27 ti27))))) (.node 33 (.node 31 (.node 30 (.leaf 28 ti28) (.leaf 30 ti30)) (.node 32 (.leaf 31 ti31) (.leaf 32 ti32))) (.node 35 (.node 34 (.leaf 33 ti33) (.leaf 34 ti34)) (.node 36 (.leaf 35 ti35) (.node 37 (.leaf 36 ti36) (.leaf 37 ti37))))))) (.node 58 (.node 49 (.node 43 (.node 40 (.node 39 (.leaf 38 ti38) (.leaf 39 ti39)) (.node 41 (.leaf 40 ti40) (.leaf 41 ti41))) (.node 45 (.node 44 (.leaf 43 ti43) (.leaf 44 ti44)) (.node 46 (.leaf 45 ti45) (.node 48 (.leaf 46 ti46) (.leaf 48 ti48))))) (.node 53 (.node 51 (.node 50 (.leaf 49 ti49) (.leaf 50 ti50)) (.node 52 (.leaf 51 ti51) (.leaf 52 ti52))) (.node 55 (.node 54 (.leaf 53 ti53) (.leaf 54 ti54)) (.node 56 (.leaf 55 ti55) (.node 57 (.leaf 56 ti56) (.leaf 57 ti57)))))) (.node 68 (.node 62 (.node 60 (.node 59 (.leaf 58 ti58) (.leaf 59 ti59)) (.node 61 (.leaf 60 ti60) (.leaf 61 ti61))) (.node 64 (.node 63 (.leaf 62 ti62) (.leaf 63 ti63)) (.node 66 (.leaf 64 ti64) (.node 67 (.leaf 66 ti66) (.leaf 67 ti67))))) (.node 74 (.node 72 (.node 70 (.leaf 68 ti68) (.leaf 70 ti70)) (.node 73 (.leaf 72 ti72) (.leaf 73 ti73))) (.node 76 (.node 75 (.leaf 74 ti74) (.leaf 75 ti75)) (.node 77 (.leaf 76 ti76) (.node 78 (.leaf 77 ti77) (.leaf 78 ti78)))))))) (.node 117 (.node 99 (.node 89 (.node 85 (.node 81 (.node 80 (.leaf 79 ti79) (.leaf 80 ti80)) (.node 83 (.leaf 81 ti81) (.leaf 83 ti83))) (.node 87 (.node 86 (.leaf 85 ti85) (.leaf 86 ti86)) (.node 88 (.leaf 87 ti87) (.leaf 88 ti88)))) (.node 94 (.node 92 (.node 90 (.leaf 89 ti89) (.leaf 90 ti90)) (.node 93 (.leaf 92 ti92) (.leaf 93 ti93))) (.node 96 (.node 95 (.leaf 94 ti94) (.leaf 95 ti95)) (.node 97 (.leaf 96 ti96) (.node 98 (.leaf 97 ti97) (.leaf 98 ti98)))))) (.node 108 (.node 103 (.node 101 (.node 100 (.leaf 99 ti99) (.leaf 100 ti100)) (.node 102 (.leaf 101 ti101) (.leaf 102 ti102))) (.node 105 (.node 104 (.leaf 103 ti103) (.leaf 104 ti104)) (.node 106 (.leaf 105 ti105) (.node 107 (.leaf 106 ti106) (.leaf 107 ti107))))) (.node 112 (.node 110 (.node 109 (.leaf 108 ti108) (.leaf 109 ti109)) (.node 111 (.leaf 110 ti110) (.leaf 111 ti111))) (.node 114 (.node 113 (.leaf 112 ti112) (.leaf 113 ti113)) (.node 115 (.leaf 114 ti114) (.node 116 (.leaf 115 ti115) (.leaf 116 ti116))))))) (.node 136 (.node 127 (.node 121 (.node 119 (.node 118 (.leaf 117 ti117) (.leaf 118 ti118)) (.node 120 (.leaf 119 ti119) (.leaf 120 ti120))) (.node 123 (.node 122 (.leaf 121 ti121) (.leaf 122 ti122)) (.node 124 (.leaf 123 ti123) (.node 125 (.leaf 124 ti124) (.leaf 125 ti125))))) (.node 131 (.node 129 (.node 128 (.leaf 127 ti127) (.leaf 128 ti128)) (.node 130 (.leaf 129 ti129) (.leaf 130 ti130))) (.node 133 (.node 132 (.leaf 131 ti131) (.leaf 132 ti132)) (.node 134 (.leaf 133 ti133) (.node 135 (.leaf 134 ti134) (.leaf 135 ti135)))))) (.node 145 (.node 140 (.node 138 (.node 137 (.leaf 136 ti136) (.leaf 137 ti137)) (.node 139 (.leaf 138 ti138) (.leaf 139 ti139))) (.node 142 (.node 141 (.leaf 140 ti140) (.leaf 141 ti141)) (.node 143 (.leaf 142 ti142) (.node 144 (.leaf 143 ti143) (.leaf 144 ti144))))) (.node 149 (.node 147 (.node 146 (.leaf 145 ti145) (.leaf 146 ti146)) (.node 148 (.leaf 147 ti147) (.leaf 148 ti148))) (.node 151 (.node 150 (.leaf 149 ti149) (.leaf 150 ti150)) (.node 152 (.leaf 151 ti151) (.node 153 (.leaf 152 ti152) (.leaf 153 ti153))))))))
noncomputable def T : TT := tab.get
theorem tOk : TOk Try.prog T := fun _ _ h => Tab.all_get (p := TIOk Try.prog) (t := tab) ⟨⟨⟨⟨⟨⟨⟨ti1_ok, ti2_ok⟩, ⟨ti3_ok, ti4_ok⟩⟩, ⟨⟨ti5_ok, ti6_ok⟩, ⟨ti7_ok, ti8_ok⟩⟩⟩, ⟨⟨⟨ti9_ok, ti10_ok⟩, ⟨ti11_ok, ti12_ok⟩⟩, ⟨⟨ti13_ok, ti14_ok⟩, ⟨ti15_ok, ⟨ti16_ok, ti17_ok⟩⟩⟩⟩⟩, ⟨⟨⟨⟨ti18_ok, ti19_ok⟩, ⟨ti20_ok, ti21_ok⟩⟩, ⟨⟨ti22_ok, ti23_ok⟩, ⟨ti24_ok, ⟨ti25_ok, ti27_ok⟩⟩⟩⟩, ⟨⟨⟨ti28_ok, ti30_ok⟩, ⟨ti31_ok, ti32_ok⟩⟩, ⟨⟨ti33_ok, ti34_ok⟩, ⟨ti35_ok, ⟨ti36_ok, ti37_ok⟩⟩⟩⟩⟩⟩, ⟨⟨⟨⟨⟨ti38_ok, ti39_ok⟩, ⟨ti40_ok, ti41_ok⟩⟩, ⟨⟨ti43_ok, ti44_ok⟩, ⟨ti45_ok, ⟨ti46_ok, ti48_ok⟩⟩⟩⟩, ⟨⟨⟨ti49_ok, ti50_ok⟩, ⟨ti51_ok, ti52_ok⟩⟩, ⟨⟨ti53_ok, ti54_ok⟩, ⟨ti55_ok, ⟨ti56_ok, ti57_ok⟩⟩⟩⟩⟩, ⟨⟨⟨⟨ti58_ok, ti59_ok⟩, ⟨ti60_ok, ti61_ok⟩⟩, ⟨⟨ti62_ok, ti63_ok⟩, ⟨ti64_ok, ⟨ti66_ok, ti67_ok⟩⟩⟩⟩, ⟨⟨⟨ti68_ok, ti70_ok⟩, ⟨ti72_ok, ti73_ok⟩⟩, ⟨⟨ti74_ok, ti75_ok⟩, ⟨ti76_ok, ⟨ti77_ok, ti78_ok⟩⟩⟩⟩⟩⟩⟩, ⟨⟨⟨⟨⟨⟨ti79_ok, ti80_ok⟩, ⟨ti81_ok, ti83_ok⟩⟩, ⟨⟨ti85_ok, ti86_ok⟩, ⟨ti87_ok, ti88_ok⟩⟩⟩, ⟨⟨⟨ti89_ok, ti90_ok⟩, ⟨ti92_ok, ti93_ok⟩⟩, ⟨⟨ti94_ok, ti95_ok⟩, ⟨ti96_ok, ⟨ti97_ok, ti98_ok⟩⟩⟩⟩⟩, ⟨⟨⟨⟨ti99_ok, ti100_ok⟩, ⟨ti101_ok, ti102_ok⟩⟩, ⟨⟨ti103_ok, ti104_ok⟩, ⟨ti105_ok, ⟨ti106_ok, ti107_ok⟩⟩⟩⟩, ⟨⟨⟨ti108_ok, ti109_ok⟩, ⟨ti110_ok, ti111_ok⟩⟩, ⟨⟨ti112_ok, ti113_ok⟩, ⟨ti114_ok, ⟨ti115_ok, ti116_ok⟩⟩⟩⟩⟩⟩, ⟨⟨⟨⟨⟨ti117_ok, ti118_ok⟩, ⟨ti119_ok, ti120_ok⟩⟩, ⟨⟨ti121_ok, ti122_ok⟩, ⟨ti123_ok, ⟨ti124_ok, ti125_ok⟩⟩⟩⟩, ⟨⟨⟨ti127_ok, ti128_ok⟩, ⟨ti129_ok, ti130_ok⟩⟩, ⟨⟨ti131_ok, ti132_ok⟩, ⟨ti133_ok, ⟨ti134_ok, ti135_ok⟩⟩⟩⟩⟩, ⟨⟨⟨⟨ti136_ok, ti137_ok⟩, ⟨ti138_ok, ti139_ok⟩⟩, ⟨⟨ti140_ok, ti141_ok⟩, ⟨ti142_ok, ⟨ti143_ok, ti144_ok⟩⟩⟩⟩, ⟨⟨⟨ti145_ok, ti146_ok⟩, ⟨ti147_ok, ti148_ok⟩⟩, ⟨⟨ti149_ok, ti150_ok⟩, ⟨ti151_ok, ⟨ti152_ok, ti153_ok⟩⟩⟩⟩⟩⟩⟩⟩ h
theorem mixed : Try.prog.follows .mixedOrders = true := by kernel_rfl

end Go.Proofs.Ytnndhmnabbkamaa
