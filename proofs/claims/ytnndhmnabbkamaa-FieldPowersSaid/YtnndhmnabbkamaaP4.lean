/-
  The row of 'barbicanlaw05.FieldPowers': it returns true whatever the input.
  Conditions: none.
-/
import Derived.Test.YtnndhmnabbkamaaRows
import Derived.Test.YtnndhmnabbkamaaRow
import Derived.Test.YtnndhmnabbkamaaF14
namespace Go.Proofs.Ytnndhmnabbkamaa
open Go Go.Ev Go.Proofs Go.ChangeShapes Go.WideShapes Go.RowKit

theorem ownNone4 : ownKnob Try.prog.godebug = none := by kernel_rfl
theorem laid4 : laidOutB Try.prog = true := by kernel_rfl
theorem cells24d : Try.prog.cellsOf 24 = 4 := by kernel_rfl
theorem cells22d : Try.prog.cellsOf 22 = 1 := by kernel_rfl

set_option maxRecDepth 100000 in
theorem fieldPowers_lifted (os : Os) (started : os.Started) (H : Type) (enc : TypeId × Value → H) :
    ReturnsInHanded {} Try.checked os 5 .any (Rows.fieldPowersSpec.pre6 enc Try.prog Try.f5 Rows.fieldPowersRow.domain false) (Rows.fieldPowersSpec.post enc Try.prog Try.f5 false true false false) := by
  refine returnsInHanded_of_change (C := Try.checked) ownNone4 started (by kernel_rfl) Try.func5
    (ChangeSpec.witness6 (enc := enc) (C := Try.checked) false ⟨#[], #[.int .i64 0, .agg #[.int .u64 0, .int .u64 0, .int .u64 0, .int .u64 0], .agg #[.int .u64 0, .int .u64 0, .int .u64 0, .int .u64 0]], []⟩ 8 (by kernel_rfl) (by kernel_rfl) (by kernel_rfl) (by kernel_rfl)) ?_
  intro W base args ds gs before hval0 hW _ _
  have hval : ∀ (j : Nat) t v, Try.f5.params[j]? = some t → args[j]? = some v → Value.okWide Try.prog W .any base t v := hval0
  obtain ⟨p, q, hA0, _⟩ := id hW
  have hA : DataW.TrodAll enc Try.prog W 0 (fun _ => true) true Try.f5.params.toList args.toList ds p := hA0
  rw [Try.params5] at hA hval
  obtain ⟨v0, v1, v2, d0, d1, d2, p0, p1, p2, rfl, rfl, rfl, h0, h1, h2⟩ := trodAll_three hA
  obtain ⟨which, rfl, rfl, rfl, w0⟩ := open_int Try.underlying3 (hval 0 3 v0 rfl rfl) h0
  obtain ⟨x, hx0, hx, e⟩ := open_num Try.underlying24 Try.underlying22 cells22d cells24d (hval 1 24 v1 rfl rfl) h1
  obtain ⟨y, hy0, hy, e'⟩ := open_num Try.underlying24 Try.underlying22 cells22d cells24d (hval 2 24 v2 rfl rfl) h2
  have hc := (powers_ok which x y hx0 hx hy0 hy).calls nw10_5 (fun _ => ⟨0, 0, 0⟩) W
  rw [e (fun _ => ⟨0, 0, 0⟩), e' (fun _ => ⟨0, 0, 0⟩)] at hW
  rw [e (fun _ => ⟨0, 0, 0⟩), e' (fun _ => ⟨0, 0, 0⟩)]
  refine Calls.mono hc fun e W' he => ?_
  obtain ⟨rfl, hb⟩ := he
  exact ⟨_, rfl, law_post laid4 (by kernel_rfl) (by kernel_rfl) Try.underlying4 rfl hW rfl hb⟩

theorem fieldPowers_holds : Rows.FieldPowersSaid :=
  OpenClaim.holds_of_wide 5 Try.f5 rfl rfl rfl rfl rfl rfl rfl ⟨rfl, rfl, rfl, rfl, rfl⟩ rfl rfl rfl rfl rfl (by kernel_rfl) Try.func5 (by kernel_rfl)
    (of_decide_eq_true (by kernel_rfl)) (by unfold Func.isWrapper; first | (rw [if_pos (by decide +kernel)]; kernel_rfl) | (rw [if_neg (by decide +kernel)]; exact ⟨rfl, rfl⟩))
    (fun os started H enc _ => fieldPowers_lifted os started H enc)
#print axioms fieldPowers_holds

end Go.Proofs.Ytnndhmnabbkamaa
