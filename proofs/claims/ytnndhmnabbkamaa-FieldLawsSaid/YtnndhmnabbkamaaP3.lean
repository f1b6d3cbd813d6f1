/-
  The row of 'barbicanlaw05.FieldLaws': it returns true whatever the input.
  Conditions: none.
-/
import Derived.Test.YtnndhmnabbkamaaRows
import Derived.Test.YtnndhmnabbkamaaRow
import Derived.Test.YtnndhmnabbkamaaF13
namespace Go.Proofs.Ytnndhmnabbkamaa
open Go Go.Ev Go.Proofs Go.ChangeShapes Go.WideShapes Go.RowKit
set_option maxRecDepth 100000

theorem ownNone3 : ownKnob Try.prog.godebug = none := by kernel_rfl
theorem laid3 : laidOutB Try.prog = true := by kernel_rfl
theorem cells24c : Try.prog.cellsOf 24 = 4 := by kernel_rfl
theorem cells22c : Try.prog.cellsOf 22 = 1 := by kernel_rfl
theorem cells41c : Try.prog.cellsOf 41 = 12 := by kernel_rfl

/-- Four words, opened. -/
theorem trod_num {H : Type} {enc : TypeId × Value → H} {W : World} {base : Nat} {sp : Nat → Bool} {held : Bool} {fuel : Nat} {cs : List Value} {x : DataW H × List MemPlace}
    (h : DataW.trod enc Try.prog W base sp held fuel 24 cs = some x) : ∃ n, 0 ≤ n ∧ n < R ∧ cs = [.int .u64 (l0 n), .int .u64 (l1 n), .int .u64 (l2 n), .int .u64 (l3 n)] := by
  obtain ⟨xs, m, rfl, hx, hl, hn, hi⟩ := DataW.trod_array Try.underlying24 h
  rw [cells24c] at hl
  have g : ∀ i, i < 4 → ∃ a, (cs.drop i).take 1 = [.int .u64 a] ∧ Wd a := by
    intro i h4
    have := hi i h4
    rw [cells22c, Nat.mul_one, List.getElem?_eq_getElem (by omega)] at this
    obtain ⟨a, e1, _, e3⟩ := DataW.trod_int Try.underlying22 this
    refine ⟨a, e1, ?_⟩
    have := bounds_u64 e3
    exact ⟨by omega, by omega⟩
  obtain ⟨a0, e0, w0⟩ := g 0 (by omega)
  obtain ⟨a1, e1, w1⟩ := g 1 (by omega)
  obtain ⟨a2, e2, w2⟩ := g 2 (by omega)
  obtain ⟨a3, e3, w3⟩ := g 3 (by omega)
  obtain ⟨q0, q1, q2, q3⟩ := l_v4 w0 w1 w2 w3
  refine ⟨v4 a0 a1 a2 a3, (v4_lt w0 w1 w2 w3).1, (v4_lt w0 w1 w2 w3).2, ?_⟩
  rw [q0, q1, q2, q3]
  match cs, hl with
  | [x0, x1, x2, x3], _ =>
    simp at e0 e1 e2 e3
    subst e0 e1 e2 e3
    rfl

theorem open_num3 {H : Type} {enc : TypeId × Value → H} {r : Reach} {b0 : Nat} {W : World} {base : Nat} {sp : Nat → Bool} {held : Bool} {v : Value} {d : DataW H} {ps : List MemPlace}
    (hval : Value.okWide Try.prog W r b0 41 v) (hd : DataW.Trod enc Try.prog W base sp held 41 v d ps) : ∃ x y z, 0 ≤ x ∧ x < R ∧ 0 ≤ y ∧ y < R ∧ 0 ≤ z ∧ z < R ∧ ∀ ψ, v = (n3 x y z).c ψ := by
  simp only [Value.okWide, Try.underlying41] at hval
  obtain ⟨cs, rfl, hs, -⟩ := hval
  obtain ⟨fuel, hf⟩ := hd
  obtain ⟨xs, m, rfl, hx, hl, hn, hi⟩ := DataW.trod_array Try.underlying41 hf
  have g : ∀ i, i < 3 → ∃ n, 0 ≤ n ∧ n < R ∧ (cs.toList.drop (i * 4)).take 4 = [.int .u64 (l0 n), .int .u64 (l1 n), .int .u64 (l2 n), .int .u64 (l3 n)] := by
    intro i h3
    have := hi i h3
    rw [cells24c, List.getElem?_eq_getElem (by omega)] at this
    exact trod_num this
  obtain ⟨x, x0, x1, ex⟩ := g 0 (by omega)
  obtain ⟨y, y0, y1, ey⟩ := g 1 (by omega)
  obtain ⟨z, z0, z1, ez⟩ := g 2 (by omega)
  have hl : cs.toList.length = 12 := by rw [← cells41c]; exact hl
  refine ⟨x, y, z, x0, x1, y0, y1, z0, z1, fun ψ => ?_⟩
  show Value.agg cs = .agg _
  congr 1
  obtain ⟨cs⟩ := cs
  match cs, hl with
  | [c0, c1, c2, c3, c4, c5, c6, c7, c8, c9, c10, c11], _ =>
    simp at ex ey ez
    obtain ⟨rfl, rfl, rfl, rfl⟩ := ex
    obtain ⟨rfl, rfl, rfl, rfl⟩ := ey
    obtain ⟨rfl, rfl, rfl, rfl⟩ := ez
    rfl


theorem fieldLaws_lifted (os : Os) (started : os.Started) (H : Type) (enc : TypeId × Value → H) :
    ReturnsInHanded {} Try.checked os 7 .any (Rows.fieldLawsSpec.pre6 enc Try.prog Try.f7 Rows.fieldLawsRow.domain false) (Rows.fieldLawsSpec.post enc Try.prog Try.f7 false true false false) := by
  refine returnsInHanded_of_change (C := Try.checked) ownNone3 started (by kernel_rfl) Try.func7
    (ChangeSpec.witness6 (enc := enc) (C := Try.checked) false ⟨#[], #[.int .i64 0, .agg #[.int .u64 0, .int .u64 0, .int .u64 0, .int .u64 0, .int .u64 0, .int .u64 0, .int .u64 0, .int .u64 0, .int .u64 0, .int .u64 0, .int .u64 0, .int .u64 0]], []⟩ 8 (by kernel_rfl) (by kernel_rfl) (by kernel_rfl) (by kernel_rfl)) ?_
  intro W base args ds gs before hval0 hW _ _
  have hval : ∀ (j : Nat) t v, Try.f7.params[j]? = some t → args[j]? = some v → Value.okWide Try.prog W .any base t v := hval0
  obtain ⟨p, q, hA0, _⟩ := id hW
  have hA : DataW.TrodAll enc Try.prog W 0 (fun _ => true) true Try.f7.params.toList args.toList ds p := hA0
  rw [Try.params7] at hA hval
  obtain ⟨v0, v1, d0, d1, p0, p1, rfl, rfl, rfl, h0, h1⟩ := trodAll_two hA
  obtain ⟨which, rfl, rfl, rfl, w0⟩ := open_int Try.underlying3 (hval 0 3 v0 rfl rfl) h0
  obtain ⟨x, y, z, x0, x1, y0, y1, z0, z1, e⟩ := open_num3 (hval 1 41 v1 rfl rfl) h1
  have hc := (laws_ok which x y z x0 x1 y0 y1 z0 z1).calls nw9_7 (fun _ => ⟨0, 0, 0⟩) W
  rw [e (fun _ => ⟨0, 0, 0⟩)] at hW
  rw [e (fun _ => ⟨0, 0, 0⟩)]
  refine Calls.mono hc fun e W' he => ?_
  obtain ⟨rfl, hb⟩ := he
  exact ⟨_, rfl, law_post laid3 (by kernel_rfl) (by kernel_rfl) Try.underlying4 rfl hW rfl hb⟩

theorem fieldLaws_holds : Rows.FieldLawsSaid :=
  OpenClaim.holds_of_wide 7 Try.f7 rfl rfl rfl rfl rfl rfl rfl ⟨rfl, rfl, rfl, rfl, rfl⟩ rfl rfl rfl rfl rfl (by kernel_rfl) Try.func7 (by kernel_rfl)
    (of_decide_eq_true (by kernel_rfl)) (by unfold Func.isWrapper; first | (rw [if_pos (by decide +kernel)]; kernel_rfl) | (rw [if_neg (by decide +kernel)]; exact ⟨rfl, rfl⟩))
    (fun os started H enc _ => fieldLaws_lifted os started H enc)
#print axioms fieldLaws_holds

end Go.Proofs.Ytnndhmnabbkamaa
