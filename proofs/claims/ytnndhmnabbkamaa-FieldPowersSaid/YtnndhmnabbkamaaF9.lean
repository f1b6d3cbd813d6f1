/-
  The reference's product modulo m: what is 2^256 and more counts 2^256 - m each, again and again.
  Conditions: those that each theorem names.
-/
import Derived.Test.YtnndhmnabbkamaaF8
namespace Go.Proofs.Ytnndhmnabbkamaa
open Go Go.Ev Go.Proofs
set_option maxRecDepth 100000

/-- In so many rounds what lies above is gone. -/
def Fine (m : Int) : Nat → Int → Prop
  | 0, p => p < R
  | n + 1, p => p < R ∨ Fine m n (p - p / R * m)

abbrev st29 (m d i : Int) (O : List Int) : St := (mkT 39 [(5, .one (.ptr true 5 0)), (6, .one (.ptr true 6 0)), (7, .one (.ptr true 7 0)), (8, .one (.ptr true 8 0)), (9, .one (.ptr true 9 0)), (10, .one (.int .i64 i))],
  [(5, nown m), (6, zown), (7, zown), (8, nown d), (9, lb 97 O)])
abbrev fin29 (m : Int) (O : List Int) : St := (mkT 39 [(5, .one (.ptr true 5 0)), (6, .one (.ptr true 6 0)), (9, .one (.ptr true 9 0))], [(5, nown m), (6, zown), (9, lb 97 O)])

theorem nonzero4 {h : Int} (h0 : 0 ≤ h) (h1 : h < R) : (!decide ([l0 h, l1 h, l2 h, l3 h] = [0, 0, 0, 0])) = decide (h ≠ 0) := by
  have e := v4_l h h0 h1
  by_cases k : h = 0
  · subst k; rfl
  · rw [decide_eq_true (p := h ≠ 0) k, decide_eq_false]
    · rfl
    · intro e2
      injection e2 with a0 e2
      injection e2 with a1 e2
      injection e2 with a2 e2
      injection e2 with a3 e2
      rw [a0, a1, a2, a3] at e
      exact k (by rw [← e]; decide)

theorem mul_loop (m : Int) (hm0 : 0 < m) (hm : m < R) : ∀ (n : Nat) (i p : Int), 0 ≤ i → i + n < 600 → 0 ≤ p → p < R * R → Fine m n p →
    ∃ p', 0 ≤ p' ∧ p' < R ∧ p' % m = p % m ∧ RunsL Try.prog (codeAt Try.f29 [1, 1, 1, 1, 0, 1, 0, 0]) (st29 m (R - m) i (digs 16 p)) (.exit 0) (fin29 m (digs 16 p')) := by
  have hout : ∀ (i p : Int), i < 600 → 0 ≤ p → p < R → RunsL Try.prog (codeAt Try.f29 [1, 1, 1, 1, 0, 1, 0, 0]) (st29 m (R - m) i (digs 16 p)) (.exit 0) (fin29 m (digs 16 p)) := by
    intro i p hi hp0 hp
    have e : p / R % R = 0 := by rw [Int.ediv_eq_zero_of_lt hp0 hp]; rfl
    have h8 := number8_ok p
    rw [e] at h8
    exact .out (r29_o (digs 16 p) m (R - m) i 0 ⟨decide_eq_true hi, digs_length 16 p, h8, rfl⟩) (by simp)
  intro n
  induction n with
  | zero =>
    intro i p hi0 hi hp0 _ hf
    exact ⟨p, hp0, hf, rfl, hout i p (by omega) hp0 hf⟩
  | succ n ih =>
    intro i p hi0 hi hp0 hp hf
    by_cases k : p < R
    · exact ⟨p, hp0, k, rfl, hout i p (by omega) hp0 k⟩
    · have hf' : Fine m n (p - p / R * m) := by
        rcases hf with h | h
        · exact absurd h k
        · exact h
      have hR := R_pos
      have hq0 : 0 ≤ p / R := Int.ediv_nonneg hp0 (by omega)
      have hq : p / R < R := Int.ediv_lt_of_lt_mul hR hp
      have hq1 : p / R ≠ 0 := by
        intro e
        have := Int.emod_add_mul_ediv p R
        have := (mod_range p R hR).2
        rw [e] at *
        omega
      have hr := mod_range p R hR
      have e8 : p / R % R = p / R := Int.emod_eq_of_lt hq0 hq
      have h8 := number8_ok p
      rw [e8] at h8
      have h0 := number0_ok p
      have hpr := product_ok (p / R) (R - m) (p % R) hq0 hq (by omega) (by omega) hr.1 hr.2
      have ep : p / R * (R - m) + p % R = p - p / R * m := by
        have := Int.emod_add_mul_ediv p R
        have e2 : p / R * (R - m) = R * (p / R) - p / R * m := by grind
        rw [e2]; omega
      rw [ep] at hpr
      have hnn : 0 ≤ p - p / R * m := by
        rw [← ep]
        exact Int.add_nonneg (Int.mul_nonneg hq0 (by omega)) hr.1
      have hle : 0 ≤ p / R * m := Int.mul_nonneg hq0 (by omega)
      have hrd := r29 (digs 16 p) (digs 16 (p - p / R * m)) m (R - m) i (p / R) (p % R) ⟨decide_eq_true (by omega), digs_length 16 p, h8, by rw [nonzero4 hq0 hq]; exact decide_eq_true hq1, h0, hpr, digs_length 16 _⟩
      rw [wrap_i64 (i + 1) (by omega) (by omega)] at hrd
      obtain ⟨p', a1, a2, a3, a4⟩ := ih (i + 1) (p - p / R * m) (by omega) (by omega) hnn (by omega) hf'
      refine ⟨p', a1, a2, ?_, .round hrd a4⟩
      rw [a3, Int.sub_mul_emod_self_right]

/-- What a round leaves. -/
theorem hi_step {m p : Int} (H : Int) (hp0 : 0 ≤ p) (hp : p < H * R) (hm : m < R) (hd : R - m ≤ 26959946667150639794667015087019630673637144422540572481103610249216) : p - p / R * m ≤ (H - 1) * 26959946667150639794667015087019630673637144422540572481103610249216 + R - 1 := by
  have hR := R_pos
  have hq0 : 0 ≤ p / R := Int.ediv_nonneg hp0 (by omega)
  have hq : p / R < H := Int.ediv_lt_of_lt_mul hR hp
  have hr := mod_range p R hR
  have e := Int.emod_add_mul_ediv p R
  have h1 : p / R * (R - m) ≤ (H - 1) * 26959946667150639794667015087019630673637144422540572481103610249216 := Int.mul_le_mul (by omega) hd (by omega) (by omega)
  have e2 : p / R * (R - m) = R * (p / R) - p / R * m := by grind
  omega

theorem step_nonneg {m p : Int} (hp0 : 0 ≤ p) (hm : m < R) : 0 ≤ p - p / R * m := by
  have hR := R_pos
  have hq0 : 0 ≤ p / R := Int.ediv_nonneg hp0 (by omega)
  have hr := mod_range p R hR
  have e := Int.emod_add_mul_ediv p R
  have h1 : 0 ≤ p / R * (R - m) := Int.mul_nonneg hq0 (by omega)
  have e2 : p / R * (R - m) = R * (p / R) - p / R * m := by grind
  omega

theorem fine2 {m p : Int} (hp0 : 0 ≤ p) (hm : m < R) (hh : R < 2 * m) (hp : p < 2 * R) : Fine m 2 p := by
  by_cases k : p < R
  · exact .inl k
  · have e : p / R = 1 := by unfold R at *; omega
    right
    rw [e, Int.one_mul]
    by_cases k2 : p - m < R
    · exact .inl k2
    · have e2 : (p - m) / R = 1 := by unfold R at *; omega
      right
      rw [e2, Int.one_mul]
      show p - m - m < R
      omega

theorem fine_up {m p : Int} (n : Nat) (H H' : Int) (hp0 : 0 ≤ p) (hm : m < R) (hd : R - m ≤ 26959946667150639794667015087019630673637144422540572481103610249216) (hp : p < H * R) (hH : (H - 1) * 26959946667150639794667015087019630673637144422540572481103610249216 + R ≤ H' * R)
    (h : ∀ q, 0 ≤ q → q < H' * R → Fine m n q) : Fine m (n + 1) p :=
  .inr (h _ (step_nonneg hp0 hm) (by have := hi_step H hp0 hp hm hd; omega))

theorem fine_all {m p : Int} (hm : m < R) (hh : R < 2 * m) (hd : R - m ≤ 26959946667150639794667015087019630673637144422540572481103610249216) (hp0 : 0 ≤ p) (hp : p < R * R) : Fine m 11 p := by
  refine fine_up 10 R (2 ^ 248) hp0 hm hd hp (by decide) fun p hp0 hp => ?_
  refine fine_up 9 _ (2 ^ 217) hp0 hm hd hp (by decide) fun p hp0 hp => ?_
  refine fine_up 8 _ (2 ^ 186) hp0 hm hd hp (by decide) fun p hp0 hp => ?_
  refine fine_up 7 _ (2 ^ 155) hp0 hm hd hp (by decide) fun p hp0 hp => ?_
  refine fine_up 6 _ (2 ^ 124) hp0 hm hd hp (by decide) fun p hp0 hp => ?_
  refine fine_up 5 _ (2 ^ 93) hp0 hm hd hp (by decide) fun p hp0 hp => ?_
  refine fine_up 4 _ (2 ^ 62) hp0 hm hd hp (by decide) fun p hp0 hp => ?_
  refine fine_up 3 _ (2 ^ 31) hp0 hm hd hp (by decide) fun p hp0 hp => ?_
  refine fine_up 2 _ 2 hp0 hm hd hp (by decide) fun p hp0 hp => fine2 hp0 hm hh hp

theorem RMul_ok (a b m : Int) (ha0 : 0 ≤ a) (ha : a < m) (hb0 : 0 ≤ b) (hb : b < m) (hm : m < R) (hh : R < 2 * m) (hd : R - m ≤ 26959946667150639794667015087019630673637144422540572481103610249216) : CallOk Try.prog 29 [nv a, nv b, nv m] [] (.t (nv (a * b % m))) [] [] := by
  have hR := R_pos
  have hp0 : 0 ≤ a * b := Int.mul_nonneg ha0 hb0
  have hp : a * b < R * R := by
    have : a * b ≤ (R - 1) * (R - 1) := Int.mul_le_mul (by omega) (by omega) hb0 (by decide)
    have e : (R - 1) * (R - 1) < R * R := by decide
    omega
  obtain ⟨p', h0, h1, h2, h3⟩ := mul_loop m (by omega) hm 11 0 (a * b) (by omega) (by omega) hp0 hp (fine_all hm hh hd hp0 hp)
  have hmin := RMinus_ok 0 m (by omega) hR (by omega) hm
  have e1 : (0 - m) % R = R - m := by rw [← Int.add_emod_right, Int.emod_eq_of_lt (by omega) (by omega)]; omega
  rw [e1] at hmin
  have hpr := product_ok a b 0 ha0 (by omega) hb0 (by omega) (by omega) hR
  rw [Int.add_zero] at hpr
  have hn := number0_ok p'
  rw [Int.emod_eq_of_lt h0 h1] at hn
  have hrest := Rest_ok p' m false h0 h1 (by omega) hm (by simp only [rb, Bool.false_eq_true, if_false]; omega)
  simp only [rb, Bool.false_eq_true, if_false, Int.add_zero] at hrest
  rw [h2] at hrest
  have hl := h3.loop.preT (l' := [(5, .one (.ptr true 5 0)), (6, .one (.ptr true 6 0)), (7, .one (.ptr true 7 0)), (8, .one (.ptr true 8 0)), (9, .one (.ptr true 9 0)), (10, .one (.lit .i64 0))])
    (ka_same (ka_same (ka_same (ka_same (ka_same (.symm (ka_lit ka_nil))))))) (Alike.refl _)
  exact (p29 a b m (R - m) p' _ (digs 16 (a * b)) (digs 16 p') ⟨hmin.args fun _ => rfl, hpr.args fun _ => rfl, digs_length 16 _, rfl, hl, digs_length 16 _, hn, hrest⟩).call nw6_29 rfl

end Go.Proofs.Ytnndhmnabbkamaa
