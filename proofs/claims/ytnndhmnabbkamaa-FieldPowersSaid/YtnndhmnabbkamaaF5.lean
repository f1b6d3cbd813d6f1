/-
  The reference's numbers: rests, sums and differences modulo m, forms (doubled 256 times) and plain numbers (halved 256 times).
  Conditions: those that each theorem names.
-/
import Derived.Test.YtnndhmnabbkamaaF4
import Derived.Test.YtnndhmnabbkamaaEv16
import Derived.Test.YtnndhmnabbkamaaW4
namespace Go.Proofs.Ytnndhmnabbkamaa
open Go Go.Ev Go.Proofs
set_option maxRecDepth 100000

theorem R_pos : (0 : Int) < R := by decide

abbrev rb (b : Bool) : Int := if b then R else 0

theorem Rest_ok (x m : Int) (b : Bool) (hx0 : 0 ≤ x) (hx : x < R) (hm0 : 0 < m) (hm : m < R) (h : x + rb b < 2 * m) : CallOk Try.prog 23 [nv x, .one (.blit b), nv m] [] (.t (nv ((x + rb b) % m))) [] [] := by
  have hl : CallOk Try.prog 24 [nv x, nv m] [] (.one (.bool (decide (x < m)))) [] [] := (RLess_ok x m hx0 hx (by omega) hm).res (by simp) fun _ => rfl
  have hs := RMinus_ok x m hx0 hx (by omega) hm
  have fin : ∀ {r : Int}, FnOk Try.prog 23 [nv x, .one (.bool b), nv m] [] (.t (nv r)) [] → CallOk Try.prog 23 [nv x, .one (.blit b), nv m] [] (.t (nv r)) [] [] := fun h => (h.call nw4_23 rfl).args fun _ => rfl
  cases b with
  | true =>
    have e : (x + rb true) % m = (x - m) % R := by
      simp only [rb, if_true] at h ⊢
      have : (x - m) % R = x - m + R := by
        rw [← Int.add_emod_right]; exact Int.emod_eq_of_lt (by omega) (by omega)
      rw [this, ← Int.sub_emod_right, Int.emod_eq_of_lt (by omega) (by omega)]; omega
    rw [e]
    exact fin (p23_o x m _ true _ ⟨hl, rfl, hs⟩)
  | false =>
    simp only [rb, Bool.false_eq_true, if_false, Int.add_zero] at h ⊢
    by_cases k : x < m
    · rw [Int.emod_eq_of_lt hx0 k]
      exact fin (p23_s x m false _ ⟨hl, rfl, decide_eq_true k⟩)
    · have e : x % m = (x - m) % R := by
        rw [← Int.sub_emod_right, Int.emod_eq_of_lt (by omega) (by omega), Int.emod_eq_of_lt (by omega) (by omega)]
      rw [e]
      exact fin (p23_g x m _ false _ ⟨hl, rfl, decide_eq_false k, hs⟩)

theorem mod_range (x m : Int) (hm : 0 < m) : 0 ≤ x % m ∧ x % m < m := ⟨Int.emod_nonneg x (by omega), Int.emod_lt_of_pos x hm⟩

theorem RAdd_ok (a b m : Int) (ha0 : 0 ≤ a) (ha : a < m) (hb0 : 0 ≤ b) (hb : b < m) (hm : m < R) : CallOk Try.prog 30 [nv a, nv b, nv m] [] (.t (nv ((a + b) % m))) [] [] := by
  have hs : CallOk Try.prog 83 [nv a, nv b] [] (.tup [nv ((a + b) % R), .one (.bool (decide (R ≤ a + b)))]) [] [] := (RSum_ok a b ha0 (by omega) hb0 (by omega)).res (by simp) fun _ => rfl
  have hr := mod_range (a + b) R R_pos
  have e : (a + b) % R + rb (decide (R ≤ a + b)) = a + b := by
    unfold rb
    by_cases k : R ≤ a + b
    · rw [decide_eq_true k, if_pos rfl, ← Int.sub_emod_right, Int.emod_eq_of_lt (by omega) (by omega)]; omega
    · rw [decide_eq_false k, if_neg (by simp), Int.emod_eq_of_lt (by omega) (by omega)]; omega
  have ht := Rest_ok ((a + b) % R) m (decide (R ≤ a + b)) hr.1 hr.2 (by omega) hm (by rw [e]; omega)
  rw [e] at ht
  exact (p30 a b m _ _ _ ⟨hs, ht.args fun _ => rfl⟩).call nw4_30 rfl

theorem RSub_ok (a b m : Int) (ha0 : 0 ≤ a) (ha : a < m) (hb0 : 0 ≤ b) (hb : b < m) (hm : m < R) : CallOk Try.prog 31 [nv a, nv b, nv m] [] (.t (nv ((a - b) % m))) [] [] := by
  have hl : CallOk Try.prog 24 [nv a, nv b] [] (.one (.bool (decide (a < b)))) [] [] := (RLess_ok a b ha0 (by omega) hb0 (by omega)).res (by simp) fun _ => rfl
  have hs := RMinus_ok a b ha0 (by omega) hb0 (by omega)
  by_cases k : a < b
  · have hd := mod_range (a - b) R R_pos
    have ht : CallOk Try.prog 83 [nv ((a - b) % R), nv m] [] (.tup [nv (((a - b) % R + m) % R), .one (.bool (decide (R ≤ (a - b) % R + m)))]) [] [] := (RSum_ok _ m hd.1 hd.2 (by omega) hm).res (by simp) fun _ => rfl
    have e : (a - b) % m = ((a - b) % R + m) % R := by
      rw [Int.emod_add_emod, Int.emod_eq_of_lt (a := a - b + m) (by omega) (by omega), ← Int.add_emod_right, Int.emod_eq_of_lt (by omega) (by omega)]
    rw [e]
    exact (p31_l a b m _ _ _ _ ⟨hl, hs, decide_eq_true k, ht⟩).call nw4_31 rfl
  · have e : (a - b) % m = (a - b) % R := by
      rw [Int.emod_eq_of_lt (by omega) (by omega), Int.emod_eq_of_lt (by omega) (by omega)]
    rw [e]
    exact (p31_g a b m _ _ ⟨hl, hs, decide_eq_false k⟩).call nw4_31 rfl

/-! ### Form -/

abbrev nown (x : Int) : Blk := own4 (.int .u64 (l0 x)) (.int .u64 (l1 x)) (.int .u64 (l2 x)) (.int .u64 (l3 x))
abbrev zown : Blk := own4 (.lit .u64 0) (.lit .u64 0) (.lit .u64 0) (.lit .u64 0)
abbrev st22 (n : Nat) (x m i : Int) : St := (mkT n [(2, .one (.ptr true 2 0)), (3, .one (.ptr true 3 0)), (4, .one (.ptr true 4 0)), (5, .one (.int .i64 i))], [(2, nown x), (3, nown m), (4, zown)])
abbrev fin22 (n : Nat) (x : Int) : St := (mkT n [(2, .one (.ptr true 2 0)), (4, .one (.ptr true 4 0))], [(2, nown x), (4, zown)])

theorem form_loop (m : Int) (hm : m < R) : ∀ (n : Nat) (i x : Int), 0 ≤ i → i + n = 256 → 0 ≤ x → x < m →
    RunsL Try.prog (codeAt Try.f22 [1, 0, 1, 0, 0]) (st22 15 x m i) (.exit 0) (fin22 15 (x * 2 ^ n % m))
  | 0, i, x, _, hi, hx0, hx => by
    have e : x * 2 ^ 0 % m = x := by rw [Int.pow_zero, Int.mul_one]; exact Int.emod_eq_of_lt hx0 hx
    rw [e]
    exact .out (r22_out x m i (decide_eq_false (by omega))) (by simp)
  | n + 1, i, x, hi0, hi, hx0, hx => by
    have hr := mod_range (x + x) m (by omega)
    have h := r22 x m _ i ⟨decide_eq_true (by omega), RAdd_ok x x m hx0 hx hx0 hx hm⟩
    rw [wrap_i64 (i + 1) (by omega) (by omega)] at h
    have e : x * 2 ^ (n + 1) % m = ((x + x) % m) * 2 ^ n % m := by
      rw [Int.mul_emod ((x + x) % m), Int.emod_emod, ← Int.mul_emod]
      congr 1; grind
    rw [e]
    exact .round h (form_loop m hm n (i + 1) _ (by omega) (by omega) hr.1 hr.2)

theorem R_pow : R = 2 ^ 256 := by decide

theorem Form_ok (x m : Int) (hx0 : 0 ≤ x) (hx : x < m) (hm : m < R) : CallOk Try.prog 22 [nv x, nv m] [] (.t (nv (x * R % m))) [] [] := by
  have h := (form_loop m hm 256 0 x (by omega) (by omega) hx0 hx).loop
  rw [← R_pow] at h
  have h2 := h.preT (l' := [(2, .one (.ptr true 2 0)), (3, .one (.ptr true 3 0)), (4, .one (.ptr true 4 0)), (5, .one (.lit .i64 0))]) (ka_same (ka_same (ka_same (KAlike.symm (ka_lit ka_nil))))) (Alike.refl _)
  exact (p22 x m _ h2).call nw4_22 rfl

/-! ### Plain -/

theorem half_words {q0 q1 q2 q3 t : Int} (h0 : Wd q0) (h1 : Wd q1) (h2 : Wd q2) (h3 : Wd q3) (ht : t = 0 ∨ t = 1) :
    ∃ c0 c1 c2 c3, Wd c0 ∧ Wd c1 ∧ Wd c2 ∧ Wd c3 ∧ v4 c0 c1 c2 c3 = (v4 q0 q1 q2 q3 + R * t) / 2 ∧
    IntKind.u64.wrap (IntKind.u64.wrap (q0.tdiv 2) + IntKind.u64.wrap (q1 * 9223372036854775808)) = c0 ∧
    IntKind.u64.wrap (IntKind.u64.wrap (q1.tdiv 2) + IntKind.u64.wrap (q2 * 9223372036854775808)) = c1 ∧
    IntKind.u64.wrap (IntKind.u64.wrap (q2.tdiv 2) + IntKind.u64.wrap (q3 * 9223372036854775808)) = c2 ∧
    IntKind.u64.wrap (IntKind.u64.wrap (q3.tdiv 2) + 9223372036854775808 * t) = c3 := by
  have td : ∀ {x : Int}, Wd x → x.tdiv 2 = x / 2 := fun h => Int.tdiv_eq_ediv_of_nonneg h.1
  have k : ∀ {x y : Int}, Wd x → Wd y → IntKind.u64.wrap (IntKind.u64.wrap (x.tdiv 2) + IntKind.u64.wrap (y * 9223372036854775808)) = x / 2 + 9223372036854775808 * (y % 2) := by
    intro x y hx hy
    rw [td hx]; simp only [wrap_u64]; unfold Wd at *; omega
  refine ⟨q0 / 2 + 9223372036854775808 * (q1 % 2), q1 / 2 + 9223372036854775808 * (q2 % 2), q2 / 2 + 9223372036854775808 * (q3 % 2), q3 / 2 + 9223372036854775808 * t, ?_, ?_, ?_, ?_, ?_, k h0 h1, k h1 h2, k h2 h3, ?_⟩
  · unfold Wd at *; omega
  · unfold Wd at *; omega
  · unfold Wd at *; omega
  · unfold Wd at *; omega
  · unfold v4 R
    clear k td h0 h1 h2 h3
    omega
  · rw [td h3]; simp only [wrap_u64]; unfold Wd at *; omega

theorem plain_loop (m : Int) (hm : m < R) (odd : m % 2 = 1) : ∀ (n : Nat) (i x : Int), 0 ≤ i → i + n = 256 → 0 ≤ x → x < m →
    ∃ r, 0 ≤ r ∧ r < m ∧ r * 2 ^ n % m = x ∧ RunsL Try.prog (codeAt Try.f25 [1, 0, 1, 0, 0]) (st22 51 x m i) (.exit 0) (fin22 51 r)
  | 0, i, x, _, hi, hx0, hx =>
    ⟨x, hx0, hx, by rw [Int.pow_zero, Int.mul_one]; exact Int.emod_eq_of_lt hx0 hx, .out (r25_out x m i (decide_eq_false (by omega))) (by simp)⟩
  | n + 1, i, x, hi0, hi, hx0, hx => by
    have hi' : IntKind.i64.wrap (i + 1) = i + 1 := wrap_i64 (i + 1) (by omega) (by omega)
    have key : ∃ y, 0 ≤ y ∧ y < m ∧ (2 * y = x ∨ 2 * y = x + m) ∧ Runs Try.prog (codeAt Try.f25 [1, 0, 1, 0, 0]) (st22 51 x m i) .normal (st22 51 y m (i + 1)) := by
      have ew : (l0 x).tmod 2 = x % 2 := by rw [Int.tmod_eq_emod_of_nonneg (wd_l0 x).1]; unfold l0; omega
      by_cases k : x % 2 = 1
      · have hs : CallOk Try.prog 83 [nv x, nv m] [] (.tup [nv ((x + m) % R), .one (.bool (decide (R ≤ x + m)))]) [] [] := (RSum_ok x m hx0 (by omega) (by omega) hm).res (by simp) fun _ => rfl
        have hq := mod_range (x + m) R R_pos
        have ev := v4_l ((x + m) % R) hq.1 hq.2
        have hodd : ((l0 x).tmod 2 == 1) = true := by rw [ew, k]; rfl
        by_cases o : R ≤ x + m
        · obtain ⟨c0, c1, c2, c3, w0, w1, w2, w3, e, f0, f1, f2, f3⟩ := half_words (wd_l0 ((x + m) % R)) (wd_l1 ((x + m) % R)) (wd_l2 ((x + m) % R)) (wd_l3 ((x + m) % R)) (.inr rfl : (1 : Int) = 0 ∨ (1 : Int) = 1)
          rw [ev] at e
          have e2 : (x + m) % R + R * 1 = x + m := by rw [← Int.sub_emod_right, Int.emod_eq_of_lt (by omega) (by omega)]; omega
          rw [e2] at e
          have h := r25_oo (l0 x) (l1 x) (l2 x) (l3 x) m _ _ _ _ i _ ⟨decide_eq_true (by omega), hodd, hs, decide_eq_true o⟩
          rw [Int.mul_one] at f3
          rw [f0, f1, f2, f3, hi'] at h
          obtain ⟨g0, g1, g2, g3⟩ := l_v4 w0 w1 w2 w3
          refine ⟨v4 c0 c1 c2 c3, by omega, by omega, by omega, ?_⟩
          simp only [st22, nown, g0, g1, g2, g3]
          exact h
        · obtain ⟨c0, c1, c2, c3, w0, w1, w2, w3, e, f0, f1, f2, f3⟩ := half_words (wd_l0 ((x + m) % R)) (wd_l1 ((x + m) % R)) (wd_l2 ((x + m) % R)) (wd_l3 ((x + m) % R)) (.inl rfl : (0 : Int) = 0 ∨ (0 : Int) = 1)
          rw [ev] at e
          have e2 : (x + m) % R + R * 0 = x + m := by rw [Int.emod_eq_of_lt (by omega) (by omega)]; omega
          rw [e2] at e
          have h := r25_on (l0 x) (l1 x) (l2 x) (l3 x) m _ _ _ _ i _ ⟨decide_eq_true (by omega), hodd, hs, decide_eq_false o⟩
          rw [Int.mul_zero] at f3
          rw [f0, f1, f2, f3, hi'] at h
          obtain ⟨g0, g1, g2, g3⟩ := l_v4 w0 w1 w2 w3
          refine ⟨v4 c0 c1 c2 c3, by omega, by omega, by omega, ?_⟩
          simp only [st22, nown, g0, g1, g2, g3]
          exact h
      · have ev := v4_l x hx0 (by omega)
        have hodd : ((l0 x).tmod 2 == 1) = false := by rw [ew, show x % 2 = 0 by omega]; rfl
        obtain ⟨c0, c1, c2, c3, w0, w1, w2, w3, e, f0, f1, f2, f3⟩ := half_words (wd_l0 x) (wd_l1 x) (wd_l2 x) (wd_l3 x) (.inl rfl : (0 : Int) = 0 ∨ (0 : Int) = 1)
        rw [ev] at e
        have h := r25_e (l0 x) (l1 x) (l2 x) (l3 x) m i ⟨decide_eq_true (by omega), hodd⟩
        rw [Int.mul_zero] at f3
        rw [f0, f1, f2, f3, hi'] at h
        obtain ⟨g0, g1, g2, g3⟩ := l_v4 w0 w1 w2 w3
        refine ⟨v4 c0 c1 c2 c3, by omega, by omega, by omega, ?_⟩
        simp only [st22, nown, g0, g1, g2, g3]
        exact h
    obtain ⟨y, hy0, hy, hyx, h⟩ := key
    obtain ⟨r, hr0, hr, hrx, h2⟩ := plain_loop m hm odd n (i + 1) y (by omega) (by omega) hy0 hy
    refine ⟨r, hr0, hr, ?_, .round h h2⟩
    have e : r * 2 ^ (n + 1) % m = (2 * y) % m := by
      rw [← hrx, Int.mul_emod 2, Int.emod_emod, ← Int.mul_emod]
      congr 1; grind
    rw [e]
    rcases hyx with k | k <;> rw [k]
    · exact Int.emod_eq_of_lt hx0 hx
    · rw [Int.add_emod_right]; exact Int.emod_eq_of_lt hx0 hx

theorem Plain_ok (x m w : Int) (hx0 : 0 ≤ x) (hx : x < m) (hm : m < R) (odd : m % 2 = 1) (inv : R * w % m = 1) : CallOk Try.prog 25 [nv x, nv m] [] (.t (nv (x * w % m))) [] [] := by
  obtain ⟨r, hr0, hr, hrx, h⟩ := plain_loop m hm odd 256 0 x (by omega) (by omega) hx0 hx
  rw [← R_pow] at hrx
  have e : x * w % m = r := by
    rw [← hrx, Int.mul_emod, Int.emod_emod, ← Int.mul_emod, Int.mul_assoc, Int.mul_emod, inv, Int.mul_one, Int.emod_emod]
    exact Int.emod_eq_of_lt hr0 hr
  rw [e]
  have h2 := h.loop.preT (l' := [(2, .one (.ptr true 2 0)), (3, .one (.ptr true 3 0)), (4, .one (.ptr true 4 0)), (5, .one (.lit .i64 0))]) (ka_same (ka_same (ka_same (KAlike.symm (ka_lit ka_nil))))) (Alike.refl _)
  exact (p25 x m _ h2).call nw4_25 rfl

end Go.Proofs.Ytnndhmnabbkamaa
