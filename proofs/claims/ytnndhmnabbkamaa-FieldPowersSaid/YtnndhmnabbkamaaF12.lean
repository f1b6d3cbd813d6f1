/-
  One bit of a number; the field's powers.
  Conditions: those that each theorem names.
-/
import Derived.Test.YtnndhmnabbkamaaF11
namespace Go.Proofs.Ytnndhmnabbkamaa
open Go Go.Ev Go.Proofs
set_option maxRecDepth 100000

theorem nat_bit (E j r : Nat) (hr : r < 64) : (E / 2 ^ (64 * j) % 2 ^ 64) / 2 ^ r % 2 = E / 2 ^ (64 * j + r) % 2 := by
  have e1 : (2 : Nat) ^ 64 = 2 ^ r * 2 ^ (64 - r) := by rw [← Nat.pow_add]; congr 1; omega
  rw [e1, Nat.mod_mul_right_div_self, Nat.mod_mod_of_dvd, Nat.div_div_eq_div_mul, ← Nat.pow_add]
  exact ⟨2 ^ (63 - r), by rw [← Nat.pow_succ']; congr 1; omega⟩

theorem word_at (E j : Nat) (hj : j < 4) : [l0 (E : Int), l1 (E : Int), l2 (E : Int), l3 (E : Int)].getD j 0 = ((E / 2 ^ (64 * j) % 2 ^ 64 : Nat) : Int) := by
  match j, hj with
  | 0, _ => simp [l0]
  | 1, _ => simp [l1]
  | 2, _ =>
    have : E / 2 ^ (64 * 2) = E / 18446744073709551616 / 18446744073709551616 := by rw [Nat.div_div_eq_div_mul]
    rw [this]; simp [l2]
  | 3, _ =>
    have : E / 2 ^ (64 * 3) = E / 18446744073709551616 / 18446744073709551616 / 18446744073709551616 := by rw [Nat.div_div_eq_div_mul, Nat.div_div_eq_div_mul]
    rw [this]; simp [l3]

theorem Bit_ok (E k : Nat) (hk : k < 256) : CallOk Try.prog 90 [nv (E : Int), .one (.int .i64 (k : Int))] [] (.one (.int .i64 ((E / 2 ^ k % 2 : Nat) : Int))) [] [] := by
  have e1 : IntKind.i64.wrap ((k : Int).tdiv 64) = ((k / 64 : Nat) : Int) := by
    rw [Int.tdiv_eq_ediv_of_nonneg (by omega), wrap_i64 _ (by omega) (by omega)]; omega
  have e2 : (k : Int).tmod 64 = ((k % 64 : Nat) : Int) := by rw [Int.tmod_eq_emod_of_nonneg (by omega)]; omega
  have h := (p90 (E : Int) k ⟨decide_eq_false (by omega), decide_eq_false (by omega), by rw [e1]; omega, by rw [e1]; omega, by rw [e2]; show _ ≤ _; omega⟩).call nw8_90 rfl
  rw [e1, e2, to_nat0, word_at E (k / 64) (by omega)] at h
  have e3 : min ((k % 64 : Nat) : Int).toNat 64 = k % 64 := by rw [Int.toNat_natCast]; omega
  rw [e3] at h
  have e4 : (((E / 2 ^ (64 * (k / 64)) % 2 ^ 64 : Nat) : Int)).fdiv (2 ^ (k % 64)) = ((E / 2 ^ (64 * (k / 64)) % 2 ^ 64 / 2 ^ (k % 64) : Nat) : Int) := by
    rw [Int.fdiv_eq_ediv_of_nonneg _ (Int.pow_nonneg (by decide))]
    generalize E / 2 ^ (64 * (k / 64)) % 2 ^ 64 = y
    rw [Int.natCast_ediv, Int.natCast_pow]; rfl
  rw [e4] at h
  have hw : Wd ((E / 2 ^ (64 * (k / 64)) % 2 ^ 64 / 2 ^ (k % 64) : Nat) : Int) := by
    have h1 : E / 2 ^ (64 * (k / 64)) % 2 ^ 64 < 2 ^ 64 := Nat.mod_lt _ (by decide)
    have h2 := Nat.div_le_self (E / 2 ^ (64 * (k / 64)) % 2 ^ 64) (2 ^ (k % 64))
    generalize E / 2 ^ (64 * (k / 64)) % 2 ^ 64 / 2 ^ (k % 64) = x at *
    generalize E / 2 ^ (64 * (k / 64)) % 2 ^ 64 = y at *
    unfold Wd
    omega
  have e5 : bitOp .and .u64 ((E / 2 ^ (64 * (k / 64)) % 2 ^ 64 / 2 ^ (k % 64) : Nat) : Int) 1 = ((E / 2 ^ (64 * (k / 64)) % 2 ^ 64 / 2 ^ (k % 64) : Nat) : Int) % 2 := and_low _ 1 (by decide) hw
  have e6 := nat_bit E (k / 64) (k % 64) (by omega)
  rw [Nat.div_add_mod] at e6
  have e7 : ((E / 2 ^ (64 * (k / 64)) % 2 ^ 64 / 2 ^ (k % 64) : Nat) : Int) % 2 = ((E / 2 ^ k % 2 : Nat) : Int) := by
    rw [← e6]
    generalize E / 2 ^ (64 * (k / 64)) % 2 ^ 64 / 2 ^ (k % 64) = x
    omega
  rw [e5, e7, wrap_i64 _ (by omega) (by omega)] at h
  exact h

/-! ### pow -/

theorem mul_view {m v s w : Int} (p : Pr m v s w) (a b : Int) (ha0 : 0 ≤ a) (ha : a < R) (hb0 : 0 ≤ b) (hb : b < m) :
    CallOk Try.prog 79 [.one (.ptr true 1000 0), nv a, nv b] [(1000, pview m v s)] (.t (nv (a * b * w % m))) [] [] :=
  mul_at (mul_fn m v s w a b p ha0 ha hb0 hb)

abbrev st88 (a e m v s x i : Int) : St := (mkT 36 [(0, .one (.ptr true 1000 0)), (4, .one (.ptr true 4 0)), (5, .one (.ptr true 5 0)), (6, .one (.ptr true 6 0)), (7, .one (.ptr true 7 0)), (8, .one (.int .i64 i))],
  [(1000, pview m v s), (4, nown a), (5, nown e), (6, zown), (7, nown x)])
abbrev fin88 (m v s x : Int) : St := (mkT 36 [(6, .one (.ptr true 6 0)), (7, .one (.ptr true 7 0))], [(1000, pview m v s), (6, zown), (7, nown x)])

/-- The form of a power. -/
abbrev fpow (m w a : Int) (n : Nat) : Int := R * (a * w) ^ n % m

theorem pow_loop {m v s w : Int} (p : Pr m v s w) (a : Int) (ha0 : 0 ≤ a) (ha : a < m) (E : Nat) : ∀ (n : Nat) (x : Int), n ≤ 256 → x = fpow m w a (E / 2 ^ n) →
    RunsL Try.prog (codeAt Try.f88 [1, 1, 0, 1, 0, 0]) (st88 a E m v s x ((n : Int) - 1)) (.exit 0) (fin88 m v s (fpow m w a E))
  | 0, x, _, hx => by
    rw [Nat.pow_zero, Nat.div_one] at hx
    rw [← hx]
    exact .out (r88_o a E m v s x _ (decide_eq_false (by omega))) (by simp)
  | n + 1, x, hn, hx => by
    have hm := p.m0; have hm1 := p.m1
    have hxr : 0 ≤ x ∧ x < m := by rw [hx]; exact mod_range _ m hm
    have hsq := mul_view p x x hxr.1 (by omega) hxr.1 hxr.2
    have hq := mod_range (x * x * w) m hm
    have hbit := Bit_ok E n (by omega)
    have ei : ((n + 1 : Nat) : Int) - 1 = (n : Int) := by omega
    have ed : E / 2 ^ n = 2 * (E / 2 ^ (n + 1)) + E / 2 ^ n % 2 := by
      rw [Nat.pow_succ, ← Nat.div_div_eq_div_mul]; omega
    have cx : Cg m x (R * (a * w) ^ (E / 2 ^ (n + 1))) := (Cg.of hx).trans (Cg.mod m _)
    have csq : Cg m (x * x * w % m) (R * (a * w) ^ (2 * (E / 2 ^ (n + 1)))) := by
      refine (Cg.mod m _).trans (((cx.mul cx).mul (Cg.refl m w)).trans ?_)
      refine (Cg.of ?_).trans (p.cancel (R * (a * w) ^ (2 * (E / 2 ^ (n + 1)))))
      rw [show 2 * (E / 2 ^ (n + 1)) = E / 2 ^ (n + 1) + E / 2 ^ (n + 1) by omega, Int.pow_add]
      grind
    rw [ei]
    by_cases hb : E / 2 ^ n % 2 = 1
    · have hmul := mul_view p (x * x * w % m) a hq.1 (by omega) ha0 ha
      have h := r88_1 a E m v s x _ _ n _ ⟨decide_eq_true (by omega), hsq, hbit, by rw [hb]; rfl, hmul⟩
      rw [wrap_i64 _ (by omega) (by omega)] at h
      refine .round h (pow_loop p a ha0 ha E n _ (by omega) ?_)
      refine Eq.trans (Eq.symm ?_) (show (x * x * w % m * a * w) % m = _ from ?_)
      · rfl
      · rw [ed, hb]
        refine ((csq.mul (Cg.refl m a)).mul (Cg.refl m w)).trans (Cg.of ?_)
        rw [Int.pow_succ]; grind
    · have h0 : E / 2 ^ n % 2 = 0 := by omega
      have h := r88_0 a E m v s x _ n _ ⟨decide_eq_true (by omega), hsq, hbit, by rw [h0]; rfl⟩
      rw [wrap_i64 _ (by omega) (by omega)] at h
      refine .round h (pow_loop p a ha0 ha E n _ (by omega) ?_)
      rw [ed, h0, Nat.add_zero]
      have := csq
      unfold Cg at this
      rw [Int.emod_emod] at this
      exact this

theorem pow_fn {m v s w : Int} (p : Pr m v s w) (a : Int) (ha0 : 0 ≤ a) (ha : a < m) (E : Nat) (hE : (E : Int) < R) :
    FnOk Try.prog 88 [.one (.ptr true 1000 0), nv a, nv (E : Int)] [(1000, pview m v s)] (.t (nv (fpow m w a E))) [(1000, pview m v s)] := by
  have hm := p.m0; have hm1 := p.m1
  have hone := mul_view p 1 s (by omega) (by unfold R at *; omega) p.s0 p.s1
  obtain ⟨B, b1, b2, b3⟩ := Bits_ok E (by omega) hE
  have hz : E / 2 ^ B = 0 := Nat.div_eq_of_lt (by exact_mod_cast b2)
  have h1 : 1 * s * w % m = fpow m w a (E / 2 ^ B) := by
    rw [hz, fpow, Int.pow_zero, Int.mul_one]
    exact (((Cg.refl m 1).mul ((Cg.of p.sq).trans (Cg.mod m _))).mul (Cg.refl m w)).trans ((Cg.of (by grind)).trans (p.cancel R))
  have hl := pow_loop p a ha0 ha E B _ b1 h1
  have ew : IntKind.i64.wrap ((B : Int) - 1) = (B : Int) - 1 := wrap_i64 _ (by omega) (by omega)
  exact p88 a E m v s _ _ _ ⟨hone.args fun _ => rfl, b3, by rw [ew]; exact hl.loop⟩

theorem pow_own {m v s w : Int} (n : Nat) (p : Pr m v s w) (a : Int) (ha0 : 0 ≤ a) (ha : a < m) (E : Nat) (hE : (E : Int) < R) :
    CallOk Try.prog 88 [.one (.ptr true n 0), nv a, nv (E : Int)] [(n, pown m v s)] (.t (nv (fpow m w a E))) [] [] :=
  FnOk.own1 nw8_88 n (pow_fn p a ha0 ha E hE) rfl rfl

theorem Pow_ok {which m v s w : Int} (I : Is which m v s w) (a : Int) (ha0 : 0 ≤ a) (ha : a < m) (E : Nat) (hE : (E : Int) < R) :
    CallOk Try.prog 32 [.one (.int .i64 which), nv a, nv (E : Int)] [] (.tup [nv (fpow m w a E), .one (.lit .i64 0)]) [] [] :=
  (p32_ok which a E m v s _ ⟨may1_ok I 13 a ha0 ha, pow_own 8 I.pr a ha0 ha E hE⟩).call nw8_32 rfl
theorem Pow_far {which m v s w : Int} (I : Is which m v s w) (a e : Int) (ha0 : 0 ≤ a) (ha : a < R) (h : m ≤ a) :
    CallOk Try.prog 32 [.one (.int .i64 which), nv a, nv e] [] (.tup [z4, .one (.lit .i64 52)]) [] [] :=
  ((p32_no which a e m v s _ ⟨may1_far I 13 a ha0 ha h, rfl⟩).call nw8_32 rfl).res (by simp) fun _ => rfl
theorem Pow_none {which : Int} (h1 : which ≠ 1) (h2 : which ≠ 2) (a e : Int) : CallOk Try.prog 32 [.one (.int .i64 which), nv a, nv e] [] (.tup [z4, .one (.lit .i64 51)]) [] [] :=
  ((p32_no which a e 0 0 0 _ ⟨may1_none h1 h2 13 a, rfl⟩).call nw8_32 rfl).res (by simp) fun _ => rfl

theorem eqz4 {h : Int} (h0 : 0 ≤ h) (h1 : h < R) (hn : h ≠ 0) : decide ([l0 h, l1 h, l2 h, l3 h] = [0, 0, 0, 0]) = false := by
  have e := nonzero4 h0 h1
  rw [decide_eq_true (p := h ≠ 0) hn] at e
  cases hd : decide ([l0 h, l1 h, l2 h, l3 h] = [0, 0, 0, 0]) with
  | false => rfl
  | true => rw [hd] at e; cases e

theorem Inv_ok {which m v s w : Int} (I : Is which m v s w) (a : Int) (ha0 : 0 < a) (ha : a < m) :
    CallOk Try.prog 33 [.one (.int .i64 which), nv a] [] (.tup [nv (fpow m w a (m - 2).toNat), .one (.lit .i64 0)]) [] [] := by
  have hm := I.pos; have hm1 := I.lt; have hh := I.half
  have h2 : 2 < m := by unfold R at *; omega
  have hs := Sub_ok m 2 (by omega) hm1 (by omega) (by decide)
  rw [Int.emod_eq_of_lt (a := m - 2) (by omega) (by omega)] at hs
  have e : (((m - 2).toNat : Nat) : Int) = m - 2 := by omega
  have hp := pow_own 6 I.pr a (by omega) ha (m - 2).toNat (by omega)
  rw [e] at hp
  exact (p33_ok which a m v s _ _ _ ⟨may1_ok I 13 a (by omega) ha, eqz4 (by omega) (by omega) (by omega), hs.args fun _ => rfl, hp⟩).call nw8_33 rfl
theorem Inv_zero {which m v s w : Int} (I : Is which m v s w) : CallOk Try.prog 33 [.one (.int .i64 which), nv 0] [] (.tup [z4, .one (.lit .i64 53)]) [] [] :=
  (p33_z which 0 m v s ⟨may1_ok I 13 0 (by omega) I.pos, rfl⟩).call nw8_33 rfl
theorem Inv_far {which m v s w : Int} (I : Is which m v s w) (a : Int) (ha0 : 0 ≤ a) (ha : a < R) (h : m ≤ a) :
    CallOk Try.prog 33 [.one (.int .i64 which), nv a] [] (.tup [z4, .one (.lit .i64 52)]) [] [] :=
  ((p33_no which a m v s _ ⟨may1_far I 13 a ha0 ha h, rfl⟩).call nw8_33 rfl).res (by simp) fun _ => rfl
theorem Inv_none {which : Int} (h1 : which ≠ 1) (h2 : which ≠ 2) (a : Int) : CallOk Try.prog 33 [.one (.int .i64 which), nv a] [] (.tup [z4, .one (.lit .i64 51)]) [] [] :=
  ((p33_no which a 0 0 0 _ ⟨may1_none h1 h2 13 a, rfl⟩).call nw8_33 rfl).res (by simp) fun _ => rfl

end Go.Proofs.Ytnndhmnabbkamaa
