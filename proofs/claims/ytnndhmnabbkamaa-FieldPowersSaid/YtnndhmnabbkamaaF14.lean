/-
  The reference's powers, and what 'barbicanlaw05.FieldPowers' comes to.
  Conditions: those that each theorem names.
-/
import Derived.Test.YtnndhmnabbkamaaF13
import Derived.Test.YtnndhmnabbkamaaW10
namespace Go.Proofs.Ytnndhmnabbkamaa
open Go Go.Ev Go.Proofs
set_option maxRecDepth 100000

theorem and_bit (x j : Nat) (hx : x < 18446744073709551616) (hj : j < 64) : bitOp .and .u64 (x : Int) ((2 ^ j : Nat) : Int) = ((x / 2 ^ j % 2 * 2 ^ j : Nat) : Int) := by
  have h : 2 ^ j < 18446744073709551616 := Nat.pow_lt_pow_right (a := 2) (by decide) (show j < 64 from hj)
  have e : x &&& 2 ^ j = x / 2 ^ j % 2 * 2 ^ j := by
    rw [← Nat.toNat_testBit]
    refine Nat.eq_of_testBit_eq fun i => ?_
    by_cases hij : j = i
    · subst hij
      cases hb : x.testBit j <;> simp [Nat.testBit_and, Nat.testBit_two_pow_self, hb]
    · cases hb : x.testBit j <;> simp [Nat.testBit_and, Nat.testBit_two_pow_of_ne hij]
  unfold bitOp
  rw [bits_and_u64_nat x _ hx h, e]

theorem bit_test (E i j : Nat) (hi : i < 4) (hj : j < 64) : (bitOp .and .u64 ([l0 (E : Int), l1 (E : Int), l2 (E : Int), l3 (E : Int)].getD (0 + ((i : Nat) : Int).toNat) 0) ((2 ^ j : Nat) : Int) != 0) = decide (E / 2 ^ (64 * i + j) % 2 = 1) := by
  rw [to_nat0, word_at E i hi, and_bit _ j (Nat.mod_lt _ (by decide)) hj, nat_bit E i j hj]
  have hp : 0 < 2 ^ j := Nat.two_pow_pos j
  have h2 : E / 2 ^ (64 * i + j) % 2 = 0 ∨ E / 2 ^ (64 * i + j) % 2 = 1 := by omega
  rcases h2 with h | h
  · rw [h]; simp
  · rw [h, Nat.one_mul, decide_eq_true rfl]
    exact yes_ne (by omega)

abbrev sl34 (l : List (Nat × AV)) : List AV := mkT 34 ((3, .one (.ptr true 3 0)) :: (4, .one (.ptr true 4 0)) :: (5, .one (.ptr true 5 0)) :: (6, .one (.ptr true 6 0)) :: (7, .one (.ptr true 7 0)) :: l)
abbrev hp34 (a e m x : Int) : Heap := [(3, nown a), (4, nown e), (5, nown m), (6, zown), (7, nown x)]

section
variable {m a : Int} (hm : m < R) (hh : R < 2 * m) (hd : R - m ≤ 26959946667150639794667015087019630673637144422540572481103610249216) (ha0 : 0 ≤ a) (ha : a < m)
include hm hh hd ha0 ha

theorem rpow_inner (E i : Nat) (hi : i < 4) : ∀ (n : Nat) (x : Int), n ≤ 64 → x = a ^ (E / 2 ^ (64 * i + n)) % m →
    RunsL Try.prog (codeAt Try.f34 [1, 1, 0, 1, 0, 0, 1, 0, 0, 1, 0, 0]) (sl34 [(8, .one (.int .i64 i)), (9, .one (.int .u64 ((2 ^ n / 2 : Nat) : Int)))], hp34 a E m x) (.exit 2)
      (sl34 [(8, .one (.int .i64 i))], hp34 a E m (a ^ (E / 2 ^ (64 * i)) % m))
  | 0, x, _, hx => by
    rw [Nat.add_zero] at hx
    rw [← hx]
    exact .out (r34_io a E m x i _ (decide_eq_false (by simp))) (by simp)
  | n + 1, x, hn, hx => by
    have hR := R_pos
    have hxr : 0 ≤ x ∧ x < m := by rw [hx]; exact mod_range _ m (by omega)
    have hsq := RMul_ok x x m hxr.1 hxr.2 hxr.1 hxr.2 hm hh hd
    have hq := mod_range (x * x) m (by omega)
    have e1 : (2 ^ (n + 1) / 2 : Nat) = 2 ^ n := by rw [Nat.pow_succ]; omega
    have hp : 0 < 2 ^ n := Nat.two_pow_pos n
    have hlt : 2 ^ n < 18446744073709551616 := Nat.pow_lt_pow_right (a := 2) (by decide) (show n < 64 by omega)
    have ew : IntKind.u64.wrap (((2 ^ n : Nat) : Int).tdiv 2) = ((2 ^ n / 2 : Nat) : Int) := by
      rw [wrap_u64, Int.tdiv_eq_ediv_of_nonneg (by omega)]; omega
    have hbt := bit_test E i n hi (by omega)
    have ed : E / 2 ^ (64 * i + n) = 2 * (E / 2 ^ (64 * i + (n + 1))) + E / 2 ^ (64 * i + n) % 2 := by
      rw [show 64 * i + (n + 1) = (64 * i + n) + 1 by omega, Nat.pow_succ, ← Nat.div_div_eq_div_mul]; omega
    have cx : Cg m x (a ^ (E / 2 ^ (64 * i + (n + 1)))) := (Cg.of hx).trans (Cg.mod m _)
    have csq : Cg m (x * x) (a ^ (2 * (E / 2 ^ (64 * i + (n + 1))))) := by
      refine (cx.mul cx).trans (Cg.of ?_)
      rw [show 2 * (E / 2 ^ (64 * i + (n + 1))) = E / 2 ^ (64 * i + (n + 1)) + E / 2 ^ (64 * i + (n + 1)) by omega, Int.pow_add]
    rw [e1]
    by_cases hb : E / 2 ^ (64 * i + n) % 2 = 1
    · have hmul := RMul_ok (x * x % m) a m hq.1 hq.2 ha0 ha hm hh hd
      have h := r34_1 a E m x _ _ i ((2 ^ n : Nat) : Int) ⟨decide_eq_true (by omega), hsq, by omega, by rw [to_nat0]; omega, by rw [hbt]; exact decide_eq_true hb, hmul⟩
      rw [ew] at h
      refine .round h (rpow_inner E i hi n _ (by omega) ?_)
      rw [ed, hb, Int.pow_succ]
      exact ((Cg.mod m (x * x)).trans csq).mul (Cg.refl m a)
    · have h0 : E / 2 ^ (64 * i + n) % 2 = 0 := by omega
      have h := r34_0 a E m x _ i ((2 ^ n : Nat) : Int) ⟨decide_eq_true (by omega), hsq, by omega, by rw [to_nat0]; omega, by rw [hbt]; exact decide_eq_false hb⟩
      rw [ew] at h
      refine .round h (rpow_inner E i hi n _ (by omega) ?_)
      rw [ed, h0, Nat.add_zero]
      exact csq

theorem rpow_outer (E : Nat) : ∀ (n : Nat) (x : Int), n ≤ 4 → x = a ^ (E / 2 ^ (64 * n)) % m →
    RunsL Try.prog (codeAt Try.f34 [1, 1, 0, 1, 0, 0]) (sl34 [(8, .one (.int .i64 ((n : Int) - 1)))], hp34 a E m x) (.exit 0)
      (mkT 34 [(6, .one (.ptr true 6 0)), (7, .one (.ptr true 7 0))], [(6, zown), (7, nown (a ^ E % m))])
  | 0, x, _, hx => by
    rw [Nat.mul_zero, Nat.pow_zero, Nat.div_one] at hx
    rw [← hx]
    exact .out (r34_oo a E m x _ (decide_eq_false (by omega))) (by simp)
  | n + 1, x, hn, hx => by
    have ei : ((n + 1 : Nat) : Int) - 1 = (n : Int) := by omega
    rw [ei]
    have hin := (rpow_inner hm hh hd ha0 ha E n (by omega) 64 x (by omega) (by rw [hx]; congr 1)).loop
    have hin := hin.preT (l' := (3, .one (.ptr true 3 0)) :: (4, .one (.ptr true 4 0)) :: (5, .one (.ptr true 5 0)) :: (6, .one (.ptr true 6 0)) :: (7, .one (.ptr true 7 0)) :: [(8, .one (.int .i64 n)), (9, .one (.lit .u64 9223372036854775808))])
      (ka_same (ka_same (ka_same (ka_same (ka_same (ka_same (.symm (ka_lit ka_nil)))))))) (Alike.refl _)
    have h := r34_o a E m x _ n ⟨decide_eq_true (by omega), hin⟩
    rw [wrap_i64 _ (by omega) (by omega)] at h
    exact .round h (rpow_outer E n _ (by omega) rfl)

theorem RPow_ok (E : Nat) (hE : (E : Int) < R) : CallOk Try.prog 34 [nv a, nv (E : Int), nv m] [] (.t (nv (a ^ E % m))) [] [] := by
  have hz : E / 2 ^ (64 * 4) = 0 := Nat.div_eq_of_lt (by unfold R at hE; omega)
  have h1 : (1 : Int) = a ^ (E / 2 ^ (64 * 4)) % m := by
    rw [hz, Int.pow_zero]; exact (Int.emod_eq_of_lt (by decide) (by unfold R at *; omega)).symm
  have hl := (rpow_outer hm hh hd ha0 ha E 4 1 (by omega) h1).loop
  have hl := hl.preT (l' := (3, .one (.ptr true 3 0)) :: (4, .one (.ptr true 4 0)) :: (5, .one (.ptr true 5 0)) :: (6, .one (.ptr true 6 0)) :: (7, .one (.ptr true 7 0)) :: [(8, .one (.lit .i64 3))])
    (h' := [(3, nown a), (4, nown E), (5, nown m), (6, zown), (7, own4 (.lit .u64 1) (.lit .u64 0) (.lit .u64 0) (.lit .u64 0))])
    (ka_same (ka_same (ka_same (ka_same (ka_same (.symm (ka_lit ka_nil))))))) (al_same (al_same (al_same (al_same (al_c (fun _ => rfl) (fun _ => rfl) trivial)))))
  exact (p34 a E m _ hl).call nw10_34 rfl

end

theorem powers_is {which m v s w : Int} (I : Is which m v s w) (hF : Fer m) (a e : Int) (ha0 : 0 ≤ a) (ha : a < R) (he0 : 0 ≤ e) (he : e < R) : CallOk Try.prog 5 [.one (.int .i64 which), nv a, nv e] [] (.one (.blit true)) [] [] := by
  have hm := I.pos; have hm1 := I.lt; have hh := I.half
  obtain ⟨E, rfl⟩ := Int.eq_ofNat_of_zero_le he0
  have la := RLess_ok a m ha0 ha (by omega) hm1
  by_cases k : a < m
  · rw [decide_eq_true k] at la
    have hp := Pow_ok I a ha0 k E he
    have hpl := Plain_ok a m w ha0 k hm1 I.odd I.pr.inv
    have hu := mod_range (a * w) m hm
    have hrp := RPow_ok hm1 hh I.near hu.1 hu.2 E he
    have hq := mod_range ((a * w % m) ^ E) m hm
    have hf := Form_ok ((a * w % m) ^ E % m) m hq.1 hq.2 hm1
    have ef : (a * w % m) ^ E % m * R % m = fpow m w a E :=
      ((Cg.mod m _).mul (Cg.refl m R)).trans ((((Cg.mod m (a * w)).pow E).mul (Cg.refl m R)).trans (Cg.of (Int.mul_comm _ _)))
    rw [ef] at hf
    by_cases hz : a = 0
    · subst hz
      exact ((p5_z which 0 E m _ _ _ ⟨awake05, I.prime, hp, Inv_zero I, la, hpl, hrp, hf, diff4 _, rfl⟩).call nw10_5 rfl).res (by simp) fun _ => rfl
    · have hi := Inv_ok I a (by omega) k
      have ri := mod_range (R * (a * w) ^ (m - 2).toNat) m hm
      have li := RLess_ok (fpow m w a (m - 2).toNat) m ri.1 (Int.lt_trans ri.2 hm1) (by omega) hm1
      rw [decide_eq_true ri.2] at li
      have hpi := Plain_ok (fpow m w a (m - 2).toNat) m w ri.1 ri.2 hm1 I.odd I.pr.inv
      have rh := mod_range (fpow m w a (m - 2).toNat * w) m hm
      have hmul := RMul_ok (a * w % m) (fpow m w a (m - 2).toNat * w % m) m hu.1 hu.2 rh.1 rh.2 hm1 hh I.near
      have en : (m - 1).toNat = (m - 2).toNat + 1 := by unfold R at *; omega
      have e1 : a * w % m * (fpow m w a (m - 2).toNat * w % m) % m = 1 := by
        have c : Cg m (a * w % m * (fpow m w a (m - 2).toNat * w % m)) 1 := by
          refine ((Cg.mod m (a * w)).mul ((Cg.mod m _).trans ((Cg.mod m _).mul (Cg.refl m w)))).trans ((Cg.of ?_).trans ((I.pr.cancel ((a * w) ^ (m - 1).toNat)).trans (I.pr.unit hF a (by omega) k)))
          rw [en, Int.pow_succ]; grind
        exact Eq.trans c (Int.emod_eq_of_lt (by decide) (by unfold R at *; omega))
      rw [e1] at hmul
      exact ((p5_i which a E m _ _ _ _ _ ⟨awake05, I.prime, hp, hi, la, hpl, hrp, hf, diff4 _, eqz4 ha0 ha hz, li, hpi, hmul.res (by simp) fun _ => rfl⟩).call nw10_5 rfl).res (by simp) fun _ => rfl
  · rw [decide_eq_false k] at la
    exact ((p5_far which a E m ⟨awake05, I.prime, Pow_far I a E ha0 ha (by omega), Inv_far I a ha0 ha (by omega), la, rfl⟩).call nw10_5 rfl).res (by simp) fun _ => rfl

theorem powers_ok (which a e : Int) (ha0 : 0 ≤ a) (ha : a < R) (he0 : 0 ≤ e) (he : e < R) : CallOk Try.prog 5 [.one (.int .i64 which), nv a, nv e] [] (.one (.blit true)) [] [] := by
  by_cases h1 : which = 1
  · subst h1; exact powers_is is_p fer_p a e ha0 ha he0 he
  · by_cases h2 : which = 2
    · subst h2; exact powers_is is_n fer_n a e ha0 ha he0 he
    · exact ((p5_no which a e ⟨awake05, prime_no which h1 h2, Pow_none h1 h2 a e, Inv_none h1 h2 a, less_zero a ha0 ha, rfl⟩).call nw10_5 rfl).res (by simp) fun _ => rfl

end Go.Proofs.Ytnndhmnabbkamaa
