/-
  The field part's functions on numbers: forms, sums, differences, products modulo the two primes.
  Conditions: those that each theorem names.
-/
import Derived.Test.YtnndhmnabbkamaaF5
import Derived.Test.YtnndhmnabbkamaaW5
namespace Go.Proofs.Ytnndhmnabbkamaa
open Go Go.Ev Go.Proofs
set_option maxRecDepth 100000

/-! ### Congruences -/

def Cg (m a b : Int) : Prop := a % m = b % m
theorem Cg.refl (m a : Int) : Cg m a a := rfl
theorem Cg.of {m a b : Int} (h : a = b) : Cg m a b := by rw [h]; rfl
theorem Cg.symm {m a b : Int} (h : Cg m a b) : Cg m b a := Eq.symm h
theorem Cg.trans {m a b c : Int} (h : Cg m a b) (h' : Cg m b c) : Cg m a c := Eq.trans h h'
theorem Cg.mul {m a b c d : Int} (h : Cg m a b) (h' : Cg m c d) : Cg m (a * c) (b * d) := by
  unfold Cg at *; rw [Int.mul_emod, h, h', ← Int.mul_emod]
theorem Cg.add {m a b c d : Int} (h : Cg m a b) (h' : Cg m c d) : Cg m (a + c) (b + d) := by
  unfold Cg at *; rw [Int.add_emod, h, h', ← Int.add_emod]
theorem Cg.sub {m a b c d : Int} (h : Cg m a b) (h' : Cg m c d) : Cg m (a - c) (b - d) := by
  unfold Cg at *; rw [Int.sub_emod, h, h', ← Int.sub_emod]
theorem Cg.mod (m a : Int) : Cg m (a % m) a := Int.emod_emod a m
theorem Cg.pow {m a b : Int} (h : Cg m a b) : ∀ n : Nat, Cg m (a ^ n) (b ^ n)
  | 0 => by rw [Int.pow_zero, Int.pow_zero]; rfl
  | n + 1 => by rw [Int.pow_succ, Int.pow_succ]; exact (Cg.pow h n).mul h
theorem Cg.eq {m a b : Int} (h : Cg m a b) (h0 : 0 ≤ a) (h1 : a < m) (h2 : 0 ≤ b) (h3 : b < m) : a = b := by
  unfold Cg at h; rwa [Int.emod_eq_of_lt h0 h1, Int.emod_eq_of_lt h2 h3] at h

/-- 2^256 and its inverse cancel. -/
theorem Pr.cancel {m v s w : Int} (p : Pr m v s w) (a : Int) : Cg m (a * R * w) a := by
  have h : Cg m (R * w) 1 := by
    unfold Cg; rw [p.inv]
    have := p.m0; have := p.w1; have := p.w0
    refine (Int.emod_eq_of_lt (by omega) ?_).symm
    rcases Int.lt_or_le 1 m with k | k
    · exact k
    · have h1 : m = 1 := by omega
      have := p.inv
      rw [h1] at this
      omega
  have := (Cg.refl m a).mul h
  rw [Int.mul_one] at this
  exact (Cg.of (by rw [Int.mul_assoc])).trans this

/-! ### Calls with a prime of one's own -/

theorem less_own {m v s : Int} (n : Nat) (h0 : 0 < m) (h1 : m < R) (a c : Int) (ha0 : 0 ≤ a) (ha : a < R) (hc : c = 0 ∨ c = 1) (hx : a + c * R < 2 * m) :
    CallOk Try.prog 80 [.one (.ptr true n 0), nv a, .one (.int .i64 c)] [(n, pown m v s)] (.t (nv ((a + c * R) % m))) [] [] := by
  have h := (less_at (n := n) (less_fn m v s a c h0 h1 ha0 ha hc hx)).own n (pown m v s) rfl ⟨pview m v s, by simp [hget, Nat.beq_refl], rfl, rfl⟩ rfl rfl
  simpa [hput, Nat.beq_refl] using h

theorem mul_at {m v s a b r : Int} {n : Nat} (h : FnOk Try.prog 79 [.one (.ptr true 1000 0), nv a, nv b] [(1000, pview m v s)] (.t (nv r)) [(1000, pview m v s)]) :
    CallOk Try.prog 79 [.one (.ptr true n 0), nv a, nv b] [(n, pview m v s)] (.t (nv r)) [] [] :=
  FnOk.into nw2_79 h [(1000, n)] [] [] rfl (fits1 n m v s)

theorem mul_own {m v s w : Int} (n : Nat) (p : Pr m v s w) (a b : Int) (ha0 : 0 ≤ a) (ha : a < R) (hb0 : 0 ≤ b) (hb : b < m) :
    CallOk Try.prog 79 [.one (.ptr true n 0), nv a, nv b] [(n, pown m v s)] (.t (nv (a * b * w % m))) [] [] := by
  have h := (mul_at (n := n) (mul_fn m v s w a b p ha0 ha hb0 hb)).own n (pown m v s) rfl ⟨pview m v s, by simp [hget, Nat.beq_refl], rfl, rfl⟩ rfl rfl
  simpa [hput, Nat.beq_refl] using h

/-! ### The two primes -/

abbrev pP : Int := 115792089210356248762697446949407573530086143415290314195533631308867097853951
abbrev pN : Int := 115792089210356248762697446949407573529996955224135760342422259061068512044369
abbrev sP : Int := 134799733323198995502561713907086292154532538166959272814710328655875
abbrev sN : Int := 46533765739406314298121036767150998762426774378559716911348521029833835802274
abbrev vN : Int := 14758798090332847183
abbrev wP : Int := 115792089183396302114378112356516095823261736990586219612555396166510339686400
abbrev wN : Int := 43790243014242295660885426880012836369732278457577312309071968676491870960761

abbrev z4 : AT := .agg (.vals [.lit .u64 0, .lit .u64 0, .lit .u64 0, .lit .u64 0])
abbrev z9 : AT := .agg (.vals [.lit .u64 0, .lit .u64 0, .lit .u64 0, .lit .u64 0, .lit .u64 0, .lit .u64 0, .lit .u64 0, .lit .u64 0, .lit .u64 0])

/-- A prime of a number. -/
structure Is (which m v s w : Int) : Prop where
  pr : Pr m v s w
  half : R < 2 * m
  odd : m % 2 = 1
  near : R - m ≤ 26959946667150639794667015087019630673637144422540572481103610249216
  of_ : CallOk Try.prog 78 [.one (.int .i64 which)] [] (.tup [.agg (pcell m v s), .one (.lit .i64 0)]) [] []
  prime : CallOk Try.prog 18 [.one (.int .i64 which)] [] (.tup [nv m, .one (.blit true)]) [] []

theorem P_ok : CallOk Try.prog 35 [] [] (.t (nv pP)) [] [] := (p35.call nw3_35 rfl).res (by simp) fun _ => by kernel_rfl
theorem N_ok : CallOk Try.prog 50 [] [] (.t (nv pN)) [] [] := (p50.call nw3_50 rfl).res (by simp) fun _ => by kernel_rfl

theorem is_p : Is 1 pP 1 sP wP where
  pr := ⟨by decide, by decide, by unfold Wd; decide, by decide, by decide, by decide, by decide, by decide, by decide, by decide⟩
  half := by decide
  odd := by decide
  near := by decide
  of_ := ((p78_1 1 rfl).call nw3_78 rfl).res (by simp) fun _ => by kernel_rfl
  prime := (p18_1 1 _ ⟨rfl, P_ok⟩).call nw3_18 rfl
theorem is_n : Is 2 pN vN sN wN where
  pr := ⟨by decide, by decide, by unfold Wd; decide, by decide, by decide, by decide, by decide, by decide, by decide, by decide⟩
  half := by decide
  odd := by decide
  near := by decide
  of_ := ((p78_2 2 ⟨rfl, rfl⟩).call nw3_78 rfl).res (by simp) fun _ => by kernel_rfl
  prime := (p18_2 2 _ ⟨rfl, rfl, N_ok⟩).call nw3_18 rfl

theorem no_eq {a b : Int} (h : a ≠ b) : (a == b) = false := by simpa using h
theorem of_no (which : Int) (h1 : which ≠ 1) (h2 : which ≠ 2) : CallOk Try.prog 78 [.one (.int .i64 which)] [] (.tup [z9, .one (.lit .i64 51)]) [] [] :=
  (p78_0 which ⟨no_eq h1, no_eq h2⟩).call nw3_78 rfl
theorem prime_no (which : Int) (h1 : which ≠ 1) (h2 : which ≠ 2) : CallOk Try.prog 18 [.one (.int .i64 which)] [] (.tup [z4, .one (.blit false)]) [] [] :=
  (p18_0 which ⟨no_eq h1, no_eq h2⟩).call nw3_18 rfl

theorem cmp_ge {a m : Int} (h : m ≤ a) : decide (cmpI a m ≥ 0) = true := decide_eq_true (by unfold cmpI; rw [if_neg (by omega)]; split <;> decide)
theorem cmp_lt {a m : Int} (h : a < m) : decide (cmpI a m ≥ 0) = false := decide_eq_false (by unfold cmpI; rw [if_pos h]; decide)

section
variable {which m v s w : Int} (I : Is which m v s w)
include I

theorem Is.lt : m < R := I.pr.m1
theorem Is.pos : 0 < m := I.pr.m0

theorem Modulus_ok : CallOk Try.prog 19 [.one (.int .i64 which)] [] (.tup [nv m, .one (.lit .i64 0)]) [] [] := (p19_ok which m v s I.of_).call nw3_19 rfl

theorem In_ok (a : Int) (ha0 : 0 ≤ a) (ha : a < R) : CallOk Try.prog 20 [.one (.int .i64 which), nv a] [] (.tup [nv (a * R % m), .one (.lit .i64 0)]) [] [] := by
  have hm := I.pos; have hm1 := I.lt; have hh := I.half
  have hl := less_own (v := v) (s := s) 6 hm hm1 a 0 ha0 ha (.inl rfl) (by omega)
  rw [Int.zero_mul, Int.add_zero] at hl
  have hr := mod_range a m hm
  have hq := mul_own 6 I.pr (a % m) s hr.1 (by omega) I.pr.s0 I.pr.s1
  have e : a % m * s * w % m = a * R % m := by
    have c : Cg m (a % m * s * w) (a * (R * R) * w) := (((Cg.mod m a).mul ((Cg.of I.pr.sq).trans (Cg.mod m _))).mul (Cg.refl m w))
    exact c.trans ((Cg.of (by grind)).trans (I.pr.cancel (a * R)))
  rw [e] at hq
  exact (p20_ok which a m v s _ _ ⟨I.of_, hl.args fun _ => rfl, hq⟩).call nw3_20 rfl

/-! ### may -/

abbrev a1 (a : Int) : Cells := .vals [.int .u64 (l0 a), .int .u64 (l1 a), .int .u64 (l2 a), .int .u64 (l3 a)]
abbrev a2 (a b : Int) : Cells := .vals [.int .u64 (l0 a), .int .u64 (l1 a), .int .u64 (l2 a), .int .u64 (l3 a), .int .u64 (l0 b), .int .u64 (l1 b), .int .u64 (l2 b), .int .u64 (l3 b)]

theorem may1_ok (n : Nat) (a : Int) (ha0 : 0 ≤ a) (ha : a < m) : CallOk Try.prog 81 [.one (.int .i64 which), .one (.sl true n 0 1 1)] [(n, { kind := .own, e := 24, c := a1 a })] (.tup [.agg (pcell m v s), .one (.lit .i64 0)]) [] [] := by
  have hm := I.pos; have hm1 := I.lt
  exact FnOk.own1 nw3_81 n (p81_1 which a m v s _ ⟨I.of_, Cmp_ok a m ha0 (by omega) (by omega) hm1, cmp_lt ha⟩) rfl rfl
theorem may1_far (n : Nat) (a : Int) (ha0 : 0 ≤ a) (ha : a < R) (h : m ≤ a) : CallOk Try.prog 81 [.one (.int .i64 which), .one (.sl true n 0 1 1)] [(n, { kind := .own, e := 24, c := a1 a })] (.tup [.agg (pcell m v s), .one (.int .i64 52)]) [] [] := by
  have hm := I.pos; have hm1 := I.lt
  exact (FnOk.own1 nw3_81 n (p81_1r which a m v s _ ⟨I.of_, Cmp_ok a m ha0 ha (by omega) hm1, cmp_ge h⟩) rfl rfl).res (by simp) fun _ => rfl
theorem may2_ok (n : Nat) (a b : Int) (ha0 : 0 ≤ a) (ha : a < m) (hb0 : 0 ≤ b) (hb : b < m) : CallOk Try.prog 81 [.one (.int .i64 which), .one (.sl true n 0 2 2)] [(n, { kind := .own, e := 24, c := a2 a b })] (.tup [.agg (pcell m v s), .one (.lit .i64 0)]) [] [] := by
  have hm := I.pos; have hm1 := I.lt
  exact FnOk.own1 nw3_81 n (p81_2 which a b m v s _ _ ⟨I.of_, Cmp_ok a m ha0 (by omega) (by omega) hm1, cmp_lt ha, Cmp_ok b m hb0 (by omega) (by omega) hm1, cmp_lt hb⟩) rfl rfl
theorem may2_far (n : Nat) (a b : Int) (ha0 : 0 ≤ a) (ha : a < R) (hb0 : 0 ≤ b) (hb : b < R) (h : m ≤ a ∨ m ≤ b) : CallOk Try.prog 81 [.one (.int .i64 which), .one (.sl true n 0 2 2)] [(n, { kind := .own, e := 24, c := a2 a b })] (.tup [.agg (pcell m v s), .one (.int .i64 52)]) [] [] := by
  have hm := I.pos; have hm1 := I.lt
  by_cases k : m ≤ a
  · exact (FnOk.own1 nw3_81 n (p81_2r which a b m v s _ ⟨I.of_, Cmp_ok a m ha0 ha (by omega) hm1, cmp_ge k⟩) rfl rfl).res (by simp) fun _ => rfl
  · exact (FnOk.own1 nw3_81 n (p81_2s which a b m v s _ _ ⟨I.of_, Cmp_ok a m ha0 ha (by omega) hm1, cmp_lt (by omega), Cmp_ok b m hb0 hb (by omega) hm1, cmp_ge (by omega)⟩) rfl rfl).res (by simp) fun _ => rfl

/-! ### Out, Add, Sub, Mul -/

theorem Out_ok (a : Int) (ha0 : 0 ≤ a) (ha : a < m) : CallOk Try.prog 21 [.one (.int .i64 which), nv a] [] (.tup [nv (a * w % m), .one (.lit .i64 0)]) [] [] := by
  have hm1 := I.lt; have hh := I.half; have hR := R_pos
  have hq := mul_own 6 I.pr a 1 ha0 (by omega) (by omega) (by unfold R at *; omega)
  rw [Int.mul_one] at hq
  exact (p21_ok which a m v s _ ⟨may1_ok I 11 a ha0 ha, hq.args fun _ => rfl⟩).call nw3_21 rfl
theorem Out_far (a : Int) (ha0 : 0 ≤ a) (ha : a < R) (h : m ≤ a) : CallOk Try.prog 21 [.one (.int .i64 which), nv a] [] (.tup [z4, .one (.lit .i64 52)]) [] [] :=
  ((p21_no which a m v s _ ⟨may1_far I 11 a ha0 ha h, rfl⟩).call nw5_21 rfl).res (by simp) fun _ => rfl

theorem Add_mod (a b : Int) (ha0 : 0 ≤ a) (ha : a < m) (hb0 : 0 ≤ b) (hb : b < m) : CallOk Try.prog 26 [.one (.int .i64 which), nv a, nv b] [] (.tup [nv ((a + b) % m), .one (.lit .i64 0)]) [] [] := by
  have hm := I.pos; have hm1 := I.lt
  have hr := mod_range (a + b) R R_pos
  have e : (a + b) % R + (a + b) / R * R = a + b := by rw [Int.mul_comm]; exact Int.emod_add_mul_ediv (a + b) R
  have hc : (a + b) / R = 0 ∨ (a + b) / R = 1 := by unfold R at *; omega
  have hl := less_own (v := v) (s := s) 8 hm hm1 ((a + b) % R) ((a + b) / R) hr.1 hr.2 hc (by rw [e]; omega)
  rw [e] at hl
  exact (p26_ok which a b m v s _ _ _ ⟨may2_ok I 16 a b ha0 ha hb0 hb, Add_ok a b ha0 (by omega) hb0 (by omega), hl⟩).call nw3_26 rfl

theorem Sub_mod (a b : Int) (ha0 : 0 ≤ a) (ha : a < m) (hb0 : 0 ≤ b) (hb : b < m) : CallOk Try.prog 27 [.one (.int .i64 which), nv a, nv b] [] (.tup [nv ((a - b) % m), .one (.lit .i64 0)]) [] [] := by
  have hm := I.pos; have hm1 := I.lt
  have hs := Sub_ok a b ha0 (by omega) hb0 (by omega)
  by_cases k : a < b
  · have hd := mod_range (a - b) R R_pos
    have ha' := Add_ok ((a - b) % R) m hd.1 hd.2 (by omega) hm1
    have e : ((a - b) % R + m) % R = (a - b) % m := by
      rw [Int.emod_add_emod, Int.emod_eq_of_lt (a := a - b + m) (by omega) (by omega), ← Int.add_emod_right, Int.emod_eq_of_lt (by omega) (by omega)]
    rw [e] at ha'
    exact (p27_l which a b m v s _ _ _ _ ⟨may2_ok I 16 a b ha0 ha hb0 hb, hs, by rw [if_pos k]; rfl, ha'⟩).call nw5_27 rfl
  · have e : (a - b) % R = (a - b) % m := by
      rw [Int.emod_eq_of_lt (by omega) (by omega), Int.emod_eq_of_lt (by omega) (by omega)]
    rw [e] at hs
    exact (p27_g which a b m v s _ _ ⟨may2_ok I 16 a b ha0 ha hb0 hb, hs, by rw [if_neg k]; rfl⟩).call nw5_27 rfl

theorem Mul_mod (a b : Int) (ha0 : 0 ≤ a) (ha : a < m) (hb0 : 0 ≤ b) (hb : b < m) : CallOk Try.prog 28 [.one (.int .i64 which), nv a, nv b] [] (.tup [nv (a * b * w % m), .one (.lit .i64 0)]) [] [] := by
  have hm1 := I.lt
  exact (p28_ok which a b m v s _ ⟨may2_ok I 14 a b ha0 ha hb0 hb, mul_own 8 I.pr a b ha0 (by omega) hb0 hb⟩).call nw5_28 rfl

theorem Add_far (a b : Int) (ha0 : 0 ≤ a) (ha : a < R) (hb0 : 0 ≤ b) (hb : b < R) (h : m ≤ a ∨ m ≤ b) : CallOk Try.prog 26 [.one (.int .i64 which), nv a, nv b] [] (.tup [z4, .one (.lit .i64 52)]) [] [] :=
  ((p26_no which a b m v s _ ⟨may2_far I 16 a b ha0 ha hb0 hb h, rfl⟩).call nw5_26 rfl).res (by simp) fun _ => rfl
theorem Sub_far (a b : Int) (ha0 : 0 ≤ a) (ha : a < R) (hb0 : 0 ≤ b) (hb : b < R) (h : m ≤ a ∨ m ≤ b) : CallOk Try.prog 27 [.one (.int .i64 which), nv a, nv b] [] (.tup [z4, .one (.lit .i64 52)]) [] [] :=
  ((p27_no which a b m v s _ ⟨may2_far I 16 a b ha0 ha hb0 hb h, rfl⟩).call nw5_27 rfl).res (by simp) fun _ => rfl
theorem Mul_far (a b : Int) (ha0 : 0 ≤ a) (ha : a < R) (hb0 : 0 ≤ b) (hb : b < R) (h : m ≤ a ∨ m ≤ b) : CallOk Try.prog 28 [.one (.int .i64 which), nv a, nv b] [] (.tup [z4, .one (.lit .i64 52)]) [] [] :=
  ((p28_no which a b m v s _ ⟨may2_far I 14 a b ha0 ha hb0 hb h, rfl⟩).call nw5_28 rfl).res (by simp) fun _ => rfl

end

/-! ### No such prime -/

section
variable {which : Int} (h1 : which ≠ 1) (h2 : which ≠ 2)
include h1 h2

theorem may1_none (n : Nat) (a : Int) : CallOk Try.prog 81 [.one (.int .i64 which), .one (.sl true n 0 1 1)] [(n, { kind := .own, e := 24, c := a1 a })] (.tup [.agg (pcell 0 0 0), .one (.int .i64 51)]) [] [] :=
  (FnOk.own1 nw3_81 n (p81_1n which a (of_no which h1 h2)) rfl rfl).res (by simp) fun _ => rfl
theorem may2_none (n : Nat) (a b : Int) : CallOk Try.prog 81 [.one (.int .i64 which), .one (.sl true n 0 2 2)] [(n, { kind := .own, e := 24, c := a2 a b })] (.tup [.agg (pcell 0 0 0), .one (.int .i64 51)]) [] [] :=
  (FnOk.own1 nw3_81 n (p81_2n which a b (of_no which h1 h2)) rfl rfl).res (by simp) fun _ => rfl

theorem Modulus_none : CallOk Try.prog 19 [.one (.int .i64 which)] [] (.tup [z4, .one (.lit .i64 51)]) [] [] := (p19_no which (of_no which h1 h2)).call nw3_19 rfl
theorem In_none (a : Int) : CallOk Try.prog 20 [.one (.int .i64 which), nv a] [] (.tup [z4, .one (.lit .i64 51)]) [] [] := (p20_no which a (of_no which h1 h2)).call nw3_20 rfl
theorem Out_none (a : Int) : CallOk Try.prog 21 [.one (.int .i64 which), nv a] [] (.tup [z4, .one (.lit .i64 51)]) [] [] :=
  ((p21_no which a 0 0 0 _ ⟨may1_none h1 h2 11 a, rfl⟩).call nw5_21 rfl).res (by simp) fun _ => rfl
theorem Add_none (a b : Int) : CallOk Try.prog 26 [.one (.int .i64 which), nv a, nv b] [] (.tup [z4, .one (.lit .i64 51)]) [] [] :=
  ((p26_no which a b 0 0 0 _ ⟨may2_none h1 h2 16 a b, rfl⟩).call nw5_26 rfl).res (by simp) fun _ => rfl
theorem Sub_none (a b : Int) : CallOk Try.prog 27 [.one (.int .i64 which), nv a, nv b] [] (.tup [z4, .one (.lit .i64 51)]) [] [] :=
  ((p27_no which a b 0 0 0 _ ⟨may2_none h1 h2 16 a b, rfl⟩).call nw5_27 rfl).res (by simp) fun _ => rfl
theorem Mul_none (a b : Int) : CallOk Try.prog 28 [.one (.int .i64 which), nv a, nv b] [] (.tup [z4, .one (.lit .i64 51)]) [] [] :=
  ((p28_no which a b 0 0 0 _ ⟨may2_none h1 h2 14 a b, rfl⟩).call nw5_28 rfl).res (by simp) fun _ => rfl

end

/-! ### awake, FieldForms -/

theorem awake05 : CallOk Try.prog 17 [] [] (.one (.blit true)) [] [] := by
  have h1 := In_ok is_p 1 (by omega) (by decide)
  have h2 := Out_ok is_p (1 * R % pP) (by decide) (by decide)
  refine ((p17 ⟨(h1.args (args' := [.one (.lit .i64 1), .agg (.vals [.lit .u64 1, .lit .u64 0, .lit .u64 0, .lit .u64 0])]) fun _ => by kernel_rfl).res (by simp) fun _ => by kernel_rfl, (h2.args fun _ => by kernel_rfl).res (by simp) fun _ => by kernel_rfl⟩).call nw5_17 rfl).res (by simp) fun _ => rfl

theorem same4 (x : Int) : decide ([l0 x, l1 x, l2 x, l3 x] = [l0 x, l1 x, l2 x, l3 x]) = true := decide_eq_true rfl
theorem diff4 (x : Int) : (!decide ([l0 x, l1 x, l2 x, l3 x] = [l0 x, l1 x, l2 x, l3 x])) = false := by rw [same4]; rfl

theorem forms_is {which m v s w : Int} (I : Is which m v s w) (x : Int) (hx0 : 0 ≤ x) (hx : x < R) : CallOk Try.prog 3 [.one (.int .i64 which), nv x] [] (.one (.blit true)) [] [] := by
  have hm := I.pos; have hm1 := I.lt; have hh := I.half
  have hmod := Modulus_ok I
  have hin := In_ok I x hx0 hx
  have hrest := Rest_ok x m false hx0 hx hm hm1 (by simp only [rb, Bool.false_eq_true, if_false]; omega)
  simp only [rb, Bool.false_eq_true, if_false, Int.add_zero] at hrest
  have hr := mod_range x m hm
  have hform := Form_ok (x % m) m hr.1 hr.2 hm1
  have e : x % m * R % m = x * R % m := ((Cg.mod m x).mul (Cg.refl m R))
  rw [e] at hform
  have hl := RLess_ok x m hx0 hx (by omega) hm1
  by_cases k : x < m
  · rw [decide_eq_true k] at hl
    have hc := Out_ok I x hx0 k
    have hq := mod_range (x * R) m hm
    have hback := Out_ok I (x * R % m) hq.1 hq.2
    have e2 : x * R % m * w % m = x := by
      have : Cg m (x * R % m * w) x := ((Cg.mod m (x * R)).mul (Cg.refl m w)).trans (I.pr.cancel x)
      exact Eq.trans this (Int.emod_eq_of_lt hx0 k)
    rw [e2] at hback
    have hp := Plain_ok x m w hx0 k hm1 I.odd I.pr.inv
    exact ((p3_in which x m _ _ _ ⟨awake05, I.prime, hmod, hin, hc, diff4 m, hrest, hform, diff4 _, hl, hback, hp, same4 _⟩).call nw5_3 rfl).res (by simp) fun _ => by rw [same4]; rfl
  · rw [decide_eq_false k] at hl
    exact ((p3_far which x m _ _ ⟨awake05, I.prime, hmod, hin, Out_far I x hx0 hx (by omega), diff4 m, hrest, hform, diff4 _, hl⟩).call nw5_3 rfl).res (by simp) fun _ => rfl

theorem forms_ok (which x : Int) (hx0 : 0 ≤ x) (hx : x < R) : CallOk Try.prog 3 [.one (.int .i64 which), nv x] [] (.one (.blit true)) [] [] := by
  by_cases h1 : which = 1
  · subst h1; exact forms_is is_p x hx0 hx
  · by_cases h2 : which = 2
    · subst h2; exact forms_is is_n x hx0 hx
    · exact ((p3_no which x ⟨awake05, prime_no which h1 h2, Modulus_none h1 h2, In_none h1 h2 x, Out_none h1 h2 x, rfl⟩).call nw5_3 rfl).res (by simp) fun _ => rfl

end Go.Proofs.Ytnndhmnabbkamaa
