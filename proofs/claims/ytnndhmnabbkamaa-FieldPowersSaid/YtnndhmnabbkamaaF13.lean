/-
  What 'barbicanlaw05.FieldLaws' comes to.
  Conditions: those that each theorem names.
-/
import Derived.Test.YtnndhmnabbkamaaF12
import Derived.Test.YtnndhmnabbkamaaW9
import Derived.Test.YtnndhmnabbkamaaPrimes
namespace Go.Proofs.Ytnndhmnabbkamaa
open Go Go.Ev Go.Proofs
set_option maxRecDepth 100000

/-- Fermat's little theorem on integers. -/
def Fer (m : Int) : Prop := ∀ t, 0 < t → t < m → Cg m (t ^ (m - 1).toNat) 1

theorem fer_of (N : Nat) (h : ∀ u, 0 < u → u < N → u ^ (N - 1) % N = 1) : Fer (N : Int) := by
  intro t h0 h1
  obtain ⟨u, rfl⟩ := Int.eq_ofNat_of_zero_le (show 0 ≤ t by omega)
  have e : ((N : Int) - 1).toNat = N - 1 := by omega
  have hu := h u (by omega) (by omega)
  unfold Cg
  rw [e, ← Int.natCast_pow, ← Int.natCast_emod, hu]
  exact (Int.emod_eq_of_lt (by decide) (by omega)).symm

theorem fer_p : Fer pP := fer_of 115792089210356248762697446949407573530086143415290314195533631308867097853951 fermat_p
theorem fer_n : Fer pN := fer_of 115792089210356248762697446949407573529996955224135760342422259061068512044369 fermat_n

theorem Pr.unit {m v s w : Int} (p : Pr m v s w) (hF : Fer m) (a : Int) (ha0 : 0 < a) (ha : a < m) : Cg m ((a * w) ^ (m - 1).toNat) 1 := by
  have hm := p.m0
  have hr := mod_range (a * w) m hm
  have hne : a * w % m ≠ 0 := by
    intro e
    have h1 : Cg m (a * w) 0 := by unfold Cg; rw [e]; rfl
    have h2 : Cg m (a * w * R) (0 * R) := h1.mul (Cg.refl m R)
    have h3 : Cg m a 0 := (p.cancel a).symm.trans ((Cg.of (by grind)).trans (h2.trans (Cg.of (by simp))))
    have := h3.eq (by omega) ha (by omega) hm
    omega
  exact ((Cg.mod m (a * w)).symm.pow _).trans (hF _ (by omega) hr.2)

theorem w4_pred (m : Int) (h0 : 0 < m) (h1 : m < R) (odd : m % 2 = 1) : w4 (IntKind.u64.wrap (l0 m - 1)) (l1 m) (l2 m) (l3 m) = nv (m - 1) := by
  have ev := v4_l m (by omega) h1
  have w0 := wd_l0 m; have w1 := wd_l1 m; have w2 := wd_l2 m; have w3 := wd_l3 m
  have hl : l0 m % 2 = 1 := by unfold l0; omega
  have e : m - 1 = v4 (l0 m - 1) (l1 m) (l2 m) (l3 m) := by unfold v4 at *; omega
  have ww : Wd (l0 m - 1) := by unfold Wd at *; omega
  rw [e, nv_v4 ww w1 w2 w3, wrap_u64, mod_small ww.1 ww.2]

theorem prime_even (which : Int) (h : which.tmod 2 = 0) : CallOk Try.prog 38 [.one (.int .i64 which)] [] (.tup [.one (.int .i64 1), nv pP]) [] [] :=
  ((p38_e which _ ⟨by rw [h]; rfl, P_ok⟩).call nw9_38 rfl).res (by simp) fun _ => rfl
theorem prime_odd (which : Int) (h : which.tmod 2 ≠ 0) : CallOk Try.prog 38 [.one (.int .i64 which)] [] (.tup [.one (.int .i64 2), nv pN]) [] [] :=
  ((p38_o which _ ⟨by simpa using h, N_ok⟩).call nw9_38 rfl).res (by simp) fun _ => rfl

abbrev n3 (x y z : Int) : AT := .agg (.vals [.int .u64 (l0 x), .int .u64 (l1 x), .int .u64 (l2 x), .int .u64 (l3 x), .int .u64 (l0 y), .int .u64 (l1 y), .int .u64 (l2 y), .int .u64 (l3 y), .int .u64 (l0 z), .int .u64 (l1 z), .int .u64 (l2 z), .int .u64 (l3 z)])

theorem laws_is {k m v s w : Int} (I : Is k m v s w) (hF : Fer m) (which x y z : Int) (hp : CallOk Try.prog 38 [.one (.int .i64 which)] [] (.tup [.one (.int .i64 k), nv m]) [] [])
    (hx0 : 0 ≤ x) (hx : x < R) (hy0 : 0 ≤ y) (hy : y < R) (hz0 : 0 ≤ z) (hz : z < R) : CallOk Try.prog 7 [.one (.int .i64 which), n3 x y z] [] (.one (.blit true)) [] [] := by
  have hm := I.pos; have hm1 := I.lt; have hh := I.half
  have ia := In_ok I x hx0 hx
  have ib := In_ok I y hy0 hy
  have ic := In_ok I z hz0 hz
  have iu := In_ok I 1 (by omega) (by decide)
  have ra := mod_range (x * R) m hm
  have rb := mod_range (y * R) m hm
  have rc := mod_range (z * R) m hm
  have ru := mod_range (1 * R) m hm
  have cu : Cg m (1 * R % m) R := (Cg.mod m _).trans (Cg.of (by simp))
  generalize x * R % m = a at *
  generalize y * R % m = b at *
  generalize z * R % m = c at *
  generalize 1 * R % m = u at *
  have rab := mod_range (a + b) m hm
  have rbc := mod_range (b + c) m hm
  have rp := mod_range (a * b * w) m hm
  have rr := mod_range (b * c * w) m hm
  have rq := mod_range (a * c * w) m hm
  have s1 := Add_mod I a b ra.1 ra.2 rb.1 rb.2
  have s2 := Add_mod I b a rb.1 rb.2 ra.1 ra.2
  rw [Int.add_comm b a] at s2
  have s3 := Add_mod I b c rb.1 rb.2 rc.1 rc.2
  have s4 := Add_mod I ((a + b) % m) c rab.1 rab.2 rc.1 rc.2
  have s5 := Add_mod I a ((b + c) % m) ra.1 ra.2 rbc.1 rbc.2
  have e5 : (a + (b + c) % m) % m = ((a + b) % m + c) % m :=
    ((Cg.refl m a).add (Cg.mod m (b + c))).trans ((Cg.of (by omega)).trans (((Cg.mod m (a + b)).add (Cg.refl m c)).symm))
  rw [e5] at s5
  have s6 := Sub_mod I ((a + b) % m) b rab.1 rab.2 rb.1 rb.2
  have e6 : ((a + b) % m - b) % m = a := by
    have h : Cg m ((a + b) % m - b) a := ((Cg.mod m (a + b)).sub (Cg.refl m b)).trans (Cg.of (by omega))
    exact Eq.trans h (Int.emod_eq_of_lt ra.1 ra.2)
  rw [e6] at s6
  have t1 := Mul_mod I a b ra.1 ra.2 rb.1 rb.2
  have t2 := Mul_mod I b a rb.1 rb.2 ra.1 ra.2
  rw [Int.mul_comm b a] at t2
  have t3 := Mul_mod I b c rb.1 rb.2 rc.1 rc.2
  have t4 := Mul_mod I (a * b * w % m) c rp.1 rp.2 rc.1 rc.2
  have t5 := Mul_mod I a (b * c * w % m) ra.1 ra.2 rr.1 rr.2
  have f5 : a * (b * c * w % m) * w % m = a * b * w % m * c * w % m :=
    (((Cg.refl m a).mul (Cg.mod m (b * c * w))).mul (Cg.refl m w)).trans ((Cg.of (by grind)).trans ((((Cg.mod m (a * b * w)).mul (Cg.refl m c)).mul (Cg.refl m w)).symm))
  rw [f5] at t5
  have t6 := Mul_mod I a ((b + c) % m) ra.1 ra.2 rbc.1 rbc.2
  have t7 := Mul_mod I a c ra.1 ra.2 rc.1 rc.2
  have t8 := Add_mod I (a * b * w % m) (a * c * w % m) rp.1 rp.2 rq.1 rq.2
  have f8 : (a * b * w % m + a * c * w % m) % m = a * ((b + c) % m) * w % m :=
    ((Cg.mod m (a * b * w)).add (Cg.mod m (a * c * w))).trans ((Cg.of (by grind)).trans ((((Cg.refl m a).mul (Cg.mod m (b + c))).mul (Cg.refl m w)).symm))
  rw [f8] at t8
  have t9 := Mul_mod I a u ra.1 ra.2 ru.1 ru.2
  have f9 : a * u * w % m = a := by
    have h : Cg m (a * u * w) a := (((Cg.refl m a).mul cu).mul (Cg.refl m w)).trans (I.pr.cancel a)
    exact Eq.trans h (Int.emod_eq_of_lt ra.1 ra.2)
  rw [f9] at t9
  by_cases hz : a = 0
  · have hzz : decide ([l0 a, l1 a, l2 a, l3 a] = [0, 0, 0, 0]) = true := by rw [hz]; rfl
    exact ((p7_z which k x y z m a b c _ _ _ _ _ _ _ _ u ⟨hp, ia, ib, ic, awake05, s1, s2, s3, s4, s5, s6, same4 _, same4 _, t1, t2, t3, t4, t5, same4 _, t6, t7, t8, iu.args fun _ => rfl, t9, same4 _, hzz, same4 _, same4 _⟩).call nw9_7 rfl).res (by simp) fun _ => by rw [same4]; rfl
  · have hpos : 0 < a := by omega
    have hi := Inv_ok I a hpos ra.2
    have ri := mod_range (R * (a * w) ^ (m - 2).toNat) m hm
    have t10 := Mul_mod I a (fpow m w a (m - 2).toNat) ra.1 ra.2 ri.1 ri.2
    have hun := I.pr.unit hF a hpos ra.2
    have en : (m - 1).toNat = (m - 2).toNat + 1 := by unfold R at *; omega
    have f10 : a * fpow m w a (m - 2).toNat * w % m = u := by
      have h : Cg m (a * fpow m w a (m - 2).toNat * w) u := by
        refine (((Cg.refl m a).mul (Cg.mod m _)).mul (Cg.refl m w)).trans ((Cg.of ?_).trans (((Cg.refl m R).mul hun).trans ((Cg.of (by simp)).trans cu.symm)))
        rw [en, Int.pow_succ]; grind
      exact Eq.trans h (Int.emod_eq_of_lt ru.1 ru.2)
    rw [f10] at t10
    have e1 : (((m - 1).toNat : Nat) : Int) = m - 1 := by omega
    have t11 := Pow_ok I a ra.1 ra.2 (m - 1).toNat (by omega)
    have f11 : fpow m w a (m - 1).toNat = u := by
      have h : Cg m (R * (a * w) ^ (m - 1).toNat) u := ((Cg.refl m R).mul hun).trans ((Cg.of (by simp)).trans cu.symm)
      exact Eq.trans h (Int.emod_eq_of_lt ru.1 ru.2)
    rw [e1, f11, ← w4_pred m hm hm1 I.odd] at t11
    exact ((p7_i which k x y z m a b c _ _ _ _ _ _ _ _ u _ ⟨hp, ia, ib, ic, awake05, s1, s2, s3, s4, s5, s6, same4 _, same4 _, t1, t2, t3, t4, t5, same4 _, t6, t7, t8, iu.args fun _ => rfl, t9, same4 _, eqz4 ra.1 (by omega) hz, hi, t10, t11, same4 _, same4 _, same4 _⟩).call nw9_7 rfl).res (by simp) fun _ => by first | rfl | (rw [same4]; rfl)

theorem laws_ok (which x y z : Int) (hx0 : 0 ≤ x) (hx : x < R) (hy0 : 0 ≤ y) (hy : y < R) (hz0 : 0 ≤ z) (hz : z < R) : CallOk Try.prog 7 [.one (.int .i64 which), n3 x y z] [] (.one (.blit true)) [] [] := by
  by_cases h : which.tmod 2 = 0
  · exact laws_is is_p fer_p which x y z (prime_even which h) hx0 hx hy0 hy hz0 hz
  · exact laws_is is_n fer_n which x y z (prime_odd which h) hx0 hx hy0 hy hz0 hz

end Go.Proofs.Ytnndhmnabbkamaa
