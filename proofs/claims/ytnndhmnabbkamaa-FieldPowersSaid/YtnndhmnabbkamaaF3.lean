/-
  Montgomery's product over the primes of the field part: less and mul.
  Conditions: those that each theorem names.
-/
import Derived.Test.YtnndhmnabbkamaaF2
import Derived.Test.YtnndhmnabbkamaaW2
namespace Go.Proofs.Ytnndhmnabbkamaa
open Go Go.Ev Go.Proofs
set_option maxRecDepth 100000

/-- What the numbers of a prime keep: m the modulus, v the vanisher, s the square of 2^256, w the inverse of 2^256. -/
structure Pr (m v s w : Int) : Prop where
  m0 : 0 < m
  m1 : m < R
  v0 : Wd v
  van : (m * v + 1) % 18446744073709551616 = 0
  s0 : 0 ≤ s
  s1 : s < m
  w0 : 0 ≤ w
  w1 : w < m
  inv : (R * w) % m = 1
  sq : s = R * R % m

/-! ### less -/

theorem less_fn (m v s a c : Int) (h0 : 0 < m) (h1 : m < R) (ha0 : 0 ≤ a) (ha : a < R) (hc : c = 0 ∨ c = 1) (hx : a + c * R < 2 * m) :
    FnOk Try.prog 80 [.one (.ptr true 1000 0), nv a, .one (.int .i64 c)] [(1000, pview m v s)] (.t (nv ((a + c * R) % m))) [(1000, pview m v s)] := by
  have hs := Sub_ok a m ha0 ha (by omega) h1
  have hk := Cmp_ok a m ha0 ha (by omega) h1
  rcases hc with rfl | rfl
  · by_cases hlt : a < m
    · have e : (a + 0 * R) % m = a := by rw [Int.zero_mul, Int.add_zero]; exact Int.emod_eq_of_lt ha0 hlt
      rw [e]
      exact p80_lt a 0 m v s _ ⟨by decide, hk, decide_eq_false (by unfold cmpI; rw [if_pos hlt]; decide)⟩
    · have e : (a + 0 * R) % m = (a - m) % R := by
        rw [Int.zero_mul, Int.add_zero, ← Int.sub_emod_right, Int.emod_eq_of_lt (by omega) (by omega), Int.emod_eq_of_lt (by omega) (by omega)]
      rw [e]
      exact p80_ge a 0 m v s _ _ _ ⟨by decide, hk, decide_eq_true (by unfold cmpI; rw [if_neg hlt]; split <;> decide), hs⟩
  · have e : (a + 1 * R) % m = (a - m) % R := by
      have : (a - m) % R = a - m + R := by
        rw [← Int.add_emod_right]; exact Int.emod_eq_of_lt (by omega) (by omega)
      rw [this, ← Int.sub_emod_right, Int.emod_eq_of_lt (by omega) (by omega)]; omega
    rw [e]
    exact p80_c a 1 m v s _ _ ⟨by decide, hs⟩

/-! ### One round -/

theorem below5 {t0 t1 t2 t3 t4 : Int} (h0 : Wd t0) (h1 : Wd t1) (h2 : Wd t2) (h3 : Wd t3) (h4 : Wd t4) : 0 ≤ v5 t0 t1 t2 t3 t4 ∧ v5 t0 t1 t2 t3 t4 < 2135987035920910082395021706169552114602704522356652769947041607822219725780640550022962086936576 := by
  unfold v5 Wd at *; omega

abbrev b6 (a b c d e f : Int) : List (Nat × Blk) := [(7, { kind := .own, e := 123, c := c6 a b c d e f })]

theorem row_at {t0 t1 t2 t3 t4 t5 q0 q1 q2 q3 q4 x y d : Int} (h : FnOk Try.prog 112 [.one (.sl true 1000 0 5 6), .one (.int .u64 x), nv y] [(1000, { kind := .own, e := 123, c := c6 t0 t1 t2 t3 t4 t5 })] (.one (.int .u64 d)) [(1000, { kind := .own, e := 123, c := c6 q0 q1 q2 q3 q4 t5 })]) :
    CallOk Try.prog 112 [.one (.sl true 7 0 5 6), .one (.int .u64 x), nv y] (b6 t0 t1 t2 t3 t4 t5) (.one (.int .u64 d)) (b6 q0 q1 q2 q3 q4 t5) [] :=
  FnOk.into nw1_112 h [(1000, 7)] [] (b6 q0 q1 q2 q3 q4 t5) rfl rfl

/-- A round: T plus x times b plus a multiple of m that makes the lowest word vanish. -/
theorem round (m v b x t0 t1 t2 t3 t4 t5 : Int) (hm0 : 0 < m) (hm : m < R) (hvan : (m * v + 1) % 18446744073709551616 = 0) (hb0 : 0 ≤ b) (hb : b < m) (hx : Wd x)
    (h0 : Wd t0) (h1 : Wd t1) (h2 : Wd t2) (h3 : Wd t3) (h4 : Wd t4) (ht : v5 t0 t1 t2 t3 t4 < 2 * m) : ∃ f0 f1 f2 f3 f4 d g0 g1 g2 g3 g4 e T Q : Int,
    CallOk Try.prog 112 [.one (.sl true 7 0 5 6), .one (.int .u64 x), nv b] (b6 t0 t1 t2 t3 t4 t5) (.one (.int .u64 d)) (b6 f0 f1 f2 f3 f4 t5) [] ∧
    CallOk Try.prog 112 [.one (.sl true 7 0 5 6), .one (.int .u64 (IntKind.u64.wrap (f0 * v))), nv m] (b6 f0 f1 f2 f3 f4 d) (.one (.int .u64 e)) (b6 g0 g1 g2 g3 g4 d) [] ∧
    Wd g1 ∧ Wd g2 ∧ Wd g3 ∧ Wd g4 ∧ IntKind.u64.wrap (d + e) = T ∧ Wd T ∧ v5 g1 g2 g3 g4 T < 2 * m ∧ 18446744073709551616 * v5 g1 g2 g3 g4 T = v5 t0 t1 t2 t3 t4 + x * b + Q * m := by
  obtain ⟨f0, f1, f2, f3, f4, d, r1, w0, w1, w2, w3, w4, d0, d1, e1⟩ := row_fn t0 t1 t2 t3 t4 t5 x b h0 h1 h2 h3 h4 hx hb0 (by omega)
  have hq : Wd (IntKind.u64.wrap (f0 * v)) := by rw [wrap_u64]; exact wd_mod _
  obtain ⟨g0, g1, g2, g3, g4, e, r2, z0, z1, z2, z3, z4, d2, d3, e2⟩ := row_fn f0 f1 f2 f3 f4 d (IntKind.u64.wrap (f0 * v)) m w0 w1 w2 w3 w4 hq (by omega) hm
  refine ⟨f0, f1, f2, f3, f4, d, g0, g1, g2, g3, g4, e, _, IntKind.u64.wrap (f0 * v), row_at r1, row_at r2, z1, z2, z3, z4, rfl, by rw [wrap_u64]; exact wd_mod _, ?_⟩
  rw [wrap_u64 (f0 * v)] at *
  rw [wrap_u64, mod_small (by omega) (by omega)]
  generalize hqe : f0 * v % 18446744073709551616 = q at *
  -- the lowest word vanishes
  have low : g0 = 0 := by
    have k1 : (v5 f0 f1 f2 f3 f4 + q * m) % 18446744073709551616 = 0 := by
      have k2 : (f0 + q * m) % 18446744073709551616 = 0 := by
        rw [← hqe, Int.add_emod, Int.mul_emod, Int.emod_emod, ← Int.mul_emod, ← Int.add_emod]
        have : f0 + f0 * v * m = f0 * (m * v + 1) := by grind
        rw [this, Int.mul_emod, hvan]; simp
      have k3 : v5 f0 f1 f2 f3 f4 + q * m = (f0 + q * m) + 18446744073709551616 * (f1 + 18446744073709551616 * (f2 + 18446744073709551616 * (f3 + 18446744073709551616 * f4))) := by unfold v5; omega
      rw [k3, Int.add_mul_emod_self_left, k2]
    rw [e2] at k1
    clear e1 e2 r1 r2
    unfold v5 Wd at *
    omega
  have bx : x * b ≤ 18446744073709551615 * (m - 1) := Int.mul_le_mul (by unfold Wd at hx; omega) (by omega) hb0 (by omega)
  have bq : q * m ≤ 18446744073709551615 * m := Int.mul_le_mul_of_nonneg_right (by unfold Wd at hq; omega) (by omega)
  have tot : 18446744073709551616 * v5 g1 g2 g3 g4 (d + e) = v5 t0 t1 t2 t3 t4 + x * b + q * m := by
    have e3 : v5 g0 g1 g2 g3 g4 = 18446744073709551616 * (g1 + 18446744073709551616 * (g2 + 18446744073709551616 * (g3 + 18446744073709551616 * g4))) := by unfold v5; omega
    have e4 : v5 g1 g2 g3 g4 (d + e) = g1 + 18446744073709551616 * (g2 + 18446744073709551616 * (g3 + 18446744073709551616 * g4)) + 115792089237316195423570985008687907853269984665640564039457584007913129639936 * (d + e) := by unfold v5; omega
    rw [e4]
    rw [e3] at e2
    generalize g1 + 18446744073709551616 * (g2 + 18446744073709551616 * (g3 + 18446744073709551616 * g4)) = g at *
    generalize v5 f0 f1 f2 f3 f4 = f at *
    generalize v5 t0 t1 t2 t3 t4 = t at *
    generalize q * m = qm at *
    generalize x * b = xb at *
    clear r1 r2 bx bq
    omega
  exact ⟨by omega, tot⟩

theorem zeros : Go.Ev.Alike (b6 0 0 0 0 0 0) [(7, { kind := .own, e := 123, c := .vals [.lit .u64 0, .lit .u64 0, .lit .u64 0, .lit .u64 0, .lit .u64 0, .lit .u64 0] })] :=
  ⟨rfl, ⟨rfl, rfl, rfl, fun _ => rfl, fun _ => rfl⟩, trivial⟩

/-! ### mul -/

/-- A function that reads a prime, at a call. -/
theorem fits1 (n : Nat) (m v s : Int) {r : AV} (hr : r.plain = true := by rfl) : callFits [(1000, n)] [] [(1000, pview m v s)] [(1000, pview m v s)] r [] = true := by
  have h1 : knows [(1000, n)] [] 1000 = true := by
    show (!(isIn [] n) && Nat.beq n n) = true
    simp [isIn, Nat.beq_refl]
  have h2 : ∀ x : AV, x.plain = true → x.sat (knows [(1000, n)] []) = true := fun x hx => AV.sat_plain hx _
  simp [callFits, Heap.nodup, h1, h2 r hr, Cells.sat, A0.sat, pview, Blk.own, BK.isOwn]

theorem less_at {m v s a c r : Int} {n : Nat} (h : FnOk Try.prog 80 [.one (.ptr true 1000 0), nv a, .one (.int .i64 c)] [(1000, pview m v s)] (.t (nv r)) [(1000, pview m v s)]) :
    CallOk Try.prog 80 [.one (.ptr true n 0), nv a, .one (.int .i64 c)] [(n, pview m v s)] (.t (nv r)) [] [] :=
  FnOk.into nw2_80 h [(1000, n)] [] [] rfl (fits1 n m v s)

theorem mul_fn (m v s w a b : Int) (p : Pr m v s w) (ha0 : 0 ≤ a) (ha : a < R) (hb0 : 0 ≤ b) (hb : b < m) :
    FnOk Try.prog 79 [.one (.ptr true 1000 0), nv a, nv b] [(1000, pview m v s)] (.t (nv (a * b * w % m))) [(1000, pview m v s)] := by
  have wz : Wd 0 := by unfold Wd; omega
  have hm0 := p.m0
  obtain ⟨f00, f01, f02, f03, f04, d0, g00, g01, g02, g03, g04, e0, T0, Q0, c0, c1, w01, w02, w03, w04, t0, wt0, u0, s0⟩ := round m v b (l0 a) 0 0 0 0 0 0 p.m0 p.m1 p.van hb0 hb (wd_l0 a) wz wz wz wz wz (by unfold v5; omega)
  obtain ⟨f10, f11, f12, f13, f14, d1, g10, g11, g12, g13, g14, e1, T1, Q1, c2, c3, w11, w12, w13, w14, t1, wt1, u1, s1⟩ := round m v b (l1 a) g01 g02 g03 g04 T0 T0 p.m0 p.m1 p.van hb0 hb (wd_l1 a) w01 w02 w03 w04 wt0 u0
  obtain ⟨f20, f21, f22, f23, f24, d2, g20, g21, g22, g23, g24, e2, T2, Q2, c4, c5, w21, w22, w23, w24, t2, wt2, u2, s2⟩ := round m v b (l2 a) g11 g12 g13 g14 T1 T1 p.m0 p.m1 p.van hb0 hb (wd_l2 a) w11 w12 w13 w14 wt1 u1
  obtain ⟨f30, f31, f32, f33, f34, d3, g30, g31, g32, g33, g34, e3, T3, Q3, c6, c7, w31, w32, w33, w34, t3, wt3, u3, s3⟩ := round m v b (l3 a) g21 g22 g23 g24 T2 T2 p.m0 p.m1 p.van hb0 hb (wd_l3 a) w21 w22 w23 w24 wt2 u2
  have e5 : v5 g31 g32 g33 g34 T3 = v4 g31 g32 g33 g34 + T3 * R := by unfold v5 v4 R; omega
  have hv := v4_lt w31 w32 w33 w34
  have hT : T3 = 0 ∨ T3 = 1 := by
    have := p.m1
    have := wt3.1
    rw [e5] at u3
    unfold R at *
    omega
  have hl := less_fn m v s (v4 g31 g32 g33 g34) T3 p.m0 p.m1 hv.1 hv.2 hT (by rw [← e5]; exact u3)
  have hl := less_at (n := 1000) hl
  rw [nv_v4 w31 w32 w33 w34, ← e5] at hl
  have hwr : IntKind.i64.wrap (IntKind.u64.wrap (d3 + e3)) = T3 := by rw [t3]; exact wrap_i64 T3 (by omega) (by omega)
  -- the value
  have hz : v5 0 0 0 0 0 = 0 := by decide
  rw [hz] at s0
  have tot : v5 g31 g32 g33 g34 T3 * R = a * b + (Q0 + 18446744073709551616 * Q1 + 340282366920938463463374607431768211456 * Q2 + 6277101735386680763835789423207666416102355444464034512896 * Q3) * m := by
    have ea := v4_l a ha0 ha
    generalize v5 g01 g02 g03 g04 T0 = V0 at *
    generalize v5 g11 g12 g13 g14 T1 = V1 at *
    generalize v5 g21 g22 g23 g24 T2 = V2 at *
    generalize v5 g31 g32 g33 g34 T3 = V3 at *
    have eab : a * b = l0 a * b + 18446744073709551616 * (l1 a * b) + 340282366920938463463374607431768211456 * (l2 a * b) + 6277101735386680763835789423207666416102355444464034512896 * (l3 a * b) := by
      conv => lhs; rw [← ea]
      unfold v4; grind
    have eq : (Q0 + 18446744073709551616 * Q1 + 340282366920938463463374607431768211456 * Q2 + 6277101735386680763835789423207666416102355444464034512896 * Q3) * m = Q0 * m + 18446744073709551616 * (Q1 * m) + 340282366920938463463374607431768211456 * (Q2 * m) + 6277101735386680763835789423207666416102355444464034512896 * (Q3 * m) := by grind
    rw [eab, eq]
    unfold R
    clear eab eq ea c0 c1 c2 c3 c4 c5 c6 c7 hl hv e5
    generalize l0 a * b = x0 at *
    generalize l1 a * b = x1 at *
    generalize l2 a * b = x2 at *
    generalize l3 a * b = x3 at *
    generalize Q0 * m = y0 at *
    generalize Q1 * m = y1 at *
    generalize Q2 * m = y2 at *
    generalize Q3 * m = y3 at *
    omega
  have hval : v5 g31 g32 g33 g34 T3 % m = a * b * w % m := by
    generalize v5 g31 g32 g33 g34 T3 = V at *
    have e1 : V % m = V * (R * w) % m := by rw [Int.mul_emod, p.inv]; simp
    have e2 : V * (R * w) = a * b * w + m * ((Q0 + 18446744073709551616 * Q1 + 340282366920938463463374607431768211456 * Q2 + 6277101735386680763835789423207666416102355444464034512896 * Q3) * w) := by
      have : V * (R * w) = V * R * w := by grind
      rw [this, tot]; grind
    rw [e1, e2, Int.add_mul_emod_self_left]
  rw [hval] at hl
  refine p79 a b m v s _ 0 T0 T1 T2 f00 f01 f02 f03 f04 d0 g00 g01 g02 g03 g04 e0 f10 f11 f12 f13 f14 d1 g10 g11 g12 g13 g14 e1 f20 f21 f22 f23 f24 d2 g20 g21 g22 g23 g24 e2 f30 f31 f32 f33 f34 d3 g30 g31 g32 g33 g34 e3 ⟨c0.heap zeros, c1, ?_, c3, ?_, c5, ?_, c7, ?_⟩
  · rw [t0]; exact c2
  · rw [t1]; exact c4
  · rw [t2]; exact c6
  · rw [hwr]; exact hl

end Go.Proofs.Ytnndhmnabbkamaa
