/-
  What products of words come to, and one row of a product of numbers.
  Conditions: those that each theorem names.
-/
import Derived.Test.YtnndhmnabbkamaaF1
import Derived.Test.YtnndhmnabbkamaaEv15
import Derived.Laws.Bits64b
namespace Go.Proofs.Ytnndhmnabbkamaa
open Go Go.Ev Go.Proofs
set_option maxRecDepth 100000

theorem and_low (a : Int) (k : Nat) (hk : 2 ^ k < 18446744073709551616) (h : Wd a) : bitOp .and .u64 a (2 ^ k - 1) = a % 2 ^ k := by
  obtain ⟨n, rfl⟩ := Int.eq_ofNat_of_zero_le h.1
  have h1 := h.2
  have hp : 0 < 2 ^ k := Nat.two_pow_pos k
  have e : ((2 : Int) ^ k - 1) = ((2 ^ k - 1 : Nat) : Int) := by rw [Int.ofNat_sub hp]; push_cast; rfl
  unfold bitOp
  rw [e, bits_and_u64_nat n _ (by omega) (by omega), Nat.and_two_pow_sub_one_eq_mod]
  push_cast; rfl

theorem mask32 (a : Int) (h : Wd a) : bitOp .and .u64 a 4294967295 = a % 4294967296 := and_low a 32 (by decide) h

/-- A product of halves. -/
theorem half_mul {x y : Int} (hx0 : 0 ≤ x) (hx : x ≤ 4294967295) (hy0 : 0 ≤ y) (hy : y ≤ 4294967295) : 0 ≤ x * y ∧ x * y ≤ 18446744065119617025 :=
  ⟨Int.mul_nonneg hx0 hy0, Int.mul_le_mul hx hy hy0 (by omega)⟩

theorem mod_small {x : Int} (h0 : 0 ≤ x) (h : x < 18446744073709551616) : x % 18446744073709551616 = x := Int.emod_eq_of_lt h0 h

theorem Mul64_ok (a b : Int) (ha : Wd a) (hb : Wd b) : CallOk Try.prog 127 [.one (.int .u64 a), .one (.int .u64 b)] [] (.tup [.one (.int .u64 (a * b / 18446744073709551616)), .one (.int .u64 (a * b % 18446744073709551616))]) [] [] := by
  have := (p127 a b).call nw1_127 rfl
  simp only [wrap_u64] at this
  have fd : ∀ x : Int, x.fdiv 4294967296 = x / 4294967296 := fun x => Int.fdiv_eq_ediv_of_nonneg x (by decide)
  simp only [fd] at this
  rw [mask32 a ha, mask32 b hb] at this
  have e : ∀ {x y : Int}, x = y → CallOk Try.prog 127 [.one (.int .u64 a), .one (.int .u64 b)] [] (.tup [.one (.int .u64 x), .one (.int .u64 (a * b % 18446744073709551616))]) [] [] → CallOk Try.prog 127 [.one (.int .u64 a), .one (.int .u64 b)] [] (.tup [.one (.int .u64 y), .one (.int .u64 (a * b % 18446744073709551616))]) [] [] := by
    rintro x _ rfl h; exact h
  refine e ?_ this
  clear this e fd
  obtain ⟨ha0, ha1⟩ := ha
  obtain ⟨hb0, hb1⟩ := hb
  have ea : a = 4294967296 * (a / 4294967296) + a % 4294967296 := by omega
  have eb : b = 4294967296 * (b / 4294967296) + b % 4294967296 := by omega
  generalize hu1 : a / 4294967296 = u1 at *
  generalize hu0 : a % 4294967296 = u0 at *
  generalize hv1 : b / 4294967296 = v1 at *
  generalize hv0 : b % 4294967296 = v0 at *
  have b11 : 0 ≤ u1 ∧ u1 ≤ 4294967295 := by omega
  have b10 : 0 ≤ u0 ∧ u0 ≤ 4294967295 := by omega
  have b21 : 0 ≤ v1 ∧ v1 ≤ 4294967295 := by omega
  have b20 : 0 ≤ v0 ∧ v0 ≤ 4294967295 := by omega
  have p11 := half_mul b11.1 b11.2 b21.1 b21.2
  have p10 := half_mul b11.1 b11.2 b20.1 b20.2
  have p01 := half_mul b10.1 b10.2 b21.1 b21.2
  have p00 := half_mul b10.1 b10.2 b20.1 b20.2
  have ep : a * b = 18446744073709551616 * (u1 * v1) + 4294967296 * (u1 * v0) + 4294967296 * (u0 * v1) + u0 * v0 := by rw [ea, eb]; grind
  rw [ep]
  clear ep ea eb ha0 ha1 hb0 hb1 hu1 hu0 hv1 hv0 b11 b10 b21 b20
  generalize u1 * v1 = x11 at *
  generalize u1 * v0 = x10 at *
  generalize u0 * v1 = x01 at *
  generalize u0 * v0 = x00 at *
  have q1 : (x10 + x00 / 4294967296) % 18446744073709551616 = x10 + x00 / 4294967296 := mod_small (by omega) (by omega)
  rw [mod_small p11.1 (by omega), mod_small p10.1 (by omega), mod_small p00.1 (by omega), mod_small p01.1 (by omega), q1]
  rw [mask32 _ ⟨by omega, by omega⟩]
  rw [mod_small (x := (x10 + x00 / 4294967296) % 4294967296 + x01) (by omega) (by omega)]
  rw [mod_small (x := x11 + (x10 + x00 / 4294967296) / 4294967296) (by omega) (by omega)]
  rw [mod_small (by omega) (by omega)]
  omega

theorem word_mul {x y : Int} (hx : Wd x) (hy : Wd y) : 0 ≤ x * y ∧ x * y ≤ 340282366920938463426481119284349108225 := by
  unfold Wd at *
  exact ⟨Int.mul_nonneg hx.1 hy.1, Int.mul_le_mul (show x ≤ 18446744073709551615 by omega) (show y ≤ 18446744073709551615 by omega) hy.1 (by omega)⟩

/-- One step of a row. -/
theorem row_step {x y t g : Int} (hx : Wd x) (hy : Wd y) (ht : Wd t) (hg : Wd g) : ∃ h m p c q d G : Int,
    CallOk Try.prog 127 [.one (.int .u64 x), .one (.int .u64 y)] [] (.tup [.one (.int .u64 h), .one (.int .u64 m)]) [] [] ∧
    CallOk Try.prog 113 [.one (.int .u64 m), .one (.int .u64 t), .one (.lit .u64 0)] [] (.tup [.one (.int .u64 p), .one (.int .u64 c)]) [] [] ∧
    CallOk Try.prog 113 [.one (.int .u64 p), .one (.int .u64 g), .one (.lit .u64 0)] [] (.tup [.one (.int .u64 q), .one (.int .u64 d)]) [] [] ∧
    IntKind.u64.wrap (IntKind.u64.wrap (h + c) + d) = G ∧ Wd q ∧ Wd G ∧ x * y + t + g = q + 18446744073709551616 * G := by
  have hm := word_mul hx hy
  have h1 := Mul64_ok x y hx hy
  have wm : Wd (x * y % 18446744073709551616) := wd_mod _
  have h2 := lit_add64 _ t wm ht
  have h3 := lit_add64 _ g (wd_mod (x * y % 18446744073709551616 + t)) hg
  refine ⟨_, _, _, _, _, _, _, h1, h2, h3, rfl, wd_mod _, ?_, ?_⟩
  · simp only [wrap_u64]; exact wd_mod _
  · simp only [wrap_u64]
    generalize x * y = z at *
    clear h1 h2 h3
    unfold Wd at *
    have e1 : z = 18446744073709551616 * (z / 18446744073709551616) + z % 18446744073709551616 := by omega
    generalize z / 18446744073709551616 = zh at *
    generalize z % 18446744073709551616 = zl at *
    have e2 : zl + t = 18446744073709551616 * ((zl + t) / 18446744073709551616) + (zl + t) % 18446744073709551616 := by omega
    have b2 : 0 ≤ (zl + t) / 18446744073709551616 ∧ (zl + t) / 18446744073709551616 ≤ 1 := by omega
    have b3 : 0 ≤ (zl + t) % 18446744073709551616 := by omega
    generalize (zl + t) / 18446744073709551616 = c at *
    generalize (zl + t) % 18446744073709551616 = p at *
    have e3 : p + g = 18446744073709551616 * ((p + g) / 18446744073709551616) + (p + g) % 18446744073709551616 := by omega
    have b4 : 0 ≤ (p + g) % 18446744073709551616 ∧ (p + g) % 18446744073709551616 < 18446744073709551616 := by omega
    have b5 : 0 ≤ (p + g) / 18446744073709551616 := by omega
    generalize (p + g) / 18446744073709551616 = d at *
    generalize (p + g) % 18446744073709551616 = q at *
    rw [mod_small (x := zh + c) (by omega) (by omega), mod_small (by omega) (by omega)]
    omega

/-- field.row: T plus x times y, in five words, and what is left over. -/
theorem row_fn (t0 t1 t2 t3 t4 t5 x y : Int) (h0 : Wd t0) (h1 : Wd t1) (h2 : Wd t2) (h3 : Wd t3) (h4 : Wd t4) (hx : Wd x) (hy0 : 0 ≤ y) (hy : y < R) : ∃ q0 q1 q2 q3 q4 d : Int,
    FnOk Try.prog 112 [.one (.sl true 1000 0 5 6), .one (.int .u64 x), nv y] [(1000, { kind := .own, e := 123, c := c6 t0 t1 t2 t3 t4 t5 })] (.one (.int .u64 d)) [(1000, { kind := .own, e := 123, c := c6 q0 q1 q2 q3 q4 t5 })] ∧
    Wd q0 ∧ Wd q1 ∧ Wd q2 ∧ Wd q3 ∧ Wd q4 ∧ 0 ≤ d ∧ d ≤ 1 ∧ v5 t0 t1 t2 t3 t4 + x * y = v5 q0 q1 q2 q3 q4 + 2135987035920910082395021706169552114602704522356652769947041607822219725780640550022962086936576 * d := by
  obtain ⟨y0, y1, y2, y3, w0, w1, w2, w3, ey, ey'⟩ := words y hy0 hy
  rw [ey']
  obtain ⟨a0, m0, p0, c0, q0, d0, g0, k1, k2, k3, k4, k5, k6, k7⟩ := row_step hx w0 h0 (show Wd 0 by unfold Wd; omega)
  obtain ⟨a1, m1, p1, c1, q1, d1, g1, l1, l2, l3, l4, l5, l6, l7⟩ := row_step hx w1 h1 k6
  obtain ⟨a2, m2, p2, c2, q2, d2, g2, n1, n2, n3, n4, n5, n6, n7⟩ := row_step hx w2 h2 l6
  obtain ⟨a3, m3, p3, c3, q3, d3, g3, r1, r2, r3, r4, r5, r6, r7⟩ := row_step hx w3 h3 n6
  have s1 := lit_add64 t4 g3 h4 r6
  rw [← k4] at l3
  rw [← l4] at n3
  rw [← n4] at r3
  rw [← r4] at s1
  have z : CallOk Try.prog 113 [.one (.int .u64 p0), .one (.lit .u64 0), .one (.lit .u64 0)] [] (.tup [.one (.int .u64 q0), .one (.int .u64 d0)]) [] [] := k3.args fun ψ => rfl
  refine ⟨q0, q1, q2, q3, _, _, p112 t0 t1 t2 t3 t4 t5 x y0 y1 y2 y3 _ _ _ _ _ _ _ _ _ _ _ _ _ _ _ _ _ _ _ _ _ _ _ _ _ _ ⟨k1, k2, z, l1, l2, l3, n1, n2, n3, r1, r2, r3, s1⟩, k5, l5, n5, r5, wd_mod _, ?_⟩
  rw [r4]
  have e1 : x * y = x * y0 + 18446744073709551616 * (x * y1) + 340282366920938463463374607431768211456 * (x * y2) + 6277101735386680763835789423207666416102355444464034512896 * (x * y3) := by
    rw [ey]; unfold v4; grind
  rw [e1]
  clear e1 ey ey' s1 z k1 k2 k3 k4 l1 l2 l3 l4 n1 n2 n3 n4 r1 r2 r3 r4
  generalize x * y0 = z0 at *
  generalize x * y1 = z1 at *
  generalize x * y2 = z2 at *
  generalize x * y3 = z3 at *
  have e2 : t4 + g3 = 18446744073709551616 * ((t4 + g3) / 18446744073709551616) + (t4 + g3) % 18446744073709551616 := by omega
  have b2 : 0 ≤ (t4 + g3) / 18446744073709551616 ∧ (t4 + g3) / 18446744073709551616 ≤ 1 := by unfold Wd at *; omega
  generalize (t4 + g3) / 18446744073709551616 = d at *
  generalize (t4 + g3) % 18446744073709551616 = q4 at *
  refine ⟨b2.1, b2.2, ?_⟩
  unfold v5
  clear b2 h0 h1 h2 h3 h4 hx hy0 hy w0 w1 w2 w3 k5 k6 l5 l6 n5 n6 r5 r6
  omega

end Go.Proofs.Ytnndhmnabbkamaa
