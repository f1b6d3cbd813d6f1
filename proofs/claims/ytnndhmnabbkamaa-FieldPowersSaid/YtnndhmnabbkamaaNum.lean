/-
  Numbers of four words of 64 bits, as the evaluator tells them; plain arithmetic.
  Conditions: none; nothing here names a program.
-/
import Derived.Test.YtnndhmnabbkamaaEv14
namespace Go.Ev
open Go

def l0 (n : Int) : Int := n % 18446744073709551616
def l1 (n : Int) : Int := n / 18446744073709551616 % 18446744073709551616
def l2 (n : Int) : Int := n / 18446744073709551616 / 18446744073709551616 % 18446744073709551616
def l3 (n : Int) : Int := n / 18446744073709551616 / 18446744073709551616 / 18446744073709551616 % 18446744073709551616
def l4 (n : Int) : Int := n / 18446744073709551616 / 18446744073709551616 / 18446744073709551616 / 18446744073709551616 % 18446744073709551616

/-- 2^256. -/
def R : Int := 115792089237316195423570985008687907853269984665640564039457584007913129639936

/-- Four words. -/
abbrev w4 (a b c d : Int) : AT := .agg (.vals [.int .u64 a, .int .u64 b, .int .u64 c, .int .u64 d])
/-- A number's words. -/
abbrev nv (n : Int) : AT := w4 (l0 n) (l1 n) (l2 n) (l3 n)

/-- The cells of a prime: the number, what makes its lowest word vanish, the square. -/
abbrev pcell (m v s : Int) : Cells := .vals [.int .u64 (l0 m), .int .u64 (l1 m), .int .u64 (l2 m), .int .u64 (l3 m), .int .u64 v, .int .u64 (l0 s), .int .u64 (l1 s), .int .u64 (l2 s), .int .u64 (l3 s)]
abbrev pview (m v s : Int) : Blk := { kind := .view, e := 90, c := pcell m v s }
abbrev pown (m v s : Int) : Blk := { kind := .own, e := 90, c := pcell m v s }
/-- Six words. -/
abbrev c6 (a b c d e f : Int) : Cells := .vals [.int .u64 a, .int .u64 b, .int .u64 c, .int .u64 d, .int .u64 e, .int .u64 f]

/-- A word. -/
def Wd (x : Int) : Prop := 0 ≤ x ∧ x < 18446744073709551616

def v4 (a b c d : Int) : Int := a + 18446744073709551616 * (b + 18446744073709551616 * (c + 18446744073709551616 * d))
def v5 (a b c d e : Int) : Int := a + 18446744073709551616 * (b + 18446744073709551616 * (c + 18446744073709551616 * (d + 18446744073709551616 * e)))

theorem wd_l0 (n : Int) : Wd (l0 n) := by unfold Wd l0; omega
theorem wd_l1 (n : Int) : Wd (l1 n) := by unfold Wd l1; omega
theorem wd_l2 (n : Int) : Wd (l2 n) := by unfold Wd l2; omega
theorem wd_l3 (n : Int) : Wd (l3 n) := by unfold Wd l3; omega
theorem wd_l4 (n : Int) : Wd (l4 n) := by unfold Wd l4; omega

theorem v4_l (n : Int) (h0 : 0 ≤ n) (h : n < R) : v4 (l0 n) (l1 n) (l2 n) (l3 n) = n := by unfold v4 l0 l1 l2 l3 R at *; omega

theorem v4_lt {a b c d : Int} (ha : Wd a) (hb : Wd b) (hc : Wd c) (hd : Wd d) : 0 ≤ v4 a b c d ∧ v4 a b c d < R := by unfold v4 Wd R at *; omega

theorem l_v4 {a b c d : Int} (ha : Wd a) (hb : Wd b) (hc : Wd c) (hd : Wd d) : l0 (v4 a b c d) = a ∧ l1 (v4 a b c d) = b ∧ l2 (v4 a b c d) = c ∧ l3 (v4 a b c d) = d := by
  unfold v4 Wd l0 l1 l2 l3 at *
  refine ⟨?_, ?_, ?_, ?_⟩ <;> omega

theorem nv_v4 {a b c d : Int} (ha : Wd a) (hb : Wd b) (hc : Wd c) (hd : Wd d) : nv (v4 a b c d) = w4 a b c d := by
  obtain ⟨h1, h2, h3, h4⟩ := l_v4 ha hb hc hd
  simp only [nv, h1, h2, h3, h4]

/-- A number is its words: what is shown of words is shown of numbers. -/
theorem words (n : Int) (h0 : 0 ≤ n) (h : n < R) : ∃ a b c d, Wd a ∧ Wd b ∧ Wd c ∧ Wd d ∧ n = v4 a b c d ∧ nv n = w4 a b c d :=
  ⟨l0 n, l1 n, l2 n, l3 n, wd_l0 n, wd_l1 n, wd_l2 n, wd_l3 n, (v4_l n h0 h).symm, rfl⟩

/-- Which is greater. -/
def cmpI (a b : Int) : Int := if a < b then -1 else if a = b then 0 else 1

end Go.Ev
