/-
  What the word and number functions of the program come to: sums, differences, products of words, comparisons and sums of numbers of 256 bits.
  Conditions: those that each theorem names.
-/
import Derived.Test.YtnndhmnabbkamaaW1
import Derived.Laws.Externs
import Derived.Shelf.Spec.BitsCarry
namespace Go.Proofs.Ytnndhmnabbkamaa
open Go Go.Ev Go.Proofs
set_option maxRecDepth 100000

theorem wrap_u64 (x : Int) : IntKind.u64.wrap x = x % 18446744073709551616 := by simp [IntKind.wrap, IntKind.signed, IntKind.bits]
theorem wrap_u8 (x : Int) : IntKind.u8.wrap x = x % 256 := by simp [IntKind.wrap, IntKind.signed, IntKind.bits]
theorem wrap_i64 (x : Int) (h0 : -9223372036854775808 ≤ x) (h1 : x < 9223372036854775808) : IntKind.i64.wrap x = x := by
  simp only [IntKind.wrap, IntKind.signed, IntKind.bits]
  simp
  split <;> omega

/-- A call that the model answers at once. -/
theorem _root_.Go.Ev.CallOk.extern {P : Program} {f : FuncId} {args : List AT} {r : AV} 
    (h : ∀ (ψ : PM) (w : World), (callFunc f (args.map (AT.c ψ)).toArray).run P w = .ok (.value (r.c ψ)) w) : CallOk P f args [] r [] [] := by
  intro ψ w hh _
  unfold CallDoes
  rw [h ψ w]
  exact ⟨ψ, .inr rfl, hh, Post.refl ψ w []⟩

theorem add64 (x y c : Int) (hx : 0 ≤ x) (hy : 0 ≤ y) (h0 : 0 ≤ c) (h1 : c ≤ 1) (w : World) :
    (callFunc 113 #[.int .u64 x, .int .u64 y, .int .u64 c]).run Try.prog w = .ok (.value (.tuple #[.int .u64 ((x + y + c) % 18446744073709551616), .int .u64 ((x + y + c) / 18446744073709551616)])) w := by
  obtain ⟨x, rfl⟩ := Int.eq_ofNat_of_zero_le hx
  obtain ⟨y, rfl⟩ := Int.eq_ofNat_of_zero_le hy
  obtain ⟨c, rfl⟩ := Int.eq_ofNat_of_zero_le h0
  rw [run_callFunc_extern Try.func113 (by kernel_rfl) (by kernel_rfl) (by kernel_rfl) (e := add64Entry) (by kernel_rfl), run_add64 x y c (by omega) (by omega) (by omega) (by omega)]
  simp only [Result.andThen]

theorem sub64 (x y b : Int) (hx : Wd x) (hy : Wd y) (h0 : 0 ≤ b) (h1 : b ≤ 1) (w : World) :
    (callFunc 114 #[.int .u64 x, .int .u64 y, .int .u64 b]).run Try.prog w = .ok (.value (.tuple #[.int .u64 ((x - y - b) % 18446744073709551616), .int .u64 (if x < y + b then 1 else 0)])) w := by
  obtain ⟨x, rfl⟩ := Int.eq_ofNat_of_zero_le hx.1
  obtain ⟨y, rfl⟩ := Int.eq_ofNat_of_zero_le hy.1
  obtain ⟨b, rfl⟩ := Int.eq_ofNat_of_zero_le h0
  rw [run_callFunc_extern Try.func114 (by kernel_rfl) (by kernel_rfl) (by kernel_rfl) (e := sub64Entry) (by kernel_rfl), run_sub64 x y b (by unfold Wd at *; omega)]
  simp only [Result.andThen]
  have e1 : (((x + 18446744073709551616 - y - b) % 18446744073709551616 : Nat) : Int) = ((x : Int) - y - b) % 18446744073709551616 := by unfold Wd at *; omega
  have e2 : ((if x < y + b then 1 else 0 : Nat) : Int) = if (x : Int) < y + b then 1 else 0 := by split <;> split <;> omega
  rw [e1, e2]

theorem add64_ok (x y c : Int) (hx : Wd x) (hy : Wd y) (h0 : 0 ≤ c) (h1 : c ≤ 1) :
    CallOk Try.prog 113 [.one (.int .u64 x), .one (.int .u64 y), .one (.int .u64 c)] [] (.tup [.one (.int .u64 ((x + y + c) % 18446744073709551616)), .one (.int .u64 ((x + y + c) / 18446744073709551616))]) [] [] :=
  .extern fun _ w => add64 x y c hx.1 hy.1 h0 h1 w
theorem sub64_ok (x y c : Int) (hx : Wd x) (hy : Wd y) (h0 : 0 ≤ c) (h1 : c ≤ 1) :
    CallOk Try.prog 114 [.one (.int .u64 x), .one (.int .u64 y), .one (.int .u64 c)] [] (.tup [.one (.int .u64 ((x - y - c) % 18446744073709551616)), .one (.int .u64 (if x < y + c then 1 else 0))]) [] [] :=
  .extern fun _ w => sub64 x y c hx hy h0 h1 w

/-- The same arguments, told another way: known numbers for unknown ones. -/
theorem _root_.Go.Ev.CallOk.as {P : Program} {f : FuncId} {args args' : List AT} {h : Heap} {r r' : AV} {upd : List (Nat × Blk)} {news : List Nat} (hf : CallOk P f args h r upd news) (e : ∀ ψ, args.map (AT.c ψ) = args'.map (AT.c ψ))
    (hr : r ≠ .undef) (er : ∀ ψ, r.c ψ = r'.c ψ) : CallOk P f args' h r' upd news := (hf.args e).res hr er

/-! ### cmp.Compare on words -/

theorem nan_ok (a : Int) : CallOk Try.prog 128 [.one (.int .u64 a)] [] (.one (.blit false)) [] [] :=
  ((p128 a).call nw1_128 rfl).res (by simp) (fun ψ => by simp [AV.c, AT.c, A0.c])

theorem yes_ne {a b : Int} (h : a ≠ b) : (a != b) = true := by simpa using h
theorem no_ne {a b : Int} (h : ¬ a ≠ b) : (a != b) = false := by simpa using h

theorem cmp64_ok (a b : Int) : CallOk Try.prog 123 [.one (.int .u64 a), .one (.int .u64 b)] [] (.one (.int .i64 (cmpI a b))) [] [] := by
  unfold cmpI
  by_cases h1 : a < b
  · refine ((p123_lt a b ⟨nan_ok a, nan_ok b, decide_eq_true h1⟩).call nw1_123 rfl).res (by simp) fun ψ => ?_
    simp [AV.c, AT.c, A0.c, h1]
  · by_cases h2 : a = b
    · refine ((p123_eq a b ⟨nan_ok a, nan_ok b, decide_eq_false h1, decide_eq_false (by omega)⟩).call nw1_123 rfl).res (by simp) fun ψ => ?_
      simp [AV.c, AT.c, A0.c, h2]
    · refine ((p123_gt a b ⟨nan_ok a, nan_ok b, decide_eq_false h1, decide_eq_true (by omega)⟩).call nw1_123 rfl).res (by simp) fun ψ => ?_
      simp [AV.c, AT.c, A0.c, h1, h2]

/-! ### wide.Cmp, wide.Add, wide.Sub -/

theorem cmp_v4 {a0 a1 a2 a3 b0 b1 b2 b3 : Int} (h0 : Wd a0) (h1 : Wd a1) (h2 : Wd a2) (g0 : Wd b0) (g1 : Wd b1) (g2 : Wd b2) :
    cmpI (v4 a0 a1 a2 a3) (v4 b0 b1 b2 b3) = if a3 ≠ b3 then cmpI a3 b3 else if a2 ≠ b2 then cmpI a2 b2 else if a1 ≠ b1 then cmpI a1 b1 else cmpI a0 b0 := by
  unfold cmpI v4 Wd at *
  repeat' split
  all_goals omega

theorem Cmp_ok (a b : Int) (ha0 : 0 ≤ a) (ha : a < R) (hb0 : 0 ≤ b) (hb : b < R) : CallOk Try.prog 100 [nv a, nv b] [] (.one (.int .i64 (cmpI a b))) [] [] := by
  obtain ⟨a0, a1, a2, a3, h0, h1, h2, h3, ea, e1⟩ := words a ha0 ha
  obtain ⟨b0, b1, b2, b3, g0, g1, g2, g3, eb, e2⟩ := words b hb0 hb
  rw [e1, e2, ea, eb, cmp_v4 h0 h1 h2 g0 g1 g2]
  split
  · rename_i h; exact (p100_3 a0 a1 a2 a3 b0 b1 b2 b3 _ ⟨yes_ne h, cmp64_ok _ _⟩).call nw1_100 rfl
  · rename_i h
    split
    · rename_i k; exact (p100_2 a0 a1 a2 a3 b0 b1 b2 b3 _ ⟨no_ne h, yes_ne k, cmp64_ok _ _⟩).call nw1_100 rfl
    · rename_i k
      split
      · rename_i m; exact (p100_1 a0 a1 a2 a3 b0 b1 b2 b3 _ ⟨no_ne h, no_ne k, yes_ne m, cmp64_ok _ _⟩).call nw1_100 rfl
      · rename_i m; exact (p100_0 a0 a1 a2 a3 b0 b1 b2 b3 _ ⟨no_ne h, no_ne k, no_ne m, cmp64_ok _ _⟩).call nw1_100 rfl

theorem lit_add64 (x y : Int) (hx : Wd x) (hy : Wd y) : CallOk Try.prog 113 [.one (.int .u64 x), .one (.int .u64 y), .one (.lit .u64 0)] [] (.tup [.one (.int .u64 ((x + y) % 18446744073709551616)), .one (.int .u64 ((x + y) / 18446744073709551616))]) [] [] := by
  have := add64_ok x y 0 hx hy (by omega) (by omega)
  rw [Int.add_zero] at this
  exact this.args fun ψ => rfl
theorem lit_sub64 (x y : Int) (hx : Wd x) (hy : Wd y) : CallOk Try.prog 114 [.one (.int .u64 x), .one (.int .u64 y), .one (.lit .u64 0)] [] (.tup [.one (.int .u64 ((x - y) % 18446744073709551616)), .one (.int .u64 (if x < y then 1 else 0))]) [] [] := by
  have := sub64_ok x y 0 hx hy (by omega) (by omega)
  rw [Int.add_zero, Int.sub_zero] at this
  exact this.args fun ψ => rfl

def bor (x y : Int) : Int := if x < y then 1 else 0
theorem bor_01 (x y : Int) : 0 ≤ bor x y ∧ bor x y ≤ 1 := by unfold bor; split <;> omega


/-- Quotient and rest, told. -/
theorem qr {x s c : Int} (h0 : 0 ≤ s) (h1 : s < R) (h : x = s + R * c) : x % R = s ∧ x / R = c := by
  unfold R at *; omega

theorem sum4 {a0 a1 a2 a3 b0 b1 b2 b3 s0 s1 s2 s3 c0 c1 c2 c3 : Int} (e0 : a0 + b0 = s0 + 18446744073709551616 * c0) (e1 : a1 + b1 + c0 = s1 + 18446744073709551616 * c1)
    (e2 : a2 + b2 + c1 = s2 + 18446744073709551616 * c2) (e3 : a3 + b3 + c2 = s3 + 18446744073709551616 * c3) : v4 a0 a1 a2 a3 + v4 b0 b1 b2 b3 = v4 s0 s1 s2 s3 + R * c3 := by
  unfold v4 R; omega
theorem dif4 {a0 a1 a2 a3 b0 b1 b2 b3 s0 s1 s2 s3 c0 c1 c2 c3 : Int} (e0 : a0 - b0 = s0 - 18446744073709551616 * c0) (e1 : a1 - b1 - c0 = s1 - 18446744073709551616 * c1)
    (e2 : a2 - b2 - c1 = s2 - 18446744073709551616 * c2) (e3 : a3 - b3 - c2 = s3 - 18446744073709551616 * c3) : v4 a0 a1 a2 a3 - v4 b0 b1 b2 b3 = v4 s0 s1 s2 s3 - R * c3 := by
  unfold v4 R; omega

theorem wd_mod (x : Int) : Wd (x % 18446744073709551616) := by unfold Wd; omega
/-- One step of a sum with carry. -/
theorem car {x y c : Int} (hx : Wd x) (hy : Wd y) (h0 : 0 ≤ c) (h1 : c ≤ 1) : ∃ s d, Wd s ∧ 0 ≤ d ∧ d ≤ 1 ∧ (x + y + c) % 18446744073709551616 = s ∧ (x + y + c) / 18446744073709551616 = d ∧ x + y + c = s + 18446744073709551616 * d :=
  ⟨_, _, wd_mod (x + y + c), by unfold Wd at *; omega, by unfold Wd at *; omega, rfl, rfl, by omega⟩
theorem bow {x y c : Int} (hx : Wd x) (hy : Wd y) (h0 : 0 ≤ c) (h1 : c ≤ 1) : ∃ s d, Wd s ∧ 0 ≤ d ∧ d ≤ 1 ∧ (x - y - c) % 18446744073709551616 = s ∧ (if x < y + c then 1 else 0) = d ∧ x - y - c = s - 18446744073709551616 * d := by
  refine ⟨_, _, wd_mod (x - y - c), ?_, ?_, rfl, rfl, ?_⟩ <;> unfold Wd at * <;> split <;> omega

theorem Add_ok (a b : Int) (ha0 : 0 ≤ a) (ha : a < R) (hb0 : 0 ≤ b) (hb : b < R) : CallOk Try.prog 84 [nv a, nv b] [] (.tup [nv ((a + b) % R), .one (.int .i64 ((a + b) / R))]) [] [] := by
  obtain ⟨a0, a1, a2, a3, h0, h1, h2, h3, ea, e1⟩ := words a ha0 ha
  obtain ⟨b0, b1, b2, b3, g0, g1, g2, g3, eb, e2⟩ := words b hb0 hb
  rw [e1, e2, ea, eb]
  obtain ⟨s0, c0, w0, z0, o0, m0, d0, t0⟩ := car h0 g0 (Int.le_refl 0) (by omega)
  obtain ⟨s1, c1, w1, z1, o1, m1, d1, t1⟩ := car h1 g1 z0 o0
  obtain ⟨s2, c2, w2, z2, o2, m2, d2, t2⟩ := car h2 g2 z1 o1
  obtain ⟨s3, c3, w3, z3, o3, m3, d3, t3⟩ := car h3 g3 z2 o2
  have r0 := lit_add64 a0 b0 h0 g0
  have r1 := add64_ok a1 b1 c0 h1 g1 z0 o0
  have r2 := add64_ok a2 b2 c1 h2 g2 z1 o1
  have r3 := add64_ok a3 b3 c2 h3 g3 z2 o2
  rw [Int.add_zero] at m0 d0 t0
  rw [m0, d0] at r0
  rw [m1, d1] at r1
  rw [m2, d2] at r2
  rw [m3, d3] at r3
  have hv := v4_lt w0 w1 w2 w3
  obtain ⟨e3, e4⟩ := qr hv.1 hv.2 (sum4 t0 t1 t2 t3)
  rw [e3, e4, nv_v4 w0 w1 w2 w3]
  have := (p84 a0 a1 a2 a3 b0 b1 b2 b3 _ _ _ _ _ _ _ _ ⟨r0, r1, r2, r3⟩).call nw1_84 rfl
  rw [wrap_i64 c3 (by omega) (by omega)] at this
  exact this

theorem Sub_ok (a b : Int) (ha0 : 0 ≤ a) (ha : a < R) (hb0 : 0 ≤ b) (hb : b < R) : CallOk Try.prog 85 [nv a, nv b] [] (.tup [nv ((a - b) % R), .one (.int .i64 (if a < b then 1 else 0))]) [] [] := by
  obtain ⟨a0, a1, a2, a3, h0, h1, h2, h3, ea, e1⟩ := words a ha0 ha
  obtain ⟨b0, b1, b2, b3, g0, g1, g2, g3, eb, e2⟩ := words b hb0 hb
  rw [e1, e2, ea, eb]
  obtain ⟨s0, c0, w0, z0, o0, m0, d0, t0⟩ := bow h0 g0 (Int.le_refl 0) (by omega)
  obtain ⟨s1, c1, w1, z1, o1, m1, d1, t1⟩ := bow h1 g1 z0 o0
  obtain ⟨s2, c2, w2, z2, o2, m2, d2, t2⟩ := bow h2 g2 z1 o1
  obtain ⟨s3, c3, w3, z3, o3, m3, d3, t3⟩ := bow h3 g3 z2 o2
  have r0 := lit_sub64 a0 b0 h0 g0
  have r1 := sub64_ok a1 b1 c0 h1 g1 z0 o0
  have r2 := sub64_ok a2 b2 c1 h2 g2 z1 o1
  have r3 := sub64_ok a3 b3 c2 h3 g3 z2 o2
  rw [Int.sub_zero] at m0 t0
  rw [Int.add_zero] at d0
  rw [m0, d0] at r0
  rw [m1, d1] at r1
  rw [m2, d2] at r2
  rw [m3, d3] at r3
  have hv := v4_lt w0 w1 w2 w3
  have e := dif4 t0 t1 t2 t3
  obtain ⟨e3, -⟩ := qr (x := v4 a0 a1 a2 a3 - v4 b0 b1 b2 b3) (c := - c3) hv.1 hv.2 (by rw [e, Int.mul_neg]; omega)
  have e4 : (if v4 a0 a1 a2 a3 < v4 b0 b1 b2 b3 then (1 : Int) else 0) = c3 := by
    have k : c3 = 0 ∨ c3 = 1 := by omega
    clear m0 m1 m2 m3 d0 d1 d2 d3 t0 t1 t2 t3 e3
    generalize v4 a0 a1 a2 a3 = x at *
    generalize v4 b0 b1 b2 b3 = y at *
    generalize v4 s0 s1 s2 s3 = z at *
    rcases k with rfl | rfl <;> unfold R at * <;> split <;> omega
  rw [e3, e4, nv_v4 w0 w1 w2 w3]
  have := (p85 a0 a1 a2 a3 b0 b1 b2 b3 _ _ _ _ _ _ _ _ ⟨r0, r1, r2, r3⟩).call nw1_85 rfl
  rw [wrap_i64 c3 (by omega) (by omega)] at this
  exact this

end Go.Proofs.Ytnndhmnabbkamaa
