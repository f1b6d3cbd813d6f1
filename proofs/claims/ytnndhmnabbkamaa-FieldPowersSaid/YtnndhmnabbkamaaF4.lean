/-
  The reference's numbers: which is less, sums, differences, rests.
  Conditions: those that each theorem names.
-/
import Derived.Test.YtnndhmnabbkamaaF3
import Derived.Test.YtnndhmnabbkamaaW3
namespace Go.Proofs.Ytnndhmnabbkamaa
open Go Go.Ev Go.Proofs
set_option maxRecDepth 100000

theorem res_nil {f : FuncId} {fn : Func} {args : List AT} {r r' : AV} {h' : Heap} (hf : Named Try.prog f fn) (h : FnOk Try.prog f args [] r h') (e : ∀ ψ, r.c ψ = r'.c ψ) (hr : r'.plain = true) : CallOk Try.prog f args [] r' [] [] :=
  (FnOk.res h e).call hf hr

/-! ### Less -/

theorem less_v4 {a0 a1 a2 a3 b0 b1 b2 b3 : Int} (h0 : Wd a0) (h1 : Wd a1) (h2 : Wd a2) (g0 : Wd b0) (g1 : Wd b1) (g2 : Wd b2) :
    decide (v4 a0 a1 a2 a3 < v4 b0 b1 b2 b3) = if a3 ≠ b3 then decide (a3 < b3) else if a2 ≠ b2 then decide (a2 < b2) else if a1 ≠ b1 then decide (a1 < b1) else if a0 ≠ b0 then decide (a0 < b0) else false := by
  unfold v4 Wd at *
  repeat' split
  all_goals first | (apply decide_eq_decide.2; omega) | (apply decide_eq_false; omega)

theorem RLess_ok (a b : Int) (ha0 : 0 ≤ a) (ha : a < R) (hb0 : 0 ≤ b) (hb : b < R) : CallOk Try.prog 24 [nv a, nv b] [] (.one (.blit (decide (a < b)))) [] [] := by
  obtain ⟨a0, a1, a2, a3, h0, h1, h2, h3, ea, e1⟩ := words a ha0 ha
  obtain ⟨b0, b1, b2, b3, g0, g1, g2, g3, eb, e2⟩ := words b hb0 hb
  rw [e1, e2, ea, eb, less_v4 h0 h1 h2 g0 g1 g2]
  split
  · rename_i h; exact ((p24_3 a0 a1 a2 a3 b0 b1 b2 b3 (yes_ne h)).call nw3_24 rfl).res (by simp) fun ψ => rfl
  · rename_i h
    split
    · rename_i k; exact ((p24_2 a0 a1 a2 a3 b0 b1 b2 b3 ⟨no_ne h, yes_ne k⟩).call nw3_24 rfl).res (by simp) fun ψ => rfl
    · rename_i k
      split
      · rename_i m; exact ((p24_1 a0 a1 a2 a3 b0 b1 b2 b3 ⟨no_ne h, no_ne k, yes_ne m⟩).call nw3_24 rfl).res (by simp) fun ψ => rfl
      · rename_i m
        split
        · rename_i n; exact ((p24_0 a0 a1 a2 a3 b0 b1 b2 b3 ⟨no_ne h, no_ne k, no_ne m, yes_ne n⟩).call nw3_24 rfl).res (by simp) fun ψ => rfl
        · rename_i n; exact ((p24_e a0 a1 a2 a3 b0 b1 b2 b3 ⟨no_ne h, no_ne k, no_ne m, no_ne n⟩).call nw3_24 rfl).res (by simp) fun ψ => rfl

/-! ### Sums and differences, a word at a time -/

theorem dig_add {a b c : Int} (ha : Wd a) (hb : Wd b) (h0 : 0 ≤ c) (h1 : c ≤ 1) :
    ((a + b) % 18446744073709551616 < a → a + b + c = ((a + b) % 18446744073709551616 + c) % 18446744073709551616 + 18446744073709551616 * 1) ∧
    (¬ (a + b) % 18446744073709551616 < a → ((a + b) % 18446744073709551616 + c) % 18446744073709551616 < (a + b) % 18446744073709551616 → a + b + c = ((a + b) % 18446744073709551616 + c) % 18446744073709551616 + 18446744073709551616 * 1) ∧
    (¬ (a + b) % 18446744073709551616 < a → ¬ ((a + b) % 18446744073709551616 + c) % 18446744073709551616 < (a + b) % 18446744073709551616 → a + b + c = ((a + b) % 18446744073709551616 + c) % 18446744073709551616 + 18446744073709551616 * 0) := by
  unfold Wd at *
  refine ⟨?_, ?_, ?_⟩ <;> intros <;> omega
theorem dig_sub {a b c : Int} (ha : Wd a) (hb : Wd b) (h0 : 0 ≤ c) (h1 : c ≤ 1) :
    (a < b → a - b - c = ((a - b) % 18446744073709551616 - c) % 18446744073709551616 - 18446744073709551616 * 1) ∧
    (¬ a < b → (a - b) % 18446744073709551616 < c → a - b - c = ((a - b) % 18446744073709551616 - c) % 18446744073709551616 - 18446744073709551616 * 1) ∧
    (¬ a < b → ¬ (a - b) % 18446744073709551616 < c → a - b - c = ((a - b) % 18446744073709551616 - c) % 18446744073709551616 - 18446744073709551616 * 0) := by
  unfold Wd at *
  refine ⟨?_, ?_, ?_⟩ <;> intros <;> omega

abbrev own4 (a b c d : A0) : Blk := { kind := .own, e := 24, c := .vals [a, b, c, d] }

abbrev st83 (a0 a1 a2 a3 b0 b1 b2 b3 c i : Int) (o : Blk) : St := (mkT 43 [(2, .one (.ptr true 2 0)), (3, .one (.ptr true 3 0)), (4, .one (.ptr true 4 0)), (6, .one (.lit .u64 c)), (7, .one (.ptr true 7 0)), (8, .one (.lit .i64 i))],
  [(2, own4 (.int .u64 a0) (.int .u64 a1) (.int .u64 a2) (.int .u64 a3)), (3, own4 (.int .u64 b0) (.int .u64 b1) (.int .u64 b2) (.int .u64 b3)), (4, own4 (.lit .u64 0) (.lit .u64 0) (.lit .u64 0) (.lit .u64 0)), (7, o)])

theorem sum_r0 (a0 a1 a2 a3 b0 b1 b2 b3 c : Int) (ha : Wd a0) (hb : Wd b0) (h0 : 0 ≤ c) (h1 : c ≤ 1) : ∃ o d : Int, Wd o ∧ 0 ≤ d ∧ d ≤ 1 ∧ a0 + b0 + c = o + 18446744073709551616 * d ∧
    Runs Try.prog (codeAt Try.f83 [1, 1, 1, 0, 1, 0, 0]) (st83 a0 a1 a2 a3 b0 b1 b2 b3 c 0 (own4 (.lit .u64 0) (.lit .u64 0) (.lit .u64 0) (.lit .u64 0))) .normal (st83 a0 a1 a2 a3 b0 b1 b2 b3 d 1 (own4 (.int .u64 o) (.lit .u64 0) (.lit .u64 0) (.lit .u64 0))) := by
  have hd := dig_add ha hb h0 h1
  rw [← wrap_u64, ← wrap_u64] at hd
  have hw : Wd (IntKind.u64.wrap (IntKind.u64.wrap (a0 + b0) + c)) := by rw [wrap_u64]; exact wd_mod _
  by_cases k1 : IntKind.u64.wrap (a0 + b0) < a0
  · exact ⟨_, 1, hw, by omega, by omega, hd.1 k1, r83_0y a0 a1 a2 a3 b0 b1 b2 b3 c (decide_eq_true k1)⟩
  · by_cases k2 : IntKind.u64.wrap (IntKind.u64.wrap (a0 + b0) + c) < IntKind.u64.wrap (a0 + b0)
    · exact ⟨_, 1, hw, by omega, by omega, hd.2.1 k1 k2, r83_0ny a0 a1 a2 a3 b0 b1 b2 b3 c ⟨decide_eq_false k1, decide_eq_true k2⟩⟩
    · exact ⟨_, 0, hw, by omega, by omega, hd.2.2 k1 k2, r83_0nn a0 a1 a2 a3 b0 b1 b2 b3 c ⟨decide_eq_false k1, decide_eq_false k2⟩⟩

theorem sum_r1 (a0 a1 a2 a3 b0 b1 b2 b3 o0 c : Int) (ha : Wd a1) (hb : Wd b1) (h0 : 0 ≤ c) (h1 : c ≤ 1) : ∃ o d : Int, Wd o ∧ 0 ≤ d ∧ d ≤ 1 ∧ a1 + b1 + c = o + 18446744073709551616 * d ∧
    Runs Try.prog (codeAt Try.f83 [1, 1, 1, 0, 1, 0, 0]) (st83 a0 a1 a2 a3 b0 b1 b2 b3 c 1 (own4 (.int .u64 o0) (.lit .u64 0) (.lit .u64 0) (.lit .u64 0))) .normal (st83 a0 a1 a2 a3 b0 b1 b2 b3 d 2 (own4 (.int .u64 o0) (.int .u64 o) (.lit .u64 0) (.lit .u64 0))) := by
  have hd := dig_add ha hb h0 h1
  rw [← wrap_u64, ← wrap_u64] at hd
  have hw : Wd (IntKind.u64.wrap (IntKind.u64.wrap (a1 + b1) + c)) := by rw [wrap_u64]; exact wd_mod _
  by_cases k1 : IntKind.u64.wrap (a1 + b1) < a1
  · exact ⟨_, 1, hw, by omega, by omega, hd.1 k1, r83_1y a0 a1 a2 a3 b0 b1 b2 b3 o0 c (decide_eq_true k1)⟩
  · by_cases k2 : IntKind.u64.wrap (IntKind.u64.wrap (a1 + b1) + c) < IntKind.u64.wrap (a1 + b1)
    · exact ⟨_, 1, hw, by omega, by omega, hd.2.1 k1 k2, r83_1ny a0 a1 a2 a3 b0 b1 b2 b3 o0 c ⟨decide_eq_false k1, decide_eq_true k2⟩⟩
    · exact ⟨_, 0, hw, by omega, by omega, hd.2.2 k1 k2, r83_1nn a0 a1 a2 a3 b0 b1 b2 b3 o0 c ⟨decide_eq_false k1, decide_eq_false k2⟩⟩

theorem sum_r2 (a0 a1 a2 a3 b0 b1 b2 b3 o0 o1 c : Int) (ha : Wd a2) (hb : Wd b2) (h0 : 0 ≤ c) (h1 : c ≤ 1) : ∃ o d : Int, Wd o ∧ 0 ≤ d ∧ d ≤ 1 ∧ a2 + b2 + c = o + 18446744073709551616 * d ∧
    Runs Try.prog (codeAt Try.f83 [1, 1, 1, 0, 1, 0, 0]) (st83 a0 a1 a2 a3 b0 b1 b2 b3 c 2 (own4 (.int .u64 o0) (.int .u64 o1) (.lit .u64 0) (.lit .u64 0))) .normal (st83 a0 a1 a2 a3 b0 b1 b2 b3 d 3 (own4 (.int .u64 o0) (.int .u64 o1) (.int .u64 o) (.lit .u64 0))) := by
  have hd := dig_add ha hb h0 h1
  rw [← wrap_u64, ← wrap_u64] at hd
  have hw : Wd (IntKind.u64.wrap (IntKind.u64.wrap (a2 + b2) + c)) := by rw [wrap_u64]; exact wd_mod _
  by_cases k1 : IntKind.u64.wrap (a2 + b2) < a2
  · exact ⟨_, 1, hw, by omega, by omega, hd.1 k1, r83_2y a0 a1 a2 a3 b0 b1 b2 b3 o0 o1 c (decide_eq_true k1)⟩
  · by_cases k2 : IntKind.u64.wrap (IntKind.u64.wrap (a2 + b2) + c) < IntKind.u64.wrap (a2 + b2)
    · exact ⟨_, 1, hw, by omega, by omega, hd.2.1 k1 k2, r83_2ny a0 a1 a2 a3 b0 b1 b2 b3 o0 o1 c ⟨decide_eq_false k1, decide_eq_true k2⟩⟩
    · exact ⟨_, 0, hw, by omega, by omega, hd.2.2 k1 k2, r83_2nn a0 a1 a2 a3 b0 b1 b2 b3 o0 o1 c ⟨decide_eq_false k1, decide_eq_false k2⟩⟩

theorem sum_r3 (a0 a1 a2 a3 b0 b1 b2 b3 o0 o1 o2 c : Int) (ha : Wd a3) (hb : Wd b3) (h0 : 0 ≤ c) (h1 : c ≤ 1) : ∃ o d : Int, Wd o ∧ 0 ≤ d ∧ d ≤ 1 ∧ a3 + b3 + c = o + 18446744073709551616 * d ∧
    Runs Try.prog (codeAt Try.f83 [1, 1, 1, 0, 1, 0, 0]) (st83 a0 a1 a2 a3 b0 b1 b2 b3 c 3 (own4 (.int .u64 o0) (.int .u64 o1) (.int .u64 o2) (.lit .u64 0))) .normal (st83 a0 a1 a2 a3 b0 b1 b2 b3 d 4 (own4 (.int .u64 o0) (.int .u64 o1) (.int .u64 o2) (.int .u64 o))) := by
  have hd := dig_add ha hb h0 h1
  rw [← wrap_u64, ← wrap_u64] at hd
  have hw : Wd (IntKind.u64.wrap (IntKind.u64.wrap (a3 + b3) + c)) := by rw [wrap_u64]; exact wd_mod _
  by_cases k1 : IntKind.u64.wrap (a3 + b3) < a3
  · exact ⟨_, 1, hw, by omega, by omega, hd.1 k1, r83_3y a0 a1 a2 a3 b0 b1 b2 b3 o0 o1 o2 c (decide_eq_true k1)⟩
  · by_cases k2 : IntKind.u64.wrap (IntKind.u64.wrap (a3 + b3) + c) < IntKind.u64.wrap (a3 + b3)
    · exact ⟨_, 1, hw, by omega, by omega, hd.2.1 k1 k2, r83_3ny a0 a1 a2 a3 b0 b1 b2 b3 o0 o1 o2 c ⟨decide_eq_false k1, decide_eq_true k2⟩⟩
    · exact ⟨_, 0, hw, by omega, by omega, hd.2.2 k1 k2, r83_3nn a0 a1 a2 a3 b0 b1 b2 b3 o0 o1 o2 c ⟨decide_eq_false k1, decide_eq_false k2⟩⟩

theorem sum_fn (a0 a1 a2 a3 b0 b1 b2 b3 : Int) (ha0 : Wd a0) (ha1 : Wd a1) (ha2 : Wd a2) (ha3 : Wd a3) (hb0 : Wd b0) (hb1 : Wd b1) (hb2 : Wd b2) (hb3 : Wd b3) : ∃ o0 o1 o2 o3 c : Int, Wd o0 ∧ Wd o1 ∧ Wd o2 ∧ Wd o3 ∧ 0 ≤ c ∧ c ≤ 1 ∧
    v4 a0 a1 a2 a3 + v4 b0 b1 b2 b3 = v4 o0 o1 o2 o3 + R * c ∧ FnOk Try.prog 83 [w4 a0 a1 a2 a3, w4 b0 b1 b2 b3] [] (.tup [w4 o0 o1 o2 o3, .one (.blit (c == 1))]) [] := by
  have z0 : (0 : Int) ≤ 0 := Int.le_refl 0
  have z1 : (0 : Int) ≤ 1 := by omega
  obtain ⟨o0, c0, w0, l0, m0, e0, r0⟩ := sum_r0 a0 a1 a2 a3 b0 b1 b2 b3 0 ha0 hb0 z0 z1
  obtain ⟨o1, c1, w1, l1, m1, e1, r1⟩ := sum_r1 a0 a1 a2 a3 b0 b1 b2 b3 o0 c0 ha1 hb1 l0 m0
  obtain ⟨o2, c2, w2, l2, m2, e2, r2⟩ := sum_r2 a0 a1 a2 a3 b0 b1 b2 b3 o0 o1 c1 ha2 hb2 l1 m1
  obtain ⟨o3, c3, w3, l3, m3, e3, r3⟩ := sum_r3 a0 a1 a2 a3 b0 b1 b2 b3 o0 o1 o2 c2 ha3 hb3 l2 m2
  rw [Int.add_zero] at e0
  refine ⟨o0, o1, o2, o3, c3, w0, w1, w2, w3, l3, m3, sum4 e0 e1 e2 e3, ?_⟩
  exact p83 a0 a1 a2 a3 b0 b1 b2 b3 o0 o1 o2 o3 c3 (RunsL.loop (.round r0 (.round r1 (.round r2 (.round r3 (.out (r83_4 a0 a1 a2 a3 b0 b1 b2 b3 o0 o1 o2 o3 c3) (by simp)))))))

abbrev st82 (a0 a1 a2 a3 b0 b1 b2 b3 c i : Int) (o : Blk) : St := (mkT 40 [(2, .one (.ptr true 2 0)), (3, .one (.ptr true 3 0)), (4, .one (.ptr true 4 0)), (5, .one (.lit .u64 c)), (6, .one (.ptr true 6 0)), (7, .one (.lit .i64 i))],
  [(2, own4 (.int .u64 a0) (.int .u64 a1) (.int .u64 a2) (.int .u64 a3)), (3, own4 (.int .u64 b0) (.int .u64 b1) (.int .u64 b2) (.int .u64 b3)), (4, own4 (.lit .u64 0) (.lit .u64 0) (.lit .u64 0) (.lit .u64 0)), (6, o)])

theorem dif_r0 (a0 a1 a2 a3 b0 b1 b2 b3 c : Int) (ha : Wd a0) (hb : Wd b0) (h0 : 0 ≤ c) (h1 : c ≤ 1) : ∃ o d : Int, Wd o ∧ 0 ≤ d ∧ d ≤ 1 ∧ a0 - b0 - c = o - 18446744073709551616 * d ∧
    Runs Try.prog (codeAt Try.f82 [1, 1, 1, 0, 1, 0, 0]) (st82 a0 a1 a2 a3 b0 b1 b2 b3 c 0 (own4 (.lit .u64 0) (.lit .u64 0) (.lit .u64 0) (.lit .u64 0))) .normal (st82 a0 a1 a2 a3 b0 b1 b2 b3 d 1 (own4 (.int .u64 o) (.lit .u64 0) (.lit .u64 0) (.lit .u64 0))) := by
  have hd := dig_sub ha hb h0 h1
  rw [← wrap_u64, ← wrap_u64] at hd
  have hw : Wd (IntKind.u64.wrap (IntKind.u64.wrap (a0 - b0) - c)) := by rw [wrap_u64]; exact wd_mod _
  by_cases k1 : a0 < b0
  · exact ⟨_, 1, hw, by omega, by omega, hd.1 k1, r82_0y a0 a1 a2 a3 b0 b1 b2 b3 c (decide_eq_true k1)⟩
  · by_cases k2 : IntKind.u64.wrap (a0 - b0) < c
    · exact ⟨_, 1, hw, by omega, by omega, hd.2.1 k1 k2, r82_0ny a0 a1 a2 a3 b0 b1 b2 b3 c ⟨decide_eq_false k1, decide_eq_true k2⟩⟩
    · exact ⟨_, 0, hw, by omega, by omega, hd.2.2 k1 k2, r82_0nn a0 a1 a2 a3 b0 b1 b2 b3 c ⟨decide_eq_false k1, decide_eq_false k2⟩⟩

theorem dif_r1 (a0 a1 a2 a3 b0 b1 b2 b3 o0 c : Int) (ha : Wd a1) (hb : Wd b1) (h0 : 0 ≤ c) (h1 : c ≤ 1) : ∃ o d : Int, Wd o ∧ 0 ≤ d ∧ d ≤ 1 ∧ a1 - b1 - c = o - 18446744073709551616 * d ∧
    Runs Try.prog (codeAt Try.f82 [1, 1, 1, 0, 1, 0, 0]) (st82 a0 a1 a2 a3 b0 b1 b2 b3 c 1 (own4 (.int .u64 o0) (.lit .u64 0) (.lit .u64 0) (.lit .u64 0))) .normal (st82 a0 a1 a2 a3 b0 b1 b2 b3 d 2 (own4 (.int .u64 o0) (.int .u64 o) (.lit .u64 0) (.lit .u64 0))) := by
  have hd := dig_sub ha hb h0 h1
  rw [← wrap_u64, ← wrap_u64] at hd
  have hw : Wd (IntKind.u64.wrap (IntKind.u64.wrap (a1 - b1) - c)) := by rw [wrap_u64]; exact wd_mod _
  by_cases k1 : a1 < b1
  · exact ⟨_, 1, hw, by omega, by omega, hd.1 k1, r82_1y a0 a1 a2 a3 b0 b1 b2 b3 o0 c (decide_eq_true k1)⟩
  · by_cases k2 : IntKind.u64.wrap (a1 - b1) < c
    · exact ⟨_, 1, hw, by omega, by omega, hd.2.1 k1 k2, r82_1ny a0 a1 a2 a3 b0 b1 b2 b3 o0 c ⟨decide_eq_false k1, decide_eq_true k2⟩⟩
    · exact ⟨_, 0, hw, by omega, by omega, hd.2.2 k1 k2, r82_1nn a0 a1 a2 a3 b0 b1 b2 b3 o0 c ⟨decide_eq_false k1, decide_eq_false k2⟩⟩

theorem dif_r2 (a0 a1 a2 a3 b0 b1 b2 b3 o0 o1 c : Int) (ha : Wd a2) (hb : Wd b2) (h0 : 0 ≤ c) (h1 : c ≤ 1) : ∃ o d : Int, Wd o ∧ 0 ≤ d ∧ d ≤ 1 ∧ a2 - b2 - c = o - 18446744073709551616 * d ∧
    Runs Try.prog (codeAt Try.f82 [1, 1, 1, 0, 1, 0, 0]) (st82 a0 a1 a2 a3 b0 b1 b2 b3 c 2 (own4 (.int .u64 o0) (.int .u64 o1) (.lit .u64 0) (.lit .u64 0))) .normal (st82 a0 a1 a2 a3 b0 b1 b2 b3 d 3 (own4 (.int .u64 o0) (.int .u64 o1) (.int .u64 o) (.lit .u64 0))) := by
  have hd := dig_sub ha hb h0 h1
  rw [← wrap_u64, ← wrap_u64] at hd
  have hw : Wd (IntKind.u64.wrap (IntKind.u64.wrap (a2 - b2) - c)) := by rw [wrap_u64]; exact wd_mod _
  by_cases k1 : a2 < b2
  · exact ⟨_, 1, hw, by omega, by omega, hd.1 k1, r82_2y a0 a1 a2 a3 b0 b1 b2 b3 o0 o1 c (decide_eq_true k1)⟩
  · by_cases k2 : IntKind.u64.wrap (a2 - b2) < c
    · exact ⟨_, 1, hw, by omega, by omega, hd.2.1 k1 k2, r82_2ny a0 a1 a2 a3 b0 b1 b2 b3 o0 o1 c ⟨decide_eq_false k1, decide_eq_true k2⟩⟩
    · exact ⟨_, 0, hw, by omega, by omega, hd.2.2 k1 k2, r82_2nn a0 a1 a2 a3 b0 b1 b2 b3 o0 o1 c ⟨decide_eq_false k1, decide_eq_false k2⟩⟩

theorem dif_r3 (a0 a1 a2 a3 b0 b1 b2 b3 o0 o1 o2 c : Int) (ha : Wd a3) (hb : Wd b3) (h0 : 0 ≤ c) (h1 : c ≤ 1) : ∃ o d : Int, Wd o ∧ 0 ≤ d ∧ d ≤ 1 ∧ a3 - b3 - c = o - 18446744073709551616 * d ∧
    Runs Try.prog (codeAt Try.f82 [1, 1, 1, 0, 1, 0, 0]) (st82 a0 a1 a2 a3 b0 b1 b2 b3 c 3 (own4 (.int .u64 o0) (.int .u64 o1) (.int .u64 o2) (.lit .u64 0))) .normal (st82 a0 a1 a2 a3 b0 b1 b2 b3 d 4 (own4 (.int .u64 o0) (.int .u64 o1) (.int .u64 o2) (.int .u64 o))) := by
  have hd := dig_sub ha hb h0 h1
  rw [← wrap_u64, ← wrap_u64] at hd
  have hw : Wd (IntKind.u64.wrap (IntKind.u64.wrap (a3 - b3) - c)) := by rw [wrap_u64]; exact wd_mod _
  by_cases k1 : a3 < b3
  · exact ⟨_, 1, hw, by omega, by omega, hd.1 k1, r82_3y a0 a1 a2 a3 b0 b1 b2 b3 o0 o1 o2 c (decide_eq_true k1)⟩
  · by_cases k2 : IntKind.u64.wrap (a3 - b3) < c
    · exact ⟨_, 1, hw, by omega, by omega, hd.2.1 k1 k2, r82_3ny a0 a1 a2 a3 b0 b1 b2 b3 o0 o1 o2 c ⟨decide_eq_false k1, decide_eq_true k2⟩⟩
    · exact ⟨_, 0, hw, by omega, by omega, hd.2.2 k1 k2, r82_3nn a0 a1 a2 a3 b0 b1 b2 b3 o0 o1 o2 c ⟨decide_eq_false k1, decide_eq_false k2⟩⟩

theorem dif_fn (a0 a1 a2 a3 b0 b1 b2 b3 : Int) (ha0 : Wd a0) (ha1 : Wd a1) (ha2 : Wd a2) (ha3 : Wd a3) (hb0 : Wd b0) (hb1 : Wd b1) (hb2 : Wd b2) (hb3 : Wd b3) : ∃ o0 o1 o2 o3 c : Int, Wd o0 ∧ Wd o1 ∧ Wd o2 ∧ Wd o3 ∧ 0 ≤ c ∧ c ≤ 1 ∧
    v4 a0 a1 a2 a3 - v4 b0 b1 b2 b3 = v4 o0 o1 o2 o3 - R * c ∧ FnOk Try.prog 82 [w4 a0 a1 a2 a3, w4 b0 b1 b2 b3] [] (.t (w4 o0 o1 o2 o3)) [] := by
  have z0 : (0 : Int) ≤ 0 := Int.le_refl 0
  have z1 : (0 : Int) ≤ 1 := by omega
  obtain ⟨o0, c0, w0, l0, m0, e0, r0⟩ := dif_r0 a0 a1 a2 a3 b0 b1 b2 b3 0 ha0 hb0 z0 z1
  obtain ⟨o1, c1, w1, l1, m1, e1, r1⟩ := dif_r1 a0 a1 a2 a3 b0 b1 b2 b3 o0 c0 ha1 hb1 l0 m0
  obtain ⟨o2, c2, w2, l2, m2, e2, r2⟩ := dif_r2 a0 a1 a2 a3 b0 b1 b2 b3 o0 o1 c1 ha2 hb2 l1 m1
  obtain ⟨o3, c3, w3, l3, m3, e3, r3⟩ := dif_r3 a0 a1 a2 a3 b0 b1 b2 b3 o0 o1 o2 c2 ha3 hb3 l2 m2
  rw [Int.sub_zero] at e0
  refine ⟨o0, o1, o2, o3, c3, w0, w1, w2, w3, l3, m3, dif4 e0 e1 e2 e3, ?_⟩
  exact p82 a0 a1 a2 a3 b0 b1 b2 b3 o0 o1 o2 o3 (RunsL.loop (.round r0 (.round r1 (.round r2 (.round r3 (.out (r82_4 a0 a1 a2 a3 b0 b1 b2 b3 o0 o1 o2 o3 c3) (by simp)))))))

theorem RSum_ok (a b : Int) (ha0 : 0 ≤ a) (ha : a < R) (hb0 : 0 ≤ b) (hb : b < R) : CallOk Try.prog 83 [nv a, nv b] [] (.tup [nv ((a + b) % R), .one (.blit (decide (R ≤ a + b)))]) [] [] := by
  obtain ⟨a0, a1, a2, a3, h0, h1, h2, h3, ea, e1⟩ := words a ha0 ha
  obtain ⟨b0, b1, b2, b3, g0, g1, g2, g3, eb, e2⟩ := words b hb0 hb
  rw [e1, e2]
  obtain ⟨o0, o1, o2, o3, c, w0, w1, w2, w3, c0, c1, e, h⟩ := sum_fn a0 a1 a2 a3 b0 b1 b2 b3 h0 h1 h2 h3 g0 g1 g2 g3
  rw [← ea, ← eb] at e
  have hv := v4_lt w0 w1 w2 w3
  obtain ⟨e3, e4⟩ := qr hv.1 hv.2 e
  refine (h.call nw3_83 rfl).res (by simp) fun ψ => ?_
  rw [e3, nv_v4 w0 w1 w2 w3]
  have : (c == 1) = decide (R ≤ a + b) := by
    have k : c = 0 ∨ c = 1 := by omega
    clear h e3 e4 ea eb e1 e2
    generalize v4 o0 o1 o2 o3 = z at *
    rcases k with rfl | rfl
    · exact (decide_eq_false (by unfold R at *; omega)).symm
    · exact (decide_eq_true (by unfold R at *; omega)).symm
  rw [this]

theorem RMinus_ok (a b : Int) (ha0 : 0 ≤ a) (ha : a < R) (hb0 : 0 ≤ b) (hb : b < R) : CallOk Try.prog 82 [nv a, nv b] [] (.t (nv ((a - b) % R))) [] [] := by
  obtain ⟨a0, a1, a2, a3, h0, h1, h2, h3, ea, e1⟩ := words a ha0 ha
  obtain ⟨b0, b1, b2, b3, g0, g1, g2, g3, eb, e2⟩ := words b hb0 hb
  rw [e1, e2]
  obtain ⟨o0, o1, o2, o3, c, w0, w1, w2, w3, c0, c1, e, h⟩ := dif_fn a0 a1 a2 a3 b0 b1 b2 b3 h0 h1 h2 h3 g0 g1 g2 g3
  rw [← ea, ← eb] at e
  have hv := v4_lt w0 w1 w2 w3
  obtain ⟨e3, -⟩ := qr (x := a - b) (c := - c) hv.1 hv.2 (by rw [e, Int.mul_neg]; omega)
  refine (h.call nw3_82 rfl).res (by simp) fun ψ => ?_
  rw [e3, nv_v4 w0 w1 w2 w3]

end Go.Proofs.Ytnndhmnabbkamaa
