/-
  Bits of numbers, powers: Len64, Bits, Bit, the field's pow, Pow and Inv.
  Conditions: those that each theorem names.
-/
import Derived.Test.YtnndhmnabbkamaaF10
import Derived.Test.YtnndhmnabbkamaaW8
namespace Go.Proofs.Ytnndhmnabbkamaa
open Go Go.Ev Go.Proofs
set_option maxRecDepth 100000

abbrev lenTab : ByteArray := (ByteArray.mk (([0, 1, 2, 2, 3, 3, 3, 3, 4, 4, 4, 4, 4, 4, 4, 4, 5, 5, 5, 5, 5, 5, 5, 5, 5, 5, 5, 5, 5, 5, 5, 5, 6, 6, 6, 6, 6, 6, 6, 6, 6, 6, 6, 6, 6, 6, 6, 6, 6, 6, 6, 6, 6, 6, 6, 6, 6, 6, 6, 6, 6, 6, 6, 6].append [7, 7, 7, 7, 7, 7, 7, 7, 7, 7, 7, 7, 7, 7, 7, 7, 7, 7, 7, 7, 7, 7, 7, 7, 7, 7, 7, 7, 7, 7, 7, 7, 7, 7, 7, 7, 7, 7, 7, 7, 7, 7, 7, 7, 7, 7, 7, 7, 7, 7, 7, 7, 7, 7, 7, 7, 7, 7, 7, 7, 7, 7, 7, 7]).append ([8, 8, 8, 8, 8, 8, 8, 8, 8, 8, 8, 8, 8, 8, 8, 8, 8, 8, 8, 8, 8, 8, 8, 8, 8, 8, 8, 8, 8, 8, 8, 8, 8, 8, 8, 8, 8, 8, 8, 8, 8, 8, 8, 8, 8, 8, 8, 8, 8, 8, 8, 8, 8, 8, 8, 8, 8, 8, 8, 8, 8, 8, 8, 8].append [8, 8, 8, 8, 8, 8, 8, 8, 8, 8, 8, 8, 8, 8, 8, 8, 8, 8, 8, 8, 8, 8, 8, 8, 8, 8, 8, 8, 8, 8, 8, 8, 8, 8, 8, 8, 8, 8, 8, 8, 8, 8, 8, 8, 8, 8, 8, 8, 8, 8, 8, 8, 8, 8, 8, 8, 8, 8, 8, 8, 8, 8, 8, 8])).toArray)

theorem tab_all : (List.range 256).all (fun b => Nat.ble (lenTab.data.getD b 0).toNat 8 && Nat.blt b (2 ^ (lenTab.data.getD b 0).toNat)) = true := by decide +kernel

theorem tab_ok (x : Int) (h0 : 0 ≤ x) (h1 : x < 256) : ∃ t : Nat, t ≤ 8 ∧ x < 2 ^ t ∧ (lenTab.data.getD (IntKind.u8.wrap x).toNat 0).toNat = t := by
  obtain ⟨n, rfl⟩ := Int.eq_ofNat_of_zero_le h0
  have e : (IntKind.u8.wrap (n : Int)).toNat = n := by rw [wrap_u8]; omega
  have := List.all_eq_true.1 tab_all n (List.mem_range.2 (by omega))
  rw [Bool.and_eq_true] at this
  refine ⟨_, Nat.le_of_ble_eq_true this.1, ?_, by rw [e]⟩
  have h2 : n < 2 ^ (lenTab.data.getD n 0).toNat := Nat.le_of_ble_eq_true this.2
  exact_mod_cast h2

/-- What the table adds. -/
theorem len_add (a x : Int) (n : Nat) (hn : n ≤ 56) (hx0 : 0 ≤ x) (hx : x < 256) (ha : a < (x + 1) * 2 ^ n) :
    ∃ L : Nat, L ≤ 64 ∧ a < 2 ^ L ∧ IntKind.i64.wrap (n + IntKind.i64.wrap ((lenTab.data.getD (IntKind.u8.wrap x).toNat 0).toNat : Int)) = L := by
  obtain ⟨t, h1, h2, h3⟩ := tab_ok x hx0 hx
  refine ⟨n + t, by omega, ?_, ?_⟩
  · have h4 : (x + 1) * 2 ^ n ≤ 2 ^ t * 2 ^ n := Int.mul_le_mul_of_nonneg_right (by omega) (Int.pow_nonneg (by decide))
    rw [Int.pow_add, Int.mul_comm (2 ^ n)]
    omega
  · rw [h3, wrap_i64 (t : Int) (by omega) (by omega), wrap_i64 _ (by omega) (by omega)]
    simp

theorem u8_small {x : Int} : 0 ≤ IntKind.u8.wrap x ∧ IntKind.u8.wrap x < 256 := by rw [wrap_u8]; omega

theorem Len64_ok (a : Int) (ha : Wd a) : ∃ L : Nat, L ≤ 64 ∧ a < 2 ^ L ∧ CallOk Try.prog 118 [.one (.int .u64 a)] [] (.one (.int .i64 (L : Int))) [] [] := by
  have fd : ∀ (x y : Int), 0 < y → x.fdiv y = x / y := fun x _ h => Int.fdiv_eq_ediv_of_nonneg x (by omega)
  obtain ⟨a0, a1⟩ := ha
  have f32 : a.fdiv 4294967296 = a / 4294967296 := fd _ _ (by decide)
  have fin : ∀ {x r : Int}, r = x → CallOk Try.prog 118 [.one (.int .u64 a)] [] (.one (.int .i64 r)) [] [] → CallOk Try.prog 118 [.one (.int .u64 a)] [] (.one (.int .i64 x)) [] [] := fun e h => e ▸ h
  have e0 : a = a := by first | rfl | (repeat rw [fd _ _ (by decide)])
  by_cases k0 : a ≥ 4294967296
  · skip
    have e11 : a.fdiv 4294967296 = a / 4294967296 := by first | rfl | (repeat rw [fd _ _ (by decide)])
    by_cases k1 : a.fdiv 4294967296 ≥ 65536
    · skip
      have e211 : (a.fdiv 4294967296).fdiv 65536 = a / 4294967296 / 65536 := by first | rfl | (repeat rw [fd _ _ (by decide)])
      by_cases k2 : (a.fdiv 4294967296).fdiv 65536 ≥ 256
      · skip
        have ex : ((a.fdiv 4294967296).fdiv 65536).fdiv 256 = a / 4294967296 / 65536 / 256 := by first | rfl | (repeat rw [fd _ _ (by decide)])
        obtain ⟨L, l1, l2, l3⟩ := len_add a (((a.fdiv 4294967296).fdiv 65536).fdiv 256) 56 (by omega) (by omega) (by omega) (by omega)
        exact ⟨L, l1, l2, fin l3 ((p118_7 a ⟨decide_eq_true k0, decide_eq_true k1, decide_eq_true k2, u8_small⟩).call nw1_118 rfl)⟩
      · skip
        have ex : (a.fdiv 4294967296).fdiv 65536 = a / 4294967296 / 65536 := by first | rfl | (repeat rw [fd _ _ (by decide)])
        obtain ⟨L, l1, l2, l3⟩ := len_add a ((a.fdiv 4294967296).fdiv 65536) 48 (by omega) (by omega) (by omega) (by omega)
        exact ⟨L, l1, l2, fin l3 ((p118_6 a ⟨decide_eq_true k0, decide_eq_true k1, decide_eq_false k2, u8_small⟩).call nw1_118 rfl)⟩
    · skip
      have e210 : a.fdiv 4294967296 = a / 4294967296 := by first | rfl | (repeat rw [fd _ _ (by decide)])
      by_cases k2 : a.fdiv 4294967296 ≥ 256
      · skip
        have ex : (a.fdiv 4294967296).fdiv 256 = a / 4294967296 / 256 := by first | rfl | (repeat rw [fd _ _ (by decide)])
        obtain ⟨L, l1, l2, l3⟩ := len_add a ((a.fdiv 4294967296).fdiv 256) 40 (by omega) (by omega) (by omega) (by omega)
        exact ⟨L, l1, l2, fin l3 ((p118_5 a ⟨decide_eq_true k0, decide_eq_false k1, decide_eq_true k2, u8_small⟩).call nw1_118 rfl)⟩
      · skip
        have ex : a.fdiv 4294967296 = a / 4294967296 := by first | rfl | (repeat rw [fd _ _ (by decide)])
        obtain ⟨L, l1, l2, l3⟩ := len_add a (a.fdiv 4294967296) 32 (by omega) (by omega) (by omega) (by omega)
        exact ⟨L, l1, l2, fin l3 ((p118_4 a ⟨decide_eq_true k0, decide_eq_false k1, decide_eq_false k2, u8_small⟩).call nw1_118 rfl)⟩
  · skip
    have e10 : a = a := by first | rfl | (repeat rw [fd _ _ (by decide)])
    by_cases k1 : a ≥ 65536
    · skip
      have e201 : a.fdiv 65536 = a / 65536 := by first | rfl | (repeat rw [fd _ _ (by decide)])
      by_cases k2 : a.fdiv 65536 ≥ 256
      · skip
        have ex : (a.fdiv 65536).fdiv 256 = a / 65536 / 256 := by first | rfl | (repeat rw [fd _ _ (by decide)])
        obtain ⟨L, l1, l2, l3⟩ := len_add a ((a.fdiv 65536).fdiv 256) 24 (by omega) (by omega) (by omega) (by omega)
        exact ⟨L, l1, l2, fin l3 ((p118_3 a ⟨decide_eq_false k0, decide_eq_true k1, decide_eq_true k2, u8_small⟩).call nw1_118 rfl)⟩
      · skip
        have ex : a.fdiv 65536 = a / 65536 := by first | rfl | (repeat rw [fd _ _ (by decide)])
        obtain ⟨L, l1, l2, l3⟩ := len_add a (a.fdiv 65536) 16 (by omega) (by omega) (by omega) (by omega)
        exact ⟨L, l1, l2, fin l3 ((p118_2 a ⟨decide_eq_false k0, decide_eq_true k1, decide_eq_false k2, u8_small⟩).call nw1_118 rfl)⟩
    · skip
      have e200 : a = a := by first | rfl | (repeat rw [fd _ _ (by decide)])
      by_cases k2 : a ≥ 256
      · skip
        have ex : a.fdiv 256 = a / 256 := by first | rfl | (repeat rw [fd _ _ (by decide)])
        obtain ⟨L, l1, l2, l3⟩ := len_add a (a.fdiv 256) 8 (by omega) (by omega) (by omega) (by omega)
        exact ⟨L, l1, l2, fin l3 ((p118_1 a ⟨decide_eq_false k0, decide_eq_false k1, decide_eq_true k2, u8_small⟩).call nw1_118 rfl)⟩
      · skip
        have ex : a = a := by first | rfl | (repeat rw [fd _ _ (by decide)])
        obtain ⟨L, l1, l2, l3⟩ := len_add a (a) 0 (by omega) (by omega) (by omega) (by omega)
        exact ⟨L, l1, l2, fin l3 ((p118_0 a ⟨decide_eq_false k0, decide_eq_false k1, decide_eq_false k2, u8_small⟩).call nw1_118 rfl)⟩

/-- The number of bits, or more. -/
theorem Bits_ok (e : Int) (h0 : 0 ≤ e) (h1 : e < R) : ∃ B : Nat, B ≤ 256 ∧ e < 2 ^ B ∧ CallOk Try.prog 96 [nv e] [] (.one (.int .i64 (B : Int))) [] [] := by
  have ev := v4_l e h0 h1
  have w0 := wd_l0 e; have w1 := wd_l1 e; have w2 := wd_l2 e; have w3 := wd_l3 e
  have up : ∀ {x : Int} (L n : Nat), x < 2 ^ L → e < (x + 1) * 2 ^ n → e < 2 ^ (n + L) := by
    intro x L n hx he
    have h4 : (x + 1) * 2 ^ n ≤ 2 ^ L * 2 ^ n := Int.mul_le_mul_of_nonneg_right (by omega) (Int.pow_nonneg (by decide))
    rw [Int.pow_add, Int.mul_comm (2 ^ n)]
    omega
  have fin : ∀ {x r : Int}, r = x → CallOk Try.prog 96 [nv e] [] (.one (.int .i64 r)) [] [] → CallOk Try.prog 96 [nv e] [] (.one (.int .i64 x)) [] [] := fun e h => e ▸ h
  by_cases k3 : l3 e ≠ 0
  · obtain ⟨L, b1, b2, b3⟩ := Len64_ok _ w3
    refine ⟨192 + L, by omega, up L 192 b2 (by unfold v4 Wd at *; omega), fin ?_ ((p96_3 e _ ⟨yes_ne k3, b3⟩).call nw8_96 rfl)⟩
    rw [wrap_i64 _ (by omega) (by omega)]; simp
  · by_cases k2 : l2 e ≠ 0
    · obtain ⟨L, b1, b2, b3⟩ := Len64_ok _ w2
      refine ⟨128 + L, by omega, up L 128 b2 (by unfold v4 Wd at *; omega), fin ?_ ((p96_2 e _ ⟨no_ne k3, yes_ne k2, b3⟩).call nw8_96 rfl)⟩
      rw [wrap_i64 _ (by omega) (by omega)]; simp
    · by_cases k1 : l1 e ≠ 0
      · obtain ⟨L, b1, b2, b3⟩ := Len64_ok _ w1
        refine ⟨64 + L, by omega, up L 64 b2 (by unfold v4 Wd at *; omega), fin ?_ ((p96_1 e _ ⟨no_ne k3, no_ne k2, yes_ne k1, b3⟩).call nw8_96 rfl)⟩
        rw [wrap_i64 _ (by omega) (by omega)]; simp
      · by_cases k0 : l0 e ≠ 0
        · obtain ⟨L, b1, b2, b3⟩ := Len64_ok _ w0
          refine ⟨0 + L, by omega, up L 0 b2 (by unfold v4 Wd at *; omega), fin ?_ ((p96_0 e _ ⟨no_ne k3, no_ne k2, no_ne k1, yes_ne k0, b3⟩).call nw8_96 rfl)⟩
          rw [wrap_i64 _ (by omega) (by omega)]; simp
        · refine ⟨0, by omega, ?_, ((p96_z e ⟨no_ne k3, no_ne k2, no_ne k1, no_ne k0⟩).call nw8_96 rfl).res (by simp) fun _ => rfl⟩
          unfold v4 at ev
          simp
          omega

end Go.Proofs.Ytnndhmnabbkamaa
