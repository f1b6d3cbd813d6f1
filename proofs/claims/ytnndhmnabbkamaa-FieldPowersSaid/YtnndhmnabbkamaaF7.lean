/-
  The reference's product by hand: digits to the base 2^32, rows, carries.
  Conditions: those that each theorem names.
-/
import Derived.Test.YtnndhmnabbkamaaF6
import Derived.Test.YtnndhmnabbkamaaW6
namespace Go.Proofs.Ytnndhmnabbkamaa
open Go Go.Ev Go.Proofs
set_option maxRecDepth 100000

/-! ### Digits -/

def digs : Nat → Int → List Int
  | 0, _ => []
  | k + 1, n => n % 4294967296 :: digs k (n / 4294967296)
def val : List Int → Int
  | [] => 0
  | d :: l => d + 4294967296 * val l
def Dig (l : List Int) : Prop := ∀ d ∈ l, 0 ≤ d ∧ d < 4294967296

theorem digs_length : ∀ k n, (digs k n).length = k
  | 0, _ => rfl
  | k + 1, n => by simp [digs, digs_length k]
theorem digs_dig : ∀ k n, Dig (digs k n)
  | 0, _ => fun _ h => by cases h
  | k + 1, n => fun d h => by
    rcases List.mem_cons.1 h with rfl | h
    · exact ⟨by omega, by omega⟩
    · exact digs_dig k _ d h

theorem val_nonneg : ∀ {l : List Int}, Dig l → 0 ≤ val l ∧ val l < 4294967296 ^ l.length
  | [], _ => ⟨by decide, by decide⟩
  | d :: l, h => by
    have h1 := h d (List.mem_cons_self ..)
    have h2 := val_nonneg (l := l) fun x hx => h x (List.mem_cons_of_mem _ hx)
    simp only [val, List.length_cons, Int.pow_succ]
    generalize 4294967296 ^ l.length = p at *
    refine ⟨by omega, by omega⟩

theorem digs_val : ∀ {l : List Int}, Dig l → digs l.length (val l) = l
  | [], _ => rfl
  | d :: l, h => by
    have h1 := h d (List.mem_cons_self ..)
    have e1 : (d + 4294967296 * val l) % 4294967296 = d := by omega
    have e2 : (d + 4294967296 * val l) / 4294967296 = val l := by omega
    simp only [val, List.length_cons, digs, e1, e2, digs_val fun x hx => h x (List.mem_cons_of_mem _ hx)]

theorem val_digs : ∀ (k : Nat) (n : Int), 0 ≤ n → n < 4294967296 ^ k → val (digs k n) = n
  | 0, n, h0, h1 => by simp [digs, val] at *; omega
  | k + 1, n, h0, h1 => by
    rw [Int.pow_succ] at h1
    have := val_digs k (n / 4294967296) (by omega) (by
      generalize 4294967296 ^ k = p at *
      omega)
    simp only [digs, val, this]
    omega

theorem val_set : ∀ {l : List Int} {j : Nat} (y : Int), j < l.length → val (l.set j y) = val l + (y - l.getD j 0) * 4294967296 ^ j
  | d :: l, 0, y, _ => by simp [val]; omega
  | d :: l, j + 1, y, h => by
    have := val_set (l := l) (j := j) y (by simpa using h)
    simp only [List.set_cons_succ, val, this, List.getD_cons_succ, Int.pow_succ]
    grind

theorem dig_set {l : List Int} {j : Nat} {y : Int} (h : Dig l) (h0 : 0 ≤ y) (h1 : y < 4294967296) : Dig (l.set j y) := fun d hd => by
  rcases List.mem_or_eq_of_mem_set hd with hd | rfl
  · exact h d hd
  · exact ⟨h0, h1⟩

theorem dig_get {l : List Int} (h : Dig l) (j : Nat) : 0 ≤ l.getD j 0 ∧ l.getD j 0 < 4294967296 := by
  rw [List.getD_eq_getElem?_getD]
  cases e : l[j]? with
  | none => exact ⟨by decide, by decide⟩
  | some d => exact h d (List.mem_of_getElem? e)

theorem val_drop : ∀ {l : List Int} {j : Nat}, j < l.length → val (l.drop j) = l.getD j 0 + 4294967296 * val (l.drop (j + 1))
  | d :: l, 0, _ => by simp [val]
  | d :: l, j + 1, h => by
    have := val_drop (l := l) (j := j) (by simpa using h)
    simpa using this

/-! ### digits, number -/

theorem digits_ok (a : Int) : CallOk Try.prog 115 [nv a] [] (.t (.agg (.ints .u64 (digs 8 a)))) [] [] := by
  refine ((p115 a).call nw6_115 rfl).res (by simp) fun ψ => ?_
  have t1 : ∀ {x : Int}, Wd x → x.tmod 4294967296 = x % 4294967296 := fun h => Int.tmod_eq_emod_of_nonneg h.1
  have t2 : ∀ {x : Int}, Wd x → IntKind.u64.wrap (x.tdiv 4294967296) = x / 4294967296 := fun {x} h => by
    rw [wrap_u64, Int.tdiv_eq_ediv_of_nonneg h.1]; unfold Wd at h; omega
  rw [t1 (wd_l0 a), t1 (wd_l1 a), t1 (wd_l2 a), t1 (wd_l3 a), t2 (wd_l0 a), t2 (wd_l1 a), t2 (wd_l2 a), t2 (wd_l3 a)]
  have e0 : l0 a % 4294967296 = a % 4294967296 := by unfold l0; omega
  have e1 : l0 a / 4294967296 = a / 4294967296 % 4294967296 := by unfold l0; omega
  have f1 : a / 4294967296 / 4294967296 = a / 18446744073709551616 := by omega
  have e2 : l1 a % 4294967296 = a / 4294967296 / 4294967296 % 4294967296 := by rw [f1]; unfold l1; omega
  have e3 : l1 a / 4294967296 = a / 4294967296 / 4294967296 / 4294967296 % 4294967296 := by rw [f1]; unfold l1; omega
  have f2 : a / 4294967296 / 4294967296 / 4294967296 / 4294967296 = a / 18446744073709551616 / 18446744073709551616 := by rw [f1]; omega
  have e4 : l2 a % 4294967296 = a / 4294967296 / 4294967296 / 4294967296 / 4294967296 % 4294967296 := by rw [f2]; unfold l2; omega
  have e5 : l2 a / 4294967296 = a / 4294967296 / 4294967296 / 4294967296 / 4294967296 / 4294967296 % 4294967296 := by rw [f2]; unfold l2; omega
  have f3 : a / 4294967296 / 4294967296 / 4294967296 / 4294967296 / 4294967296 / 4294967296 = a / 18446744073709551616 / 18446744073709551616 / 18446744073709551616 := by rw [f2]; omega
  have e6 : l3 a % 4294967296 = a / 4294967296 / 4294967296 / 4294967296 / 4294967296 / 4294967296 / 4294967296 % 4294967296 := by rw [f3]; unfold l3; omega
  have e7 : l3 a / 4294967296 = a / 4294967296 / 4294967296 / 4294967296 / 4294967296 / 4294967296 / 4294967296 / 4294967296 % 4294967296 := by rw [f3]; unfold l3; omega
  rw [e0, e1, e2, e3, e4, e5, e6, e7]
  rfl

theorem two_digs {p : Int} : IntKind.u64.wrap (p % 4294967296 + IntKind.u64.wrap (p / 4294967296 % 4294967296 * 4294967296)) = p % 18446744073709551616 := by
  simp only [wrap_u64]; omega

theorem number_words (p : Int) : w4 (IntKind.u64.wrap (p % 4294967296 + IntKind.u64.wrap (p / 4294967296 % 4294967296 * 4294967296))) (IntKind.u64.wrap (p / 4294967296 / 4294967296 % 4294967296 + IntKind.u64.wrap (p / 4294967296 / 4294967296 / 4294967296 % 4294967296 * 4294967296)))
    (IntKind.u64.wrap (p / 4294967296 / 4294967296 / 4294967296 / 4294967296 % 4294967296 + IntKind.u64.wrap (p / 4294967296 / 4294967296 / 4294967296 / 4294967296 / 4294967296 % 4294967296 * 4294967296))) (IntKind.u64.wrap (p / 4294967296 / 4294967296 / 4294967296 / 4294967296 / 4294967296 / 4294967296 % 4294967296 + IntKind.u64.wrap (p / 4294967296 / 4294967296 / 4294967296 / 4294967296 / 4294967296 / 4294967296 / 4294967296 % 4294967296 * 4294967296))) = nv (p % R) := by
  rw [two_digs, two_digs, two_digs, two_digs]
  have f : ∀ x : Int, x / 4294967296 / 4294967296 = x / 18446744073709551616 := fun x => by omega
  simp only [f]
  have hv : p % R = v4 (p % 18446744073709551616) (p / 18446744073709551616 % 18446744073709551616) (p / 18446744073709551616 / 18446744073709551616 % 18446744073709551616) (p / 18446744073709551616 / 18446744073709551616 / 18446744073709551616 % 18446744073709551616) := by
    have h1 := Int.emod_add_mul_ediv p 18446744073709551616
    generalize p / 18446744073709551616 = p1 at *
    have h2 := Int.emod_add_mul_ediv p1 18446744073709551616
    generalize p1 / 18446744073709551616 = p2 at *
    have h3 := Int.emod_add_mul_ediv p2 18446744073709551616
    generalize p2 / 18446744073709551616 = p3 at *
    have h4 := Int.emod_add_mul_ediv p3 18446744073709551616
    have w0 := wd_mod p
    have w1 := wd_mod p1
    have w2 := wd_mod p2
    have w3 := wd_mod p3
    generalize p % 18446744073709551616 = r0 at *
    generalize p1 % 18446744073709551616 = r1 at *
    generalize p2 % 18446744073709551616 = r2 at *
    generalize p3 % 18446744073709551616 = r3 at *
    generalize p3 / 18446744073709551616 = p4 at *
    have hb := v4_lt w0 w1 w2 w3
    exact (qr hb.1 hb.2 (c := p4) (by unfold v4 R; omega)).1
  rw [hv, nv_v4 (wd_mod _) (wd_mod _) (wd_mod _) (wd_mod _)]

theorem number0_ok (p : Int) : CallOk Try.prog 87 [.agg (.ints .u64 (digs 16 p)), .one (.lit .i64 0)] [] (.t (nv (p % R))) [] [] := by
  have h := (p87_0 (p % 4294967296) (p / 4294967296 % 4294967296) (p / 4294967296 / 4294967296 % 4294967296) (p / 4294967296 / 4294967296 / 4294967296 % 4294967296) (p / 4294967296 / 4294967296 / 4294967296 / 4294967296 % 4294967296) (p / 4294967296 / 4294967296 / 4294967296 / 4294967296 / 4294967296 % 4294967296) (p / 4294967296 / 4294967296 / 4294967296 / 4294967296 / 4294967296 / 4294967296 % 4294967296) (p / 4294967296 / 4294967296 / 4294967296 / 4294967296 / 4294967296 / 4294967296 / 4294967296 % 4294967296) (p / 4294967296 / 4294967296 / 4294967296 / 4294967296 / 4294967296 / 4294967296 / 4294967296 / 4294967296 % 4294967296) (p / 4294967296 / 4294967296 / 4294967296 / 4294967296 / 4294967296 / 4294967296 / 4294967296 / 4294967296 / 4294967296 % 4294967296) (p / 4294967296 / 4294967296 / 4294967296 / 4294967296 / 4294967296 / 4294967296 / 4294967296 / 4294967296 / 4294967296 / 4294967296 % 4294967296) (p / 4294967296 / 4294967296 / 4294967296 / 4294967296 / 4294967296 / 4294967296 / 4294967296 / 4294967296 / 4294967296 / 4294967296 / 4294967296 % 4294967296) (p / 4294967296 / 4294967296 / 4294967296 / 4294967296 / 4294967296 / 4294967296 / 4294967296 / 4294967296 / 4294967296 / 4294967296 / 4294967296 / 4294967296 % 4294967296) (p / 4294967296 / 4294967296 / 4294967296 / 4294967296 / 4294967296 / 4294967296 / 4294967296 / 4294967296 / 4294967296 / 4294967296 / 4294967296 / 4294967296 / 4294967296 % 4294967296) (p / 4294967296 / 4294967296 / 4294967296 / 4294967296 / 4294967296 / 4294967296 / 4294967296 / 4294967296 / 4294967296 / 4294967296 / 4294967296 / 4294967296 / 4294967296 / 4294967296 % 4294967296) (p / 4294967296 / 4294967296 / 4294967296 / 4294967296 / 4294967296 / 4294967296 / 4294967296 / 4294967296 / 4294967296 / 4294967296 / 4294967296 / 4294967296 / 4294967296 / 4294967296 / 4294967296 % 4294967296)).call nw6_87 rfl
  have h := h.res (r' := .t (nv (p % R))) (by simp) fun ψ => by rw [number_words p]
  exact h.args fun _ => rfl

theorem number8_ok (p : Int) : CallOk Try.prog 87 [.agg (.ints .u64 (digs 16 p)), .one (.lit .i64 8)] [] (.t (nv (p / R % R))) [] [] := by
  have e : p / R = p / 4294967296 / 4294967296 / 4294967296 / 4294967296 / 4294967296 / 4294967296 / 4294967296 / 4294967296 := by
    have f1 : ∀ x : Int, x / 4294967296 / 4294967296 = x / 18446744073709551616 := fun x => by omega
    have f2 : ∀ x : Int, x / 18446744073709551616 / 18446744073709551616 = x / 340282366920938463463374607431768211456 := fun x => by omega
    have f3 : ∀ x : Int, x / 340282366920938463463374607431768211456 / 340282366920938463463374607431768211456 = x / R := fun x => by unfold R; omega
    rw [f1, f1, f1, f1, f2, f2, f3]
  have h := (p87_8 (p % 4294967296) (p / 4294967296 % 4294967296) (p / 4294967296 / 4294967296 % 4294967296) (p / 4294967296 / 4294967296 / 4294967296 % 4294967296) (p / 4294967296 / 4294967296 / 4294967296 / 4294967296 % 4294967296) (p / 4294967296 / 4294967296 / 4294967296 / 4294967296 / 4294967296 % 4294967296) (p / 4294967296 / 4294967296 / 4294967296 / 4294967296 / 4294967296 / 4294967296 % 4294967296) (p / 4294967296 / 4294967296 / 4294967296 / 4294967296 / 4294967296 / 4294967296 / 4294967296 % 4294967296) (p / 4294967296 / 4294967296 / 4294967296 / 4294967296 / 4294967296 / 4294967296 / 4294967296 / 4294967296 % 4294967296) (p / 4294967296 / 4294967296 / 4294967296 / 4294967296 / 4294967296 / 4294967296 / 4294967296 / 4294967296 / 4294967296 % 4294967296) (p / 4294967296 / 4294967296 / 4294967296 / 4294967296 / 4294967296 / 4294967296 / 4294967296 / 4294967296 / 4294967296 / 4294967296 % 4294967296) (p / 4294967296 / 4294967296 / 4294967296 / 4294967296 / 4294967296 / 4294967296 / 4294967296 / 4294967296 / 4294967296 / 4294967296 / 4294967296 % 4294967296) (p / 4294967296 / 4294967296 / 4294967296 / 4294967296 / 4294967296 / 4294967296 / 4294967296 / 4294967296 / 4294967296 / 4294967296 / 4294967296 / 4294967296 % 4294967296) (p / 4294967296 / 4294967296 / 4294967296 / 4294967296 / 4294967296 / 4294967296 / 4294967296 / 4294967296 / 4294967296 / 4294967296 / 4294967296 / 4294967296 / 4294967296 % 4294967296) (p / 4294967296 / 4294967296 / 4294967296 / 4294967296 / 4294967296 / 4294967296 / 4294967296 / 4294967296 / 4294967296 / 4294967296 / 4294967296 / 4294967296 / 4294967296 / 4294967296 % 4294967296) (p / 4294967296 / 4294967296 / 4294967296 / 4294967296 / 4294967296 / 4294967296 / 4294967296 / 4294967296 / 4294967296 / 4294967296 / 4294967296 / 4294967296 / 4294967296 / 4294967296 / 4294967296 % 4294967296)).call nw6_87 rfl
  have h := h.res (r' := .t (nv (p / R % R))) (by simp) fun ψ => by rw [e, ← number_words (p / 4294967296 / 4294967296 / 4294967296 / 4294967296 / 4294967296 / 4294967296 / 4294967296 / 4294967296)]
  exact h.args fun _ => rfl

end Go.Proofs.Ytnndhmnabbkamaa
