/-
  What 'barbicanlaw05.FieldSums' comes to.
  Conditions: those that each theorem names.
-/
import Derived.Test.YtnndhmnabbkamaaF9
import Derived.Test.YtnndhmnabbkamaaW7
namespace Go.Proofs.Ytnndhmnabbkamaa
open Go Go.Ev Go.Proofs
set_option maxRecDepth 100000

theorem sums_is {which m v s w : Int} (I : Is which m v s w) (a b : Int) (ha0 : 0 ≤ a) (ha : a < R) (hb0 : 0 ≤ b) (hb : b < R) : CallOk Try.prog 4 [.one (.int .i64 which), nv a, nv b] [] (.one (.blit true)) [] [] := by
  have hm := I.pos; have hm1 := I.lt; have hh := I.half
  have la := RLess_ok a m ha0 ha (by omega) hm1
  have lb := RLess_ok b m hb0 hb (by omega) hm1
  by_cases k : a < m
  · rw [decide_eq_true k] at la
    by_cases k2 : b < m
    · rw [decide_eq_true k2] at lb
      have hp := mod_range (a * b * w) m hm
      have lp := RLess_ok (a * b * w % m) m hp.1 (by omega) (by omega) hm1
      rw [decide_eq_true hp.2] at lp
      have hf := Form_ok (a * b * w % m) m hp.1 hp.2 hm1
      have e : a * b * w % m * R % m = a * b % m :=
        ((Cg.mod m (a * b * w)).mul (Cg.refl m R)).trans ((Cg.of (by grind)).trans (I.pr.cancel (a * b)))
      rw [e] at hf
      exact ((p4_in which a b m _ _ _ _ ⟨awake05, I.prime, Add_mod I a b ha0 k hb0 k2, Sub_mod I a b ha0 k hb0 k2, Mul_mod I a b ha0 k hb0 k2, la, lb, lp, hf,
        RMul_ok a b m ha0 k hb0 k2 hm1 hh I.near, RAdd_ok a b m ha0 k hb0 k2 hm1, same4 _, RSub_ok a b m ha0 k hb0 k2 hm1, same4 _⟩).call nw7_4 rfl).res (by simp) fun _ => by rw [same4]; rfl
    · rw [decide_eq_false k2] at lb
      have h : m ≤ a ∨ m ≤ b := .inr (by omega)
      exact ((p4_far2 which a b m ⟨awake05, I.prime, Add_far I a b ha0 ha hb0 hb h, Sub_far I a b ha0 ha hb0 hb h, Mul_far I a b ha0 ha hb0 hb h, la, lb, rfl⟩).call nw7_4 rfl).res (by simp) fun _ => rfl
  · rw [decide_eq_false k] at la
    have h : m ≤ a ∨ m ≤ b := .inl (by omega)
    exact ((p4_far1 which a b m _ ⟨awake05, I.prime, Add_far I a b ha0 ha hb0 hb h, Sub_far I a b ha0 ha hb0 hb h, Mul_far I a b ha0 ha hb0 hb h, la, lb.res (by simp) fun _ => rfl, rfl⟩).call nw7_4 rfl).res (by simp) fun _ => rfl

theorem less_zero (a : Int) (ha0 : 0 ≤ a) (ha : a < R) : CallOk Try.prog 24 [nv a, z4] [] (.one (.blit false)) [] [] := by
  have h := RLess_ok a 0 ha0 ha (by omega) R_pos
  rw [decide_eq_false (by omega)] at h
  exact h.args fun _ => rfl

theorem sums_ok (which a b : Int) (ha0 : 0 ≤ a) (ha : a < R) (hb0 : 0 ≤ b) (hb : b < R) : CallOk Try.prog 4 [.one (.int .i64 which), nv a, nv b] [] (.one (.blit true)) [] [] := by
  by_cases h1 : which = 1
  · subst h1; exact sums_is is_p a b ha0 ha hb0 hb
  · by_cases h2 : which = 2
    · subst h2; exact sums_is is_n a b ha0 ha hb0 hb
    · exact ((p4_no which a b ⟨awake05, prime_no which h1 h2, Add_none h1 h2 a b, Sub_none h1 h2 a b, Mul_none h1 h2 a b, less_zero a ha0 ha, less_zero b hb0 hb, rfl⟩).call nw7_4 rfl).res (by simp) fun _ => rfl

end Go.Proofs.Ytnndhmnabbkamaa
