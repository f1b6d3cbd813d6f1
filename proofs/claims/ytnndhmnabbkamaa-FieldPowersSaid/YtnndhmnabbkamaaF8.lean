/-
  The reference's product by hand and its rest: product, Mul.
  Conditions: those that each theorem names.
-/
import Derived.Test.YtnndhmnabbkamaaF7
namespace Go.Proofs.Ytnndhmnabbkamaa
open Go Go.Ev Go.Proofs
set_option maxRecDepth 100000

abbrev lb (e : TypeId) (l : List Int) : Blk := { kind := .own, e := e, c := .ints .u64 l }
abbrev zz : List Int := [0, 0, 0, 0, 0, 0, 0, 0, 0, 0, 0, 0, 0, 0, 0, 0]
abbrev hp86 (X Y O : List Int) : Heap := [(6, lb 97 zz), (7, lb 128 X), (8, lb 128 Y), (10, lb 97 O)]
abbrev sl86 (l : List (Nat × AV)) : List AV := mkT 86 ((6, .one (.ptr true 6 0)) :: (7, .one (.ptr true 7 0)) :: (8, .one (.ptr true 8 0)) :: (10, .one (.ptr true 10 0)) :: l)

theorem to_nat0 (n : Nat) : 0 + ((n : Nat) : Int).toNat = n := by simp

theorem carry_loop (X Y : List Int) (i : Nat) : ∀ (n k : Nat) (O : List Int) (c : Int), k + n = 16 → Dig O → O.length = 16 → 0 ≤ c → c < 4294967296 → val O + c * 4294967296 ^ k < 4294967296 ^ 16 →
    ∃ O', Dig O' ∧ O'.length = 16 ∧ val O' = val O + c * 4294967296 ^ k ∧
      RunsL Try.prog (codeAt Try.f86 [1, 1, 1, 1, 1, 1, 0, 1, 0, 0, 1, 0, 0, 1, 1, 1, 0, 0]) (sl86 [(12, .one (.int .i64 i)), (13, .one (.int .u64 c)), (16, .one (.int .i64 k))], hp86 X Y O)
        (.exit 6) (sl86 [(12, .one (.int .i64 i))], hp86 X Y O')
  | 0, k, O, c, hk, hO, lO, c0, c1, hv => by
    have ek : k = 16 := by omega
    subst ek
    have h0 := val_nonneg hO
    have hc : c = 0 := by
      generalize val O = v at *
      have : (4294967296 : Int) ^ 16 = 13407807929942597099574024998205846127479365820592393377723561443721764030073546976801874298166903427690031858186486050853753882811946569946433649006084096 := by decide
      omega
    refine ⟨O, hO, lO, by rw [hc]; simp, .out (r86_co0 X Y O i c (16 : Nat) (decide_eq_false (by omega))) (by simp)⟩
  | n + 1, k, O, c, hk, hO, lO, c0, c1, hv => by
    by_cases hc : c > 0
    · have ek : IntKind.i64.wrap ((k : Int) + 1) = ((k + 1 : Nat) : Int) := by rw [wrap_i64 _ (by omega) (by omega)]; simp
      have h := r86_c X Y O i c k ⟨decide_eq_true (by omega), decide_eq_true hc, by omega, by rw [to_nat0]; show _ < _; omega⟩
      rw [ek] at h
      simp only [to_nat0] at h
      have ho := dig_get hO k
      have es : IntKind.u64.wrap (O.getD k 0 + c) = O.getD k 0 + c := by rw [wrap_u64]; omega
      rw [es] at h
      generalize hs : O.getD k 0 + c = s at h
      have e1 : s.tmod 4294967296 = s % 4294967296 := Int.tmod_eq_emod_of_nonneg (by omega)
      have e2 : IntKind.u64.wrap (s.tdiv 4294967296) = s / 4294967296 := by rw [wrap_u64, Int.tdiv_eq_ediv_of_nonneg (by omega)]; omega
      rw [e1, e2] at h
      have ev : val (O.set k (s % 4294967296)) + s / 4294967296 * 4294967296 ^ (k + 1) = val O + c * 4294967296 ^ k := by
        rw [val_set _ (by omega), Int.pow_succ]
        have e3 : s = 4294967296 * (s / 4294967296) + s % 4294967296 := by omega
        generalize (4294967296 : Int) ^ k = q at *
        generalize s / 4294967296 = sh at *
        generalize s % 4294967296 = sl at *
        subst hs
        grind
      obtain ⟨O', h1, h2, h3, h4⟩ := carry_loop X Y i n (k + 1) (O.set k (s % 4294967296)) (s / 4294967296) (by omega) (dig_set hO (by omega) (by omega)) (by simpa using lO) (by omega) (by omega) (by rw [ev]; exact hv)
      exact ⟨O', h1, h2, by rw [h3, ev], .round h h4⟩
    · have hc0 : c = 0 := by omega
      refine ⟨O, hO, lO, by rw [hc0]; simp, .out (r86_co1 X Y O i c k ⟨decide_eq_true (by omega), decide_eq_false hc⟩) (by simp)⟩

section
variable (X Y : List Int) (hX : Dig X) (hY : Dig Y) (lX : X.length = 8) (lY : Y.length = 8)
include hX hY lX lY

theorem inner_loop (i : Nat) (hi : i < 8) : ∀ (n k : Nat) (O : List Int) (c : Int), k + n = 8 → Dig O → O.length = 16 → 0 ≤ c → c < 4294967296 →
    ∃ O' c', Dig O' ∧ O'.length = 16 ∧ 0 ≤ c' ∧ c' < 4294967296 ∧ val O' + c' * 4294967296 ^ (i + 8) = val O + c * 4294967296 ^ (i + k) + X.getD i 0 * val (Y.drop k) * 4294967296 ^ (i + k) ∧
      RunsL Try.prog (codeAt Try.f86 [1, 1, 1, 1, 1, 1, 0, 1, 0, 0, 1, 0, 0, 1, 0, 1, 0, 0]) (sl86 [(12, .one (.int .i64 i)), (13, .one (.int .u64 c)), (14, .one (.int .i64 k))], hp86 X Y O)
        (.exit 4) (sl86 [(12, .one (.int .i64 i)), (13, .one (.int .u64 c'))], hp86 X Y O')
  | 0, k, O, c, hk, hO, lO, c0, c1 => by
    refine ⟨O, c, hO, lO, c0, c1, ?_, .out (r86_io X Y O i c k (decide_eq_false (by omega))) (by simp)⟩
    have e : Y.drop k = [] := List.drop_eq_nil_of_le (by omega)
    have ek : k = 8 := by omega
    rw [e, ek]; simp [val]
  | n + 1, k, O, c, hk, hO, lO, c0, c1 => by
    have ew : IntKind.i64.wrap ((i : Int) + k) = ((i + k : Nat) : Int) := by rw [wrap_i64 _ (by omega) (by omega)]; simp
    have ek : IntKind.i64.wrap ((k : Int) + 1) = ((k + 1 : Nat) : Int) := by rw [wrap_i64 _ (by omega) (by omega)]; simp
    have h := r86_i X Y O i c k ⟨decide_eq_true (by omega), by omega, by rw [to_nat0]; omega, by omega, by rw [to_nat0]; omega, by rw [ew]; omega, by rw [ew, to_nat0]; show _ < _; omega⟩
    rw [ew, ek] at h
    simp only [to_nat0] at h
    have hx := dig_get hX i
    have hy := dig_get hY k
    have ho := dig_get hO (i + k)
    have hp : 0 ≤ X.getD i 0 * Y.getD k 0 ∧ X.getD i 0 * Y.getD k 0 ≤ 18446744065119617025 := half_mul hx.1 (by omega) hy.1 (by omega)
    have es : IntKind.u64.wrap (IntKind.u64.wrap (IntKind.u64.wrap (X.getD i 0 * Y.getD k 0) + O.getD (i + k) 0) + c) = X.getD i 0 * Y.getD k 0 + O.getD (i + k) 0 + c := by
      simp only [wrap_u64]
      generalize X.getD i 0 * Y.getD k 0 = p at *
      omega
    rw [es] at h
    generalize hs : X.getD i 0 * Y.getD k 0 + O.getD (i + k) 0 + c = s at h
    have hs0 : 0 ≤ s ∧ s ≤ 18446744073709551615 := by
      generalize X.getD i 0 * Y.getD k 0 = p at *
      omega
    have e1 : s.tmod 4294967296 = s % 4294967296 := Int.tmod_eq_emod_of_nonneg hs0.1
    have e2 : IntKind.u64.wrap (s.tdiv 4294967296) = s / 4294967296 := by rw [wrap_u64, Int.tdiv_eq_ediv_of_nonneg hs0.1]; omega
    rw [e1, e2] at h
    obtain ⟨O', c', h1, h2, h3, h4, h5, h6⟩ := inner_loop i hi n (k + 1) (O.set (i + k) (s % 4294967296)) (s / 4294967296) (by omega) (dig_set hO (by omega) (by omega)) (by simpa using lO) (by omega) (by omega)
    refine ⟨O', c', h1, h2, h3, h4, ?_, .round h h6⟩
    rw [h5, val_set _ (by omega), val_drop (l := Y) (j := k) (by omega), show i + (k + 1) = (i + k) + 1 by omega, Int.pow_succ]
    have e3 : s = 4294967296 * (s / 4294967296) + s % 4294967296 := by omega
    generalize (4294967296 : Int) ^ (i + k) = q at *
    generalize val (Y.drop (k + 1)) = r at *
    generalize s / 4294967296 = sh at *
    generalize s % 4294967296 = sl at *
    subst hs
    grind

theorem outer_loop : ∀ (n i : Nat) (O : List Int), i + n = 8 → Dig O → O.length = 16 → val O + val (X.drop i) * val Y * 4294967296 ^ i < 4294967296 ^ 16 →
    ∃ O', Dig O' ∧ O'.length = 16 ∧ val O' = val O + val (X.drop i) * val Y * 4294967296 ^ i ∧
      RunsL Try.prog (codeAt Try.f86 [1, 1, 1, 1, 1, 1, 0, 1, 0, 0]) (sl86 [(12, .one (.int .i64 i))], hp86 X Y O)
        (.exit 2) (mkT 86 [(6, .one (.ptr true 6 0)), (10, .one (.ptr true 10 0))], [(6, lb 97 zz), (10, lb 97 O')])
  | 0, i, O, hi, hO, lO, hv => by
    have e : X.drop i = [] := List.drop_eq_nil_of_le (by omega)
    refine ⟨O, hO, lO, by rw [e]; simp [val], .out (r86_oo X Y O i (decide_eq_false (by omega))) (by simp)⟩
  | n + 1, i, O, hi, hO, lO, hv => by
    obtain ⟨O1, c, h1, h2, h3, h4, h5, h6⟩ := inner_loop X Y hX hY lX lY i (by omega) 8 0 O 0 (by omega) hO lO (by omega) (by omega)
    have ew : IntKind.i64.wrap ((i : Int) + 8) = ((i + 8 : Nat) : Int) := by rw [wrap_i64 _ (by omega) (by omega)]; simp
    have ed := val_drop (l := X) (j := i) (by omega)
    rw [List.drop_zero, Nat.add_zero, Int.zero_mul, Int.add_zero] at h5
    have hr : 0 ≤ val (X.drop (i + 1)) * val Y * 4294967296 ^ (i + 1) := by
      refine Int.mul_nonneg (Int.mul_nonneg ?_ (val_nonneg hY).1) (Int.pow_nonneg (by decide))
      exact (val_nonneg fun d hd => hX d (List.mem_of_mem_drop hd)).1
    have etot : val O + val (X.drop i) * val Y * 4294967296 ^ i = val O1 + c * 4294967296 ^ (i + 8) + val (X.drop (i + 1)) * val Y * 4294967296 ^ (i + 1) := by
      rw [h5, ed, Int.pow_succ]
      generalize (4294967296 : Int) ^ i = q at *
      grind
    rw [etot] at hv
    obtain ⟨O2, k1, k2, k3, k4⟩ := carry_loop X Y i (8 - i) (i + 8) O1 c (by omega) h1 h2 h3 h4 (by omega)
    have ek : IntKind.i64.wrap ((i : Int) + 1) = ((i + 1 : Nat) : Int) := by rw [wrap_i64 _ (by omega) (by omega)]; simp
    have hin := h6.loop.preT (l' := (6, .one (.ptr true 6 0)) :: (7, .one (.ptr true 7 0)) :: (8, .one (.ptr true 8 0)) :: (10, .one (.ptr true 10 0)) :: [(12, .one (.int .i64 i)), (13, .one (.lit .u64 0)), (14, .one (.lit .i64 0))])
      (ka_same (ka_same (ka_same (ka_same (ka_same (.symm (ka_lit (.symm (.symm (ka_lit ka_nil))))))))) ) (Alike.refl _)
    have hr2 := r86_o X Y O O1 O2 i c ⟨decide_eq_true (by omega), hin, by rw [ew]; exact k4.loop⟩
    rw [ek] at hr2
    obtain ⟨O', m1, m2, m3, m4⟩ := outer_loop n (i + 1) O2 (by omega) k1 k2 (by rw [k3]; exact hv)
    exact ⟨O', m1, m2, by rw [m3, k3, etot], .round hr2 m4⟩

end

theorem digs16 (z0 z1 z2 z3 z4 z5 z6 z7 : Int) : val [z0, z1, z2, z3, z4, z5, z6, z7, 0, 0, 0, 0, 0, 0, 0, 0] = val [z0, z1, z2, z3, z4, z5, z6, z7] := by simp [val]

theorem R_digs : R = 4294967296 ^ 8 := by decide

theorem product_ok (a b c : Int) (ha0 : 0 ≤ a) (ha : a < R) (hb0 : 0 ≤ b) (hb : b < R) (hc0 : 0 ≤ c) (hc : c < R) : CallOk Try.prog 86 [nv a, nv b, nv c] [] (.t (.agg (.ints .u64 (digs 16 (a * b + c))))) [] [] := by
  have va := val_digs 8 a ha0 (by rw [← R_digs]; exact ha)
  have vb := val_digs 8 b hb0 (by rw [← R_digs]; exact hb)
  have vc := val_digs 8 c hc0 (by rw [← R_digs]; exact hc)
  have dc := digs_dig 8 c
  have hz := digits_ok c
  have hp : a * b ≤ (R - 1) * (R - 1) := Int.mul_le_mul (by omega) (by omega) hb0 (by decide)
  have hp0 : 0 ≤ a * b := Int.mul_nonneg ha0 hb0
  have key : ∃ z0 z1 z2 z3 z4 z5 z6 z7, digs 8 c = [z0, z1, z2, z3, z4, z5, z6, z7] := ⟨_, _, _, _, _, _, _, _, rfl⟩
  obtain ⟨z0, z1, z2, z3, z4, z5, z6, z7, ez⟩ := key
  rw [ez] at vc dc hz
  have hO : Dig [z0, z1, z2, z3, z4, z5, z6, z7, 0, 0, 0, 0, 0, 0, 0, 0] := by
    intro d hd
    have : d ∈ [z0, z1, z2, z3, z4, z5, z6, z7] ∨ d = 0 := by
      simp only [List.mem_cons, List.mem_nil_iff, or_false] at hd ⊢
      omega
    rcases this with h | rfl
    · exact dc d h
    · exact ⟨by decide, by decide⟩
  have vO : val [z0, z1, z2, z3, z4, z5, z6, z7, 0, 0, 0, 0, 0, 0, 0, 0] = c := (digs16 _ _ _ _ _ _ _ _).trans vc
  have hlt : a * b + c < 4294967296 ^ 16 := by
    have e1 : (R - 1) * (R - 1) + R ≤ 4294967296 ^ 16 := by decide
    omega
  obtain ⟨O', m1, m2, m3, m4⟩ := outer_loop (digs 8 a) (digs 8 b) (digs_dig 8 a) (digs_dig 8 b) (digs_length 8 a) (digs_length 8 b) 8 0 _ (by omega) hO rfl (by
    rw [List.drop_zero, va, vb, vO, Int.pow_zero, Int.mul_one]; omega)
  rw [List.drop_zero, va, vb, vO, Int.pow_zero, Int.mul_one] at m3
  have eO : O' = digs 16 (a * b + c) := by
    have := digs_val m1
    rw [m2, m3, Int.add_comm] at this
    exact this.symm
  rw [eO] at m4
  have hl := m4.loop.preT (l' := (6, .one (.ptr true 6 0)) :: (7, .one (.ptr true 7 0)) :: (8, .one (.ptr true 8 0)) :: (10, .one (.ptr true 10 0)) :: [(12, .one (.lit .i64 0))])
    (ka_same (ka_same (ka_same (ka_same (.symm (ka_lit ka_nil)))))) (Alike.refl _)
  refine (p86 a b c (digs 8 a) (digs 8 b) (digs 16 (a * b + c)) z0 z1 z2 z3 z4 z5 z6 z7 ⟨digits_ok a, digs_length 8 a, digits_ok b, digs_length 8 b, hz.res (by simp) fun _ => rfl, ?_⟩).call nw6_86 rfl
  exact ⟨by decide, by decide, by decide, by decide, by decide, by decide, by decide, by decide, hl, digs_length 16 _, rfl⟩

end Go.Proofs.Ytnndhmnabbkamaa
