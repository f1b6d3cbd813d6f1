/-
  Fermat's little theorem for numbers with a certificate: a number whose powers are told apart by the prime factors of N - 1.
  Conditions: those that each theorem names; nothing here names a program.
-/
namespace Go.Ev

theorem len_le {α : Type} [BEq α] [LawfulBEq α] : ∀ {l m : List α}, l.Nodup → (∀ x ∈ l, x ∈ m) → l.length ≤ m.length
  | [], _, _, _ => Nat.zero_le _
  | a :: t, m, hn, hs => by
    have ha := hs a (List.mem_cons_self ..)
    have h2 : t.length ≤ (m.erase a).length := len_le (List.nodup_cons.1 hn).2 fun x hx => by
      have hne : x ≠ a := fun e => (List.nodup_cons.1 hn).1 (e ▸ hx)
      exact (List.mem_erase_of_ne hne).2 (hs x (List.mem_cons_of_mem _ hx))
    rw [List.length_erase_of_mem ha] at h2
    have := List.length_pos_of_mem ha
    simp only [List.length_cons]
    omega

theorem pigeon (n : Nat) (f : Nat → Nat) (hf : ∀ i, i < n → f i < n) (inj : ∀ i j, i < j → j < n → f i ≠ f j) (y : Nat) (hy : y < n) : ∃ i, i < n ∧ f i = y := by
  refine Classical.byContradiction fun hno => ?_
  have hnd : ((List.range n).map f).Nodup := by
    rw [List.nodup_iff_pairwise_ne, List.pairwise_map]
    refine List.Pairwise.imp_of_mem ?_ List.pairwise_lt_range
    intro a b _ hb hab
    exact inj a b hab (List.mem_range.1 hb)
  have hsub : ∀ x ∈ (List.range n).map f, x ∈ (List.range n).erase y := by
    intro x hx
    obtain ⟨i, hi, rfl⟩ := List.mem_map.1 hx
    have hi := List.mem_range.1 hi
    exact (List.mem_erase_of_ne fun e => hno ⟨i, hi, e⟩).2 (List.mem_range.2 (hf i hi))
  have := len_le hnd hsub
  rw [List.length_map, List.length_range, List.length_erase_of_mem (List.mem_range.2 hy), List.length_range] at this
  omega

structure Prim (q : Nat) : Prop where
  one : 1 < q
  dvd : ∀ d, d ∣ q → d = 1 ∨ d = q

def prod : List Nat → Nat
  | [] => 1
  | q :: l => q * prod l

theorem factor_in : ∀ {l : List Nat}, (∀ q ∈ l, Prim q) → ∀ c, 1 < c → c ∣ prod l → ∃ q ∈ l, q ∣ c
  | [], _, c, h1, h2 => by
    have := Nat.le_of_dvd (by decide) h2
    simp only [prod] at this
    omega
  | q :: l, hl, c, h1, h2 => by
    have hq := hl q (List.mem_cons_self ..)
    rcases hq.dvd (Nat.gcd c q) (Nat.gcd_dvd_right c q) with h | h
    · obtain ⟨r, hr, hd⟩ := factor_in (fun x hx => hl x (List.mem_cons_of_mem _ hx)) c h1 (Nat.Coprime.dvd_of_dvd_mul_left (m := q) (n := prod l) h h2)
      exact ⟨r, List.mem_cons_of_mem _ hr, hd⟩
    · exact ⟨q, List.mem_cons_self .., h ▸ Nat.gcd_dvd_left c q⟩

section
variable {N g : Nat}

theorem pow_mod_one {a : Nat} (h : g ^ a % N = 1 % N) (k : Nat) : g ^ (a * k) % N = 1 % N := by
  rw [Nat.pow_mul, Nat.pow_mod, h, ← Nat.pow_mod, Nat.one_pow]

theorem pow_gcd (a b : Nat) (ha : g ^ a % N = 1 % N) (hb : g ^ b % N = 1 % N) : g ^ Nat.gcd a b % N = 1 % N := by
  induction a, b using Nat.gcd.induction with
  | H0 b => rw [Nat.gcd_zero_left]; exact hb
  | H1 a b hpos ih =>
    rw [Nat.gcd_rec]
    refine ih ?_ ha
    have e : g ^ b = g ^ (a * (b / a)) * g ^ (b % a) := by rw [← Nat.pow_add, Nat.div_add_mod]
    rw [e, Nat.mul_mod, pow_mod_one ha, ← Nat.mul_mod, Nat.one_mul] at hb
    exact hb

/-- The certificate: g^(N-1) is 1, and no g^((N-1)/q) is. -/
structure Cert (N g : Nat) (l : List Nat) : Prop where
  two : 2 < N
  prod : prod l = N - 1
  prim : ∀ q ∈ l, Prim q
  all : g ^ (N - 1) % N = 1
  each : ∀ q ∈ l, g ^ ((N - 1) / q) % N ≠ 1

variable {l : List Nat} (C : Cert N g l)
include C

theorem Cert.order (d : Nat) (h0 : 0 < d) (h1 : d < N - 1) : g ^ d % N ≠ 1 := by
  have hN := C.two
  have e1 : 1 % N = 1 := Nat.mod_eq_of_lt (by omega)
  intro hd
  have hg := pow_gcd d (N - 1) (by rw [e1]; exact hd) (by rw [e1]; exact C.all)
  obtain ⟨c, hc⟩ := Nat.gcd_dvd_right d (N - 1)
  have hle : Nat.gcd d (N - 1) ≤ d := Nat.le_of_dvd h0 (Nat.gcd_dvd_left d (N - 1))
  have hc1 : 1 < c := by
    rcases Nat.lt_or_ge 1 c with h | h
    · exact h
    · have : Nat.gcd d (N - 1) * c ≤ Nat.gcd d (N - 1) * 1 := Nat.mul_le_mul_left _ h
      omega
  obtain ⟨q, hq, k, hk⟩ := factor_in C.prim c hc1 (by rw [C.prod, hc]; exact Nat.dvd_mul_left _ _)
  have hq0 := (C.prim q hq).one
  refine C.each q hq ?_
  have : (N - 1) / q = Nat.gcd d (N - 1) * k := by
    generalize Nat.gcd d (N - 1) = e at *
    rw [hc, hk, show e * (q * k) = q * (e * k) from Nat.mul_left_comm _ _ _, Nat.mul_div_cancel_left _ (by omega)]
  rw [this, pow_mod_one hg, e1]

theorem Cert.fermat (u : Nat) (h0 : 0 < u) (h1 : u < N) : u ^ (N - 1) % N = 1 := by
  have hN := C.two
  have e1 : 1 % N = 1 := Nat.mod_eq_of_lt (by omega)
  have hall : g ^ (N - 1) % N = 1 % N := by rw [e1]; exact C.all
  have hpos : ∀ i, i ≤ N - 1 → g ^ i % N ≠ 0 := by
    intro i hi e
    have h2 : g ^ (N - 1) = g ^ i * g ^ (N - 1 - i) := by rw [← Nat.pow_add]; congr 1; omega
    have h3 := C.all
    rw [h2, Nat.mul_mod, e] at h3
    simp at h3
  have hlt : ∀ i, g ^ i % N < N := fun i => Nat.mod_lt _ (by omega)
  obtain ⟨i, hi, e⟩ := pigeon (N - 1) (fun i => g ^ i % N - 1) (fun i hi => by have := hpos i (by omega); have := hlt i; show g ^ i % N - 1 < N - 1; omega) (by
    intro i j hij hj e
    have p1 := hpos i (by omega)
    have p2 := hpos j (by omega)
    have e2 : g ^ i % N = g ^ j % N := by
      have e : g ^ i % N - 1 = g ^ j % N - 1 := e
      omega
    refine C.order (j - i) (by omega) (by omega) ?_
    have h2 : g ^ (N - 1 + (j - i)) = g ^ j * g ^ (N - 1 - i) := by rw [← Nat.pow_add]; congr 1; omega
    have h3 : g ^ (N - 1) = g ^ i * g ^ (N - 1 - i) := by rw [← Nat.pow_add]; congr 1; omega
    have h4 : g ^ (N - 1 + (j - i)) % N = 1 % N := by rw [h2, Nat.mul_mod, ← e2, ← Nat.mul_mod, ← h3]; exact hall
    rw [Nat.pow_add, Nat.mul_mod, C.all, Nat.one_mul, Nat.mod_mod] at h4
    rw [h4, e1]) (u - 1) (by omega)
  have e : g ^ i % N - 1 = u - 1 := e
  have hu : u = g ^ i % N := by
    have := hpos i (by omega)
    omega
  rw [hu, ← Nat.pow_mod, ← Nat.pow_mul, Nat.mul_comm, pow_mod_one hall, e1]

theorem Cert.is_prim : Prim N := by
  have hN := C.two
  refine ⟨by omega, fun d hd => ?_⟩
  by_cases h1 : d = 1
  · exact .inl h1
  · by_cases h2 : d = N
    · exact .inr h2
    · have hle := Nat.le_of_dvd (by omega) hd
      have h0 : d ≠ 0 := fun e => by rw [e] at hd; have := Nat.eq_zero_of_zero_dvd hd; omega
      have hf := C.fermat d (by omega) (by omega)
      have hd2 : d ∣ d ^ (N - 1) := ⟨d ^ (N - 2), by rw [← Nat.pow_succ']; congr 1; omega⟩
      have : d ∣ 1 := by
        rw [← hf]
        exact (Nat.dvd_mod_iff hd).2 hd2
      exact absurd (Nat.dvd_one.1 this) h1

end

/-! ### Powers, reckoned -/

def pm (N : Nat) : Nat → Nat → Nat → Nat
  | 0, _, _ => 1 % N
  | f + 1, b, e => match Nat.beq (e % 2) 1 with
    | true => b * pm N f (b * b % N) (e / 2) % N
    | false => pm N f (b * b % N) (e / 2)

theorem pm_eq (N : Nat) : ∀ (f b e : Nat), e < 2 ^ f → pm N f b e = b ^ e % N
  | 0, b, e, h => by
    have : e = 0 := by simpa using h
    rw [this]; rfl
  | f + 1, b, e, h => by
    have h2 : e / 2 < 2 ^ f := by rw [Nat.pow_succ] at h; omega
    have ih := pm_eq N f (b * b % N) (e / 2) h2
    have e3 : (b * b % N) ^ (e / 2) % N = b ^ (2 * (e / 2)) % N := by rw [← Nat.pow_mod, Nat.pow_mul, Nat.pow_two]
    unfold pm
    cases hb : Nat.beq (e % 2) 1 with
    | true =>
      have h4 : e = 2 * (e / 2) + 1 := by have := Nat.eq_of_beq_eq_true hb; omega
      show b * pm N f (b * b % N) (e / 2) % N = _
      rw [ih, e3, Nat.mul_mod, Nat.mod_mod, ← Nat.mul_mod, ← Nat.pow_succ']
      conv => rhs; rw [h4]
    | false =>
      have h4 : e = 2 * (e / 2) := by have := Nat.ne_of_beq_eq_false hb; omega
      show pm N f (b * b % N) (e / 2) = _
      rw [ih, e3]
      conv => rhs; rw [h4]

/-- The certificate's reckonings, in one closed fact. -/
def certOk (N g : Nat) (l : List Nat) : Bool :=
  Nat.blt 2 N && Nat.beq (prod l) (N - 1) && Nat.blt (N - 1) (2 ^ 256) && Nat.beq (pm N 256 g (N - 1)) 1 && l.all fun q => !(Nat.beq (pm N 256 g ((N - 1) / q)) 1)

theorem cert_of {N g : Nat} {l : List Nat} (h : certOk N g l = true) (hp : ∀ q ∈ l, Prim q) : Cert N g l := by
  simp only [certOk, Bool.and_eq_true] at h
  obtain ⟨⟨⟨⟨h1, h2⟩, h3⟩, h4⟩, h5⟩ := h
  have h3 : N - 1 < 2 ^ 256 := Nat.le_of_ble_eq_true h3
  have h4 := Nat.eq_of_beq_eq_true h4
  rw [pm_eq N 256 g (N - 1) h3] at h4
  refine ⟨Nat.le_of_ble_eq_true h1, Nat.eq_of_beq_eq_true h2, hp, h4, fun q hq e => ?_⟩
  have := List.all_eq_true.1 h5 q hq
  rw [pm_eq N 256 g _ (Nat.lt_of_le_of_lt (Nat.div_le_self _ _) h3), e] at this
  exact absurd this (by decide)

/-! ### Small primes -/

def trial (n : Nat) : Nat → Nat → Bool
  | 0, _ => false
  | f + 1, d => match Nat.blt n (d * d) with
    | true => true
    | false => match Nat.beq (n % d) 0 with
      | true => false
      | false => trial n f (d + 1)

theorem trial_prim {n : Nat} (hn : 1 < n) : ∀ (f d : Nat), 2 ≤ d → (∀ e, 2 ≤ e → e < d → ¬ e ∣ n) → trial n f d = true → Prim n
  | 0, _, _, _, h => by cases h
  | f + 1, d, hd, hs, h => by
    unfold trial at h
    cases h1 : Nat.blt n (d * d) with
    | true =>
      have h1 : n < d * d := Nat.le_of_ble_eq_true h1
      refine ⟨hn, fun k hk => ?_⟩
      by_cases k1 : k = 1
      · exact .inl k1
      · by_cases k2 : k = n
        · exact .inr k2
        · obtain ⟨m, hm⟩ := id hk
          have hk0 : k ≠ 0 := fun e => by rw [e, Nat.zero_mul] at hm; omega
          have hm1 : m ≠ 1 := fun e => by rw [e, Nat.mul_one] at hm; exact k2 hm.symm
          have hm0 : m ≠ 0 := fun e => by rw [e, Nat.mul_zero] at hm; omega
          have a1 : ¬ k < d := fun h => hs k (by omega) h hk
          have a2 : ¬ m < d := fun h => hs m (by omega) h ⟨k, by rw [hm, Nat.mul_comm]⟩
          have := Nat.mul_le_mul (show d ≤ k by omega) (show d ≤ m by omega)
          omega
    | false =>
      rw [h1] at h
      cases h2 : Nat.beq (n % d) 0 with
      | true => rw [h2] at h; cases h
      | false =>
        rw [h2] at h
        refine trial_prim hn f (d + 1) (by omega) (fun e he hlt => ?_) h
        by_cases e1 : e = d
        · rw [e1]
          intro hdv
          exact Nat.ne_of_beq_eq_false h2 (Nat.mod_eq_zero_of_dvd hdv)
        · exact hs e he (by omega)

theorem small_prim {n : Nat} (h : (Nat.blt 1 n && trial n 400 2) = true) : Prim n := by
  rw [Bool.and_eq_true] at h
  exact trial_prim (Nat.le_of_ble_eq_true h.1) 400 2 (Nat.le_refl 2) (fun e h1 h2 => by omega) h.2

end Go.Ev
