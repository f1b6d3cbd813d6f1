/-
  An evaluator of loaded Go code over abstract values, part 3: types, and memory: loads and stores on abstract blocks, and what they do in the world.
  Conditions: those that the evaluator lists as it goes; nothing here names a program.
-/
import Derived.Test.YtnndhmnabbkamaaEv2
namespace Go.Ev
open Go

/-! ### Types -/

def eqV : Value → Value → Bool
  | .int _ a, .int _ b => a == b
  | .bool a, .bool b => a == b
  | .string a, .string b => a.toList == b.toList
  | _, _ => false

def eqVs : List Value → List Value → Bool
  | [], [] => true
  | a :: x, b :: y => eqV a b && eqVs x y
  | _, _ => false

def EK.fits : EK → Value → Prop
  | .int k, v => ∃ n, v = .int k n
  | .bool, v => ∃ b, v = .bool b
  | .str, v => ∃ s, v = .string s

def Fits : List EK → List Value → Prop
  | [], [] => True
  | k :: ks, v :: vs => k.fits v ∧ Fits ks vs
  | _, _ => False

def FlatOk (P : Program) (t : TypeId) (ks : List EK) : Prop :=
  P.eqGuardType P.depth t = false ∧
  ∀ (w : World) (xs ys : List Value), Fits ks xs → Fits ks ys → (Op.equalIn 10000 t (.agg xs.toArray) (.agg ys.toArray)).run P w = .ok (eqVs xs ys) w

def isAggD : TypeDesc → Bool
  | .struct _ | .array _ _ => true
  | _ => false

structure TIOk (P : Program) (t : TypeId) (ti : TI) : Prop where
  und : P.underlying t = some ti.und
  size : (P.info? t).map (·.size) = some ti.size
  bytes : (P.info? t).map (·.bytes) = some ti.bytes
  zero : ∀ ψ, (P.info? t).bind (·.zero) = some (ti.zero.c ψ)
  flat : ∀ ks, ti.flat = some ks → FlatOk P t ks

def TOk (P : Program) (T : TT) : Prop := ∀ t ti, T t = some ti → TIOk P t ti

section
variable {P : Program} {t : TypeId} {ti : TI} (h : TIOk P t ti) (w : World)
include h

theorem TIOk.run_und : (underlying t).run P w = .ok ti.und w := run_underlying h.und w

theorem TIOk.run_size : (sizeOf t).run P w = .ok ti.size w := by
  have := h.size
  cases hi : P.info? t with
  | none => rw [hi] at this; cases this
  | some i => rw [hi] at this; injection this with e; simp [sizeOf, typeInfo, hi, e]

theorem TIOk.run_isAgg : (isAgg t).run P w = .ok (isAggD ti.und) w := by
  unfold isAgg
  simp only [Sem.run_bind, h.run_und, Result.andThen_ok]
  cases ti.und <;> rfl

theorem TIOk.run_zero (ψ : PM) : (zeroValue t).run P w = .ok (ti.zero.c ψ) w := by
  have := h.zero ψ
  cases hi : P.info? t with
  | none => rw [hi] at this; cases this
  | some i =>
    rw [hi] at this
    simp only [Option.bind_some] at this
    simp [zeroValue, typeInfo, hi, this]

end

/-! ### One-cell values are values of one cell -/

theorem A0.one (ψ : PM) (x : A0) (hx : ∀ v, x = .val v → v.oneCell' = true) : (x.c ψ).oneCell' = true := by
  cases x with
  | val v => exact hx v rfl
  | _ => rfl

/-- Of a value that was not looked into: is it of one cell? -/
def A0.isOne : A0 → Bool
  | .val v => v.oneCell'
  | _ => true

def Cells.isOnes : Cells → Bool
  | .vals l => l.all A0.isOne
  | .ints _ _ => true

theorem A0.isOne_c {x : A0} (h : x.isOne = true) (ψ : PM) : (x.c ψ).oneCell' = true := by
  cases x with
  | val v => exact h
  | _ => rfl

theorem Cells.isOnes_c {c : Cells} (h : c.isOnes = true) (ψ : PM) : ∀ v ∈ c.c ψ, v.oneCell' = true := by
  intro v hv
  cases c with
  | vals l =>
    simp only [Cells.isOnes, List.all_eq_true] at h
    simp only [Cells.c, Cells.list, List.mem_map] at hv
    obtain ⟨x, hx, rfl⟩ := hv
    exact A0.isOne_c (h x hx) ψ
  | ints k l =>
    simp only [Cells.c, Cells.list, List.mem_map] at hv
    obtain ⟨x, ⟨n, _, rfl⟩, rfl⟩ := hv
    rfl

/-! ### Loads -/

def ld1 (c : Cells) (known : Bool) (off : Nat) : M A0 :=
  match c with
  | .vals l => match known with
    | true => get l[off]?
    | false => do
      let (k, m) ← get (toInts l)
      note (off < m.length)
      pure (.int k (m.getD off 0))
  | .ints k l => do
    note (off < l.length)
    pure (.int k (l.getD off 0))

theorem gives_ld1 {c : Cells} {known : Bool} {off : Nat} {x : A0} (h : Gives (ld1 c known off) x) (ψ : PM) : (c.c ψ)[off]? = some (x.c ψ) := by
  cases c with
  | vals l =>
    cases known with
    | true =>
      have := gives_get (h : Gives (get l[off]?) x)
      simp [Cells.c, Cells.list, this]
    | false =>
      obtain ⟨⟨k, m⟩, h1, h2⟩ := gives_then (h : Gives (get (toInts l) >>= _) x)
      obtain ⟨_, h3, h4⟩ := gives_then h2
      have hi := gives_note h3
      rw [gives_ok h4]
      have := toInts_c (ψ := ψ) (gives_get h1)
      rw [Cells.c, Cells.list, this]
      simp [A0.c, hi, List.getD]
  | ints k l =>
    obtain ⟨_, h3, h4⟩ := gives_then (h : Gives (note (off < l.length) >>= _) x)
    have hi := gives_note h3
    rw [gives_ok h4]
    simp [Cells.c, Cells.list, A0.c, hi, List.getD]

def ldN (whole : Bool) (c : Cells) (known : Bool) (off n : Nat) : M Cells :=
  match c with
  | .vals l => match known with
    | true => do
      need (Nat.beq ((l.drop off).take n).length n)
      pure (.vals ((l.drop off).take n))
    | false => do
      let (k, m) ← get (toInts l)
      note (off + n ≤ m.length)
      pure (.ints k ((m.drop off).take n))
  | .ints k l => match whole && Nat.beq off 0 with
    | true => do
      note (l.length = n)
      pure (.ints k l)
    | false => do
      note (off + n ≤ l.length)
      pure (.ints k ((l.drop off).take n))

theorem gives_ldN {whole : Bool} {c : Cells} {known : Bool} {off n : Nat} {x : Cells} (h : Gives (ldN whole c known off n) x) (ψ : PM) :
    x.c ψ = ((c.c ψ).drop off).take n ∧ (x.c ψ).length = n := by
  cases c with
  | vals l =>
    cases known with
    | true =>
      obtain ⟨_, h1, h2⟩ := gives_then (h : Gives (need _ >>= _) x)
      have hl := Nat.eq_of_beq_eq_true (gives_need h1)
      rw [gives_ok h2]
      simp only [Cells.c, Cells.list, List.map_take, List.map_drop, true_and]
      simp only [List.length_take, List.length_drop, List.length_map] at hl ⊢
      exact hl
    | false =>
      obtain ⟨⟨k, m⟩, h1, h2⟩ := gives_then (h : Gives (get (toInts l) >>= _) x)
      obtain ⟨_, h3, h4⟩ := gives_then h2
      have hi := gives_note h3
      rw [gives_ok h4]
      have := toInts_c (ψ := ψ) (gives_get h1)
      rw [Cells.c, Cells.list, show (Cells.vals l).c ψ = m.map (Value.int k) from this]
      simp only [List.map_map, List.map_take, List.map_drop, Function.comp_def, A0.c, List.length_take, List.length_drop, List.length_map, true_and]
      omega
  | ints k l =>
    cases hw : (whole && Nat.beq off 0) with
    | true =>
      have h' : Gives (do note (l.length = n); pure (Cells.ints k l) : M Cells) x := by
        have := h; unfold ldN at this; simp only [hw] at this; exact this
      obtain ⟨_, h3, h4⟩ := gives_then h'
      have hi := gives_note h3
      rw [gives_ok h4]
      have ho : off = 0 := by
        have : Nat.beq off 0 = true := by cases whole <;> simp_all
        exact Nat.eq_of_beq_eq_true this
      subst ho
      simp only [Cells.c, Cells.list, List.map_map, List.length_map, List.drop_zero, hi, and_true]
      rw [List.take_of_length_le]
      simp [hi]
    | false =>
      have h' : Gives (do note (off + n ≤ l.length); pure (Cells.ints k ((l.drop off).take n)) : M Cells) x := by
        have := h; unfold ldN at this; simp only [hw] at this; exact this
      obtain ⟨_, h3, h4⟩ := gives_then h'
      have hi := gives_note h3
      rw [gives_ok h4]
      simp only [Cells.c, Cells.list, List.map_map, List.map_take, List.map_drop, List.length_take, List.length_drop, List.length_map, true_and]
      omega

theorem BlkAt.cell {ψ : PM} {w : World} {n : Nat} {b : Blk} (h : BlkAt ψ w n b) (hd : b.dead = false) {k : Nat} {v : Value} (hk : (b.c.c ψ)[k]? = some v) : w.cell? (adr ψ n k) = some v := by
  unfold BlkAt at h
  unfold Blk.dead at hd
  cases ho : b.kind with
  | own =>
    rw [ho] at h
    obtain ⟨h0, tail, _, hg⟩ := h
    have hk' : (b.c.c ψ ++ tail)[k]? = some v := by rw [List.getElem?_append_left (List.getElem?_eq_some_iff.1 hk).1]; exact hk
    simp only [adr, World.cell?, h0, hg, Nat.zero_add]
    simpa using hk'
  | view =>
    rw [ho] at h
    exact h.2 k v hk
  | dead => rw [ho] at hd; cases hd

theorem adr_add (ψ : PM) (n off k : Nat) : (adr ψ n off).add k = adr ψ n (off + k) := by
  unfold adr Addr.add
  split
  · rename_i e; subst e; rfl
  · simp [Nat.add_assoc]

def ldVar (T : TT) (t : TypeId) (b : Blk) (known : Bool) (off : Nat) : M AT := do
  let ti ← get (T t)
  need (!b.dead)
  match isAggD ti.und with
  | true => do
    let c ← ldN (Nat.beq b.e t) b.c known off ti.size
    pure (.agg c)
  | false => do
    let x ← ld1 b.c known off
    pure (.one x)

theorem gives_ldVar {P : Program} {T : TT} (hT : TOk P T) {t : TypeId} {b : Blk} {known : Bool} {off : Nat} {x : AT} (h : Gives (ldVar T t b known off) x)
    {ψ : PM} {w : World} {n : Nat} (hb : BlkAt ψ w n b) : (loadVar t (adr ψ n off)).run P w = .ok (x.c ψ) w := by
  obtain ⟨ti, h1, h2'⟩ := gives_then h
  obtain ⟨_, hd', h2⟩ := gives_then h2'
  have hd : b.dead = false := by have := gives_need hd'; simpa using this
  have hti := hT t ti (gives_get h1)
  unfold loadVar
  simp only [Sem.run_bind, hti.run_isAgg, Result.andThen_ok]
  cases ha : isAggD ti.und with
  | true =>
    rw [ha] at h2
    obtain ⟨c, h3, h4⟩ := gives_then (h2 : Gives (ldN (Nat.beq b.e t) b.c known off ti.size >>= _) x)
    rw [gives_ok h4]
    obtain ⟨e1, e2⟩ := gives_ldN h3 ψ
    have hl := run_loadCells_list (P := P) w (adr ψ n off) (c.c ψ) (fun j v hj => by
      rw [adr_add]
      refine hb.cell hd ?_
      rw [e1, List.getElem?_take] at hj
      split at hj
      · simpa [List.getElem?_drop] using hj
      · cases hj)
    rw [e2] at hl
    simp only [if_true, Sem.run_bind, hti.run_size, Result.andThen_ok, hl]
    rfl
  | false =>
    rw [ha] at h2
    obtain ⟨c, h3, h4⟩ := gives_then (h2 : Gives (ld1 b.c known off >>= _) x)
    rw [gives_ok h4]
    have := hb.cell hd (gives_ld1 h3 ψ)
    simp [this, AT.c]

/-! ### Stores -/

def lenIs (c : Cells) (n : Nat) : M Unit :=
  match c with
  | .vals l => need (Nat.beq l.length n)
  | .ints _ l => note (l.length = n)

theorem gives_lenIs {c : Cells} {n : Nat} {u : Unit} (h : Gives (lenIs c n) u) (ψ : PM) : (c.c ψ).length = n := by
  cases c with
  | vals l => have := Nat.eq_of_beq_eq_true (gives_need h); simpa [Cells.c, Cells.list] using this
  | ints k l => have := gives_note h; simpa [Cells.c, Cells.list] using this

def st1 (c : Cells) (known : Bool) (off : Nat) (x : A0) : M Cells :=
  match c with
  | .vals l => match known with
    | true => do
      need (Nat.blt off l.length)
      pure (.vals (l.set off x))
    | false => do
      let (k, m) ← get (toInts l)
      let (_, k', y) ← asNum x
      need (decide (k = k'))
      note (off < m.length)
      pure (.ints k (m.set off y))
  | .ints k l => do
    let (_, k', y) ← asNum x
    need (decide (k = k'))
    note (off < l.length)
    pure (.ints k (l.set off y))

theorem set_splice {α : Type} (l : List α) (off : Nat) (x : α) (h : off < l.length) : l.set off x = l.take off ++ [x] ++ l.drop (off + 1) := by
  apply List.ext_getElem?
  intro j
  simp only [List.getElem?_set, List.getElem?_append, List.length_append, List.length_take, List.length_singleton, List.getElem?_take, List.getElem?_drop]
  have hm : min off l.length = off := by omega
  rw [hm]
  by_cases h1 : j < off
  · simp [h1, show ¬ off = j by omega, show j < off + 1 by omega]
  · by_cases h2 : j = off
    · subst h2; simp [h]
    · have : off + 1 + (j - (off + 1)) = j := by omega
      simp [show ¬ off = j by omega, show ¬ j < off + 1 by omega, this]

theorem gives_st1 {c : Cells} {known : Bool} {off : Nat} {x : A0} {r : Cells} (h : Gives (st1 c known off x) r) (ψ : PM) :
    r.c ψ = (c.c ψ).take off ++ [x.c ψ] ++ (c.c ψ).drop (off + 1) ∧ off + 1 ≤ (c.c ψ).length := by
  cases c with
  | vals l =>
    cases known with
    | true =>
      obtain ⟨_, h1, h2⟩ := gives_then (h : Gives (need _ >>= _) r)
      have hl : off < l.length := by have := gives_need h1; simpa [Nat.blt_eq] using this
      rw [gives_ok h2]
      refine ⟨?_, by simp [Cells.c, Cells.list]; omega⟩
      simp only [Cells.c, Cells.list, List.map_set]
      rw [set_splice _ _ _ (by simpa using hl)]
    | false =>
      obtain ⟨⟨k, m⟩, h1, h2⟩ := gives_then (h : Gives (get (toInts l) >>= _) r)
      obtain ⟨⟨b, k', y⟩, h3, h4⟩ := gives_then h2
      obtain ⟨_, h5, h6⟩ := gives_then h4
      obtain ⟨_, h7, h8⟩ := gives_then h6
      have hk : k = k' := of_decide_eq_true (gives_need h5)
      subst hk
      have hi := gives_note h7
      rw [gives_ok h8]
      have e := toInts_c (ψ := ψ) (gives_get h1)
      have ex := gives_asNum h3 ψ
      rw [show (Cells.vals l).c ψ = m.map (Value.int k) from e, ex]
      refine ⟨?_, by simp; omega⟩
      simp only [Cells.c, Cells.list, List.map_map]
      rw [← set_splice _ _ _ (by simpa using hi)]
      simp [Function.comp_def, A0.c, List.map_set]
  | ints k l =>
    obtain ⟨⟨b, k', y⟩, h3, h4⟩ := gives_then (h : Gives (asNum x >>= _) r)
    obtain ⟨_, h5, h6⟩ := gives_then h4
    obtain ⟨_, h7, h8⟩ := gives_then h6
    have hk : k = k' := of_decide_eq_true (gives_need h5)
    subst hk
    have hi := gives_note h7
    rw [gives_ok h8]
    have ex := gives_asNum h3 ψ
    rw [ex]
    refine ⟨?_, by simp [Cells.c, Cells.list]; omega⟩
    simp only [Cells.c, Cells.list, List.map_map]
    rw [← set_splice _ _ _ (by simpa using hi)]
    simp [Function.comp_def, A0.c, List.map_set]

def stN (whole : Bool) (c : Cells) (known : Bool) (off : Nat) (x : Cells) (n : Nat) : M Cells := do
  lenIs x n
  match whole && Nat.beq off 0 with
  | true => do
    lenIs c n
    pure x
  | false => match c with
    | .vals l => match known, x with
      | true, .vals m => do
        need (Nat.ble (off + n) l.length)
        pure (.vals (l.take off ++ m ++ l.drop (off + n)))
      | _, _ => do
        let (k, l) ← get (toInts l)
        let (k', m) ← get (cellsInts x)
        need (decide (k = k'))
        note (off + n ≤ l.length)
        pure (.ints k (l.take off ++ m ++ l.drop (off + n)))
    | .ints k l => do
      let (k', m) ← get (cellsInts x)
      need (decide (k = k'))
      note (off + n ≤ l.length)
      pure (.ints k (l.take off ++ m ++ l.drop (off + n)))

theorem gives_stN {whole : Bool} {c : Cells} {known : Bool} {off : Nat} {x : Cells} {n : Nat} {r : Cells} (h : Gives (stN whole c known off x n) r) (ψ : PM) :
    r.c ψ = (c.c ψ).take off ++ x.c ψ ++ (c.c ψ).drop (off + n) ∧ off + n ≤ (c.c ψ).length ∧ (x.c ψ).length = n := by
  obtain ⟨_, h1, h2⟩ := gives_then h
  have hx := gives_lenIs h1 ψ
  cases hw : (whole && Nat.beq off 0) with
  | true =>
    rw [hw] at h2
    obtain ⟨_, h3, h4⟩ := gives_then (h2 : Gives (lenIs c n >>= _) r)
    have hc := gives_lenIs h3 ψ
    rw [gives_ok h4]
    have ho : off = 0 := by
      have : Nat.beq off 0 = true := by cases whole <;> simp_all
      exact Nat.eq_of_beq_eq_true this
    subst ho
    refine ⟨?_, by omega, hx⟩
    rw [List.take_zero, List.nil_append, List.drop_of_length_le (by omega), List.append_nil]
  | false =>
    rw [hw] at h2
    have ints : ∀ (k : IntKind) (l : List Int), c.c ψ = l.map (Value.int k) → Gives (do
        let (k', m) ← get (cellsInts x)
        need (decide (k = k'))
        note (off + n ≤ l.length)
        pure (.ints k (l.take off ++ m ++ l.drop (off + n))) : M Cells) r → r.c ψ = (c.c ψ).take off ++ x.c ψ ++ (c.c ψ).drop (off + n) ∧ off + n ≤ (c.c ψ).length ∧ (x.c ψ).length = n := by
      intro k l ec hg
      obtain ⟨⟨k', m⟩, h3, h4⟩ := gives_then hg
      obtain ⟨_, h5, h6⟩ := gives_then h4
      obtain ⟨_, h7, h8⟩ := gives_then h6
      have hk : k = k' := of_decide_eq_true (gives_need h5)
      subst hk
      have hl := gives_note h7
      rw [gives_ok h8]
      have ex := cellsInts_c (ψ := ψ) (gives_get h3)
      refine ⟨?_, by rw [ec]; simpa using hl, hx⟩
      rw [ex, ec]
      simp [Cells.c, Cells.list, List.map_append, List.map_take, List.map_drop, Function.comp_def, A0.c]
    cases c with
    | vals l =>
      have conv : Gives (do
        let (k, l) ← get (toInts l)
        let (k', m) ← get (cellsInts x)
        need (decide (k = k'))
        note (off + n ≤ l.length)
        pure (.ints k (l.take off ++ m ++ l.drop (off + n))) : M Cells) r → r.c ψ = ((Cells.vals l).c ψ).take off ++ x.c ψ ++ ((Cells.vals l).c ψ).drop (off + n) ∧ off + n ≤ ((Cells.vals l).c ψ).length ∧ (x.c ψ).length = n := by
        intro hg
        obtain ⟨⟨k, l'⟩, h3, h4⟩ := gives_then hg
        exact ints k l' (toInts_c (gives_get h3)) h4
      cases known with
      | false => exact conv h2
      | true =>
        cases x with
        | ints k m => exact conv h2
        | vals m =>
          obtain ⟨_, h3, h4⟩ := gives_then (h2 : Gives (need _ >>= _) r)
          have hl := Nat.le_of_ble_eq_true (gives_need h3)
          rw [gives_ok h4]
          refine ⟨?_, by simpa [Cells.c, Cells.list] using hl, hx⟩
          simp [Cells.c, Cells.list, List.map_append, List.map_take, List.map_drop]
    | ints k l => exact ints k l (cellsInts_c (c := .ints k l) rfl) h2

/-- A store of a variable of the type t. -/
def stVar (T : TT) (t : TypeId) (b : Blk) (known : Bool) (off : Nat) (x : AT) : M Blk := do
  let ti ← get (T t)
  need b.own
  match x with
  | .one y => do
    need (Nat.beq ti.size 1)
    need y.isOne
    let c ← st1 b.c known off y
    pure { b with c }
  | .agg y => do
    need y.isOnes
    let c ← stN (Nat.beq b.e t) b.c known off y ti.size
    pure { b with c }

theorem gives_stVar {P : Program} {T : TT} (hT : TOk P T) {t : TypeId} {b : Blk} {known : Bool} {off : Nat} {x : AT} {r : Blk} (h : Gives (stVar T t b known off x) r)
    {ψ : PM} {w : World} {n : Nat} (hb : BlkAt ψ w n b) :
    b.own = true ∧ r.own = true ∧ r.e = b.e ∧ r.room = b.room ∧ (r.c.c ψ).length = (b.c.c ψ).length ∧
    ∃ tail, Room b.room (ψ n).cap (b.c.c ψ) tail ∧ w.heap[(ψ n).b]? = some (.cells (b.c.c ψ ++ tail).toArray b.e (0, 0)) ∧
      (storeVar t (adr ψ n off) (x.c ψ)).run P w = .ok () (w.setRow (ψ n).b (r.c.c ψ ++ tail).toArray) := by
  obtain ⟨ti, h1, h2⟩ := gives_then h
  have hti := hT t ti (gives_get h1)
  obtain ⟨_, h3, h4⟩ := gives_then h2
  have ho := gives_need h3
  have hb' := hb
  unfold BlkAt at hb'
  rw [Blk.own_kind ho] at hb'
  obtain ⟨hz, tail, hroom, hg⟩ := hb'
  have key : ∀ (vs : List Value) (rc : Cells), (∀ v ∈ vs, v.oneCell' = true) → rc.c ψ = (b.c.c ψ).take off ++ vs ++ (b.c.c ψ).drop (off + vs.length) → off + vs.length ≤ (b.c.c ψ).length →
      (rc.c ψ).length = (b.c.c ψ).length ∧ (storeCells (adr ψ n off) vs).run P w = .ok () (w.setRow (ψ n).b (rc.c ψ ++ tail).toArray) := by
    intro vs rc hv e hl
    have := run_storeCells_at P (ψ n).b off b.e vs 0 (b.c.c ψ ++ tail).toArray w hg (by simp; omega) hv
    refine ⟨by rw [e]; simp; omega, ?_⟩
    unfold adr
    rw [hz, Nat.zero_add, this, e]
    congr 3
    simp only [Nat.add_zero]
    rw [List.take_append_of_le_length (by omega), List.drop_append_of_le_length (by omega)]
    simp
  cases x with
  | one y =>
    obtain ⟨_, h5, h6⟩ := gives_then (h4 : Gives (need _ >>= _) r)
    have hs := Nat.eq_of_beq_eq_true (gives_need h5)
    obtain ⟨_, h7, h8⟩ := gives_then h6
    have hy := gives_need h7
    obtain ⟨c, h9, h10⟩ := gives_then h8
    obtain ⟨e1, e2⟩ := gives_st1 h9 ψ
    rw [gives_ok h10]
    have hone := A0.isOne_c hy ψ
    have hcells : ((AT.one y).c ψ).cells = #[y.c ψ] := by
      show Value.cells (y.c ψ) = _
      cases hv : y.c ψ with
      | agg l => rw [hv] at hone; cases hone
      | _ => rfl
    have hk := key [y.c ψ] c (by intro v hv; simp at hv; rw [hv]; exact hone) (by simpa using e1) (by simpa using e2)
    refine ⟨ho, ho, rfl, rfl, hk.1, tail, hroom, hg, ?_⟩
    unfold storeVar
    simp only [hcells, Sem.run_bind, hti.run_size, Result.andThen_ok, hs]
    simpa using hk.2
  | agg y =>
    obtain ⟨_, h5, h6⟩ := gives_then (h4 : Gives (need _ >>= _) r)
    have hy := gives_need h5
    obtain ⟨c, h7, h8⟩ := gives_then h6
    obtain ⟨e1, e2, e3⟩ := gives_stN h7 ψ
    rw [gives_ok h8]
    have hk := key (y.c ψ) c (Cells.isOnes_c hy ψ) (by rw [e3]; exact e1) (by rw [e3]; exact e2)
    refine ⟨ho, ho, rfl, rfl, hk.1, tail, hroom, hg, ?_⟩
    unfold storeVar
    have hcells : ((AT.agg y).c ψ).cells = (y.c ψ).toArray := rfl
    simp only [hcells, Sem.run_bind, hti.run_size, Result.andThen_ok]
    simp only [List.size_toArray, e3, ne_eq, not_true_eq_false, if_false]
    exact hk.2

/-! ### What stores and new blocks do to the relation -/

/-- A name's place, laid anew. -/
def PM.put (ψ : PM) (n : Nat) (p : Pl) : PM := fun m => match Nat.beq m n with | true => p | false => ψ m

theorem PM.put_same (ψ : PM) (n : Nat) (p : Pl) : ψ.put n p n = p := by simp [PM.put, Nat.beq_refl]
theorem PM.put_other (ψ : PM) {n m : Nat} (p : Pl) (h : m ≠ n) : ψ.put n p m = ψ m := by
  unfold PM.put
  cases e : Nat.beq m n with
  | false => rfl
  | true => exact absurd (Nat.eq_of_beq_eq_true e) h

theorem HRel.alloc {ψ : PM} {h : Heap} {w : World} (hr : HRel ψ h w) (n cap : Nat) (b : Blk) (tail : List Value) (hb : b.own = true) (ht : Room b.room cap (b.c.c ψ) tail)
    (hn : Heap.noRef n h = true) (hbn : b.c.noRef n = true) :
    HRel (ψ.put n ⟨w.heap.size, 0, cap⟩) (hput h n b) (w.alloc (.cells (b.c.c ψ ++ tail).toArray b.e)) ∧
    Post ψ w h (ψ.put n ⟨w.heap.size, 0, cap⟩) (w.alloc (.cells (b.c.c ψ ++ tail).toArray b.e)) [n] [n] := by
  have hs : ∀ m, m ≠ n → ψ.put n ⟨w.heap.size, 0, cap⟩ m = ψ m := fun m hm => PM.put_other ψ _ hm
  have old : ∀ i, i < w.heap.size → (w.alloc (.cells (b.c.c ψ ++ tail).toArray b.e)).heap[i]? = w.heap[i]? := fun i hi => heap_alloc_old w _ i hi
  refine ⟨⟨?_, ?_⟩, ?_⟩
  · intro m x hx
    by_cases hm : m = n
    · subst hm
      rw [hget_hput_same] at hx
      cases hx
      unfold BlkAt
      rw [Blk.own_kind hb]
      simp only [PM.put_same]
      refine ⟨trivial, tail, ?_, ?_⟩
      · rw [Cells.c_congr hs hbn]; exact ht
      · rw [Cells.c_congr hs hbn]
        exact heap_alloc_new w _
    · rw [hget_hput_other _ _ hm] at hx
      have hnr : x.c.noRef n = true := List.all_eq_true.1 hn _ (hget_mem hx)
      have := hr.at_ m x hx
      exact this.keep (hs m hm) (Cells.c_congr hs hnr) (by simp) fun hd => old _ (this.lt hd)
  · intro m k x y hx hy hxo hyd hxy
    have hxd : x.dead = false := by unfold Blk.dead; rw [Blk.own_kind hxo]; rfl
    by_cases hm : m = n
    · by_cases hk : k = n
      · rw [hm, hk]
      · exfalso
        rw [hget_hput_other _ _ hk] at hy
        rw [hs k hk, hm, PM.put_same] at hxy
        have := (hr.at_ k y hy).lt hyd
        simp only at hxy
        omega
    · by_cases hk : k = n
      · exfalso
        rw [hget_hput_other _ _ hm] at hx
        rw [hs m hm, hk, PM.put_same] at hxy
        have := (hr.at_ m x hx).lt hxd
        simp only at hxy
        omega
      · rw [hget_hput_other _ _ hm] at hx
        rw [hget_hput_other _ _ hk] at hy
        rw [hs m hm, hs k hk] at hxy
        exact hr.inj m k x y hx hy hxo hyd hxy
  · refine ⟨?_, fun b hb _ => old b hb, ?_, fun m hm => .inl hm, by simp, rfl, rfl, rfl⟩
    · intro m hm
      exact hs m (by simpa using hm)
    · intro m hm hlt
      simp only [List.mem_singleton] at hm
      subst hm
      rw [PM.put_same] at hlt
      simp at hlt

theorem HRel.store {ψ : PM} {h : Heap} {w : World} (hr : HRel ψ h w) {n : Nat} {b r : Blk} (hg : hget h n = some b) (hb : b.own = true) (hro : r.own = true) (hre : r.e = b.e)
    {tail tail' : List Value} (ht' : Room r.room (ψ n).cap (r.c.c ψ) tail') (hat : w.heap[(ψ n).b]? = some (.cells (b.c.c ψ ++ tail).toArray b.e (0, 0))) :
    HRel ψ (hput h n r) (w.setRow (ψ n).b (r.c.c ψ ++ tail').toArray) ∧ Post ψ w h ψ (w.setRow (ψ n).b (r.c.c ψ ++ tail').toArray) [n] [] := by
  have hat0 := hr.at_ n b hg
  unfold BlkAt at hat0
  rw [Blk.own_kind hb] at hat0
  have hother : ∀ i, i ≠ (ψ n).b → (w.setRow (ψ n).b (r.c.c ψ ++ tail').toArray).heap[i]? = w.heap[i]? := fun i hi => setRow_other w _ i _ hi
  refine ⟨⟨?_, ?_⟩, ?_⟩
  · intro m x hx
    by_cases hm : m = n
    · subst hm
      rw [hget_hput_same] at hx
      cases hx
      unfold BlkAt
      rw [Blk.own_kind hro]
      exact ⟨hat0.1, tail', ht', by rw [hre]; exact setRow_heap w _ _ _ _ _ hat⟩
    · rw [hget_hput_other _ _ hm] at hx
      have := hr.at_ m x hx
      exact this.keep rfl rfl (by simp) fun hd => hother _ fun e => hm (hr.inj n m b x hg hx hb hd e.symm).symm
  · intro m k x y hx hy hxo hyd hxy
    have back : ∀ j z, hget (hput h n r) j = some z → z.dead = false → ∃ z', hget h j = some z' ∧ z'.dead = false ∧ (z.own = true → z'.own = true) := by
      intro j z hz hd
      by_cases hj : j = n
      · subst hj; rw [hget_hput_same] at hz; cases hz; exact ⟨b, hg, by unfold Blk.dead; rw [Blk.own_kind hb]; rfl, fun _ => hb⟩
      · rw [hget_hput_other _ _ hj] at hz; exact ⟨z, hz, hd, id⟩
    have hxd : x.dead = false := by unfold Blk.dead; rw [Blk.own_kind hxo]; rfl
    obtain ⟨x', hx', _, ex⟩ := back m x hx hxd
    obtain ⟨y', hy', hyd', _⟩ := back k y hy hyd
    exact hr.inj m k x' y' hx' hy' (ex hxo) hyd' hxy
  · refine ⟨fun _ _ => rfl, ?_, by simp, ?_, by simp, rfl, rfl, rfl⟩
    rotate_left
    · intro m hm; exact .inr ⟨b, by simpa [show m = n by simpa using hm] using hg, hb⟩
    intro i _ hi
    exact hother i fun e => hi n (by simp) b hg hb e.symm

theorem Post.refl (ψ : PM) (w : World) (h : Heap) : Post ψ w h ψ w [] [] :=
  ⟨fun _ _ => rfl, fun _ _ _ => rfl, by simp, by simp, Nat.le_refl _, rfl, rfl, rfl⟩

theorem Room.len {r : Option Nat} {cap : Nat} {a b tail : List Value} (h : Room r cap a tail) (e : b.length = a.length) : Room r cap b tail := by
  unfold Room at *
  cases r with
  | none => exact h
  | some n => simp only at h ⊢; omega

end Go.Ev
