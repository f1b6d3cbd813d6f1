/-
  An evaluator of loaded Go code over abstract values, part 1: abstract values, abstract memory, and what they stand for in the model's world.
  Conditions: none; nothing here names a program.
-/
import Derived.Calls
import Derived.Orders
import Derived.Laws.World
import Derived.Laws.Cells
import Derived.Laws.Rows
import Derived.Laws.CopyRow
import Derived.KernelRfl
namespace Go.Ev
open Go

/-- A value of one cell. 'blit', 'lit': known while the code is gone through; 'bool', 'int': not. Pointers and slices name a block by a number of our own; the first part says whether the offset (and length) is known. 'sla': a slice that begins with the element l (of s cells) of a block that was made by appending. -/
inductive A0 where
  | bool (b : Bool)
  | blit (b : Bool)
  | int (k : IntKind) (n : Int)
  | lit (k : IntKind) (n : Int)
  | str (s : ByteArray)
  | ptr (known : Bool) (n off : Nat)
  | nilp
  | sl (known : Bool) (n off len cap : Nat)
  | sla (n l s len : Nat)
  | nilsl
  | fn (f : FuncId) (caps : List Nat)
  | val (v : Value)

/-- Cells side by side: told one by one, or as numbers of one kind. -/
inductive Cells where
  | vals (l : List A0)
  | ints (k : IntKind) (l : List Int)

def Cells.list : Cells → List A0
  | .vals l => l
  | .ints k l => l.map (A0.int k)

inductive AT where
  | one (x : A0)
  | agg (c : Cells)

/-- 'undef': nothing is known of it. -/
inductive AV where
  | undef
  | t (x : AT)
  | tup (l : List AT)

abbrev AV.one (x : A0) : AV := .t (.one x)
abbrev AV.agg (c : Cells) : AV := .t (.agg c)

/-- Where a named block lies: block and first cell; and what room a slice that was made by appending has. -/
structure Pl where
  b : Nat
  o : Nat
  cap : Nat

abbrev PM := Nat → Pl

def adr (ψ : PM) (n off : Nat) : Addr := ⟨(ψ n).b, (ψ n).o + off, none⟩

def A0.c (ψ : PM) : A0 → Value
  | .bool b => .bool b
  | .blit b => .bool b
  | .int k n => .int k n
  | .lit k n => .int k n
  | .str s => .string s
  | .ptr _ n off => .pointer (some (adr ψ n off))
  | .nilp => .pointer none
  | .sl _ n off len cap => .slice (some (adr ψ n off)) len cap
  | .sla n l s len => .slice (some (adr ψ n (l * s))) len ((ψ n).cap - l)
  | .nilsl => .slice none 0 0
  | .fn f caps => .func (.func f) #[] ((caps.map fun n => Value.pointer (some (adr ψ n 0))).toArray)
  | .val v => v

def Cells.c (ψ : PM) (c : Cells) : List Value := c.list.map (A0.c ψ)

def AT.c (ψ : PM) : AT → Value
  | .one x => x.c ψ
  | .agg c => .agg (c.c ψ).toArray

def AV.c (ψ : PM) : AV → Value
  | .undef => Go.undef
  | .t x => x.c ψ
  | .tup l => .tuple (l.map (AT.c ψ)).toArray

/-- 'v' is what 'x' tells, if it tells anything. -/
def VR (ψ : PM) (x : AV) (v : Value) : Prop := x = .undef ∨ v = x.c ψ

def A0.noRef (n : Nat) : A0 → Bool
  | .ptr _ m _ => !(Nat.beq m n)
  | .sl _ m _ _ _ => !(Nat.beq m n)
  | .sla m _ _ _ => !(Nat.beq m n)
  | .fn _ caps => caps.all fun m => !(Nat.beq m n)
  | _ => true

def Cells.noRef (n : Nat) : Cells → Bool
  | .vals l => l.all (A0.noRef n)
  | .ints _ _ => true

def AT.noRef (n : Nat) : AT → Bool
  | .one x => x.noRef n
  | .agg c => c.noRef n

def AV.noRef (n : Nat) : AV → Bool
  | .undef => true
  | .t x => x.noRef n
  | .tup l => l.all (AT.noRef n)

theorem beq_ne {m n : Nat} (h : (!(Nat.beq m n)) = true) : m ≠ n := by
  intro e; subst e; simp [Nat.beq_refl] at h

theorem A0.c_congr {ψ ψ' : PM} {n : Nat} (hs : ∀ m, m ≠ n → ψ' m = ψ m) {x : A0} (h : x.noRef n = true) : x.c ψ' = x.c ψ := by
  cases x with
  | ptr k m o => simp only [A0.noRef] at h; simp only [A0.c, adr, hs m (beq_ne h)]
  | sl k m o l c => simp only [A0.noRef] at h; simp only [A0.c, adr, hs m (beq_ne h)]
  | sla m o l c => simp only [A0.noRef] at h; simp only [A0.c, adr, hs m (beq_ne h)]
  | fn f caps =>
    simp only [A0.noRef, List.all_eq_true] at h
    simp only [A0.c]
    congr 2
    apply List.map_congr_left
    intro m hm
    simp only [adr, hs m (beq_ne (h m hm))]
  | _ => rfl

theorem Cells.c_congr {ψ ψ' : PM} {n : Nat} (hs : ∀ m, m ≠ n → ψ' m = ψ m) {x : Cells} (h : x.noRef n = true) : x.c ψ' = x.c ψ := by
  cases x with
  | vals l =>
    simp only [Cells.noRef, List.all_eq_true] at h
    exact List.map_congr_left fun a ha => A0.c_congr hs (h a ha)
  | ints k l => simp [Cells.c, Cells.list, A0.c, Function.comp_def]

theorem AT.c_congr {ψ ψ' : PM} {n : Nat} (hs : ∀ m, m ≠ n → ψ' m = ψ m) {x : AT} (h : x.noRef n = true) : x.c ψ' = x.c ψ := by
  cases x with
  | one x => exact A0.c_congr hs h
  | agg c => simp only [AT.c, Cells.c_congr hs (show c.noRef n = true from h)]

theorem AV.c_congr {ψ ψ' : PM} {n : Nat} (hs : ∀ m, m ≠ n → ψ' m = ψ m) {x : AV} (h : x.noRef n = true) : x.c ψ' = x.c ψ := by
  cases x with
  | undef => rfl
  | t x => exact AT.c_congr hs h
  | tup l =>
    simp only [AV.noRef, List.all_eq_true] at h
    simp only [AV.c]
    congr 2
    exact List.map_congr_left fun a ha => AT.c_congr hs (h a ha)

theorem VR.congr {ψ ψ' : PM} {n : Nat} (hs : ∀ m, m ≠ n → ψ' m = ψ m) {x : AV} {v : Value} (h : x.noRef n = true) (hv : VR ψ x v) : VR ψ' x v := by
  rcases hv with hv | hv
  · exact .inl hv
  · exact .inr (by rw [hv, AV.c_congr hs h])

/-! ### Memory -/

/-- 'own': a block that is ours alone, from its first cell on; 'view': cells that are read and not written; 'dead': nothing is known any more. -/
inductive BK where
  | own
  | view
  | dead

def BK.isOwn : BK → Bool
  | .own => true
  | _ => false
def BK.isDead : BK → Bool
  | .dead => true
  | _ => false

/-- 'room': an owned block has just the cells that are told; or it has its own room of elements of so many cells. -/
structure Blk where
  kind : BK
  e : TypeId
  c : Cells
  room : Option Nat := none

def Blk.own (b : Blk) : Bool := b.kind.isOwn
def Blk.dead (b : Blk) : Bool := b.kind.isDead

/-- What lies behind the cells that are told. -/
def Room (room : Option Nat) (cap : Nat) (told tail : List Value) : Prop :=
  match room with
  | none => tail = []
  | some s => told.length + tail.length = cap * s

abbrev Heap := List (Nat × Blk)

def hget : Heap → Nat → Option Blk
  | [], _ => none
  | (m, b) :: t, n => match Nat.beq m n with | true => some b | false => hget t n

def hput : Heap → Nat → Blk → Heap
  | [], n, b => [(n, b)]
  | (m, x) :: t, n, b => match Nat.beq m n with | true => (n, b) :: t | false => (m, x) :: hput t n b

theorem hget_hput_same (h : Heap) (n : Nat) (b : Blk) : hget (hput h n b) n = some b := by
  induction h with
  | nil => simp [hput, hget, Nat.beq_refl]
  | cons x t ih =>
    obtain ⟨m, y⟩ := x
    simp only [hput]
    cases hm : Nat.beq m n with
    | true => simp [hget, Nat.beq_refl]
    | false => simp [hget, hm, ih]

theorem hget_hput_other (h : Heap) {n m : Nat} (b : Blk) (hne : m ≠ n) : hget (hput h n b) m = hget h m := by
  induction h with
  | nil =>
    have : Nat.beq n m = false := by
      cases e : Nat.beq n m with
      | false => rfl
      | true => exact absurd (Nat.eq_of_beq_eq_true e).symm hne
    simp [hput, hget, this]
  | cons x t ih =>
    obtain ⟨k, y⟩ := x
    simp only [hput]
    cases hk : Nat.beq k n with
    | true =>
      have hkn := Nat.eq_of_beq_eq_true hk
      subst hkn
      have : Nat.beq k m = false := by
        cases e : Nat.beq k m with
        | false => rfl
        | true => exact absurd (Nat.eq_of_beq_eq_true e).symm hne
      simp [hget, this]
    | false =>
      simp only [hget]
      cases Nat.beq k m with
      | true => rfl
      | false => exact ih

/-- Several blocks put in. -/
def hputs : Heap → List (Nat × Blk) → Heap
  | h, [] => h
  | h, (n, b) :: u => hputs (hput h n b) u

theorem hputs_append (h : Heap) (u v : List (Nat × Blk)) : hputs h (u ++ v) = hputs (hputs h u) v := by
  induction u generalizing h with
  | nil => rfl
  | cons x u ih => obtain ⟨n, b⟩ := x; exact ih _

theorem hget_hputs_other {u : List (Nat × Blk)} {m : Nat} : ∀ (h : Heap), (∀ x ∈ u, x.1 ≠ m) → hget (hputs h u) m = hget h m := by
  induction u with
  | nil => intro h _; rfl
  | cons x u ih =>
    obtain ⟨n, b⟩ := x
    intro h hx
    rw [hputs, ih _ fun y hy => hx y (List.mem_cons_of_mem _ hy)]
    exact hget_hput_other h b (hx (n, b) (List.mem_cons_self ..)).symm

/-- What a heap says, two heaps that say the same of each name say. -/
theorem hget_hputs_congr {u : List (Nat × Blk)} {m : Nat} : ∀ {h h' : Heap}, hget h m = hget h' m → hget (hputs h u) m = hget (hputs h' u) m := by
  induction u with
  | nil => intro h h' e; exact e
  | cons x u ih =>
    obtain ⟨n, b⟩ := x
    intro h h' e
    apply ih
    by_cases hm : m = n
    · subst hm; rw [hget_hput_same, hget_hput_same]
    · rw [hget_hput_other _ _ hm, hget_hput_other _ _ hm, e]

/-- Where a block lies. -/
def BlkAt (ψ : PM) (w : World) (n : Nat) (b : Blk) : Prop :=
  match b.kind with
  | .own => (ψ n).o = 0 ∧ ∃ tail, Room b.room (ψ n).cap (b.c.c ψ) tail ∧ w.heap[(ψ n).b]? = some (.cells (b.c.c ψ ++ tail).toArray b.e (0, 0))
  | .view => (ψ n).b < w.heap.size ∧ ∀ (k : Nat) v, (b.c.c ψ)[k]? = some v → w.cell? ⟨(ψ n).b, (ψ n).o + k, none⟩ = some v
  | .dead => True

structure HRel (ψ : PM) (h : Heap) (w : World) : Prop where
  at_ : ∀ n b, hget h n = some b → BlkAt ψ w n b
  inj : ∀ n m b b', hget h n = some b → hget h m = some b' → b.own = true → b'.dead = false → (ψ n).b = (ψ m).b → n = m

/-- What a step may have done: only the names in 'wr' lie elsewhere or hold something else; new ones lie in new blocks. -/
structure Post (ψ : PM) (w : World) (h : Heap) (ψ' : PM) (w' : World) (upd : List Nat) (news : List Nat) : Prop where
  same : ∀ n, n ∉ news → ψ' n = ψ n
  keep : ∀ b, b < w.heap.size → (∀ n ∈ upd, ∀ x, hget h n = some x → x.own = true → (ψ n).b ≠ b) → w'.heap[b]? = w.heap[b]?
  fresh : ∀ n ∈ news, (ψ' n).b < w.heap.size → ∃ m ∈ upd, ∃ x, hget h m = some x ∧ x.own = true ∧ (ψ m).b = (ψ' n).b
  old : ∀ n ∈ upd, n ∈ news ∨ ∃ x, hget h n = some x ∧ x.own = true
  sz : w.heap.size ≤ w'.heap.size
  os : w'.os = w.os
  tape : w'.tape = w.tape
  output : w'.output = w.output

def Heap.noRef (n : Nat) (h : Heap) : Bool := h.all fun x => x.2.c.noRef n

theorem hget_mem {h : Heap} {n : Nat} {b : Blk} (e : hget h n = some b) : (n, b) ∈ h := by
  induction h with
  | nil => cases e
  | cons x t ih =>
    obtain ⟨m, y⟩ := x
    simp only [hget] at e
    cases hm : Nat.beq m n with
    | true =>
      rw [hm] at e
      have := Nat.eq_of_beq_eq_true hm
      cases e; subst this; exact List.mem_cons_self ..
    | false => rw [hm] at e; exact List.mem_cons_of_mem _ (ih e)

theorem Blk.own_kind {b : Blk} (h : b.own = true) : b.kind = .own := by
  unfold Blk.own at h
  cases hk : b.kind <;> rw [hk] at h <;> first | rfl | cases h

theorem BlkAt.lt {ψ : PM} {w : World} {n : Nat} {b : Blk} (h : BlkAt ψ w n b) (hd : b.dead = false) : (ψ n).b < w.heap.size := by
  unfold BlkAt at h
  unfold Blk.dead at hd
  cases hk : b.kind with
  | own => rw [hk] at h; obtain ⟨_, tail, _, hg⟩ := h; exact (Array.getElem?_eq_some_iff.1 hg).1
  | view => rw [hk] at h; exact h.1
  | dead => rw [hk] at hd; cases hd

/-- A block that has stayed, in a world where its own block is as it was. -/
theorem BlkAt.keep {ψ ψ' : PM} {w w' : World} {n : Nat} {b : Blk} (h : BlkAt ψ w n b) (hψ : ψ' n = ψ n) (hc : b.c.c ψ' = b.c.c ψ) (hs : w.heap.size ≤ w'.heap.size)
    (hw : b.dead = false → w'.heap[(ψ n).b]? = w.heap[(ψ n).b]?) : BlkAt ψ' w' n b := by
  unfold BlkAt Blk.dead at *
  cases hk : b.kind with
  | own =>
    rw [hk] at h hw
    have hw := hw rfl
    obtain ⟨h0, tail, h1, h2⟩ := h
    simp only
    rw [hψ, hc]
    exact ⟨h0, tail, h1, by rw [hw]; exact h2⟩
  | view =>
    rw [hk] at h hw
    have hw := hw rfl
    simp only
    refine ⟨by rw [hψ]; exact Nat.lt_of_lt_of_le h.1 hs, ?_⟩
    intro k v hk
    rw [hψ]
    rw [hc] at hk
    have hcell := h.2 k v hk
    unfold World.cell? at hcell ⊢
    simp only at hcell ⊢
    rw [hw]
    exact hcell
  | dead => trivial

end Go.Ev
