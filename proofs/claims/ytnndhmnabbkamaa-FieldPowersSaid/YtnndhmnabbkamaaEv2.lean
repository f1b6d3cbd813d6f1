/-
  An evaluator of loaded Go code over abstract values, part 2: what one operation does, as a function on abstract values, and that the model's operation does just that.
  Conditions: those that the evaluator lists as it goes; nothing here names a program.
-/
import Derived.Test.YtnndhmnabbkamaaEv1
namespace Go.Ev
open Go

/-- What is known of a type. 'flat': its cells' kinds, where it is compared cell by cell. -/
inductive EK where
  | int (k : IntKind)
  | bool
  | str

structure TI where
  und : TypeDesc
  size : Nat
  bytes : Nat
  zero : AT
  flat : Option (List EK)

abbrev TT := TypeId → Option TI

/-- A call's result is given; so is what a piece of code comes to; so is which way a test goes. -/
inductive Hint where
  | yes
  | no
  | call (r : AV) (acc : List Nat) (upd : List (Nat × Blk)) (news : List Nat)
  | seg (ks ns : List Nat) (e : Exit) (t : List AV) (h : Heap)
  | go

/-- A step of the evaluation: hints are used up, conditions are listed. -/
def M (α : Type) := List Hint → Option (List Hint × List Prop × α)

def ok {α : Type} (x : α) : M α := fun hs => some (hs, [], x)
def bad {α : Type} : M α := fun _ => none
def andThen {α β : Type} (x : M α) (f : α → M β) : M β := fun hs =>
  match x hs with
  | none => none
  | some (hs, ps, a) => match f a hs with
    | none => none
    | some (hs, qs, b) => some (hs, ps ++ qs, b)
def note (p : Prop) : M Unit := fun hs => some (hs, [p], ())
def ask (c : Bool) : M Bool := fun
  | .yes :: hs => some (hs, [c = true], true)
  | .no :: hs => some (hs, [c = false], false)
  | _ => none
def need (c : Bool) : M Unit := match c with | true => ok () | false => bad
def get {α : Type} : Option α → M α
  | some x => ok x
  | none => bad

instance : Monad M where
  pure := ok
  bind := andThen

/-- What x comes to under the hints, its conditions being met. -/
def Gives {α : Type} (x : M α) (a : α) : Prop := ∃ hs hs' ps, x hs = some (hs', ps, a) ∧ ∀ p ∈ ps, p

theorem gives_ok {α : Type} {x a : α} (h : Gives (ok x) a) : a = x := by
  obtain ⟨hs, hs', ps, e, _⟩ := h
  cases e; rfl

theorem gives_bad {α : Type} {a : α} (h : Gives (bad : M α) a) : False := by
  obtain ⟨hs, hs', ps, e, _⟩ := h
  cases e

theorem gives_then {α β : Type} {x : M α} {f : α → M β} {b : β} (h : Gives (x >>= f) b) : ∃ a, Gives x a ∧ Gives (f a) b := by
  obtain ⟨hs, hs', ps, e, hp⟩ := h
  change andThen x f hs = _ at e
  unfold andThen at e
  cases e1 : x hs with
  | none => rw [e1] at e; cases e
  | some y =>
    obtain ⟨h1, p1, a⟩ := y
    rw [e1] at e
    simp only at e
    cases e2 : f a h1 with
    | none => rw [e2] at e; cases e
    | some z =>
      obtain ⟨h2, p2, c⟩ := z
      rw [e2] at e
      cases e
      exact ⟨a, ⟨_, _, _, e1, fun p hp' => hp p (List.mem_append_left _ hp')⟩, ⟨_, _, _, e2, fun p hp' => hp p (List.mem_append_right _ hp')⟩⟩

theorem gives_note {p : Prop} {u : Unit} (h : Gives (note p) u) : p := by
  obtain ⟨hs, hs', ps, e, hp⟩ := h
  cases e
  exact hp p (by simp)

theorem gives_ask {c b : Bool} (h : Gives (ask c) b) : c = b := by
  obtain ⟨hs, hs', ps, e, hp⟩ := h
  unfold ask at e
  split at e
  · cases e; exact hp _ (by simp)
  · cases e; exact hp _ (by simp)
  · cases e

theorem gives_need {c : Bool} {u : Unit} (h : Gives (need c) u) : c = true := by
  cases c with
  | true => rfl
  | false => exact (gives_bad h).elim

theorem gives_get {α : Type} {x : Option α} {a : α} (h : Gives (get x) a) : x = some a := by
  cases x with
  | none => exact (gives_bad h).elim
  | some y => rw [gives_ok h]

/-! ### Values -/

def ofVal0 : Value → A0
  | .bool b => .blit b
  | .int k n => .lit k n
  | .string s => .str s
  | .pointer none => .nilp
  | .slice none 0 0 => .nilsl
  | v => .val v

theorem ofVal0_c (ψ : PM) (v : Value) : (ofVal0 v).c ψ = v := by
  unfold ofVal0
  split <;> rfl

def ofVal : Value → AV
  | .agg cs => .agg (.vals (cs.toList.map ofVal0))
  | v => .one (ofVal0 v)

theorem ofVal_c (ψ : PM) (v : Value) : (ofVal v).c ψ = v := by
  unfold ofVal
  split
  · simp [AV.c, AT.c, Cells.c, Cells.list, List.map_map, Function.comp_def, ofVal0_c]
  · exact ofVal0_c ψ v

def opd (τ : Nat → AV) : Operand → AV
  | .tmp i => τ i
  | .const v => ofVal v
  | .global g => .one (.val (.pointer (some ⟨g, 0, none⟩)))
  | .func f => .one (.fn f [])

theorem opd_vr {ψ : PM} {τ : Nat → AV} {a : Act} {x : Operand} (h : ∀ t, x = .tmp t → VR ψ (τ t) (a.tmps.getD t Go.undef)) : VR ψ (opd τ x) (a.eval x) := by
  cases x with
  | tmp i => exact h i rfl
  | const v => exact .inr (ofVal_c ψ v).symm
  | global g => exact .inr rfl
  | func f => exact .inr (by simp [opd, AV.c, AT.c, A0.c, Act.eval])

/-- A value of one cell or of several, not undefined. -/
def asT : AV → M AT
  | .t x => ok x
  | _ => bad
def asOne : AV → M A0
  | .t (.one x) => ok x
  | _ => bad
def asCells : AV → M Cells
  | .t (.agg c) => ok c
  | _ => bad

theorem gives_asT {v : AV} {x : AT} (h : Gives (asT v) x) : v = .t x := by
  cases v with
  | t y => rw [gives_ok h]
  | undef => exact (gives_bad h).elim
  | tup l => exact (gives_bad h).elim

theorem gives_asOne {v : AV} {x : A0} (h : Gives (asOne v) x) : v = .one x := by
  cases v with
  | t y =>
    cases y with
    | one z => rw [gives_ok h]
    | agg c => exact (gives_bad h).elim
  | undef => exact (gives_bad h).elim
  | tup l => exact (gives_bad h).elim

theorem gives_asCells {v : AV} {x : Cells} (h : Gives (asCells v) x) : v = .agg x := by
  cases v with
  | t y =>
    cases y with
    | agg z => rw [gives_ok h]
    | one c => exact (gives_bad h).elim
  | undef => exact (gives_bad h).elim
  | tup l => exact (gives_bad h).elim

theorem VR.t_eq {ψ : PM} {x : AT} {v : Value} (h : VR ψ (.t x) v) : v = x.c ψ := by
  rcases h with h | h
  · cases h
  · exact h

/-- The number of an integer, and whether it is known. -/
def asNum : A0 → M (Bool × IntKind × Int)
  | .lit k n => ok (true, k, n)
  | .int k n => ok (false, k, n)
  | _ => bad

theorem gives_asNum {x : A0} {l : Bool} {k : IntKind} {n : Int} (h : Gives (asNum x) (l, k, n)) (ψ : PM) : x.c ψ = .int k n := by
  cases x with
  | lit k' n' => cases gives_ok h; rfl
  | int k' n' => cases gives_ok h; rfl
  | _ => exact (gives_bad h).elim

def mkNum (l : Bool) (k : IntKind) (n : Int) : A0 := match l with | true => .lit k n | false => .int k n
def mkBool (l : Bool) (b : Bool) : A0 := match l with | true => .blit b | false => .bool b

theorem mkNum_c (ψ : PM) (l : Bool) (k : IntKind) (n : Int) : (mkNum l k n).c ψ = .int k n := by cases l <;> rfl
theorem mkBool_c (ψ : PM) (l b : Bool) : (mkBool l b).c ψ = .bool b := by cases l <;> rfl

/-- A test: known, or asked. -/
def test : A0 → M Bool
  | .blit b => ok b
  | .bool c => ask c
  | _ => bad

theorem gives_test {x : A0} {b : Bool} (h : Gives (test x) b) (ψ : PM) : x.c ψ = .bool b := by
  cases x with
  | blit c => rw [gives_ok h]; rfl
  | bool c => rw [← gives_ask h]; rfl
  | _ => exact (gives_bad h).elim

/-- A condition that must hold: looked at where it is known, listed else. -/
def must (known : Bool) (c : Prop) [d : Decidable c] : M Unit :=
  match known with
  | true => need (@decide c d)
  | false => note c

theorem gives_must {known : Bool} {c : Prop} [Decidable c] {u : Unit} (h : Gives (must known c) u) : c := by
  cases known with
  | true => exact of_decide_eq_true (gives_need h)
  | false => exact gives_note h

/-! ### Operators -/

def cmpOp (op : BinOp) (x y : Int) : Option Bool :=
  match op with
  | .eql => some (x == y)
  | .neq => some (x != y)
  | .lss => some (decide (x < y))
  | .leq => some (decide (x ≤ y))
  | .gtr => some (decide (x > y))
  | .geq => some (decide (x ≥ y))
  | _ => none

/-- And, or, exclusive or, and not, of whole numbers of a kind. -/
def bitOp (op : BinOp) (k : IntKind) (x y : Int) : Int := Go.bits op k x y

/-- Arithmetic on numbers; the conditions: no division by 0, no shift by less than 0. -/
def arith (op : BinOp) (k : IntKind) (x : Int) (ly : Bool) (y : Int) : M Int :=
  match op with
  | .add => ok (k.wrap (x + y))
  | .sub => ok (k.wrap (x - y))
  | .mul => ok (k.wrap (x * y))
  | .quo => do must ly (y ≠ 0); ok (k.wrap (x.tdiv y))
  | .rem => do must ly (y ≠ 0); ok (x.tmod y)
  | .and => ok (bitOp .and k x y)
  | .or => ok (bitOp .or k x y)
  | .xor => ok (bitOp .xor k x y)
  | .andNot => ok (bitOp .andNot k x y)
  | .shl => do must ly (0 ≤ y); ok (k.wrap (x * 2 ^ (min y.toNat k.bits)))
  | .shr => do must ly (0 ≤ y); ok (x.fdiv (2 ^ (min y.toNat k.bits)))
  | _ => bad

def toInts : List A0 → Option (IntKind × List Int)
  | [] => none
  | [.int k n] => some (k, [n])
  | [.lit k n] => some (k, [n])
  | .int k n :: r => match toInts r with
    | some (k', l) => match decide (k = k') with | true => some (k, n :: l) | false => none
    | none => none
  | .lit k n :: r => match toInts r with
    | some (k', l) => match decide (k = k') with | true => some (k, n :: l) | false => none
    | none => none
  | _ => none

theorem toInts_c {ψ : PM} : ∀ {l : List A0} {k : IntKind} {m : List Int}, toInts l = some (k, m) → l.map (A0.c ψ) = m.map (Value.int k) := by
  intro l
  induction l with
  | nil => intro k m h; cases h
  | cons x r ih =>
    intro k m h
    unfold toInts at h
    split at h <;> rename_i heq
    · cases heq
    · cases heq; cases h; rfl
    · cases heq; cases h; rfl
    · cases heq
      split at h
      · rename_i k' l' e
        split at h
        · rename_i hd; cases h; have hk := of_decide_eq_true hd; subst hk; simp [A0.c, ih e]
        · cases h
      · cases h
    · cases heq
      split at h
      · rename_i k' l' e
        split at h
        · rename_i hd; cases h; have hk := of_decide_eq_true hd; subst hk; simp [A0.c, ih e]
        · cases h
      · cases h
    · cases h

def cellsInts : Cells → Option (IntKind × List Int)
  | .vals l => toInts l
  | .ints k l => some (k, l)

theorem cellsInts_c {ψ : PM} {c : Cells} {k : IntKind} {m : List Int} (h : cellsInts c = some (k, m)) : c.c ψ = m.map (Value.int k) := by
  cases c with
  | vals l => exact toInts_c h
  | ints k' l => cases h; simp [Cells.c, Cells.list, A0.c, Function.comp_def]

end Go.Ev
