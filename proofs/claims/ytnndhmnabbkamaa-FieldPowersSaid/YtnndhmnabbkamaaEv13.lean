/-
  An evaluator of loaded Go code over abstract values, part 13: tables by number.
  Conditions: none; nothing here names a program.
-/
import Derived.Test.YtnndhmnabbkamaaEv12
namespace Go.Ev
open Go

inductive Tab (α : Type) where
  | nil
  | leaf (k : Nat) (x : α)
  | node (k : Nat) (l r : Tab α)

def Tab.get {α : Type} : Tab α → Nat → Option α
  | .nil, _ => none
  | .leaf k x, n => match Nat.beq k n with
    | true => some x
    | false => none
  | .node k l r, n => match Nat.blt n k with
    | true => l.get n
    | false => r.get n

def Tab.All {α : Type} (p : Nat → α → Prop) : Tab α → Prop
  | .nil => True
  | .leaf k x => p k x
  | .node _ l r => l.All p ∧ r.All p

theorem Tab.all_get {α : Type} {p : Nat → α → Prop} : ∀ {t : Tab α}, t.All p → ∀ {n : Nat} {x : α}, t.get n = some x → p n x
  | .nil, _, _, _, h => by cases h
  | .leaf k y, ha, n, x, h => by
    unfold Tab.get at h
    split at h
    · rename_i e
      cases h
      have := Nat.eq_of_beq_eq_true e
      subst this
      exact ha
    · cases h
  | .node k l r, ha, n, x, h => by
    unfold Tab.get at h
    split at h
    · exact Tab.all_get ha.1 h
    · exact Tab.all_get ha.2 h

/-- What is told of a type, in equations that a program's types meet by computation. -/
theorem tiOk {P : Program} {t : TypeId} {ti : TI} (h1 : P.underlying t = some ti.und) (h2 : (P.info? t).map (·.size) = some ti.size) (h3 : (P.info? t).map (·.bytes) = some ti.bytes)
    (h4 : ∀ ψ, (P.info? t).bind (·.zero) = some (ti.zero.c ψ)) (h5 : ∀ ks, ti.flat = some ks → FlatOk P t ks) : TIOk P t ti := ⟨h1, h2, h3, h4, h5⟩

theorem flat_none {P : Program} {t : TypeId} : ∀ ks, (none : Option (List EK)) = some ks → FlatOk P t ks := fun _ h => by cases h

theorem flat_some {P : Program} {t : TypeId} {ks0 : List EK} (h : FlatOk P t ks0) : ∀ ks, some ks0 = some ks → FlatOk P t ks := fun ks e => by cases e; exact h

end Go.Ev
