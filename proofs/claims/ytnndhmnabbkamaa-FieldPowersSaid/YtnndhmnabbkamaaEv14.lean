/-
  An evaluator of loaded Go code over abstract values, part 14: the evaluator's word, as theorems are made of it.
  Conditions: those that the evaluator lists; nothing here names a program.
-/
import Derived.Test.YtnndhmnabbkamaaEv13
namespace Go.Ev
open Go

/-- All of them. -/
def Conj : List Prop → Prop
  | [] => True
  | [p] => p
  | p :: r => p ∧ Conj r

theorem conj_all : ∀ {ps : List Prop}, Conj ps → ∀ p ∈ ps, p
  | [], _, _, h => by cases h
  | [p], hc, q, h => by rw [List.mem_singleton.1 h]; exact hc
  | p :: q :: r, hc, x, h => by
    rcases List.mem_cons.1 h with rfl | h
    · exact hc.1
    · exact conj_all hc.2 x h

/-- A piece of code, by the way to it. -/
def sub : Code → List Nat → Code
  | c, [] => c
  | .seq a _, 0 :: r => sub a r
  | .seq _ b, _ :: r => sub b r
  | .cond _ a _, 0 :: r => sub a r
  | .cond _ _ b, _ :: r => sub b r
  | .block _ c, _ :: r => sub c r
  | .loop c, _ :: r => sub c r
  | c, _ => c

def codeAt (f : Func) (p : List Nat) : Code := sub (f.body.getD .skip) p

section
variable {P : Program} {T : TT} (hT : TOk P T) (hm : P.follows .mixedOrders = true)
include hT hm

theorem fn_run {f : FuncId} {fn : Func} (hf : Named P f fn) {args : List AT} {h : Heap} (keep : List Nat) (hints : List Hint) {ps : List Prop} {r : AV} {h' : Heap}
    (he : exFn P T fn args h keep hints = some ([], ps, (r, h'))) (hc : Conj ps) : FnOk P f args h r h' :=
  fn_ok hT hm hf.at_ (keep := keep) (r := (r, h')) ⟨_, _, _, he, conj_all hc⟩

theorem code_run {c : Code} {s : St} (ks ns : List Nat) (hints : List Hint) {ps : List Prop} {e : Exit} {s' : St} {t : List AV} {h : Heap}
    (he : evCode P T c s hints = some ([], ps, (e, s'))) (ht : (tsel ks s'.1, hsel s'.2 ns) = (t, h)) (hc : Conj ps) : Runs P c s e (t, h) := by
  have := ev_runs hT hm c s (e, s') ⟨_, _, _, he, conj_all hc⟩
  rw [← ht]
  exact this.post (tsel_le ks ns s')

/-- The evaluator's last state is looked at as far as it is asked for. -/
def evSel (P : Program) (T : TT) (c : Code) (s : St) (ks ns : List Nat) : M (Exit × St) := do
  let (e, s') ← evCode P T c s
  pure (e, (tsel ks s'.1, hsel s'.2 ns))

theorem sel_run {c : Code} {s : St} (ks ns : List Nat) (hints : List Hint) {ps : List Prop} {e : Exit} {s' : St} (he : evSel P T c s ks ns hints = some ([], ps, (e, s'))) (hc : Conj ps) : Runs P c s e s' := by
  obtain ⟨⟨e1, s1⟩, h1, h2⟩ := gives_then (x := evCode P T c s) (f := fun r => pure (r.1, (tsel ks r.2.1, hsel r.2.2 ns))) (b := (e, s')) ⟨hints, [], ps, he, conj_all hc⟩
  have := ev_runs hT hm c s (e1, s1) h1
  cases gives_ok h2
  exact this.post (tsel_le ks ns s1)

end

theorem FnOk.res {P : Program} {f : FuncId} {args : List AT} {h h' : Heap} {r r' : AV} (hf : FnOk P f args h r h') (e : ∀ ψ, r.c ψ = r'.c ψ) : FnOk P f args h r' h' := by
  intro ψ w hr
  refine Calls.mono (hf ψ w hr) ?_
  rintro en w' ⟨ψ', h1, h2⟩
  exact ⟨ψ', by rw [h1, e], h2⟩

/-- Arguments that are the same values. -/
theorem CallOk.args {P : Program} {f : FuncId} {args args' : List AT} {h : Heap} {r : AV} {upd : List (Nat × Blk)} {news : List Nat} (hf : CallOk P f args h r upd news) (e : ∀ ψ, args.map (AT.c ψ) = args'.map (AT.c ψ)) :
    CallOk P f args' h r upd news := by
  intro ψ w hr hn
  rw [← e ψ]
  exact hf ψ w hr hn

theorem CallOk.res {P : Program} {f : FuncId} {args : List AT} {h : Heap} {r r' : AV} {upd : List (Nat × Blk)} {news : List Nat} (hf : CallOk P f args h r upd news) (hr : r ≠ .undef) (e : ∀ ψ, r.c ψ = r'.c ψ) :
    CallOk P f args h r' upd news := by
  intro ψ w hh hn
  refine (hf ψ w hh hn).mono ?_
  rintro v w' ⟨ψ', h1, h2, h3⟩
  refine ⟨ψ', ?_, h2, h3⟩
  rcases h1 with h1 | h1
  · exact absurd h1 hr
  · exact .inr (by rw [h1, e])

end Go.Ev
