/-
  An evaluator of loaded Go code over abstract values, part 11: code, loops, functions.
  Conditions: those that the evaluator lists as it goes; nothing here names a program.
-/
import Derived.Test.YtnndhmnabbkamaaEv10
import Derived.LoopN
namespace Go.Ev
open Go

/-- From the state s the code comes to the state s', by the exit e. -/
def Runs (P : Program) (c : Code) (s : St) (e : Exit) (s' : St) : Prop :=
  ∀ (ψ : PM) (a : Act) (w : World), Rel ψ (tget s.1) s.2 s.1.length a w →
    c.wp P (fun e' a' w' => e' = e ∧ ∃ ψ', Rel ψ' (tget s'.1) s'.2 s'.1.length a' w' ∧ Fr ψ w s.2 ψ' w' s'.2) a w

/-- Round by round. -/
def RunsL (P : Program) (c : Code) (s : St) (e : Exit) (s' : St) : Prop :=
  ∃ n : Nat, ∀ (ψ : PM) (a : Act) (w : World), Rel ψ (tget s.1) s.2 s.1.length a w →
    Code.rounds P c (fun e' a' w' => e' = e ∧ ∃ ψ', Rel ψ' (tget s'.1) s'.2 s'.1.length a' w' ∧ Fr ψ w s.2 ψ' w' s'.2) n a w

section
variable {P : Program}

theorem Runs.seq {x y : Code} {s s1 s2 : St} {e : Exit} (h1 : Runs P x s .normal s1) (h2 : Runs P y s1 e s2) : Runs P (.seq x y) s e s2 := by
  intro ψ a w hr
  refine wp_seq (wp_mono (h1 ψ a w hr) ?_)
  rintro e' a' w' ⟨rfl, ψ', hr', hf'⟩
  refine wp_mono (h2 ψ' a' w' hr') ?_
  rintro e' a'' w'' ⟨rfl, ψ'', hr'', hf''⟩
  exact ⟨rfl, ψ'', hr'', hf'.trans hf''⟩

theorem Runs.seq_out {x y : Code} {s s1 : St} {e : Exit} (h1 : Runs P x s e s1) (he : e ≠ .normal) : Runs P (.seq x y) s e s1 := by
  intro ψ a w hr
  refine wp_seq (wp_mono (h1 ψ a w hr) ?_)
  rintro e' a' w' ⟨rfl, h⟩
  cases e' <;> first | exact absurd rfl he | exact ⟨rfl, h⟩

theorem Runs.cond {c : Operand} {x y : Code} {s s' : St} {e : Exit} {v : A0} {b : Bool} (hv : opd (tget s.1) c = .one v) (hb : ∀ ψ, v.c ψ = .bool b) (h : Runs P (if b then x else y) s e s') : Runs P (.cond c x y) s e s' := by
  intro ψ a w hr
  have hc : a.eval c = .bool b := by
    have := opd_vr (x := c) (ψ := ψ) (τ := tget s.1) (a := a) fun t _ => hr.tm t
    rw [hv] at this
    rw [this.t_eq]
    exact hb ψ
  exact wp_cond hc (h ψ a w hr)

/-- The exit of a block, by the exit of what stands in it. -/
def outOf (id : Nat) : Exit → Exit
  | .exit i => match Nat.beq i id with
    | true => .normal
    | false => .exit i
  | e => e

theorem Runs.block {id : Nat} {c : Code} {s s' : St} {e : Exit} (hc : Runs P c s e s') : Runs P (.block id c) s (outOf id e) s' := by
  intro ψ a w hr
  refine wp_block (wp_mono (hc ψ a w hr) ?_)
  rintro e' a' w' ⟨rfl, h⟩
  cases e' with
  | exit i =>
    simp only [Exit.inBlock, outOf]
    cases hb : Nat.beq i id with
    | true => rw [if_pos (Nat.eq_of_beq_eq_true hb)]; exact ⟨rfl, h⟩
    | false =>
      have : ¬ i = id := by intro e; subst e; rw [Nat.beq_refl] at hb; cases hb
      rw [if_neg this]
      exact ⟨rfl, h⟩
  | _ => exact ⟨rfl, h⟩

theorem rounds_mono {c : Code} {Q Q' : Exit → Act → World → Prop} (h : ∀ e a w, Q e a w → Q' e a w) : ∀ (n : Nat) (a : Act) (w : World), Code.rounds P c Q n a w → Code.rounds P c Q' n a w
  | 0, _, _, h0 => h0
  | n + 1, a, w, h0 => by
    rw [rounds_succ] at h0 ⊢
    refine wp_mono h0 ?_
    intro e a' w' he
    cases e <;> first | exact rounds_mono h n _ _ he | exact h _ _ _ he

theorem RunsL.out {c : Code} {s s' : St} {e : Exit} (hc : Runs P c s e s') (he : e ≠ .normal) : RunsL P c s e s' := by
  refine ⟨1, fun ψ a w hr => ?_⟩
  rw [rounds_succ]
  refine wp_mono (hc ψ a w hr) ?_
  rintro e' a' w' ⟨rfl, h⟩
  cases e' <;> first | exact absurd rfl he | exact ⟨rfl, h⟩

theorem RunsL.round {c : Code} {s s1 s' : St} {e : Exit} (h : Runs P c s .normal s1) (h' : RunsL P c s1 e s') : RunsL P c s e s' := by
  obtain ⟨n, hn⟩ := h'
  refine ⟨n + 1, fun ψ a w hr => ?_⟩
  rw [rounds_succ]
  refine wp_mono (h ψ a w hr) ?_
  rintro e' a' w' ⟨rfl, ψ', hr', hf'⟩
  refine rounds_mono ?_ n a' w' (hn ψ' a' w' hr')
  rintro e' a'' w'' ⟨rfl, ψ'', hr'', hf''⟩
  exact ⟨rfl, ψ'', hr'', hf'.trans hf''⟩

theorem RunsL.loop {c : Code} {s s' : St} {e : Exit} (h : RunsL P c s e s') : Runs P (.loop c) s e s' := by
  obtain ⟨n, hn⟩ := h
  exact fun ψ a w hr => wp_loop_rounds n (hn ψ a w hr)

/-- Less is told of the state: slots and blocks are dropped. -/
structure Le (s' s : St) : Prop where
  len : s'.1.length = s.1.length
  t : ∀ i, tget s'.1 i = .undef ∨ tget s'.1 i = tget s.1 i
  h : ∀ n b, hget s'.2 n = some b → hget s.2 n = some b

theorem Le.rel {s' s : St} (l : Le s' s) {ψ : PM} {a : Act} {w : World} (r : Rel ψ (tget s.1) s.2 s.1.length a w) : Rel ψ (tget s'.1) s'.2 s'.1.length a w := by
  rw [l.len]
  refine ⟨r.sz, fun i => ?_, ⟨fun n b hb => r.hp.at_ n b (l.h n b hb), fun n m b b' hb hb' => r.hp.inj n m b b' (l.h n b hb) (l.h m b' hb')⟩, r.nd⟩
  rcases l.t i with e | e
  · exact .inl e
  · rw [e]; exact r.tm i

theorem Le.fr {s' s : St} (l : Le s' s) {ψ0 ψ : PM} {w0 w : World} {h0 : Heap} (f : Fr ψ0 w0 h0 ψ w s.2) : Fr ψ0 w0 h0 ψ w s'.2 :=
  ⟨f.fix, f.keep, fun n x hx => f.owned n x (l.h n x hx), f.sz, f.os, f.tape, f.output⟩

theorem Runs.post {c : Code} {s s1 s2 : St} {e : Exit} (h : Runs P c s e s1) (l : Le s2 s1) : Runs P c s e s2 := by
  intro ψ a w hr
  refine wp_mono (h ψ a w hr) ?_
  rintro e' a' w' ⟨rfl, ψ', hr', hf'⟩
  exact ⟨rfl, ψ', l.rel hr', l.fr hf'⟩

/-- A state that tells the same. -/
structure Same (s' s : St) : Prop where
  len : s'.1.length = s.1.length
  t : ∀ i ψ, tget s'.1 i = .undef ∨ (tget s.1 i ≠ .undef ∧ (tget s'.1 i).c ψ = (tget s.1 i).c ψ)
  h : ∀ n b', hget s'.2 n = some b' → ∃ b, hget s.2 n = some b ∧ b'.kind = b.kind ∧ b'.e = b.e ∧ b'.room = b.room ∧ ∀ ψ, b'.c.c ψ = b.c.c ψ

theorem Same.blk {b b' : Blk} (h1 : b'.kind = b.kind) (h2 : b'.e = b.e) (h3 : b'.room = b.room) (h4 : ∀ ψ, b'.c.c ψ = b.c.c ψ) {ψ : PM} {w : World} {n : Nat} (h : BlkAt ψ w n b) : BlkAt ψ w n b' := by
  unfold BlkAt at *
  rw [h1, h2, h3, h4]
  exact h

theorem Same.rel {s' s : St} (l : Same s' s) {ψ : PM} {a : Act} {w : World} (r : Rel ψ (tget s.1) s.2 s.1.length a w) : Rel ψ (tget s'.1) s'.2 s'.1.length a w := by
  rw [l.len]
  refine ⟨r.sz, fun i => ?_, ⟨fun n b' hb => ?_, fun n m b1 b2 hb1 hb2 ho hd => ?_⟩, r.nd⟩
  · rcases l.t i ψ with e | ⟨e1, e2⟩
    · exact .inl e
    · rcases r.tm i with e | e
      · exact absurd e e1
      · exact .inr (by rw [e, e2])
  · obtain ⟨b, e1, e2, e3, e4, e5⟩ := l.h n b' hb
    exact Same.blk e2 e3 e4 e5 (r.hp.at_ n b e1)
  · obtain ⟨c1, e1, k1, _⟩ := l.h n b1 hb1
    obtain ⟨c2, e2, k2, _⟩ := l.h m b2 hb2
    refine r.hp.inj n m c1 c2 e1 e2 ?_ ?_
    · unfold Blk.own at *; rw [← k1]; exact ho
    · unfold Blk.dead at *; rw [← k2]; exact hd

theorem Same.fr {s' s : St} (l : Same s' s) {ψ0 ψ : PM} {w0 w : World} {h0 : Heap} (f : Fr ψ0 w0 h0 ψ w s.2) : Fr ψ0 w0 h0 ψ w s'.2 := by
  refine ⟨f.fix, f.keep, fun n x hx hxo => ?_, f.sz, f.os, f.tape, f.output⟩
  obtain ⟨b, e1, e2, _⟩ := l.h n x hx
  exact f.owned n b e1 (by unfold Blk.own at *; rw [← e2]; exact hxo)

theorem Runs.same {c : Code} {s s1 s2 : St} {e : Exit} (h : Runs P c s e s1) (l : Same s2 s1) : Runs P c s e s2 := by
  intro ψ a w hr
  refine wp_mono (h ψ a w hr) ?_
  rintro e' a' w' ⟨rfl, ψ', hr', hf'⟩
  exact ⟨rfl, ψ', l.rel hr', l.fr hf'⟩

/-! ### The evaluator of code -/

/-- The slots of a list, all others forgotten. -/
def mkT : Nat → List (Nat × AV) → List AV
  | 0, _ => []
  | n + 1, l => look0 l :: mkT n (lower l)
  where
  look0 : List (Nat × AV) → AV
    | [] => .undef
    | (0, v) :: _ => v
    | (_ + 1, _) :: r => look0 r
  lower : List (Nat × AV) → List (Nat × AV)
    | [] => []
    | (0, _) :: r => lower r
    | (k + 1, v) :: r => (k, v) :: lower r

def tsel (ks : List Nat) (t : List AV) : List AV := mkT t.length (ks.map fun k => (k, tget t k))

theorem mkT_length : ∀ (n : Nat) (l : List (Nat × AV)), (mkT n l).length = n
  | 0, _ => rfl
  | n + 1, l => by simp [mkT, mkT_length n]

theorem mkT_get : ∀ (n : Nat) (l : List (Nat × AV)) (i : Nat), tget (mkT n l) i = .undef ∨ (i, tget (mkT n l) i) ∈ l
  | 0, _, _ => .inl rfl
  | n + 1, l, 0 => by
    simp only [mkT, tget]
    induction l with
    | nil => exact .inl rfl
    | cons x l ih =>
      obtain ⟨k, v⟩ := x
      cases k with
      | zero => exact .inr (List.mem_cons_self ..)
      | succ k =>
        rcases ih with h | h
        · exact .inl h
        · exact .inr (List.mem_cons_of_mem _ h)
  | n + 1, l, i + 1 => by
    simp only [mkT, tget]
    rcases mkT_get n (mkT.lower l) i with h | h
    · exact .inl h
    · refine .inr ?_
      generalize tget (mkT n (mkT.lower l)) i = u at h

      induction l with
      | nil => cases h
      | cons x l ih =>
        obtain ⟨k, v⟩ := x
        cases k with
        | zero => exact List.mem_cons_of_mem _ (ih h)
        | succ k =>
          rcases List.mem_cons.1 h with e | h
          · cases e; exact List.mem_cons_self ..
          · exact List.mem_cons_of_mem _ (ih h)

theorem tsel_le (ks ns : List Nat) (s : St) : Le (tsel ks s.1, hsel s.2 ns) s where
  len := mkT_length _ _
  t i := by
    rcases mkT_get s.1.length (ks.map fun k => (k, tget s.1 k)) i with h | h
    · exact .inl h
    · obtain ⟨k, _, e⟩ := List.mem_map.1 h
      injection e with e1 e2
      subst e1
      exact .inr e2.symm
  h _ _ hb := (hget_hsel hb).2

theorem Runs.pre {c : Code} {s0 s s' : St} {e : Exit} (h : Runs P c s0 e s') (l : Le s0 s) : Runs P c s e s' := by
  intro ψ a w hr
  refine wp_mono (h ψ a w (l.rel hr)) ?_
  rintro e' a' w' ⟨rfl, ψ', hr', hf'⟩
  refine ⟨rfl, ψ', hr', ⟨hf'.fix, fun b hb hall => hf'.keep b hb fun n x hx => hall n x (l.h n x hx), fun n x hx hxo hlt => ?_, hf'.sz, hf'.os, hf'.tape, hf'.output⟩⟩
  obtain ⟨m, y, hy, hyo, e⟩ := hf'.owned n x hx hxo hlt
  exact ⟨m, y, l.h m y hy, hyo, e⟩

/-- A piece of code whose outcome is given, from the slots and names that it needs; else what x says. -/
def seg (P : Program) (c : Code) (s : St) (x : M (Exit × St)) : M (Exit × St) := fun
  | .seg ks ns e t h :: hs => some (hs, [Runs P c (tsel ks s.1, hsel s.2 ns) e (t, h)], (e, (t, h)))
  | hs => x hs

def evLoop (f : St → M (Exit × St)) : Nat → St → M (Exit × St)
  | 0, _ => bad
  | n + 1, s => do
    let (e, s1) ← f s
    match e with
    | .normal => evLoop f n s1
    | e => pure (e, s1)

/-- A loop that is gone through round by round. -/
def going (x : M (Exit × St)) : M (Exit × St) := fun
  | .go :: hs => x hs
  | _ => none

def evCode (P : Program) (T : TT) : Code → St → M (Exit × St)
  | .skip, s => pure (.normal, s)
  | .region _ ops draw, s => do
    let s' ← exRegion P T ops draw s
    pure (.normal, s')
  | .seq x y, s => do
    let (e, s1) ← evCode P T x s
    match e with
    | .normal => evCode P T y s1
    | e => pure (e, s1)
  | .cond c x y, s => do
    let v ← asOne (opd (tget s.1) c)
    let b ← test v
    match b with
    | true => evCode P T x s
    | false => evCode P T y s
  | .block id c, s => do
    let (e, s1) ← evCode P T c s
    pure (outOf id e, s1)
  | .loop c, s => seg P (.loop c) s (going (evLoop (evCode P T c) 1000 s))
  | .exit id, s => pure (.exit id, s)
  | .ret, s => pure (.ret, s)
  | _, _ => bad

theorem gives_seg {c : Code} {s : St} {x : M (Exit × St)} {r : Exit × St} (h : Gives (seg P c s x) r) : Runs P c s r.1 r.2 ∨ Gives x r := by
  obtain ⟨hs, hs', ps, e, hp⟩ := h
  unfold seg at e
  split at e
  · cases e
    exact .inl ((hp _ (List.mem_singleton.2 rfl)).pre (tsel_le _ _ s))
  · exact .inr ⟨_, _, _, e, hp⟩

theorem gives_going {x : M (Exit × St)} {r : Exit × St} (h : Gives (going x) r) : Gives x r := by
  obtain ⟨hs, hs', ps, e, hp⟩ := h
  unfold going at e
  split at e
  · exact ⟨_, _, _, e, hp⟩
  · cases e

theorem gives_evLoop {c : Code} {f : St → M (Exit × St)} (hf : ∀ s r, Gives (f s) r → Runs P c s r.1 r.2) : ∀ (n : Nat) (s : St) (r : Exit × St), Gives (evLoop f n s) r → RunsL P c s r.1 r.2
  | 0, s, r, h => (gives_bad h).elim
  | n + 1, s, r, h => by
    obtain ⟨⟨e, s1⟩, h1, h2⟩ := gives_then h
    have h3 := hf _ _ h1
    cases e with
    | normal => exact .round h3 (gives_evLoop hf n s1 r h2)
    | _ => rw [gives_ok h2]; exact .out h3 (by simp)

variable {T : TT} (hT : TOk P T) (hm : P.follows .mixedOrders = true)
include hT hm

theorem ev_runs : ∀ (c : Code) (s : St) (r : Exit × St), Gives (evCode P T c s) r → Runs P c s r.1 r.2
  | .skip, s, r, h => by
    rw [gives_ok h]
    exact fun ψ a w hr => wp_skip ⟨rfl, ψ, hr, Fr.refl ψ w _⟩
  | .region id ops draw, s, r, h => by
    obtain ⟨s', h1, h2⟩ := gives_then h
    rw [gives_ok h2]
    exact fun ψ a w hr => ok_region hT hm h1 hr fun ψ' a' w' hr' hf' => ⟨rfl, ψ', hr', hf'⟩
  | .seq x y, s, r, h => by
    obtain ⟨⟨e, s1⟩, h1, h2⟩ := gives_then h
    have h3 := ev_runs x s _ h1
    cases e with
    | normal => exact h3.seq (ev_runs y s1 r h2)
    | _ => rw [gives_ok h2]; exact h3.seq_out (by simp)
  | .cond c x y, s, r, h => by
    obtain ⟨v, h2, h3⟩ := gives_then h
    obtain ⟨b, h4, h5⟩ := gives_then h3
    refine .cond (gives_asOne h2) (gives_test h4) ?_
    cases b with
    | true => exact ev_runs x s r h5
    | false => exact ev_runs y s r h5
  | .block id c, s, r, h => by
    obtain ⟨⟨e, s1⟩, h1, h2⟩ := gives_then h
    rw [gives_ok h2]
    exact (ev_runs c s _ h1).block
  | .loop c, s, r, h => by
    rcases gives_seg h with h1 | h1
    · exact h1
    · exact (gives_evLoop (ev_runs c) _ _ _ (gives_going h1)).loop
  | .exit id, s, r, h => by
    rw [gives_ok h]
    exact fun ψ a w hr => wp_exit ⟨rfl, ψ, hr, Fr.refl ψ w _⟩
  | .ret, s, r, h => by
    rw [gives_ok h]
    exact fun ψ a w hr => wp_ret ⟨rfl, ψ, hr, Fr.refl ψ w _⟩
  | .rangeFunc .., _, _, h => (gives_bad h).elim
  | .scope .., _, _, h => (gives_bad h).elim
  | .label .., _, _, h => (gives_bad h).elim
  | .goto .., _, _, h => (gives_bad h).elim
  | .refuse .., _, _, h => (gives_bad h).elim

omit hT hm

/-! ### Functions -/

def exResults (T : TT) (s : St) : List ResultVar → M (List AT)
  | [] => pure []
  | .tmp t :: r => do
    let v ← asT (tget s.1 t)
    let l ← exResults T s r
    pure (v :: l)
  | .cell a t :: r => do
    let v ← asOne (tget s.1 a)
    let (k, n, off) ← asPtr v
    let b ← get (hget s.2 n)
    let x ← ldVar T t b k off
    let l ← exResults T s r
    pure (x :: l)

def resOne (tmps : Array Value) : ResultVar → Sem Value
  | .tmp t => pure (tmps.getD t Go.undef)
  | .cell x t => do loadVar t (← asAddr (tmps.getD x Go.undef))

theorem results_eq (fn : Func) (tmps : Array Value) : results fn tmps = (do let vs ← fn.results.mapM (resOne tmps); pure (if h : vs.size = 1 then vs[0] else .tuple vs)) := by
  have : resOne tmps = (fun x : ResultVar => match x with | .tmp t => (pure (tmps.getD t Go.undef) : Sem Value) | .cell a t => do loadVar t (← asAddr (tmps.getD a Go.undef))) := by
    funext x
    cases x <;> rfl
  rw [this]
  rfl

include hT in
theorem gives_results {s : St} {ψ : PM} {a : Act} {w : World} (hr : Rel ψ (tget s.1) s.2 s.1.length a w) : ∀ {rs : List ResultVar} {l : List AT}, Gives (exResults T s rs) l →
    (rs.mapM (resOne a.tmps)).run P w = .ok (l.map (AT.c ψ)) w
  | [], l, h => by rw [gives_ok h]; rfl
  | .tmp t :: r, l, h => by
    obtain ⟨v, h1, h2⟩ := gives_then h
    obtain ⟨m, h3, h4⟩ := gives_then h2
    rw [gives_ok h4]
    have e := hr.tm t
    rw [gives_asT h1] at e
    have e1 := e.t_eq
    rw [List.mapM_cons]
    simp only [resOne, Sem.run_bind, Sem.run_pure, Result.andThen_ok, gives_results hr h3, List.map_cons, e1]
  | .cell x t :: r, l, h => by
    obtain ⟨v, h1, h2⟩ := gives_then h
    obtain ⟨⟨k, n, off⟩, h3, h4⟩ := gives_then h2
    obtain ⟨b, h5, h6⟩ := gives_then h4
    obtain ⟨y, h7, h8⟩ := gives_then h6
    obtain ⟨m, h9, h10⟩ := gives_then h8
    rw [gives_ok h10]
    have e := hr.tm x
    rw [gives_asOne h1, gives_asPtr h3] at e
    have e1 := e.t_eq
    simp only [AT.c, A0.c] at e1
    have hb := hr.hp.at_ n b (gives_get h5)
    rw [List.mapM_cons]
    simp only [resOne, Sem.run_bind, Sem.run_pure, Result.andThen_ok, e1, asAddr, gives_ldVar hT h7 hb, gives_results hr h9, List.map_cons]

def undefs : Nat → List AV
  | 0 => []
  | n + 1 => .undef :: undefs n

theorem undefs_length : ∀ n, (undefs n).length = n
  | 0 => rfl
  | n + 1 => by simp [undefs, undefs_length n]

theorem tget_undefs : ∀ (n i : Nat), tget (undefs n) i = .undef
  | 0, _ => rfl
  | _ + 1, 0 => rfl
  | n + 1, i + 1 => tget_undefs n i

theorem tget_append : ∀ (l : List AV) (n i : Nat), tget (l ++ undefs n) i = .undef ∨ l[i]? = some (tget (l ++ undefs n) i)
  | [], n, i => .inl (tget_undefs n i)
  | _ :: _, _, 0 => .inr rfl
  | _ :: l, n, i + 1 => tget_append l n i

/-- A function's body on abstract arguments: its result, and the blocks of the names that are asked for. -/
def exFn (P : Program) (T : TT) (fn : Func) (args : List AT) (h : Heap) (keep : List Nat) : M (AV × Heap) := do
  let c ← get fn.body
  need (Nat.ble args.length fn.ntmps)
  let (e, s) ← evCode P T c (args.map AV.t ++ undefs (fn.ntmps - args.length), h)
  need (match e with | .normal => true | .ret => true | _ => false)
  let l ← exResults T s fn.results.toList
  match l with
  | [x] => pure (.t x, hsel s.2 keep)
  | l => pure (.tup l, hsel s.2 keep)

/-- What a call comes to where the callee's own names stand for the memory. -/
def FnOk (P : Program) (f : FuncId) (args : List AT) (h : Heap) (r : AV) (h' : Heap) : Prop :=
  ∀ (ψ : PM) (w : World), HRel ψ h w → Calls P f (args.map (AT.c ψ)).toArray w fun e w' => ∃ ψ', e = .returned (r.c ψ') ∧ HRel ψ' h' w' ∧ Fr ψ w h ψ' w' h'

include hT hm in
theorem fn_ok {f : FuncId} {fn : Func} (hf : P.funcs[f]? = some fn) {args : List AT} {h : Heap} {keep : List Nat} {r : AV × Heap} (hx : Gives (exFn P T fn args h keep) r) : FnOk P f args h r.1 r.2 := by
  obtain ⟨c, h1, h2⟩ := gives_then hx
  obtain ⟨_, h3, h4⟩ := gives_then h2
  obtain ⟨⟨e, s⟩, h5, h6⟩ := gives_then h4
  obtain ⟨_, h7, h8⟩ := gives_then h6
  obtain ⟨l, h9, h10⟩ := gives_then h8
  have hle := Nat.le_of_ble_eq_true (gives_need h3)
  have hrun := ev_runs hT hm c _ _ h5
  intro ψ w hh
  refine calls_of_wp hf (gives_get h1) ?_
  have hrel : Rel ψ (tget (args.map AV.t ++ undefs (fn.ntmps - args.length))) h (args.map AV.t ++ undefs (fn.ntmps - args.length)).length
      { tmps := (args.map (AT.c ψ)).toArray ++ Array.replicate (fn.ntmps - (args.map (AT.c ψ)).toArray.size) Go.undef, defers := [] } w := by
    refine ⟨by simp [undefs_length], fun i => ?_, hh, rfl⟩
    rcases tget_append (args.map AV.t) (fn.ntmps - args.length) i with e1 | e1
    · exact .inl e1
    · right
      simp only [List.getElem?_map, Option.map_eq_some_iff] at e1
      obtain ⟨x, hx1, hx2⟩ := e1
      rw [← hx2]
      have hi : i < args.length := (List.getElem?_eq_some_iff.1 hx1).1
      rw [Array.getD_eq_getD_getElem?, Array.getElem?_append_left (by simpa using hi)]
      simp [hx1, AV.c]
  refine wp_mono (hrun ψ _ w hrel) ?_
  rintro e' a' w' ⟨rfl, ψ', hr', hf'⟩
  have hres := gives_results hT hr' h9
  have hresults : (results fn a'.tmps).run P w' = .ok (if hl : (l.map (AT.c ψ')).toArray.size = 1 then (l.map (AT.c ψ')).toArray[0] else .tuple (l.map (AT.c ψ')).toArray) w' := by
    rw [results_eq, Array.mapM_eq_mapM_toList]
    simp only [Sem.run_bind, Sem.run_map, hres, Result.andThen_ok, Sem.run_pure]
  have fin : ∀ (v : AV), r = (v, hsel s.2 keep) → (results fn a'.tmps).run P w' = .ok (v.c ψ') w' →
      ∃ u, (results fn a'.tmps).run P w' = .ok u w' ∧ ∃ ψ'', Ending.returned u = .returned (r.1.c ψ'') ∧ HRel ψ'' r.2 w' ∧ Fr ψ w h ψ'' w' r.2 := by
    intro v hv hrr
    refine ⟨_, hrr, ψ', by rw [hv], ?_, ?_⟩
    · rw [hv]
      exact ⟨fun n b hb => hr'.hp.at_ n b (hget_hsel hb).2, fun n m b b' hb hb' => hr'.hp.inj n m b b' (hget_hsel hb).2 (hget_hsel hb').2⟩
    · rw [hv]
      exact ⟨hf'.fix, hf'.keep, fun n x hx => hf'.owned n x (hget_hsel hx).2, hf'.sz, hf'.os, hf'.tape, hf'.output⟩
  have fin' : ∃ u, (results fn a'.tmps).run P w' = .ok u w' ∧ ∃ ψ'', Ending.returned u = .returned (r.1.c ψ'') ∧ HRel ψ'' r.2 w' ∧ Fr ψ w h ψ'' w' r.2 := by
    split at h10
    · rename_i x
      exact fin (.t x) (gives_ok h10) (by rw [hresults]; simp [AV.c])
    · rename_i hne
      refine fin (.tup l) (gives_ok h10) ?_
      rw [hresults, dif_neg]
      · rfl
      · intro hl
        simp only [List.size_toArray, List.length_map] at hl
        obtain ⟨y, hy⟩ := List.length_eq_one_iff.1 hl
        exact hne y hy
  obtain ⟨u, hu, hR⟩ := fin'
  have hE := gives_need h7
  cases e' with
  | normal => exact ⟨hr'.nd, u, hu, hR⟩
  | ret => exact ⟨hr'.nd, u, hu, hR⟩
  | _ => cases hE

end
end Go.Ev
