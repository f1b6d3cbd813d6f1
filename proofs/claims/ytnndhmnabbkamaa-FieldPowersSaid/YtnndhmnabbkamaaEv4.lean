/-
  An evaluator of loaded Go code over abstract values, part 4: the operations that make no call.
  Conditions: those that the evaluator lists as it goes; nothing here names a program.
-/
import Derived.Test.YtnndhmnabbkamaaEv3
import Derived.Laws.StructEq
namespace Go.Ev
open Go

/-- What an operation comes to: its value, the blocks that it lays or lays anew, which names are new, which names it looked at. -/
structure OR where
  v : AV
  upd : List (Nat × Blk) := []
  news : List Nat := []
  acc : List Nat := []

/-- Whatever is to hold behind the operation holds, if it holds of each value and world that R lets in. -/
def OpDoes (P : Program) (o : Oper) (a : Act) (w : World) (R : Value → World → Prop) : Prop :=
  ∀ (K : Act → World → Prop) (Q : Exit → Act → World → Prop), (∀ v w', R v w' → K (a.put o.dst v) w') → o.wp P a w K Q

theorem opDoes_value {P : Program} {o : Oper} {a : Act} {w w' : World} {v : Value} {R : Value → World → Prop}
    (hr : (execOp a.eval o).run P w = .ok (.value v) w') (h : R v w') : OpDoes P o a w R := by
  intro K Q hk
  unfold Oper.wp
  rw [hr]
  exact hk _ _ h

theorem opDoes_skip {P : Program} {o : Oper} {a : Act} {w w' : World} {R : Value → World → Prop}
    (hr : (execOp a.eval o).run P w = .ok .skip w') (h : R Go.undef w') : OpDoes P o a w R := by
  intro K Q hk
  unfold Oper.wp
  rw [hr]
  exact hk _ _ h

def After (ψ : PM) (w : World) (h : Heap) (x : OR) (v : Value) (w' : World) : Prop :=
  ∃ ψ', VR ψ' x.v v ∧ HRel ψ' (hputs h x.upd) w' ∧ Post ψ w h ψ' w' (x.upd.map (·.1)) x.news

/-- The operation comes to x, on every heap that says the same of the names that were looked at. -/
def OpOk (P : Program) (o : Oper) (τ : Nat → AV) (h : Heap) (x : OR) : Prop :=
  ∀ (h' : Heap), (∀ n ∈ x.acc, hget h' n = hget h n) → ∀ (ψ : PM) (a : Act) (w : World),
    (∀ y ∈ o.op.operands, VR ψ (opd τ y) (a.eval y)) → HRel ψ h' w → (∀ n ∈ x.news, Heap.noRef n h' = true) → OpDoes P o a w (After ψ w h' x)

theorem After.pure {ψ : PM} {w : World} {h : Heap} {v : AV} {acc : List Nat} {u : Value} (hr : HRel ψ h w) (hv : VR ψ v u) : After ψ w h { v, acc } u w :=
  ⟨ψ, hv, hr, Post.refl ψ w h⟩

def AT.cells : AT → Cells
  | .one x => .vals [x]
  | .agg c => c
def AT.isOnes : AT → Bool
  | .one x => x.isOne
  | .agg c => c.isOnes

theorem AT.cells_c {x : AT} (h : x.isOnes = true) (ψ : PM) : (x.c ψ).cells = (x.cells.c ψ).toArray := by
  cases x with
  | one y =>
    have hone := A0.isOne_c (show y.isOne = true from h) ψ
    show Value.cells (y.c ψ) = #[y.c ψ]
    cases hv : y.c ψ with
    | agg l => rw [hv] at hone; cases hone
    | _ => rfl
  | agg c => rfl

theorem AT.cells_noRef {x : AT} {n : Nat} (h : x.noRef n = true) : x.cells.noRef n = true := by
  cases x with
  | one y => simp [AT.cells, Cells.noRef]; exact h
  | agg c => exact h

section
variable {P : Program} {T : TT} (hT : TOk P T)

/-! ### A new block -/

/-- A new block of the type t under the operation's own name. -/
def newBlk (o : Oper) (t : TypeId) (x : AT) : M OR := do
  let d ← get o.dst
  need x.isOnes
  need (x.noRef d)
  pure { v := .one (.ptr true d 0), upd := [(d, { kind := .own, e := t, c := x.cells })], news := [d] }

theorem gives_newBlk {o : Oper} {t : TypeId} {x : AT} {r : OR} (h : Gives (newBlk o t x) r) {ψ : PM} {h' : Heap} {w : World} (hr : HRel ψ h' w) (hn : ∀ n ∈ r.news, Heap.noRef n h' = true) :
    After ψ w h' r (.pointer (some ⟨w.heap.size, 0, none⟩)) (w.alloc (.cells (x.c ψ).cells t)) := by
  obtain ⟨d, h1, h2⟩ := gives_then h
  obtain ⟨_, h3, h4⟩ := gives_then h2
  obtain ⟨_, h5, h6⟩ := gives_then h4
  have ho := gives_need h3
  have hd := gives_need h5
  rw [gives_ok h6] at hn ⊢
  have := hr.alloc d 0 { kind := .own, e := t, c := x.cells } [] rfl rfl (hn d (by simp)) (AT.cells_noRef hd)
  rw [AT.cells_c ho ψ]
  simp only [List.append_nil] at this
  refine ⟨_, .inr ?_, this.1, this.2⟩
  simp [AV.c, AT.c, A0.c, adr, PM.put_same]

def exAlloc (T : TT) (o : Oper) (t : TypeId) : M OR := do
  let ti ← get (T t)
  newBlk o t ti.zero

include hT in
theorem ok_alloc {o : Oper} {τ : Nat → AV} {h : Heap} {x : OR} {t : TypeId} (ho : o.op = .alloc t) (hx : Gives (exAlloc T o t) x) : OpOk P o τ h x := by
  obtain ⟨ti, h1, h2⟩ := gives_then hx
  have hti := hT t ti (gives_get h1)
  intro h' _ ψ a w _ hr hn
  refine opDoes_value (v := .pointer (some ⟨w.heap.size, 0, none⟩)) ?_ (gives_newBlk h2 hr hn)
  simp [execOp, ho, Instr.alloc, hti.run_zero w ψ, newVar, newRow]

def exBox (τ : Nat → AV) (o : Oper) (t : TypeId) (x : Operand) : M OR := do
  let v ← asT (opd τ x)
  newBlk o t v

theorem ok_box {o : Oper} {τ : Nat → AV} {h : Heap} {x : OR} {t : TypeId} {y : Operand} (ho : o.op = .box t y) (hx : Gives (exBox τ o t y) x) : OpOk P o τ h x := by
  obtain ⟨v, h1, h2⟩ := gives_then hx
  intro h' _ ψ a w hτ hr hn
  have hv := hτ y (by simp [ho, Op.operands])
  rw [gives_asT h1] at hv
  refine opDoes_value (v := .pointer (some ⟨w.heap.size, 0, none⟩)) ?_ (gives_newBlk h2 hr hn)
  simp [execOp, ho, Instr.box, newVar, newRow, hv.t_eq]

/-! ### Values alone -/

def pureR (v : AV) : M OR := pure { v }

theorem ok_pure {o : Oper} {τ : Nat → AV} {h : Heap} {x : OR} {v : AV} (hx : Gives (pureR v) x)
    (hrun : ∀ (ψ : PM) (a : Act) (w : World), (∀ y ∈ o.op.operands, VR ψ (opd τ y) (a.eval y)) → ∃ u, (execOp a.eval o).run P w = .ok (.value u) w ∧ VR ψ v u) : OpOk P o τ h x := by
  intro h' _ ψ a w hτ hr _
  obtain ⟨u, hu, hv⟩ := hrun ψ a w hτ
  rw [gives_ok hx]
  exact opDoes_value hu (After.pure hr hv)

theorem ok_move {o : Oper} {τ : Nat → AV} {h : Heap} {x : OR} {y : Operand} (ho : o.op = .move y ∨ o.op = .assign y) (hx : Gives (pureR (opd τ y)) x) : OpOk P o τ h x := by
  refine ok_pure hx fun ψ a w hτ => ⟨a.eval y, ?_, hτ y ?_⟩
  · rcases ho with ho | ho <;> simp [execOp, ho]
  · rcases ho with ho | ho <;> simp [ho, Op.operands]

def exPick (τ : Nat → AV) (c x y : Operand) : M OR := do
  let c ← asOne (opd τ c)
  let b ← test c
  match b with
  | true => pureR (opd τ x)
  | false => pureR (opd τ y)

theorem ok_pick {o : Oper} {τ : Nat → AV} {h : Heap} {x : OR} {c p q : Operand} (ho : o.op = .pick c p q) (hx : Gives (exPick τ c p q) x) : OpOk P o τ h x := by
  obtain ⟨cv, h1, h2⟩ := gives_then hx
  obtain ⟨b, h3, h4⟩ := gives_then h2
  have hc : ∀ (ψ : PM) (a : Act), (∀ y ∈ o.op.operands, VR ψ (opd τ y) (a.eval y)) → a.eval c = .bool b := by
    intro ψ a hτ
    have := hτ c (by simp [ho, Op.operands])
    rw [gives_asOne h1] at this
    rw [this.t_eq]
    exact gives_test h3 ψ
  cases b with
  | true => exact ok_pure (show Gives (pureR (opd τ p)) x from h4) fun ψ a w hτ => ⟨a.eval p, by simp [execOp, ho, hc ψ a hτ, asBool], hτ p (by simp [ho, Op.operands])⟩
  | false => exact ok_pure (show Gives (pureR (opd τ q)) x from h4) fun ψ a w hτ => ⟨a.eval q, by simp [execOp, ho, hc ψ a hτ, asBool], hτ q (by simp [ho, Op.operands])⟩

def exNilCheck (τ : Nat → AV) (x : Operand) : M OR := do
  let v ← asOne (opd τ x)
  match v with
  | .ptr k n off => pureR (.one (.ptr k n off))
  | .fn f caps => pureR (.one (.fn f caps))
  | _ => bad

theorem ok_nilCheck {o : Oper} {τ : Nat → AV} {h : Heap} {x : OR} {y : Operand} (ho : o.op = .nilCheck y) (hx : Gives (exNilCheck τ y) x) : OpOk P o τ h x := by
  obtain ⟨v, h1, h2⟩ := gives_then hx
  have hc : ∀ (ψ : PM) (a : Act), (∀ y ∈ o.op.operands, VR ψ (opd τ y) (a.eval y)) → a.eval y = v.c ψ := by
    intro ψ a hτ
    have := hτ y (by simp [ho, Op.operands])
    rw [gives_asOne h1] at this
    exact this.t_eq
  cases v with
  | ptr k n off => exact ok_pure (show Gives (pureR (.one (.ptr k n off))) x from h2) fun ψ a w hτ => ⟨_, by simp [execOp, ho, hc ψ a hτ, A0.c]; rfl, .inr rfl⟩
  | fn f caps => exact ok_pure (show Gives (pureR (.one (.fn f caps))) x from h2) fun ψ a w hτ => ⟨_, by simp [execOp, ho, hc ψ a hτ, A0.c]; rfl, .inr rfl⟩
  | _ => exact (gives_bad h2).elim

/-! ### Loads and stores -/

def asPtr : A0 → M (Bool × Nat × Nat)
  | .ptr k n off => ok (k, n, off)
  | _ => bad

theorem gives_asPtr {x : A0} {k : Bool} {n off : Nat} (h : Gives (asPtr x) (k, n, off)) : x = .ptr k n off := by
  cases x with
  | ptr k' n' off' => cases gives_ok h; rfl
  | _ => exact (gives_bad h).elim

def exLoad (T : TT) (τ : Nat → AV) (h : Heap) (t : TypeId) (x : Operand) : M OR := do
  let v ← asOne (opd τ x)
  let (k, n, off) ← asPtr v
  let b ← get (hget h n)
  let r ← ldVar T t b k off
  pure { v := .t r, acc := [n] }

include hT in
theorem ok_load {o : Oper} {τ : Nat → AV} {h : Heap} {x : OR} {t : TypeId} {y : Operand} (ho : o.op = .load t y) (hx : Gives (exLoad T τ h t y) x) : OpOk P o τ h x := by
  obtain ⟨v, h1, h2⟩ := gives_then hx
  obtain ⟨⟨k, n, off⟩, h3, h4⟩ := gives_then h2
  obtain ⟨b, h5, h6⟩ := gives_then h4
  obtain ⟨r, h7, h8⟩ := gives_then h6
  rw [gives_ok h8]
  intro h' hag ψ a w hτ hr _
  have hy := hτ y (by simp [ho, Op.operands])
  rw [gives_asOne h1, gives_asPtr h3] at hy
  have hb := hr.at_ n b (by rw [hag n (by simp)]; exact gives_get h5)
  refine opDoes_value (v := r.c ψ) ?_ (After.pure hr (.inr rfl))
  have ey := hy.t_eq
  simp only [AT.c, A0.c] at ey
  simp [execOp, ho, ey, Instr.loadAt, Instr.sureAddr, gives_ldVar hT h7 hb]

def exStore (T : TT) (τ : Nat → AV) (h : Heap) (t : TypeId) (x y : Operand) : M OR := do
  let v ← asOne (opd τ x)
  let (k, n, off) ← asPtr v
  let u ← asT (opd τ y)
  let b ← get (hget h n)
  let r ← stVar T t b k off u
  pure { v := .tup [], upd := [(n, r)], acc := [n] }

include hT in
theorem ok_store {o : Oper} {τ : Nat → AV} {h : Heap} {x : OR} {t : TypeId} {y z : Operand} (ho : o.op = .store t y z) (hx : Gives (exStore T τ h t y z) x) : OpOk P o τ h x := by
  obtain ⟨v, h1, h2⟩ := gives_then hx
  obtain ⟨⟨k, n, off⟩, h3, h4⟩ := gives_then h2
  obtain ⟨u, h5, h6⟩ := gives_then h4
  obtain ⟨b, h7, h8⟩ := gives_then h6
  obtain ⟨r, h9, h10⟩ := gives_then h8
  rw [gives_ok h10]
  intro h' hag ψ a w hτ hr _
  have hy := hτ y (by simp [ho, Op.operands])
  rw [gives_asOne h1, gives_asPtr h3] at hy
  have hz := hτ z (by simp [ho, Op.operands])
  rw [gives_asT h5] at hz
  have hg : hget h' n = some b := by rw [hag n (by simp)]; exact gives_get h7
  have hb := hr.at_ n b hg
  obtain ⟨e1, e2, e3, e4, e5, tail, e6, e7, e8⟩ := gives_stVar hT h9 hb
  have hst := hr.store hg e1 e2 e3 (tail' := tail) (by rw [e4]; exact e6.len e5) e7
  refine opDoes_skip (w' := w.setRow (ψ n).b (r.c.c ψ ++ tail).toArray) ?_ ⟨ψ, .inr rfl, hst.1, hst.2⟩
  have ey := hy.t_eq
  simp only [AT.c, A0.c] at ey
  simp [execOp, ho, ey, hz.t_eq, Instr.storeAt, Instr.sureAddr, e8]

/-! ### Operators -/

def isNum : A0 → Option (Bool × IntKind × Int)
  | .lit k n => some (true, k, n)
  | .int k n => some (false, k, n)
  | _ => none
def isBool : A0 → Option (Bool × Bool)
  | .blit b => some (true, b)
  | .bool b => some (false, b)
  | _ => none

theorem isNum_c {x : A0} {l : Bool} {k : IntKind} {n : Int} (h : isNum x = some (l, k, n)) (ψ : PM) : x.c ψ = .int k n := by
  cases x <;> cases h <;> rfl
theorem isBool_c {x : A0} {l b : Bool} (h : isBool x = some (l, b)) (ψ : PM) : x.c ψ = .bool b := by
  cases x <;> cases h <;> rfl

def binInts (op : BinOp) (lx : Bool) (k : IntKind) (x : Int) (ly : Bool) (k' : IntKind) (y : Int) : M A0 :=
  match op with
  | .shl => do let r ← arith .shl k x ly y; pure (mkNum (lx && ly) k r)
  | .shr => do let r ← arith .shr k x ly y; pure (mkNum (lx && ly) k r)
  | op => do
    need (decide (k = k'))
    match cmpOp op x y with
    | some c => pure (mkBool (lx && ly) c)
    | none => do let r ← arith op k x ly y; pure (mkNum (lx && ly) k r)

theorem run_arith {op : BinOp} {k : IntKind} {x : Int} {ly : Bool} {y r : Int} (h : Gives (arith op k x ly y) r) (t : TypeId) (yk : IntKind) (hk : op = .shl ∨ op = .shr ∨ yk = k)
    (hc : cmpOp op x y = none) (w : World) : (binOp op t (.int k x) (.int yk y)).run P w = .ok (.int k r) w := by
  cases op with
  | shl =>
    obtain ⟨_, h1, h2⟩ := gives_then (h : Gives (must ly (0 ≤ y) >>= _) r)
    have := gives_must h1
    rw [gives_ok h2]
    simp [binOp, Op.shift, show ¬ y < 0 by omega]
  | shr =>
    obtain ⟨_, h1, h2⟩ := gives_then (h : Gives (must ly (0 ≤ y) >>= _) r)
    have := gives_must h1
    rw [gives_ok h2]
    simp [binOp, Op.shift, show ¬ y < 0 by omega]
  | quo =>
    have hk' : yk = k := by simpa using hk
    obtain ⟨_, h1, h2⟩ := gives_then (h : Gives (must ly (y ≠ 0) >>= _) r)
    have := gives_must h1
    rw [gives_ok h2, hk']
    simp [binOp, Op.intDiv, this]
  | rem =>
    have hk' : yk = k := by simpa using hk
    obtain ⟨_, h1, h2⟩ := gives_then (h : Gives (must ly (y ≠ 0) >>= _) r)
    have := gives_must h1
    rw [gives_ok h2, hk']
    simp [binOp, Op.intDiv, this]
  | add => have hk' : yk = k := by simpa using hk
           rw [gives_ok h, hk']; simp [binOp, Op.intArith]
  | sub => have hk' : yk = k := by simpa using hk
           rw [gives_ok h, hk']; simp [binOp, Op.intArith]
  | mul => have hk' : yk = k := by simpa using hk
           rw [gives_ok h, hk']; simp [binOp, Op.intArith]
  | and => have hk' : yk = k := by simpa using hk
           rw [gives_ok h, hk', binOp_and, intBits_and]; rfl
  | or => have hk' : yk = k := by simpa using hk
          rw [gives_ok h, hk', binOp_or, intBits_or]; rfl
  | xor => have hk' : yk = k := by simpa using hk
           rw [gives_ok h, hk', binOp_xor, intBits_xor]; rfl
  | andNot => have hk' : yk = k := by simpa using hk
              rw [gives_ok h, hk', binOp_andNot, intBits_andNot]; rfl
  | _ => cases hc

theorem run_cmp {op : BinOp} {k : IntKind} {x y : Int} {c : Bool} (h : cmpOp op x y = some c) (t : TypeId) (w : World) :
    (binOp op t (.int k x) (.int k y)).run P w = .ok (.bool c) w := by
  cases op <;> cases h <;> simp [binOp, Op.intCmp]

theorem gives_binInts {op : BinOp} {lx : Bool} {k : IntKind} {x : Int} {ly : Bool} {k' : IntKind} {y : Int} {r : A0} (h : Gives (binInts op lx k x ly k' y) r) (t : TypeId) (w : World) (ψ : PM) :
    (binOp op t (.int k x) (.int k' y)).run P w = .ok (r.c ψ) w := by
  have two : ∀ op', (op' = BinOp.shl ∨ op' = .shr) → Gives (do let r ← arith op' k x ly y; pure (mkNum (lx && ly) k r) : M A0) r → (binOp op' t (.int k x) (.int k' y)).run P w = .ok (r.c ψ) w := by
    intro op' ho h
    obtain ⟨n, h1, h2⟩ := gives_then h
    rw [gives_ok h2, mkNum_c]
    refine run_arith h1 t k' ?_ ?_ w
    · rcases ho with rfl | rfl <;> simp
    · rcases ho with rfl | rfl <;> rfl
  have rest : Gives (do
      need (decide (k = k'))
      match cmpOp op x y with
      | some c => pure (mkBool (lx && ly) c)
      | none => do let r ← arith op k x ly y; pure (mkNum (lx && ly) k r) : M A0) r → (binOp op t (.int k x) (.int k' y)).run P w = .ok (r.c ψ) w := by
    intro h
    obtain ⟨_, h1, h2⟩ := gives_then h
    have hk : k = k' := of_decide_eq_true (gives_need h1)
    subst hk
    cases hc : cmpOp op x y with
    | some c =>
      rw [hc] at h2
      rw [gives_ok h2, mkBool_c]
      exact run_cmp hc t w
    | none =>
      rw [hc] at h2
      obtain ⟨n, h3, h4⟩ := gives_then h2
      rw [gives_ok h4, mkNum_c]
      exact run_arith h3 t k (.inr (.inr rfl)) hc w
  cases op with
  | shl => exact two .shl (.inl rfl) h
  | shr => exact two .shr (.inr rfl) h
  | _ => exact rest h

/-- Two values of one cell under an operator. -/
def binA (T : TT) (op : BinOp) (xt : TypeId) (x y : A0) : M A0 :=
  match isNum x, isNum y with
  | some (lx, k, a), some (ly, k', b) => binInts op lx k a ly k' b
  | _, _ => match isBool x, isBool y with
    | some (lx, a), some (ly, b) => do
      let ti ← get (T xt)
      match ti.und, op with
      | .bool, .eql => pure (mkBool (lx && ly) (a == b))
      | .bool, .neq => pure (mkBool (lx && ly) (!(a == b)))
      | _, _ => bad
    | _, _ => match x, y with
      | .str s, .str u => match op with
        | .eql => pure (.bool (s.toList == u.toList))
        | .neq => pure (.bool !(s.toList == u.toList))
        | _ => bad
      | .ptr _ _ _, .nilp => do
        let ti ← get (T xt)
        match ti.und, op with
        | .pointer _, .eql => pure (.blit false)
        | .pointer _, .neq => pure (.blit true)
        | _, _ => bad
      | .nilp, .nilp => do
        let ti ← get (T xt)
        match ti.und, op with
        | .pointer _, .eql => pure (.blit true)
        | .pointer _, .neq => pure (.blit false)
        | _, _ => bad
      | .sl _ _ _ _ _, .nilsl => do
        let ti ← get (T xt)
        match ti.und, op with
        | .slice _, .eql => pure (.blit false)
        | .slice _, .neq => pure (.blit true)
        | _, _ => bad
      | .nilsl, .nilsl => do
        let ti ← get (T xt)
        match ti.und, op with
        | .slice _, .eql => pure (.blit true)
        | .slice _, .neq => pure (.blit false)
        | _, _ => bad
      | _, _ => bad

theorem run_eql (t : TypeId) (x y : Value) (b : Bool) (w : World) (hx : ∀ k n, x = .int k n → ∀ k' m, y ≠ .int k' m) (hx2 : ∀ k n, x ≠ .float k n) (hx3 : ∀ k n m, x ≠ .complex k n m) (hx4 : ∀ s, x ≠ .string s)
    (h : (Op.equalIn 10000 t x y).run P w = .ok b w) : (binOp .eql t x y).run P w = .ok (.bool b) w ∧ (binOp .neq t x y).run P w = .ok (.bool !b) w := by
  have e : (Op.equal t x y).run P w = .ok b w := h
  constructor
  · cases x <;> cases y <;> simp_all [binOp]
  · cases x <;> cases y <;> simp_all [binOp]

section
variable (w : World) (d : Nat) {t : TypeId} (a : Addr) (n m : Nat)
theorem eq_pn {e : TypeId} (h : P.underlying t = some (.pointer e)) : (Op.equalIn (d + 1) t (.pointer (some a)) (.pointer none)).run P w = .ok false w := by
  simp [Op.equalIn, run_underlying h]
theorem eq_nn {e : TypeId} (h : P.underlying t = some (.pointer e)) : (Op.equalIn (d + 1) t (.pointer none) (.pointer none)).run P w = .ok true w := by
  simp [Op.equalIn, run_underlying h]
theorem eq_sn {e : TypeId} (h : P.underlying t = some (.slice e)) : (Op.equalIn (d + 1) t (.slice (some a) n m) (.slice none 0 0)).run P w = .ok false w := by
  simp [Op.equalIn, run_underlying h]
theorem eq_snn {e : TypeId} (h : P.underlying t = some (.slice e)) : (Op.equalIn (d + 1) t (.slice none 0 0) (.slice none 0 0)).run P w = .ok true w := by
  simp [Op.equalIn, run_underlying h]
end

include hT in
theorem gives_binA {op : BinOp} {xt : TypeId} {x y r : A0} (h : Gives (binA T op xt x y) r) (w : World) (ψ : PM) (p q : Operand) :
    (do eqGuard op xt p q (x.c ψ) (y.c ψ); binOp op xt (x.c ψ) (y.c ψ) : Sem Value).run P w = .ok (r.c ψ) w := by
  unfold binA at h
  split at h
  · rename_i lx k a ly k' b hx hy
    rw [isNum_c hx, isNum_c hy, eqGuard_at_int]
    simpa using gives_binInts h xt w ψ
  · split at h
    · rename_i lx a ly b hx hy
      obtain ⟨ti, h1, h2⟩ := gives_then h
      have hti := hT xt ti (gives_get h1)
      rw [isBool_c hx, isBool_c hy, eqGuard_at_bool]
      have key : ∀ hu : ti.und = .bool, (Op.equalIn 10000 xt (.bool a) (.bool b)).run P w = .ok (a == b) w := fun hu => Go.run_equalIn_bool' w 9999 xt a b (by rw [hti.und, hu])
      split at h2
      · rename_i hu
        rw [gives_ok h2, mkBool_c]
        have := (run_eql (P := P) xt (.bool a) (.bool b) _ w (by simp) (by simp) (by simp) (by simp) (key hu)).1
        simpa using this
      · rename_i hu
        rw [gives_ok h2, mkBool_c]
        have := (run_eql (P := P) xt (.bool a) (.bool b) _ w (by simp) (by simp) (by simp) (by simp) (key hu)).2
        simpa using this
      · exact (gives_bad h2).elim
    · split at h
      · rename_i s u _ _ _
        simp only [A0.c, eqGuard_at_string]
        split at h
        · rw [gives_ok h]; simp [binOp, Op.stringOp]
        · rw [gives_ok h]; simp [binOp, Op.stringOp]
        · exact (gives_bad h).elim
      · obtain ⟨ti, h1, h2⟩ := gives_then h
        have hti := hT xt ti (gives_get h1)
        simp only [A0.c, eqGuard_at_pointer]
        split at h2
        · rename_i hu
          rw [gives_ok h2]
          simpa using (run_eql (P := P) xt (.pointer (some _)) (.pointer none) false w (by simp) (by simp) (by simp) (by simp) (eq_pn w 9999 _ (hu ▸ hti.und))).1
        · rename_i hu
          rw [gives_ok h2]
          simpa using (run_eql (P := P) xt (.pointer (some _)) (.pointer none) false w (by simp) (by simp) (by simp) (by simp) (eq_pn w 9999 _ (hu ▸ hti.und))).2
        · exact (gives_bad h2).elim
      · obtain ⟨ti, h1, h2⟩ := gives_then h
        have hti := hT xt ti (gives_get h1)
        simp only [A0.c, eqGuard_at_pointer]
        split at h2
        · rename_i hu
          rw [gives_ok h2]
          simpa using (run_eql (P := P) xt (.pointer none) (.pointer none) true w (by simp) (by simp) (by simp) (by simp) (eq_nn w 9999 (hu ▸ hti.und))).1
        · rename_i hu
          rw [gives_ok h2]
          simpa using (run_eql (P := P) xt (.pointer none) (.pointer none) true w (by simp) (by simp) (by simp) (by simp) (eq_nn w 9999 (hu ▸ hti.und))).2
        · exact (gives_bad h2).elim
      · obtain ⟨ti, h1, h2⟩ := gives_then h
        have hti := hT xt ti (gives_get h1)
        simp only [A0.c, eqGuard_at_slice]
        split at h2
        · rename_i hu
          rw [gives_ok h2]
          simpa using (run_eql (P := P) xt (.slice (some _) _ _) (.slice none 0 0) false w (by simp) (by simp) (by simp) (by simp) (eq_sn w 9999 _ _ _ (hu ▸ hti.und))).1
        · rename_i hu
          rw [gives_ok h2]
          simpa using (run_eql (P := P) xt (.slice (some _) _ _) (.slice none 0 0) false w (by simp) (by simp) (by simp) (by simp) (eq_sn w 9999 _ _ _ (hu ▸ hti.und))).2
        · exact (gives_bad h2).elim
      · obtain ⟨ti, h1, h2⟩ := gives_then h
        have hti := hT xt ti (gives_get h1)
        simp only [A0.c, eqGuard_at_slice]
        split at h2
        · rename_i hu
          rw [gives_ok h2]
          simpa using (run_eql (P := P) xt (.slice none 0 0) (.slice none 0 0) true w (by simp) (by simp) (by simp) (by simp) (eq_snn w 9999 (hu ▸ hti.und))).1
        · rename_i hu
          rw [gives_ok h2]
          simpa using (run_eql (P := P) xt (.slice none 0 0) (.slice none 0 0) true w (by simp) (by simp) (by simp) (by simp) (eq_snn w 9999 (hu ▸ hti.und))).2
        · exact (gives_bad h2).elim
      · exact (gives_bad h).elim

end
end Go.Ev
