/-
  An evaluator of loaded Go code over abstract values, part 5: more operations that make no call: comparisons, conversions, parts of values, addresses, slices, literals.
  Conditions: those that the evaluator lists as it goes; nothing here names a program.
-/
import Derived.Test.YtnndhmnabbkamaaEv4
namespace Go.Ev
open Go

/-! ### Equality cell by cell -/

def allInt (k : IntKind) : List EK → Bool
  | [] => true
  | .int k' :: r => decide (k' = k) && allInt k r
  | _ :: _ => false

theorem allInt_fits {k : IntKind} : ∀ {ks : List EK} {l : List Int}, allInt k ks = true → l.length = ks.length → Fits ks (l.map (Value.int k))
  | [], [], _, _ => trivial
  | [], _ :: _, _, h => by simp at h
  | _ :: _, [], _, h => by simp at h
  | .int k' :: r, n :: l, h, hl => by
    simp only [allInt, Bool.and_eq_true, decide_eq_true_eq] at h
    refine ⟨⟨n, by rw [h.1]⟩, allInt_fits h.2 (by simpa using hl)⟩
  | .bool :: _, _ :: _, h, _ => by simp [allInt] at h
  | .str :: _, _ :: _, h, _ => by simp [allInt] at h

theorem eqVs_ints (k : IntKind) : ∀ (l m : List Int), eqVs (l.map (Value.int k)) (m.map (Value.int k)) = decide (l = m)
  | [], [] => rfl
  | [], _ :: _ => rfl
  | _ :: _, [] => rfl
  | a :: l, b :: m => by
    simp only [List.map_cons, eqVs, eqV, eqVs_ints k l m, List.cons.injEq, Bool.decide_and]
    rfl

def eqA (k : EK) (x y : A0) : Option Bool :=
  match k with
  | .int k => match isNum x, isNum y with
    | some (_, k1, a), some (_, k2, b) => match decide (k1 = k) && decide (k2 = k) with
      | true => some (a == b)
      | false => none
    | _, _ => none
  | .bool => match isBool x, isBool y with
    | some (_, a), some (_, b) => some (a == b)
    | _, _ => none
  | .str => match x, y with
    | .str s, .str u => some (s.toList == u.toList)
    | _, _ => none

theorem eqA_c {k : EK} {x y : A0} {b : Bool} (h : eqA k x y = some b) (ψ : PM) : k.fits (x.c ψ) ∧ k.fits (y.c ψ) ∧ eqV (x.c ψ) (y.c ψ) = b := by
  unfold eqA at h
  cases k with
  | int k =>
    simp only at h
    split at h
    · rename_i l1 k1 n l2 k2 m hx hy
      split at h
      · rename_i hd
        simp only [Bool.and_eq_true, decide_eq_true_eq] at hd
        cases h
        rw [isNum_c hx, isNum_c hy]
        exact ⟨⟨n, by rw [hd.1]⟩, ⟨m, by rw [hd.2]⟩, rfl⟩
      · cases h
    · cases h
  | bool =>
    simp only at h
    split at h
    · rename_i l1 n l2 m hx hy
      cases h
      rw [isBool_c hx, isBool_c hy]
      exact ⟨⟨n, rfl⟩, ⟨m, rfl⟩, rfl⟩
    · cases h
  | str =>
    simp only at h
    split at h
    · cases h
      exact ⟨⟨_, rfl⟩, ⟨_, rfl⟩, rfl⟩
    · cases h

def eqL : List EK → List A0 → List A0 → Option Bool
  | [], [], [] => some true
  | k :: ks, x :: xs, y :: ys => match eqA k x y, eqL ks xs ys with
    | some a, some b => some (a && b)
    | _, _ => none
  | _, _, _ => none

theorem eqL_c (ψ : PM) : ∀ {ks : List EK} {x y : List A0} {b : Bool}, eqL ks x y = some b → Fits ks (x.map (A0.c ψ)) ∧ Fits ks (y.map (A0.c ψ)) ∧ eqVs (x.map (A0.c ψ)) (y.map (A0.c ψ)) = b
  | [], [], [], b, h => by cases h; exact ⟨trivial, trivial, rfl⟩
  | k :: ks, x :: xs, y :: ys, b, h => by
    simp only [eqL] at h
    split at h
    · rename_i a c ha hc
      cases h
      obtain ⟨f1, f2, f3⟩ := eqA_c ha ψ
      obtain ⟨g1, g2, g3⟩ := eqL_c ψ hc
      exact ⟨⟨f1, g1⟩, ⟨f2, g2⟩, by simp only [List.map_cons, eqVs, f3, g3]⟩
    · cases h
  | [], [], _ :: _, _, h => by cases h
  | [], _ :: _, _, _, h => by cases h
  | _ :: _, [], _, _, h => by cases h
  | _ :: _, _ :: _, [], _, h => by cases h

/-- Are two aggregates equal? -/
def eqCells (ks : List EK) (c d : Cells) : M Bool :=
  match cellsInts c, cellsInts d with
  | some (k, l), some (k', l') => match decide (k = k') && allInt k ks with
    | true => do
      lenIs c ks.length
      lenIs d ks.length
      pure (decide (l = l'))
    | false => bad
  | _, _ => match c, d with
    | .vals x, .vals y => get (eqL ks x y)
    | _, _ => bad

theorem gives_eqCells {ks : List EK} {c d : Cells} {b : Bool} (h : Gives (eqCells ks c d) b) (ψ : PM) : Fits ks (c.c ψ) ∧ Fits ks (d.c ψ) ∧ eqVs (c.c ψ) (d.c ψ) = b := by
  unfold eqCells at h
  split at h
  · rename_i k l k' l' hc hd
    split at h
    · rename_i hk
      simp only [Bool.and_eq_true, decide_eq_true_eq] at hk
      obtain ⟨rfl, hk⟩ := hk
      obtain ⟨_, h1, h2⟩ := gives_then h
      obtain ⟨_, h3, h4⟩ := gives_then h2
      have l1 := gives_lenIs h1 ψ
      have l2 := gives_lenIs h3 ψ
      rw [gives_ok h4]
      rw [cellsInts_c hc] at l1 ⊢
      rw [cellsInts_c hd] at l2 ⊢
      exact ⟨allInt_fits hk (by simpa using l1), allInt_fits hk (by simpa using l2), eqVs_ints _ _ _⟩
    · exact (gives_bad h).elim
  · split at h
    · exact eqL_c ψ (gives_get h)
    · exact (gives_bad h).elim

section
variable {P : Program} {T : TT} (hT : TOk P T)

def exBin (T : TT) (τ : Nat → AV) (op : BinOp) (xt : TypeId) (x y : Operand) : M OR :=
  match opd τ x, opd τ y with
  | .t (.one a), .t (.one b) => do
    let r ← binA T op xt a b
    pureR (.one r)
  | .t (.agg c), .t (.agg d) => do
    let ti ← get (T xt)
    let ks ← get ti.flat
    let b ← eqCells ks c d
    match op with
    | .eql => pureR (.one (.bool b))
    | .neq => pureR (.one (.bool !b))
    | _ => bad
  | _, _ => bad

include hT in
theorem ok_bin {o : Oper} {τ : Nat → AV} {h : Heap} {x : OR} {op : BinOp} {xt yt : TypeId} {p q : Operand} (ho : o.op = .binOp op xt p q yt) (hx : Gives (exBin T τ op xt p q) x) : OpOk P o τ h x := by
  unfold exBin at hx
  have hp : ∀ (ψ : PM) (a : Act) (v : AT), (∀ y ∈ o.op.operands, VR ψ (opd τ y) (a.eval y)) → opd τ p = .t v → a.eval p = v.c ψ := by
    intro ψ a v hτ e
    have := hτ p (by simp [ho, Op.operands])
    rw [e] at this
    exact this.t_eq
  have hq : ∀ (ψ : PM) (a : Act) (v : AT), (∀ y ∈ o.op.operands, VR ψ (opd τ y) (a.eval y)) → opd τ q = .t v → a.eval q = v.c ψ := by
    intro ψ a v hτ e
    have := hτ q (by simp [ho, Op.operands])
    rw [e] at this
    exact this.t_eq
  split at hx
  · rename_i a b ea eb
    obtain ⟨r, h1, h2⟩ := gives_then hx
    refine ok_pure h2 fun ψ act w hτ => ⟨r.c ψ, ?_, .inr rfl⟩
    have := gives_binA hT h1 w ψ p q
    simp only [execOp, ho, hp ψ act _ hτ ea, hq ψ act _ hτ eb, AT.c]
    simp only [Sem.run_bind, Sem.run_pure] at this ⊢
    rw [this]
    rfl
  · rename_i c d ea eb
    obtain ⟨ti, h1, h2⟩ := gives_then hx
    obtain ⟨ks, h3, h4⟩ := gives_then h2
    obtain ⟨b, h5, h6⟩ := gives_then h4
    have hti := hT xt ti (gives_get h1)
    obtain ⟨g1, g2⟩ := hti.flat ks (gives_get h3)
    have key : ∀ (ψ : PM) (w : World), (Op.equalIn 10000 xt (.agg (c.c ψ).toArray) (.agg (d.c ψ).toArray)).run P w = .ok b w := by
      intro ψ w
      obtain ⟨f1, f2, f3⟩ := gives_eqCells h5 ψ
      rw [g2 w _ _ f1 f2, f3]
    have two := fun (ψ : PM) (w : World) => run_eql (P := P) xt (.agg (c.c ψ).toArray) (.agg (d.c ψ).toArray) b w (by simp) (by simp) (by simp) (by simp) (key ψ w)
    split at h6
    · refine ok_pure h6 fun ψ act w hτ => ⟨.bool b, ?_, .inr rfl⟩
      simp [execOp, ho, hp ψ act _ hτ ea, hq ψ act _ hτ eb, AT.c, run_eqGuard_agg w _ _ _ _ _ _ g1, (two ψ w).1]
    · refine ok_pure h6 fun ψ act w hτ => ⟨.bool !b, ?_, .inr rfl⟩
      simp [execOp, ho, hp ψ act _ hτ ea, hq ψ act _ hτ eb, AT.c, run_eqGuard_agg w _ _ _ _ _ _ g1, (two ψ w).2]
    · exact (gives_bad h6).elim
  · exact (gives_bad hx).elim

def exUn (τ : Nat → AV) (op : UnOp) (x : Operand) : M OR := do
  let v ← asOne (opd τ x)
  match op, isNum v, isBool v with
  | .neg, some (l, k, n), _ => pureR (.one (mkNum l k (k.wrap (0 - n))))
  | .xor, some (l, k, n), _ => pureR (.one (mkNum l k (bitOp .xor k (if k.signed then -1 else k.max) n)))
  | .not, _, some (l, b) => pureR (.one (mkBool l !b))
  | _, _, _ => bad

theorem ok_un {o : Oper} {τ : Nat → AV} {h : Heap} {x : OR} {op : UnOp} {xt : TypeId} {p : Operand} (ho : o.op = .unOp op xt p) (hx : Gives (exUn τ op p) x) : OpOk P o τ h x := by
  obtain ⟨v, h1, h2⟩ := gives_then hx
  have hp : ∀ (ψ : PM) (a : Act), (∀ y ∈ o.op.operands, VR ψ (opd τ y) (a.eval y)) → a.eval p = v.c ψ := by
    intro ψ a hτ
    have := hτ p (by simp [ho, Op.operands])
    rw [gives_asOne h1] at this
    exact this.t_eq
  split at h2
  · rename_i l k n _ e
    exact ok_pure h2 fun ψ a w hτ => ⟨_, by simp [execOp, ho, hp ψ a hτ, isNum_c e ψ, Op.unary, Op.intArith]; rfl, .inr (by simp only [AV.c, AT.c]; rw [mkNum_c]; simp)⟩
  · rename_i l k n _ e
    refine ok_pure h2 fun ψ a w hτ => ⟨_, by simp [execOp, ho, hp ψ a hτ, isNum_c e ψ, Op.unary, intBits_xor]; rfl, .inr (by simp only [AV.c, AT.c]; rw [mkNum_c]; rfl)⟩
  · rename_i l b _ _ e
    exact ok_pure h2 fun ψ a w hτ => ⟨_, by simp [execOp, ho, hp ψ a hτ, isBool_c e ψ, Op.unary]; rfl, .inr (by simp only [AV.c, AT.c]; rw [mkBool_c])⟩
  · exact (gives_bad h2).elim

def exConvert (T : TT) (τ : Nat → AV) (src dst : TypeId) (x : Operand) : M OR := do
  let v ← asOne (opd τ x)
  let _ ← get (T src)
  let ti ← get (T dst)
  match ti.und, isNum v with
  | .int k, some (l, _, n) => pureR (.one (mkNum l k (k.wrap n)))
  | _, _ => bad

include hT in
theorem ok_convert {o : Oper} {τ : Nat → AV} {h : Heap} {x : OR} {s d : TypeId} {p : Operand} (ho : o.op = .convert s d p) (hx : Gives (exConvert T τ s d p) x) : OpOk P o τ h x := by
  obtain ⟨v, h1, h2⟩ := gives_then hx
  obtain ⟨ts, h3, h4⟩ := gives_then h2
  obtain ⟨td, h5, h6⟩ := gives_then h4
  have hts := hT s ts (gives_get h3)
  have htd := hT d td (gives_get h5)
  have hp : ∀ (ψ : PM) (a : Act), (∀ y ∈ o.op.operands, VR ψ (opd τ y) (a.eval y)) → a.eval p = v.c ψ := by
    intro ψ a hτ
    have := hτ p (by simp [ho, Op.operands])
    rw [gives_asOne h1] at this
    exact this.t_eq
  split at h6
  · rename_i k l k' n hu e
    refine ok_pure h6 fun ψ a w hτ => ⟨_, ?_, .inr rfl⟩
    simp [execOp, ho, hp ψ a hτ, isNum_c e ψ, convert, hts.run_und, htd.run_und, hu, Conv.intToInt, AV.c, AT.c, mkNum_c]
  · exact (gives_bad h6).elim

def exExtract (τ : Nat → AV) (x : Operand) (i : Nat) : M OR :=
  match opd τ x with
  | .tup l => do
    let v ← get l[i]?
    pureR (.t v)
  | _ => bad

theorem ok_extract {o : Oper} {τ : Nat → AV} {h : Heap} {x : OR} {i : Nat} {p : Operand} (ho : o.op = .extract p i) (hx : Gives (exExtract τ p i) x) : OpOk P o τ h x := by
  unfold exExtract at hx
  split at hx
  · rename_i l e
    obtain ⟨v, h1, h2⟩ := gives_then hx
    refine ok_pure h2 fun ψ a w hτ => ⟨_, ?_, .inr rfl⟩
    have := hτ p (by simp [ho, Op.operands])
    rw [e] at this
    rcases this with this | this
    · cases this
    · simp [execOp, ho, this, AV.c, Instr.extract, gives_get h1]
  · exact (gives_bad hx).elim

/-! ### Parts of aggregates -/

/-- A part of the type t of some cells. -/
def exPart (T : TT) (t : TypeId) (c : Cells) (known : Bool) (off : Nat) : M AT := do
  let ti ← get (T t)
  match isAggD ti.und with
  | true => do
    let c ← ldN false c known off ti.size
    pure (.agg c)
  | false => do
    let x ← ld1 c known off
    pure (.one x)

include hT in
theorem gives_part {t : TypeId} {c : Cells} {known : Bool} {off : Nat} {x : AT} (h : Gives (exPart T t c known off) x) (ψ : PM) (w : World) :
    (part t (c.c ψ).toArray off).run P w = .ok (x.c ψ) w := by
  obtain ⟨ti, h1, h2⟩ := gives_then h
  have hti := hT t ti (gives_get h1)
  unfold part
  simp only [Sem.run_bind, hti.run_isAgg, Result.andThen_ok]
  cases ha : isAggD ti.und with
  | true =>
    rw [ha] at h2
    obtain ⟨d, h3, h4⟩ := gives_then (h2 : Gives (ldN false c known off ti.size >>= _) x)
    rw [gives_ok h4]
    obtain ⟨e1, e2⟩ := gives_ldN h3 ψ
    simp only [if_true, Sem.run_bind, hti.run_size, Result.andThen_ok, Sem.run_pure, AT.c, e1]
    congr 2
    apply Array.ext'
    simp only [Array.toList_extract, List.extract_eq_drop_take']
    rw [List.drop_take, show off + ti.size - off = ti.size by omega]
  | false =>
    rw [ha] at h2
    obtain ⟨d, h3, h4⟩ := gives_then (h2 : Gives (ld1 c known off >>= _) x)
    rw [gives_ok h4]
    have := gives_ld1 h3 ψ
    simp [this, AT.c]

def exField (T : TT) (τ : Nat → AV) (xt : TypeId) (x : Operand) (f : Nat) : M OR := do
  let c ← asCells (opd τ x)
  let ti ← get (T xt)
  match ti.und with
  | .struct fs => do
    let fd ← get fs[f]?
    let r ← exPart T fd.type c true fd.offset
    pureR (.t r)
  | _ => bad

include hT in
theorem ok_field {o : Oper} {τ : Nat → AV} {h : Heap} {x : OR} {xt : TypeId} {p : Operand} {f : Nat} (ho : o.op = .field xt p f) (hx : Gives (exField T τ xt p f) x) : OpOk P o τ h x := by
  obtain ⟨c, h1, h2⟩ := gives_then hx
  obtain ⟨ti, h3, h4⟩ := gives_then h2
  have hti := hT xt ti (gives_get h3)
  split at h4
  · rename_i fs hu
    obtain ⟨fd, h5, h6⟩ := gives_then h4
    obtain ⟨r, h7, h8⟩ := gives_then h6
    refine ok_pure h8 fun ψ a w hτ => ⟨_, ?_, .inr rfl⟩
    have := hτ p (by simp [ho, Op.operands])
    rw [gives_asCells h1] at this
    have e := this.t_eq
    simp only [AT.c] at e
    simp only [execOp, ho, e, Instr.field, Sem.run_bind, hti.run_und, Result.andThen_ok, hu, gives_get h5, asAgg, Sem.run_pure, gives_part hT h7 ψ w]
    rfl
  · exact (gives_bad h4).elim

def exIndex (T : TT) (τ : Nat → AV) (xt : TypeId) (x i : Operand) : M OR := do
  let iv ← asOne (opd τ i)
  let (ki, _, n) ← get (isNum iv)
  let ti ← get (T xt)
  match ti.und, opd τ x with
  | .array len e, .t (.agg c) => do
    let te ← get (T e)
    must ki (0 ≤ n ∧ n < len)
    match Nat.beq te.size 1 with
    | true => do
      let r ← exPart T e c ki n.toNat
      pureR (.t r)
    | false => do
      let r ← exPart T e c ki (n.toNat * te.size)
      pureR (.t r)
  | .string, .t (.one (.str s)) => do
    note (0 ≤ n ∧ n < s.size)
    pureR (.one (.int .u8 ((s.data.getD n.toNat 0).toNat : Int)))
  | _, _ => bad

include hT in
theorem ok_index {o : Oper} {τ : Nat → AV} {h : Heap} {x : OR} {xt : TypeId} {p i : Operand} (ho : o.op = .index xt p i) (hx : Gives (exIndex T τ xt p i) x) : OpOk P o τ h x := by
  obtain ⟨iv, h1, h2⟩ := gives_then hx
  obtain ⟨⟨ki, k, n⟩, h3, h4⟩ := gives_then h2
  obtain ⟨ti, h5, h6⟩ := gives_then h4
  have hti := hT xt ti (gives_get h5)
  have hi : ∀ (ψ : PM) (a : Act), (∀ y ∈ o.op.operands, VR ψ (opd τ y) (a.eval y)) → a.eval i = .int k n := by
    intro ψ a hτ
    have := hτ i (by simp [ho, Op.operands])
    rw [gives_asOne h1] at this
    rw [this.t_eq]
    exact isNum_c (gives_get h3) ψ
  split at h6
  · rename_i len e c hu hc
    obtain ⟨te, h7, h8⟩ := gives_then h6
    obtain ⟨_, h9, h10⟩ := gives_then h8
    have hb := gives_must h9
    have hte := hT e te (gives_get h7)
    have go : ∀ (r : AT) (off : Nat), off = n.toNat * te.size → Gives (exPart T e c ki off) r → Gives (pureR (.t r)) x → OpOk P o τ h x := by
      intro r off hoff h11 h12
      refine ok_pure h12 fun ψ a w hτ => ⟨_, ?_, .inr rfl⟩
      have := hτ p (by simp [ho, Op.operands])
      rw [hc] at this
      have ep := this.t_eq
      simp only [AT.c] at ep
      subst hoff
      simp only [execOp, ho, ep, hi ψ a hτ, Instr.index, asIntOf, Sem.run_bind, Sem.run_pure, hti.run_und, Result.andThen_ok, hu, Sem.run_ite, hb, and_self, if_true, hte.run_size, gives_part hT h11 ψ w]
      rfl
    split at h10
    · rename_i hs
      have hs := Nat.eq_of_beq_eq_true hs
      obtain ⟨r, h11, h12⟩ := gives_then h10
      exact go r _ (by rw [hs, Nat.mul_one]) h11 h12
    · obtain ⟨r, h11, h12⟩ := gives_then h10
      exact go r _ rfl h11 h12
  · rename_i s hu hc
    obtain ⟨_, h7, h8⟩ := gives_then h6
    have hb := gives_note h7
    refine ok_pure h8 fun ψ a w hτ => ⟨_, ?_, .inr rfl⟩
    have := hτ p (by simp [ho, Op.operands])
    rw [hc] at this
    have ep := this.t_eq
    simp only [AT.c, A0.c] at ep
    have hlt : n.toNat < s.size := by omega
    have hg : s[n.toNat]? = some (s[n.toNat]'hlt) := by simp [hlt]
    have hd : s.data.getD n.toNat 0 = s[n.toNat]'hlt := by
      have h1 : n.toNat < s.data.size := hlt
      rw [Array.getD_eq_getD_getElem?, Array.getElem?_eq_getElem h1]
      rfl
    simp only [execOp, ho, ep, hi ψ a hτ, Instr.index, asIntOf, Sem.run_bind, Sem.run_pure, hti.run_und, Result.andThen_ok, hu, hb.1, if_true, hg, AV.c, AT.c, A0.c, hd]
  · exact (gives_bad h6).elim

end
end Go.Ev
