/-
  An evaluator of loaded Go code over abstract values, part 6: literals, addresses, slices.
  Conditions: those that the evaluator lists as it goes; nothing here names a program.
-/
import Derived.Test.YtnndhmnabbkamaaEv5
namespace Go.Ev
open Go

section
variable {P : Program} {T : TT} (hT : TOk P T)

/-! ### Literals -/

def exParts (τ : Nat → AV) : List (Nat × Operand) → M (List (Nat × AT))
  | [] => pure []
  | (i, x) :: r => do
    let v ← asT (opd τ x)
    let l ← exParts τ r
    pure ((i, v) :: l)

theorem gives_parts {τ : Nat → AV} {ψ : PM} {a : Act} : ∀ {ps : List (Nat × Operand)} {l : List (Nat × AT)}, Gives (exParts τ ps) l →
    (∀ p ∈ ps, VR ψ (opd τ p.2) (a.eval p.2)) → ps.map (fun (i, x) => (i, a.eval x)) = l.map fun (i, v) => (i, v.c ψ)
  | [], l, h, _ => by rw [gives_ok h]; rfl
  | (i, x) :: r, l, h, hv => by
    obtain ⟨v, h1, h2⟩ := gives_then h
    obtain ⟨m, h3, h4⟩ := gives_then h2
    rw [gives_ok h4]
    have e := hv (i, x) (List.mem_cons_self ..)
    rw [gives_asT h1] at e
    simp only [List.map_cons, e.t_eq, gives_parts h3 fun p hp => hv p (List.mem_cons_of_mem _ hp)]

def exFill (place : Nat → Option (Nat × Nat)) (c : Cells) : List (Nat × AT) → M Cells
  | [] => pure c
  | (i, v) :: rest => do
    let (off, size) ← get (place i)
    need v.isOnes
    let d ← stN false c true off v.cells size
    exFill place d rest

theorem foldl_set (cs : Array Value) (off : Nat) : ∀ (vs : List Value) (j : Nat), off + j + vs.length ≤ cs.size →
    ((vs.zipIdx j).foldl (fun cs (x : Value × Nat) => cs.setIfInBounds (off + x.2) x.1) cs) = (cs.toList.take (off + j) ++ vs ++ cs.toList.drop (off + j + vs.length)).toArray := by
  intro vs
  induction vs generalizing cs with
  | nil => intro j _; simp
  | cons v vs ih =>
    intro j h
    simp only [List.zipIdx_cons, List.foldl_cons]
    rw [ih (cs.setIfInBounds (off + j) v) (j + 1) (by simp at h ⊢; omega)]
    congr 1
    have hlt : off + j < cs.toList.length := by simp at h ⊢; omega
    rw [Array.toList_setIfInBounds, set_splice _ _ _ hlt]
    have h1 : (cs.toList.take (off + j)).length = off + j := by simp at h ⊢; omega
    have e1 : (cs.toList.take (off + j) ++ [v] ++ cs.toList.drop (off + j + 1)).take (off + (j + 1)) = cs.toList.take (off + j) ++ [v] := by
      rw [List.take_append_of_le_length (by simp at h ⊢; omega), List.take_of_length_le (by simp at h ⊢; omega)]
    have e2 : (cs.toList.take (off + j) ++ [v] ++ cs.toList.drop (off + j + 1)).drop (off + (j + 1) + vs.length) = cs.toList.drop (off + j + (vs.length + 1)) := by
      rw [List.drop_append, List.drop_of_length_le (by simp at h ⊢; omega), List.nil_append, List.drop_drop]
      congr 1
      simp at h ⊢
      omega
    rw [e1, e2]
    simp

theorem gives_fill {place : Nat → Option (Nat × Nat)} {ψ : PM} : ∀ {l : List (Nat × AT)} {c d : Cells}, Gives (exFill place c l) d →
    Instr.fill place (c.c ψ).toArray (l.map fun (i, v) => (i, v.c ψ)) = some (d.c ψ).toArray
  | [], c, d, h => by rw [gives_ok h]; rfl
  | (i, v) :: rest, c, d, h => by
    obtain ⟨⟨off, size⟩, h1, h2⟩ := gives_then h
    obtain ⟨_, h3, h4⟩ := gives_then h2
    obtain ⟨e, h5, h6⟩ := gives_then h4
    obtain ⟨e1, e2, e3⟩ := gives_stN h5 ψ
    have hc := AT.cells_c (gives_need h3) ψ
    have hsz : (v.c ψ).cells.size = size := by rw [hc]; simpa using e3
    simp only [List.map_cons, Instr.fill, gives_get h1, hsz, ne_eq, not_true_eq_false, decide_false, Bool.false_or, List.size_toArray]
    have hle : ¬ (off + size > (c.c ψ).length) := by omega
    simp only [hle, decide_false, Bool.false_eq_true, if_false]
    rw [← gives_fill h6]
    congr 1
    rw [hc]
    have := foldl_set (c.c ψ).toArray off (v.cells.c ψ) 0 (by simp; omega)
    simp only [Nat.add_zero] at this
    rw [e3] at this
    rw [e1, ← this]
    rw [← Array.foldl_toList]
    simp

def exPlaces (T : TT) : List Field → M (List (Nat × Nat))
  | [] => pure []
  | f :: fs => do
    let ti ← get (T f.type)
    let l ← exPlaces T fs
    pure ((f.offset, ti.size) :: l)

include hT in
theorem gives_places : ∀ {fs : List Field} {l : List (Nat × Nat)}, Gives (exPlaces T fs) l → fs.mapM (fun f => (P.info? f.type).map fun i => (f.offset, i.size)) = some l
  | [], l, h => by rw [gives_ok h]; rfl
  | f :: fs, l, h => by
    obtain ⟨ti, h1, h2⟩ := gives_then h
    obtain ⟨m, h3, h4⟩ := gives_then h2
    rw [gives_ok h4]
    have hti := hT f.type ti (gives_get h1)
    have hs := hti.size
    cases hi : P.info? f.type with
    | none => rw [hi] at hs; cases hs
    | some i =>
      rw [hi] at hs
      injection hs with hs
      simp [List.mapM_cons, hi, gives_places h3, hs]

def exBuild (T : TT) (τ : Nat → AV) (t : TypeId) (parts : Array (Nat × Operand)) : M OR := do
  let ps ← exParts τ parts.toList
  let ti ← get (T t)
  let z ← asCells (.t ti.zero)
  match ti.und with
  | .struct fs => do
    let pl ← exPlaces T fs.toList
    let c ← exFill (fun i => pl[i]?) z ps
    pureR (.agg c)
  | .array _ e => do
    let te ← get (T e)
    let c ← exFill (fun i => some (i * te.size, te.size)) z ps
    pureR (.agg c)
  | _ => bad

include hT in
theorem ok_build {o : Oper} {τ : Nat → AV} {h : Heap} {x : OR} {t : TypeId} {parts : Array (Nat × Operand)} (ho : o.op = .build t parts) (hx : Gives (exBuild T τ t parts) x) : OpOk P o τ h x := by
  obtain ⟨ps, h1, h2⟩ := gives_then hx
  obtain ⟨ti, h3, h4⟩ := gives_then h2
  obtain ⟨z, h5, h6⟩ := gives_then h4
  have hti := hT t ti (gives_get h3)
  have hz : ti.zero = .agg z := by
    have := gives_asCells h5
    cases hzz : ti.zero with
    | one x => rw [hzz] at this; cases this
    | agg c => rw [hzz] at this; cases this; rfl
  have done : ∀ (c : Cells), (∀ ψ, P.built t (ps.map fun (i, v) => (i, v.c ψ)) = some (c.c ψ).toArray) → Gives (pureR (.agg c)) x → OpOk P o τ h x := by
    intro c hc hx
    refine ok_pure hx fun ψ a w hτ => ⟨_, ?_, .inr rfl⟩
    have hm := gives_parts (ψ := ψ) (a := a) h1 fun p hp => hτ p.2 (by simp only [ho, Op.operands]; simp; exact ⟨p.1, by simpa using hp⟩)
    simp only [execOp, ho]
    have hb : P.built t (parts.map fun (i, x) => (i, a.eval x)).toList = some (c.c ψ).toArray := by
      rw [Array.toList_map, hm]
      exact hc ψ
    simp only [Sem.run_bind, run_build w t _ _ hb, Result.andThen_ok]
    rfl
  have info : ∃ i, P.info? t = some i ∧ ∀ ψ, i.zero = some (.agg (z.c ψ).toArray) := by
    have := hti.zero
    cases hi : P.info? t with
    | none => have h0 := this fun _ => ⟨0, 0, 0⟩; rw [hi] at h0; cases h0
    | some i => exact ⟨i, rfl, fun ψ => by have h0 := this ψ; rw [hi, hz] at h0; exact h0⟩
  obtain ⟨i, hi, hiz⟩ := info
  split at h6
  · rename_i fs hu
    obtain ⟨pl, h7, h8⟩ := gives_then h6
    obtain ⟨c, h9, h10⟩ := gives_then h8
    refine done c (fun ψ => ?_) h10
    unfold Program.built
    rw [hi, hti.und, hu]
    simp only [hiz ψ, gives_places hT h7]
    rw [← gives_fill (ψ := ψ) h9]
    congr 1
    funext j
    simp
  · rename_i n e hu
    obtain ⟨te, h7, h8⟩ := gives_then h6
    obtain ⟨c, h9, h10⟩ := gives_then h8
    have hte := hT e te (gives_get h7)
    refine done c (fun ψ => ?_) h10
    unfold Program.built
    rw [hi, hti.und, hu]
    have hs := hte.size
    cases hie : P.info? e with
    | none => rw [hie] at hs; cases hs
    | some ie =>
      rw [hie] at hs
      injection hs with hs
      have := gives_fill (ψ := ψ) h9
      rw [← hs] at this
      simpa [hiz ψ, hie, Value.cells] using this
  · exact (gives_bad h6).elim

/-- The cells of n zero values, side by side. -/
def zeros (z : AT) (n : Nat) : Cells :=
  match z with
  | .one x => .vals (List.replicate n x)
  | .agg (.vals l) => .vals (List.replicate n l).flatten
  | .agg (.ints k l) => .ints k (List.replicate n l).flatten

theorem zeros_c (z : AT) (hz : z.isOnes = true) (n : Nat) (ψ : PM) : (zeros z n).c ψ = (List.replicate n (z.cells.c ψ)).flatten := by
  cases z with
  | one x => simp [zeros, Cells.c, Cells.list, AT.cells, List.map_replicate]
  | agg c =>
    cases c with
    | vals l => simp [zeros, Cells.c, Cells.list, AT.cells, List.map_flatten, List.map_replicate]
    | ints k l => simp [zeros, Cells.c, Cells.list, AT.cells, List.map_flatten, List.map_replicate, Function.comp_def, A0.c]

theorem flatten_replicate_get {α : Type} (l : List α) (n i : Nat) (h : i < n * l.length) : (List.replicate n l).flatten[i]? = l[i % l.length]? := by
  induction n generalizing i with
  | zero => omega
  | succ n ih =>
    rw [List.replicate_succ, List.flatten_cons]
    by_cases hi : i < l.length
    · rw [List.getElem?_append_left hi, Nat.mod_eq_of_lt hi]
    · rw [List.getElem?_append_right (by omega), ih _ (by rw [Nat.succ_mul] at h; omega)]
      congr 1
      conv => rhs; rw [show i = (i - l.length) + l.length by omega, Nat.add_mod_right]

theorem range_zero (zs : Array Value) (n : Nat) (hz : zs.size ≠ 0) : (Array.range (n * zs.size)).map (zs[· % zs.size]!) = ((List.replicate n zs.toList).flatten).toArray := by
  apply Array.ext'
  apply List.ext_getElem?
  intro i
  by_cases hi : i < n * zs.size
  · rw [List.toList_toArray, flatten_replicate_get _ _ _ (by simpa using hi)]
    have : i % zs.size < zs.size := Nat.mod_lt _ (by omega)
    simp [hi, this]
  · rw [List.getElem?_eq_none (by simp; omega), List.getElem?_eq_none]
    have : ((List.replicate n zs.toList).flatten).length = n * zs.size := by simp [List.length_flatten, List.map_replicate, List.sum_replicate_nat]
    simp only [this]
    omega

def exBuildSlice (T : TT) (τ : Nat → AV) (o : Oper) (t : TypeId) (len : Nat) (parts : Array (Nat × Operand)) : M OR := do
  let ps ← exParts τ parts.toList
  let d ← get o.dst
  let ti ← get (T t)
  match ti.und with
  | .slice e => do
    let te ← get (T e)
    need (Nat.ble (len * te.size) (2 ^ 24))
    need te.zero.isOnes
    need (Nat.blt 0 te.size)
    lenIs te.zero.cells te.size
    let c ← exFill (fun i => some (i * te.size, te.size)) (zeros te.zero len) ps
    need (c.noRef d)
    pure { v := .one (.sl true d 0 len len), upd := [(d, { kind := .own, e, c })], news := [d] }
  | _ => bad

include hT in
theorem ok_buildSlice {o : Oper} {τ : Nat → AV} {h : Heap} {x : OR} {t : TypeId} {len : Nat} {parts : Array (Nat × Operand)} (ho : o.op = .buildSlice t len parts) (hx : Gives (exBuildSlice T τ o t len parts) x) :
    OpOk P o τ h x := by
  obtain ⟨ps, h1, h2⟩ := gives_then hx
  obtain ⟨d, h3, h4⟩ := gives_then h2
  obtain ⟨ti, h5, h6⟩ := gives_then h4
  have hti := hT t ti (gives_get h5)
  split at h6
  · rename_i e hu
    obtain ⟨te, h7, h8⟩ := gives_then h6
    obtain ⟨_, h9, h10⟩ := gives_then h8
    obtain ⟨_, h11, h12⟩ := gives_then h10
    obtain ⟨_, h13, h14⟩ := gives_then h12
    obtain ⟨_, h15, h16⟩ := gives_then h14
    obtain ⟨c, h17, h18⟩ := gives_then h16
    obtain ⟨_, h19, h20⟩ := gives_then h18
    have hte := hT e te (gives_get h7)
    have hle := Nat.le_of_ble_eq_true (gives_need h9)
    have hz := gives_need h11
    have hpos : 0 < te.size := by have := gives_need h13; simpa [Nat.blt_eq] using this
    have hcr := gives_need h19
    rw [gives_ok h20]
    intro h' hag ψ a w hτ hr hn
    have hm := gives_parts (ψ := ψ) (a := a) h1 fun p hp => hτ p.2 (by simp only [ho, Op.operands]; simp; exact ⟨p.1, by simpa using hp⟩)
    have hzl := gives_lenIs h15 ψ
    have hzc := AT.cells_c hz ψ
    have hzs : (te.zero.c ψ).cells.size = te.size := by rw [hzc]; simpa using hzl
    have hal := hr.alloc d 0 { kind := .own, e, c } [] rfl rfl (hn d (by simp)) hcr
    simp only [List.append_nil] at hal
    refine opDoes_value (v := .slice (some ⟨w.heap.size, 0, none⟩) len len) (w' := w.alloc (.cells (c.c ψ).toArray e)) ?_ ⟨_, .inr (by simp [AV.c, AT.c, A0.c, adr, PM.put_same]), hal.1, hal.2⟩
    have hrow := range_zero (te.zero.c ψ).cells len (by omega)
    have hzz := zeros_c _ hz len ψ
    rw [hzc] at hrow
    simp only [← hzz] at hrow
    have hf := gives_fill (ψ := ψ) h17
    simp only [execOp, ho, Sem.run_bind, Instr.buildSlice, hti.run_und, hu, Result.andThen_ok, hte.run_size]
    rw [if_neg (by omega)]
    have hm' : (parts.map fun (i, x) => (i, a.eval x)).toList = ps.map fun (i, v) => (i, v.c ψ) := by rw [Array.toList_map, hm]
    have hzs' : (te.zero.cells.c ψ).length = te.size := hzl
    simp only [List.size_toArray, hzs'] at hrow
    rw [hm']
    by_cases h0 : len * te.size = 0
    · have hl : len = 0 := by
        rcases Nat.mul_eq_zero.1 h0 with h0 | h0
        · exact h0
        · omega
      subst hl
      have hnil : (zeros te.zero 0).c ψ = [] := by rw [hzz]; rfl
      rw [hnil] at hf
      rw [if_pos h0]
      have hr0 : (Array.map (fun x => (default : Value)) (Array.range 0)) = [].toArray := by apply Array.ext'; simp
      simp [hr0, hf, newRow]
    · rw [if_neg h0]
      simp only [Sem.run_bind, Sem.run_pure, Result.andThen_ok, hte.run_zero w ψ, hzc, List.size_toArray, hzs', hrow, hf]
      simp [newRow]
  · exact (gives_bad h6).elim

/-! ### Addresses -/

def exFieldAddr (T : TT) (τ : Nat → AV) (t : TypeId) (x : Operand) (f : Nat) : M OR := do
  let v ← asOne (opd τ x)
  let (k, n, off) ← asPtr v
  let ti ← get (T t)
  match ti.und with
  | .struct fs => do
    let fd ← get fs[f]?
    let tf ← get (T fd.type)
    need (Nat.blt 0 tf.size)
    pureR (.one (.ptr k n (off + fd.offset)))
  | _ => bad

include hT in
theorem ok_fieldAddr {o : Oper} {τ : Nat → AV} {h : Heap} {x : OR} {t : TypeId} {p : Operand} {f : Nat} (ho : o.op = .fieldAddr t p f) (hx : Gives (exFieldAddr T τ t p f) x) : OpOk P o τ h x := by
  obtain ⟨v, h1, h2⟩ := gives_then hx
  obtain ⟨⟨k, n, off⟩, h3, h4⟩ := gives_then h2
  obtain ⟨ti, h5, h6⟩ := gives_then h4
  have hti := hT t ti (gives_get h5)
  split at h6
  · rename_i fs hu
    obtain ⟨fd, h7, h8⟩ := gives_then h6
    obtain ⟨tf, h9, h10⟩ := gives_then h8
    obtain ⟨_, h11, h12⟩ := gives_then h10
    have htf := hT fd.type tf (gives_get h9)
    have hpos : 0 < tf.size := by have := gives_need h11; simpa [Nat.blt_eq] using this
    refine ok_pure h12 fun ψ a w hτ => ⟨.pointer (some (adr ψ n (off + fd.offset))), ?_, .inr rfl⟩
    have := hτ p (by simp [ho, Op.operands])
    rw [gives_asOne h1, gives_asPtr h3] at this
    have e := this.t_eq
    simp only [AT.c, A0.c] at e
    simp only [execOp, ho, e, Instr.fieldAt, Sem.run_bind, hti.run_und, hu, gives_get h7, Instr.sureAddr, Sem.run_pure, Result.andThen_ok, fieldPlace, htf.run_size, Sem.run_ite]
    rw [if_neg (by omega)]
    simp [adr_add]
  · exact (gives_bad h6).elim

def exIndexAddr (T : TT) (τ : Nat → AV) (t : TypeId) (x i : Operand) : M OR := do
  let iv ← asOne (opd τ i)
  let (ki, _, m) ← get (isNum iv)
  let v ← asOne (opd τ x)
  let ti ← get (T t)
  match ti.und, v with
  | .array len e, .ptr k n off => do
    let te ← get (T e)
    must ki (0 ≤ m ∧ m < len)
    match Nat.beq te.size 1 with
    | true => pureR (.one (.ptr (k && ki) n (off + m.toNat)))
    | false => pureR (.one (.ptr (k && ki) n (off + m.toNat * te.size)))
  | .slice e, .sl k n off len _ => do
    let te ← get (T e)
    must (k && ki) (0 ≤ m ∧ m < len)
    match Nat.beq te.size 1 with
    | true => pureR (.one (.ptr (k && ki) n (off + m.toNat)))
    | false => pureR (.one (.ptr (k && ki) n (off + m.toNat * te.size)))
  | .slice e, .sla n l s len => do
    let te ← get (T e)
    note (0 ≤ m ∧ m < len)
    need (Nat.beq te.size s)
    match Nat.beq s 1, Nat.beq l 0 with
    | true, true => pureR (.one (.ptr false n m.toNat))
    | _, _ => pureR (.one (.ptr false n (l * s + m.toNat * s)))
  | _, _ => bad

include hT in
theorem ok_indexAddr {o : Oper} {τ : Nat → AV} {h : Heap} {x : OR} {t : TypeId} {p i : Operand} (ho : o.op = .indexAddr t p i) (hx : Gives (exIndexAddr T τ t p i) x) : OpOk P o τ h x := by
  obtain ⟨iv, h1, h2⟩ := gives_then hx
  obtain ⟨⟨ki, kk, m⟩, h3, h4⟩ := gives_then h2
  obtain ⟨v, h5, h6⟩ := gives_then h4
  obtain ⟨ti, h7, h8⟩ := gives_then h6
  have hti := hT t ti (gives_get h7)
  have hi : ∀ (ψ : PM) (a : Act), (∀ y ∈ o.op.operands, VR ψ (opd τ y) (a.eval y)) → a.eval i = .int kk m := by
    intro ψ a hτ
    have := hτ i (by simp [ho, Op.operands])
    rw [gives_asOne h1] at this
    rw [this.t_eq]
    exact isNum_c (gives_get h3) ψ
  have hp : ∀ (ψ : PM) (a : Act), (∀ y ∈ o.op.operands, VR ψ (opd τ y) (a.eval y)) → a.eval p = v.c ψ := by
    intro ψ a hτ
    have := hτ p (by simp [ho, Op.operands])
    rw [gives_asOne h5] at this
    exact this.t_eq
  split at h8
  · rename_i len e k n off hu
    obtain ⟨te, h9, h10⟩ := gives_then h8
    obtain ⟨_, h11, h12⟩ := gives_then h10
    have hte := hT e te (gives_get h9)
    have hb := gives_must h11
    have go : ∀ off', off' = off + m.toNat * te.size → Gives (pureR (.one (.ptr (k && ki) n off'))) x → OpOk P o τ h x := by
      intro off' ho' hg
      refine ok_pure hg fun ψ a w hτ => ⟨.pointer (some (adr ψ n off')), ?_, .inr rfl⟩
      have e1 := hp ψ a hτ
      simp only [A0.c] at e1
      simp only [execOp, ho, e1, hi ψ a hτ, Instr.indexAt, asIntOf, Sem.run_bind, Sem.run_pure, hti.run_und, Result.andThen_ok, hu, Instr.sureAddr, hb, and_self, if_true, hte.run_size, adr_add, ho']
    split at h12
    · rename_i hs
      exact go _ (by rw [Nat.eq_of_beq_eq_true hs, Nat.mul_one]) h12
    · exact go _ rfl h12
  · rename_i e k n off len cap hu
    obtain ⟨te, h9, h10⟩ := gives_then h8
    obtain ⟨_, h11, h12⟩ := gives_then h10
    have hte := hT e te (gives_get h9)
    have hb := gives_must h11
    have go : ∀ off', off' = off + m.toNat * te.size → Gives (pureR (.one (.ptr (k && ki) n off'))) x → OpOk P o τ h x := by
      intro off' ho' hg
      refine ok_pure hg fun ψ a w hτ => ⟨.pointer (some (adr ψ n off')), ?_, .inr rfl⟩
      have e1 := hp ψ a hτ
      simp only [A0.c] at e1
      simp only [execOp, ho, e1, hi ψ a hτ, Instr.indexAt, asIntOf, Sem.run_bind, Sem.run_pure, hti.run_und, Result.andThen_ok, hu, hb, and_self, if_true, hte.run_size, adr_add, ho']
    split at h12
    · rename_i hs
      exact go _ (by rw [Nat.eq_of_beq_eq_true hs, Nat.mul_one]) h12
    · exact go _ rfl h12
  · rename_i e n l s len hu
    obtain ⟨te, h9, h10⟩ := gives_then h8
    obtain ⟨_, h11, h12⟩ := gives_then h10
    obtain ⟨_, h13, h14⟩ := gives_then h12
    have hte := hT e te (gives_get h9)
    have hb := gives_note h11
    have hs := Nat.eq_of_beq_eq_true (gives_need h13)
    have go : ∀ off', off' = l * s + m.toNat * te.size → Gives (pureR (.one (.ptr false n off'))) x → OpOk P o τ h x := by
      intro off' ho' hg
      refine ok_pure hg fun ψ a w hτ => ⟨.pointer (some (adr ψ n off')), ?_, .inr rfl⟩
      have e1 := hp ψ a hτ
      simp only [A0.c] at e1
      simp only [execOp, ho, e1, hi ψ a hτ, Instr.indexAt, asIntOf, Sem.run_bind, Sem.run_pure, hti.run_und, Result.andThen_ok, hu, hb, and_self, if_true, hte.run_size, adr_add, ho']
    split at h14
    · rename_i h1 h2
      exact go _ (by rw [hs, Nat.eq_of_beq_eq_true h1, Nat.eq_of_beq_eq_true h2]; simp) h14
    · exact go _ (by rw [hs]) h14
  · exact (gives_bad h8).elim

/-! ### Slices -/

/-- A bound of a slice expression: not there, or a number that lies below. -/
def exBound (τ : Nat → AV) (x : Option Operand) (known : Bool) (most dflt : Nat) : M (Bool × Nat) :=
  match x with
  | none => pure (known, dflt)
  | some y => do
    let v ← asOne (opd τ y)
    let (k, _, n) ← get (isNum v)
    must (k && known) (0 ≤ n ∧ n ≤ most)
    pure (k, n.toNat)

theorem gives_bound {τ : Nat → AV} {x : Option Operand} {known : Bool} {most dflt : Nat} {r : Bool × Nat} (h : Gives (exBound τ x known most dflt) r) {ψ : PM} {a : Act}
    (hv : ∀ y, x = some y → VR ψ (opd τ y) (a.eval y)) (code : BoundsCode) (w : World) :
    (match x.map a.eval with | some v => Instr.sliceBound v most code | none => pure dflt).run P w = .ok r.2 w := by
  cases x with
  | none => rw [gives_ok h]; rfl
  | some y =>
    obtain ⟨v, h1, h2⟩ := gives_then h
    obtain ⟨⟨k, kk, n⟩, h3, h4⟩ := gives_then h2
    obtain ⟨_, h5, h6⟩ := gives_then h4
    have hb := gives_must h5
    rw [gives_ok h6]
    have := hv y rfl
    rw [gives_asOne h1] at this
    have e := this.t_eq
    rw [AT.c, isNum_c (gives_get h3) ψ] at e
    simp [e, Instr.sliceBound, asIntOf, hb]

theorem gives_bound_le {τ : Nat → AV} {x : Option Operand} {known : Bool} {most dflt : Nat} {r : Bool × Nat} (h : Gives (exBound τ x known most dflt) r) (hd : dflt ≤ most) : r.2 ≤ most := by
  cases x with
  | none => rw [gives_ok h]; exact hd
  | some y =>
    obtain ⟨v, h1, h2⟩ := gives_then h
    obtain ⟨⟨k, kk, n⟩, h3, h4⟩ := gives_then h2
    obtain ⟨_, h5, h6⟩ := gives_then h4
    have hb := gives_must h5
    rw [gives_ok h6]
    simp only
    omega

/-- Where a slice of a slice begins: one that has no room stays where it was. -/
def slOff (known : Bool) (l m off size : Nat) : M Nat :=
  match known with
  | true => match Nat.beq l 0 || Nat.beq m l with
    | true => pure off
    | false => pure (off + l * size)
  | false => do
    let b ← ask (decide (m = l))
    match b with
    | true => pure off
    | false => pure (off + l * size)

theorem gives_slOff {known : Bool} {l m off size r : Nat} (h : Gives (slOff known l m off size) r) (ψ : PM) (n : Nat) :
    (if m = l then adr ψ n off else (adr ψ n off).add (l * size)) = adr ψ n r := by
  cases known with
  | true =>
    unfold slOff at h
    simp only at h
    split at h
    · rename_i hb
      rw [gives_ok h]
      simp only [Bool.or_eq_true] at hb
      rcases hb with hb | hb
      · have := Nat.eq_of_beq_eq_true hb
        subst this
        split
        · rfl
        · rw [adr_add]; simp
      · have := Nat.eq_of_beq_eq_true hb
        rw [if_pos this]
    · rename_i hb
      rw [gives_ok h]
      have : ¬ m = l := by
        intro e
        subst e
        simp [Nat.beq_refl] at hb
      rw [if_neg this, adr_add]
  | false =>
    obtain ⟨b, h1, h2⟩ := gives_then (h : Gives (ask (decide (m = l)) >>= _) r)
    have hb := gives_ask h1
    split at h2
    · rw [gives_ok h2, if_pos (of_decide_eq_true hb)]
    · rw [gives_ok h2, if_neg (of_decide_eq_false hb), adr_add]

def exSlice (T : TT) (τ : Nat → AV) (t : TypeId) (x : Operand) (lo hi mx : Option Operand) : M OR := do
  need mx.isNone
  let ti ← get (T t)
  let v ← asOne (opd τ x)
  match ti.und, v with
  | .array n e, .ptr k b off => do
    let te ← get (T e)
    let (kh, h) ← exBound τ hi true n n
    let (kl, l) ← exBound τ lo kh h 0
    let off' ← slOff kl l n off te.size
    pureR (.one (.sl (k && kl && kh) b off' (h - l) (n - l)))
  | .slice e, .sl k b off len cap => do
    let te ← get (T e)
    let (kh, h) ← exBound τ hi k cap len
    let (kl, l) ← exBound τ lo kh h 0
    let off' ← slOff (kl && (k || Nat.beq l 0)) l cap off te.size
    pureR (.one (.sl (k && kl && kh) b off' (h - l) (cap - l)))
  | .slice e, .nilsl => do
    let _ ← get (T e)
    let (kh, h) ← exBound τ hi true 0 0
    let (_, _) ← exBound τ lo kh h 0
    pureR (.one .nilsl)
  | .string, .str s => do
    let (kh, h) ← exBound τ hi false s.size s.size
    let (_, l) ← exBound τ lo kh h 0
    pureR (.one (.str (s.extract l h)))
  | _, _ => bad

include hT in
theorem ok_slice {o : Oper} {τ : Nat → AV} {h : Heap} {x : OR} {t : TypeId} {p : Operand} {lo hi mx : Option Operand} (ho : o.op = .slice t p lo hi mx) (hx : Gives (exSlice T τ t p lo hi mx) x) : OpOk P o τ h x := by
  obtain ⟨_, h1, h2⟩ := gives_then hx
  obtain ⟨ti, h3, h4⟩ := gives_then h2
  obtain ⟨v, h5, h6⟩ := gives_then h4
  have hti := hT t ti (gives_get h3)
  have hmx : mx = none := by have := gives_need h1; simpa using this
  subst hmx
  have hp : ∀ (ψ : PM) (a : Act), (∀ y ∈ o.op.operands, VR ψ (opd τ y) (a.eval y)) → a.eval p = v.c ψ := by
    intro ψ a hτ
    have := hτ p (by simp [ho, Op.operands])
    rw [gives_asOne h5] at this
    exact this.t_eq
  have hlo : ∀ (ψ : PM) (a : Act), (∀ y ∈ o.op.operands, VR ψ (opd τ y) (a.eval y)) → ∀ y, lo = some y → VR ψ (opd τ y) (a.eval y) := by
    intro ψ a hτ y hy
    exact hτ y (by simp [ho, Op.operands, hy])
  have hhi : ∀ (ψ : PM) (a : Act), (∀ y ∈ o.op.operands, VR ψ (opd τ y) (a.eval y)) → ∀ y, hi = some y → VR ψ (opd τ y) (a.eval y) := by
    intro ψ a hτ y hy
    exact hτ y (by simp [ho, Op.operands, hy])
  have bounds : ∀ (isS : Bool) (len cap : Nat) (kn : Bool) (rh rl : Bool × Nat), Gives (exBound τ hi kn cap len) rh → Gives (exBound τ lo rh.1 rh.2 0) rl → ∀ (ψ : PM) (a : Act) (w : World),
      (∀ y ∈ o.op.operands, VR ψ (opd τ y) (a.eval y)) → (Instr.sliceBounds isS len cap (lo.map a.eval) (hi.map a.eval) none).run P w = .ok (rl.2, rh.2, cap) w := by
    intro isS len cap kn rh rl g1 g2 ψ a w hτ
    have b1 := gives_bound (P := P) g1 (hhi ψ a hτ) (if isS then .sliceAcap else .sliceAlen) w
    have b2 := gives_bound (P := P) g2 (hlo ψ a hτ) .sliceB w
    unfold Instr.sliceBounds
    cases hi with
    | none =>
      have e1 : rh = (kn, len) := gives_ok g1
      subst e1
      cases lo with
      | none => have e2 := gives_ok g2; subst e2; simp
      | some y => simp only [Option.map_some] at b2; simp [b2]
    | some z =>
      simp only [Option.map_some] at b1
      cases lo with
      | none => have e2 := gives_ok g2; subst e2; simp [b1]
      | some y => simp only [Option.map_some] at b2; simp [b1, b2]
  split at h6
  · rename_i n e k b off hu
    obtain ⟨te, h7, h8⟩ := gives_then h6
    obtain ⟨⟨kh, hh⟩, h9, h10⟩ := gives_then h8
    obtain ⟨⟨kl, l⟩, h11, h12⟩ := gives_then h10
    obtain ⟨off', h13, h14⟩ := gives_then h12
    have hte := hT e te (gives_get h7)
    refine ok_pure h14 fun ψ a w hτ => ⟨.slice (some (adr ψ b off')) (hh - l) (n - l), ?_, .inr rfl⟩
    have e1 := hp ψ a hτ
    simp only [A0.c] at e1
    simp only [execOp, ho, e1, Instr.sliceAt, Sem.run_bind, hti.run_und, Result.andThen_ok, hu, Instr.sureAddr, Sem.run_pure, bounds false n n true _ _ h9 h11 ψ a w hτ, hte.run_size, Option.map_none, gives_slOff h13 ψ b]
  · rename_i e k b off len cap hu
    obtain ⟨te, h7, h8⟩ := gives_then h6
    obtain ⟨⟨kh, hh⟩, h9, h10⟩ := gives_then h8
    obtain ⟨⟨kl, l⟩, h11, h12⟩ := gives_then h10
    obtain ⟨off', h13, h14⟩ := gives_then h12
    have hte := hT e te (gives_get h7)
    refine ok_pure h14 fun ψ a w hτ => ⟨.slice (some (adr ψ b off')) (hh - l) (cap - l), ?_, .inr rfl⟩
    have e1 := hp ψ a hτ
    simp only [A0.c] at e1
    have hs := gives_slOff h13 ψ b
    simp only [execOp, ho, e1, Instr.sliceAt, Instr.slice, Sem.run_bind, hti.run_und, Result.andThen_ok, hu, Sem.run_pure, bounds true len cap k _ _ h9 h11 ψ a w hτ, hte.run_size, Option.map_none, Option.map_some]
    split
    · rename_i hc; rw [if_pos hc] at hs; rw [hs]
    · rename_i hc; rw [if_neg hc] at hs; rw [hs]
  · rename_i e hu
    obtain ⟨te, h7, h8⟩ := gives_then h6
    obtain ⟨⟨kh, hh⟩, h9, h10⟩ := gives_then h8
    obtain ⟨⟨kl, l⟩, h11, h12⟩ := gives_then h10
    have hte := hT e te (gives_get h7)
    refine ok_pure h12 fun ψ a w hτ => ⟨.slice none 0 0, ?_, .inr rfl⟩
    have e1 := hp ψ a hτ
    simp only [A0.c] at e1
    have z1 : hh = 0 := by have := gives_bound_le h9 (Nat.le_refl 0); simpa using this
    have z2 : l = 0 := by have := gives_bound_le h11 (Nat.zero_le _); simp only at this; omega
    subst z1
    subst z2
    simp [execOp, ho, e1, Instr.sliceAt, Instr.slice, hti.run_und, hu, hte.run_size, bounds true 0 0 true (kh, 0) (kl, 0) h9 h11 ψ a w hτ]
  · rename_i s hu
    obtain ⟨⟨kh, hh⟩, h9, h10⟩ := gives_then h6
    obtain ⟨⟨kl, l⟩, h11, h12⟩ := gives_then h10
    refine ok_pure h12 fun ψ a w hτ => ⟨.string (s.extract l hh), ?_, .inr rfl⟩
    have e1 := hp ψ a hτ
    simp only [A0.c] at e1
    simp [execOp, ho, e1, Instr.sliceAt, Instr.slice, hti.run_und, hu, bounds false s.size s.size false _ _ h9 h11 ψ a w hτ]
  · exact (gives_bad h6).elim

def exArrayAt (T : TT) (τ : Nat → AV) (t : TypeId) (x : Operand) : M OR := do
  let v ← asOne (opd τ x)
  let ti ← get (T t)
  match ti.und, v with
  | .array n _, .sl k b off len _ => do
    must k (n ≤ len)
    pureR (.one (.ptr k b off))
  | _, _ => bad

include hT in
theorem ok_arrayAt {o : Oper} {τ : Nat → AV} {h : Heap} {x : OR} {t : TypeId} {p : Operand} (ho : o.op = .sliceToArrayPointer t p) (hx : Gives (exArrayAt T τ t p) x) : OpOk P o τ h x := by
  obtain ⟨v, h1, h2⟩ := gives_then hx
  obtain ⟨ti, h3, h4⟩ := gives_then h2
  have hti := hT t ti (gives_get h3)
  split at h4
  · rename_i n e k b off len cap hu
    obtain ⟨_, h5, h6⟩ := gives_then h4
    have hb := gives_must h5
    refine ok_pure h6 fun ψ a w hτ => ⟨.pointer (some (adr ψ b off)), ?_, .inr rfl⟩
    have := hτ p (by simp [ho, Op.operands])
    rw [gives_asOne h1] at this
    have e := this.t_eq
    simp only [AT.c, A0.c] at e
    simp only [execOp, ho, e, Instr.arrayAt, Sem.run_bind, hti.run_und, Result.andThen_ok, hu, Sem.run_ite, Sem.run_pure]
    rw [if_neg (by omega)]
    rfl
  · exact (gives_bad h4).elim

end
end Go.Ev
