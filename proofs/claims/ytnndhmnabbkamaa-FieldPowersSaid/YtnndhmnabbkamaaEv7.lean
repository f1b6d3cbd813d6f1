/-
  An evaluator of loaded Go code over abstract values, part 7: built-in functions, calls.
  Conditions: those that the evaluator lists as it goes; nothing here names a program.
-/
import Derived.Test.YtnndhmnabbkamaaEv6
namespace Go.Ev
open Go

section
variable {P : Program} {T : TT} (hT : TOk P T)

def exLen (T : TT) (τ : Nat → AV) (types : Array TypeId) (args : Array Operand) : M OR := do
  let t ← get types[0]?
  let x ← get args[0]?
  need (Nat.beq args.size 1)
  let ti ← get (T t)
  match ti.und, opd τ x with
  | .array n _, .t _ => pureR (.one (.lit .i64 n))
  | .slice _, .t (.one (.sl k _ _ len _)) => pureR (.one (mkNum k .i64 len))
  | .slice _, .t (.one (.sla _ _ _ len)) => pureR (.one (.int .i64 len))
  | .slice _, .t (.one .nilsl) => pureR (.one (.lit .i64 0))
  | .string, .t (.one (.str s)) => pureR (.one (.int .i64 s.size))
  | _, _ => bad

include hT in
theorem ok_len {o : Oper} {τ : Nat → AV} {h : Heap} {x : OR} {c : Call} (ho : o.op = .call c) (hc : c.callee = .builtin .len) (hx : Gives (exLen T τ c.argTypes c.args) x) : OpOk P o τ h x := by
  obtain ⟨t, h1, h2⟩ := gives_then hx
  obtain ⟨y, h3, h4⟩ := gives_then h2
  obtain ⟨_, h5, h6⟩ := gives_then h4
  obtain ⟨ti, h7, h8⟩ := gives_then h6
  have hti := hT t ti (gives_get h7)
  have hargs : c.args = #[y] := by
    have hs := Nat.eq_of_beq_eq_true (gives_need h5)
    have hy := gives_get h3
    apply Array.ext
    · simp [hs]
    · intro i hi1 hi2
      have : i = 0 := by simp at hi2; omega
      subst this
      rw [Array.getElem?_eq_getElem hi1] at hy
      simpa using hy
  have run : ∀ (a : Act) (w : World), (execOp a.eval o).run P w = ((Builtin.len_ c.argTypes o.type #[a.eval y]).run P w).andThen fun v w' => .ok (.value v) w' := by
    intro a w
    simp [execOp, ho, resolve, hc, invoke, builtin, hargs]
  have hτy : ∀ (ψ : PM) (a : Act) (v : AT), (∀ y ∈ o.op.operands, VR ψ (opd τ y) (a.eval y)) → opd τ y = .t v → a.eval y = v.c ψ := by
    intro ψ a v hτ e
    have := hτ y (by simp [ho, Op.operands, Call.operands, hargs])
    rw [e] at this
    exact this.t_eq
  split at h8
  · rename_i n e v hu hv
    exact ok_pure h8 fun ψ a w hτ => ⟨_, by simp [run, Builtin.len_, gives_get h1, hti.run_und, hu, hτy ψ a _ hτ hv]; rfl, .inr rfl⟩
  · rename_i e k n off len cap hu hv
    exact ok_pure h8 fun ψ a w hτ => ⟨.int .i64 len, by simp [run, Builtin.len_, gives_get h1, hti.run_und, hu, hτy ψ a _ hτ hv, AT.c, A0.c, goInt], .inr (by simp [AV.c, AT.c, mkNum_c])⟩
  · rename_i e n l s len hu hv
    exact ok_pure h8 fun ψ a w hτ => ⟨.int .i64 len, by simp [run, Builtin.len_, gives_get h1, hti.run_und, hu, hτy ψ a _ hτ hv, AT.c, A0.c, goInt], .inr rfl⟩
  · rename_i e hu hv
    exact ok_pure h8 fun ψ a w hτ => ⟨.int .i64 0, by simp [run, Builtin.len_, gives_get h1, hti.run_und, hu, hτy ψ a _ hτ hv, AT.c, A0.c, goInt], .inr rfl⟩
  · rename_i s hu hv
    exact ok_pure h8 fun ψ a w hτ => ⟨.int .i64 s.size, by simp [run, Builtin.len_, gives_get h1, hti.run_und, hu, hτy ψ a _ hτ hv, AT.c, A0.c, goInt], .inr rfl⟩
  · exact (gives_bad h8).elim

/-- The least (or greatest) of two whole numbers. -/
def exMinMax (τ : Nat → AV) (least : Bool) (args : Array Operand) : M OR := do
  need (Nat.beq args.size 2)
  let x ← get args[0]?
  let y ← get args[1]?
  let u ← asOne (opd τ x)
  let v ← asOne (opd τ y)
  let (l, k, a) ← get (isNum u)
  let (m, _, b) ← get (isNum v)
  match least with
  | true => pureR (.one (mkNum (l && m) k (if b < a then b else a)))
  | false => pureR (.one (mkNum (l && m) k (if b > a then b else a)))

theorem ok_minMax {o : Oper} {τ : Nat → AV} {h : Heap} {x : OR} {c : Call} {least : Bool} (ho : o.op = .call c) (hc : c.callee = .builtin (if least then .min else .max)) (hx : Gives (exMinMax τ least c.args) x) :
    OpOk P o τ h x := by
  obtain ⟨_, h1, h2⟩ := gives_then hx
  obtain ⟨y, h3, h4⟩ := gives_then h2
  obtain ⟨z, h5, h6⟩ := gives_then h4
  obtain ⟨u, h7, h8⟩ := gives_then h6
  obtain ⟨v, h9, h10⟩ := gives_then h8
  obtain ⟨⟨l, k, a⟩, h11, h12⟩ := gives_then h10
  obtain ⟨⟨m, k', b⟩, h13, h14⟩ := gives_then h12
  have hargs : c.args = #[y, z] := by
    have hs := Nat.eq_of_beq_eq_true (gives_need h1)
    have hy := gives_get h3
    have hz := gives_get h5
    apply Array.ext
    · simp [hs]
    · intro i hi1 hi2
      rw [← Option.some_inj, ← Array.getElem?_eq_getElem hi1, ← Array.getElem?_eq_getElem hi2]
      have : i = 0 ∨ i = 1 := by simp at hi2; omega
      rcases this with rfl | rfl
      · rw [hy]; rfl
      · rw [hz]; rfl
  have ey : ∀ (ψ : PM) (ac : Act), (∀ y ∈ o.op.operands, VR ψ (opd τ y) (ac.eval y)) → ac.eval y = .int k a := by
    intro ψ ac hτ
    have := hτ y (by simp [ho, Op.operands, Call.operands, hargs])
    rw [gives_asOne h7] at this
    rw [this.t_eq]
    exact isNum_c (gives_get h11) ψ
  have ez : ∀ (ψ : PM) (ac : Act), (∀ y ∈ o.op.operands, VR ψ (opd τ y) (ac.eval y)) → ac.eval z = .int k' b := by
    intro ψ ac hτ
    have := hτ z (by simp [ho, Op.operands, Call.operands, hargs])
    rw [gives_asOne h9] at this
    rw [this.t_eq]
    exact isNum_c (gives_get h13) ψ
  cases least with
  | true =>
    refine ok_pure (show Gives (pureR (.one (mkNum (l && m) k (if b < a then b else a)))) x from h14) fun ψ ac w hτ => ⟨.int k (if b < a then b else a), ?_, .inr (by simp [AV.c, AT.c, mkNum_c])⟩
    simp [execOp, ho, resolve, hc, invoke, builtin, hargs, ey ψ ac hτ, ez ψ ac hτ, Builtin.min_, Builtin.min2]
  | false =>
    refine ok_pure (show Gives (pureR (.one (mkNum (l && m) k (if b > a then b else a)))) x from h14) fun ψ ac w hτ => ⟨.int k (if b > a then b else a), ?_, .inr (by simp [AV.c, AT.c, mkNum_c])⟩
    simp [execOp, ho, resolve, hc, invoke, builtin, hargs, ey ψ ac hτ, ez ψ ac hτ, Builtin.max_, Builtin.max2]

/-- Where a slice's cells lie: its name, is it known, its first cell, its length. -/
def slParts (size : Nat) : A0 → Option (Bool × Nat × Nat × Nat)
  | .sl k n off len _ => some (k, n, off, len)
  | .sla n l s len => match Nat.beq s size with
    | true => some (false, n, l * s, len)
    | false => none
  | _ => none

theorem slParts_c {size : Nat} {x : A0} {k : Bool} {n off len : Nat} (h : slParts size x = some (k, n, off, len)) (ψ : PM) : ∃ cap, x.c ψ = .slice (some (adr ψ n off)) len cap := by
  cases x with
  | sl k' n' off' len' cap' => cases h; exact ⟨cap', rfl⟩
  | sla n' l s len' =>
    simp only [slParts] at h
    split at h
    · cases h; exact ⟨_, rfl⟩
    · cases h
  | _ => cases h

def exCopy (T : TT) (τ : Nat → AV) (h : Heap) (types : Array TypeId) (args : Array Operand) : M OR := do
  need (Nat.beq args.size 2)
  need (Nat.beq types.size 2)
  let t ← get types[0]?
  let x ← get args[0]?
  let y ← get args[1]?
  let ti ← get (T t)
  match ti.und with
  | .slice e => do
    let te ← get (T e)
    need (Nat.beq te.size 1)
    let u ← asOne (opd τ x)
    let v ← asOne (opd τ y)
    let (ku, n, off, len) ← get (slParts 1 u)
    let (kv, m, ofs, les) ← get (slParts 1 v)
    let b ← get (hget h n)
    let d ← get (hget h m)
    need b.own
    need (!d.dead)
    let c ← ldN false d.c kv ofs (Nat.min les len)
    need c.isOnes
    let r ← stN false b.c ku off c (Nat.min les len)
    pure { v := .one (mkNum (ku && kv) .i64 (Nat.min les len)), upd := [(n, { b with c := r })], acc := [n, m] }
  | _ => bad

include hT in
theorem ok_copy {o : Oper} {τ : Nat → AV} {h : Heap} {x : OR} {c : Call} (ho : o.op = .call c) (hc : c.callee = .builtin .copy) (hx : Gives (exCopy T τ h c.argTypes c.args) x) : OpOk P o τ h x := by
  obtain ⟨_, h1, h2⟩ := gives_then hx
  obtain ⟨_, h3, h4⟩ := gives_then h2
  obtain ⟨t, h5, h6⟩ := gives_then h4
  obtain ⟨y, h7, h8⟩ := gives_then h6
  obtain ⟨z, h9, h10⟩ := gives_then h8
  obtain ⟨ti, h11, h12⟩ := gives_then h10
  have hti := hT t ti (gives_get h11)
  have hargs : c.args = #[y, z] := by
    have hs := Nat.eq_of_beq_eq_true (gives_need h1)
    have hy := gives_get h7
    have hz := gives_get h9
    apply Array.ext
    · simp [hs]
    · intro i hi1 hi2
      rw [← Option.some_inj, ← Array.getElem?_eq_getElem hi1, ← Array.getElem?_eq_getElem hi2]
      have : i = 0 ∨ i = 1 := by simp at hi2; omega
      rcases this with rfl | rfl
      · rw [hy]; rfl
      · rw [hz]; rfl
  obtain ⟨t2, htypes⟩ : ∃ t2, c.argTypes = #[t, t2] := by
    have hs := Nat.eq_of_beq_eq_true (gives_need h3)
    have ht := gives_get h5
    refine ⟨c.argTypes[1]'(by omega), ?_⟩
    apply Array.ext
    · simp [hs]
    · intro i hi1 hi2
      have : i = 0 ∨ i = 1 := by simp at hi2; omega
      rcases this with rfl | rfl
      · rw [Array.getElem?_eq_getElem hi1] at ht; simpa using ht
      · rfl
  split at h12
  · rename_i e hu
    obtain ⟨te, g1, g2⟩ := gives_then h12
    obtain ⟨_, g3, g4⟩ := gives_then g2
    obtain ⟨u, g5, g6⟩ := gives_then g4
    obtain ⟨v, g7, g8⟩ := gives_then g6
    obtain ⟨⟨ku, n, off, len⟩, g9, g10⟩ := gives_then g8
    obtain ⟨⟨kv, m, ofs, les⟩, g11, g12⟩ := gives_then g10
    obtain ⟨b, g13, g14⟩ := gives_then g12
    obtain ⟨d, g15, g16⟩ := gives_then g14
    obtain ⟨_, g17, g18⟩ := gives_then g16
    obtain ⟨_, g19, g20⟩ := gives_then g18
    obtain ⟨cc, g21, g22⟩ := gives_then g20
    obtain ⟨_, g23, g24⟩ := gives_then g22
    obtain ⟨r, g25, g26⟩ := gives_then g24
    have hte := hT e te (gives_get g1)
    have hsz := Nat.eq_of_beq_eq_true (gives_need g3)
    have hbo := gives_need g17
    have hdd : d.dead = false := by have := gives_need g19; simpa using this
    rw [gives_ok g26]
    intro h' hag ψ a w hτ hr _
    have hy := hτ y (by simp [ho, Op.operands, Call.operands, hargs])
    rw [gives_asOne g5] at hy
    have hz := hτ z (by simp [ho, Op.operands, Call.operands, hargs])
    rw [gives_asOne g7] at hz
    obtain ⟨cu, eu⟩ := slParts_c (gives_get g9) ψ
    obtain ⟨cv, ev⟩ := slParts_c (gives_get g11) ψ
    have ey := hy.t_eq
    have ez := hz.t_eq
    rw [AT.c, eu] at ey
    rw [AT.c, ev] at ez
    have hgb : hget h' n = some b := by rw [hag n (by simp)]; exact gives_get g13
    have hgd : hget h' m = some d := by rw [hag m (by simp)]; exact gives_get g15
    obtain ⟨f1, f2⟩ := gives_ldN g21 ψ
    obtain ⟨e1, e2, e3⟩ := gives_stN g25 ψ
    have hb := hr.at_ n b hgb
    have hb' := hb
    unfold BlkAt at hb'
    rw [Blk.own_kind hbo] at hb'
    obtain ⟨hz0, tail, hroom, hg⟩ := hb'
    have hd := hr.at_ m d hgd
    have ha : adr ψ n off = ⟨(ψ n).b, off, none⟩ := by simp [adr, hz0]
    rw [ha] at ey
    have hlen : (r.c ψ).length = (b.c.c ψ).length := by rw [e1]; simp; omega
    have hst := hr.store hgb hbo (r := { b with c := r }) hbo rfl (tail' := tail) (hroom.len hlen) hg
    have hcp := run_copy_row (P := P) w t t2 o.type e (ψ n).b off len cu (adr ψ m ofs) les cv (b.c.c ψ ++ tail).toArray b.e (cc.c ψ) (by rw [hti.und, hu]) (by rw [hte.size, hsz]) hg f2
      (fun j v hj => by
        rw [adr_add]
        refine hd.cell hdd ?_
        rw [f1, List.getElem?_take] at hj
        split at hj
        · simpa [List.getElem?_drop] using hj
        · cases hj) (by simp; omega) (Cells.isOnes_c (gives_need g23) ψ)
    have hrow : ((b.c.c ψ ++ tail).toArray.toList.take off ++ cc.c ψ ++ (b.c.c ψ ++ tail).toArray.toList.drop (off + (cc.c ψ).length)).toArray = (r.c ψ ++ tail).toArray := by
      rw [e1, e3]
      congr 1
      simp only []
      rw [List.take_append_of_le_length (by omega), List.drop_append_of_le_length (by omega)]
      simp
    rw [hrow] at hcp
    refine opDoes_value (v := goInt (Nat.min les len)) (w' := w.setRow (ψ n).b (r.c ψ ++ tail).toArray) ?_ ⟨ψ, .inr (by simp [AV.c, AT.c, mkNum_c, goInt]), hst.1, hst.2⟩
    simp only [f2] at hcp
    simp [execOp, ho, resolve, hc, invoke, builtin, hargs, htypes, ey, ez, hcp]
  · exact (gives_bad h12).elim

/-! ### Calls -/

/-- A call of the function f: what becomes of its value and of the world. -/
def CallDoes (P : Program) (f : FuncId) (args : Array Value) (w : World) (R : Value → World → Prop) : Prop :=
  match (callFunc f args).run P w with
  | .ok (.value v) w' => R v w'
  | .ok (.enter g as) w' => Calls P g as w' fun e w'' => ∃ v, e = .returned v ∧ R v w''
  | _ => False

/-- What a call comes to, on abstract values. -/
def CallOk (P : Program) (f : FuncId) (args : List AT) (h : Heap) (r : AV) (upd : List (Nat × Blk)) (news : List Nat) : Prop :=
  ∀ (ψ : PM) (w : World), HRel ψ h w → (∀ n ∈ news, Heap.noRef n h = true) →
    CallDoes P f (args.map (AT.c ψ)).toArray w (After ψ w h { v := r, upd, news })

theorem CallDoes.mono {P : Program} {f : FuncId} {args : Array Value} {w : World} {R R' : Value → World → Prop} (h : CallDoes P f args w R) (hr : ∀ v w', R v w' → R' v w') : CallDoes P f args w R' := by
  unfold CallDoes at *
  split
  · rename_i e; rw [e] at h; exact hr _ _ h
  · rename_i e; rw [e] at h; exact Calls.mono h fun e w'' ⟨v, e1, e2⟩ => ⟨v, e1, hr _ _ e2⟩
  · rename_i r e1 e2
    split at h
    · rename_i e; exact (e1 _ _ e).elim
    · rename_i e; exact (e2 _ _ _ e).elim
    · exact h

/-- The part of a heap that bears some names. -/
def hsel (h : Heap) : List Nat → Heap
  | [] => []
  | n :: ns => match hget h n with
    | some b => (n, b) :: hsel h ns
    | none => hsel h ns

theorem hget_hsel {h : Heap} : ∀ {ns : List Nat} {n : Nat} {b : Blk}, hget (hsel h ns) n = some b → n ∈ ns ∧ hget h n = some b
  | [], n, b, e => by cases e
  | m :: ns, n, b, e => by
    unfold hsel at e
    split at e
    · rename_i d hd
      simp only [hget] at e
      split at e
      · rename_i hm
        have := Nat.eq_of_beq_eq_true hm
        subst this
        cases e
        exact ⟨List.mem_cons_self .., hd⟩
      · obtain ⟨h1, h2⟩ := hget_hsel e
        exact ⟨List.mem_cons_of_mem _ h1, h2⟩
    · obtain ⟨h1, h2⟩ := hget_hsel e
      exact ⟨List.mem_cons_of_mem _ h1, h2⟩

/-- The updates are of names that are new, or owned. -/
def updOk (h : Heap) (news : List Nat) (upd : List (Nat × Blk)) : Bool :=
  upd.all fun x => news.any (Nat.beq x.1) || (match hget h x.1 with | some b => b.own | none => false)

theorem updOk_spec {h : Heap} {news : List Nat} {upd : List (Nat × Blk)} (e : updOk h news upd = true) : ∀ n ∈ upd.map (·.1), n ∈ news ∨ ∃ b, hget h n = some b ∧ b.own = true := by
  intro n hn
  obtain ⟨x, hx, rfl⟩ := List.mem_map.1 hn
  have := List.all_eq_true.1 e x hx
  simp only [Bool.or_eq_true, List.any_eq_true] at this
  rcases this with ⟨m, hm, e1⟩ | h1
  · exact .inl (by rw [Nat.eq_of_beq_eq_true e1]; exact hm)
  · right
    split at h1
    · rename_i b hb; exact ⟨b, hb, h1⟩
    · cases h1

/-- What holds on a part of a heap holds on the heap. -/
theorem After.frame {ψ : PM} {w : World} {hs h : Heap} {r : AV} {upd : List (Nat × Blk)} {news acc acc' : List Nat} {v : Value} {w' : World} (hr : HRel ψ h w)
    (hsub : ∀ n b, hget hs n = some b → hget h n = some b) (hu : ∀ n ∈ upd.map (·.1), n ∈ news ∨ ∃ b, hget hs n = some b ∧ b.own = true) (hnu : ∀ n ∈ news, n ∈ upd.map (·.1))
    (hn : ∀ n ∈ news, Heap.noRef n h = true) (ha : After ψ w hs { v := r, upd, news, acc } v w') : After ψ w h { v := r, upd, news, acc := acc' } v w' := by
  obtain ⟨ψ', hv, hr', hp⟩ := ha
  refine ⟨ψ', hv, ?_, ?_⟩
  · have hcong : ∀ (n : Nat) (b : Blk), n ∉ news → hget h n = some b → b.c.c ψ' = b.c.c ψ := by
      intro n b hnn hb
      have key : ∀ (l : List Nat), (∀ x ∈ l, b.c.noRef x = true) → ∀ (φ : PM), (∀ m, m ∉ l → φ m = ψ m) → b.c.c φ = b.c.c ψ := by
        intro l
        induction l with
        | nil => intro _ φ hφ; rw [show φ = ψ from funext fun m => hφ m (by simp)]
        | cons x l ih =>
          intro hl φ hφ
          have h1 : b.c.c φ = b.c.c (φ.put x (ψ x)) := (Cells.c_congr (fun m hm => PM.put_other φ _ hm) (hl x (List.mem_cons_self ..))).symm
          rw [h1]
          refine ih (fun y hy => hl y (List.mem_cons_of_mem _ hy)) _ fun m hm => ?_
          by_cases hmx : m = x
          · subst hmx; rw [PM.put_same]
          · rw [PM.put_other _ _ hmx]; exact hφ m (by simp [hmx, hm])
      exact key news (fun x hx => List.all_eq_true.1 (hn x hx) _ (hget_mem hb)) ψ' fun m hm => hp.same m hm
    have hin : ∀ n, n ∈ upd.map (·.1) → hget (hputs h upd) n = hget (hputs hs upd) n := by
      intro n hnu
      have key : ∀ (u : List (Nat × Blk)) (g g' : Heap), n ∈ u.map (·.1) → hget (hputs g u) n = hget (hputs g' u) n := by
        intro u
        induction u with
        | nil => intro g g' h0; simp at h0
        | cons x u ih =>
          intro g g' h0
          obtain ⟨m, b⟩ := x
          by_cases h1 : n ∈ u.map (·.1)
          · exact ih _ _ h1
          · have hm : n = m := by simpa [h1] using h0
            subst hm
            simp only [hputs]
            apply hget_hputs_congr
            rw [hget_hput_same, hget_hput_same]
      exact key upd h hs hnu
    have hout : ∀ n, n ∉ upd.map (·.1) → hget (hputs h upd) n = hget h n := fun n hn' => hget_hputs_other h fun x hx e => hn' (List.mem_map.2 ⟨x, hx, e⟩)
    have apart : ∀ n b, n ∉ upd.map (·.1) → hget h n = some b → b.dead = false → ∀ m ∈ upd.map (·.1), ∀ x, hget hs m = some x → x.own = true → (ψ m).b ≠ (ψ n).b := by
      intro n b hnu hb hbd m hm x hx hxo e
      have := hr.inj m n x b (hsub m x hx) hb hxo hbd e
      subst this
      exact hnu hm
    have kept : ∀ n b, n ∉ upd.map (·.1) → hget h n = some b → b.dead = false → w'.heap[(ψ n).b]? = w.heap[(ψ n).b]? := by
      intro n b hnu hb hbd
      refine hp.keep _ ((hr.at_ n b hb).lt hbd) fun m hm x hx hxo => ?_
      exact apart n b hnu hb hbd m (by simpa using hm) x hx hxo
    have psame : ∀ n, n ∉ upd.map (·.1) → ψ' n = ψ n := fun n hn' => hp.same n fun hc => hn' (hnu n hc)
    refine ⟨?_, ?_⟩
    · intro n b hb
      by_cases hnu : n ∈ upd.map (·.1)
      · rw [hin n hnu] at hb; exact hr'.at_ n b hb
      · rw [hout n hnu] at hb
        exact (hr.at_ n b hb).keep (psame n hnu) (hcong n b (fun hc => hnu (by exact ‹∀ n ∈ news, n ∈ upd.map (·.1)› n hc)) hb) hp.sz fun hd => kept n b hnu hb hd
    · intro n m b b' hb hb' hbo hbd e
      have hbd0 : b.dead = false := by unfold Blk.dead; rw [Blk.own_kind hbo]; rfl
      -- a name that was updated, and one that was not, never meet
      have cross : ∀ n m b b', n ∈ upd.map (·.1) → m ∉ upd.map (·.1) → hget (hputs hs upd) n = some b → hget h m = some b' → b'.dead = false → b.dead = false → (ψ' n).b = (ψ' m).b → False := by
        intro n m b b' hn1 hm1 hb hb' hbd hbd0 e
        rw [psame m hm1] at e
        have hmlt := (hr.at_ m b' hb').lt hbd
        by_cases hnn : n ∈ news
        · obtain ⟨k, hk, x, hx, hxo, e1⟩ := hp.fresh n hnn (by rw [e]; exact hmlt)
          exact apart m b' hm1 hb' hbd k (by simpa using hk) x hx hxo (by rw [e1, e])
        · rcases hu n hn1 with h0 | ⟨x, hx, hxo⟩
          · exact hnn h0
          · refine apart m b' hm1 hb' hbd n hn1 x hx hxo ?_
            rw [← hp.same n hnn]; exact e
      by_cases hn1 : n ∈ upd.map (·.1)
      · rw [hin n hn1] at hb
        by_cases hm1 : m ∈ upd.map (·.1)
        · rw [hin m hm1] at hb'
          exact hr'.inj n m b b' hb hb' hbo hbd e
        · rw [hout m hm1] at hb'
          exact (cross n m b b' hn1 hm1 hb hb' hbd hbd0 e).elim
      · rw [hout n hn1] at hb
        by_cases hm1 : m ∈ upd.map (·.1)
        · rw [hin m hm1] at hb'
          exact (cross m n b' b hm1 hn1 hb' hb hbd0 hbd e.symm).elim
        · rw [hout m hm1] at hb'
          rw [psame n hn1, psame m hm1] at e
          exact hr.inj n m b b' hb hb' hbo hbd e
  · refine ⟨hp.same, ?_, ?_, ?_, hp.sz, hp.os, hp.tape, hp.output⟩
    · intro b hb hall
      refine hp.keep b hb fun n hn' x hx hxo => hall n hn' x (hsub n x hx) hxo
    · intro n hnn hlt
      obtain ⟨m, hm, x, hx, hxo, e⟩ := hp.fresh n hnn hlt
      exact ⟨m, hm, x, hsub m x hx, hxo, e⟩
    · intro n hn'
      rcases hu n hn' with h1 | ⟨b, hb, hbo⟩
      · exact .inl h1
      · exact .inr ⟨b, hsub n b hb, hbo⟩

def asTs : List AV → M (List AT)
  | [] => pure []
  | x :: r => do
    let v ← asT x
    let l ← asTs r
    pure (v :: l)

theorem gives_asTs {ψ : PM} {τ : Nat → AV} {a : Act} : ∀ {xs : List Operand} {l : List AT}, Gives (asTs (xs.map (opd τ))) l → (∀ x ∈ xs, VR ψ (opd τ x) (a.eval x)) → xs.map a.eval = l.map (AT.c ψ)
  | [], l, h, _ => by rw [gives_ok h]; rfl
  | x :: r, l, h, hv => by
    obtain ⟨v, h1, h2⟩ := gives_then h
    obtain ⟨m, h3, h4⟩ := gives_then h2
    rw [gives_ok h4]
    have e := hv x (List.mem_cons_self ..)
    rw [gives_asT h1] at e
    simp only [List.map_cons, e.t_eq, gives_asTs h3 fun y hy => hv y (List.mem_cons_of_mem _ hy)]

def hintCall : M (AV × List Nat × List (Nat × Blk) × List Nat) := fun
  | .call r acc upd news :: hs => some (hs, [], (r, acc, upd, news))
  | _ => none

def exCall (P : Program) (τ : Nat → AV) (h : Heap) (x : Operand) (args : Array Operand) : M OR := do
  let u ← asOne (opd τ x)
  match u with
  | .fn f caps => do
    let as ← asTs (args.toList.map (opd τ))
    let (r, acc, upd, news) ← hintCall
    need (updOk (hsel h acc) news upd)
    need (news.all fun n => upd.any fun x => Nat.beq x.1 n)
    note (CallOk P f (as ++ caps.map fun n => .one (.ptr true n 0)) (hsel h acc) r upd news)
    pure { v := r, upd, news, acc }
  | _ => bad

theorem opDoes_call {o : Oper} {a : Act} {w : World} {f : FuncId} {args : Array Value} {R : Value → World → Prop} (hr : (execOp a.eval o).run P w = (callFunc f args).run P w)
    (h : CallDoes P f args w R) : OpDoes P o a w R := by
  intro K Q hk
  unfold Oper.wp
  rw [hr]
  unfold CallDoes at h
  split at h
  · rename_i e; rw [e]; exact hk _ _ h
  · rename_i e
    rw [e]
    simp only [Oper.upon_enter]
    refine Calls.mono h ?_
    rintro e w'' ⟨v, rfl, hv⟩
    exact hk _ _ hv
  · exact h.elim

theorem ok_call {o : Oper} {τ : Nat → AV} {h : Heap} {x : OR} {c : Call} {y : Operand} (ho : o.op = .call c) (hc : c.callee = .value y) (hx : Gives (exCall P τ h y c.args) x) : OpOk P o τ h x := by
  obtain ⟨u, h1, h2⟩ := gives_then hx
  split at h2
  · rename_i f caps
    obtain ⟨as, h3, h4⟩ := gives_then h2
    obtain ⟨⟨r, acc, upd, news⟩, h5, h6⟩ := gives_then h4
    obtain ⟨_, h7, h8⟩ := gives_then h6
    obtain ⟨_, h9, h10⟩ := gives_then h8
    obtain ⟨_, h11, h12⟩ := gives_then h10
    have hu := updOk_spec (gives_need h7)
    have hnu : ∀ n ∈ news, n ∈ upd.map (·.1) := by
      intro n hn
      have := List.all_eq_true.1 (gives_need h9) n hn
      obtain ⟨z, hz, e⟩ := List.any_eq_true.1 this
      exact List.mem_map.2 ⟨z, hz, Nat.eq_of_beq_eq_true e⟩
    have hcall := gives_note h11
    rw [gives_ok h12]
    intro h' hag ψ a w hτ hr hn
    have hsub : ∀ n b, hget (hsel h acc) n = some b → hget h' n = some b := by
      intro n b hb
      obtain ⟨h1, h2⟩ := hget_hsel hb
      rw [hag n h1]
      exact h2
    have hrs : HRel ψ (hsel h acc) w := ⟨fun n b hb => hr.at_ n b (hsub n b hb), fun n m b b' hb hb' => hr.inj n m b b' (hsub n b hb) (hsub m b' hb')⟩
    have hns : ∀ n ∈ news, Heap.noRef n (hsel h acc) = true := by
      intro n hn'
      have hall := List.all_eq_true.1 (hn n hn')
      refine List.all_eq_true.2 fun z hz => ?_
      have : ∀ (ns : List Nat), (∀ m ∈ ns, m ∈ acc) → z ∈ hsel h ns → ∃ m ∈ ns, hget h m = some z.2 := by
        intro ns
        induction ns with
        | nil => intro _ h0; cases h0
        | cons m ns ih =>
          intro hall' h0
          unfold hsel at h0
          split at h0
          · rename_i d hd
            rcases List.mem_cons.1 h0 with h0 | h0
            · subst h0; exact ⟨m, List.mem_cons_self .., hd⟩
            · obtain ⟨k, hk, e⟩ := ih (fun m' hm' => hall' m' (List.mem_cons_of_mem _ hm')) h0
              exact ⟨k, List.mem_cons_of_mem _ hk, e⟩
          · obtain ⟨k, hk, e⟩ := ih (fun m' hm' => hall' m' (List.mem_cons_of_mem _ hm')) h0
            exact ⟨k, List.mem_cons_of_mem _ hk, e⟩
      obtain ⟨m, hm, e⟩ := this acc (fun _ h => h) hz
      have := hall (m, z.2) (hget_mem (by rw [hag m hm]; exact e))
      exact this
    refine opDoes_call (f := f) (args := ((as ++ caps.map fun n => AT.one (.ptr true n 0)).map (AT.c ψ)).toArray) ?_ ((hcall ψ w hrs hns).mono fun v w' ha => After.frame hr hsub hu hnu hn ha)
    have hy := hτ y (by simp [ho, Op.operands, Call.operands, hc])
    rw [gives_asOne h1] at hy
    have ey := hy.t_eq
    simp only [AT.c, A0.c] at ey
    have hargs := gives_asTs (ψ := ψ) (a := a) h3 fun z hz => hτ z (by simp only [ho, Op.operands, Call.operands]; simp; right; simpa using hz)
    have e1 : c.args.map a.eval = (as.map (AT.c ψ)).toArray := by
      apply Array.ext'
      rw [Array.toList_map, hargs]
    simp only [execOp, ho, resolve, hc, ey, Deferred.ofValue, e1, Sem.run_bind, Sem.run_pure, Result.andThen_ok, invoke]
    congr 2
    apply Array.ext'
    simp [List.map_map, Function.comp_def, AT.c, A0.c]
  · exact (gives_bad h2).elim

end
end Go.Ev
