/-
  An evaluator of loaded Go code over abstract values, part 8: regions, in the order of the text; and that no other order that the model may draw gives anything else.
  Conditions: those that the evaluator lists as it goes; nothing here names a program.
-/
import Derived.Test.YtnndhmnabbkamaaEv7
namespace Go.Ev
open Go

def exOp (P : Program) (T : TT) (τ : Nat → AV) (h : Heap) (o : Oper) : M OR :=
  match o.op with
  | .move x => pureR (opd τ x)
  | .assign x => pureR (opd τ x)
  | .pick c x y => exPick τ c x y
  | .alloc t => exAlloc T o t
  | .box t x => exBox τ o t x
  | .load t x => exLoad T τ h t x
  | .store t x y => exStore T τ h t x y
  | .nilCheck x => exNilCheck τ x
  | .binOp op xt x y _ => exBin T τ op xt x y
  | .unOp op _ x => exUn τ op x
  | .convert s d x => exConvert T τ s d x
  | .sliceToArrayPointer t x => exArrayAt T τ t x
  | .build t ps => exBuild T τ t ps
  | .buildSlice t n ps => exBuildSlice T τ o t n ps
  | .fieldAddr t x f => exFieldAddr T τ t x f
  | .field t x f => exField T τ t x f
  | .indexAddr t x i => exIndexAddr T τ t x i
  | .index t x i => exIndex T τ t x i
  | .slice t x lo hi mx => exSlice T τ t x lo hi mx
  | .extract x i => exExtract τ x i
  | .call c => match c.callee with
    | .value y => exCall P τ h y c.args
    | .builtin .len => exLen T τ c.argTypes c.args
    | .builtin .copy => exCopy T τ h c.argTypes c.args
    | .builtin .min => exMinMax τ true c.args
    | .builtin .max => exMinMax τ false c.args
    | _ => bad
  | _ => bad

section
variable {P : Program} {T : TT} (hT : TOk P T)

include hT in
theorem ok_op {o : Oper} {τ : Nat → AV} {h : Heap} {x : OR} (hx : Gives (exOp P T τ h o) x) : OpOk P o τ h x := by
  unfold exOp at hx
  split at hx
  · rename_i ho; exact ok_move (.inl ho) hx
  · rename_i ho; exact ok_move (.inr ho) hx
  · rename_i ho; exact ok_pick ho hx
  · rename_i ho; exact ok_alloc hT ho hx
  · rename_i ho; exact ok_box ho hx
  · rename_i ho; exact ok_load hT ho hx
  · rename_i ho; exact ok_store hT ho hx
  · rename_i ho; exact ok_nilCheck ho hx
  · rename_i ho; exact ok_bin hT ho hx
  · rename_i ho; exact ok_un ho hx
  · rename_i ho; exact ok_convert hT ho hx
  · rename_i ho; exact ok_arrayAt hT ho hx
  · rename_i ho; exact ok_build hT ho hx
  · rename_i ho; exact ok_buildSlice hT ho hx
  · rename_i ho; exact ok_fieldAddr hT ho hx
  · rename_i ho; exact ok_field hT ho hx
  · rename_i ho; exact ok_indexAddr hT ho hx
  · rename_i ho; exact ok_index hT ho hx
  · rename_i ho; exact ok_slice hT ho hx
  · rename_i ho; exact ok_extract ho hx
  · rename_i c ho
    split at hx
    · rename_i hc; exact ok_call ho hc hx
    · rename_i hc; exact ok_len hT ho hc hx
    · rename_i hc; exact ok_copy hT ho hc hx
    · rename_i hc; exact ok_minMax (least := true) ho hc hx
    · rename_i hc; exact ok_minMax (least := false) ho hc hx
    · exact (gives_bad hx).elim
  · exact (gives_bad hx).elim

/-! ### Guards -/

def exOper (P : Program) (T : TT) (ops : Array Oper) (τ : Nat → AV) (h : Heap) (o : Oper) : M OR :=
  match o.guard with
  | none => exOp P T τ h o
  | some (j, want) => do
    let d ← get ((ops[j]?).bind (·.dst))
    match τ d with
    | .t (.one x) => do
      let b ← test x
      match b == want with
      | true => exOp P T τ h o
      | false => pure { v := .tup [] }
    | .tup _ => pure { v := .tup [] }
    | _ => bad

/-- What an operation comes to, its guard looked at. -/
def OperOk (P : Program) (ops : Array Oper) (o : Oper) (τ : Nat → AV) (h : Heap) (x : OR) : Prop :=
  ∀ (h' : Heap), (∀ n ∈ x.acc, hget h' n = hget h n) → ∀ (ψ : PM) (a : Act) (w : World),
    (∀ t ∈ o.looksAt ops, VR ψ (τ t) (a.tmps.getD t Go.undef)) → HRel ψ h' w → (∀ n ∈ x.news, Heap.noRef n h' = true) →
    ∀ (K : Act → World → Prop) (Q : Exit → Act → World → Prop), (∀ v w', After ψ w h' x v w' → K (a.put o.dst v) w') →
      (if Region.wanted o (yielded ops a.tmps) then o.wp P a w K Q else K (a.put o.dst Go.undef) w)

theorem operands_look {ops : Array Oper} {o : Oper} {ψ : PM} {τ : Nat → AV} {a : Act} (h : ∀ t ∈ o.looksAt ops, VR ψ (τ t) (a.tmps.getD t Go.undef)) : ∀ y ∈ o.op.operands, VR ψ (opd τ y) (a.eval y) := by
  intro y hy
  refine opd_vr fun t e => h t ?_
  subst e
  exact List.mem_append_left _ (List.mem_filterMap.2 ⟨.tmp t, by simpa using hy, rfl⟩)

theorem skip_ok {ops : Array Oper} {o : Oper} {τ : Nat → AV} {h : Heap}
    (hw : ∀ (ψ : PM) (a : Act), (∀ t ∈ o.looksAt ops, VR ψ (τ t) (a.tmps.getD t Go.undef)) → Region.wanted o (yielded ops a.tmps) = false) : OperOk P ops o τ h { v := .tup [] } := by
  intro h' _ ψ a w hl hr _ K Q hk
  rw [hw ψ a hl]
  simp only [Bool.false_eq_true, if_false]
  exact hk _ _ (After.pure hr (.inr rfl))

theorem getD_some {a : Array Value} {d : Nat} {b : Bool} (h : a.getD d Go.undef = .bool b) : a[d]? = some (.bool b) := by
  rw [Array.getD_eq_getD_getElem?] at h
  cases e : a[d]? with
  | none => rw [e] at h; simp [Go.undef] at h
  | some v => rw [e] at h; simpa using h

include hT in
theorem ok_oper {ops : Array Oper} {o : Oper} {τ : Nat → AV} {h : Heap} {x : OR} (hx : Gives (exOper P T ops τ h o) x) : OperOk P ops o τ h x := by
  unfold exOper at hx
  split at hx
  · rename_i hg
    have hop := ok_op hT hx
    intro h' hag ψ a w hl hr hn K Q hk
    have hw : Region.wanted o (yielded ops a.tmps) = true := by simp [Region.wanted, hg]
    rw [hw]
    simp only [if_true]
    exact hop h' hag ψ a w (operands_look hl) hr hn K Q hk
  · rename_i j want hg
    obtain ⟨d, h1, h2⟩ := gives_then hx
    have hd := gives_get h1
    have hlook : d ∈ o.looksAt ops := List.mem_append_right _ (by simp [hg, hd])
    split at h2
    · rename_i y e
      obtain ⟨b, h3, h4⟩ := gives_then h2
      have hy : ∀ (ψ : PM) (a : Act), (∀ t ∈ o.looksAt ops, VR ψ (τ t) (a.tmps.getD t Go.undef)) → yielded ops a.tmps j = some b := by
        intro ψ a hl
        have := hl d hlook
        rw [e] at this
        have ev := this.t_eq
        rw [AT.c, gives_test h3 ψ] at ev
        simp [yielded, hd, getD_some ev]
      split at h4
      · rename_i hb
        have hop := ok_op hT h4
        intro h' hag ψ a w hl hr hn K Q hk
        have hw : Region.wanted o (yielded ops a.tmps) = true := by simp [Region.wanted, hg, hy ψ a hl, eq_of_beq hb]
        rw [hw]
        simp only [if_true]
        exact hop h' hag ψ a w (operands_look hl) hr hn K Q hk
      · rename_i hb
        rw [gives_ok h4]
        refine skip_ok fun ψ a hl => ?_
        have hne : b ≠ want := by simpa using hb
        simp [Region.wanted, hg, hy ψ a hl, hne]
    · rename_i l e
      rw [gives_ok h2]
      refine skip_ok fun ψ a hl => ?_
      have := hl d hlook
      rw [e] at this
      rcases this with this | this
      · cases this
      · have hne : ∀ b, a.tmps[d]? ≠ some (.bool b) := by
          intro b hb
          rw [Array.getD_eq_getD_getElem?, hb] at this
          simp [AV.c] at this
        have : yielded ops a.tmps j = none := by
          unfold yielded
          rw [hd, Option.bind_some]
          cases hb : a.tmps[d]? with
          | none => rfl
          | some v => cases v <;> first | rfl | exact absurd hb (hne _)
        simp [Region.wanted, hg, this]
    · exact (gives_bad h2).elim

/-! ### States -/

def tget : List AV → Nat → AV
  | [], _ => .undef
  | v :: _, 0 => v
  | _ :: t, n + 1 => tget t n

def tset : List AV → Nat → AV → List AV
  | [], _, _ => []
  | _ :: t, 0, v => v :: t
  | x :: t, n + 1, v => x :: tset t n v

def tput (t : List AV) (d : Option Tmp) (v : AV) : List AV :=
  match d with
  | some i => tset t i v
  | none => t

theorem tset_length (t : List AV) (i : Nat) (v : AV) : (tset t i v).length = t.length := by
  induction t generalizing i with
  | nil => rfl
  | cons x t ih => cases i <;> simp [tset, ih]

theorem tput_length (t : List AV) (d : Option Tmp) (v : AV) : (tput t d v).length = t.length := by
  cases d with
  | none => rfl
  | some i => exact tset_length t i v

theorem tget_tset_same {t : List AV} {i : Nat} (h : i < t.length) (v : AV) : tget (tset t i v) i = v := by
  induction t generalizing i with
  | nil => simp at h
  | cons x t ih => cases i with
    | zero => rfl
    | succ i => exact ih (by simpa using h)

theorem tget_tset_other {t : List AV} {i j : Nat} (h : j ≠ i) (v : AV) : tget (tset t i v) j = tget t j := by
  induction t generalizing i j with
  | nil => rfl
  | cons x t ih => cases i with
    | zero => cases j with
      | zero => exact absurd rfl h
      | succ j => rfl
    | succ i => cases j with
      | zero => rfl
      | succ j => exact ih (by omega)

theorem tget_out {t : List AV} {i : Nat} (h : t.length ≤ i) : tget t i = .undef := by
  induction t generalizing i with
  | nil => rfl
  | cons x t ih => cases i with
    | zero => simp at h
    | succ i => exact ih (by simpa using h)

/-- The slots and the memory are as they are told. -/
structure Rel (ψ : PM) (t : Nat → AV) (h : Heap) (size : Nat) (a : Act) (w : World) : Prop where
  sz : a.tmps.size = size
  tm : ∀ i, VR ψ (t i) (a.tmps.getD i Go.undef)
  hp : HRel ψ h w
  nd : a.defers = []

/-- Names from here on are the caller's. -/
def FN : Nat := 1000

/-- What a piece of code may have done since the world w0. -/
structure Fr (ψ0 : PM) (w0 : World) (h0 : Heap) (ψ : PM) (w : World) (h : Heap) : Prop where
  fix : ∀ n, FN ≤ n → ψ n = ψ0 n
  keep : ∀ b, b < w0.heap.size → (∀ n x, hget h0 n = some x → x.own = true → (ψ0 n).b ≠ b) → w.heap[b]? = w0.heap[b]?
  owned : ∀ n x, hget h n = some x → x.own = true → (ψ n).b < w0.heap.size → ∃ m y, hget h0 m = some y ∧ y.own = true ∧ (ψ0 m).b = (ψ n).b
  sz : w0.heap.size ≤ w.heap.size
  os : w.os = w0.os
  tape : w.tape = w0.tape
  output : w.output = w0.output

theorem Fr.refl (ψ : PM) (w : World) (h : Heap) : Fr ψ w h ψ w h :=
  ⟨fun _ _ => rfl, fun _ _ _ => rfl, fun n x hx hxo _ => ⟨n, x, hx, hxo, rfl⟩, Nat.le_refl _, rfl, rfl, rfl⟩

theorem Fr.trans {ψ0 ψ1 ψ2 : PM} {w0 w1 w2 : World} {h0 h1 h2 : Heap} (f : Fr ψ0 w0 h0 ψ1 w1 h1) (g : Fr ψ1 w1 h1 ψ2 w2 h2) : Fr ψ0 w0 h0 ψ2 w2 h2 where
  fix n hn := (g.fix n hn).trans (f.fix n hn)
  keep b hb hall := by
    rw [← f.keep b hb hall]
    refine g.keep b (Nat.lt_of_lt_of_le hb f.sz) fun n x hx hxo e => ?_
    obtain ⟨m, y, hy, hyo, e1⟩ := f.owned n x hx hxo (by rw [e]; exact hb)
    exact hall m y hy hyo (by rw [e1, e])
  owned n x hx hxo hlt := by
    obtain ⟨m, y, hy, hyo, e1⟩ := g.owned n x hx hxo (Nat.lt_of_lt_of_le hlt f.sz)
    obtain ⟨k, z, hz, hzo, e2⟩ := f.owned m y hy hyo (by rw [e1]; exact hlt)
    exact ⟨k, z, hz, hzo, by rw [e2, e1]⟩
  sz := Nat.le_trans f.sz g.sz
  os := g.os.trans f.os
  tape := g.tape.trans f.tape
  output := g.output.trans f.output

theorem hputs_cases {u : List (Nat × Blk)} {n : Nat} {x : Blk} : ∀ {h : Heap}, hget (hputs h u) n = some x → n ∈ u.map (·.1) ∨ hget h n = some x := by
  intro h e
  by_cases hn : n ∈ u.map (·.1)
  · exact .inl hn
  · exact .inr (by rwa [hget_hputs_other h fun y hy ey => hn (List.mem_map.2 ⟨y, hy, ey⟩)] at e)

theorem Post.fr {ψ ψ' : PM} {w w' : World} {h : Heap} {upd : List (Nat × Blk)} {news : List Nat} (p : Post ψ w h ψ' w' (upd.map (·.1)) news) (hf : ∀ n ∈ news, n < FN) :
    Fr ψ w h ψ' w' (hputs h upd) where
  fix n hn := p.same n fun hc => by have := hf n hc; omega
  keep b hb hall := p.keep b hb fun n _ x hx hxo => hall n x hx hxo
  owned n x hx hxo hlt := by
    by_cases hn : n ∈ news
    · obtain ⟨m, hm, y, hy, hyo, e⟩ := p.fresh n hn hlt
      exact ⟨m, y, hy, hyo, e⟩
    · rcases hputs_cases hx with hu | hu
      · rcases p.old n hu with h1 | ⟨y, hy, hyo⟩
        · exact absurd h1 hn
        · exact ⟨n, y, hy, hyo, by rw [p.same n hn]⟩
      · exact ⟨n, x, hu, hxo, by rw [p.same n hn]⟩
  sz := p.sz
  os := p.os
  tape := p.tape
  output := p.output

/-- The relation behind an operation. -/
theorem Rel.put {ψ ψ' : PM} {t t' : Nat → AV} {h h' : Heap} {size : Nat} {a : Act} {w w' : World} (r : Rel ψ t h size a w) {d : Option Tmp} {v : Value} {u : AV} (hv : VR ψ' u v) (hh : HRel ψ' h' w')
    {news : List Nat} (hs : ∀ n, n ∉ news → ψ' n = ψ n) (hn : ∀ n ∈ news, ∀ i, d ≠ some i → (t' i).noRef n = true)
    (hd : ∀ i, d = some i → i < size → t' i = u) (hd' : ∀ i, size ≤ i → t' i = .undef) (ho : ∀ i, d ≠ some i → t' i = .undef ∨ t' i = t i) : Rel ψ' t' h' size (a.put d v) w' := by
  refine ⟨?_, ?_, hh, ?_⟩
  · cases d with
    | none => exact r.sz
    | some i => simpa [Act.put] using r.sz
  · intro i
    by_cases hi : d = some i
    · by_cases hlt : i < size
      · rw [hd i hi hlt]
        subst hi
        have : (a.put (some i) v).tmps.getD i Go.undef = v := by
          have : i < a.tmps.size := by rw [r.sz]; exact hlt
          simp [Act.put, Array.getD_eq_getD_getElem?, this]
        rw [this]
        exact hv
      · exact .inl (hd' i (by omega))
    · have hsame : (a.put d v).tmps.getD i Go.undef = a.tmps.getD i Go.undef := by
        cases d with
        | none => rfl
        | some j =>
          have : j ≠ i := fun e => hi (by rw [e])
          simp [Act.put, Array.getD_eq_getD_getElem?, Array.getElem?_setIfInBounds_ne this]
      rw [hsame]
      rcases ho i hi with h1 | h1
      · exact .inl h1
      · have hvr := r.tm i
        rw [← h1] at hvr
        -- step by step along the new names
        have key : ∀ (l : List Nat), (∀ n ∈ l, (t' i).noRef n = true) → ∀ (φ : PM), (∀ n, n ∉ l → φ n = ψ n) → VR φ (t' i) (a.tmps.getD i Go.undef) := by
          intro l
          induction l with
          | nil => intro _ φ hφ; rw [show φ = ψ from funext fun m => hφ m (by simp)]; exact hvr
          | cons x l ih =>
            intro hl φ hφ
            refine VR.congr (ψ := φ.put x (ψ x)) (n := x) (fun m hm => (PM.put_other φ _ hm).symm) (hl x (List.mem_cons_self ..)) ?_
            refine ih (fun y hy => hl y (List.mem_cons_of_mem _ hy)) _ fun m hm => ?_
            by_cases hmx : m = x
            · subst hmx; rw [PM.put_same]
            · rw [PM.put_other _ _ hmx]; exact hφ m (by simp [hmx, hm])
        exact key news (fun n hn' => hn n hn' i hi) ψ' hs
  · cases d with
    | none => exact r.nd
    | some i => exact r.nd

/-! ### A region in the order of the text -/

/-- Slots that name n are forgotten. -/
def forget (n : Nat) : List AV → List AV
  | [] => []
  | v :: t => (match v.noRef n with | true => v | false => .undef) :: forget n t

def forgets : List Nat → List AV → List AV
  | [], t => t
  | n :: ns, t => forgets ns (forget n t)

theorem forget_length (n : Nat) (t : List AV) : (forget n t).length = t.length := by
  induction t with
  | nil => rfl
  | cons x t ih => simp [forget, ih]

theorem forget_get (n : Nat) (t : List AV) (i : Nat) : (tget (forget n t) i = .undef ∨ tget (forget n t) i = tget t i) ∧ (tget (forget n t) i).noRef n = true := by
  induction t generalizing i with
  | nil => exact ⟨.inl rfl, rfl⟩
  | cons x t ih =>
    cases i with
    | zero =>
      simp only [forget, tget]
      cases hx : x.noRef n with
      | true => exact ⟨.inr rfl, hx⟩
      | false => exact ⟨.inl rfl, rfl⟩
    | succ i => exact ih i

theorem forgets_length (ns : List Nat) (t : List AV) : (forgets ns t).length = t.length := by
  induction ns generalizing t with
  | nil => rfl
  | cons n ns ih => rw [forgets, ih, forget_length]

theorem forgets_get (ns : List Nat) : ∀ (t : List AV) (i : Nat), (tget (forgets ns t) i = .undef ∨ tget (forgets ns t) i = tget t i) ∧ ∀ n ∈ ns, (tget (forgets ns t) i).noRef n = true := by
  induction ns with
  | nil => intro t i; exact ⟨.inr rfl, by simp⟩
  | cons n ns ih =>
    intro t i
    obtain ⟨h1, h2⟩ := ih (forget n t) i
    obtain ⟨h3, h4⟩ := forget_get n t i
    refine ⟨?_, ?_⟩
    · rcases h1 with h1 | h1
      · exact .inl h1
      · rw [forgets, h1]; exact h3
    · intro m hm
      rcases List.mem_cons.1 hm with rfl | hm
      · rcases h1 with h1 | h1
        · rw [forgets, h1]; rfl
        · rw [forgets, h1]; exact h4
      · exact h2 m hm

abbrev St := List AV × Heap

/-- The state behind an operation. -/
def stepSt (o : Oper) (x : OR) (s : St) : St := (tput (forgets x.news s.1) o.dst x.v, hputs s.2 x.upd)

def exOps (P : Program) (T : TT) (ops : Array Oper) : List Oper → St → M St
  | [], s => pure s
  | o :: r, s => do
    let x ← exOper P T ops (tget s.1) s.2 o
    need (x.news.all fun n => Nat.blt n FN && Heap.noRef n s.2)
    exOps P T ops r (stepSt o x s)

include hT in
theorem ok_ops {ops : Array Oper} {Q : Exit → Act → World → Prop} : ∀ (l : List Oper) (k : Nat) (s s' : St), (∀ i o, l[i]? = some o → ops[k + i]? = some o) → Gives (exOps P T ops l s) s' →
    ∀ (ψ : PM) (a : Act) (w : World), Rel ψ (tget s.1) s.2 s.1.length a w →
      (∀ ψ' a' w', Rel ψ' (tget s'.1) s'.2 s'.1.length a' w' → Fr ψ w s.2 ψ' w' s'.2 → Q .normal a' w') → wpOps P ops Q (List.range' k l.length) a w := by
  intro l
  induction l with
  | nil =>
    intro k s s' _ hg ψ a w hr hk
    rw [gives_ok hg] at hk
    exact hk ψ a w hr (Fr.refl ψ w _)
  | cons o r ih =>
    intro k s s' hl hg ψ a w hr hk
    obtain ⟨x, h1, h2⟩ := gives_then hg
    obtain ⟨_, h3, h4⟩ := gives_then h2
    have hnews := List.all_eq_true.1 (gives_need h3)
    have ho : ops[k]? = some o := by simpa using hl 0 o rfl
    have hok := ok_oper hT h1
    rw [List.length_cons, List.range'_succ]
    simp only [wpOps, ho]
    have hn : ∀ n ∈ x.news, n < FN ∧ Heap.noRef n s.2 = true := by
      intro n hn
      have := hnews n hn
      simp only [Bool.and_eq_true, Nat.blt_eq] at this
      exact this
    have main := hok s.2 (fun _ _ => rfl) ψ a w (fun t _ => hr.tm t) hr.hp (fun n hn' => (hn n hn').2) (wpOps P ops Q (List.range' (k + 1) r.length)) Q (by
      rintro v w1 ⟨ψ1, hv, hh, hp⟩
      have hrel : Rel ψ1 (tget (stepSt o x s).1) (stepSt o x s).2 (stepSt o x s).1.length (a.put o.dst v) w1 := by
        have hlen : (stepSt o x s).1.length = s.1.length := by simp [stepSt, tput_length, forgets_length]
        rw [hlen]
        refine hr.put (t' := tget (stepSt o x s).1) hv hh hp.same ?_ ?_ ?_ ?_
        · intro n hn' i hi
          have : tget (stepSt o x s).1 i = tget (forgets x.news s.1) i := by
            unfold stepSt tput
            cases hd : o.dst with
            | none => rfl
            | some j => exact tget_tset_other (fun e => hi (by rw [hd, e])) _
          rw [this]
          exact (forgets_get x.news s.1 i).2 n hn'
        · intro i hi hlt
          unfold stepSt tput
          rw [hi]
          exact tget_tset_same (by rw [forgets_length]; exact hlt) _
        · intro i hi
          exact tget_out (by rw [hlen]; exact hi)
        · intro i hi
          have : tget (stepSt o x s).1 i = tget (forgets x.news s.1) i := by
            unfold stepSt tput
            cases hd : o.dst with
            | none => rfl
            | some j => exact tget_tset_other (fun e => hi (by rw [hd, e])) _
          rw [this]
          exact (forgets_get x.news s.1 i).1
      have hfr : Fr ψ w s.2 ψ1 w1 (stepSt o x s).2 := hp.fr fun n hn' => (hn n hn').1
      exact ih (k + 1) _ s' (fun i o' ho' => by have := hl (i + 1) o' (by simpa using ho'); rwa [show k + (i + 1) = k + 1 + i by omega] at this) h4 ψ1 _ w1 hrel
        fun ψ2 a2 w2 hr2 hf2 => hk ψ2 a2 w2 hr2 (hfr.trans hf2))
    split
    · rename_i hw; rw [if_pos hw] at main; exact .inl main
    · rename_i hw; rw [if_neg hw] at main; exact main

end
end Go.Ev
