/-
  An evaluator of loaded Go code over abstract values, part 12: types whose values are compared cell by cell; a call out of a function's body.
  Conditions: none; nothing here names a program.
-/
import Derived.Test.YtnndhmnabbkamaaEv11
import Derived.DeepKeys
namespace Go.Ev
open Go

section
variable {P : Program}

theorem Fits.length : ∀ {ks : List EK} {xs : List Value}, Fits ks xs → xs.length = ks.length
  | [], [], _ => rfl
  | _ :: ks, _ :: xs, h => by simp [Fits.length h.2]
  | [], _ :: _, h => h.elim
  | _ :: _, [], h => h.elim

theorem Fits.split : ∀ {a b : List EK} {xs : List Value}, Fits (a ++ b) xs → ∃ x y, xs = x ++ y ∧ Fits a x ∧ Fits b y
  | [], b, xs, h => ⟨[], xs, rfl, trivial, h⟩
  | k :: a, b, x :: xs, h => by
    obtain ⟨u, v, e, h1, h2⟩ := Fits.split (a := a) (b := b) h.2
    exact ⟨x :: u, v, by simp [e], ⟨h.1, h1⟩, h2⟩
  | _ :: _, _, [], h => h.elim

theorem eqVs_append : ∀ {a c : List Value} (b d : List Value), a.length = c.length → eqVs (a ++ b) (c ++ d) = (eqVs a c && eqVs b d)
  | [], [], b, d, _ => by simp [eqVs]
  | x :: a, y :: c, b, d, h => by simp [eqVs, eqVs_append b d (show a.length = c.length by simpa using h), Bool.and_assoc]
  | [], _ :: _, _, _, h => by simp at h
  | _ :: _, [], _, _, h => by simp at h

def flatFields (g : TypeId → Option (List EK)) : List Field → Nat → Option (List EK)
  | [], _ => some []
  | f :: fs, off => match f.name != "_" && Nat.beq f.offset off with
    | false => none
    | true => match g f.type with
      | none => none
      | some a => match flatFields g fs (off + a.length) with
        | none => none
        | some b => some (a ++ b)

def sized (P : Program) (t : TypeId) (ks : List EK) : Option (List EK) :=
  match (P.info? t).map (·.size) with
  | some n => match Nat.beq n ks.length with
    | true => some ks
    | false => none
  | none => none

/-- The kinds of a type's cells, where '==' on it is '==' cell by cell. -/
def flatT (P : Program) : Nat → TypeId → Option (List EK)
  | 0, _ => none
  | d + 1, t => match P.underlying t with
    | some (.int k) => sized P t [.int k]
    | some .bool => sized P t [.bool]
    | some .string => sized P t [.str]
    | some (.struct fs) => match P.stoodInHeld t with
      | true => none
      | false => match flatFields (flatT P d) fs.toList 0 with
        | some ks => sized P t ks
        | none => none
    | some (.array n e) => match flatT P d e with
      | some ks => sized P t (List.replicate n ks).flatten
      | none => none
    | _ => none

theorem sized_spec {t : TypeId} {ks ks' : List EK} (h : sized P t ks = some ks') : ks' = ks ∧ (P.info? t).map (·.size) = some ks.length := by
  unfold sized at h
  split at h
  · rename_i n hn
    split at h
    · rename_i hb; cases h; exact ⟨rfl, by rw [hn, Nat.eq_of_beq_eq_true hb]⟩
    · cases h
  · cases h

def mkV (P : Program) (t : TypeId) (xs : List Value) : Value :=
  match P.underlying t with
  | some (.struct _) | some (.array _ _) => .agg xs.toArray
  | _ => xs.headD Go.undef

theorem run_isAgg_d {t : TypeId} {d : TypeDesc} (hd : P.underlying t = some d) (w : World) : (isAgg t).run P w = .ok (isAggD d) w := by
  unfold isAgg
  simp only [Sem.run_bind, run_underlying hd, Result.andThen_ok]
  cases d <;> rfl

theorem mkV_agg {t : TypeId} {d : TypeDesc} (hd : P.underlying t = some d) (ha : isAggD d = true) (xs : List Value) : mkV P t xs = .agg xs.toArray := by
  unfold mkV
  rw [hd]
  cases d <;> first | rfl | cases ha

theorem mkV_one {t : TypeId} {d : TypeDesc} (hd : P.underlying t = some d) (ha : isAggD d = false) (xs : List Value) : mkV P t xs = xs.headD Go.undef := by
  unfold mkV
  rw [hd]
  cases d <;> first | rfl | cases ha

def FlatAt (P : Program) (m : Nat) (t : TypeId) (ks : List EK) : Prop :=
  (P.info? t).map (·.size) = some ks.length ∧ (∃ d, P.underlying t = some d) ∧ (∀ d, P.underlying t = some d → isAggD d = false → ks.length = 1) ∧
  ∀ (D : Nat) (w : World) (xs ys : List Value), Fits ks xs → Fits ks ys → (Op.equalIn (D + m) t (mkV P t xs) (mkV P t ys)).run P w = .ok (eqVs xs ys) w

theorem FlatAt.part {m : Nat} {t : TypeId} {ks : List EK} (h : FlatAt P m t ks) (pre xs post : List Value) (hf : Fits ks xs) (w : World) :
    (part t (pre ++ xs ++ post).toArray pre.length).run P w = .ok (mkV P t xs) w := by
  obtain ⟨h1, ⟨d, hd⟩, h3, _⟩ := h
  have hl := hf.length
  cases hi : P.info? t with
  | none => rw [hi] at h1; cases h1
  | some i =>
    rw [hi] at h1
    have hs : i.size = ks.length := by simpa using h1
    unfold Go.part
    simp only [Sem.run_bind, run_isAgg_d hd, Result.andThen_ok]
    cases ha : isAggD d with
    | true =>
      simp only [Sem.run_pure, Result.andThen_ok, if_true, Sem.run_bind, sizeOf, typeInfo, run_program, hi]
      rw [mkV_agg hd ha]
      congr 2
      apply Array.ext'
      simp only [Array.toList_extract, List.extract_eq_drop_take']
      rw [hs, ← hl, List.append_assoc, List.take_append, List.take_of_length_le (by omega), show pre.length + xs.length - pre.length = xs.length by omega, List.take_left, List.drop_left]
    | false =>
      have hk := h3 d hd ha
      obtain ⟨x, hx⟩ := List.length_eq_one_iff.1 (hl.trans hk)
      subst hx
      rw [mkV_one hd ha]
      simp

theorem eqFields_flat {m : Nat} (D : Nat) (w : World) {g : TypeId → Option (List EK)} (hg : ∀ t ks, g t = some ks → FlatAt P m t ks) : ∀ (fs : List Field) (off : Nat) (ks : List EK), flatFields g fs off = some ks →
    ∀ (pre xs pre' ys : List Value), pre.length = off → pre'.length = off → Fits ks xs → Fits ks ys → (Op.eqFields (D + m) (pre ++ xs).toArray (pre' ++ ys).toArray fs).run P w = .ok (eqVs xs ys) w
  | [], off, ks, h, pre, xs, pre', ys, _, _, hx, hy => by
    cases h
    cases xs <;> cases ys <;> first | exact hx.elim | exact hy.elim | simp [Op.eqFields, eqVs]
  | f :: fs, off, ks, h, pre, xs, pre', ys, hp, hp', hx, hy => by
    unfold flatFields at h
    split at h
    · cases h
    · rename_i hc
      simp only [Bool.and_eq_true, bne_iff_ne, ne_eq] at hc
      obtain ⟨hn, ho⟩ := hc
      have ho := Nat.eq_of_beq_eq_true ho
      split at h
      · cases h
      · rename_i a ha
        split at h
        · cases h
        · rename_i b hb
          cases h
          obtain ⟨x1, x2, rfl, hx1, hx2⟩ := hx.split
          obtain ⟨y1, y2, rfl, hy1, hy2⟩ := hy.split
          have hA := hg _ _ ha
          have e1 := hA.part pre x1 x2 hx1 w
          have e2 := hA.part pre' y1 y2 hy1 w
          have e3 := hA.2.2.2 D w x1 y1 hx1 hy1
          rw [hp] at e1
          rw [hp'] at e2
          rw [List.append_assoc] at e1 e2
          have ih := eqFields_flat D w hg fs (off + a.length) b hb (pre ++ x1) x2 (pre' ++ y1) y2 (by simp [hp, hx1.length]) (by simp [hp', hy1.length]) hx2 hy2
          rw [List.append_assoc, List.append_assoc] at ih
          simp only [Op.eqFields, hn, ne_eq, not_false_eq_true, if_true, Sem.run_bind, ho, e1, e2, e3, Result.andThen_ok]
          rw [eqVs_append _ _ (by rw [hx1.length, hy1.length])]
          cases he : eqVs x1 y1 with
          | false => simp
          | true => simpa using ih

theorem eqItems_flat {m : Nat} (D : Nat) (w : World) {e : TypeId} {ks : List EK} (hA : FlatAt P m e ks) : ∀ (n k : Nat) (pre xs pre' ys : List Value), pre.length = k * ks.length → pre'.length = k * ks.length →
    Fits (List.replicate n ks).flatten xs → Fits (List.replicate n ks).flatten ys →
    (Op.eqItems (D + m) e (P.cellsOf e) (pre ++ xs).toArray (pre' ++ ys).toArray (List.range' k n)).run P w = .ok (eqVs xs ys) w
  | 0, k, pre, xs, pre', ys, _, _, hx, hy => by
    simp at hx hy
    cases xs <;> cases ys <;> first | exact hx.elim | exact hy.elim | simp [Op.eqItems, eqVs]
  | n + 1, k, pre, xs, pre', ys, hp, hp', hx, hy => by
    rw [List.replicate_succ, List.flatten_cons] at hx hy
    obtain ⟨x1, x2, rfl, hx1, hx2⟩ := hx.split
    obtain ⟨y1, y2, rfl, hy1, hy2⟩ := hy.split
    have hc : P.cellsOf e = ks.length := by
      have := hA.1
      unfold Program.cellsOf
      rw [this]
      rfl
    have e1 := hA.part pre x1 x2 hx1 w
    have e2 := hA.part pre' y1 y2 hy1 w
    have e3 := hA.2.2.2 D w x1 y1 hx1 hy1
    rw [hp] at e1
    rw [hp'] at e2
    rw [List.append_assoc] at e1 e2
    have ih := eqItems_flat D w hA n (k + 1) (pre ++ x1) x2 (pre' ++ y1) y2 (by simp [hp, hx1.length, Nat.succ_mul]) (by simp [hp', hy1.length, Nat.succ_mul]) hx2 hy2
    rw [List.append_assoc, List.append_assoc] at ih
    rw [List.range'_succ]
    simp only [Op.eqItems, Sem.run_bind, hc, e1, e2, e3, Result.andThen_ok]
    rw [eqVs_append _ _ (by rw [hx1.length, hy1.length])]
    rw [hc] at ih
    cases he : eqVs x1 y1 with
    | false => simp
    | true => simpa using ih

theorem flatT_at : ∀ (m : Nat) (t : TypeId) (ks : List EK), flatT P m t = some ks → FlatAt P m t ks
  | 0, _, _, h => by cases h
  | m + 1, t, ks, h => by
    unfold flatT at h
    split at h
    · rename_i k hu
      obtain ⟨rfl, hs⟩ := sized_spec h
      refine ⟨hs, ⟨_, hu⟩, fun _ _ _ => rfl, fun D w xs ys hx hy => ?_⟩
      cases xs with
      | nil => exact hx.elim
      | cons x xs => cases ys with
        | nil => exact hy.elim
        | cons y ys =>
          obtain ⟨⟨a, rfl⟩, hx2⟩ := hx
          obtain ⟨⟨b, rfl⟩, hy2⟩ := hy
          cases xs <;> cases ys <;> first | exact hx2.elim | exact hy2.elim | skip
          simp only [mkV, hu, List.headD_cons]
          rw [show D + (m + 1) = (D + m) + 1 from rfl, run_equalIn_int w (D + m) t k k a b hu]
          simp [eqVs, eqV]
    · rename_i hu
      obtain ⟨rfl, hs⟩ := sized_spec h
      refine ⟨hs, ⟨_, hu⟩, fun _ _ _ => rfl, fun D w xs ys hx hy => ?_⟩
      cases xs with
      | nil => exact hx.elim
      | cons x xs => cases ys with
        | nil => exact hy.elim
        | cons y ys =>
          obtain ⟨⟨a, rfl⟩, hx2⟩ := hx
          obtain ⟨⟨b, rfl⟩, hy2⟩ := hy
          cases xs <;> cases ys <;> first | exact hx2.elim | exact hy2.elim | skip
          simp only [mkV, hu, List.headD_cons]
          rw [show D + (m + 1) = (D + m) + 1 from rfl, run_equalIn_bool' w (D + m) t a b hu]
          simp [eqVs, eqV]
    · rename_i hu
      obtain ⟨rfl, hs⟩ := sized_spec h
      refine ⟨hs, ⟨_, hu⟩, fun _ _ _ => rfl, fun D w xs ys hx hy => ?_⟩
      cases xs with
      | nil => exact hx.elim
      | cons x xs => cases ys with
        | nil => exact hy.elim
        | cons y ys =>
          obtain ⟨⟨a, rfl⟩, hx2⟩ := hx
          obtain ⟨⟨b, rfl⟩, hy2⟩ := hy
          cases xs <;> cases ys <;> first | exact hx2.elim | exact hy2.elim | skip
          simp only [mkV, hu, List.headD_cons]
          rw [show D + (m + 1) = (D + m) + 1 from rfl, run_equalIn_string w (D + m) t a b hu]
          simp [eqVs, eqV]
    · rename_i fs hu
      split at h
      · cases h
      · rename_i hsi
        split at h
        · rename_i ks' hf
          obtain ⟨rfl, hs⟩ := sized_spec h
          refine ⟨hs, ⟨_, hu⟩, fun d hd ha => ?_, fun D w xs ys hx hy => ?_⟩
          · rw [hu] at hd; cases hd; cases ha
          · have hfo : P.fieldsOf t = fs := by simp [Program.fieldsOf, hu]
            simp only [mkV, hu]
            rw [show D + (m + 1) = (D + m) + 1 from rfl, run_equalIn_struct w (D + m) t _ _ (by rw [hfo]; exact hu) hsi, hfo]
            exact eqFields_flat D w (flatT_at m) fs.toList 0 _ hf [] xs [] ys rfl rfl hx hy
        · cases h
    · rename_i n e hu
      split at h
      · rename_i ks' hf
        obtain ⟨rfl, hs⟩ := sized_spec h
        have hA := flatT_at m e ks' hf
        obtain ⟨i, hi⟩ : ∃ i, P.info? e = some i := by
          cases hi : P.info? e with
          | none => have := hA.1; rw [hi] at this; cases this
          | some i => exact ⟨i, rfl⟩
        refine ⟨hs, ⟨_, hu⟩, fun d hd ha => ?_, fun D w xs ys hx hy => ?_⟩
        · rw [hu] at hd; cases hd; cases ha
        · simp only [mkV, hu]
          rw [show D + (m + 1) = (D + m) + 1 from rfl, run_equalIn_array w (D + m) _ _ hu hi, List.range_eq_range']
          exact eqItems_flat D w hA n 0 [] xs [] ys (by simp) (by simp) hx hy
      · cases h
    · cases h

/-- '==' on a type is '==' cell by cell. -/
theorem flatOk {m : Nat} {t : TypeId} {ks : List EK} (hg : P.eqGuardType P.depth t = false) (hm : m ≤ 10000) (h : flatT P m t = some ks) (ha : (P.underlying t).all isAggD = true) : FlatOk P t ks := by
  have hA := flatT_at m t ks h
  obtain ⟨d, hd⟩ := hA.2.1
  rw [hd] at ha
  have hmk : ∀ xs, mkV P t xs = .agg xs.toArray := by
    intro xs
    unfold mkV
    rw [hd]
    cases d <;> first | rfl | cases ha
  refine ⟨hg, fun w xs ys hx hy => ?_⟩
  have := hA.2.2.2 (10000 - m) w xs ys hx hy
  rw [hmk, hmk, show 10000 - m + m = 10000 by omega] at this
  exact this

/-! ### Calls out of bodies -/

/-- The function's number leads to its body. -/
structure Named (P : Program) (f : FuncId) (fn : Func) : Prop where
  at_ : P.funcs[f]? = some fn
  name : (fn.name == "runtime.NumGoroutine") = false
  body : fn.body.isNone = false

theorem Named.enter {f : FuncId} {fn : Func} (h : Named P f fn) (args : Array Value) (w : World) : (callFunc f args).run P w = .ok (.enter f args) w := by
  unfold callFunc
  simp only [Sem.run_bind, run_program, Result.andThen_ok, h.at_]
  rw [if_neg (by rw [h.name]; simp), if_neg (by rw [h.body]; simp)]
  rfl

/-- No pointer of our own lies in it. -/
def A0.plain : A0 → Bool
  | .ptr _ _ _ | .sl _ _ _ _ _ | .sla _ _ _ _ => false
  | .fn _ caps => caps.isEmpty
  | _ => true
def Cells.plain : Cells → Bool
  | .vals l => l.all A0.plain
  | .ints _ _ => true
def AT.plain : AT → Bool
  | .one x => x.plain
  | .agg c => c.plain
def AV.plain : AV → Bool
  | .undef => true
  | .t x => x.plain
  | .tup l => l.all AT.plain

theorem A0.plain_c {x : A0} (h : x.plain = true) (ψ ψ' : PM) : x.c ψ = x.c ψ' := by
  cases x with
  | fn f caps => simp only [A0.plain, List.isEmpty_iff] at h; subst h; rfl
  | _ => first | rfl | cases h
theorem Cells.plain_c {c : Cells} (h : c.plain = true) (ψ ψ' : PM) : c.c ψ = c.c ψ' := by
  cases c with
  | vals l => exact List.map_congr_left fun a ha => A0.plain_c (List.all_eq_true.1 h a ha) ψ ψ'
  | ints k l => simp [Cells.c, Cells.list, A0.c, Function.comp_def]
theorem AT.plain_c {x : AT} (h : x.plain = true) (ψ ψ' : PM) : x.c ψ = x.c ψ' := by
  cases x with
  | one y => exact A0.plain_c h ψ ψ'
  | agg c => simp only [AT.c, Cells.plain_c (show c.plain = true from h) ψ ψ']
theorem AV.plain_c {x : AV} (h : x.plain = true) (ψ ψ' : PM) : x.c ψ = x.c ψ' := by
  cases x with
  | undef => rfl
  | t y => exact AT.plain_c h ψ ψ'
  | tup l =>
    simp only [AV.c]
    congr 2
    exact List.map_congr_left fun a ha => AT.plain_c (List.all_eq_true.1 h a ha) ψ ψ'

theorem hrel_nil (ψ : PM) (w : World) : HRel ψ [] w := by
  constructor
  · intro n b hb; cases hb
  · intro n m b b' hb; cases hb

/-- A function of values alone. -/
theorem FnOk.call {f : FuncId} {fn : Func} (hf : Named P f fn) {args : List AT} {r : AV} {h' : Heap} (h : FnOk P f args [] r h') (hr : r.plain = true) : CallOk P f args [] r [] [] := by
  intro ψ w _ _
  unfold CallDoes
  rw [hf.enter]
  refine Calls.mono (h ψ w (hrel_nil ψ w)) ?_
  rintro e w' ⟨ψ', rfl, _, hfr⟩
  refine ⟨_, rfl, ψ, .inr (AV.plain_c hr ψ' ψ), hrel_nil ψ w', ?_⟩
  exact ⟨fun _ _ => rfl, fun b hb _ => hfr.keep b hb (fun n x hx => (by cases hx)), by simp, by simp, hfr.sz, hfr.os, hfr.tape, hfr.output⟩

end
end Go.Ev
