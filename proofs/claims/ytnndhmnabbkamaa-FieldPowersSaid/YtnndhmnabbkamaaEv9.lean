/-
  An evaluator of loaded Go code over abstract values, part 9: a region whose order is drawn: whatever the order, it comes to what the order of the text comes to.
  Conditions: those that the evaluator looks at; nothing here names a program.
-/
import Derived.Test.YtnndhmnabbkamaaEv8
namespace Go.Ev
open Go

abbrev Tr := List (Oper × OR)

/-- The slots, those operations having run that S names. -/
def foldT : Tr → (Nat → Bool) → List AV → List AV
  | [], _, t => t
  | (o, x) :: r, S, t => foldT r (fun j => S (j + 1)) (match S 0 with | true => tput t o.dst x.v | false => t)

def foldH : Tr → (Nat → Bool) → Heap → Heap
  | [], _, h => h
  | (_, x) :: r, S, h => foldH r (fun j => S (j + 1)) (match S 0 with | true => hputs h x.upd | false => h)

theorem foldT_length : ∀ (L : Tr) (S : Nat → Bool) (t : List AV), (foldT L S t).length = t.length
  | [], _, _ => rfl
  | (o, x) :: r, S, t => by
    rw [foldT, foldT_length]
    cases S 0
    · rfl
    · exact tput_length _ _ _

theorem tget_tput (t t' : List AV) (hl : t.length = t'.length) (d : Option Tmp) (v : AV) (i : Nat) (h : d = some i ∨ tget t i = tget t' i) : tget (tput t d v) i = tget (tput t' d v) i := by
  cases d with
  | none =>
    rcases h with h | h
    · cases h
    · exact h
  | some j =>
    by_cases hij : i = j
    · subst hij
      by_cases hlt : i < t.length
      · show tget (tset t i v) i = tget (tset t' i v) i
        rw [tget_tset_same hlt, tget_tset_same (by omega)]
      · show tget (tset t i v) i = tget (tset t' i v) i
        rw [tget_out (by rw [tset_length]; omega), tget_out (by rw [tset_length]; omega)]
    · show tget (tset t j v) i = tget (tset t' j v) i
      rw [tget_tset_other hij, tget_tset_other hij]
      rcases h with h | h
      · injection h with h; exact absurd h.symm hij
      · exact h

theorem tget_tput_other (t : List AV) (d : Option Tmp) (v : AV) (i : Nat) (h : d ≠ some i) : tget (tput t d v) i = tget t i := by
  cases d with
  | none => rfl
  | some j => exact tget_tset_other (fun e => h (by rw [e])) v

theorem foldT_congr : ∀ (L : Tr) (S S' : Nat → Bool) (t t' : List AV) (i : Nat), t.length = t'.length → tget t i = tget t' i →
    (∀ j o x, L[j]? = some (o, x) → o.dst = some i → S j = S' j) → tget (foldT L S t) i = tget (foldT L S' t') i
  | [], _, _, _, _, _, _, h, _ => h
  | (o, x) :: r, S, S', t, t', i, hl, h, hs => by
    rw [foldT, foldT]
    refine foldT_congr r _ _ _ _ i ?_ ?_ fun j o' x' hj hd => hs (j + 1) o' x' (by simpa using hj) hd
    · cases S 0 <;> cases S' 0 <;> simp [tput_length, hl]
    · by_cases hd : o.dst = some i
      · have h0 := hs 0 o x rfl hd
        rw [h0]
        cases S' 0
        · exact h
        · exact tget_tput _ _ hl _ _ _ (.inl hd)
      · cases S 0 <;> cases S' 0 <;> simp only [tget_tput_other _ _ _ _ hd, h]

theorem foldH_congr : ∀ (L : Tr) (S S' : Nat → Bool) (h h' : Heap) (n : Nat), hget h n = hget h' n →
    (∀ j o x, L[j]? = some (o, x) → n ∈ x.upd.map (·.1) → S j = S' j) → hget (foldH L S h) n = hget (foldH L S' h') n
  | [], _, _, _, _, _, h, _ => h
  | (o, x) :: r, S, S', h, h', n, e, hs => by
    rw [foldH, foldH]
    refine foldH_congr r _ _ _ _ n ?_ fun j o' x' hj hd => hs (j + 1) o' x' (by simpa using hj) hd
    by_cases hd : n ∈ x.upd.map (·.1)
    · have h0 := hs 0 o x rfl hd
      rw [h0]
      cases S' 0
      · exact e
      · exact hget_hputs_congr e
    · have ho : ∀ g : Heap, hget (hputs g x.upd) n = hget g n := fun g => hget_hputs_other g fun y hy ey => hd (List.mem_map.2 ⟨y, hy, ey⟩)
      cases S 0 <;> cases S' 0 <;> simp only [ho, e]

/-- One more operation, behind which no operation in S writes the slot. -/
theorem foldT_add : ∀ (L : Tr) (S : Nat → Bool) (t : List AV) (k : Nat) (o : Oper) (x : OR) (i : Nat), L[k]? = some (o, x) →
    (∀ j o' x', k < j → L[j]? = some (o', x') → S j = true → o'.dst ≠ o.dst ∨ o.dst ≠ some i) → tget (foldT L (fun j => S j || decide (j = k)) t) i = tget (tput (foldT L S t) o.dst x.v) i
  | [], _, _, _, _, _, _, h, _ => by simp at h
  | (p, y) :: r, S, t, 0, o, x, i, h, hs => by
    simp only [List.getElem?_cons_zero, Option.some.injEq, Prod.mk.injEq] at h
    obtain ⟨rfl, rfl⟩ := h
    rw [foldT, foldT]
    have hS : (fun j => (fun j => S j || decide (j = 0)) (j + 1)) = fun j => S (j + 1) := by funext j; simp
    rw [hS]
    simp only [decide_true, Bool.or_true]
    by_cases hd : p.dst = some i
    · -- nobody behind writes it
      have hno : ∀ (t1 : List AV), tget (foldT r (fun j => S (j + 1)) t1) i = tget (foldT r (fun _ => false) t1) i := fun t1 =>
        foldT_congr r _ _ t1 t1 i rfl rfl fun j o' x' hj hd' => by
          cases hSj : S (j + 1) with
          | false => rfl
          | true => exact (hs (j + 1) o' x' (by omega) (by simpa using hj) hSj).elim (fun e => absurd (hd'.trans hd.symm) e) fun e => absurd hd e
      have hnil : ∀ (L : Tr) (t1 : List AV), foldT L (fun _ => false) t1 = t1 := by
        intro L
        induction L with
        | nil => intro t1; rfl
        | cons q L ih => intro t1; obtain ⟨o', x'⟩ := q; exact ih t1
      rw [hno, hnil]
      refine tget_tput _ _ ?_ _ _ _ (.inl hd)
      cases S 0 <;> simp [foldT_length, tput_length]
    · rw [tget_tput_other _ _ _ _ hd]
      refine foldT_congr r _ _ _ _ i ?_ ?_ fun _ _ _ _ _ => rfl
      · cases S 0 <;> simp [tput_length]
      · cases S 0 <;> simp [tget_tput_other _ _ _ _ hd]
  | (p, y) :: r, S, t, k + 1, o, x, i, h, hs => by
    rw [foldT, foldT]
    have hS : (fun j => (fun j => S j || decide (j = k + 1)) (j + 1)) = fun j => (fun j => S (j + 1)) j || decide (j = k) := by funext j; simp
    rw [hS]
    have h0 : (S 0 || decide (0 = k + 1)) = S 0 := by simp
    simp only [h0]
    exact foldT_add r (fun j => S (j + 1)) _ k o x i (by simpa using h) fun j o' x' hj hj' hSj => hs (j + 1) o' x' (by omega) (by simpa using hj') hSj

theorem foldH_add : ∀ (L : Tr) (S : Nat → Bool) (h : Heap) (k : Nat) (o : Oper) (x : OR) (n : Nat), L[k]? = some (o, x) →
    (∀ j o' x', k < j → L[j]? = some (o', x') → S j = true → n ∈ x'.upd.map (·.1) → n ∉ x.upd.map (·.1)) → hget (foldH L (fun j => S j || decide (j = k)) h) n = hget (hputs (foldH L S h) x.upd) n
  | [], _, _, _, _, _, _, h, _ => by simp at h
  | (p, y) :: r, S, t, 0, o, x, i, h, hs => by
    simp only [List.getElem?_cons_zero, Option.some.injEq, Prod.mk.injEq] at h
    obtain ⟨rfl, rfl⟩ := h
    rw [foldH, foldH]
    have hS : (fun j => (fun j => S j || decide (j = 0)) (j + 1)) = fun j => S (j + 1) := by funext j; simp
    rw [hS]
    simp only [decide_true, Bool.or_true]
    have ho : ∀ g : Heap, i ∉ y.upd.map (·.1) → hget (hputs g y.upd) i = hget g i := fun g hd => hget_hputs_other g fun z hz ez => hd (List.mem_map.2 ⟨z, hz, ez⟩)
    by_cases hd : i ∈ y.upd.map (·.1)
    · have hno : ∀ (t1 : Heap), hget (foldH r (fun j => S (j + 1)) t1) i = hget (foldH r (fun _ => false) t1) i := fun t1 =>
        foldH_congr r _ _ t1 t1 i rfl fun j o' x' hj hd' => by
          cases hSj : S (j + 1) with
          | false => rfl
          | true => exact absurd hd (hs (j + 1) o' x' (by omega) (by simpa using hj) hSj hd')
      have hnil : ∀ (L : Tr) (t1 : Heap), foldH L (fun _ => false) t1 = t1 := by
        intro L
        induction L with
        | nil => intro t1; rfl
        | cons q L ih => intro t1; obtain ⟨o', x'⟩ := q; exact ih t1
      rw [hno, hnil]
      have key : ∀ (u : List (Nat × Blk)) (g g' : Heap), i ∈ u.map (·.1) → hget (hputs g u) i = hget (hputs g' u) i := by
        intro u
        induction u with
        | nil => intro g g' h0; simp at h0
        | cons z u ih =>
          intro g g' h0
          obtain ⟨m, b⟩ := z
          by_cases h1 : i ∈ u.map (·.1)
          · exact ih _ _ h1
          · have hm : i = m := by simpa [h1] using h0
            subst hm
            simp only [hputs]
            apply hget_hputs_congr
            rw [hget_hput_same, hget_hput_same]
      exact key _ _ _ hd
    · rw [ho _ hd]
      refine foldH_congr r _ _ _ _ i ?_ fun _ _ _ _ _ => rfl
      cases S 0 <;> simp [ho _ hd]
  | (p, y) :: r, S, t, k + 1, o, x, i, h, hs => by
    rw [foldH, foldH]
    have hS : (fun j => (fun j => S j || decide (j = k + 1)) (j + 1)) = fun j => (fun j => S (j + 1)) j || decide (j = k) := by funext j; simp
    rw [hS]
    have h0 : (S 0 || decide (0 = k + 1)) = S 0 := by simp
    simp only [h0]
    exact foldH_add r (fun j => S (j + 1)) _ k o x i (by simpa using h) fun j o' x' hj hj' hSj => hs (j + 1) o' x' (by omega) (by simpa using hj') hSj

/-! ### What a heap or a slot bears -/

def updNoRef (n : Nat) (u : List (Nat × Blk)) : Bool := u.all fun x => x.2.c.noRef n

theorem noRef_hput {n m : Nat} {b : Blk} : ∀ {h : Heap}, Heap.noRef n h = true → b.c.noRef n = true → Heap.noRef n (hput h m b) = true
  | [], _, hb => by simp [hput, Heap.noRef, hb]
  | (k, x) :: t, hh, hb => by
    simp only [Heap.noRef, List.all_cons, Bool.and_eq_true] at hh
    simp only [hput]
    split
    · simp only [Heap.noRef, List.all_cons, Bool.and_eq_true]; exact ⟨hb, hh.2⟩
    · simp only [Heap.noRef, List.all_cons, Bool.and_eq_true]; exact ⟨hh.1, noRef_hput hh.2 hb⟩

theorem noRef_hputs {n : Nat} : ∀ {u : List (Nat × Blk)} {h : Heap}, Heap.noRef n h = true → updNoRef n u = true → Heap.noRef n (hputs h u) = true
  | [], _, hh, _ => hh
  | (m, b) :: u, h, hh, hu => by
    simp only [updNoRef, List.all_cons, Bool.and_eq_true] at hu
    rw [hputs]
    exact noRef_hputs (noRef_hput hh hu.1) hu.2

theorem foldH_noRef {n : Nat} : ∀ (L : Tr) (S : Nat → Bool) (h : Heap), Heap.noRef n h = true → (∀ j o x, L[j]? = some (o, x) → S j = true → updNoRef n x.upd = true) → Heap.noRef n (foldH L S h) = true
  | [], _, _, hh, _ => hh
  | (o, x) :: r, S, h, hh, hs => by
    rw [foldH]
    refine foldH_noRef r _ _ ?_ fun j o' x' hj hS => hs (j + 1) o' x' (by simpa using hj) hS
    cases h0 : S 0 with
    | false => exact hh
    | true => exact noRef_hputs hh (hs 0 o x rfl h0)

theorem foldT_noRef {n i : Nat} : ∀ (L : Tr) (S : Nat → Bool) (t : List AV), (tget t i).noRef n = true → (∀ j o x, L[j]? = some (o, x) → S j = true → x.v.noRef n = true) → (tget (foldT L S t) i).noRef n = true
  | [], _, _, hh, _ => hh
  | (o, x) :: r, S, t, hh, hs => by
    rw [foldT]
    refine foldT_noRef r _ _ ?_ fun j o' x' hj hS => hs (j + 1) o' x' (by simpa using hj) hS
    cases h0 : S 0 with
    | false => exact hh
    | true =>
      by_cases hd : o.dst = some i
      · by_cases hlt : i < t.length
        · rw [hd]; show (tget (tset t i x.v) i).noRef n = true
          rw [tget_tset_same hlt]; exact hs 0 o x rfl h0
        · rw [hd]; show (tget (tset t i x.v) i).noRef n = true
          rw [tget_out (by rw [tset_length]; omega)]; rfl
      · rw [tget_tput_other _ _ _ _ hd]; exact hh

/-! ### The look at a region -/

def namesOf (u : List (Nat × Blk)) : List Nat := u.map (·.1)

def disj (a b : List Nat) : Bool := a.all fun n => b.all fun m => !(Nat.beq n m)

theorem disj_spec {a b : List Nat} (h : disj a b = true) {n : Nat} (ha : n ∈ a) (hb : n ∈ b) : False := by
  have := List.all_eq_true.1 (List.all_eq_true.1 h n ha) n hb
  simp [Nat.beq_refl] at this

def okPair (ops : Array Oper) (p q : Oper × OR) : Bool :=
  p.1.apart ops q.1 && disj (namesOf p.2.upd) (q.2.acc ++ namesOf q.2.upd) && disj (namesOf q.2.upd) p.2.acc &&
  p.2.news.all (fun n => q.2.v.noRef n && updNoRef n q.2.upd)

/-- Nothing that stands ahead names what is new. -/
def chkNews : Tr → Tr → Bool
  | _, [] => true
  | done, q :: r => q.2.news.all (fun n => done.all fun p => p.2.v.noRef n && updNoRef n p.2.upd) && chkNews (done ++ [q]) r

theorem chkNews_spec : ∀ {L done : Tr}, chkNews done L = true → ∀ j q, L[j]? = some q → ∀ n ∈ q.2.news, ∀ i p, (done ++ L)[i]? = some p → i < done.length + j → p.2.v.noRef n = true ∧ updNoRef n p.2.upd = true
  | [], _, _, j, q, h => by simp at h
  | q' :: r, done, h, j, q, hj => by
    simp only [chkNews, Bool.and_eq_true] at h
    cases j with
    | zero =>
      simp at hj
      subst hj
      intro n hn i p hi hlt
      rw [List.getElem?_append_left (by omega)] at hi
      have := List.all_eq_true.1 (List.all_eq_true.1 h.1 n hn) p (List.mem_of_getElem? hi)
      simpa using this
    | succ j =>
      intro n hn i p hi hlt
      exact chkNews_spec h.2 j q (by simpa using hj) n hn i p (by simpa using hi) (by simp; omega)

def mask (o : Oper) (acc : List Nat) : Nat :=
  o.after.toList.foldl (fun m e => match Region.binds .any e with | true => (m ||| 2 ^ e.on) ||| acc.getD e.on 0 | false => m) 0

def befs : List Oper → List Nat → List Nat
  | [], acc => acc
  | o :: r, acc => befs r (acc ++ [mask o acc])

def chkOne (ops : Array Oper) (q : Oper × OR) (b : Nat) : Tr → Nat → Bool
  | [], _ => true
  | p :: r, i => (Nat.testBit b i || okPair ops p q) && chkOne ops q b r (i + 1)

def chkAll (ops : Array Oper) : Tr → Tr → List Nat → Bool
  | _, [], _ => true
  | done, q :: r, b :: B => chkOne ops q b done 0 && chkAll ops (done ++ [q]) r B
  | _, _ :: _, [] => false

def edgesBack : List Oper → Nat → Bool
  | [], _ => true
  | o :: r, j => (o.after.toList.all fun e => !(Region.binds .any e) || Nat.blt e.on j) && edgesBack r (j + 1)

theorem chkOne_spec {ops : Array Oper} {q : Oper × OR} {b : Nat} : ∀ {L : Tr} {i : Nat}, chkOne ops q b L i = true → ∀ j p, L[j]? = some p → Nat.testBit b (i + j) = true ∨ okPair ops p q = true
  | [], _, _, j, p, h => by simp at h
  | p' :: r, i, h, j, p, hj => by
    simp only [chkOne, Bool.and_eq_true, Bool.or_eq_true] at h
    cases j with
    | zero => simp at hj; subst hj; exact h.1
    | succ j =>
      have := chkOne_spec h.2 j p (by simpa using hj)
      rwa [show i + 1 + j = i + (j + 1) by omega] at this

theorem chkAll_spec {ops : Array Oper} : ∀ {L done : Tr} {B : List Nat}, chkAll ops done L B = true → ∀ j q, L[j]? = some q → ∃ b, B[j]? = some b ∧
    ∀ i p, (done ++ L)[i]? = some p → i < done.length + j → Nat.testBit b i = true ∨ okPair ops p q = true
  | [], _, _, _, j, q, h => by simp at h
  | q' :: r, done, [], h, _, _, _ => by simp [chkAll] at h
  | q' :: r, done, b :: B, h, j, q, hj => by
    simp only [chkAll, Bool.and_eq_true] at h
    cases j with
    | zero =>
      simp at hj
      subst hj
      refine ⟨b, rfl, fun i p hi hlt => ?_⟩
      rw [List.getElem?_append_left (by omega)] at hi
      have := chkOne_spec h.1 i p hi
      simpa using this
    | succ j =>
      obtain ⟨b', hb', hall⟩ := chkAll_spec h.2 j q (by simpa using hj)
      refine ⟨b', by simpa using hb', fun i p hi hlt => hall i p (by simpa using hi) (by simp; omega)⟩

theorem edgesBack_spec : ∀ {L : List Oper} {k : Nat}, edgesBack L k = true → ∀ j o, L[j]? = some o → ∀ e ∈ o.after, Region.binds .any e = true → e.on < k + j
  | [], _, _, j, o, h => by simp at h
  | o' :: r, k, h, j, o, hj => by
    simp only [edgesBack, Bool.and_eq_true] at h
    cases j with
    | zero =>
      simp at hj
      subst hj
      intro e he hb
      have := List.all_eq_true.1 h.1 e (by simpa using he)
      simp only [hb, Bool.not_true, Bool.false_or, Nat.blt_eq] at this
      exact this
    | succ j =>
      intro e he hb
      have := edgesBack_spec h.2 j o (by simpa using hj) e he hb
      omega

theorem befs_length : ∀ (L : List Oper) (acc : List Nat), (befs L acc).length = acc.length + L.length
  | [], acc => rfl
  | o :: r, acc => by rw [befs, befs_length]; simp; omega

theorem befs_prefix : ∀ (L : List Oper) (acc : List Nat) (i : Nat), i < acc.length → (befs L acc)[i]? = acc[i]?
  | [], _, _, _ => rfl
  | o :: r, acc, i, h => by rw [befs, befs_prefix r _ i (by simp; omega), List.getElem?_append_left h]

theorem befs_get : ∀ (L : List Oper) (acc : List Nat) (j : Nat) (o : Oper), L[j]? = some o → ∃ pre, pre.length = acc.length + j ∧ (∀ i, i < pre.length → (befs L acc)[i]? = pre[i]?) ∧ (befs L acc)[acc.length + j]? = some (mask o pre)
  | [], _, _, _, h => by simp at h
  | o' :: r, acc, 0, o, h => by
    simp at h
    subst h
    refine ⟨acc, rfl, fun i hi => befs_prefix _ _ i hi, ?_⟩
    rw [befs, befs_prefix r _ _ (by simp)]
    simp
  | o' :: r, acc, j + 1, o, h => by
    obtain ⟨pre, h1, h2, h3⟩ := befs_get r (acc ++ [mask o' acc]) j o (by simpa using h)
    refine ⟨pre, by simp at h1; omega, fun i hi => h2 i hi, ?_⟩
    rw [befs]
    simp only [List.length_append, List.length_singleton] at h3
    rwa [show acc.length + (j + 1) = acc.length + 1 + j by omega]

theorem mask_bit {o : Oper} {acc : List Nat} {i : Nat} (h : Nat.testBit (mask o acc) i = true) : ∃ e ∈ o.after, Region.binds .any e = true ∧ (e.on = i ∨ Nat.testBit (acc.getD e.on 0) i = true) := by
  unfold mask at h
  have key : ∀ (l : List Edge) (m : Nat), Nat.testBit (l.foldl (fun m e => match Region.binds .any e with | true => (m ||| 2 ^ e.on) ||| acc.getD e.on 0 | false => m) m) i = true →
      Nat.testBit m i = true ∨ ∃ e ∈ l, Region.binds .any e = true ∧ (e.on = i ∨ Nat.testBit (acc.getD e.on 0) i = true) := by
    intro l
    induction l with
    | nil => intro m h; exact .inl h
    | cons e l ih =>
      intro m h
      rw [List.foldl_cons] at h
      rcases ih _ h with h1 | ⟨e', he', h1⟩
      · cases hb : Region.binds .any e with
        | false => rw [hb] at h1; exact .inl h1
        | true =>
          rw [hb] at h1
          simp only [Nat.testBit_or, Bool.or_eq_true] at h1
          rcases h1 with (h1 | h1) | h1
          · exact .inl h1
          · refine .inr ⟨e, List.mem_cons_self .., hb, .inl ?_⟩
            rw [Nat.testBit_two_pow] at h1
            exact of_decide_eq_true h1
          · exact .inr ⟨e, List.mem_cons_self .., hb, .inr h1⟩
      · exact .inr ⟨e', List.mem_cons_of_mem _ he', h1⟩
  rcases key _ 0 h with h1 | ⟨e, he, h1⟩
  · simp at h1
  · exact ⟨e, by simpa using he, h1⟩

/-- Whoever comes ahead of an operation whose edges are met has run. -/
theorem bef_in {ops : List Oper} (he : edgesBack ops 0 = true) {S : Nat → Bool} (hS : ∀ j o, ops[j]? = some o → S j = true → ∀ e ∈ o.after, Region.binds .any e = true → S e.on = true) :
    ∀ (j : Nat) (o : Oper) (b : Nat), ops[j]? = some o → (befs ops [])[j]? = some b → (∀ e ∈ o.after, Region.binds .any e = true → S e.on = true) → ∀ i, Nat.testBit b i = true → S i = true := by
  intro j
  induction j using Nat.strongRecOn with
  | _ j ih =>
    intro o b ho hb hpre i hi
    obtain ⟨pre, h1, h2, h3⟩ := befs_get ops [] j o ho
    simp only [List.length_nil, Nat.zero_add] at h1 h3
    rw [hb] at h3
    injection h3 with h3
    subst h3
    obtain ⟨e, hmem, hbd, h4⟩ := mask_bit hi
    have hSe := hpre e hmem hbd
    rcases h4 with h4 | h4
    · rw [← h4]; exact hSe
    · have hlt : e.on < j := by have := edgesBack_spec he j o ho e hmem hbd; omega
      have hje : j < ops.length := (List.getElem?_eq_some_iff.1 ho).1
      have hoe : ops[e.on]? = some (ops[e.on]'(by omega)) := List.getElem?_eq_getElem (by omega)
      refine ih e.on hlt _ (pre.getD e.on 0) hoe ?_ (hS e.on _ hoe hSe) i h4
      rw [h2 e.on (by omega)]
      simp [List.getD, List.getElem?_eq_getElem (show e.on < pre.length by omega)]

end Go.Ev
