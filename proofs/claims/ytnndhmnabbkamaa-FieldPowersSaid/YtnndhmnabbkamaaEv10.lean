/-
  An evaluator of loaded Go code over abstract values, part 10: regions, drawn or not, are what the evaluator says.
  Conditions: those that the evaluator lists as it goes; nothing here names a program.
-/
import Derived.Test.YtnndhmnabbkamaaEv9
namespace Go.Ev
open Go

theorem HRel.congr {ψ : PM} {h h' : Heap} {w : World} (e : ∀ n, hget h' n = hget h n) (r : HRel ψ h w) : HRel ψ h' w :=
  ⟨fun n b hb => r.at_ n b (by rw [← e]; exact hb), fun n m b b' hb hb' => r.inj n m b b' (by rw [← e]; exact hb) (by rw [← e]; exact hb')⟩

theorem Fr.congr {ψ0 ψ : PM} {w0 w : World} {h0 h h' : Heap} (e : ∀ n, hget h' n = hget h n) (f : Fr ψ0 w0 h0 ψ w h) : Fr ψ0 w0 h0 ψ w h' :=
  ⟨f.fix, f.keep, fun n x hx => f.owned n x (by rw [← e]; exact hx), f.sz, f.os, f.tape, f.output⟩

section
variable {P : Program} {T : TT} (hT : TOk P T)

def exTrace (P : Program) (T : TT) (ops : Array Oper) : List Oper → St → M Tr
  | [], _ => pure []
  | o :: r, s => do
    let x ← exOper P T ops (tget s.1) s.2 o
    let l ← exTrace P T ops r (tput s.1 o.dst x.v, hputs s.2 x.upd)
    pure ((o, x) :: l)

def applyTr : Tr → St → St
  | [], s => s
  | (o, x) :: r, s => applyTr r (tput s.1 o.dst x.v, hputs s.2 x.upd)

theorem applyTr_fold : ∀ (L : Tr) (s : St), applyTr L s = (foldT L (fun _ => true) s.1, foldH L (fun _ => true) s.2)
  | [], s => rfl
  | (o, x) :: r, s => by rw [applyTr, applyTr_fold r]; rfl

theorem foldT_none : ∀ (L : Tr) (t : List AV), foldT L (fun _ => false) t = t
  | [], _ => rfl
  | (_, _) :: r, t => foldT_none r t
theorem foldH_none : ∀ (L : Tr) (h : Heap), foldH L (fun _ => false) h = h
  | [], _ => rfl
  | (_, _) :: r, h => foldH_none r h

include hT in
theorem trace_ok {ops : Array Oper} : ∀ (l : List Oper) (s : St) (L : Tr), Gives (exTrace P T ops l s) L → L.map (·.1) = l ∧
    ∀ i o x, L[i]? = some (o, x) → OperOk P ops o (tget (foldT L (fun j => decide (j < i)) s.1)) (foldH L (fun j => decide (j < i)) s.2) x := by
  intro l
  induction l with
  | nil => intro s L h; rw [gives_ok h]; exact ⟨rfl, fun i o x h => by simp at h⟩
  | cons o r ih =>
    intro s L h
    obtain ⟨x, h1, h2⟩ := gives_then h
    obtain ⟨l, h3, h4⟩ := gives_then h2
    rw [gives_ok h4]
    obtain ⟨e1, e2⟩ := ih _ _ h3
    refine ⟨by simp [e1], ?_⟩
    intro i o' x' hi
    cases i with
    | zero =>
      simp only [List.getElem?_cons_zero, Option.some.injEq, Prod.mk.injEq] at hi
      obtain ⟨rfl, rfl⟩ := hi
      have hS : (fun j => decide (j < 0)) = fun _ => false := by funext j; simp
      rw [hS, foldT_none, foldH_none]
      exact ok_oper hT h1
    | succ i =>
      have := e2 i o' x' (by simpa using hi)
      rw [foldT, foldH]
      have hS : (fun j => (fun j => decide (j < i + 1)) (j + 1)) = fun j => decide (j < i) := by funext j; simp
      rw [hS]
      simpa using this

structure RegionOk (P : Program) (ops : Array Oper) (L : Tr) (t0 : List AV) (h0 : Heap) : Prop where
  map : L.map (·.1) = ops.toList
  op : ∀ (i : Nat) (o : Oper) (x : OR), L[i]? = some (o, x) → OperOk P ops o (tget (foldT L (fun j => decide (j < i)) t0)) (foldH L (fun j => decide (j < i)) h0) x
  back : edgesBack ops.toList 0 = true
  chk : chkAll ops [] L (befs ops.toList []) = true
  stale : chkNews [] L = true
  news : ∀ (j : Nat) (o : Oper) (x : OR), L[j]? = some (o, x) → ∀ n ∈ x.news, n < FN ∧ Heap.noRef n h0 = true ∧ ∀ i, (tget t0 i).noRef n = true

theorem any_ok {ops : Array Oper} {L : Tr} {t0 : List AV} {h0 : Heap} (R : RegionOk P ops L t0 h0) {Q : Exit → Act → World → Prop} {ψ0 : PM} {w0 : World}
    (hQ : ∀ ψ a w, Rel ψ (tget (foldT L (fun _ => true) t0)) (foldH L (fun _ => true) h0) t0.length a w → Fr ψ0 w0 h0 ψ w (foldH L (fun _ => true) h0) → Q .normal a w) :
    ∀ (fuel : Nat) (listed : Array Bool) (U : List Nat) (ψ : PM) (a : Act) (w : World), listed.size = ops.size → (∀ i, i < ops.size → listed.getD i true = false → i ∈ U) → U.length ≤ fuel →
      (∀ j o, ops.toList[j]? = some o → listed.getD j false = true → ∀ e ∈ o.after, Region.binds .any e = true → listed.getD e.on false = true) →
      Rel ψ (tget (foldT L (fun j => listed.getD j false) t0)) (foldH L (fun j => listed.getD j false) h0) t0.length a w → Fr ψ0 w0 h0 ψ w (foldH L (fun j => listed.getD j false) h0) →
      wpAny P .any ops Q fuel listed a w := by
  have hlen : L.length = ops.size := by have := congrArg List.length R.map; simpa using this
  have hop : ∀ (i : Nat) (o : Oper) (x : OR), L[i]? = some (o, x) → ops[i]? = some o := by
    intro i o x hi
    have : (L.map (·.1))[i]? = some o := by simp [hi]
    rw [R.map] at this
    simpa using this
  have getDD : ∀ (listed : Array Bool) (i : Nat), listed.size = ops.size → i < ops.size → listed.getD i true = listed.getD i false := by
    intro listed i hs hi
    have : i < listed.size := by omega
    simp [Array.getD_eq_getD_getElem?, Array.getElem?_eq_getElem this]
  -- when none is ready, all have run
  have allRun : ∀ (listed : Array Bool), listed.size = ops.size → Region.ready .any ops listed = [] → ∀ j, j < ops.size → listed.getD j false = true := by
    intro listed hs hr j
    induction j using Nat.strongRecOn with
    | _ j ih =>
      intro hj
      cases hl : listed.getD j false with
      | true => rfl
      | false =>
        exfalso
        have hmem : j ∈ Region.ready .any ops listed := by
          unfold Region.ready
          refine List.mem_filter.2 ⟨List.mem_range.2 hj, ?_⟩
          rw [getDD listed j hs hj, hl]
          simp only [Bool.not_false, Bool.true_and]
          rw [Array.getElem?_eq_getElem hj]
          simp only [Option.map_some, Option.getD_some]
          refine Array.all_eq_true_iff_forall_mem.2 fun e he => ?_
          cases hb : Region.binds .any e with
          | false => rfl
          | true =>
            have hlt := edgesBack_spec R.back j (ops[j]) (by simp [hj]) e he hb
            simp only [Bool.not_true, Bool.false_or]
            exact ih e.on (by omega) (by omega)
        rw [hr] at hmem
        cases hmem
  have final : ∀ (listed : Array Bool) (ψ : PM) (a : Act) (w : World), listed.size = ops.size → Region.ready .any ops listed = [] →
      Rel ψ (tget (foldT L (fun j => listed.getD j false) t0)) (foldH L (fun j => listed.getD j false) h0) t0.length a w → Fr ψ0 w0 h0 ψ w (foldH L (fun j => listed.getD j false) h0) → Q .normal a w := by
    intro listed ψ a w hs hr rel fr
    have hall := allRun listed hs hr
    have hlt : ∀ (j : Nat) (o : Oper) (x : OR), L[j]? = some (o, x) → listed.getD j false = true := fun j o x hj => hall j (by rw [← hlen]; exact (List.getElem?_eq_some_iff.1 hj).1)
    have eT : tget (foldT L (fun j => listed.getD j false) t0) = tget (foldT L (fun _ => true) t0) := by
      funext i
      exact foldT_congr L _ _ t0 t0 i rfl rfl fun j o x hj _ => hlt j o x hj
    have eH : ∀ n, hget (foldH L (fun _ => true) h0) n = hget (foldH L (fun j => listed.getD j false) h0) n := by
      intro n
      exact foldH_congr L _ _ h0 h0 n rfl fun j o x hj _ => (hlt j o x hj).symm
    refine hQ ψ a w ⟨rel.sz, ?_, rel.hp.congr eH, rel.nd⟩ (fr.congr eH)
    rw [← eT]
    exact rel.tm
  intro fuel
  induction fuel with
  | zero =>
    intro listed U ψ a w hs hU hlU hdown rel fr
    have hr : Region.ready .any ops listed = [] := by
      have hUn : U = [] := List.length_eq_zero_iff.1 (by omega)
      apply List.eq_nil_iff_forall_not_mem.2
      intro i hi
      unfold Region.ready at hi
      obtain ⟨h1, h2⟩ := List.mem_filter.1 hi
      simp only [Bool.and_eq_true, Bool.not_eq_true'] at h2
      have := hU i (List.mem_range.1 h1) h2.1
      rw [hUn] at this
      cases this
    exact ⟨hr, final listed ψ a w hs hr rel fr⟩
  | succ fuel ih =>
    intro listed U ψ a w hs hU hlU hdown rel fr
    refine ⟨fun hr => final listed ψ a w hs hr rel fr, ?_⟩
    intro i hi
    unfold Region.ready at hi
    obtain ⟨h1, h2⟩ := List.mem_filter.1 hi
    have hi' := List.mem_range.1 h1
    simp only [Bool.and_eq_true, Bool.not_eq_true'] at h2
    obtain ⟨hnot, hedge⟩ := h2
    have hnotF : listed.getD i false = false := by rw [← getDD listed i hs hi']; exact hnot
    rw [Array.getElem?_eq_getElem hi'] at hedge
    simp only [Option.map_some, Option.getD_some] at hedge
    obtain ⟨⟨o, x⟩, hLi⟩ : ∃ p, L[i]? = some p := ⟨_, List.getElem?_eq_getElem (by omega)⟩
    have ho : ops[i]? = some o := hop i o x hLi
    have hoi : ops[i] = o := by rw [Array.getElem?_eq_getElem hi'] at ho; injection ho
    rw [hoi] at hedge
    have hpre : ∀ e ∈ o.after, Region.binds .any e = true → listed.getD e.on false = true := by
      intro e he hb
      have := Array.all_eq_true_iff_forall_mem.1 hedge e he
      simpa [hb] using this
    have hoL : ops.toList[i]? = some o := by simpa using ho
    -- whoever meets this operation has run just if it stands ahead
    have pairs : ∀ (j : Nat) (p : Oper × OR), L[j]? = some p → (j < i → okPair ops p (o, x) = true ∨ listed.getD j false = true) ∧ (i < j → okPair ops (o, x) p = true ∨ listed.getD j false = false) := by
      intro j p hj
      refine ⟨fun hlt => ?_, fun hlt => ?_⟩
      · obtain ⟨b, hb, hall⟩ := chkAll_spec R.chk i (o, x) hLi
        rcases hall j p (by simpa using hj) (by simpa using hlt) with h3 | h3
        · exact .inr (bef_in R.back (S := fun j => listed.getD j false) hdown i o b hoL hb hpre j h3)
        · exact .inl h3
      · obtain ⟨b, hb, hall⟩ := chkAll_spec R.chk j p hj
        rcases hall i (o, x) (by simpa using hLi) (by simpa using hlt) with h3 | h3
        · right
          cases hl : listed.getD j false with
          | false => rfl
          | true =>
            have hpj : ops.toList[j]? = some p.1 := by have := hop j p.1 p.2 hj; simpa using this
            have := bef_in R.back (S := fun j => listed.getD j false) hdown j p.1 b hpj hb (hdown j p.1 hpj hl) i h3
            rw [hnotF] at this
            cases this
        · exact .inl h3
    have okp : ∀ (p q : Oper × OR), okPair ops p q = true → p.1.apart ops q.1 = true ∧ disj (namesOf p.2.upd) (q.2.acc ++ namesOf q.2.upd) = true ∧ disj (namesOf q.2.upd) p.2.acc = true ∧
        (∀ n ∈ p.2.news, q.2.v.noRef n = true ∧ updNoRef n q.2.upd = true) := by
      intro p q h
      simp only [okPair, Bool.and_eq_true] at h
      obtain ⟨⟨⟨g1, g2⟩, g3⟩, g4⟩ := h
      refine ⟨g1, g2, g3, fun n hn => ?_⟩
      have := List.all_eq_true.1 g4 n hn
      simpa using this
    -- what it looks at is what it looked at in the text's order
    have lookT : ∀ t ∈ o.looksAt ops, tget (foldT L (fun j => listed.getD j false) t0) t = tget (foldT L (fun j => decide (j < i)) t0) t := by
      intro t ht
      refine foldT_congr L _ _ t0 t0 t rfl rfl fun j o' x' hj hd => ?_
      have hp := pairs j (o', x') hj
      rcases Nat.lt_trichotomy j i with hlt | rfl | hlt
      · rcases hp.1 hlt with h3 | h3
        · exact absurd ht ((Oper.apart_spec (okp _ _ h3).1).1 t hd)
        · rw [h3]; simp [hlt]
      · rw [hnotF]; simp
      · rcases hp.2 hlt with h3 | h3
        · exact absurd ht ((Oper.apart_spec (okp _ _ h3).1).2.2 t hd)
        · rw [h3]; simp; omega
    have lookH : ∀ n ∈ x.acc, hget (foldH L (fun j => listed.getD j false) h0) n = hget (foldH L (fun j => decide (j < i)) h0) n := by
      intro n hn
      refine foldH_congr L _ _ h0 h0 n rfl fun j o' x' hj hd => ?_
      have hp := pairs j (o', x') hj
      rcases Nat.lt_trichotomy j i with hlt | rfl | hlt
      · rcases hp.1 hlt with h3 | h3
        · exact (disj_spec (okp _ _ h3).2.1 hd (List.mem_append_left _ hn)).elim
        · rw [h3]; simp [hlt]
      · rw [hnotF]; simp
      · rcases hp.2 hlt with h3 | h3
        · exact (disj_spec (okp _ _ h3).2.2.1 hd hn).elim
        · rw [h3]; simp; omega
    have hnews := R.news i o x hLi
    -- nothing that has run, or stood there, names what is new
    have stale : ∀ n ∈ x.news, ∀ (j : Nat) (o' : Oper) (x' : OR), L[j]? = some (o', x') → listed.getD j false = true → x'.v.noRef n = true ∧ updNoRef n x'.upd = true := by
      intro n hn j o' x' hj hl
      have hp := pairs j (o', x') hj
      rcases Nat.lt_trichotomy j i with hlt | rfl | hlt
      · exact chkNews_spec R.stale i (o, x) hLi n hn j (o', x') (by simpa using hj) (by simpa using hlt)
      · rw [hnotF] at hl; cases hl
      · rcases hp.2 hlt with h3 | h3
        · exact (okp _ _ h3).2.2.2 n hn
        · rw [h3] at hl; cases hl
    have hS' : (fun j => (listed.setIfInBounds i true).getD j false) = fun j => (fun j => listed.getD j false) j || decide (j = i) := by
      funext j
      by_cases hj : j = i
      · subst hj
        have : j < listed.size := by omega
        simp [Array.getD_eq_getD_getElem?, this]
      · simp [Array.getD_eq_getD_getElem?, Array.getElem?_setIfInBounds_ne (Ne.symm hj), hj]
    have hset : ∀ j, listed.getD j false = true → (listed.setIfInBounds i true).getD j false = true := by
      intro j hj
      have := congrFun hS' j
      simp only at this
      rw [this, hj]
      rfl
    have addT : ∀ k, tget (foldT L (fun j => (listed.setIfInBounds i true).getD j false) t0) k = tget (tput (foldT L (fun j => listed.getD j false) t0) o.dst x.v) k := by
      intro k
      rw [hS']
      refine foldT_add L _ t0 i o x k hLi fun j o' x' hlt hj hl => ?_
      rcases (pairs j (o', x') hj).2 hlt with h3 | h3
      · cases hd : o.dst with
        | none => right; simp
        | some d => left; exact (Oper.apart_spec (okp _ _ h3).1).2.1 d hd
      · rw [h3] at hl; cases hl
    have addH : ∀ n, hget (foldH L (fun j => (listed.setIfInBounds i true).getD j false) h0) n = hget (hputs (foldH L (fun j => listed.getD j false) h0) x.upd) n := by
      intro n
      rw [hS']
      refine foldH_add L _ h0 i o x n hLi fun j o' x' hlt hj hl h4 h5 => ?_
      rcases (pairs j (o', x') hj).2 hlt with h3 | h3
      · exact disj_spec (okp _ _ h3).2.1 h5 (List.mem_append_right _ h4)
      · rw [h3] at hl; cases hl
    have noT : ∀ n ∈ x.news, ∀ k, (tget (foldT L (fun j => listed.getD j false) t0) k).noRef n = true := fun n hn k =>
      foldT_noRef L _ t0 ((hnews n hn).2.2 k) fun j o' x' hj hl => (stale n hn j o' x' hj hl).1
    have noH : ∀ n ∈ x.news, Heap.noRef n (foldH L (fun j => listed.getD j false) h0) = true := fun n hn =>
      foldH_noRef L _ h0 (hnews n hn).2.1 fun j o' x' hj hl => (stale n hn j o' x' hj hl).2
    have main := R.op i o x hLi (foldH L (fun j => listed.getD j false) h0) lookH ψ a w (fun t ht => by rw [← lookT t ht]; exact rel.tm t) rel.hp noH
      (wpAny P .any ops Q fuel (listed.setIfInBounds i true)) Q (by
        rintro v w1 ⟨ψ1, hv, hh, hp⟩
        refine ih (listed.setIfInBounds i true) (U.erase i) ψ1 (a.put o.dst v) w1 (by simpa using hs) ?_ ?_ ?_ ?_ ?_
        · intro j hj hl
          have hji : j ≠ i := by
            intro e
            subst e
            have : j < listed.size := by omega
            simp [Array.getD_eq_getD_getElem?, this] at hl
          refine (List.mem_erase_of_ne hji).2 (hU j hj ?_)
          simpa [Array.getD_eq_getD_getElem?, Array.getElem?_setIfInBounds_ne (Ne.symm hji)] using hl
        · have := List.length_erase_of_mem (hU i hi' hnot)
          have hpos : 0 < U.length := List.length_pos_of_mem (hU i hi' hnot)
          omega
        · intro j o' hj hl e he hb
          have := congrFun hS' j
          simp only at this
          rw [this] at hl
          simp only [Bool.or_eq_true, decide_eq_true_eq] at hl
          rcases hl with hl | rfl
          · exact hset _ (hdown j o' hj hl e he hb)
          · rw [hoL] at hj
            injection hj with hj
            subst hj
            exact hset _ (hpre e he hb)
        · refine rel.put (t' := tget (foldT L (fun j => (listed.setIfInBounds i true).getD j false) t0)) hv (hh.congr addH) hp.same ?_ ?_ ?_ ?_
          · intro n hn k hk
            rw [addT, tget_tput_other _ _ _ _ hk]
            exact noT n hn k
          · intro k hk hlt
            rw [addT, hk]
            exact tget_tset_same (by rw [foldT_length]; exact hlt) _
          · intro k hk
            exact tget_out (by rw [foldT_length]; exact hk)
          · intro k hk
            right
            rw [addT, tget_tput_other _ _ _ _ hk]
        · exact (fr.trans (hp.fr fun n hn => (hnews n hn).1)).congr addH)
    unfold wpOp
    rw [ho]
    simp only
    split
    · rename_i hw; rw [if_pos hw] at main; exact .inl main
    · rename_i hw; rw [if_neg hw] at main; exact main

def exRegion (P : Program) (T : TT) (ops : Array Oper) (draw : Bool) (s : St) : M St :=
  match draw with
  | false => exOps P T ops ops.toList s
  | true => do
    let t0 := forgets (ops.toList.filterMap fun o => match o.dst with | some d => (match hget s.2 d with | some _ => some d | none => none) | none => none) s.1
    let L ← exTrace P T ops ops.toList (t0, s.2)
    need (L.all fun p => p.2.news.all fun n => Nat.blt n FN && Heap.noRef n s.2 && t0.all (AV.noRef n))
    need (edgesBack ops.toList 0)
    need (chkAll ops [] L (befs ops.toList []))
    need (chkNews [] L)
    pure (applyTr L (t0, s.2))

theorem Rel.forget {ψ : PM} {t : List AV} {h : Heap} {a : Act} {w : World} (ns : List Nat) (r : Rel ψ (tget t) h t.length a w) : Rel ψ (tget (forgets ns t)) h (forgets ns t).length a w := by
  rw [forgets_length]
  refine ⟨r.sz, fun i => ?_, r.hp, r.nd⟩
  rcases (forgets_get ns t i).1 with e | e
  · exact .inl e
  · rw [e]; exact r.tm i

theorem tget_all {t : List AV} {n : Nat} (h : t.all (AV.noRef n) = true) (i : Nat) : (tget t i).noRef n = true := by
  induction t generalizing i with
  | nil => rfl
  | cons x t ih =>
    simp only [List.all_cons, Bool.and_eq_true] at h
    cases i with
    | zero => exact h.1
    | succ i => exact ih h.2 i

include hT in
theorem ok_region (hm : P.follows .mixedOrders = true) {id : Nat} {ops : Array Oper} {draw : Bool} {s s' : St} (hg : Gives (exRegion P T ops draw s) s') {Q : Exit → Act → World → Prop} {ψ : PM} {a : Act} {w : World}
    (hr : Rel ψ (tget s.1) s.2 s.1.length a w) (hk : ∀ ψ' a' w', Rel ψ' (tget s'.1) s'.2 s'.1.length a' w' → Fr ψ w s.2 ψ' w' s'.2 → Q .normal a' w') : (Code.region id ops draw).wp P Q a w := by
  cases draw with
  | false =>
    refine wp_region ?_
    have := ok_ops hT (Q := Q) ops.toList 0 s s' (fun i o h => by simpa using h) hg ψ a w hr hk
    rwa [← List.range_eq_range', show ops.toList.length = ops.size by simp] at this
  | true =>
    generalize hN : (ops.toList.filterMap fun o => match o.dst with | some d => (match hget s.2 d with | some _ => some d | none => none) | none => none) = N at *
    have hg' : Gives (do
      let L ← exTrace P T ops ops.toList (forgets N s.1, s.2)
      need (L.all fun p => p.2.news.all fun n => Nat.blt n FN && Heap.noRef n s.2 && (forgets N s.1).all (AV.noRef n))
      need (edgesBack ops.toList 0)
      need (chkAll ops [] L (befs ops.toList []))
      need (chkNews [] L)
      pure (applyTr L (forgets N s.1, s.2)) : M St) s' := by
      have := hg
      unfold exRegion at this
      simp only [hN] at this
      exact this
    obtain ⟨L, h1, h2⟩ := gives_then hg'
    obtain ⟨_, h3, h4⟩ := gives_then h2
    obtain ⟨_, h5, h6⟩ := gives_then h4
    obtain ⟨_, h7, h8⟩ := gives_then h6
    obtain ⟨_, h9, h10⟩ := gives_then h8
    obtain ⟨e1, e2⟩ := trace_ok hT _ _ _ h1
    have R : RegionOk P ops L (forgets N s.1) s.2 := by
      refine ⟨e1, e2, gives_need h5, gives_need h7, gives_need h9, ?_⟩
      intro j o x hj n hn
      have := List.all_eq_true.1 (List.all_eq_true.1 (gives_need h3) (o, x) (List.mem_of_getElem? hj)) n hn
      simp only [Bool.and_eq_true, Nat.blt_eq] at this
      exact ⟨this.1.1, this.1.2, fun i => tget_all this.2 i⟩
    rw [gives_ok h10, applyTr_fold] at hk
    simp only [foldT_length] at hk
    refine wp_region_any hm ?_
    have hr0 := hr.forget N
    refine any_ok R (Q := Q) (ψ0 := ψ) (w0 := w) hk ops.size (Array.replicate ops.size false) (List.range ops.size) ψ a { w with drawn := w.drawn + 1 } (by simp) (fun i hi _ => List.mem_range.2 hi) (by simp) ?_ ?_ ?_
    · intro j o _ hl
      by_cases hj : j < ops.size <;> simp [Array.getD_eq_getD_getElem?, hj] at hl
    · have hS : (fun j => (Array.replicate ops.size false).getD j false) = fun _ => false := by
        funext j
        by_cases hj : j < ops.size <;> simp [Array.getD_eq_getD_getElem?, hj]
      rw [hS, foldT_none, foldH_none]
      exact ⟨hr0.sz, hr0.tm, ⟨fun n b hb => hr0.hp.at_ n b hb, hr0.hp.inj⟩, hr0.nd⟩
    · have hS : (fun j => (Array.replicate ops.size false).getD j false) = fun _ => false := by
        funext j
        by_cases hj : j < ops.size <;> simp [Array.getD_eq_getD_getElem?, hj]
      rw [hS, foldH_none]
      exact ⟨fun _ _ => rfl, fun _ _ _ => rfl, fun n x hx hxo _ => ⟨n, x, hx, hxo, rfl⟩, Nat.le_refl _, rfl, rfl, rfl⟩

end
end Go.Ev
