/-
  A function's contract at a call: its names turned into the caller's.
  Conditions: none; nothing here names a program.
-/
import Derived.Test.YtnndhmnabbkamaaEv14
namespace Go.Ev
open Go

def A0.ren (g : Nat → Nat) : A0 → A0
  | .ptr k n off => .ptr k (g n) off
  | .sl k n off len cap => .sl k (g n) off len cap
  | .sla n l s len => .sla (g n) l s len
  | .fn f caps => .fn f (caps.map g)
  | .bool b => .bool b
  | .blit b => .blit b
  | .int k n => .int k n
  | .lit k n => .lit k n
  | .str s => .str s
  | .nilp => .nilp
  | .nilsl => .nilsl
  | .val v => .val v
def Cells.ren (g : Nat → Nat) : Cells → Cells
  | .vals l => .vals (l.map (A0.ren g))
  | .ints k l => .ints k l
def AT.ren (g : Nat → Nat) : AT → AT
  | .one x => .one (x.ren g)
  | .agg c => .agg (c.ren g)
def AV.ren (g : Nat → Nat) : AV → AV
  | .undef => .undef
  | .t x => .t (x.ren g)
  | .tup l => .tup (l.map (AT.ren g))
def Blk.ren (g : Nat → Nat) (b : Blk) : Blk := { kind := b.kind, e := b.e, c := b.c.ren g, room := b.room }
def Heap.ren (g : Nat → Nat) : Heap → Heap
  | [] => []
  | (n, b) :: t => (g n, b.ren g) :: Heap.ren g t

def A0.sat (p : Nat → Bool) : A0 → Bool
  | .ptr _ n _ | .sl _ n _ _ _ | .sla n _ _ _ => p n
  | .fn _ caps => caps.all p
  | _ => true
def Cells.sat (p : Nat → Bool) : Cells → Bool
  | .vals l => l.all (A0.sat p)
  | .ints _ _ => true
def AT.sat (p : Nat → Bool) : AT → Bool
  | .one x => x.sat p
  | .agg c => c.sat p
def AV.sat (p : Nat → Bool) : AV → Bool
  | .undef => true
  | .t x => x.sat p
  | .tup l => l.all (AT.sat p)

theorem A0.ren_c {g : Nat → Nat} {p : Nat → Bool} {φ ψ : PM} (hp : ∀ n, p n = true → ψ (g n) = φ n) {x : A0} (h : x.sat p = true) : (x.ren g).c ψ = x.c φ := by
  cases x with
  | ptr k n o => simp only [A0.sat] at h; simp only [A0.ren, A0.c, adr, hp n h]
  | sl k n o l c => simp only [A0.sat] at h; simp only [A0.ren, A0.c, adr, hp n h]
  | sla n l s e => simp only [A0.sat] at h; simp only [A0.ren, A0.c, adr, hp n h]
  | fn f caps =>
    simp only [A0.sat, List.all_eq_true] at h
    simp only [A0.ren, A0.c, List.map_map]
    congr 2
    refine List.map_congr_left fun m hm => ?_
    simp only [Function.comp, adr, hp m (h m hm)]
  | _ => rfl
theorem Cells.ren_c {g : Nat → Nat} {p : Nat → Bool} {φ ψ : PM} (hp : ∀ n, p n = true → ψ (g n) = φ n) {x : Cells} (h : x.sat p = true) : (x.ren g).c ψ = x.c φ := by
  cases x with
  | vals l =>
    simp only [Cells.sat, List.all_eq_true] at h
    simp only [Cells.ren, Cells.c, Cells.list, List.map_map]
    exact List.map_congr_left fun a ha => A0.ren_c hp (h a ha)
  | ints k l => simp [Cells.ren, Cells.c, Cells.list, A0.c, Function.comp_def]
theorem AT.ren_c {g : Nat → Nat} {p : Nat → Bool} {φ ψ : PM} (hp : ∀ n, p n = true → ψ (g n) = φ n) {x : AT} (h : x.sat p = true) : (x.ren g).c ψ = x.c φ := by
  cases x with
  | one x => exact A0.ren_c hp h
  | agg c => simp only [AT.ren, AT.c, Cells.ren_c hp (show c.sat p = true from h)]
theorem AV.ren_c {g : Nat → Nat} {p : Nat → Bool} {φ ψ : PM} (hp : ∀ n, p n = true → ψ (g n) = φ n) {x : AV} (h : x.sat p = true) : (x.ren g).c ψ = x.c φ := by
  cases x with
  | undef => rfl
  | t x => exact AT.ren_c hp h
  | tup l =>
    simp only [AV.sat, List.all_eq_true] at h
    simp only [AV.ren, AV.c, List.map_map]
    congr 2
    exact List.map_congr_left fun a ha => AT.ren_c hp (h a ha)

theorem A0.sat_top {p : Nat → Bool} (hp : ∀ n, p n = true) (x : A0) : x.sat p = true := by cases x <;> simp [A0.sat, hp]
theorem Cells.sat_top {p : Nat → Bool} (hp : ∀ n, p n = true) (x : Cells) : x.sat p = true := by cases x <;> simp [Cells.sat, A0.sat_top hp]
theorem AT.sat_top {p : Nat → Bool} (hp : ∀ n, p n = true) (x : AT) : x.sat p = true := by cases x <;> simp [AT.sat, A0.sat_top hp, Cells.sat_top hp]
theorem AT.ren_c' {g : Nat → Nat} {ψ : PM} (x : AT) : (x.ren g).c ψ = x.c fun n => ψ (g n) := AT.ren_c (p := fun _ => true) (fun _ _ => rfl) (AT.sat_top (fun _ => rfl) x)
theorem Cells.ren_c' {g : Nat → Nat} {ψ : PM} (x : Cells) : (x.ren g).c ψ = x.c fun n => ψ (g n) := Cells.ren_c (p := fun _ => true) (fun _ _ => rfl) (Cells.sat_top (fun _ => rfl) x)

/-- No name stands twice once turned. -/
def Heap.nodup (g : Nat → Nat) : Heap → Bool
  | [] => true
  | (n, _) :: t => (t.all fun x => !(Nat.beq (g x.1) (g n))) && Heap.nodup g t

theorem hget_mem' {h : Heap} {n : Nat} {b : Blk} (e : hget h n = some b) : (n, b) ∈ h := hget_mem e

theorem hget_ren {g : Nat → Nat} : ∀ {h : Heap}, h.nodup g = true → ∀ {n b}, hget h n = some b → hget (h.ren g) (g n) = some (b.ren g)
  | [], _, n, b, e => by cases e
  | (m, y) :: t, hn, n, b, e => by
    simp only [Heap.nodup, Bool.and_eq_true, List.all_eq_true] at hn
    simp only [hget] at e
    simp only [Heap.ren, hget]
    cases hm : Nat.beq m n with
    | true =>
      rw [hm] at e
      have := Nat.eq_of_beq_eq_true hm
      subst this
      simp only [Nat.beq_refl]
      cases e; rfl
    | false =>
      rw [hm] at e
      have h1 := hn.1 (n, b) (hget_mem e)
      have h2 : Nat.beq (g m) (g n) = false := by
        cases e2 : Nat.beq (g m) (g n) with
        | false => rfl
        | true => exact absurd (Nat.eq_of_beq_eq_true e2).symm (beq_ne h1)
      rw [h2]
      exact hget_ren hn.2 e

theorem hget_of_ren {g : Nat → Nat} : ∀ {h : Heap}, h.nodup g = true → ∀ {m B}, hget (h.ren g) m = some B → ∃ n b, g n = m ∧ hget h n = some b ∧ b.ren g = B
  | [], _, m, B, e => by cases e
  | (n, b) :: t, hn, m, B, e => by
    have hn' := hn
    simp only [Heap.nodup, Bool.and_eq_true, List.all_eq_true] at hn
    simp only [Heap.ren, hget] at e
    cases hm : Nat.beq (g n) m with
    | true =>
      rw [hm] at e
      exact ⟨n, b, Nat.eq_of_beq_eq_true hm, by simp [hget, Nat.beq_refl], by cases e; rfl⟩
    | false =>
      rw [hm] at e
      obtain ⟨n', b', e1, e2, e3⟩ := hget_of_ren hn.2 e
      refine ⟨n', b', e1, ?_, e3⟩
      have h1 := hn.1 (n', b') (hget_mem e2)
      have : Nat.beq n n' = false := by
        cases e4 : Nat.beq n n' with
        | false => rfl
        | true => exact absurd (congrArg g (Nat.eq_of_beq_eq_true e4)).symm (beq_ne h1)
      simp only [hget, this]
      exact e2

theorem Blk.ren_own (g : Nat → Nat) (b : Blk) : (b.ren g).own = b.own := rfl
theorem Blk.ren_dead (g : Nat → Nat) (b : Blk) : (b.ren g).dead = b.dead := rfl

theorem blkAt_ren {g : Nat → Nat} {φ ψ : PM} {w : World} {n : Nat} {b : Blk} (e : ψ (g n) = φ n) (hc : (b.c.ren g).c ψ = b.c.c φ) : BlkAt ψ w (g n) (b.ren g) ↔ BlkAt φ w n b := by
  unfold BlkAt
  simp only [Blk.ren, e, hc]

/-- The caller's name of a callee's name. -/
def tur (l : List (Nat × Nat)) (n : Nat) : Nat :=
  match l with
  | [] => n
  | (a, b) :: t => match Nat.beq a n with | true => b | false => tur t n

def isIn (l : List Nat) (n : Nat) : Bool := l.any fun m => Nat.beq m n

theorem isIn_iff {l : List Nat} {n : Nat} : isIn l n = true ↔ n ∈ l := by
  simp only [isIn, List.any_eq_true]
  constructor
  · rintro ⟨m, h1, h2⟩; rw [← Nat.eq_of_beq_eq_true h2]; exact h1
  · intro h; exact ⟨n, h, Nat.beq_refl n⟩

/-- Every name of the callee's is one that the caller knows. -/
def knows (old new : List (Nat × Nat)) (n : Nat) : Bool :=
  match Nat.ble FN n with
  | true => !(isIn (new.map (·.2)) (tur old n)) && Nat.beq (tur (new ++ old) n) (tur old n)
  | false => isIn (new.map (·.2)) (tur (new ++ old) n) && Nat.beq (tur (new.map fun x => (x.2, x.1)) (tur (new ++ old) n)) n

def callFits (old new : List (Nat × Nat)) (hh h' : Heap) (r : AV) (upd : List (Nat × Blk)) : Bool :=
  hh.nodup (tur old) && h'.nodup (tur (new ++ old)) && r.sat (knows old new) && h'.all (fun x => knows old new x.1 && x.2.c.sat (knows old new)) &&
  hh.all (fun x => !x.2.own || upd.any fun y => Nat.beq y.1 (tur old x.1)) &&
  (new.all fun x => match hget h' (tur (new.map fun x => (x.2, x.1)) x.2) with | some b => b.own | none => false) &&
  upd.all (fun y => isIn (new.map (·.2)) y.1 || hh.any fun x => Nat.beq (tur old x.1) y.1 && x.2.own)

variable {P : Program}

/-- A function's contract at a call. 'old': the callee's names of what it is handed, and the caller's; 'new': of what it hands back. -/
theorem FnOk.into {f : FuncId} {fn : Func} (hf : Named P f fn) {args : List AT} {hh h' : Heap} {r : AV} (H : FnOk P f args hh r h') (old new : List (Nat × Nat)) (upd : List (Nat × Blk))
    (he : hputs (hh.ren (tur old)) upd = h'.ren (tur (new ++ old))) (hc : callFits old new hh h' r upd = true) :
    CallOk P f (args.map (AT.ren (tur old))) (hh.ren (tur old)) (r.ren (tur (new ++ old))) upd (new.map (·.2)) := by
  simp only [callFits, Bool.and_eq_true] at hc
  obtain ⟨⟨⟨⟨⟨⟨c1, c2⟩, c3⟩, c4⟩, c5⟩, c6⟩, c7⟩ := hc
  rw [List.all_eq_true] at c4 c5 c6 c7
  intro ψ w hr _
  unfold CallDoes
  rw [hf.enter]
  have hφ : HRel (fun n => ψ (tur old n)) hh w := by
    constructor
    · intro n b hb
      exact (blkAt_ren rfl (Cells.ren_c' b.c)).1 (hr.at_ _ _ (hget_ren c1 hb))
    · intro n m b b' hb hb' ho hd e
      have := hr.inj _ _ _ _ (hget_ren c1 hb) (hget_ren c1 hb') ho hd e
      have hn := hget_ren c1 hb
      obtain ⟨n', b1, e1, e2, e3⟩ := hget_of_ren c1 hn
      -- names that turn into one name are one
      have key : ∀ {h : Heap}, h.nodup (tur old) = true → ∀ {n m b b'}, hget h n = some b → hget h m = some b' → tur old n = tur old m → n = m := by
        intro h
        induction h with
        | nil => intro _ n m b b' hb; cases hb
        | cons x t ih =>
          obtain ⟨k, y⟩ := x
          intro hn n m b b' hb hb' e
          simp only [Heap.nodup, Bool.and_eq_true, List.all_eq_true] at hn
          simp only [hget] at hb hb'
          cases h1 : Nat.beq k n with
          | true =>
            have := Nat.eq_of_beq_eq_true h1
            subst this
            cases h2 : Nat.beq k m with
            | true => exact Nat.eq_of_beq_eq_true h2
            | false =>
              rw [h2] at hb'
              exact absurd e.symm (beq_ne (hn.1 _ (hget_mem hb')))
          | false =>
            rw [h1] at hb
            cases h2 : Nat.beq k m with
            | true =>
              have := Nat.eq_of_beq_eq_true h2
              subst this
              exact absurd e (beq_ne (hn.1 _ (hget_mem hb)))
            | false =>
              rw [h2] at hb'
              exact ih hn.2 hb hb' e
      exact key c1 hb hb' this
  have hargs : (args.map (AT.ren (tur old))).map (AT.c ψ) = args.map (AT.c fun n => ψ (tur old n)) := by
    rw [List.map_map]
    exact List.map_congr_left fun a _ => AT.ren_c' a
  rw [hargs]
  refine Calls.mono (H (fun n => ψ (tur old n)) w hφ) ?_
  rintro e w' ⟨ψ', rfl, hr', hfr⟩
  refine ⟨_, rfl, ?_⟩
  let back := tur (new.map fun x => (x.2, x.1))
  let ψ2 : PM := fun n => if isIn (new.map (·.2)) n then ψ' (back n) else ψ n
  have hk : ∀ n, knows old new n = true → ψ2 (tur (new ++ old) n) = ψ' n := by
    intro n hn
    unfold knows at hn
    cases hb : Nat.ble FN n with
    | true =>
      rw [hb] at hn
      simp only [Bool.and_eq_true, Bool.not_eq_true'] at hn
      rw [Nat.eq_of_beq_eq_true hn.2]
      show (if _ then _ else _) = _
      rw [hn.1]
      exact (hfr.fix n (Nat.le_of_ble_eq_true hb)).symm
    | false =>
      rw [hb] at hn
      simp only [Bool.and_eq_true] at hn
      show (if _ then _ else _) = _
      rw [hn.1, if_pos rfl]
      exact congrArg ψ' (Nat.eq_of_beq_eq_true hn.2)
  have hown : ∀ n ∈ new.map (·.2), ∃ b, hget h' (back n) = some b ∧ b.own = true := by
    intro n hn
    obtain ⟨x, hx, rfl⟩ := List.mem_map.1 hn
    have := c6 x hx
    change (match hget h' (back x.2) with | some b => b.own | none => false) = true at this
    cases hb : hget h' (back x.2) with
    | none => rw [hb] at this; cases this
    | some b => rw [hb] at this; exact ⟨b, rfl, this⟩
  refine ⟨ψ2, .inr (AV.ren_c hk c3).symm, ?_, ?_⟩
  · change HRel ψ2 (hputs (hh.ren (tur old)) upd) w'
    rw [he]
    have hat : ∀ {n b}, hget h' n = some b → ψ2 (tur (new ++ old) n) = ψ' n ∧ (b.c.ren (tur (new ++ old))).c ψ2 = b.c.c ψ' := by
      intro n b hb
      have := c4 _ (hget_mem hb)
      simp only [Bool.and_eq_true] at this
      exact ⟨hk n this.1, Cells.ren_c hk this.2⟩
    constructor
    · intro m B hB
      obtain ⟨n, b, rfl, hb, rfl⟩ := hget_of_ren c2 hB
      exact (blkAt_ren (hat hb).1 (hat hb).2).2 (hr'.at_ _ _ hb)
    · intro m1 m2 B1 B2 hB1 hB2 ho hd e
      obtain ⟨n1, b1, rfl, hb1, rfl⟩ := hget_of_ren c2 hB1
      obtain ⟨n2, b2, rfl, hb2, rfl⟩ := hget_of_ren c2 hB2
      rw [(hat hb1).1, (hat hb2).1] at e
      rw [hr'.inj _ _ _ _ hb1 hb2 ho hd e]
  · constructor
    · intro n hn
      show (if _ then _ else _) = _
      rw [if_neg]
      intro h; exact hn (isIn_iff.1 h)
    · intro b hb hall
      refine hfr.keep b hb fun n x hx hxo => ?_
      have := c5 _ (hget_mem hx)
      rw [hxo] at this
      simp only [Bool.not_true, Bool.false_or, List.any_eq_true] at this
      obtain ⟨y, hy, e⟩ := this
      have := hall (tur old n) (by rw [← Nat.eq_of_beq_eq_true e]; exact List.mem_map_of_mem hy) _ (hget_ren c1 hx) hxo
      exact this
    · intro n hn hlt
      obtain ⟨b, hb, hbo⟩ := hown n hn
      have e2 : ψ2 n = ψ' (back n) := by
        show (if _ then _ else _) = _
        rw [if_pos (isIn_iff.2 hn)]
      rw [e2] at hlt ⊢
      obtain ⟨m, y, hy, hyo, e3⟩ := hfr.owned _ _ hb hbo hlt
      have := c5 _ (hget_mem hy)
      rw [hyo] at this
      simp only [Bool.not_true, Bool.false_or, List.any_eq_true] at this
      obtain ⟨z, hz, e⟩ := this
      refine ⟨tur old m, ?_, _, hget_ren c1 hy, hyo, e3⟩
      rw [← Nat.eq_of_beq_eq_true e]; exact List.mem_map_of_mem hz
    · intro n hn
      obtain ⟨y, hy, rfl⟩ := List.mem_map.1 hn
      have := c7 y hy
      simp only [Bool.or_eq_true, List.any_eq_true, Bool.and_eq_true] at this
      rcases this with h | ⟨x, hx, e, ho⟩
      · exact .inl (isIn_iff.1 h)
      · right
        rw [← Nat.eq_of_beq_eq_true e]
        obtain ⟨k, b⟩ := x
        -- the name is told once
        have key : ∀ {h : Heap}, h.nodup (tur old) = true → ∀ {k b}, (k, b) ∈ h → hget h k = some b := by
          intro h
          induction h with
          | nil => intro _ k b hb; cases hb
          | cons x t ih =>
            obtain ⟨k', y⟩ := x
            intro hn k b hm
            simp only [Heap.nodup, Bool.and_eq_true, List.all_eq_true] at hn
            rcases List.mem_cons.1 hm with h | h
            · cases h; simp [hget, Nat.beq_refl]
            · have : Nat.beq k' k = false := by
                cases h1 : Nat.beq k' k with
                | false => rfl
                | true => exact absurd (congrArg (tur old) (Nat.eq_of_beq_eq_true h1)).symm (beq_ne (hn.1 _ h))
              simp only [hget, this]
              exact ih hn.2 h
        exact ⟨_, hget_ren c1 (key c1 hx), ho⟩
    · exact hfr.sz
    · exact hfr.os
    · exact hfr.tape
    · exact hfr.output

/-- What is shown of cells that are read holds of a block of the caller's own. -/
theorem CallOk.own {f : FuncId} {args : List AT} {h : Heap} {r : AV} {upd : List (Nat × Blk)} {news : List Nat} (H : CallOk P f args h r upd news) (n : Nat) (b2 : Blk)
    (hk : b2.kind = .own) (hb : ∃ b, hget h n = some b ∧ b.kind = .view ∧ b.c = b2.c) (hn : isIn (upd.map (·.1)) n = false) (hn' : isIn news n = false) :
    CallOk P f args (hput h n b2) r upd news := by
  obtain ⟨b, hb, hv, hc⟩ := hb
  have hn : n ∉ upd.map (·.1) := fun k => by rw [isIn_iff.2 k] at hn; cases hn
  have hn' : n ∉ news := fun k => by rw [isIn_iff.2 k] at hn'; cases hn'
  have ho2 : b2.own = true := by unfold Blk.own; rw [hk]; rfl
  have hd2 : b2.dead = false := by unfold Blk.dead; rw [hk]; rfl
  have hsame := hget_hput_same h n b2
  have hoth : ∀ {m}, m ≠ n → hget (hput h n b2) m = hget h m := fun hm => hget_hput_other h b2 hm
  intro ψ w hr hnr
  have hat := hr.at_ n b2 hsame
  unfold BlkAt at hat
  rw [hk] at hat
  obtain ⟨o0, tail, hroom, hcell⟩ := hat
  have hlt : (ψ n).b < w.heap.size := by
    rcases Nat.lt_or_ge (ψ n).b w.heap.size with h | h
    · exact h
    · rw [Array.getElem?_eq_none h] at hcell; cases hcell
  have hview : HRel ψ h w := by
    constructor
    · intro m x hx
      by_cases hm : m = n
      · subst hm
        rw [hb] at hx; cases hx
        unfold BlkAt
        rw [hv]
        refine ⟨hlt, fun k v hkv => ?_⟩
        rw [hc] at hkv
        unfold World.cell?
        simp only [hcell, o0, Nat.zero_add]
        have hlen : k < (b2.c.c ψ).length := by
          rcases Nat.lt_or_ge k (b2.c.c ψ).length with h | h
          · exact h
          · rw [List.getElem?_eq_none h] at hkv; cases hkv
        simp [List.getElem?_append_left hlen, hkv]
      · exact hr.at_ m x (by rw [hoth hm]; exact hx)
    · intro m1 m2 x1 x2 h1 h2 ho hd e
      by_cases e1 : m1 = n
      · subst e1
        rw [hb] at h1; cases h1
        unfold Blk.own at ho; rw [hv] at ho; cases ho
      · by_cases e2 : m2 = n
        · subst e2
          exact hr.inj _ _ x1 b2 (by rw [hoth e1]; exact h1) hsame ho hd2 e
        · exact hr.inj _ _ x1 x2 (by rw [hoth e1]; exact h1) (by rw [hoth e2]; exact h2) ho hd e
  have hnr' : ∀ m ∈ news, Heap.noRef m h = true := by
    intro m hm
    have := hnr m hm
    unfold Heap.noRef at *
    rw [List.all_eq_true] at *
    intro x hx
    -- the cells are the same
    have key : ∀ {h : Heap}, hget h n = some b → ∀ x ∈ h, ∃ y ∈ hput h n b2, y.2.c = x.2.c := by
      intro h
      induction h with
      | nil => intro hb; cases hb
      | cons z t ih =>
        obtain ⟨k, y⟩ := z
        intro hb x hx
        simp only [hget] at hb
        simp only [hput]
        cases hkn : Nat.beq k n with
        | true =>
          rw [hkn] at hb
          cases hb
          rcases List.mem_cons.1 hx with e | e
          · exact ⟨_, List.mem_cons_self .., by rw [e]; exact hc.symm⟩
          · exact ⟨x, List.mem_cons_of_mem _ e, rfl⟩
        | false =>
          rw [hkn] at hb
          rcases List.mem_cons.1 hx with e | e
          · exact ⟨x, by rw [e]; exact List.mem_cons_self .., rfl⟩
          · obtain ⟨y', h1, h2⟩ := ih hb x e
            exact ⟨y', List.mem_cons_of_mem _ h1, h2⟩
    obtain ⟨y, hy, e⟩ := key hb x hx
    rw [← e]; exact this y hy
  refine CallDoes.mono (H ψ w hview hnr') ?_
  rintro v w' ⟨ψ', hvr, hr', hp⟩
  have hkeep : w'.heap[(ψ n).b]? = w.heap[(ψ n).b]? := by
    refine hp.keep _ hlt fun m hm x hx hxo e => ?_
    have hmn : m ≠ n := fun e => hn (e ▸ hm)
    exact hmn (hr.inj m n x b2 (by rw [hoth hmn]; exact hx) hsame hxo hd2 e)
  have hψn : ψ' n = ψ n := hp.same n hn'
  have hc' : b2.c.c ψ' = b2.c.c ψ := by
    have h1 : BlkAt ψ' w' n b := hr'.at_ n b (by rw [hget_hputs_other h fun x hx e => hn (by rw [← e]; exact List.mem_map_of_mem hx)]; exact hb)
    unfold BlkAt at h1
    rw [hv, hc, hψn] at h1
    refine List.ext_getElem? fun k => ?_
    cases hk' : (b2.c.c ψ')[k]? with
    | none =>
      have : (b2.c.c ψ').length = (b2.c.c ψ).length := by simp [Cells.c]
      rw [List.getElem?_eq_none_iff] at hk'
      exact (List.getElem?_eq_none (by omega)).symm
    | some v =>
      have := h1.2 k v hk'
      unfold World.cell? at this
      simp only [hkeep, hcell, o0, Nat.zero_add] at this
      have hlen : k < (b2.c.c ψ).length := by
        have h2 : (b2.c.c ψ').length = (b2.c.c ψ).length := by simp [Cells.c]
        rcases Nat.lt_or_ge k (b2.c.c ψ).length with h | h
        · exact h
        · rw [List.getElem?_eq_none (by omega)] at hk'; cases hk'
      simpa [List.getElem?_append_left hlen] using this.symm
  refine ⟨ψ', hvr, ?_, ?_⟩
  · have hget2 : ∀ {m}, m ≠ n → hget (hputs (hput h n b2) upd) m = hget (hputs h upd) m := fun hm => hget_hputs_congr (hoth hm)
    have hgetn : hget (hputs (hput h n b2) upd) n = some b2 := by
      rw [hget_hputs_other _ fun x hx e => hn (by rw [← e]; exact List.mem_map_of_mem hx)]; exact hsame
    have alone : ∀ {m x}, m ≠ n → hget (hputs h upd) m = some x → x.dead = false → (ψ' m).b ≠ (ψ' n).b := by
      intro m x hm hx hxd e
      rw [hψn] at e
      by_cases hmn : m ∈ news
      · obtain ⟨k, hk, y, hy, hyo, e2⟩ := hp.fresh m hmn (by rw [e]; exact hlt)
        have hkn : k ≠ n := fun e => hn (e ▸ hk)
        exact hkn (hr.inj k n y b2 (by rw [hoth hkn]; exact hy) hsame hyo hd2 (by rw [e2, e]))
      · rw [hp.same m hmn] at e
        by_cases hmu : m ∈ upd.map (·.1)
        · rcases hp.old m hmu with h | ⟨y, hy, hyo⟩
          · exact hmn h
          · exact hm (hr.inj m n y b2 (by rw [hoth hm]; exact hy) hsame hyo hd2 e)
        · rw [hget_hputs_other h fun z hz e => hmu (by rw [← e]; exact List.mem_map_of_mem hz)] at hx
          exact hm (hr.inj n m b2 x hsame (by rw [hoth hm]; exact hx) ho2 hxd e.symm).symm
    constructor
    · intro m x hx
      by_cases hm : m = n
      · subst hm
        rw [hgetn] at hx; cases hx
        unfold BlkAt
        rw [hk]
        rw [hψn, hc', hkeep]
        exact ⟨o0, tail, hroom, hcell⟩
      · exact hr'.at_ m x (by rw [← hget2 hm]; exact hx)
    · intro m1 m2 x1 x2 h1 h2 ho hd e
      by_cases e1 : m1 = n
      · subst e1
        by_cases e2 : m2 = m1
        · exact e2.symm
        · exact absurd e.symm (alone e2 (by rw [← hget2 e2]; exact h2) hd)
      · by_cases e2 : m2 = n
        · subst e2
          refine absurd e (alone e1 (by rw [← hget2 e1]; exact h1) ?_)
          unfold Blk.own at ho; unfold Blk.dead
          cases hx : x1.kind <;> rw [hx] at ho <;> first | rfl | cases ho
        · exact hr'.inj _ _ x1 x2 (by rw [← hget2 e1]; exact h1) (by rw [← hget2 e2]; exact h2) ho hd e
  · constructor
    · exact hp.same
    · intro c hc hall
      refine hp.keep c hc fun m hm x hx hxo => ?_
      have hmn : m ≠ n := fun e => hn (e ▸ hm)
      exact hall m hm x (by rw [hoth hmn]; exact hx) hxo
    · intro m hm hl
      obtain ⟨k, hk, y, hy, hyo, e2⟩ := hp.fresh m hm hl
      have hkn : k ≠ n := fun e => hn (e ▸ hk)
      exact ⟨k, hk, y, by rw [hoth hkn]; exact hy, hyo, e2⟩
    · intro m hm
      rcases hp.old m hm with h | ⟨y, hy, hyo⟩
      · exact .inl h
      · have hmn : m ≠ n := fun e => hn (e ▸ hm)
        exact .inr ⟨y, by rw [hoth hmn]; exact hy, hyo⟩
    · exact hp.sz
    · exact hp.os
    · exact hp.tape
    · exact hp.output

/-- Two blocks that say the same. -/
structure BAlike (b b' : Blk) : Prop where
  k : b.kind = b'.kind
  e : b.e = b'.e
  r : b.room = b'.room
  c : ∀ ψ, b.c.c ψ = b'.c.c ψ
  n : ∀ n, b.c.noRef n = b'.c.noRef n

def Alike : Heap → Heap → Prop
  | [], [] => True
  | (n, b) :: t, (n', b') :: t' => n = n' ∧ BAlike b b' ∧ Alike t t'
  | _, _ => False

theorem BAlike.refl (b : Blk) : BAlike b b := ⟨rfl, rfl, rfl, fun _ => rfl, fun _ => rfl⟩
theorem BAlike.symm {b b' : Blk} (h : BAlike b b') : BAlike b' b := ⟨h.k.symm, h.e.symm, h.r.symm, fun ψ => (h.c ψ).symm, fun n => (h.n n).symm⟩
theorem BAlike.own {b b' : Blk} (h : BAlike b b') : b.own = b'.own := by unfold Blk.own; rw [h.k]
theorem BAlike.dead {b b' : Blk} (h : BAlike b b') : b.dead = b'.dead := by unfold Blk.dead; rw [h.k]
theorem BAlike.at_ {b b' : Blk} (h : BAlike b b') {ψ : PM} {w : World} {n : Nat} : BlkAt ψ w n b ↔ BlkAt ψ w n b' := by
  unfold BlkAt; rw [h.k, h.c, h.r, h.e]

theorem Alike.symm : ∀ {h h' : Heap}, Alike h h' → Alike h' h
  | [], [], _ => trivial
  | (_, _) :: _, (_, _) :: _, ⟨a, b, c⟩ => ⟨a.symm, b.symm, Alike.symm c⟩
theorem Alike.refl : ∀ (h : Heap), Alike h h
  | [] => trivial
  | (_, b) :: t => ⟨rfl, BAlike.refl b, Alike.refl t⟩

theorem Alike.get : ∀ {h h' : Heap}, Alike h h' → ∀ {n b}, hget h n = some b → ∃ b', hget h' n = some b' ∧ BAlike b b'
  | [], [], _, n, b, e => by cases e
  | (m, x) :: t, (m', x') :: t', ⟨h1, h2, h3⟩, n, b, e => by
    subst h1
    simp only [hget] at e ⊢
    cases hm : Nat.beq m n with
    | true => rw [hm] at e; cases e; exact ⟨x', rfl, h2⟩
    | false => rw [hm] at e; exact Alike.get h3 e

theorem Alike.put : ∀ {h h' : Heap}, Alike h h' → ∀ (n : Nat) (b : Blk), Alike (hput h n b) (hput h' n b)
  | [], [], _, n, b => ⟨rfl, BAlike.refl b, trivial⟩
  | (m, x) :: t, (m', x') :: t', ⟨h1, h2, h3⟩, n, b => by
    subst h1
    simp only [hput]
    cases Nat.beq m n with
    | true => exact ⟨rfl, BAlike.refl b, h3⟩
    | false => exact ⟨rfl, h2, Alike.put h3 n b⟩

theorem Alike.puts {h h' : Heap} (a : Alike h h') (u : List (Nat × Blk)) : Alike (hputs h u) (hputs h' u) := by
  induction u generalizing h h' with
  | nil => exact a
  | cons x u ih => obtain ⟨n, b⟩ := x; exact ih (a.put n b)

theorem Alike.rel {h h' : Heap} (a : Alike h h') {ψ : PM} {w : World} (r : HRel ψ h w) : HRel ψ h' w := by
  constructor
  · intro n b hb
    obtain ⟨b', h1, h2⟩ := a.symm.get hb
    exact h2.at_.2 (r.at_ n b' h1)
  · intro n m b b' hb hb' ho hd e
    obtain ⟨b1, h1, h2⟩ := a.symm.get hb
    obtain ⟨b2, h3, h4⟩ := a.symm.get hb'
    exact r.inj n m b1 b2 h1 h3 (by rw [← h2.own]; exact ho) (by rw [← h4.dead]; exact hd) e

theorem Alike.noRef : ∀ {h h' : Heap}, Alike h h' → ∀ (n : Nat), Heap.noRef n h = Heap.noRef n h'
  | [], [], _, n => rfl
  | (m, x) :: t, (m', x') :: t', ⟨_, h2, h3⟩, n => by
    have := Alike.noRef h3 n
    simp only [Heap.noRef, List.all_cons] at this ⊢
    rw [h2.n, this]

theorem CallOk.heap {f : FuncId} {args : List AT} {h h' : Heap} {r : AV} {upd : List (Nat × Blk)} {news : List Nat} (H : CallOk P f args h r upd news) (a : Alike h h') : CallOk P f args h' r upd news := by
  intro ψ w hr hn
  refine CallDoes.mono (H ψ w (a.symm.rel hr) fun n hm => by rw [a.noRef]; exact hn n hm) ?_
  rintro v w' ⟨ψ', hv, hr', hp⟩
  refine ⟨ψ', hv, (a.puts upd).rel hr', hp.same, ?_, ?_, ?_, hp.sz, hp.os, hp.tape, hp.output⟩
  · intro b hb hall
    refine hp.keep b hb fun n hn x hx ho => ?_
    obtain ⟨x', h1, h2⟩ := a.get hx
    exact hall n hn x' h1 (by rw [← h2.own]; exact ho)
  · intro n hn hl
    obtain ⟨m, hm, x, hx, ho, e⟩ := hp.fresh n hn hl
    obtain ⟨x', h1, h2⟩ := a.get hx
    exact ⟨m, hm, x', h1, by rw [← h2.own]; exact ho, e⟩
  · intro n hn
    rcases hp.old n hn with h | ⟨x, hx, ho⟩
    · exact .inl h
    · obtain ⟨x', h1, h2⟩ := a.get hx
      exact .inr ⟨x', h1, by rw [← h2.own]; exact ho⟩

/-- The conditions, some of them more than once. -/
def nthP : List Prop → Nat → Prop
  | [], _ => True
  | p :: _, 0 => p
  | _ :: r, i + 1 => nthP r i
def pickP (l : List Prop) : List Nat → List Prop
  | [] => []
  | i :: r => nthP l i :: pickP l r

theorem nthP_of : ∀ {l : List Prop}, (∀ p ∈ l, p) → ∀ i, nthP l i
  | [], _, _ => trivial
  | p :: _, h, 0 => h p (List.mem_cons_self ..)
  | _ :: _, h, i + 1 => nthP_of (fun q hq => h q (List.mem_cons_of_mem _ hq)) i

theorem Conj.cons {p : Prop} {l : List Prop} (h : p) (hl : Conj l) : Conj (p :: l) := by
  cases l with
  | nil => exact h
  | cons q r => exact ⟨h, hl⟩

theorem Conj.pick {l : List Prop} (hc : Conj l) : ∀ (is : List Nat), Conj (pickP l is)
  | [] => trivial
  | i :: is => Conj.cons (nthP_of (conj_all hc) i) (Conj.pick hc is)

theorem A0.sat_plain {x : A0} (h : x.plain = true) (p : Nat → Bool) : x.sat p = true := by
  cases x with
  | fn f caps => simp only [A0.plain, List.isEmpty_iff] at h; subst h; rfl
  | _ => first | rfl | cases h
theorem Cells.sat_plain {x : Cells} (h : x.plain = true) (p : Nat → Bool) : x.sat p = true := by
  cases x with
  | vals l => exact List.all_eq_true.2 fun a ha => A0.sat_plain (List.all_eq_true.1 h a ha) p
  | ints k l => rfl
theorem AT.sat_plain {x : AT} (h : x.plain = true) (p : Nat → Bool) : x.sat p = true := by
  cases x with
  | one x => exact A0.sat_plain h p
  | agg c => exact Cells.sat_plain h p
theorem AV.sat_plain {x : AV} (h : x.plain = true) (p : Nat → Bool) : x.sat p = true := by
  cases x with
  | undef => rfl
  | t x => exact AT.sat_plain h p
  | tup l => exact List.all_eq_true.2 fun a ha => AT.sat_plain (List.all_eq_true.1 h a ha) p

end Go.Ev
