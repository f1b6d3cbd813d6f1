/-
  States that tell the same: a piece of code that is shown for the one is shown for the other.
  Conditions: none; nothing here names a program.
-/
import Derived.Test.YtnndhmnabbkamaaEv15
namespace Go.Ev
open Go
variable {P : Program}

/-- The same slots, told the same or another way. -/
def KAlike : List (Nat × AV) → List (Nat × AV) → Prop
  | [], [] => True
  | (k, x) :: t, (k', x') :: t' => k = k' ∧ (x = .undef ↔ x' = .undef) ∧ (∀ ψ, x.c ψ = x'.c ψ) ∧ KAlike t t'
  | _, _ => False

theorem KAlike.symm : ∀ {l l' : List (Nat × AV)}, KAlike l l' → KAlike l' l
  | [], [], _ => trivial
  | (_, _) :: _, (_, _) :: _, ⟨a, b, c, d⟩ => ⟨a.symm, b.symm, fun ψ => (c ψ).symm, KAlike.symm d⟩

def VAlike (x x' : AV) : Prop := (x = .undef ↔ x' = .undef) ∧ ∀ ψ, x.c ψ = x'.c ψ
theorem VAlike.refl (x : AV) : VAlike x x := ⟨Iff.rfl, fun _ => rfl⟩

theorem KAlike.look0 : ∀ {l l' : List (Nat × AV)}, KAlike l l' → VAlike (mkT.look0 l) (mkT.look0 l')
  | [], [], _ => VAlike.refl _
  | (0, _) :: _, (0, _) :: _, ⟨_, b, c, _⟩ => ⟨b, c⟩
  | (_ + 1, _) :: t, (_ + 1, _) :: t', ⟨_, _, _, d⟩ => KAlike.look0 (l := t) (l' := t') d
  | (0, _) :: _, (_ + 1, _) :: _, ⟨a, _⟩ => by cases a
  | (_ + 1, _) :: _, (0, _) :: _, ⟨a, _⟩ => by cases a

theorem KAlike.lower : ∀ {l l' : List (Nat × AV)}, KAlike l l' → KAlike (mkT.lower l) (mkT.lower l')
  | [], [], _ => trivial
  | (0, _) :: t, (0, _) :: t', ⟨_, _, _, d⟩ => KAlike.lower (l := t) (l' := t') d
  | (_ + 1, _) :: _, (_ + 1, _) :: _, ⟨a, b, c, d⟩ => ⟨Nat.succ.inj a, b, c, KAlike.lower d⟩
  | (0, _) :: _, (_ + 1, _) :: _, ⟨a, _⟩ => by cases a
  | (_ + 1, _) :: _, (0, _) :: _, ⟨a, _⟩ => by cases a

theorem KAlike.get : ∀ {n : Nat} {l l' : List (Nat × AV)}, KAlike l l' → ∀ i, VAlike (tget (mkT n l) i) (tget (mkT n l') i)
  | 0, _, _, _, _ => VAlike.refl _
  | _ + 1, _, _, h, 0 => h.look0
  | n + 1, _, _, h, i + 1 => KAlike.get (n := n) h.lower i

theorem same_of {n : Nat} {l l' : List (Nat × AV)} {h h' : Heap} (k : KAlike l l') (a : Alike h h') : Same (mkT n l', h') (mkT n l, h) where
  len := by simp [mkT_length]
  t i ψ := by
    obtain ⟨h1, h2⟩ := k.get (n := n) i
    by_cases e : tget (mkT n l) i = .undef
    · exact .inl (h1.1 e)
    · exact .inr ⟨e, (h2 ψ).symm⟩
  h n b' hb := by
    obtain ⟨b, h1, h2⟩ := a.symm.get hb
    exact ⟨b, h1, h2.k, h2.e, h2.r, h2.c⟩

theorem Runs.pre_same {c : Code} {s0 s s' : St} {e : Exit} (h : Runs P c s0 e s') (l : Same s0 s) : Runs P c s e s' := by
  intro ψ a w hr
  refine wp_mono (h ψ a w (l.rel hr)) ?_
  rintro e' a' w' ⟨rfl, ψ', hr', hf'⟩
  refine ⟨rfl, ψ', hr', ⟨hf'.fix, fun b hb hall => hf'.keep b hb fun n x hx hxo => ?_, fun n x hx hxo hlt => ?_, hf'.sz, hf'.os, hf'.tape, hf'.output⟩⟩
  · obtain ⟨y, h1, h2, _⟩ := l.h n x hx
    exact hall n y h1 (by unfold Blk.own at *; rw [← h2]; exact hxo)
  · obtain ⟨m, y, hy, hyo, e⟩ := hf'.owned n x hx hxo hlt
    obtain ⟨z, h1, h2, _⟩ := l.h m y hy
    exact ⟨m, z, h1, by unfold Blk.own at *; rw [← h2]; exact hyo, e⟩

/-- The same state told another way, ahead of a piece of code. -/
theorem Runs.preT {c : Code} {n : Nat} {l l' : List (Nat × AV)} {h h' : Heap} {e : Exit} {s' : St} (H : Runs P c (mkT n l, h) e s') (k : KAlike l l') (a : Alike h h') : Runs P c (mkT n l', h') e s' :=
  H.pre_same (same_of k.symm a.symm)

/-- After it. -/
theorem Runs.postT {c : Code} {n : Nat} {l l' : List (Nat × AV)} {h h' : Heap} {e : Exit} {s : St} (H : Runs P c s e (mkT n l, h)) (k : KAlike l l') (a : Alike h h') : Runs P c s e (mkT n l', h') :=
  H.same (same_of k a)

/-- The same for a function's blocks. -/
theorem FnOk.heap {f : FuncId} {args : List AT} {h h1 h' h1' : Heap} {r : AV} (H : FnOk P f args h r h') (a : Alike h h1) (a' : Alike h' h1') : FnOk P f args h1 r h1' := by
  intro ψ w hr
  refine Calls.mono (H ψ w (a.symm.rel hr)) ?_
  rintro e w' ⟨ψ', rfl, hr', hf⟩
  refine ⟨ψ', rfl, a'.rel hr', hf.fix, fun b hb hall => hf.keep b hb fun n x hx hxo => ?_, fun n x hx hxo hl => ?_, hf.sz, hf.os, hf.tape, hf.output⟩
  · obtain ⟨y, h2, h3⟩ := a.get hx
    exact hall n y h2 (by rw [← h3.own]; exact hxo)
  · obtain ⟨y, h2, h3⟩ := a'.symm.get hx
    obtain ⟨m, z, h4, h5, h6⟩ := hf.owned n y h2 (by rw [← h3.own]; exact hxo) hl
    obtain ⟨z', h7, h8⟩ := a.get h4
    exact ⟨m, z', h7, by rw [← h8.own]; exact h5, h6⟩

theorem FnOk.args {f : FuncId} {args args' : List AT} {h h' : Heap} {r : AV} (H : FnOk P f args h r h') (e : ∀ ψ, args.map (AT.c ψ) = args'.map (AT.c ψ)) : FnOk P f args' h r h' := by
  intro ψ w hr
  rw [← e ψ]
  exact H ψ w hr

/-- One word told two ways. -/
theorem ka_nil : KAlike [] [] := trivial
theorem ka_same {k : Nat} {x : AV} {t t' : List (Nat × AV)} (h : KAlike t t') : KAlike ((k, x) :: t) ((k, x) :: t') := ⟨rfl, Iff.rfl, fun _ => rfl, h⟩
theorem ka_lit {k : Nat} {i : IntKind} {n : Int} {t t' : List (Nat × AV)} (h : KAlike t t') : KAlike ((k, .one (.lit i n)) :: t) ((k, .one (.int i n)) :: t') := ⟨rfl, by simp, fun _ => rfl, h⟩
theorem al_same {n : Nat} {b : Blk} {t t' : Heap} (h : Go.Ev.Alike t t') : Go.Ev.Alike ((n, b) :: t) ((n, b) :: t') := ⟨rfl, BAlike.refl b, h⟩
theorem al_c {n : Nat} {k : BK} {e : TypeId} {c c' : Cells} {r : Option Nat} {t t' : Heap} (hc : ∀ ψ, c.c ψ = c'.c ψ) (hn : ∀ n, c.noRef n = c'.noRef n) (h : Go.Ev.Alike t t') :
    Go.Ev.Alike ((n, { kind := k, e := e, c := c, room := r }) :: t) ((n, { kind := k, e := e, c := c', room := r }) :: t') := ⟨rfl, ⟨rfl, rfl, rfl, hc, hn⟩, h⟩

theorem A0.ren_plain {x : A0} (h : x.plain = true) (g : Nat → Nat) : x.ren g = x := by
  cases x with
  | fn f caps => simp only [A0.plain, List.isEmpty_iff] at h; subst h; rfl
  | _ => first | rfl | cases h
theorem map_eq_self {α : Type} {f : α → α} : ∀ {l : List α}, (∀ a ∈ l, f a = a) → l.map f = l
  | [], _ => rfl
  | a :: t, h => by rw [List.map_cons, h a (List.mem_cons_self ..), map_eq_self fun b hb => h b (List.mem_cons_of_mem _ hb)]
theorem Cells.ren_plain {x : Cells} (h : x.plain = true) (g : Nat → Nat) : x.ren g = x := by
  cases x with
  | vals l => exact congrArg Cells.vals (map_eq_self fun a ha => A0.ren_plain (List.all_eq_true.1 h a ha) g)
  | ints k l => rfl
theorem AT.ren_plain {x : AT} (h : x.plain = true) (g : Nat → Nat) : x.ren g = x := by
  cases x with
  | one x => exact congrArg AT.one (A0.ren_plain h g)
  | agg c => exact congrArg AT.agg (Cells.ren_plain h g)
theorem AV.ren_plain {x : AV} (h : x.plain = true) (g : Nat → Nat) : x.ren g = x := by
  cases x with
  | undef => rfl
  | t x => exact congrArg AV.t (AT.ren_plain h g)
  | tup l => exact congrArg AV.tup (map_eq_self fun a ha => AT.ren_plain (List.all_eq_true.1 h a ha) g)

/-- A function that reads one block of plain cells, at a call: the block is seen. -/
theorem FnOk.view1 {f : FuncId} {fn : Func} (hf : Named P f fn) (n : Nat) {args : List AT} {b : Blk} {r : AV} (H : FnOk P f args [(1000, b)] r [(1000, b)]) (hk : b.kind = .view) (hc : b.c.plain = true) (hr : r.plain = true) :
    CallOk P f (args.map (AT.ren (tur [(1000, n)]))) [(n, b)] r [] [] := by
  have h1 : knows [(1000, n)] [] 1000 = true := by
    show (!(isIn [] n) && Nat.beq n n) = true
    simp [isIn, Nat.beq_refl]
  have ho : b.own = false := by unfold Blk.own; rw [hk]; rfl
  have hb : b.ren (tur [(1000, n)]) = b := by unfold Blk.ren; rw [Cells.ren_plain hc]
  have := FnOk.into hf H [(1000, n)] [] [] (by
    show [(n, b.ren (tur [(1000, n)]))] = [(n, b.ren (tur [(1000, n)]))]
    rfl) (by simp [callFits, Heap.nodup, h1, AV.sat_plain hr, Cells.sat_plain hc, ho])
  rw [AV.ren_plain hr] at this
  have e : Heap.ren (tur [(1000, n)]) [(1000, b)] = [(n, b)] := by
    show [(n, b.ren (tur [(1000, n)]))] = _
    rw [hb]
  rw [e] at this
  exact this

/-- The block is the caller's own. -/
theorem FnOk.own1 {f : FuncId} {fn : Func} (hf : Named P f fn) (n : Nat) {args : List AT} {e : TypeId} {c : Cells} {rm : Option Nat} {r : AV} (H : FnOk P f args [(1000, { kind := .view, e := e, c := c, room := rm })] r [(1000, { kind := .view, e := e, c := c, room := rm })]) (hc : c.plain = true) (hr : r.plain = true)
    (rm' : Option Nat := none) :
    CallOk P f (args.map (AT.ren (tur [(1000, n)]))) [(n, { kind := .own, e := e, c := c, room := rm' })] r [] [] := by
  have h := (FnOk.view1 hf n H rfl hc hr).own n { kind := .own, e := e, c := c, room := rm' } rfl ⟨{ kind := .view, e := e, c := c, room := rm }, by simp only [hget, Nat.beq_refl], rfl, rfl⟩ rfl rfl
  simpa only [hput, Nat.beq_refl] using h

end Go.Ev
