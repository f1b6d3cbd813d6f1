/-
  From what a law's call comes to, to its row: the call returns true and nothing that was there has turned.
  Conditions: those that each theorem names.
-/
import Derived.ProofKit
import Derived.OpenShut
import Derived.Test.YtnndhmnabbkamaaEv16
import Derived.Test.YtnndhmnabbkamaaNum
namespace Go.Ev
open Go Go.ChangeShapes Go.WideShapes Go.RowKit Go.WideElems

theorem CallOk.calls {P : Program} {f : FuncId} {fn : Func} (hf : Named P f fn) {args : List AT} {x : A0} (H : CallOk P f args [] (.one x) [] []) (ψ : PM) (w : World) :
    Calls P f (args.map (AT.c ψ)).toArray w fun e w' => e = .returned (x.c ψ) ∧ Below w.heap.size w w' := by
  have h := H ψ w (hrel_nil ψ w) (fun _ h => by cases h)
  unfold CallDoes at h
  rw [hf.enter] at h
  refine Calls.mono h ?_
  rintro e w' ⟨v, rfl, ψ', hv, _, hp⟩
  have e1 : ψ' = ψ := funext fun n => hp.same n (by simp)
  subst e1
  refine ⟨?_, hp.os, hp.tape, hp.output, hp.sz, fun k hk => hp.keep k hk fun n hn => by cases hn⟩
  rcases hv with hv | hv
  · cases hv
  · exact congrArg _ hv

section
variable {H : Type} {enc : TypeId × Value → H} {P : Program}

theorem trodAll_stays (hl : laidOutB P = true) {W W' : World} (hb : Below W.heap.size W W') {sp : Nat → Bool} :
    ∀ {ts : List TypeId} {vs : List Value} {ds : List (DataW H)} {ps : List MemPlace}, (ts.all fun t => P.readableRec t && decide (t < P.types.size)) = true →
      DataW.TrodAll enc P W 0 (fun _ => true) true ts vs ds ps → (∀ x ∈ ps, x.block < W.heap.size) → (∀ x ∈ ps, sp x.block = true) → DataW.TrodAll enc P W' 0 sp true ts vs ds ps
  | [], [], [], _, _, h, _, _ => h
  | [], _ :: _, _, _, _, h, _, _ => h.elim
  | [], [], _ :: _, _, _, h, _, _ => h.elim
  | _ :: _, [], _, _, _, h, _, _ => by cases ‹List (DataW H)› <;> exact h.elim
  | _ :: _, _ :: _, [], _, _, h, _, _ => h.elim
  | t :: ts, v :: vs, d :: ds, ps, ht, h, hlt, hsp => by
    obtain ⟨p, q, h1, h2, e⟩ := h
    simp only [List.all_cons, Bool.and_eq_true, decide_eq_true_eq] at ht
    have hp : ∀ x ∈ p, x ∈ ps := fun x hx => by rw [e]; exact List.mem_append_left _ hx
    have hq : ∀ x ∈ q, x ∈ ps := fun x hx => by rw [e]; exact List.mem_append_right _ hx
    exact ⟨p, q, Trod_stays hl ht.1.1 ht.1.2 h1 (fun x hx => hb.same (hlt x (hp x hx))) (fun x hx => hsp x (hp x hx)),
      trodAll_stays hl hb ht.2 h2 (fun x hx => hlt x (hq x hx)) (fun x hx => hsp x (hq x hx)), e⟩

/-- Where nothing below the heap's old size has turned: what 'post' asks. -/
theorem post_below {f : Func} {s : ChangeSpec} {apart fresh handsOn again : Bool} {W W' : World} {args : Array Value} {v : Value} {ds gs : List (DataW H)} {before pa pv : List MemPlace}
    (hW : DataW.Whole enc P f.params.toList s.vars apart W args.toList ds gs before)
    (hres : ∀ (b : Nat) (sp : Nat → Bool) (hd : Bool), DataW.TrodAll enc P W' b sp hd f.resultTypes.toList (v.resultList f.resultTypes.size) (s.fn H (ds ++ gs)).results [])
    (hargs : ∀ sp : Nat → Bool, (∀ p ∈ before, sp p.block = true) → DataW.TrodAll enc P W' 0 sp true f.params.toList args.toList (s.fn H (ds ++ gs)).args pa)
    (hvars : ∀ sp : Nat → Bool, (∀ p ∈ before, sp p.block = true) → DataW.TrodVars enc P W' sp s.vars (s.fn H (ds ++ gs)).vars pv)
    (hps : before = pa ++ pv) (hb : Below W.heap.size W W')
    (hok : ∀ (j : Nat) (t : TypeId) (r : Value), f.resultTypes[j]? = some t → (v.resultList f.resultTypes.size)[j]? = some r → Value.okWide P W' .any 0 t r) :
    s.post enc P f apart fresh handsOn again W args v W' := by
  have hlt := hW.lt
  have hold : ∀ p ∈ before, (fun b => decide (b < W.heap.size)) p.block = true := fun p hp => by simpa using hlt p hp
  refine ⟨ds, gs, before, [], pa, pv, hW, hres _ _ _, hargs _ hold, hvars _ hold, World.keptBut_mono (fun p hp => ⟨hp, ?_⟩) (hb.frame (· ∈ before)), fun _ => ?_⟩
  · rw [hps, List.mem_append] at hp
    exact Or.inr hp
  · obtain ⟨_, _, _, _, _, hz, hn⟩ := hW
    refine ⟨hok, _, _, ([] ++ pa) ++ pv, ⟨[] ++ pa, pv, trodAll_append (hargs _ (fun _ _ => rfl)) (hres _ _ _), hvars _ (fun _ _ => rfl), rfl, ?_, ?_⟩, ?_⟩
    · intro b off hp
      have hm : MemPlace.cell b off ∈ before := by rw [hps]; simpa using hp
      rw [hb.frozen (p := ⟨b, off, none⟩) (hlt _ hm)]
      exact hz b off hm
    · intro ha
      have := hn ha
      rw [hps] at this
      simpa using this
    · intro p hp _
      rw [hps]
      simpa using hp

/-- What a law's row says behind the call. -/
theorem law_post {fn : Func} {s : ChangeSpec} {apart : Bool} {W W' : World} {args : Array Value} {ds gs : List (DataW H)} {before : List MemPlace}
    (hl : laidOutB P = true) (hts : (fn.params.toList.all fun t => P.readableRec t && decide (t < P.types.size)) = true) {tb : TypeId} (hr : fn.resultTypes = #[tb]) (htb : P.underlying tb = some .bool)
    (hv : s.vars = []) (hW : DataW.Whole enc P fn.params.toList s.vars apart W args.toList ds gs before) (hfn : s.fn H ds = { results := [.lit (.bool true)], args := ds })
    (hb : Below W.heap.size W W') : s.post enc P fn apart true false false W args (.bool true) W' := by
  have hlt := hW.lt
  obtain ⟨p, q, hA, hV, rfl, hfz, hnd⟩ := id hW
  rw [hv] at hV
  obtain ⟨rfl, rfl⟩ := trodVars_none hV
  rw [List.append_nil] at hW hlt
  have hfn : s.fn H (ds ++ []) = { results := [.lit (.bool true)], args := ds } := by rw [List.append_nil]; exact hfn
  refine post_below (pa := p) (pv := []) hW ?_ ?_ ?_ (by simp) hb ?_
  · intro b sp hd
    rw [hfn, hr]
    exact trodAll_mk1 (shut_bool htb _)
  · intro sp hsp
    rw [hfn]
    exact trodAll_stays hl hb hts hA (fun x hx => hlt x hx) (fun x hx => hsp x hx)
  · intro sp _
    rw [hfn, hv]
    exact rfl
  · exact ok_one hr rfl (okWide_bool_mk htb _)

theorem open_num {t e : TypeId} {r : Reach} {b0 : Nat} {W : World} {base : Nat} {sp : Nat → Bool} {held : Bool} {v : Value} {d : DataW H} {ps : List MemPlace} (ht : P.underlying t = some (.array 4 e)) (he : P.underlying e = some (.int .u64)) (hc : P.cellsOf e = 1) (hct : P.cellsOf t = 4)
    (hval : Value.okWide P W r b0 t v) (hd : DataW.Trod enc P W base sp held t v d ps) : ∃ n, 0 ≤ n ∧ n < R ∧ ∀ ψ, v = (nv n).c ψ := by
  simp only [Value.okWide, ht] at hval
  obtain ⟨cs, rfl, hs, -⟩ := hval
  obtain ⟨fuel, hf⟩ := hd
  obtain ⟨xs, m, rfl, hx, hl, hn, hi⟩ := DataW.trod_array ht hf
  have g : ∀ i, i < 4 → ∃ a, (cs.toList.drop i).take 1 = [.int .u64 a] ∧ Wd a := by
    intro i h4
    have := hi i h4
    rw [hc, Nat.mul_one, List.getElem?_eq_getElem (by omega)] at this
    obtain ⟨a, e1, _, e3⟩ := DataW.trod_int he this
    refine ⟨a, e1, ?_⟩
    have := bounds_u64 e3
    exact ⟨by omega, by omega⟩
  obtain ⟨a0, e0, w0⟩ := g 0 (by omega)
  obtain ⟨a1, e1, w1⟩ := g 1 (by omega)
  obtain ⟨a2, e2, w2⟩ := g 2 (by omega)
  obtain ⟨a3, e3, w3⟩ := g 3 (by omega)
  have hsz : cs.toList.length = 4 := by
    rw [← hct]; exact hl
  refine ⟨v4 a0 a1 a2 a3, (v4_lt w0 w1 w2 w3).1, (v4_lt w0 w1 w2 w3).2, fun ψ => ?_⟩
  rw [nv_v4 w0 w1 w2 w3]
  show Value.agg cs = .agg _
  congr 1
  obtain ⟨cs⟩ := cs
  match cs, hsz with
  | [x0, x1, x2, x3], _ =>
    simp at e0 e1 e2 e3
    subst e0 e1 e2 e3
    rfl

end

end Go.Ev
