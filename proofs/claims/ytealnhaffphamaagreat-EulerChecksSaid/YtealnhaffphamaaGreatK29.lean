/- Contracts of the functions that the statement reaches, and plain lemmas: part 29 of 29. -/
import Derived.Test.YtealnhaffphamaaGreatK04
import Derived.Test.YtealnhaffphamaaGreatK05
import Derived.Deep.Slices
import Derived.ChangeSame
import Derived.ChangeShapes
import Derived.ChangeAt
import Derived.JoinedOf
import Derived.OpenShut
import Derived.RowKit
set_option linter.unusedVariables false
set_option linter.unusedSimpArgs false

namespace Go.Proofs.YtealnhaffphamaaGreat
open Go.RowKit Go.Proofs.YtealnhaffphamaaGreatW.PrintWords Go.ChangeShapes Go.WideShapes Go.ChangeAt

theorem choose_list {α : Type} {p : Nat → α → Prop} : ∀ n, (∀ i, i < n → ∃ x, p i x) → ∃ l : List α, l.length = n ∧ ∀ i x, l[i]? = some x → p i x
  | 0, _ => ⟨[], rfl, fun i x h => by simp at h⟩
  | n + 1, h => by
    obtain ⟨l, hl, hp⟩ := choose_list n (fun i hi => h i (by omega))
    obtain ⟨x, hx⟩ := h n (by omega)
    refine ⟨l ++ [x], by simp [hl], fun i y hy => ?_⟩
    by_cases e : i < l.length
    · rw [List.getElem?_append_left e] at hy; exact hp i y hy
    · rw [List.getElem?_append_right (by omega)] at hy
      have hi : i - l.length = 0 := by
        have := (List.getElem?_eq_some_iff.1 hy).1; simp at this; omega
      rw [hi] at hy
      simp at hy
      subst hy
      have : i = n := by omega
      rw [this]; exact hx
section
variable {H : Type} {enc : TypeId × Value → H} {w : World} {base : Nat} {spare : Nat → Bool} {held : Bool}
theorem arg_again {t : TypeId} (hr : Tryz.prog.readableRec t = true) (hrow : t < Tryz.prog.types.size) {W W' : World} {v : Value} {d : DataW H} {ps : List MemPlace} (h : DataW.Trod enc Tryz.prog W 0 (fun _ => true) true t v d ps)
    (hb : Below W.heap.size W W') (hlt : ∀ x ∈ ps, x.block < W.heap.size) {sp : Nat → Bool} (hs : ∀ x ∈ ps, sp x.block = true) : DataW.Trod enc Tryz.prog W' 0 sp true t v d ps :=
  WideElems.Trod_stays Tryz.laid hr hrow h (fun x hx => hb.same (hlt x hx)) hs
/-- A slice whose elements are read. -/
theorem open_rows {α : Type} (d : Kd α) (hd : d.sz = 1) {p : α → Prop} {t e : TypeId} (ht : Tryz.prog.underlying t = some (.slice e)) (hc : Tryz.prog.cellsOf e = 1)
    (hel : ∀ (n : Nat) (v : Value) y, DataW.trod enc Tryz.prog w base spare held n e [v] = some y → ∃ x, d.K w x [v] ∧ p x) {fuel : Nat} {v : Value} {x : DataW H × List MemPlace} (h : DataW.trod enc Tryz.prog w base spare held fuel t [v] = some x) :
    ∃ A0 c xs, v = .slice A0 xs.length c ∧ xs.length ≤ c ∧ d.C w A0 xs.length xs ∧ ∀ x ∈ xs, p x := by
  rcases Deep.open_slice1 ht hc h with ⟨h0, _⟩ | ⟨a, len, cap, m, n, V, D, Pl, h0, hb, hl, hm, hmm, _, hx⟩
  · injection h0 with h0
    subst h0
    exact ⟨none, 0, [], rfl, by simp, ⟨rfl, by simp, fun h => by simp at h⟩, by simp⟩
  · injection h0 with h0
    subst h0
    have hlm : len ≤ m := by rw [hmm]; split <;> omega
    obtain ⟨l, h1, h2⟩ := choose_list (p := fun i (q : α) => d.K w q [V i] ∧ p q) len (fun i hi => by
      obtain ⟨_, e2⟩ := hx i (by omega)
      exact hel n _ _ e2)
    subst h1
    refine ⟨some a, cap, l, rfl, hl, ⟨rfl, by unfold maxLen at hm; omega, fun _ => ⟨a, rfl, fun j q hj => ⟨[V j], by rw [hd]; rfl, (h2 j q hj).1, fun i u hu => ?_⟩⟩⟩, fun q hq => ?_⟩
    · have hjl := (List.getElem?_eq_some_iff.1 hj).1
      have hi : i = 0 := by have := (List.getElem?_eq_some_iff.1 hu).1; simpa using this
      subst hi
      simp at hu
      rw [hd, Nat.mul_one, Nat.add_zero, ← hu]
      exact (hx j (by omega)).1
    · obtain ⟨j, hj, rfl⟩ := List.getElem_of_mem hq
      exact (h2 j _ (List.getElem?_eq_getElem hj)).2
theorem Tryz.c3 : Tryz.prog.cellsOf 3 = 1 := by kernel_rfl
theorem Tryz.cL : Tryz.prog.cellsOf 43 = 1 := by kernel_rfl
theorem Tryz.cF : Tryz.prog.cellsOf 42 = 1 := by kernel_rfl
theorem open_ints {fuel : Nat} {v : Value} {x : DataW H × List MemPlace} (h : DataW.trod enc Tryz.prog w base spare held fuel 43 [v] = some x) : ∃ xs, KL.K w xs [v] ∧ ∀ z ∈ xs, I64 z := by
  obtain ⟨A0, c, xs, rfl, h1, h2, h3⟩ := open_rows KI rfl (p := I64) Tryz.underlying43 Tryz.c3 (fun n v y h => by
    obtain ⟨z, k, _, hw⟩ := DataW.trod_int Tryz.u3 h
    injection k with k
    exact ⟨z, by rw [k]; rfl, i64_wf hw⟩) h
  exact ⟨xs, ⟨A0, c, rfl, h1, h2⟩, h3⟩
theorem open_loops {fuel : Nat} {v : Value} {x : DataW H × List MemPlace} (h : DataW.trod enc Tryz.prog w base spare held fuel 42 [v] = some x) : ∃ ls, KF.K w ls [v] ∧ ∀ l ∈ ls, ∀ z ∈ l, I64 z := by
  obtain ⟨A0, c, xs, rfl, h1, h2, h3⟩ := open_rows KL rfl (p := fun l => ∀ z ∈ l, I64 z) Tryz.underlying42 Tryz.cL (fun n v y h => open_ints h) h
  exact ⟨xs, ⟨A0, c, rfl, h1, h2⟩, h3⟩
/-- A model's faces. -/
theorem open_faces {fuel : Nat} {v : Value} {x : DataW H × List MemPlace} (h : DataW.trod enc Tryz.prog w base spare held fuel 26 [v] = some x) : ∃ A0 c fs, v = .slice A0 (List.length fs) c ∧ fs.length ≤ c ∧ RF w A0 fs ∧ ∀ f ∈ fs, ∀ l ∈ f, ∀ z ∈ l, I64 z :=
  open_rows KF rfl (p := fun f => ∀ l ∈ f, ∀ z ∈ l, I64 z) Tryz.underlying26 Tryz.cF (fun n v y h => open_loops h) h
set_option maxRecDepth 100000 in
theorem open_model {fuel : Nat} {cs : List Value} {x : DataW H × List MemPlace} (h : DataW.trod enc Tryz.prog w base spare held fuel 28 cs = some x) :
    ∃ N A0 c fs, cs = [.int .i64 N, .slice A0 (List.length fs) c] ∧ fs.length ≤ c ∧ RF w A0 fs ∧ I64 N ∧ ∀ f ∈ fs, ∀ l ∈ f, ∀ z ∈ l, I64 z := by
  obtain ⟨y0, y1, n, _, hl, h0, h1⟩ := ChangeShapes.trod_struct2 Tryz.underlying28 h
  have hl2 : cs.length = 2 := hl.trans (by kernel_rfl)
  match cs, hl2 with
  | [c0, c1], _ =>
    obtain ⟨N, k, _, hw⟩ := DataW.trod_int Tryz.u3 (show DataW.trod enc Tryz.prog w base spare held n 3 [c0] = some y0 from h0)
    injection k with k
    obtain ⟨A0, c, fs, rfl, g1, g2, g3⟩ := open_faces (show DataW.trod enc Tryz.prog w base spare held n 26 [c1] = some y1 from h1)
    exact ⟨N, A0, c, fs, by rw [k], g1, g2, i64_wf hw, g3⟩
end

end Go.Proofs.YtealnhaffphamaaGreat

namespace Go.Proofs.YtealnhaffphamaaGreat
open Go.ChangeShapes Go.WideShapes Go.ChangeAt Go.RowKit

section
variable {H : Type} {enc : TypeId × Value → H}
theorem post_below {P : Program} {f : Func} {s : ChangeSpec} {apart fresh handsOn again : Bool} {W W' : World} {args : Array Value} {v : Value} {ds gs : List (DataW H)} {before pa pv : List MemPlace}
    (hW : DataW.Whole enc P f.params.toList s.vars apart W args.toList ds gs before)
    (hres : ∀ (b : Nat) (sp : Nat → Bool) (hd : Bool), DataW.TrodAll enc P W' b sp hd f.resultTypes.toList (v.resultList f.resultTypes.size) (s.fn H (ds ++ gs)).results [])
    (hargs : ∀ sp : Nat → Bool, (∀ p ∈ before, sp p.block = true) → DataW.TrodAll enc P W' 0 sp true f.params.toList args.toList (s.fn H (ds ++ gs)).args pa)
    (hvars : ∀ sp : Nat → Bool, (∀ p ∈ before, sp p.block = true) → DataW.TrodVars enc P W' sp s.vars (s.fn H (ds ++ gs)).vars pv)
    (hps : before = pa ++ pv) (hb : Below W.heap.size W W')
    (hok : ∀ (j : Nat) (t : TypeId) (r : Value), f.resultTypes[j]? = some t → (v.resultList f.resultTypes.size)[j]? = some r → Value.okWide P W' .any 0 t r) :
    s.post enc P f apart fresh handsOn again W args v W' := by
  have lt : ∀ p, p ∈ before → p.block < W.heap.size := fun p hp => hW.lt p hp
  have old : ∀ p, p ∈ before → (fun b => decide (b < W.heap.size)) p.block = true := fun p hp => decide_eq_true (lt p hp)
  refine ⟨ds, gs, before, [], pa, pv, hW, hres _ _ _, hargs _ old, hvars _ old, World.keptBut_mono (fun p hp => ⟨hp, ?_⟩) (hb.frame (· ∈ before)), fun _ => ?_⟩
  · have hp' := hp
    rw [hps, List.mem_append] at hp'
    exact Or.inr hp'
  · obtain ⟨_, _, _, _, _, hz, hn⟩ := hW
    refine ⟨hok, _, _, ([] ++ pa) ++ pv, ⟨[] ++ pa, pv, trodAll_append (hargs _ (fun _ _ => rfl)) (hres _ _ _), hvars _ (fun _ _ => rfl), rfl, fun b off hp => ?_, fun ha => ?_⟩, ?_⟩
    · have hin : MemPlace.cell b off ∈ before := by rw [hps]; simpa using hp
      rw [hb.frozen (lt _ hin)]; exact hz b off hin
    · have h := hn ha
      rw [hps] at h; simpa using h
    · intro p hp _
      rw [hps]; simpa using hp
end
theorem eul_own : ownKnob Tryz.prog.godebug = none := by kernel_rfl

set_option maxRecDepth 100000 in
/-- A model as an argument: opened; the struct's value. -/
theorem arg_model {H : Type} {enc : TypeId × Value → H} {w : World} {base b0 : Nat} {spare : Nat → Bool} {held : Bool} {v : Value} {d : DataW H} {p : List MemPlace}
    (hv : Value.okWide Tryz.prog w .any b0 28 v) (h : DataW.Trod enc Tryz.prog w base spare held 28 v d p) :
    ∃ N A0 c fs, v = .agg #[.int .i64 N, .slice A0 (List.length fs) c] ∧ fs.length ≤ c ∧ RF w A0 fs ∧ I64 N ∧ ∀ f ∈ fs, ∀ l ∈ f, ∀ z ∈ l, I64 z := by
  obtain ⟨cs, rfl, _⟩ := okWide_struct Tryz.underlying28 hv
  obtain ⟨fuel, hf⟩ := h
  obtain ⟨N, A0, c, fs, e, h1, h2, h3, h4⟩ := open_model hf
  obtain ⟨cs⟩ := cs
  simp [Value.cells] at e
  subst e
  exact ⟨N, A0, c, fs, rfl, h1, h2, h3, h4⟩

end Go.Proofs.YtealnhaffphamaaGreat
