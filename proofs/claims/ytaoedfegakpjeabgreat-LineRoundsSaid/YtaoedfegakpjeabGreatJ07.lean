/- Contracts of the functions that the statement reaches, and plain lemmas: part 7 of 25. -/
import Derived.Test.YtaoedfegakpjeabGreatJ06
import Derived.RegionTactic
import Derived.Test.YtaoedfegakpjeabGreatJ02

namespace Go.Proofs.YtaoedfegakpjeabGreat
open Go.RowKit

section
variable {P : Program} {ops : Array Oper} {Q : Exit → Act → World → Prop} {md : Region.Mode}

/-- Every edge that binds leads back. -/
def backB (ops : Array Oper) : Bool := (List.range ops.size).all fun i => match ops[i]? with | some o => o.after.all fun e => !Region.binds .any e || decide (e.on < i) | none => true

theorem ready_spec {listed : Array Bool} {i : Nat} : i ∈ Region.ready md ops listed ↔ i < ops.size ∧ listed.getD i true = false ∧ ∃ o, ops[i]? = some o ∧ (o.after.all fun e => !Region.binds md e || listed.getD e.on false) = true := by
  unfold Region.ready
  simp only [List.mem_filter, List.mem_range, Bool.and_eq_true, Bool.not_eq_true']
  constructor
  · rintro ⟨h1, h2, h3⟩
    refine ⟨h1, h2, _, Array.getElem?_eq_getElem h1, ?_⟩
    simpa [Array.getElem?_eq_getElem h1] using h3
  · rintro ⟨h1, h2, o, ho, h3⟩
    exact ⟨h1, h2, by rw [ho]; simpa using h3⟩

theorem all_listed (hb : backB ops = true) {listed : Array Bool} (hs : listed.size = ops.size) (hr : Region.ready .any ops listed = []) : ∀ i, i < ops.size → listed.getD i false = true := by
  intro i
  induction i using Nat.strongRecOn with
  | _ i ih =>
    intro hi
    cases hl : listed.getD i false with
    | true => rfl
    | false =>
      exfalso
      have hmem : i ∈ Region.ready .any ops listed := by
        rw [ready_spec]
        refine ⟨hi, ?_, _, Array.getElem?_eq_getElem hi, ?_⟩
        · have : i < listed.size := by omega
          simp [Array.getD, this] at hl ⊢
          exact hl
        · rw [Array.all_eq_true_iff_forall_mem]
          intro e he
          have h1 := List.all_eq_true.1 hb i (List.mem_range.2 hi)
          simp only [Array.getElem?_eq_getElem hi] at h1
          have h2 := Array.all_eq_true_iff_forall_mem.1 h1 e he
          simp only [Bool.or_eq_true, Bool.not_eq_true', decide_eq_true_eq] at h2 ⊢
          rcases h2 with h2 | h2
          · exact .inl h2
          · exact .inr (ih e.on h2 (by omega))
      rw [hr] at hmem
      simp at hmem

/-- How many are not listed yet. -/
def left (listed : Array Bool) : Nat := (listed.toList.filter fun b => !b).length
theorem left_set {listed : Array Bool} {i : Nat} (h : listed.getD i true = false) : left (listed.setIfInBounds i true) + 1 ≤ left listed := by
  have hi : i < listed.size := by
    rcases Nat.lt_or_ge i listed.size with h' | h'
    · exact h'
    · simp [Array.getD, Nat.not_lt.2 h'] at h
  obtain ⟨l⟩ := listed
  simp [Array.getD] at h hi
  unfold left
  simp only [List.setIfInBounds_toArray]
  have hget : l[i]? = some false := by
    rw [List.getElem?_eq_getElem hi]
    congr 1
    simpa [hi] using h
  clear h
  induction l generalizing i with
  | nil => simp at hi
  | cons b l ih =>
    cases i with
    | zero =>
      simp at hget
      subst hget
      simp
    | succ i =>
      simp at hget hi
      have := ih hi hget
      cases b <;> simp at this ⊢ <;> omega

theorem wpAny_inv (hb : backB ops = true) (I : Array Bool → Act → World → Prop)
    (hstep : ∀ listed, listed.size = ops.size → ∀ i, i < ops.size → ∀ a w, I listed a w → i ∈ Region.ready .any ops listed → wpOp P ops Q i (fun a' w' => I (listed.setIfInBounds i true) a' w') a w)
    (hdone : ∀ listed a w, I listed a w → (∀ i, i < ops.size → listed.getD i false = true) → Q .normal a w) :
    ∀ (fuel : Nat) (listed : Array Bool) (a : Act) (w : World), listed.size = ops.size → left listed ≤ fuel → I listed a w → wpAny P .any ops Q fuel listed a w := by
  intro fuel
  induction fuel with
  | zero =>
    intro listed a w hs hl hI
    have hr : Region.ready .any ops listed = [] := by
      cases hr : Region.ready .any ops listed with
      | nil => rfl
      | cons i _ =>
        exfalso
        have : i ∈ Region.ready .any ops listed := by rw [hr]; simp
        have h2 := left_set (ready_spec.1 this).2.1
        omega
    exact ⟨hr, hdone _ _ _ hI (all_listed hb hs hr)⟩
  | succ fuel ih =>
    intro listed a w hs hl hI
    refine ⟨fun hr => hdone _ _ _ hI (all_listed hb hs hr), fun i hi => ?_⟩
    have h1 := ready_spec.1 hi
    refine wpOp_mono (fun a' w' h => ?_) (hstep listed hs i h1.1 a w hI hi)
    exact ih _ a' w' (by simpa using hs) (by have := left_set h1.2.1; omega) h

theorem left_none (n : Nat) : left (Array.replicate n false) ≤ n := by
  unfold left
  simp

theorem wp_region_inv {id : Nat} {a : Act} {w : World} (hm : P.follows .mixedOrders = true) (hb : backB ops = true) (I : Array Bool → Act → World → Prop)
    (h0 : I (Array.replicate ops.size false) a w.drew)
    (hdone : ∀ listed a w, I listed a w → (∀ i, i < ops.size → listed.getD i false = true) → Q .normal a w)
    (hstep : ∀ listed, listed.size = ops.size → ∀ i, i < ops.size → ∀ a w, I listed a w → i ∈ Region.ready .any ops listed → wpOp P ops Q i (fun a' w' => I (listed.setIfInBounds i true) a' w') a w) :
    (Code.region id ops true).wp P Q a w :=
  wp_region_any hm (wpAny_inv hb I hstep hdone _ _ _ _ (by simp) (left_none _) h0)

/-- What an operation that may come up hangs on is listed. -/
theorem dep_listed {listed : Array Bool} {i : Nat} {o : Oper} (h : i ∈ Region.ready .any ops listed) (ho : ops[i]? = some o) (j : Nat) (hj : (o.after.any fun e => Region.binds .any e && e.on == j) = true) : listed.getD j false = true := by
  obtain ⟨_, _, o', ho', h3⟩ := ready_spec.1 h
  have e : o = o' := Option.some.inj (ho.symm.trans ho')
  subst e
  obtain ⟨e, he, h4⟩ := Array.any_eq_true'.1 hj
  have h5 := Array.all_eq_true_iff_forall_mem.1 h3 e he
  simp only [Bool.and_eq_true, beq_iff_eq] at h4
  simp only [h4.1, Bool.not_true, Bool.false_or] at h5
  rw [← h4.2]
  exact h5
def depB (ops : Array Oper) (i j : Nat) : Bool := match ops[i]? with | some o => o.after.any fun e => Region.binds .any e && e.on == j | none => false
theorem dep_of {listed : Array Bool} {i : Nat} (h : i ∈ Region.ready .any ops listed) (j : Nat) (hj : depB ops i j = true) : listed.getD j false = true := by
  unfold depB at hj
  cases ho : ops[i]? with
  | none => rw [ho] at hj; simp at hj
  | some o => rw [ho] at hj; exact dep_listed h ho j hj
end

/-- The temporaries of a region: one more is known. -/
def upd (u : Nat → Value) (d : Nat) (v : Value) : Nat → Value := fun s => if s = d then v else u s
theorem upd_same (u : Nat → Value) (d : Nat) (v : Value) : upd u d v d = v := if_pos rfl
theorem upd_other (u : Nat → Value) {d s : Nat} (v : Value) (h : s ≠ d) : upd u d v s = u s := if_neg h

theorem listed_set {listed : Array Bool} {i j : Nat} (h : (listed.setIfInBounds i true).getD j false = true) : j = i ∨ listed.getD j false = true := by
  by_cases e : j = i
  · exact .inl e
  · right
    rw [← h]
    simp only [Array.getD, Array.size_setIfInBounds]
    split
    · simp only [Array.getInternal_eq_getElem]
      rw [Array.getElem_setIfInBounds_ne (by assumption) (fun h => e h.symm)]
    · rfl

/-- The state of a region: V the values of its temporaries, 'als' the operations that make a block (with their temporary and the block's cells), 'sts' those that store (with the temporary of the pointer), C what they store. -/
structure Rg (W0 : World) (V : Nat → Value) (C : Nat → List Value) (vals : List (Nat × Nat)) (als : List (Nat × Nat × Nat)) (sts : List (Nat × Nat)) (listed : Array Bool) (u : Nat → Value) (w : World) : Prop where
  below : Below W0.heap.size W0 w
  val : ∀ x ∈ vals, listed.getD x.1 false = true → u x.2 = V x.2
  ali : ∀ x ∈ als, listed.getD x.1 false = true → ∃ b, u x.2.1 = .pointer (some ⟨b, 0, none⟩) ∧ W0.heap.size ≤ b ∧ b < w.heap.size ∧ Room w b x.2.2
  dis : ∀ x ∈ als, ∀ y ∈ als, x.1 ≠ y.1 → listed.getD x.1 false = true → listed.getD y.1 false = true → u x.2.1 ≠ u y.2.1
  sto : ∀ x ∈ sts, listed.getD x.1 false = true → ∃ b, u x.2 = .pointer (some ⟨b, 0, none⟩) ∧ b < w.heap.size ∧ (∀ i v, (C x.1)[i]? = some v → w.cell? ⟨b, i, none⟩ = some v) ∧ ∃ y ∈ als, y.2.1 = x.2 ∧ listed.getD y.1 false = true

section
variable {W0 w w1 : World} {V : Nat → Value} {C : Nat → List Value} {vals : List (Nat × Nat)} {als : List (Nat × Nat × Nat)} {sts : List (Nat × Nat)} {listed : Array Bool} {u : Nat → Value}

theorem listed_getD {i : Nat} (h : listed.getD i false = true) : listed.getD i true = true := by
  simp only [Array.getD] at h ⊢
  split at h
  · rename_i hj; rw [dif_pos hj]; exact h
  · simp at h
theorem listed_more {i j : Nat} (h : listed.getD j false = true) : (listed.setIfInBounds i true).getD j false = true := by
  simp only [Array.getD, Array.size_setIfInBounds] at h ⊢
  split at h
  · rename_i hj
    rw [dif_pos hj]
    simp only [Array.getInternal_eq_getElem] at h ⊢
    rw [Array.getElem_setIfInBounds]
    split
    · rfl
    · exact h
  · simp at h

theorem Rg.start (n : Nat) (u : Nat → Value) : Rg W0 V C vals als sts (Array.replicate n false) u W0 := by
  have h : ∀ i, (Array.replicate n false).getD i false = true → False := fun i h => by
    simp only [Array.getD] at h
    split at h <;> simp at h
  exact ⟨Below.refl _ _, fun x _ hl => (h _ hl).elim, fun x _ hl => (h _ hl).elim, fun x _ y _ _ hl => (h _ hl).elim, fun x _ hl => (h _ hl).elim⟩

/-- Which of a region's operations and temporaries clash with operation i, temporary d. -/
def clashV (vals : List (Nat × Nat)) (i d : Nat) : Bool := vals.all fun x => if x.1 = i then x.2 == d else x.2 != d
def clashA (als : List (Nat × Nat × Nat)) (i d : Nat) : Bool := als.all fun x => x.1 != i && x.2.1 != d
def clashS (sts : List (Nat × Nat)) (i d : Nat) : Bool := sts.all fun x => x.1 != i && x.2 != d

/-- An operation that yields a value, in a world that has grown by blocks alone. -/
theorem Rg.yields {i d : Nat} {v : Value} (h : Rg W0 V C vals als sts listed u w) (hb : Below w.heap.size w w1) (hv : v = V d) (h1 : clashV vals i d = true) (h2 : clashA als i d = true) (h3 : clashS sts i d = true) :
    Rg W0 V C vals als sts (listed.setIfInBounds i true) (upd u d v) w1 := by
  have hs := h.below.size
  refine ⟨h.below.trans (hb.mono hs), fun x hx hl => ?_, fun x hx hl => ?_, fun x hx y hy hne hl hk => ?_, fun x hx hl => ?_⟩
  · have hc := List.all_eq_true.1 h1 x hx
    by_cases e : x.1 = i
    · rw [if_pos e] at hc
      have : x.2 = d := by simpa using hc
      rw [this, upd_same]; exact hv
    · rw [if_neg e] at hc
      rw [upd_other _ _ (by simpa using hc)]
      exact h.val x hx ((listed_set hl).resolve_left e)
  · have hc := List.all_eq_true.1 h2 x hx
    simp only [Bool.and_eq_true, bne_iff_ne, ne_eq] at hc
    rw [upd_other _ _ hc.2]
    obtain ⟨b, e1, e2, e3, c, t, e4, e5⟩ := h.ali x hx ((listed_set hl).resolve_left hc.1)
    exact ⟨b, e1, e2, Nat.lt_of_lt_of_le e3 hb.size, c, t, e4, by rw [hb.block b e3]; exact e5⟩
  · have hc := List.all_eq_true.1 h2 x hx
    have hd := List.all_eq_true.1 h2 y hy
    simp only [Bool.and_eq_true, bne_iff_ne, ne_eq] at hc hd
    rw [upd_other _ _ hc.2, upd_other _ _ hd.2]
    exact h.dis x hx y hy hne ((listed_set hl).resolve_left hc.1) ((listed_set hk).resolve_left hd.1)
  · have hc := List.all_eq_true.1 h3 x hx
    simp only [Bool.and_eq_true, bne_iff_ne, ne_eq] at hc
    rw [upd_other _ _ hc.2]
    obtain ⟨b, e1, e2, e3, y, e4, e5, e6⟩ := h.sto x hx ((listed_set hl).resolve_left hc.1)
    exact ⟨b, e1, Nat.lt_of_lt_of_le e2 hb.size, fun j z hj => (hb.cell (p := ⟨b, j, none⟩) e2).trans (e3 j z hj), y, e4, e5, listed_more e6⟩

/-- Operation i makes the block of temporary d, and no other does. -/
def makesA (als : List (Nat × Nat × Nat)) (i d n : Nat) : Bool := als.all fun x => if x.1 = i then x.2.1 == d && x.2.2 == n else x.2.1 != d
def apartV (vals : List (Nat × Nat)) (i d : Nat) : Bool := vals.all fun x => x.1 != i && x.2 != d

theorem Rg.makes {i d n : Nat} {c : Array Value} {t : TypeId} (h : Rg W0 V C vals als sts listed u w) (hc : c.size = n) (hi : listed.getD i true = false) (h1 : apartV vals i d = true) (h2 : makesA als i d n = true) (h3 : (sts.all fun x => x.1 != i) = true) :
    Rg W0 V C vals als sts (listed.setIfInBounds i true) (upd u d (.pointer (some ⟨w.heap.size, 0, none⟩))) (w.alloc (.cells c t)) := by
  have hs := h.below.size
  refine ⟨h.below.alloc hs _, fun x hx hl => ?_, fun x hx hl => ?_, fun x hx y hy hne hl hk => ?_, fun x hx hl => ?_⟩
  · have hc := List.all_eq_true.1 h1 x hx
    simp only [Bool.and_eq_true, bne_iff_ne, ne_eq] at hc
    rw [upd_other _ _ hc.2]
    exact h.val x hx ((listed_set hl).resolve_left hc.1)
  · have hd := List.all_eq_true.1 h2 x hx
    by_cases e : x.1 = i
    · rw [if_pos e] at hd
      simp only [Bool.and_eq_true, beq_iff_eq] at hd
      rw [hd.1, upd_same]
      exact ⟨_, rfl, hs, by simp, Room.new (hc.trans hd.2.symm) rfl⟩
    · rw [if_neg e] at hd
      rw [upd_other _ _ (by simpa using hd)]
      obtain ⟨b, e1, e2, e3, e4⟩ := h.ali x hx ((listed_set hl).resolve_left e)
      exact ⟨b, e1, e2, by simp; omega, e4.alloc _⟩
  · have hd := List.all_eq_true.1 h2 x hx
    have he := List.all_eq_true.1 h2 y hy
    by_cases e : x.1 = i
    · have e' : ¬ y.1 = i := fun k => hne (e.trans k.symm)
      rw [if_pos e] at hd
      rw [if_neg e'] at he
      simp only [Bool.and_eq_true, beq_iff_eq] at hd
      rw [hd.1, upd_same, upd_other _ _ (by simpa using he)]
      obtain ⟨b, e1, _, e3, _⟩ := h.ali y hy ((listed_set hk).resolve_left e')
      rw [e1]
      intro k
      simp only [Value.pointer.injEq, Option.some.injEq, Addr.mk.injEq] at k
      omega
    · rw [if_neg e] at hd
      rw [upd_other _ _ (by simpa using hd)]
      by_cases e' : y.1 = i
      · rw [if_pos e'] at he
        simp only [Bool.and_eq_true, beq_iff_eq] at he
        rw [he.1, upd_same]
        obtain ⟨b, e1, _, e3, _⟩ := h.ali x hx ((listed_set hl).resolve_left e)
        rw [e1]
        intro k
        simp only [Value.pointer.injEq, Option.some.injEq, Addr.mk.injEq] at k
        omega
      · rw [if_neg e'] at he
        rw [upd_other _ _ (by simpa using he)]
        exact h.dis x hx y hy hne ((listed_set hl).resolve_left e) ((listed_set hk).resolve_left e')
  · have hd := List.all_eq_true.1 h3 x hx
    simp only [bne_iff_ne, ne_eq] at hd
    obtain ⟨b, e1, e2, e3, y, e4, e5, e6⟩ := h.sto x hx ((listed_set hl).resolve_left hd)
    have hxd : x.2 ≠ d := by
      intro e
      have hy := List.all_eq_true.1 h2 y e4
      by_cases k : y.1 = i
      · rw [k] at e6
        rw [listed_getD e6] at hi
        simp at hi
      · rw [if_neg k] at hy
        have : y.2.1 ≠ d := by simpa using hy
        exact this (e5.trans e)
    rw [upd_other _ _ hxd]
    exact ⟨b, e1, by simp; omega, fun j z hj => (((Below.refl w.heap.size w).alloc (Nat.le_refl _) (.cells c t)).cell (p := ⟨b, j, none⟩) e2).trans (e3 j z hj), y, e4, e5, listed_more e6⟩

/-- Operation i stores behind the pointer of temporary s, whose block operation k made. -/
def storesS (vals : List (Nat × Nat)) (als : List (Nat × Nat × Nat)) (sts : List (Nat × Nat)) (i s k n : Nat) : Bool := (vals.all fun x => x.1 != i) && ((als.all fun y => y.1 != i && (if y.1 = k then y.2.1 == s else true)) && ((sts.all fun x => if x.1 = i then x.2 == s else x.2 != s) && als.contains (k, s, n)))

/-- Block b alone has been written. -/
structure OnlyAt (b : Nat) (w w' : World) : Prop where
  os : w'.os = w.os
  tape : w'.tape = w.tape
  output : w'.output = w.output
  size : w'.heap.size = w.heap.size
  block : ∀ k, k ≠ b → w'.heap[k]? = w.heap[k]?
  room : ∀ n, Room w b n → Room w' b n
theorem OnlyAt.set (w : World) (b o : Nat) (v : Value) : OnlyAt b w (w.setCell ⟨b, o, none⟩ v) :=
  ⟨rfl, rfl, rfl, by simp [World.setCell], fun k hk => Below.heap_setCell _ _ _ _ hk, fun _ h => h.set _ _⟩
theorem OnlyAt.trans {b : Nat} {w w1 w2 : World} (h : OnlyAt b w w1) (k : OnlyAt b w1 w2) : OnlyAt b w w2 :=
  ⟨k.os.trans h.os, k.tape.trans h.tape, k.output.trans h.output, k.size.trans h.size, fun i hi => (k.block i hi).trans (h.block i hi), fun n hn => k.room n (h.room n hn)⟩
theorem OnlyAt.cell {b : Nat} {w w1 : World} (h : OnlyAt b w w1) {p : Addr} (hp : p.block ≠ b) : w1.cell? p = w.cell? p := World.cell?_of_block (w := w) (h.block p.block hp)

theorem Rg.stores {i s k n b : Nat} (h : Rg W0 V C vals als sts listed u w) (hk : listed.getD k false = true) (hu : u s = .pointer (some ⟨b, 0, none⟩)) (ho : OnlyAt b w w1)
    (hc : ∀ j v, (C i)[j]? = some v → w1.cell? ⟨b, j, none⟩ = some v) (h1 : storesS vals als sts i s k n = true) : Rg W0 V C vals als sts (listed.setIfInBounds i true) u w1 := by
  simp only [storesS, Bool.and_eq_true, List.contains_eq_mem, decide_eq_true_eq] at h1
  obtain ⟨g1, g2, g3, g4⟩ := h1
  obtain ⟨b', e1, e2, e3, _⟩ := h.ali _ g4 hk
  have eb : b' = b := by
    have := e1.symm.trans hu
    simpa using this
  subst eb
  refine ⟨⟨ho.os.trans h.below.os, ho.tape.trans h.below.tape, ho.output.trans h.below.output, by rw [ho.size]; exact h.below.size, fun j hj => (ho.block j (by omega)).trans (h.below.block j hj)⟩, fun x hx hl => ?_, fun x hx hl => ?_, fun x hx y hy hne hl hm => ?_, fun x hx hl => ?_⟩
  · have hd := List.all_eq_true.1 g1 x hx
    simp only [bne_iff_ne, ne_eq] at hd
    exact h.val x hx ((listed_set hl).resolve_left hd)
  · have hd := List.all_eq_true.1 g2 x hx
    simp only [Bool.and_eq_true, bne_iff_ne, ne_eq] at hd
    obtain ⟨c, f1, f2, f3, f4⟩ := h.ali x hx ((listed_set hl).resolve_left hd.1)
    refine ⟨c, f1, f2, by rw [ho.size]; exact f3, ?_⟩
    by_cases e : c = b'
    · subst e; exact ho.room _ f4
    · obtain ⟨cc, t, f5, f6⟩ := f4
      exact ⟨cc, t, f5, by rw [ho.block c e]; exact f6⟩
  · have hd := List.all_eq_true.1 g2 x hx
    have he := List.all_eq_true.1 g2 y hy
    simp only [Bool.and_eq_true, bne_iff_ne, ne_eq] at hd he
    exact h.dis x hx y hy hne ((listed_set hl).resolve_left hd.1) ((listed_set hm).resolve_left he.1)
  · have hd := List.all_eq_true.1 g3 x hx
    by_cases e : x.1 = i
    · rw [if_pos e] at hd
      have es : x.2 = s := by simpa using hd
      rw [es, e]
      exact ⟨b', e1, by rw [ho.size]; exact e3, hc, _, g4, rfl, listed_more hk⟩
    · rw [if_neg e] at hd
      have es : x.2 ≠ s := by simpa using hd
      obtain ⟨c, f1, f2, f3, y, f4, f5, f6⟩ := h.sto x hx ((listed_set hl).resolve_left e)
      have hcb : c ≠ b' := by
        intro ec
        subst ec
        have hy := List.all_eq_true.1 g2 y f4
        simp only [Bool.and_eq_true, bne_iff_ne, ne_eq] at hy
        refine h.dis y f4 _ g4 ?_ f6 hk ?_
        · intro ek
          have h5 := hy.2
          rw [if_pos ek] at h5
          exact es (by rw [← f5]; simpa using h5)
        · rw [f5, f1, e1]
      refine ⟨c, f1, by rw [ho.size]; exact f2, fun j v hj => ?_, y, f4, f5, listed_more f6⟩
      exact (ho.cell (p := ⟨c, j, none⟩) hcb).trans (f3 j v hj)
end

end Go.Proofs.YtaoedfegakpjeabGreat

namespace Go.Proofs.YtaoedfegakpjeabGreat
open Go.RowKit

theorem NumV.call {z : Int} {v : Value} {W W1 : World} (h : NumV z v W) (hb : Below W.heap.size W W1) : NumV z v W1 := h.below (Nat.le_refl _) hb
theorem NumV.digN {n : Nat} {v : Value} {W : World} (h : NumV (n : Int) v W) : ∃ ad len, v = .agg #[.bool false, .slice ad len len] ∧ Dig n ad len W := by
  obtain ⟨ad, len, rfl, hd⟩ := h.dig
  exact ⟨ad, len, by rw [decide_eq_false (by omega)], by simpa using hd⟩

/-- What is said of a temporary: its value; the number that it holds; a pair of a number and 0. -/
inductive VS
  | eq (v : Value)
  | num (z : Int)
  | duo (z : Int)
def VS.holds : VS → Value → World → Prop
  | .eq v, x, _ => x = v
  | .num z, x, W => NumV z x W
  | .duo z, x, W => ∃ v, x = .tuple #[v, .agg #[.bool false, .slice none 0 0]] ∧ NumV z v W
theorem VS.below {s : VS} {x : Value} {W W1 : World} (h : s.holds x W) (hb : Below W.heap.size W W1) : s.holds x W1 := by
  cases s with
  | eq v => exact h
  | num z => exact NumV.call h hb
  | duo z => obtain ⟨v, e, h⟩ := h; exact ⟨v, e, h.call hb⟩
theorem VS.set {s : VS} {x y : Value} {W : World} {p : Addr} (h : s.holds x W) (hp : ¬ IntB W p.block) : s.holds x (W.setCell p y) := by
  cases s with
  | eq v => exact h
  | num z => exact NumV.set h hp
  | duo z => obtain ⟨v, e, h⟩ := h; exact ⟨v, e, h.set hp⟩

/-- A block for a number. -/
def NB (W : World) (b : Nat) (c : Array Value) : Prop := c.size = 2 ∧ Blk W b (.cells c 109)
theorem NB.notInt {W : World} {b : Nat} {c : Array Value} (h : NB W b c) : ¬ IntB W b := h.2.notInt (by decide)
theorem NB.put {W : World} {b : Nat} {c : Array Value} (h : NB W b c) (x y : Value) : NB ((W.setCell ⟨b, 0, none⟩ x).setCell ⟨b, 1, none⟩ y) b #[x, y] := by
  refine ⟨rfl, ?_⟩
  obtain ⟨h1, h2⟩ := h
  unfold Blk at *
  match c, h1 with
  | ⟨[p, q]⟩, _ => simp [World.setCell, Array.getElem?_modify, h2]
theorem NB.other {W : World} {b b' : Nat} {c : Array Value} (h : NB W b c) (hb : b ≠ b') (x y : Value) : NB ((W.setCell ⟨b', 0, none⟩ x).setCell ⟨b', 1, none⟩ y) b c := by
  refine ⟨h.1, ?_⟩
  unfold NB Blk at *
  rw [Below.heap_setCell _ _ _ _ (by show b ≠ b'; exact hb), Below.heap_setCell _ _ _ _ (by show b ≠ b'; exact hb)]; exact h.2

/-- The state of such a region: S what is said of each temporary, T what is stored behind each pointer; 'als': the operation that makes the block, its temporary, the operation that stores. -/
structure RgP (W0 : World) (S T : Nat → VS) (vals : List (Nat × Nat)) (als : List (Nat × Nat × Nat)) (listed : Array Bool) (u : Nat → Value) (w : World) : Prop where
  below : Below W0.heap.size W0 w
  val : ∀ x ∈ vals, listed.getD x.1 false = true → (S x.2).holds (u x.2) w
  ali : ∀ x ∈ als, listed.getD x.1 false = true → ∃ b c, u x.2.1 = .pointer (some ⟨b, 0, none⟩) ∧ W0.heap.size ≤ b ∧ NB w b c ∧ (listed.getD x.2.2 false = true → (T x.2.1).holds (.agg c) w)
  dis : ∀ x ∈ als, ∀ y ∈ als, x.1 ≠ y.1 → listed.getD x.1 false = true → listed.getD y.1 false = true → u x.2.1 ≠ u y.2.1
  ord : ∀ x ∈ als, listed.getD x.2.2 false = true → listed.getD x.1 false = true

section
variable {W0 w w1 : World} {S T : Nat → VS} {vals : List (Nat × Nat)} {als : List (Nat × Nat × Nat)} {listed : Array Bool} {u : Nat → Value}

theorem RgP.start (n : Nat) (u : Nat → Value) : RgP W0 S T vals als (Array.replicate n false) u W0 := by
  have h : ∀ i, (Array.replicate n false).getD i false = true → False := fun i h => by
    simp only [Array.getD] at h
    split at h <;> simp at h
  exact ⟨Below.refl _ _, fun x _ hl => (h _ hl).elim, fun x _ hl => (h _ hl).elim, fun x _ y _ _ hl => (h _ hl).elim, fun x _ hl => (h _ hl).elim⟩

def clashP (als : List (Nat × Nat × Nat)) (i d : Nat) : Bool := als.all fun x => x.1 != i && (x.2.1 != d && x.2.2 != i)

theorem RgP.yields {i d : Nat} {v : Value} (h : RgP W0 S T vals als listed u w) (hb : Below w.heap.size w w1) (hv : (S d).holds v w1) (h1 : clashV vals i d = true) (h2 : clashP als i d = true) :
    RgP W0 S T vals als (listed.setIfInBounds i true) (upd u d v) w1 := by
  have hs := h.below.size
  refine ⟨h.below.trans (hb.mono hs), fun x hx hl => ?_, fun x hx hl => ?_, fun x hx y hy hne hl hk => ?_, fun x hx hl => ?_⟩
  · have hc := List.all_eq_true.1 h1 x hx
    by_cases e : x.1 = i
    · rw [if_pos e] at hc
      have : x.2 = d := by simpa using hc
      rw [this, upd_same]; exact hv
    · rw [if_neg e] at hc
      rw [upd_other _ _ (by simpa using hc)]
      exact VS.below (h.val x hx ((listed_set hl).resolve_left e)) hb
  · have hc := List.all_eq_true.1 h2 x hx
    simp only [Bool.and_eq_true, bne_iff_ne, ne_eq] at hc
    rw [upd_other _ _ hc.2.1]
    obtain ⟨b, c, e1, e2, e3, e4⟩ := h.ali x hx ((listed_set hl).resolve_left hc.1)
    exact ⟨b, c, e1, e2, ⟨e3.1, e3.2.below hb e3.2.lt⟩, fun hk => VS.below (e4 ((listed_set hk).resolve_left hc.2.2)) hb⟩
  · have hc := List.all_eq_true.1 h2 x hx
    have hd := List.all_eq_true.1 h2 y hy
    simp only [Bool.and_eq_true, bne_iff_ne, ne_eq] at hc hd
    rw [upd_other _ _ hc.2.1, upd_other _ _ hd.2.1]
    exact h.dis x hx y hy hne ((listed_set hl).resolve_left hc.1) ((listed_set hk).resolve_left hd.1)
  · have hc := List.all_eq_true.1 h2 x hx
    simp only [Bool.and_eq_true, bne_iff_ne, ne_eq] at hc
    exact listed_more (h.ord x hx ((listed_set hl).resolve_left hc.2.2))

def makesP (als : List (Nat × Nat × Nat)) (i d : Nat) : Bool := als.all fun x => x.2.2 != i && (if x.1 = i then x.2.1 == d else x.2.1 != d)

theorem RgP.makes {i d : Nat} {c : Array Value} (h : RgP W0 S T vals als listed u w) (hc : c.size = 2) (hi : listed.getD i true = false) (h1 : apartV vals i d = true) (h2 : makesP als i d = true) :
    RgP W0 S T vals als (listed.setIfInBounds i true) (upd u d (.pointer (some ⟨w.heap.size, 0, none⟩))) (w.alloc (.cells c 109)) := by
  have hs := h.below.size
  have hb : Below w.heap.size w (w.alloc (.cells c 109)) := (Below.refl _ _).alloc (Nat.le_refl _) _
  refine ⟨h.below.alloc hs _, fun x hx hl => ?_, fun x hx hl => ?_, fun x hx y hy hne hl hk => ?_, fun x hx hl => ?_⟩
  · have hc := List.all_eq_true.1 h1 x hx
    simp only [Bool.and_eq_true, bne_iff_ne, ne_eq] at hc
    rw [upd_other _ _ hc.2]
    exact VS.below (h.val x hx ((listed_set hl).resolve_left hc.1)) hb
  · have hd := List.all_eq_true.1 h2 x hx
    simp only [Bool.and_eq_true, bne_iff_ne, ne_eq] at hd
    obtain ⟨hd0, hd⟩ := hd
    by_cases e : x.1 = i
    · rw [if_pos e] at hd
      have hd : x.2.1 = d := by simpa using hd
      rw [hd, upd_same]
      refine ⟨_, c, rfl, hs, ⟨hc, by unfold Blk; show (w.heap.push _)[w.heap.size]? = _; simp⟩, fun hk => ?_⟩
      have := h.ord x hx ((listed_set hk).resolve_left hd0)
      rw [e] at this
      rw [listed_getD this] at hi
      exact absurd hi (by simp)
    · rw [if_neg e] at hd
      rw [upd_other _ _ (by simpa using hd)]
      obtain ⟨b, c', e1, e2, e3, e4⟩ := h.ali x hx ((listed_set hl).resolve_left e)
      exact ⟨b, c', e1, e2, ⟨e3.1, e3.2.below hb e3.2.lt⟩, fun hk => VS.below (e4 ((listed_set hk).resolve_left hd0)) hb⟩
  · have hd := List.all_eq_true.1 h2 x hx
    have he := List.all_eq_true.1 h2 y hy
    simp only [Bool.and_eq_true, bne_iff_ne, ne_eq] at hd he
    obtain ⟨_, hd⟩ := hd
    obtain ⟨_, he⟩ := he
    by_cases e : x.1 = i
    · have e' : ¬ y.1 = i := fun k => hne (e.trans k.symm)
      rw [if_pos e] at hd
      rw [if_neg e'] at he
      have hd : x.2.1 = d := by simpa using hd
      rw [hd, upd_same, upd_other _ _ (by simpa using he)]
      obtain ⟨b, _, e1, _, e3, _⟩ := h.ali y hy ((listed_set hk).resolve_left e')
      have := e3.2.lt
      rw [e1]
      intro k
      simp only [Value.pointer.injEq, Option.some.injEq, Addr.mk.injEq] at k
      omega
    · rw [if_neg e] at hd
      rw [upd_other _ _ (by simpa using hd)]
      by_cases e' : y.1 = i
      · rw [if_pos e'] at he
        have he : y.2.1 = d := by simpa using he
        rw [he, upd_same]
        obtain ⟨b, _, e1, _, e3, _⟩ := h.ali x hx ((listed_set hl).resolve_left e)
        have := e3.2.lt
        rw [e1]
        intro k
        simp only [Value.pointer.injEq, Option.some.injEq, Addr.mk.injEq] at k
        omega
      · rw [if_neg e'] at he
        rw [upd_other _ _ (by simpa using he)]
        exact h.dis x hx y hy hne ((listed_set hl).resolve_left e) ((listed_set hk).resolve_left e')
  · have hd := List.all_eq_true.1 h2 x hx
    simp only [Bool.and_eq_true, bne_iff_ne, ne_eq] at hd
    exact listed_more (h.ord x hx ((listed_set hl).resolve_left hd.1))

/-- Operation i stores behind the pointer of temporary d, whose block operation k made. -/
def storesP (vals : List (Nat × Nat)) (als : List (Nat × Nat × Nat)) (i k d : Nat) : Bool := (vals.all fun x => x.1 != i) && ((als.all fun x => x.1 != i && (if x.1 = k then x.2.1 == d && x.2.2 == i else x.2.2 != i)) && als.contains (k, d, i))

theorem RgP.stores {i k d b : Nat} {x y : Value} (h : RgP W0 S T vals als listed u w) (hk : listed.getD k false = true) (hu : u d = .pointer (some ⟨b, 0, none⟩)) (hv : (T d).holds (.agg #[x, y]) w) (h1 : storesP vals als i k d = true) :
    RgP W0 S T vals als (listed.setIfInBounds i true) u ((w.setCell ⟨b, 0, none⟩ x).setCell ⟨b, 1, none⟩ y) := by
  simp only [storesP, Bool.and_eq_true, List.contains_eq_mem, decide_eq_true_eq] at h1
  obtain ⟨g1, g2, g3⟩ := h1
  obtain ⟨b', c, e1, e2, e3, _⟩ := h.ali _ g3 hk
  have eb : b' = b := by simpa using e1.symm.trans hu
  subst eb
  have hn := e3.notInt
  have st : ∀ {s : VS} {z : Value}, s.holds z w → s.holds z ((w.setCell ⟨b', 0, none⟩ x).setCell ⟨b', 1, none⟩ y) := fun hz => VS.set (VS.set hz hn) (fun hh => hn hh.unset)
  refine ⟨(h.below.setCell (by exact e2) _).setCell (by exact e2) _, fun z hz hl => ?_, fun z hz hl => ?_, fun z hz z' hz' hne hl hm => ?_, fun z hz hl => ?_⟩
  · have hd := List.all_eq_true.1 g1 z hz
    simp only [bne_iff_ne, ne_eq] at hd
    exact st (h.val z hz ((listed_set hl).resolve_left hd))
  · have hd := List.all_eq_true.1 g2 z hz
    simp only [Bool.and_eq_true, bne_iff_ne, ne_eq] at hd
    obtain ⟨hd1, hd2⟩ := hd
    have hl' := (listed_set hl).resolve_left hd1
    obtain ⟨b2, c2, f1, f2, f3, f4⟩ := h.ali z hz hl'
    by_cases e : z.1 = k
    · rw [if_pos e] at hd2
      simp only [Bool.and_eq_true, beq_iff_eq] at hd2
      have : b2 = b' := by rw [hd2.1, hu] at f1; simpa using f1.symm
      subst this
      refine ⟨b2, #[x, y], f1, f2, f3.put x y, fun _ => ?_⟩
      rw [hd2.1]; exact st hv
    · rw [if_neg e] at hd2
      have hne : b2 ≠ b' := by
        intro e'
        subst e'
        have := h.dis z hz (k, d, i) g3 e hl' hk
        exact this (f1.trans hu.symm)
      exact ⟨b2, c2, f1, f2, f3.other hne x y, fun hh => st (f4 ((listed_set hh).resolve_left (by simpa using hd2)))⟩
  · have hd := List.all_eq_true.1 g2 z hz
    have he := List.all_eq_true.1 g2 z' hz'
    simp only [Bool.and_eq_true, bne_iff_ne, ne_eq] at hd he
    exact h.dis z hz z' hz' hne ((listed_set hl).resolve_left hd.1) ((listed_set hm).resolve_left he.1)
  · have hd := List.all_eq_true.1 g2 z hz
    simp only [Bool.and_eq_true, bne_iff_ne, ne_eq] at hd
    obtain ⟨_, hd2⟩ := hd
    by_cases e : z.1 = k
    · rw [e]; exact listed_more hk
    · rw [if_neg e] at hd2
      exact listed_more (h.ord z hz ((listed_set hl).resolve_left (by simpa using hd2)))
end

end Go.Proofs.YtaoedfegakpjeabGreat
