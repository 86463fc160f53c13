/- Contracts of the functions that the statement reaches, and plain lemmas: part 1 of 29. -/
import Derived.Test.YtealnhaffphamaaGreatRows
import Derived.WalkKit
import Derived.WalkSpells
import Derived.WalkLawsBesides
import Derived.Lib.Hide
import Derived.IntWalk
import Derived.RegionTactic
import Derived.OrdersIn
set_option linter.unusedVariables false
set_option linter.unusedSimpArgs false

namespace Go.Proofs.YtealnhaffphamaaGreat
open Go.RowKit
section
variable {P : Program} {ops : Array Oper} {Q : Exit → Act → World → Prop} {md : Region.Mode}

/-- Every edge that binds leads back. -/
def backB (ops : Array Oper) : Bool := (List.range ops.size).all fun i => match ops[i]? with | some o => o.after.all fun e => !Region.binds .any e || decide (e.on < i) | none => true

theorem ready_spec {listed : Array Bool} {i : Nat} : i ∈ Region.ready md ops listed ↔ i < ops.size ∧ listed.getD i true = false ∧ ∃ o, ops[i]? = some o ∧ (o.after.all fun e => !Region.binds md e || listed.getD e.on false) = true := by
  unfold Region.ready
  simp only [List.mem_filter, List.mem_range, Bool.and_eq_true, Bool.not_eq_true']
  constructor
  · rintro ⟨h1, h2, h3⟩
    refine ⟨h1, h2, _, Array.getElem?_eq_getElem h1, ?_⟩
    simpa [Array.getElem?_eq_getElem h1] using h3
  · rintro ⟨h1, h2, o, ho, h3⟩
    exact ⟨h1, h2, by rw [ho]; simpa using h3⟩

theorem all_listed (hb : backB ops = true) {listed : Array Bool} (hs : listed.size = ops.size) (hr : Region.ready .any ops listed = []) : ∀ i, i < ops.size → listed.getD i false = true := by
  intro i
  induction i using Nat.strongRecOn with
  | _ i ih =>
    intro hi
    cases hl : listed.getD i false with
    | true => rfl
    | false =>
      exfalso
      have hmem : i ∈ Region.ready .any ops listed := by
        rw [ready_spec]
        refine ⟨hi, ?_, _, Array.getElem?_eq_getElem hi, ?_⟩
        · have : i < listed.size := by omega
          simp [Array.getD, this] at hl ⊢
          exact hl
        · rw [Array.all_eq_true_iff_forall_mem]
          intro e he
          have h1 := List.all_eq_true.1 hb i (List.mem_range.2 hi)
          simp only [Array.getElem?_eq_getElem hi] at h1
          have h2 := Array.all_eq_true_iff_forall_mem.1 h1 e he
          simp only [Bool.or_eq_true, Bool.not_eq_true', decide_eq_true_eq] at h2 ⊢
          rcases h2 with h2 | h2
          · exact .inl h2
          · exact .inr (ih e.on h2 (by omega))
      rw [hr] at hmem
      simp at hmem

/-- How many are not listed yet. -/
def left (listed : Array Bool) : Nat := (listed.toList.filter fun b => !b).length
theorem left_set {listed : Array Bool} {i : Nat} (h : listed.getD i true = false) : left (listed.setIfInBounds i true) + 1 ≤ left listed := by
  have hi : i < listed.size := by
    rcases Nat.lt_or_ge i listed.size with h' | h'
    · exact h'
    · simp [Array.getD, Nat.not_lt.2 h'] at h
  obtain ⟨l⟩ := listed
  simp [Array.getD] at h hi
  unfold left
  simp only [List.setIfInBounds_toArray]
  have hget : l[i]? = some false := by
    rw [List.getElem?_eq_getElem hi]
    congr 1
    simpa [hi] using h
  clear h
  induction l generalizing i with
  | nil => simp at hi
  | cons b l ih =>
    cases i with
    | zero =>
      simp at hget
      subst hget
      simp
    | succ i =>
      simp at hget hi
      have := ih hi hget
      cases b <;> simp at this ⊢ <;> omega

theorem wpAny_inv (hb : backB ops = true) (I : Array Bool → Act → World → Prop)
    (hstep : ∀ listed, listed.size = ops.size → ∀ i, i < ops.size → ∀ a w, I listed a w → i ∈ Region.ready .any ops listed → wpOp P ops Q i (fun a' w' => I (listed.setIfInBounds i true) a' w') a w)
    (hdone : ∀ listed a w, I listed a w → (∀ i, i < ops.size → listed.getD i false = true) → Q .normal a w) :
    ∀ (fuel : Nat) (listed : Array Bool) (a : Act) (w : World), listed.size = ops.size → left listed ≤ fuel → I listed a w → wpAny P .any ops Q fuel listed a w := by
  intro fuel
  induction fuel with
  | zero =>
    intro listed a w hs hl hI
    have hr : Region.ready .any ops listed = [] := by
      cases hr : Region.ready .any ops listed with
      | nil => rfl
      | cons i _ =>
        exfalso
        have : i ∈ Region.ready .any ops listed := by rw [hr]; simp
        have h2 := left_set (ready_spec.1 this).2.1
        omega
    exact ⟨hr, hdone _ _ _ hI (all_listed hb hs hr)⟩
  | succ fuel ih =>
    intro listed a w hs hl hI
    refine ⟨fun hr => hdone _ _ _ hI (all_listed hb hs hr), fun i hi => ?_⟩
    have h1 := ready_spec.1 hi
    refine wpOp_mono (fun a' w' h => ?_) (hstep listed hs i h1.1 a w hI hi)
    exact ih _ a' w' (by simpa using hs) (by have := left_set h1.2.1; omega) h

theorem left_none (n : Nat) : left (Array.replicate n false) ≤ n := by
  unfold left
  simp

theorem wp_region_inv {id : Nat} {a : Act} {w : World} (hm : P.follows .mixedOrders = true) (hb : backB ops = true) (I : Array Bool → Act → World → Prop)
    (h0 : I (Array.replicate ops.size false) a w.drew)
    (hdone : ∀ listed a w, I listed a w → (∀ i, i < ops.size → listed.getD i false = true) → Q .normal a w)
    (hstep : ∀ listed, listed.size = ops.size → ∀ i, i < ops.size → ∀ a w, I listed a w → i ∈ Region.ready .any ops listed → wpOp P ops Q i (fun a' w' => I (listed.setIfInBounds i true) a' w') a w) :
    (Code.region id ops true).wp P Q a w :=
  wp_region_any hm (wpAny_inv hb I hstep hdone _ _ _ _ (by simp) (left_none _) h0)

variable {F : Fence} {n : Nat}
theorem wpAnyIn_inv (hb : backB ops = true) (I : Array Bool → Act → World → Prop)
    (hstep : ∀ listed, listed.size = ops.size → ∀ i, i < ops.size → ∀ a w, I listed a w → i ∈ Region.ready .any ops listed → wpOpIn F n P ops Q i (fun a' w' => I (listed.setIfInBounds i true) a' w') a w)
    (hdone : ∀ listed a w, I listed a w → (∀ i, i < ops.size → listed.getD i false = true) → Q .normal a w) :
    ∀ (fuel : Nat) (listed : Array Bool) (a : Act) (w : World), listed.size = ops.size → left listed ≤ fuel → I listed a w → wpAnyIn F n P .any ops Q fuel listed a w := by
  intro fuel
  induction fuel with
  | zero =>
    intro listed a w hs hl hI
    have hr : Region.ready .any ops listed = [] := by
      cases hr : Region.ready .any ops listed with
      | nil => rfl
      | cons i _ =>
        exfalso
        have : i ∈ Region.ready .any ops listed := by rw [hr]; simp
        have h2 := left_set (ready_spec.1 this).2.1
        omega
    exact ⟨hr, hdone _ _ _ hI (all_listed hb hs hr)⟩
  | succ fuel ih =>
    intro listed a w hs hl hI
    refine ⟨fun hr => hdone _ _ _ hI (all_listed hb hs hr), fun i hi => ?_⟩
    have h1 := ready_spec.1 hi
    refine wpOpIn_mono (fun a' w' h => ?_) (hstep listed hs i h1.1 a w hI hi)
    exact ih _ a' w' (by simpa using hs) (by have := left_set h1.2.1; omega) h

theorem wpIn_region_inv {id : Nat} {a : Act} {w : World} (hm : P.follows .mixedOrders = true) (hb : backB ops = true) (I : Array Bool → Act → World → Prop)
    (h0 : I (Array.replicate ops.size false) a w.drew)
    (hdone : ∀ listed a w, I listed a w → (∀ i, i < ops.size → listed.getD i false = true) → Q .normal a w)
    (hstep : ∀ listed, listed.size = ops.size → ∀ i, i < ops.size → ∀ a w, I listed a w → i ∈ Region.ready .any ops listed → wpOpIn F n P ops Q i (fun a' w' => I (listed.setIfInBounds i true) a' w') a w) :
    (Code.region id ops true).wpIn F n P Q a w :=
  wpIn_region_any hm (wpAnyIn_inv hb I hstep hdone _ _ _ _ (by simp) (left_none _) h0)

/-- What an operation that may come up hangs on is listed. -/
theorem dep_listed {listed : Array Bool} {i : Nat} {o : Oper} (h : i ∈ Region.ready .any ops listed) (ho : ops[i]? = some o) (j : Nat) (hj : (o.after.any fun e => Region.binds .any e && e.on == j) = true) : listed.getD j false = true := by
  obtain ⟨_, _, o', ho', h3⟩ := ready_spec.1 h
  have e : o = o' := Option.some.inj (ho.symm.trans ho')
  subst e
  obtain ⟨e, he, h4⟩ := Array.any_eq_true'.1 hj
  have h5 := Array.all_eq_true_iff_forall_mem.1 h3 e he
  simp only [Bool.and_eq_true, beq_iff_eq] at h4
  simp only [h4.1, Bool.not_true, Bool.false_or] at h5
  rw [← h4.2]
  exact h5
def depB (ops : Array Oper) (i j : Nat) : Bool := match ops[i]? with | some o => o.after.any fun e => Region.binds .any e && e.on == j | none => false
theorem dep_of {listed : Array Bool} {i : Nat} (h : i ∈ Region.ready .any ops listed) (j : Nat) (hj : depB ops i j = true) : listed.getD j false = true := by
  unfold depB at hj
  cases ho : ops[i]? with
  | none => rw [ho] at hj; simp at hj
  | some o => rw [ho] at hj; exact dep_listed h ho j hj
end

/-- The temporaries of a region: one more is known. -/
def upd (u : Nat → Value) (d : Nat) (v : Value) : Nat → Value := fun s => if s = d then v else u s
theorem upd_same (u : Nat → Value) (d : Nat) (v : Value) : upd u d v d = v := if_pos rfl
theorem upd_other (u : Nat → Value) {d s : Nat} (v : Value) (h : s ≠ d) : upd u d v s = u s := if_neg h

theorem listed_set {listed : Array Bool} {i j : Nat} (h : (listed.setIfInBounds i true).getD j false = true) : j = i ∨ listed.getD j false = true := by
  by_cases e : j = i
  · exact .inl e
  · right
    rw [← h]
    simp only [Array.getD, Array.size_setIfInBounds]
    split
    · simp only [Array.getInternal_eq_getElem]
      rw [Array.getElem_setIfInBounds_ne (by assumption) (fun h => e h.symm)]
    · rfl

/-- A block known whole. -/
def Blk (W : World) (b : Nat) (o : Obj) : Prop := W.heap[b]? = some o
theorem Blk.lt {W : World} {b : Nat} {o : Obj} (h : Blk W b o) : b < W.heap.size := (Array.getElem?_eq_some_iff.1 h).1
theorem Blk.below {W W1 : World} {b B : Nat} {o : Obj} (h : Blk W b o) (hb : Below B W W1) (hB : b < B) : Blk W1 b o := by unfold Blk at *; rw [hb.block b hB]; exact h
theorem listed_more {listed : Array Bool} {i j : Nat} (h : listed.getD j false = true) : (listed.setIfInBounds i true).getD j false = true := by
  simp only [Array.getD, Array.size_setIfInBounds] at h ⊢
  split at h
  · rename_i hj
    rw [dif_pos hj]
    simp only [Array.getInternal_eq_getElem] at h ⊢
    rw [Array.getElem_setIfInBounds]
    split
    · rfl
    · exact h
  · simp at h

/-- Which of a region's operations and temporaries clash with operation i, temporary d. -/
def clashV (vals : List (Nat × Nat)) (i d : Nat) : Bool := vals.all fun x => if x.1 = i then x.2 == d else x.2 != d
theorem blk_cells {W : World} {b : Nat} {c : Array Value} {t : TypeId} (h : Blk W b (.cells c t)) : (∀ o (x : Value), c[o]? = some x → W.cell? ⟨b, o, none⟩ = some x) ∧ (∀ o, W.frozen? ⟨b, o, none⟩ = false) := by
  unfold Blk at h
  refine ⟨fun o x hx => ?_, fun o => ?_⟩
  · simp only [World.cell?, h]; simpa using hx
  · simp [World.frozen?, h]
theorem blk_set {W : World} {b o : Nat} {c : Array Value} {t : TypeId} {x : Value} (h : Blk W b (.cells c t)) : Blk (W.setCell ⟨b, o, none⟩ x) b (.cells (c.setIfInBounds o x) t) := by
  unfold Blk at *
  simp [World.setCell, Array.getElem?_modify, h]
theorem blk_other {W : World} {b b' o : Nat} {ob : Obj} {x : Value} (h : Blk W b ob) (hne : b ≠ b') : Blk (W.setCell ⟨b', o, none⟩ x) b ob := by
  unfold Blk at *
  rw [Below.heap_setCell _ _ _ _ (by show b ≠ b'; exact hne)]; exact h
theorem blk_new (W : World) (o : Obj) : Blk (W.alloc o) W.heap.size o := by
  unfold Blk; show (W.heap.push _)[W.heap.size]? = _; simp
theorem Blk.alloc {W : World} {b : Nat} {o o' : Obj} (h : Blk W b o) : Blk (W.alloc o') b o := h.below ((Below.refl W.heap.size W).alloc (Nat.le_refl _) _) h.lt

/-- The state of a region: I what is known of memory, S what is known of each temporary that has been drawn. -/
structure IR (I : World → Prop) (S : Nat → World → Value → Prop) (vals : List (Nat × Nat)) (listed : Array Bool) (t : Nat → Value) (W : World) : Prop where
  fin : I W
  val : ∀ x ∈ vals, listed.getD x.1 false = true → S x.2 W (t x.2)
section
variable {I : World → Prop} {S : Nat → World → Value → Prop} {vals : List (Nat × Nat)} {listed : Array Bool} {t : Nat → Value} {W W1 : World}
theorem IR.start (n : Nat) (h : I W) (t : Nat → Value) : IR I S vals (Array.replicate n false) t W :=
  ⟨h, fun x _ hl => by simp only [Array.getD] at hl; split at hl <;> simp at hl⟩
theorem IR.yields {i d : Nat} {v : Value} (h : IR I S vals listed t W) (hI : I W1) (hm : ∀ d v, S d W v → S d W1 v) (hv : S d W1 v) (h1 : clashV vals i d = true) : IR I S vals (listed.setIfInBounds i true) (upd t d v) W1 := by
  refine ⟨hI, fun x hx hl => ?_⟩
  have hc := List.all_eq_true.1 h1 x hx
  by_cases e : x.1 = i
  · rw [if_pos e] at hc
    have : x.2 = d := by simpa using hc
    rw [this, upd_same]; exact hv
  · rw [if_neg e] at hc
    rw [upd_other _ _ (by simpa using hc)]
    exact hm _ _ (h.val x hx ((listed_set hl).resolve_left e))
theorem IR.stores {i : Nat} (h : IR I S vals listed t W) (hI : I W1) (hm : ∀ d v, S d W v → S d W1 v) (h1 : (vals.all fun x => x.1 != i) = true) : IR I S vals (listed.setIfInBounds i true) t W1 := by
  refine ⟨hI, fun x hx hl => ?_⟩
  have hc := List.all_eq_true.1 h1 x hx
  simp only [bne_iff_ne, ne_eq] at hc
  exact hm _ _ (h.val x hx ((listed_set hl).resolve_left hc))
end
theorem getD_set_ne {listed : Array Bool} {i k : Nat} (hne : i ≠ k) : (listed.setIfInBounds i true).getD k false = listed.getD k false := by
  simp [Array.getD_eq_getD_getElem?, Array.getElem?_setIfInBounds_ne hne]
theorem getD_tf {listed : Array Bool} {i : Nat} (h : listed.getD i true = false) : listed.getD i false = false ∧ (listed.setIfInBounds i true).getD i false = true := by
  simp only [Array.getD_eq_getD_getElem?] at h ⊢
  cases hh : listed[i]? with
  | none => rw [hh] at h; simp at h
  | some b =>
    rw [hh] at h
    have hl := (Array.getElem?_eq_some_iff.1 hh).1
    simp at h
    simp [h, Array.getElem?_setIfInBounds, hl]

/-- What an operation hangs on is listed wherever it is. -/
def Cl (ops : Array Oper) (listed : Array Bool) : Prop := ∀ k, listed.getD k false = true → ∀ j, depB ops k j = true → listed.getD j false = true
def reachB (ops : Array Oper) : Nat → Nat → Nat → Bool
  | 0, k, i => k == i
  | n + 1, k, i => k == i || (List.range ops.size).any fun j => depB ops k j && reachB ops n j i
theorem Cl.reach {ops : Array Oper} {listed : Array Bool} (h : Cl ops listed) : ∀ (n k i : Nat), reachB ops n k i = true → listed.getD k false = true → listed.getD i false = true
  | 0, k, i, hr, hk => by
    have : k = i := by simpa [reachB] using hr
    rwa [← this]
  | n + 1, k, i, hr, hk => by
    simp only [reachB, Bool.or_eq_true, beq_iff_eq, List.any_eq_true, Bool.and_eq_true] at hr
    rcases hr with rfl | ⟨j, _, h1, h2⟩
    · exact hk
    · exact h.reach n j i h2 (h k hk j h1)
theorem Cl.not {ops : Array Oper} {listed : Array Bool} (h : Cl ops listed) {i k : Nat} (hi : i ∈ Region.ready .any ops listed) (n : Nat) (hr : reachB ops n k i = true) : listed.getD k false = false := by
  cases hk : listed.getD k false with
  | false => rfl
  | true =>
    have h1 := h.reach n k i hr hk
    have h2 := (getD_tf (ready_spec.1 hi).2.1).1
    rw [h1] at h2; simp at h2
theorem Cl.start (ops : Array Oper) (n : Nat) : Cl ops (Array.replicate n false) := fun k hk => by
  simp only [Array.getD] at hk
  split at hk <;> simp at hk
theorem Cl.step {ops : Array Oper} {listed : Array Bool} (h : Cl ops listed) {i : Nat} (hi : i ∈ Region.ready .any ops listed) : Cl ops (listed.setIfInBounds i true) := fun k hk j hd => by
  rcases listed_set hk with rfl | hk
  · exact listed_more (dep_of hi j hd)
  · exact listed_more (h k hk j hd)
section
variable {P : Program} {ops : Array Oper} {Q : Exit → Act → World → Prop} {F : Fence} {n : Nat}
theorem wp_region_inv' {id : Nat} {a : Act} {w : World} (hm : P.follows .mixedOrders = true) (hb : backB ops = true) (I : Array Bool → Act → World → Prop)
    (h0 : I (Array.replicate ops.size false) a w.drew)
    (hdone : ∀ listed a w, I listed a w → (∀ i, i < ops.size → listed.getD i false = true) → Q .normal a w)
    (hstep : ∀ listed, Cl ops listed → ∀ i, i < ops.size → ∀ a w, I listed a w → i ∈ Region.ready .any ops listed → wpOp P ops Q i (fun a' w' => I (listed.setIfInBounds i true) a' w') a w) :
    (Code.region id ops true).wp P Q a w :=
  wp_region_inv hm hb (fun listed a w => Cl ops listed ∧ I listed a w) ⟨Cl.start _ _, h0⟩ (fun listed a w h hl => hdone listed a w h.2 hl)
    (fun listed _ i hi a w h hr => wpOp_mono (fun a' w' hI => ⟨h.1.step hr, hI⟩) (hstep listed h.1 i hi a w h.2 hr))
theorem wpIn_region_inv' {id : Nat} {a : Act} {w : World} (hm : P.follows .mixedOrders = true) (hb : backB ops = true) (I : Array Bool → Act → World → Prop)
    (h0 : I (Array.replicate ops.size false) a w.drew)
    (hdone : ∀ listed a w, I listed a w → (∀ i, i < ops.size → listed.getD i false = true) → Q .normal a w)
    (hstep : ∀ listed, Cl ops listed → ∀ i, i < ops.size → ∀ a w, I listed a w → i ∈ Region.ready .any ops listed → wpOpIn F n P ops Q i (fun a' w' => I (listed.setIfInBounds i true) a' w') a w) :
    (Code.region id ops true).wpIn F n P Q a w :=
  wpIn_region_inv hm hb (fun listed a w => Cl ops listed ∧ I listed a w) ⟨Cl.start _ _, h0⟩ (fun listed a w h hl => hdone listed a w h.2 hl)
    (fun listed _ i hi a w h hr => wpOpIn_mono (fun a' w' hI => ⟨h.1.step hr, hI⟩) (hstep listed h.1 i hi a w h.2 hr))
end

/-- .. and what holds till operation k is drawn: S what is known of temporaries whatever the world, T what is known of those that are drawn from k on. -/
structure IRC (J : World → Prop) (k : Nat) (S : Nat → Value → Prop) (T : Nat → World → Value → Prop) (vals late : List (Nat × Nat)) (listed : Array Bool) (t : Nat → Value) (W : World) : Prop where
  val : ∀ x ∈ vals, listed.getD x.1 false = true → S x.2 (t x.2)
  lat : ∀ x ∈ late, listed.getD x.1 false = true → T x.2 W (t x.2)
  old : listed.getD k false = false → J W
section
variable {J : World → Prop} {k : Nat} {S : Nat → Value → Prop} {T : Nat → World → Value → Prop} {vals late : List (Nat × Nat)} {listed : Array Bool} {t : Nat → Value} {W W1 : World} {ops : Array Oper}
theorem none_listed {n i : Nat} (h : (Array.replicate n false).getD i false = true) : False := by
  simp only [Array.getD] at h
  split at h <;> simp at h
theorem IRC.start (n : Nat) (h : J W) (t : Nat → Value) : IRC J k S T vals late (Array.replicate n false) t W := ⟨fun _ _ h => (none_listed h).elim, fun _ _ h => (none_listed h).elim, fun _ => h⟩
theorem upd_val {S : Nat → Value → Prop} {vals : List (Nat × Nat)} {i d : Nat} {v : Value} (h : ∀ x ∈ vals, listed.getD x.1 false = true → S x.2 (t x.2)) (hv : S d v) (h1 : clashV vals i d = true) : ∀ x ∈ vals, (listed.setIfInBounds i true).getD x.1 false = true → S x.2 (upd t d v x.2) := fun x hx hl => by
  have hc := List.all_eq_true.1 h1 x hx
  by_cases e : x.1 = i
  · rw [if_pos e] at hc
    have : x.2 = d := by simpa using hc
    rw [this, upd_same]; exact hv
  · rw [if_neg e] at hc
    rw [upd_other _ _ (by simpa using hc)]
    exact h x hx ((listed_set hl).resolve_left e)
def clear0 (late : List (Nat × Nat)) (i d : Nat) : Bool := late.all fun x => x.1 != i && x.2 != d
theorem upd_clear {S : Nat → Value → Prop} {vals : List (Nat × Nat)} {i d : Nat} {v : Value} (h : ∀ x ∈ vals, listed.getD x.1 false = true → S x.2 (t x.2)) (h1 : clear0 vals i d = true) : ∀ x ∈ vals, (listed.setIfInBounds i true).getD x.1 false = true → S x.2 (upd t d v x.2) := fun x hx hl => by
  have hc := List.all_eq_true.1 h1 x hx
  simp only [Bool.and_eq_true, bne_iff_ne, ne_eq] at hc
  rw [upd_other _ _ hc.2]
  exact h x hx ((listed_set hl).resolve_left hc.1)
/-- An operation ahead of k, or one whose value hangs on no world. -/
theorem IRC.yields {i d : Nat} {v : Value} (h : IRC J k S T vals late listed t W) (hk : i ≠ k) (hv : S d v) (h1 : clashV vals i d = true) (h2 : clear0 late i d = true) : IRC J k S T vals late (listed.setIfInBounds i true) (upd t d v) W :=
  ⟨upd_val h.val hv h1, upd_clear (S := fun d v => T d W v) h.lat h2, fun hl => h.old (by rwa [getD_set_ne hk] at hl)⟩
/-- One behind k. -/
theorem IRC.lates {i d : Nat} {v : Value} (h : IRC J k S T vals late listed t W) (hk : i ≠ k) (hv : T d W v) (h1 : clear0 vals i d = true) (h2 : clashV late i d = true) : IRC J k S T vals late (listed.setIfInBounds i true) (upd t d v) W :=
  ⟨upd_clear h.val h1, upd_val (S := fun d v => T d W v) h.lat hv h2, fun hl => h.old (by rwa [getD_set_ne hk] at hl)⟩
theorem getD_set_eq {listed : Array Bool} {i : Nat} (h : listed.getD i true = false) : (listed.setIfInBounds i true).getD i false = true := by
  have hi : i < listed.size := by
    rcases Nat.lt_or_ge i listed.size with h' | h'
    · exact h'
    · simp [Array.getD, Nat.not_lt.2 h'] at h
  simp [Array.getD, hi]
/-- k itself: the world turns. -/
theorem IRC.turns {d : Nat} {v : Value} (h : IRC J k S T vals late listed t W) (hC : Cl ops listed) (hr : k ∈ Region.ready .any ops listed) (hl : (late.all fun x => x.1 == k || reachB ops 9 x.1 k) = true) (hv : T d W1 v) (h1 : clear0 vals k d = true) (h2 : clashV late k d = true) : IRC J k S T vals late (listed.setIfInBounds k true) (upd t d v) W1 :=
  ⟨upd_clear h.val h1, fun x hx hlx => by
    have hc := List.all_eq_true.1 h2 x hx
    have hq := List.all_eq_true.1 hl x hx
    by_cases e : x.1 = k
    · rw [if_pos e] at hc
      have : x.2 = d := by simpa using hc
      rw [this, upd_same]; exact hv
    · exfalso
      have h3 : reachB ops 9 x.1 k = true := by simpa [e] using hq
      have h4 := hC.not hr 9 h3
      rw [getD_set_ne (fun q => e q.symm)] at hlx
      rw [h4] at hlx; simp at hlx, fun h0 => by rw [getD_set_eq (ready_spec.1 hr).2.1] at h0; simp at h0⟩
end
/-- A region with one operation k that turns the world for good, and one, e, that ends it: J till k is drawn, C behind e; I always; S of the temporaries. -/
structure IRK (J : World → Prop) (k e : Nat) (C : (Nat → Value) → World → Prop) (I : World → Prop) (S : Nat → World → Value → Prop) (vals : List (Nat × Nat)) (listed : Array Bool) (t : Nat → Value) (W : World) : Prop where
  fin : I W
  vls : listed.getD e false = false → ∀ x ∈ vals, listed.getD x.1 false = true → S x.2 W (t x.2)
  old : listed.getD k false = false → J W
  new : listed.getD e false = true → C t W
section
variable {J I : World → Prop} {C : (Nat → Value) → World → Prop} {k e : Nat} {S : Nat → World → Value → Prop} {vals : List (Nat × Nat)} {listed : Array Bool} {t : Nat → Value} {W W1 : World} {ops : Array Oper}
theorem IRK.start (n : Nat) (hI : I W) (h : J W) (t : Nat → Value) : IRK J k e C I S vals (Array.replicate n false) t W := ⟨hI, fun _ _ _ h => (none_listed h).elim, fun _ => h, fun h => (none_listed h).elim⟩
theorem IRK.val {i : Nat} (h : IRK J k e C I S vals listed t W) (hC : Cl ops listed) (hr : i ∈ Region.ready .any ops listed) (hre : reachB ops 9 e i = true) (x : Nat × Nat) (hx : x ∈ vals) (hl : listed.getD x.1 false = true) : S x.2 W (t x.2) := h.vls (hC.not hr 9 hre) x hx hl
theorem IRK.yields {i d : Nat} {v : Value} (h : IRK J k e C I S vals listed t W) (hC : Cl ops listed) (hr : i ∈ Region.ready .any ops listed) (hk : i ≠ k) (he : i ≠ e) (hre : reachB ops 9 e i = true) (hI : I W1) (hJ : J W → J W1) (hm : ∀ d v, S d W v → S d W1 v) (hv : S d W1 v) (h1 : clashV vals i d = true) : IRK J k e C I S vals (listed.setIfInBounds i true) (upd t d v) W1 :=
  ⟨hI, fun _ x hx hlx => by
    have hc := List.all_eq_true.1 h1 x hx
    by_cases q : x.1 = i
    · rw [if_pos q] at hc
      have : x.2 = d := by simpa using hc
      rw [this, upd_same]; exact hv
    · rw [if_neg q] at hc
      have hne : x.2 ≠ d := by simpa using hc
      rw [upd_other _ _ hne]
      exact hm _ _ (h.val hC hr hre x hx ((listed_set hlx).resolve_left q)), fun hl => hJ (h.old (by rwa [getD_set_ne hk] at hl)), fun hl => by rw [getD_set_ne he, hC.not hr 9 hre] at hl; simp at hl⟩
theorem IRK.turns {d : Nat} {v : Value} (h : IRK J k e C I S vals listed t W) (hC : Cl ops listed) (hr : k ∈ Region.ready .any ops listed) (he : k ≠ e) (hre : reachB ops 9 e k = true) (hI : I W1) (hm : ∀ d' v, d' ≠ d → S d' W v → S d' W1 v) (hv : S d W1 v) (h1 : clashV vals k d = true) : IRK J k e C I S vals (listed.setIfInBounds k true) (upd t d v) W1 :=
  ⟨hI, fun _ x hx hlx => by
    have hc := List.all_eq_true.1 h1 x hx
    by_cases q : x.1 = k
    · rw [if_pos q] at hc
      have : x.2 = d := by simpa using hc
      rw [this, upd_same]; exact hv
    · rw [if_neg q] at hc
      have hne : x.2 ≠ d := by simpa using hc
      rw [upd_other _ _ hne]
      exact hm _ _ hne (h.val hC hr hre x hx ((listed_set hlx).resolve_left q)), fun h0 => by rw [getD_set_eq (ready_spec.1 hr).2.1] at h0; simp at h0, fun hl => by rw [getD_set_ne he, hC.not hr 9 hre] at hl; simp at hl⟩
/-- The last operation, a store. -/
theorem IRK.ends (h : IRK J k e C I S vals listed t W) (hr : e ∈ Region.ready .any ops listed) (hk : listed.getD k false = true ∨ J W1) (hne : e ≠ k) (hI : I W1) (hC : C t W1) : IRK J k e C I S vals (listed.setIfInBounds e true) t W1 :=
  ⟨hI, fun h0 => by rw [getD_set_eq (ready_spec.1 hr).2.1] at h0; simp at h0, fun h0 => hk.elim (fun hk => by rw [getD_set_ne hne, hk] at h0; simp at h0) id, fun _ => hC⟩
end

end Go.Proofs.YtealnhaffphamaaGreat
