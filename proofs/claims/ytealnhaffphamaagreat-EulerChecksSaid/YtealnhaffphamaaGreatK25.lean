/- Contracts of the functions that the statement reaches, and plain lemmas: part 25 of 29. -/
import Derived.Test.YtealnhaffphamaaGreatK23
import Derived.Test.YtealnhaffphamaaGreatK10
set_option linter.unusedVariables false
set_option linter.unusedSimpArgs false

namespace Go.Proofs.YtealnhaffphamaaGreat

def itN {α : Type} (s : α → α) (x : α) : Nat → α
  | 0 => x
  | k + 1 => s (itN s x k)
section
variable {α : Type} {l : List α} {s : α → α} {x : α}
theorem itN_add (s : α → α) (x : α) (a b : Nat) : itN s x (a + b) = itN s (itN s x a) b := by
  induction b with
  | zero => rfl
  | succ b ih => rw [Nat.add_succ, itN, itN, ih]
theorem itN_mem (hs : ∀ x ∈ l, s x ∈ l) (hx : x ∈ l) (k : Nat) : itN s x k ∈ l := by
  induction k with
  | zero => exact hx
  | succ k ih => exact hs _ ih
theorem itN_back (hs : ∀ x ∈ l, s x ∈ l) (hi : ∀ x ∈ l, ∀ y ∈ l, s x = s y → x = y) (hx : x ∈ l) : ∀ i d, itN s x i = itN s x (i + d) → x = itN s x d := by
  intro i
  induction i with
  | zero => intro d h; rw [Nat.zero_add] at h; exact h
  | succ i ih =>
    intro d h
    rw [show i + 1 + d = (i + d) + 1 by omega] at h
    exact ih d (hi _ (itN_mem hs hx i) _ (itN_mem hs hx (i + d)) h)
/-- The first steps. -/
def orbN (s : α → α) (x : α) (m : Nat) : List α := (List.range m).map (itN s x)
theorem orbN_mem {m : Nat} {y : α} : y ∈ orbN s x m ↔ ∃ k, k < m ∧ y = itN s x k := by
  unfold orbN
  rw [List.mem_map]
  exact ⟨fun ⟨k, h1, h2⟩ => ⟨k, List.mem_range.1 h1, h2.symm⟩, fun ⟨k, h1, h2⟩ => ⟨k, List.mem_range.2 h1, h2.symm⟩⟩
theorem orbN_nodup (hs : ∀ x ∈ l, s x ∈ l) (hi : ∀ x ∈ l, ∀ y ∈ l, s x = s y → x = y) (hx : x ∈ l) {m : Nat} (h : ∀ j, 0 < j → j < m → itN s x j ≠ x) : (orbN s x m).Nodup := by
  unfold orbN
  rw [List.nodup_iff_pairwise_ne, List.pairwise_map]
  refine List.Pairwise.imp_of_mem ?_ (List.pairwise_lt_range (n := m))
  intro a b ha hb hab e
  have h1 := List.mem_range.1 hb
  have h2 := itN_back hs hi hx a (b - a) (by rw [show a + (b - a) = b by omega]; exact e)
  exact h (b - a) (by omega) (by omega) h2.symm
theorem cyc_iff (hn : l.Nodup) (hs : ∀ x ∈ l, s x ∈ l) (hi : ∀ x ∈ l, ∀ y ∈ l, s x = s y → x = y) (hx : x ∈ l) :
    (itN s x l.length = x ∧ ∀ j, 0 < j → j < l.length → itN s x j ≠ x) ↔ ∀ y ∈ l, ∃ k, y = itN s x k := by
  have hsub : ∀ m, orbN s x m ⊆ l := fun m y hy => by
    obtain ⟨k, _, rfl⟩ := orbN_mem.1 hy
    exact itN_mem hs hx k
  have hlen : ∀ m, (orbN s x m).length = m := fun m => by simp [orbN]
  constructor
  · rintro ⟨_, h2⟩ y hy
    rcases Classical.em (y ∈ orbN s x l.length) with q | q
    · obtain ⟨k, _, e⟩ := orbN_mem.1 q; exact ⟨k, e⟩
    · exfalso
      have h3 : (y :: orbN s x l.length).Nodup := List.nodup_cons.2 ⟨q, orbN_nodup hs hi hx h2⟩
      have h4 := h3.length_le_of_subset (l₂ := l) (fun z hz => by
        rcases List.mem_cons.1 hz with rfl | hz
        · exact hy
        · exact hsub _ hz)
      rw [List.length_cons, hlen] at h4
      omega
  · intro h
    -- it comes back
    have hret : ∃ m, 0 < m ∧ itN s x m = x := by
      refine Classical.byContradiction (fun hno => ?_)
      have h3 := orbN_nodup hs hi hx (m := l.length + 1) (fun j h1 _ e => hno ⟨j, h1, e⟩)
      have h4 := h3.length_le_of_subset (hsub _)
      rw [hlen] at h4
      omega
    obtain ⟨m, ⟨hm0, hm⟩, hmin⟩ : ∃ m, (0 < m ∧ itN s x m = x) ∧ ∀ j, 0 < j → j < m → itN s x j ≠ x := by
      obtain ⟨m0, h0⟩ := hret
      have key : ∀ n, (∃ m, m ≤ n ∧ 0 < m ∧ itN s x m = x) → ∃ m, (0 < m ∧ itN s x m = x) ∧ ∀ j, 0 < j → j < m → itN s x j ≠ x := by
        intro n
        induction n with
        | zero => rintro ⟨m, h1, h2, _⟩; omega
        | succ n ih =>
          rintro ⟨m, h1, h2⟩
          rcases Classical.em (∃ m, m ≤ n ∧ 0 < m ∧ itN s x m = x) with q | q
          · exact ih q
          · exact ⟨m, h2, fun j hj hjm e => q ⟨j, by omega, hj, e⟩⟩
      exact key m0 ⟨m0, Nat.le_refl _, h0⟩
    have h3 := orbN_nodup hs hi hx hmin
    have h4 := h3.length_le_of_subset (hsub m)
    rw [hlen] at h4
    have hmod : ∀ k, itN s x (k * m) = x := by
      intro k
      induction k with
      | zero => rw [Nat.zero_mul]; rfl
      | succ k ih => rw [Nat.succ_mul, itN_add, ih, hm]
    have h5 := hn.length_le_of_subset (l₂ := orbN s x m) (fun y hy => by
      obtain ⟨k, rfl⟩ := h y hy
      refine orbN_mem.2 ⟨k % m, Nat.mod_lt _ hm0, ?_⟩
      conv => lhs; rw [← Nat.div_add_mod k m, Nat.mul_comm, itN_add, hmod])
    rw [hlen] at h5
    obtain rfl : m = l.length := by omega
    exact ⟨hm, hmin⟩
/-- What is closed both ways and holds at one place holds at all that hang together with it. -/
theorem orb_closed (hn : l.Nodup) (hs : ∀ x ∈ l, s x ∈ l) (hi : ∀ x ∈ l, ∀ y ∈ l, s x = s y → x = y) (hx : x ∈ l) {y : α} (hy : y ∈ l) : (∃ k, y = itN s x k) ↔ ∃ k, s y = itN s x k := by
  constructor
  · rintro ⟨k, rfl⟩; exact ⟨k + 1, rfl⟩
  · rintro ⟨k, hk⟩
    have hret : ∃ m, 0 < m ∧ itN s x m = x := by
      refine Classical.byContradiction (fun hno => ?_)
      have h3 := orbN_nodup hs hi hx (m := l.length + 1) (fun j h1 _ e => hno ⟨j, h1, e⟩)
      have h4 := h3.length_le_of_subset (l₂ := l) (fun y hy => by
        obtain ⟨k, _, rfl⟩ := orbN_mem.1 hy
        exact itN_mem hs hx k)
      unfold orbN at h4
      rw [List.length_map, List.length_range] at h4
      omega
    obtain ⟨m, hm0, hm⟩ := hret
    cases k with
    | zero =>
      obtain ⟨m, rfl⟩ : ∃ m', m = m' + 1 := ⟨m - 1, by omega⟩
      exact ⟨m, hi _ hy _ (itN_mem hs hx m) (hk.trans hm.symm)⟩
    | succ k => exact ⟨k, hi _ hy _ (itN_mem hs hx k) hk⟩
end

end Go.Proofs.YtealnhaffphamaaGreat

namespace Go.Proofs.YtealnhaffphamaaGreat

theorem mod_back {i n : Nat} (h : i < n) : ((i + 1) % n + n - 1) % n = i := by
  rcases Nat.lt_or_ge (i + 1) n with q | q
  · rw [Nat.mod_eq_of_lt q, show i + 1 + n - 1 = i + n by omega, Nat.add_mod_right, Nat.mod_eq_of_lt h]
  · obtain rfl : n = i + 1 := by omega
    rw [Nat.mod_self, show 0 + (i + 1) - 1 = i by omega, Nat.mod_eq_of_lt h]
theorem mod_fore {i n : Nat} (h : i < n) : ((i + n - 1) % n + 1) % n = i := by
  rcases Nat.eq_zero_or_pos i with rfl | q
  · rw [Nat.zero_add, Nat.mod_eq_of_lt (show n - 1 < n by omega), show n - 1 + 1 = n by omega, Nat.mod_self]
  · rw [show i + n - 1 = (i - 1) + n by omega, Nat.add_mod_right, Nat.mod_eq_of_lt (show i - 1 < n by omega), show i - 1 + 1 = i by omega, Nat.mod_eq_of_lt h]
theorem dart_mem {fs : Fs} {x : PV} : x ∈ dartsA fs (plsA fs) ↔ x ∈ plsA fs ∧ (lpA fs x.f x.l).length ≠ 1 := by
  unfold dartsA dartB
  rw [List.mem_filter]
  simp
/-- The place behind another one. -/
def aftP (fs : Fs) (x : PV) : PV := pvA fs x.f x.l ((x.i + 1) % (lpA fs x.f x.l).length)
/-- .. and the one before it. -/
def befP (fs : Fs) (x : PV) : PV := pvA fs x.f x.l ((x.i + (lpA fs x.f x.l).length - 1) % (lpA fs x.f x.l).length)
theorem aft_spec {fs : Fs} {x : PV} (hx : x ∈ plsA fs) : aftP fs x ∈ plsA fs ∧ (aftP fs x).v = x.a ∧ (aftP fs x).b = x.v ∧ (aftP fs x).f = x.f ∧ (aftP fs x).l = x.l := by
  obtain ⟨f, l, i, hf, hl, hi, rfl⟩ := mem_pls.1 hx
  refine ⟨mem_pls.2 ⟨f, l, _, hf, hl, Nat.mod_lt _ (by show 0 < (lpA fs f l).length; omega), rfl⟩, rfl, ?_, rfl, rfl⟩
  exact congrArg (fun j => (lpA fs f l).getD j 0) (mod_back hi)
theorem bef_spec {fs : Fs} {x : PV} (hx : x ∈ plsA fs) : befP fs x ∈ plsA fs ∧ (befP fs x).v = x.b ∧ (befP fs x).a = x.v ∧ aftP fs (befP fs x) = x := by
  obtain ⟨f, l, i, hf, hl, hi, rfl⟩ := mem_pls.1 hx
  refine ⟨mem_pls.2 ⟨f, l, _, hf, hl, Nat.mod_lt _ (by show 0 < (lpA fs f l).length; omega), rfl⟩, rfl, ?_, ?_⟩
  · exact congrArg (fun j => (lpA fs f l).getD j 0) (mod_fore hi)
  · exact congrArg (fun j => pvA fs f l j) (mod_fore hi)
section
variable {fs : Fs}
theorem step_aft (x : PV) (hx : x ∈ plsA fs) : stepP fs (dartsA fs (plsA fs)) (pl3 x) = pl3 (aftP fs (oppP (dartsA fs (plsA fs)) x)) := by
  have e := (isP_of hx).2
  unfold stepP
  rw [show pvA fs (pl3 x).1 (pl3 x).2.1 (pl3 x).2.2 = x from e.symm]
  rfl
theorem step_spec (h : EdOk fs) {x : PV} (hx : x ∈ dartsA fs (plsA fs)) : aftP fs (oppP (dartsA fs (plsA fs)) x) ∈ dartsA fs (plsA fs) ∧ (aftP fs (oppP (dartsA fs (plsA fs)) x)).v = x.v ∧ (aftP fs (oppP (dartsA fs (plsA fs)) x)).b = x.a := by
  obtain ⟨h1, h2, h3⟩ := oppP_spec h hx
  obtain ⟨h4, h5⟩ := dart_mem.1 h1
  obtain ⟨a1, a2, a3, a4, a5⟩ := aft_spec h4
  exact ⟨dart_mem.2 ⟨a1, by rw [a4, a5]; exact h5⟩, a2.trans h3, a3.trans h2⟩
theorem step_link (h : EdOk fs) {x z : PV} (hx : x ∈ dartsA fs (plsA fs)) (hz : z ∈ dartsA fs (plsA fs)) (e1 : z.v = x.v) (e2 : x.a = z.b) : z = aftP fs (oppP (dartsA fs (plsA fs)) x) := by
  obtain ⟨h4, h5⟩ := dart_mem.1 hz
  obtain ⟨b1, b2, b3, b4⟩ := bef_spec h4
  obtain ⟨h1, h2, h3⟩ := oppP_spec h hx
  have hb : befP fs z ∈ dartsA fs (plsA fs) := dart_mem.2 ⟨b1, h5⟩
  have e := oppP_uniq h hb h1 (by rw [h2, b2, e2]) (by rw [h3, b3, e1])
  rw [e, b4]
theorem pl3_inj {x y : PV} (hx : x ∈ plsA fs) (hy : y ∈ plsA fs) (h : pl3 x = pl3 y) : x = y := by
  rw [(isP_of hx).2, (isP_of hy).2]
  unfold pl3 at h
  injection h with h1 h
  injection h with h2 h3
  rw [h1, h2, h3]
theorem iter_it (fs : Fs) (ds : List PV) (p : Nat × Nat × Nat) (k : Nat) : iterP fs ds p k = itN (stepP fs ds) p k := by
  induction k with
  | zero => rfl
  | succ k ih => rw [iterP, itN, ih]
/-- The places at a node that are not alone. -/
def atD (fs : Fs) (v : Nat) : List PV := (rowsA (plsA fs) v).filter (dartB fs)
theorem atD_mem {v : Nat} {x : PV} : x ∈ atD fs v ↔ x ∈ dartsA fs (plsA fs) ∧ x.v = (v : Int) := by
  unfold atD rowsA dartsA
  simp only [List.mem_filter, beq_iff_eq]
  exact ⟨fun h => ⟨⟨h.1.1, h.2⟩, h.1.2⟩, fun h => ⟨⟨h.1.1, h.2⟩, h.1.2⟩⟩
theorem atD_nodup (h : EdOk fs) (v : Nat) : ((atD fs v).map pl3).Nodup := by
  have h1 : (atD fs v).Pairwise (fun x y => ¬ (x.v = y.v ∧ x.a = y.a)) := by
    have e : atD fs v = rowsA (dartsA fs (plsA fs)) v := by
      unfold atD rowsA dartsA
      rw [List.filter_filter, List.filter_filter]
      exact List.filter_congr (fun x _ => Bool.and_comm _ _)
    rw [e]
    exact h.1.1.sublist List.filter_sublist
  rw [List.nodup_iff_pairwise_ne, List.pairwise_map]
  refine List.Pairwise.imp_of_mem ?_ h1
  intro a b ha hb hab e
  have e2 := pl3_inj (dart_mem.1 (atD_mem.1 ha).1).1 (dart_mem.1 (atD_mem.1 hb).1).1 e
  exact hab (by rw [e2]; exact ⟨rfl, rfl⟩)
theorem atD_step (h : EdOk fs) (v : Nat) : ∀ p ∈ (atD fs v).map pl3, stepP fs (dartsA fs (plsA fs)) p ∈ (atD fs v).map pl3 := by
  intro p hp
  obtain ⟨x, hx, rfl⟩ := List.mem_map.1 hp
  obtain ⟨h1, h2⟩ := atD_mem.1 hx
  obtain ⟨a1, a2, _⟩ := step_spec h h1
  rw [step_aft x (dart_mem.1 h1).1]
  exact List.mem_map.2 ⟨_, atD_mem.2 ⟨a1, a2.trans h2⟩, rfl⟩
theorem atD_inj (h : EdOk fs) (v : Nat) : ∀ p ∈ (atD fs v).map pl3, ∀ q ∈ (atD fs v).map pl3, stepP fs (dartsA fs (plsA fs)) p = stepP fs (dartsA fs (plsA fs)) q → p = q := by
  intro p hp q hq e
  obtain ⟨x, hx, rfl⟩ := List.mem_map.1 hp
  obtain ⟨y, hy, rfl⟩ := List.mem_map.1 hq
  obtain ⟨h1, h2⟩ := atD_mem.1 hx
  obtain ⟨h3, h4⟩ := atD_mem.1 hy
  rw [step_aft x (dart_mem.1 h1).1, step_aft y (dart_mem.1 h3).1] at e
  obtain ⟨a1, _, a3⟩ := step_spec h h1
  obtain ⟨b1, _, b3⟩ := step_spec h h3
  have e2 := pl3_inj (dart_mem.1 a1).1 (dart_mem.1 b1).1 e
  have e3 : x.a = y.a := by rw [← a3, ← b3, e2]
  rw [oppP_uniq h h3 h1 (h2.trans h4.symm) e3]
theorem lon_mem {v : Nat} : lonV fs (plsA fs) v = true ↔ ∃ x ∈ rowsA (plsA fs) v, (lpA fs x.f x.l).length = 1 := by
  unfold lonV rowsA
  rw [List.any_eq_true]
  constructor
  · rintro ⟨x, hx, h⟩
    simp only [Bool.and_eq_true, beq_iff_eq] at h
    exact ⟨x, List.mem_filter.2 ⟨hx, by simpa using h.1⟩, h.2⟩
  · rintro ⟨x, hx, h⟩
    obtain ⟨h1, h2⟩ := List.mem_filter.1 hx
    exact ⟨x, h1, by simp [h, by simpa using h2]⟩
theorem node_iff (h : EdOk fs) (v : Nat) (hne : rowsA (plsA fs) v ≠ []) : NodeOk fs (dartsA fs (plsA fs)) (rowsA (plsA fs) v) ↔ NodeR fs v := by
  obtain ⟨x, rest, e⟩ := List.exists_cons_of_ne_nil hne
  have hxr : x ∈ rowsA (plsA fs) v := by rw [e]; exact List.mem_cons_self
  have hxp : x ∈ plsA fs := (List.mem_filter.1 hxr).1
  have hxv : x.v = (v : Int) := by simpa using (List.mem_filter.1 hxr).2
  have hall : (∀ y ∈ rowsA (plsA fs) v, (lpA fs y.f y.l).length ≠ 1) → atD fs v = rowsA (plsA fs) v := fun q => by
    unfold atD
    rw [List.filter_eq_self]
    intro y hy
    show ((lpA fs y.f y.l).length != 1) = true
    simpa using q y hy
  constructor
  · intro hN
    rw [e] at hN
    obtain ⟨h1, h2⟩ := node_cons.1 hN
    by_cases hl : (lpA fs x.f x.l).length = 1
    · have hr := h1 hl
      refine ⟨fun _ => by rw [e, hr]; simp, fun _ i hi => ?_⟩
      rw [e, hr] at hi
      obtain rfl : i = 0 := by simpa using hi
      exact ConnP.refl _ _
    · obtain ⟨h3, h4⟩ := h2 hl
      rw [← e] at h3 h4
      have hxd : x ∈ dartsA fs (plsA fs) := dart_mem.2 ⟨hxp, hl⟩
      have hx0 : pl3 x ∈ (atD fs v).map pl3 := List.mem_map.2 ⟨x, atD_mem.2 ⟨hxd, hxv⟩, rfl⟩
      simp only [iter_it] at h3 h4
      have hor := orbN_nodup (atD_step h v) (atD_inj h v) hx0 (m := (rowsA (plsA fs) v).length) h4
      have hlen := hor.length_le_of_subset (l₂ := (atD fs v).map pl3) (fun y hy => by
        obtain ⟨k, _, rfl⟩ := orbN_mem.1 hy
        exact itN_mem (atD_step h v) hx0 k)
      rw [List.length_map] at hlen
      unfold orbN at hlen
      rw [List.length_map, List.length_range] at hlen
      have hsub : List.Sublist (atD fs v) (rowsA (plsA fs) v) := List.filter_sublist
      have heq : atD fs v = rowsA (plsA fs) v := hsub.eq_of_length_le hlen
      have hd : ∀ y ∈ rowsA (plsA fs) v, (lpA fs y.f y.l).length ≠ 1 := fun y hy => by
        rw [← heq] at hy
        exact (dart_mem.1 (atD_mem.1 hy).1).2
      refine ⟨fun hlon => ?_, fun _ i hi => ?_⟩
      · obtain ⟨y, hy, hy1⟩ := lon_mem.1 hlon
        exact absurd hy1 (hd y hy)
      · have hc := (cyc_iff (atD_nodup h v) (atD_step h v) (atD_inj h v) hx0).1 (by rw [List.length_map, heq]; exact ⟨h3, h4⟩)
        rw [heq] at hc
        have key : ∀ k j y, (rowsA (plsA fs) v)[j]? = some y → pl3 y = itN (stepP fs (dartsA fs (plsA fs))) (pl3 x) k → ConnP (LinkP (rowsA (plsA fs) v)) j 0 := by
          intro k
          induction k with
          | zero =>
            intro j y hj hy
            have hnd := atD_nodup h v
            rw [heq] at hnd
            have hy2 : y = x := pl3_inj (List.mem_filter.1 (List.mem_of_getElem? hj)).1 hxp hy
            have hj0 : j = 0 := by
              have hjl := (List.getElem?_eq_some_iff.1 hj).1
              refine (List.getElem?_inj (l := (rowsA (plsA fs) v).map pl3) (by rw [List.length_map]; exact hjl) hnd).1 ?_
              rw [List.getElem?_map, List.getElem?_map, hj, e, List.getElem?_cons_zero, hy2]
            rw [hj0]
            exact ConnP.refl _ _
          | succ k ih =>
            intro j y hj hy
            obtain ⟨z, hz, hz2⟩ := List.mem_map.1 (itN_mem (atD_step h v) hx0 k)
            rw [heq] at hz
            obtain ⟨j', hj', hjz⟩ := List.getElem_of_mem hz
            have hz3 : (rowsA (plsA fs) v)[j']? = some z := by rw [List.getElem?_eq_getElem hj', hjz]
            have hzd : z ∈ dartsA fs (plsA fs) := dart_mem.2 ⟨(List.mem_filter.1 hz).1, hd z hz⟩
            have hyr := List.mem_of_getElem? hj
            rw [itN, ← hz2, step_aft z (dart_mem.1 hzd).1] at hy
            obtain ⟨s1, s2, s3⟩ := step_spec h hzd
            have hye := pl3_inj (List.mem_filter.1 hyr).1 (dart_mem.1 s1).1 hy
            exact (ConnP.one ⟨z, y, hz3, hj, by rw [hye, s3]⟩ : ConnP (LinkP (rowsA (plsA fs) v)) j' j).symm.trans (ih j' z hz3 hz2)
        obtain ⟨k, hk⟩ := hc (pl3 (rowsA (plsA fs) v)[i]) (List.mem_map.2 ⟨_, List.getElem_mem hi, rfl⟩)
        exact key k i _ (List.getElem?_eq_getElem hi) hk
  · rintro ⟨hN1, hN2⟩
    rw [e, node_cons, ← e]
    refine ⟨fun hl => ?_, fun hl => ?_⟩
    · have h1 := hN1 (lon_mem.2 ⟨x, hxr, hl⟩)
      rw [e, List.length_cons] at h1
      exact List.eq_nil_of_length_eq_zero (by omega)
    · have hlon : lonV fs (plsA fs) v = false := by
        rw [Bool.eq_false_iff]
        intro hq
        have h1 := hN1 hq
        obtain ⟨y, hy, hy1⟩ := lon_mem.1 hq
        rw [e] at h1 hy
        have hr : rest = [] := List.eq_nil_of_length_eq_zero (by rw [List.length_cons] at h1; omega)
        rw [hr, List.mem_singleton] at hy
        rw [hy] at hy1
        exact hl hy1
      have hd : ∀ y ∈ rowsA (plsA fs) v, (lpA fs y.f y.l).length ≠ 1 := fun y hy q => by
        have := lon_mem.2 ⟨y, hy, q⟩
        rw [hlon] at this; cases this
      have heq := hall hd
      have hxd : x ∈ dartsA fs (plsA fs) := dart_mem.2 ⟨hxp, hl⟩
      have hx0 : pl3 x ∈ (atD fs v).map pl3 := List.mem_map.2 ⟨x, atD_mem.2 ⟨hxd, hxv⟩, rfl⟩
      have hc := (cyc_iff (atD_nodup h v) (atD_step h v) (atD_inj h v) hx0).2 (fun p hp => by
        obtain ⟨y, hy, rfl⟩ := List.mem_map.1 hp
        rw [heq] at hy
        obtain ⟨i, hi, hiy⟩ := List.getElem_of_mem hy
        have hcon := hN2 hlon i hi (fun a b => (∃ z k, (rowsA (plsA fs) v)[a]? = some z ∧ pl3 z = itN (stepP fs (dartsA fs (plsA fs))) (pl3 x) k) ↔ (∃ z k, (rowsA (plsA fs) v)[b]? = some z ∧ pl3 z = itN (stepP fs (dartsA fs (plsA fs))) (pl3 x) k)) (fun a => Iff.rfl) (fun a b h => h.symm) (fun a b c h1 h2 => h1.trans h2) (fun a b hab => by
          obtain ⟨y1, z1, hy1, hz1, e1⟩ := hab
          have hy1m := List.mem_of_getElem? hy1
          have hz1m := List.mem_of_getElem? hz1
          have hy1d : y1 ∈ atD fs v := by rw [heq]; exact hy1m
          have hz1d : z1 ∈ atD fs v := by rw [heq]; exact hz1m
          have hzs := step_link h (atD_mem.1 hy1d).1 (atD_mem.1 hz1d).1 ((atD_mem.1 hz1d).2.trans (atD_mem.1 hy1d).2.symm) e1
          have hst : stepP fs (dartsA fs (plsA fs)) (pl3 y1) = pl3 z1 := by rw [step_aft y1 (dart_mem.1 (atD_mem.1 hy1d).1).1, ← hzs]
          have hoc := orb_closed (atD_nodup h v) (atD_step h v) (atD_inj h v) hx0 (y := pl3 y1) (List.mem_map.2 ⟨y1, hy1d, rfl⟩)
          rw [hst] at hoc
          constructor
          · rintro ⟨z, k, hz, hk⟩
            rw [hy1] at hz
            cases hz
            obtain ⟨k2, hk2⟩ := hoc.1 ⟨k, hk⟩
            exact ⟨z1, k2, hz1, hk2⟩
          · rintro ⟨z, k, hz, hk⟩
            rw [hz1] at hz
            cases hz
            obtain ⟨k2, hk2⟩ := hoc.2 ⟨k, hk⟩
            exact ⟨y1, k2, hy1, hk2⟩)
        obtain ⟨z, k, hz, hk⟩ := hcon.2 ⟨x, 0, by rw [e]; rfl, rfl⟩
        rw [List.getElem?_eq_getElem hi] at hz
        cases hz
        rw [← hiy]
        exact ⟨k, hk⟩)
      rw [List.length_map, heq] at hc
      simp only [iter_it]
      exact hc
end
theorem right_iff (N : Int) (fs : Fs) : RtP N fs ↔ RightP N fs := by
  have hmem : ∀ v : Nat, (plsA fs).any (fun x => x.v == (v : Int)) = true ↔ rowsA (plsA fs) v ≠ [] := by
    intro v
    rw [List.any_eq_true]
    constructor
    · rintro ⟨x, hx, h⟩ e
      have : x ∈ rowsA (plsA fs) v := List.mem_filter.2 ⟨hx, h⟩
      rw [e] at this; simp at this
    · intro h
      obtain ⟨x, hx⟩ := List.exists_mem_of_ne_nil _ h
      obtain ⟨h1, h2⟩ := List.mem_filter.1 hx
      exact ⟨x, h1, h2⟩
  have hnp : npA fs fs.length = (plsA fs).length := by rw [npA_eq, pls_len]
  constructor
  · rintro ⟨⟨a1, a2, a3, a4, a5, a6, a7, a8⟩, h2, h3⟩
    refine ⟨⟨a1, a2, ?_, a3, a4, by rw [hnp]; exact a5, a6⟩, a7, h2, fun i hi => (node_iff h2 i ((hmem i).1 (a8 i hi))).2 (h3 i hi)⟩
    have h4 := (hmem 0).1 (a8 0 (by omega))
    rcases Nat.eq_zero_or_pos fs.length with q | q
    · exfalso
      apply h4
      have : fs = [] := List.eq_nil_of_length_eq_zero q
      rw [this]
      rfl
    · exact q
  · rintro ⟨⟨a1, a2, a3, a4, a5, a6, a7⟩, h1, h2, h3⟩
    have hne : ∀ i : Nat, (i : Int) < N → rowsA (plsA fs) i ≠ [] := fun i hi e => by
      obtain ⟨x, rest, h4, _⟩ := h3 i hi
      rw [e] at h4; cases h4
    exact ⟨⟨a1, a2, a4, a5, by rw [← hnp]; exact a6, a7, h1, fun v hv => (hmem v).2 (hne v hv)⟩, h2, fun v hv => (node_iff h2 v (hne v hv)).1 (h3 v hv)⟩

end Go.Proofs.YtealnhaffphamaaGreat

namespace Go.Proofs.YtealnhaffphamaaGreat
open Go.RowKit Go.Shelf Go.Proofs.YtealnhaffphamaaGreatW.PrintWords
open Classical

/-- A region's facts, each from some operations on. -/
structure IRT (I : World → Prop) (L : List (List Nat × (World → (Nat → Value) → Prop))) (listed : Array Bool) (t : Nat → Value) (W : World) : Prop where
  fin : I W
  fact : ∀ x ∈ L, (∀ i ∈ x.1, listed.getD i false = true) → x.2 W t
section
variable {I : World → Prop} {L : List (List Nat × (World → (Nat → Value) → Prop))} {listed : Array Bool} {t t' : Nat → Value} {W W1 : World}
theorem IRT.start (n : Nat) (hI : I W) (hL : L.all (fun x => !x.1.isEmpty) = true) (t : Nat → Value) : IRT I L (Array.replicate n false) t W :=
  ⟨hI, fun x hx h => by
    have h2 := List.all_eq_true.1 hL x hx
    cases hq : x.1 with
    | nil => rw [hq] at h2; simp at h2
    | cons i r => exact (none_listed (h i (by rw [hq]; simp))).elim⟩
theorem IRT.step {i : Nat} (h : IRT I L listed t W) (hI : I W1) (hs : ∀ x ∈ L, i ∉ x.1 → (∀ j ∈ x.1, listed.getD j false = true) → x.2 W t → x.2 W1 t') (hn : ∀ x ∈ L, i ∈ x.1 → (∀ j ∈ x.1, j ≠ i → listed.getD j false = true) → x.2 W1 t') : IRT I L (listed.setIfInBounds i true) t' W1 := by
  refine ⟨hI, fun x hx hl => ?_⟩
  by_cases q : i ∈ x.1
  · exact hn x hx q (fun j hj hne => (listed_set (hl j hj)).resolve_left hne)
  · have h2 : ∀ j ∈ x.1, listed.getD j false = true := fun j hj => (listed_set (hl j hj)).resolve_left (fun e => q (e ▸ hj))
    exact hs x hx q h2 (h.fact x hx h2)
end

section
variable {base : Nat} {v : Value} {fs : Fs} {vf : Nat → Value} {vl : Nat → Nat → Value} {W W' : World}
theorem lpA_setL {fs : Fs} {f l : Nat} (hf : f < fs.length) (hl : l < (fcA fs f).length) (x : List Int) (f' l' : Nat) : lpA (setL fs f l x) f' l' = if f' = f ∧ l' = l then x else lpA fs f' l' := by
  unfold lpA
  rw [fcA_setL hf]
  by_cases e : f' = f
  · subst e
    rw [if_pos rfl, lA_set hl]
    by_cases e2 : l' = l
    · rw [if_pos e2, if_pos ⟨rfl, e2⟩]
    · rw [if_neg e2, if_neg (fun q => e2 q.2)]
  · rw [if_neg e, if_neg (fun q => e q.1)]
theorem fcA_setL_len {fs : Fs} {f l : Nat} (hf : f < fs.length) (x : List Int) (f' : Nat) : (fcA (setL fs f l x) f').length = (fcA fs f').length := by
  rw [fcA_setL hf]
  split
  · rename_i e; subst e; simp
  · rfl
/-- A number of a loop, written in place. -/
theorem MW.putAt {b n c f l i : Nat} (h : MW base v fs fs.length vf vl W) (hd : MD fs fs.length vl) (hf : f < fs.length) (hl : l < (fcA fs f).length) (hv : vl f l = .slice (some ⟨b, 0, none⟩) n c) (x : Int) :
    MW base v (setL fs f l ((lpA fs f l).set i x)) (setL fs f l ((lpA fs f l).set i x)).length vf vl (W.setCell ⟨b, i, none⟩ (.int .i64 x)) := by
  have hb : (vl f l).ownBlock = some b := by rw [hv]; rfl
  have hL := (h.face f hf).ownL l hl
  refine ⟨?_, fun f' hf' => ?_, ?_⟩
  · rw [setL_len]
    exact own_keptB h.own (grown_set _ _ _ _) (fun r q q2 => by cases q; exact own_other_types hL h.own (by decide) hb q2)
  · rw [setL_len] at hf'
    rw [fcA_setL_len hf]
    refine ⟨own_keptB (h.face f' hf').own (grown_set _ _ _ _) (fun r q q2 => by cases q; exact own_other_types hL (h.face f' hf').own (by decide) hb q2), fun l' hl' => ?_⟩
    show (W.setCell ⟨b, i, none⟩ (.int .i64 x)).ownsRow base 3 1 (vl f' l') (lpA (setL fs f l ((lpA fs f l).set i x)) f' l').length (intsV (lpA (setL fs f l ((lpA fs f l).set i x)) f' l'))
    rw [lpA_setL hf hl]
    by_cases e : f' = f ∧ l' = l
    · obtain ⟨rfl, rfl⟩ := e
      rw [if_pos ⟨rfl, rfl⟩, List.length_set]
      have hL2 : W.ownsRow base 3 1 (vl f' l') (lpA fs f' l').length (intsV (lpA fs f' l')) := hL
      have en : n = (lpA fs f' l').length := by
        rcases hL2.2 with ⟨h0, hz⟩ | ⟨g, cap, cur, he, _⟩
        · rw [hv] at h0; cases h0
        · rw [hv] at he; cases he; rfl
      rw [hv, en] at hL2 ⊢
      have := (World.ownsRow.stored hL2 i (.int .i64 x)).1
      rwa [show (intsV (lpA fs f' l')).set i (.int .i64 x) = intsV ((lpA fs f' l').set i x) by unfold intsV; rw [List.map_set]] at this
    · rw [if_neg e]
      refine own_keptB ((h.face f' hf').ownL l' hl') (grown_set _ _ _ _) (fun r q q2 => ?_)
      cases q
      have hap : Ap (vl f' l') (vl f l) := by
        by_cases e1 : f' = f
        · subst e1
          exact hd.1 f' hf l' hl' l hl (fun q => e ⟨rfl, q⟩)
        · exact hd.2 f' hf' f hf e1 l' hl' l hl
      rcases hap with z | z
      · rw [z] at q2; cases q2
      · exact z (q2.trans hb.symm)
  · rw [setL_len]; exact h.dis
theorem MD.setL {f l : Nat} (hd : MD fs fs.length vl) (hf : f < fs.length) (x : List Int) : MD (setL fs f l x) (setL fs f l x).length vl := by
  rw [setL_len]
  exact ⟨fun f' hf' => by rw [fcA_setL_len hf]; exact hd.1 f' hf', fun f' hf' f'' hf'' hne i hi j hj => by rw [fcA_setL_len hf] at hi hj; exact hd.2 f' hf' f'' hf'' hne i hi j hj⟩
variable {v2 : Value} {gs : Fs} {wf : Nat → Value} {wl : Nat → Nat → Value}
theorem map_range_app (n m : Nat) (a b : Nat → Value) : (List.range n).map a ++ (List.range m).map b = (List.range (n + m)).map (fun j => if j < n then a j else b (j - n)) := by
  refine List.ext_getElem (by simp) (fun j h1 h2 => ?_)
  rw [List.getElem_append]
  simp only [List.getElem_map, List.getElem_range, List.length_map, List.length_range]
  split <;> rfl
/-- Models joined. -/
theorem MW.join (h : MW base v fs fs.length vf vl W) (k : MW base v2 gs gs.length wf wl W) (hd : ∀ i, i < fs.length → ∀ j, j < gs.length → Ap (vf i) (wf j)) (hdv : ∀ b, v.ownBlock = some b → ¬ MB v2 gs gs.length wf wl b) {v' : Value}
    (ho : W'.ownsRow base 42 1 v' (fs.length + gs.length) ((List.range fs.length).map vf ++ (List.range gs.length).map wf)) (hg : W.grownBy W' v.ownBlock) :
    MW base v' (fs ++ gs) (fs ++ gs).length (fun j => if j < fs.length then vf j else wf (j - fs.length)) (fun j => if j < fs.length then vl j else wl (j - fs.length)) W' := by
  rw [List.length_append]
  refine ⟨by rw [← map_range_app]; exact ho, fun f hf => ?_, fun i hi j hj hij => ?_⟩
  · by_cases e : f < fs.length
    · have e1 : fcA (fs ++ gs) f = fcA fs f := by simp [fcA, List.getD_eq_getElem?_getD, List.getElem?_append_left e]
      simp only [if_pos e]
      rw [e1]
      exact (h.face f e).kept hg (fun b q => (h.face f e).apart h.own q)
    · have e1 : fcA (fs ++ gs) f = fcA gs (f - fs.length) := by simp [fcA, List.getD_eq_getElem?_getD, List.getElem?_append_right (Nat.le_of_not_lt e)]
      simp only [if_neg e]
      rw [e1]
      exact (k.face _ (by omega)).kept hg (fun b q hb => hdv b q (.inr ⟨_, by omega, hb⟩))
  · show Ap (if i < fs.length then vf i else wf (i - fs.length)) (if j < fs.length then vf j else wf (j - fs.length))
    by_cases e : i < fs.length
    · rw [if_pos e]
      by_cases e2 : j < fs.length
      · rw [if_pos e2]; exact h.dis i e j e2 hij
      · rw [if_neg e2]; exact hd i e _ (by omega)
    · rw [if_neg e]
      by_cases e2 : j < fs.length
      · rw [if_pos e2]; exact (hd j e2 _ (by omega)).symm
      · rw [if_neg e2]; exact k.dis _ (by omega) _ (by omega) (by omega)
end

/-- Numbers greater by N, so far. -/
structure ShI (N : Int) (gs hs : Fs) (P : Nat → Nat → Nat → Prop) : Prop where
  len : hs.length = gs.length
  flen : ∀ f, (fcA hs f).length = (fcA gs f).length
  llen : ∀ f l, (lpA hs f l).length = (lpA gs f l).length
  val : ∀ f l i, f < gs.length → l < (fcA gs f).length → i < (lpA gs f l).length → (lpA hs f l).getD i 0 = if P f l i then (lpA gs f l).getD i 0 + N else (lpA gs f l).getD i 0
theorem ShI.start (N : Int) (gs : Fs) : ShI N gs gs (fun _ _ _ => False) := ⟨rfl, fun _ => rfl, fun _ _ => rfl, fun _ _ _ _ _ _ => by simp⟩
theorem ShI.congr {N : Int} {gs hs : Fs} {P Q : Nat → Nat → Nat → Prop} (h : ShI N gs hs P) (e : ∀ f l i, f < gs.length → l < (fcA gs f).length → i < (lpA gs f l).length → (P f l i ↔ Q f l i)) : ShI N gs hs Q :=
  ⟨h.len, h.flen, h.llen, fun f l i hf hl hi => by
    rw [h.val f l i hf hl hi]
    have : P f l i ↔ Q f l i := e f l i hf hl hi
    simp only [this]⟩
theorem ShI.put {N : Int} {gs hs : Fs} {P : Nat → Nat → Nat → Prop} (h : ShI N gs hs P) {f l i : Nat} (hf : f < gs.length) (hl : l < (fcA gs f).length) (hi : i < (lpA gs f l).length) (hP : ¬ P f l i) :
    ShI N gs (setL hs f l ((lpA hs f l).set i ((lpA gs f l).getD i 0 + N))) (fun f' l' i' => P f' l' i' ∨ (f' = f ∧ l' = l ∧ i' = i)) := by
  have hf2 : f < hs.length := by rw [h.len]; exact hf
  have hl2 : l < (fcA hs f).length := by rw [h.flen]; exact hl
  refine ⟨by rw [setL_len]; exact h.len, fun f' => by rw [fcA_setL_len hf2]; exact h.flen f', fun f' l' => ?_, fun f' l' i' hf' hl' hi' => ?_⟩
  · rw [lpA_setL hf2 hl2]
    split
    · rename_i e; obtain ⟨rfl, rfl⟩ := e; rw [List.length_set]; exact h.llen _ _
    · exact h.llen _ _
  · rw [lpA_setL hf2 hl2]
    by_cases e : f' = f ∧ l' = l
    · obtain ⟨rfl, rfl⟩ := e
      rw [if_pos ⟨rfl, rfl⟩]
      by_cases e2 : i' = i
      · subst e2
        rw [if_pos (.inr ⟨rfl, rfl, rfl⟩)]
        rw [List.getD_eq_getElem?_getD, List.getElem?_set_self (by rw [h.llen]; exact hi)]; rfl
      · rw [List.getD_eq_getElem?_getD, List.getElem?_set_ne (fun q => e2 q.symm), ← List.getD_eq_getElem?_getD, h.val _ _ _ hf' hl' hi']
        by_cases q : P f' l' i'
        · rw [if_pos q, if_pos (.inl q)]
        · rw [if_neg q, if_neg (fun z => z.elim q (fun z => e2 z.2.2))]
    · rw [if_neg e, h.val _ _ _ hf' hl' hi']
      by_cases q : P f' l' i'
      · rw [if_pos q, if_pos (.inl q)]
      · rw [if_neg q, if_neg (fun z => z.elim q (fun z => e ⟨z.1, z.2.1⟩))]
/-- All numbers greater by N. -/
def shAll (N : Int) (gs : Fs) : Fs := gs.map fun f => f.map fun l => l.map fun x => x + N
theorem fs_ext {fs gs : Fs} (h1 : fs.length = gs.length) (h2 : ∀ f, (fcA fs f).length = (fcA gs f).length) (h3 : ∀ f l, (lpA fs f l).length = (lpA gs f l).length) (h4 : ∀ f l i, f < fs.length → l < (fcA fs f).length → i < (lpA fs f l).length → (lpA fs f l).getD i 0 = (lpA gs f l).getD i 0) : fs = gs := by
  refine List.ext_getElem h1 (fun f a b => ?_)
  have e1 : fcA fs f = fs[f] := by simp [fcA, List.getD_eq_getElem?_getD, a]
  have e2 : fcA gs f = gs[f] := by simp [fcA, List.getD_eq_getElem?_getD, b]
  rw [← e1, ← e2]
  refine List.ext_getElem (h2 f) (fun l c d => ?_)
  have e3 : lpA fs f l = (fcA fs f)[l] := by simp [lpA, lA, List.getD_eq_getElem?_getD, c]
  have e4 : lpA gs f l = (fcA gs f)[l] := by simp [lpA, lA, List.getD_eq_getElem?_getD, d]
  rw [← e3, ← e4]
  refine List.ext_getElem (h3 f l) (fun i p q => ?_)
  have := h4 f l i a c p
  simpa [List.getD_eq_getElem?_getD, p, q] using this
theorem fcA_shAll (N : Int) (gs : Fs) (f : Nat) : fcA (shAll N gs) f = (fcA gs f).map fun l => l.map fun x => x + N := by
  unfold fcA shAll
  rw [List.getD_eq_getElem?_getD, List.getD_eq_getElem?_getD, List.getElem?_map]
  cases gs[f]? <;> simp
theorem lpA_shAll (N : Int) (gs : Fs) (f l : Nat) : lpA (shAll N gs) f l = (lpA gs f l).map fun x => x + N := by
  unfold lpA lA
  rw [fcA_shAll, List.getD_eq_getElem?_getD, List.getD_eq_getElem?_getD, List.getElem?_map]
  cases (fcA gs f)[l]? <;> simp
theorem ShI.done {N : Int} {gs hs : Fs} {P : Nat → Nat → Nat → Prop} (h : ShI N gs hs P) (hP : ∀ f l i, f < gs.length → l < (fcA gs f).length → i < (lpA gs f l).length → P f l i) : hs = shAll N gs := by
  refine fs_ext (by rw [h.len]; simp [shAll]) (fun f => by rw [h.flen, fcA_shAll]; simp) (fun f l => by rw [h.llen, lpA_shAll]; simp) (fun f l i hf hl hi => ?_)
  rw [h.len] at hf
  rw [h.flen] at hl
  rw [h.llen] at hi
  rw [h.val f l i hf hl hi, if_pos (hP f l i hf hl hi), lpA_shAll]
  simp [List.getD_eq_getElem?_getD, hi]
theorem ShI.fine {N : Int} {gs hs : Fs} {P : Nat → Nat → Nat → Prop} {k : Nat} (h : ShI N gs hs P) (hF : Fine k gs) (hN : 0 ≤ N ∧ N ≤ 1000) (hv : ∀ v ∈ gs.flatten.flatten, -1000 ≤ v ∧ v ≤ 1000) : Fine k hs := by
  have e1 : nlA hs hs.length = nlA gs gs.length := by
    rw [h.len]
    have : ∀ k, nlA hs k = nlA gs k := by
      intro k; induction k with
      | zero => rfl
      | succ k ih => simp only [nlA]; rw [ih, h.flen]
    exact this _
  have e2 : npA hs hs.length = npA gs gs.length := by
    rw [h.len]
    have hL : ∀ f k, npL hs f k = npL gs f k := by
      intro f k; induction k with
      | zero => rfl
      | succ k ih => simp only [npL]; rw [ih, h.llen]
    have : ∀ k, npA hs k = npA gs k := by
      intro k; induction k with
      | zero => rfl
      | succ k ih => simp only [npA]; rw [ih, h.flen, hL]
    exact this _
  rw [nlA_eq, nlA_eq] at e1
  rw [npA_eq, npA_eq] at e2
  refine ⟨by rw [h.len]; exact hF.faces, by rw [e1]; exact hF.loops, by rw [e2]; exact hF.nodes, fun v hvm => ?_⟩
  rw [← pls_v] at hvm
  obtain ⟨x, hx, rfl⟩ := List.mem_map.1 hvm
  obtain ⟨f, l, i, hf, hl, hi, rfl⟩ := mem_pls.1 hx
  show -1000000 ≤ (lpA hs f l).getD i 0 ∧ (lpA hs f l).getD i 0 ≤ 1000000
  rw [h.len] at hf
  rw [h.flen] at hl
  rw [h.llen] at hi
  rw [h.val f l i hf hl hi]
  have hm : (lpA gs f l).getD i 0 ∈ gs.flatten.flatten := by
    rw [← pls_v]
    exact List.mem_map.2 ⟨pvA gs f l i, mem_pls.2 ⟨f, l, i, hf, hl, hi, rfl⟩, rfl⟩
  have := hv _ hm
  split <;> omega

end Go.Proofs.YtealnhaffphamaaGreat
