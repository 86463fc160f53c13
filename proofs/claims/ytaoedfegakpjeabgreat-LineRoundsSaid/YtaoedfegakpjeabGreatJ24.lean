/- Contracts of the functions that the statement reaches, and plain lemmas: part 24 of 25. -/
import Derived.Test.YtaoedfegakpjeabGreatJ23
import Derived.Test.YtaoedfegakpjeabGreatJ16
import Derived.Test.YtaoedfegakpjeabGreatJ17
import Derived.Deep.AppendLies

namespace Go.Proofs.YtaoedfegakpjeabGreat
open Go.RowKit Go.Sort

theorem line_rel {p q a b : Q4} (hp : Pl p) (hq : Pl q) (ha : Pt a) (hb : Pt b) (h1 : onB p q a = true) (h2 : onB p q b = true) :
    (a.a * b.d - b.a * a.d) * p.dy q = (a.b * b.d - b.b * a.d) * p.dx q ∧ (a.a * b.d - b.a * a.d) * p.dz q = (a.c * b.d - b.c * a.d) * p.dx q ∧ (a.b * b.d - b.b * a.d) * p.dz q = (a.c * b.d - b.c * a.d) * p.dy q := by
  rw [onB_eq] at h1 h2
  simp only [Bool.and_eq_true, beq_iff_eq] at h1 h2
  have pa := side_zero hp ha h1.1
  have qa := side_zero hq ha h1.2
  have pb := side_zero hp hb h2.1
  have qb := side_zero hq hb h2.2
  obtain ⟨G, g0, e1, e2, e3, _⟩ := dir_spec hp hq
  have hG : (G : Int) ≠ 0 := by omega
  have kp : p.a * (a.a * b.d - b.a * a.d) + p.b * (a.b * b.d - b.b * a.d) + p.c * (a.c * b.d - b.c * a.d) = 0 := by
    have e : p.a * (a.a * b.d - b.a * a.d) + p.b * (a.b * b.d - b.b * a.d) + p.c * (a.c * b.d - b.c * a.d) = b.d * (p.a * a.a + p.b * a.b + p.c * a.c + p.d * a.d) - a.d * (p.a * b.a + p.b * b.b + p.c * b.c + p.d * b.d) := by clear pa qa pb qb h1 h2; grind
    rw [e, pa, pb]; simp
  have kq : q.a * (a.a * b.d - b.a * a.d) + q.b * (a.b * b.d - b.b * a.d) + q.c * (a.c * b.d - b.c * a.d) = 0 := by
    have e : q.a * (a.a * b.d - b.a * a.d) + q.b * (a.b * b.d - b.b * a.d) + q.c * (a.c * b.d - b.c * a.d) = b.d * (q.a * a.a + q.b * a.b + q.c * a.c + q.d * a.d) - a.d * (q.a * b.a + q.b * b.b + q.c * b.c + q.d * b.d) := by clear pa qa pb qb h1 h2 kp; grind
    rw [e, qa, qb]; simp
  have ring : ∀ v1 v2 v3 pa pb pc qa qb qc : Int, pa * v1 + pb * v2 + pc * v3 = 0 → qa * v1 + qb * v2 + qc * v3 = 0 →
      v1 * (pc * qa - pa * qc) = v2 * (pb * qc - pc * qb) ∧ v1 * (pa * qb - pb * qa) = v3 * (pb * qc - pc * qb) ∧ v2 * (pa * qb - pb * qa) = v3 * (pc * qa - pa * qc) := by
    intro v1 v2 v3 pa pb pc qa qb qc k1 k2
    have e1 : v1 * (pc * qa - pa * qc) - v2 * (pb * qc - pc * qb) = pc * (qa * v1 + qb * v2 + qc * v3) - qc * (pa * v1 + pb * v2 + pc * v3) := by clear k1 k2; grind
    have e2 : v1 * (pa * qb - pb * qa) - v3 * (pb * qc - pc * qb) = qb * (pa * v1 + pb * v2 + pc * v3) - pb * (qa * v1 + qb * v2 + qc * v3) := by clear k1 k2 e1; grind
    have e3 : v2 * (pa * qb - pb * qa) - v3 * (pc * qa - pa * qc) = pa * (qa * v1 + qb * v2 + qc * v3) - qa * (pa * v1 + pb * v2 + pc * v3) := by clear k1 k2 e1 e2; grind
    rw [k1, k2] at e1 e2 e3
    simp only [Int.mul_zero, Int.sub_self] at e1 e2 e3
    exact ⟨by omega, by omega, by omega⟩
  obtain ⟨c12, c13, c23⟩ : (a.a * b.d - b.a * a.d) * p.cy q = (a.b * b.d - b.b * a.d) * p.cx q ∧ (a.a * b.d - b.a * a.d) * p.cz q = (a.c * b.d - b.c * a.d) * p.cx q ∧ (a.b * b.d - b.b * a.d) * p.cz q = (a.c * b.d - b.c * a.d) * p.cy q := ring _ _ _ _ _ _ _ _ _ kp kq
  have dv : ∀ u v x y : Int, u * (G * x) = v * (G * y) → u * x = v * y := by
    intro u v x y h
    have h' : (G : Int) * (u * x) = G * (v * y) := by grind
    exact Int.eq_of_mul_eq_mul_left hG h'
  rw [e1, e2] at c12
  rw [e1, e3] at c13
  rw [e2, e3] at c23
  exact ⟨dv _ _ _ _ c12, dv _ _ _ _ c13, dv _ _ _ _ c23⟩
section
variable {p q : Q4}
theorem far_eq {a b : Q4} (hp : p.plane = true) (hq : q.plane = true) (hn : ¬ (p.dx q = 0 ∧ p.dy q = 0 ∧ p.dz q = 0)) (ha : OnL p q a) (hb : OnL p q b) (h : farK p q a * b.d = farK p q b * a.d) : a = b := by
  obtain ⟨r1, r2, r3⟩ := line_rel (plane_iff.1 hp).1 (plane_iff.1 hq).1 (point_iff.1 ha.1).1 (point_iff.1 hb.1).1 ha.2 hb.2
  have can : ∀ {s u v z w : Int}, s ≠ 0 → (s * u) * z = (s * v) * w → u * z = v * w := fun {s u v z w} hs e => by
    rw [Int.mul_assoc, Int.mul_assoc] at e; exact Int.eq_of_mul_eq_mul_left hs e
  have sn : ∀ {d : Int}, d ≠ 0 → sgn d ≠ 0 := fun {d} hd => by rcases sgn_two hd with ⟨k, _⟩ | ⟨k, _⟩ <;> rw [k] <;> decide
  have zz : ∀ {u v d e : Int}, u = 0 → u * e = v * d → d ≠ 0 → v = 0 := fun {u v d e} h0 h hd => by
    rw [h0, Int.zero_mul] at h; exact (Int.mul_eq_zero.1 h.symm).resolve_right hd
  unfold farK at h
  by_cases hx : p.dx q = 0
  · by_cases hy : p.dy q = 0
    · have hz : p.dz q ≠ 0 := fun k => hn ⟨hx, hy, k⟩
      simp only [hx, hy, ne_eq, not_true_eq_false, if_false] at h
      have e3 := can (sn hz) h
      rw [hx, Int.mul_zero] at r2
      rw [hy, Int.mul_zero] at r3
      have e1 := (Int.mul_eq_zero.1 r2).resolve_right hz
      have e2 := (Int.mul_eq_zero.1 r3).resolve_right hz
      exact lowest_eq ha.1 hb.1 (by omega) (by omega) e3
    · simp only [hx, hy, ne_eq, not_true_eq_false, not_false_eq_true, if_true, if_false] at h
      have e2 := can (sn hy) h
      rw [hx, Int.mul_zero] at r1
      have e1 := (Int.mul_eq_zero.1 r1).resolve_right hy
      have e3 := zz (by omega) r3 hy
      exact lowest_eq ha.1 hb.1 (by omega) e2 (by omega)
  · simp only [hx, ne_eq, not_false_eq_true, if_true] at h
    have e1 := can (sn hx) h
    have e2 := zz (by omega) r1 hx
    have e3 := zz (by omega) r2 hx
    exact lowest_eq ha.1 hb.1 e1 (by omega) (by omega)
/-- Of two of them in order, and not the same, the first comes first. -/
theorem along_next {a b : Q4} (hp : p.plane = true) (hq : q.plane = true) (hn : ¬ (p.dx q = 0 ∧ p.dy q = 0 ∧ p.dz q = 0)) (ha : OnL p q a) (hb : OnL p q b) (h : lineLt p q b a = false) (hne : b ≠ a) : alongI (p.dx q) (p.dy q) (p.dz q) a b = -1 := by
  rw [lineLt_on hb ha, ← Bool.not_eq_true, ptLt_far hp hq hn hb ha] at h
  obtain ⟨k1, k2, k3⟩ := along_far hp hq hn ha hb
  rcases k3 with k | k | k
  · exact k
  · exact absurd (far_eq hp hq hn ha hb (k2.1 k)).symm hne
  · exfalso
    have n1 : ¬ farK p q a * b.d < farK p q b * a.d := fun h => by have := k1.2 h; omega
    have n2 : farK p q a * b.d ≠ farK p q b * a.d := fun h => by have := k2.2 h; omega
    omega
end

/-- Neighbours in a list. -/
def Adj {α : Type} (R : α → α → Prop) (l : List α) : Prop := ∀ i x y, l[i]? = some x → l[i + 1]? = some y → R x y
theorem Adj.cons {α : Type} {R : α → α → Prop} {x : α} {l : List α} (h : ∀ y, l[0]? = some y → R x y) (hl : Adj R l) : Adj R (x :: l) := by
  intro i u v h1 h2
  cases i with
  | zero => simp at h1; subst h1; exact h v (by simpa using h2)
  | succ i => exact hl i u v (by simpa using h1) (by simpa using h2)
theorem Adj.tail {α : Type} {R : α → α → Prop} {x : α} {l : List α} (h : Adj R (x :: l)) : Adj R l := fun i u v h1 h2 => h (i + 1) u v (by simpa using h1) (by simpa using h2)
theorem cmpct_mem : ∀ (l : List Q4) (x : Q4), x ∈ cmpct l → x ∈ l
  | [], x, h => by simp [cmpct] at h
  | [y], x, h => by simpa [cmpct] using h
  | y :: z :: r, x, h => by
    unfold cmpct at h
    split at h
    · exact List.mem_cons_of_mem _ (cmpct_mem (z :: r) x h)
    · rcases List.mem_cons.1 h with rfl | h
      · simp
      · exact List.mem_cons_of_mem _ (cmpct_mem (z :: r) x h)
theorem cmpct_head : ∀ (y : Q4) (l : List Q4), (cmpct (y :: l))[0]? = some y
  | y, [] => rfl
  | y, z :: r => by
    unfold cmpct
    split
    · rename_i h
      rw [← (Q4.eqB_iff _ _).1 h]
      exact cmpct_head z r
    · rfl
theorem cmpct_adj {R : Q4 → Q4 → Prop} : ∀ (l : List Q4), Adj (fun x y => y ≠ x → R x y) l → Adj R (cmpct l)
  | [], _ => fun i u v h => by simp [cmpct] at h
  | [y], _ => fun i u v h1 h2 => by simp [cmpct] at h2
  | y :: z :: r, h => by
    have ih := cmpct_adj (z :: r) h.tail
    unfold cmpct
    split
    · exact ih
    · rename_i hne
      refine Adj.cons (fun v hv => ?_) ih
      rw [cmpct_head] at hv
      have e : z = v := by simpa using hv
      subst e
      exact h 0 y z rfl rfl (fun e => hne ((Q4.eqB_iff _ _).2 e))

/-- Two orders that agree on what lies in an array sort it alike. -/
def AllP (P : Q4 → Prop) (d : Array Q4) : Prop := ∀ k, k < d.size → P d[k]!
section
variable {P : Q4 → Prop} {lt lt' : Q4 → Q4 → Bool}
theorem AllP.swp {d : Array Q4} (h : AllP P d) (i j : Nat) (hi : i < d.size) (hj : j < d.size) : AllP P (Sort.swp d i j) := by
  intro k hk
  have hs : (Sort.swp d i j).size = d.size := by simp [Sort.swp]
  rw [hs] at hk
  have e : (Sort.swp d i j)[k]! = if j = k then d[i]! else if i = k then d[j]! else d[k]! := by
    simp only [Sort.swp, Array.getElem!_eq_getD, Array.getD_eq_getD_getElem?, Array.getElem?_setIfInBounds, Array.size_setIfInBounds]
    by_cases e1 : j = k
    · subst e1; simp [hj]
    · by_cases e2 : i = k
      · subst e2; simp [e1, hi]
      · simp [e1, e2]
  rw [e]
  split
  · exact h i hi
  · split
    · exact h j hj
    · exact h k hk
theorem insInner_same (hl : ∀ a b, P a → P b → lt a b = lt' a b) : ∀ (j : Nat) (d : Array Q4), j < d.size → AllP P d → insInner lt 0 j d = insInner lt' 0 j d ∧ AllP P (insInner lt 0 j d) ∧ (insInner lt 0 j d).size = d.size
  | 0, d, _, h => ⟨rfl, h, rfl⟩
  | j + 1, d, hj, h => by
    have e := hl _ _ (h (j + 1) hj) (h j (by omega))
    unfold insInner
    rw [e]
    split
    · have hs : (Sort.swp d (j + 1) j).size = d.size := by simp [Sort.swp]
      have ih := insInner_same hl j (Sort.swp d (j + 1) j) (by rw [hs]; omega) (h.swp _ _ hj (by omega))
      exact ⟨ih.1, ih.2.1, by rw [ih.2.2, hs]⟩
    · exact ⟨rfl, h, rfl⟩
theorem insOuter_same (hl : ∀ a b, P a → P b → lt a b = lt' a b) (b : Nat) : ∀ (n i : Nat) (d : Array Q4), b - i = n → b ≤ d.size → AllP P d → insOuter lt 0 b i d = insOuter lt' 0 b i d
  | 0, i, d, hn, hb, h => by rw [insOuter.eq_1 lt, if_neg (by omega), insOuter.eq_1 lt', if_neg (by omega)]
  | n + 1, i, d, hn, hb, h => by
    have hlt : i < b := by omega
    obtain ⟨e, h2, hs⟩ := insInner_same hl i d (by omega) h
    rw [insOuter.eq_1 lt, if_pos hlt, insOuter.eq_1 lt', if_pos hlt, ← e]
    exact insOuter_same hl b n (i + 1) _ (by omega) (by rw [hs]; exact hb) h2
end

/-- The list of the points where right planes meet a line. -/
theorem pts_spec {p q : Q4} {ps : List Q4} (hp : p.plane = true) (hq : q.plane = true) (hs : ps.all Q4.plane = true) (hn : ¬ (p.dx q = 0 ∧ p.dy q = 0 ∧ p.dz q = 0)) :
    (∀ x, x ∈ ptsL p q ps → OnL p q x) ∧ Adj (fun x y => alongI (p.dx q) (p.dy q) (p.dz q) x y = -1) (ptsL p q ps) := by
  have he : opE p q ps [] = 0 := by rw [opE_planes hp hq hs, if_neg hn]
  unfold ptsL
  rw [if_pos he]
  have hM := mets_onL hp hq hs
  obtain ⟨d, hd⟩ : ∃ d, d = (mets p q ps).toArray := ⟨_, rfl⟩
  have hsz : d.size = (mets p q ps).length := by rw [hd]; simp
  have hA : AllP (OnL p q) d := fun k hk => hM _ (by
    have : d[k]! = (mets p q ps)[k]'(by rw [← hsz]; exact hk) := by subst hd; simp at hk; simp [hk]
    rw [this]; exact List.getElem_mem _)
  rw [← hd, ← hsz]
  have e : insertionSort (ptLt (p.dx q) (p.dy q) (p.dz q)) d 0 d.size = insertionSort (lineLt p q) d 0 d.size := by
    unfold Sort.insertionSort
    exact insOuter_same (P := OnL p q) (fun a b ha hb => (lineLt_on ha hb).symm) d.size _ _ d rfl (Nat.le_refl _) hA
  rw [e]
  obtain ⟨hperm, hsort⟩ := insertionSort_holds (lineLt_swo hp hq hn) d 0 d.size (Nat.zero_le _) (Nat.le_refl _)
  generalize insertionSort (lineLt p q) d 0 d.size = r at hperm hsort
  have hrs : r.size = d.size := hperm.1
  have hR : ∀ x, x ∈ r.toList → OnL p q x := by
    intro x hx
    have h1 := hperm.2.2
    have e1 : (r.extract 0 d.size) = r := by rw [← hrs]; simp
    have e2 : (d.extract 0 d.size) = d := by simp
    rw [e1, e2] at h1
    have h2 := h1.mem_iff.1 hx
    rw [hd] at h2
    exact hM x (by simpa using h2)
  have hget : ∀ i x, r.toList[i]? = some x → i < r.size ∧ r[i]! = x := by
    intro i x h
    obtain ⟨h1, h2⟩ := List.getElem?_eq_some_iff.1 h
    have hi : i < r.size := by simpa using h1
    refine ⟨hi, ?_⟩
    rw [← h2]; simp [hi]
  refine ⟨fun x hx => hR x (cmpct_mem _ _ hx), cmpct_adj _ (fun i x y h1 h2 hne => ?_)⟩
  obtain ⟨i1, g1⟩ := hget i x h1
  obtain ⟨i2, g2⟩ := hget (i + 1) y h2
  have h3 := hsort i (i + 1) (Nat.zero_le _) (by omega) (by omega)
  rw [g1, g2] at h3
  exact along_next hp hq hn (hR x (List.mem_of_getElem? h1)) (hR y (List.mem_of_getElem? h2)) h3 hne
/-- .. as line.Along tells it. -/
theorem pts_along {p q x y : Q4} (hp : p.plane = true) (hq : q.plane = true) (hn : ¬ (p.dx q = 0 ∧ p.dy q = 0 ∧ p.dz q = 0)) (hx : OnL p q x) (hy : OnL p q y) (h : alongI (p.dx q) (p.dy q) (p.dz q) x y = -1) : lalE p q x y = 0 ∧ lalV p q x y = -1 := by
  have he : opE p q [] [x, y] = 0 := by
    rw [opE_eq, allPl_eq, allPl_eq, allPt_eq]
    simp only [List.all_cons, List.all_nil, hp, hq, hx.1, hy.1, Bool.and_self, eq3B]
    simp
    exact fun a b c => hn ⟨a, b, c⟩
  rw [lalE_eq, lalV_eq, if_pos he, if_pos he, hx.2, hy.2, (opE_ok he).1, (opE_ok he).1, (opE_ok he).1]
  exact ⟨rfl, h⟩

end Go.Proofs.YtaoedfegakpjeabGreat

namespace Go.Proofs.YtaoedfegakpjeabGreat
open Go.RowKit

theorem wayB_of {p : Q4} (hp : Pl p) {v : T3} (h : WayOK' p v) : wayB p v = true := by
  obtain ⟨n, b1, b2, b3, e⟩ := h
  have iv : v.I64' := ⟨⟨by omega, by omega⟩, ⟨by omega, by omega⟩, ⟨by omega, by omega⟩⟩
  rw [wayB_eq]
  simp only [Bool.and_eq_true, decide_eq_true_eq, Bool.not_eq_true', beq_iff_eq]
  refine ⟨(sizeI_le iv.1 (by omega)).2 (by omega), (sizeI_le iv.2.1 (by omega)).2 (by omega), (sizeI_le iv.2.2 (by omega)).2 (by omega), ?_, ?_⟩
  · cases k : eq3B v.x v.y v.z 0 0 0 with
    | false => rfl
    | true => exfalso; simp only [eq3B, Bool.and_eq_true, beq_iff_eq] at k; exact n k
  · rw [dot_id hp.a hp.b hp.c b1 b2 b3 (by omega)]; exact e
theorem rang_turn {p : Q4} (hp : Pl p) {u v : T3} (hu : WayOK' p u) (hv : WayOK' p v) : rangI p v u = (4 - rangI p u v) % 4 := by
  have h1 := rang_flip hp hu hv
  have h2 := rang_flip hp hv hu
  have r1 := rangI_range p u v
  have r2 := rangI_range p v u
  have t1 := rangI_tri hp hu hv
  have t2 := rangI_tri hp hv hu
  have two : rangI p u v = 2 ↔ rangI p v u = 2 := by
    have e : dot v.x v.y v.z u.x u.y u.z = dot u.x u.y u.z v.x v.y v.z := by
      rw [dot_eq, dot_eq, Int.mul_comm v.x, Int.mul_comm v.y, Int.mul_comm v.z]
    have g : ∀ {a b : T3}, (rangI p a b = 1 ↔ 0 < triI p a b) → (rangI p a b = 3 ↔ triI p a b < 0) → (rangI p a b = 2 ↔ triI p a b = 0 ∧ dot a.x a.y a.z b.x b.y b.z < 0) := by
      intro a b k1 k2
      rw [rangI_eq] at k1 k2 ⊢
      generalize dot p.a p.b p.c (crs a.y b.z a.z b.y) (crs a.z b.x a.x b.z) (crs a.x b.y a.y b.x) = C at *
      generalize dot a.x a.y a.z b.x b.y b.z = D at *
      generalize triI p a b = T at *
      by_cases c1 : 0 < C
      · rw [if_pos c1] at k1 k2 ⊢
        have q1 : 0 < T := k1.1 rfl
        exact ⟨fun h => by omega, fun h => by omega⟩
      · rw [if_neg c1] at k1 k2 ⊢
        by_cases c2 : C < 0
        · rw [if_pos c2] at k1 k2 ⊢
          have q1 : T < 0 := k2.1 rfl
          exact ⟨fun h => by omega, fun h => by omega⟩
        · rw [if_neg c2] at k1 k2 ⊢
          by_cases c3 : D < 0
          · rw [if_pos c3] at k1 k2 ⊢
            have q1 : ¬ 0 < T := fun h => by have := k1.2 h; omega
            have q2 : ¬ T < 0 := fun h => by have := k2.2 h; omega
            exact ⟨fun _ => ⟨by omega, c3⟩, fun _ => rfl⟩
          · rw [if_neg c3] at k1 k2 ⊢
            exact ⟨fun h => by omega, fun h => absurd h.2 c3⟩
    rw [g t1.1 t1.2, g t2.1 t2.2, e, triI_flip p u v]
    constructor <;> (rintro ⟨h1, h2⟩; exact ⟨by omega, h2⟩)
  omega
theorem rcw_best (p : Q4) (f : T3) (l : List T3) : ∀ m j, j < m → rangI p f l[j]! ≤ rangI p f l[rcwN p f l m]!
  | 0, j, h => by omega
  | m + 1, j, h => by
    have ih := rcw_best p f l m
    rw [rcwN]
    cases hs : rsoonB p f l[m]! l[rcwN p f l m]! with
    | true =>
      rw [if_pos rfl]
      rw [rsoonB_eq] at hs
      have hle : rangI p f l[rcwN p f l m]! ≤ rangI p f l[m]! := by
        by_cases e : rangI p f l[m]! = rangI p f l[rcwN p f l m]!
        · omega
        · rw [if_neg e, decide_eq_true_eq] at hs; omega
      rcases Nat.lt_succ_iff_lt_or_eq.1 h with k | k
      · exact Int.le_trans (ih j k) hle
      · subst k; exact Int.le_refl _
    | false =>
      rw [if_neg (by decide)]
      rw [rsoonB_eq] at hs
      have hle : rangI p f l[m]! ≤ rangI p f l[rcwN p f l m]! := by
        by_cases e : rangI p f l[m]! = rangI p f l[rcwN p f l m]!
        · omega
        · rw [if_neg e, decide_eq_false_iff_not] at hs; omega
      rcases Nat.lt_succ_iff_lt_or_eq.1 h with k | k
      · exact ih j k
      · subst k; exact hle
/-- What line.Clockwise answers of ways alone. -/
theorem ways_clk {p : Q4} (hp : p.plane = true) {f : T3} {l : List T3} (hf : WayOK' p f) (hl : ∀ v, v ∈ l → WayOK' p v) (h0 : 0 < l.length) (h1 : l.length ≤ 1000) : clkE p f l = 0 ∧ clkV p f l = (rcwN p f l l.length : Nat) := by
  have P := (plane_iff.1 hp).1
  have i3 : ∀ {v : T3}, WayOK' p v → v.I64' := fun {v} h => ⟨⟨by have := h.2.1; omega, by have := h.2.1; omega⟩, ⟨by have := h.2.2.1; omega, by have := h.2.2.1; omega⟩, ⟨by have := h.2.2.2.1; omega, by have := h.2.2.2.1; omega⟩⟩
  have e := clkE_same p (i3 hf) (fun v hv => i3 (hl v hv)) h1
  have e0 : rclkE p f l = 0 := by
    rw [rclkE_eq, hp, wayB_of P hf]
    have ha : l.all (wayB p) = true := List.all_eq_true.2 (fun v hv => wayB_of P (hl v hv))
    rw [ha]; simp [h0]
  exact ⟨by rw [e, e0], ((clkV_same p (i3 hf) (fun v hv => i3 (hl v hv)) h1).2 e0).2⟩
/-- What line.Angle answers of ways alone. -/
theorem ways_ang {p : Q4} (hp : p.plane = true) {u v : T3} (hu : WayOK' p u) (hv : WayOK' p v) : angE p u v = 0 ∧ angV p u v = rangI p u v := by
  have P := (plane_iff.1 hp).1
  have i3 : ∀ {v : T3}, WayOK' p v → v.I64' := fun {v} h => ⟨⟨by have := h.2.1; omega, by have := h.2.1; omega⟩, ⟨by have := h.2.2.1; omega, by have := h.2.2.1; omega⟩, ⟨by have := h.2.2.2.1; omega, by have := h.2.2.2.1; omega⟩⟩
  have e0 : laE p u v = 0 := by rw [laE_eq, hp, wayB_of P hu, wayB_of P hv]; simp
  exact ⟨by rw [angE_la p (i3 hu) (i3 hv), e0], (angV_la p (i3 hu) (i3 hv)).2 e0⟩

end Go.Proofs.YtaoedfegakpjeabGreat

namespace Go.Proofs.YtaoedfegakpjeabGreat
open Go.RowKit

structure LR (p q : Q4) (P Q : Nat) (w W : World) : Prop where
  below : Below w.heap.size w W
  lo : w.heap.size < P ∧ w.heap.size < Q
  bp : PB4 W P p
  bq : PB4 W Q q
section
variable {p q : Q4} {P Q : Nat} {w W W1 : World} {B : Nat} {v : Value} {L : List Q4}
theorem LR.call (h : LR p q P Q w W) (hb : Below W.heap.size W W1) : LR p q P Q w W1 := ⟨h.below.trans (hb.mono h.below.size), h.lo, h.bp.below hb, h.bq.below hb⟩
theorem LR.drew (h : LR p q P Q w W) : LR p q P Q w W.drew := h.call (Below.refl _ _).drew
theorem RowP.slv (h : RowP B v L W) : SlV W v L := by
  rcases h.2 with ⟨hv, h0⟩ | ⟨g, cap, cur, hv, hb, hg, _⟩
  · exact .inl ⟨hv, List.length_eq_zero_iff.1 h0⟩
  · subst hv
    exact .inr ⟨g, 0, cap, rfl, (Array.getElem?_eq_some_iff.1 hg).1, fun i x hi => by rw [Nat.zero_add]; exact RowP.at h hi⟩
end

end Go.Proofs.YtaoedfegakpjeabGreat

namespace Go.Proofs.YtaoedfegakpjeabGreat
open Go.RowKit

theorem lr_yes {c : Bool} {p q : Prop} (hc : c = true) (h : p) : if c = true then p else q := by rw [hc]; simpa using h
theorem cmpct_len : ∀ l : List Q4, (cmpct l).length ≤ l.length
  | [] => by simp [cmpct]
  | [x] => by simp [cmpct]
  | x :: y :: r => by
    have h := cmpct_len (y :: r)
    unfold cmpct
    simp only [List.length_cons] at h ⊢
    split
    · omega
    · simp only [List.length_cons]; omega
theorem pts_len (p q : Q4) (ps : List Q4) : (ptsL p q ps).length ≤ ps.length := by
  unfold ptsL
  split
  · refine Nat.le_trans (cmpct_len _) ?_
    rw [Array.length_toList, size_isort]
    simpa using mets_len p q ps
  · simp

/-- A slice of directions that came in. -/
def InV (w : World) (v : Value) (l : List T3) : Prop := (v = .slice none 0 0 ∧ l = []) ∨ ∃ n ad cap, n = l.length ∧ v = .slice (some ad) n cap ∧ (∀ j u, (flat3 l)[j]? = some u → w.cell? (ad.add j) = some u) ∧ n ≤ cap ∧ cap ≤ maxLen
theorem InV.shape {w : World} {v : Value} {l : List T3} (h : InV w v l) : ∃ A cap, v = .slice A l.length cap ∧ l.length ≤ 9223372036854775807 ∧
    ∀ i x, l[i]? = some x → ∃ ad, A = some ad ∧ ∀ W, Below w.heap.size w W → W.cell? (ad.add (i * 3)) = some (.int .i64 x.x) ∧ W.cell? ⟨(ad.add (i * 3)).block, (ad.add (i * 3)).off + 1, none⟩ = some (.int .i64 x.y) ∧ W.cell? ⟨(ad.add (i * 3)).block, (ad.add (i * 3)).off + 2, none⟩ = some (.int .i64 x.z) := by
  rcases h with ⟨rfl, rfl⟩ | ⟨n, ad, cap, rfl, rfl, hc, h1, h2⟩
  · exact ⟨none, 0, rfl, by simp, fun i x h => by simp at h⟩
  · refine ⟨some ad, cap, rfl, by simp only [maxLen] at h2; omega, fun i x hi => ⟨ad, rfl, fun W hb => ?_⟩⟩
    have f := flat3_get l i x hi
    have k : ∀ j u, (flat3 l)[j]? = some u → W.cell? (ad.add j) = some u := fun j u hj => (hb.cell (World.block_lt_of_cell? w _ (hc j u hj))).trans (hc j u hj)
    have e : ∀ m n, 0 < n → ad.add (m + n) = ⟨(ad.add m).block, (ad.add m).off + n, none⟩ := fun m n hn => by
      unfold Addr.add
      by_cases hm : m = 0
      · simp [hm, show n ≠ 0 by omega]
      · simp [hm, Nat.add_assoc]
    rw [← e _ 1 (by omega), ← e _ 2 (by omega)]
    exact ⟨k _ _ ((f 0 (by omega)).trans rfl), k _ _ ((f 1 (by omega)).trans rfl), k _ _ ((f 2 (by omega)).trans rfl)⟩

/-- A row of directions that are its own. -/
def RowT (B : Nat) (v : Value) (L : List T3) (W : World) : Prop := W.ownsRow B 24 3 v L.length (flat3 L)
section
variable {B : Nat} {v : Value} {L : List T3} {W W1 : World}
theorem RowT.call (h : RowT B v L W) (hb : Below W.heap.size W W1) : RowT B v L W1 := own_below h hb
theorem RowT.shape (h : RowT B v L W) : ∃ a cap, v = .slice a L.length cap := by
  rcases h.2 with ⟨hv, h0⟩ | ⟨g, cap, cur, hv, _⟩
  · exact ⟨none, 0, by rw [h0]; exact hv⟩
  · exact ⟨_, cap, hv⟩
theorem RowT.sl (h : RowT B v L W) (h0 : 0 < L.length) : ∃ g cap, v = .slice (some ⟨g, 0, none⟩) L.length cap ∧ L.length ≤ cap ∧ g < W.heap.size ∧ Sl3 W g 0 L := by
  rcases h.2 with ⟨hv, hn⟩ | ⟨g, cap, cur, hv, hb, hg, hc, _⟩
  · omega
  · subst hv
    refine ⟨g, cap, rfl, hc, (h.lt g rfl).2, fun i q hi => ?_⟩
    obtain ⟨hl, _⟩ := List.getElem?_eq_some_iff.1 hi
    have c : ∀ j, j < 3 → W.cell? ⟨g, i * 3 + j, none⟩ = [Value.int .i64 q.x, .int .i64 q.y, .int .i64 q.z][j]? := fun j hj => by
      rw [h.cellAt (i * 3 + j) (by omega), flat3_get L i q hi j hj]
    exact ⟨by simpa using c 0 (by omega), by simpa using c 1 (by omega), by simpa using c 2 (by omega)⟩
end

/-- The planes lie below B. -/
structure LB (p q : Q4) (P Q B : Nat) (w W : World) : Prop where
  lr : LR p q P Q w W
  lt : P < B ∧ Q < B ∧ w.heap.size ≤ B
  hi : B ≤ W.heap.size
section
variable {p q : Q4} {P Q B : Nat} {w W W1 : World}
theorem LB.call (h : LB p q P Q B w W) (hb : Below W.heap.size W W1) : LB p q P Q B w W1 := ⟨h.lr.call hb, h.lt, Nat.le_trans h.hi hb.size⟩
theorem LB.drew (h : LB p q P Q B w W) : LB p q P Q B w W.drew := h.call (Below.refl _ _).drew
theorem LB.grown (h : LB p q P Q B w W) {row : Option Nat} (hg : W.grownBy W1 row) (hr : ∀ b, row = some b → B ≤ b) : LB p q P Q B w W1 := by
  have hb : Below B W W1 := ⟨hg.os, hg.tape, hg.output, hg.size, fun k hk => hg.block k (Nat.lt_of_lt_of_le hk h.hi) (fun e => by have := hr k e.symm; omega)⟩
  obtain ⟨t1, b1⟩ := h.lr.bp
  obtain ⟨t2, b2⟩ := h.lr.bq
  exact ⟨⟨h.lr.below.trans (hb.mono h.lt.2.2), h.lr.lo, ⟨t1, b1.below hb h.lt.1⟩, ⟨t2, b2.below hb h.lt.2.1⟩⟩, h.lt, Nat.le_trans h.hi hg.size⟩
theorem LR.bound (h : LR p q P Q w W) : LB p q P Q W.heap.size w W := by
  obtain ⟨t1, b1⟩ := h.bp
  obtain ⟨t2, b2⟩ := h.bq
  exact ⟨h, ⟨b1.lt, b2.lt, h.below.size⟩, Nat.le_refl _⟩
end

theorem getD_tf {listed : Array Bool} {i : Nat} (h : listed.getD i true = false) : listed.getD i false = false ∧ (listed.setIfInBounds i true).getD i false = true := by
  simp only [Array.getD_eq_getD_getElem?] at h ⊢
  cases hh : listed[i]? with
  | none => rw [hh] at h; simp at h
  | some b =>
    rw [hh] at h
    have hl := (Array.getElem?_eq_some_iff.1 hh).1
    simp at h
    simp [h, Array.getElem?_setIfInBounds, hl]
theorem at3_new (W : World) (x : T3) (t : TypeId) : At3 (W.alloc (.cells #[.int .i64 x.x, .int .i64 x.y, .int .i64 x.z] t)) W.heap.size 0 x := by
  have h := cell_three_new W x t
  have e : ∀ j, (⟨W.heap.size, 0, none⟩ : Addr).add j = ⟨W.heap.size, j, none⟩ := fun j => by unfold Addr.add; split <;> simp_all
  exact ⟨by have := h 0 _ rfl; rwa [e] at this, by have := h 1 _ rfl; rwa [e] at this, by have := h 2 _ rfl; rwa [e] at this⟩
/-- What the third loop keeps: a plane, a direction, the others. -/
structure LF (p : Q4) (P : Nat) (f : T3) (F g : Nat) (rest : List T3) (w W : World) : Prop where
  below : Below w.heap.size w W
  bp : PB4 W P p
  bf : F < W.heap.size ∧ At3 W F 0 f
  sl : g < W.heap.size ∧ Sl3 W g 3 rest
section
variable {p : Q4} {P : Nat} {f : T3} {F g T : Nat} {rest : List T3} {w W W1 : World}
theorem LF.call (h : LF p P f F g rest w W) (hb : Below W.heap.size W W1) : LF p P f F g rest w W1 :=
  ⟨h.below.trans (hb.mono h.below.size), h.bp.below hb, ⟨Nat.lt_of_lt_of_le h.bf.1 hb.size, h.bf.2.below hb h.bf.1⟩, Nat.lt_of_lt_of_le h.sl.1 hb.size, h.sl.2.below hb h.sl.1⟩
theorem LF.fc (h : LF p P f F g rest w W) : W.cell? ⟨F, 0, none⟩ = some (.int .i64 f.x) ∧ W.cell? ⟨F, 1, none⟩ = some (.int .i64 f.y) ∧ W.cell? ⟨F, 2, none⟩ = some (.int .i64 f.z) := ⟨h.bf.2.1, h.bf.2.2.1, h.bf.2.2.2⟩
theorem Sl3.tail {o : Nat} {x : T3} (h : Sl3 W g o (x :: rest)) : Sl3 W g (o + 3) rest := fun i q hi => by
  have k := h (i + 1) q hi
  rwa [show o + (i + 1) * 3 = o + 3 + i * 3 by omega] at k
theorem LF.new {Q B : Nat} {q : Q4} (h : LB p q P Q B w W) (hg : g < W.heap.size) (hs : Sl3 W g 0 (f :: rest)) (t : TypeId) : LF p P f W.heap.size g rest w (W.alloc (.cells #[.int .i64 f.x, .int .i64 f.y, .int .i64 f.z] t)) := by
  have hb := (Below.refl W.heap.size W).alloc (Nat.le_refl _) (.cells #[.int .i64 f.x, .int .i64 f.y, .int .i64 f.z] t)
  have h1 := h.call hb
  exact ⟨h1.lr.below, h1.lr.bp, ⟨by simp, at3_new W f t⟩, Nat.lt_of_lt_of_le hg hb.size, hs.tail.below hb hg⟩
/-- The turned angles' table. -/
def Tab (W : World) (T : Nat) : Prop := ∃ t, Blk W T (.cells #[.int .i64 0, .int .i64 3, .int .i64 2, .int .i64 1] t)
theorem Tab.call (h : Tab W T) (hb : Below W.heap.size W W1) : Tab W1 T := by obtain ⟨t, h⟩ := h; exact ⟨t, h.below hb h.lt⟩
theorem Tab.cells (h : Tab W T) : W.cell? ⟨T, 0, none⟩ = some (.int .i64 0) ∧ W.cell? ⟨T, 1, none⟩ = some (.int .i64 3) ∧ W.cell? ⟨T, 2, none⟩ = some (.int .i64 2) ∧ W.cell? ⟨T, 3, none⟩ = some (.int .i64 1) := by
  obtain ⟨t, h⟩ := h
  exact ⟨(blk_cells h).1 _ _ rfl, (blk_cells h).1 _ _ rfl, (blk_cells h).1 _ _ rfl, (blk_cells h).1 _ _ rfl⟩
end

/-- The ranks' table. -/
def Ord4 (W : World) (O : Nat) : Prop := ∃ t, Blk W O (.cells #[.int .i64 3, .int .i64 2, .int .i64 1, .int .i64 0] t)
theorem Ord4.call {W W1 : World} {O : Nat} (h : Ord4 W O) (hb : Below W.heap.size W W1) : Ord4 W1 O := by obtain ⟨t, h⟩ := h; exact ⟨t, h.below hb h.lt⟩
theorem Ord4.at {W : World} {O u : Nat} (h : Ord4 W O) (hu : u < 4) : W.cell? ⟨O, u, none⟩ = some (.int .i64 (3 - (u : Int))) := by
  obtain ⟨t, h⟩ := h
  match u, hu with
  | 0, _ => exact (blk_cells h).1 _ _ rfl
  | 1, _ => exact (blk_cells h).1 _ _ rfl
  | 2, _ => exact (blk_cells h).1 _ _ rfl
  | 3, _ => exact (blk_cells h).1 _ _ rfl

/-- A region's state, with what holds until an operation is drawn. -/
theorem getD_set_ne {listed : Array Bool} {i k : Nat} (hne : i ≠ k) : (listed.setIfInBounds i true).getD k false = listed.getD k false := by
  simp [Array.getD_eq_getD_getElem?, Array.getElem?_setIfInBounds_ne hne]
structure IRJ (J : World → Prop) (k e' : Nat) (s : Nat) (V0 : Value) (k0 : Nat) (I : World → Prop) (S : Nat → World → Value → Prop) (vals : List (Nat × Nat)) (listed : Array Bool) (t : Nat → Value) (W : World) : Prop where
  ir : IR I S vals listed t W
  old : listed.getD k false = false → J W
  first : listed.getD k0 false = false → t s = V0
  ord : listed.getD e' false = true → listed.getD k false = true
section
variable {J : World → Prop} {k e' s k0 : Nat} {V0 : Value} {I : World → Prop} {S : Nat → World → Value → Prop} {vals : List (Nat × Nat)} {listed : Array Bool} {t : Nat → Value} {W W1 : World}
theorem IRJ.yields {i d : Nat} {v : Value} (h : IRJ J k e' s V0 k0 I S vals listed t W) (hI : I W1) (hm : ∀ d v, S d W v → S d W1 v) (hv : S d W1 v) (h1 : clashV vals i d = true) (hJ : (listed.setIfInBounds i true).getD k false = false → J W1)
    (hf : (listed.setIfInBounds i true).getD k0 false = false → d ≠ s ∧ listed.getD k0 false = false) (ho : (listed.setIfInBounds i true).getD e' false = true → (listed.setIfInBounds i true).getD k false = true) : IRJ J k e' s V0 k0 I S vals (listed.setIfInBounds i true) (upd t d v) W1 :=
  ⟨h.ir.yields hI hm hv h1, hJ, fun hl => by rw [upd_other _ _ (fun e => (hf hl).1 e.symm)]; exact h.first (hf hl).2, ho⟩
theorem IRJ.appended {i d : Nat} {v : Value} (h : IRJ J i e' s V0 k0 I S vals listed t W) (hI : I W1) (hm : ∀ d' v, d' ≠ d → d' ≠ s → S d' W v → S d' W1 v) (hv : S d W1 v) (h1 : clashV vals i d = true) (h9 : (vals.all fun x => x.2 != s || x.1 == e') = true) (hn : listed.getD i false = false) (hl : (listed.setIfInBounds i true).getD i false = true)
    (hd : d ≠ s) (hk : i ≠ k0) : IRJ J i e' s V0 k0 I S vals (listed.setIfInBounds i true) (upd t d v) W1 := by
  refine ⟨⟨hI, fun x hx hlx => ?_⟩, fun h0 => by rw [hl] at h0; simp at h0, fun h0 => by rw [upd_other _ _ (fun e => hd e.symm)]; exact h.first (by rwa [getD_set_ne hk] at h0), fun _ => hl⟩
  have hc := List.all_eq_true.1 h1 x hx
  by_cases e : x.1 = i
  · rw [if_pos e] at hc
    have : x.2 = d := by simpa using hc
    rw [this, upd_same]; exact hv
  · rw [if_neg e] at hc
    have hne : x.2 ≠ d := by simpa using hc
    rw [upd_other _ _ hne]
    have hx2 := (listed_set hlx).resolve_left e
    have h9x := List.all_eq_true.1 h9 x hx
    refine hm _ _ hne (fun es => ?_) (h.ir.val x hx hx2)
    have e9 : x.1 = e' := by simpa [es] using h9x
    rw [e9] at hx2
    have := h.ord hx2
    rw [hn] at this; simp at this
end
theorem flat3_app (a b : List T3) : flat3 (a ++ b) = flat3 a ++ flat3 b := by unfold flat3; rw [List.flatMap_append]
theorem flat3_cells (l : List T3) : ∀ u ∈ flat3 l, u.oneCell' = true := by
  intro u hu
  simp only [flat3, List.mem_flatMap, List.mem_cons, List.not_mem_nil, or_false] at hu
  obtain ⟨q, _, rfl | rfl | rfl⟩ := hu <;> rfl
theorem news_three {W : World} {b : Nat} {z : T3} (h : At3 W b 0 z) : ∀ j u, (flat3 [z])[j]? = some u → W.cell? ((⟨b, 0, none⟩ : Addr).add j) = some u := by
  intro j u hj
  have e : (⟨b, 0, none⟩ : Addr).add j = ⟨b, j, none⟩ := by unfold Addr.add; split <;> simp_all
  rw [e]
  have f : flat3 [z] = [.int .i64 z.x, .int .i64 z.y, .int .i64 z.z] := by simp [flat3]
  rw [f] at hj
  match j, hj with
  | 0, hj => simp at hj; subst hj; exact h.1
  | 1, hj => simp at hj; subst hj; exact h.2.1
  | 2, hj => simp at hj; subst hj; exact h.2.2

end Go.Proofs.YtaoedfegakpjeabGreat
