/- Contracts of the functions that the statement reaches, and plain lemmas: part 14 of 25. -/
import Derived.Test.YtaoedfegakpjeabGreatJ13
import Derived.Test.YtaoedfegakpjeabGreatJ09
import Derived.Deep.Slices

namespace Go.Proofs.YtaoedfegakpjeabGreat
open Go.RowKit

theorem mul_bd {a b : Int} {A B C : Nat} (ha : a.natAbs ≤ A) (hb : b.natAbs ≤ B) (hc : A * B ≤ C) : (a * b).natAbs ≤ C := by
  rw [Int.natAbs_mul]; exact Nat.le_trans (Nat.mul_le_mul ha hb) hc
theorem wrap_id {x : Int} (h : x.natAbs ≤ 9223372036854775807) : wrap64 x = x := by unfold wrap64; omega
theorem crs_id {b z c y : Int} {A B : Nat} (hb : b.natAbs ≤ A) (hz : z.natAbs ≤ B) (hc : c.natAbs ≤ A) (hy : y.natAbs ≤ B) (h : A * B ≤ 1000000000000000000) : crs b z c y = b * z - c * y ∧ (b * z - c * y).natAbs ≤ 2 * (A * B) := by
  have h1 := mul_bd hb hz (Nat.le_refl _)
  have h2 := mul_bd hc hy (Nat.le_refl _)
  rw [crs_eq]
  generalize b * z = u at *
  generalize c * y = v at *
  generalize A * B = M at *
  rw [wrap_id (x := u) (by omega), wrap_id (x := v) (by omega), wrap_id (by omega)]
  exact ⟨rfl, by omega⟩
theorem dot_id {a b c x y z : Int} {A B : Nat} (ha : a.natAbs ≤ A) (hb : b.natAbs ≤ A) (hc : c.natAbs ≤ A) (hx : x.natAbs ≤ B) (hy : y.natAbs ≤ B) (hz : z.natAbs ≤ B) (h : A * B ≤ 1000000000000000000) : dot a b c x y z = a * x + b * y + c * z := by
  have h1 := mul_bd ha hx (Nat.le_refl _)
  have h2 := mul_bd hb hy (Nat.le_refl _)
  have h3 := mul_bd hc hz (Nat.le_refl _)
  rw [dot_eq]
  generalize a * x = u at *
  generalize b * y = v at *
  generalize c * z = t at *
  generalize A * B = M at *
  rw [wrap_id (x := u) (by omega), wrap_id (x := v) (by omega), wrap_id (x := t) (by omega), wrap_id (x := u + v) (by omega), wrap_id (by omega)]

/-- A right plane's bounds. -/
structure Pl (p : Q4) : Prop where
  a : p.a.natAbs ≤ 1000
  b : p.b.natAbs ≤ 1000
  c : p.c.natAbs ≤ 1000
  d : p.d.natAbs ≤ 1000000
  nz : ¬ (p.a = 0 ∧ p.b = 0 ∧ p.c = 0)
theorem sizeI_le {a : Int} {m : Int} (ia : I64 a) (hm : m < 9223372036854775807) : sizeI a ≤ m ↔ (a.natAbs : Int) ≤ m := by
  unfold I64 at ia
  unfold sizeI
  split
  · rename_i h; unfold wrap64 at h; omega
  · split
    · unfold wrap64 at *; omega
    · unfold wrap64 at *; omega
theorem right_iff {p : Q4} (ip : p.I64) : rightB p.a p.b p.c p.d = true ↔ Pl p ∧ Nat.gcd (Nat.gcd p.a.natAbs p.b.natAbs) (Nat.gcd p.c.natAbs p.d.natAbs) = 1 := by
  obtain ⟨ia, ib, ic, id⟩ := ip
  rw [rightB_eq]
  simp only [Bool.and_eq_true, decide_eq_true_eq, Bool.not_eq_true', Bool.or_eq_false_iff, decide_eq_false_iff_not, beq_iff_eq]
  constructor
  · rintro ⟨h1, h2, h3, ⟨h4, h5⟩, h6⟩
    have k1 := (sizeI_le ia (by omega)).1 h1
    have k2 := (sizeI_le ib (by omega)).1 h2
    have k3 := (sizeI_le ic (by omega)).1 h3
    have k4 := (sizeI_le id (m := 1000000) (by omega)).1 (by omega)
    have hp : Pl p := ⟨by omega, by omega, by omega, by omega, by simpa using h4⟩
    refine ⟨hp, ?_⟩
    rw [gcd2_small (a := p.a) (by omega) (by omega) (by omega) (by omega), gcd2_small (a := p.c) (by omega) (by omega) (by omega) (by omega)] at h6
    have b1 : Nat.gcd p.a.natAbs p.b.natAbs < 1000001 := gcd_lt (by omega) (by omega)
    have b2 : Nat.gcd p.c.natAbs p.d.natAbs < 1000001 := gcd_lt (by omega) (by omega)
    rw [gcd2_small (by omega) (by omega) (by omega) (by omega)] at h6
    simp only [Int.natAbs_natCast] at h6
    omega
  · rintro ⟨hp, hg⟩
    obtain ⟨k1, k2, k3, k4, k5⟩ := hp
    refine ⟨(sizeI_le ia (by omega)).2 (by omega), (sizeI_le ib (by omega)).2 (by omega), (sizeI_le ic (by omega)).2 (by omega), ⟨by simpa using k5, ?_⟩, ?_⟩
    · have := (sizeI_le id (m := 1000000) (by omega)).2 (by omega); omega
    · rw [gcd2_small (a := p.a) (by omega) (by omega) (by omega) (by omega), gcd2_small (a := p.c) (by omega) (by omega) (by omega) (by omega)]
      have b1 : Nat.gcd p.a.natAbs p.b.natAbs < 1000001 := gcd_lt (by omega) (by omega)
      have b2 : Nat.gcd p.c.natAbs p.d.natAbs < 1000001 := gcd_lt (by omega) (by omega)
      rw [gcd2_small (by omega) (by omega) (by omega) (by omega)]
      simp [hg]
theorem plane_iff {p : Q4} : p.plane = true ↔ Pl p ∧ Nat.gcd (Nat.gcd p.a.natAbs p.b.natAbs) (Nat.gcd p.c.natAbs p.d.natAbs) = 1 := by
  have e : gcdN [p.a, p.b, p.c, p.d] = Nat.gcd (Nat.gcd p.a.natAbs p.b.natAbs) (Nat.gcd p.c.natAbs p.d.natAbs) := by
    simp [gcdN, Nat.gcd_assoc]
  rw [Q4.plane_eq, isPlaneB_eq, gcd4_eq, e]
  simp only [withinB, Bool.and_eq_true, decide_eq_true_eq, Bool.or_eq_true, bne_iff_ne, ne_eq, beq_iff_eq]
  constructor
  · rintro ⟨h1, h2, h3, h4, h5, h6⟩
    refine ⟨⟨by omega, by omega, by omega, by omega, by omega⟩, ?_⟩
    have b1 : Nat.gcd (Nat.gcd p.a.natAbs p.b.natAbs) (Nat.gcd p.c.natAbs p.d.natAbs) < 1000001 := gcd_lt (gcd_lt (by omega) (by omega)) (gcd_lt (by omega) (by omega))
    rw [wrap_id (by omega)] at h6
    omega
  · rintro ⟨⟨k1, k2, k3, k4, k5⟩, hg⟩
    refine ⟨by omega, by omega, by omega, by omega, by omega, ?_⟩
    rw [hg]; unfold wrap64; omega
theorem right_plane {p : Q4} (ip : p.I64) : rightB p.a p.b p.c p.d = p.plane := by
  rw [Bool.eq_iff_iff, right_iff ip, plane_iff]

/-- The vector product of two planes' normals. -/
def Q4.cx (p q : Q4) : Int := p.b * q.c - p.c * q.b
def Q4.cy (p q : Q4) : Int := p.c * q.a - p.a * q.c
def Q4.cz (p q : Q4) : Int := p.a * q.b - p.b * q.a
theorem cross_id {p q : Q4} (hp : Pl p) (hq : Pl q) : crs p.b q.c p.c q.b = p.cx q ∧ crs p.c q.a p.a q.c = p.cy q ∧ crs p.a q.b p.b q.a = p.cz q ∧ (p.cx q).natAbs ≤ 2000000 ∧ (p.cy q).natAbs ≤ 2000000 ∧ (p.cz q).natAbs ≤ 2000000 := by
  have x := crs_id hp.b hq.c hp.c hq.b (by omega)
  have y := crs_id hp.c hq.a hp.a hq.c (by omega)
  have z := crs_id hp.a hq.b hp.b hq.a (by omega)
  exact ⟨x.1, y.1, z.1, x.2, y.2, z.2⟩
theorem short_spec {x : Int} {g : Nat} (hx : x.natAbs ≤ 2000000) (hg : g ∣ x.natAbs) : ∃ q : Int, shortBy (g : Int) x = q ∧ (g ≠ 0 → x = g * q) ∧ (g = 0 → x = q) ∧ q.natAbs ≤ x.natAbs := by
  unfold shortBy
  by_cases h : g = 0
  · subst h
    exact ⟨x, by simp, by simp, by simp, Nat.le_refl _⟩
  · obtain ⟨q, e⟩ := Int.ofNat_dvd_left.2 hg
    have hne : (g : Int) ≠ 0 := by omega
    have hle : q.natAbs ≤ x.natAbs := by
      rw [e, Int.natAbs_mul]; simp
      exact Nat.le_mul_of_pos_left _ (by omega)
    refine ⟨q, ?_, fun _ => e, fun h' => absurd h' h, hle⟩
    rw [if_neg hne, e, Int.mul_tdiv_cancel_left _ hne, wrap_id (by omega)]
/-- The direction of two planes: a G from 1 on times it is the vector product; its elements have no common divisor, unless it is 0. -/
theorem dir_spec {p q : Q4} (hp : Pl p) (hq : Pl q) : ∃ G : Nat, 0 < G ∧ p.cx q = G * p.dx q ∧ p.cy q = G * p.dy q ∧ p.cz q = G * p.dz q ∧ (p.dx q).natAbs ≤ 2000000 ∧ (p.dy q).natAbs ≤ 2000000 ∧ (p.dz q).natAbs ≤ 2000000 ∧
    (¬ (p.cx q = 0 ∧ p.cy q = 0 ∧ p.cz q = 0) → G = Nat.gcd (Nat.gcd (p.cx q).natAbs (p.cy q).natAbs) (p.cz q).natAbs) ∧ ((p.cx q = 0 ∧ p.cy q = 0 ∧ p.cz q = 0) → p.dx q = 0 ∧ p.dy q = 0 ∧ p.dz q = 0) := by
  obtain ⟨x, y, z, bx, by', bz⟩ := cross_id hp hq
  have eg : dirG p.a p.b p.c q.a q.b q.c = (Nat.gcd (Nat.gcd (p.cx q).natAbs (p.cy q).natAbs) (p.cz q).natAbs : Nat) := by
    unfold dirG
    rw [x, y, z, gcd3_eq]
    have e : gcdN [p.cx q, p.cy q, p.cz q] = Nat.gcd (Nat.gcd (p.cx q).natAbs (p.cy q).natAbs) (p.cz q).natAbs := by simp [gcdN]
    rw [e]
    have : Nat.gcd (Nat.gcd (p.cx q).natAbs (p.cy q).natAbs) (p.cz q).natAbs < 2000001 := gcd_lt (gcd_lt (by omega) (by omega)) (by omega)
    exact wrap_id (by omega)
  have d1 : p.dx q = shortBy (Nat.gcd (Nat.gcd (p.cx q).natAbs (p.cy q).natAbs) (p.cz q).natAbs : Nat) (p.cx q) := by unfold Q4.dx dirX; rw [eg, x]
  have d2 : p.dy q = shortBy (Nat.gcd (Nat.gcd (p.cx q).natAbs (p.cy q).natAbs) (p.cz q).natAbs : Nat) (p.cy q) := by unfold Q4.dy dirY; rw [eg, y]
  have d3 : p.dz q = shortBy (Nat.gcd (Nat.gcd (p.cx q).natAbs (p.cy q).natAbs) (p.cz q).natAbs : Nat) (p.cz q) := by unfold Q4.dz dirZ; rw [eg, z]
  have g1 : Nat.gcd (Nat.gcd (p.cx q).natAbs (p.cy q).natAbs) (p.cz q).natAbs ∣ (p.cx q).natAbs := Nat.dvd_trans (Nat.gcd_dvd_left _ _) (Nat.gcd_dvd_left _ _)
  have g2 : Nat.gcd (Nat.gcd (p.cx q).natAbs (p.cy q).natAbs) (p.cz q).natAbs ∣ (p.cy q).natAbs := Nat.dvd_trans (Nat.gcd_dvd_left _ _) (Nat.gcd_dvd_right _ _)
  have g3 : Nat.gcd (Nat.gcd (p.cx q).natAbs (p.cy q).natAbs) (p.cz q).natAbs ∣ (p.cz q).natAbs := Nat.gcd_dvd_right _ _
  obtain ⟨q1, a1, b1, c1, l1⟩ := short_spec bx g1
  obtain ⟨q2, a2, b2, c2, l2⟩ := short_spec by' g2
  obtain ⟨q3, a3, b3, c3, l3⟩ := short_spec bz g3
  rw [a1] at d1; rw [a2] at d2; rw [a3] at d3
  generalize hG : Nat.gcd (Nat.gcd (p.cx q).natAbs (p.cy q).natAbs) (p.cz q).natAbs = G at *
  rw [d1, d2, d3]
  by_cases h0 : G = 0
  · have z1 := Nat.eq_zero_of_zero_dvd (h0 ▸ g1)
    have z2 := Nat.eq_zero_of_zero_dvd (h0 ▸ g2)
    have z3 := Nat.eq_zero_of_zero_dvd (h0 ▸ g3)
    have e1 := c1 h0
    have e2 := c2 h0
    have e3 := c3 h0
    refine ⟨1, by omega, by omega, by omega, by omega, by omega, by omega, by omega, fun h => absurd ⟨by omega, by omega, by omega⟩ h, fun _ => ⟨by omega, by omega, by omega⟩⟩
  · refine ⟨G, by omega, b1 h0, b2 h0, b3 h0, by omega, by omega, by omega, fun _ => rfl, fun h => ?_⟩
    have e1 := b1 h0
    have e2 := b2 h0
    have e3 := b3 h0
    have hne : (G : Int) ≠ 0 := by omega
    rw [h.1] at e1; rw [h.2.1] at e2; rw [h.2.2] at e3
    exact ⟨(Int.mul_eq_zero.1 e1.symm).resolve_left hne, (Int.mul_eq_zero.1 e2.symm).resolve_left hne, (Int.mul_eq_zero.1 e3.symm).resolve_left hne⟩

/-- The laws of the statement LineTurns, of three right planes. -/
theorem opE_planes {p q : Q4} {ms : List Q4} (hp : p.plane = true) (hq : q.plane = true) (hm : ms.all Q4.plane = true) : opE p q ms [] = if p.dx q = 0 ∧ p.dy q = 0 ∧ p.dz q = 0 then 4 else 0 := by
  rw [opE_eq, allPl_eq, allPl_eq, allPt_eq, hm]
  simp only [List.all_cons, List.all_nil, hp, hq, Bool.and_self, eq3B]
  by_cases h : p.dx q = 0 ∧ p.dy q = 0 ∧ p.dz q = 0
  · rw [if_pos h]; simp [h]
  · rw [if_neg h]; simp; exact fun a b c => h ⟨a, b, c⟩
theorem dir_zero {p q : Q4} (hp : Pl p) (hq : Pl q) : (p.dx q = 0 ∧ p.dy q = 0 ∧ p.dz q = 0) ↔ (p.cx q = 0 ∧ p.cy q = 0 ∧ p.cz q = 0) := by
  obtain ⟨G, h0, e1, e2, e3, _, _, _, _, hz⟩ := dir_spec hp hq
  constructor
  · rintro ⟨a, b, c⟩; rw [a] at e1; rw [b] at e2; rw [c] at e3; exact ⟨by simpa using e1, by simpa using e2, by simpa using e3⟩
  · exact hz
theorem dir_back {p q : Q4} (hp : Pl p) (hq : Pl q) : q.dx p = -p.dx q ∧ q.dy p = -p.dy q ∧ q.dz p = -p.dz q := by
  have n1 : q.cx p = -p.cx q := by unfold Q4.cx; grind
  have n2 : q.cy p = -p.cy q := by unfold Q4.cy; grind
  have n3 : q.cz p = -p.cz q := by unfold Q4.cz; grind
  obtain ⟨G, h0, e1, e2, e3, _, _, _, hg, hz⟩ := dir_spec hp hq
  obtain ⟨H, k0, f1, f2, f3, _, _, _, kg, kz⟩ := dir_spec hq hp
  by_cases h : p.cx q = 0 ∧ p.cy q = 0 ∧ p.cz q = 0
  · have z1 := hz h
    have z2 := kz ⟨by omega, by omega, by omega⟩
    omega
  · have g1 := hg h
    have g2 := kg (by omega)
    have e : H = G := by rw [g1, g2, n1, n2, n3]; simp
    subst e
    have hne : (H : Int) ≠ 0 := by omega
    refine ⟨?_, ?_, ?_⟩
    · exact Int.eq_of_mul_eq_mul_left hne (by grind)
    · exact Int.eq_of_mul_eq_mul_left hne (by grind)
    · exact Int.eq_of_mul_eq_mul_left hne (by grind)
theorem dir_one {p q : Q4} (hp : Pl p) (hq : Pl q) (hn : ¬ (p.cx q = 0 ∧ p.cy q = 0 ∧ p.cz q = 0)) : Nat.gcd (Nat.gcd (p.dx q).natAbs (p.dy q).natAbs) (p.dz q).natAbs = 1 := by
  obtain ⟨G, h0, e1, e2, e3, _, _, _, hg, hz⟩ := dir_spec hp hq
  have m : ∀ {x q : Int}, x = G * q → x.natAbs = G * q.natAbs := fun {x q} e => by rw [e, Int.natAbs_mul]; simp
  have g := hg hn
  rw [m e1, m e2, m e3, Nat.gcd_mul_left, Nat.gcd_mul_left] at g
  exact Nat.eq_of_mul_eq_mul_left h0 (by omega)

theorem sgn_neg (x : Int) : sgn (-x) = wrap64 (-sgn x) := by
  unfold sgn cmp3 wrap64
  (repeat' split) <;> omega
/-- The opposite plane. -/
def Q4.opp (r : Q4) : Q4 := ⟨wrap64 (-r.a), wrap64 (-r.b), wrap64 (-r.c), wrap64 (-r.d)⟩
theorem opp_eq {r : Q4} (hr : Pl r) : r.opp = ⟨-r.a, -r.b, -r.c, -r.d⟩ := by
  obtain ⟨a, b, c, d, _⟩ := hr
  unfold Q4.opp
  rw [wrap_id (by omega), wrap_id (by omega), wrap_id (by omega), wrap_id (by omega)]
theorem opp_plane {r : Q4} (h : r.plane = true) : r.opp.plane = true := by
  obtain ⟨hr, hg⟩ := plane_iff.1 h
  rw [opp_eq hr]
  obtain ⟨a, b, c, d, n⟩ := hr
  exact plane_iff.2 ⟨⟨by simpa using a, by simpa using b, by simpa using c, by simpa using d, by show ¬ (-r.a = 0 ∧ -r.b = 0 ∧ -r.c = 0); omega⟩, by simpa using hg⟩
theorem opp_i64 (r : Q4) : r.opp.I64 := ⟨I64.wrap _, I64.wrap _, I64.wrap _, I64.wrap _⟩

section
variable {p q r : Q4}
theorem crossV_pl (hp : p.plane = true) (hq : q.plane = true) (hr : r.plane = true) (hn : ¬ (p.dx q = 0 ∧ p.dy q = 0 ∧ p.dz q = 0)) :
    opE p q [r] [] = 0 ∧ crossV p q r = sgn (p.dx q * r.a + p.dy q * r.b + p.dz q * r.c) := by
  have h0 : opE p q [r] [] = 0 := by rw [opE_planes hp hq (by simp [hr]), if_neg hn]
  have hP := (plane_iff.1 hp).1
  have hQ := (plane_iff.1 hq).1
  have hR := (plane_iff.1 hr).1
  obtain ⟨G, _, _, _, _, b1, b2, b3, _, _⟩ := dir_spec hP hQ
  refine ⟨h0, ?_⟩
  rw [crossV_eq, if_pos h0, (opE_ok h0).1, (opE_ok h0).1, (opE_ok h0).1, dot_id b1 b2 b3 hR.a hR.b hR.c (by omega)]
theorem leftV_pl (hp : p.plane = true) (hq : q.plane = true) (hr : r.plane = true) (hn : ¬ (p.dx q = 0 ∧ p.dy q = 0 ∧ p.dz q = 0)) :
    opE p q [r] [] = 0 ∧ leftV p q r = sgn (r.a * (p.b * p.dz q - p.c * p.dy q) + r.b * (p.c * p.dx q - p.a * p.dz q) + r.c * (p.a * p.dy q - p.b * p.dx q)) := by
  have h0 : opE p q [r] [] = 0 := by rw [opE_planes hp hq (by simp [hr]), if_neg hn]
  have hP := (plane_iff.1 hp).1
  have hQ := (plane_iff.1 hq).1
  have hR := (plane_iff.1 hr).1
  obtain ⟨G, _, _, _, _, b1, b2, b3, _, _⟩ := dir_spec hP hQ
  have x := crs_id hP.b b3 hP.c b2 (by omega)
  have y := crs_id hP.c b1 hP.a b3 (by omega)
  have z := crs_id hP.a b2 hP.b b1 (by omega)
  refine ⟨h0, ?_⟩
  rw [leftV_eq, if_pos h0, (opE_ok h0).1, (opE_ok h0).1, (opE_ok h0).1, x.1, y.1, z.1, dot_id hR.a hR.b hR.c x.2 y.2 z.2 (by omega)]
theorem turns_s (hp : p.plane = true) (hq : q.plane = true) (hr : r.plane = true) (hn : ¬ (p.dx q = 0 ∧ p.dy q = 0 ∧ p.dz q = 0)) : crossV p q r.opp = wrap64 (-crossV p q r) := by
  rw [(crossV_pl hp hq (opp_plane hr) hn).2, (crossV_pl hp hq hr hn).2, ← sgn_neg, opp_eq (plane_iff.1 hr).1]
  congr 1
  show p.dx q * -r.a + p.dy q * -r.b + p.dz q * -r.c = _
  grind
theorem turns_t (hp : p.plane = true) (hq : q.plane = true) (hr : r.plane = true) (hn : ¬ (p.dx q = 0 ∧ p.dy q = 0 ∧ p.dz q = 0)) : crossV q p r = wrap64 (-crossV p q r) := by
  obtain ⟨e1, e2, e3⟩ := dir_back (plane_iff.1 hp).1 (plane_iff.1 hq).1
  rw [(crossV_pl hq hp hr (by rw [e1, e2, e3]; omega)).2, (crossV_pl hp hq hr hn).2, ← sgn_neg, e1, e2, e3]
  congr 1
  grind
theorem turns_own (hp : p.plane = true) (hq : q.plane = true) (hn : ¬ (p.dx q = 0 ∧ p.dy q = 0 ∧ p.dz q = 0)) : crossV p q q = 0 := by
  obtain ⟨G, h0, e1, e2, e3, _, _, _, _, _⟩ := dir_spec (plane_iff.1 hp).1 (plane_iff.1 hq).1
  rw [(crossV_pl hp hq hq hn).2]
  have : (G : Int) * (p.dx q * q.a + p.dy q * q.b + p.dz q * q.c) = 0 := by unfold Q4.cx at e1; unfold Q4.cy at e2; unfold Q4.cz at e3; grind
  rw [(Int.mul_eq_zero.1 this).resolve_left (by omega)]; rfl
theorem turns_w (hp : p.plane = true) (hq : q.plane = true) (hn : ¬ (p.dx q = 0 ∧ p.dy q = 0 ∧ p.dz q = 0)) : leftV p q p = 0 := by
  rw [(leftV_pl hp hq hp hn).2]
  have : p.a * (p.b * p.dz q - p.c * p.dy q) + p.b * (p.c * p.dx q - p.a * p.dz q) + p.c * (p.a * p.dy q - p.b * p.dx q) = 0 := by grind
  rw [this]; rfl
theorem turns_u (hp : p.plane = true) (hq : q.plane = true) (hn : ¬ (p.dx q = 0 ∧ p.dy q = 0 ∧ p.dz q = 0)) : leftV p q q = -1 := by
  obtain ⟨G, h0, e1, e2, e3, _, _, _, _, _⟩ := dir_spec (plane_iff.1 hp).1 (plane_iff.1 hq).1
  have hc : ¬ (p.cx q = 0 ∧ p.cy q = 0 ∧ p.cz q = 0) := fun h => hn ((dir_zero (plane_iff.1 hp).1 (plane_iff.1 hq).1).2 h)
  rw [(leftV_pl hp hq hq hn).2]
  have e : (G : Int) * (q.a * (p.b * p.dz q - p.c * p.dy q) + q.b * (p.c * p.dx q - p.a * p.dz q) + q.c * (p.a * p.dy q - p.b * p.dx q)) = -(p.cx q * p.cx q + p.cy q * p.cy q + p.cz q * p.cz q) := by
    unfold Q4.cx at *; unfold Q4.cy at *; unfold Q4.cz at *; grind
  generalize q.a * (p.b * p.dz q - p.c * p.dy q) + q.b * (p.c * p.dx q - p.a * p.dz q) + q.c * (p.a * p.dy q - p.b * p.dx q) = X at e
  have sq : ∀ x : Int, 0 ≤ x * x ∧ (x ≠ 0 → 0 < x * x) := fun x => by
    have h : (x.natAbs : Int) * x.natAbs = x * x := Int.natAbs_mul_self' x
    rw [← h]
    refine ⟨by exact Int.mul_nonneg (by omega) (by omega), fun hx => Int.mul_pos (by omega) (by omega)⟩
  have s1 := sq (p.cx q)
  have s2 := sq (p.cy q)
  have s3 := sq (p.cz q)
  have neg : (G : Int) * X < 0 := by
    rw [e]
    by_cases z1 : p.cx q = 0
    · by_cases z2 : p.cy q = 0
      · have := s3.2 (fun z3 => hc ⟨z1, z2, z3⟩); omega
      · have := s2.2 z2; omega
    · have := s1.2 z1; omega
  have hX : X < 0 := by
    rcases Int.lt_or_le X 0 with h | h
    · exact h
    · have := Int.mul_nonneg (show (0 : Int) ≤ G by omega) h; omega
  unfold sgn cmp3
  rw [if_pos hX]
end

end Go.Proofs.YtaoedfegakpjeabGreat

namespace Go.Proofs.YtaoedfegakpjeabGreat
open Go.RowKit

/-- Whether a vector is a direction in a plane, as the reference has it. -/
noncomputable def wayB (p : Q4) (v : T3) : Bool := vlB (decide (sizeI v.x ≤ 2000000) && (decide (sizeI v.y ≤ 2000000) && (decide (sizeI v.z ≤ 2000000) && (!eq3B v.x v.y v.z 0 0 0 && dot p.a p.b p.c v.x v.y v.z == 0))))
theorem wayB_eq (p : Q4) (v : T3) : wayB p v = (decide (sizeI v.x ≤ 2000000) && (decide (sizeI v.y ≤ 2000000) && (decide (sizeI v.z ≤ 2000000) && (!eq3B v.x v.y v.z 0 0 0 && dot p.a p.b p.c v.x v.y v.z == 0)))) := vlB_eq _

set_option maxHeartbeats 1000000 in
theorem way_any (p : Q4) (v : T3) (w : World) :
    Calls Tryz.prog 20 #[.agg #[.int .i64 (p.a), .int .i64 (p.b), .int .i64 (p.c), .int .i64 (p.d)], .agg #[.int .i64 (v.x), .int .i64 (v.y), .int .i64 (v.z)]] w fun e w' => e = .returned (.bool (wayB p v)) ∧ Below w.heap.size w w' := by
  go_enter Tryz.func20, Tryz.ntmps20
  go_wp2
  go_loop [5] (fun i => ∃ k : Nat, k ≤ 3 ∧ i = .int .i64 k ∧ SizeTo 2000000 v.x v.y v.z k) (fun i => 3 - (intOf i).toNat)
  case atStart => exact ⟨0, by omega, rfl, by omega, by omega, by omega⟩
  case round =>
    obtain ⟨k, hk, rfl, hr⟩ := hrel
    match k, hk with
    | 0, _ =>
      have HR := Lib.hid hr
      clear hr
      by_cases ha : sizeI v.x ≤ 2000000
      · have HA := Lib.hid ha
        go_wp2_with (go_at_call 44; refine (size_any _ _).mono ?_; rintro e w1 ⟨rfl, rfl⟩)
        go_round
        case rel => exact ⟨1, by omega, by go_num, fun _ => HA.out, by omega, by omega⟩
        case measure => simp [intOf]
      · have HN : Hid (wayB p v = false) := by unfold Hid; rw [wayB_eq, decide_eq_false ha]; simp
        go_wp2_with (go_at_call 44; refine (size_any _ _).mono ?_; rintro e w1 ⟨rfl, rfl⟩)
        go_ret
        refine ⟨ret_bool (by rw [HN.out]), ?_⟩
        repeat (first | exact Below.refl _ _ | refine Below.alloc ?_ (by first | (simp; done) | (simp; omega)) _ | refine Below.setCell ?_ (by first | (simp; done) | (simp; omega)) _ | refine Below.drew ?_)
    | 1, _ =>
      have HR := Lib.hid hr
      clear hr
      by_cases ha : sizeI v.y ≤ 2000000
      · have HA := Lib.hid ha
        go_wp2_with (go_at_call 44; refine (size_any _ _).mono ?_; rintro e w1 ⟨rfl, rfl⟩)
        go_round
        case rel => exact ⟨2, by omega, by go_num, fun _ => HR.out.1 (by omega), fun _ => HA.out, by omega⟩
        case measure => simp [intOf]
      · have HN : Hid (wayB p v = false) := by unfold Hid; rw [wayB_eq, decide_eq_false ha]; simp
        go_wp2_with (go_at_call 44; refine (size_any _ _).mono ?_; rintro e w1 ⟨rfl, rfl⟩)
        go_ret
        refine ⟨ret_bool (by rw [HN.out]), ?_⟩
        repeat (first | exact Below.refl _ _ | refine Below.alloc ?_ (by first | (simp; done) | (simp; omega)) _ | refine Below.setCell ?_ (by first | (simp; done) | (simp; omega)) _ | refine Below.drew ?_)
    | 2, _ =>
      have HR := Lib.hid hr
      clear hr
      by_cases ha : sizeI v.z ≤ 2000000
      · have HA := Lib.hid ha
        go_wp2_with (go_at_call 44; refine (size_any _ _).mono ?_; rintro e w1 ⟨rfl, rfl⟩)
        go_round
        case rel => exact ⟨3, by omega, by go_num, fun _ => HR.out.1 (by omega), fun _ => HR.out.2.1 (by omega), fun _ => HA.out⟩
        case measure => simp [intOf]
      · have HN : Hid (wayB p v = false) := by unfold Hid; rw [wayB_eq, decide_eq_false ha]; simp
        go_wp2_with (go_at_call 44; refine (size_any _ _).mono ?_; rintro e w1 ⟨rfl, rfl⟩)
        go_ret
        refine ⟨ret_bool (by rw [HN.out]), ?_⟩
        repeat (first | exact Below.refl _ _ | refine Below.alloc ?_ (by first | (simp; done) | (simp; omega)) _ | refine Below.setCell ?_ (by first | (simp; done) | (simp; omega)) _ | refine Below.drew ?_)
    | 3, _ =>
      have qa := hr.1 (by omega)
      have qb := hr.2.1 (by omega)
      have qc := hr.2.2 (by omega)
      have HQ : Hid (wayB p v = (!eq3B v.x v.y v.z 0 0 0 && dot p.a p.b p.c v.x v.y v.z == 0)) := by unfold Hid; simp [wayB_eq, qa, qb, qc]
      clear hr qa qb qc
      cases hz : eq3B v.x v.y v.z 0 0 0 with
      | true =>
        have HZ := Lib.hid hz
        go_wp2
        go_quiet (fail)
        go_wp2
        go_ret
        refine ⟨ret_bool (by rw [HQ.out, HZ.out]; rfl), ?_⟩
        exact below_drewN (((Below.refl _ _).alloc (Nat.le_refl _) _).alloc (by simp) _) _
      | false =>
        have HZ := Lib.hid hz
        go_wp2
        have hE : ∀ W, Fr 2 [(0, .cells #[.int .i64 (p.a), .int .i64 (p.b), .int .i64 (p.c), .int .i64 (p.d)] 23), (1, .cells #[.int .i64 (v.x), .int .i64 (v.y), .int .i64 (v.z)] 24)] [] w W → (W.cell? ⟨w.heap.size, 0, none⟩ = some (.int .i64 (p.a)) ∧ W.cell? ⟨w.heap.size, 1, none⟩ = some (.int .i64 (p.b)) ∧ W.cell? ⟨w.heap.size, 2, none⟩ = some (.int .i64 (p.c)) ∧ W.cell? ⟨w.heap.size, 3, none⟩ = some (.int .i64 (p.d)) ∧ W.cell? ⟨w.heap.size + 1, 0, none⟩ = some (.int .i64 (v.x)) ∧ W.cell? ⟨w.heap.size + 1, 1, none⟩ = some (.int .i64 (v.y)) ∧ W.cell? ⟨w.heap.size + 1, 2, none⟩ = some (.int .i64 (v.z))) := fun W h => by (repeat' apply And.intro) <;> first | exact h.at0 rfl | exact h.at rfl | exact (h.rms0 rfl).cell | exact (h.rms rfl).cell | exact (h.rms0 rfl).frozen | exact (h.rms rfl).frozen
        have HE := Lib.hid hE
        clear hE
        go_region_held3 (fun W => Fr 2 [(0, .cells #[.int .i64 (p.a), .int .i64 (p.b), .int .i64 (p.c), .int .i64 (p.d)] 23), (1, .cells #[.int .i64 (v.x), .int .i64 (v.y), .int .i64 (v.z)] 24)] [] w W ∧ W.cell? ⟨w.heap.size, 0, none⟩ = some (.int .i64 (p.a)) ∧ W.cell? ⟨w.heap.size, 1, none⟩ = some (.int .i64 (p.b)) ∧ W.cell? ⟨w.heap.size, 2, none⟩ = some (.int .i64 (p.c)) ∧ W.cell? ⟨w.heap.size, 3, none⟩ = some (.int .i64 (p.d)) ∧ W.cell? ⟨w.heap.size + 1, 0, none⟩ = some (.int .i64 (v.x)) ∧ W.cell? ⟨w.heap.size + 1, 1, none⟩ = some (.int .i64 (v.y)) ∧ W.cell? ⟨w.heap.size + 1, 2, none⟩ = some (.int .i64 (v.z))) ((first | exact hSK | assumption | (have hq := Fr.keep HE.out (by assumption) hb1; exact hq) | (have hq := Fr.both HE.out hF.drew; exact hq) | (have hq := Fr.both HE.out (((Fr.nil w).fixed (by simp) (.cells #[.int .i64 (p.a), .int .i64 (p.b), .int .i64 (p.c), .int .i64 (p.d)] 23)).fixed (by simp) (.cells #[.int .i64 (v.x), .int .i64 (v.y), .int .i64 (v.z)] 24)).drew; exact hq) | (refine Fr.both HE.out ?_; (repeat (first | exact hF | exact And.left (by assumption) | refine Fr.set ?_ (by first | (simp; done) | (simp; omega)) (by first | (simp [List.lookup]; done) | (simp [Nat.add_assoc, List.lookup]; done)) _ | refine Fr.drew ?_ | refine Fr.alloc ?_ _))))) (first | (go_at_call 14; refine (pnormal_any _ _ _ _ _).mono ?_; rintro e w1 ⟨rfl, hb1⟩) | (go_at_call 13; refine (pdot_any _ _ _ _ _ _ _).mono ?_; rintro e w1 ⟨rfl, hb1⟩))
        go_wp2
        go_ret
        obtain ⟨hF, -⟩ : Fr 2 _ _ w _ ∧ _ := by assumption
        exact ⟨ret_bool (by rw [HQ.out, HZ.out]; rfl), hF.own.below⟩

/-- The reference's Angle. -/
noncomputable def rangI (p : Q4) (u v : T3) : Int := vl (if 0 < dot p.a p.b p.c (crs u.y v.z u.z v.y) (crs u.z v.x u.x v.z) (crs u.x v.y u.y v.x) then 1 else if dot p.a p.b p.c (crs u.y v.z u.z v.y) (crs u.z v.x u.x v.z) (crs u.x v.y u.y v.x) < 0 then 3 else if dot u.x u.y u.z v.x v.y v.z < 0 then 2 else 0)
theorem rangI_eq (p : Q4) (u v : T3) : rangI p u v = (if 0 < dot p.a p.b p.c (crs u.y v.z u.z v.y) (crs u.z v.x u.x v.z) (crs u.x v.y u.y v.x) then 1 else if dot p.a p.b p.c (crs u.y v.z u.z v.y) (crs u.z v.x u.x v.z) (crs u.x v.y u.y v.x) < 0 then 3 else if dot u.x u.y u.z v.x v.y v.z < 0 then 2 else 0) := vl_eq _

set_option maxHeartbeats 1000000 in
theorem rangle_any (p : Q4) (u v : T3) (w : World) :
    Calls Tryz.prog 75 #[.agg #[.int .i64 (p.a), .int .i64 (p.b), .int .i64 (p.c), .int .i64 (p.d)], .agg #[.int .i64 (u.x), .int .i64 (u.y), .int .i64 (u.z)], .agg #[.int .i64 (v.x), .int .i64 (v.y), .int .i64 (v.z)]] w fun e w' => e = .returned (.int .i64 (rangI p u v)) ∧ Below w.heap.size w w' := by
  go_enter Tryz.func75, Tryz.ntmps75
  go_wp2
  have hE : ∀ W, Fr 3 [(0, .cells #[.int .i64 (p.a), .int .i64 (p.b), .int .i64 (p.c), .int .i64 (p.d)] 23), (1, .cells #[.int .i64 (u.x), .int .i64 (u.y), .int .i64 (u.z)] 24), (2, .cells #[.int .i64 (v.x), .int .i64 (v.y), .int .i64 (v.z)] 24)] [] w W → (W.cell? ⟨w.heap.size, 0, none⟩ = some (.int .i64 (p.a)) ∧ W.cell? ⟨w.heap.size, 1, none⟩ = some (.int .i64 (p.b)) ∧ W.cell? ⟨w.heap.size, 2, none⟩ = some (.int .i64 (p.c)) ∧ W.cell? ⟨w.heap.size, 3, none⟩ = some (.int .i64 (p.d)) ∧ W.cell? ⟨w.heap.size + 1, 0, none⟩ = some (.int .i64 (u.x)) ∧ W.cell? ⟨w.heap.size + 1, 1, none⟩ = some (.int .i64 (u.y)) ∧ W.cell? ⟨w.heap.size + 1, 2, none⟩ = some (.int .i64 (u.z)) ∧ W.cell? ⟨w.heap.size + 2, 0, none⟩ = some (.int .i64 (v.x)) ∧ W.cell? ⟨w.heap.size + 2, 1, none⟩ = some (.int .i64 (v.y)) ∧ W.cell? ⟨w.heap.size + 2, 2, none⟩ = some (.int .i64 (v.z))) := fun W h => by (repeat' apply And.intro) <;> first | exact h.at0 rfl | exact h.at rfl | exact (h.rms0 rfl).cell | exact (h.rms rfl).cell | exact (h.rms0 rfl).frozen | exact (h.rms rfl).frozen
  have HE := Lib.hid hE
  clear hE
  go_region_held3 (fun W => Fr 3 [(0, .cells #[.int .i64 (p.a), .int .i64 (p.b), .int .i64 (p.c), .int .i64 (p.d)] 23), (1, .cells #[.int .i64 (u.x), .int .i64 (u.y), .int .i64 (u.z)] 24), (2, .cells #[.int .i64 (v.x), .int .i64 (v.y), .int .i64 (v.z)] 24)] [] w W ∧ W.cell? ⟨w.heap.size, 0, none⟩ = some (.int .i64 (p.a)) ∧ W.cell? ⟨w.heap.size, 1, none⟩ = some (.int .i64 (p.b)) ∧ W.cell? ⟨w.heap.size, 2, none⟩ = some (.int .i64 (p.c)) ∧ W.cell? ⟨w.heap.size, 3, none⟩ = some (.int .i64 (p.d)) ∧ W.cell? ⟨w.heap.size + 1, 0, none⟩ = some (.int .i64 (u.x)) ∧ W.cell? ⟨w.heap.size + 1, 1, none⟩ = some (.int .i64 (u.y)) ∧ W.cell? ⟨w.heap.size + 1, 2, none⟩ = some (.int .i64 (u.z)) ∧ W.cell? ⟨w.heap.size + 2, 0, none⟩ = some (.int .i64 (v.x)) ∧ W.cell? ⟨w.heap.size + 2, 1, none⟩ = some (.int .i64 (v.y)) ∧ W.cell? ⟨w.heap.size + 2, 2, none⟩ = some (.int .i64 (v.z))) ((first | exact hSK | assumption | (have hq := Fr.keep HE.out (by assumption) hb1; exact hq) | (have hq := Fr.both HE.out hF.drew; exact hq) | (have hq := Fr.both HE.out ((((Fr.nil w).fixed (by simp) (.cells #[.int .i64 (p.a), .int .i64 (p.b), .int .i64 (p.c), .int .i64 (p.d)] 23)).fixed (by simp) (.cells #[.int .i64 (u.x), .int .i64 (u.y), .int .i64 (u.z)] 24)).fixed (by simp) (.cells #[.int .i64 (v.x), .int .i64 (v.y), .int .i64 (v.z)] 24)).drew; exact hq) | (refine Fr.both HE.out ?_; (repeat (first | exact hF | exact And.left (by assumption) | refine Fr.set ?_ (by first | (simp; done) | (simp; omega)) (by first | (simp [List.lookup]; done) | (simp [Nat.add_assoc, List.lookup]; done)) _ | refine Fr.drew ?_ | refine Fr.alloc ?_ _))))) (first | (go_at_call 14; refine (pnormal_any _ _ _ _ _).mono ?_; rintro e w1 ⟨rfl, hb1⟩) | (go_at_call 37; refine (pcross_any _ _ _ _ _ _ _).mono ?_; rintro e w1 ⟨rfl, hb1⟩) | (go_at_call 13; refine (pdot_any _ _ _ _ _ _ _).mono ?_; rintro e w1 ⟨rfl, hb1⟩))
  go_split_ands
  go_wp2_with (first | (go_at_call 13; refine (pdot_any _ _ _ _ _ _ _).mono ?_; rintro e w1 ⟨rfl, hb1⟩))
  all_goals (go_ret; refine ⟨ret_int (by rw [rangI_eq]; (repeat' split) <;> omega), ?_⟩; first | exact Own.below (Fr.own (by assumption)) | exact (Own.call (Fr.own (by assumption)) hb1).below)

end Go.Proofs.YtaoedfegakpjeabGreat

namespace Go.Proofs.YtaoedfegakpjeabGreat
open Go.RowKit

def T3.I64' (v : T3) : Prop := Proofs.YtaoedfegakpjeabGreat.I64 v.x ∧ Proofs.YtaoedfegakpjeabGreat.I64 v.y ∧ Proofs.YtaoedfegakpjeabGreat.I64 v.z
theorem outB_size {n : Int} (h : I64 n) : outB n = !decide (sizeI n ≤ 2000000) := by
  have e := sizeI_le h (m := 2000000) (by omega)
  rw [outB_eq, Bool.eq_iff_iff]
  simp only [Bool.or_eq_true, decide_eq_true_eq, Bool.not_eq_true', decide_eq_false_iff_not, e]
  omega
/-- A vector is a direction for the one just if it is for the other. -/
theorem way_bad (p : Q4) {v : T3} (iv : v.I64') : wayB p v = !badV p v := by
  rw [wayB_eq, badV_eq, out3_eq]
  simp only [List.any_cons, List.any_nil, outB_size iv.1, outB_size iv.2.1, outB_size iv.2.2]
  cases decide (sizeI v.x ≤ 2000000) <;> cases decide (sizeI v.y ≤ 2000000) <;> cases decide (sizeI v.z ≤ 2000000) <;> cases eq3B v.x v.y v.z 0 0 0 <;> simp [bne]
theorem are_two_way (p : Q4) {u v : T3} (iu : u.I64') (iv : v.I64') : areB p [u, v] = (wayB p u && wayB p v) := by
  rw [areB_eq, way_bad p iu, way_bad p iv]
  simp
def WayOK' (p : Q4) (d : T3) : Prop := ¬ (d.x = 0 ∧ d.y = 0 ∧ d.z = 0) ∧ d.x.natAbs ≤ 2000000 ∧ d.y.natAbs ≤ 2000000 ∧ d.z.natAbs ≤ 2000000 ∧ p.a * d.x + p.b * d.y + p.c * d.z = 0
theorem wayB_ok {p : Q4} (hp : Pl p) {v : T3} (iv : v.I64') (h : wayB p v = true) : WayOK' p v := by
  rw [wayB_eq] at h
  simp only [Bool.and_eq_true, decide_eq_true_eq, Bool.not_eq_true', beq_iff_eq] at h
  obtain ⟨h1, h2, h3, h4, h5⟩ := h
  have k1 := (sizeI_le iv.1 (by omega)).1 h1
  have k2 := (sizeI_le iv.2.1 (by omega)).1 h2
  have k3 := (sizeI_le iv.2.2 (by omega)).1 h3
  have b1 : v.x.natAbs ≤ 2000000 := by omega
  have b2 : v.y.natAbs ≤ 2000000 := by omega
  have b3 : v.z.natAbs ≤ 2000000 := by omega
  rw [dot_id hp.a hp.b hp.c b1 b2 b3 (by omega)] at h5
  refine ⟨fun hh => ?_, b1, b2, b3, h5⟩
  rw [hh.1, hh.2.1, hh.2.2] at h4; simp [eq3B] at h4

/-- The square of the triple product, of two vectors in a plane. -/
theorem gram (a b c x y z r s t : Int) (h1 : a * x + b * y + c * z = 0) (h2 : a * r + b * s + c * t = 0) :
    (a * (y * t - z * s) + b * (z * r - x * t) + c * (x * s - y * r)) * (a * (y * t - z * s) + b * (z * r - x * t) + c * (x * s - y * r)) =
      (a * a + b * b + c * c) * ((x * x + y * y + z * z) * (r * r + s * s + t * t) - (x * r + y * s + z * t) * (x * r + y * s + z * t)) := by
  have id : ∀ (A B : Int), A = a * x + b * y + c * z → B = a * r + b * s + c * t →
    (a * (y * t - z * s) + b * (z * r - x * t) + c * (x * s - y * r)) * (a * (y * t - z * s) + b * (z * r - x * t) + c * (x * s - y * r)) =
      (a * a + b * b + c * c) * ((x * x + y * y + z * z) * (r * r + s * s + t * t) - (x * r + y * s + z * t) * (x * r + y * s + z * t)) - A * (A * (r * r + s * s + t * t) - B * (x * r + y * s + z * t)) + B * (A * (x * r + y * s + z * t) - B * (x * x + y * y + z * z)) := by
    intro A B hA hB
    subst hA hB
    grind
  have := id 0 0 h1.symm h2.symm
  rw [this]; simp

theorem sq_pos {x y z : Int} (h : ¬ (x = 0 ∧ y = 0 ∧ z = 0)) : 0 < x * x + y * y + z * z := by
  have sq : ∀ x : Int, 0 ≤ x * x ∧ (x ≠ 0 → 0 < x * x) := fun x => by
    have h : (x.natAbs : Int) * x.natAbs = x * x := Int.natAbs_mul_self' x
    rw [← h]
    exact ⟨Int.mul_nonneg (by omega) (by omega), fun hx => Int.mul_pos (by omega) (by omega)⟩
  have s1 := sq x
  have s2 := sq y
  have s3 := sq z
  by_cases z1 : x = 0
  · by_cases z2 : y = 0
    · have := s3.2 (fun z3 => h ⟨z1, z2, z3⟩); omega
    · have := s2.2 z2; omega
  · have := s1.2 z1; omega
theorem sgn_pos (x : Int) : (0 < sgn x ↔ 0 < x) ∧ (sgn x < 0 ↔ x < 0) := by
  unfold sgn cmp3
  constructor <;> ((repeat' split) <;> omega)
/-- Program and reference agree how a direction lies to another one. -/
theorem ang_same {p : Q4} (hp : Pl p) {u v : T3} (hu : WayOK' p u) (hv : WayOK' p v) : angT p u v = rangI p u v := by
  obtain ⟨nu, u1, u2, u3, pu⟩ := hu
  obtain ⟨nv, v1, v2, v3, pv⟩ := hv
  have x := crs_id u2 v3 u3 v2 (by omega)
  have y := crs_id u3 v1 u1 v3 (by omega)
  have z := crs_id u1 v2 u2 v1 (by omega)
  have d := dot_id u1 u2 u3 v1 v2 v3 (by omega)
  have c1 : dot (crs u.y v.z u.z v.y) (crs u.z v.x u.x v.z) (crs u.x v.y u.y v.x) p.a p.b p.c = (u.y * v.z - u.z * v.y) * p.a + (u.z * v.x - u.x * v.z) * p.b + (u.x * v.y - u.y * v.x) * p.c := by
    rw [x.1, y.1, z.1, dot_id x.2 y.2 z.2 hp.a hp.b hp.c (by omega)]
  have c2 : dot p.a p.b p.c (crs u.y v.z u.z v.y) (crs u.z v.x u.x v.z) (crs u.x v.y u.y v.x) = p.a * (u.y * v.z - u.z * v.y) + p.b * (u.z * v.x - u.x * v.z) + p.c * (u.x * v.y - u.y * v.x) := by
    rw [x.1, y.1, z.1, dot_id hp.a hp.b hp.c x.2 y.2 z.2 (by omega)]
  have ec : (u.y * v.z - u.z * v.y) * p.a + (u.z * v.x - u.x * v.z) * p.b + (u.x * v.y - u.y * v.x) * p.c = p.a * (u.y * v.z - u.z * v.y) + p.b * (u.z * v.x - u.x * v.z) + p.c * (u.x * v.y - u.y * v.x) := by grind
  have hg := gram p.a p.b p.c u.x u.y u.z v.x v.y v.z pu pv
  rw [angT_eq, rangI_eq]
  unfold angle
  rw [c1, c2, ec, d]
  have hN := sq_pos hp.nz
  have hU := sq_pos nu
  have hV := sq_pos nv
  have hne : ∀ C D : Int, C * C = (p.a * p.a + p.b * p.b + p.c * p.c) * ((u.x * u.x + u.y * u.y + u.z * u.z) * (v.x * v.x + v.y * v.y + v.z * v.z) - D * D) → C = 0 → D ≠ 0 := by
    intro C D h hC hD
    subst hC hD
    have := Int.mul_pos hN (Int.mul_pos hU hV)
    simp at h
    omega
  have k := hne _ _ hg
  generalize p.a * (u.y * v.z - u.z * v.y) + p.b * (u.z * v.x - u.x * v.z) + p.c * (u.x * v.y - u.y * v.x) = C at k ⊢
  generalize u.x * v.x + u.y * v.y + u.z * v.z = D at k ⊢
  have s1 := (sgn_pos C).1
  have s2 := (sgn_pos C).2
  by_cases hC : 0 < C
  · rw [if_pos (s1.2 hC), if_pos hC]
  · rw [if_neg (fun h => hC (s1.1 h)), if_neg hC]
    by_cases hC2 : C < 0
    · rw [if_pos (s2.2 hC2), if_pos hC2]
    · rw [if_neg (fun h => hC2 (s2.1 h)), if_neg hC2]
      have := k (by omega)
      (repeat' split) <;> omega

/-- What LineAngles asks for: the error; and that its test does not fall. -/
noncomputable def laE (p : Q4) (u v : T3) : Int := vl (if p.plane = false then 30 else if wayB p u = false then 1 else if wayB p v = false then 1 else 0)
theorem laE_eq (p : Q4) (u v : T3) : laE p u v = (if p.plane = false then 30 else if wayB p u = false then 1 else if wayB p v = false then 1 else 0) := vl_eq _
theorem angE_la (p : Q4) {u v : T3} (iu : u.I64') (iv : v.I64') : angE p u v = laE p u v := by
  rw [angE_eq, laE_eq, are_two_way p iu iv]
  cases wayB p u <;> cases wayB p v <;> simp
theorem angV_la (p : Q4) {u v : T3} (iu : u.I64') (iv : v.I64') : (laE p u v ≠ 0 → angV p u v = 0) ∧ (laE p u v = 0 → angV p u v = rangI p u v) := by
  rw [laE_eq, angV_eq, are_two_way p iu iv]
  by_cases hp : p.plane = false
  · rw [if_pos hp, if_pos hp]; exact ⟨fun _ => rfl, fun h => absurd h (by decide)⟩
  · rw [if_neg hp, if_neg hp]
    have hP := (plane_iff.1 (by simpa using hp)).1
    cases hu : wayB p u with
    | false => simp
    | true =>
      cases hv : wayB p v with
      | false => simp
      | true =>
        simp
        exact ang_same hP (wayB_ok hP iu hu) (wayB_ok hP iv hv)

end Go.Proofs.YtaoedfegakpjeabGreat

namespace Go.Proofs.YtaoedfegakpjeabGreat
open Go.ChangeShapes Go.WideShapes Go.ChangeAt Go.RowKit

theorem Tryz.layed : laidOutB Tryz.prog = true := by kernel_rfl
theorem addr_two (a : Addr) (m n : Nat) : (a.add m).add n = a.add (m + n) := by
  unfold Addr.add
  by_cases h : m = 0
  · simp [h]
  · by_cases k : n = 0
    · simp [h, k]
    · simp [h, k, Nat.add_assoc]
theorem choose_list {α : Type} {p : Nat → α → Prop} : ∀ n, (∀ i, i < n → ∃ x, p i x) → ∃ l : List α, l.length = n ∧ ∀ i x, l[i]? = some x → p i x
  | 0, _ => ⟨[], rfl, fun i x h => by simp at h⟩
  | n + 1, h => by
    obtain ⟨l, hl, hp⟩ := choose_list n (fun i hi => h i (by omega))
    obtain ⟨x, hx⟩ := h n (by omega)
    refine ⟨l ++ [x], by simp [hl], fun i y hy => ?_⟩
    by_cases e : i < l.length
    · rw [List.getElem?_append_left e] at hy; exact hp i y hy
    · rw [List.getElem?_append_right (by omega)] at hy
      have hi : i - l.length = 0 := by
        have := (List.getElem?_eq_some_iff.1 hy).1; simp at this; omega
      rw [hi] at hy
      simp at hy
      subst hy
      have : i = n := by omega
      rw [this]; exact hx

section
variable {H : Type} {enc : TypeId × Value → H} {w : World} {base : Nat} {spare : Nat → Bool} {held : Bool}

theorem arg_again {t : TypeId} (hr : Tryz.prog.readableRec t = true) (hrow : t < Tryz.prog.types.size) {W W' : World} {v : Value} {d : DataW H} {ps : List MemPlace} (h : DataW.Trod enc Tryz.prog W 0 (fun _ => true) true t v d ps)
    (hb : Below W.heap.size W W') (hlt : ∀ x ∈ ps, x.block < W.heap.size) {sp : Nat → Bool} (hs : ∀ x ∈ ps, sp x.block = true) : DataW.Trod enc Tryz.prog W' 0 sp true t v d ps :=
  WideElems.Trod_stays Tryz.layed hr hrow h (fun x hx => hb.same (hlt x hx)) hs

set_option maxRecDepth 100000 in
/-- A slice of arrays of three int64. -/
theorem open_vecs {t : TypeId} {b0 : Nat} {v : Value} {d : DataW H} {p : List MemPlace} (ht : Tryz.prog.underlying t = some (.slice 24))
    (hv : Value.okWide Tryz.prog w .any b0 t v) (h : DataW.Trod enc Tryz.prog w base spare held t v d p) :
    ∃ l : List T3, (∀ x, x ∈ l → x.I64') ∧ ((v = .slice none 0 0 ∧ l = []) ∨ ∃ n ad cap, n = l.length ∧ v = .slice (some ad) n cap ∧ (∀ j u, (flat3 l)[j]? = some u → w.cell? (ad.add j) = some u) ∧ n ≤ cap ∧ cap ≤ maxLen) := by
  obtain ⟨a, len, cap, rfl⟩ := okWide_slice ht hv
  obtain ⟨fuel, hf⟩ := h
  rcases Deep.open_slice ht hf with ⟨hcs, -⟩ | ⟨a', len', cap', m, n, D, Pl, hcs, hb, hl, hm, hmm, -, hx⟩
  · simp [Value.cells] at hcs
    obtain ⟨rfl, rfl, rfl⟩ := hcs
    exact ⟨[], fun x hx => by simp at hx, .inl ⟨rfl, rfl⟩⟩
  · simp [Value.cells] at hcs
    obtain ⟨rfl, rfl, rfl⟩ := hcs
    have hlm : len ≤ m := by rw [hmm]; split <;> omega
    obtain ⟨l, h1, h2⟩ := choose_list (p := fun i (q : T3) => q.I64' ∧ w.cell? (a'.add (i * 3)) = some (.int .i64 q.x) ∧ w.cell? (a'.add (i * 3 + 1)) = some (.int .i64 q.y) ∧ w.cell? (a'.add (i * 3 + 2)) = some (.int .i64 q.z)) len (fun i hi => by
      obtain ⟨cs, e1, e2⟩ := hx i (by omega)
      rw [Tryz.c24] at e1
      obtain ⟨_, hlen, hc⟩ := World.cells?_some e1
      match cs, hlen with
      | [c0, c1, c2], _ =>
        obtain ⟨y0, y1, y2, m, _, hy0, hy1, hy2⟩ := trod_array3 Tryz.u24 Tryz.cells2 e2
        obtain ⟨x0, k0, _, w0⟩ := DataW.trod_int Tryz.u2 hy0
        obtain ⟨x1, k1, _, w1⟩ := DataW.trod_int Tryz.u2 hy1
        obtain ⟨x2, k2, _, w2⟩ := DataW.trod_int Tryz.u2 hy2
        simp at k0 k1 k2
        subst k0 k1 k2
        have r0 := hc 0 (by omega)
        have r1 := hc 1 (by omega)
        have r2 := hc 2 (by omega)
        rw [addr_two] at r0 r1 r2
        exact ⟨⟨x0, x1, x2⟩, ⟨i64_wf w0, i64_wf w1, i64_wf w2⟩, by simpa using r0, by simpa using r1, by simpa using r2⟩)
    refine ⟨l, fun x hx => ?_, .inr ⟨len, a', cap, h1.symm, rfl, fun j u hj => ?_, hl, hm⟩⟩
    · obtain ⟨i, hi, rfl⟩ := List.getElem_of_mem hx
      exact (h2 i _ (List.getElem?_eq_getElem hi)).1
    · have hj1 := (List.getElem?_eq_some_iff.1 hj).1
      rw [flat3_len] at hj1
      obtain ⟨q, e⟩ : ∃ q, l[j / 3]? = some q := ⟨_, List.getElem?_eq_getElem (by omega)⟩
      have hg := flat3_get _ _ _ e (j % 3) (by omega)
      obtain ⟨_, c0, c1, c2⟩ := h2 _ _ e
      rw [show j / 3 * 3 + j % 3 = j by omega, hj] at hg
      have ej : j = j / 3 * 3 + j % 3 := by omega
      rw [ej]
      have h3 : j % 3 < 3 := by omega
      generalize j % 3 = r at hg h3 ⊢
      match r, h3 with
      | 0, _ =>
        have hu : u = .int .i64 q.x := by simpa using hg
        rw [hu]; exact c0
      | 1, _ =>
        have hu : u = .int .i64 q.y := by simpa using hg
        rw [hu]; exact c1
      | 2, _ =>
        have hu : u = .int .i64 q.z := by simpa using hg
        rw [hu]; exact c2
end

end Go.Proofs.YtaoedfegakpjeabGreat

namespace Go.Proofs.YtaoedfegakpjeabGreat
open Go.RowKit

/-- What is said of a temporary: its value; or that it is a right plane. -/
inductive VP
  | eq (v : Value)
  | pl
def VP.holds : VP → Value → Prop
  | .eq v, x => x = v
  | .pl, x => ∃ q : Q4, rightB q.a q.b q.c q.d = true ∧ q.I64 ∧ x = .agg #[.int .i64 (q.a), .int .i64 (q.b), .int .i64 (q.c), .int .i64 (q.d)]

/-- A block for a plane. -/
def PB (W : World) (b : Nat) (c : Array Value) : Prop := c.size = 4 ∧ Blk W b (.cells c 23)
def set4 (W : World) (b : Nat) (x y z t : Value) : World := (((W.setCell ⟨b, 0, none⟩ x).setCell ⟨b, 1, none⟩ y).setCell ⟨b, 2, none⟩ z).setCell ⟨b, 3, none⟩ t
theorem PB.put {W : World} {b : Nat} {c : Array Value} (h : PB W b c) (x y z t : Value) : PB (set4 W b x y z t) b #[x, y, z, t] := by
  refine ⟨rfl, ?_⟩
  obtain ⟨h1, h2⟩ := h
  unfold Blk at *
  match c, h1 with
  | ⟨[p, q, r, s]⟩, _ => simp [set4, World.setCell, Array.getElem?_modify, h2]
theorem PB.other {W : World} {b b' : Nat} {c : Array Value} (h : PB W b c) (hb : b ≠ b') (x y z t : Value) : PB (set4 W b' x y z t) b c := by
  refine ⟨h.1, ?_⟩
  unfold PB Blk set4 at *
  rw [Below.heap_setCell _ _ _ _ (by show b ≠ b'; exact hb), Below.heap_setCell _ _ _ _ (by show b ≠ b'; exact hb), Below.heap_setCell _ _ _ _ (by show b ≠ b'; exact hb), Below.heap_setCell _ _ _ _ (by show b ≠ b'; exact hb)]; exact h.2

/-- The state of such a region: S what is said of each temporary, T what is stored behind each pointer; 'als': the operation that makes the block, its temporary, the operation that stores. -/
structure RgQ (W0 : World) (S T : Nat → VP) (vals : List (Nat × Nat)) (als : List (Nat × Nat × Nat)) (listed : Array Bool) (u : Nat → Value) (w : World) : Prop where
  below : Below W0.heap.size W0 w
  val : ∀ x ∈ vals, listed.getD x.1 false = true → (S x.2).holds (u x.2)
  ali : ∀ x ∈ als, listed.getD x.1 false = true → ∃ b c, u x.2.1 = .pointer (some ⟨b, 0, none⟩) ∧ W0.heap.size ≤ b ∧ PB w b c ∧ (listed.getD x.2.2 false = true → (T x.2.1).holds (.agg c))
  dis : ∀ x ∈ als, ∀ y ∈ als, x.1 ≠ y.1 → listed.getD x.1 false = true → listed.getD y.1 false = true → u x.2.1 ≠ u y.2.1
  ord : ∀ x ∈ als, listed.getD x.2.2 false = true → listed.getD x.1 false = true

section
variable {W0 w w1 : World} {S T : Nat → VP} {vals : List (Nat × Nat)} {als : List (Nat × Nat × Nat)} {listed : Array Bool} {u : Nat → Value}

theorem RgQ.start (n : Nat) (u : Nat → Value) : RgQ W0 S T vals als (Array.replicate n false) u W0 := by
  have h : ∀ i, (Array.replicate n false).getD i false = true → False := fun i h => by
    simp only [Array.getD] at h
    split at h <;> simp at h
  exact ⟨Below.refl _ _, fun x _ hl => (h _ hl).elim, fun x _ hl => (h _ hl).elim, fun x _ y _ _ hl => (h _ hl).elim, fun x _ hl => (h _ hl).elim⟩

def clashQ (als : List (Nat × Nat × Nat)) (i d : Nat) : Bool := als.all fun x => x.1 != i && (x.2.1 != d && x.2.2 != i)

theorem RgQ.yields {i d : Nat} {v : Value} (h : RgQ W0 S T vals als listed u w) (hb : Below w.heap.size w w1) (hv : (S d).holds v) (h1 : clashV vals i d = true) (h2 : clashQ als i d = true) :
    RgQ W0 S T vals als (listed.setIfInBounds i true) (upd u d v) w1 := by
  have hs := h.below.size
  refine ⟨h.below.trans (hb.mono hs), fun x hx hl => ?_, fun x hx hl => ?_, fun x hx y hy hne hl hk => ?_, fun x hx hl => ?_⟩
  · have hc := List.all_eq_true.1 h1 x hx
    by_cases e : x.1 = i
    · rw [if_pos e] at hc
      have : x.2 = d := by simpa using hc
      rw [this, upd_same]; exact hv
    · rw [if_neg e] at hc
      rw [upd_other _ _ (by simpa using hc)]
      exact h.val x hx ((listed_set hl).resolve_left e)
  · have hc := List.all_eq_true.1 h2 x hx
    simp only [Bool.and_eq_true, bne_iff_ne, ne_eq] at hc
    rw [upd_other _ _ hc.2.1]
    obtain ⟨b, c, e1, e2, e3, e4⟩ := h.ali x hx ((listed_set hl).resolve_left hc.1)
    exact ⟨b, c, e1, e2, ⟨e3.1, e3.2.below hb e3.2.lt⟩, fun hk => e4 ((listed_set hk).resolve_left hc.2.2)⟩
  · have hc := List.all_eq_true.1 h2 x hx
    have hd := List.all_eq_true.1 h2 y hy
    simp only [Bool.and_eq_true, bne_iff_ne, ne_eq] at hc hd
    rw [upd_other _ _ hc.2.1, upd_other _ _ hd.2.1]
    exact h.dis x hx y hy hne ((listed_set hl).resolve_left hc.1) ((listed_set hk).resolve_left hd.1)
  · have hc := List.all_eq_true.1 h2 x hx
    simp only [Bool.and_eq_true, bne_iff_ne, ne_eq] at hc
    exact listed_more (h.ord x hx ((listed_set hl).resolve_left hc.2.2))

def makesQ (als : List (Nat × Nat × Nat)) (i d : Nat) : Bool := als.all fun x => x.2.2 != i && (if x.1 = i then x.2.1 == d else x.2.1 != d)

theorem RgQ.makes {i d : Nat} {c : Array Value} (h : RgQ W0 S T vals als listed u w) (hc : c.size = 4) (hi : listed.getD i true = false) (h1 : apartV vals i d = true) (h2 : makesQ als i d = true) :
    RgQ W0 S T vals als (listed.setIfInBounds i true) (upd u d (.pointer (some ⟨w.heap.size, 0, none⟩))) (w.alloc (.cells c 23)) := by
  have hs := h.below.size
  have hb : Below w.heap.size w (w.alloc (.cells c 23)) := (Below.refl _ _).alloc (Nat.le_refl _) _
  refine ⟨h.below.alloc hs _, fun x hx hl => ?_, fun x hx hl => ?_, fun x hx y hy hne hl hk => ?_, fun x hx hl => ?_⟩
  · have hc := List.all_eq_true.1 h1 x hx
    simp only [Bool.and_eq_true, bne_iff_ne, ne_eq] at hc
    rw [upd_other _ _ hc.2]
    exact h.val x hx ((listed_set hl).resolve_left hc.1)
  · have hd := List.all_eq_true.1 h2 x hx
    simp only [Bool.and_eq_true, bne_iff_ne, ne_eq] at hd
    obtain ⟨hd0, hd⟩ := hd
    by_cases e : x.1 = i
    · rw [if_pos e] at hd
      have hd : x.2.1 = d := by simpa using hd
      rw [hd, upd_same]
      refine ⟨_, c, rfl, hs, ⟨hc, by unfold Blk; show (w.heap.push _)[w.heap.size]? = _; simp⟩, fun hk => ?_⟩
      have := h.ord x hx ((listed_set hk).resolve_left hd0)
      rw [e] at this
      rw [listed_getD this] at hi
      exact absurd hi (by simp)
    · rw [if_neg e] at hd
      rw [upd_other _ _ (by simpa using hd)]
      obtain ⟨b, c', e1, e2, e3, e4⟩ := h.ali x hx ((listed_set hl).resolve_left e)
      exact ⟨b, c', e1, e2, ⟨e3.1, e3.2.below hb e3.2.lt⟩, fun hk => e4 ((listed_set hk).resolve_left hd0)⟩
  · have hd := List.all_eq_true.1 h2 x hx
    have he := List.all_eq_true.1 h2 y hy
    simp only [Bool.and_eq_true, bne_iff_ne, ne_eq] at hd he
    obtain ⟨_, hd⟩ := hd
    obtain ⟨_, he⟩ := he
    by_cases e : x.1 = i
    · have e' : ¬ y.1 = i := fun k => hne (e.trans k.symm)
      rw [if_pos e] at hd
      rw [if_neg e'] at he
      have hd : x.2.1 = d := by simpa using hd
      rw [hd, upd_same, upd_other _ _ (by simpa using he)]
      obtain ⟨b, _, e1, _, e3, _⟩ := h.ali y hy ((listed_set hk).resolve_left e')
      have := e3.2.lt
      rw [e1]
      intro k
      simp only [Value.pointer.injEq, Option.some.injEq, Addr.mk.injEq] at k
      omega
    · rw [if_neg e] at hd
      rw [upd_other _ _ (by simpa using hd)]
      by_cases e' : y.1 = i
      · rw [if_pos e'] at he
        have he : y.2.1 = d := by simpa using he
        rw [he, upd_same]
        obtain ⟨b, _, e1, _, e3, _⟩ := h.ali x hx ((listed_set hl).resolve_left e)
        have := e3.2.lt
        rw [e1]
        intro k
        simp only [Value.pointer.injEq, Option.some.injEq, Addr.mk.injEq] at k
        omega
      · rw [if_neg e'] at he
        rw [upd_other _ _ (by simpa using he)]
        exact h.dis x hx y hy hne ((listed_set hl).resolve_left e) ((listed_set hk).resolve_left e')
  · have hd := List.all_eq_true.1 h2 x hx
    simp only [Bool.and_eq_true, bne_iff_ne, ne_eq] at hd
    exact listed_more (h.ord x hx ((listed_set hl).resolve_left hd.1))

/-- Operation i stores behind the pointer of temporary d, whose block operation k made. -/
def storesQ (vals : List (Nat × Nat)) (als : List (Nat × Nat × Nat)) (i k d : Nat) : Bool := (vals.all fun x => x.1 != i) && ((als.all fun x => x.1 != i && (if x.1 = k then x.2.1 == d && x.2.2 == i else x.2.2 != i)) && als.contains (k, d, i))

theorem RgQ.stores {i k d b : Nat} {x y z t : Value} (h : RgQ W0 S T vals als listed u w) (hk : listed.getD k false = true) (hu : u d = .pointer (some ⟨b, 0, none⟩)) (hv : (T d).holds (.agg #[x, y, z, t])) (h1 : storesQ vals als i k d = true) :
    RgQ W0 S T vals als (listed.setIfInBounds i true) u (set4 w b x y z t) := by
  simp only [storesQ, Bool.and_eq_true, List.contains_eq_mem, decide_eq_true_eq] at h1
  obtain ⟨g1, g2, g3⟩ := h1
  obtain ⟨b', c, e1, e2, e3, _⟩ := h.ali _ g3 hk
  have eb : b' = b := by simpa using e1.symm.trans hu
  subst eb
  refine ⟨(((h.below.setCell (by exact e2) _).setCell (by exact e2) _).setCell (by exact e2) _).setCell (by exact e2) _, fun m hz hl => ?_, fun m hz hl => ?_, fun m hz m' hz' hne hl hm => ?_, fun m hz hl => ?_⟩
  · have hd := List.all_eq_true.1 g1 m hz
    simp only [bne_iff_ne, ne_eq] at hd
    exact h.val m hz ((listed_set hl).resolve_left hd)
  · have hd := List.all_eq_true.1 g2 m hz
    simp only [Bool.and_eq_true, bne_iff_ne, ne_eq] at hd
    obtain ⟨hd1, hd2⟩ := hd
    have hl' := (listed_set hl).resolve_left hd1
    obtain ⟨b2, c2, f1, f2, f3, f4⟩ := h.ali m hz hl'
    by_cases e : m.1 = k
    · rw [if_pos e] at hd2
      simp only [Bool.and_eq_true, beq_iff_eq] at hd2
      have : b2 = b' := by rw [hd2.1, hu] at f1; simpa using f1.symm
      subst this
      refine ⟨b2, #[x, y, z, t], f1, f2, f3.put x y z t, fun _ => ?_⟩
      rw [hd2.1]; exact hv
    · rw [if_neg e] at hd2
      have hne : b2 ≠ b' := by
        intro e'
        subst e'
        have := h.dis m hz (k, d, i) g3 e hl' hk
        exact this (f1.trans hu.symm)
      exact ⟨b2, c2, f1, f2, f3.other hne x y z t, fun hh => f4 ((listed_set hh).resolve_left (by simpa using hd2))⟩
  · have hd := List.all_eq_true.1 g2 m hz
    have he := List.all_eq_true.1 g2 m' hz'
    simp only [Bool.and_eq_true, bne_iff_ne, ne_eq] at hd he
    exact h.dis m hz m' hz' hne ((listed_set hl).resolve_left hd.1) ((listed_set hm).resolve_left he.1)
  · have hd := List.all_eq_true.1 g2 m hz
    simp only [Bool.and_eq_true, bne_iff_ne, ne_eq] at hd
    obtain ⟨_, hd2⟩ := hd
    by_cases e : m.1 = k
    · rw [e]; exact listed_more hk
    · rw [if_neg e] at hd2
      exact listed_more (h.ord m hz ((listed_set hl).resolve_left (by simpa using hd2)))
end

end Go.Proofs.YtaoedfegakpjeabGreat
