/- Contracts of the functions that the statement reaches, and plain lemmas: part 23 of 25. -/
import Derived.Test.YtaoedfegakpjeabGreatJ03
import Derived.Test.YtaoedfegakpjeabGreatJ18
import Derived.Test.YtaoedfegakpjeabGreatJ22
import Derived.Test.YtaoedfegakpjeabGreatJ19
import Derived.Test.YtaoedfegakpjeabGreatJ11
import Derived.Test.YtaoedfegakpjeabGreatJ12

namespace Go.Proofs.YtaoedfegakpjeabGreat
open Go.RowKit

noncomputable def soundB (a b c d : Int) : Bool := vlB (decide (sizeI a ≤ 8796093022208) && (decide (sizeI b ≤ 8796093022208) && (decide (sizeI c ≤ 8796093022208) && (decide (1 ≤ d) && (decide (d ≤ 8589934592) && gcd2 (gcd2 a b) (gcd2 c d) == 1)))))
theorem soundB_eq (a b c d : Int) : soundB a b c d = (decide (sizeI a ≤ 8796093022208) && (decide (sizeI b ≤ 8796093022208) && (decide (sizeI c ≤ 8796093022208) && (decide (1 ≤ d) && (decide (d ≤ 8589934592) && gcd2 (gcd2 a b) (gcd2 c d) == 1))))) := vlB_eq _

set_option maxHeartbeats 1000000 in
theorem sound_any (a b c d : Int) (w : World) (ia : I64 a) (ib : I64 b) (ic : I64 c) (id : I64 d) :
    Calls Tryz.prog 48 #[.agg #[.int .i64 a, .int .i64 b, .int .i64 c, .int .i64 d]] w fun e w' => e = .returned (.bool (soundB a b c d)) ∧ Below w.heap.size w w' := by
  go_enter Tryz.func48, Tryz.ntmps48
  go_wp2
  go_loop [3] (fun v => ∃ k : Nat, k ≤ 3 ∧ v = .int .i64 k ∧ SizeTo 8796093022208 a b c k) (fun v => 3 - (intOf v).toNat)
  case atStart => exact ⟨0, by omega, rfl, by omega, by omega, by omega⟩
  case round =>
    obtain ⟨k, hk, rfl, hr⟩ := hrel
    match k, hk with
    | 0, _ =>
      have HR := Lib.hid hr
      clear hr
      by_cases hx : sizeI a ≤ 8796093022208
      · have HA := Lib.hid hx
        go_wp2_with (go_at_call 44; refine (size_any _ _).mono ?_; rintro e w1 ⟨rfl, rfl⟩)
        go_round
        case rel => exact ⟨1, by omega, by go_num, fun _ => HA.out, by omega, by omega⟩
        case measure => simp [intOf]
      · have HN : Hid (soundB a b c d = false) := by unfold Hid; rw [soundB_eq, decide_eq_false hx]; simp
        go_wp2_with (go_at_call 44; refine (size_any _ _).mono ?_; rintro e w1 ⟨rfl, rfl⟩)
        go_ret
        refine ⟨ret_bool (by rw [HN.out]), ?_⟩
        repeat (first | exact Below.refl _ _ | refine Below.alloc ?_ (by first | (simp; done) | (simp; omega)) _ | refine Below.setCell ?_ (by first | (simp; done) | (simp; omega)) _ | refine Below.drew ?_)
    | 1, _ =>
      have HR := Lib.hid hr
      clear hr
      by_cases hx : sizeI b ≤ 8796093022208
      · have HA := Lib.hid hx
        go_wp2_with (go_at_call 44; refine (size_any _ _).mono ?_; rintro e w1 ⟨rfl, rfl⟩)
        go_round
        case rel => exact ⟨2, by omega, by go_num, fun _ => HR.out.1 (by omega), fun _ => HA.out, by omega⟩
        case measure => simp [intOf]
      · have HN : Hid (soundB a b c d = false) := by unfold Hid; rw [soundB_eq, decide_eq_false hx]; simp
        go_wp2_with (go_at_call 44; refine (size_any _ _).mono ?_; rintro e w1 ⟨rfl, rfl⟩)
        go_ret
        refine ⟨ret_bool (by rw [HN.out]), ?_⟩
        repeat (first | exact Below.refl _ _ | refine Below.alloc ?_ (by first | (simp; done) | (simp; omega)) _ | refine Below.setCell ?_ (by first | (simp; done) | (simp; omega)) _ | refine Below.drew ?_)
    | 2, _ =>
      have HR := Lib.hid hr
      clear hr
      by_cases hx : sizeI c ≤ 8796093022208
      · have HA := Lib.hid hx
        go_wp2_with (go_at_call 44; refine (size_any _ _).mono ?_; rintro e w1 ⟨rfl, rfl⟩)
        go_round
        case rel => exact ⟨3, by omega, by go_num, fun _ => HR.out.1 (by omega), fun _ => HR.out.2.1 (by omega), fun _ => HA.out⟩
        case measure => simp [intOf]
      · have HN : Hid (soundB a b c d = false) := by unfold Hid; rw [soundB_eq, decide_eq_false hx]; simp
        go_wp2_with (go_at_call 44; refine (size_any _ _).mono ?_; rintro e w1 ⟨rfl, rfl⟩)
        go_ret
        refine ⟨ret_bool (by rw [HN.out]), ?_⟩
        repeat (first | exact Below.refl _ _ | refine Below.alloc ?_ (by first | (simp; done) | (simp; omega)) _ | refine Below.setCell ?_ (by first | (simp; done) | (simp; omega)) _ | refine Below.drew ?_)
    | 3, _ =>
      have qa := hr.1 (by omega)
      have qb := hr.2.1 (by omega)
      have qc := hr.2.2 (by omega)
      have HQ : Hid (soundB a b c d = (decide (1 ≤ d) && (decide (d ≤ 8589934592) && gcd2 (gcd2 a b) (gcd2 c d) == 1))) := by unfold Hid; simp [soundB_eq, qa, qb, qc]
      clear hr qa qb qc
      by_cases h1 : 1 ≤ d
      · by_cases h2 : d ≤ 8589934592
        · have J1 := gcd2_i64 ia ib
          have J2 := gcd2_i64 ic id
          have HD : Hid (decide (1 ≤ d) = true ∧ decide (d ≤ 8589934592) = true) := ⟨decide_eq_true h1, decide_eq_true h2⟩
          go_wp2
          have hE : ∀ W, Fr 1 [(0, .cells #[.int .i64 a, .int .i64 b, .int .i64 c, .int .i64 d] 48)] [] w W → (W.cell? ⟨w.heap.size, 0, none⟩ = some (.int .i64 a) ∧ W.cell? ⟨w.heap.size, 1, none⟩ = some (.int .i64 b) ∧ W.cell? ⟨w.heap.size, 2, none⟩ = some (.int .i64 c) ∧ W.cell? ⟨w.heap.size, 3, none⟩ = some (.int .i64 d)) := fun W h => by (repeat' apply And.intro) <;> first | exact h.at0 rfl | exact h.at rfl | exact (h.rms0 rfl).cell | exact (h.rms rfl).cell | exact (h.rms0 rfl).frozen | exact (h.rms rfl).frozen
          have HE := Lib.hid hE
          clear hE
          go_region_held3 (fun W => Fr 1 [(0, .cells #[.int .i64 a, .int .i64 b, .int .i64 c, .int .i64 d] 48)] [] w W ∧ W.cell? ⟨w.heap.size, 0, none⟩ = some (.int .i64 a) ∧ W.cell? ⟨w.heap.size, 1, none⟩ = some (.int .i64 b) ∧ W.cell? ⟨w.heap.size, 2, none⟩ = some (.int .i64 c) ∧ W.cell? ⟨w.heap.size, 3, none⟩ = some (.int .i64 d)) ((first | exact hSK | assumption | (have hq := Fr.keep HE.out (by assumption) hb1; exact hq) | (have hq := Fr.both HE.out hF.drew; exact hq) | (have hq := Fr.both HE.out ((Fr.nil w).fixed (by simp) (.cells #[.int .i64 a, .int .i64 b, .int .i64 c, .int .i64 d] 48)).drew; exact hq) | (refine Fr.both HE.out ?_; (repeat (first | exact hF | exact And.left (by assumption) | refine Fr.set ?_ (by first | (simp; done) | (simp; omega)) (by first | (simp [List.lookup]; done) | (simp [Nat.add_assoc, List.lookup]; done)) _ | refine Fr.drew ?_ | refine Fr.alloc ?_ _))))) (first | (go_at_call 38; refine (pgcd_any _ _ _ (by assumption) (by assumption)).mono ?_; rintro e w1 ⟨rfl, hb1⟩))
          go_wp2
          go_ret
          obtain ⟨hF, -⟩ : Fr 1 _ _ w _ ∧ _ := by assumption
          exact ⟨ret_bool (by rw [HQ.out, HD.out.1, HD.out.2]; simp), hF.own.below⟩
        · have HD : Hid (decide (d ≤ 8589934592) = false) := decide_eq_false h2
          have g1 : decide (1 ≤ d) = true := decide_eq_true h1
          have g2 : decide (d ≤ 8589934592) = false := decide_eq_false h2
          go_wp2
          go_region
          go_wp2
          go_ret
          refine ⟨ret_bool (by rw [HQ.out, HD.out]; simp), ?_⟩
          repeat (first | exact Below.refl _ _ | refine Below.alloc ?_ (by first | (simp; done) | (simp; omega)) _ | refine Below.setCell ?_ (by first | (simp; done) | (simp; omega)) _ | refine Below.drew ?_)
      · have HD : Hid (decide (1 ≤ d) = false) := decide_eq_false h1
        have g1 : decide (1 ≤ d) = false := decide_eq_false h1
        go_wp2
        go_region
        go_wp2
        go_ret
        refine ⟨ret_bool (by rw [HQ.out, HD.out]; simp), ?_⟩
        repeat (first | exact Below.refl _ _ | refine Below.alloc ?_ (by first | (simp; done) | (simp; omega)) _ | refine Below.setCell ?_ (by first | (simp; done) | (simp; omega)) _ | refine Below.drew ?_)

set_option maxHeartbeats 400000 in
theorem qright_any (a b c d : Int) (w : World) (ia : I64 a) (ib : I64 b) (ic : I64 c) (id : I64 d) :
    Calls Tryz.prog 24 #[.agg #[.int .i64 a, .int .i64 b, .int .i64 c, .int .i64 d]] w fun e w' => e = .returned (.bool (soundB a b c d)) ∧ Below w.heap.size w w' := by
  go_enter Tryz.func24, Tryz.ntmps24
  have hE : ∀ W, Fr 1 [(0, .cells #[.int .i64 a, .int .i64 b, .int .i64 c, .int .i64 d] 48)] [] w W → (W.cell? ⟨w.heap.size, 0, none⟩ = some (.int .i64 a) ∧ W.cell? ⟨w.heap.size, 1, none⟩ = some (.int .i64 b) ∧ W.cell? ⟨w.heap.size, 2, none⟩ = some (.int .i64 c) ∧ W.cell? ⟨w.heap.size, 3, none⟩ = some (.int .i64 d)) := fun W h => by (repeat' apply And.intro) <;> first | exact h.at0 rfl | exact h.at rfl | exact (h.rms0 rfl).cell | exact (h.rms rfl).cell | exact (h.rms0 rfl).frozen | exact (h.rms rfl).frozen
  have HE := Lib.hid hE
  clear hE
  go_wp2_with fail
  (go_at_call 48; refine (sound_any _ _ _ _ _ ia ib ic id).mono ?_; rintro e w1 ⟨rfl, hb1⟩; (try clear hq); (try clear hz); have hF : Fr 1 [(0, .cells #[.int .i64 a, .int .i64 b, .int .i64 c, .int .i64 d] 48)] [] w w1 := Fr.call (by (repeat (first | exact hF | exact ((Fr.nil w).fixed (by simp) (.cells #[.int .i64 a, .int .i64 b, .int .i64 c, .int .i64 d] 48)) | exact And.left (by assumption) | refine Fr.set ?_ (by first | (simp; done) | (simp; omega)) (by first | (simp [List.lookup]; done) | (simp [Nat.add_assoc, List.lookup]; done)) _ | refine Fr.drew ?_ | refine Fr.alloc ?_ _))) hb1; have hq := HE.out _ hF; have hz : w.heap.size < w1.heap.size := by have hs := Own.size (Fr.own hF); omega)
  go_wp2
  go_ret
  refine ⟨rfl, ?_⟩
  refine Own.below (Fr.own (k := 1) (fx := [(0, .cells #[.int .i64 a, .int .i64 b, .int .i64 c, .int .i64 d] 48)]) (rm := []) ?_); (repeat (first | exact hF | exact And.left (by assumption) | refine Fr.set ?_ (by first | (simp; done) | (simp; omega)) (by first | (simp [List.lookup]; done) | (simp [Nat.add_assoc, List.lookup]; done)) _ | refine Fr.drew ?_ | refine Fr.alloc ?_ _))

end Go.Proofs.YtaoedfegakpjeabGreat

namespace Go.Proofs.YtaoedfegakpjeabGreat
open Go.RowKit

/-- A right point's bounds. -/
structure Pt (x : Q4) : Prop where
  a : x.a.natAbs ≤ 8796093022208
  b : x.b.natAbs ≤ 8796093022208
  c : x.c.natAbs ≤ 8796093022208
  d0 : 1 ≤ x.d
  d1 : x.d ≤ 8589934592
theorem gcd2_abs {a b : Int} (ha : a.natAbs ≤ 9223372036854775807) (hb : b.natAbs ≤ 9223372036854775807) : gcd2 a b = (Nat.gcd a.natAbs b.natAbs : Nat) := by
  rw [gcd2_eq, sizeI_abs ha, sizeI_abs hb]; simp
theorem gcd_le {m n N : Nat} (hm : m ≤ N) (hn : n ≤ N) : Nat.gcd m n ≤ N := by
  rcases Nat.eq_zero_or_pos m with h | h
  · rw [h, Nat.gcd_zero_left]; exact hn
  · exact Nat.le_trans (Nat.gcd_le_left n h) hm
theorem sound_iff {x : Q4} (ix : x.I64) : soundB x.a x.b x.c x.d = true ↔ Pt x ∧ Nat.gcd (Nat.gcd x.a.natAbs x.b.natAbs) (Nat.gcd x.c.natAbs x.d.natAbs) = 1 := by
  obtain ⟨ia, ib, ic, id⟩ := ix
  have key : x.a.natAbs ≤ 8796093022208 → x.b.natAbs ≤ 8796093022208 → x.c.natAbs ≤ 8796093022208 → x.d.natAbs ≤ 8796093022208 → gcd2 (gcd2 x.a x.b) (gcd2 x.c x.d) = (Nat.gcd (Nat.gcd x.a.natAbs x.b.natAbs) (Nat.gcd x.c.natAbs x.d.natAbs) : Nat) := by
    intro h1 h2 h3 h4
    rw [gcd2_abs (a := x.a) (by omega) (by omega), gcd2_abs (a := x.c) (by omega) (by omega)]
    have b1 := gcd_le h1 h2
    have b2 := gcd_le h3 h4
    rw [gcd2_abs (by omega) (by omega)]; simp
  rw [soundB_eq]
  simp only [Bool.and_eq_true, decide_eq_true_eq, beq_iff_eq]
  constructor
  · rintro ⟨h1, h2, h3, h4, h5, h6⟩
    have k1 := (sizeI_le ia (by omega)).1 h1
    have k2 := (sizeI_le ib (by omega)).1 h2
    have k3 := (sizeI_le ic (by omega)).1 h3
    rw [key (by omega) (by omega) (by omega) (by omega)] at h6
    exact ⟨⟨by omega, by omega, by omega, h4, h5⟩, by omega⟩
  · rintro ⟨⟨k1, k2, k3, k4, k5⟩, hg⟩
    refine ⟨(sizeI_le ia (by omega)).2 (by omega), (sizeI_le ib (by omega)).2 (by omega), (sizeI_le ic (by omega)).2 (by omega), k4, k5, ?_⟩
    rw [key k1 k2 k3 (by omega), hg]; rfl
theorem Q4.point_eq' (x : Q4) : x.point = isPointB x.a x.b x.c x.d := rfl
theorem point_iff {x : Q4} : x.point = true ↔ Pt x ∧ Nat.gcd (Nat.gcd x.a.natAbs x.b.natAbs) (Nat.gcd x.c.natAbs x.d.natAbs) = 1 := by
  have e : gcdN [x.a, x.b, x.c, x.d] = Nat.gcd (Nat.gcd x.a.natAbs x.b.natAbs) (Nat.gcd x.c.natAbs x.d.natAbs) := by
    simp [gcdN, Nat.gcd_assoc]
  rw [Q4.point_eq', isPointB_eq, gcd4_eq, e]
  simp only [withinB, Bool.and_eq_true, decide_eq_true_eq, beq_iff_eq]
  constructor
  · rintro ⟨h1, h2, h3, h4, h5, h6⟩
    refine ⟨⟨by omega, by omega, by omega, h4, h5⟩, ?_⟩
    have b1 : Nat.gcd (Nat.gcd x.a.natAbs x.b.natAbs) (Nat.gcd x.c.natAbs x.d.natAbs) ≤ 8796093022208 := gcd_le (gcd_le (by omega) (by omega)) (gcd_le (by omega) (by omega))
    rw [wrap_id (by omega)] at h6
    omega
  · rintro ⟨⟨k1, k2, k3, k4, k5⟩, hg⟩
    refine ⟨by omega, by omega, by omega, k4, k5, ?_⟩
    rw [hg]; unfold wrap64; omega
theorem sound_point {x : Q4} (ix : x.I64) : soundB x.a x.b x.c x.d = x.point := by
  rw [Bool.eq_iff_iff, sound_iff ix, point_iff]
theorem Pt.sm {x : Q4} (h : Pt x) : x.sm := ⟨by have := h.a; omega, by have := h.b; omega, by have := h.c; omega, by have := h.d0; have := h.d1; omega⟩

/-- A point on a plane: the sum is 0. -/
theorem side_zero {p x : Q4} (hp : Pl p) (hx : Pt x) (h : sideI p x = 0) : p.a * x.a + p.b * x.b + p.c * x.c + p.d * x.d = 0 := by
  have m1 := mul_bd hp.a hx.a (C := 8796093022208000) (by omega)
  have m2 := mul_bd hp.b hx.b (C := 8796093022208000) (by omega)
  have m3 := mul_bd hp.c hx.c (C := 8796093022208000) (by omega)
  have m4 := mul_bd hp.d (show x.d.natAbs ≤ 8589934592 by have := hx.d0; have := hx.d1; omega) (C := 8589934592000000) (by omega)
  rw [sideI_eq] at h
  generalize p.a * x.a = e1 at *
  generalize p.b * x.b = e2 at *
  generalize p.c * x.c = e3 at *
  generalize p.d * x.d = e4 at *
  rw [wrap_id (x := e1) (by omega), wrap_id (x := e2) (by omega), wrap_id (x := e3) (by omega), wrap_id (x := e4) (by omega), wrap_id (x := e1 + e2) (by omega), wrap_id (x := e1 + e2 + e3) (by omega), wrap_id (by omega)] at h
  unfold sgn cmp3 at h
  (repeat' split at h) <;> omega
theorem cmp3_cases (x y : Int) : (cmp3 x y = -1 ∧ x < y) ∨ (cmp3 x y = 0 ∧ x = y) ∨ (cmp3 x y = 1 ∧ y < x) := by
  unfold cmp3; (repeat' split) <;> omega
theorem sgn_two {d : Int} (h : d ≠ 0) : (sgn d = -1 ∧ ¬ 0 < d) ∨ (sgn d = 1 ∧ 0 < d) := by
  unfold sgn cmp3; (repeat' split) <;> omega
/-- Two points on a line: their order in its direction. -/
theorem al_core {dx dy dz X1 Y1 X2 Y2 X3 Y3 : Int} (h12 : (X1 - Y1) * dy = (X2 - Y2) * dx) (h13 : (X1 - Y1) * dz = (X3 - Y3) * dx) (h23 : (X2 - Y2) * dz = (X3 - Y3) * dy) (hn : ¬ (dx = 0 ∧ dy = 0 ∧ dz = 0)) :
    (if fwdB dx dy dz = true then (if cmp3 X1 Y1 != 0 then cmp3 X1 Y1 else if cmp3 X2 Y2 != 0 then cmp3 X2 Y2 else cmp3 X3 Y3) else (if cmp3 Y1 X1 != 0 then cmp3 Y1 X1 else if cmp3 Y2 X2 != 0 then cmp3 Y2 X2 else cmp3 Y3 X3)) =
    (if dx ≠ 0 then wrap64 (cmp3 X1 Y1 * sgn dx) else if dy ≠ 0 then wrap64 (cmp3 X2 Y2 * sgn dy) else if dz ≠ 0 then wrap64 (cmp3 X3 Y3 * sgn dz) else 0) := by
  have z : ∀ u d v e : Int, u * e = v * d → u = 0 → d ≠ 0 → v = 0 := by
    intro u d v e h hu hd
    rw [hu, Int.zero_mul] at h
    exact (Int.mul_eq_zero.1 h.symm).resolve_right hd
  have z' : ∀ u d v e : Int, u * e = v * d → d = 0 → e ≠ 0 → u = 0 := by
    intro u d v e h hd he
    rw [hd, Int.mul_zero] at h
    exact (Int.mul_eq_zero.1 h).resolve_right he
  have flip : ∀ x y, cmp3 y x = -cmp3 x y := by
    intro x y; unfold cmp3; (repeat' split) <;> omega
  have self : ∀ x, cmp3 x x = 0 := by intro x; unfold cmp3; simp
  rw [flip X1 Y1, flip X2 Y2, flip X3 Y3, fwdB_eq]
  by_cases hx : dx = 0
  · have v1 : dy ≠ 0 ∨ dz ≠ 0 → X1 = Y1 := by
      rintro (h | h)
      · have := z' _ _ _ _ h12 hx h; omega
      · have := z' _ _ _ _ h13 hx h; omega
    by_cases hy : dy = 0
    · have hz : dz ≠ 0 := fun h => hn ⟨hx, hy, h⟩
      have e1 := v1 (.inr hz)
      have e2 : X2 = Y2 := by have := z' _ _ _ _ h23 hy hz; omega
      subst e1 e2
      simp only [hx, hy, hz, self]
      rcases cmp3_cases X3 Y3 with ⟨k, _⟩ | ⟨k, _⟩ | ⟨k, _⟩ <;> rcases sgn_two hz with ⟨m, n⟩ | ⟨m, n⟩ <;> simp [k, m, n, wrap64, hz]
    · have e1 := v1 (.inl hy)
      subst e1
      simp only [hx, self]
      rcases cmp3_cases X2 Y2 with ⟨k, l⟩ | ⟨k, l⟩ | ⟨k, l⟩
      · rcases sgn_two hy with ⟨m, n⟩ | ⟨m, n⟩ <;> simp [k, m, n, wrap64, hy]
      · have e3 : X3 = Y3 := by have := z _ _ _ _ h23 (by omega) hy; omega
        subst e3
        simp [k, self, hy, wrap64]
      · rcases sgn_two hy with ⟨m, n⟩ | ⟨m, n⟩ <;> simp [k, m, n, wrap64, hy]
  · rcases cmp3_cases X1 Y1 with ⟨k, l⟩ | ⟨k, l⟩ | ⟨k, l⟩
    · rcases sgn_two hx with ⟨m, n⟩ | ⟨m, n⟩ <;> simp [k, m, n, wrap64, hx]
    · have e2 : X2 = Y2 := by have := z _ _ _ _ h12 (by omega) hx; omega
      have e3 : X3 = Y3 := by have := z _ _ _ _ h13 (by omega) hx; omega
      subst e2 e3
      simp [k, self, hx, wrap64]
    · rcases sgn_two hx with ⟨m, n⟩ | ⟨m, n⟩ <;> simp [k, m, n, wrap64, hx]

theorem along_cal {p q a b : Q4} (hp : Pl p) (hq : Pl q) (ha : Pt a) (hb : Pt b) (h1 : onB p q a = true) (h2 : onB p q b = true) (hn : ¬ (p.dx q = 0 ∧ p.dy q = 0 ∧ p.dz q = 0)) :
    alongI (p.dx q) (p.dy q) (p.dz q) a b = calI ⟨p.dx q, p.dy q, p.dz q⟩ a b := by
  rw [onB_eq] at h1 h2
  simp only [Bool.and_eq_true, beq_iff_eq] at h1 h2
  have pa := side_zero hp ha h1.1
  have qa := side_zero hq ha h1.2
  have pb := side_zero hp hb h2.1
  have qb := side_zero hq hb h2.2
  obtain ⟨G, g0, e1, e2, e3, _⟩ := dir_spec hp hq
  have hG : (G : Int) ≠ 0 := by omega
  have kp : p.a * (a.a * b.d - b.a * a.d) + p.b * (a.b * b.d - b.b * a.d) + p.c * (a.c * b.d - b.c * a.d) = 0 := by
    have e : p.a * (a.a * b.d - b.a * a.d) + p.b * (a.b * b.d - b.b * a.d) + p.c * (a.c * b.d - b.c * a.d) = b.d * (p.a * a.a + p.b * a.b + p.c * a.c + p.d * a.d) - a.d * (p.a * b.a + p.b * b.b + p.c * b.c + p.d * b.d) := by clear pa qa pb qb h1 h2; grind
    rw [e, pa, pb]; simp
  have kq : q.a * (a.a * b.d - b.a * a.d) + q.b * (a.b * b.d - b.b * a.d) + q.c * (a.c * b.d - b.c * a.d) = 0 := by
    have e : q.a * (a.a * b.d - b.a * a.d) + q.b * (a.b * b.d - b.b * a.d) + q.c * (a.c * b.d - b.c * a.d) = b.d * (q.a * a.a + q.b * a.b + q.c * a.c + q.d * a.d) - a.d * (q.a * b.a + q.b * b.b + q.c * b.c + q.d * b.d) := by clear pa qa pb qb h1 h2 kp; grind
    rw [e, qa, qb]; simp
  have ring : ∀ v1 v2 v3 pa pb pc qa qb qc : Int, pa * v1 + pb * v2 + pc * v3 = 0 → qa * v1 + qb * v2 + qc * v3 = 0 →
      v1 * (pc * qa - pa * qc) = v2 * (pb * qc - pc * qb) ∧ v1 * (pa * qb - pb * qa) = v3 * (pb * qc - pc * qb) ∧ v2 * (pa * qb - pb * qa) = v3 * (pc * qa - pa * qc) := by
    intro v1 v2 v3 pa pb pc qa qb qc k1 k2
    have e1 : v1 * (pc * qa - pa * qc) - v2 * (pb * qc - pc * qb) = pc * (qa * v1 + qb * v2 + qc * v3) - qc * (pa * v1 + pb * v2 + pc * v3) := by clear k1 k2; grind
    have e2 : v1 * (pa * qb - pb * qa) - v3 * (pb * qc - pc * qb) = qb * (pa * v1 + pb * v2 + pc * v3) - pb * (qa * v1 + qb * v2 + qc * v3) := by clear k1 k2 e1; grind
    have e3 : v2 * (pa * qb - pb * qa) - v3 * (pc * qa - pa * qc) = pa * (qa * v1 + qb * v2 + qc * v3) - qa * (pa * v1 + pb * v2 + pc * v3) := by clear k1 k2 e1 e2; grind
    rw [k1, k2] at e1 e2 e3
    simp only [Int.mul_zero, Int.sub_self] at e1 e2 e3
    exact ⟨by omega, by omega, by omega⟩
  obtain ⟨c12, c13, c23⟩ : (a.a * b.d - b.a * a.d) * p.cy q = (a.b * b.d - b.b * a.d) * p.cx q ∧ (a.a * b.d - b.a * a.d) * p.cz q = (a.c * b.d - b.c * a.d) * p.cx q ∧ (a.b * b.d - b.b * a.d) * p.cz q = (a.c * b.d - b.c * a.d) * p.cy q := ring _ _ _ _ _ _ _ _ _ kp kq
  have dv : ∀ u v x y : Int, u * (G * x) = v * (G * y) → u * x = v * y := by
    intro u v x y h
    have h' : (G : Int) * (u * x) = G * (v * y) := by grind
    exact Int.eq_of_mul_eq_mul_left hG h'
  rw [e1, e2] at c12
  rw [e1, e3] at c13
  rw [e2, e3] at c23
  have core := al_core (dv _ _ _ _ c12) (dv _ _ _ _ c13) (dv _ _ _ _ c23) hn
  rw [alongI_eq, calI_eq, ← core, cmpPt_eq, cmpPt_eq]
  simp only [cmpP_eq]
  have self : ∀ x, cmp3 x x = 0 := by intro x; unfold cmp3; simp
  split
  · rename_i h
    simp only [eq4B, Bool.and_eq_true, beq_iff_eq] at h
    obtain ⟨x1, x2, x3, x4⟩ := h
    rw [x1, x2, x3, x4]; simp [self]
  · split <;> rfl

/-- What the statement asks for. -/
noncomputable def ordE (p q a b : Q4) : Int := vl (if (!p.plane || !q.plane) = true then 30 else if (!a.point || !b.point) = true then 40 else if eq3B (p.dx q) (p.dy q) (p.dz q) 0 0 0 = true then 4 else if (!onB p q a || !onB p q b) = true then 1 else 0)
theorem ordE_eq (p q a b : Q4) : ordE p q a b = (if (!p.plane || !q.plane) = true then 30 else if (!a.point || !b.point) = true then 40 else if eq3B (p.dx q) (p.dy q) (p.dz q) 0 0 0 = true then 4 else if (!onB p q a || !onB p q b) = true then 1 else 0) := vl_eq _
theorem ord_err (p q a b : Q4) : lalE p q a b = ordE p q a b := by
  rw [lalE_eq, ordE_eq, opE_eq, allPl_eq, allPl_eq, allPt_eq]
  simp only [List.all_cons, List.all_nil, Bool.and_true]
  cases p.plane <;> cases q.plane <;> cases a.point <;> cases b.point <;> cases eq3B (p.dx q) (p.dy q) (p.dz q) 0 0 0 <;> cases onB p q a <;> cases onB p q b <;> simp
theorem ord_none (p q a b : Q4) (h : ¬ ordE p q a b = 0) : lalV p q a b = 0 := by
  rw [← ord_err] at h
  rw [lalE_eq] at h
  rw [lalV_eq]
  by_cases k : opE p q [] [a, b] = 0
  · rw [if_pos k] at h ⊢
    by_cases m : (onB p q a && onB p q b) = true
    · rw [if_pos m] at h; exact absurd rfl h
    · rw [if_neg m]
  · rw [if_neg k]
theorem ord_val (p q a b : Q4) (h : ordE p q a b = 0) : Pl p ∧ Pl q ∧ Pt a ∧ Pt b ∧ ¬ (p.dx q = 0 ∧ p.dy q = 0 ∧ p.dz q = 0) ∧ lalV p q a b = calI ⟨p.dx q, p.dy q, p.dz q⟩ a b := by
  have h0 := h
  rw [ordE_eq] at h0
  cases hp : p.plane <;> cases hq : q.plane <;> cases ha : a.point <;> cases hb : b.point <;> cases he : eq3B (p.dx q) (p.dy q) (p.dz q) 0 0 0 <;> cases h1 : onB p q a <;> cases h2 : onB p q b <;> simp [hp, hq, ha, hb, he, h1, h2] at h0
  have hn : ¬ (p.dx q = 0 ∧ p.dy q = 0 ∧ p.dz q = 0) := fun k => by rw [k.1, k.2.1, k.2.2] at he; simp [eq3B] at he
  have PP := (plane_iff.1 hp).1
  have PQ := (plane_iff.1 hq).1
  have TA := (point_iff.1 ha).1
  have TB := (point_iff.1 hb).1
  refine ⟨PP, PQ, TA, TB, hn, ?_⟩
  rw [← ord_err, lalE_eq] at h
  have hop : opE p q [] [a, b] = 0 := by
    by_cases k : opE p q [] [a, b] = 0
    · exact k
    · rw [if_neg k] at h; exact h
  rw [lalV_eq, if_pos hop, h1, h2, (opE_ok hop).1, (opE_ok hop).1, (opE_ok hop).1]
  simp only [Bool.and_self, if_true]
  exact along_cal PP PQ TA TB h1 h2 hn

end Go.Proofs.YtaoedfegakpjeabGreat

namespace Go.Proofs.YtaoedfegakpjeabGreat
open Go.RowKit

/-- A block of four int64, of whatever type. -/
def PB4 (W : World) (b : Nat) (p : Q4) : Prop := ∃ t, Blk W b (.cells #[.int .i64 p.a, .int .i64 p.b, .int .i64 p.c, .int .i64 p.d] t)
/-- .. and of whatever numbers. -/
def V4 (b : Nat) (W : World) : Prop := ∃ x : Q4, x.I64 ∧ PB4 W b x
def Far (P Q : Nat) (w : World) (b : Nat) : Prop := w.heap.size + 1 + 1 < b ∧ b ≠ P ∧ b ≠ Q
structure LO (p q a b : Q4) (P Q : Nat) (w W : World) : Prop where
  below : Below w.heap.size w W
  lo : w.heap.size + 1 + 1 < P ∧ w.heap.size + 1 + 1 < Q ∧ P ≠ Q
  ba : Blk W (w.heap.size + 1) (PT a)
  bb : Blk W (w.heap.size + 1 + 1) (PT b)
  bp : PB4 W P p
  bq : PB4 W Q q
section
variable {p q a b x : Q4} {P Q B B' : Nat} {w W W1 : World}
theorem PB4.four (h : PB4 W B p) : W.cell? ⟨B, 0, none⟩ = some (.int .i64 p.a) ∧ W.cell? ⟨B, 1, none⟩ = some (.int .i64 p.b) ∧ W.cell? ⟨B, 2, none⟩ = some (.int .i64 p.c) ∧ W.cell? ⟨B, 3, none⟩ = some (.int .i64 p.d) := by
  obtain ⟨t, h⟩ := h
  exact ⟨(blk_cells h).1 _ _ rfl, (blk_cells h).1 _ _ rfl, (blk_cells h).1 _ _ rfl, (blk_cells h).1 _ _ rfl⟩
theorem PB4.frozen (h : PB4 W B p) : ∀ o, W.frozen? ⟨B, o, none⟩ = false := by obtain ⟨t, h⟩ := h; exact (blk_cells h).2
theorem PB4.lt (h : PB4 W B p) : B < W.heap.size := by obtain ⟨t, h⟩ := h; exact h.lt
theorem PB4.below (h : PB4 W B p) (hb : Below W.heap.size W W1) : PB4 W1 B p := by obtain ⟨t, h⟩ := h; exact ⟨t, h.below hb h.lt⟩
theorem PB4.other (h : PB4 W B p) (hn : B ≠ B') (o : Nat) (v : Value) : PB4 (W.setCell ⟨B', o, none⟩ v) B p := by obtain ⟨t, h⟩ := h; exact ⟨t, blk_other h hn⟩
theorem PB4.put (h : PB4 W B p) (x : Q4) : PB4 ((((W.setCell ⟨B, 0, none⟩ (.int .i64 x.a)).setCell ⟨B, 1, none⟩ (.int .i64 x.b)).setCell ⟨B, 2, none⟩ (.int .i64 x.c)).setCell ⟨B, 3, none⟩ (.int .i64 x.d)) B x := by
  obtain ⟨t, h⟩ := h; exact ⟨t, blk_set (blk_set (blk_set (blk_set h)))⟩
theorem PB4.of_room (hr : Room W B 4) (h0 : W.cell? ⟨B, 0, none⟩ = some (.int .i64 p.a)) (h1 : W.cell? ⟨B, 1, none⟩ = some (.int .i64 p.b)) (h2 : W.cell? ⟨B, 2, none⟩ = some (.int .i64 p.c)) (h3 : W.cell? ⟨B, 3, none⟩ = some (.int .i64 p.d)) : PB4 W B p := by
  obtain ⟨c, t, hs, hb⟩ := hr
  refine ⟨t, ?_⟩
  unfold Blk
  simp only [World.cell?, hb] at h0 h1 h2 h3
  match c, hs with
  | ⟨[x, y, z, u]⟩, _ =>
    simp at h0 h1 h2 h3
    rw [hb, h0, h1, h2, h3]
theorem V4.new (W : World) : V4 W.heap.size (W.alloc (PT ⟨0, 0, 0, 0⟩)) := ⟨⟨0, 0, 0, 0⟩, zero_i64, _, blk_new W (PT ⟨0, 0, 0, 0⟩)⟩
theorem V4.below (h : V4 B W) (hb : Below W.heap.size W W1) : V4 B W1 := by obtain ⟨x, h1, h2⟩ := h; exact ⟨x, h1, h2.below hb⟩
theorem V4.frozen (h : V4 B W) : ∀ o, W.frozen? ⟨B, o, none⟩ = false := by obtain ⟨x, _, h⟩ := h; exact h.frozen
theorem V4.cells (h : V4 B W) : ∃ x y z t, W.cell? ⟨B, 0, none⟩ = some (.int .i64 x) ∧ W.cell? ⟨B, 1, none⟩ = some (.int .i64 y) ∧ W.cell? ⟨B, 2, none⟩ = some (.int .i64 z) ∧ W.cell? ⟨B, 3, none⟩ = some (.int .i64 t) := by
  obtain ⟨x, _, h⟩ := h; exact ⟨_, _, _, _, h.four⟩
theorem V4.put (h : V4 B W) (x : Q4) (hx : x.I64) : V4 B ((((W.setCell ⟨B', 0, none⟩ (.int .i64 x.a)).setCell ⟨B', 1, none⟩ (.int .i64 x.b)).setCell ⟨B', 2, none⟩ (.int .i64 x.c)).setCell ⟨B', 3, none⟩ (.int .i64 x.d)) := by
  obtain ⟨y, h1, h2⟩ := h
  by_cases e : B = B'
  · subst e; exact ⟨x, hx, h2.put x⟩
  · exact ⟨y, h1, (((h2.other e _ _).other e _ _).other e _ _).other e _ _⟩
theorem LO.call (h : LO p q a b P Q w W) (hb : Below W.heap.size W W1) : LO p q a b P Q w W1 :=
  ⟨h.below.trans (hb.mono h.below.size), h.lo, h.ba.below hb h.ba.lt, h.bb.below hb h.bb.lt, h.bp.below hb, h.bq.below hb⟩
theorem LO.drew (h : LO p q a b P Q w W) : LO p q a b P Q w W.drew := h.call (Below.refl _ _).drew
theorem LO.far (h : LO p q a b P Q w W) : Far P Q w W.heap.size := by
  have h1 := h.bp.lt
  have h2 := h.bq.lt
  have h3 := h.bb.lt
  exact ⟨h3, by omega, by omega⟩
theorem LO.far4 (h : LO p q a b P Q w W) (hf : Far P Q w B) (x : Q4) : LO p q a b P Q w ((((W.setCell ⟨B, 0, none⟩ (.int .i64 x.a)).setCell ⟨B, 1, none⟩ (.int .i64 x.b)).setCell ⟨B, 2, none⟩ (.int .i64 x.c)).setCell ⟨B, 3, none⟩ (.int .i64 x.d)) := by
  obtain ⟨f1, f2, f3⟩ := hf
  exact ⟨(((h.below.setCell (by simp; omega) _).setCell (by simp; omega) _).setCell (by simp; omega) _).setCell (by simp; omega) _, h.lo,
    blk_other (blk_other (blk_other (blk_other h.ba (by omega)) (by omega)) (by omega)) (by omega), blk_other (blk_other (blk_other (blk_other h.bb (by omega)) (by omega)) (by omega)) (by omega),
    (((h.bp.other (by omega) _ _).other (by omega) _ _).other (by omega) _ _).other (by omega) _ _, (((h.bq.other (by omega) _ _).other (by omega) _ _).other (by omega) _ _).other (by omega) _ _⟩
theorem LO.setP (h : LO p q a b P Q w W) (x : Q4) : LO x q a b P Q w ((((W.setCell ⟨P, 0, none⟩ (.int .i64 x.a)).setCell ⟨P, 1, none⟩ (.int .i64 x.b)).setCell ⟨P, 2, none⟩ (.int .i64 x.c)).setCell ⟨P, 3, none⟩ (.int .i64 x.d)) := by
  obtain ⟨f1, f2, f3⟩ := h.lo
  exact ⟨(((h.below.setCell (by simp; omega) _).setCell (by simp; omega) _).setCell (by simp; omega) _).setCell (by simp; omega) _, h.lo,
    blk_other (blk_other (blk_other (blk_other h.ba (by omega)) (by omega)) (by omega)) (by omega), blk_other (blk_other (blk_other (blk_other h.bb (by omega)) (by omega)) (by omega)) (by omega),
    h.bp.put x, (((h.bq.other (by omega) _ _).other (by omega) _ _).other (by omega) _ _).other (by omega) _ _⟩
theorem LO.setQ (h : LO p q a b P Q w W) (x : Q4) : LO p x a b P Q w ((((W.setCell ⟨Q, 0, none⟩ (.int .i64 x.a)).setCell ⟨Q, 1, none⟩ (.int .i64 x.b)).setCell ⟨Q, 2, none⟩ (.int .i64 x.c)).setCell ⟨Q, 3, none⟩ (.int .i64 x.d)) := by
  obtain ⟨f1, f2, f3⟩ := h.lo
  exact ⟨(((h.below.setCell (by simp; omega) _).setCell (by simp; omega) _).setCell (by simp; omega) _).setCell (by simp; omega) _, h.lo,
    blk_other (blk_other (blk_other (blk_other h.ba (by omega)) (by omega)) (by omega)) (by omega), blk_other (blk_other (blk_other (blk_other h.bb (by omega)) (by omega)) (by omega)) (by omega),
    (((h.bp.other (by omega) _ _).other (by omega) _ _).other (by omega) _ _).other (by omega) _ _, h.bq.put x⟩
theorem LO.setA (h : LO p q a b P Q w W) (x : Q4) : LO p q x b P Q w ((((W.setCell ⟨w.heap.size + 1, 0, none⟩ (.int .i64 x.a)).setCell ⟨w.heap.size + 1, 1, none⟩ (.int .i64 x.b)).setCell ⟨w.heap.size + 1, 2, none⟩ (.int .i64 x.c)).setCell ⟨w.heap.size + 1, 3, none⟩ (.int .i64 x.d)) := by
  obtain ⟨f1, f2, f3⟩ := h.lo
  exact ⟨(((h.below.setCell (by simp) _).setCell (by simp) _).setCell (by simp) _).setCell (by simp) _, h.lo,
    blk_set (blk_set (blk_set (blk_set h.ba))), blk_other (blk_other (blk_other (blk_other h.bb (by omega)) (by omega)) (by omega)) (by omega),
    (((h.bp.other (by omega) _ _).other (by omega) _ _).other (by omega) _ _).other (by omega) _ _, (((h.bq.other (by omega) _ _).other (by omega) _ _).other (by omega) _ _).other (by omega) _ _⟩
theorem LO.setB (h : LO p q a b P Q w W) (x : Q4) : LO p q a x P Q w ((((W.setCell ⟨w.heap.size + 1 + 1, 0, none⟩ (.int .i64 x.a)).setCell ⟨w.heap.size + 1 + 1, 1, none⟩ (.int .i64 x.b)).setCell ⟨w.heap.size + 1 + 1, 2, none⟩ (.int .i64 x.c)).setCell ⟨w.heap.size + 1 + 1, 3, none⟩ (.int .i64 x.d)) := by
  obtain ⟨f1, f2, f3⟩ := h.lo
  exact ⟨(((h.below.setCell (by simp; omega) _).setCell (by simp; omega) _).setCell (by simp; omega) _).setCell (by simp; omega) _, h.lo,
    blk_other (blk_other (blk_other (blk_other h.ba (by omega)) (by omega)) (by omega)) (by omega), blk_set (blk_set (blk_set (blk_set h.bb))),
    (((h.bp.other (by omega) _ _).other (by omega) _ _).other (by omega) _ _).other (by omega) _ _, (((h.bq.other (by omega) _ _).other (by omega) _ _).other (by omega) _ _).other (by omega) _ _⟩
end
/-- What is known of the temporaries of the regions that let the planes meet a third one. -/
def lorS (p q x : Q4) (P Q S d : Nat) (w : World) (i : Nat) (W : World) (v : Value) : Prop :=
  if i < 97 then (if i = 13 ∨ i = 15 then ∃ b, v = .pointer (some ⟨b, 0, none⟩) ∧ Far P Q w b ∧ V4 b W else ∃ c, v = .bool c) else
  match i - d with
  | 97 => ∃ (x : Q4) (c : Bool), x.I64 ∧ v = .tuple #[.agg #[.int .i64 (x.a), .int .i64 (x.b), .int .i64 (x.c), .int .i64 (x.d)], .bool c]
  | 98 => v = .agg #[.int .i64 (p.a), .int .i64 (p.b), .int .i64 (p.c), .int .i64 (p.d)]
  | 99 => v = .agg #[.int .i64 (q.a), .int .i64 (q.b), .int .i64 (q.c), .int .i64 (q.d)]
  | 100 => v = .pointer (some ⟨S, 0, none⟩)
  | 101 => v = .int .i64 x.a
  | 102 => v = .pointer (some ⟨S, 1, none⟩)
  | 103 => v = .int .i64 x.b
  | 104 => v = .pointer (some ⟨S, 2, none⟩)
  | 105 => v = .int .i64 x.c
  | 106 => v = .pointer (some ⟨S, 3, none⟩)
  | 107 => v = .int .i64 x.d
  | 108 => v = .agg #[.int .i64 (x.a), .int .i64 (x.b), .int .i64 (x.c), .int .i64 (x.d)]
  | 109 => ∃ x : Q4, x.I64 ∧ v = .agg #[.int .i64 (x.a), .int .i64 (x.b), .int .i64 (x.c), .int .i64 (x.d)]
  | 110 => ∃ (x : Q4) (c : Bool), x.I64 ∧ v = .tuple #[.agg #[.int .i64 (x.a), .int .i64 (x.b), .int .i64 (x.c), .int .i64 (x.d)], .bool c]
  | 111 => ∃ x : Q4, x.I64 ∧ v = .agg #[.int .i64 (x.a), .int .i64 (x.b), .int .i64 (x.c), .int .i64 (x.d)]
  | _ => ∃ c, v = .bool c
theorem lorS_mono {p q x : Q4} {P Q S d : Nat} {w W W1 : World} (hb : Below W.heap.size W W1) (i : Nat) (v : Value) (h : lorS p q x P Q S d w i W v) : lorS p q x P Q S d w i W1 v := by
  unfold lorS at h ⊢
  by_cases h1 : i < 97
  · rw [if_pos h1] at h ⊢
    by_cases h2 : i = 13 ∨ i = 15
    · rw [if_pos h2] at h ⊢
      obtain ⟨b, k1, k2, k3⟩ := h
      exact ⟨b, k1, k2, k3.below hb⟩
    · rw [if_neg h2] at h ⊢; exact h
  · rw [if_neg h1] at h ⊢; exact h
theorem lorS_put {p q x y : Q4} {P Q S d b : Nat} {w W : World} (hy : y.I64) (i : Nat) (v : Value) (h : lorS p q x P Q S d w i W v) : lorS p q x P Q S d w i ((((W.setCell ⟨b, 0, none⟩ (.int .i64 y.a)).setCell ⟨b, 1, none⟩ (.int .i64 y.b)).setCell ⟨b, 2, none⟩ (.int .i64 y.c)).setCell ⟨b, 3, none⟩ (.int .i64 y.d)) v := by
  unfold lorS at h ⊢
  by_cases h1 : i < 97
  · rw [if_pos h1] at h ⊢
    by_cases h2 : i = 13 ∨ i = 15
    · rw [if_pos h2] at h ⊢
      obtain ⟨b, k1, k2, k3⟩ := h
      exact ⟨b, k1, k2, k3.put y hy⟩
    · rw [if_neg h2] at h ⊢; exact h
  · rw [if_neg h1] at h ⊢; exact h

end Go.Proofs.YtaoedfegakpjeabGreat

namespace Go.Proofs.YtaoedfegakpjeabGreat
open Go.RowKit

/-- The four determinants, without a wrap. -/
def cramX (p q r : Q4) : Int := -(p.d * q.cx r + q.d * r.cx p + r.d * p.cx q)
def cramY (p q r : Q4) : Int := -(p.d * q.cy r + q.d * r.cy p + r.d * p.cy q)
def cramZ (p q r : Q4) : Int := -(p.d * q.cz r + q.d * r.cz p + r.d * p.cz q)
def cramW (p q r : Q4) : Int := p.a * q.cx r + p.b * q.cy r + p.c * q.cz r
theorem neg3_id {a x b y c z : Int} (ha : a.natAbs ≤ 1000000) (hx : x.natAbs ≤ 2000000) (hb : b.natAbs ≤ 1000000) (hy : y.natAbs ≤ 2000000) (hc : c.natAbs ≤ 1000000) (hz : z.natAbs ≤ 2000000) :
    neg3 a x b y c z = -(a * x + b * y + c * z) ∧ (a * x + b * y + c * z).natAbs ≤ 6000000000000 := by
  have m1 := mul_bd ha hx (C := 2000000000000) (by omega)
  have m2 := mul_bd hb hy (C := 2000000000000) (by omega)
  have m3 := mul_bd hc hz (C := 2000000000000) (by omega)
  rw [neg3_eq]
  generalize a * x = u at *
  generalize b * y = v at *
  generalize c * z = t at *
  rw [wrap_id (x := u) (by omega), wrap_id (x := v) (by omega), wrap_id (x := t) (by omega), wrap_id (x := u + v) (by omega), wrap_id (x := u + v + t) (by omega), wrap_id (by omega)]
  exact ⟨rfl, by omega⟩
theorem raw_id {p q r : Q4} (hp : Pl p) (hq : Pl q) (hr : Pl r) : rawPt p q r = ⟨cramX p q r, cramY p q r, cramZ p q r, cramW p q r⟩ ∧ (cramX p q r).natAbs ≤ 6000000000000 ∧ (cramY p q r).natAbs ≤ 6000000000000 ∧ (cramZ p q r).natAbs ≤ 6000000000000 ∧ (cramW p q r).natAbs ≤ 6000000000 := by
  obtain ⟨x1, y1, z1, bx1, by1, bz1⟩ := cross_id hq hr
  obtain ⟨x2, y2, z2, bx2, by2, bz2⟩ := cross_id hr hp
  obtain ⟨x3, y3, z3, bx3, by3, bz3⟩ := cross_id hp hq
  have X := neg3_id hp.d bx1 hq.d bx2 hr.d bx3
  have Y := neg3_id hp.d by1 hq.d by2 hr.d by3
  have Z := neg3_id hp.d bz1 hq.d bz2 hr.d bz3
  have W := dot_id hp.a hp.b hp.c bx1 by1 bz1 (by omega)
  have m1 := mul_bd hp.a bx1 (C := 2000000000) (by omega)
  have m2 := mul_bd hp.b by1 (C := 2000000000) (by omega)
  have m3 := mul_bd hp.c bz1 (C := 2000000000) (by omega)
  refine ⟨?_, ?_, ?_, ?_, ?_⟩
  · unfold rawPt
    rw [x1, y1, z1, x2, y2, z2, x3, y3, z3, X.1, Y.1, Z.1, W]
    rfl
  · unfold cramX; omega
  · unfold cramY; omega
  · unfold cramZ; omega
  · unfold cramW; omega
theorem cram_p (p q r : Q4) : p.a * cramX p q r + p.b * cramY p q r + p.c * cramZ p q r + p.d * cramW p q r = 0 := by
  unfold cramX cramY cramZ cramW Q4.cx Q4.cy Q4.cz; grind
theorem cram_q (p q r : Q4) : q.a * cramX p q r + q.b * cramY p q r + q.c * cramZ p q r + q.d * cramW p q r = 0 := by
  unfold cramX cramY cramZ cramW Q4.cx Q4.cy Q4.cz; grind

/-- Four numbers in lowest terms. -/
theorem low_spec {x : Q4} (ha : x.a.natAbs ≤ 8796093022208) (hb : x.b.natAbs ≤ 8796093022208) (hc : x.c.natAbs ≤ 8796093022208) (hd : x.d.natAbs ≤ 8589934592) (h0 : x.d ≠ 0) :
    Pt x.low ∧ Nat.gcd (Nat.gcd x.low.a.natAbs x.low.b.natAbs) (Nat.gcd x.low.c.natAbs x.low.d.natAbs) = 1 ∧ ∃ s : Int, s ≠ 0 ∧ x.a = s * x.low.a ∧ x.b = s * x.low.b ∧ x.c = s * x.low.c ∧ x.d = s * x.low.d := by
  have eN : gcdN [x.a, x.b, x.c, x.d] = Nat.gcd (Nat.gcd x.a.natAbs x.b.natAbs) (Nat.gcd x.c.natAbs x.d.natAbs) := by simp [gcdN, Nat.gcd_assoc]
  obtain ⟨G, hG⟩ : ∃ G, G = Nat.gcd (Nat.gcd x.a.natAbs x.b.natAbs) (Nat.gcd x.c.natAbs x.d.natAbs) := ⟨_, rfl⟩
  have d1 : G ∣ x.a.natAbs := by rw [hG]; exact Nat.dvd_trans (Nat.gcd_dvd_left _ _) (Nat.gcd_dvd_left _ _)
  have d2 : G ∣ x.b.natAbs := by rw [hG]; exact Nat.dvd_trans (Nat.gcd_dvd_left _ _) (Nat.gcd_dvd_right _ _)
  have d3 : G ∣ x.c.natAbs := by rw [hG]; exact Nat.dvd_trans (Nat.gcd_dvd_right _ _) (Nat.gcd_dvd_left _ _)
  have d4 : G ∣ x.d.natAbs := by rw [hG]; exact Nat.dvd_trans (Nat.gcd_dvd_right _ _) (Nat.gcd_dvd_right _ _)
  have hpos : 0 < G := Nat.pos_of_dvd_of_pos d4 (by omega)
  have hle : G ≤ 8589934592 := Nat.le_trans (Nat.le_of_dvd (by omega) d4) hd
  have eg : gcd4 x.a x.b x.c x.d = (G : Int) := by rw [gcd4_eq, eN, ← hG]; exact wrap_id (by omega)
  obtain ⟨ya, ea⟩ := Int.ofNat_dvd_left.2 d1
  obtain ⟨yb, eb⟩ := Int.ofNat_dvd_left.2 d2
  obtain ⟨yc, ec⟩ := Int.ofNat_dvd_left.2 d3
  obtain ⟨yd, ed⟩ := Int.ofNat_dvd_left.2 d4
  have hne : (G : Int) ≠ 0 := by omega
  have ab : ∀ {u y : Int}, u = G * y → u.natAbs = G * y.natAbs := fun {u y} e => by rw [e, Int.natAbs_mul]; simp
  have le : ∀ {u y : Int}, u = G * y → y.natAbs ≤ u.natAbs := fun {u y} e => by rw [ab e]; exact Nat.le_mul_of_pos_left _ hpos
  have g1 : Nat.gcd (Nat.gcd ya.natAbs yb.natAbs) (Nat.gcd yc.natAbs yd.natAbs) = 1 := by
    rw [ab ea, ab eb, ab ec, ab ed, Nat.gcd_mul_left, Nat.gcd_mul_left, Nat.gcd_mul_left] at hG
    exact Nat.eq_of_mul_eq_mul_left hpos (by omega)
  have la := le ea
  have lb := le eb
  have lc := le ec
  have ld := le ed
  have hyd : yd ≠ 0 := fun h => h0 (by rw [ed, h]; simp)
  have q1 : ∀ {u y : Int}, u = G * y → y.natAbs ≤ 8796093022208 → quoI u G = y := fun {u y} e h => by
    rw [quoI_eq, e, Int.mul_tdiv_cancel_left _ hne, wrap_id (by omega)]
  have q2 : ∀ {u y : Int}, u = G * y → y.natAbs ≤ 8796093022208 → quoI u (-G) = -y := fun {u y} e h => by
    rw [quoI_eq, Int.tdiv_neg, e, Int.mul_tdiv_cancel_left _ hne, wrap_id (by omega)]
  by_cases hs : x.d < 0
  · have eG : lowG x = -(G : Int) := by rw [lowG_eq, if_pos hs, eg, wrap_id (by omega)]
    have el : x.low = ⟨-ya, -yb, -yc, -yd⟩ := by unfold Q4.low; rw [eG, q2 ea (by omega), q2 eb (by omega), q2 ec (by omega), q2 ed (by omega)]
    have hyd' : yd < 0 := by
      rcases Int.lt_trichotomy yd 0 with h | h | h
      · exact h
      · exact absurd h hyd
      · have := Int.mul_pos (show (0 : Int) < G by omega) h; omega
    rw [el]
    exact ⟨⟨by simp; omega, by simp; omega, by simp; omega, by show 1 ≤ -yd; omega, by show -yd ≤ _; omega⟩, by simpa using g1, -(G : Int), by omega, by show x.a = -(G : Int) * -ya; rw [ea]; grind, by show x.b = -(G : Int) * -yb; rw [eb]; grind, by show x.c = -(G : Int) * -yc; rw [ec]; grind, by show x.d = -(G : Int) * -yd; rw [ed]; grind⟩
  · have eG : lowG x = (G : Int) := by rw [lowG_eq, if_neg hs, eg]
    have el : x.low = ⟨ya, yb, yc, yd⟩ := by unfold Q4.low; rw [eG, q1 ea (by omega), q1 eb (by omega), q1 ec (by omega), q1 ed (by omega)]
    have hyd' : 0 < yd := by
      rcases Int.lt_trichotomy yd 0 with h | h | h
      · have := Int.mul_pos (show (0 : Int) < G by omega) (show 0 < -yd by omega)
        have e : (G : Int) * -yd = -(G * yd) := by grind
        omega
      · exact absurd h hyd
      · exact h
    rw [el]
    exact ⟨⟨by show ya.natAbs ≤ _; omega, by show yb.natAbs ≤ _; omega, by show yc.natAbs ≤ _; omega, by show 1 ≤ yd; omega, by show yd ≤ _; omega⟩, g1, (G : Int), hne, ea, eb, ec, ed⟩
/-- A point whose sum is 0 is on the plane. -/
theorem side_of {p x : Q4} (hp : Pl p) (hx : Pt x) (h : p.a * x.a + p.b * x.b + p.c * x.c + p.d * x.d = 0) : sideI p x = 0 := by
  have m1 := mul_bd hp.a hx.a (C := 8796093022208000) (by omega)
  have m2 := mul_bd hp.b hx.b (C := 8796093022208000) (by omega)
  have m3 := mul_bd hp.c hx.c (C := 8796093022208000) (by omega)
  have m4 := mul_bd hp.d (show x.d.natAbs ≤ 8589934592 by have := hx.d0; have := hx.d1; omega) (C := 8589934592000000) (by omega)
  rw [sideI_eq]
  generalize p.a * x.a = e1 at *
  generalize p.b * x.b = e2 at *
  generalize p.c * x.c = e3 at *
  generalize p.d * x.d = e4 at *
  rw [wrap_id (x := e1) (by omega), wrap_id (x := e2) (by omega), wrap_id (x := e3) (by omega), wrap_id (x := e4) (by omega), wrap_id (x := e1 + e2) (by omega), wrap_id (x := e1 + e2 + e3) (by omega), h]
  have e0 : wrap64 0 = 0 := by unfold wrap64; omega
  rw [e0]; simp [sgn, cmp3]
/-- Where three right planes meet: a right point, on the first two. -/
theorem meX_right {p q r : Q4} (hp : Pl p) (hq : Pl q) (hr : Pl r) (hm : meB p q r = true) : (meX p q r).point = true ∧ Pt (meX p q r) ∧ sideI p (meX p q r) = 0 ∧ sideI q (meX p q r) = 0 := by
  obtain ⟨er, bx, by', bz, bw⟩ := raw_id hp hq hr
  have hd : cramW p q r ≠ 0 := by
    have e : (rawPt p q r).d = det p q r := (det_eq p q r).symm
    rw [er] at e
    rw [meB_eq] at hm
    intro h
    have e' : det p q r = 0 := by rw [← e]; exact h
    rw [e'] at hm; simp at hm
  have hl := low_spec (x := ⟨cramX p q r, cramY p q r, cramZ p q r, cramW p q r⟩) (by show (cramX p q r).natAbs ≤ _; omega) (by show (cramY p q r).natAbs ≤ _; omega) (by show (cramZ p q r).natAbs ≤ _; omega) (by show (cramW p q r).natAbs ≤ _; omega) hd
  rw [meX_hit hm, er]
  generalize (⟨cramX p q r, cramY p q r, cramZ p q r, cramW p q r⟩ : Q4).low = x at hl ⊢
  obtain ⟨hx, hg, s, s0, e1, e2, e3, e4⟩ := hl
  have e1 : cramX p q r = s * x.a := e1
  have e2 : cramY p q r = s * x.b := e2
  have e3 : cramZ p q r = s * x.c := e3
  have e4 : cramW p q r = s * x.d := e4
  have kp := cram_p p q r
  have kq := cram_q p q r
  rw [e1, e2, e3, e4] at kp kq
  have zp : s * (p.a * x.a + p.b * x.b + p.c * x.c + p.d * x.d) = 0 := by clear kq; grind
  have zq : s * (q.a * x.a + q.b * x.b + q.c * x.c + q.d * x.d) = 0 := by clear kp zp; grind
  exact ⟨point_iff.2 ⟨hx, hg⟩, hx, side_of hp hx ((Int.mul_eq_zero.1 zp).resolve_left s0), side_of hq hx ((Int.mul_eq_zero.1 zq).resolve_left s0)⟩

end Go.Proofs.YtaoedfegakpjeabGreat

namespace Go.Proofs.YtaoedfegakpjeabGreat
open Go.RowKit Go.Sort

/-- A right point on the line. -/
def OnL (p q x : Q4) : Prop := x.point = true ∧ onB p q x = true
theorem mets_onL {p q : Q4} {ps : List Q4} (hp : p.plane = true) (hq : q.plane = true) (hs : ps.all Q4.plane = true) : ∀ x, x ∈ mets p q ps → OnL p q x := by
  intro x hx
  unfold mets at hx
  rw [List.mem_map] at hx
  obtain ⟨r, hr, rfl⟩ := hx
  rw [List.mem_filter] at hr
  have hR := List.all_eq_true.1 hs r hr.1
  obtain ⟨h1, _, h3, h4⟩ := meX_right (plane_iff.1 hp).1 (plane_iff.1 hq).1 (plane_iff.1 hR).1 hr.2
  exact ⟨h1, by rw [onB_eq, h3, h4]; rfl⟩

/-- How far a point is, times its weight. -/
noncomputable def farK (p q a : Q4) : Int := if p.dx q ≠ 0 then sgn (p.dx q) * a.a else if p.dy q ≠ 0 then sgn (p.dy q) * a.b else sgn (p.dz q) * a.c
theorem cal_one (u v z w s : Int) (hs : s = 1 ∨ s = -1) : (wrap64 (cmp3 (u * z) (v * w) * s) < 0 ↔ (s * u) * z < (s * v) * w) ∧ (wrap64 (cmp3 (u * z) (v * w) * s) = 0 ↔ (s * u) * z = (s * v) * w) ∧ (wrap64 (cmp3 (u * z) (v * w) * s) = -1 ∨ wrap64 (cmp3 (u * z) (v * w) * s) = 0 ∨ wrap64 (cmp3 (u * z) (v * w) * s) = 1) := by
  rcases hs with rfl | rfl
  · rw [Int.one_mul, Int.one_mul, Int.mul_one]
    rcases cmp3_cases (u * z) (v * w) with ⟨k, h⟩ | ⟨k, h⟩ | ⟨k, h⟩ <;> rw [k] <;> unfold wrap64 <;> omega
  · have e1 : -1 * u * z = -(u * z) := by grind
    have e2 : -1 * v * w = -(v * w) := by grind
    rw [e1, e2]
    rcases cmp3_cases (u * z) (v * w) with ⟨k, h⟩ | ⟨k, h⟩ | ⟨k, h⟩ <;> rw [k] <;> unfold wrap64 <;> omega
section
variable {p q a b : Q4}
theorem along_far (hp : p.plane = true) (hq : q.plane = true) (hn : ¬ (p.dx q = 0 ∧ p.dy q = 0 ∧ p.dz q = 0)) (ha : OnL p q a) (hb : OnL p q b) :
    (alongI (p.dx q) (p.dy q) (p.dz q) a b < 0 ↔ farK p q a * b.d < farK p q b * a.d) ∧ (alongI (p.dx q) (p.dy q) (p.dz q) a b = 0 ↔ farK p q a * b.d = farK p q b * a.d) ∧ (alongI (p.dx q) (p.dy q) (p.dz q) a b = -1 ∨ alongI (p.dx q) (p.dy q) (p.dz q) a b = 0 ∨ alongI (p.dx q) (p.dy q) (p.dz q) a b = 1) := by
  rw [along_cal (plane_iff.1 hp).1 (plane_iff.1 hq).1 (point_iff.1 ha.1).1 (point_iff.1 hb.1).1 ha.2 hb.2 hn, calI_eq]
  have st : ∀ d : Int, d ≠ 0 → sgn d = 1 ∨ sgn d = -1 := fun d h => by rcases sgn_two h with ⟨k, _⟩ | ⟨k, _⟩ <;> simp [k]
  unfold farK
  by_cases hx : p.dx q = 0
  · by_cases hy : p.dy q = 0
    · have hz : p.dz q ≠ 0 := fun h => hn ⟨hx, hy, h⟩
      simp only [hx, hy, hz, ne_eq, not_true_eq_false, not_false_eq_true, if_true, if_false]
      exact cal_one _ _ _ _ _ (st _ hz)
    · simp only [hx, hy, ne_eq, not_true_eq_false, not_false_eq_true, if_true, if_false]
      exact cal_one _ _ _ _ _ (st _ hy)
  · simp only [hx, ne_eq, not_false_eq_true, if_true]
    exact cal_one _ _ _ _ _ (st _ hx)
theorem OnL.pos (ha : OnL p q a) : 0 < a.d := by have := (point_iff.1 ha.1).1.d0; omega
end
theorem fr_trans {x u y v z w : Int} (hu : 0 < u) (hv : 0 < v) (hw : 0 < w) (h1 : x * v < y * u) (h2 : y * w < z * v) : x * w < z * u := by
  have k1 := Int.mul_lt_mul_of_pos_right h1 hw
  have k2 := Int.mul_lt_mul_of_pos_right h2 hu
  have e1 : x * v * w = (x * w) * v := by grind
  have e2 : y * u * w = y * w * u := by grind
  have e3 : z * v * u = (z * u) * v := by grind
  rw [e1, e2] at k1
  rw [e3] at k2
  exact Int.lt_of_mul_lt_mul_right (Int.lt_trans k1 k2) (Int.le_of_lt hv)
theorem fr_ntrans {x u y v z w : Int} (hu : 0 < u) (hv : 0 < v) (hw : 0 < w) (h1 : ¬ x * v < y * u) (h2 : ¬ y * w < z * v) : ¬ x * w < z * u := by
  have k1 := Int.mul_le_mul_of_nonneg_right (Int.not_lt.1 h1) (Int.le_of_lt hw)
  have k2 := Int.mul_le_mul_of_nonneg_right (Int.not_lt.1 h2) (Int.le_of_lt hu)
  have e1 : x * v * w = (x * w) * v := by grind
  have e2 : y * u * w = y * w * u := by grind
  have e3 : z * v * u = (z * u) * v := by grind
  rw [e1, e2] at k1
  rw [e3] at k2
  have := Int.le_of_mul_le_mul_right (Int.le_trans k2 k1) hv
  omega
open Classical in
/-- The order of the line's right points; all others behind them. -/
noncomputable def lineLt (p q a b : Q4) : Bool := if OnL p q a then (if OnL p q b then ptLt (p.dx q) (p.dy q) (p.dz q) a b else true) else false
section
variable {p q : Q4}
theorem lineLt_on {a b : Q4} (ha : OnL p q a) (hb : OnL p q b) : lineLt p q a b = ptLt (p.dx q) (p.dy q) (p.dz q) a b := by unfold lineLt; rw [if_pos ha, if_pos hb]
theorem ptLt_far {a b : Q4} (hp : p.plane = true) (hq : q.plane = true) (hn : ¬ (p.dx q = 0 ∧ p.dy q = 0 ∧ p.dz q = 0)) (ha : OnL p q a) (hb : OnL p q b) : ptLt (p.dx q) (p.dy q) (p.dz q) a b = true ↔ farK p q a * b.d < farK p q b * a.d := by
  rw [ptLt_eq, decide_eq_true_eq]; exact (along_far hp hq hn ha hb).1
theorem lineLt_swo (hp : p.plane = true) (hq : q.plane = true) (hn : ¬ (p.dx q = 0 ∧ p.dy q = 0 ∧ p.dz q = 0)) : SWO (lineLt p q) := by
  have key : ∀ {a b}, OnL p q a → OnL p q b → (lineLt p q a b = true ↔ farK p q a * b.d < farK p q b * a.d) := fun ha hb => by rw [lineLt_on ha hb]; exact ptLt_far hp hq hn ha hb
  have keyf : ∀ {a b}, OnL p q a → OnL p q b → (lineLt p q a b = false ↔ ¬ farK p q a * b.d < farK p q b * a.d) := fun ha hb => by rw [← key ha hb, Bool.not_eq_true]
  have no : ∀ {a b}, ¬ OnL p q a → lineLt p q a b = false := fun h => by unfold lineLt; rw [if_neg h]
  have yes : ∀ {a b}, OnL p q a → ¬ OnL p q b → lineLt p q a b = true := fun h k => by unfold lineLt; rw [if_pos h, if_neg k]
  refine ⟨fun x => ?_, fun x y z h1 h2 => ?_, fun x y z h1 h2 => ?_⟩
  · by_cases hx : OnL p q x
    · rw [keyf hx hx]; omega
    · exact no hx
  · have hx : OnL p q x := by by_cases h : OnL p q x; exact h; rw [no h] at h1; cases h1
    have hy : OnL p q y := by by_cases h : OnL p q y; exact h; rw [no h] at h2; cases h2
    by_cases hz : OnL p q z
    · rw [key hx hz]; exact fr_trans hx.pos hy.pos hz.pos ((key hx hy).1 h1) ((key hy hz).1 h2)
    · exact yes hx hz
  · by_cases hx : OnL p q x
    · have hy : OnL p q y := by by_cases h : OnL p q y; exact h; rw [yes hx h] at h1; cases h1
      have hz : OnL p q z := by by_cases h : OnL p q z; exact h; rw [yes hy h] at h2; cases h2
      rw [keyf hx hz]; exact fr_ntrans hx.pos hy.pos hz.pos ((keyf hx hy).1 h1) ((keyf hy hz).1 h2)
    · exact no hx
end

/-- Two right points of the line that are as far are one. -/
theorem lowest_eq {a b : Q4} (ha : a.point = true) (hb : b.point = true) (h1 : a.a * b.d = b.a * a.d) (h2 : a.b * b.d = b.b * a.d) (h3 : a.c * b.d = b.c * a.d) : a = b := by
  obtain ⟨ta, ga⟩ := point_iff.1 ha
  obtain ⟨tb, gb⟩ := point_iff.1 hb
  have pa : 0 < a.d := by have := ta.d0; omega
  have pb : 0 < b.d := by have := tb.d0; omega
  have key : ∀ {x y : Q4}, Nat.gcd (Nat.gcd x.a.natAbs x.b.natAbs) (Nat.gcd x.c.natAbs x.d.natAbs) = 1 → x.a * y.d = y.a * x.d → x.b * y.d = y.b * x.d → x.c * y.d = y.c * x.d → x.d.natAbs ∣ y.d.natAbs := by
    intro x y g k1 k2 k3
    have m : ∀ {u v s t : Int}, u * v = s * t → t.natAbs ∣ u.natAbs * v.natAbs := fun {u v s t} e => by
      rw [← Int.natAbs_mul, e, Int.natAbs_mul]; exact Nat.dvd_mul_left _ _
    have d1 := m k1
    have d2 := m k2
    have d3 := m k3
    have d4 : x.d.natAbs ∣ x.d.natAbs * y.d.natAbs := Nat.dvd_mul_right _ _
    have e : Nat.gcd (Nat.gcd (x.a.natAbs * y.d.natAbs) (x.b.natAbs * y.d.natAbs)) (Nat.gcd (x.c.natAbs * y.d.natAbs) (x.d.natAbs * y.d.natAbs)) = y.d.natAbs := by
      rw [Nat.gcd_mul_right, Nat.gcd_mul_right, Nat.gcd_mul_right, g, Nat.one_mul]
    rw [← e]
    exact Nat.dvd_gcd (Nat.dvd_gcd d1 d2) (Nat.dvd_gcd d3 d4)
  have l1 := Nat.dvd_antisymm (key ga h1 h2 h3) (key gb h1.symm h2.symm h3.symm)
  have ed : a.d = b.d := by omega
  have hne : b.d ≠ 0 := by omega
  rw [ed] at h1 h2 h3
  have ea := Int.eq_of_mul_eq_mul_right hne h1
  have eb := Int.eq_of_mul_eq_mul_right hne h2
  have ec := Int.eq_of_mul_eq_mul_right hne h3
  cases a; cases b
  simp only [Q4.mk.injEq]
  exact ⟨ea, eb, ec, ed⟩

end Go.Proofs.YtaoedfegakpjeabGreat
