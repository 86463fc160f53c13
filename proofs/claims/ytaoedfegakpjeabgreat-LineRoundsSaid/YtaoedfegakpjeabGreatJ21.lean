/- Contracts of the functions that the statement reaches, and plain lemmas: part 21 of 25. -/
import Derived.Test.YtaoedfegakpjeabGreatJ20
import Derived.Test.YtaoedfegakpjeabGreatJ06
import Derived.Test.YtaoedfegakpjeabGreatJ03

namespace Go.Proofs.YtaoedfegakpjeabGreat
open Go.RowKit

/-- The order of two products that are told by sign, high and low part. -/
noncomputable def cmpL (n : Bool) (h l : Int) (n' : Bool) (h' l' : Int) : Int := vl (if n = n' then (if n = true then wrap64 (-(if h < h' then -1 else if h = h' ∧ l < l' then -1 else if h' < h then 1 else if h = h' ∧ l' < l then 1 else 0)) else (if h < h' then -1 else if h = h' ∧ l < l' then -1 else if h' < h then 1 else if h = h' ∧ l' < l then 1 else 0)) else (if n = true then -1 else 1))
theorem cmpL_eq (n : Bool) (h l : Int) (n' : Bool) (h' l' : Int) : cmpL n h l n' h' l' = (if n = n' then (if n = true then wrap64 (-(if h < h' then -1 else if h = h' ∧ l < l' then -1 else if h' < h then 1 else if h = h' ∧ l' < l then 1 else 0)) else (if h < h' then -1 else if h = h' ∧ l < l' then -1 else if h' < h then 1 else if h = h' ∧ l' < l then 1 else 0)) else (if n = true then -1 else 1)) := vl_eq _

set_option maxHeartbeats 4000000 in
theorem compareL_any (n : Bool) (h l : Int) (n' : Bool) (h' l' : Int) (w : World) :
    Calls Tryz.prog 49 #[.agg #[.bool n, .int .u64 h, .int .u64 l], .agg #[.bool n', .int .u64 h', .int .u64 l']] w fun e w' => e = .returned (.int .i64 (cmpL n h l n' h' l')) ∧ Below w.heap.size w w' := by
  have HV := Lib.hid (cmpL_eq n h l n' h' l')
  generalize cmpL n h l n' h' l' = r at HV ⊢
  cases n <;> cases n'
  · rcases Int.lt_trichotomy h h' with k | k | k
    · have k1 : ¬ h' < h := by omega
      have k2 : (h == h') = false := by simp; omega
      have HK := Lib.hid k
      go_enter Tryz.func49, Tryz.ntmps49
      go_wp2
      go_ret
      refine ⟨ret_int (by rw [HV.out]; first | (simp [HK.out, wrap64]; done) | (simp [HK.out, wrap64]; split <;> omega)), ?_⟩
      repeat (first | exact Below.refl _ _ | refine Below.alloc ?_ (by first | (simp; done) | (simp; omega)) _ | refine Below.setCell ?_ (by first | (simp; done) | (simp; omega)) _ | refine Below.drew ?_)
    · subst k
      rcases Int.lt_trichotomy l l' with m | m | m
      · have m1 : ¬ l' < l := by omega
        have HK := Lib.hid m
        go_enter Tryz.func49, Tryz.ntmps49
        go_wp2
        go_ret
        refine ⟨ret_int (by rw [HV.out]; first | (simp [HK.out, wrap64]; done) | (simp [HK.out, wrap64]; split <;> omega)), ?_⟩
        repeat (first | exact Below.refl _ _ | refine Below.alloc ?_ (by first | (simp; done) | (simp; omega)) _ | refine Below.setCell ?_ (by first | (simp; done) | (simp; omega)) _ | refine Below.drew ?_)
      · subst m
        go_enter Tryz.func49, Tryz.ntmps49
        go_wp2
        go_ret
        refine ⟨ret_int (by rw [HV.out]; first | (simp [wrap64]; done) | (simp [wrap64]; split <;> omega)), ?_⟩
        repeat (first | exact Below.refl _ _ | refine Below.alloc ?_ (by first | (simp; done) | (simp; omega)) _ | refine Below.setCell ?_ (by first | (simp; done) | (simp; omega)) _ | refine Below.drew ?_)
      · have m1 : ¬ l < l' := by omega
        have HK : Hid (¬ l < l' ∧ l' < l) := ⟨m1, m⟩
        go_enter Tryz.func49, Tryz.ntmps49
        go_wp2
        go_ret
        refine ⟨ret_int (by rw [HV.out]; first | (simp [HK.out.1, HK.out.2, wrap64]; done) | (simp [HK.out.1, HK.out.2, wrap64]; split <;> omega)), ?_⟩
        repeat (first | exact Below.refl _ _ | refine Below.alloc ?_ (by first | (simp; done) | (simp; omega)) _ | refine Below.setCell ?_ (by first | (simp; done) | (simp; omega)) _ | refine Below.drew ?_)
    · have k1 : ¬ h < h' := by omega
      have k2 : (h == h') = false := by simp; omega
      have k3 : ¬ h = h' := by omega
      have HK : Hid (¬ h < h' ∧ ¬ h = h' ∧ h' < h) := ⟨k1, k3, k⟩
      go_enter Tryz.func49, Tryz.ntmps49
      go_wp2
      go_ret
      refine ⟨ret_int (by rw [HV.out]; first | (simp [HK.out.1, HK.out.2.1, HK.out.2.2, wrap64]; done) | (simp [HK.out.1, HK.out.2.1, HK.out.2.2, wrap64]; split <;> omega)), ?_⟩
      repeat (first | exact Below.refl _ _ | refine Below.alloc ?_ (by first | (simp; done) | (simp; omega)) _ | refine Below.setCell ?_ (by first | (simp; done) | (simp; omega)) _ | refine Below.drew ?_)
  · go_enter Tryz.func49, Tryz.ntmps49
    go_wp2
    go_ret
    refine ⟨ret_int (by rw [HV.out]; first | (simp [wrap64]; done) | (simp [wrap64]; split <;> omega)), ?_⟩
    repeat (first | exact Below.refl _ _ | refine Below.alloc ?_ (by first | (simp; done) | (simp; omega)) _ | refine Below.setCell ?_ (by first | (simp; done) | (simp; omega)) _ | refine Below.drew ?_)
  · go_enter Tryz.func49, Tryz.ntmps49
    go_wp2
    go_ret
    refine ⟨ret_int (by rw [HV.out]; first | (simp [wrap64]; done) | (simp [wrap64]; split <;> omega)), ?_⟩
    repeat (first | exact Below.refl _ _ | refine Below.alloc ?_ (by first | (simp; done) | (simp; omega)) _ | refine Below.setCell ?_ (by first | (simp; done) | (simp; omega)) _ | refine Below.drew ?_)
  · rcases Int.lt_trichotomy h h' with k | k | k
    · have k1 : ¬ h' < h := by omega
      have k2 : (h == h') = false := by simp; omega
      have HK := Lib.hid k
      go_enter Tryz.func49, Tryz.ntmps49
      go_wp2
      go_ret
      refine ⟨ret_int (by rw [HV.out]; first | (simp [HK.out, wrap64]; done) | (simp [HK.out, wrap64]; split <;> omega)), ?_⟩
      repeat (first | exact Below.refl _ _ | refine Below.alloc ?_ (by first | (simp; done) | (simp; omega)) _ | refine Below.setCell ?_ (by first | (simp; done) | (simp; omega)) _ | refine Below.drew ?_)
    · subst k
      rcases Int.lt_trichotomy l l' with m | m | m
      · have m1 : ¬ l' < l := by omega
        have HK := Lib.hid m
        go_enter Tryz.func49, Tryz.ntmps49
        go_wp2
        go_ret
        refine ⟨ret_int (by rw [HV.out]; first | (simp [HK.out, wrap64]; done) | (simp [HK.out, wrap64]; split <;> omega)), ?_⟩
        repeat (first | exact Below.refl _ _ | refine Below.alloc ?_ (by first | (simp; done) | (simp; omega)) _ | refine Below.setCell ?_ (by first | (simp; done) | (simp; omega)) _ | refine Below.drew ?_)
      · subst m
        go_enter Tryz.func49, Tryz.ntmps49
        go_wp2
        go_ret
        refine ⟨ret_int (by rw [HV.out]; first | (simp [wrap64]; done) | (simp [wrap64]; split <;> omega)), ?_⟩
        repeat (first | exact Below.refl _ _ | refine Below.alloc ?_ (by first | (simp; done) | (simp; omega)) _ | refine Below.setCell ?_ (by first | (simp; done) | (simp; omega)) _ | refine Below.drew ?_)
      · have m1 : ¬ l < l' := by omega
        have HK : Hid (¬ l < l' ∧ l' < l) := ⟨m1, m⟩
        go_enter Tryz.func49, Tryz.ntmps49
        go_wp2
        go_ret
        refine ⟨ret_int (by rw [HV.out]; first | (simp [HK.out.1, HK.out.2, wrap64]; done) | (simp [HK.out.1, HK.out.2, wrap64]; split <;> omega)), ?_⟩
        repeat (first | exact Below.refl _ _ | refine Below.alloc ?_ (by first | (simp; done) | (simp; omega)) _ | refine Below.setCell ?_ (by first | (simp; done) | (simp; omega)) _ | refine Below.drew ?_)
    · have k1 : ¬ h < h' := by omega
      have k2 : (h == h') = false := by simp; omega
      have k3 : ¬ h = h' := by omega
      have HK : Hid (¬ h < h' ∧ ¬ h = h' ∧ h' < h) := ⟨k1, k3, k⟩
      go_enter Tryz.func49, Tryz.ntmps49
      go_wp2
      go_ret
      refine ⟨ret_int (by rw [HV.out]; first | (simp [HK.out.1, HK.out.2.1, HK.out.2.2, wrap64]; done) | (simp [HK.out.1, HK.out.2.1, HK.out.2.2, wrap64]; split <;> omega)), ?_⟩
      repeat (first | exact Below.refl _ _ | refine Below.alloc ?_ (by first | (simp; done) | (simp; omega)) _ | refine Below.setCell ?_ (by first | (simp; done) | (simp; omega)) _ | refine Below.drew ?_)

theorem sizeI_abs {a : Int} (h : a.natAbs ≤ 9223372036854775807) : sizeI a = a.natAbs := by
  unfold sizeI wrap64
  (repeat' split) <;> omega
/-- The order of two products is that of their parts. -/
theorem cmpL_times {a b c d : Int} (ha : a.natAbs ≤ 9223372036854775807) (hb : b.natAbs ≤ 9223372036854775807) (hc : c.natAbs ≤ 9223372036854775807) (hd : d.natAbs ≤ 9223372036854775807) :
    cmpL (tNeg a b) (tHi a b) (tLo a b) (tNeg c d) (tHi c d) (tLo c d) = cmp3 (a * b) (c * d) := by
  have key : ∀ x y : Int, x.natAbs ≤ 9223372036854775807 → y.natAbs ≤ 9223372036854775807 → ∃ P : Int, 0 ≤ P ∧ tHi x y = P / 18446744073709551616 ∧ tLo x y = P % 18446744073709551616 ∧ ((tNeg x y = true ∧ x * y = -P ∧ 0 < P) ∨ (tNeg x y = false ∧ x * y = P)) := by
    intro x y hx hy
    have e1 := tHi_eq x y
    have e2 := tLo_eq x y
    rw [sizeI_abs hx, sizeI_abs hy] at e1 e2
    refine ⟨(x.natAbs : Int) * y.natAbs, Int.mul_nonneg (by omega) (by omega), e1, e2, ?_⟩
    have hP : 0 ≤ (x.natAbs : Int) * y.natAbs := Int.mul_nonneg (by omega) (by omega)
    rw [tNeg_eq, e1, e2]
    have hpos : (decide (0 < (x.natAbs : Int) * y.natAbs / 18446744073709551616) || decide (0 < (x.natAbs : Int) * y.natAbs % 18446744073709551616)) = decide (0 < (x.natAbs : Int) * y.natAbs) := by
      rw [Bool.eq_iff_iff]
      simp only [Bool.or_eq_true, decide_eq_true_eq]
      omega
    rw [hpos]
    by_cases hx0 : x < 0 <;> by_cases hy0 : y < 0
    · right
      have ex : x = -(x.natAbs : Int) := by omega
      have ey : y = -(y.natAbs : Int) := by omega
      refine ⟨by simp [hx0, hy0], ?_⟩
      generalize x.natAbs = m at ex ⊢
      generalize y.natAbs = n at ey ⊢
      rw [ex, ey]; grind
    · have ex : x = -(x.natAbs : Int) := by omega
      have ey : y = (y.natAbs : Int) := by omega
      have e : x * y = -((x.natAbs : Int) * y.natAbs) := by
        generalize x.natAbs = m at ex ⊢
        generalize y.natAbs = n at ey ⊢
        rw [ex, ey]; grind
      by_cases hp : 0 < (x.natAbs : Int) * y.natAbs
      · left; exact ⟨by simp only [hx0, hy0, hp]; decide, e, hp⟩
      · right; exact ⟨by simp only [hp]; simp, by rw [e]; omega⟩
    · have ex : x = (x.natAbs : Int) := by omega
      have ey : y = -(y.natAbs : Int) := by omega
      have e : x * y = -((x.natAbs : Int) * y.natAbs) := by
        generalize x.natAbs = m at ex ⊢
        generalize y.natAbs = n at ey ⊢
        rw [ex, ey]; grind
      by_cases hp : 0 < (x.natAbs : Int) * y.natAbs
      · left; exact ⟨by simp only [hx0, hy0, hp]; decide, e, hp⟩
      · right; exact ⟨by simp only [hp]; simp, by rw [e]; omega⟩
    · right
      have ex : x = (x.natAbs : Int) := by omega
      have ey : y = (y.natAbs : Int) := by omega
      refine ⟨by simp [hx0, hy0], ?_⟩
      generalize x.natAbs = m at ex ⊢
      generalize y.natAbs = n at ey ⊢
      rw [ex, ey]
  obtain ⟨P, p0, p1, p2, p3⟩ := key a b ha hb
  obtain ⟨Q, q0, q1, q2, q3⟩ := key c d hc hd
  rw [cmpL_eq, p1, p2, q1, q2]
  rcases p3 with ⟨n1, e1, pp⟩ | ⟨n1, e1⟩ <;> rcases q3 with ⟨n2, e2, qq⟩ | ⟨n2, e2⟩ <;> rw [n1, n2, e1, e2] <;> simp only [reduceCtorEq, if_true, if_false, Bool.false_eq_true, Bool.true_eq_false] <;> unfold cmp3 <;> (try unfold wrap64) <;> ((repeat' split) <;> omega)

end Go.Proofs.YtaoedfegakpjeabGreat
