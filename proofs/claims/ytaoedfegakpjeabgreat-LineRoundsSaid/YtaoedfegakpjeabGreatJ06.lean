/- Contracts of the functions that the statement reaches, and plain lemmas: part 6 of 25. -/
import Derived.Test.YtaoedfegakpjeabGreatJ05
import Derived.Laws.StructEq

namespace Go.Proofs.YtaoedfegakpjeabGreat
open Go.RowKit

def U64 (x : Int) : Prop := 0 ≤ x ∧ x ≤ 18446744073709551615
theorem u64_wrap (a : Int) : U64 (IntKind.u64.wrap a) := by
  unfold U64
  simp only [IntKind.wrap, IntKind.signed, IntKind.bits]
  simp
  omega
noncomputable def hiU (x y : Int) : Int := vl (x * y / 18446744073709551616)
noncomputable def loU (x y : Int) : Int := vl (x * y % 18446744073709551616)
theorem hiU_eq (x y : Int) : hiU x y = x * y / 18446744073709551616 := vl_eq _
theorem loU_eq (x y : Int) : loU x y = x * y % 18446744073709551616 := vl_eq _

theorem mul64_any (x y : Int) (w : World) (hx : U64 x) (hy : U64 y) :
    Calls Tryz.prog 125 #[.int .u64 x, .int .u64 y] w fun e w' => e = .returned (.tuple #[.int .u64 (hiU x y), .int .u64 (loU x y)]) ∧ w = w' := by
  unfold U64 at hx hy
  obtain ⟨m, rfl⟩ := Int.eq_ofNat_of_zero_le hx.1
  obtain ⟨n, rfl⟩ := Int.eq_ofNat_of_zero_le hy.1
  refine (Tryz.bits_Mul64 m n (by omega) (by omega) w).mono ?_
  rintro e w' ⟨rfl, rfl⟩
  refine ⟨?_, rfl⟩
  rw [hiU_eq, loU_eq, ← Int.natCast_mul]
  rfl

/-- The product of two int64 in two words. -/
noncomputable def hiP (a b : Int) : Int := vl (a * b / 18446744073709551616)
noncomputable def loP (a b : Int) : Int := vl (a * b % 18446744073709551616)
theorem hiP_eq (a b : Int) : hiP a b = a * b / 18446744073709551616 := vl_eq _
theorem loP_eq (a b : Int) : loP a b = a * b % 18446744073709551616 := vl_eq _

/-- What the code adds to the upper word. -/
noncomputable def hiW (a b : Int) : Int := if a < 0 then (if b < 0 then wrap64 (wrap64 (wrap64 (hiU (IntKind.u64.wrap a) (IntKind.u64.wrap b)) - b) - a) else wrap64 (wrap64 (hiU (IntKind.u64.wrap a) (IntKind.u64.wrap b)) - b)) else (if b < 0 then wrap64 (wrap64 (hiU (IntKind.u64.wrap a) (IntKind.u64.wrap b)) - a) else wrap64 (hiU (IntKind.u64.wrap a) (IntKind.u64.wrap b)))

theorem wrapu (a : Int) (h : I64 a) : IntKind.u64.wrap a = if a < 0 then a + 18446744073709551616 else a := by
  unfold I64 at h
  simp only [IntKind.wrap, IntKind.signed, IntKind.bits]
  simp
  split <;> omega

theorem prod_bd {a b : Int} (ha : I64 a) (hb : I64 b) : -85070591730234615865843651857942052864 ≤ a * b ∧ a * b ≤ 85070591730234615865843651857942052864 := by
  unfold I64 at *
  have h1 := Int.mul_le_mul_of_nonneg_left (a := b) (b := 9223372036854775808) (c := 9223372036854775808) (by omega) (by omega)
  have k : a.natAbs * b.natAbs ≤ 9223372036854775808 * 9223372036854775808 := Nat.mul_le_mul (by omega) (by omega)
  have e : (a * b).natAbs = a.natAbs * b.natAbs := Int.natAbs_mul a b
  omega

theorem hiW_eq {a b : Int} (ha : I64 a) (hb : I64 b) : hiW a b = hiP a b := by
  have hp := prod_bd ha hb
  unfold hiW
  rw [hiU_eq, hiP_eq, wrapu a ha, wrapu b hb]
  unfold I64 at ha hb
  split
  · split
    · have e : (a + 18446744073709551616) * (b + 18446744073709551616) = a * b + 18446744073709551616 * a + 18446744073709551616 * b + 340282366920938463463374607431768211456 := by
        rw [Int.add_mul, Int.mul_add, Int.mul_add]; omega
      rw [e]
      generalize a * b = P at *
      unfold wrap64
      omega
    · have e : (a + 18446744073709551616) * b = a * b + 18446744073709551616 * b := by
        rw [Int.add_mul]
      rw [e]
      generalize a * b = P at *
      unfold wrap64
      omega
  · split
    · have e : a * (b + 18446744073709551616) = a * b + 18446744073709551616 * a := by
        rw [Int.mul_add]; omega
      rw [e]
      generalize a * b = P at *
      unfold wrap64
      omega
    · generalize a * b = P at *
      unfold wrap64
      omega
theorem loU_P {a b : Int} (ha : I64 a) (hb : I64 b) : loU (IntKind.u64.wrap a) (IntKind.u64.wrap b) = loP a b := by
  rw [loU_eq, loP_eq, wrapu a ha, wrapu b hb]
  split
  · split
    · have e : (a + 18446744073709551616) * (b + 18446744073709551616) = a * b + 18446744073709551616 * a + 18446744073709551616 * b + 340282366920938463463374607431768211456 := by
        rw [Int.add_mul, Int.mul_add, Int.mul_add]; omega
      rw [e]
      omega
    · have e : (a + 18446744073709551616) * b = a * b + 18446744073709551616 * b := by
        rw [Int.add_mul]
      rw [e]
      omega
  · split
    · have e : a * (b + 18446744073709551616) = a * b + 18446744073709551616 * a := by
        rw [Int.mul_add]; omega
      rw [e]
      omega
    · rfl

set_option maxHeartbeats 400000 in
theorem wide_nn (a b : Int) (w : World) (ha : a < 0) (hb : b < 0) :
    Calls Tryz.prog 117 #[.int .i64 a, .int .i64 b] w fun e w' => e = .returned (.agg #[.int .i64 (wrap64 (wrap64 (wrap64 (hiU (IntKind.u64.wrap a) (IntKind.u64.wrap b)) - b) - a)), .int .u64 (loU (IntKind.u64.wrap a) (IntKind.u64.wrap b))]) ∧ Below w.heap.size w w' := by
  go_enter Tryz.func117, Tryz.ntmps117
  go_wp2_with (go_at_call 125; refine (mul64_any _ _ _ (u64_wrap _) (u64_wrap _)).mono ?_; rintro e w1 ⟨rfl, rfl⟩)
  refine bodyPost_ret (v := .agg #[.int .i64 (wrap64 (wrap64 (wrap64 (hiU (IntKind.u64.wrap a) (IntKind.u64.wrap b)) - b) - a)), .int .u64 (loU (IntKind.u64.wrap a) (IntKind.u64.wrap b))]) ?_ rfl ⟨rfl, ?_⟩
  · simp [results, Tryz.results117, go_sem]
  · repeat (first | exact Below.refl _ _ | refine Below.alloc ?_ (by first | (simp; done) | (simp; omega)) _ | refine Below.setCell ?_ (by first | (simp; done) | (simp; omega)) _ | refine Below.drew ?_)

set_option maxHeartbeats 400000 in
theorem wide_np (a b : Int) (w : World) (ha : a < 0) (hb : ¬ b < 0) :
    Calls Tryz.prog 117 #[.int .i64 a, .int .i64 b] w fun e w' => e = .returned (.agg #[.int .i64 (wrap64 (wrap64 (hiU (IntKind.u64.wrap a) (IntKind.u64.wrap b)) - b)), .int .u64 (loU (IntKind.u64.wrap a) (IntKind.u64.wrap b))]) ∧ Below w.heap.size w w' := by
  go_enter Tryz.func117, Tryz.ntmps117
  go_wp2_with (go_at_call 125; refine (mul64_any _ _ _ (u64_wrap _) (u64_wrap _)).mono ?_; rintro e w1 ⟨rfl, rfl⟩)
  refine bodyPost_ret (v := .agg #[.int .i64 (wrap64 (wrap64 (hiU (IntKind.u64.wrap a) (IntKind.u64.wrap b)) - b)), .int .u64 (loU (IntKind.u64.wrap a) (IntKind.u64.wrap b))]) ?_ rfl ⟨rfl, ?_⟩
  · simp [results, Tryz.results117, go_sem]
  · repeat (first | exact Below.refl _ _ | refine Below.alloc ?_ (by first | (simp; done) | (simp; omega)) _ | refine Below.setCell ?_ (by first | (simp; done) | (simp; omega)) _ | refine Below.drew ?_)

set_option maxHeartbeats 400000 in
theorem wide_pn (a b : Int) (w : World) (ha : ¬ a < 0) (hb : b < 0) :
    Calls Tryz.prog 117 #[.int .i64 a, .int .i64 b] w fun e w' => e = .returned (.agg #[.int .i64 (wrap64 (wrap64 (hiU (IntKind.u64.wrap a) (IntKind.u64.wrap b)) - a)), .int .u64 (loU (IntKind.u64.wrap a) (IntKind.u64.wrap b))]) ∧ Below w.heap.size w w' := by
  go_enter Tryz.func117, Tryz.ntmps117
  go_wp2_with (go_at_call 125; refine (mul64_any _ _ _ (u64_wrap _) (u64_wrap _)).mono ?_; rintro e w1 ⟨rfl, rfl⟩)
  refine bodyPost_ret (v := .agg #[.int .i64 (wrap64 (wrap64 (hiU (IntKind.u64.wrap a) (IntKind.u64.wrap b)) - a)), .int .u64 (loU (IntKind.u64.wrap a) (IntKind.u64.wrap b))]) ?_ rfl ⟨rfl, ?_⟩
  · simp [results, Tryz.results117, go_sem]
  · repeat (first | exact Below.refl _ _ | refine Below.alloc ?_ (by first | (simp; done) | (simp; omega)) _ | refine Below.setCell ?_ (by first | (simp; done) | (simp; omega)) _ | refine Below.drew ?_)

set_option maxHeartbeats 400000 in
theorem wide_pp (a b : Int) (w : World) (ha : ¬ a < 0) (hb : ¬ b < 0) :
    Calls Tryz.prog 117 #[.int .i64 a, .int .i64 b] w fun e w' => e = .returned (.agg #[.int .i64 (wrap64 (hiU (IntKind.u64.wrap a) (IntKind.u64.wrap b))), .int .u64 (loU (IntKind.u64.wrap a) (IntKind.u64.wrap b))]) ∧ Below w.heap.size w w' := by
  go_enter Tryz.func117, Tryz.ntmps117
  go_wp2_with (go_at_call 125; refine (mul64_any _ _ _ (u64_wrap _) (u64_wrap _)).mono ?_; rintro e w1 ⟨rfl, rfl⟩)
  refine bodyPost_ret (v := .agg #[.int .i64 (wrap64 (hiU (IntKind.u64.wrap a) (IntKind.u64.wrap b))), .int .u64 (loU (IntKind.u64.wrap a) (IntKind.u64.wrap b))]) ?_ rfl ⟨rfl, ?_⟩
  · simp [results, Tryz.results117, go_sem]
  · repeat (first | exact Below.refl _ _ | refine Below.alloc ?_ (by first | (simp; done) | (simp; omega)) _ | refine Below.setCell ?_ (by first | (simp; done) | (simp; omega)) _ | refine Below.drew ?_)

theorem wide_any (a b : Int) (w : World) (ia : I64 a) (ib : I64 b) :
    Calls Tryz.prog 117 #[.int .i64 a, .int .i64 b] w fun e w' => e = .returned (.agg #[.int .i64 (hiP a b), .int .u64 (loP a b)]) ∧ Below w.heap.size w w' := by
  rw [← hiW_eq ia ib, ← loU_P ia ib]
  unfold hiW
  by_cases ha : a < 0 <;> by_cases hb : b < 0
  · rw [if_pos ha, if_pos hb]; exact wide_nn a b w ha hb
  · rw [if_pos ha, if_neg hb]; exact wide_np a b w ha hb
  · rw [if_neg ha, if_pos hb]; exact wide_pn a b w ha hb
  · rw [if_neg ha, if_neg hb]; exact wide_pp a b w ha hb

end Go.Proofs.YtaoedfegakpjeabGreat

namespace Go.Proofs.YtaoedfegakpjeabGreat
open Go.RowKit

/-- The order of two products. -/
noncomputable def cmpP (a b c d : Int) : Int := vl (cmp3 (a * b) (c * d))
theorem cmpP_eq (a b c d : Int) : cmpP a b c d = cmp3 (a * b) (c * d) := vl_eq _
theorem cmpP_lt {a b c d : Int} (h : hiP a b < hiP c d) : cmpP a b c d = -1 := by
  rw [hiP_eq, hiP_eq] at h; rw [cmpP_eq]; unfold cmp3; rw [if_pos (by omega)]
theorem cmpP_gt {a b c d : Int} (h : hiP c d < hiP a b) : cmpP a b c d = 1 := by
  rw [hiP_eq, hiP_eq] at h; rw [cmpP_eq]; unfold cmp3; rw [if_neg (by omega), if_pos (by omega)]
theorem cmpP_llt {a b c d : Int} (h : hiP a b = hiP c d) (k : loP a b < loP c d) : cmpP a b c d = -1 := by
  rw [hiP_eq, hiP_eq] at h; rw [loP_eq, loP_eq] at k; rw [cmpP_eq]; unfold cmp3; rw [if_pos (by omega)]
theorem cmpP_lgt {a b c d : Int} (h : hiP a b = hiP c d) (k : loP c d < loP a b) : cmpP a b c d = 1 := by
  rw [hiP_eq, hiP_eq] at h; rw [loP_eq, loP_eq] at k; rw [cmpP_eq]; unfold cmp3; rw [if_neg (by omega), if_pos (by omega)]
theorem cmpP_leq {a b c d : Int} (h : hiP a b = hiP c d) (k : ¬ loP a b < loP c d) (l : ¬ loP c d < loP a b) : cmpP a b c d = 0 := by
  rw [hiP_eq, hiP_eq] at h; rw [loP_eq, loP_eq] at k l; rw [cmpP_eq]; unfold cmp3; rw [if_neg (by omega), if_neg (by omega)]

set_option maxHeartbeats 400000 in
theorem cmpProducts_lt (a b c d : Int) (w : World) (ia : I64 a) (ib : I64 b) (ic : I64 c) (id : I64 d) (h1 : (hiP a b != hiP c d) = true) (h2 : hiP a b < hiP c d) :
    Calls Tryz.prog 97 #[.int .i64 a, .int .i64 b, .int .i64 c, .int .i64 d] w fun e w' => e = .returned (.int .i64 (-1)) ∧ Below w.heap.size w w' := by
  go_enter Tryz.func97, Tryz.ntmps97
  go_wp2_with fail
  refine (wide_any a b _ ia ib).mono ?_
  rintro e w1 ⟨rfl, hb1⟩
  go_wp2_with fail
  refine (wide_any c d _ ic id).mono ?_
  rintro e w2 ⟨rfl, hb2⟩
  go_wp2
  go_ret
  refine ⟨rfl, ?_⟩
  refine Below.alloc (Below.alloc (hb1.trans (hb2.mono hb1.size)) ?_ _) ?_ _
  · have h1 := hb1.size; have h2 := hb2.size; omega
  · have h1 := hb1.size; have h2 := hb2.size; simp; omega

set_option maxHeartbeats 400000 in
theorem cmpProducts_gt (a b c d : Int) (w : World) (ia : I64 a) (ib : I64 b) (ic : I64 c) (id : I64 d) (h1 : (hiP a b != hiP c d) = true) (h2 : ¬ hiP a b < hiP c d) :
    Calls Tryz.prog 97 #[.int .i64 a, .int .i64 b, .int .i64 c, .int .i64 d] w fun e w' => e = .returned (.int .i64 (1)) ∧ Below w.heap.size w w' := by
  go_enter Tryz.func97, Tryz.ntmps97
  go_wp2_with fail
  refine (wide_any a b _ ia ib).mono ?_
  rintro e w1 ⟨rfl, hb1⟩
  go_wp2_with fail
  refine (wide_any c d _ ic id).mono ?_
  rintro e w2 ⟨rfl, hb2⟩
  go_wp2
  go_ret
  refine ⟨rfl, ?_⟩
  refine Below.alloc (Below.alloc (hb1.trans (hb2.mono hb1.size)) ?_ _) ?_ _
  · have h1 := hb1.size; have h2 := hb2.size; omega
  · have h1 := hb1.size; have h2 := hb2.size; simp; omega

set_option maxHeartbeats 400000 in
theorem cmpProducts_llt (a b c d : Int) (w : World) (ia : I64 a) (ib : I64 b) (ic : I64 c) (id : I64 d) (h1 : (hiP a b != hiP c d) = false) (h2 : loP a b < loP c d) :
    Calls Tryz.prog 97 #[.int .i64 a, .int .i64 b, .int .i64 c, .int .i64 d] w fun e w' => e = .returned (.int .i64 (-1)) ∧ Below w.heap.size w w' := by
  go_enter Tryz.func97, Tryz.ntmps97
  go_wp2_with fail
  refine (wide_any a b _ ia ib).mono ?_
  rintro e w1 ⟨rfl, hb1⟩
  go_wp2_with fail
  refine (wide_any c d _ ic id).mono ?_
  rintro e w2 ⟨rfl, hb2⟩
  go_wp2
  go_ret
  refine ⟨rfl, ?_⟩
  refine Below.alloc (Below.alloc (hb1.trans (hb2.mono hb1.size)) ?_ _) ?_ _
  · have h1 := hb1.size; have h2 := hb2.size; omega
  · have h1 := hb1.size; have h2 := hb2.size; simp; omega

set_option maxHeartbeats 400000 in
theorem cmpProducts_lgt (a b c d : Int) (w : World) (ia : I64 a) (ib : I64 b) (ic : I64 c) (id : I64 d) (h1 : (hiP a b != hiP c d) = false) (_h2 : ¬ loP a b < loP c d) (h3 : loP c d < loP a b) :
    Calls Tryz.prog 97 #[.int .i64 a, .int .i64 b, .int .i64 c, .int .i64 d] w fun e w' => e = .returned (.int .i64 (1)) ∧ Below w.heap.size w w' := by
  go_enter Tryz.func97, Tryz.ntmps97
  go_wp2_with fail
  refine (wide_any a b _ ia ib).mono ?_
  rintro e w1 ⟨rfl, hb1⟩
  go_wp2_with fail
  refine (wide_any c d _ ic id).mono ?_
  rintro e w2 ⟨rfl, hb2⟩
  go_wp2
  go_ret
  refine ⟨rfl, ?_⟩
  refine Below.alloc (Below.alloc (hb1.trans (hb2.mono hb1.size)) ?_ _) ?_ _
  · have h1 := hb1.size; have h2 := hb2.size; omega
  · have h1 := hb1.size; have h2 := hb2.size; simp; omega

set_option maxHeartbeats 400000 in
theorem cmpProducts_leq (a b c d : Int) (w : World) (ia : I64 a) (ib : I64 b) (ic : I64 c) (id : I64 d) (h1 : (hiP a b != hiP c d) = false) (h2 : ¬ loP a b < loP c d) (h3 : ¬ loP c d < loP a b) :
    Calls Tryz.prog 97 #[.int .i64 a, .int .i64 b, .int .i64 c, .int .i64 d] w fun e w' => e = .returned (.int .i64 (0)) ∧ Below w.heap.size w w' := by
  go_enter Tryz.func97, Tryz.ntmps97
  go_wp2_with fail
  refine (wide_any a b _ ia ib).mono ?_
  rintro e w1 ⟨rfl, hb1⟩
  go_wp2_with fail
  refine (wide_any c d _ ic id).mono ?_
  rintro e w2 ⟨rfl, hb2⟩
  go_wp2
  go_ret
  refine ⟨rfl, ?_⟩
  refine Below.alloc (Below.alloc (hb1.trans (hb2.mono hb1.size)) ?_ _) ?_ _
  · have h1 := hb1.size; have h2 := hb2.size; omega
  · have h1 := hb1.size; have h2 := hb2.size; simp; omega

theorem cmpProducts_any (a b c d : Int) (w : World) (ia : I64 a) (ib : I64 b) (ic : I64 c) (id : I64 d) :
    Calls Tryz.prog 97 #[.int .i64 a, .int .i64 b, .int .i64 c, .int .i64 d] w fun e w' => e = .returned (.int .i64 (cmpP a b c d)) ∧ Below w.heap.size w w' := by
  by_cases h : hiP a b = hiP c d
  · by_cases h2 : loP a b < loP c d
    · rw [cmpP_llt h h2]; exact cmpProducts_llt a b c d w ia ib ic id (by simpa using h) h2
    · by_cases h3 : loP c d < loP a b
      · rw [cmpP_lgt h h3]; exact cmpProducts_lgt a b c d w ia ib ic id (by simpa using h) h2 h3
      · rw [cmpP_leq h h2 h3]; exact cmpProducts_leq a b c d w ia ib ic id (by simpa using h) h2 h3
  · by_cases h2 : hiP a b < hiP c d
    · rw [cmpP_lt h2]; exact cmpProducts_lt a b c d w ia ib ic id (by simpa using h) h2
    · rw [cmpP_gt (by omega)]; exact cmpProducts_gt a b c d w ia ib ic id (by simpa using h) h2

end Go.Proofs.YtaoedfegakpjeabGreat

namespace Go.Proofs.YtaoedfegakpjeabGreat
open Go.RowKit

/-- The order of two points. -/
noncomputable def cmpPt (a b : Q4) : Int := vl (if cmpP a.a b.d b.a a.d != 0 then cmpP a.a b.d b.a a.d else if cmpP a.b b.d b.b a.d != 0 then cmpP a.b b.d b.b a.d else cmpP a.c b.d b.c a.d)
theorem cmpPt_eq (a b : Q4) : cmpPt a b = (if cmpP a.a b.d b.a a.d != 0 then cmpP a.a b.d b.a a.d else if cmpP a.b b.d b.b a.d != 0 then cmpP a.b b.d b.b a.d else cmpP a.c b.d b.c a.d) := vl_eq _
/-- The first k coordinates are equal. -/
def CmpTo (a b : Q4) (k : Nat) : Prop := (0 < k → (cmpP a.a b.d b.a a.d != 0) = false) ∧ (1 < k → (cmpP a.b b.d b.b a.d != 0) = false) ∧ (2 < k → (cmpP a.c b.d b.c a.d != 0) = false)
section
variable {a b : Q4}
theorem cmpPt_0 (_ : CmpTo a b 0) (h : (cmpP a.a b.d b.a a.d != 0) = true) : cmpPt a b = cmpP a.a b.d b.a a.d := by rw [cmpPt_eq, if_pos h]
theorem cmpPt_1 (hr : CmpTo a b 1) (h : (cmpP a.b b.d b.b a.d != 0) = true) : cmpPt a b = cmpP a.b b.d b.b a.d := by
  have h0 := hr.1 (by omega)
  rw [cmpPt_eq, if_neg (by simp [h0]), if_pos h]
theorem cmpPt_2 (hr : CmpTo a b 2) (_ : (cmpP a.c b.d b.c a.d != 0) = true) : cmpPt a b = cmpP a.c b.d b.c a.d := by
  have h0 := hr.1 (by omega)
  have h1 := hr.2.1 (by omega)
  rw [cmpPt_eq, if_neg (by simp [h0]), if_neg (by simp [h1])]
theorem cmpPt_3 (hr : CmpTo a b 3) : cmpPt a b = 0 := by
  have h0 := hr.1 (by omega)
  have h1 := hr.2.1 (by omega)
  have h2 := hr.2.2 (by omega)
  rw [cmpPt_eq, if_neg (by simp [h0]), if_neg (by simp [h1])]
  simpa using h2
theorem cmpTo_0 (_ : CmpTo a b 0) (h : (cmpP a.a b.d b.a a.d != 0) = false) : CmpTo a b 1 := ⟨fun _ => h, by omega, by omega⟩
theorem cmpTo_1 (hr : CmpTo a b 1) (h : (cmpP a.b b.d b.b a.d != 0) = false) : CmpTo a b 2 := ⟨fun _ => hr.1 (by omega), fun _ => h, by omega⟩
theorem cmpTo_2 (hr : CmpTo a b 2) (h : (cmpP a.c b.d b.c a.d != 0) = false) : CmpTo a b 3 := ⟨fun _ => hr.1 (by omega), fun _ => hr.2.1 (by omega), fun _ => h⟩
end

set_option maxHeartbeats 1000000 in
theorem cmpPoint_any (a b : Q4) (w : World) (ia : a.I64) (ib : b.I64) :
    Calls Tryz.prog 77 #[.agg #[.int .i64 (a.a), .int .i64 (a.b), .int .i64 (a.c), .int .i64 (a.d)], .agg #[.int .i64 (b.a), .int .i64 (b.b), .int .i64 (b.c), .int .i64 (b.d)]] w fun e w' => e = .returned (.int .i64 (cmpPt a b)) ∧ Below w.heap.size w w' := by
  go_enter Tryz.func77, Tryz.ntmps77
  have hE : ∀ W, Fr 2 [(0, .cells #[.int .i64 (a.a), .int .i64 (a.b), .int .i64 (a.c), .int .i64 (a.d)] 48), (1, .cells #[.int .i64 (b.a), .int .i64 (b.b), .int .i64 (b.c), .int .i64 (b.d)] 48)] [] w W → (W.cell? ⟨w.heap.size, 0, none⟩ = some (.int .i64 (a.a)) ∧ W.cell? ⟨w.heap.size, 1, none⟩ = some (.int .i64 (a.b)) ∧ W.cell? ⟨w.heap.size, 2, none⟩ = some (.int .i64 (a.c)) ∧ W.cell? ⟨w.heap.size, 3, none⟩ = some (.int .i64 (a.d)) ∧ W.cell? ⟨w.heap.size + 1, 0, none⟩ = some (.int .i64 (b.a)) ∧ W.cell? ⟨w.heap.size + 1, 1, none⟩ = some (.int .i64 (b.b)) ∧ W.cell? ⟨w.heap.size + 1, 2, none⟩ = some (.int .i64 (b.c)) ∧ W.cell? ⟨w.heap.size + 1, 3, none⟩ = some (.int .i64 (b.d))) := fun W h => by (repeat' apply And.intro) <;> first | exact h.at0 rfl | exact h.at rfl | exact (h.rms0 rfl).cell | exact (h.rms rfl).cell | exact (h.rms0 rfl).frozen | exact (h.rms rfl).frozen
  have HE := Lib.hid hE
  clear hE
  go_wp2
  go_loopw [7] (fun v wr => ∃ k : Nat, k ≤ 3 ∧ v = .int .i64 k ∧ Fr 2 [(0, .cells #[.int .i64 (a.a), .int .i64 (a.b), .int .i64 (a.c), .int .i64 (a.d)] 48), (1, .cells #[.int .i64 (b.a), .int .i64 (b.b), .int .i64 (b.c), .int .i64 (b.d)] 48)] [] w wr ∧ CmpTo a b k) (fun v _ => 3 - (intOf v).toNat)
  case atStart => exact ⟨0, by omega, rfl, (((Fr.nil w).fixed (by simp) (.cells #[.int .i64 (a.a), .int .i64 (a.b), .int .i64 (a.c), .int .i64 (a.d)] 48)).fixed (by simp) (.cells #[.int .i64 (b.a), .int .i64 (b.b), .int .i64 (b.c), .int .i64 (b.d)] 48)), by omega, by omega, by omega⟩
  case round =>
    rename_i wr
    obtain ⟨k, hk, rfl, hF, hr⟩ := hrel
    match k, hk with
    | 0, _ =>
      cases h0 : (cmpP a.a b.d b.a a.d != 0) with
      | true =>
        have HN := Lib.hid (cmpPt_0 hr h0)
        clear hr
        go_wp2
        go_region_held3 (fun W => Fr 2 [(0, .cells #[.int .i64 (a.a), .int .i64 (a.b), .int .i64 (a.c), .int .i64 (a.d)] 48), (1, .cells #[.int .i64 (b.a), .int .i64 (b.b), .int .i64 (b.c), .int .i64 (b.d)] 48)] [] w W ∧ W.cell? ⟨w.heap.size, 0, none⟩ = some (.int .i64 (a.a)) ∧ W.cell? ⟨w.heap.size, 1, none⟩ = some (.int .i64 (a.b)) ∧ W.cell? ⟨w.heap.size, 2, none⟩ = some (.int .i64 (a.c)) ∧ W.cell? ⟨w.heap.size, 3, none⟩ = some (.int .i64 (a.d)) ∧ W.cell? ⟨w.heap.size + 1, 0, none⟩ = some (.int .i64 (b.a)) ∧ W.cell? ⟨w.heap.size + 1, 1, none⟩ = some (.int .i64 (b.b)) ∧ W.cell? ⟨w.heap.size + 1, 2, none⟩ = some (.int .i64 (b.c)) ∧ W.cell? ⟨w.heap.size + 1, 3, none⟩ = some (.int .i64 (b.d))) ((first | exact hSK | assumption | (have hq := Fr.keep HE.out (by assumption) hb1; exact hq) | (have hq := Fr.both HE.out hF.drew; exact hq) | (have hq := Fr.both HE.out (((Fr.nil w).fixed (by simp) (.cells #[.int .i64 (a.a), .int .i64 (a.b), .int .i64 (a.c), .int .i64 (a.d)] 48)).fixed (by simp) (.cells #[.int .i64 (b.a), .int .i64 (b.b), .int .i64 (b.c), .int .i64 (b.d)] 48)).drew; exact hq) | (refine Fr.both HE.out ?_; (repeat (first | exact hF | exact And.left (by assumption) | refine Fr.set ?_ (by first | (simp; done) | (simp; omega)) (by first | (simp [List.lookup]; done) | (simp [Nat.add_assoc, List.lookup]; done)) _ | refine Fr.drew ?_ | refine Fr.alloc ?_ _))))) (first | (go_at_call 97; refine (cmpProducts_any _ _ _ _ _ ia.1 ib.2.2.2 ib.1 ia.2.2.2).mono ?_; rintro e w1 ⟨rfl, hb1⟩))
        obtain ⟨hG, -⟩ : Fr 2 _ _ w _ ∧ _ := by assumption
        go_wp2
        go_ret
        exact ⟨ret_int (by rw [HN.out]), hG.own.below⟩
      | false =>
        have HN := Lib.hid (cmpTo_0 hr h0)
        clear hr
        go_wp2
        go_region_held3 (fun W => Fr 2 [(0, .cells #[.int .i64 (a.a), .int .i64 (a.b), .int .i64 (a.c), .int .i64 (a.d)] 48), (1, .cells #[.int .i64 (b.a), .int .i64 (b.b), .int .i64 (b.c), .int .i64 (b.d)] 48)] [] w W ∧ W.cell? ⟨w.heap.size, 0, none⟩ = some (.int .i64 (a.a)) ∧ W.cell? ⟨w.heap.size, 1, none⟩ = some (.int .i64 (a.b)) ∧ W.cell? ⟨w.heap.size, 2, none⟩ = some (.int .i64 (a.c)) ∧ W.cell? ⟨w.heap.size, 3, none⟩ = some (.int .i64 (a.d)) ∧ W.cell? ⟨w.heap.size + 1, 0, none⟩ = some (.int .i64 (b.a)) ∧ W.cell? ⟨w.heap.size + 1, 1, none⟩ = some (.int .i64 (b.b)) ∧ W.cell? ⟨w.heap.size + 1, 2, none⟩ = some (.int .i64 (b.c)) ∧ W.cell? ⟨w.heap.size + 1, 3, none⟩ = some (.int .i64 (b.d))) ((first | exact hSK | assumption | (have hq := Fr.keep HE.out (by assumption) hb1; exact hq) | (have hq := Fr.both HE.out hF.drew; exact hq) | (have hq := Fr.both HE.out (((Fr.nil w).fixed (by simp) (.cells #[.int .i64 (a.a), .int .i64 (a.b), .int .i64 (a.c), .int .i64 (a.d)] 48)).fixed (by simp) (.cells #[.int .i64 (b.a), .int .i64 (b.b), .int .i64 (b.c), .int .i64 (b.d)] 48)).drew; exact hq) | (refine Fr.both HE.out ?_; (repeat (first | exact hF | exact And.left (by assumption) | refine Fr.set ?_ (by first | (simp; done) | (simp; omega)) (by first | (simp [List.lookup]; done) | (simp [Nat.add_assoc, List.lookup]; done)) _ | refine Fr.drew ?_ | refine Fr.alloc ?_ _))))) (first | (go_at_call 97; refine (cmpProducts_any _ _ _ _ _ ia.1 ib.2.2.2 ib.1 ia.2.2.2).mono ?_; rintro e w1 ⟨rfl, hb1⟩))
        obtain ⟨hG, -⟩ : Fr 2 _ _ w _ ∧ _ := by assumption
        go_wp2
        go_roundw
        case rel => exact ⟨1, by omega, by go_num, hG, HN.out⟩
        case measure => simp [intOf]
    | 1, _ =>
      cases h1 : (cmpP a.b b.d b.b a.d != 0) with
      | true =>
        have HN := Lib.hid (cmpPt_1 hr h1)
        clear hr
        go_wp2
        go_region_held3 (fun W => Fr 2 [(0, .cells #[.int .i64 (a.a), .int .i64 (a.b), .int .i64 (a.c), .int .i64 (a.d)] 48), (1, .cells #[.int .i64 (b.a), .int .i64 (b.b), .int .i64 (b.c), .int .i64 (b.d)] 48)] [] w W ∧ W.cell? ⟨w.heap.size, 0, none⟩ = some (.int .i64 (a.a)) ∧ W.cell? ⟨w.heap.size, 1, none⟩ = some (.int .i64 (a.b)) ∧ W.cell? ⟨w.heap.size, 2, none⟩ = some (.int .i64 (a.c)) ∧ W.cell? ⟨w.heap.size, 3, none⟩ = some (.int .i64 (a.d)) ∧ W.cell? ⟨w.heap.size + 1, 0, none⟩ = some (.int .i64 (b.a)) ∧ W.cell? ⟨w.heap.size + 1, 1, none⟩ = some (.int .i64 (b.b)) ∧ W.cell? ⟨w.heap.size + 1, 2, none⟩ = some (.int .i64 (b.c)) ∧ W.cell? ⟨w.heap.size + 1, 3, none⟩ = some (.int .i64 (b.d))) ((first | exact hSK | assumption | (have hq := Fr.keep HE.out (by assumption) hb1; exact hq) | (have hq := Fr.both HE.out hF.drew; exact hq) | (have hq := Fr.both HE.out (((Fr.nil w).fixed (by simp) (.cells #[.int .i64 (a.a), .int .i64 (a.b), .int .i64 (a.c), .int .i64 (a.d)] 48)).fixed (by simp) (.cells #[.int .i64 (b.a), .int .i64 (b.b), .int .i64 (b.c), .int .i64 (b.d)] 48)).drew; exact hq) | (refine Fr.both HE.out ?_; (repeat (first | exact hF | exact And.left (by assumption) | refine Fr.set ?_ (by first | (simp; done) | (simp; omega)) (by first | (simp [List.lookup]; done) | (simp [Nat.add_assoc, List.lookup]; done)) _ | refine Fr.drew ?_ | refine Fr.alloc ?_ _))))) (first | (go_at_call 97; refine (cmpProducts_any _ _ _ _ _ ia.2.1 ib.2.2.2 ib.2.1 ia.2.2.2).mono ?_; rintro e w1 ⟨rfl, hb1⟩))
        obtain ⟨hG, -⟩ : Fr 2 _ _ w _ ∧ _ := by assumption
        go_wp2
        go_ret
        exact ⟨ret_int (by rw [HN.out]), hG.own.below⟩
      | false =>
        have HN := Lib.hid (cmpTo_1 hr h1)
        clear hr
        go_wp2
        go_region_held3 (fun W => Fr 2 [(0, .cells #[.int .i64 (a.a), .int .i64 (a.b), .int .i64 (a.c), .int .i64 (a.d)] 48), (1, .cells #[.int .i64 (b.a), .int .i64 (b.b), .int .i64 (b.c), .int .i64 (b.d)] 48)] [] w W ∧ W.cell? ⟨w.heap.size, 0, none⟩ = some (.int .i64 (a.a)) ∧ W.cell? ⟨w.heap.size, 1, none⟩ = some (.int .i64 (a.b)) ∧ W.cell? ⟨w.heap.size, 2, none⟩ = some (.int .i64 (a.c)) ∧ W.cell? ⟨w.heap.size, 3, none⟩ = some (.int .i64 (a.d)) ∧ W.cell? ⟨w.heap.size + 1, 0, none⟩ = some (.int .i64 (b.a)) ∧ W.cell? ⟨w.heap.size + 1, 1, none⟩ = some (.int .i64 (b.b)) ∧ W.cell? ⟨w.heap.size + 1, 2, none⟩ = some (.int .i64 (b.c)) ∧ W.cell? ⟨w.heap.size + 1, 3, none⟩ = some (.int .i64 (b.d))) ((first | exact hSK | assumption | (have hq := Fr.keep HE.out (by assumption) hb1; exact hq) | (have hq := Fr.both HE.out hF.drew; exact hq) | (have hq := Fr.both HE.out (((Fr.nil w).fixed (by simp) (.cells #[.int .i64 (a.a), .int .i64 (a.b), .int .i64 (a.c), .int .i64 (a.d)] 48)).fixed (by simp) (.cells #[.int .i64 (b.a), .int .i64 (b.b), .int .i64 (b.c), .int .i64 (b.d)] 48)).drew; exact hq) | (refine Fr.both HE.out ?_; (repeat (first | exact hF | exact And.left (by assumption) | refine Fr.set ?_ (by first | (simp; done) | (simp; omega)) (by first | (simp [List.lookup]; done) | (simp [Nat.add_assoc, List.lookup]; done)) _ | refine Fr.drew ?_ | refine Fr.alloc ?_ _))))) (first | (go_at_call 97; refine (cmpProducts_any _ _ _ _ _ ia.2.1 ib.2.2.2 ib.2.1 ia.2.2.2).mono ?_; rintro e w1 ⟨rfl, hb1⟩))
        obtain ⟨hG, -⟩ : Fr 2 _ _ w _ ∧ _ := by assumption
        go_wp2
        go_roundw
        case rel => exact ⟨2, by omega, by go_num, hG, HN.out⟩
        case measure => simp [intOf]
    | 2, _ =>
      cases h2 : (cmpP a.c b.d b.c a.d != 0) with
      | true =>
        have HN := Lib.hid (cmpPt_2 hr h2)
        clear hr
        go_wp2
        go_region_held3 (fun W => Fr 2 [(0, .cells #[.int .i64 (a.a), .int .i64 (a.b), .int .i64 (a.c), .int .i64 (a.d)] 48), (1, .cells #[.int .i64 (b.a), .int .i64 (b.b), .int .i64 (b.c), .int .i64 (b.d)] 48)] [] w W ∧ W.cell? ⟨w.heap.size, 0, none⟩ = some (.int .i64 (a.a)) ∧ W.cell? ⟨w.heap.size, 1, none⟩ = some (.int .i64 (a.b)) ∧ W.cell? ⟨w.heap.size, 2, none⟩ = some (.int .i64 (a.c)) ∧ W.cell? ⟨w.heap.size, 3, none⟩ = some (.int .i64 (a.d)) ∧ W.cell? ⟨w.heap.size + 1, 0, none⟩ = some (.int .i64 (b.a)) ∧ W.cell? ⟨w.heap.size + 1, 1, none⟩ = some (.int .i64 (b.b)) ∧ W.cell? ⟨w.heap.size + 1, 2, none⟩ = some (.int .i64 (b.c)) ∧ W.cell? ⟨w.heap.size + 1, 3, none⟩ = some (.int .i64 (b.d))) ((first | exact hSK | assumption | (have hq := Fr.keep HE.out (by assumption) hb1; exact hq) | (have hq := Fr.both HE.out hF.drew; exact hq) | (have hq := Fr.both HE.out (((Fr.nil w).fixed (by simp) (.cells #[.int .i64 (a.a), .int .i64 (a.b), .int .i64 (a.c), .int .i64 (a.d)] 48)).fixed (by simp) (.cells #[.int .i64 (b.a), .int .i64 (b.b), .int .i64 (b.c), .int .i64 (b.d)] 48)).drew; exact hq) | (refine Fr.both HE.out ?_; (repeat (first | exact hF | exact And.left (by assumption) | refine Fr.set ?_ (by first | (simp; done) | (simp; omega)) (by first | (simp [List.lookup]; done) | (simp [Nat.add_assoc, List.lookup]; done)) _ | refine Fr.drew ?_ | refine Fr.alloc ?_ _))))) (first | (go_at_call 97; refine (cmpProducts_any _ _ _ _ _ ia.2.2.1 ib.2.2.2 ib.2.2.1 ia.2.2.2).mono ?_; rintro e w1 ⟨rfl, hb1⟩))
        obtain ⟨hG, -⟩ : Fr 2 _ _ w _ ∧ _ := by assumption
        go_wp2
        go_ret
        exact ⟨ret_int (by rw [HN.out]), hG.own.below⟩
      | false =>
        have HN := Lib.hid (cmpTo_2 hr h2)
        clear hr
        go_wp2
        go_region_held3 (fun W => Fr 2 [(0, .cells #[.int .i64 (a.a), .int .i64 (a.b), .int .i64 (a.c), .int .i64 (a.d)] 48), (1, .cells #[.int .i64 (b.a), .int .i64 (b.b), .int .i64 (b.c), .int .i64 (b.d)] 48)] [] w W ∧ W.cell? ⟨w.heap.size, 0, none⟩ = some (.int .i64 (a.a)) ∧ W.cell? ⟨w.heap.size, 1, none⟩ = some (.int .i64 (a.b)) ∧ W.cell? ⟨w.heap.size, 2, none⟩ = some (.int .i64 (a.c)) ∧ W.cell? ⟨w.heap.size, 3, none⟩ = some (.int .i64 (a.d)) ∧ W.cell? ⟨w.heap.size + 1, 0, none⟩ = some (.int .i64 (b.a)) ∧ W.cell? ⟨w.heap.size + 1, 1, none⟩ = some (.int .i64 (b.b)) ∧ W.cell? ⟨w.heap.size + 1, 2, none⟩ = some (.int .i64 (b.c)) ∧ W.cell? ⟨w.heap.size + 1, 3, none⟩ = some (.int .i64 (b.d))) ((first | exact hSK | assumption | (have hq := Fr.keep HE.out (by assumption) hb1; exact hq) | (have hq := Fr.both HE.out hF.drew; exact hq) | (have hq := Fr.both HE.out (((Fr.nil w).fixed (by simp) (.cells #[.int .i64 (a.a), .int .i64 (a.b), .int .i64 (a.c), .int .i64 (a.d)] 48)).fixed (by simp) (.cells #[.int .i64 (b.a), .int .i64 (b.b), .int .i64 (b.c), .int .i64 (b.d)] 48)).drew; exact hq) | (refine Fr.both HE.out ?_; (repeat (first | exact hF | exact And.left (by assumption) | refine Fr.set ?_ (by first | (simp; done) | (simp; omega)) (by first | (simp [List.lookup]; done) | (simp [Nat.add_assoc, List.lookup]; done)) _ | refine Fr.drew ?_ | refine Fr.alloc ?_ _))))) (first | (go_at_call 97; refine (cmpProducts_any _ _ _ _ _ ia.2.2.1 ib.2.2.2 ib.2.2.1 ia.2.2.2).mono ?_; rintro e w1 ⟨rfl, hb1⟩))
        obtain ⟨hG, -⟩ : Fr 2 _ _ w _ ∧ _ := by assumption
        go_wp2
        go_roundw
        case rel => exact ⟨3, by omega, by go_num, hG, HN.out⟩
        case measure => simp [intOf]
    | 3, _ =>
      have HN := Lib.hid (cmpPt_3 hr)
      clear hr
      go_wp2
      go_ret
      exact ⟨ret_int (by rw [HN.out]), hF.own.below⟩

end Go.Proofs.YtaoedfegakpjeabGreat

namespace Go.Proofs.YtaoedfegakpjeabGreat
open Go.RowKit

noncomputable def idx3 (x y z : Int) : Int := vl (firstI (fun n => n != 0) [x, y, z])
theorem idx3_eq (x y z : Int) : idx3 x y z = firstI (fun n => n != 0) [x, y, z] := vl_eq _
theorem idx3_any (a b c : Int) (bl o cap : Nat) (w : World) (h0 : w.cell? ⟨bl, o, none⟩ = some (.int .i64 a)) (h1 : w.cell? ⟨bl, o + 1, none⟩ = some (.int .i64 b)) (h2 : w.cell? ⟨bl, o + 2, none⟩ = some (.int .i64 c)) :
    Calls Tryz.prog 95 #[.slice (some ⟨bl, o, none⟩) 3 cap, .func (.func 96) #[] #[]] w fun e w' => e = .returned (.int .i64 (idx3 a b c)) ∧ w = w' := by
  rw [idx3_eq]
  exact indexNonzero3 a b c bl o cap w h0 h1 h2
theorem idx3_0 {x y z : Int} (h : x ≠ 0) : idx3 x y z = 0 := by
  rw [idx3_eq]
  exact firstI_hit (k := 0) (x := x) rfl (by simpa using h) (fun i y h => by omega)
theorem idx3_1 {x y z : Int} (h : x = 0) (h1 : y ≠ 0) : idx3 x y z = 1 := by
  rw [idx3_eq]
  exact firstI_hit (k := 1) (x := y) rfl (by simpa using h1) (fun i v hi hv => by match i, hi, hv with | 0, _, hv => simp at hv; subst hv; simp [h])
theorem idx3_2 {x y z : Int} (h : x = 0) (h1 : y = 0) (h2 : z ≠ 0) : idx3 x y z = 2 := by
  rw [idx3_eq]
  exact firstI_hit (k := 2) (x := z) rfl (by simpa using h2) (fun i v hi hv => by match i, hi, hv with | 0, _, hv => simp at hv; subst hv; simp [h] | 1, _, hv => simp at hv; subst hv; simp [h1])

set_option maxHeartbeats 400000 in
theorem forward_0 (x y z : Int) (w : World) (hf : idx3 x y z = 0) :
    Calls Tryz.prog 76 #[.agg #[.int .i64 x, .int .i64 y, .int .i64 z]] w fun e w' => e = .returned (.bool (decide (0 < x))) ∧ Below w.heap.size w w' := by
  go_enter Tryz.func76, Tryz.ntmps76
  go_wp2_with (go_at_call 95; refine (idx3_any x y z _ _ _ _ (by simp [go_sem]) (by simp [go_sem]) (by simp [go_sem])).mono ?_; rintro e w1 ⟨rfl, rfl⟩)
  go_ret
  refine ⟨rfl, ?_⟩
  repeat (first | exact Below.refl _ _ | refine Below.alloc ?_ (by first | (simp; done) | (simp; omega)) _ | refine Below.setCell ?_ (by first | (simp; done) | (simp; omega)) _ | refine Below.drew ?_)

set_option maxHeartbeats 400000 in
theorem forward_1 (x y z : Int) (w : World) (hf : idx3 x y z = 1) :
    Calls Tryz.prog 76 #[.agg #[.int .i64 x, .int .i64 y, .int .i64 z]] w fun e w' => e = .returned (.bool (decide (0 < y))) ∧ Below w.heap.size w w' := by
  go_enter Tryz.func76, Tryz.ntmps76
  go_wp2_with (go_at_call 95; refine (idx3_any x y z _ _ _ _ (by simp [go_sem]) (by simp [go_sem]) (by simp [go_sem])).mono ?_; rintro e w1 ⟨rfl, rfl⟩)
  go_ret
  refine ⟨rfl, ?_⟩
  repeat (first | exact Below.refl _ _ | refine Below.alloc ?_ (by first | (simp; done) | (simp; omega)) _ | refine Below.setCell ?_ (by first | (simp; done) | (simp; omega)) _ | refine Below.drew ?_)

set_option maxHeartbeats 400000 in
theorem forward_2 (x y z : Int) (w : World) (hf : idx3 x y z = 2) :
    Calls Tryz.prog 76 #[.agg #[.int .i64 x, .int .i64 y, .int .i64 z]] w fun e w' => e = .returned (.bool (decide (0 < z))) ∧ Below w.heap.size w w' := by
  go_enter Tryz.func76, Tryz.ntmps76
  go_wp2_with (go_at_call 95; refine (idx3_any x y z _ _ _ _ (by simp [go_sem]) (by simp [go_sem]) (by simp [go_sem])).mono ?_; rintro e w1 ⟨rfl, rfl⟩)
  go_ret
  refine ⟨rfl, ?_⟩
  repeat (first | exact Below.refl _ _ | refine Below.alloc ?_ (by first | (simp; done) | (simp; omega)) _ | refine Below.setCell ?_ (by first | (simp; done) | (simp; omega)) _ | refine Below.drew ?_)

/-- A direction leads on in the order of points. -/
noncomputable def fwdB (x y z : Int) : Bool := vlB (if x ≠ 0 then decide (0 < x) else if y ≠ 0 then decide (0 < y) else decide (0 < z))
theorem fwdB_eq (x y z : Int) : fwdB x y z = (if x ≠ 0 then decide (0 < x) else if y ≠ 0 then decide (0 < y) else decide (0 < z)) := vlB_eq _
theorem forward_any (x y z : Int) (w : World) (hn : ¬ (x = 0 ∧ y = 0 ∧ z = 0)) :
    Calls Tryz.prog 76 #[.agg #[.int .i64 x, .int .i64 y, .int .i64 z]] w fun e w' => e = .returned (.bool (fwdB x y z)) ∧ Below w.heap.size w w' := by
  rw [fwdB_eq]
  by_cases h : x = 0
  · rw [if_neg (by simpa using h)]
    by_cases h1 : y = 0
    · rw [if_neg (by simpa using h1)]
      exact forward_2 x y z w (idx3_2 h h1 (fun h2 => hn ⟨h, h1, h2⟩))
    · rw [if_pos h1]
      exact forward_1 x y z w (idx3_1 h h1)
  · rw [if_pos h]
    exact forward_0 x y z w (idx3_0 h)

end Go.Proofs.YtaoedfegakpjeabGreat

namespace Go.Proofs.YtaoedfegakpjeabGreat
open Go.RowKit

theorem Tryz.u89 : (Tryz.prog.fieldsOf 84).toList.map (fun f => (f.name, f.type, f.offset)) = [("a", 48, 0), ("b", 48, 4)] := by kernel_rfl
theorem Tryz.s89 : Tryz.prog.underlying 84 = some (.struct (Tryz.prog.fieldsOf 84)) := by kernel_rfl
theorem Tryz.h89 : Tryz.prog.stoodInHeld 84 = false := by kernel_rfl
theorem Tryz.i60 : (Tryz.prog.info? 48).map (fun i => i.size) = some 4 := by kernel_rfl

theorem run_part4_0 (a b c d e f g h : Int) (w : World) : (part 48 #[.int .i64 a, .int .i64 b, .int .i64 c, .int .i64 d, .int .i64 e, .int .i64 f, .int .i64 g, .int .i64 h] 0).run Tryz.prog w = .ok (.agg #[.int .i64 a, .int .i64 b, .int .i64 c, .int .i64 d]) w := by
  simp [part, go_sem]
theorem run_part4_4 (a b c d e f g h : Int) (w : World) : (part 48 #[.int .i64 a, .int .i64 b, .int .i64 c, .int .i64 d, .int .i64 e, .int .i64 f, .int .i64 g, .int .i64 h] 4).run Tryz.prog w = .ok (.agg #[.int .i64 e, .int .i64 f, .int .i64 g, .int .i64 h]) w := by
  simp [part, go_sem]

theorem run_equalIn_e (D : Nat) (a b c d e f g h a' b' c' d' e' f' g' h' : Int) (w : World) : (Op.equalIn (D + 3) 84 (.agg #[.int .i64 a, .int .i64 b, .int .i64 c, .int .i64 d, .int .i64 e, .int .i64 f, .int .i64 g, .int .i64 h]) (.agg #[.int .i64 a', .int .i64 b', .int .i64 c', .int .i64 d', .int .i64 e', .int .i64 f', .int .i64 g', .int .i64 h'])).run Tryz.prog w = .ok (eq4B a b c d a' b' c' d' && eq4B e f g h e' f' g' h') w := by
  have hm := Tryz.u89
  rw [run_equalIn_struct w (D + 2) 84 _ _ Tryz.s89 Tryz.h89]
  generalize (Tryz.prog.fieldsOf 84).toList = fs at hm
  obtain ⟨x, fs1, rfl, hx, hm⟩ := List.map_eq_cons_iff.1 hm
  obtain ⟨y, fs2, rfl, hy, hm⟩ := List.map_eq_cons_iff.1 hm
  obtain rfl : fs2 = [] := List.map_eq_nil_iff.1 hm
  simp only [Prod.mk.injEq] at hx hy
  obtain ⟨n1, t1, o1⟩ := hx
  obtain ⟨n2, t2, o2⟩ := hy
  simp only [Op.eqFields, n1, t1, o1, n2, t2, o2]
  simp [run_part4_0, run_part4_4, run_equalIn_a4 D _ _ _ _ _ _ _ _ _ Tryz.u60]
  cases h1 : eq4B a b c d a' b' c' d' <;> simp
  cases h1 : eq4B e f g h e' f' g' h' <;> simp

@[go_sem ↓] theorem eql89 (a b c d e f g h a' b' c' d' e' f' g' h' : Int) (w : World) : (binOp .eql 84 (.agg #[.int .i64 a, .int .i64 b, .int .i64 c, .int .i64 d, .int .i64 e, .int .i64 f, .int .i64 g, .int .i64 h]) (.agg #[.int .i64 a', .int .i64 b', .int .i64 c', .int .i64 d', .int .i64 e', .int .i64 f', .int .i64 g', .int .i64 h'])).run Tryz.prog w = .ok (.bool (eq4B a b c d a' b' c' d' && eq4B e f g h e' f' g' h')) w := by
  simp [binOp, Op.equal, Op.maxDepth, run_equalIn_e 9997 a b c d e f g h a' b' c' d' e' f' g' h' w]

end Go.Proofs.YtaoedfegakpjeabGreat

namespace Go.Proofs.YtaoedfegakpjeabGreat
open Go.RowKit

noncomputable def Q4.eq (a b : Q4) : Bool := vlB (eq4B a.a a.b a.c a.d b.a b.b b.c b.d)
theorem Q4.eq_eq (a b : Q4) : a.eq b = eq4B a.a a.b a.c a.d b.a b.b b.c b.d := vlB_eq _
/-- The order of two points in a direction. -/
noncomputable def alongI (dx dy dz : Int) (a b : Q4) : Int := vl (if eq4B b.a b.b b.c b.d a.a a.b a.c a.d = true then 0 else if fwdB dx dy dz = true then cmpPt a b else cmpPt b a)
theorem alongI_eq (dx dy dz : Int) (a b : Q4) : alongI dx dy dz a b = (if eq4B b.a b.b b.c b.d a.a a.b a.c a.d = true then 0 else if fwdB dx dy dz = true then cmpPt a b else cmpPt b a) := vl_eq _
theorem eq4B_refl (a b c d : Int) : eq4B a b c d a b c d = true := by simp [eq4B]

set_option maxHeartbeats 400000 in
theorem along_same (a b : Q4) (dx dy dz : Int) (w : World) (h1 : eq4B b.a b.b b.c b.d a.a a.b a.c a.d = true) :
    Calls Tryz.prog 47 #[.agg #[.int .i64 (a.a), .int .i64 (a.b), .int .i64 (a.c), .int .i64 (a.d), .int .i64 (b.a), .int .i64 (b.b), .int .i64 (b.c), .int .i64 (b.d)], .agg #[.int .i64 dx, .int .i64 dy, .int .i64 dz]] w fun e w' => e = .returned (.int .i64 (alongI dx dy dz a b)) ∧ Below w.heap.size w w' := by
  have HV : Hid (alongI dx dy dz a b = 0) := by unfold Hid; rw [alongI_eq, if_pos h1]
  have h0 := eq4B_refl a.a a.b a.c a.d
  go_enter Tryz.func47, Tryz.ntmps47
  go_wp2
  go_ret
  refine ⟨ret_int (by rw [HV.out]), ?_⟩
  repeat (first | exact Below.refl _ _ | refine Below.alloc ?_ (by first | (simp; done) | (simp; omega)) _ | refine Below.setCell ?_ (by first | (simp; done) | (simp; omega)) _ | refine Below.drew ?_)

set_option maxHeartbeats 400000 in
theorem along_fwd (a b : Q4) (dx dy dz : Int) (w : World) (ia : a.I64) (ib : b.I64) (hn : ¬ (dx = 0 ∧ dy = 0 ∧ dz = 0)) (h1 : eq4B b.a b.b b.c b.d a.a a.b a.c a.d = false) (h2 : fwdB dx dy dz = true) :
    Calls Tryz.prog 47 #[.agg #[.int .i64 (a.a), .int .i64 (a.b), .int .i64 (a.c), .int .i64 (a.d), .int .i64 (b.a), .int .i64 (b.b), .int .i64 (b.c), .int .i64 (b.d)], .agg #[.int .i64 dx, .int .i64 dy, .int .i64 dz]] w fun e w' => e = .returned (.int .i64 (alongI dx dy dz a b)) ∧ Below w.heap.size w w' := by
  have HV : Hid (alongI dx dy dz a b = cmpPt a b) := by unfold Hid; rw [alongI_eq, h1, if_neg (by simp), if_pos h2]
  have h0 := eq4B_refl a.a a.b a.c a.d
  have HN := Lib.hid hn
  clear hn
  go_enter Tryz.func47, Tryz.ntmps47
  have hE : ∀ W, Fr 2 [(0, .cells #[.int .i64 (a.a), .int .i64 (a.b), .int .i64 (a.c), .int .i64 (a.d), .int .i64 (b.a), .int .i64 (b.b), .int .i64 (b.c), .int .i64 (b.d)] 84), (1, .cells #[.int .i64 dx, .int .i64 dy, .int .i64 dz] 66)] [] w W → (W.cell? ⟨w.heap.size, 0, none⟩ = some (.int .i64 (a.a)) ∧ W.cell? ⟨w.heap.size, 1, none⟩ = some (.int .i64 (a.b)) ∧ W.cell? ⟨w.heap.size, 2, none⟩ = some (.int .i64 (a.c)) ∧ W.cell? ⟨w.heap.size, 3, none⟩ = some (.int .i64 (a.d)) ∧ W.cell? ⟨w.heap.size, 4, none⟩ = some (.int .i64 (b.a)) ∧ W.cell? ⟨w.heap.size, 5, none⟩ = some (.int .i64 (b.b)) ∧ W.cell? ⟨w.heap.size, 6, none⟩ = some (.int .i64 (b.c)) ∧ W.cell? ⟨w.heap.size, 7, none⟩ = some (.int .i64 (b.d)) ∧ W.cell? ⟨w.heap.size + 1, 0, none⟩ = some (.int .i64 dx) ∧ W.cell? ⟨w.heap.size + 1, 1, none⟩ = some (.int .i64 dy) ∧ W.cell? ⟨w.heap.size + 1, 2, none⟩ = some (.int .i64 dz)) := fun W h => by (repeat' apply And.intro) <;> first | exact h.at0 rfl | exact h.at rfl | exact (h.rms0 rfl).cell | exact (h.rms rfl).cell | exact (h.rms0 rfl).frozen | exact (h.rms rfl).frozen
  have HE := Lib.hid hE
  clear hE
  go_wp2_with (first | (go_at_call 76; refine (forward_any _ _ _ _ HN.out).mono ?_; rintro e w1 ⟨rfl, hb1⟩; (try clear hq); (try clear hz); have hF : Fr 2 [(0, .cells #[.int .i64 (a.a), .int .i64 (a.b), .int .i64 (a.c), .int .i64 (a.d), .int .i64 (b.a), .int .i64 (b.b), .int .i64 (b.c), .int .i64 (b.d)] 84), (1, .cells #[.int .i64 dx, .int .i64 dy, .int .i64 dz] 66)] [] w w1 := Fr.call (by (repeat (first | exact hF | exact (((Fr.nil w).fixed (by simp) (.cells #[.int .i64 (a.a), .int .i64 (a.b), .int .i64 (a.c), .int .i64 (a.d), .int .i64 (b.a), .int .i64 (b.b), .int .i64 (b.c), .int .i64 (b.d)] 84)).fixed (by simp) (.cells #[.int .i64 dx, .int .i64 dy, .int .i64 dz] 66)) | exact And.left (by assumption) | refine Fr.set ?_ (by first | (simp; done) | (simp; omega)) (by first | (simp [List.lookup]; done) | (simp [Nat.add_assoc, List.lookup]; done)) _ | refine Fr.drew ?_ | refine Fr.alloc ?_ _))) hb1; have hq := HE.out _ hF; have hz : w.heap.size < w1.heap.size ∧ w.heap.size + 1 < w1.heap.size := by have hs := Own.size (Fr.own hF); omega) | (go_at_call 77; refine (cmpPoint_any a b _ ia ib).mono ?_; rintro e w1 ⟨rfl, hb1⟩; (try clear hq); (try clear hz); have hF : Fr 2 [(0, .cells #[.int .i64 (a.a), .int .i64 (a.b), .int .i64 (a.c), .int .i64 (a.d), .int .i64 (b.a), .int .i64 (b.b), .int .i64 (b.c), .int .i64 (b.d)] 84), (1, .cells #[.int .i64 dx, .int .i64 dy, .int .i64 dz] 66)] [] w w1 := Fr.call (by (repeat (first | exact hF | exact (((Fr.nil w).fixed (by simp) (.cells #[.int .i64 (a.a), .int .i64 (a.b), .int .i64 (a.c), .int .i64 (a.d), .int .i64 (b.a), .int .i64 (b.b), .int .i64 (b.c), .int .i64 (b.d)] 84)).fixed (by simp) (.cells #[.int .i64 dx, .int .i64 dy, .int .i64 dz] 66)) | exact And.left (by assumption) | refine Fr.set ?_ (by first | (simp; done) | (simp; omega)) (by first | (simp [List.lookup]; done) | (simp [Nat.add_assoc, List.lookup]; done)) _ | refine Fr.drew ?_ | refine Fr.alloc ?_ _))) hb1; have hq := HE.out _ hF; have hz : w.heap.size < w1.heap.size ∧ w.heap.size + 1 < w1.heap.size := by have hs := Own.size (Fr.own hF); omega))
  go_ret
  refine ⟨ret_int (by rw [HV.out]), ?_⟩
  refine Own.below (Fr.own (k := 2) (fx := [(0, .cells #[.int .i64 (a.a), .int .i64 (a.b), .int .i64 (a.c), .int .i64 (a.d), .int .i64 (b.a), .int .i64 (b.b), .int .i64 (b.c), .int .i64 (b.d)] 84), (1, .cells #[.int .i64 dx, .int .i64 dy, .int .i64 dz] 66)]) (rm := []) ?_); (repeat (first | exact hF | exact And.left (by assumption) | refine Fr.set ?_ (by first | (simp; done) | (simp; omega)) (by first | (simp [List.lookup]; done) | (simp [Nat.add_assoc, List.lookup]; done)) _ | refine Fr.drew ?_ | refine Fr.alloc ?_ _))

set_option maxHeartbeats 400000 in
theorem along_back (a b : Q4) (dx dy dz : Int) (w : World) (ia : a.I64) (ib : b.I64) (hn : ¬ (dx = 0 ∧ dy = 0 ∧ dz = 0)) (h1 : eq4B b.a b.b b.c b.d a.a a.b a.c a.d = false) (h2 : fwdB dx dy dz = false) :
    Calls Tryz.prog 47 #[.agg #[.int .i64 (a.a), .int .i64 (a.b), .int .i64 (a.c), .int .i64 (a.d), .int .i64 (b.a), .int .i64 (b.b), .int .i64 (b.c), .int .i64 (b.d)], .agg #[.int .i64 dx, .int .i64 dy, .int .i64 dz]] w fun e w' => e = .returned (.int .i64 (alongI dx dy dz a b)) ∧ Below w.heap.size w w' := by
  have HV : Hid (alongI dx dy dz a b = cmpPt b a) := by unfold Hid; rw [alongI_eq, h1, h2, if_neg (by simp), if_neg (by simp)]
  have h0 := eq4B_refl a.a a.b a.c a.d
  have HN := Lib.hid hn
  clear hn
  go_enter Tryz.func47, Tryz.ntmps47
  have hE : ∀ W, Fr 2 [(0, .cells #[.int .i64 (a.a), .int .i64 (a.b), .int .i64 (a.c), .int .i64 (a.d), .int .i64 (b.a), .int .i64 (b.b), .int .i64 (b.c), .int .i64 (b.d)] 84), (1, .cells #[.int .i64 dx, .int .i64 dy, .int .i64 dz] 66)] [] w W → (W.cell? ⟨w.heap.size, 0, none⟩ = some (.int .i64 (a.a)) ∧ W.cell? ⟨w.heap.size, 1, none⟩ = some (.int .i64 (a.b)) ∧ W.cell? ⟨w.heap.size, 2, none⟩ = some (.int .i64 (a.c)) ∧ W.cell? ⟨w.heap.size, 3, none⟩ = some (.int .i64 (a.d)) ∧ W.cell? ⟨w.heap.size, 4, none⟩ = some (.int .i64 (b.a)) ∧ W.cell? ⟨w.heap.size, 5, none⟩ = some (.int .i64 (b.b)) ∧ W.cell? ⟨w.heap.size, 6, none⟩ = some (.int .i64 (b.c)) ∧ W.cell? ⟨w.heap.size, 7, none⟩ = some (.int .i64 (b.d)) ∧ W.cell? ⟨w.heap.size + 1, 0, none⟩ = some (.int .i64 dx) ∧ W.cell? ⟨w.heap.size + 1, 1, none⟩ = some (.int .i64 dy) ∧ W.cell? ⟨w.heap.size + 1, 2, none⟩ = some (.int .i64 dz)) := fun W h => by (repeat' apply And.intro) <;> first | exact h.at0 rfl | exact h.at rfl | exact (h.rms0 rfl).cell | exact (h.rms rfl).cell | exact (h.rms0 rfl).frozen | exact (h.rms rfl).frozen
  have HE := Lib.hid hE
  clear hE
  go_wp2_with (first | (go_at_call 76; refine (forward_any _ _ _ _ HN.out).mono ?_; rintro e w1 ⟨rfl, hb1⟩; (try clear hq); (try clear hz); have hF : Fr 2 [(0, .cells #[.int .i64 (a.a), .int .i64 (a.b), .int .i64 (a.c), .int .i64 (a.d), .int .i64 (b.a), .int .i64 (b.b), .int .i64 (b.c), .int .i64 (b.d)] 84), (1, .cells #[.int .i64 dx, .int .i64 dy, .int .i64 dz] 66)] [] w w1 := Fr.call (by (repeat (first | exact hF | exact (((Fr.nil w).fixed (by simp) (.cells #[.int .i64 (a.a), .int .i64 (a.b), .int .i64 (a.c), .int .i64 (a.d), .int .i64 (b.a), .int .i64 (b.b), .int .i64 (b.c), .int .i64 (b.d)] 84)).fixed (by simp) (.cells #[.int .i64 dx, .int .i64 dy, .int .i64 dz] 66)) | exact And.left (by assumption) | refine Fr.set ?_ (by first | (simp; done) | (simp; omega)) (by first | (simp [List.lookup]; done) | (simp [Nat.add_assoc, List.lookup]; done)) _ | refine Fr.drew ?_ | refine Fr.alloc ?_ _))) hb1; have hq := HE.out _ hF; have hz : w.heap.size < w1.heap.size ∧ w.heap.size + 1 < w1.heap.size := by have hs := Own.size (Fr.own hF); omega) | (go_at_call 77; refine (cmpPoint_any b a _ ib ia).mono ?_; rintro e w1 ⟨rfl, hb1⟩; (try clear hq); (try clear hz); have hF : Fr 2 [(0, .cells #[.int .i64 (a.a), .int .i64 (a.b), .int .i64 (a.c), .int .i64 (a.d), .int .i64 (b.a), .int .i64 (b.b), .int .i64 (b.c), .int .i64 (b.d)] 84), (1, .cells #[.int .i64 dx, .int .i64 dy, .int .i64 dz] 66)] [] w w1 := Fr.call (by (repeat (first | exact hF | exact (((Fr.nil w).fixed (by simp) (.cells #[.int .i64 (a.a), .int .i64 (a.b), .int .i64 (a.c), .int .i64 (a.d), .int .i64 (b.a), .int .i64 (b.b), .int .i64 (b.c), .int .i64 (b.d)] 84)).fixed (by simp) (.cells #[.int .i64 dx, .int .i64 dy, .int .i64 dz] 66)) | exact And.left (by assumption) | refine Fr.set ?_ (by first | (simp; done) | (simp; omega)) (by first | (simp [List.lookup]; done) | (simp [Nat.add_assoc, List.lookup]; done)) _ | refine Fr.drew ?_ | refine Fr.alloc ?_ _))) hb1; have hq := HE.out _ hF; have hz : w.heap.size < w1.heap.size ∧ w.heap.size + 1 < w1.heap.size := by have hs := Own.size (Fr.own hF); omega))
  go_ret
  refine ⟨ret_int (by rw [HV.out]), ?_⟩
  refine Own.below (Fr.own (k := 2) (fx := [(0, .cells #[.int .i64 (a.a), .int .i64 (a.b), .int .i64 (a.c), .int .i64 (a.d), .int .i64 (b.a), .int .i64 (b.b), .int .i64 (b.c), .int .i64 (b.d)] 84), (1, .cells #[.int .i64 dx, .int .i64 dy, .int .i64 dz] 66)]) (rm := []) ?_); (repeat (first | exact hF | exact And.left (by assumption) | refine Fr.set ?_ (by first | (simp; done) | (simp; omega)) (by first | (simp [List.lookup]; done) | (simp [Nat.add_assoc, List.lookup]; done)) _ | refine Fr.drew ?_ | refine Fr.alloc ?_ _))

theorem along_any (a b : Q4) (dx dy dz : Int) (w : World) (ia : a.I64) (ib : b.I64) (hn : ¬ (dx = 0 ∧ dy = 0 ∧ dz = 0)) :
    Calls Tryz.prog 47 #[.agg #[.int .i64 (a.a), .int .i64 (a.b), .int .i64 (a.c), .int .i64 (a.d), .int .i64 (b.a), .int .i64 (b.b), .int .i64 (b.c), .int .i64 (b.d)], .agg #[.int .i64 dx, .int .i64 dy, .int .i64 dz]] w fun e w' => e = .returned (.int .i64 (alongI dx dy dz a b)) ∧ Below w.heap.size w w' := by
  cases h1 : eq4B b.a b.b b.c b.d a.a a.b a.c a.d with
  | true => exact along_same a b dx dy dz w h1
  | false =>
    cases h2 : fwdB dx dy dz with
    | true => exact along_fwd a b dx dy dz w ia ib hn h1 h2
    | false => exact along_back a b dx dy dz w ia ib hn h1 h2

set_option maxHeartbeats 400000 in
theorem points1_any (a b : Q4) (dx dy dz : Int) (db : Nat) (w : World) (ia : a.I64) (ib : b.I64) (hn : ¬ (dx = 0 ∧ dy = 0 ∧ dz = 0)) (hB : db < w.heap.size) (d0 : w.cell? ⟨db, 0, none⟩ = some (.int .i64 dx)) (d1 : w.cell? ⟨db, 1, none⟩ = some (.int .i64 dy)) (d2 : w.cell? ⟨db, 2, none⟩ = some (.int .i64 dz)) :
    Calls Tryz.prog 57 #[.agg #[.int .i64 (a.a), .int .i64 (a.b), .int .i64 (a.c), .int .i64 (a.d)], .agg #[.int .i64 (b.a), .int .i64 (b.b), .int .i64 (b.c), .int .i64 (b.d)], .pointer (some ⟨db, 0, none⟩)] w fun e w' => e = .returned (.int .i64 (alongI dx dy dz a b)) ∧ Below w.heap.size w w' := by
  have HN := Lib.hid hn
  clear hn
  go_enter Tryz.func57, Tryz.ntmps57
  go_wp2_with (go_at_call 47; refine (along_any a b dx dy dz _ ia ib HN.out).mono ?_; rintro e w1 ⟨rfl, hb1⟩)
  go_ret
  refine ⟨rfl, ?_⟩
  (repeat (first | exact Below.refl _ _ | refine Below.alloc ?_ (by first | (simp; done) | (simp; omega)) _ | refine Below.setCell ?_ (by first | (simp; done) | (simp; omega)) _ | refine Below.drew ?_)); (try (refine Below.trans ?_ (hb1.mono (by first | (simp; done) | (simp; omega))); repeat (first | exact Below.refl _ _ | refine Below.alloc ?_ (by first | (simp; done) | (simp; omega)) _ | refine Below.setCell ?_ (by first | (simp; done) | (simp; omega)) _ | refine Below.drew ?_)))

end Go.Proofs.YtaoedfegakpjeabGreat
