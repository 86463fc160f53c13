/- Contracts of the functions that the statement reaches, and plain lemmas: part 1 of 25. -/
import Derived.Test.YtaoedfegakpjeabGreatRows
import Derived.WalkKit
import Derived.WalkSpells
import Derived.WalkLawsBesides
import Derived.Lib.Hide
import Derived.IntWalk
import Derived.Deep.RegionHeld3
import Derived.Deep.DrawnRows
import Derived.BigQuiet
import Derived.ChangeKeysEq

namespace Go.Proofs.YtaoedfegakpjeabGreat
open Go.RowKit

/-- What holds behind a call that has only made blocks: every old cell and every old mark reads as before. -/
theorem bcell {W w1 : World} (hb : Below W.heap.size W w1) : (∀ b o, b < W.heap.size → w1.cell? ⟨b, o, none⟩ = W.cell? ⟨b, o, none⟩) ∧ (∀ b o, b < W.heap.size → w1.frozen? ⟨b, o, none⟩ = W.frozen? ⟨b, o, none⟩) :=
  ⟨fun b o h => hb.cell (p := ⟨b, o, none⟩) h, fun b o h => hb.frozen (p := ⟨b, o, none⟩) h⟩

/-- A number that the kernel does not look into: a walk's value stays a name. -/
noncomputable def vl (x : Int) : Int := Classical.choose (⟨x, rfl⟩ : ∃ y, y = x)
theorem vl_eq (x : Int) : vl x = x := Classical.choose_spec (⟨x, rfl⟩ : ∃ y, y = x)
noncomputable def vlB (x : Bool) : Bool := Classical.choose (⟨x, rfl⟩ : ∃ y, y = x)
theorem vlB_eq (x : Bool) : vlB x = x := Classical.choose_spec (⟨x, rfl⟩ : ∃ y, y = x)

end Go.Proofs.YtaoedfegakpjeabGreat

namespace Go.Proofs.YtaoedfegakpjeabGreat
open Go.RowKit

/-- The three elements of a vector product and the scalar product, as int64 has them. -/
noncomputable def crs (b z c y : Int) : Int := vl (wrap64 (wrap64 (b * z) - wrap64 (c * y)))
noncomputable def dot (a b c x y z : Int) : Int := vl (wrap64 (wrap64 (wrap64 (a * x) + wrap64 (b * y)) + wrap64 (c * z)))
theorem crs_eq (b z c y : Int) : crs b z c y = wrap64 (wrap64 (b * z) - wrap64 (c * y)) := vl_eq _
theorem dot_eq (a b c x y z : Int) : dot a b c x y z = wrap64 (wrap64 (wrap64 (a * x) + wrap64 (b * y)) + wrap64 (c * z)) := vl_eq _

set_option maxHeartbeats 400000 in
theorem normal_any (a b c d : Int) (w : World) :
    Calls Tryz.prog 35 #[.agg #[.int .i64 a, .int .i64 b, .int .i64 c, .int .i64 d]] w fun e w' => e = .returned (.agg #[.int .i64 a, .int .i64 b, .int .i64 c]) ∧ Below w.heap.size w w' := by
  go_enter Tryz.func35, Tryz.ntmps35
  go_wp2
  refine bodyPost_ret (v := (.agg #[.int .i64 a, .int .i64 b, .int .i64 c])) (by simp [results, Tryz.results35, go_sem]) rfl ⟨rfl, ?_⟩
  repeat (first | exact Below.refl _ _ | refine Below.alloc ?_ (by first | (simp; done) | (simp; omega)) _ | refine Below.setCell ?_ (by first | (simp; done) | (simp; omega)) _ | refine Below.drew ?_)

set_option maxHeartbeats 400000 in
theorem cross_any (a b c x y z : Int) (w : World) :
    Calls Tryz.prog 36 #[.agg #[.int .i64 a, .int .i64 b, .int .i64 c], .agg #[.int .i64 x, .int .i64 y, .int .i64 z]] w fun e w' => e = .returned (.agg #[.int .i64 (crs b z c y), .int .i64 (crs c x a z), .int .i64 (crs a y b x)]) ∧ Below w.heap.size w w' := by
  go_enter Tryz.func36, Tryz.ntmps36
  go_wp2
  refine bodyPost_ret (v := (.agg #[.int .i64 (crs b z c y), .int .i64 (crs c x a z), .int .i64 (crs a y b x)])) (by simp [results, Tryz.results36, go_sem, crs_eq]) rfl ⟨rfl, ?_⟩
  repeat (first | exact Below.refl _ _ | refine Below.alloc ?_ (by first | (simp; done) | (simp; omega)) _ | refine Below.setCell ?_ (by first | (simp; done) | (simp; omega)) _ | refine Below.drew ?_)

set_option maxHeartbeats 400000 in
theorem dot_any (a b c x y z : Int) (w : World) :
    Calls Tryz.prog 72 #[.agg #[.int .i64 a, .int .i64 b, .int .i64 c], .agg #[.int .i64 x, .int .i64 y, .int .i64 z]] w fun e w' => e = .returned (.int .i64 (dot a b c x y z)) ∧ Below w.heap.size w w' := by
  go_enter Tryz.func72, Tryz.ntmps72
  go_wp2
  go_ret
  refine ⟨by rw [dot_eq]; rfl, ?_⟩
  repeat (first | exact Below.refl _ _ | refine Below.alloc ?_ (by first | (simp; done) | (simp; omega)) _ | refine Below.setCell ?_ (by first | (simp; done) | (simp; omega)) _ | refine Below.drew ?_)

end Go.Proofs.YtaoedfegakpjeabGreat

namespace Go.Proofs.YtaoedfegakpjeabGreat
open Go.RowKit

/-- cmp.Compare of two numbers; a number's sign; whether it lies from -m to m. -/
def cmp3 (a b : Int) : Int := if a < b then -1 else if b < a then 1 else 0
def sgn (a : Int) : Int := cmp3 a 0
def withinB (n m : Int) : Bool := decide (-m ≤ n ∧ n ≤ m)
/-- The absolute value, as the code has it: of the least int64 the greatest. -/
def sizeI (n : Int) : Int := if n = wrap64 (-n) ∧ n < 0 then 9223372036854775807 else if n < wrap64 (-n) then wrap64 (-n) else n

theorem ret_int {k : IntKind} {a b : Int} (h : a = b) : Ending.returned (.int k a) = .returned (.int k b) := by rw [h]
theorem ret_bool {a b : Bool} (h : a = b) : Ending.returned (.bool a) = .returned (.bool b) := by rw [h]

set_option maxHeartbeats 400000 in
theorem isNaN_any (a : Int) (w : World) :
    Calls Tryz.prog 111 #[.int .i64 a] w fun e w' => e = .returned (.bool false) ∧ w = w' := by
  go_enter Tryz.func111, Tryz.ntmps111
  go_wp2
  go_ret
  exact ⟨ret_bool (by simp), rfl⟩

set_option maxHeartbeats 400000 in
theorem compare_any (a b : Int) (w : World) :
    Calls Tryz.prog 89 #[.int .i64 a, .int .i64 b] w fun e w' => e = .returned (.int .i64 (cmp3 a b)) ∧ w = w' := by
  go_enter Tryz.func89, Tryz.ntmps89
  go_wp2_with (go_at_call 111; refine (isNaN_any _ _).mono ?_; rintro e w1 ⟨rfl, rfl⟩)
  all_goals (go_ret; exact ⟨ret_int (by unfold cmp3; (repeat' split) <;> omega), rfl⟩)

set_option maxHeartbeats 400000 in
theorem within_any (a b : Int) (w : World) (hb : 0 ≤ b) (hb2 : b ≤ 1000000000000000) :
    Calls Tryz.prog 66 #[.int .i64 a, .int .i64 b] w fun e w' => e = .returned (.bool (withinB a b)) ∧ w = w' := by
  go_enter Tryz.func66, Tryz.ntmps66
  go_wp2
  all_goals (go_ret; exact ⟨ret_bool (by unfold withinB; first | (simp; omega) | (symm; simp; omega)), rfl⟩)

set_option maxHeartbeats 400000 in
theorem sign_any (a : Int) (w : World) :
    Calls Tryz.prog 63 #[.int .i64 a] w fun e w' => e = .returned (.int .i64 (sgn a)) ∧ w = w' := by
  go_enter Tryz.func63, Tryz.ntmps63
  go_wp2_with (go_at_call 89; refine (compare_any _ _ _).mono ?_; rintro e w1 ⟨rfl, rfl⟩)
  go_ret
  exact ⟨rfl, rfl⟩

set_option maxHeartbeats 400000 in
theorem size_ne (a : Int) (w : World) (h : (a == wrap64 (-a)) = false) :
    Calls Tryz.prog 44 #[.int .i64 a] w fun e w' => e = .returned (.int .i64 (sizeI a)) ∧ w = w' := by
  have hn : ¬ (a = wrap64 (-a)) := by simpa using h
  have HS : Hid (sizeI a = if a < wrap64 (-a) then wrap64 (-a) else a) := by
    unfold Hid sizeI
    rw [if_neg (fun c => hn c.1)]
  clear hn
  go_enter Tryz.func44, Tryz.ntmps44
  go_wp2
  all_goals (go_ret; refine ⟨ret_int ?_, rfl⟩; rw [HS.out]; show _ = ite _ _ _)
  all_goals (first | (rw [if_pos (by assumption)]) | (rw [if_neg (by omega)]))

theorem wrap_min : wrap64 9223372036854775808 = -9223372036854775808 := by unfold wrap64; omega

set_option maxHeartbeats 400000 in
theorem size_min (w : World) :
    Calls Tryz.prog 44 #[.int .i64 (-9223372036854775808)] w fun e w' => e = .returned (.int .i64 (sizeI (-9223372036854775808))) ∧ w = w' := by
  have hw := wrap_min
  go_enter Tryz.func44, Tryz.ntmps44
  go_wp2
  go_ret
  refine ⟨ret_int ?_, rfl⟩
  unfold sizeI
  exact (if_pos ⟨by unfold wrap64; omega, by omega⟩).symm

theorem size_any (a : Int) (w : World) :
    Calls Tryz.prog 44 #[.int .i64 a] w fun e w' => e = .returned (.int .i64 (sizeI a)) ∧ w = w' := by
  by_cases h : a = wrap64 (-a)
  · have h2 : a = 0 ∨ a = -9223372036854775808 := by unfold wrap64 at h; omega
    clear h
    rcases h2 with rfl | rfl
    · go_enter Tryz.func44, Tryz.ntmps44
      go_wp2
      go_ret
      refine ⟨ret_int ?_, rfl⟩
      unfold sizeI
      rw [if_neg (by omega), if_neg (by unfold wrap64; omega)]
    · exact size_min w
  · exact size_ne a w (by simpa using h)

end Go.Proofs.YtaoedfegakpjeabGreat

namespace Go.Proofs.YtaoedfegakpjeabGreat
open Go.RowKit

def eq3B (a b c x y z : Int) : Bool := a == x && (b == y && c == z)
def eq4B (a b c d x y z t : Int) : Bool := a == x && (b == y && (c == z && d == t))

theorem Tryz.u24 : Tryz.prog.underlying 24 = some (.array 3 2) := by kernel_rfl
theorem Tryz.u44 : Tryz.prog.underlying 66 = some (.array 3 2) := by kernel_rfl
theorem Tryz.u22 : Tryz.prog.underlying 22 = some (.array 4 2) := by kernel_rfl
theorem Tryz.u23 : Tryz.prog.underlying 23 = some (.array 4 2) := by kernel_rfl
theorem Tryz.u60 : Tryz.prog.underlying 48 = some (.array 4 2) := by kernel_rfl
theorem Tryz.u2 : Tryz.prog.underlying 2 = some (.int .i64) := by kernel_rfl
theorem Tryz.info2 : (Tryz.prog.info? 2).map (fun i => (i.zero, i.size, i.bytes)) = some (some (.int .i64 0), 1, 8) := by kernel_rfl
theorem Tryz.cells2 : Tryz.prog.cellsOf 2 = 1 := by kernel_rfl

theorem run_equalIn_a3 (D : Nat) {t : TypeId} (a b c x y z : Int) (w : World) (ht : Tryz.prog.underlying t = some (.array 3 2)) :
    (Op.equalIn (D + 2) t (.agg #[.int .i64 a, .int .i64 b, .int .i64 c]) (.agg #[.int .i64 x, .int .i64 y, .int .i64 z])).run Tryz.prog w = .ok (eq3B a b c x y z) w := by
  obtain ⟨i, hi, hz, h1, h8⟩ := info_parts Tryz.info2
  rw [run_equalIn_array w (D + 1) _ _ ht hi, Tryz.cells2]
  have hu := Tryz.u2
  simp [List.range_succ, Op.eqItems, eq3B, part, go_sem, hu]
  by_cases h1 : a = x <;> by_cases h2 : b = y <;> by_cases h3 : c = z <;> simp [h1, h2, h3]

theorem run_equalIn_a4 (D : Nat) {t : TypeId} (a b c d x y z u : Int) (w : World) (ht : Tryz.prog.underlying t = some (.array 4 2)) :
    (Op.equalIn (D + 2) t (.agg #[.int .i64 a, .int .i64 b, .int .i64 c, .int .i64 d]) (.agg #[.int .i64 x, .int .i64 y, .int .i64 z, .int .i64 u])).run Tryz.prog w = .ok (eq4B a b c d x y z u) w := by
  obtain ⟨i, hi, hz, h1, h8⟩ := info_parts Tryz.info2
  rw [run_equalIn_array w (D + 1) _ _ ht hi, Tryz.cells2]
  have hu := Tryz.u2
  simp [List.range_succ, Op.eqItems, eq4B, part, go_sem, hu]
  by_cases h1 : a = x <;> by_cases h2 : b = y <;> by_cases h3 : c = z <;> by_cases h4 : d = u <;> simp [h1, h2, h3, h4]

/-- The laws at the program's own array types, as the walk takes them. -/
@[go_sem ↓] theorem eql24 (a b c x y z : Int) (w : World) : (binOp .eql 24 (.agg #[.int .i64 a, .int .i64 b, .int .i64 c]) (.agg #[.int .i64 x, .int .i64 y, .int .i64 z])).run Tryz.prog w = .ok (.bool (eq3B a b c x y z)) w := by
  simp [binOp, Op.equal, Op.maxDepth, run_equalIn_a3 9998 a b c x y z w Tryz.u24]
@[go_sem ↓] theorem neq24 (a b c x y z : Int) (w : World) : (binOp .neq 24 (.agg #[.int .i64 a, .int .i64 b, .int .i64 c]) (.agg #[.int .i64 x, .int .i64 y, .int .i64 z])).run Tryz.prog w = .ok (.bool (!eq3B a b c x y z)) w := by
  simp [binOp, Op.equal, Op.maxDepth, run_equalIn_a3 9998 a b c x y z w Tryz.u24]
@[go_sem ↓] theorem eql44 (a b c x y z : Int) (w : World) : (binOp .eql 66 (.agg #[.int .i64 a, .int .i64 b, .int .i64 c]) (.agg #[.int .i64 x, .int .i64 y, .int .i64 z])).run Tryz.prog w = .ok (.bool (eq3B a b c x y z)) w := by
  simp [binOp, Op.equal, Op.maxDepth, run_equalIn_a3 9998 a b c x y z w Tryz.u44]
@[go_sem ↓] theorem neq44 (a b c x y z : Int) (w : World) : (binOp .neq 66 (.agg #[.int .i64 a, .int .i64 b, .int .i64 c]) (.agg #[.int .i64 x, .int .i64 y, .int .i64 z])).run Tryz.prog w = .ok (.bool (!eq3B a b c x y z)) w := by
  simp [binOp, Op.equal, Op.maxDepth, run_equalIn_a3 9998 a b c x y z w Tryz.u44]
@[go_sem ↓] theorem eql23 (a b c d x y z u : Int) (w : World) : (binOp .eql 23 (.agg #[.int .i64 a, .int .i64 b, .int .i64 c, .int .i64 d]) (.agg #[.int .i64 x, .int .i64 y, .int .i64 z, .int .i64 u])).run Tryz.prog w = .ok (.bool (eq4B a b c d x y z u)) w := by
  simp [binOp, Op.equal, Op.maxDepth, run_equalIn_a4 9998 a b c d x y z u w Tryz.u23]
@[go_sem ↓] theorem neq23 (a b c d x y z u : Int) (w : World) : (binOp .neq 23 (.agg #[.int .i64 a, .int .i64 b, .int .i64 c, .int .i64 d]) (.agg #[.int .i64 x, .int .i64 y, .int .i64 z, .int .i64 u])).run Tryz.prog w = .ok (.bool (!eq4B a b c d x y z u)) w := by
  simp [binOp, Op.equal, Op.maxDepth, run_equalIn_a4 9998 a b c d x y z u w Tryz.u23]
@[go_sem ↓] theorem eql60 (a b c d x y z u : Int) (w : World) : (binOp .eql 48 (.agg #[.int .i64 a, .int .i64 b, .int .i64 c, .int .i64 d]) (.agg #[.int .i64 x, .int .i64 y, .int .i64 z, .int .i64 u])).run Tryz.prog w = .ok (.bool (eq4B a b c d x y z u)) w := by
  simp [binOp, Op.equal, Op.maxDepth, run_equalIn_a4 9998 a b c d x y z u w Tryz.u60]
@[go_sem ↓] theorem neq60 (a b c d x y z u : Int) (w : World) : (binOp .neq 48 (.agg #[.int .i64 a, .int .i64 b, .int .i64 c, .int .i64 d]) (.agg #[.int .i64 x, .int .i64 y, .int .i64 z, .int .i64 u])).run Tryz.prog w = .ok (.bool (!eq4B a b c d x y z u)) w := by
  simp [binOp, Op.equal, Op.maxDepth, run_equalIn_a4 9998 a b c d x y z u w Tryz.u60]
@[go_sem ↓] theorem eql22 (a b c d x y z u : Int) (w : World) : (binOp .eql 22 (.agg #[.int .i64 a, .int .i64 b, .int .i64 c, .int .i64 d]) (.agg #[.int .i64 x, .int .i64 y, .int .i64 z, .int .i64 u])).run Tryz.prog w = .ok (.bool (eq4B a b c d x y z u)) w := by
  simp [binOp, Op.equal, Op.maxDepth, run_equalIn_a4 9998 a b c d x y z u w Tryz.u22]
@[go_sem ↓] theorem neq22 (a b c d x y z u : Int) (w : World) : (binOp .neq 22 (.agg #[.int .i64 a, .int .i64 b, .int .i64 c, .int .i64 d]) (.agg #[.int .i64 x, .int .i64 y, .int .i64 z, .int .i64 u])).run Tryz.prog w = .ok (.bool (!eq4B a b c d x y z u)) w := by
  simp [binOp, Op.equal, Op.maxDepth, run_equalIn_a4 9998 a b c d x y z u w Tryz.u22]

end Go.Proofs.YtaoedfegakpjeabGreat

namespace Go.Proofs.YtaoedfegakpjeabGreat
open Go.RowKit

/-- The world W has grown out of w by at least n blocks; nothing below has turned. -/
structure Own (n : Nat) (w W : World) : Prop where
  size : w.heap.size + n ≤ W.heap.size
  below : Below w.heap.size w W
theorem Own.call {n : Nat} {w W W1 : World} (h : Own n w W) (hb : Below W.heap.size W W1) : Own n w W1 :=
  ⟨Nat.le_trans h.1 hb.size, h.2.trans (hb.mono (Nat.le_trans (Nat.le_add_right _ _) h.1))⟩
theorem Own.cell {n : Nat} {w W W1 : World} {i o : Nat} {v : Value} (h : Own n w W) (hb : Below W.heap.size W W1) (hc : W.cell? ⟨w.heap.size + i, o, none⟩ = some v) (hi : i < n) : W1.cell? ⟨w.heap.size + i, o, none⟩ = some v :=
  (hb.cell (p := ⟨w.heap.size + i, o, none⟩) (by have := h.1; simp; omega)).trans hc
theorem Own.cell0 {n : Nat} {w W W1 : World} {o : Nat} {v : Value} (h : Own n w W) (hb : Below W.heap.size W W1) (hc : W.cell? ⟨w.heap.size, o, none⟩ = some v) (hi : 0 < n) : W1.cell? ⟨w.heap.size, o, none⟩ = some v :=
  h.cell (i := 0) hb hc hi

set_option maxHeartbeats 400000 in
theorem pnormal_any (a b c d : Int) (w : World) :
    Calls Tryz.prog 14 #[.agg #[.int .i64 a, .int .i64 b, .int .i64 c, .int .i64 d]] w fun e w' => e = .returned (.agg #[.int .i64 a, .int .i64 b, .int .i64 c]) ∧ Below w.heap.size w w' := by
  go_enter Tryz.func14, Tryz.ntmps14
  go_wp2
  refine bodyPost_ret (v := (.agg #[.int .i64 a, .int .i64 b, .int .i64 c])) (by simp [results, Tryz.results14, go_sem]) rfl ⟨rfl, ?_⟩
  repeat (first | exact Below.refl _ _ | refine Below.alloc ?_ (by first | (simp; done) | (simp; omega)) _ | refine Below.setCell ?_ (by first | (simp; done) | (simp; omega)) _ | refine Below.drew ?_)

set_option maxHeartbeats 400000 in
theorem pcross_any (a b c x y z : Int) (w : World) :
    Calls Tryz.prog 37 #[.agg #[.int .i64 a, .int .i64 b, .int .i64 c], .agg #[.int .i64 x, .int .i64 y, .int .i64 z]] w fun e w' => e = .returned (.agg #[.int .i64 (crs b z c y), .int .i64 (crs c x a z), .int .i64 (crs a y b x)]) ∧ Below w.heap.size w w' := by
  go_enter Tryz.func37, Tryz.ntmps37
  go_wp2
  refine bodyPost_ret (v := (.agg #[.int .i64 (crs b z c y), .int .i64 (crs c x a z), .int .i64 (crs a y b x)])) (by simp [results, Tryz.results37, go_sem, crs_eq]) rfl ⟨rfl, ?_⟩
  repeat (first | exact Below.refl _ _ | refine Below.alloc ?_ (by first | (simp; done) | (simp; omega)) _ | refine Below.setCell ?_ (by first | (simp; done) | (simp; omega)) _ | refine Below.drew ?_)

set_option maxHeartbeats 400000 in
theorem pdot_any (a b c x y z : Int) (w : World) :
    Calls Tryz.prog 13 #[.agg #[.int .i64 a, .int .i64 b, .int .i64 c], .agg #[.int .i64 x, .int .i64 y, .int .i64 z]] w fun e w' => e = .returned (.int .i64 (dot a b c x y z)) ∧ Below w.heap.size w w' := by
  go_enter Tryz.func13, Tryz.ntmps13
  go_wp2
  go_ret
  refine ⟨by rw [dot_eq]; rfl, ?_⟩
  repeat (first | exact Below.refl _ _ | refine Below.alloc ?_ (by first | (simp; done) | (simp; omega)) _ | refine Below.setCell ?_ (by first | (simp; done) | (simp; omega)) _ | refine Below.drew ?_)

set_option maxHeartbeats 400000 in
theorem parallel_any (a b c d x y z t : Int) (w : World) :
    Calls Tryz.prog 25 #[.agg #[.int .i64 a, .int .i64 b, .int .i64 c, .int .i64 d], .agg #[.int .i64 x, .int .i64 y, .int .i64 z, .int .i64 t]] w fun e w' => e = .returned (.bool (eq3B (crs b z c y) (crs c x a z) (crs a y b x) 0 0 0)) ∧ Below w.heap.size w w' := by
  go_enter Tryz.func25, Tryz.ntmps25
  go_wp2
  go_region_held3 (fun W => Own 2 w W ∧ W.cell? ⟨w.heap.size, 0, none⟩ = some (.int .i64 (a)) ∧ W.cell? ⟨w.heap.size, 1, none⟩ = some (.int .i64 (b)) ∧ W.cell? ⟨w.heap.size, 2, none⟩ = some (.int .i64 (c)) ∧ W.cell? ⟨w.heap.size, 3, none⟩ = some (.int .i64 (d)) ∧ W.cell? ⟨w.heap.size + 1, 0, none⟩ = some (.int .i64 (x)) ∧ W.cell? ⟨w.heap.size + 1, 1, none⟩ = some (.int .i64 (y)) ∧ W.cell? ⟨w.heap.size + 1, 2, none⟩ = some (.int .i64 (z)) ∧ W.cell? ⟨w.heap.size + 1, 3, none⟩ = some (.int .i64 (t)))
    (((try go_split_ands); (repeat' apply And.intro); all_goals (first | assumption | (simp; done) | (simp [go_sem]; done) | exact Own.call (by assumption) hb1 | exact Own.cell0 (by assumption) hb1 (by assumption) (by decide) | exact Own.cell (by assumption) hb1 (by assumption) (by decide) | (refine Own.mk (by first | (simp; done) | (simp; omega)) ?_; repeat (first | exact Below.refl _ _ | refine Below.alloc ?_ (by first | (simp; done) | (simp; omega)) _ | refine Below.setCell ?_ (by first | (simp; done) | (simp; omega)) _ | refine Below.drew ?_)) | fail))) (first | (go_at_call 14; refine (pnormal_any _ _ _ _ _).mono ?_; rintro e w1 ⟨rfl, hb1⟩) | (go_at_call 37; refine (pcross_any _ _ _ _ _ _ _).mono ?_; rintro e w1 ⟨rfl, hb1⟩))
  go_split_ands
  go_wp2
  go_ret
  exact ⟨rfl, Own.below (by assumption)⟩

end Go.Proofs.YtaoedfegakpjeabGreat

namespace Go.Proofs.YtaoedfegakpjeabGreat
open Go.RowKit

theorem method_dot (n : Nat) (a b c : Int) (w : World) : (method (n + 1) 66 (.agg #[.int .i64 a, .int .i64 b, .int .i64 c]) "Dot").run Tryz.prog w = .ok (72, .agg #[.int .i64 a, .int .i64 b, .int .i64 c]) w := by
  kernel_rfl

set_option maxHeartbeats 400000 in
theorem signv_any (a b c x y z : Int) (w : World) :
    Calls Tryz.prog 34 #[.agg #[.int .i64 a, .int .i64 b, .int .i64 c], .agg #[.int .i64 x, .int .i64 y, .int .i64 z]] w fun e w' => e = .returned (.int .i64 (sgn (dot a b c x y z))) ∧ Below w.heap.size w w' := by
  have hm := method_dot
  go_enter Tryz.func34, Tryz.ntmps34
  go_wp2_with (first | (go_at_call 72; refine (dot_any _ _ _ _ _ _ _).mono ?_; rintro e w1 ⟨rfl, hb1⟩) | (go_at_call 63; refine (sign_any _ _).mono ?_; rintro e w2 ⟨rfl, rfl⟩))
  go_ret
  refine ⟨rfl, ?_⟩
  refine Below.trans ?_ (hb1.mono (by first | (simp; done) | (simp; omega)))
  repeat (first | exact Below.refl _ _ | refine Below.alloc ?_ (by first | (simp; done) | (simp; omega)) _ | refine Below.setCell ?_ (by first | (simp; done) | (simp; omega)) _ | refine Below.drew ?_)

end Go.Proofs.YtaoedfegakpjeabGreat

namespace Go.Proofs.YtaoedfegakpjeabGreat
open Go.RowKit

/-- geo.Angle: 0 the same, 1 to the left, 2 opposite, 3 to the right. -/
noncomputable def angle (na nb nc ua ub uc va vb vc : Int) : Int :=
  if 0 < sgn (dot (crs ub vc uc vb) (crs uc va ua vc) (crs ua vb ub va) na nb nc) then 1 else if sgn (dot (crs ub vc uc vb) (crs uc va ua vc) (crs ua vb ub va) na nb nc) < 0 then 3 else if 0 < dot ua ub uc va vb vc then 0 else 2

set_option maxHeartbeats 400000 in
theorem angle_any (na nb nc ua ub uc va vb vc : Int) (w : World) :
    Calls Tryz.prog 59 #[.agg #[.int .i64 na, .int .i64 nb, .int .i64 nc], .agg #[.int .i64 ua, .int .i64 ub, .int .i64 uc], .agg #[.int .i64 va, .int .i64 vb, .int .i64 vc]] w fun e w' => e = .returned (.int .i64 (angle na nb nc ua ub uc va vb vc)) ∧ Below w.heap.size w w' := by
  go_enter Tryz.func59, Tryz.ntmps59
  go_wp2
  go_region_held3 (fun W => Own 3 w W ∧ W.cell? ⟨w.heap.size, 0, none⟩ = some (.int .i64 (na)) ∧ W.cell? ⟨w.heap.size, 1, none⟩ = some (.int .i64 (nb)) ∧ W.cell? ⟨w.heap.size, 2, none⟩ = some (.int .i64 (nc)) ∧ W.cell? ⟨w.heap.size + 1, 0, none⟩ = some (.int .i64 (ua)) ∧ W.cell? ⟨w.heap.size + 1, 1, none⟩ = some (.int .i64 (ub)) ∧ W.cell? ⟨w.heap.size + 1, 2, none⟩ = some (.int .i64 (uc)) ∧ W.cell? ⟨w.heap.size + 2, 0, none⟩ = some (.int .i64 (va)) ∧ W.cell? ⟨w.heap.size + 2, 1, none⟩ = some (.int .i64 (vb)) ∧ W.cell? ⟨w.heap.size + 2, 2, none⟩ = some (.int .i64 (vc)))
    (((try go_split_ands); (repeat' apply And.intro); all_goals (first | assumption | (simp; done) | (simp [go_sem]; done) | exact Own.call (by assumption) hb1 | exact Own.cell0 (by assumption) hb1 (by assumption) (by decide) | exact Own.cell (by assumption) hb1 (by assumption) (by decide) | (refine Own.mk (by first | (simp; done) | (simp; omega)) ?_; repeat (first | exact Below.refl _ _ | refine Below.alloc ?_ (by first | (simp; done) | (simp; omega)) _ | refine Below.setCell ?_ (by first | (simp; done) | (simp; omega)) _ | refine Below.drew ?_)) | fail))) (first | (go_at_call 36; refine (cross_any _ _ _ _ _ _ _).mono ?_; rintro e w1 ⟨rfl, hb1⟩) | (go_at_call 72; refine (dot_any _ _ _ _ _ _ _).mono ?_; rintro e w1 ⟨rfl, hb1⟩) | (go_at_call 63; refine (sign_any _ _).mono ?_; rintro e w1 ⟨rfl, rfl⟩))
  go_split_ands
  go_wp2_with (first | (go_at_call 72; refine (dot_any _ _ _ _ _ _ _).mono ?_; rintro e w1 ⟨rfl, hb1⟩))
  all_goals (go_ret; refine ⟨ret_int (by unfold angle; (repeat' split) <;> omega), ?_⟩; first | exact Own.below (by assumption) | exact (Own.call (by assumption) hb1).below)

end Go.Proofs.YtaoedfegakpjeabGreat

namespace Go.Proofs.YtaoedfegakpjeabGreat
open Go.RowKit

/-- The greatest common divisor of two numbers, of their absolute values as the code has them. -/
noncomputable def gcd2 (a b : Int) : Int := vl ((Nat.gcd (sizeI a).toNat (sizeI b).toNat : Nat) : Int)
theorem gcd2_eq (a b : Int) : gcd2 a b = ((Nat.gcd (sizeI a).toNat (sizeI b).toNat : Nat) : Int) := vl_eq _

/-- A number is an int64. -/
def I64 (a : Int) : Prop := -9223372036854775808 ≤ a ∧ a ≤ 9223372036854775807
theorem I64.wrap (a : Int) : I64 (wrap64 a) := by unfold I64 wrap64; omega
theorem I64.of {a : Int} (h1 : -9223372036854775808 ≤ a) (h2 : a ≤ 9223372036854775807) : I64 a := ⟨h1, h2⟩

theorem sizeI_nonneg {a : Int} (h : I64 a) : 0 ≤ sizeI a := by
  unfold I64 at h
  unfold sizeI
  split
  · omega
  · split
    · unfold wrap64 at *; omega
    · unfold wrap64 at *; omega

theorem sizeI_i64 {a : Int} (h : I64 a) : I64 (sizeI a) := by
  unfold sizeI
  split
  · exact ⟨by omega, by omega⟩
  · split
    · exact I64.wrap _
    · exact h

set_option maxHeartbeats 400000 in
theorem pgcd_any (a b : Int) (w : World) (ia : I64 a) (ib : I64 b) :
    Calls Tryz.prog 38 #[.int .i64 a, .int .i64 b] w fun e w' => e = .returned (.int .i64 (gcd2 a b)) ∧ Below w.heap.size w w' := by
  have ha := sizeI_nonneg ia
  have hb := sizeI_nonneg ib
  clear ia ib
  go_enter Tryz.func38, Tryz.ntmps38
  go_wp2_with (first | (go_at_call 44; refine (size_any _ _).mono ?_; rintro e w1 ⟨rfl, rfl⟩))
  go_loopw [0, 1] (fun u v wr => ∃ x y : Nat, u = .int .i64 x ∧ v = .int .i64 y ∧ Nat.gcd x y = Nat.gcd (sizeI a).toNat (sizeI b).toNat ∧ Below w.heap.size w wr) (fun _ v _ => (intOf v).toNat)
  case atStart => exact ⟨(sizeI a).toNat, (sizeI b).toNat, by rw [Int.toNat_of_nonneg ha], by rw [Int.toNat_of_nonneg hb], rfl, Below.refl _ _⟩
  case round =>
    rename_i wr
    obtain ⟨x, y, rfl, rfl, hg, hw⟩ := hrel
    have HG : Hid (Nat.gcd x y = Nat.gcd (sizeI a).toNat (sizeI b).toNat) := hg
    clear hg
    by_cases hy : y = 0
    · subst hy
      go_wp2
      go_ret
      refine ⟨ret_int ?_, hw⟩
      rw [gcd2_eq]
      rw [← HG.out]; simp
    · have hy' : ((y : Int) == 0) = false := by simpa using hy
      have hy0 : (0 : Int) < (y : Int) := by omega
      go_wp2
      go_quiet (fail)
      go_wp2
      go_roundw
      case rel => exact ⟨y, x % y, rfl, rfl, by rw [← HG.out, Nat.gcd_comm y (x % y), ← Nat.gcd_rec, Nat.gcd_comm], below_drewN hw _⟩
      case measure =>
        have h1 : (x : Int) % (y : Int) < y := Int.emod_lt_of_pos _ hy0
        have h2 : 0 ≤ (x : Int) % (y : Int) := Int.emod_nonneg _ (by omega)
        simp [intOf]; omega

end Go.Proofs.YtaoedfegakpjeabGreat

namespace Go.Proofs.YtaoedfegakpjeabGreat
open Go.RowKit

/-- The greatest common divisor of a list, as a Nat. -/
def gcdN (zs : List Int) : Nat := zs.foldl (fun g z => Nat.gcd g z.natAbs) 0

theorem gcdN_snoc (zs : List Int) (k : Nat) (h : k < zs.length) : gcdN (zs.take (k + 1)) = Nat.gcd (gcdN (zs.take k)) (zs[k]).natAbs := by
  rw [List.take_succ_eq_append_getElem h]
  unfold gcdN
  rw [List.foldl_append]; rfl

set_option maxHeartbeats 400000 in
theorem ggcd_any (zs : List Int) (b o : Nat) (cap : Nat) (w : World) (hl : zs.length ≤ 1000) (hi : ∀ z, z ∈ zs → I64 z) (hc : ∀ i, i < zs.length → w.cell? ⟨b, o + i, none⟩ = some (.int .i64 (zs.getD i 0))) :
    Calls Tryz.prog 67 #[.slice (some ⟨b, o, none⟩) zs.length cap] w fun e w' => e = .returned (.int .i64 (wrap64 (gcdN zs))) ∧ Below w.heap.size w w' := by
  go_enter Tryz.func67, Tryz.ntmps67
  go_wp2
  go_loopw [3, 9] (fun u v wr => ∃ k : Nat, k ≤ zs.length ∧ v = .int .i64 k ∧ u = .int .u64 (gcdN (zs.take k)) ∧ Below w.heap.size w wr ∧ ∀ i, i < zs.length → wr.cell? ⟨b, o + i, none⟩ = some (.int .i64 (zs.getD i 0))) (fun _ v _ => zs.length - (intOf v).toNat)
  case atStart => exact ⟨0, Nat.zero_le _, rfl, rfl, Below.refl _ _, hc⟩
  case round =>
    rename_i wr
    obtain ⟨k, hk, rfl, rfl, hw, hcr⟩ := hrel
    clear hc
    by_cases hlt : k < zs.length
    · have hcell := hcr k hlt
      have hz := hi _ (List.getElem_mem hlt)
      have HZ := Lib.hid hi
      have HC := Lib.hid hcr
      clear hi hcr
      have hg : zs.getD k 0 = zs[k] := by simp [hlt]
      rw [hg] at hcell
      clear hg
      have hs := gcdN_snoc zs k hlt
      generalize zs[k] = z at *
      have HS := Lib.hid hs
      clear hs
      have ew1 : z < 0 → IntKind.u64.wrap (-IntKind.u64.wrap z) = (z.natAbs : Int) := fun h => by unfold I64 at hz; simp only [IntKind.wrap, IntKind.signed, IntKind.bits]; simp; omega
      have ew2 : ¬ z < 0 → IntKind.u64.wrap z = (z.natAbs : Int) := fun h => by unfold I64 at hz; simp only [IntKind.wrap, IntKind.signed, IntKind.bits]; simp; omega
      have EW1 := Lib.hid ew1
      have EW2 := Lib.hid ew2
      clear ew1 ew2
      by_cases h0 : z < 0
      all_goals
        go_wp2
        go_loopw [3, 6] (fun u v w2 => ∃ x y : Nat, u = .int .u64 x ∧ v = .int .u64 y ∧ Nat.gcd x y = Nat.gcd (gcdN (zs.take k)) z.natAbs ∧ ∃ n, w2 = wr.drewN n) (fun _ v _ => (intOf v).toNat)
        case atStart => exact ⟨gcdN (zs.take k), z.natAbs, rfl, by first | rw [EW1.out h0] | rw [EW2.out h0], rfl, 0, rfl⟩
        case round =>
          obtain ⟨x, y, rfl, rfl, hg, n, rfl⟩ := hrel
          have HG := Lib.hid hg
          clear hg
          by_cases hy : y = 0
          · subst hy
            go_wp2
            go_roundw
            case rel => exact ⟨k + 1, by omega, by go_num, by rw [HS.out, ← HG.out]; simp, below_drewN hw _, fun i hi => by have := HC.out i hi; simpa using this⟩
            case measure => simp [intOf]; omega
          · have hy' : ((y : Int) == 0) = false := by simpa using hy
            have hy0 : (0 : Int) < (y : Int) := by omega
            go_wp2
            go_quiet (fail)
            go_wp2
            go_roundw
            case rel => exact ⟨y, x % y, rfl, rfl, by rw [← HG.out, Nat.gcd_comm y (x % y), ← Nat.gcd_rec, Nat.gcd_comm], n + nq, by simp⟩
            case measure =>
              have h1 : (x : Int) % (y : Int) < y := Int.emod_lt_of_pos _ hy0
              have h2 : 0 ≤ (x : Int) % (y : Int) := Int.emod_nonneg _ (by omega)
              simp [intOf]; omega
    · have hkk : k = zs.length := by omega
      have HK := Lib.hid hkk
      clear hkk
      go_wp2
      go_ret
      refine ⟨ret_int ?_, hw⟩
      rw [HK.out, List.take_length]

/-- Of three numbers, of four. -/
noncomputable def gcd3 (a b c : Int) : Int := vl (wrap64 (gcdN [a, b, c]))
noncomputable def gcd4 (a b c d : Int) : Int := vl (wrap64 (gcdN [a, b, c, d]))
theorem gcd3_eq (a b c : Int) : gcd3 a b c = wrap64 (gcdN [a, b, c]) := vl_eq _
theorem gcd4_eq (a b c d : Int) : gcd4 a b c d = wrap64 (gcdN [a, b, c, d]) := vl_eq _

theorem ggcd_three (a b c : Int) (bl o cap : Nat) (w : World) (ia : I64 a) (ib : I64 b) (ic : I64 c) (h0 : w.cell? ⟨bl, o, none⟩ = some (.int .i64 a)) (h1 : w.cell? ⟨bl, o + 1, none⟩ = some (.int .i64 b)) (h2 : w.cell? ⟨bl, o + 2, none⟩ = some (.int .i64 c)) :
    Calls Tryz.prog 67 #[.slice (some ⟨bl, o, none⟩) 3 cap] w fun e w' => e = .returned (.int .i64 (gcd3 a b c)) ∧ Below w.heap.size w w' := by
  rw [gcd3_eq]
  exact ggcd_any [a, b, c] bl o cap w (by simp) (by intro z hz; simp at hz; rcases hz with rfl | rfl | rfl <;> assumption)
    (by intro i hi; match i, hi with | 0, _ => exact h0 | 1, _ => exact h1 | 2, _ => exact h2)

theorem ggcd_four (a b c d : Int) (bl o cap : Nat) (w : World) (ia : I64 a) (ib : I64 b) (ic : I64 c) (id : I64 d) (h0 : w.cell? ⟨bl, o, none⟩ = some (.int .i64 a)) (h1 : w.cell? ⟨bl, o + 1, none⟩ = some (.int .i64 b)) (h2 : w.cell? ⟨bl, o + 2, none⟩ = some (.int .i64 c)) (h3 : w.cell? ⟨bl, o + 3, none⟩ = some (.int .i64 d)) :
    Calls Tryz.prog 67 #[.slice (some ⟨bl, o, none⟩) 4 cap] w fun e w' => e = .returned (.int .i64 (gcd4 a b c d)) ∧ Below w.heap.size w w' := by
  rw [gcd4_eq]
  exact ggcd_any [a, b, c, d] bl o cap w (by simp) (by intro z hz; simp at hz; rcases hz with rfl | rfl | rfl | rfl <;> assumption)
    (by intro i hi; match i, hi with | 0, _ => exact h0 | 1, _ => exact h1 | 2, _ => exact h2 | 3, _ => exact h3)

end Go.Proofs.YtaoedfegakpjeabGreat

namespace Go.Proofs.YtaoedfegakpjeabGreat
open Go.RowKit

/-- A number divided by another one, if that is not 0. -/
def shortBy (g x : Int) : Int := if g = 0 then x else wrap64 (x.tdiv g)

set_option maxHeartbeats 400000 in
theorem short_zero (a b c : Int) (w : World) (ia : I64 a) (ib : I64 b) (ic : I64 c) (hg : (gcd3 a b c == 0) = true) :
    Calls Tryz.prog 88 #[.agg #[.int .i64 a, .int .i64 b, .int .i64 c]] w fun e w' => e = .returned (.agg #[.int .i64 a, .int .i64 b, .int .i64 c]) ∧ Below w.heap.size w w' := by
  go_enter Tryz.func88, Tryz.ntmps88
  go_wp2_with (go_at_call 67; refine (ggcd_three a b c _ _ _ _ ia ib ic (by simp [go_sem]) (by simp [go_sem]) (by simp [go_sem])).mono ?_; rintro e w1 ⟨rfl, hb1⟩; obtain ⟨hc1, hf1⟩ := bcell hb1)
  refine bodyPost_ret (v := .agg #[.int .i64 a, .int .i64 b, .int .i64 c]) ?_ rfl ⟨rfl, ?_⟩
  · simp [results, Tryz.results88, go_sem, hc1]
  · (repeat (first | exact Below.refl _ _ | refine Below.alloc ?_ (by first | (simp; done) | (simp; omega)) _ | refine Below.setCell ?_ (by first | (simp; done) | (simp; omega)) _ | refine Below.drew ?_)); (try (refine Below.trans ?_ (hb1.mono (by first | (simp; done) | (simp; omega))); repeat (first | exact Below.refl _ _ | refine Below.alloc ?_ (by first | (simp; done) | (simp; omega)) _ | refine Below.setCell ?_ (by first | (simp; done) | (simp; omega)) _ | refine Below.drew ?_)))

set_option maxHeartbeats 400000 in
theorem short_div (a b c : Int) (w : World) (ia : I64 a) (ib : I64 b) (ic : I64 c) (hg : (gcd3 a b c == 0) = false) (hg1 : ¬ gcd3 a b c = 0) :
    Calls Tryz.prog 88 #[.agg #[.int .i64 a, .int .i64 b, .int .i64 c]] w fun e w' => e = .returned (.agg #[.int .i64 (wrap64 (a.tdiv (gcd3 a b c))), .int .i64 (wrap64 (b.tdiv (gcd3 a b c))), .int .i64 (wrap64 (c.tdiv (gcd3 a b c)))]) ∧ Below w.heap.size w w' := by
  go_enter Tryz.func88, Tryz.ntmps88
  go_wp2_with (go_at_call 67; refine (ggcd_three a b c _ _ _ _ ia ib ic (by simp [go_sem]) (by simp [go_sem]) (by simp [go_sem])).mono ?_; rintro e w1 ⟨rfl, hb1⟩; obtain ⟨hc1, hf1⟩ := bcell hb1)
  go_region
  go_wp2
  refine bodyPost_ret (v := .agg #[.int .i64 (wrap64 (a.tdiv (gcd3 a b c))), .int .i64 (wrap64 (b.tdiv (gcd3 a b c))), .int .i64 (wrap64 (c.tdiv (gcd3 a b c)))]) ?_ rfl ⟨rfl, ?_⟩
  · simp [results, Tryz.results88, go_sem, hc1]
  · (repeat (first | exact Below.refl _ _ | refine Below.alloc ?_ (by first | (simp; done) | (simp; omega)) _ | refine Below.setCell ?_ (by first | (simp; done) | (simp; omega)) _ | refine Below.drew ?_)); (try (refine Below.trans ?_ (hb1.mono (by first | (simp; done) | (simp; omega))); repeat (first | exact Below.refl _ _ | refine Below.alloc ?_ (by first | (simp; done) | (simp; omega)) _ | refine Below.setCell ?_ (by first | (simp; done) | (simp; omega)) _ | refine Below.drew ?_)))

theorem short_any (a b c : Int) (w : World) (ia : I64 a) (ib : I64 b) (ic : I64 c) :
    Calls Tryz.prog 88 #[.agg #[.int .i64 a, .int .i64 b, .int .i64 c]] w fun e w' => e = .returned (.agg #[.int .i64 (shortBy (gcd3 a b c) a), .int .i64 (shortBy (gcd3 a b c) b), .int .i64 (shortBy (gcd3 a b c) c)]) ∧ Below w.heap.size w w' := by
  by_cases h : gcd3 a b c = 0
  · simp only [shortBy, if_pos h]
    exact short_zero a b c w ia ib ic (by simpa using h)
  · simp only [shortBy, if_neg h]
    exact short_div a b c w ia ib ic (by simpa using h) h

end Go.Proofs.YtaoedfegakpjeabGreat

namespace Go.Proofs.YtaoedfegakpjeabGreat
open Go.RowKit

/-- Whether four numbers are a right plane. -/
noncomputable def isPlaneB (a b c d : Int) : Bool := vlB (withinB a 1000 && (withinB b 1000 && (withinB c 1000 && (withinB d 1000000 && ((a != 0 || (b != 0 || c != 0)) && gcd4 a b c d == 1)))))
theorem isPlaneB_eq (a b c d : Int) : isPlaneB a b c d = (withinB a 1000 && (withinB b 1000 && (withinB c 1000 && (withinB d 1000000 && ((a != 0 || (b != 0 || c != 0)) && gcd4 a b c d == 1))))) := vlB_eq _

/-- The first k numbers are within the limit. -/
def WithinTo (m a b c : Int) (k : Nat) : Prop := (0 < k → withinB a m = true) ∧ (1 < k → withinB b m = true) ∧ (2 < k → withinB c m = true)

set_option maxHeartbeats 1000000 in
theorem isPlane_any (a b c d : Int) (w : World) (ia : I64 a) (ib : I64 b) (ic : I64 c) (id : I64 d) :
    Calls Tryz.prog 41 #[.agg #[.int .i64 a, .int .i64 b, .int .i64 c, .int .i64 d]] w fun e w' => e = .returned (.bool (isPlaneB a b c d)) ∧ Below w.heap.size w w' := by
  go_enter Tryz.func41, Tryz.ntmps41
  go_wp2
  go_loop [7] (fun v => ∃ k : Nat, k ≤ 3 ∧ v = .int .i64 k ∧ WithinTo 1000 a b c k) (fun v => 3 - (intOf v).toNat)
  case atStart => exact ⟨0, by omega, rfl, by omega, by omega, by omega⟩
  case round =>
    obtain ⟨k, hk, rfl, hr⟩ := hrel
    match k, hk with
    | 0, _ =>
      have HR := Lib.hid hr
      clear hr
      cases ha : withinB a 1000 with
      | false =>
        go_wp2_with (go_at_call 66; refine (within_any _ _ _ (by omega) (by omega)).mono ?_; rintro e w1 ⟨rfl, rfl⟩)
        go_ret
        refine ⟨ret_bool (by simp [isPlaneB_eq, ha]), ?_⟩
        repeat (first | exact Below.refl _ _ | refine Below.alloc ?_ (by first | (simp; done) | (simp; omega)) _ | refine Below.setCell ?_ (by first | (simp; done) | (simp; omega)) _ | refine Below.drew ?_)
      | true =>
        have HA := Lib.hid ha
        go_wp2_with (go_at_call 66; refine (within_any _ _ _ (by omega) (by omega)).mono ?_; rintro e w1 ⟨rfl, rfl⟩)
        go_round
        case rel => exact ⟨1, by omega, by go_num, fun _ => HA.out, by omega, by omega⟩
        case measure => simp [intOf]
    | 1, _ =>
      have HR := Lib.hid hr
      clear hr
      cases hb : withinB b 1000 with
      | false =>
        go_wp2_with (go_at_call 66; refine (within_any _ _ _ (by omega) (by omega)).mono ?_; rintro e w1 ⟨rfl, rfl⟩)
        go_ret
        refine ⟨ret_bool (by simp [isPlaneB_eq, hb]), ?_⟩
        repeat (first | exact Below.refl _ _ | refine Below.alloc ?_ (by first | (simp; done) | (simp; omega)) _ | refine Below.setCell ?_ (by first | (simp; done) | (simp; omega)) _ | refine Below.drew ?_)
      | true =>
        have HA := Lib.hid hb
        go_wp2_with (go_at_call 66; refine (within_any _ _ _ (by omega) (by omega)).mono ?_; rintro e w1 ⟨rfl, rfl⟩)
        go_round
        case rel => exact ⟨2, by omega, by go_num, fun _ => HR.out.1 (by omega), fun _ => HA.out, by omega⟩
        case measure => simp [intOf]
    | 2, _ =>
      have HR := Lib.hid hr
      clear hr
      cases hc : withinB c 1000 with
      | false =>
        go_wp2_with (go_at_call 66; refine (within_any _ _ _ (by omega) (by omega)).mono ?_; rintro e w1 ⟨rfl, rfl⟩)
        go_ret
        refine ⟨ret_bool (by simp [isPlaneB_eq, hc]), ?_⟩
        repeat (first | exact Below.refl _ _ | refine Below.alloc ?_ (by first | (simp; done) | (simp; omega)) _ | refine Below.setCell ?_ (by first | (simp; done) | (simp; omega)) _ | refine Below.drew ?_)
      | true =>
        have HA := Lib.hid hc
        go_wp2_with (go_at_call 66; refine (within_any _ _ _ (by omega) (by omega)).mono ?_; rintro e w1 ⟨rfl, rfl⟩)
        go_round
        case rel => exact ⟨3, by omega, by go_num, fun _ => HR.out.1 (by omega), fun _ => HR.out.2.1 (by omega), fun _ => HA.out⟩
        case measure => simp [intOf]
    | 3, _ =>
      have qa := hr.1 (by omega)
      have qb := hr.2.1 (by omega)
      have qc := hr.2.2 (by omega)
      have HQ : Hid (isPlaneB a b c d = (withinB d 1000000 && ((a != 0 || (b != 0 || c != 0)) && gcd4 a b c d == 1))) := by unfold Hid; simp [isPlaneB_eq, qa, qb, qc]
      clear hr qa qb qc
      cases hd : withinB d 1000000 with
      | false =>
        go_wp2_with (go_at_call 66; refine (within_any _ _ _ (by omega) (by omega)).mono ?_; rintro e w1 ⟨rfl, rfl⟩)
        go_ret
        refine ⟨ret_bool (by rw [HQ.out, hd]; rfl), ?_⟩
        repeat (first | exact Below.refl _ _ | refine Below.alloc ?_ (by first | (simp; done) | (simp; omega)) _ | refine Below.setCell ?_ (by first | (simp; done) | (simp; omega)) _ | refine Below.drew ?_)
      | true =>
        have HD := Lib.hid hd
        by_cases h : a = 0 ∧ b = 0 ∧ c = 0
        · obtain ⟨rfl, rfl, rfl⟩ := h
          go_wp2_with (go_at_call 66; refine (within_any _ _ _ (by omega) (by omega)).mono ?_; rintro e w1 ⟨rfl, rfl⟩)
          go_ret
          refine ⟨ret_bool (by rw [HQ.out]; simp), ?_⟩
          repeat (first | exact Below.refl _ _ | refine Below.alloc ?_ (by first | (simp; done) | (simp; omega)) _ | refine Below.setCell ?_ (by first | (simp; done) | (simp; omega)) _ | refine Below.drew ?_)
        · have h' : a ≠ 0 ∨ (a = 0 ∧ b ≠ 0) ∨ (a = 0 ∧ b = 0 ∧ c ≠ 0) := by omega
          clear h hd
          rcases h' with h | ⟨rfl, h⟩ | ⟨rfl, rfl, h⟩
          · have hb : (a != 0) = true := by simpa using h
            go_wp2_with (first | (go_at_call 66; refine (within_any _ _ _ (by omega) (by omega)).mono ?_; rintro e w1 ⟨rfl, rfl⟩) | (go_at_call 67; refine (ggcd_four _ _ _ _ _ _ _ _ ia ib ic id (by simp [go_sem]) (by simp [go_sem]) (by simp [go_sem]) (by simp [go_sem])).mono ?_; rintro e w1 ⟨rfl, hb1⟩; obtain ⟨hc1, hf1⟩ := bcell hb1))
            go_ret
            refine ⟨ret_bool (by rw [HQ.out, HD.out, hb]; simp), ?_⟩
            (repeat (first | exact Below.refl _ _ | refine Below.alloc ?_ (by first | (simp; done) | (simp; omega)) _ | refine Below.setCell ?_ (by first | (simp; done) | (simp; omega)) _ | refine Below.drew ?_)); (try (refine Below.trans ?_ (hb1.mono (by first | (simp; done) | (simp; omega))); repeat (first | exact Below.refl _ _ | refine Below.alloc ?_ (by first | (simp; done) | (simp; omega)) _ | refine Below.setCell ?_ (by first | (simp; done) | (simp; omega)) _ | refine Below.drew ?_)))
          · have hb : (b != 0) = true := by simpa using h
            go_wp2_with (first | (go_at_call 66; refine (within_any _ _ _ (by omega) (by omega)).mono ?_; rintro e w1 ⟨rfl, rfl⟩) | (go_at_call 67; refine (ggcd_four _ _ _ _ _ _ _ _ ia ib ic id (by simp [go_sem]) (by simp [go_sem]) (by simp [go_sem]) (by simp [go_sem])).mono ?_; rintro e w1 ⟨rfl, hb1⟩; obtain ⟨hc1, hf1⟩ := bcell hb1))
            go_ret
            refine ⟨ret_bool (by rw [HQ.out, HD.out, hb]; simp), ?_⟩
            (repeat (first | exact Below.refl _ _ | refine Below.alloc ?_ (by first | (simp; done) | (simp; omega)) _ | refine Below.setCell ?_ (by first | (simp; done) | (simp; omega)) _ | refine Below.drew ?_)); (try (refine Below.trans ?_ (hb1.mono (by first | (simp; done) | (simp; omega))); repeat (first | exact Below.refl _ _ | refine Below.alloc ?_ (by first | (simp; done) | (simp; omega)) _ | refine Below.setCell ?_ (by first | (simp; done) | (simp; omega)) _ | refine Below.drew ?_)))
          · have hb : (c != 0) = true := by simpa using h
            go_wp2_with (first | (go_at_call 66; refine (within_any _ _ _ (by omega) (by omega)).mono ?_; rintro e w1 ⟨rfl, rfl⟩) | (go_at_call 67; refine (ggcd_four _ _ _ _ _ _ _ _ ia ib ic id (by simp [go_sem]) (by simp [go_sem]) (by simp [go_sem]) (by simp [go_sem])).mono ?_; rintro e w1 ⟨rfl, hb1⟩; obtain ⟨hc1, hf1⟩ := bcell hb1))
            go_ret
            refine ⟨ret_bool (by rw [HQ.out, HD.out, hb]; simp), ?_⟩
            (repeat (first | exact Below.refl _ _ | refine Below.alloc ?_ (by first | (simp; done) | (simp; omega)) _ | refine Below.setCell ?_ (by first | (simp; done) | (simp; omega)) _ | refine Below.drew ?_)); (try (refine Below.trans ?_ (hb1.mono (by first | (simp; done) | (simp; omega))); repeat (first | exact Below.refl _ _ | refine Below.alloc ?_ (by first | (simp; done) | (simp; omega)) _ | refine Below.setCell ?_ (by first | (simp; done) | (simp; omega)) _ | refine Below.drew ?_)))

end Go.Proofs.YtaoedfegakpjeabGreat

namespace Go.Proofs.YtaoedfegakpjeabGreat
open Go.RowKit

/-- Whether four numbers are a right point. -/
noncomputable def isPointB (a b c d : Int) : Bool := vlB (withinB a 8796093022208 && (withinB b 8796093022208 && (withinB c 8796093022208 && (decide (1 ≤ d) && (decide (d ≤ 8589934592) && gcd4 a b c d == 1)))))
theorem isPointB_eq (a b c d : Int) : isPointB a b c d = (withinB a 8796093022208 && (withinB b 8796093022208 && (withinB c 8796093022208 && (decide (1 ≤ d) && (decide (d ≤ 8589934592) && gcd4 a b c d == 1))))) := vlB_eq _

set_option maxHeartbeats 1000000 in
theorem isPoint_any (a b c d : Int) (w : World) (ia : I64 a) (ib : I64 b) (ic : I64 c) (id : I64 d) :
    Calls Tryz.prog 87 #[.agg #[.int .i64 a, .int .i64 b, .int .i64 c, .int .i64 d]] w fun e w' => e = .returned (.bool (isPointB a b c d)) ∧ Below w.heap.size w w' := by
  go_enter Tryz.func87, Tryz.ntmps87
  go_wp2
  go_loop [7] (fun v => ∃ k : Nat, k ≤ 3 ∧ v = .int .i64 k ∧ WithinTo 8796093022208 a b c k) (fun v => 3 - (intOf v).toNat)
  case atStart => exact ⟨0, by omega, rfl, by omega, by omega, by omega⟩
  case round =>
    obtain ⟨k, hk, rfl, hr⟩ := hrel
    match k, hk with
    | 0, _ =>
      have HR := Lib.hid hr
      clear hr
      cases ha : withinB a 8796093022208 with
      | false =>
        go_wp2_with (go_at_call 66; refine (within_any _ _ _ (by omega) (by omega)).mono ?_; rintro e w1 ⟨rfl, rfl⟩)
        go_ret
        refine ⟨ret_bool (by simp [isPointB_eq, ha]), ?_⟩
        repeat (first | exact Below.refl _ _ | refine Below.alloc ?_ (by first | (simp; done) | (simp; omega)) _ | refine Below.setCell ?_ (by first | (simp; done) | (simp; omega)) _ | refine Below.drew ?_)
      | true =>
        have HA := Lib.hid ha
        go_wp2_with (go_at_call 66; refine (within_any _ _ _ (by omega) (by omega)).mono ?_; rintro e w1 ⟨rfl, rfl⟩)
        go_round
        case rel => exact ⟨1, by omega, by go_num, fun _ => HA.out, by omega, by omega⟩
        case measure => simp [intOf]
    | 1, _ =>
      have HR := Lib.hid hr
      clear hr
      cases hb : withinB b 8796093022208 with
      | false =>
        go_wp2_with (go_at_call 66; refine (within_any _ _ _ (by omega) (by omega)).mono ?_; rintro e w1 ⟨rfl, rfl⟩)
        go_ret
        refine ⟨ret_bool (by simp [isPointB_eq, hb]), ?_⟩
        repeat (first | exact Below.refl _ _ | refine Below.alloc ?_ (by first | (simp; done) | (simp; omega)) _ | refine Below.setCell ?_ (by first | (simp; done) | (simp; omega)) _ | refine Below.drew ?_)
      | true =>
        have HA := Lib.hid hb
        go_wp2_with (go_at_call 66; refine (within_any _ _ _ (by omega) (by omega)).mono ?_; rintro e w1 ⟨rfl, rfl⟩)
        go_round
        case rel => exact ⟨2, by omega, by go_num, fun _ => HR.out.1 (by omega), fun _ => HA.out, by omega⟩
        case measure => simp [intOf]
    | 2, _ =>
      have HR := Lib.hid hr
      clear hr
      cases hc : withinB c 8796093022208 with
      | false =>
        go_wp2_with (go_at_call 66; refine (within_any _ _ _ (by omega) (by omega)).mono ?_; rintro e w1 ⟨rfl, rfl⟩)
        go_ret
        refine ⟨ret_bool (by simp [isPointB_eq, hc]), ?_⟩
        repeat (first | exact Below.refl _ _ | refine Below.alloc ?_ (by first | (simp; done) | (simp; omega)) _ | refine Below.setCell ?_ (by first | (simp; done) | (simp; omega)) _ | refine Below.drew ?_)
      | true =>
        have HA := Lib.hid hc
        go_wp2_with (go_at_call 66; refine (within_any _ _ _ (by omega) (by omega)).mono ?_; rintro e w1 ⟨rfl, rfl⟩)
        go_round
        case rel => exact ⟨3, by omega, by go_num, fun _ => HR.out.1 (by omega), fun _ => HR.out.2.1 (by omega), fun _ => HA.out⟩
        case measure => simp [intOf]
    | 3, _ =>
      have qa := hr.1 (by omega)
      have qb := hr.2.1 (by omega)
      have qc := hr.2.2 (by omega)
      have HQ : Hid (isPointB a b c d = (decide (1 ≤ d) && (decide (d ≤ 8589934592) && gcd4 a b c d == 1))) := by unfold Hid; simp [isPointB_eq, qa, qb, qc]
      clear hr qa qb qc
      by_cases h1 : 1 ≤ d
      · by_cases h2 : d ≤ 8589934592
        · go_wp2_with (go_at_call 67; refine (ggcd_four _ _ _ _ _ _ _ _ ia ib ic id (by simp [go_sem]) (by simp [go_sem]) (by simp [go_sem]) (by simp [go_sem])).mono ?_; rintro e w1 ⟨rfl, hb1⟩; obtain ⟨hc1, hf1⟩ := bcell hb1)
          go_ret
          refine ⟨ret_bool (by rw [HQ.out]; simp [h1, h2]), ?_⟩
          (repeat (first | exact Below.refl _ _ | refine Below.alloc ?_ (by first | (simp; done) | (simp; omega)) _ | refine Below.setCell ?_ (by first | (simp; done) | (simp; omega)) _ | refine Below.drew ?_)); (try (refine Below.trans ?_ (hb1.mono (by first | (simp; done) | (simp; omega))); repeat (first | exact Below.refl _ _ | refine Below.alloc ?_ (by first | (simp; done) | (simp; omega)) _ | refine Below.setCell ?_ (by first | (simp; done) | (simp; omega)) _ | refine Below.drew ?_)))
        · go_wp2
          go_ret
          refine ⟨ret_bool (by rw [HQ.out]; simp; omega), ?_⟩
          repeat (first | exact Below.refl _ _ | refine Below.alloc ?_ (by first | (simp; done) | (simp; omega)) _ | refine Below.setCell ?_ (by first | (simp; done) | (simp; omega)) _ | refine Below.drew ?_)
      · go_wp2
        go_ret
        refine ⟨ret_bool (by rw [HQ.out]; simp; omega), ?_⟩
        repeat (first | exact Below.refl _ _ | refine Below.alloc ?_ (by first | (simp; done) | (simp; omega)) _ | refine Below.setCell ?_ (by first | (simp; done) | (simp; omega)) _ | refine Below.drew ?_)

end Go.Proofs.YtaoedfegakpjeabGreat

namespace Go.Proofs.YtaoedfegakpjeabGreat
open Go.RowKit

/-- What a cell holds. -/
def cellOf (W : World) (a : Addr) : Value := (W.cell? a).getD undef
theorem cellOf_some {W : World} {a : Addr} (h : (W.cell? a).isSome = true) : W.cell? a = some (cellOf W a) := by
  obtain ⟨v, hv⟩ := Option.isSome_iff_exists.1 h
  unfold cellOf; rw [hv]; rfl

/-- Block b has n cells, none of them frozen. -/
def Room (W : World) (b n : Nat) : Prop := ∃ c t, c.size = n ∧ W.heap[b]? = some (.cells c t (0, 0))
theorem Room.some {W : World} {b n o : Nat} (h : Room W b n) (ho : o < n) : (W.cell? ⟨b, o, none⟩).isSome = true := by
  obtain ⟨c, t, hs, hb⟩ := h
  simp only [World.cell?, hb]
  simp; omega
theorem Room.cell {W : World} {b n : Nat} (h : Room W b n) : ∀ o, o < n → W.cell? ⟨b, o, none⟩ = .some (cellOf W ⟨b, o, none⟩) := fun _ ho => cellOf_some (h.some ho)
theorem Room.frozen {W : World} {b n : Nat} (h : Room W b n) : ∀ o, o < n → W.frozen? ⟨b, o, none⟩ = false := fun o ho => by
  obtain ⟨c, t, hs, hb⟩ := h
  simp only [World.frozen?, hb]
  simp
theorem Room.drew {W : World} {b n : Nat} (h : Room W b n) : Room W.drew b n := h
theorem Room.new {W : World} {c : Array Value} {t : TypeId} {b n : Nat} (h : c.size = n) (hb : b = W.heap.size) : Room (W.alloc (.cells c t)) b n := ⟨c, t, h, by subst hb; show (W.heap.push _)[W.heap.size]? = _; simp⟩
theorem Room.alloc {W : World} {b n : Nat} (h : Room W b n) (o : Obj) : Room (W.alloc o) b n := by
  obtain ⟨c, t, hs, hb⟩ := h
  have hlt : b < W.heap.size := (Array.getElem?_eq_some_iff.1 hb).1
  exact ⟨c, t, hs, by rw [Below.heap_alloc W o b hlt]; exact hb⟩
theorem Room.set {W : World} {b n : Nat} (h : Room W b n) (p : Addr) (v : Value) : Room (W.setCell p v) b n := by
  obtain ⟨c, t, hs, hb⟩ := h
  by_cases hp : p.block = b
  · refine ⟨if p.spot.isSome then c else c.setIfInBounds p.off v, t, by split <;> simp [hs], ?_⟩
    simp only [World.setCell, Array.getElem?_modify, hp, if_pos, hb, Option.map_some]
  · exact ⟨c, t, hs, by rw [Below.heap_setCell W p v b (fun e => hp e.symm)]; exact hb⟩
theorem Room.back {W : World} {b n : Nat} {p : Addr} {v : Value} (h : Room (W.setCell p v) b n) : Room W b n := by
  obtain ⟨c, t, hs, hb⟩ := h
  by_cases hp : p.block = b
  · simp only [World.setCell, Array.getElem?_modify, hp, if_pos] at hb
    cases hw : W.heap[b]? with
    | none => rw [hw] at hb; simp at hb
    | some o =>
      rw [hw] at hb
      cases o with
      | cells c' t' f =>
        simp only [Option.map_some, Option.some.injEq, Obj.cells.injEq] at hb
        obtain ⟨h1, rfl, rfl⟩ := hb
        refine ⟨c', t', ?_, hw⟩
        rw [← hs, ← h1]
        split <;> simp
      | _ => simp at hb
  · exact ⟨c, t, hs, by rw [Below.heap_setCell W p v b (fun e => hp e.symm)] at hb; exact hb⟩
theorem Own.room {n m i : Nat} {w W W1 : World} (h : Own n w W) (hb : Below W.heap.size W W1) (hr : Room W (w.heap.size + i) m) (hi : i < n) : Room W1 (w.heap.size + i) m := by
  obtain ⟨c, t, hs, hc⟩ := hr
  exact ⟨c, t, hs, by rw [hb.block _ (by have := h.1; omega)]; exact hc⟩
theorem Own.room0 {n m : Nat} {w W W1 : World} (h : Own n w W) (hb : Below W.heap.size W W1) (hr : Room W w.heap.size m) (hi : 0 < n) : Room W1 w.heap.size m := h.room (i := 0) hb hr hi
theorem Own.set {n : Nat} {w W : World} (h : Own n w W) {p : Addr} (hp : w.heap.size ≤ p.block) (v : Value) : Own n w (W.setCell p v) := ⟨by have := h.1; simpa [World.setCell] using this, h.2.setCell hp v⟩
theorem Own.drew {n : Nat} {w W : World} (h : Own n w W) : Own n w W.drew := ⟨h.1, h.2.drew⟩
theorem Own.alloc {n : Nat} {w W : World} (h : Own n w W) (o : Obj) : Own n w (W.alloc o) := ⟨by have := h.1; simp; omega, h.2.alloc (by have := h.1; omega) o⟩

end Go.Proofs.YtaoedfegakpjeabGreat

namespace Go.Proofs.YtaoedfegakpjeabGreat
open Go.RowKit

/-- The cell at an offset of a block. -/
def Obj.cellAt : Obj → Nat → Option Value
  | .cells c _ _, o => c[o]?
  | _, _ => none
/-- The world W has grown out of w: of its first k new blocks those of 'fx' hold what they held, those of 'rm' have so many cells that may be written. -/
structure Fr (k : Nat) (fx : List (Nat × Obj)) (rm : List (Nat × Nat)) (w W : World) : Prop where
  own : Own k w W
  fix : ∀ i o, fx.lookup i = some o → i < k ∧ W.heap[w.heap.size + i]? = some o
  room : ∀ i n, rm.lookup i = some n → i < k ∧ Room W (w.heap.size + i) n

section
variable {k : Nat} {fx : List (Nat × Obj)} {rm : List (Nat × Nat)} {w W W1 : World} {E : World → Prop}
theorem Fr.at {i o : Nat} {v : Value} (h : Fr k fx rm w W) (hv : ((fx.lookup i).bind fun b => Obj.cellAt b o) = some v) : W.cell? ⟨w.heap.size + i, o, none⟩ = some v := by
  obtain ⟨b, hb, hc⟩ := Option.bind_eq_some_iff.1 hv
  obtain ⟨_, hW⟩ := h.fix i b hb
  cases b with
  | cells c t f => simp only [World.cell?, hW]; simpa [Obj.cellAt] using hc
  | _ => simp [Obj.cellAt] at hc
theorem Fr.at0 {o : Nat} {v : Value} (h : Fr k fx rm w W) (hv : ((fx.lookup 0).bind fun b => Obj.cellAt b o) = some v) : W.cell? ⟨w.heap.size, o, none⟩ = some v := h.at (i := 0) hv
theorem Fr.rms {i n : Nat} (h : Fr k fx rm w W) (hv : rm.lookup i = some n) : Room W (w.heap.size + i) n := (h.room i n hv).2
theorem Fr.rms0 {n : Nat} (h : Fr k fx rm w W) (hv : rm.lookup 0 = some n) : Room W w.heap.size n := (h.room 0 n hv).2
theorem Fr.call (h : Fr k fx rm w W) (hb : Below W.heap.size W W1) : Fr k fx rm w W1 :=
  ⟨h.own.call hb, fun i o hi => ⟨(h.fix i o hi).1, by rw [hb.block _ (by have := h.own.1; have := (h.fix i o hi).1; omega)]; exact (h.fix i o hi).2⟩,
    fun i n hi => ⟨(h.room i n hi).1, h.own.room hb (h.room i n hi).2 (h.room i n hi).1⟩⟩
theorem Fr.drew (h : Fr k fx rm w W) : Fr k fx rm w W.drew := ⟨h.own.drew, h.fix, h.room⟩
theorem Fr.alloc (h : Fr k fx rm w W) (o : Obj) : Fr k fx rm w (W.alloc o) :=
  ⟨h.own.alloc o, fun i b hi => ⟨(h.fix i b hi).1, by rw [Below.heap_alloc W o _ (by have := h.own.1; have := (h.fix i b hi).1; omega)]; exact (h.fix i b hi).2⟩,
    fun i n hi => ⟨(h.room i n hi).1, (h.room i n hi).2.alloc o⟩⟩
theorem Fr.set (h : Fr k fx rm w W) {p : Addr} (hp : w.heap.size ≤ p.block) (hq : (fx.lookup (p.block - w.heap.size)).isNone = true) (v : Value) : Fr k fx rm w (W.setCell p v) :=
  ⟨h.own.set hp v, fun i b hi => ⟨(h.fix i b hi).1, by
      rw [Below.heap_setCell W p v _ (fun e => by rw [← e, Nat.add_sub_cancel_left, hi] at hq; simp at hq)]; exact (h.fix i b hi).2⟩,
    fun i n hi => ⟨(h.room i n hi).1, (h.room i n hi).2.set p v⟩⟩
theorem Fr.both (hE : ∀ W, Fr k fx rm w W → E W) (h : Fr k fx rm w W) : Fr k fx rm w W ∧ E W := ⟨h, hE _ h⟩
theorem Fr.keep (hE : ∀ W, Fr k fx rm w W → E W) (h : Fr k fx rm w W ∧ E W) (hb : Below W.heap.size W W1) : Fr k fx rm w W1 ∧ E W1 := Fr.both hE (h.1.call hb)
end

theorem keepP {P E : World → Prop} {W W1 : World} (hP : ∀ W W1, P W → Below W.heap.size W W1 → P W1) (hE : ∀ W, P W → E W) (h : P W ∧ E W) (hb : Below W.heap.size W W1) : P W1 ∧ E W1 := ⟨hP _ _ h.1 hb, hE _ (hP _ _ h.1 hb)⟩
theorem keep0 {P E : World → Prop} {W : World} (hE : ∀ W, P W → E W) (h : P W) : P W ∧ E W := ⟨h, hE _ h⟩

/-- The start: nothing new. -/
theorem Fr.nil (w : World) : Fr 0 [] [] w w := ⟨⟨by simp, Below.refl _ _⟩, fun _ _ h => by simp at h, fun _ _ h => by simp at h⟩
theorem lookup_snoc {α : Type} {l : List (Nat × α)} {k i : Nat} {a b : α} (h : (l ++ [(k, a)]).lookup i = some b) : l.lookup i = some b ∨ (i = k ∧ a = b) := by
  induction l with
  | nil =>
    simp only [List.nil_append, List.lookup] at h
    split at h
    · rename_i e; exact .inr ⟨by simpa using e, by simpa using h⟩
    · simp at h
  | cons x l ih =>
    obtain ⟨x1, x2⟩ := x
    simp only [List.cons_append, List.lookup] at h ⊢
    split at h
    · exact .inl h
    · exact ih h
/-- One fixed block more; one with room more. -/
theorem Fr.fixed {k : Nat} {fx : List (Nat × Obj)} {rm : List (Nat × Nat)} {w W : World} (h : Fr k fx rm w W) (hs : W.heap.size = w.heap.size + k) (o : Obj) : Fr (k + 1) (fx ++ [(k, o)]) rm w (W.alloc o) :=
  ⟨⟨by simp; omega, h.own.2.alloc (by omega) o⟩, fun i b hi => by
      rcases lookup_snoc hi with hi | ⟨rfl, rfl⟩
      · exact ⟨by have := (h.fix i b hi).1; omega, ((h.alloc o).fix i b hi).2⟩
      · exact ⟨by omega, by rw [← hs]; show (W.heap.push _)[W.heap.size]? = _; simp⟩,
    fun i n hi => ⟨by have := (h.room i n hi).1; omega, ((h.alloc o).room i n hi).2⟩⟩
theorem Fr.roomy {k : Nat} {fx : List (Nat × Obj)} {rm : List (Nat × Nat)} {w W : World} (h : Fr k fx rm w W) (hs : W.heap.size = w.heap.size + k) (c : Array Value) (t : TypeId) : Fr (k + 1) fx (rm ++ [(k, c.size)]) w (W.alloc (.cells c t)) :=
  ⟨⟨by simp; omega, h.own.2.alloc (by omega) _⟩, fun i b hi => ⟨by have := (h.fix i b hi).1; omega, ((h.alloc _).fix i b hi).2⟩,
    fun i n hi => by
      rcases lookup_snoc hi with hi | ⟨rfl, rfl⟩
      · exact ⟨by have := (h.room i n hi).1; omega, ((h.alloc _).room i n hi).2⟩
      · exact ⟨by omega, Room.new rfl (by omega)⟩⟩

end Go.Proofs.YtaoedfegakpjeabGreat
