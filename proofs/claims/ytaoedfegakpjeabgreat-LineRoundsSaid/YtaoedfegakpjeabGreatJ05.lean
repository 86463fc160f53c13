/- Contracts of the functions that the statement reaches, and plain lemmas: part 5 of 25. -/
import Derived.Test.YtaoedfegakpjeabGreatJ04
import Derived.Shelf.Small.Bits
import Derived.Shelf.Strconv.Itoa0
import Derived.Shelf.Bits.Mul64
import Derived.Ground.SlgnProg
import Derived.Shelf.SlicesG.SearchI
import Derived.Ground.SlgcProg
import Derived.Shelf.SlicesG.Cmp
import Derived.Test.YtaoedfegakpjeabGreatProg

namespace Go.Proofs.YtaoedfegakpjeabGreat
open Go.RowKit

noncomputable def leftV (p q r : Q4) : Int := vl (if opE p q [r] [] = 0 then sgn (dot r.a r.b r.c (crs p.b (opV p q [r] [] (p.dz q)) p.c (opV p q [r] [] (p.dy q))) (crs p.c (opV p q [r] [] (p.dx q)) p.a (opV p q [r] [] (p.dz q))) (crs p.a (opV p q [r] [] (p.dy q)) p.b (opV p q [r] [] (p.dx q)))) else 0)
theorem leftV_eq (p q r : Q4) : leftV p q r = (if opE p q [r] [] = 0 then sgn (dot r.a r.b r.c (crs p.b (opV p q [r] [] (p.dz q)) p.c (opV p q [r] [] (p.dy q))) (crs p.c (opV p q [r] [] (p.dx q)) p.a (opV p q [r] [] (p.dz q))) (crs p.a (opV p q [r] [] (p.dy q)) p.b (opV p q [r] [] (p.dx q)))) else 0) := vl_eq _

set_option maxHeartbeats 400000 in
theorem left_bad (p q r : Q4) (w : World) (ip : p.I64) (iq : q.I64) (ir : r.I64) (h1 : (opE p q [r] [] != 0) = true) (h2 : ¬ opE p q [r] [] = 0) :
    Calls Tryz.prog 9 #[.agg #[.int .i64 (p.a), .int .i64 (p.b), .int .i64 (p.c), .int .i64 (p.d)], .agg #[.int .i64 (q.a), .int .i64 (q.b), .int .i64 (q.c), .int .i64 (q.d)], .agg #[.int .i64 (r.a), .int .i64 (r.b), .int .i64 (r.c), .int .i64 (r.d)]] w fun e w' => e = .returned (.tuple #[.int .i64 (leftV p q r), .int .i64 (opE p q [r] [])]) ∧ Below w.heap.size w w' := by
  have HV : Hid (leftV p q r = 0) := by unfold Hid; rw [leftV_eq, if_neg h2]
  go_enter Tryz.func9, Tryz.ntmps9
  have hE : ∀ W, Fr 3 [(0, .cells #[.int .i64 (p.a), .int .i64 (p.b), .int .i64 (p.c), .int .i64 (p.d)] 23), (1, .cells #[.int .i64 (q.a), .int .i64 (q.b), .int .i64 (q.c), .int .i64 (q.d)] 23), (2, .cells #[.int .i64 (r.a), .int .i64 (r.b), .int .i64 (r.c), .int .i64 (r.d)] 23)] [] w W → (W.cell? ⟨w.heap.size, 0, none⟩ = some (.int .i64 (p.a)) ∧ W.cell? ⟨w.heap.size, 1, none⟩ = some (.int .i64 (p.b)) ∧ W.cell? ⟨w.heap.size, 2, none⟩ = some (.int .i64 (p.c)) ∧ W.cell? ⟨w.heap.size, 3, none⟩ = some (.int .i64 (p.d)) ∧ W.cell? ⟨w.heap.size + 1, 0, none⟩ = some (.int .i64 (q.a)) ∧ W.cell? ⟨w.heap.size + 1, 1, none⟩ = some (.int .i64 (q.b)) ∧ W.cell? ⟨w.heap.size + 1, 2, none⟩ = some (.int .i64 (q.c)) ∧ W.cell? ⟨w.heap.size + 1, 3, none⟩ = some (.int .i64 (q.d)) ∧ W.cell? ⟨w.heap.size + 2, 0, none⟩ = some (.int .i64 (r.a)) ∧ W.cell? ⟨w.heap.size + 2, 1, none⟩ = some (.int .i64 (r.b)) ∧ W.cell? ⟨w.heap.size + 2, 2, none⟩ = some (.int .i64 (r.c)) ∧ W.cell? ⟨w.heap.size + 2, 3, none⟩ = some (.int .i64 (r.d))) := fun W h => by (repeat' apply And.intro) <;> first | exact h.at0 rfl | exact h.at rfl | exact (h.rms0 rfl).cell | exact (h.rms rfl).cell | exact (h.rms0 rfl).frozen | exact (h.rms rfl).frozen
  have HE := Lib.hid hE
  clear hE
  go_wp2_with (go_at_call 33; refine (opened_any p q [r] [] _ _ _ ip iq (len1 r) len0 (one_i64 ir) nil_i64 (by refine SlV.mk rfl ?_ (sl4_one ⟨?_, ?_, ?_, ?_⟩) <;> simp [go_sem]) (SlV.nil _)).mono ?_; rintro e w1 ⟨rfl, hb1⟩; (try clear hq); (try clear hz); have hF : Fr 3 [(0, .cells #[.int .i64 (p.a), .int .i64 (p.b), .int .i64 (p.c), .int .i64 (p.d)] 23), (1, .cells #[.int .i64 (q.a), .int .i64 (q.b), .int .i64 (q.c), .int .i64 (q.d)] 23), (2, .cells #[.int .i64 (r.a), .int .i64 (r.b), .int .i64 (r.c), .int .i64 (r.d)] 23)] [] w w1 := Fr.call (by (repeat (first | exact hF | exact ((((Fr.nil w).fixed (by simp) (.cells #[.int .i64 (p.a), .int .i64 (p.b), .int .i64 (p.c), .int .i64 (p.d)] 23)).fixed (by simp) (.cells #[.int .i64 (q.a), .int .i64 (q.b), .int .i64 (q.c), .int .i64 (q.d)] 23)).fixed (by simp) (.cells #[.int .i64 (r.a), .int .i64 (r.b), .int .i64 (r.c), .int .i64 (r.d)] 23)) | exact And.left (by assumption) | refine Fr.set ?_ (by first | (simp; done) | (simp; omega)) (by first | (simp [List.lookup]; done) | (simp [Nat.add_assoc, List.lookup]; done)) _ | refine Fr.drew ?_ | refine Fr.alloc ?_ _))) hb1; have hq := HE.out _ hF; have hz : w.heap.size < w1.heap.size ∧ w.heap.size + 1 < w1.heap.size ∧ w.heap.size + 2 < w1.heap.size := by have hs := Own.size (Fr.own hF); omega)
  go_ret2
  refine ⟨?_, ?_⟩
  · rw [HV.out]; rfl
  · refine Own.below (Fr.own (k := 3) (fx := [(0, .cells #[.int .i64 (p.a), .int .i64 (p.b), .int .i64 (p.c), .int .i64 (p.d)] 23), (1, .cells #[.int .i64 (q.a), .int .i64 (q.b), .int .i64 (q.c), .int .i64 (q.d)] 23), (2, .cells #[.int .i64 (r.a), .int .i64 (r.b), .int .i64 (r.c), .int .i64 (r.d)] 23)]) (rm := []) ?_); (repeat (first | exact hF | exact And.left (by assumption) | refine Fr.set ?_ (by first | (simp; done) | (simp; omega)) (by first | (simp [List.lookup]; done) | (simp [Nat.add_assoc, List.lookup]; done)) _ | refine Fr.drew ?_ | refine Fr.alloc ?_ _))

set_option maxHeartbeats 400000 in
theorem left_ok (p q r : Q4) (w : World) (ip : p.I64) (iq : q.I64) (ir : r.I64) (h1 : opE p q [r] [] = 0) :
    Calls Tryz.prog 9 #[.agg #[.int .i64 (p.a), .int .i64 (p.b), .int .i64 (p.c), .int .i64 (p.d)], .agg #[.int .i64 (q.a), .int .i64 (q.b), .int .i64 (q.c), .int .i64 (q.d)], .agg #[.int .i64 (r.a), .int .i64 (r.b), .int .i64 (r.c), .int .i64 (r.d)]] w fun e w' => e = .returned (.tuple #[.int .i64 (leftV p q r), .int .i64 (opE p q [r] [])]) ∧ Below w.heap.size w w' := by
  have HV : Hid (leftV p q r = sgn (dot r.a r.b r.c (crs p.b (opV p q [r] [] (p.dz q)) p.c (opV p q [r] [] (p.dy q))) (crs p.c (opV p q [r] [] (p.dx q)) p.a (opV p q [r] [] (p.dz q))) (crs p.a (opV p q [r] [] (p.dy q)) p.b (opV p q [r] [] (p.dx q))))) := by unfold Hid; rw [leftV_eq, if_pos h1]
  go_enter Tryz.func9, Tryz.ntmps9
  have hE : ∀ W, Fr 3 [(0, .cells #[.int .i64 (p.a), .int .i64 (p.b), .int .i64 (p.c), .int .i64 (p.d)] 23), (1, .cells #[.int .i64 (q.a), .int .i64 (q.b), .int .i64 (q.c), .int .i64 (q.d)] 23), (2, .cells #[.int .i64 (r.a), .int .i64 (r.b), .int .i64 (r.c), .int .i64 (r.d)] 23)] [] w W → (W.cell? ⟨w.heap.size, 0, none⟩ = some (.int .i64 (p.a)) ∧ W.cell? ⟨w.heap.size, 1, none⟩ = some (.int .i64 (p.b)) ∧ W.cell? ⟨w.heap.size, 2, none⟩ = some (.int .i64 (p.c)) ∧ W.cell? ⟨w.heap.size, 3, none⟩ = some (.int .i64 (p.d)) ∧ W.cell? ⟨w.heap.size + 1, 0, none⟩ = some (.int .i64 (q.a)) ∧ W.cell? ⟨w.heap.size + 1, 1, none⟩ = some (.int .i64 (q.b)) ∧ W.cell? ⟨w.heap.size + 1, 2, none⟩ = some (.int .i64 (q.c)) ∧ W.cell? ⟨w.heap.size + 1, 3, none⟩ = some (.int .i64 (q.d)) ∧ W.cell? ⟨w.heap.size + 2, 0, none⟩ = some (.int .i64 (r.a)) ∧ W.cell? ⟨w.heap.size + 2, 1, none⟩ = some (.int .i64 (r.b)) ∧ W.cell? ⟨w.heap.size + 2, 2, none⟩ = some (.int .i64 (r.c)) ∧ W.cell? ⟨w.heap.size + 2, 3, none⟩ = some (.int .i64 (r.d))) := fun W h => by (repeat' apply And.intro) <;> first | exact h.at0 rfl | exact h.at rfl | exact (h.rms0 rfl).cell | exact (h.rms rfl).cell | exact (h.rms0 rfl).frozen | exact (h.rms rfl).frozen
  have HE := Lib.hid hE
  clear hE
  go_wp2_with (go_at_call 33; refine (opened_any p q [r] [] _ _ _ ip iq (len1 r) len0 (one_i64 ir) nil_i64 (by refine SlV.mk rfl ?_ (sl4_one ⟨?_, ?_, ?_, ?_⟩) <;> simp [go_sem]) (SlV.nil _)).mono ?_; rintro e w1 ⟨rfl, hb1⟩; (try clear hq); (try clear hz); have hF : Fr 3 [(0, .cells #[.int .i64 (p.a), .int .i64 (p.b), .int .i64 (p.c), .int .i64 (p.d)] 23), (1, .cells #[.int .i64 (q.a), .int .i64 (q.b), .int .i64 (q.c), .int .i64 (q.d)] 23), (2, .cells #[.int .i64 (r.a), .int .i64 (r.b), .int .i64 (r.c), .int .i64 (r.d)] 23)] [] w w1 := Fr.call (by (repeat (first | exact hF | exact ((((Fr.nil w).fixed (by simp) (.cells #[.int .i64 (p.a), .int .i64 (p.b), .int .i64 (p.c), .int .i64 (p.d)] 23)).fixed (by simp) (.cells #[.int .i64 (q.a), .int .i64 (q.b), .int .i64 (q.c), .int .i64 (q.d)] 23)).fixed (by simp) (.cells #[.int .i64 (r.a), .int .i64 (r.b), .int .i64 (r.c), .int .i64 (r.d)] 23)) | exact And.left (by assumption) | refine Fr.set ?_ (by first | (simp; done) | (simp; omega)) (by first | (simp [List.lookup]; done) | (simp [Nat.add_assoc, List.lookup]; done)) _ | refine Fr.drew ?_ | refine Fr.alloc ?_ _))) hb1; have hq := HE.out _ hF; have hz : w.heap.size < w1.heap.size ∧ w.heap.size + 1 < w1.heap.size ∧ w.heap.size + 2 < w1.heap.size := by have hs := Own.size (Fr.own hF); omega)
  have hF2 : Fr 3 [(0, .cells #[.int .i64 (p.a), .int .i64 (p.b), .int .i64 (p.c), .int .i64 (p.d)] 23), (1, .cells #[.int .i64 (q.a), .int .i64 (q.b), .int .i64 (q.c), .int .i64 (q.d)] 23), (2, .cells #[.int .i64 (r.a), .int .i64 (r.b), .int .i64 (r.c), .int .i64 (r.d)] 23)] [] w (World.alloc w1 (.cells #[.int .i64 (opV p q [r] [] (p.dx q)), .int .i64 (opV p q [r] [] (p.dy q)), .int .i64 (opV p q [r] [] (p.dz q))] 66)) ∧ Fr 1 [(0, .cells #[.int .i64 (opV p q [r] [] (p.dx q)), .int .i64 (opV p q [r] [] (p.dy q)), .int .i64 (opV p q [r] [] (p.dz q))] 66)] [] w1 (World.alloc w1 (.cells #[.int .i64 (opV p q [r] [] (p.dx q)), .int .i64 (opV p q [r] [] (p.dy q)), .int .i64 (opV p q [r] [] (p.dz q))] 66)) := ⟨hF.alloc _, (Fr.nil w1).fixed (by simp) _⟩
  have hE2 : ∀ W, (Fr 3 [(0, .cells #[.int .i64 (p.a), .int .i64 (p.b), .int .i64 (p.c), .int .i64 (p.d)] 23), (1, .cells #[.int .i64 (q.a), .int .i64 (q.b), .int .i64 (q.c), .int .i64 (q.d)] 23), (2, .cells #[.int .i64 (r.a), .int .i64 (r.b), .int .i64 (r.c), .int .i64 (r.d)] 23)] [] w W ∧ Fr 1 [(0, .cells #[.int .i64 (opV p q [r] [] (p.dx q)), .int .i64 (opV p q [r] [] (p.dy q)), .int .i64 (opV p q [r] [] (p.dz q))] 66)] [] w1 W) → ((W.cell? ⟨w.heap.size, 0, none⟩ = some (.int .i64 (p.a)) ∧ W.cell? ⟨w.heap.size, 1, none⟩ = some (.int .i64 (p.b)) ∧ W.cell? ⟨w.heap.size, 2, none⟩ = some (.int .i64 (p.c)) ∧ W.cell? ⟨w.heap.size, 3, none⟩ = some (.int .i64 (p.d)) ∧ W.cell? ⟨w.heap.size + 1, 0, none⟩ = some (.int .i64 (q.a)) ∧ W.cell? ⟨w.heap.size + 1, 1, none⟩ = some (.int .i64 (q.b)) ∧ W.cell? ⟨w.heap.size + 1, 2, none⟩ = some (.int .i64 (q.c)) ∧ W.cell? ⟨w.heap.size + 1, 3, none⟩ = some (.int .i64 (q.d)) ∧ W.cell? ⟨w.heap.size + 2, 0, none⟩ = some (.int .i64 (r.a)) ∧ W.cell? ⟨w.heap.size + 2, 1, none⟩ = some (.int .i64 (r.b)) ∧ W.cell? ⟨w.heap.size + 2, 2, none⟩ = some (.int .i64 (r.c)) ∧ W.cell? ⟨w.heap.size + 2, 3, none⟩ = some (.int .i64 (r.d))) ∧ W.cell? ⟨w1.heap.size, 0, none⟩ = some (.int .i64 (opV p q [r] [] (p.dx q))) ∧ W.cell? ⟨w1.heap.size, 1, none⟩ = some (.int .i64 (opV p q [r] [] (p.dy q))) ∧ W.cell? ⟨w1.heap.size, 2, none⟩ = some (.int .i64 (opV p q [r] [] (p.dz q)))) := fun W hh => ⟨HE.out W hh.1, by have h := hh.2; (repeat' apply And.intro) <;> first | exact h.at0 rfl | exact h.at rfl⟩
  have HE2 := Lib.hid hE2
  clear hE2
  go_region_held3 (fun W => (Fr 3 [(0, .cells #[.int .i64 (p.a), .int .i64 (p.b), .int .i64 (p.c), .int .i64 (p.d)] 23), (1, .cells #[.int .i64 (q.a), .int .i64 (q.b), .int .i64 (q.c), .int .i64 (q.d)] 23), (2, .cells #[.int .i64 (r.a), .int .i64 (r.b), .int .i64 (r.c), .int .i64 (r.d)] 23)] [] w W ∧ Fr 1 [(0, .cells #[.int .i64 (opV p q [r] [] (p.dx q)), .int .i64 (opV p q [r] [] (p.dy q)), .int .i64 (opV p q [r] [] (p.dz q))] 66)] [] w1 W) ∧ (W.cell? ⟨w.heap.size, 0, none⟩ = some (.int .i64 (p.a)) ∧ W.cell? ⟨w.heap.size, 1, none⟩ = some (.int .i64 (p.b)) ∧ W.cell? ⟨w.heap.size, 2, none⟩ = some (.int .i64 (p.c)) ∧ W.cell? ⟨w.heap.size, 3, none⟩ = some (.int .i64 (p.d)) ∧ W.cell? ⟨w.heap.size + 1, 0, none⟩ = some (.int .i64 (q.a)) ∧ W.cell? ⟨w.heap.size + 1, 1, none⟩ = some (.int .i64 (q.b)) ∧ W.cell? ⟨w.heap.size + 1, 2, none⟩ = some (.int .i64 (q.c)) ∧ W.cell? ⟨w.heap.size + 1, 3, none⟩ = some (.int .i64 (q.d)) ∧ W.cell? ⟨w.heap.size + 2, 0, none⟩ = some (.int .i64 (r.a)) ∧ W.cell? ⟨w.heap.size + 2, 1, none⟩ = some (.int .i64 (r.b)) ∧ W.cell? ⟨w.heap.size + 2, 2, none⟩ = some (.int .i64 (r.c)) ∧ W.cell? ⟨w.heap.size + 2, 3, none⟩ = some (.int .i64 (r.d))) ∧ W.cell? ⟨w1.heap.size, 0, none⟩ = some (.int .i64 (opV p q [r] [] (p.dx q))) ∧ W.cell? ⟨w1.heap.size, 1, none⟩ = some (.int .i64 (opV p q [r] [] (p.dy q))) ∧ W.cell? ⟨w1.heap.size, 2, none⟩ = some (.int .i64 (opV p q [r] [] (p.dz q)))) ((first | assumption | (have hq := keepP (fun W W1 h hb => ⟨h.1.call hb, h.2.call hb⟩) HE2.out (by assumption) hb1; exact hq) | (have hq := keep0 HE2.out ⟨hF2.1.drew, hF2.2.drew⟩; exact hq))) (first | (go_at_call 35; refine (normal_any _ _ _ _ _).mono ?_; rintro e w1 ⟨rfl, hb1⟩) | (go_at_call 36; refine (cross_any _ _ _ _ _ _ _).mono ?_; rintro e w1 ⟨rfl, hb1⟩) | (go_at_call 34; refine (signv_any _ _ _ _ _ _ _).mono ?_; rintro e w1 ⟨rfl, hb1⟩))
  go_wp2
  go_ret2
  obtain ⟨⟨hG, -⟩, -⟩ : (Fr 3 _ _ w _ ∧ _) ∧ _ := by assumption
  refine ⟨?_, hG.own.below⟩
  rw [HV.out, h1]; rfl

theorem crosses_any (p q r : Q4) (w : World) (ip : p.I64) (iq : q.I64) (ir : r.I64) :
    Calls Tryz.prog 8 #[.agg #[.int .i64 (p.a), .int .i64 (p.b), .int .i64 (p.c), .int .i64 (p.d)], .agg #[.int .i64 (q.a), .int .i64 (q.b), .int .i64 (q.c), .int .i64 (q.d)], .agg #[.int .i64 (r.a), .int .i64 (r.b), .int .i64 (r.c), .int .i64 (r.d)]] w fun e w' => e = .returned (.tuple #[.int .i64 (crossV p q r), .int .i64 (opE p q [r] [])]) ∧ Below w.heap.size w w' := by
  by_cases h : opE p q [r] [] = 0
  · exact crosses_ok p q r w ip iq ir h
  · exact crosses_bad p q r w ip iq ir (by simpa using h) h

theorem left_any (p q r : Q4) (w : World) (ip : p.I64) (iq : q.I64) (ir : r.I64) :
    Calls Tryz.prog 9 #[.agg #[.int .i64 (p.a), .int .i64 (p.b), .int .i64 (p.c), .int .i64 (p.d)], .agg #[.int .i64 (q.a), .int .i64 (q.b), .int .i64 (q.c), .int .i64 (q.d)], .agg #[.int .i64 (r.a), .int .i64 (r.b), .int .i64 (r.c), .int .i64 (r.d)]] w fun e w' => e = .returned (.tuple #[.int .i64 (leftV p q r), .int .i64 (opE p q [r] [])]) ∧ Below w.heap.size w w' := by
  by_cases h : opE p q [r] [] = 0
  · exact left_ok p q r w ip iq ir h
  · exact left_bad p q r w ip iq ir (by simpa using h) h

end Go.Proofs.YtaoedfegakpjeabGreat

namespace Go.Proofs.YtaoedfegakpjeabGreat
open Go.RowKit

/-- A direction's element is too large. -/
noncomputable def outB (n : Int) : Bool := vlB (decide (n < -2000000) || decide (2000000 < n))
theorem outB_eq (n : Int) : outB n = (decide (n < -2000000) || decide (2000000 < n)) := vlB_eq _

set_option maxHeartbeats 400000 in
theorem out_any (n : Int) (w : World) :
    Calls Tryz.prog 71 #[.int .i64 n] w fun e w' => e = .returned (.bool (outB n)) ∧ w = w' := by
  go_enter Tryz.func71, Tryz.ntmps71
  go_wp2
  all_goals (go_ret; refine ⟨ret_bool ?_, rfl⟩; rw [outB_eq])
  all_goals (first | (simp; done) | (simp; omega))

set_option maxHeartbeats 400000 in
theorem nonzero_any (n : Int) (w : World) :
    Calls Tryz.prog 96 #[.int .i64 n] w fun e w' => e = .returned (.bool (n != 0)) ∧ w = w' := by
  go_enter Tryz.func96, Tryz.ntmps96
  go_wp2
  go_ret
  exact ⟨rfl, rfl⟩

set_option maxHeartbeats 400000 in
theorem indexOut_any (zs : List Int) (b o cap : Nat) (w : World) (hl : zs.length ≤ 1000000) (hc : ∀ i z, zs[i]? = some z → w.cell? ⟨b, o + i, none⟩ = some (.int .i64 z)) :
    Calls Tryz.prog 95 #[.slice (some ⟨b, o, none⟩) zs.length cap, .func (.func 71) #[] #[]] w fun e w' => e = .returned (.int .i64 (firstI outB zs)) ∧ w = w' := by
  have HC := Lib.hid hc
  clear hc
  go_enter Tryz.func95, Tryz.ntmps95
  go_wp2
  go_loop [8] (fun v => ∃ k : Nat, k ≤ zs.length ∧ v = .int .i64 k ∧ Hid (∀ i y, i < k → zs[i]? = some y → outB y = false)) (fun v => zs.length - (intOf v).toNat)
  case atStart => exact ⟨0, Nat.zero_le _, rfl, fun i y h => by omega⟩
  case round =>
    obtain ⟨k, hk, rfl, HN⟩ := hrel
    by_cases hlt : k < zs.length
    · obtain ⟨q, hq⟩ : ∃ q, zs[k]? = some q := ⟨_, List.getElem?_eq_getElem hlt⟩
      have c0 := HC.out k q hq
      have HQ := Lib.hid hq
      clear hq
      cases hp : outB q with
      | true =>
        have HP := Lib.hid hp
        have hp' : outB q = true := hp
        clear hp
        go_wp2_with (go_at_call 71; refine (out_any _ _).mono ?_; rintro e w1 ⟨rfl, rfl⟩)
        go_ret
        exact ⟨ret_int (by rw [firstI_hit HQ.out HP.out HN.out]), rfl⟩
      | false =>
        have HP := Lib.hid hp
        have hp' : outB q = false := hp
        clear hp
        go_wp2_with (go_at_call 71; refine (out_any _ _).mono ?_; rintro e w1 ⟨rfl, rfl⟩)
        go_round
        case rel =>
          refine ⟨k + 1, by omega, by go_num, fun i y h1 h2 => ?_⟩
          rcases Nat.lt_succ_iff_lt_or_eq.1 h1 with h | h
          · exact HN.out i y h h2
          · subst h
            have e : q = y := Option.some.inj (HQ.out.symm.trans h2)
            rw [← e]; exact HP.out
        case measure => simp [intOf]; omega
    · have hkk : k = zs.length := by omega
      have HK := Lib.hid hkk
      clear hkk
      go_wp2
      go_ret
      exact ⟨ret_int (by rw [firstI_miss (fun i y h1 h2 => HN.out i y (by rw [HK.out]; exact h1) h2)]), rfl⟩

set_option maxHeartbeats 400000 in
theorem indexNonzero_any (zs : List Int) (b o cap : Nat) (w : World) (hl : zs.length ≤ 1000000) (hc : ∀ i z, zs[i]? = some z → w.cell? ⟨b, o + i, none⟩ = some (.int .i64 z)) :
    Calls Tryz.prog 95 #[.slice (some ⟨b, o, none⟩) zs.length cap, .func (.func 96) #[] #[]] w fun e w' => e = .returned (.int .i64 (firstI (fun n => n != 0) zs)) ∧ w = w' := by
  have HC := Lib.hid hc
  clear hc
  go_enter Tryz.func95, Tryz.ntmps95
  go_wp2
  go_loop [8] (fun v => ∃ k : Nat, k ≤ zs.length ∧ v = .int .i64 k ∧ Hid (∀ i y, i < k → zs[i]? = some y → (fun n => n != 0) y = false)) (fun v => zs.length - (intOf v).toNat)
  case atStart => exact ⟨0, Nat.zero_le _, rfl, fun i y h => by omega⟩
  case round =>
    obtain ⟨k, hk, rfl, HN⟩ := hrel
    by_cases hlt : k < zs.length
    · obtain ⟨q, hq⟩ : ∃ q, zs[k]? = some q := ⟨_, List.getElem?_eq_getElem hlt⟩
      have c0 := HC.out k q hq
      have HQ := Lib.hid hq
      clear hq
      cases hp : (fun n => n != 0) q with
      | true =>
        have HP := Lib.hid hp
        have hp' : (q != 0) = true := hp
        clear hp
        go_wp2_with (go_at_call 96; refine (nonzero_any _ _).mono ?_; rintro e w1 ⟨rfl, rfl⟩)
        go_ret
        exact ⟨ret_int (by rw [firstI_hit HQ.out HP.out HN.out]), rfl⟩
      | false =>
        have HP := Lib.hid hp
        have hp' : (q != 0) = false := hp
        clear hp
        go_wp2_with (go_at_call 96; refine (nonzero_any _ _).mono ?_; rintro e w1 ⟨rfl, rfl⟩)
        go_round
        case rel =>
          refine ⟨k + 1, by omega, by go_num, fun i y h1 h2 => ?_⟩
          rcases Nat.lt_succ_iff_lt_or_eq.1 h1 with h | h
          · exact HN.out i y h h2
          · subst h
            have e : q = y := Option.some.inj (HQ.out.symm.trans h2)
            rw [← e]; exact HP.out
        case measure => simp [intOf]; omega
    · have hkk : k = zs.length := by omega
      have HK := Lib.hid hkk
      clear hkk
      go_wp2
      go_ret
      exact ⟨ret_int (by rw [firstI_miss (fun i y h1 h2 => HN.out i y (by rw [HK.out]; exact h1) h2)]), rfl⟩

set_option maxHeartbeats 400000 in
theorem containsOut_any (zs : List Int) (b o cap : Nat) (w : World) (hl : zs.length ≤ 1000000) (hc : ∀ i z, zs[i]? = some z → w.cell? ⟨b, o + i, none⟩ = some (.int .i64 z)) :
    Calls Tryz.prog 70 #[.slice (some ⟨b, o, none⟩) zs.length cap, .func (.func 71) #[] #[]] w fun e w' => e = .returned (.bool (zs.any outB)) ∧ w = w' := by
  have HC := Lib.hid hc
  clear hc
  go_enter Tryz.func70, Tryz.ntmps70
  go_wp2_with (go_at_call 95; refine (indexOut_any zs b o cap _ hl HC.out).mono ?_; rintro e w1 ⟨rfl, rfl⟩)
  go_ret
  exact ⟨ret_bool (firstI_all _ _), rfl⟩

/-- Of three numbers. -/
noncomputable def out3 (a b c : Int) : Bool := vlB ([a, b, c].any outB)
theorem out3_eq (a b c : Int) : out3 a b c = [a, b, c].any outB := vlB_eq _
theorem containsOut3 (a b c : Int) (bl o cap : Nat) (w : World) (h0 : w.cell? ⟨bl, o, none⟩ = some (.int .i64 a)) (h1 : w.cell? ⟨bl, o + 1, none⟩ = some (.int .i64 b)) (h2 : w.cell? ⟨bl, o + 2, none⟩ = some (.int .i64 c)) :
    Calls Tryz.prog 70 #[.slice (some ⟨bl, o, none⟩) 3 cap, .func (.func 71) #[] #[]] w fun e w' => e = .returned (.bool (out3 a b c)) ∧ w = w' := by
  rw [out3_eq]
  exact containsOut_any [a, b, c] bl o cap w (by simp) (fun i z hi => by match i, hi with | 0, hi => simp at hi; subst hi; exact h0 | 1, hi => simp at hi; subst hi; exact h1 | 2, hi => simp at hi; subst hi; exact h2)
theorem indexNonzero3 (a b c : Int) (bl o cap : Nat) (w : World) (h0 : w.cell? ⟨bl, o, none⟩ = some (.int .i64 a)) (h1 : w.cell? ⟨bl, o + 1, none⟩ = some (.int .i64 b)) (h2 : w.cell? ⟨bl, o + 2, none⟩ = some (.int .i64 c)) :
    Calls Tryz.prog 95 #[.slice (some ⟨bl, o, none⟩) 3 cap, .func (.func 96) #[] #[]] w fun e w' => e = .returned (.int .i64 (firstI (fun n => n != 0) [a, b, c])) ∧ w = w' :=
  indexNonzero_any [a, b, c] bl o cap w (by simp) (fun i z hi => by match i, hi with | 0, hi => simp at hi; subst hi; exact h0 | 1, hi => simp at hi; subst hi; exact h1 | 2, hi => simp at hi; subst hi; exact h2)

end Go.Proofs.YtaoedfegakpjeabGreat

namespace Go.Proofs.YtaoedfegakpjeabGreat
open Go.RowKit

/-- Three numbers: a direction. -/
structure T3 where
  x : Int
  y : Int
  z : Int
def At3 (W : World) (b o : Nat) (v : T3) : Prop := W.cell? ⟨b, o, none⟩ = some (.int .i64 v.x) ∧ W.cell? ⟨b, o + 1, none⟩ = some (.int .i64 v.y) ∧ W.cell? ⟨b, o + 2, none⟩ = some (.int .i64 v.z)
def Sl3 (W : World) (b o : Nat) (ps : List T3) : Prop := ∀ i q, ps[i]? = some q → At3 W b (o + i * 3) q
theorem At3.below {W W1 : World} {b o B : Nat} {q : T3} (h : At3 W b o q) (hb : Below B W W1) (hB : b < B) : At3 W1 b o q :=
  ⟨(hb.cell (p := ⟨b, _, none⟩) hB).trans h.1, (hb.cell (p := ⟨b, _, none⟩) hB).trans h.2.1, (hb.cell (p := ⟨b, _, none⟩) hB).trans h.2.2⟩
theorem Sl3.below {W W1 : World} {b o B : Nat} {ps : List T3} (h : Sl3 W b o ps) (hb : Below B W W1) (hB : b < B) : Sl3 W1 b o ps := fun i q hi => (h i q hi).below hb hB

/-- A vector is no direction in a plane. -/
noncomputable def badV (p : Q4) (v : T3) : Bool := vlB (eq3B v.x v.y v.z 0 0 0 || (out3 v.x v.y v.z || dot p.a p.b p.c v.x v.y v.z != 0))
theorem badV_eq (p : Q4) (v : T3) : badV p v = (eq3B v.x v.y v.z 0 0 0 || (out3 v.x v.y v.z || dot p.a p.b p.c v.x v.y v.z != 0)) := vlB_eq _

set_option maxHeartbeats 400000 in
theorem bad_any (p : Q4) (v : T3) (pb : Nat) (w : World) (hB : pb < w.heap.size) (c0 : w.cell? ⟨pb, 0, none⟩ = some (.int .i64 p.a)) (c1 : w.cell? ⟨pb, 1, none⟩ = some (.int .i64 p.b)) (c2 : w.cell? ⟨pb, 2, none⟩ = some (.int .i64 p.c)) (c3 : w.cell? ⟨pb, 3, none⟩ = some (.int .i64 p.d)) :
    Calls Tryz.prog 69 #[.agg #[.int .i64 (v.x), .int .i64 (v.y), .int .i64 (v.z)], .pointer (some ⟨pb, 0, none⟩)] w fun e w' => e = .returned (.bool (badV p v)) ∧ Below w.heap.size w w' := by
  cases h1 : eq3B v.x v.y v.z 0 0 0 with
  | true =>
    have HV : Hid (badV p v = true) := by unfold Hid; rw [badV_eq, h1]; rfl
    go_enter Tryz.func69, Tryz.ntmps69
    go_wp2
    go_quiet (fail)
    go_wp2
    go_ret
    refine ⟨ret_bool (by rw [HV.out]), ?_⟩
    exact below_drewN ((Below.refl _ _).alloc (Nat.le_refl _) _) _
  | false =>
    cases h2 : out3 v.x v.y v.z with
    | true =>
      have HV : Hid (badV p v = true) := by unfold Hid; rw [badV_eq, h1, h2]; rfl
      go_enter Tryz.func69, Tryz.ntmps69
      go_wp2
      go_region_with ((go_at_call 70; refine (containsOut3 v.x v.y v.z _ _ _ _ (by simp [go_sem]) (by simp [go_sem]) (by simp [go_sem])).mono ?_; rintro e w1 ⟨rfl, rfl⟩))
      all_goals go_wp2
      all_goals go_ret
      all_goals refine ⟨ret_bool (by rw [HV.out]), ?_⟩
      all_goals exact ((Below.refl _ _).alloc (Nat.le_refl _) _).drew
    | false =>
      have HV : Hid (badV p v = (dot p.a p.b p.c v.x v.y v.z != 0)) := by unfold Hid; rw [badV_eq, h1, h2]; rfl
      go_enter Tryz.func69, Tryz.ntmps69
      go_wp2
      have hE : ∀ W, Fr 1 [(0, .cells #[.int .i64 (v.x), .int .i64 (v.y), .int .i64 (v.z)] 24)] [] w W → (W.cell? ⟨w.heap.size, 0, none⟩ = some (.int .i64 (v.x)) ∧ W.cell? ⟨w.heap.size, 1, none⟩ = some (.int .i64 (v.y)) ∧ W.cell? ⟨w.heap.size, 2, none⟩ = some (.int .i64 (v.z)) ∧ W.cell? ⟨pb, 0, none⟩ = some (.int .i64 (p.a)) ∧ W.cell? ⟨pb, 1, none⟩ = some (.int .i64 (p.b)) ∧ W.cell? ⟨pb, 2, none⟩ = some (.int .i64 (p.c)) ∧ W.cell? ⟨pb, 3, none⟩ = some (.int .i64 (p.d))) := fun W h => by (repeat' apply And.intro) <;> first | exact h.at0 rfl | exact h.at rfl | exact (h.rms0 rfl).cell | exact (h.rms rfl).cell | exact (h.rms0 rfl).frozen | exact (h.rms rfl).frozen | exact (h.own.below.cell (p := ⟨pb, _, none⟩) hB).trans (by assumption)
      have HE := Lib.hid hE
      clear hE
      go_region_held3 (fun W => Fr 1 [(0, .cells #[.int .i64 (v.x), .int .i64 (v.y), .int .i64 (v.z)] 24)] [] w W ∧ W.cell? ⟨w.heap.size, 0, none⟩ = some (.int .i64 (v.x)) ∧ W.cell? ⟨w.heap.size, 1, none⟩ = some (.int .i64 (v.y)) ∧ W.cell? ⟨w.heap.size, 2, none⟩ = some (.int .i64 (v.z)) ∧ W.cell? ⟨pb, 0, none⟩ = some (.int .i64 (p.a)) ∧ W.cell? ⟨pb, 1, none⟩ = some (.int .i64 (p.b)) ∧ W.cell? ⟨pb, 2, none⟩ = some (.int .i64 (p.c)) ∧ W.cell? ⟨pb, 3, none⟩ = some (.int .i64 (p.d))) ((first | exact hSK | assumption | (have hq := Fr.keep HE.out (by assumption) hb1; exact hq) | (have hq := Fr.both HE.out hF.drew; exact hq) | (have hq := Fr.both HE.out ((Fr.nil w).fixed (by simp) (.cells #[.int .i64 (v.x), .int .i64 (v.y), .int .i64 (v.z)] 24)).drew; exact hq) | (refine Fr.both HE.out ?_; (repeat (first | exact hF | exact And.left (by assumption) | refine Fr.set ?_ (by first | (simp; done) | (simp; omega)) (by first | (simp [List.lookup]; done) | (simp [Nat.add_assoc, List.lookup]; done)) _ | refine Fr.drew ?_ | refine Fr.alloc ?_ _))))) (first | (go_at_call 70; refine (containsOut3 v.x v.y v.z _ _ _ _ (by simp [go_sem]) (by simp [go_sem]) (by simp [go_sem])).mono ?_; rintro e w1 ⟨rfl, rfl⟩) | (go_at_call 35; refine (normal_any _ _ _ _ _).mono ?_; rintro e w1 ⟨rfl, hb1⟩) | (go_at_call 72; refine (dot_any _ _ _ _ _ _ _).mono ?_; rintro e w1 ⟨rfl, hb1⟩))
      go_wp2
      go_ret
      obtain ⟨hF, -⟩ : Fr 1 _ _ w _ ∧ _ := by assumption
      exact ⟨ret_bool (by rw [HV.out]), hF.own.below⟩

set_option maxHeartbeats 400000 in
theorem indexBad_any (p : Q4) (ps : List T3) (pb b o cap : Nat) (w : World) (hl : ps.length ≤ 1000000) (hB : b < w.heap.size) (hP : pb < w.heap.size) (hc : Sl3 w b o ps) (hp : At4 w pb 0 p) :
    Calls Tryz.prog 94 #[.slice (some ⟨b, o, none⟩) ps.length cap, .func (.func 69) #[] #[.pointer (some ⟨pb, 0, none⟩)]] w fun e w' => e = .returned (.int .i64 (firstI (badV p) ps)) ∧ Below w.heap.size w w' := by
  have HC := Lib.hid hc
  have HP4 := Lib.hid hp
  clear hc hp
  go_enter Tryz.func94, Tryz.ntmps94
  go_wp2
  go_loopw [8] (fun v wr => ∃ k : Nat, k ≤ ps.length ∧ v = .int .i64 k ∧ Below w.heap.size w wr ∧ Hid (∀ i y, i < k → ps[i]? = some y → badV p y = false)) (fun v _ => ps.length - (intOf v).toNat)
  case atStart => exact ⟨0, Nat.zero_le _, rfl, Below.refl _ _, fun i y h => by omega⟩
  case round =>
    rename_i wr
    obtain ⟨k, hk, rfl, hw, HN⟩ := hrel
    by_cases hlt : k < ps.length
    · obtain ⟨q, hq⟩ : ∃ q, ps[k]? = some q := ⟨_, List.getElem?_eq_getElem hlt⟩
      obtain ⟨c0, c1, c2⟩ := (HC.out k q hq).below hw hB
      obtain ⟨d0, d1, d2, d3⟩ := HP4.out.below hw hP
      have hPr : pb < wr.heap.size := Nat.lt_of_lt_of_le hP hw.size
      have HQ := Lib.hid hq
      clear hq
      cases hp : badV p q with
      | true =>
        have HP := Lib.hid hp
        go_wp2_with (go_at_call 69; refine (bad_any p _ pb _ hPr d0 d1 d2 d3).mono ?_; rintro e w1 ⟨rfl, hb1⟩)
        go_ret
        refine ⟨ret_int ?_, hw.trans (hb1.mono hw.size)⟩
        rw [firstI_hit HQ.out HP.out HN.out]
      | false =>
        have HP := Lib.hid hp
        go_wp2_with (go_at_call 69; refine (bad_any p q pb _ hPr d0 d1 d2 d3).mono ?_; rintro e w1 ⟨rfl, hb1⟩)
        go_roundw
        case rel =>
          refine ⟨k + 1, by omega, by go_num, hw.trans (hb1.mono hw.size), fun i y h1 h2 => ?_⟩
          rcases Nat.lt_succ_iff_lt_or_eq.1 h1 with h | h
          · exact HN.out i y h h2
          · subst h
            have e : q = y := Option.some.inj (HQ.out.symm.trans h2)
            rw [← e]; exact HP.out
        case measure => simp [intOf]; omega
    · have hkk : k = ps.length := by omega
      have HK := Lib.hid hkk
      clear hkk
      go_wp2
      go_ret
      refine ⟨ret_int ?_, hw⟩
      rw [firstI_miss (fun i y h1 h2 => HN.out i y (by rw [HK.out]; exact h1) h2)]

set_option maxHeartbeats 400000 in
theorem containsBad_any (p : Q4) (ps : List T3) (pb b o cap : Nat) (w : World) (hl : ps.length ≤ 1000000) (hB : b < w.heap.size) (hP : pb < w.heap.size) (hc : Sl3 w b o ps) (hp : At4 w pb 0 p) :
    Calls Tryz.prog 68 #[.slice (some ⟨b, o, none⟩) ps.length cap, .func (.func 69) #[] #[.pointer (some ⟨pb, 0, none⟩)]] w fun e w' => e = .returned (.bool (ps.any (badV p))) ∧ Below w.heap.size w w' := by
  have HC := Lib.hid hc
  have HP4 := Lib.hid hp
  clear hc hp
  go_enter Tryz.func68, Tryz.ntmps68
  go_wp2_with (go_at_call 94; refine (indexBad_any p ps pb b o cap _ hl hB hP HC.out HP4.out).mono ?_; rintro e w1 ⟨rfl, hb1⟩)
  go_ret
  exact ⟨ret_bool (firstI_all _ _), hb1⟩

/-- All are directions in the plane. -/
noncomputable def areB (p : Q4) (l : List T3) : Bool := vlB (!(l.any (badV p)))
theorem areB_eq (p : Q4) (l : List T3) : areB p l = !(l.any (badV p)) := vlB_eq _

set_option maxHeartbeats 400000 in
theorem are_any (p : Q4) (ps : List T3) (b o cap : Nat) (w : World) (hl : ps.length ≤ 1000000) (hB : b < w.heap.size) (hc : Sl3 w b o ps) :
    Calls Tryz.prog 42 #[.agg #[.int .i64 (p.a), .int .i64 (p.b), .int .i64 (p.c), .int .i64 (p.d)], .slice (some ⟨b, o, none⟩) ps.length cap] w fun e w' => e = .returned (.bool (areB p ps)) ∧ Below w.heap.size w w' := by
  have HC := Lib.hid hc
  clear hc
  go_enter Tryz.func42, Tryz.ntmps42
  go_wp2_with (go_at_call 68; refine (containsBad_any p ps _ b o cap _ hl (by simp; omega) (by simp) (HC.out.below ((Below.refl _ _).alloc (Nat.le_refl _) _) hB) ⟨by simp, by simp, by simp, by simp⟩).mono ?_; rintro e w1 ⟨rfl, hb1⟩)
  go_ret
  refine ⟨ret_bool (by rw [areB_eq]), ?_⟩
  (repeat (first | exact Below.refl _ _ | refine Below.alloc ?_ (by first | (simp; done) | (simp; omega)) _ | refine Below.setCell ?_ (by first | (simp; done) | (simp; omega)) _ | refine Below.drew ?_)); (try (refine Below.trans ?_ (hb1.mono (by first | (simp; done) | (simp; omega))); repeat (first | exact Below.refl _ _ | refine Below.alloc ?_ (by first | (simp; done) | (simp; omega)) _ | refine Below.setCell ?_ (by first | (simp; done) | (simp; omega)) _ | refine Below.drew ?_)))

end Go.Proofs.YtaoedfegakpjeabGreat

namespace Go.Proofs.YtaoedfegakpjeabGreat
open Go.RowKit

theorem sl3_two {W : World} {b o : Nat} {p q : T3} (h0 : At3 W b o p) (h1 : At3 W b (o + 3) q) : Sl3 W b o [p, q] := fun i r hr => by
  match i, hr with
  | 0, hr => simp at hr; subst hr; simpa using h0
  | 1, hr => simp at hr; subst hr; simpa using h1
theorem sl3_one {W : World} {b o : Nat} {p : T3} (h0 : At3 W b o p) : Sl3 W b o [p] := fun i r hr => by
  match i, hr with
  | 0, hr => simp at hr; subst hr; simpa using h0

/-- line.Angle. -/
noncomputable def angE (p : Q4) (u v : T3) : Int := vl (if p.plane = false then 30 else if areB p [u, v] = false then 1 else 0)
theorem angE_eq (p : Q4) (u v : T3) : angE p u v = (if p.plane = false then 30 else if areB p [u, v] = false then 1 else 0) := vl_eq _
noncomputable def angT (p : Q4) (u v : T3) : Int := vl (angle p.a p.b p.c u.x u.y u.z v.x v.y v.z)
theorem angT_eq (p : Q4) (u v : T3) : angT p u v = angle p.a p.b p.c u.x u.y u.z v.x v.y v.z := vl_eq _
noncomputable def angV (p : Q4) (u v : T3) : Int := vl (if p.plane = false then 0 else if areB p [u, v] = false then 0 else angT p u v)
theorem angV_eq (p : Q4) (u v : T3) : angV p u v = (if p.plane = false then 0 else if areB p [u, v] = false then 0 else angT p u v) := vl_eq _
theorem angleT_any (p : Q4) (u v : T3) (w : World) :
    Calls Tryz.prog 59 #[.agg #[.int .i64 (p.a), .int .i64 (p.b), .int .i64 (p.c)], .agg #[.int .i64 (u.x), .int .i64 (u.y), .int .i64 (u.z)], .agg #[.int .i64 (v.x), .int .i64 (v.y), .int .i64 (v.z)]] w fun e w' => e = .returned (.int .i64 (angT p u v)) ∧ Below w.heap.size w w' := by
  rw [angT_eq]
  exact angle_any _ _ _ _ _ _ _ _ _ w
theorem are_two (p : Q4) (u v : T3) (b o cap : Nat) (w : World) (hB : b < w.heap.size) (h0 : At3 w b o u) (h1 : At3 w b (o + 3) v) :
    Calls Tryz.prog 42 #[.agg #[.int .i64 (p.a), .int .i64 (p.b), .int .i64 (p.c), .int .i64 (p.d)], .slice (some ⟨b, o, none⟩) 2 cap] w fun e w' => e = .returned (.bool (areB p [u, v])) ∧ Below w.heap.size w w' :=
  are_any p [u, v] b o cap w (by simp) hB (sl3_two h0 h1)
theorem are_one (p : Q4) (u : T3) (b o cap : Nat) (w : World) (hB : b < w.heap.size) (h0 : At3 w b o u) :
    Calls Tryz.prog 42 #[.agg #[.int .i64 (p.a), .int .i64 (p.b), .int .i64 (p.c), .int .i64 (p.d)], .slice (some ⟨b, o, none⟩) 1 cap] w fun e w' => e = .returned (.bool (areB p [u])) ∧ Below w.heap.size w w' :=
  are_any p [u] b o cap w (by simp) hB (sl3_one h0)
theorem isPlaneQ_any (p : Q4) (w : World) (ip : p.I64) :
    Calls Tryz.prog 41 #[.agg #[.int .i64 (p.a), .int .i64 (p.b), .int .i64 (p.c), .int .i64 (p.d)]] w fun e w' => e = .returned (.bool p.plane) ∧ Below w.heap.size w w' := isPlane_any p.a p.b p.c p.d w ip.1 ip.2.1 ip.2.2.1 ip.2.2.2

set_option maxHeartbeats 400000 in
theorem lineAngle_bad1 (p : Q4) (u v : T3) (w : World) (ip : p.I64) (h1 : p.plane = false) :
    Calls Tryz.prog 32 #[.agg #[.int .i64 (p.a), .int .i64 (p.b), .int .i64 (p.c), .int .i64 (p.d)], .agg #[.int .i64 (u.x), .int .i64 (u.y), .int .i64 (u.z)], .agg #[.int .i64 (v.x), .int .i64 (v.y), .int .i64 (v.z)]] w fun e w' => e = .returned (.tuple #[.int .i64 (angV p u v), .int .i64 (angE p u v)]) ∧ Below w.heap.size w w' := by
  have HV : Hid (angV p u v = 0) := by unfold Hid; rw [angV_eq, if_pos h1]
  have HE1 : Hid (angE p u v = 30) := by unfold Hid; rw [angE_eq, if_pos h1]
  go_enter Tryz.func32, Tryz.ntmps32
  have hE : ∀ W, Fr 3 [(0, .cells #[.int .i64 (p.a), .int .i64 (p.b), .int .i64 (p.c), .int .i64 (p.d)] 23), (1, .cells #[.int .i64 (u.x), .int .i64 (u.y), .int .i64 (u.z)] 24), (2, .cells #[.int .i64 (v.x), .int .i64 (v.y), .int .i64 (v.z)] 24)] [] w W → (W.cell? ⟨w.heap.size, 0, none⟩ = some (.int .i64 (p.a)) ∧ W.cell? ⟨w.heap.size, 1, none⟩ = some (.int .i64 (p.b)) ∧ W.cell? ⟨w.heap.size, 2, none⟩ = some (.int .i64 (p.c)) ∧ W.cell? ⟨w.heap.size, 3, none⟩ = some (.int .i64 (p.d)) ∧ W.cell? ⟨w.heap.size + 1, 0, none⟩ = some (.int .i64 (u.x)) ∧ W.cell? ⟨w.heap.size + 1, 1, none⟩ = some (.int .i64 (u.y)) ∧ W.cell? ⟨w.heap.size + 1, 2, none⟩ = some (.int .i64 (u.z)) ∧ W.cell? ⟨w.heap.size + 2, 0, none⟩ = some (.int .i64 (v.x)) ∧ W.cell? ⟨w.heap.size + 2, 1, none⟩ = some (.int .i64 (v.y)) ∧ W.cell? ⟨w.heap.size + 2, 2, none⟩ = some (.int .i64 (v.z))) := fun W h => by (repeat' apply And.intro) <;> first | exact h.at0 rfl | exact h.at rfl | exact (h.rms0 rfl).cell | exact (h.rms rfl).cell | exact (h.rms0 rfl).frozen | exact (h.rms rfl).frozen
  have HE := Lib.hid hE
  clear hE
  go_wp2_with (go_at_call 41; refine (isPlaneQ_any p _ ip).mono ?_; rintro e w1 ⟨rfl, hb1⟩; (try clear hq); (try clear hz); have hF : Fr 3 [(0, .cells #[.int .i64 (p.a), .int .i64 (p.b), .int .i64 (p.c), .int .i64 (p.d)] 23), (1, .cells #[.int .i64 (u.x), .int .i64 (u.y), .int .i64 (u.z)] 24), (2, .cells #[.int .i64 (v.x), .int .i64 (v.y), .int .i64 (v.z)] 24)] [] w w1 := Fr.call (by (repeat (first | exact hF | exact ((((Fr.nil w).fixed (by simp) (.cells #[.int .i64 (p.a), .int .i64 (p.b), .int .i64 (p.c), .int .i64 (p.d)] 23)).fixed (by simp) (.cells #[.int .i64 (u.x), .int .i64 (u.y), .int .i64 (u.z)] 24)).fixed (by simp) (.cells #[.int .i64 (v.x), .int .i64 (v.y), .int .i64 (v.z)] 24)) | exact And.left (by assumption) | refine Fr.set ?_ (by first | (simp; done) | (simp; omega)) (by first | (simp [List.lookup]; done) | (simp [Nat.add_assoc, List.lookup]; done)) _ | refine Fr.drew ?_ | refine Fr.alloc ?_ _))) hb1; have hq := HE.out _ hF; have hz : w.heap.size < w1.heap.size ∧ w.heap.size + 1 < w1.heap.size ∧ w.heap.size + 2 < w1.heap.size := by have hs := Own.size (Fr.own hF); omega)
  go_ret2
  refine ⟨by rw [HV.out, HE1.out]; rfl, ?_⟩
  refine Own.below (Fr.own (k := 3) (fx := [(0, .cells #[.int .i64 (p.a), .int .i64 (p.b), .int .i64 (p.c), .int .i64 (p.d)] 23), (1, .cells #[.int .i64 (u.x), .int .i64 (u.y), .int .i64 (u.z)] 24), (2, .cells #[.int .i64 (v.x), .int .i64 (v.y), .int .i64 (v.z)] 24)]) (rm := []) ?_); (repeat (first | exact hF | exact And.left (by assumption) | refine Fr.set ?_ (by first | (simp; done) | (simp; omega)) (by first | (simp [List.lookup]; done) | (simp [Nat.add_assoc, List.lookup]; done)) _ | refine Fr.drew ?_ | refine Fr.alloc ?_ _))

set_option maxHeartbeats 400000 in
theorem lineAngle_bad2 (p : Q4) (u v : T3) (w : World) (ip : p.I64) (h1 : p.plane = true) (h2 : areB p [u, v] = false) :
    Calls Tryz.prog 32 #[.agg #[.int .i64 (p.a), .int .i64 (p.b), .int .i64 (p.c), .int .i64 (p.d)], .agg #[.int .i64 (u.x), .int .i64 (u.y), .int .i64 (u.z)], .agg #[.int .i64 (v.x), .int .i64 (v.y), .int .i64 (v.z)]] w fun e w' => e = .returned (.tuple #[.int .i64 (angV p u v), .int .i64 (angE p u v)]) ∧ Below w.heap.size w w' := by
  have HV : Hid (angV p u v = 0) := by unfold Hid; rw [angV_eq, h1, if_neg (by simp), if_pos h2]
  have HE1 : Hid (angE p u v = 1) := by unfold Hid; rw [angE_eq, h1, if_neg (by simp), if_pos h2]
  go_enter Tryz.func32, Tryz.ntmps32
  have hE : ∀ W, Fr 3 [(0, .cells #[.int .i64 (p.a), .int .i64 (p.b), .int .i64 (p.c), .int .i64 (p.d)] 23), (1, .cells #[.int .i64 (u.x), .int .i64 (u.y), .int .i64 (u.z)] 24), (2, .cells #[.int .i64 (v.x), .int .i64 (v.y), .int .i64 (v.z)] 24)] [] w W → (W.cell? ⟨w.heap.size, 0, none⟩ = some (.int .i64 (p.a)) ∧ W.cell? ⟨w.heap.size, 1, none⟩ = some (.int .i64 (p.b)) ∧ W.cell? ⟨w.heap.size, 2, none⟩ = some (.int .i64 (p.c)) ∧ W.cell? ⟨w.heap.size, 3, none⟩ = some (.int .i64 (p.d)) ∧ W.cell? ⟨w.heap.size + 1, 0, none⟩ = some (.int .i64 (u.x)) ∧ W.cell? ⟨w.heap.size + 1, 1, none⟩ = some (.int .i64 (u.y)) ∧ W.cell? ⟨w.heap.size + 1, 2, none⟩ = some (.int .i64 (u.z)) ∧ W.cell? ⟨w.heap.size + 2, 0, none⟩ = some (.int .i64 (v.x)) ∧ W.cell? ⟨w.heap.size + 2, 1, none⟩ = some (.int .i64 (v.y)) ∧ W.cell? ⟨w.heap.size + 2, 2, none⟩ = some (.int .i64 (v.z))) := fun W h => by (repeat' apply And.intro) <;> first | exact h.at0 rfl | exact h.at rfl | exact (h.rms0 rfl).cell | exact (h.rms rfl).cell | exact (h.rms0 rfl).frozen | exact (h.rms rfl).frozen
  have HE := Lib.hid hE
  clear hE
  go_wp2_with (first | (go_at_call 41; refine (isPlaneQ_any p _ ip).mono ?_; rintro e w1 ⟨rfl, hb1⟩; (try clear hq); (try clear hz); have hF : Fr 3 [(0, .cells #[.int .i64 (p.a), .int .i64 (p.b), .int .i64 (p.c), .int .i64 (p.d)] 23), (1, .cells #[.int .i64 (u.x), .int .i64 (u.y), .int .i64 (u.z)] 24), (2, .cells #[.int .i64 (v.x), .int .i64 (v.y), .int .i64 (v.z)] 24)] [] w w1 := Fr.call (by (repeat (first | exact hF | exact ((((Fr.nil w).fixed (by simp) (.cells #[.int .i64 (p.a), .int .i64 (p.b), .int .i64 (p.c), .int .i64 (p.d)] 23)).fixed (by simp) (.cells #[.int .i64 (u.x), .int .i64 (u.y), .int .i64 (u.z)] 24)).fixed (by simp) (.cells #[.int .i64 (v.x), .int .i64 (v.y), .int .i64 (v.z)] 24)) | exact And.left (by assumption) | refine Fr.set ?_ (by first | (simp; done) | (simp; omega)) (by first | (simp [List.lookup]; done) | (simp [Nat.add_assoc, List.lookup]; done)) _ | refine Fr.drew ?_ | refine Fr.alloc ?_ _))) hb1; have hq := HE.out _ hF; have hz : w.heap.size < w1.heap.size ∧ w.heap.size + 1 < w1.heap.size ∧ w.heap.size + 2 < w1.heap.size := by have hs := Own.size (Fr.own hF); omega) | (go_at_call 42; refine (are_two p u v _ _ _ _ (by simp) ⟨by simp [go_sem], by simp [go_sem], by simp [go_sem]⟩ ⟨by simp [go_sem], by simp [go_sem], by simp [go_sem]⟩).mono ?_; rintro e w1 ⟨rfl, hb1⟩; (try clear hq); (try clear hz); have hF : Fr 3 [(0, .cells #[.int .i64 (p.a), .int .i64 (p.b), .int .i64 (p.c), .int .i64 (p.d)] 23), (1, .cells #[.int .i64 (u.x), .int .i64 (u.y), .int .i64 (u.z)] 24), (2, .cells #[.int .i64 (v.x), .int .i64 (v.y), .int .i64 (v.z)] 24)] [] w w1 := Fr.call (by (repeat (first | exact hF | exact ((((Fr.nil w).fixed (by simp) (.cells #[.int .i64 (p.a), .int .i64 (p.b), .int .i64 (p.c), .int .i64 (p.d)] 23)).fixed (by simp) (.cells #[.int .i64 (u.x), .int .i64 (u.y), .int .i64 (u.z)] 24)).fixed (by simp) (.cells #[.int .i64 (v.x), .int .i64 (v.y), .int .i64 (v.z)] 24)) | exact And.left (by assumption) | refine Fr.set ?_ (by first | (simp; done) | (simp; omega)) (by first | (simp [List.lookup]; done) | (simp [Nat.add_assoc, List.lookup]; done)) _ | refine Fr.drew ?_ | refine Fr.alloc ?_ _))) hb1; have hq := HE.out _ hF; have hz : w.heap.size < w1.heap.size ∧ w.heap.size + 1 < w1.heap.size ∧ w.heap.size + 2 < w1.heap.size := by have hs := Own.size (Fr.own hF); omega))
  go_ret2
  refine ⟨by rw [HV.out, HE1.out]; rfl, ?_⟩
  refine Own.below (Fr.own (k := 3) (fx := [(0, .cells #[.int .i64 (p.a), .int .i64 (p.b), .int .i64 (p.c), .int .i64 (p.d)] 23), (1, .cells #[.int .i64 (u.x), .int .i64 (u.y), .int .i64 (u.z)] 24), (2, .cells #[.int .i64 (v.x), .int .i64 (v.y), .int .i64 (v.z)] 24)]) (rm := []) ?_); (repeat (first | exact hF | exact And.left (by assumption) | refine Fr.set ?_ (by first | (simp; done) | (simp; omega)) (by first | (simp [List.lookup]; done) | (simp [Nat.add_assoc, List.lookup]; done)) _ | refine Fr.drew ?_ | refine Fr.alloc ?_ _))

set_option maxHeartbeats 400000 in
theorem lineAngle_ok (p : Q4) (u v : T3) (w : World) (ip : p.I64) (h1 : p.plane = true) (h2 : areB p [u, v] = true) :
    Calls Tryz.prog 32 #[.agg #[.int .i64 (p.a), .int .i64 (p.b), .int .i64 (p.c), .int .i64 (p.d)], .agg #[.int .i64 (u.x), .int .i64 (u.y), .int .i64 (u.z)], .agg #[.int .i64 (v.x), .int .i64 (v.y), .int .i64 (v.z)]] w fun e w' => e = .returned (.tuple #[.int .i64 (angV p u v), .int .i64 (angE p u v)]) ∧ Below w.heap.size w w' := by
  have HV : Hid (angV p u v = angT p u v) := by unfold Hid; rw [angV_eq, h1, h2, if_neg (by simp), if_neg (by simp)]
  have HE1 : Hid (angE p u v = 0) := by unfold Hid; rw [angE_eq, h1, h2, if_neg (by simp), if_neg (by simp)]
  go_enter Tryz.func32, Tryz.ntmps32
  have hE : ∀ W, Fr 3 [(0, .cells #[.int .i64 (p.a), .int .i64 (p.b), .int .i64 (p.c), .int .i64 (p.d)] 23), (1, .cells #[.int .i64 (u.x), .int .i64 (u.y), .int .i64 (u.z)] 24), (2, .cells #[.int .i64 (v.x), .int .i64 (v.y), .int .i64 (v.z)] 24)] [] w W → (W.cell? ⟨w.heap.size, 0, none⟩ = some (.int .i64 (p.a)) ∧ W.cell? ⟨w.heap.size, 1, none⟩ = some (.int .i64 (p.b)) ∧ W.cell? ⟨w.heap.size, 2, none⟩ = some (.int .i64 (p.c)) ∧ W.cell? ⟨w.heap.size, 3, none⟩ = some (.int .i64 (p.d)) ∧ W.cell? ⟨w.heap.size + 1, 0, none⟩ = some (.int .i64 (u.x)) ∧ W.cell? ⟨w.heap.size + 1, 1, none⟩ = some (.int .i64 (u.y)) ∧ W.cell? ⟨w.heap.size + 1, 2, none⟩ = some (.int .i64 (u.z)) ∧ W.cell? ⟨w.heap.size + 2, 0, none⟩ = some (.int .i64 (v.x)) ∧ W.cell? ⟨w.heap.size + 2, 1, none⟩ = some (.int .i64 (v.y)) ∧ W.cell? ⟨w.heap.size + 2, 2, none⟩ = some (.int .i64 (v.z))) := fun W h => by (repeat' apply And.intro) <;> first | exact h.at0 rfl | exact h.at rfl | exact (h.rms0 rfl).cell | exact (h.rms rfl).cell | exact (h.rms0 rfl).frozen | exact (h.rms rfl).frozen
  have HE := Lib.hid hE
  clear hE
  go_wp2_with (first | (go_at_call 41; refine (isPlaneQ_any p _ ip).mono ?_; rintro e w1 ⟨rfl, hb1⟩; (try clear hq); (try clear hz); have hF : Fr 3 [(0, .cells #[.int .i64 (p.a), .int .i64 (p.b), .int .i64 (p.c), .int .i64 (p.d)] 23), (1, .cells #[.int .i64 (u.x), .int .i64 (u.y), .int .i64 (u.z)] 24), (2, .cells #[.int .i64 (v.x), .int .i64 (v.y), .int .i64 (v.z)] 24)] [] w w1 := Fr.call (by (repeat (first | exact hF | exact ((((Fr.nil w).fixed (by simp) (.cells #[.int .i64 (p.a), .int .i64 (p.b), .int .i64 (p.c), .int .i64 (p.d)] 23)).fixed (by simp) (.cells #[.int .i64 (u.x), .int .i64 (u.y), .int .i64 (u.z)] 24)).fixed (by simp) (.cells #[.int .i64 (v.x), .int .i64 (v.y), .int .i64 (v.z)] 24)) | exact And.left (by assumption) | refine Fr.set ?_ (by first | (simp; done) | (simp; omega)) (by first | (simp [List.lookup]; done) | (simp [Nat.add_assoc, List.lookup]; done)) _ | refine Fr.drew ?_ | refine Fr.alloc ?_ _))) hb1; have hq := HE.out _ hF; have hz : w.heap.size < w1.heap.size ∧ w.heap.size + 1 < w1.heap.size ∧ w.heap.size + 2 < w1.heap.size := by have hs := Own.size (Fr.own hF); omega) | (go_at_call 42; refine (are_two p u v _ _ _ _ (by simp) ⟨by simp [go_sem], by simp [go_sem], by simp [go_sem]⟩ ⟨by simp [go_sem], by simp [go_sem], by simp [go_sem]⟩).mono ?_; rintro e w1 ⟨rfl, hb1⟩; (try clear hq); (try clear hz); have hF : Fr 3 [(0, .cells #[.int .i64 (p.a), .int .i64 (p.b), .int .i64 (p.c), .int .i64 (p.d)] 23), (1, .cells #[.int .i64 (u.x), .int .i64 (u.y), .int .i64 (u.z)] 24), (2, .cells #[.int .i64 (v.x), .int .i64 (v.y), .int .i64 (v.z)] 24)] [] w w1 := Fr.call (by (repeat (first | exact hF | exact ((((Fr.nil w).fixed (by simp) (.cells #[.int .i64 (p.a), .int .i64 (p.b), .int .i64 (p.c), .int .i64 (p.d)] 23)).fixed (by simp) (.cells #[.int .i64 (u.x), .int .i64 (u.y), .int .i64 (u.z)] 24)).fixed (by simp) (.cells #[.int .i64 (v.x), .int .i64 (v.y), .int .i64 (v.z)] 24)) | exact And.left (by assumption) | refine Fr.set ?_ (by first | (simp; done) | (simp; omega)) (by first | (simp [List.lookup]; done) | (simp [Nat.add_assoc, List.lookup]; done)) _ | refine Fr.drew ?_ | refine Fr.alloc ?_ _))) hb1; have hq := HE.out _ hF; have hz : w.heap.size < w1.heap.size ∧ w.heap.size + 1 < w1.heap.size ∧ w.heap.size + 2 < w1.heap.size := by have hs := Own.size (Fr.own hF); omega))
  go_region_held3 (fun W => Fr 3 [(0, .cells #[.int .i64 (p.a), .int .i64 (p.b), .int .i64 (p.c), .int .i64 (p.d)] 23), (1, .cells #[.int .i64 (u.x), .int .i64 (u.y), .int .i64 (u.z)] 24), (2, .cells #[.int .i64 (v.x), .int .i64 (v.y), .int .i64 (v.z)] 24)] [] w W ∧ W.cell? ⟨w.heap.size, 0, none⟩ = some (.int .i64 (p.a)) ∧ W.cell? ⟨w.heap.size, 1, none⟩ = some (.int .i64 (p.b)) ∧ W.cell? ⟨w.heap.size, 2, none⟩ = some (.int .i64 (p.c)) ∧ W.cell? ⟨w.heap.size, 3, none⟩ = some (.int .i64 (p.d)) ∧ W.cell? ⟨w.heap.size + 1, 0, none⟩ = some (.int .i64 (u.x)) ∧ W.cell? ⟨w.heap.size + 1, 1, none⟩ = some (.int .i64 (u.y)) ∧ W.cell? ⟨w.heap.size + 1, 2, none⟩ = some (.int .i64 (u.z)) ∧ W.cell? ⟨w.heap.size + 2, 0, none⟩ = some (.int .i64 (v.x)) ∧ W.cell? ⟨w.heap.size + 2, 1, none⟩ = some (.int .i64 (v.y)) ∧ W.cell? ⟨w.heap.size + 2, 2, none⟩ = some (.int .i64 (v.z))) ((first | exact hSK | assumption | (have hq := Fr.keep HE.out (by assumption) hb1; exact hq) | (have hq := Fr.both HE.out hF.drew; exact hq) | (have hq := Fr.both HE.out ((((Fr.nil w).fixed (by simp) (.cells #[.int .i64 (p.a), .int .i64 (p.b), .int .i64 (p.c), .int .i64 (p.d)] 23)).fixed (by simp) (.cells #[.int .i64 (u.x), .int .i64 (u.y), .int .i64 (u.z)] 24)).fixed (by simp) (.cells #[.int .i64 (v.x), .int .i64 (v.y), .int .i64 (v.z)] 24)).drew; exact hq) | (refine Fr.both HE.out ?_; (repeat (first | exact hF | exact And.left (by assumption) | refine Fr.set ?_ (by first | (simp; done) | (simp; omega)) (by first | (simp [List.lookup]; done) | (simp [Nat.add_assoc, List.lookup]; done)) _ | refine Fr.drew ?_ | refine Fr.alloc ?_ _))))) (first | (go_at_call 35; refine (normal_any _ _ _ _ _).mono ?_; rintro e w1 ⟨rfl, hb1⟩) | (go_at_call 59; refine (angleT_any p u v _).mono ?_; rintro e w1 ⟨rfl, hb1⟩))
  go_wp2
  go_ret2
  obtain ⟨hG, -⟩ : Fr 3 _ _ w _ ∧ _ := by assumption
  exact ⟨by rw [HV.out, HE1.out]; rfl, hG.own.below⟩

theorem lineAngle_any (p : Q4) (u v : T3) (w : World) (ip : p.I64) :
    Calls Tryz.prog 32 #[.agg #[.int .i64 (p.a), .int .i64 (p.b), .int .i64 (p.c), .int .i64 (p.d)], .agg #[.int .i64 (u.x), .int .i64 (u.y), .int .i64 (u.z)], .agg #[.int .i64 (v.x), .int .i64 (v.y), .int .i64 (v.z)]] w fun e w' => e = .returned (.tuple #[.int .i64 (angV p u v), .int .i64 (angE p u v)]) ∧ Below w.heap.size w w' := by
  cases h1 : p.plane with
  | false => exact lineAngle_bad1 p u v w ip h1
  | true =>
    cases h2 : areB p [u, v] with
    | false => exact lineAngle_bad2 p u v w ip h1 h2
    | true => exact lineAngle_ok p u v w ip h1 h2

end Go.Proofs.YtaoedfegakpjeabGreat

namespace Go.Proofs
open Go.Shelf
def Tryz.lays128_ren : Go.Shelf.Ren := ⟨fun | 128 => 107 | n => n, fun | 51 => 148 | 3 => 3 | 4 => 4 | 46 => 124 | 5 => 5 | 9 => 9 | n => n, fun | n => n⟩
theorem Tryz.lays128 : Go.Proofs.Lays.n128 Tryz.prog Tryz.lays128_ren := {
  mixed := by kernel_rfl
  f128 := Tryz.func107.trans (congrArg some (by kernel_rfl))
  t3 := Tryz.underlying3
  a3 := Tryz.isAgg3
  z3 := Tryz.sizeOf3
  v3 := Tryz.zeroValue3
  t4 := Tryz.underlying4
  a4 := Tryz.isAgg4
  z4 := Tryz.sizeOf4
  v4 := Tryz.zeroValue4
  t5 := Tryz.underlying5
  a5 := Tryz.isAgg5
  z5 := Tryz.sizeOf5
  v5 := Tryz.zeroValue5
  t9 := Tryz.underlying9
  a9 := Tryz.isAgg9
  z9 := Tryz.sizeOf9
  v9 := Tryz.zeroValue9
  t46 := Tryz.underlying124
  a46 := Tryz.isAgg124
  z46 := Tryz.sizeOf124
  v46 := Tryz.zeroValue124
  t51 := Tryz.underlying148
  a51 := Tryz.isAgg148
  z51 := Tryz.sizeOf148
  v51 := Tryz.zeroValue148 }
/-- bits.Len32: "Len32 returns the minimum number of bits required to represent x; the result is 0 for x == 0.": IT RETURNS 'Lib.bitLen x'; the world is as it was. ('h0', 'h1': x is a uint32.) (LAID: no walk: one application.) -/
theorem Tryz.bits_Len32 (x : Int) (w : World) (h0 : 0 ≤ x) (h1 : x ≤ 4294967295) :
    Calls Tryz.prog 107 #[.int .u32 x] w fun e w' => e = .returned (.int .i64 (Lib.bitLen x.toNat)) ∧ w' = w := Any.bits_Len32 Tryz.lays128 x w h0 h1
def Tryz.lays125_ren : Go.Shelf.Ren := ⟨fun | 125 => 82 | 128 => 107 | 129 => 108 | n => n, fun | 46 => 124 | 3 => 3 | 51 => 148 | 53 => 74 | 4 => 4 | 5 => 5 | 9 => 9 | n => n, fun | n => n⟩
theorem Tryz.lays125 : Go.Proofs.Lays.n125 Tryz.prog Tryz.lays125_ren := {
  mixed := by kernel_rfl
  f125 := Tryz.func82.trans (congrArg some (by kernel_rfl))
  f128 := Tryz.func107.trans (congrArg some (by kernel_rfl))
  f129 := Tryz.func108.trans (congrArg some (by kernel_rfl))
  t3 := Tryz.underlying3
  a3 := Tryz.isAgg3
  z3 := Tryz.sizeOf3
  v3 := Tryz.zeroValue3
  t4 := Tryz.underlying4
  a4 := Tryz.isAgg4
  z4 := Tryz.sizeOf4
  v4 := Tryz.zeroValue4
  t5 := Tryz.underlying5
  a5 := Tryz.isAgg5
  z5 := Tryz.sizeOf5
  v5 := Tryz.zeroValue5
  t9 := Tryz.underlying9
  a9 := Tryz.isAgg9
  z9 := Tryz.sizeOf9
  v9 := Tryz.zeroValue9
  t46 := Tryz.underlying124
  a46 := Tryz.isAgg124
  z46 := Tryz.sizeOf124
  v46 := Tryz.zeroValue124
  t51 := Tryz.underlying148
  a51 := Tryz.isAgg148
  z51 := Tryz.sizeOf148
  v51 := Tryz.zeroValue148
  t53 := Tryz.underlying74
  a53 := Tryz.isAgg74
  z53 := Tryz.sizeOf74
  v53 := Tryz.zeroValue74 }
/-- bits.Len: "Len returns the minimum number of bits required to represent x; the result is 0 for x == 0.": IT RETURNS 'Lib.bitLen x'; the world is as it was. (A uint has 64 bits in the model.) ITS CALLEE bits.Len64 IS MET BY ITS OWN CONTRACT OFF THE SHELF (lay that first). (LAID: no walk: one application.) -/
theorem Tryz.bits_Len (x : Int) (w : World) (h0 : 0 ≤ x) (h1 : x ≤ 18446744073709551615) :
    Calls Tryz.prog 82 #[.int .u64 x] w fun e w' => e = .returned (.int .i64 (Lib.bitLen x.toNat)) ∧ w' = w := Any.bits_Len Tryz.lays125 x w h0 h1
def Tryz.lays129_ren : Go.Shelf.Ren := ⟨fun | 129 => 108 | n => n, fun | 53 => 74 | 3 => 3 | 4 => 4 | 46 => 124 | 5 => 5 | 9 => 9 | n => n, fun | n => n⟩
theorem Tryz.lays129 : Go.Proofs.Lays.n129 Tryz.prog Tryz.lays129_ren := {
  mixed := by kernel_rfl
  f129 := Tryz.func108.trans (congrArg some (by kernel_rfl))
  t3 := Tryz.underlying3
  a3 := Tryz.isAgg3
  z3 := Tryz.sizeOf3
  v3 := Tryz.zeroValue3
  t4 := Tryz.underlying4
  a4 := Tryz.isAgg4
  z4 := Tryz.sizeOf4
  v4 := Tryz.zeroValue4
  t5 := Tryz.underlying5
  a5 := Tryz.isAgg5
  z5 := Tryz.sizeOf5
  v5 := Tryz.zeroValue5
  t9 := Tryz.underlying9
  a9 := Tryz.isAgg9
  z9 := Tryz.sizeOf9
  v9 := Tryz.zeroValue9
  t46 := Tryz.underlying124
  a46 := Tryz.isAgg124
  z46 := Tryz.sizeOf124
  v46 := Tryz.zeroValue124
  t53 := Tryz.underlying74
  a53 := Tryz.isAgg74
  z53 := Tryz.sizeOf74
  v53 := Tryz.zeroValue74 }
/-- bits.Len64: "Len64 returns the minimum number of bits required to represent x; the result is 0 for x == 0.": IT RETURNS 'Lib.bitLen x'; the world is as it was. ('h0', 'h1': x is a uint64.) (LAID: no walk: one application.) -/
theorem Tryz.bits_Len64 (x : Int) (w : World) (h0 : 0 ≤ x) (h1 : x ≤ 18446744073709551615) :
    Calls Tryz.prog 108 #[.int .u64 x] w fun e w' => e = .returned (.int .i64 (Lib.bitLen x.toNat)) ∧ w' = w := Any.bits_Len64 Tryz.lays129 x w h0 h1
def Tryz.lays264_ren : Go.Shelf.Ren := ⟨fun | 264 => 125 | n => n, fun | 53 => 74 | 46 => 124 | n => n, fun | n => n⟩
theorem Tryz.lays264 : Go.Proofs.Lays.n264 Tryz.prog Tryz.lays264_ren := {
  mixed := by kernel_rfl
  f264 := Tryz.func125.trans (congrArg some (by kernel_rfl))
  t46 := Tryz.underlying124
  a46 := Tryz.isAgg124
  z46 := Tryz.sizeOf124
  v46 := Tryz.zeroValue124
  t53 := Tryz.underlying74
  a53 := Tryz.isAgg74
  z53 := Tryz.sizeOf74
  v53 := Tryz.zeroValue74 }
open Go.RowKit Go.Lib in
theorem Tryz.bits_Mul64 (x y : Nat) (hx : x < 18446744073709551616) (hy : y < 18446744073709551616) (w : World) :
    Calls Tryz.prog 125 #[.int .u64 x, .int .u64 y] w fun e w' => e = .returned (.tuple #[.int .u64 ((x * y / 18446744073709551616 : Nat) : Int), .int .u64 ((x * y % 18446744073709551616 : Nat) : Int)]) ∧ w' = w := Any.bits_Mul64 Tryz.lays264 x y hx hy w
def Tryz.laysSlN68_f111_ren : Go.Shelf.Ren := ⟨fun | 68 => 111 | n => n, fun | 23 => 2 | 4 => 4 | n => n, fun | n => n⟩
theorem Tryz.laysSlN68_f111 : Go.Proofs.SlLaysN.n68 Tryz.prog Tryz.laysSlN68_f111_ren := {
  mixed := by kernel_rfl
  f68 := ⟨Tryz.f111.name, by decide, Tryz.func111.trans (congrArg some (by kernel_rfl))⟩
  t4 := Tryz.underlying4
  a4 := Tryz.isAgg4
  z4 := Tryz.sizeOf4
  v4 := Tryz.zeroValue4
  t23 := Tryz.underlying2
  a23 := Tryz.isAgg2
  z23 := Tryz.sizeOf2
  v23 := Tryz.zeroValue2 }
open Go.RowKit Go.Lib in
/-- cmp.isNaN[int]: 'x != x': false. (LAID AT THE INSTANCE 'cmp.isNaN[int64]': no walk: one application.) -/
theorem Tryz.cmp_isNaN_int2 (x : Int) (w : World) :
    Calls Tryz.prog 111 #[.int .i64 x] w fun e w' => e = .returned (.bool false) ∧ w' = w := AnyG.cmp_isNaN_int2 Tryz.laysSlN68_f111 x w
def Tryz.laysSlC27_f111_ren : Go.Shelf.Ren := ⟨fun | 7 => 111 | n => n, fun | 22 => 2 | 4 => 4 | n => n, fun | n => n⟩
theorem Tryz.laysSlC27_f111 : Go.Proofs.SlLaysC2.n7 Tryz.prog Tryz.laysSlC27_f111_ren := {
  mixed := by kernel_rfl
  f7 := ⟨Tryz.f111.name, by decide, Tryz.func111.trans (congrArg some (by kernel_rfl))⟩
  t4 := Tryz.underlying4
  a4 := Tryz.isAgg4
  z4 := Tryz.sizeOf4
  v4 := Tryz.zeroValue4
  t22 := Tryz.underlying2
  a22 := Tryz.isAgg2
  z22 := Tryz.sizeOf2
  v22 := Tryz.zeroValue2 }
open Go.Lib in
/-- cmp.isNaN at an int under a name: 'x != x': false. (LAID AT THE INSTANCE 'cmp.isNaN[int64]': no walk: one application.) -/
theorem Tryz.cmp_isNaN_int (x : Int) (w : World) :
    Calls Tryz.prog 111 #[.int .i64 x] w fun e w' => e = .returned (.bool false) ∧ w' = w := AnyG.cmp_isNaN_int Tryz.laysSlC27_f111 x w
def Tryz.laysSlC25_f89_ren : Go.Shelf.Ren := ⟨fun | 5 => 89 | 7 => 111 | n => n, fun | 22 => 2 | 3 => 3 | 4 => 4 | n => n, fun | n => n⟩
theorem Tryz.laysSlC25_f89 : Go.Proofs.SlLaysC2.n5 Tryz.prog Tryz.laysSlC25_f89_ren := {
  mixed := by kernel_rfl
  f5 := ⟨Tryz.f89.name, by decide, Tryz.func89.trans (congrArg some (by kernel_rfl))⟩
  f7 := ⟨Tryz.f111.name, by decide, Tryz.func111.trans (congrArg some (by kernel_rfl))⟩
  t3 := Tryz.underlying3
  a3 := Tryz.isAgg3
  z3 := Tryz.sizeOf3
  v3 := Tryz.zeroValue3
  t4 := Tryz.underlying4
  a4 := Tryz.isAgg4
  z4 := Tryz.sizeOf4
  v4 := Tryz.zeroValue4
  t22 := Tryz.underlying2
  a22 := Tryz.isAgg2
  z22 := Tryz.sizeOf2
  v22 := Tryz.zeroValue2 }
open Go.Lib in
/-- cmp.Compare at an int under a name: "Compare returns -1 if x is less than y, 0 if x equals y, +1 if x is greater than y.": IT RETURNS 'Lib.compareInt x y'; the world is as it was. (LAID AT THE INSTANCE 'cmp.Compare[int64]': no walk: one application.) -/
theorem Tryz.cmp_Compare_int (x y : Int) (w : World) :
    Calls Tryz.prog 89 #[.int .i64 x, .int .i64 y] w fun e w' => e = .returned (.int .i64 (Lib.compareInt x y)) ∧ w' = w := AnyG.cmp_Compare_int Tryz.laysSlC25_f89 x y w
end Go.Proofs
