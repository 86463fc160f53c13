/- Contracts of the functions that the statement reaches, and plain lemmas: part 16 of 17. -/
import Derived.Test.YtaoedfegakpjeabGreatD15
import Derived.Test.YtaoedfegakpjeabGreatD14

namespace Go.Proofs.YtaoedfegakpjeabGreat
open Go.RowKit

theorem right_q (x : Q4) (ix : x.I64) (W : World) : Calls Tryz.prog 19 #[.agg #[.int .i64 (x.a), .int .i64 (x.b), .int .i64 (x.c), .int .i64 (x.d)]] W fun e w' => e = .returned (.bool x.plane) ∧ Below W.heap.size W w' := by
  have h := right_any x.a x.b x.c x.d W ix.1 ix.2.1 ix.2.2.1 ix.2.2.2
  rw [right_plane ix] at h; exact h
theorem opE_p {p q : Q4} {l : List Q4} (h : p.plane = false) : opE p q l [] = 30 := by rw [opE_eq, allPl_eq]; simp [h]
theorem opE_q {p q : Q4} {l : List Q4} (h : q.plane = false) : opE p q l [] = 30 := by rw [opE_eq, allPl_eq]; simp [h]
theorem opE_l {p q r : Q4} {l : List Q4} (hr : r ∈ l) (h : r.plane = false) : opE p q l [] = 30 := by
  have e : l.all Q4.plane = false := by
    rw [← Bool.not_eq_true, List.all_eq_true]; intro k; rw [k r hr] at h; cases h
  rw [opE_eq, allPl_eq, allPl_eq, e]; cases [p, q].all Q4.plane <;> simp

set_option maxHeartbeats 1000000 in
theorem bad_p (p q : Q4) (l : List Q4) (v : Value) (w : World) (ip : p.I64) (hp : p.plane = false) :
    Calls Tryz.prog 10 #[.agg #[.int .i64 (p.a), .int .i64 (p.b), .int .i64 (p.c), .int .i64 (p.d)], .agg #[.int .i64 (q.a), .int .i64 (q.b), .int .i64 (q.c), .int .i64 (q.d)], v] w fun e w' => e = .returned (.int .i64 (opE p q l [])) ∧ Below w.heap.size w w' := by
  have HR : Hid (∀ W, Calls Tryz.prog 19 #[.agg #[.int .i64 (p.a), .int .i64 (p.b), .int .i64 (p.c), .int .i64 (p.d)]] W fun e w' => e = .returned (.bool false) ∧ Below W.heap.size W w') := fun W => by have h := right_q p ip W; rw [hp] at h; exact h
  rw [opE_p hp]
  clear hp ip
  go_enter Tryz.func10, Tryz.ntmps10
  have hE : ∀ W, Fr 2 [(0, .cells #[.int .i64 (p.a), .int .i64 (p.b), .int .i64 (p.c), .int .i64 (p.d)] 23), (1, .cells #[.int .i64 (q.a), .int .i64 (q.b), .int .i64 (q.c), .int .i64 (q.d)] 23)] [] w W → (W.cell? ⟨w.heap.size, 0, none⟩ = some (.int .i64 (p.a)) ∧ W.cell? ⟨w.heap.size, 1, none⟩ = some (.int .i64 (p.b)) ∧ W.cell? ⟨w.heap.size, 2, none⟩ = some (.int .i64 (p.c)) ∧ W.cell? ⟨w.heap.size, 3, none⟩ = some (.int .i64 (p.d)) ∧ W.cell? ⟨w.heap.size + 1, 0, none⟩ = some (.int .i64 (q.a)) ∧ W.cell? ⟨w.heap.size + 1, 1, none⟩ = some (.int .i64 (q.b)) ∧ W.cell? ⟨w.heap.size + 1, 2, none⟩ = some (.int .i64 (q.c)) ∧ W.cell? ⟨w.heap.size + 1, 3, none⟩ = some (.int .i64 (q.d))) := fun W h => by (repeat' apply And.intro) <;> first | exact h.at0 rfl | exact h.at rfl | exact (h.rms0 rfl).cell | exact (h.rms rfl).cell | exact (h.rms0 rfl).frozen | exact (h.rms rfl).frozen
  have HE := Lib.hid hE
  clear hE
  go_wp2_with fail
  (go_at_call 19; refine (HR.out _).mono ?_; rintro e w1 ⟨rfl, hb1⟩; (try clear hq); (try clear hz); have hF : Fr 2 [(0, .cells #[.int .i64 (p.a), .int .i64 (p.b), .int .i64 (p.c), .int .i64 (p.d)] 23), (1, .cells #[.int .i64 (q.a), .int .i64 (q.b), .int .i64 (q.c), .int .i64 (q.d)] 23)] [] w w1 := Fr.call (by (repeat (first | exact hF | exact (((Fr.nil w).fixed (by simp) (.cells #[.int .i64 (p.a), .int .i64 (p.b), .int .i64 (p.c), .int .i64 (p.d)] 23)).fixed (by simp) (.cells #[.int .i64 (q.a), .int .i64 (q.b), .int .i64 (q.c), .int .i64 (q.d)] 23)) | exact And.left (by assumption) | refine Fr.set ?_ (by first | (simp; done) | (simp; omega)) (by first | (simp [List.lookup]; done) | (simp [Nat.add_assoc, List.lookup]; done)) _ | refine Fr.drew ?_ | refine Fr.alloc ?_ _))) hb1; have hq := HE.out _ hF; have hz : w.heap.size < w1.heap.size ∧ w.heap.size + 1 < w1.heap.size := by have hs := Own.size (Fr.own hF); omega)
  go_wp2
  go_ret
  refine ⟨rfl, ?_⟩
  refine Own.below (Fr.own (k := 2) (fx := [(0, .cells #[.int .i64 (p.a), .int .i64 (p.b), .int .i64 (p.c), .int .i64 (p.d)] 23), (1, .cells #[.int .i64 (q.a), .int .i64 (q.b), .int .i64 (q.c), .int .i64 (q.d)] 23)]) (rm := []) ?_); (repeat (first | exact hF | exact And.left (by assumption) | refine Fr.set ?_ (by first | (simp; done) | (simp; omega)) (by first | (simp [List.lookup]; done) | (simp [Nat.add_assoc, List.lookup]; done)) _ | refine Fr.drew ?_ | refine Fr.alloc ?_ _))

set_option maxHeartbeats 1000000 in
theorem bad_q (p q : Q4) (l : List Q4) (v : Value) (w : World) (ip : p.I64) (iq : q.I64) (hp : p.plane = true) (hqq : q.plane = false) :
    Calls Tryz.prog 10 #[.agg #[.int .i64 (p.a), .int .i64 (p.b), .int .i64 (p.c), .int .i64 (p.d)], .agg #[.int .i64 (q.a), .int .i64 (q.b), .int .i64 (q.c), .int .i64 (q.d)], v] w fun e w' => e = .returned (.int .i64 (opE p q l [])) ∧ Below w.heap.size w w' := by
  have HR : Hid (∀ W, Calls Tryz.prog 19 #[.agg #[.int .i64 (p.a), .int .i64 (p.b), .int .i64 (p.c), .int .i64 (p.d)]] W fun e w' => e = .returned (.bool true) ∧ Below W.heap.size W w') := fun W => by have h := right_q p ip W; rw [hp] at h; exact h
  have HS : Hid (∀ W, Calls Tryz.prog 19 #[.agg #[.int .i64 (q.a), .int .i64 (q.b), .int .i64 (q.c), .int .i64 (q.d)]] W fun e w' => e = .returned (.bool false) ∧ Below W.heap.size W w') := fun W => by have h := right_q q iq W; rw [hqq] at h; exact h
  rw [opE_q hqq]
  clear hp hqq ip iq
  go_enter Tryz.func10, Tryz.ntmps10
  have hE : ∀ W, Fr 2 [(0, .cells #[.int .i64 (p.a), .int .i64 (p.b), .int .i64 (p.c), .int .i64 (p.d)] 23), (1, .cells #[.int .i64 (q.a), .int .i64 (q.b), .int .i64 (q.c), .int .i64 (q.d)] 23)] [] w W → (W.cell? ⟨w.heap.size, 0, none⟩ = some (.int .i64 (p.a)) ∧ W.cell? ⟨w.heap.size, 1, none⟩ = some (.int .i64 (p.b)) ∧ W.cell? ⟨w.heap.size, 2, none⟩ = some (.int .i64 (p.c)) ∧ W.cell? ⟨w.heap.size, 3, none⟩ = some (.int .i64 (p.d)) ∧ W.cell? ⟨w.heap.size + 1, 0, none⟩ = some (.int .i64 (q.a)) ∧ W.cell? ⟨w.heap.size + 1, 1, none⟩ = some (.int .i64 (q.b)) ∧ W.cell? ⟨w.heap.size + 1, 2, none⟩ = some (.int .i64 (q.c)) ∧ W.cell? ⟨w.heap.size + 1, 3, none⟩ = some (.int .i64 (q.d))) := fun W h => by (repeat' apply And.intro) <;> first | exact h.at0 rfl | exact h.at rfl | exact (h.rms0 rfl).cell | exact (h.rms rfl).cell | exact (h.rms0 rfl).frozen | exact (h.rms rfl).frozen
  have HE := Lib.hid hE
  clear hE
  go_wp2_with fail
  (go_at_call 19; refine (HR.out _).mono ?_; rintro e w1 ⟨rfl, hb1⟩; (try clear hq); (try clear hz); have hF : Fr 2 [(0, .cells #[.int .i64 (p.a), .int .i64 (p.b), .int .i64 (p.c), .int .i64 (p.d)] 23), (1, .cells #[.int .i64 (q.a), .int .i64 (q.b), .int .i64 (q.c), .int .i64 (q.d)] 23)] [] w w1 := Fr.call (by (repeat (first | exact hF | exact (((Fr.nil w).fixed (by simp) (.cells #[.int .i64 (p.a), .int .i64 (p.b), .int .i64 (p.c), .int .i64 (p.d)] 23)).fixed (by simp) (.cells #[.int .i64 (q.a), .int .i64 (q.b), .int .i64 (q.c), .int .i64 (q.d)] 23)) | exact And.left (by assumption) | refine Fr.set ?_ (by first | (simp; done) | (simp; omega)) (by first | (simp [List.lookup]; done) | (simp [Nat.add_assoc, List.lookup]; done)) _ | refine Fr.drew ?_ | refine Fr.alloc ?_ _))) hb1; have hq := HE.out _ hF; have hz : w.heap.size < w1.heap.size ∧ w.heap.size + 1 < w1.heap.size := by have hs := Own.size (Fr.own hF); omega)
  go_wp2_with fail
  (go_at_call 19; refine (HS.out _).mono ?_; rintro e w1 ⟨rfl, hb1⟩; (try clear hq); (try clear hz); have hF : Fr 2 [(0, .cells #[.int .i64 (p.a), .int .i64 (p.b), .int .i64 (p.c), .int .i64 (p.d)] 23), (1, .cells #[.int .i64 (q.a), .int .i64 (q.b), .int .i64 (q.c), .int .i64 (q.d)] 23)] [] w w1 := Fr.call (by (repeat (first | exact hF | exact (((Fr.nil w).fixed (by simp) (.cells #[.int .i64 (p.a), .int .i64 (p.b), .int .i64 (p.c), .int .i64 (p.d)] 23)).fixed (by simp) (.cells #[.int .i64 (q.a), .int .i64 (q.b), .int .i64 (q.c), .int .i64 (q.d)] 23)) | exact And.left (by assumption) | refine Fr.set ?_ (by first | (simp; done) | (simp; omega)) (by first | (simp [List.lookup]; done) | (simp [Nat.add_assoc, List.lookup]; done)) _ | refine Fr.drew ?_ | refine Fr.alloc ?_ _))) hb1; have hq := HE.out _ hF; have hz : w.heap.size < w1.heap.size ∧ w.heap.size + 1 < w1.heap.size := by have hs := Own.size (Fr.own hF); omega)
  go_wp2
  go_ret
  refine ⟨rfl, ?_⟩
  refine Own.below (Fr.own (k := 2) (fx := [(0, .cells #[.int .i64 (p.a), .int .i64 (p.b), .int .i64 (p.c), .int .i64 (p.d)] 23), (1, .cells #[.int .i64 (q.a), .int .i64 (q.b), .int .i64 (q.c), .int .i64 (q.d)] 23)]) (rm := []) ?_); (repeat (first | exact hF | exact And.left (by assumption) | refine Fr.set ?_ (by first | (simp; done) | (simp; omega)) (by first | (simp [List.lookup]; done) | (simp [Nat.add_assoc, List.lookup]; done)) _ | refine Fr.drew ?_ | refine Fr.alloc ?_ _))

set_option maxRecDepth 100000 in
set_option maxHeartbeats 2000000 in
theorem bad_ok (p q : Q4) (l : List Q4) (b o cap : Nat) (w : World) (ip : p.I64) (iq : q.I64) (hp : p.plane = true) (hqq : q.plane = true) (hl : l.length ≤ 1000000) (hi : ∀ q, q ∈ l → q.I64) (hB : b < w.heap.size) (hc : Sl4 w b o l) :
    Calls Tryz.prog 10 #[.agg #[.int .i64 (p.a), .int .i64 (p.b), .int .i64 (p.c), .int .i64 (p.d)], .agg #[.int .i64 (q.a), .int .i64 (q.b), .int .i64 (q.c), .int .i64 (q.d)], .slice (some ⟨b, o, none⟩) l.length cap] w fun e w' => e = .returned (.int .i64 (opE p q l [])) ∧ Below w.heap.size w w' := by
  have HR : Hid (∀ W, Calls Tryz.prog 19 #[.agg #[.int .i64 (p.a), .int .i64 (p.b), .int .i64 (p.c), .int .i64 (p.d)]] W fun e w' => e = .returned (.bool true) ∧ Below W.heap.size W w') := fun W => by have h := right_q p ip W; rw [hp] at h; exact h
  have HS : Hid (∀ W, Calls Tryz.prog 19 #[.agg #[.int .i64 (q.a), .int .i64 (q.b), .int .i64 (q.c), .int .i64 (q.d)]] W fun e w' => e = .returned (.bool true) ∧ Below W.heap.size W w') := fun W => by have h := right_q q iq W; rw [hqq] at h; exact h
  have HP : Hid (p.plane = true ∧ q.plane = true) := ⟨hp, hqq⟩
  have HD : Hid (∀ W, Calls Tryz.prog 25 #[.agg #[.int .i64 (p.a), .int .i64 (p.b), .int .i64 (p.c), .int .i64 (p.d)], .agg #[.int .i64 (q.a), .int .i64 (q.b), .int .i64 (q.c), .int .i64 (q.d)]] W fun e w' => e = .returned (.bool (eq3B (p.dx q) (p.dy q) (p.dz q) 0 0 0)) ∧ Below W.heap.size W w') := fun W => by
    have h := parallel_any p.a p.b p.c p.d q.a q.b q.c q.d W
    rw [par_dir (plane_iff.1 hp).1 (plane_iff.1 hqq).1] at h; exact h
  have HC := Lib.hid hc
  have HI := Lib.hid hi
  clear hp hqq ip iq hc hi
  go_enter Tryz.func10, Tryz.ntmps10
  have hE : ∀ W, Fr 2 [(0, .cells #[.int .i64 (p.a), .int .i64 (p.b), .int .i64 (p.c), .int .i64 (p.d)] 23), (1, .cells #[.int .i64 (q.a), .int .i64 (q.b), .int .i64 (q.c), .int .i64 (q.d)] 23)] [] w W → (W.cell? ⟨w.heap.size, 0, none⟩ = some (.int .i64 (p.a)) ∧ W.cell? ⟨w.heap.size, 1, none⟩ = some (.int .i64 (p.b)) ∧ W.cell? ⟨w.heap.size, 2, none⟩ = some (.int .i64 (p.c)) ∧ W.cell? ⟨w.heap.size, 3, none⟩ = some (.int .i64 (p.d)) ∧ W.cell? ⟨w.heap.size + 1, 0, none⟩ = some (.int .i64 (q.a)) ∧ W.cell? ⟨w.heap.size + 1, 1, none⟩ = some (.int .i64 (q.b)) ∧ W.cell? ⟨w.heap.size + 1, 2, none⟩ = some (.int .i64 (q.c)) ∧ W.cell? ⟨w.heap.size + 1, 3, none⟩ = some (.int .i64 (q.d))) := fun W h => by (repeat' apply And.intro) <;> first | exact h.at0 rfl | exact h.at rfl | exact (h.rms0 rfl).cell | exact (h.rms rfl).cell | exact (h.rms0 rfl).frozen | exact (h.rms rfl).frozen
  have HE := Lib.hid hE
  clear hE
  go_wp2_with fail
  (go_at_call 19; refine (HR.out _).mono ?_; rintro e w1 ⟨rfl, hb1⟩; (try clear hq); (try clear hz); have hF : Fr 2 [(0, .cells #[.int .i64 (p.a), .int .i64 (p.b), .int .i64 (p.c), .int .i64 (p.d)] 23), (1, .cells #[.int .i64 (q.a), .int .i64 (q.b), .int .i64 (q.c), .int .i64 (q.d)] 23)] [] w w1 := Fr.call (by (repeat (first | exact hF | exact (((Fr.nil w).fixed (by simp) (.cells #[.int .i64 (p.a), .int .i64 (p.b), .int .i64 (p.c), .int .i64 (p.d)] 23)).fixed (by simp) (.cells #[.int .i64 (q.a), .int .i64 (q.b), .int .i64 (q.c), .int .i64 (q.d)] 23)) | exact And.left (by assumption) | refine Fr.set ?_ (by first | (simp; done) | (simp; omega)) (by first | (simp [List.lookup]; done) | (simp [Nat.add_assoc, List.lookup]; done)) _ | refine Fr.drew ?_ | refine Fr.alloc ?_ _))) hb1; have hq := HE.out _ hF; have hz : w.heap.size < w1.heap.size ∧ w.heap.size + 1 < w1.heap.size := by have hs := Own.size (Fr.own hF); omega)
  go_wp2_with fail
  (go_at_call 19; refine (HS.out _).mono ?_; rintro e w1 ⟨rfl, hb1⟩; (try clear hq); (try clear hz); have hF : Fr 2 [(0, .cells #[.int .i64 (p.a), .int .i64 (p.b), .int .i64 (p.c), .int .i64 (p.d)] 23), (1, .cells #[.int .i64 (q.a), .int .i64 (q.b), .int .i64 (q.c), .int .i64 (q.d)] 23)] [] w w1 := Fr.call (by (repeat (first | exact hF | exact (((Fr.nil w).fixed (by simp) (.cells #[.int .i64 (p.a), .int .i64 (p.b), .int .i64 (p.c), .int .i64 (p.d)] 23)).fixed (by simp) (.cells #[.int .i64 (q.a), .int .i64 (q.b), .int .i64 (q.c), .int .i64 (q.d)] 23)) | exact And.left (by assumption) | refine Fr.set ?_ (by first | (simp; done) | (simp; omega)) (by first | (simp [List.lookup]; done) | (simp [Nat.add_assoc, List.lookup]; done)) _ | refine Fr.drew ?_ | refine Fr.alloc ?_ _))) hb1; have hq := HE.out _ hF; have hz : w.heap.size < w1.heap.size ∧ w.heap.size + 1 < w1.heap.size := by have hs := Own.size (Fr.own hF); omega)
  have HF := Lib.hid hF
  go_wp2
  go_loopw [7] (fun v wr => ∃ k : Nat, k ≤ l.length ∧ v = .int .i64 k ∧ Fr 2 [(0, .cells #[.int .i64 (p.a), .int .i64 (p.b), .int .i64 (p.c), .int .i64 (p.d)] 23), (1, .cells #[.int .i64 (q.a), .int .i64 (q.b), .int .i64 (q.c), .int .i64 (q.d)] 23)] [] w wr ∧ Hid (∀ i y, i < k → l[i]? = some y → y.plane = true)) (fun v _ => l.length - (intOf v).toNat)
  case atStart => exact ⟨0, Nat.zero_le _, rfl, HF.out, fun i y h => by omega⟩
  case round =>
    rename_i wr
    obtain ⟨k, hk, rfl, hF, HN⟩ := hrel
    by_cases hlt : k < l.length
    · obtain ⟨r, hr⟩ : ∃ r, l[k]? = some r := ⟨_, List.getElem?_eq_getElem hlt⟩
      obtain ⟨c0, c1, c2, c3⟩ := (HC.out k r hr).below hF.own.below hB
      have HQ := Lib.hid hr
      have HX : Hid (∀ W, Calls Tryz.prog 19 #[.agg #[.int .i64 (r.a), .int .i64 (r.b), .int .i64 (r.c), .int .i64 (r.d)]] W fun e w' => e = .returned (.bool r.plane) ∧ Below W.heap.size W w') := fun W => right_q r (HI.out r (List.mem_of_getElem? hr)) W
      clear hr
      cases hrp : r.plane with
      | false =>
        have HPL : Hid (r.plane = false) := hrp
        rw [hrp] at HX
        clear hrp
        go_wp2_with fail
        (go_at_call 19; refine (HX.out _).mono ?_; rintro e w1 ⟨rfl, hb1⟩; (try clear hq); (try clear hz); have hF : Fr 2 [(0, .cells #[.int .i64 (p.a), .int .i64 (p.b), .int .i64 (p.c), .int .i64 (p.d)] 23), (1, .cells #[.int .i64 (q.a), .int .i64 (q.b), .int .i64 (q.c), .int .i64 (q.d)] 23)] [] w w1 := Fr.call (by (repeat (first | exact hF | exact (((Fr.nil w).fixed (by simp) (.cells #[.int .i64 (p.a), .int .i64 (p.b), .int .i64 (p.c), .int .i64 (p.d)] 23)).fixed (by simp) (.cells #[.int .i64 (q.a), .int .i64 (q.b), .int .i64 (q.c), .int .i64 (q.d)] 23)) | exact And.left (by assumption) | refine Fr.set ?_ (by first | (simp; done) | (simp; omega)) (by first | (simp [List.lookup]; done) | (simp [Nat.add_assoc, List.lookup]; done)) _ | refine Fr.drew ?_ | refine Fr.alloc ?_ _))) hb1; have hq := HE.out _ hF; have hz : w.heap.size < w1.heap.size ∧ w.heap.size + 1 < w1.heap.size := by have hs := Own.size (Fr.own hF); omega)
        go_wp2
        go_ret
        refine ⟨?_, ?_⟩
        · rw [opE_l (List.mem_of_getElem? HQ.out) HPL.out]; rfl
        · refine Own.below (Fr.own (k := 2) (fx := [(0, .cells #[.int .i64 (p.a), .int .i64 (p.b), .int .i64 (p.c), .int .i64 (p.d)] 23), (1, .cells #[.int .i64 (q.a), .int .i64 (q.b), .int .i64 (q.c), .int .i64 (q.d)] 23)]) (rm := []) ?_); (repeat (first | exact hF | exact And.left (by assumption) | refine Fr.set ?_ (by first | (simp; done) | (simp; omega)) (by first | (simp [List.lookup]; done) | (simp [Nat.add_assoc, List.lookup]; done)) _ | refine Fr.drew ?_ | refine Fr.alloc ?_ _))
      | true =>
        have HPL : Hid (r.plane = true) := hrp
        rw [hrp] at HX
        clear hrp
        go_wp2_with fail
        (go_at_call 19; refine (HX.out _).mono ?_; rintro e w1 ⟨rfl, hb1⟩; (try clear hq); (try clear hz); have hF : Fr 2 [(0, .cells #[.int .i64 (p.a), .int .i64 (p.b), .int .i64 (p.c), .int .i64 (p.d)] 23), (1, .cells #[.int .i64 (q.a), .int .i64 (q.b), .int .i64 (q.c), .int .i64 (q.d)] 23)] [] w w1 := Fr.call (by (repeat (first | exact hF | exact (((Fr.nil w).fixed (by simp) (.cells #[.int .i64 (p.a), .int .i64 (p.b), .int .i64 (p.c), .int .i64 (p.d)] 23)).fixed (by simp) (.cells #[.int .i64 (q.a), .int .i64 (q.b), .int .i64 (q.c), .int .i64 (q.d)] 23)) | exact And.left (by assumption) | refine Fr.set ?_ (by first | (simp; done) | (simp; omega)) (by first | (simp [List.lookup]; done) | (simp [Nat.add_assoc, List.lookup]; done)) _ | refine Fr.drew ?_ | refine Fr.alloc ?_ _))) hb1; have hq := HE.out _ hF; have hz : w.heap.size < w1.heap.size ∧ w.heap.size + 1 < w1.heap.size := by have hs := Own.size (Fr.own hF); omega)
        have HF1 := Lib.hid hF
        go_wp2
        go_roundw
        case rel =>
          refine ⟨k + 1, by omega, by go_num, HF1.out, fun i y h1 h2 => ?_⟩
          rcases Nat.lt_succ_iff_lt_or_eq.1 h1 with h | h
          · exact HN.out i y h h2
          · subst h
            have e : r = y := Option.some.inj (HQ.out.symm.trans h2)
            rw [← e, HPL.out]
        case measure => simp [intOf]; omega
    · have hkk : k = l.length := by omega
      have HALL : Hid (l.all Q4.plane = true) := by
        unfold Hid; rw [List.all_eq_true]; intro x hx
        obtain ⟨i, hi, rfl⟩ := List.getElem_of_mem hx
        exact HN.out i _ (by omega) (List.getElem?_eq_getElem hi)
      have HO : Hid (opE p q l [] = if eq3B (p.dx q) (p.dy q) (p.dz q) 0 0 0 = true then 4 else 0) := by
        unfold Hid; rw [opE_eq, allPl_eq, allPl_eq, allPt_eq, HALL.out]; simp [HP.out.1, HP.out.2]
      clear HALL hkk
      have hqr := HE.out _ hF
      cases hd : eq3B (p.dx q) (p.dy q) (p.dz q) 0 0 0 with
      | false =>
        rw [hd] at HD HO
        clear hd
        go_wp2_with fail
        (go_at_call 25; refine (HD.out _).mono ?_; rintro e w1 ⟨rfl, hb1⟩; (try clear hq); (try clear hz); have hF : Fr 2 [(0, .cells #[.int .i64 (p.a), .int .i64 (p.b), .int .i64 (p.c), .int .i64 (p.d)] 23), (1, .cells #[.int .i64 (q.a), .int .i64 (q.b), .int .i64 (q.c), .int .i64 (q.d)] 23)] [] w w1 := Fr.call (by (repeat (first | exact hF | exact (((Fr.nil w).fixed (by simp) (.cells #[.int .i64 (p.a), .int .i64 (p.b), .int .i64 (p.c), .int .i64 (p.d)] 23)).fixed (by simp) (.cells #[.int .i64 (q.a), .int .i64 (q.b), .int .i64 (q.c), .int .i64 (q.d)] 23)) | exact And.left (by assumption) | refine Fr.set ?_ (by first | (simp; done) | (simp; omega)) (by first | (simp [List.lookup]; done) | (simp [Nat.add_assoc, List.lookup]; done)) _ | refine Fr.drew ?_ | refine Fr.alloc ?_ _))) hb1; have hq := HE.out _ hF; have hz : w.heap.size < w1.heap.size ∧ w.heap.size + 1 < w1.heap.size := by have hs := Own.size (Fr.own hF); omega)
        go_wp2
        go_ret
        refine ⟨?_, ?_⟩
        · rw [HO.out]; rfl
        · refine Own.below (Fr.own (k := 2) (fx := [(0, .cells #[.int .i64 (p.a), .int .i64 (p.b), .int .i64 (p.c), .int .i64 (p.d)] 23), (1, .cells #[.int .i64 (q.a), .int .i64 (q.b), .int .i64 (q.c), .int .i64 (q.d)] 23)]) (rm := []) ?_); (repeat (first | exact hF | exact And.left (by assumption) | refine Fr.set ?_ (by first | (simp; done) | (simp; omega)) (by first | (simp [List.lookup]; done) | (simp [Nat.add_assoc, List.lookup]; done)) _ | refine Fr.drew ?_ | refine Fr.alloc ?_ _))
      | true =>
        rw [hd] at HD HO
        clear hd
        go_wp2_with fail
        (go_at_call 25; refine (HD.out _).mono ?_; rintro e w1 ⟨rfl, hb1⟩; (try clear hq); (try clear hz); have hF : Fr 2 [(0, .cells #[.int .i64 (p.a), .int .i64 (p.b), .int .i64 (p.c), .int .i64 (p.d)] 23), (1, .cells #[.int .i64 (q.a), .int .i64 (q.b), .int .i64 (q.c), .int .i64 (q.d)] 23)] [] w w1 := Fr.call (by (repeat (first | exact hF | exact (((Fr.nil w).fixed (by simp) (.cells #[.int .i64 (p.a), .int .i64 (p.b), .int .i64 (p.c), .int .i64 (p.d)] 23)).fixed (by simp) (.cells #[.int .i64 (q.a), .int .i64 (q.b), .int .i64 (q.c), .int .i64 (q.d)] 23)) | exact And.left (by assumption) | refine Fr.set ?_ (by first | (simp; done) | (simp; omega)) (by first | (simp [List.lookup]; done) | (simp [Nat.add_assoc, List.lookup]; done)) _ | refine Fr.drew ?_ | refine Fr.alloc ?_ _))) hb1; have hq := HE.out _ hF; have hz : w.heap.size < w1.heap.size ∧ w.heap.size + 1 < w1.heap.size := by have hs := Own.size (Fr.own hF); omega)
        go_wp2
        go_ret
        refine ⟨?_, ?_⟩
        · rw [HO.out]; rfl
        · refine Own.below (Fr.own (k := 2) (fx := [(0, .cells #[.int .i64 (p.a), .int .i64 (p.b), .int .i64 (p.c), .int .i64 (p.d)] 23), (1, .cells #[.int .i64 (q.a), .int .i64 (q.b), .int .i64 (q.c), .int .i64 (q.d)] 23)]) (rm := []) ?_); (repeat (first | exact hF | exact And.left (by assumption) | refine Fr.set ?_ (by first | (simp; done) | (simp; omega)) (by first | (simp [List.lookup]; done) | (simp [Nat.add_assoc, List.lookup]; done)) _ | refine Fr.drew ?_ | refine Fr.alloc ?_ _))

set_option maxRecDepth 100000 in
set_option maxHeartbeats 2000000 in
theorem bad_nil (p q : Q4) (w : World) (ip : p.I64) (iq : q.I64) (hp : p.plane = true) (hqq : q.plane = true) :
    Calls Tryz.prog 10 #[.agg #[.int .i64 (p.a), .int .i64 (p.b), .int .i64 (p.c), .int .i64 (p.d)], .agg #[.int .i64 (q.a), .int .i64 (q.b), .int .i64 (q.c), .int .i64 (q.d)], .slice none 0 0] w fun e w' => e = .returned (.int .i64 (opE p q [] [])) ∧ Below w.heap.size w w' := by
  have HR : Hid (∀ W, Calls Tryz.prog 19 #[.agg #[.int .i64 (p.a), .int .i64 (p.b), .int .i64 (p.c), .int .i64 (p.d)]] W fun e w' => e = .returned (.bool true) ∧ Below W.heap.size W w') := fun W => by have h := right_q p ip W; rw [hp] at h; exact h
  have HS : Hid (∀ W, Calls Tryz.prog 19 #[.agg #[.int .i64 (q.a), .int .i64 (q.b), .int .i64 (q.c), .int .i64 (q.d)]] W fun e w' => e = .returned (.bool true) ∧ Below W.heap.size W w') := fun W => by have h := right_q q iq W; rw [hqq] at h; exact h
  have HD : Hid (∀ W, Calls Tryz.prog 25 #[.agg #[.int .i64 (p.a), .int .i64 (p.b), .int .i64 (p.c), .int .i64 (p.d)], .agg #[.int .i64 (q.a), .int .i64 (q.b), .int .i64 (q.c), .int .i64 (q.d)]] W fun e w' => e = .returned (.bool (eq3B (p.dx q) (p.dy q) (p.dz q) 0 0 0)) ∧ Below W.heap.size W w') := fun W => by
    have h := parallel_any p.a p.b p.c p.d q.a q.b q.c q.d W
    rw [par_dir (plane_iff.1 hp).1 (plane_iff.1 hqq).1] at h; exact h
  have HO : Hid (opE p q [] [] = if eq3B (p.dx q) (p.dy q) (p.dz q) 0 0 0 = true then 4 else 0) := by
    unfold Hid; rw [opE_eq, allPl_eq, allPl_eq, allPt_eq]; simp [hp, hqq]
  clear hp hqq ip iq
  go_enter Tryz.func10, Tryz.ntmps10
  have hE : ∀ W, Fr 2 [(0, .cells #[.int .i64 (p.a), .int .i64 (p.b), .int .i64 (p.c), .int .i64 (p.d)] 23), (1, .cells #[.int .i64 (q.a), .int .i64 (q.b), .int .i64 (q.c), .int .i64 (q.d)] 23)] [] w W → (W.cell? ⟨w.heap.size, 0, none⟩ = some (.int .i64 (p.a)) ∧ W.cell? ⟨w.heap.size, 1, none⟩ = some (.int .i64 (p.b)) ∧ W.cell? ⟨w.heap.size, 2, none⟩ = some (.int .i64 (p.c)) ∧ W.cell? ⟨w.heap.size, 3, none⟩ = some (.int .i64 (p.d)) ∧ W.cell? ⟨w.heap.size + 1, 0, none⟩ = some (.int .i64 (q.a)) ∧ W.cell? ⟨w.heap.size + 1, 1, none⟩ = some (.int .i64 (q.b)) ∧ W.cell? ⟨w.heap.size + 1, 2, none⟩ = some (.int .i64 (q.c)) ∧ W.cell? ⟨w.heap.size + 1, 3, none⟩ = some (.int .i64 (q.d))) := fun W h => by (repeat' apply And.intro) <;> first | exact h.at0 rfl | exact h.at rfl | exact (h.rms0 rfl).cell | exact (h.rms rfl).cell | exact (h.rms0 rfl).frozen | exact (h.rms rfl).frozen
  have HE := Lib.hid hE
  clear hE
  go_wp2_with fail
  (go_at_call 19; refine (HR.out _).mono ?_; rintro e w1 ⟨rfl, hb1⟩; (try clear hq); (try clear hz); have hF : Fr 2 [(0, .cells #[.int .i64 (p.a), .int .i64 (p.b), .int .i64 (p.c), .int .i64 (p.d)] 23), (1, .cells #[.int .i64 (q.a), .int .i64 (q.b), .int .i64 (q.c), .int .i64 (q.d)] 23)] [] w w1 := Fr.call (by (repeat (first | exact hF | exact (((Fr.nil w).fixed (by simp) (.cells #[.int .i64 (p.a), .int .i64 (p.b), .int .i64 (p.c), .int .i64 (p.d)] 23)).fixed (by simp) (.cells #[.int .i64 (q.a), .int .i64 (q.b), .int .i64 (q.c), .int .i64 (q.d)] 23)) | exact And.left (by assumption) | refine Fr.set ?_ (by first | (simp; done) | (simp; omega)) (by first | (simp [List.lookup]; done) | (simp [Nat.add_assoc, List.lookup]; done)) _ | refine Fr.drew ?_ | refine Fr.alloc ?_ _))) hb1; have hq := HE.out _ hF; have hz : w.heap.size < w1.heap.size ∧ w.heap.size + 1 < w1.heap.size := by have hs := Own.size (Fr.own hF); omega)
  go_wp2_with fail
  (go_at_call 19; refine (HS.out _).mono ?_; rintro e w1 ⟨rfl, hb1⟩; (try clear hq); (try clear hz); have hF : Fr 2 [(0, .cells #[.int .i64 (p.a), .int .i64 (p.b), .int .i64 (p.c), .int .i64 (p.d)] 23), (1, .cells #[.int .i64 (q.a), .int .i64 (q.b), .int .i64 (q.c), .int .i64 (q.d)] 23)] [] w w1 := Fr.call (by (repeat (first | exact hF | exact (((Fr.nil w).fixed (by simp) (.cells #[.int .i64 (p.a), .int .i64 (p.b), .int .i64 (p.c), .int .i64 (p.d)] 23)).fixed (by simp) (.cells #[.int .i64 (q.a), .int .i64 (q.b), .int .i64 (q.c), .int .i64 (q.d)] 23)) | exact And.left (by assumption) | refine Fr.set ?_ (by first | (simp; done) | (simp; omega)) (by first | (simp [List.lookup]; done) | (simp [Nat.add_assoc, List.lookup]; done)) _ | refine Fr.drew ?_ | refine Fr.alloc ?_ _))) hb1; have hq := HE.out _ hF; have hz : w.heap.size < w1.heap.size ∧ w.heap.size + 1 < w1.heap.size := by have hs := Own.size (Fr.own hF); omega)
  have HF := Lib.hid hF
  go_wp2
  go_loopw [7] (fun v wr => v = .int .i64 0 ∧ Fr 2 [(0, .cells #[.int .i64 (p.a), .int .i64 (p.b), .int .i64 (p.c), .int .i64 (p.d)] 23), (1, .cells #[.int .i64 (q.a), .int .i64 (q.b), .int .i64 (q.c), .int .i64 (q.d)] 23)] [] w wr) (fun _ _ => 0)
  case atStart => exact ⟨rfl, HF.out⟩
  case round =>
    rename_i wr
    obtain ⟨rfl, hF⟩ := hrel
    have hqr := HE.out _ hF
    cases hd : eq3B (p.dx q) (p.dy q) (p.dz q) 0 0 0 with
    | false =>
      rw [hd] at HD HO
      clear hd
      go_wp2_with fail
      (go_at_call 25; refine (HD.out _).mono ?_; rintro e w1 ⟨rfl, hb1⟩; (try clear hq); (try clear hz); have hF : Fr 2 [(0, .cells #[.int .i64 (p.a), .int .i64 (p.b), .int .i64 (p.c), .int .i64 (p.d)] 23), (1, .cells #[.int .i64 (q.a), .int .i64 (q.b), .int .i64 (q.c), .int .i64 (q.d)] 23)] [] w w1 := Fr.call (by (repeat (first | exact hF | exact (((Fr.nil w).fixed (by simp) (.cells #[.int .i64 (p.a), .int .i64 (p.b), .int .i64 (p.c), .int .i64 (p.d)] 23)).fixed (by simp) (.cells #[.int .i64 (q.a), .int .i64 (q.b), .int .i64 (q.c), .int .i64 (q.d)] 23)) | exact And.left (by assumption) | refine Fr.set ?_ (by first | (simp; done) | (simp; omega)) (by first | (simp [List.lookup]; done) | (simp [Nat.add_assoc, List.lookup]; done)) _ | refine Fr.drew ?_ | refine Fr.alloc ?_ _))) hb1; have hq := HE.out _ hF; have hz : w.heap.size < w1.heap.size ∧ w.heap.size + 1 < w1.heap.size := by have hs := Own.size (Fr.own hF); omega)
      go_wp2
      go_ret
      refine ⟨?_, ?_⟩
      · rw [HO.out]; rfl
      · refine Own.below (Fr.own (k := 2) (fx := [(0, .cells #[.int .i64 (p.a), .int .i64 (p.b), .int .i64 (p.c), .int .i64 (p.d)] 23), (1, .cells #[.int .i64 (q.a), .int .i64 (q.b), .int .i64 (q.c), .int .i64 (q.d)] 23)]) (rm := []) ?_); (repeat (first | exact hF | exact And.left (by assumption) | refine Fr.set ?_ (by first | (simp; done) | (simp; omega)) (by first | (simp [List.lookup]; done) | (simp [Nat.add_assoc, List.lookup]; done)) _ | refine Fr.drew ?_ | refine Fr.alloc ?_ _))
    | true =>
      rw [hd] at HD HO
      clear hd
      go_wp2_with fail
      (go_at_call 25; refine (HD.out _).mono ?_; rintro e w1 ⟨rfl, hb1⟩; (try clear hq); (try clear hz); have hF : Fr 2 [(0, .cells #[.int .i64 (p.a), .int .i64 (p.b), .int .i64 (p.c), .int .i64 (p.d)] 23), (1, .cells #[.int .i64 (q.a), .int .i64 (q.b), .int .i64 (q.c), .int .i64 (q.d)] 23)] [] w w1 := Fr.call (by (repeat (first | exact hF | exact (((Fr.nil w).fixed (by simp) (.cells #[.int .i64 (p.a), .int .i64 (p.b), .int .i64 (p.c), .int .i64 (p.d)] 23)).fixed (by simp) (.cells #[.int .i64 (q.a), .int .i64 (q.b), .int .i64 (q.c), .int .i64 (q.d)] 23)) | exact And.left (by assumption) | refine Fr.set ?_ (by first | (simp; done) | (simp; omega)) (by first | (simp [List.lookup]; done) | (simp [Nat.add_assoc, List.lookup]; done)) _ | refine Fr.drew ?_ | refine Fr.alloc ?_ _))) hb1; have hq := HE.out _ hF; have hz : w.heap.size < w1.heap.size ∧ w.heap.size + 1 < w1.heap.size := by have hs := Own.size (Fr.own hF); omega)
      go_wp2
      go_ret
      refine ⟨?_, ?_⟩
      · rw [HO.out]; rfl
      · refine Own.below (Fr.own (k := 2) (fx := [(0, .cells #[.int .i64 (p.a), .int .i64 (p.b), .int .i64 (p.c), .int .i64 (p.d)] 23), (1, .cells #[.int .i64 (q.a), .int .i64 (q.b), .int .i64 (q.c), .int .i64 (q.d)] 23)]) (rm := []) ?_); (repeat (first | exact hF | exact And.left (by assumption) | refine Fr.set ?_ (by first | (simp; done) | (simp; omega)) (by first | (simp [List.lookup]; done) | (simp [Nat.add_assoc, List.lookup]; done)) _ | refine Fr.drew ?_ | refine Fr.alloc ?_ _))

/-- 'bad' of any planes is the code's own first error. -/
theorem badE_any (p q : Q4) (l : List Q4) (v : Value) (w : World) (ip : p.I64) (iq : q.I64) (hl : l.length ≤ 1000000) (hi : ∀ q, q ∈ l → q.I64) (hv : SlV w v l) :
    Calls Tryz.prog 10 #[.agg #[.int .i64 (p.a), .int .i64 (p.b), .int .i64 (p.c), .int .i64 (p.d)], .agg #[.int .i64 (q.a), .int .i64 (q.b), .int .i64 (q.c), .int .i64 (q.d)], v] w fun e w' => e = .returned (.int .i64 (opE p q l [])) ∧ Below w.heap.size w w' := by
  cases hp : p.plane with
  | false => exact bad_p p q l v w ip hp
  | true =>
    cases hqq : q.plane with
    | false => exact bad_q p q l v w ip iq hp hqq
    | true =>
      rcases hv with ⟨rfl, rfl⟩ | ⟨b, o, cap, rfl, hB, hc⟩
      · exact bad_nil p q w ip iq hp hqq
      · exact bad_ok p q l b o cap w ip iq hp hqq hl hi hB hc

end Go.Proofs.YtaoedfegakpjeabGreat

namespace Go.Proofs.YtaoedfegakpjeabGreat
open Go.RowKit

def T3.I64' (v : T3) : Prop := Proofs.YtaoedfegakpjeabGreat.I64 v.x ∧ Proofs.YtaoedfegakpjeabGreat.I64 v.y ∧ Proofs.YtaoedfegakpjeabGreat.I64 v.z
theorem outB_size {n : Int} (h : I64 n) : outB n = !decide (sizeI n ≤ 2000000) := by
  have e := sizeI_le h (m := 2000000) (by omega)
  rw [outB_eq, Bool.eq_iff_iff]
  simp only [Bool.or_eq_true, decide_eq_true_eq, Bool.not_eq_true', decide_eq_false_iff_not, e]
  omega
/-- A vector is a direction for the one just if it is for the other. -/
theorem way_bad (p : Q4) {v : T3} (iv : v.I64') : wayB p v = !badV p v := by
  rw [wayB_eq, badV_eq, out3_eq]
  simp only [List.any_cons, List.any_nil, outB_size iv.1, outB_size iv.2.1, outB_size iv.2.2]
  cases decide (sizeI v.x ≤ 2000000) <;> cases decide (sizeI v.y ≤ 2000000) <;> cases decide (sizeI v.z ≤ 2000000) <;> cases eq3B v.x v.y v.z 0 0 0 <;> simp [bne]
theorem are_two_way (p : Q4) {u v : T3} (iu : u.I64') (iv : v.I64') : areB p [u, v] = (wayB p u && wayB p v) := by
  rw [areB_eq, way_bad p iu, way_bad p iv]
  simp
def WayOK' (p : Q4) (d : T3) : Prop := ¬ (d.x = 0 ∧ d.y = 0 ∧ d.z = 0) ∧ d.x.natAbs ≤ 2000000 ∧ d.y.natAbs ≤ 2000000 ∧ d.z.natAbs ≤ 2000000 ∧ p.a * d.x + p.b * d.y + p.c * d.z = 0
theorem wayB_ok {p : Q4} (hp : Pl p) {v : T3} (iv : v.I64') (h : wayB p v = true) : WayOK' p v := by
  rw [wayB_eq] at h
  simp only [Bool.and_eq_true, decide_eq_true_eq, Bool.not_eq_true', beq_iff_eq] at h
  obtain ⟨h1, h2, h3, h4, h5⟩ := h
  have k1 := (sizeI_le iv.1 (by omega)).1 h1
  have k2 := (sizeI_le iv.2.1 (by omega)).1 h2
  have k3 := (sizeI_le iv.2.2 (by omega)).1 h3
  have b1 : v.x.natAbs ≤ 2000000 := by omega
  have b2 : v.y.natAbs ≤ 2000000 := by omega
  have b3 : v.z.natAbs ≤ 2000000 := by omega
  rw [dot_id hp.a hp.b hp.c b1 b2 b3 (by omega)] at h5
  refine ⟨fun hh => ?_, b1, b2, b3, h5⟩
  rw [hh.1, hh.2.1, hh.2.2] at h4; simp [eq3B] at h4

/-- The square of the triple product, of two vectors in a plane. -/
theorem gram (a b c x y z r s t : Int) (h1 : a * x + b * y + c * z = 0) (h2 : a * r + b * s + c * t = 0) :
    (a * (y * t - z * s) + b * (z * r - x * t) + c * (x * s - y * r)) * (a * (y * t - z * s) + b * (z * r - x * t) + c * (x * s - y * r)) =
      (a * a + b * b + c * c) * ((x * x + y * y + z * z) * (r * r + s * s + t * t) - (x * r + y * s + z * t) * (x * r + y * s + z * t)) := by
  have id : ∀ (A B : Int), A = a * x + b * y + c * z → B = a * r + b * s + c * t →
    (a * (y * t - z * s) + b * (z * r - x * t) + c * (x * s - y * r)) * (a * (y * t - z * s) + b * (z * r - x * t) + c * (x * s - y * r)) =
      (a * a + b * b + c * c) * ((x * x + y * y + z * z) * (r * r + s * s + t * t) - (x * r + y * s + z * t) * (x * r + y * s + z * t)) - A * (A * (r * r + s * s + t * t) - B * (x * r + y * s + z * t)) + B * (A * (x * r + y * s + z * t) - B * (x * x + y * y + z * z)) := by
    intro A B hA hB
    subst hA hB
    grind
  have := id 0 0 h1.symm h2.symm
  rw [this]; simp

theorem sq_pos {x y z : Int} (h : ¬ (x = 0 ∧ y = 0 ∧ z = 0)) : 0 < x * x + y * y + z * z := by
  have sq : ∀ x : Int, 0 ≤ x * x ∧ (x ≠ 0 → 0 < x * x) := fun x => by
    have h : (x.natAbs : Int) * x.natAbs = x * x := Int.natAbs_mul_self' x
    rw [← h]
    exact ⟨Int.mul_nonneg (by omega) (by omega), fun hx => Int.mul_pos (by omega) (by omega)⟩
  have s1 := sq x
  have s2 := sq y
  have s3 := sq z
  by_cases z1 : x = 0
  · by_cases z2 : y = 0
    · have := s3.2 (fun z3 => h ⟨z1, z2, z3⟩); omega
    · have := s2.2 z2; omega
  · have := s1.2 z1; omega
theorem sgn_pos (x : Int) : (0 < sgn x ↔ 0 < x) ∧ (sgn x < 0 ↔ x < 0) := by
  unfold sgn cmp3
  constructor <;> ((repeat' split) <;> omega)
/-- Program and reference agree how a direction lies to another one. -/
theorem ang_same {p : Q4} (hp : Pl p) {u v : T3} (hu : WayOK' p u) (hv : WayOK' p v) : angT p u v = rangI p u v := by
  obtain ⟨nu, u1, u2, u3, pu⟩ := hu
  obtain ⟨nv, v1, v2, v3, pv⟩ := hv
  have x := crs_id u2 v3 u3 v2 (by omega)
  have y := crs_id u3 v1 u1 v3 (by omega)
  have z := crs_id u1 v2 u2 v1 (by omega)
  have d := dot_id u1 u2 u3 v1 v2 v3 (by omega)
  have c1 : dot (crs u.y v.z u.z v.y) (crs u.z v.x u.x v.z) (crs u.x v.y u.y v.x) p.a p.b p.c = (u.y * v.z - u.z * v.y) * p.a + (u.z * v.x - u.x * v.z) * p.b + (u.x * v.y - u.y * v.x) * p.c := by
    rw [x.1, y.1, z.1, dot_id x.2 y.2 z.2 hp.a hp.b hp.c (by omega)]
  have c2 : dot p.a p.b p.c (crs u.y v.z u.z v.y) (crs u.z v.x u.x v.z) (crs u.x v.y u.y v.x) = p.a * (u.y * v.z - u.z * v.y) + p.b * (u.z * v.x - u.x * v.z) + p.c * (u.x * v.y - u.y * v.x) := by
    rw [x.1, y.1, z.1, dot_id hp.a hp.b hp.c x.2 y.2 z.2 (by omega)]
  have ec : (u.y * v.z - u.z * v.y) * p.a + (u.z * v.x - u.x * v.z) * p.b + (u.x * v.y - u.y * v.x) * p.c = p.a * (u.y * v.z - u.z * v.y) + p.b * (u.z * v.x - u.x * v.z) + p.c * (u.x * v.y - u.y * v.x) := by grind
  have hg := gram p.a p.b p.c u.x u.y u.z v.x v.y v.z pu pv
  rw [angT_eq, rangI_eq]
  unfold angle
  rw [c1, c2, ec, d]
  have hN := sq_pos hp.nz
  have hU := sq_pos nu
  have hV := sq_pos nv
  have hne : ∀ C D : Int, C * C = (p.a * p.a + p.b * p.b + p.c * p.c) * ((u.x * u.x + u.y * u.y + u.z * u.z) * (v.x * v.x + v.y * v.y + v.z * v.z) - D * D) → C = 0 → D ≠ 0 := by
    intro C D h hC hD
    subst hC hD
    have := Int.mul_pos hN (Int.mul_pos hU hV)
    simp at h
    omega
  have k := hne _ _ hg
  generalize p.a * (u.y * v.z - u.z * v.y) + p.b * (u.z * v.x - u.x * v.z) + p.c * (u.x * v.y - u.y * v.x) = C at k ⊢
  generalize u.x * v.x + u.y * v.y + u.z * v.z = D at k ⊢
  have s1 := (sgn_pos C).1
  have s2 := (sgn_pos C).2
  by_cases hC : 0 < C
  · rw [if_pos (s1.2 hC), if_pos hC]
  · rw [if_neg (fun h => hC (s1.1 h)), if_neg hC]
    by_cases hC2 : C < 0
    · rw [if_pos (s2.2 hC2), if_pos hC2]
    · rw [if_neg (fun h => hC2 (s2.1 h)), if_neg hC2]
      have := k (by omega)
      (repeat' split) <;> omega

/-- What LineAngles asks for: the error; and that its test does not fall. -/
noncomputable def laE (p : Q4) (u v : T3) : Int := vl (if p.plane = false then 30 else if wayB p u = false then 1 else if wayB p v = false then 1 else 0)
theorem laE_eq (p : Q4) (u v : T3) : laE p u v = (if p.plane = false then 30 else if wayB p u = false then 1 else if wayB p v = false then 1 else 0) := vl_eq _
theorem angE_la (p : Q4) {u v : T3} (iu : u.I64') (iv : v.I64') : angE p u v = laE p u v := by
  rw [angE_eq, laE_eq, are_two_way p iu iv]
  cases wayB p u <;> cases wayB p v <;> simp
theorem angV_la (p : Q4) {u v : T3} (iu : u.I64') (iv : v.I64') : (laE p u v ≠ 0 → angV p u v = 0) ∧ (laE p u v = 0 → angV p u v = rangI p u v) := by
  rw [laE_eq, angV_eq, are_two_way p iu iv]
  by_cases hp : p.plane = false
  · rw [if_pos hp, if_pos hp]; exact ⟨fun _ => rfl, fun h => absurd h (by decide)⟩
  · rw [if_neg hp, if_neg hp]
    have hP := (plane_iff.1 (by simpa using hp)).1
    cases hu : wayB p u with
    | false => simp
    | true =>
      cases hv : wayB p v with
      | false => simp
      | true =>
        simp
        exact ang_same hP (wayB_ok hP iu hu) (wayB_ok hP iv hv)

end Go.Proofs.YtaoedfegakpjeabGreat

namespace Go.Proofs.YtaoedfegakpjeabGreat
open Go.RowKit

def PV (p : Q4) : Obj := .cells #[.int .i64 p.a, .int .i64 p.b, .int .i64 p.c, .int .i64 p.d] 23
def VV (v : T3) : Obj := .cells #[.int .i64 v.x, .int .i64 v.y, .int .i64 v.z] 24
theorem blk_cells {W : World} {b : Nat} {c : Array Value} {t : TypeId} (h : Blk W b (.cells c t)) : (∀ o (x : Value), c[o]? = some x → W.cell? ⟨b, o, none⟩ = some x) ∧ (∀ o, W.frozen? ⟨b, o, none⟩ = false) := by
  unfold Blk at h
  refine ⟨fun o x hx => ?_, fun o => ?_⟩
  · simp only [World.cell?, h]; simpa using hx
  · simp [World.frozen?, h]
theorem blk_set {W : World} {b o : Nat} {c : Array Value} {t : TypeId} {x : Value} (h : Blk W b (.cells c t)) : Blk (W.setCell ⟨b, o, none⟩ x) b (.cells (c.setIfInBounds o x) t) := by
  unfold Blk at *
  simp [World.setCell, Array.getElem?_modify, h]
theorem blk_other {W : World} {b b' o : Nat} {ob : Obj} {x : Value} (h : Blk W b ob) (hne : b ≠ b') : Blk (W.setCell ⟨b', o, none⟩ x) b ob := by
  unfold Blk at *
  rw [Below.heap_setCell _ _ _ _ (by show b ≠ b'; exact hne)]; exact h
theorem blk_new (W : World) (o : Obj) : Blk (W.alloc o) W.heap.size o := by
  unfold Blk; show (W.heap.push _)[W.heap.size]? = _; simp
theorem Blk.alloc {W : World} {b : Nat} {o o' : Obj} (h : Blk W b o) : Blk (W.alloc o') b o := h.below ((Below.refl W.heap.size W).alloc (Nat.le_refl _) _) h.lt

/-- The state of a region: I what is known of memory, S what is known of each temporary that has been drawn. -/
structure IR (I : World → Prop) (S : Nat → World → Value → Prop) (vals : List (Nat × Nat)) (listed : Array Bool) (t : Nat → Value) (W : World) : Prop where
  fin : I W
  val : ∀ x ∈ vals, listed.getD x.1 false = true → S x.2 W (t x.2)
section
variable {I : World → Prop} {S : Nat → World → Value → Prop} {vals : List (Nat × Nat)} {listed : Array Bool} {t : Nat → Value} {W W1 : World}
theorem IR.start (n : Nat) (h : I W) (t : Nat → Value) : IR I S vals (Array.replicate n false) t W :=
  ⟨h, fun x _ hl => by simp only [Array.getD] at hl; split at hl <;> simp at hl⟩
theorem IR.yields {i d : Nat} {v : Value} (h : IR I S vals listed t W) (hI : I W1) (hm : ∀ d v, S d W v → S d W1 v) (hv : S d W1 v) (h1 : clashV vals i d = true) : IR I S vals (listed.setIfInBounds i true) (upd t d v) W1 := by
  refine ⟨hI, fun x hx hl => ?_⟩
  have hc := List.all_eq_true.1 h1 x hx
  by_cases e : x.1 = i
  · rw [if_pos e] at hc
    have : x.2 = d := by simpa using hc
    rw [this, upd_same]; exact hv
  · rw [if_neg e] at hc
    rw [upd_other _ _ (by simpa using hc)]
    exact hm _ _ (h.val x hx ((listed_set hl).resolve_left e))
theorem IR.stores {i : Nat} (h : IR I S vals listed t W) (hI : I W1) (hm : ∀ d v, S d W v → S d W1 v) (h1 : (vals.all fun x => x.1 != i) = true) : IR I S vals (listed.setIfInBounds i true) t W1 := by
  refine ⟨hI, fun x hx hl => ?_⟩
  have hc := List.all_eq_true.1 h1 x hx
  simp only [bne_iff_ne, ne_eq] at hc
  exact hm _ _ (h.val x hx ((listed_set hl).resolve_left hc))
end

end Go.Proofs.YtaoedfegakpjeabGreat

namespace Go.Proofs.YtaoedfegakpjeabGreat
open Go.RowKit

structure LD (p q r : Q4) (w W : World) : Prop where
  below : Below w.heap.size w W
  size : w.heap.size + 2 < W.heap.size
  bp : Blk W w.heap.size (PV p)
  bq : Blk W (w.heap.size + 1) (PV q)
  br : Blk W (w.heap.size + 1 + 1) (PV r)
/-- .. and the vector. -/
structure LE (p q r : Q4) (d : T3) (b : Nat) (w W : World) : Prop where
  ld : LD p q r w W
  lo : w.heap.size + 2 < b
  bd : Blk W b (VV d)
section
variable {p q r : Q4} {d : T3} {b : Nat} {w W W1 : World}
theorem LD.call (h : LD p q r w W) (hb : Below W.heap.size W W1) : LD p q r w W1 := by
  have hs := h.size
  exact ⟨h.below.trans (hb.mono (by omega)), Nat.lt_of_lt_of_le hs hb.size, h.bp.below hb (by omega), h.bq.below hb (by omega), h.br.below hb (by omega)⟩
theorem LD.drew (h : LD p q r w W) : LD p q r w W.drew := h.call (Below.refl _ _).drew
theorem LE.call (h : LE p q r d b w W) (hb : Below W.heap.size W W1) : LE p q r d b w W1 := ⟨h.ld.call hb, h.lo, h.bd.below hb h.bd.lt⟩
theorem LE.drew (h : LE p q r d b w W) : LE p q r d b w W.drew := h.call (Below.refl _ _).drew
theorem blk_four {W : World} {b : Nat} {p : Q4} (h : Blk W b (PV p)) : W.cell? ⟨b, 0, none⟩ = some (.int .i64 p.a) ∧ W.cell? ⟨b, 1, none⟩ = some (.int .i64 p.b) ∧ W.cell? ⟨b, 2, none⟩ = some (.int .i64 p.c) ∧ W.cell? ⟨b, 3, none⟩ = some (.int .i64 p.d) :=
  ⟨(blk_cells h).1 _ _ rfl, (blk_cells h).1 _ _ rfl, (blk_cells h).1 _ _ rfl, (blk_cells h).1 _ _ rfl⟩
theorem blk_three {W : World} {b : Nat} {v : T3} (h : Blk W b (VV v)) : W.cell? ⟨b, 0, none⟩ = some (.int .i64 v.x) ∧ W.cell? ⟨b, 1, none⟩ = some (.int .i64 v.y) ∧ W.cell? ⟨b, 2, none⟩ = some (.int .i64 v.z) :=
  ⟨(blk_cells h).1 _ _ rfl, (blk_cells h).1 _ _ rfl, (blk_cells h).1 _ _ rfl⟩
theorem LD.pc (h : LD p q r w W) : W.cell? ⟨w.heap.size, 0, none⟩ = some (.int .i64 p.a) ∧ W.cell? ⟨w.heap.size, 1, none⟩ = some (.int .i64 p.b) ∧ W.cell? ⟨w.heap.size, 2, none⟩ = some (.int .i64 p.c) ∧ W.cell? ⟨w.heap.size, 3, none⟩ = some (.int .i64 p.d) := blk_four h.bp
theorem LD.qc (h : LD p q r w W) : W.cell? ⟨w.heap.size + 1, 0, none⟩ = some (.int .i64 q.a) ∧ W.cell? ⟨w.heap.size + 1, 1, none⟩ = some (.int .i64 q.b) ∧ W.cell? ⟨w.heap.size + 1, 2, none⟩ = some (.int .i64 q.c) ∧ W.cell? ⟨w.heap.size + 1, 3, none⟩ = some (.int .i64 q.d) := blk_four h.bq
theorem LD.rc (h : LD p q r w W) : W.cell? ⟨w.heap.size + 1 + 1, 0, none⟩ = some (.int .i64 r.a) ∧ W.cell? ⟨w.heap.size + 1 + 1, 1, none⟩ = some (.int .i64 r.b) ∧ W.cell? ⟨w.heap.size + 1 + 1, 2, none⟩ = some (.int .i64 r.c) ∧ W.cell? ⟨w.heap.size + 1 + 1, 3, none⟩ = some (.int .i64 r.d) := blk_four h.br
theorem LE.dc (h : LE p q r d b w W) : W.cell? ⟨b, 0, none⟩ = some (.int .i64 d.x) ∧ W.cell? ⟨b, 1, none⟩ = some (.int .i64 d.y) ∧ W.cell? ⟨b, 2, none⟩ = some (.int .i64 d.z) := blk_three h.bd
theorem LD.setP (h : LD p q r w W) (x : Q4) : LD x q r w ((((W.setCell ⟨w.heap.size, 0, none⟩ (.int .i64 x.a)).setCell ⟨w.heap.size, 1, none⟩ (.int .i64 x.b)).setCell ⟨w.heap.size, 2, none⟩ (.int .i64 x.c)).setCell ⟨w.heap.size, 3, none⟩ (.int .i64 x.d)) :=
  ⟨(((h.below.setCell (by simp) _).setCell (by simp) _).setCell (by simp) _).setCell (by simp) _, by simpa [World.setCell] using h.size,
    blk_set (blk_set (blk_set (blk_set h.bp))), blk_other (blk_other (blk_other (blk_other h.bq (by omega)) (by omega)) (by omega)) (by omega), blk_other (blk_other (blk_other (blk_other h.br (by omega)) (by omega)) (by omega)) (by omega)⟩
theorem LD.setQ (h : LD p q r w W) (x : Q4) : LD p x r w ((((W.setCell ⟨w.heap.size + 1, 0, none⟩ (.int .i64 x.a)).setCell ⟨w.heap.size + 1, 1, none⟩ (.int .i64 x.b)).setCell ⟨w.heap.size + 1, 2, none⟩ (.int .i64 x.c)).setCell ⟨w.heap.size + 1, 3, none⟩ (.int .i64 x.d)) :=
  ⟨(((h.below.setCell (by simp) _).setCell (by simp) _).setCell (by simp) _).setCell (by simp) _, by simpa [World.setCell] using h.size,
    blk_other (blk_other (blk_other (blk_other h.bp (by omega)) (by omega)) (by omega)) (by omega), blk_set (blk_set (blk_set (blk_set h.bq))), blk_other (blk_other (blk_other (blk_other h.br (by omega)) (by omega)) (by omega)) (by omega)⟩
theorem LD.setR (h : LD p q r w W) (x : Q4) : LD p q x w ((((W.setCell ⟨w.heap.size + 1 + 1, 0, none⟩ (.int .i64 x.a)).setCell ⟨w.heap.size + 1 + 1, 1, none⟩ (.int .i64 x.b)).setCell ⟨w.heap.size + 1 + 1, 2, none⟩ (.int .i64 x.c)).setCell ⟨w.heap.size + 1 + 1, 3, none⟩ (.int .i64 x.d)) :=
  ⟨(((h.below.setCell (by simp; omega) _).setCell (by simp; omega) _).setCell (by simp; omega) _).setCell (by simp; omega) _, by simpa [World.setCell] using h.size,
    blk_other (blk_other (blk_other (blk_other h.bp (by omega)) (by omega)) (by omega)) (by omega), blk_other (blk_other (blk_other (blk_other h.bq (by omega)) (by omega)) (by omega)) (by omega), blk_set (blk_set (blk_set (blk_set h.br)))⟩
theorem LD.vec (h : LD p q r w W) (d : T3) : LE p q r d W.heap.size w (W.alloc (VV d)) :=
  ⟨h.call ((Below.refl _ _).alloc (Nat.le_refl _) _), h.size, blk_new W (VV d)⟩
theorem LD.start (p q r : Q4) (w : World) : LD p q r w (((w.alloc (PV p)).alloc (PV q)).alloc (PV r)) :=
  ⟨(((Below.refl _ _).alloc (Nat.le_refl _) _).alloc (by simp) _).alloc (by simp; omega) _, by simp, (blk_new w (PV p)).alloc.alloc, by simpa using (blk_new (w.alloc (PV p)) (PV q)).alloc, by simpa using blk_new ((w.alloc (PV p)).alloc (PV q)) (PV r)⟩
end

end Go.Proofs.YtaoedfegakpjeabGreat
