/- Contracts of the functions that the statement reaches, and plain lemmas: part 17 of 25. -/
import Derived.Test.YtaoedfegakpjeabGreatJ16
import Derived.Test.YtaoedfegakpjeabGreatJ11
import Derived.Test.YtaoedfegakpjeabGreatJ03

namespace Go.Proofs.YtaoedfegakpjeabGreat
open Go.RowKit

theorem right_q (x : Q4) (ix : x.I64) (W : World) : Calls Tryz.prog 19 #[.agg #[.int .i64 (x.a), .int .i64 (x.b), .int .i64 (x.c), .int .i64 (x.d)]] W fun e w' => e = .returned (.bool x.plane) ∧ Below W.heap.size W w' := by
  have h := right_any x.a x.b x.c x.d W ix.1 ix.2.1 ix.2.2.1 ix.2.2.2
  rw [right_plane ix] at h; exact h
theorem opE_p {p q : Q4} {l : List Q4} (h : p.plane = false) : opE p q l [] = 30 := by rw [opE_eq, allPl_eq]; simp [h]
theorem opE_q {p q : Q4} {l : List Q4} (h : q.plane = false) : opE p q l [] = 30 := by rw [opE_eq, allPl_eq]; simp [h]
theorem opE_l {p q r : Q4} {l : List Q4} (hr : r ∈ l) (h : r.plane = false) : opE p q l [] = 30 := by
  have e : l.all Q4.plane = false := by
    rw [← Bool.not_eq_true, List.all_eq_true]; intro k; rw [k r hr] at h; cases h
  rw [opE_eq, allPl_eq, allPl_eq, e]; cases [p, q].all Q4.plane <;> simp

set_option maxHeartbeats 1000000 in
theorem bad_p (p q : Q4) (l : List Q4) (v : Value) (w : World) (ip : p.I64) (hp : p.plane = false) :
    Calls Tryz.prog 10 #[.agg #[.int .i64 (p.a), .int .i64 (p.b), .int .i64 (p.c), .int .i64 (p.d)], .agg #[.int .i64 (q.a), .int .i64 (q.b), .int .i64 (q.c), .int .i64 (q.d)], v] w fun e w' => e = .returned (.int .i64 (opE p q l [])) ∧ Below w.heap.size w w' := by
  have HR : Hid (∀ W, Calls Tryz.prog 19 #[.agg #[.int .i64 (p.a), .int .i64 (p.b), .int .i64 (p.c), .int .i64 (p.d)]] W fun e w' => e = .returned (.bool false) ∧ Below W.heap.size W w') := fun W => by have h := right_q p ip W; rw [hp] at h; exact h
  rw [opE_p hp]
  clear hp ip
  go_enter Tryz.func10, Tryz.ntmps10
  have hE : ∀ W, Fr 2 [(0, .cells #[.int .i64 (p.a), .int .i64 (p.b), .int .i64 (p.c), .int .i64 (p.d)] 23), (1, .cells #[.int .i64 (q.a), .int .i64 (q.b), .int .i64 (q.c), .int .i64 (q.d)] 23)] [] w W → (W.cell? ⟨w.heap.size, 0, none⟩ = some (.int .i64 (p.a)) ∧ W.cell? ⟨w.heap.size, 1, none⟩ = some (.int .i64 (p.b)) ∧ W.cell? ⟨w.heap.size, 2, none⟩ = some (.int .i64 (p.c)) ∧ W.cell? ⟨w.heap.size, 3, none⟩ = some (.int .i64 (p.d)) ∧ W.cell? ⟨w.heap.size + 1, 0, none⟩ = some (.int .i64 (q.a)) ∧ W.cell? ⟨w.heap.size + 1, 1, none⟩ = some (.int .i64 (q.b)) ∧ W.cell? ⟨w.heap.size + 1, 2, none⟩ = some (.int .i64 (q.c)) ∧ W.cell? ⟨w.heap.size + 1, 3, none⟩ = some (.int .i64 (q.d))) := fun W h => by (repeat' apply And.intro) <;> first | exact h.at0 rfl | exact h.at rfl | exact (h.rms0 rfl).cell | exact (h.rms rfl).cell | exact (h.rms0 rfl).frozen | exact (h.rms rfl).frozen
  have HE := Lib.hid hE
  clear hE
  go_wp2_with fail
  (go_at_call 19; refine (HR.out _).mono ?_; rintro e w1 ⟨rfl, hb1⟩; (try clear hq); (try clear hz); have hF : Fr 2 [(0, .cells #[.int .i64 (p.a), .int .i64 (p.b), .int .i64 (p.c), .int .i64 (p.d)] 23), (1, .cells #[.int .i64 (q.a), .int .i64 (q.b), .int .i64 (q.c), .int .i64 (q.d)] 23)] [] w w1 := Fr.call (by (repeat (first | exact hF | exact (((Fr.nil w).fixed (by simp) (.cells #[.int .i64 (p.a), .int .i64 (p.b), .int .i64 (p.c), .int .i64 (p.d)] 23)).fixed (by simp) (.cells #[.int .i64 (q.a), .int .i64 (q.b), .int .i64 (q.c), .int .i64 (q.d)] 23)) | exact And.left (by assumption) | refine Fr.set ?_ (by first | (simp; done) | (simp; omega)) (by first | (simp [List.lookup]; done) | (simp [Nat.add_assoc, List.lookup]; done)) _ | refine Fr.drew ?_ | refine Fr.alloc ?_ _))) hb1; have hq := HE.out _ hF; have hz : w.heap.size < w1.heap.size ∧ w.heap.size + 1 < w1.heap.size := by have hs := Own.size (Fr.own hF); omega)
  go_wp2
  go_ret
  refine ⟨rfl, ?_⟩
  refine Own.below (Fr.own (k := 2) (fx := [(0, .cells #[.int .i64 (p.a), .int .i64 (p.b), .int .i64 (p.c), .int .i64 (p.d)] 23), (1, .cells #[.int .i64 (q.a), .int .i64 (q.b), .int .i64 (q.c), .int .i64 (q.d)] 23)]) (rm := []) ?_); (repeat (first | exact hF | exact And.left (by assumption) | refine Fr.set ?_ (by first | (simp; done) | (simp; omega)) (by first | (simp [List.lookup]; done) | (simp [Nat.add_assoc, List.lookup]; done)) _ | refine Fr.drew ?_ | refine Fr.alloc ?_ _))

set_option maxHeartbeats 1000000 in
theorem bad_q (p q : Q4) (l : List Q4) (v : Value) (w : World) (ip : p.I64) (iq : q.I64) (hp : p.plane = true) (hqq : q.plane = false) :
    Calls Tryz.prog 10 #[.agg #[.int .i64 (p.a), .int .i64 (p.b), .int .i64 (p.c), .int .i64 (p.d)], .agg #[.int .i64 (q.a), .int .i64 (q.b), .int .i64 (q.c), .int .i64 (q.d)], v] w fun e w' => e = .returned (.int .i64 (opE p q l [])) ∧ Below w.heap.size w w' := by
  have HR : Hid (∀ W, Calls Tryz.prog 19 #[.agg #[.int .i64 (p.a), .int .i64 (p.b), .int .i64 (p.c), .int .i64 (p.d)]] W fun e w' => e = .returned (.bool true) ∧ Below W.heap.size W w') := fun W => by have h := right_q p ip W; rw [hp] at h; exact h
  have HS : Hid (∀ W, Calls Tryz.prog 19 #[.agg #[.int .i64 (q.a), .int .i64 (q.b), .int .i64 (q.c), .int .i64 (q.d)]] W fun e w' => e = .returned (.bool false) ∧ Below W.heap.size W w') := fun W => by have h := right_q q iq W; rw [hqq] at h; exact h
  rw [opE_q hqq]
  clear hp hqq ip iq
  go_enter Tryz.func10, Tryz.ntmps10
  have hE : ∀ W, Fr 2 [(0, .cells #[.int .i64 (p.a), .int .i64 (p.b), .int .i64 (p.c), .int .i64 (p.d)] 23), (1, .cells #[.int .i64 (q.a), .int .i64 (q.b), .int .i64 (q.c), .int .i64 (q.d)] 23)] [] w W → (W.cell? ⟨w.heap.size, 0, none⟩ = some (.int .i64 (p.a)) ∧ W.cell? ⟨w.heap.size, 1, none⟩ = some (.int .i64 (p.b)) ∧ W.cell? ⟨w.heap.size, 2, none⟩ = some (.int .i64 (p.c)) ∧ W.cell? ⟨w.heap.size, 3, none⟩ = some (.int .i64 (p.d)) ∧ W.cell? ⟨w.heap.size + 1, 0, none⟩ = some (.int .i64 (q.a)) ∧ W.cell? ⟨w.heap.size + 1, 1, none⟩ = some (.int .i64 (q.b)) ∧ W.cell? ⟨w.heap.size + 1, 2, none⟩ = some (.int .i64 (q.c)) ∧ W.cell? ⟨w.heap.size + 1, 3, none⟩ = some (.int .i64 (q.d))) := fun W h => by (repeat' apply And.intro) <;> first | exact h.at0 rfl | exact h.at rfl | exact (h.rms0 rfl).cell | exact (h.rms rfl).cell | exact (h.rms0 rfl).frozen | exact (h.rms rfl).frozen
  have HE := Lib.hid hE
  clear hE
  go_wp2_with fail
  (go_at_call 19; refine (HR.out _).mono ?_; rintro e w1 ⟨rfl, hb1⟩; (try clear hq); (try clear hz); have hF : Fr 2 [(0, .cells #[.int .i64 (p.a), .int .i64 (p.b), .int .i64 (p.c), .int .i64 (p.d)] 23), (1, .cells #[.int .i64 (q.a), .int .i64 (q.b), .int .i64 (q.c), .int .i64 (q.d)] 23)] [] w w1 := Fr.call (by (repeat (first | exact hF | exact (((Fr.nil w).fixed (by simp) (.cells #[.int .i64 (p.a), .int .i64 (p.b), .int .i64 (p.c), .int .i64 (p.d)] 23)).fixed (by simp) (.cells #[.int .i64 (q.a), .int .i64 (q.b), .int .i64 (q.c), .int .i64 (q.d)] 23)) | exact And.left (by assumption) | refine Fr.set ?_ (by first | (simp; done) | (simp; omega)) (by first | (simp [List.lookup]; done) | (simp [Nat.add_assoc, List.lookup]; done)) _ | refine Fr.drew ?_ | refine Fr.alloc ?_ _))) hb1; have hq := HE.out _ hF; have hz : w.heap.size < w1.heap.size ∧ w.heap.size + 1 < w1.heap.size := by have hs := Own.size (Fr.own hF); omega)
  go_wp2_with fail
  (go_at_call 19; refine (HS.out _).mono ?_; rintro e w1 ⟨rfl, hb1⟩; (try clear hq); (try clear hz); have hF : Fr 2 [(0, .cells #[.int .i64 (p.a), .int .i64 (p.b), .int .i64 (p.c), .int .i64 (p.d)] 23), (1, .cells #[.int .i64 (q.a), .int .i64 (q.b), .int .i64 (q.c), .int .i64 (q.d)] 23)] [] w w1 := Fr.call (by (repeat (first | exact hF | exact (((Fr.nil w).fixed (by simp) (.cells #[.int .i64 (p.a), .int .i64 (p.b), .int .i64 (p.c), .int .i64 (p.d)] 23)).fixed (by simp) (.cells #[.int .i64 (q.a), .int .i64 (q.b), .int .i64 (q.c), .int .i64 (q.d)] 23)) | exact And.left (by assumption) | refine Fr.set ?_ (by first | (simp; done) | (simp; omega)) (by first | (simp [List.lookup]; done) | (simp [Nat.add_assoc, List.lookup]; done)) _ | refine Fr.drew ?_ | refine Fr.alloc ?_ _))) hb1; have hq := HE.out _ hF; have hz : w.heap.size < w1.heap.size ∧ w.heap.size + 1 < w1.heap.size := by have hs := Own.size (Fr.own hF); omega)
  go_wp2
  go_ret
  refine ⟨rfl, ?_⟩
  refine Own.below (Fr.own (k := 2) (fx := [(0, .cells #[.int .i64 (p.a), .int .i64 (p.b), .int .i64 (p.c), .int .i64 (p.d)] 23), (1, .cells #[.int .i64 (q.a), .int .i64 (q.b), .int .i64 (q.c), .int .i64 (q.d)] 23)]) (rm := []) ?_); (repeat (first | exact hF | exact And.left (by assumption) | refine Fr.set ?_ (by first | (simp; done) | (simp; omega)) (by first | (simp [List.lookup]; done) | (simp [Nat.add_assoc, List.lookup]; done)) _ | refine Fr.drew ?_ | refine Fr.alloc ?_ _))

set_option maxRecDepth 100000 in
set_option maxHeartbeats 2000000 in
theorem bad_ok (p q : Q4) (l : List Q4) (b o cap : Nat) (w : World) (ip : p.I64) (iq : q.I64) (hp : p.plane = true) (hqq : q.plane = true) (hl : l.length ≤ 1000000) (hi : ∀ q, q ∈ l → q.I64) (hB : b < w.heap.size) (hc : Sl4 w b o l) :
    Calls Tryz.prog 10 #[.agg #[.int .i64 (p.a), .int .i64 (p.b), .int .i64 (p.c), .int .i64 (p.d)], .agg #[.int .i64 (q.a), .int .i64 (q.b), .int .i64 (q.c), .int .i64 (q.d)], .slice (some ⟨b, o, none⟩) l.length cap] w fun e w' => e = .returned (.int .i64 (opE p q l [])) ∧ Below w.heap.size w w' := by
  have HR : Hid (∀ W, Calls Tryz.prog 19 #[.agg #[.int .i64 (p.a), .int .i64 (p.b), .int .i64 (p.c), .int .i64 (p.d)]] W fun e w' => e = .returned (.bool true) ∧ Below W.heap.size W w') := fun W => by have h := right_q p ip W; rw [hp] at h; exact h
  have HS : Hid (∀ W, Calls Tryz.prog 19 #[.agg #[.int .i64 (q.a), .int .i64 (q.b), .int .i64 (q.c), .int .i64 (q.d)]] W fun e w' => e = .returned (.bool true) ∧ Below W.heap.size W w') := fun W => by have h := right_q q iq W; rw [hqq] at h; exact h
  have HP : Hid (p.plane = true ∧ q.plane = true) := ⟨hp, hqq⟩
  have HD : Hid (∀ W, Calls Tryz.prog 25 #[.agg #[.int .i64 (p.a), .int .i64 (p.b), .int .i64 (p.c), .int .i64 (p.d)], .agg #[.int .i64 (q.a), .int .i64 (q.b), .int .i64 (q.c), .int .i64 (q.d)]] W fun e w' => e = .returned (.bool (eq3B (p.dx q) (p.dy q) (p.dz q) 0 0 0)) ∧ Below W.heap.size W w') := fun W => by
    have h := parallel_any p.a p.b p.c p.d q.a q.b q.c q.d W
    rw [par_dir (plane_iff.1 hp).1 (plane_iff.1 hqq).1] at h; exact h
  have HC := Lib.hid hc
  have HI := Lib.hid hi
  clear hp hqq ip iq hc hi
  go_enter Tryz.func10, Tryz.ntmps10
  have hE : ∀ W, Fr 2 [(0, .cells #[.int .i64 (p.a), .int .i64 (p.b), .int .i64 (p.c), .int .i64 (p.d)] 23), (1, .cells #[.int .i64 (q.a), .int .i64 (q.b), .int .i64 (q.c), .int .i64 (q.d)] 23)] [] w W → (W.cell? ⟨w.heap.size, 0, none⟩ = some (.int .i64 (p.a)) ∧ W.cell? ⟨w.heap.size, 1, none⟩ = some (.int .i64 (p.b)) ∧ W.cell? ⟨w.heap.size, 2, none⟩ = some (.int .i64 (p.c)) ∧ W.cell? ⟨w.heap.size, 3, none⟩ = some (.int .i64 (p.d)) ∧ W.cell? ⟨w.heap.size + 1, 0, none⟩ = some (.int .i64 (q.a)) ∧ W.cell? ⟨w.heap.size + 1, 1, none⟩ = some (.int .i64 (q.b)) ∧ W.cell? ⟨w.heap.size + 1, 2, none⟩ = some (.int .i64 (q.c)) ∧ W.cell? ⟨w.heap.size + 1, 3, none⟩ = some (.int .i64 (q.d))) := fun W h => by (repeat' apply And.intro) <;> first | exact h.at0 rfl | exact h.at rfl | exact (h.rms0 rfl).cell | exact (h.rms rfl).cell | exact (h.rms0 rfl).frozen | exact (h.rms rfl).frozen
  have HE := Lib.hid hE
  clear hE
  go_wp2_with fail
  (go_at_call 19; refine (HR.out _).mono ?_; rintro e w1 ⟨rfl, hb1⟩; (try clear hq); (try clear hz); have hF : Fr 2 [(0, .cells #[.int .i64 (p.a), .int .i64 (p.b), .int .i64 (p.c), .int .i64 (p.d)] 23), (1, .cells #[.int .i64 (q.a), .int .i64 (q.b), .int .i64 (q.c), .int .i64 (q.d)] 23)] [] w w1 := Fr.call (by (repeat (first | exact hF | exact (((Fr.nil w).fixed (by simp) (.cells #[.int .i64 (p.a), .int .i64 (p.b), .int .i64 (p.c), .int .i64 (p.d)] 23)).fixed (by simp) (.cells #[.int .i64 (q.a), .int .i64 (q.b), .int .i64 (q.c), .int .i64 (q.d)] 23)) | exact And.left (by assumption) | refine Fr.set ?_ (by first | (simp; done) | (simp; omega)) (by first | (simp [List.lookup]; done) | (simp [Nat.add_assoc, List.lookup]; done)) _ | refine Fr.drew ?_ | refine Fr.alloc ?_ _))) hb1; have hq := HE.out _ hF; have hz : w.heap.size < w1.heap.size ∧ w.heap.size + 1 < w1.heap.size := by have hs := Own.size (Fr.own hF); omega)
  go_wp2_with fail
  (go_at_call 19; refine (HS.out _).mono ?_; rintro e w1 ⟨rfl, hb1⟩; (try clear hq); (try clear hz); have hF : Fr 2 [(0, .cells #[.int .i64 (p.a), .int .i64 (p.b), .int .i64 (p.c), .int .i64 (p.d)] 23), (1, .cells #[.int .i64 (q.a), .int .i64 (q.b), .int .i64 (q.c), .int .i64 (q.d)] 23)] [] w w1 := Fr.call (by (repeat (first | exact hF | exact (((Fr.nil w).fixed (by simp) (.cells #[.int .i64 (p.a), .int .i64 (p.b), .int .i64 (p.c), .int .i64 (p.d)] 23)).fixed (by simp) (.cells #[.int .i64 (q.a), .int .i64 (q.b), .int .i64 (q.c), .int .i64 (q.d)] 23)) | exact And.left (by assumption) | refine Fr.set ?_ (by first | (simp; done) | (simp; omega)) (by first | (simp [List.lookup]; done) | (simp [Nat.add_assoc, List.lookup]; done)) _ | refine Fr.drew ?_ | refine Fr.alloc ?_ _))) hb1; have hq := HE.out _ hF; have hz : w.heap.size < w1.heap.size ∧ w.heap.size + 1 < w1.heap.size := by have hs := Own.size (Fr.own hF); omega)
  have HF := Lib.hid hF
  go_wp2
  go_loopw [7] (fun v wr => ∃ k : Nat, k ≤ l.length ∧ v = .int .i64 k ∧ Fr 2 [(0, .cells #[.int .i64 (p.a), .int .i64 (p.b), .int .i64 (p.c), .int .i64 (p.d)] 23), (1, .cells #[.int .i64 (q.a), .int .i64 (q.b), .int .i64 (q.c), .int .i64 (q.d)] 23)] [] w wr ∧ Hid (∀ i y, i < k → l[i]? = some y → y.plane = true)) (fun v _ => l.length - (intOf v).toNat)
  case atStart => exact ⟨0, Nat.zero_le _, rfl, HF.out, fun i y h => by omega⟩
  case round =>
    rename_i wr
    obtain ⟨k, hk, rfl, hF, HN⟩ := hrel
    by_cases hlt : k < l.length
    · obtain ⟨r, hr⟩ : ∃ r, l[k]? = some r := ⟨_, List.getElem?_eq_getElem hlt⟩
      obtain ⟨c0, c1, c2, c3⟩ := (HC.out k r hr).below hF.own.below hB
      have HQ := Lib.hid hr
      have HX : Hid (∀ W, Calls Tryz.prog 19 #[.agg #[.int .i64 (r.a), .int .i64 (r.b), .int .i64 (r.c), .int .i64 (r.d)]] W fun e w' => e = .returned (.bool r.plane) ∧ Below W.heap.size W w') := fun W => right_q r (HI.out r (List.mem_of_getElem? hr)) W
      clear hr
      cases hrp : r.plane with
      | false =>
        have HPL : Hid (r.plane = false) := hrp
        rw [hrp] at HX
        clear hrp
        go_wp2_with fail
        (go_at_call 19; refine (HX.out _).mono ?_; rintro e w1 ⟨rfl, hb1⟩; (try clear hq); (try clear hz); have hF : Fr 2 [(0, .cells #[.int .i64 (p.a), .int .i64 (p.b), .int .i64 (p.c), .int .i64 (p.d)] 23), (1, .cells #[.int .i64 (q.a), .int .i64 (q.b), .int .i64 (q.c), .int .i64 (q.d)] 23)] [] w w1 := Fr.call (by (repeat (first | exact hF | exact (((Fr.nil w).fixed (by simp) (.cells #[.int .i64 (p.a), .int .i64 (p.b), .int .i64 (p.c), .int .i64 (p.d)] 23)).fixed (by simp) (.cells #[.int .i64 (q.a), .int .i64 (q.b), .int .i64 (q.c), .int .i64 (q.d)] 23)) | exact And.left (by assumption) | refine Fr.set ?_ (by first | (simp; done) | (simp; omega)) (by first | (simp [List.lookup]; done) | (simp [Nat.add_assoc, List.lookup]; done)) _ | refine Fr.drew ?_ | refine Fr.alloc ?_ _))) hb1; have hq := HE.out _ hF; have hz : w.heap.size < w1.heap.size ∧ w.heap.size + 1 < w1.heap.size := by have hs := Own.size (Fr.own hF); omega)
        go_wp2
        go_ret
        refine ⟨?_, ?_⟩
        · rw [opE_l (List.mem_of_getElem? HQ.out) HPL.out]; rfl
        · refine Own.below (Fr.own (k := 2) (fx := [(0, .cells #[.int .i64 (p.a), .int .i64 (p.b), .int .i64 (p.c), .int .i64 (p.d)] 23), (1, .cells #[.int .i64 (q.a), .int .i64 (q.b), .int .i64 (q.c), .int .i64 (q.d)] 23)]) (rm := []) ?_); (repeat (first | exact hF | exact And.left (by assumption) | refine Fr.set ?_ (by first | (simp; done) | (simp; omega)) (by first | (simp [List.lookup]; done) | (simp [Nat.add_assoc, List.lookup]; done)) _ | refine Fr.drew ?_ | refine Fr.alloc ?_ _))
      | true =>
        have HPL : Hid (r.plane = true) := hrp
        rw [hrp] at HX
        clear hrp
        go_wp2_with fail
        (go_at_call 19; refine (HX.out _).mono ?_; rintro e w1 ⟨rfl, hb1⟩; (try clear hq); (try clear hz); have hF : Fr 2 [(0, .cells #[.int .i64 (p.a), .int .i64 (p.b), .int .i64 (p.c), .int .i64 (p.d)] 23), (1, .cells #[.int .i64 (q.a), .int .i64 (q.b), .int .i64 (q.c), .int .i64 (q.d)] 23)] [] w w1 := Fr.call (by (repeat (first | exact hF | exact (((Fr.nil w).fixed (by simp) (.cells #[.int .i64 (p.a), .int .i64 (p.b), .int .i64 (p.c), .int .i64 (p.d)] 23)).fixed (by simp) (.cells #[.int .i64 (q.a), .int .i64 (q.b), .int .i64 (q.c), .int .i64 (q.d)] 23)) | exact And.left (by assumption) | refine Fr.set ?_ (by first | (simp; done) | (simp; omega)) (by first | (simp [List.lookup]; done) | (simp [Nat.add_assoc, List.lookup]; done)) _ | refine Fr.drew ?_ | refine Fr.alloc ?_ _))) hb1; have hq := HE.out _ hF; have hz : w.heap.size < w1.heap.size ∧ w.heap.size + 1 < w1.heap.size := by have hs := Own.size (Fr.own hF); omega)
        have HF1 := Lib.hid hF
        go_wp2
        go_roundw
        case rel =>
          refine ⟨k + 1, by omega, by go_num, HF1.out, fun i y h1 h2 => ?_⟩
          rcases Nat.lt_succ_iff_lt_or_eq.1 h1 with h | h
          · exact HN.out i y h h2
          · subst h
            have e : r = y := Option.some.inj (HQ.out.symm.trans h2)
            rw [← e, HPL.out]
        case measure => simp [intOf]; omega
    · have hkk : k = l.length := by omega
      have HALL : Hid (l.all Q4.plane = true) := by
        unfold Hid; rw [List.all_eq_true]; intro x hx
        obtain ⟨i, hi, rfl⟩ := List.getElem_of_mem hx
        exact HN.out i _ (by omega) (List.getElem?_eq_getElem hi)
      have HO : Hid (opE p q l [] = if eq3B (p.dx q) (p.dy q) (p.dz q) 0 0 0 = true then 4 else 0) := by
        unfold Hid; rw [opE_eq, allPl_eq, allPl_eq, allPt_eq, HALL.out]; simp [HP.out.1, HP.out.2]
      clear HALL hkk
      have hqr := HE.out _ hF
      cases hd : eq3B (p.dx q) (p.dy q) (p.dz q) 0 0 0 with
      | false =>
        rw [hd] at HD HO
        clear hd
        go_wp2_with fail
        (go_at_call 25; refine (HD.out _).mono ?_; rintro e w1 ⟨rfl, hb1⟩; (try clear hq); (try clear hz); have hF : Fr 2 [(0, .cells #[.int .i64 (p.a), .int .i64 (p.b), .int .i64 (p.c), .int .i64 (p.d)] 23), (1, .cells #[.int .i64 (q.a), .int .i64 (q.b), .int .i64 (q.c), .int .i64 (q.d)] 23)] [] w w1 := Fr.call (by (repeat (first | exact hF | exact (((Fr.nil w).fixed (by simp) (.cells #[.int .i64 (p.a), .int .i64 (p.b), .int .i64 (p.c), .int .i64 (p.d)] 23)).fixed (by simp) (.cells #[.int .i64 (q.a), .int .i64 (q.b), .int .i64 (q.c), .int .i64 (q.d)] 23)) | exact And.left (by assumption) | refine Fr.set ?_ (by first | (simp; done) | (simp; omega)) (by first | (simp [List.lookup]; done) | (simp [Nat.add_assoc, List.lookup]; done)) _ | refine Fr.drew ?_ | refine Fr.alloc ?_ _))) hb1; have hq := HE.out _ hF; have hz : w.heap.size < w1.heap.size ∧ w.heap.size + 1 < w1.heap.size := by have hs := Own.size (Fr.own hF); omega)
        go_wp2
        go_ret
        refine ⟨?_, ?_⟩
        · rw [HO.out]; rfl
        · refine Own.below (Fr.own (k := 2) (fx := [(0, .cells #[.int .i64 (p.a), .int .i64 (p.b), .int .i64 (p.c), .int .i64 (p.d)] 23), (1, .cells #[.int .i64 (q.a), .int .i64 (q.b), .int .i64 (q.c), .int .i64 (q.d)] 23)]) (rm := []) ?_); (repeat (first | exact hF | exact And.left (by assumption) | refine Fr.set ?_ (by first | (simp; done) | (simp; omega)) (by first | (simp [List.lookup]; done) | (simp [Nat.add_assoc, List.lookup]; done)) _ | refine Fr.drew ?_ | refine Fr.alloc ?_ _))
      | true =>
        rw [hd] at HD HO
        clear hd
        go_wp2_with fail
        (go_at_call 25; refine (HD.out _).mono ?_; rintro e w1 ⟨rfl, hb1⟩; (try clear hq); (try clear hz); have hF : Fr 2 [(0, .cells #[.int .i64 (p.a), .int .i64 (p.b), .int .i64 (p.c), .int .i64 (p.d)] 23), (1, .cells #[.int .i64 (q.a), .int .i64 (q.b), .int .i64 (q.c), .int .i64 (q.d)] 23)] [] w w1 := Fr.call (by (repeat (first | exact hF | exact (((Fr.nil w).fixed (by simp) (.cells #[.int .i64 (p.a), .int .i64 (p.b), .int .i64 (p.c), .int .i64 (p.d)] 23)).fixed (by simp) (.cells #[.int .i64 (q.a), .int .i64 (q.b), .int .i64 (q.c), .int .i64 (q.d)] 23)) | exact And.left (by assumption) | refine Fr.set ?_ (by first | (simp; done) | (simp; omega)) (by first | (simp [List.lookup]; done) | (simp [Nat.add_assoc, List.lookup]; done)) _ | refine Fr.drew ?_ | refine Fr.alloc ?_ _))) hb1; have hq := HE.out _ hF; have hz : w.heap.size < w1.heap.size ∧ w.heap.size + 1 < w1.heap.size := by have hs := Own.size (Fr.own hF); omega)
        go_wp2
        go_ret
        refine ⟨?_, ?_⟩
        · rw [HO.out]; rfl
        · refine Own.below (Fr.own (k := 2) (fx := [(0, .cells #[.int .i64 (p.a), .int .i64 (p.b), .int .i64 (p.c), .int .i64 (p.d)] 23), (1, .cells #[.int .i64 (q.a), .int .i64 (q.b), .int .i64 (q.c), .int .i64 (q.d)] 23)]) (rm := []) ?_); (repeat (first | exact hF | exact And.left (by assumption) | refine Fr.set ?_ (by first | (simp; done) | (simp; omega)) (by first | (simp [List.lookup]; done) | (simp [Nat.add_assoc, List.lookup]; done)) _ | refine Fr.drew ?_ | refine Fr.alloc ?_ _))

set_option maxRecDepth 100000 in
set_option maxHeartbeats 2000000 in
theorem bad_nil (p q : Q4) (w : World) (ip : p.I64) (iq : q.I64) (hp : p.plane = true) (hqq : q.plane = true) :
    Calls Tryz.prog 10 #[.agg #[.int .i64 (p.a), .int .i64 (p.b), .int .i64 (p.c), .int .i64 (p.d)], .agg #[.int .i64 (q.a), .int .i64 (q.b), .int .i64 (q.c), .int .i64 (q.d)], .slice none 0 0] w fun e w' => e = .returned (.int .i64 (opE p q [] [])) ∧ Below w.heap.size w w' := by
  have HR : Hid (∀ W, Calls Tryz.prog 19 #[.agg #[.int .i64 (p.a), .int .i64 (p.b), .int .i64 (p.c), .int .i64 (p.d)]] W fun e w' => e = .returned (.bool true) ∧ Below W.heap.size W w') := fun W => by have h := right_q p ip W; rw [hp] at h; exact h
  have HS : Hid (∀ W, Calls Tryz.prog 19 #[.agg #[.int .i64 (q.a), .int .i64 (q.b), .int .i64 (q.c), .int .i64 (q.d)]] W fun e w' => e = .returned (.bool true) ∧ Below W.heap.size W w') := fun W => by have h := right_q q iq W; rw [hqq] at h; exact h
  have HD : Hid (∀ W, Calls Tryz.prog 25 #[.agg #[.int .i64 (p.a), .int .i64 (p.b), .int .i64 (p.c), .int .i64 (p.d)], .agg #[.int .i64 (q.a), .int .i64 (q.b), .int .i64 (q.c), .int .i64 (q.d)]] W fun e w' => e = .returned (.bool (eq3B (p.dx q) (p.dy q) (p.dz q) 0 0 0)) ∧ Below W.heap.size W w') := fun W => by
    have h := parallel_any p.a p.b p.c p.d q.a q.b q.c q.d W
    rw [par_dir (plane_iff.1 hp).1 (plane_iff.1 hqq).1] at h; exact h
  have HO : Hid (opE p q [] [] = if eq3B (p.dx q) (p.dy q) (p.dz q) 0 0 0 = true then 4 else 0) := by
    unfold Hid; rw [opE_eq, allPl_eq, allPl_eq, allPt_eq]; simp [hp, hqq]
  clear hp hqq ip iq
  go_enter Tryz.func10, Tryz.ntmps10
  have hE : ∀ W, Fr 2 [(0, .cells #[.int .i64 (p.a), .int .i64 (p.b), .int .i64 (p.c), .int .i64 (p.d)] 23), (1, .cells #[.int .i64 (q.a), .int .i64 (q.b), .int .i64 (q.c), .int .i64 (q.d)] 23)] [] w W → (W.cell? ⟨w.heap.size, 0, none⟩ = some (.int .i64 (p.a)) ∧ W.cell? ⟨w.heap.size, 1, none⟩ = some (.int .i64 (p.b)) ∧ W.cell? ⟨w.heap.size, 2, none⟩ = some (.int .i64 (p.c)) ∧ W.cell? ⟨w.heap.size, 3, none⟩ = some (.int .i64 (p.d)) ∧ W.cell? ⟨w.heap.size + 1, 0, none⟩ = some (.int .i64 (q.a)) ∧ W.cell? ⟨w.heap.size + 1, 1, none⟩ = some (.int .i64 (q.b)) ∧ W.cell? ⟨w.heap.size + 1, 2, none⟩ = some (.int .i64 (q.c)) ∧ W.cell? ⟨w.heap.size + 1, 3, none⟩ = some (.int .i64 (q.d))) := fun W h => by (repeat' apply And.intro) <;> first | exact h.at0 rfl | exact h.at rfl | exact (h.rms0 rfl).cell | exact (h.rms rfl).cell | exact (h.rms0 rfl).frozen | exact (h.rms rfl).frozen
  have HE := Lib.hid hE
  clear hE
  go_wp2_with fail
  (go_at_call 19; refine (HR.out _).mono ?_; rintro e w1 ⟨rfl, hb1⟩; (try clear hq); (try clear hz); have hF : Fr 2 [(0, .cells #[.int .i64 (p.a), .int .i64 (p.b), .int .i64 (p.c), .int .i64 (p.d)] 23), (1, .cells #[.int .i64 (q.a), .int .i64 (q.b), .int .i64 (q.c), .int .i64 (q.d)] 23)] [] w w1 := Fr.call (by (repeat (first | exact hF | exact (((Fr.nil w).fixed (by simp) (.cells #[.int .i64 (p.a), .int .i64 (p.b), .int .i64 (p.c), .int .i64 (p.d)] 23)).fixed (by simp) (.cells #[.int .i64 (q.a), .int .i64 (q.b), .int .i64 (q.c), .int .i64 (q.d)] 23)) | exact And.left (by assumption) | refine Fr.set ?_ (by first | (simp; done) | (simp; omega)) (by first | (simp [List.lookup]; done) | (simp [Nat.add_assoc, List.lookup]; done)) _ | refine Fr.drew ?_ | refine Fr.alloc ?_ _))) hb1; have hq := HE.out _ hF; have hz : w.heap.size < w1.heap.size ∧ w.heap.size + 1 < w1.heap.size := by have hs := Own.size (Fr.own hF); omega)
  go_wp2_with fail
  (go_at_call 19; refine (HS.out _).mono ?_; rintro e w1 ⟨rfl, hb1⟩; (try clear hq); (try clear hz); have hF : Fr 2 [(0, .cells #[.int .i64 (p.a), .int .i64 (p.b), .int .i64 (p.c), .int .i64 (p.d)] 23), (1, .cells #[.int .i64 (q.a), .int .i64 (q.b), .int .i64 (q.c), .int .i64 (q.d)] 23)] [] w w1 := Fr.call (by (repeat (first | exact hF | exact (((Fr.nil w).fixed (by simp) (.cells #[.int .i64 (p.a), .int .i64 (p.b), .int .i64 (p.c), .int .i64 (p.d)] 23)).fixed (by simp) (.cells #[.int .i64 (q.a), .int .i64 (q.b), .int .i64 (q.c), .int .i64 (q.d)] 23)) | exact And.left (by assumption) | refine Fr.set ?_ (by first | (simp; done) | (simp; omega)) (by first | (simp [List.lookup]; done) | (simp [Nat.add_assoc, List.lookup]; done)) _ | refine Fr.drew ?_ | refine Fr.alloc ?_ _))) hb1; have hq := HE.out _ hF; have hz : w.heap.size < w1.heap.size ∧ w.heap.size + 1 < w1.heap.size := by have hs := Own.size (Fr.own hF); omega)
  have HF := Lib.hid hF
  go_wp2
  go_loopw [7] (fun v wr => v = .int .i64 0 ∧ Fr 2 [(0, .cells #[.int .i64 (p.a), .int .i64 (p.b), .int .i64 (p.c), .int .i64 (p.d)] 23), (1, .cells #[.int .i64 (q.a), .int .i64 (q.b), .int .i64 (q.c), .int .i64 (q.d)] 23)] [] w wr) (fun _ _ => 0)
  case atStart => exact ⟨rfl, HF.out⟩
  case round =>
    rename_i wr
    obtain ⟨rfl, hF⟩ := hrel
    have hqr := HE.out _ hF
    cases hd : eq3B (p.dx q) (p.dy q) (p.dz q) 0 0 0 with
    | false =>
      rw [hd] at HD HO
      clear hd
      go_wp2_with fail
      (go_at_call 25; refine (HD.out _).mono ?_; rintro e w1 ⟨rfl, hb1⟩; (try clear hq); (try clear hz); have hF : Fr 2 [(0, .cells #[.int .i64 (p.a), .int .i64 (p.b), .int .i64 (p.c), .int .i64 (p.d)] 23), (1, .cells #[.int .i64 (q.a), .int .i64 (q.b), .int .i64 (q.c), .int .i64 (q.d)] 23)] [] w w1 := Fr.call (by (repeat (first | exact hF | exact (((Fr.nil w).fixed (by simp) (.cells #[.int .i64 (p.a), .int .i64 (p.b), .int .i64 (p.c), .int .i64 (p.d)] 23)).fixed (by simp) (.cells #[.int .i64 (q.a), .int .i64 (q.b), .int .i64 (q.c), .int .i64 (q.d)] 23)) | exact And.left (by assumption) | refine Fr.set ?_ (by first | (simp; done) | (simp; omega)) (by first | (simp [List.lookup]; done) | (simp [Nat.add_assoc, List.lookup]; done)) _ | refine Fr.drew ?_ | refine Fr.alloc ?_ _))) hb1; have hq := HE.out _ hF; have hz : w.heap.size < w1.heap.size ∧ w.heap.size + 1 < w1.heap.size := by have hs := Own.size (Fr.own hF); omega)
      go_wp2
      go_ret
      refine ⟨?_, ?_⟩
      · rw [HO.out]; rfl
      · refine Own.below (Fr.own (k := 2) (fx := [(0, .cells #[.int .i64 (p.a), .int .i64 (p.b), .int .i64 (p.c), .int .i64 (p.d)] 23), (1, .cells #[.int .i64 (q.a), .int .i64 (q.b), .int .i64 (q.c), .int .i64 (q.d)] 23)]) (rm := []) ?_); (repeat (first | exact hF | exact And.left (by assumption) | refine Fr.set ?_ (by first | (simp; done) | (simp; omega)) (by first | (simp [List.lookup]; done) | (simp [Nat.add_assoc, List.lookup]; done)) _ | refine Fr.drew ?_ | refine Fr.alloc ?_ _))
    | true =>
      rw [hd] at HD HO
      clear hd
      go_wp2_with fail
      (go_at_call 25; refine (HD.out _).mono ?_; rintro e w1 ⟨rfl, hb1⟩; (try clear hq); (try clear hz); have hF : Fr 2 [(0, .cells #[.int .i64 (p.a), .int .i64 (p.b), .int .i64 (p.c), .int .i64 (p.d)] 23), (1, .cells #[.int .i64 (q.a), .int .i64 (q.b), .int .i64 (q.c), .int .i64 (q.d)] 23)] [] w w1 := Fr.call (by (repeat (first | exact hF | exact (((Fr.nil w).fixed (by simp) (.cells #[.int .i64 (p.a), .int .i64 (p.b), .int .i64 (p.c), .int .i64 (p.d)] 23)).fixed (by simp) (.cells #[.int .i64 (q.a), .int .i64 (q.b), .int .i64 (q.c), .int .i64 (q.d)] 23)) | exact And.left (by assumption) | refine Fr.set ?_ (by first | (simp; done) | (simp; omega)) (by first | (simp [List.lookup]; done) | (simp [Nat.add_assoc, List.lookup]; done)) _ | refine Fr.drew ?_ | refine Fr.alloc ?_ _))) hb1; have hq := HE.out _ hF; have hz : w.heap.size < w1.heap.size ∧ w.heap.size + 1 < w1.heap.size := by have hs := Own.size (Fr.own hF); omega)
      go_wp2
      go_ret
      refine ⟨?_, ?_⟩
      · rw [HO.out]; rfl
      · refine Own.below (Fr.own (k := 2) (fx := [(0, .cells #[.int .i64 (p.a), .int .i64 (p.b), .int .i64 (p.c), .int .i64 (p.d)] 23), (1, .cells #[.int .i64 (q.a), .int .i64 (q.b), .int .i64 (q.c), .int .i64 (q.d)] 23)]) (rm := []) ?_); (repeat (first | exact hF | exact And.left (by assumption) | refine Fr.set ?_ (by first | (simp; done) | (simp; omega)) (by first | (simp [List.lookup]; done) | (simp [Nat.add_assoc, List.lookup]; done)) _ | refine Fr.drew ?_ | refine Fr.alloc ?_ _))

/-- 'bad' of any planes is the code's own first error. -/
theorem badE_any (p q : Q4) (l : List Q4) (v : Value) (w : World) (ip : p.I64) (iq : q.I64) (hl : l.length ≤ 1000000) (hi : ∀ q, q ∈ l → q.I64) (hv : SlV w v l) :
    Calls Tryz.prog 10 #[.agg #[.int .i64 (p.a), .int .i64 (p.b), .int .i64 (p.c), .int .i64 (p.d)], .agg #[.int .i64 (q.a), .int .i64 (q.b), .int .i64 (q.c), .int .i64 (q.d)], v] w fun e w' => e = .returned (.int .i64 (opE p q l [])) ∧ Below w.heap.size w w' := by
  cases hp : p.plane with
  | false => exact bad_p p q l v w ip hp
  | true =>
    cases hqq : q.plane with
    | false => exact bad_q p q l v w ip iq hp hqq
    | true =>
      rcases hv with ⟨rfl, rfl⟩ | ⟨b, o, cap, rfl, hB, hc⟩
      · exact bad_nil p q w ip iq hp hqq
      · exact bad_ok p q l b o cap w ip iq hp hqq hl hi hB hc

end Go.Proofs.YtaoedfegakpjeabGreat

namespace Go.Proofs.YtaoedfegakpjeabGreat
open Go.RowKit

theorem infoPl : (Tryz.prog.info? 23).map (fun i => (i.zero, i.size, i.bytes)) = some (some (.agg #[.int .i64 0, .int .i64 0, .int .i64 0, .int .i64 0]), 4, 32) := by kernel_rfl
theorem flat4_one (l : List Q4) : ∀ u ∈ flat4 l, u.oneCell' = true := by
  intro u hu
  simp only [flat4, List.mem_flatMap, List.mem_cons, List.not_mem_nil, or_false] at hu
  obtain ⟨q, _, rfl | rfl | rfl | rfl⟩ := hu <;> rfl
/-- A slice of planes that came in. -/
def InP (w : World) (v : Value) (l : List Q4) : Prop := (v = .slice none 0 0 ∧ l = []) ∨ ∃ n ad cap, n = l.length ∧ v = .slice (some ad) n cap ∧ (∀ j u, (flat4 l)[j]? = some u → w.cell? (ad.add j) = some u) ∧ n ≤ cap ∧ cap ≤ maxLen
theorem below_of_grown {W W1 : World} (hg : W.grownBy W1 none) : Below W.heap.size W W1 := ⟨hg.os, hg.tape, hg.output, hg.size, fun k hk => hg.block k hk (by simp)⟩

set_option maxHeartbeats 1000000 in
theorem few_any (l0 : List Q4) (v0 : Value) (w : World) (il0 : ∀ x, x ∈ l0 → x.I64) (hv : InP w v0 l0) :
    Calls Tryz.prog 53 #[v0, .int .i64 12] w fun e w' => (∃ v L, e = .returned v ∧ (List.length L ≤ 12 ∧ ∀ x, x ∈ L → Q4.I64 x) ∧ w'.ownsRow w.heap.size 23 4 v L.length (flat4 L)) ∧ Below w.heap.size w w' := by
  obtain ⟨i0, hi, hz0, hz1, hz2⟩ := info_parts infoPl
  rcases hv with ⟨rfl, rfl⟩ | ⟨n, ad, cap, hn, rfl, hc, hcap, hm⟩
  · go_enter Tryz.func53, Tryz.ntmps53
    go_wp2
    go_ret
    exact ⟨⟨_, [], rfl, ⟨by simp, fun x h => by simp at h⟩, World.ownsRow_nil _ _ _ _⟩, Below.refl _ _⟩
  · obtain ⟨k, hk⟩ : ∃ k, k = min l0.length 12 := ⟨_, rfl⟩
    have HW : Hid (∀ j u, (flat4 (l0.take k))[j]? = some u → w.cell? (ad.add j) = some u) := fun j u hj => by
      have e : flat4 l0 = flat4 (l0.take k) ++ flat4 (l0.drop k) := by unfold flat4; rw [← List.flatMap_append, List.take_append_drop]
      exact hc j u (by rw [e, List.getElem?_append_left (List.getElem?_eq_some_iff.1 hj).1]; exact hj)
    have HL : Hid ((flat4 (l0.take k)).length = k * 4) := by unfold Hid; rw [flat4_len, List.length_take]; omega
    rw [← hn] at hk
    have hmin : min (n : Int) 12 = (k : Int) := by omega
    have hkn : k ≤ n := by omega
    have hk8 : k ≤ 12 := by omega
    have HX : Hid ((l0.take k).length = k ∧ ∀ x, x ∈ l0.take k → x.I64) := ⟨by rw [List.length_take]; omega, fun x hx => il0 x (List.mem_of_mem_take hx)⟩
    clear hk hn hc il0
    go_enter Tryz.func53, Tryz.ntmps53
    go_wp2_with (at_builtin; refine wpList_append_own _ rfl _ _ 31 rfl w.heap.size 23 i0 (.agg #[.int .i64 0, .int .i64 0, .int .i64 0, .int .i64 0]) 4 32 Tryz.underlying31 hi hz0 hz1 hz2 rfl (by decide) _ 0 [] rfl (World.ownsRow_nil _ _ _ _) ad k cap (flat4 (l0.take k)) rfl HL.out HW.out (flat4_one _) (by simp [maxLen]; omega) (by omega) (Nat.le_refl _) ?_; intro v' w1 hown hgrow _)
    rw [Nat.zero_add, List.nil_append] at hown
    have HG := Lib.hid (below_of_grown hgrow)
    have HO := Lib.hid hown
    clear hown hgrow
    go_wp2
    go_ret
    exact ⟨⟨_, l0.take k, rfl, ⟨by rw [HX.out.1]; exact hk8, HX.out.2⟩, by rw [HX.out.1]; exact HO.out⟩, HG.out⟩

/-- A row of planes that are its own. -/
def RowP (B : Nat) (v : Value) (L : List Q4) (W : World) : Prop := W.ownsRow B 23 4 v L.length (flat4 L)
section
variable {B g cap : Nat} {L : List Q4} {W W1 : World} {v : Value}
theorem flat4_take {L : List Q4} {i : Nat} {q : Q4} (h : L[i]? = some q) : ∀ j, j < 4 → (flat4 L)[i * 4 + j]? = [Value.int .i64 q.a, .int .i64 q.b, .int .i64 q.c, .int .i64 q.d][j]? := by
  induction L generalizing i with
  | nil => simp at h
  | cons x xs ih =>
    intro j hj
    have e : flat4 (x :: xs) = [.int .i64 x.a, .int .i64 x.b, .int .i64 x.c, .int .i64 x.d] ++ flat4 xs := by simp [flat4]
    cases i with
    | zero =>
      simp at h; subst h
      rw [e, List.getElem?_append_left (by simp; omega)]; simp
    | succ i =>
      rw [e, List.getElem?_append_right (by simp; omega)]
      have := ih (by simpa using h) j hj
      rw [← this]
      congr 1
      simp; omega
theorem flat4_set (l : List Q4) : ∀ (i : Nat) (x : Q4), i < l.length → ((((flat4 l).set (i * 4) (.int .i64 x.a)).set (i * 4 + 1) (.int .i64 x.b)).set (i * 4 + 2) (.int .i64 x.c)).set (i * 4 + 3) (.int .i64 x.d) = flat4 (l.set i x) := by
  induction l with
  | nil => intro i x h; simp at h
  | cons q qs ih =>
    intro i x h
    have e : flat4 (q :: qs) = [.int .i64 q.a, .int .i64 q.b, .int .i64 q.c, .int .i64 q.d] ++ flat4 qs := by simp [flat4]
    cases i with
    | zero => simp [flat4]
    | succ i =>
      have h2 := ih i x (by simpa using h)
      rw [List.set_cons_succ, show flat4 (q :: qs.set i x) = [.int .i64 q.a, .int .i64 q.b, .int .i64 q.c, .int .i64 q.d] ++ flat4 (qs.set i x) by simp [flat4], ← h2, e]
      rw [show (i + 1) * 4 = i * 4 + 4 by omega]
      simp only [List.cons_append, List.nil_append]
      rw [show i * 4 + 4 + 3 = i * 4 + 3 + 4 by omega, show i * 4 + 4 + 2 = i * 4 + 2 + 4 by omega, show i * 4 + 4 + 1 = i * 4 + 1 + 4 by omega]
      simp only [List.set_cons_succ]
theorem RowP.at (h : RowP B (.slice (some ⟨g, 0, none⟩) L.length cap) L W) {i : Nat} {q : Q4} (hi : L[i]? = some q) : At4 W g (i * 4) q := by
  unfold RowP at h
  obtain ⟨hl, _⟩ := List.getElem?_eq_some_iff.1 hi
  have c : ∀ j, j < 4 → W.cell? ⟨g, i * 4 + j, none⟩ = [Value.int .i64 q.a, .int .i64 q.b, .int .i64 q.c, .int .i64 q.d][j]? := fun j hj => by
    rw [h.cellAt (i * 4 + j) (by omega), flat4_take hi j hj]
  exact ⟨by simpa using c 0 (by omega), by simpa using c 1 (by omega), by simpa using c 2 (by omega), by simpa using c 3 (by omega)⟩
theorem RowP.set (h : RowP B (.slice (some ⟨g, 0, none⟩) L.length cap) L W) (i : Nat) (hi : i < L.length) (x : Q4) : RowP B (.slice (some ⟨g, 0, none⟩) L.length cap) (L.set i x) ((((W.setCell ⟨g, i * 4, none⟩ (.int .i64 x.a)).setCell ⟨g, i * 4 + 1, none⟩ (.int .i64 x.b)).setCell ⟨g, i * 4 + 2, none⟩ (.int .i64 x.c)).setCell ⟨g, i * 4 + 3, none⟩ (.int .i64 x.d)) := by
  unfold RowP at *
  obtain ⟨r1, _⟩ := h.stored (i * 4) (.int .i64 x.a)
  obtain ⟨r2, _⟩ := r1.stored (i * 4 + 1) (.int .i64 x.b)
  obtain ⟨r3, _⟩ := r2.stored (i * 4 + 2) (.int .i64 x.c)
  obtain ⟨r4, _⟩ := r3.stored (i * 4 + 3) (.int .i64 x.d)
  rw [flat4_set L i x hi] at r4
  rw [List.length_set]; exact r4
end

end Go.Proofs.YtaoedfegakpjeabGreat

namespace Go.Proofs.YtaoedfegakpjeabGreat
open Go.RowKit

theorem RowP.shape {B : Nat} {v : Value} {L : List Q4} {W : World} (h : RowP B v L W) : ∃ a cap, v = .slice a L.length cap ∧ (0 < L.length → ∃ g, a = some ⟨g, 0, none⟩) := by
  rcases h.2 with ⟨hv, h0⟩ | ⟨g, cap, cur, hv, _⟩
  · exact ⟨none, 0, by rw [h0]; exact hv, fun h => by omega⟩
  · exact ⟨_, cap, hv, fun _ => ⟨g, rfl⟩⟩
/-- .. the first so many of them right. -/
def TmI (w : World) (a : Option Addr) (K cap m : Nat) (W : World) : Prop := ∃ L : List Q4, L.length = K ∧ (∀ x, x ∈ L → x.I64) ∧ (∀ j x, j < m → L[j]? = some x → x.plane = true) ∧ RowP w.heap.size (.slice a K cap) L W ∧ Below w.heap.size w W
theorem TmI.call {w W W1 : World} {a : Option Addr} {K cap m : Nat} (h : TmI w a K cap m W) (hb : Below W.heap.size W W1) : TmI w a K cap m W1 := by
  obtain ⟨L, h1, h2, h3, h4, h5⟩ := h
  exact ⟨L, h1, h2, h3, own_below h4 hb, h5.trans (hb.mono h5.size)⟩
theorem TmI.cells {w W : World} {g K cap m : Nat} (h : TmI w (some ⟨g, 0, none⟩) K cap m W) {i : Nat} (hi : i < K) : (∃ x : Q4, W.cell? ⟨g, i * 4, none⟩ = some (.int .i64 x.a) ∧ W.cell? ⟨g, i * 4 + 1, none⟩ = some (.int .i64 x.b) ∧ W.cell? ⟨g, i * 4 + 2, none⟩ = some (.int .i64 x.c) ∧ W.cell? ⟨g, i * 4 + 3, none⟩ = some (.int .i64 x.d)) ∧ ∀ o, W.frozen? ⟨g, o, none⟩ = false := by
  obtain ⟨L, h1, h2, h3, h4, h5⟩ := h
  subst h1
  exact ⟨⟨_, h4.at (List.getElem?_eq_getElem hi)⟩, fun o => World.ownsRow.frozenAt h4 o⟩
theorem TmI.next {w W : World} {g K cap m : Nat} (h : TmI w (some ⟨g, 0, none⟩) K cap m W) (hm : m < K) (x : Q4) (hx : x.plane = true) (ix : x.I64) : TmI w (some ⟨g, 0, none⟩) K cap (m + 1) ((((W.setCell ⟨g, m * 4, none⟩ (.int .i64 x.a)).setCell ⟨g, m * 4 + 1, none⟩ (.int .i64 x.b)).setCell ⟨g, m * 4 + 2, none⟩ (.int .i64 x.c)).setCell ⟨g, m * 4 + 3, none⟩ (.int .i64 x.d)) := by
  obtain ⟨L, h1, h2, h3, h4, h5⟩ := h
  subst h1
  have hg := (World.ownsRow.lt h4 g rfl).1
  refine ⟨L.set m x, List.length_set, fun y hy => (List.mem_or_eq_of_mem_set hy).elim (h2 y) (fun e => by rw [e]; exact ix), fun j y hj hy => ?_, h4.set m hm x, (((h5.setCell (by simp; omega) _).setCell (by simp; omega) _).setCell (by simp; omega) _).setCell (by simp; omega) _⟩
  rw [List.getElem?_set] at hy
  by_cases e : m = j
  · rw [if_pos e, if_pos (by omega)] at hy
    have : x = y := by simpa using hy
    rw [← this]; exact hx
  · rw [if_neg e] at hy; exact h3 j y (by omega) hy

set_option maxHeartbeats 1000000 in
theorem tameL_any (l0 : List Q4) (v0 : Value) (w : World) (il0 : ∀ x, x ∈ l0 → x.I64) (hv : InP w v0 l0) :
    Calls Tryz.prog 29 #[v0] w fun e w' => (∃ v L, e = .returned v ∧ (List.length L ≤ 12 ∧ ∀ x, x ∈ L → Q4.I64 x) ∧ L.all Q4.plane = true ∧ RowP w.heap.size v L w') ∧ Below w.heap.size w w' := by
  have HF := Lib.hid (few_any l0 v0 w il0 hv)
  clear il0 hv
  go_enter Tryz.func29, Tryz.ntmps29
  go_wp2_with fail
  ((with_reducible refine (HF.out).mono ?_); rintro e w1 ⟨⟨v, L, rfl, ⟨hL12, hLI⟩, hrow⟩, hb⟩)
  obtain ⟨a, cap, rfl, ha⟩ := RowP.shape hrow
  have HT : Hid (TmI w a L.length cap 0 w1) := ⟨L, rfl, hLI, fun j x h => by omega, hrow, hb⟩
  have HA := Lib.hid ha
  clear hrow hLI hb HF ha
  generalize L.length = K at HT HA hL12 ⊢
  clear L
  go_wp2
  go_loopw [4] (fun s4 wr => ∃ m : Nat, m ≤ K ∧ s4 = .int .i64 m ∧ Hid (TmI w a K cap m wr)) (fun v _ => K - (intOf v).toNat)
  case atStart => exact ⟨0, by omega, rfl, HT⟩
  case round =>
    rename World => wr
    obtain ⟨m, hm, rfl, HM⟩ := hrel
    clear HT
    by_cases hmK : m < K
    · obtain ⟨g, rfl⟩ := HA.out (by omega)
      have hlz : (m : Int) < (K : Int) := by omega
      obtain ⟨⟨x, c0, c1, c2, c3⟩, -⟩ := HM.out.cells hmK
      go_wp2_with fail
      ((with_reducible refine (tame_any x.a x.b x.c x.d 2 _ (by decide) (by decide)).mono ?_); rintro e w2 ⟨⟨y, hy1, hy2, rfl⟩, hb⟩)
      have hM := HM.out.call hb
      have HN := Lib.hid (hM.next hmK y (by rw [← right_plane hy2]; exact hy1) hy2)
      clear HM c0 c1 c2 c3
      obtain ⟨⟨z, c0, c1, c2, c3⟩, cf⟩ := hM.cells hmK
      clear hM hb hy1 hy2
      go_wp2
      go_roundw
      case rel => exact ⟨m + 1, by omega, by go_num, HN⟩
      case measure => simp [intOf]; omega
    · have hmk : m = K := by omega
      have hlz : ¬ (m : Int) < (K : Int) := by omega
      have HK := Lib.hid hmk
      clear hmk
      go_wp2
      go_ret
      obtain ⟨L, h1, h2, h3, h4, h5⟩ := HM.out
      refine ⟨⟨_, rfl, L, ⟨by omega, h2⟩, fun x hx => ?_, h4⟩, h5⟩
      obtain ⟨i, hi, rfl⟩ := List.getElem_of_mem hx
      exact h3 i _ (by rw [HK.out, ← h1]; exact hi) (List.getElem?_eq_getElem hi)

end Go.Proofs.YtaoedfegakpjeabGreat

namespace Go.Proofs.YtaoedfegakpjeabGreat
open Go.RowKit

noncomputable def sideI (p x : Q4) : Int := vl (sgn (wrap64 (wrap64 (wrap64 (wrap64 (p.a * x.a) + wrap64 (p.b * x.b)) + wrap64 (p.c * x.c)) + wrap64 (p.d * x.d))))
theorem sideI_eq (p x : Q4) : sideI p x = sgn (wrap64 (wrap64 (wrap64 (wrap64 (p.a * x.a) + wrap64 (p.b * x.b)) + wrap64 (p.c * x.c)) + wrap64 (p.d * x.d))) := vl_eq _

set_option maxHeartbeats 400000 in
theorem gside_any (p x : Q4) (w : World) :
    Calls Tryz.prog 46 #[.agg #[.int .i64 (p.a), .int .i64 (p.b), .int .i64 (p.c), .int .i64 (p.d)], .agg #[.int .i64 (x.a), .int .i64 (x.b), .int .i64 (x.c), .int .i64 (x.d)]] w fun e w' => e = .returned (.int .i64 (sideI p x)) ∧ Below w.heap.size w w' := by
  go_enter Tryz.func46, Tryz.ntmps46
  go_wp2_with (go_at_call 63; refine (sign_any _ _).mono ?_; rintro e w1 ⟨rfl, rfl⟩)
  go_ret
  refine ⟨by rw [sideI_eq]; rfl, ?_⟩
  repeat (first | exact Below.refl _ _ | refine Below.alloc ?_ (by first | (simp; done) | (simp; omega)) _ | refine Below.setCell ?_ (by first | (simp; done) | (simp; omega)) _ | refine Below.drew ?_)

set_option maxHeartbeats 400000 in
theorem pside_any (p x : Q4) (w : World) :
    Calls Tryz.prog 31 #[.agg #[.int .i64 (p.a), .int .i64 (p.b), .int .i64 (p.c), .int .i64 (p.d)], .agg #[.int .i64 (x.a), .int .i64 (x.b), .int .i64 (x.c), .int .i64 (x.d)]] w fun e w' => e = .returned (.int .i64 (sideI p x)) ∧ Below w.heap.size w w' := by
  go_enter Tryz.func31, Tryz.ntmps31
  go_wp2_with (go_at_call 12; refine (psign_any _ _).mono ?_; rintro e w1 ⟨rfl, rfl⟩)
  go_ret
  refine ⟨by rw [sideI_eq]; rfl, ?_⟩
  repeat (first | exact Below.refl _ _ | refine Below.alloc ?_ (by first | (simp; done) | (simp; omega)) _ | refine Below.setCell ?_ (by first | (simp; done) | (simp; omega)) _ | refine Below.drew ?_)

/-- A point is on the line of two planes. -/
noncomputable def onB (p q x : Q4) : Bool := vlB (sideI p x == 0 && sideI q x == 0)
theorem onB_eq (p q x : Q4) : onB p q x = (sideI p x == 0 && sideI q x == 0) := vlB_eq _

set_option maxHeartbeats 400000 in
theorem on_any (p q x : Q4) (w : World) :
    Calls Tryz.prog 26 #[.agg #[.int .i64 (p.a), .int .i64 (p.b), .int .i64 (p.c), .int .i64 (p.d)], .agg #[.int .i64 (q.a), .int .i64 (q.b), .int .i64 (q.c), .int .i64 (q.d)], .agg #[.int .i64 (x.a), .int .i64 (x.b), .int .i64 (x.c), .int .i64 (x.d)]] w fun e w' => e = .returned (.bool (onB p q x)) ∧ Below w.heap.size w w' := by
  have HV := Lib.hid (onB_eq p q x)
  have HA : Hid (∀ W, Calls Tryz.prog 31 #[.agg #[.int .i64 (p.a), .int .i64 (p.b), .int .i64 (p.c), .int .i64 (p.d)], .agg #[.int .i64 (x.a), .int .i64 (x.b), .int .i64 (x.c), .int .i64 (x.d)]] W fun e w' => e = .returned (.int .i64 (sideI p x)) ∧ Below W.heap.size W w') := fun W => pside_any p x W
  have HB : Hid (∀ W, Calls Tryz.prog 31 #[.agg #[.int .i64 (q.a), .int .i64 (q.b), .int .i64 (q.c), .int .i64 (q.d)], .agg #[.int .i64 (x.a), .int .i64 (x.b), .int .i64 (x.c), .int .i64 (x.d)]] W fun e w' => e = .returned (.int .i64 (sideI q x)) ∧ Below W.heap.size W w') := fun W => pside_any q x W
  generalize sideI p x = s at HV HA
  generalize sideI q x = t at HV HB
  go_enter Tryz.func26, Tryz.ntmps26
  have hE : ∀ W, Fr 3 [(0, .cells #[.int .i64 (p.a), .int .i64 (p.b), .int .i64 (p.c), .int .i64 (p.d)] 23), (1, .cells #[.int .i64 (q.a), .int .i64 (q.b), .int .i64 (q.c), .int .i64 (q.d)] 23), (2, .cells #[.int .i64 (x.a), .int .i64 (x.b), .int .i64 (x.c), .int .i64 (x.d)] 48)] [] w W → (W.cell? ⟨w.heap.size, 0, none⟩ = some (.int .i64 (p.a)) ∧ W.cell? ⟨w.heap.size, 1, none⟩ = some (.int .i64 (p.b)) ∧ W.cell? ⟨w.heap.size, 2, none⟩ = some (.int .i64 (p.c)) ∧ W.cell? ⟨w.heap.size, 3, none⟩ = some (.int .i64 (p.d)) ∧ W.cell? ⟨w.heap.size + 1, 0, none⟩ = some (.int .i64 (q.a)) ∧ W.cell? ⟨w.heap.size + 1, 1, none⟩ = some (.int .i64 (q.b)) ∧ W.cell? ⟨w.heap.size + 1, 2, none⟩ = some (.int .i64 (q.c)) ∧ W.cell? ⟨w.heap.size + 1, 3, none⟩ = some (.int .i64 (q.d)) ∧ W.cell? ⟨w.heap.size + 2, 0, none⟩ = some (.int .i64 (x.a)) ∧ W.cell? ⟨w.heap.size + 2, 1, none⟩ = some (.int .i64 (x.b)) ∧ W.cell? ⟨w.heap.size + 2, 2, none⟩ = some (.int .i64 (x.c)) ∧ W.cell? ⟨w.heap.size + 2, 3, none⟩ = some (.int .i64 (x.d))) := fun W h => by (repeat' apply And.intro) <;> first | exact h.at0 rfl | exact h.at rfl | exact (h.rms0 rfl).cell | exact (h.rms rfl).cell | exact (h.rms0 rfl).frozen | exact (h.rms rfl).frozen
  have HE := Lib.hid hE
  clear hE
  by_cases h : s = 0
  · subst h
    go_wp2_with fail
    (go_at_call 31; refine (HA.out _).mono ?_; rintro e w1 ⟨rfl, hb1⟩; (try clear hq); (try clear hz); have hF : Fr 3 [(0, .cells #[.int .i64 (p.a), .int .i64 (p.b), .int .i64 (p.c), .int .i64 (p.d)] 23), (1, .cells #[.int .i64 (q.a), .int .i64 (q.b), .int .i64 (q.c), .int .i64 (q.d)] 23), (2, .cells #[.int .i64 (x.a), .int .i64 (x.b), .int .i64 (x.c), .int .i64 (x.d)] 48)] [] w w1 := Fr.call (by (repeat (first | exact hF | exact ((((Fr.nil w).fixed (by simp) (.cells #[.int .i64 (p.a), .int .i64 (p.b), .int .i64 (p.c), .int .i64 (p.d)] 23)).fixed (by simp) (.cells #[.int .i64 (q.a), .int .i64 (q.b), .int .i64 (q.c), .int .i64 (q.d)] 23)).fixed (by simp) (.cells #[.int .i64 (x.a), .int .i64 (x.b), .int .i64 (x.c), .int .i64 (x.d)] 48)) | exact And.left (by assumption) | refine Fr.set ?_ (by first | (simp; done) | (simp; omega)) (by first | (simp [List.lookup]; done) | (simp [Nat.add_assoc, List.lookup]; done)) _ | refine Fr.drew ?_ | refine Fr.alloc ?_ _))) hb1; have hq := HE.out _ hF; have hz : w.heap.size < w1.heap.size ∧ w.heap.size + 1 < w1.heap.size ∧ w.heap.size + 2 < w1.heap.size := by have hs := Own.size (Fr.own hF); omega)
    go_wp2_with fail
    (go_at_call 31; refine (HB.out _).mono ?_; rintro e w1 ⟨rfl, hb1⟩; (try clear hq); (try clear hz); have hF : Fr 3 [(0, .cells #[.int .i64 (p.a), .int .i64 (p.b), .int .i64 (p.c), .int .i64 (p.d)] 23), (1, .cells #[.int .i64 (q.a), .int .i64 (q.b), .int .i64 (q.c), .int .i64 (q.d)] 23), (2, .cells #[.int .i64 (x.a), .int .i64 (x.b), .int .i64 (x.c), .int .i64 (x.d)] 48)] [] w w1 := Fr.call (by (repeat (first | exact hF | exact ((((Fr.nil w).fixed (by simp) (.cells #[.int .i64 (p.a), .int .i64 (p.b), .int .i64 (p.c), .int .i64 (p.d)] 23)).fixed (by simp) (.cells #[.int .i64 (q.a), .int .i64 (q.b), .int .i64 (q.c), .int .i64 (q.d)] 23)).fixed (by simp) (.cells #[.int .i64 (x.a), .int .i64 (x.b), .int .i64 (x.c), .int .i64 (x.d)] 48)) | exact And.left (by assumption) | refine Fr.set ?_ (by first | (simp; done) | (simp; omega)) (by first | (simp [List.lookup]; done) | (simp [Nat.add_assoc, List.lookup]; done)) _ | refine Fr.drew ?_ | refine Fr.alloc ?_ _))) hb1; have hq := HE.out _ hF; have hz : w.heap.size < w1.heap.size ∧ w.heap.size + 1 < w1.heap.size ∧ w.heap.size + 2 < w1.heap.size := by have hs := Own.size (Fr.own hF); omega)
    go_wp2
    go_ret
    refine ⟨ret_bool (by rw [HV.out]; simp), ?_⟩
    refine Own.below (Fr.own (k := 3) (fx := [(0, .cells #[.int .i64 (p.a), .int .i64 (p.b), .int .i64 (p.c), .int .i64 (p.d)] 23), (1, .cells #[.int .i64 (q.a), .int .i64 (q.b), .int .i64 (q.c), .int .i64 (q.d)] 23), (2, .cells #[.int .i64 (x.a), .int .i64 (x.b), .int .i64 (x.c), .int .i64 (x.d)] 48)]) (rm := []) ?_); (repeat (first | exact hF | exact And.left (by assumption) | refine Fr.set ?_ (by first | (simp; done) | (simp; omega)) (by first | (simp [List.lookup]; done) | (simp [Nat.add_assoc, List.lookup]; done)) _ | refine Fr.drew ?_ | refine Fr.alloc ?_ _))
  · have hs : (s == 0) = false := by simpa using h
    have HH := Lib.hid h
    clear h
    go_wp2_with fail
    (go_at_call 31; refine (HA.out _).mono ?_; rintro e w1 ⟨rfl, hb1⟩; (try clear hq); (try clear hz); have hF : Fr 3 [(0, .cells #[.int .i64 (p.a), .int .i64 (p.b), .int .i64 (p.c), .int .i64 (p.d)] 23), (1, .cells #[.int .i64 (q.a), .int .i64 (q.b), .int .i64 (q.c), .int .i64 (q.d)] 23), (2, .cells #[.int .i64 (x.a), .int .i64 (x.b), .int .i64 (x.c), .int .i64 (x.d)] 48)] [] w w1 := Fr.call (by (repeat (first | exact hF | exact ((((Fr.nil w).fixed (by simp) (.cells #[.int .i64 (p.a), .int .i64 (p.b), .int .i64 (p.c), .int .i64 (p.d)] 23)).fixed (by simp) (.cells #[.int .i64 (q.a), .int .i64 (q.b), .int .i64 (q.c), .int .i64 (q.d)] 23)).fixed (by simp) (.cells #[.int .i64 (x.a), .int .i64 (x.b), .int .i64 (x.c), .int .i64 (x.d)] 48)) | exact And.left (by assumption) | refine Fr.set ?_ (by first | (simp; done) | (simp; omega)) (by first | (simp [List.lookup]; done) | (simp [Nat.add_assoc, List.lookup]; done)) _ | refine Fr.drew ?_ | refine Fr.alloc ?_ _))) hb1; have hq := HE.out _ hF; have hz : w.heap.size < w1.heap.size ∧ w.heap.size + 1 < w1.heap.size ∧ w.heap.size + 2 < w1.heap.size := by have hs := Own.size (Fr.own hF); omega)
    go_wp2
    go_ret
    refine ⟨ret_bool (by rw [HV.out]; simp [HH.out]), ?_⟩
    refine Own.below (Fr.own (k := 3) (fx := [(0, .cells #[.int .i64 (p.a), .int .i64 (p.b), .int .i64 (p.c), .int .i64 (p.d)] 23), (1, .cells #[.int .i64 (q.a), .int .i64 (q.b), .int .i64 (q.c), .int .i64 (q.d)] 23), (2, .cells #[.int .i64 (x.a), .int .i64 (x.b), .int .i64 (x.c), .int .i64 (x.d)] 48)]) (rm := []) ?_); (repeat (first | exact hF | exact And.left (by assumption) | refine Fr.set ?_ (by first | (simp; done) | (simp; omega)) (by first | (simp [List.lookup]; done) | (simp [Nat.add_assoc, List.lookup]; done)) _ | refine Fr.drew ?_ | refine Fr.alloc ?_ _))

end Go.Proofs.YtaoedfegakpjeabGreat
