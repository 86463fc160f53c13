/- Contracts of the functions that the statement reaches, and plain lemmas: part 13 of 25. -/
import Derived.Test.YtaoedfegakpjeabGreatJ09
import Derived.Test.YtaoedfegakpjeabGreatJ12

namespace Go.Proofs.YtaoedfegakpjeabGreat
open Go.RowKit Go.Shelf Go.Sort

/-- A slice of directions, nil or not. -/
def SlT (W : World) (v : Value) (ps : List T3) : Prop := (v = .slice none 0 0 ∧ ps = []) ∨ ∃ b o cap, v = .slice (some ⟨b, o, none⟩) ps.length cap ∧ b < W.heap.size ∧ Sl3 W b o ps
theorem SlT.below {W W1 : World} {v : Value} {ps : List T3} {B : Nat} (h : SlT W v ps) (hB : W.heap.size ≤ B) (hb : Below B W W1) : SlT W1 v ps := by
  rcases h with h | ⟨b, o, cap, rfl, hl, hs⟩
  · exact .inl h
  · exact .inr ⟨b, o, cap, rfl, Nat.lt_of_lt_of_le hl hb.size, hs.below hb (by omega)⟩

/-- line.Clockwise: the error, and the place. -/
noncomputable def clkE (p : Q4) (f : T3) (l : List T3) : Int := vl (if p.plane = false then 30 else if l.length = 0 ∨ 1000 < l.length then 1 else if areB p [f] = false then 1 else if areB p l = false then 1 else 0)
theorem clkE_eq (p : Q4) (f : T3) (l : List T3) : clkE p f l = (if p.plane = false then 30 else if l.length = 0 ∨ 1000 < l.length then 1 else if areB p [f] = false then 1 else if areB p l = false then 1 else 0) := vl_eq _
noncomputable def clkV (p : Q4) (f : T3) (l : List T3) : Int := vl (if p.plane = false then 0 else if l.length = 0 ∨ 1000 < l.length then 0 else if areB p [f] = false then 0 else if areB p l = false then 0 else (cwN ⟨p.a, p.b, p.c⟩ f l l.length : Nat))
theorem clkV_eq (p : Q4) (f : T3) (l : List T3) : clkV p f l = (if p.plane = false then 0 else if l.length = 0 ∨ 1000 < l.length then 0 else if areB p [f] = false then 0 else if areB p l = false then 0 else ((cwN ⟨p.a, p.b, p.c⟩ f l l.length : Nat) : Int)) := vl_eq _

set_option maxHeartbeats 1000000 in
theorem clk_bad1 (p : Q4) (f : T3) (l : List T3) (vl : Value) (w : World) (ip : p.I64) (h1 : p.plane = false) :
    Calls Tryz.prog 18 #[.agg #[.int .i64 (p.a), .int .i64 (p.b), .int .i64 (p.c), .int .i64 (p.d)], .agg #[.int .i64 (f.x), .int .i64 (f.y), .int .i64 (f.z)], vl] w fun e w' => e = .returned (.tuple #[.int .i64 (clkV p f l), .int .i64 (clkE p f l)]) ∧ Below w.heap.size w w' := by
  have HV : Hid (clkV p f l = 0) := by unfold Hid; rw [clkV_eq, if_pos h1]
  have HE1 : Hid (clkE p f l = 30) := by unfold Hid; rw [clkE_eq, if_pos h1]
  go_enter Tryz.func18, Tryz.ntmps18
  have hE : ∀ W, Fr 2 [(0, .cells #[.int .i64 (p.a), .int .i64 (p.b), .int .i64 (p.c), .int .i64 (p.d)] 23), (1, .cells #[.int .i64 (f.x), .int .i64 (f.y), .int .i64 (f.z)] 24)] [] w W → (W.cell? ⟨w.heap.size, 0, none⟩ = some (.int .i64 (p.a)) ∧ W.cell? ⟨w.heap.size, 1, none⟩ = some (.int .i64 (p.b)) ∧ W.cell? ⟨w.heap.size, 2, none⟩ = some (.int .i64 (p.c)) ∧ W.cell? ⟨w.heap.size, 3, none⟩ = some (.int .i64 (p.d)) ∧ W.cell? ⟨w.heap.size + 1, 0, none⟩ = some (.int .i64 (f.x)) ∧ W.cell? ⟨w.heap.size + 1, 1, none⟩ = some (.int .i64 (f.y)) ∧ W.cell? ⟨w.heap.size + 1, 2, none⟩ = some (.int .i64 (f.z))) := fun W h => by (repeat' apply And.intro) <;> first | exact h.at0 rfl | exact h.at rfl | exact (h.rms0 rfl).cell | exact (h.rms rfl).cell | exact (h.rms0 rfl).frozen | exact (h.rms rfl).frozen
  have HE := Lib.hid hE
  clear hE
  go_wp2_with (go_at_call 41; refine (isPlaneQ_any p _ ip).mono ?_; rintro e w1 ⟨rfl, hb1⟩; (try clear hq); (try clear hz); have hF : Fr 2 [(0, .cells #[.int .i64 (p.a), .int .i64 (p.b), .int .i64 (p.c), .int .i64 (p.d)] 23), (1, .cells #[.int .i64 (f.x), .int .i64 (f.y), .int .i64 (f.z)] 24)] [] w w1 := Fr.call (by (repeat (first | exact hF | exact (((Fr.nil w).fixed (by simp) (.cells #[.int .i64 (p.a), .int .i64 (p.b), .int .i64 (p.c), .int .i64 (p.d)] 23)).fixed (by simp) (.cells #[.int .i64 (f.x), .int .i64 (f.y), .int .i64 (f.z)] 24)) | exact And.left (by assumption) | refine Fr.set ?_ (by first | (simp; done) | (simp; omega)) (by first | (simp [List.lookup]; done) | (simp [Nat.add_assoc, List.lookup]; done)) _ | refine Fr.drew ?_ | refine Fr.alloc ?_ _))) hb1; have hq := HE.out _ hF; have hz : w.heap.size < w1.heap.size ∧ w.heap.size + 1 < w1.heap.size := by have hs := Own.size (Fr.own hF); omega)
  go_ret2
  refine ⟨by rw [HV.out, HE1.out]; rfl, ?_⟩
  refine Own.below (Fr.own (k := 2) (fx := [(0, .cells #[.int .i64 (p.a), .int .i64 (p.b), .int .i64 (p.c), .int .i64 (p.d)] 23), (1, .cells #[.int .i64 (f.x), .int .i64 (f.y), .int .i64 (f.z)] 24)]) (rm := []) ?_); (repeat (first | exact hF | exact And.left (by assumption) | refine Fr.set ?_ (by first | (simp; done) | (simp; omega)) (by first | (simp [List.lookup]; done) | (simp [Nat.add_assoc, List.lookup]; done)) _ | refine Fr.drew ?_ | refine Fr.alloc ?_ _))

set_option maxHeartbeats 1000000 in
theorem clk_bad2 (p : Q4) (f : T3) (l : List T3) (va : Option Addr) (vc : Nat) (w : World) (ip : p.I64) (h1 : p.plane = true) (h2 : l.length = 0 ∨ 1000 < l.length) (hl : l.length ≤ 1000000) :
    Calls Tryz.prog 18 #[.agg #[.int .i64 (p.a), .int .i64 (p.b), .int .i64 (p.c), .int .i64 (p.d)], .agg #[.int .i64 (f.x), .int .i64 (f.y), .int .i64 (f.z)], .slice va l.length vc] w fun e w' => e = .returned (.tuple #[.int .i64 (clkV p f l), .int .i64 (clkE p f l)]) ∧ Below w.heap.size w w' := by
  have HV : Hid (clkV p f l = 0) := by unfold Hid; rw [clkV_eq, h1, if_neg (by simp), if_pos h2]
  have HE1 : Hid (clkE p f l = 1) := by unfold Hid; rw [clkE_eq, h1, if_neg (by simp), if_pos h2]
  obtain ⟨n, hn⟩ : ∃ n, n = l.length := ⟨_, rfl⟩
  rw [← hn] at h2 hl ⊢
  clear hn
  rcases h2 with rfl | h2
  · go_enter Tryz.func18, Tryz.ntmps18
    have hE : ∀ W, Fr 2 [(0, .cells #[.int .i64 (p.a), .int .i64 (p.b), .int .i64 (p.c), .int .i64 (p.d)] 23), (1, .cells #[.int .i64 (f.x), .int .i64 (f.y), .int .i64 (f.z)] 24)] [] w W → (W.cell? ⟨w.heap.size, 0, none⟩ = some (.int .i64 (p.a)) ∧ W.cell? ⟨w.heap.size, 1, none⟩ = some (.int .i64 (p.b)) ∧ W.cell? ⟨w.heap.size, 2, none⟩ = some (.int .i64 (p.c)) ∧ W.cell? ⟨w.heap.size, 3, none⟩ = some (.int .i64 (p.d)) ∧ W.cell? ⟨w.heap.size + 1, 0, none⟩ = some (.int .i64 (f.x)) ∧ W.cell? ⟨w.heap.size + 1, 1, none⟩ = some (.int .i64 (f.y)) ∧ W.cell? ⟨w.heap.size + 1, 2, none⟩ = some (.int .i64 (f.z))) := fun W h => by (repeat' apply And.intro) <;> first | exact h.at0 rfl | exact h.at rfl | exact (h.rms0 rfl).cell | exact (h.rms rfl).cell | exact (h.rms0 rfl).frozen | exact (h.rms rfl).frozen
    have HE := Lib.hid hE
    clear hE
    go_wp2_with (go_at_call 41; refine (isPlaneQ_any p _ ip).mono ?_; rintro e w1 ⟨rfl, hb1⟩; (try clear hq); (try clear hz); have hF : Fr 2 [(0, .cells #[.int .i64 (p.a), .int .i64 (p.b), .int .i64 (p.c), .int .i64 (p.d)] 23), (1, .cells #[.int .i64 (f.x), .int .i64 (f.y), .int .i64 (f.z)] 24)] [] w w1 := Fr.call (by (repeat (first | exact hF | exact (((Fr.nil w).fixed (by simp) (.cells #[.int .i64 (p.a), .int .i64 (p.b), .int .i64 (p.c), .int .i64 (p.d)] 23)).fixed (by simp) (.cells #[.int .i64 (f.x), .int .i64 (f.y), .int .i64 (f.z)] 24)) | exact And.left (by assumption) | refine Fr.set ?_ (by first | (simp; done) | (simp; omega)) (by first | (simp [List.lookup]; done) | (simp [Nat.add_assoc, List.lookup]; done)) _ | refine Fr.drew ?_ | refine Fr.alloc ?_ _))) hb1; have hq := HE.out _ hF; have hz : w.heap.size < w1.heap.size ∧ w.heap.size + 1 < w1.heap.size := by have hs := Own.size (Fr.own hF); omega)
    go_ret2
    refine ⟨by rw [HV.out, HE1.out]; rfl, ?_⟩
    refine Own.below (Fr.own (k := 2) (fx := [(0, .cells #[.int .i64 (p.a), .int .i64 (p.b), .int .i64 (p.c), .int .i64 (p.d)] 23), (1, .cells #[.int .i64 (f.x), .int .i64 (f.y), .int .i64 (f.z)] 24)]) (rm := []) ?_); (repeat (first | exact hF | exact And.left (by assumption) | refine Fr.set ?_ (by first | (simp; done) | (simp; omega)) (by first | (simp [List.lookup]; done) | (simp [Nat.add_assoc, List.lookup]; done)) _ | refine Fr.drew ?_ | refine Fr.alloc ?_ _))
  · have hz : ((n : Int) == 0) = false := by simp; omega
    have hz2 : ¬ (n : Int) = 0 := by omega
    have hz3 : (1000 : Int) < (n : Int) := by omega
    go_enter Tryz.func18, Tryz.ntmps18
    have hE : ∀ W, Fr 2 [(0, .cells #[.int .i64 (p.a), .int .i64 (p.b), .int .i64 (p.c), .int .i64 (p.d)] 23), (1, .cells #[.int .i64 (f.x), .int .i64 (f.y), .int .i64 (f.z)] 24)] [] w W → (W.cell? ⟨w.heap.size, 0, none⟩ = some (.int .i64 (p.a)) ∧ W.cell? ⟨w.heap.size, 1, none⟩ = some (.int .i64 (p.b)) ∧ W.cell? ⟨w.heap.size, 2, none⟩ = some (.int .i64 (p.c)) ∧ W.cell? ⟨w.heap.size, 3, none⟩ = some (.int .i64 (p.d)) ∧ W.cell? ⟨w.heap.size + 1, 0, none⟩ = some (.int .i64 (f.x)) ∧ W.cell? ⟨w.heap.size + 1, 1, none⟩ = some (.int .i64 (f.y)) ∧ W.cell? ⟨w.heap.size + 1, 2, none⟩ = some (.int .i64 (f.z))) := fun W h => by (repeat' apply And.intro) <;> first | exact h.at0 rfl | exact h.at rfl | exact (h.rms0 rfl).cell | exact (h.rms rfl).cell | exact (h.rms0 rfl).frozen | exact (h.rms rfl).frozen
    have HE := Lib.hid hE
    clear hE
    go_wp2_with (go_at_call 41; refine (isPlaneQ_any p _ ip).mono ?_; rintro e w1 ⟨rfl, hb1⟩; (try clear hq); (try clear hz); have hF : Fr 2 [(0, .cells #[.int .i64 (p.a), .int .i64 (p.b), .int .i64 (p.c), .int .i64 (p.d)] 23), (1, .cells #[.int .i64 (f.x), .int .i64 (f.y), .int .i64 (f.z)] 24)] [] w w1 := Fr.call (by (repeat (first | exact hF | exact (((Fr.nil w).fixed (by simp) (.cells #[.int .i64 (p.a), .int .i64 (p.b), .int .i64 (p.c), .int .i64 (p.d)] 23)).fixed (by simp) (.cells #[.int .i64 (f.x), .int .i64 (f.y), .int .i64 (f.z)] 24)) | exact And.left (by assumption) | refine Fr.set ?_ (by first | (simp; done) | (simp; omega)) (by first | (simp [List.lookup]; done) | (simp [Nat.add_assoc, List.lookup]; done)) _ | refine Fr.drew ?_ | refine Fr.alloc ?_ _))) hb1; have hq := HE.out _ hF; have hz : w.heap.size < w1.heap.size ∧ w.heap.size + 1 < w1.heap.size := by have hs := Own.size (Fr.own hF); omega)
    go_ret2
    refine ⟨by rw [HV.out, HE1.out]; rfl, ?_⟩
    refine Own.below (Fr.own (k := 2) (fx := [(0, .cells #[.int .i64 (p.a), .int .i64 (p.b), .int .i64 (p.c), .int .i64 (p.d)] 23), (1, .cells #[.int .i64 (f.x), .int .i64 (f.y), .int .i64 (f.z)] 24)]) (rm := []) ?_); (repeat (first | exact hF | exact And.left (by assumption) | refine Fr.set ?_ (by first | (simp; done) | (simp; omega)) (by first | (simp [List.lookup]; done) | (simp [Nat.add_assoc, List.lookup]; done)) _ | refine Fr.drew ?_ | refine Fr.alloc ?_ _))

set_option maxHeartbeats 1000000 in
theorem clk_bad3 (p : Q4) (f : T3) (l : List T3) (va : Option Addr) (vc : Nat) (w : World) (ip : p.I64) (h1 : p.plane = true) (h0 : 0 < l.length) (hl : l.length ≤ 1000) (h2 : areB p [f] = false) :
    Calls Tryz.prog 18 #[.agg #[.int .i64 (p.a), .int .i64 (p.b), .int .i64 (p.c), .int .i64 (p.d)], .agg #[.int .i64 (f.x), .int .i64 (f.y), .int .i64 (f.z)], .slice va l.length vc] w fun e w' => e = .returned (.tuple #[.int .i64 (clkV p f l), .int .i64 (clkE p f l)]) ∧ Below w.heap.size w w' := by
  have HV : Hid (clkV p f l = 0) := by unfold Hid; rw [clkV_eq, h1, if_neg (by simp), if_neg (by omega), if_pos h2]
  have HE1 : Hid (clkE p f l = 1) := by unfold Hid; rw [clkE_eq, h1, if_neg (by simp), if_neg (by omega), if_pos h2]
  obtain ⟨n, hn⟩ : ∃ n, n = l.length := ⟨_, rfl⟩
  rw [← hn] at h0 hl ⊢
  clear hn
  have hz : ((n : Int) == 0) = false := by simp; omega
  have hz2 : ¬ (n : Int) = 0 := by omega
  have hz3 : ¬ (1000 : Int) < (n : Int) := by omega
  go_enter Tryz.func18, Tryz.ntmps18
  have hE : ∀ W, Fr 2 [(0, .cells #[.int .i64 (p.a), .int .i64 (p.b), .int .i64 (p.c), .int .i64 (p.d)] 23), (1, .cells #[.int .i64 (f.x), .int .i64 (f.y), .int .i64 (f.z)] 24)] [] w W → (W.cell? ⟨w.heap.size, 0, none⟩ = some (.int .i64 (p.a)) ∧ W.cell? ⟨w.heap.size, 1, none⟩ = some (.int .i64 (p.b)) ∧ W.cell? ⟨w.heap.size, 2, none⟩ = some (.int .i64 (p.c)) ∧ W.cell? ⟨w.heap.size, 3, none⟩ = some (.int .i64 (p.d)) ∧ W.cell? ⟨w.heap.size + 1, 0, none⟩ = some (.int .i64 (f.x)) ∧ W.cell? ⟨w.heap.size + 1, 1, none⟩ = some (.int .i64 (f.y)) ∧ W.cell? ⟨w.heap.size + 1, 2, none⟩ = some (.int .i64 (f.z))) := fun W h => by (repeat' apply And.intro) <;> first | exact h.at0 rfl | exact h.at rfl | exact (h.rms0 rfl).cell | exact (h.rms rfl).cell | exact (h.rms0 rfl).frozen | exact (h.rms rfl).frozen
  have HE := Lib.hid hE
  clear hE
  go_wp2_with (first | (go_at_call 41; refine (isPlaneQ_any p _ ip).mono ?_; rintro e w1 ⟨rfl, hb1⟩; (try clear hq); (try clear hz); have hF : Fr 2 [(0, .cells #[.int .i64 (p.a), .int .i64 (p.b), .int .i64 (p.c), .int .i64 (p.d)] 23), (1, .cells #[.int .i64 (f.x), .int .i64 (f.y), .int .i64 (f.z)] 24)] [] w w1 := Fr.call (by (repeat (first | exact hF | exact (((Fr.nil w).fixed (by simp) (.cells #[.int .i64 (p.a), .int .i64 (p.b), .int .i64 (p.c), .int .i64 (p.d)] 23)).fixed (by simp) (.cells #[.int .i64 (f.x), .int .i64 (f.y), .int .i64 (f.z)] 24)) | exact And.left (by assumption) | refine Fr.set ?_ (by first | (simp; done) | (simp; omega)) (by first | (simp [List.lookup]; done) | (simp [Nat.add_assoc, List.lookup]; done)) _ | refine Fr.drew ?_ | refine Fr.alloc ?_ _))) hb1; have hq := HE.out _ hF; have hz : w.heap.size < w1.heap.size ∧ w.heap.size + 1 < w1.heap.size := by have hs := Own.size (Fr.own hF); omega) | (go_at_call 42; refine (are_one p f _ _ _ _ (by simp) ⟨by simp [go_sem], by simp [go_sem], by simp [go_sem]⟩).mono ?_; rintro e w1 ⟨rfl, hb1⟩; (try clear hq); (try clear hz); have hF : Fr 2 [(0, .cells #[.int .i64 (p.a), .int .i64 (p.b), .int .i64 (p.c), .int .i64 (p.d)] 23), (1, .cells #[.int .i64 (f.x), .int .i64 (f.y), .int .i64 (f.z)] 24)] [] w w1 := Fr.call (by (repeat (first | exact hF | exact (((Fr.nil w).fixed (by simp) (.cells #[.int .i64 (p.a), .int .i64 (p.b), .int .i64 (p.c), .int .i64 (p.d)] 23)).fixed (by simp) (.cells #[.int .i64 (f.x), .int .i64 (f.y), .int .i64 (f.z)] 24)) | exact And.left (by assumption) | refine Fr.set ?_ (by first | (simp; done) | (simp; omega)) (by first | (simp [List.lookup]; done) | (simp [Nat.add_assoc, List.lookup]; done)) _ | refine Fr.drew ?_ | refine Fr.alloc ?_ _))) hb1; have hq := HE.out _ hF; have hz : w.heap.size < w1.heap.size ∧ w.heap.size + 1 < w1.heap.size := by have hs := Own.size (Fr.own hF); omega))
  go_ret2
  refine ⟨by rw [HV.out, HE1.out]; rfl, ?_⟩
  refine Own.below (Fr.own (k := 2) (fx := [(0, .cells #[.int .i64 (p.a), .int .i64 (p.b), .int .i64 (p.c), .int .i64 (p.d)] 23), (1, .cells #[.int .i64 (f.x), .int .i64 (f.y), .int .i64 (f.z)] 24)]) (rm := []) ?_); (repeat (first | exact hF | exact And.left (by assumption) | refine Fr.set ?_ (by first | (simp; done) | (simp; omega)) (by first | (simp [List.lookup]; done) | (simp [Nat.add_assoc, List.lookup]; done)) _ | refine Fr.drew ?_ | refine Fr.alloc ?_ _))

set_option maxRecDepth 100000 in
set_option maxHeartbeats 1000000 in
theorem clk_bad4 (p : Q4) (f : T3) (l : List T3) (b o vc : Nat) (w : World) (ip : p.I64) (h1 : p.plane = true) (h0 : 0 < l.length) (hl : l.length ≤ 1000) (h2 : areB p [f] = true) (h3 : areB p l = false) (hB : b < w.heap.size) (hc : Sl3 w b o l) :
    Calls Tryz.prog 18 #[.agg #[.int .i64 (p.a), .int .i64 (p.b), .int .i64 (p.c), .int .i64 (p.d)], .agg #[.int .i64 (f.x), .int .i64 (f.y), .int .i64 (f.z)], .slice (some ⟨b, o, none⟩) l.length vc] w fun e w' => e = .returned (.tuple #[.int .i64 (clkV p f l), .int .i64 (clkE p f l)]) ∧ Below w.heap.size w w' := by
  have HV : Hid (clkV p f l = 0) := by unfold Hid; rw [clkV_eq, h1, h2, if_neg (by simp), if_neg (by omega), if_neg (by simp), if_pos h3]
  have HE1 : Hid (clkE p f l = 1) := by unfold Hid; rw [clkE_eq, h1, h2, if_neg (by simp), if_neg (by omega), if_neg (by simp), if_pos h3]
  have hl6 : l.length ≤ 1000000 := by omega
  have HA : Hid (∀ W : World, Below w.heap.size w W → ∀ c, Calls Tryz.prog 42 #[.agg #[.int .i64 (p.a), .int .i64 (p.b), .int .i64 (p.c), .int .i64 (p.d)], .slice (some ⟨b, o, none⟩) l.length c] W fun e w' => e = .returned (.bool (areB p l)) ∧ Below W.heap.size W w') := fun W hb c => are_any p l b o c W hl6 (Nat.lt_of_lt_of_le hB hb.size) (hc.below hb hB)
  clear hc
  obtain ⟨n, hn⟩ : ∃ n, n = l.length := ⟨_, rfl⟩
  rw [← hn] at h0 hl HA hl6 ⊢
  clear hn
  have hz : ((n : Int) == 0) = false := by simp; omega
  have hz2 : ¬ (n : Int) = 0 := by omega
  have hz3 : ¬ (1000 : Int) < (n : Int) := by omega
  go_enter Tryz.func18, Tryz.ntmps18
  have hE : ∀ W, Fr 2 [(0, .cells #[.int .i64 (p.a), .int .i64 (p.b), .int .i64 (p.c), .int .i64 (p.d)] 23), (1, .cells #[.int .i64 (f.x), .int .i64 (f.y), .int .i64 (f.z)] 24)] [] w W → (W.cell? ⟨w.heap.size, 0, none⟩ = some (.int .i64 (p.a)) ∧ W.cell? ⟨w.heap.size, 1, none⟩ = some (.int .i64 (p.b)) ∧ W.cell? ⟨w.heap.size, 2, none⟩ = some (.int .i64 (p.c)) ∧ W.cell? ⟨w.heap.size, 3, none⟩ = some (.int .i64 (p.d)) ∧ W.cell? ⟨w.heap.size + 1, 0, none⟩ = some (.int .i64 (f.x)) ∧ W.cell? ⟨w.heap.size + 1, 1, none⟩ = some (.int .i64 (f.y)) ∧ W.cell? ⟨w.heap.size + 1, 2, none⟩ = some (.int .i64 (f.z))) := fun W h => by (repeat' apply And.intro) <;> first | exact h.at0 rfl | exact h.at rfl | exact (h.rms0 rfl).cell | exact (h.rms rfl).cell | exact (h.rms0 rfl).frozen | exact (h.rms rfl).frozen
  have HE := Lib.hid hE
  clear hE
  go_wp2_with fail
  (go_at_call 41; refine (isPlaneQ_any p _ ip).mono ?_; rintro e w1 ⟨rfl, hb1⟩; (try clear hq); (try clear hz); have hF : Fr 2 [(0, .cells #[.int .i64 (p.a), .int .i64 (p.b), .int .i64 (p.c), .int .i64 (p.d)] 23), (1, .cells #[.int .i64 (f.x), .int .i64 (f.y), .int .i64 (f.z)] 24)] [] w w1 := Fr.call (by (repeat (first | exact hF | exact (((Fr.nil w).fixed (by simp) (.cells #[.int .i64 (p.a), .int .i64 (p.b), .int .i64 (p.c), .int .i64 (p.d)] 23)).fixed (by simp) (.cells #[.int .i64 (f.x), .int .i64 (f.y), .int .i64 (f.z)] 24)) | exact And.left (by assumption) | refine Fr.set ?_ (by first | (simp; done) | (simp; omega)) (by first | (simp [List.lookup]; done) | (simp [Nat.add_assoc, List.lookup]; done)) _ | refine Fr.drew ?_ | refine Fr.alloc ?_ _))) hb1; have hq := HE.out _ hF; have hz : w.heap.size < w1.heap.size ∧ w.heap.size + 1 < w1.heap.size := by have hs := Own.size (Fr.own hF); omega)
  go_wp2_with fail
  (go_at_call 42; refine (are_one p f _ _ _ _ (by simp) ⟨by simp [go_sem], by simp [go_sem], by simp [go_sem]⟩).mono ?_; rintro e w1 ⟨rfl, hb1⟩; (try clear hq); (try clear hz); have hF : Fr 2 [(0, .cells #[.int .i64 (p.a), .int .i64 (p.b), .int .i64 (p.c), .int .i64 (p.d)] 23), (1, .cells #[.int .i64 (f.x), .int .i64 (f.y), .int .i64 (f.z)] 24)] [] w w1 := Fr.call (by (repeat (first | exact hF | exact (((Fr.nil w).fixed (by simp) (.cells #[.int .i64 (p.a), .int .i64 (p.b), .int .i64 (p.c), .int .i64 (p.d)] 23)).fixed (by simp) (.cells #[.int .i64 (f.x), .int .i64 (f.y), .int .i64 (f.z)] 24)) | exact And.left (by assumption) | refine Fr.set ?_ (by first | (simp; done) | (simp; omega)) (by first | (simp [List.lookup]; done) | (simp [Nat.add_assoc, List.lookup]; done)) _ | refine Fr.drew ?_ | refine Fr.alloc ?_ _))) hb1; have hq := HE.out _ hF; have hz : w.heap.size < w1.heap.size ∧ w.heap.size + 1 < w1.heap.size := by have hs := Own.size (Fr.own hF); omega)
  go_wp2_with fail
  (go_at_call 42; refine (HA.out _ hF.own.below _).mono ?_; rintro e w1 ⟨rfl, hb1⟩; (try clear hq); (try clear hz); have hF : Fr 2 [(0, .cells #[.int .i64 (p.a), .int .i64 (p.b), .int .i64 (p.c), .int .i64 (p.d)] 23), (1, .cells #[.int .i64 (f.x), .int .i64 (f.y), .int .i64 (f.z)] 24)] [] w w1 := Fr.call (by (repeat (first | exact hF | exact (((Fr.nil w).fixed (by simp) (.cells #[.int .i64 (p.a), .int .i64 (p.b), .int .i64 (p.c), .int .i64 (p.d)] 23)).fixed (by simp) (.cells #[.int .i64 (f.x), .int .i64 (f.y), .int .i64 (f.z)] 24)) | exact And.left (by assumption) | refine Fr.set ?_ (by first | (simp; done) | (simp; omega)) (by first | (simp [List.lookup]; done) | (simp [Nat.add_assoc, List.lookup]; done)) _ | refine Fr.drew ?_ | refine Fr.alloc ?_ _))) hb1; have hq := HE.out _ hF; have hz : w.heap.size < w1.heap.size ∧ w.heap.size + 1 < w1.heap.size := by have hs := Own.size (Fr.own hF); omega)
  go_wp2
  go_ret2
  refine ⟨by rw [HV.out, HE1.out]; rfl, ?_⟩
  refine Own.below (Fr.own (k := 2) (fx := [(0, .cells #[.int .i64 (p.a), .int .i64 (p.b), .int .i64 (p.c), .int .i64 (p.d)] 23), (1, .cells #[.int .i64 (f.x), .int .i64 (f.y), .int .i64 (f.z)] 24)]) (rm := []) ?_); (repeat (first | exact hF | exact And.left (by assumption) | refine Fr.set ?_ (by first | (simp; done) | (simp; omega)) (by first | (simp [List.lookup]; done) | (simp [Nat.add_assoc, List.lookup]; done)) _ | refine Fr.drew ?_ | refine Fr.alloc ?_ _))

/-- The cells of a row of directions. -/
def flat3 (l : List T3) : List Value := l.flatMap fun q => [.int .i64 q.x, .int .i64 q.y, .int .i64 q.z]
theorem flat3_snoc (l : List T3) (q : T3) : flat3 (l ++ [q]) = flat3 l ++ [.int .i64 q.x, .int .i64 q.y, .int .i64 q.z] := by simp [flat3]
theorem flat3_len (l : List T3) : (flat3 l).length = l.length * 3 := by
  induction l with
  | nil => rfl
  | cons x xs ih => simp [flat3] at ih ⊢; omega
theorem flat3_get (l : List T3) : ∀ (k : Nat) (q : T3), l[k]? = some q → ∀ j, j < 3 → (flat3 l)[k * 3 + j]? = [Value.int .i64 q.x, .int .i64 q.y, .int .i64 q.z][j]? := by
  induction l with
  | nil => intro k q h; simp at h
  | cons x xs ih =>
    intro k q h j hj
    have e : flat3 (x :: xs) = [.int .i64 x.x, .int .i64 x.y, .int .i64 x.z] ++ flat3 xs := by simp [flat3]
    rw [e]
    cases k with
    | zero =>
      simp at h; subst h
      rw [List.getElem?_append_left (by simp; omega)]; simp
    | succ k =>
      simp at h
      rw [List.getElem?_append_right (by simp; omega), show (k + 1) * 3 + j - [Value.int .i64 x.x, .int .i64 x.y, .int .i64 x.z].length = k * 3 + j by simp; omega]
      exact ih k q h j hj
theorem own_row3 {W : World} {base n : Nat} {v : Value} {l : List T3} (h : W.ownsRow base 66 3 v n (flat3 l)) (hn : 0 < n) :
    ∃ g cap, v = .slice (some ⟨g, 0, none⟩) n cap ∧ g < W.heap.size ∧ Sl3 W g 0 l := by
  rcases h.2 with ⟨_, hh⟩ | ⟨g, cap, cur, rfl, hb, hgg, h1, h2, _, _⟩
  · omega
  · have hc := h.cells (g := g) rfl
    refine ⟨g, cap, rfl, (Array.getElem?_eq_some_iff.1 hgg).1, fun k q hk => ?_⟩
    have f := flat3_get l k q hk
    have ad : ∀ j, (⟨g, 0, none⟩ : Addr).add j = ⟨g, j, none⟩ := fun j => by unfold Addr.add; split <;> simp_all
    have e : ∀ j v, j < 3 → [Value.int .i64 q.x, .int .i64 q.y, .int .i64 q.z][j]? = some v → W.cell? ⟨g, 0 + k * 3 + j, none⟩ = some v := fun j v hj hv => by
      have := hc (k * 3 + j) v ((f j hj).trans hv)
      rw [ad] at this
      rw [Nat.zero_add]; exact this
    exact ⟨e 0 _ (by omega) rfl, e 1 _ (by omega) rfl, e 2 _ (by omega) rfl⟩
theorem Fr.grown {k : Nat} {fx : List (Nat × Obj)} {rm : List (Nat × Nat)} {w W W1 : World} {row : Option Nat} (h : Fr k fx rm w W) (hg : W.grownBy W1 row) (hr : ∀ b, row = some b → w.heap.size + k ≤ b) : Fr k fx rm w W1 := by
  have hs := h.own.1
  have hbk : ∀ b, b < w.heap.size + k → W1.heap[b]? = W.heap[b]? := fun b hb => hg.block b (by omega) (fun e => by have := hr b e.symm; omega)
  refine ⟨⟨Nat.le_trans hs hg.size, ⟨hg.os.trans h.own.2.os, hg.tape.trans h.own.2.tape, hg.output.trans h.own.2.output, Nat.le_trans h.own.2.size hg.size, fun b hb => (hbk b (by omega)).trans (h.own.2.block b hb)⟩⟩, fun i o hi => ⟨(h.fix i o hi).1, by have := (h.fix i o hi).1; rw [hbk _ (by omega)]; exact (h.fix i o hi).2⟩, fun i n hi => ⟨(h.room i n hi).1, ?_⟩⟩
  have := (h.room i n hi).1
  obtain ⟨c, t, h1, h2⟩ := (h.room i n hi).2
  exact ⟨c, t, h1, by rw [hbk _ (by omega)]; exact h2⟩
theorem own_block {W : World} {base size n : Nat} {e : TypeId} {v : Value} {xs : List Value} (h : W.ownsRow base e size v n xs) : ∀ b, v.ownBlock = some b → base ≤ b := by
  intro b hb
  rcases h.2 with ⟨rfl, _⟩ | ⟨g, cap, cur, rfl, hbb, _⟩
  · simp [Value.ownBlock] at hb
  · simp [Value.ownBlock] at hb; omega
theorem cell_three_new (W : World) (x : T3) (t : TypeId) : ∀ j u, [Value.int .i64 x.x, .int .i64 x.y, .int .i64 x.z][j]? = some u → (W.alloc (.cells #[.int .i64 x.x, .int .i64 x.y, .int .i64 x.z] t)).cell? ((⟨W.heap.size, 0, none⟩ : Addr).add j) = some u := by
  have e := World.alloc_heap_new W (.cells #[.int .i64 x.x, .int .i64 x.y, .int .i64 x.z] t)
  generalize W.alloc (.cells #[.int .i64 x.x, .int .i64 x.y, .int .i64 x.z] t) = W' at e ⊢
  generalize W.heap.size = B at e ⊢
  intro j u hu
  match j, hu with
  | 0, hu | 1, hu | 2, hu =>
    simp at hu; subst hu
    simp [World.cell?, e, Addr.add]
theorem info66v : (Tryz.prog.info? 66).map (fun i => (i.zero, i.size, i.bytes)) = some (some (.agg #[.int .i64 0, .int .i64 0, .int .i64 0]), 3, 24) := by kernel_rfl

set_option maxRecDepth 100000 in
set_option maxHeartbeats 2000000 in
theorem clk_ok (p : Q4) (f : T3) (l : List T3) (b o vc : Nat) (w : World) (ip : p.I64) (h1 : p.plane = true) (h0 : 0 < l.length) (hl : l.length ≤ 1000) (h2 : areB p [f] = true) (h3 : areB p l = true) (hB : b < w.heap.size) (hc : Sl3 w b o l) :
    Calls Tryz.prog 18 #[.agg #[.int .i64 (p.a), .int .i64 (p.b), .int .i64 (p.c), .int .i64 (p.d)], .agg #[.int .i64 (f.x), .int .i64 (f.y), .int .i64 (f.z)], .slice (some ⟨b, o, none⟩) l.length vc] w fun e w' => e = .returned (.tuple #[.int .i64 (clkV p f l), .int .i64 (clkE p f l)]) ∧ Below w.heap.size w w' := by
  have HV : Hid (clkV p f l = (cwN ⟨p.a, p.b, p.c⟩ f l l.length : Nat)) := by unfold Hid; rw [clkV_eq, h1, h2, if_neg (by simp), if_neg (by omega), if_neg (by simp), h3, if_neg (by simp)]
  have HE1 : Hid (clkE p f l = 0) := by unfold Hid; rw [clkE_eq, h1, h2, if_neg (by simp), if_neg (by omega), if_neg (by simp), h3, if_neg (by simp)]
  have hl6 : l.length ≤ 1000000 := by omega
  have HA : Hid (∀ W : World, Below w.heap.size w W → ∀ c, Calls Tryz.prog 42 #[.agg #[.int .i64 (p.a), .int .i64 (p.b), .int .i64 (p.c), .int .i64 (p.d)], .slice (some ⟨b, o, none⟩) l.length c] W fun e w' => e = .returned (.bool (areB p l)) ∧ Below W.heap.size W w') := fun W hb c => are_any p l b o c W hl6 (Nat.lt_of_lt_of_le hB hb.size) (hc.below hb hB)
  have HC := Lib.hid hc
  clear hc
  obtain ⟨i0, hi, hz0, hz1, hz2⟩ := info_parts info66v
  obtain ⟨n, hn⟩ : ∃ n, n = l.length := ⟨_, rfl⟩
  have HN := Lib.hid hn
  rw [← hn] at h0 hl HA hl6 ⊢
  clear hn
  have hzn : ((n : Int) == 0) = false := by simp; omega
  have hzz2 : ¬ (n : Int) = 0 := by omega
  have hz3 : ¬ (1000 : Int) < (n : Int) := by omega
  go_enter Tryz.func18, Tryz.ntmps18
  have hE : ∀ W, Fr 2 [(0, .cells #[.int .i64 (p.a), .int .i64 (p.b), .int .i64 (p.c), .int .i64 (p.d)] 23), (1, .cells #[.int .i64 (f.x), .int .i64 (f.y), .int .i64 (f.z)] 24)] [] w W → (W.cell? ⟨w.heap.size, 0, none⟩ = some (.int .i64 (p.a)) ∧ W.cell? ⟨w.heap.size, 1, none⟩ = some (.int .i64 (p.b)) ∧ W.cell? ⟨w.heap.size, 2, none⟩ = some (.int .i64 (p.c)) ∧ W.cell? ⟨w.heap.size, 3, none⟩ = some (.int .i64 (p.d)) ∧ W.cell? ⟨w.heap.size + 1, 0, none⟩ = some (.int .i64 (f.x)) ∧ W.cell? ⟨w.heap.size + 1, 1, none⟩ = some (.int .i64 (f.y)) ∧ W.cell? ⟨w.heap.size + 1, 2, none⟩ = some (.int .i64 (f.z))) := fun W h => by (repeat' apply And.intro) <;> first | exact h.at0 rfl | exact h.at rfl | exact (h.rms0 rfl).cell | exact (h.rms rfl).cell | exact (h.rms0 rfl).frozen | exact (h.rms rfl).frozen
  have HE := Lib.hid hE
  clear hE
  go_wp2_with fail
  (go_at_call 41; refine (isPlaneQ_any p _ ip).mono ?_; rintro e w1 ⟨rfl, hb1⟩; (try clear hq); (try clear hz); have hF : Fr 2 [(0, .cells #[.int .i64 (p.a), .int .i64 (p.b), .int .i64 (p.c), .int .i64 (p.d)] 23), (1, .cells #[.int .i64 (f.x), .int .i64 (f.y), .int .i64 (f.z)] 24)] [] w w1 := Fr.call (by (repeat (first | exact hF | exact (((Fr.nil w).fixed (by simp) (.cells #[.int .i64 (p.a), .int .i64 (p.b), .int .i64 (p.c), .int .i64 (p.d)] 23)).fixed (by simp) (.cells #[.int .i64 (f.x), .int .i64 (f.y), .int .i64 (f.z)] 24)) | exact And.left (by assumption) | refine Fr.set ?_ (by first | (simp; done) | (simp; omega)) (by first | (simp [List.lookup]; done) | (simp [Nat.add_assoc, List.lookup]; done)) _ | refine Fr.drew ?_ | refine Fr.alloc ?_ _))) hb1; have hq := HE.out _ hF; have hz : w.heap.size < w1.heap.size ∧ w.heap.size + 1 < w1.heap.size := by have hs := Own.size (Fr.own hF); omega)
  go_wp2_with fail
  (go_at_call 42; refine (are_one p f _ _ _ _ (by simp) ⟨by simp [go_sem], by simp [go_sem], by simp [go_sem]⟩).mono ?_; rintro e w1 ⟨rfl, hb1⟩; (try clear hq); (try clear hz); have hF : Fr 2 [(0, .cells #[.int .i64 (p.a), .int .i64 (p.b), .int .i64 (p.c), .int .i64 (p.d)] 23), (1, .cells #[.int .i64 (f.x), .int .i64 (f.y), .int .i64 (f.z)] 24)] [] w w1 := Fr.call (by (repeat (first | exact hF | exact (((Fr.nil w).fixed (by simp) (.cells #[.int .i64 (p.a), .int .i64 (p.b), .int .i64 (p.c), .int .i64 (p.d)] 23)).fixed (by simp) (.cells #[.int .i64 (f.x), .int .i64 (f.y), .int .i64 (f.z)] 24)) | exact And.left (by assumption) | refine Fr.set ?_ (by first | (simp; done) | (simp; omega)) (by first | (simp [List.lookup]; done) | (simp [Nat.add_assoc, List.lookup]; done)) _ | refine Fr.drew ?_ | refine Fr.alloc ?_ _))) hb1; have hq := HE.out _ hF; have hz : w.heap.size < w1.heap.size ∧ w.heap.size + 1 < w1.heap.size := by have hs := Own.size (Fr.own hF); omega)
  go_wp2_with fail
  (go_at_call 42; refine (HA.out _ hF.own.below _).mono ?_; rintro e w1 ⟨rfl, hb1⟩; (try clear hq); (try clear hz); have hF : Fr 2 [(0, .cells #[.int .i64 (p.a), .int .i64 (p.b), .int .i64 (p.c), .int .i64 (p.d)] 23), (1, .cells #[.int .i64 (f.x), .int .i64 (f.y), .int .i64 (f.z)] 24)] [] w w1 := Fr.call (by (repeat (first | exact hF | exact (((Fr.nil w).fixed (by simp) (.cells #[.int .i64 (p.a), .int .i64 (p.b), .int .i64 (p.c), .int .i64 (p.d)] 23)).fixed (by simp) (.cells #[.int .i64 (f.x), .int .i64 (f.y), .int .i64 (f.z)] 24)) | exact And.left (by assumption) | refine Fr.set ?_ (by first | (simp; done) | (simp; omega)) (by first | (simp [List.lookup]; done) | (simp [Nat.add_assoc, List.lookup]; done)) _ | refine Fr.drew ?_ | refine Fr.alloc ?_ _))) hb1; have hq := HE.out _ hF; have hz : w.heap.size < w1.heap.size ∧ w.heap.size + 1 < w1.heap.size := by have hs := Own.size (Fr.own hF); omega)
  clear hq
  have HF := Lib.hid hF
  go_wp2
  go_loopw [8, 37] (fun v8 v37 wr => ∃ k : Nat, k ≤ n ∧ v37 = .int .i64 k ∧ Fr 2 [(0, .cells #[.int .i64 (p.a), .int .i64 (p.b), .int .i64 (p.c), .int .i64 (p.d)] 23), (1, .cells #[.int .i64 (f.x), .int .i64 (f.y), .int .i64 (f.z)] 24)] [] w wr ∧ Hid (wr.ownsRow (w.heap.size + 2) 66 3 v8 k (flat3 (l.take k)))) (fun _ v _ => n - (intOf v).toNat)
  case atStart => exact ⟨0, by omega, rfl, HF.out, World.ownsRow_nil _ _ _ _⟩
  case round =>
    rename_i wr
    obtain ⟨k, hk, rfl, hF, HO⟩ := hrel
    by_cases hlt : k < n
    · obtain ⟨v, hv⟩ : ∃ v, l[k]? = some v := ⟨_, List.getElem?_eq_getElem (by have := HN.out; omega)⟩
      obtain ⟨c0, c1, c2⟩ := (HC.out k v hv).below hF.own.below hB
      have HVV := Lib.hid hv
      clear hv
      have hs2 : w.heap.size + 2 ≤ wr.heap.size := hF.own.1
      have hO := HO.out
      have hF2 := (hF.alloc (.cells #[.int .i64 v.x, .int .i64 v.y, .int .i64 v.z] 24)).alloc (.cells #[.int .i64 v.x, .int .i64 v.y, .int .i64 v.z] 66)
      have hO2 := (hO.alloc (.cells #[.int .i64 v.x, .int .i64 v.y, .int .i64 v.z] 24)).alloc (.cells #[.int .i64 v.x, .int .i64 v.y, .int .i64 v.z] 66)
      have HH := Lib.hid (And.intro hF2 hO2)
      clear hO hF2 hO2
      go_wp2_with (at_builtin; refine wpList_append_own _ rfl _ _ 79 rfl (w.heap.size + 2) 66 i0 (.agg #[.int .i64 0, .int .i64 0, .int .i64 0]) 3 24 Tryz.underlying79 hi hz0 hz1 hz2 rfl (by decide) _ _ _ rfl HH.out.2 ⟨wr.heap.size + 1, 0, none⟩ 1 1 [.int .i64 v.x, .int .i64 v.y, .int .i64 v.z] rfl rfl (by have h := cell_three_new (wr.alloc (.cells #[.int .i64 v.x, .int .i64 v.y, .int .i64 v.z] 24)) v 66; simpa using h) (by simp [Value.oneCell']) (by simp [maxLen]; omega) (by omega) (by simp; omega) ?_; intro v' w1 hown' hgrow _)
      obtain ⟨hF2, hO2⟩ := HH.out
      have hF3 := hF2.grown hgrow (fun b hb => own_block hO2 b hb)
      have hO3 : Hid (w1.ownsRow (w.heap.size + 2) 66 3 v' (k + 1) (flat3 (l.take (k + 1)))) := by
        obtain ⟨hk1, hk2⟩ := List.getElem?_eq_some_iff.1 HVV.out
        rw [List.take_succ_eq_append_getElem hk1, flat3_snoc, hk2]; exact hown'
      clear hF2 hO2 hown' hgrow
      go_roundw
      case rel => exact ⟨k + 1, by omega, by go_num, hF3, hO3⟩
      case measure => simp [intOf]; omega
    · have hkn : k = n := by omega
      have hn1 := HN.out
      have hO : wr.ownsRow (w.heap.size + 2) 66 3 _ k (flat3 (l.take k)) := HO.out
      rw [hkn, List.take_of_length_le (by omega)] at hO
      obtain ⟨g, cap, rfl, hg, hS⟩ := own_row3 hO h0
      have HS := Lib.hid hS
      have HO2 : Hid (∀ W, Below wr.heap.size wr W → ∀ c, Calls Tryz.prog 43 #[.agg #[.int .i64 (p.a), .int .i64 (p.b), .int .i64 (p.c)], .agg #[.int .i64 (f.x), .int .i64 (f.y), .int .i64 (f.z)], .slice (some ⟨g, 0, none⟩) n c] W fun e w' => e = .returned (.int .i64 (cwN ⟨p.a, p.b, p.c⟩ f l n : Nat)) ∧ Below W.heap.size W w') := fun W hb c => by
        rw [hn1]
        exact clockwise_sl ⟨p.a, p.b, p.c⟩ f l g 0 c W (by omega) (Nat.lt_of_lt_of_le hg hb.size) (HS.out.below hb hg)
      have HK := Lib.hid hkn
      have hq := HE.out _ hF
      have l1 : w.heap.size < wr.heap.size := by have := hF.own.1; omega
      have l2 : w.heap.size + 1 < wr.heap.size := by have := hF.own.1; omega
      have hwr := Lib.hid hF.own.below
      clear hO hS HO hkn hn1 HE HF
      go_wp2
      obtain ⟨p0, p1, p2, p3, f0, f1, f2⟩ := hq
      have hE : ∀ W, Fr 0 [] [] wr W → (W.cell? ⟨w.heap.size, 0, none⟩ = some (.int .i64 (p.a)) ∧ W.cell? ⟨w.heap.size, 1, none⟩ = some (.int .i64 (p.b)) ∧ W.cell? ⟨w.heap.size, 2, none⟩ = some (.int .i64 (p.c)) ∧ W.cell? ⟨w.heap.size, 3, none⟩ = some (.int .i64 (p.d)) ∧ W.cell? ⟨(w.heap.size+1), 0, none⟩ = some (.int .i64 (f.x)) ∧ W.cell? ⟨(w.heap.size+1), 1, none⟩ = some (.int .i64 (f.y)) ∧ W.cell? ⟨(w.heap.size+1), 2, none⟩ = some (.int .i64 (f.z))) := fun W h => by (repeat' apply And.intro) <;> first | exact h.at0 rfl | exact h.at rfl | exact (h.rms0 rfl).cell | exact (h.rms rfl).cell | exact (h.rms0 rfl).frozen | exact (h.rms rfl).frozen | exact (h.own.below.cell (p := ⟨w.heap.size, _, none⟩) l1).trans (by assumption) | exact (h.own.below.cell (p := ⟨(w.heap.size+1), _, none⟩) l2).trans (by assumption)
      have HE := Lib.hid hE
      clear hE
      have hF0 : Fr 0 [] [] wr wr := Fr.nil _
      clear p0 p1 p2 p3 f0 f1 f2 hF
      go_region_held3 (fun W => Fr 0 [] [] wr W ∧ W.cell? ⟨w.heap.size, 0, none⟩ = some (.int .i64 (p.a)) ∧ W.cell? ⟨w.heap.size, 1, none⟩ = some (.int .i64 (p.b)) ∧ W.cell? ⟨w.heap.size, 2, none⟩ = some (.int .i64 (p.c)) ∧ W.cell? ⟨w.heap.size, 3, none⟩ = some (.int .i64 (p.d)) ∧ W.cell? ⟨(w.heap.size+1), 0, none⟩ = some (.int .i64 (f.x)) ∧ W.cell? ⟨(w.heap.size+1), 1, none⟩ = some (.int .i64 (f.y)) ∧ W.cell? ⟨(w.heap.size+1), 2, none⟩ = some (.int .i64 (f.z))) ((first | exact hSK | assumption | (have hq := Fr.keep HE.out (by assumption) hb1; exact hq) | (have hq := Fr.both HE.out hF.drew; exact hq) | (have hq := Fr.both HE.out (Fr.nil wr).drew; exact hq) | (refine Fr.both HE.out ?_; (repeat (first | exact hF | exact And.left (by assumption) | refine Fr.set ?_ (by first | (simp; done) | (simp; omega)) (by first | (simp [List.lookup]; done) | (simp [Nat.add_assoc, List.lookup]; done)) _ | refine Fr.drew ?_ | refine Fr.alloc ?_ _))))) (first | (go_at_call 35; refine (normal_any _ _ _ _ _).mono ?_; rintro e w1 ⟨rfl, hb1⟩) | (go_at_call 43; obtain ⟨hFx, -⟩ : Fr 0 [] [] wr _ ∧ _ := (by assumption); refine (HO2.out _ hFx.own.below _).mono ?_; clear hFx; rintro e w1 ⟨rfl, hb1⟩))
      rename World => W2
      have hFG : Fr 0 [] [] wr W2 := And.left (by assumption)
      have HW := Lib.hid (hwr.out.trans (hFG.own.below.mono (by have := hwr.out.size; omega)))
      clear hF0 hFG
      go_wp2
      go_ret2
      refine ⟨?_, HW.out⟩
      rw [HV.out, HE1.out, HN.out]; rfl

/-- line.Clockwise of any directions. -/
theorem lineClockwise_sl (p : Q4) (f : T3) (l : List T3) (b o vc : Nat) (w : World) (ip : p.I64) (hl : l.length ≤ 1000000) (hB : b < w.heap.size) (hc : Sl3 w b o l) :
    Calls Tryz.prog 18 #[.agg #[.int .i64 (p.a), .int .i64 (p.b), .int .i64 (p.c), .int .i64 (p.d)], .agg #[.int .i64 (f.x), .int .i64 (f.y), .int .i64 (f.z)], .slice (some ⟨b, o, none⟩) l.length vc] w fun e w' => e = .returned (.tuple #[.int .i64 (clkV p f l), .int .i64 (clkE p f l)]) ∧ Below w.heap.size w w' := by
  cases h1 : p.plane with
  | false => exact clk_bad1 p f l _ w ip h1
  | true =>
    by_cases h2 : l.length = 0 ∨ 1000 < l.length
    · exact clk_bad2 p f l _ vc w ip h1 h2 hl
    · cases h3 : areB p [f] with
      | false => exact clk_bad3 p f l _ vc w ip h1 (by omega) (by omega) h3
      | true =>
        cases h4 : areB p l with
        | false => exact clk_bad4 p f l b o vc w ip h1 (by omega) (by omega) h3 h4 hB hc
        | true => exact clk_ok p f l b o vc w ip h1 (by omega) (by omega) h3 h4 hB hc

end Go.Proofs.YtaoedfegakpjeabGreat

namespace Go.Proofs.YtaoedfegakpjeabGreat
open Go.RowKit Go.Shelf Go.Sort

set_option maxRecDepth 100000 in
set_option maxHeartbeats 1000000 in
theorem points_same (l : List Q4) (ba oa ca bb ob cb : Nat) (w : World) (hl : l.length ≤ 1000000) (hA : ba < w.heap.size) (hB : bb < w.heap.size) (ha : Sl4 w ba oa l) (hb : Sl4 w bb ob l) :
    Calls Tryz.prog 40 #[.slice (some ⟨ba, oa, none⟩) l.length ca, .slice (some ⟨bb, ob, none⟩) l.length cb] w fun e w' => e = .returned (.bool true) ∧ Below w.heap.size w w' := by
  have HA := Lib.hid ha
  have HB := Lib.hid hb
  clear ha hb
  go_enter Tryz.func40, Tryz.ntmps40
  go_wp2
  go_loopw [5] (fun v wr => ∃ k : Nat, k ≤ l.length ∧ v = .int .i64 k ∧ Below w.heap.size w wr) (fun v _ => l.length - (intOf v).toNat)
  case atStart => exact ⟨0, by omega, rfl, Below.refl _ _⟩
  case round =>
    rename_i wr
    obtain ⟨k, hk, rfl, hw⟩ := hrel
    by_cases hlt : k < l.length
    · obtain ⟨q, hq⟩ : ∃ q, l[k]? = some q := ⟨_, List.getElem?_eq_getElem hlt⟩
      obtain ⟨a0, a1, a2, a3⟩ := (HA.out k q hq).below hw hA
      obtain ⟨b0, b1, b2, b3⟩ := (HB.out k q hq).below hw hB
      have hltz : (k : Int) < (l.length : Int) := by omega
      have hk0 : (0 : Int) ≤ (k : Int) := by omega
      have he := eq4B_refl q.a q.b q.c q.d
      clear hq
      go_wp2
      go_quiet (fail)
      go_wp2
      go_roundw
      case rel => exact ⟨k + 1, by omega, by go_num, below_drewN hw _⟩
      case measure => simp [intOf]; omega
    · go_wp2
      go_ret
      exact ⟨rfl, hw⟩

theorem Q4.plane_eq (q : Q4) : q.plane = isPlaneB q.a q.b q.c q.d := rfl

theorem awk_dir : opE ⟨0, 0, 1, 0⟩ ⟨1, 0, 0, 0⟩ [] [] = 0 := by
  simp only [opE_eq, allPl_eq, allPt_eq, Q4.dx, Q4.dy, Q4.dz, dirX, dirY, dirZ, dirG, gcd3_eq, crs_eq, List.all_cons, List.all_nil, Q4.plane_eq, isPlaneB_eq, gcd4_eq]
  decide +kernel
theorem awk_dx : (⟨0, 0, 1, 0⟩ : Q4).dx ⟨1, 0, 0, 0⟩ = 0 ∧ (⟨0, 0, 1, 0⟩ : Q4).dy ⟨1, 0, 0, 0⟩ = 1 ∧ (⟨0, 0, 1, 0⟩ : Q4).dz ⟨1, 0, 0, 0⟩ = 0 := by
  simp only [Q4.dx, Q4.dy, Q4.dz, dirX, dirY, dirZ, dirG, gcd3_eq, crs_eq]
  decide +kernel
theorem awk_left : opE ⟨0, 0, 1, 0⟩ ⟨1, 0, 0, 0⟩ [⟨1, 0, 0, 0⟩] [] = 0 ∧ leftV ⟨0, 0, 1, 0⟩ ⟨1, 0, 0, 0⟩ ⟨1, 0, 0, 0⟩ = -1 := by
  have h : opE ⟨0, 0, 1, 0⟩ ⟨1, 0, 0, 0⟩ [⟨1, 0, 0, 0⟩] [] = 0 := by
    simp only [opE_eq, allPl_eq, allPt_eq, Q4.dx, Q4.dy, Q4.dz, dirX, dirY, dirZ, dirG, gcd3_eq, crs_eq, List.all_cons, List.all_nil, Q4.plane_eq, isPlaneB_eq, gcd4_eq]
    decide +kernel
  refine ⟨h, ?_⟩
  obtain ⟨h1, h2, h3⟩ := awk_dx
  rw [leftV_eq, if_pos h]
  simp only [(opE_ok h).1, h1, h2, h3, crs_eq, dot_eq]
  decide +kernel
theorem awk_cross : opE ⟨0, 0, 1, 0⟩ ⟨1, 0, 0, 0⟩ [⟨0, 1, 0, -5⟩] [] = 0 ∧ crossV ⟨0, 0, 1, 0⟩ ⟨1, 0, 0, 0⟩ ⟨0, 1, 0, -5⟩ = 1 := by
  have h : opE ⟨0, 0, 1, 0⟩ ⟨1, 0, 0, 0⟩ [⟨0, 1, 0, -5⟩] [] = 0 := by
    simp only [opE_eq, allPl_eq, allPt_eq, Q4.dx, Q4.dy, Q4.dz, dirX, dirY, dirZ, dirG, gcd3_eq, crs_eq, List.all_cons, List.all_nil, Q4.plane_eq, isPlaneB_eq, gcd4_eq]
    decide +kernel
  refine ⟨h, ?_⟩
  obtain ⟨h1, h2, h3⟩ := awk_dx
  rw [crossV_eq, if_pos h]
  simp only [(opE_ok h).1, h1, h2, h3, dot_eq]
  decide +kernel
theorem awk_pl : (⟨0, 0, 1, 0⟩ : Q4).plane = true := by
  simp only [Q4.plane_eq, isPlaneB_eq, gcd4_eq]; decide +kernel
theorem awk_are (l : List T3) (h : l.all (fun v => !(eq3B v.x v.y v.z 0 0 0 || ([v.x, v.y, v.z].any (fun n => decide (n < -2000000) || decide (2000000 < n)) || wrap64 (wrap64 (wrap64 (0 * v.x) + wrap64 (0 * v.y)) + wrap64 (1 * v.z)) != 0))) = true) : areB ⟨0, 0, 1, 0⟩ l = true := by
  rw [areB_eq]
  simp only [Bool.not_eq_true', List.any_eq_false]
  intro v hv
  have := List.all_eq_true.1 h v hv
  rw [badV_eq, out3_eq, dot_eq]
  simp only [Bool.not_eq_true', outB_eq, List.any_cons, List.any_nil] at this ⊢
  rw [this]; simp
theorem awk_clk : clkE ⟨0, 0, 1, 0⟩ ⟨1, 0, 0⟩ [⟨0, 1, 0⟩, ⟨0, -1, 0⟩] = 0 ∧ clkV ⟨0, 0, 1, 0⟩ ⟨1, 0, 0⟩ [⟨0, 1, 0⟩, ⟨0, -1, 0⟩] = 1 := by
  have a1 := awk_are [⟨1, 0, 0⟩] (by decide +kernel)
  have a2 := awk_are [⟨0, 1, 0⟩, ⟨0, -1, 0⟩] (by decide +kernel)
  have a3 := awk_pl
  refine ⟨by rw [clkE_eq, a1, a2, a3]; decide, ?_⟩
  rw [clkV_eq, a1, a2, a3]
  simp [cwN, soonB_eq, ordI_eq, rankI_eq, angS_eq, angle, dot_eq, crs_eq, sgn, cmp3, wrap64]
theorem awk_ang : angE ⟨0, 0, 1, 0⟩ ⟨1, 0, 0⟩ ⟨0, 3, 0⟩ = 0 ∧ angV ⟨0, 0, 1, 0⟩ ⟨1, 0, 0⟩ ⟨0, 3, 0⟩ = 1 := by
  have a1 := awk_are [⟨1, 0, 0⟩, ⟨0, 3, 0⟩] (by decide +kernel)
  have a3 := awk_pl
  refine ⟨by rw [angE_eq, a1, a3]; decide, ?_⟩
  rw [angV_eq, a1, a3]
  simp [angT_eq, angle, dot_eq, crs_eq, sgn, cmp3, wrap64]
theorem awk_pts : opE ⟨0, 0, 1, 0⟩ ⟨1, 0, 0, 0⟩ [⟨0, 1, 0, -5⟩, ⟨1, 1, 0, 0⟩, ⟨0, 1, 0, -5⟩, ⟨2, 0, 0, 1⟩] [] = 0 := by
  simp only [opE_eq, allPl_eq, allPt_eq, Q4.dx, Q4.dy, Q4.dz, dirX, dirY, dirZ, dirG, gcd3_eq, crs_eq, List.all_cons, List.all_nil, Q4.plane_eq, isPlaneB_eq, gcd4_eq]
  decide +kernel

theorem awk_m1 : meB ⟨0, 0, 1, 0⟩ ⟨1, 0, 0, 0⟩ ⟨0, 1, 0, -5⟩ = true ∧ meX ⟨0, 0, 1, 0⟩ ⟨1, 0, 0, 0⟩ ⟨0, 1, 0, -5⟩ = ⟨0, 5, 0, 1⟩ := by
  have h : meB ⟨0, 0, 1, 0⟩ ⟨1, 0, 0, 0⟩ ⟨0, 1, 0, -5⟩ = true := by
    simp only [meB_eq, det_eq, crs_eq, dot_eq]; decide +kernel
  refine ⟨h, ?_⟩
  rw [meX_hit h]
  simp only [Q4.low, rawPt, quoI_eq, lowG_eq, gcd4_eq, neg3_eq, crs_eq, dot_eq, Q4.mk.injEq]
  decide +kernel
theorem awk_m2 : meB ⟨0, 0, 1, 0⟩ ⟨1, 0, 0, 0⟩ ⟨1, 1, 0, 0⟩ = true ∧ meX ⟨0, 0, 1, 0⟩ ⟨1, 0, 0, 0⟩ ⟨1, 1, 0, 0⟩ = ⟨0, 0, 0, 1⟩ := by
  have h : meB ⟨0, 0, 1, 0⟩ ⟨1, 0, 0, 0⟩ ⟨1, 1, 0, 0⟩ = true := by
    simp only [meB_eq, det_eq, crs_eq, dot_eq]; decide +kernel
  refine ⟨h, ?_⟩
  rw [meX_hit h]
  simp only [Q4.low, rawPt, quoI_eq, lowG_eq, gcd4_eq, neg3_eq, crs_eq, dot_eq, Q4.mk.injEq]
  decide +kernel
theorem awk_m3 : meB ⟨0, 0, 1, 0⟩ ⟨1, 0, 0, 0⟩ ⟨2, 0, 0, 1⟩ = false := by
  simp only [meB_eq, det_eq, crs_eq, dot_eq]; decide +kernel
theorem awk_lt (a b : Q4) (h : (if eq4B b.a b.b b.c b.d a.a a.b a.c a.d = true then (0 : Int) else (if cmp3 (a.a * b.d) (b.a * a.d) != 0 then cmp3 (a.a * b.d) (b.a * a.d) else if cmp3 (a.b * b.d) (b.b * a.d) != 0 then cmp3 (a.b * b.d) (b.b * a.d) else cmp3 (a.c * b.d) (b.c * a.d))) < 0) : ptLt 0 1 0 a b = true := by
  have e : fwdB 0 1 0 = true := by rw [fwdB_eq]; decide
  unfold ptLt
  rw [vlB_eq, alongI_eq, e, if_pos rfl, cmpPt_eq]
  simp only [cmpP_eq]
  exact decide_eq_true h
theorem awk_ge (a b : Q4) (h : ¬ (if eq4B b.a b.b b.c b.d a.a a.b a.c a.d = true then (0 : Int) else (if cmp3 (a.a * b.d) (b.a * a.d) != 0 then cmp3 (a.a * b.d) (b.a * a.d) else if cmp3 (a.b * b.d) (b.b * a.d) != 0 then cmp3 (a.b * b.d) (b.b * a.d) else cmp3 (a.c * b.d) (b.c * a.d))) < 0) : ptLt 0 1 0 a b = false := by
  have e : fwdB 0 1 0 = true := by rw [fwdB_eq]; decide
  unfold ptLt
  rw [vlB_eq, alongI_eq, e, if_pos rfl, cmpPt_eq]
  simp only [cmpP_eq]
  exact decide_eq_false h
theorem awk_list : ptsL ⟨0, 0, 1, 0⟩ ⟨1, 0, 0, 0⟩ [⟨0, 1, 0, -5⟩, ⟨1, 1, 0, 0⟩, ⟨0, 1, 0, -5⟩, ⟨2, 0, 0, 1⟩] = [⟨0, 0, 0, 1⟩, ⟨0, 5, 0, 1⟩] := by
  unfold ptsL
  rw [if_pos awk_pts]
  obtain ⟨d1, d2, d3⟩ := awk_dx
  have hm : mets ⟨0, 0, 1, 0⟩ ⟨1, 0, 0, 0⟩ [⟨0, 1, 0, -5⟩, ⟨1, 1, 0, 0⟩, ⟨0, 1, 0, -5⟩, ⟨2, 0, 0, 1⟩] = [⟨0, 5, 0, 1⟩, ⟨0, 0, 0, 1⟩, ⟨0, 5, 0, 1⟩] := by
    unfold mets
    simp [awk_m1.1, awk_m2.1, awk_m3, awk_m1.2, awk_m2.2]
  have l1 : ptLt 0 1 0 ⟨0, 0, 0, 1⟩ ⟨0, 5, 0, 1⟩ = true := awk_lt _ _ (by decide)
  have l2 : ptLt 0 1 0 ⟨0, 5, 0, 1⟩ ⟨0, 5, 0, 1⟩ = false := awk_ge _ _ (by decide)
  rw [hm, d1, d2, d3]
  unfold insertionSort
  rw [insOuter.eq_def, insOuter.eq_def, insOuter.eq_def]
  simp [insInner, swp, l1, l2]
  simp [cmpct, Q4.eqB, eq4B]

theorem awk_i1 : (⟨0, 0, 1, 0⟩ : Q4).I64 := ⟨⟨by decide, by decide⟩, ⟨by decide, by decide⟩, ⟨by decide, by decide⟩, ⟨by decide, by decide⟩⟩
theorem awk_i2 : (⟨1, 0, 0, 0⟩ : Q4).I64 := ⟨⟨by decide, by decide⟩, ⟨by decide, by decide⟩, ⟨by decide, by decide⟩, ⟨by decide, by decide⟩⟩
theorem awk_i3 : (⟨0, 1, 0, -5⟩ : Q4).I64 := ⟨⟨by decide, by decide⟩, ⟨by decide, by decide⟩, ⟨by decide, by decide⟩, ⟨by decide, by decide⟩⟩
theorem awk_i4 : ∀ q : Q4, q ∈ [(⟨0, 1, 0, -5⟩ : Q4), ⟨1, 1, 0, 0⟩, ⟨0, 1, 0, -5⟩, ⟨2, 0, 0, 1⟩] → q.I64 := by
  intro q hq
  simp at hq
  rcases hq with rfl | rfl | rfl | rfl <;> exact ⟨⟨by decide, by decide⟩, ⟨by decide, by decide⟩, ⟨by decide, by decide⟩, ⟨by decide, by decide⟩⟩
theorem awake_direction (w : World) : Calls Tryz.prog 7 #[.agg #[.int .i64 0, .int .i64 0, .int .i64 1, .int .i64 0], .agg #[.int .i64 1, .int .i64 0, .int .i64 0, .int .i64 0]] w fun e w' => e = .returned (.tuple #[.agg #[.int .i64 0, .int .i64 1, .int .i64 0], .int .i64 0]) ∧ Below w.heap.size w w' := by
  have h := lineDirection_any ⟨0, 0, 1, 0⟩ ⟨1, 0, 0, 0⟩ w awk_i1 awk_i2
  have ho := awk_dir
  obtain ⟨d1, d2, d3⟩ := awk_dx
  rw [ho, (opE_ok ho).1, (opE_ok ho).1, (opE_ok ho).1, d1, d2, d3] at h
  exact h
theorem awake_left (w : World) : Calls Tryz.prog 9 #[.agg #[.int .i64 0, .int .i64 0, .int .i64 1, .int .i64 0], .agg #[.int .i64 1, .int .i64 0, .int .i64 0, .int .i64 0], .agg #[.int .i64 1, .int .i64 0, .int .i64 0, .int .i64 0]] w fun e w' => e = .returned (.tuple #[.int .i64 (-1), .int .i64 0]) ∧ Below w.heap.size w w' := by
  have h := left_any ⟨0, 0, 1, 0⟩ ⟨1, 0, 0, 0⟩ ⟨1, 0, 0, 0⟩ w awk_i1 awk_i2 awk_i2
  rw [awk_left.1, awk_left.2] at h
  exact h
theorem awake_crosses (w : World) : Calls Tryz.prog 8 #[.agg #[.int .i64 0, .int .i64 0, .int .i64 1, .int .i64 0], .agg #[.int .i64 1, .int .i64 0, .int .i64 0, .int .i64 0], .agg #[.int .i64 0, .int .i64 1, .int .i64 0, .int .i64 (-5)]] w fun e w' => e = .returned (.tuple #[.int .i64 1, .int .i64 0]) ∧ Below w.heap.size w w' := by
  have h := crosses_any ⟨0, 0, 1, 0⟩ ⟨1, 0, 0, 0⟩ ⟨0, 1, 0, -5⟩ w awk_i1 awk_i2 awk_i3
  rw [awk_cross.1, awk_cross.2] at h
  exact h
theorem awake_clockwise (b cap : Nat) (w : World) (hB : b < w.heap.size) (h0 : At3 w b 0 ⟨0, 1, 0⟩) (h1 : At3 w b 3 ⟨0, -1, 0⟩) : Calls Tryz.prog 18 #[.agg #[.int .i64 0, .int .i64 0, .int .i64 1, .int .i64 0], .agg #[.int .i64 1, .int .i64 0, .int .i64 0], .slice (some ⟨b, 0, none⟩) 2 cap] w fun e w' => e = .returned (.tuple #[.int .i64 1, .int .i64 0]) ∧ Below w.heap.size w w' := by
  have h := lineClockwise_sl ⟨0, 0, 1, 0⟩ ⟨1, 0, 0⟩ [⟨0, 1, 0⟩, ⟨0, -1, 0⟩] b 0 cap w awk_i1 (by simp) hB (sl3_two h0 h1)
  rw [awk_clk.1, awk_clk.2] at h
  exact h
theorem awake_angle (w : World) : Calls Tryz.prog 32 #[.agg #[.int .i64 0, .int .i64 0, .int .i64 1, .int .i64 0], .agg #[.int .i64 1, .int .i64 0, .int .i64 0], .agg #[.int .i64 0, .int .i64 3, .int .i64 0]] w fun e w' => e = .returned (.tuple #[.int .i64 1, .int .i64 0]) ∧ Below w.heap.size w w' := by
  have h := lineAngle_any ⟨0, 0, 1, 0⟩ ⟨1, 0, 0⟩ ⟨0, 3, 0⟩ w awk_i1
  rw [awk_ang.1, awk_ang.2] at h
  exact h
theorem sl4_four {W : World} {b o : Nat} {p q r s : Q4} (h0 : At4 W b o p) (h1 : At4 W b (o + 4) q) (h2 : At4 W b (o + 8) r) (h3 : At4 W b (o + 12) s) : Sl4 W b o [p, q, r, s] := fun i x hr => by
  match i, hr with
  | 0, hr => simp at hr; subst hr; simpa using h0
  | 1, hr => simp at hr; subst hr; simpa using h1
  | 2, hr => simp at hr; subst hr; simpa using h2
  | 3, hr => simp at hr; subst hr; simpa using h3
theorem awake_points (b cap : Nat) (w : World) (hB : b < w.heap.size) (h0 : At4 w b 0 ⟨0, 1, 0, -5⟩) (h1 : At4 w b 4 ⟨1, 1, 0, 0⟩) (h2 : At4 w b 8 ⟨0, 1, 0, -5⟩) (h3 : At4 w b 12 ⟨2, 0, 0, 1⟩) :
    Calls Tryz.prog 30 #[.agg #[.int .i64 0, .int .i64 0, .int .i64 1, .int .i64 0], .agg #[.int .i64 1, .int .i64 0, .int .i64 0, .int .i64 0], .slice (some ⟨b, 0, none⟩) 4 cap] w fun e w' => ∃ g o c, e = .returned (.tuple #[.slice (some ⟨g, o, none⟩) 2 c, .int .i64 0]) ∧ g < w'.heap.size ∧ Sl4 w' g o [⟨0, 0, 0, 1⟩, ⟨0, 5, 0, 1⟩] ∧ Below w.heap.size w w' := by
  refine (linePoints_any ⟨0, 0, 1, 0⟩ ⟨1, 0, 0, 0⟩ [⟨0, 1, 0, -5⟩, ⟨1, 1, 0, 0⟩, ⟨0, 1, 0, -5⟩, ⟨2, 0, 0, 1⟩] _ w awk_i1 awk_i2 (by simp) awk_i4 (SlV.mk rfl hB (sl4_four h0 h1 h2 h3))).mono ?_
  rintro e w' ⟨v, rfl, hv, hb⟩
  rw [awk_list] at hv
  rw [awk_pts]
  rcases hv with ⟨_, h⟩ | ⟨g, o, c, rfl, hg, hs⟩
  · cases h
  · exact ⟨g, o, c, rfl, hg, hs, hb⟩

theorem awake_same (ga oa ca gb ob cb : Nat) (w : World) (hA : ga < w.heap.size) (hB : gb < w.heap.size) (ha : Sl4 w ga oa [⟨0, 0, 0, 1⟩, ⟨0, 5, 0, 1⟩]) (h0 : At4 w gb ob ⟨0, 0, 0, 1⟩) (h1 : At4 w gb (ob + 4) ⟨0, 5, 0, 1⟩) :
    Calls Tryz.prog 40 #[.slice (some ⟨ga, oa, none⟩) 2 ca, .slice (some ⟨gb, ob, none⟩) 2 cb] w fun e w' => e = .returned (.bool true) ∧ Below w.heap.size w w' :=
  points_same [⟨0, 0, 0, 1⟩, ⟨0, 5, 0, 1⟩] ga oa ca gb ob cb w (by simp) hA hB ha (sl4_two h0 h1)

set_option maxRecDepth 100000 in
set_option maxHeartbeats 4000000 in
/-- What the program must do whatever the input is: it does. -/
theorem awake_any (w : World) : Calls Tryz.prog 17 #[] w fun e w' => e = .returned (.bool true) ∧ Below w.heap.size w w' := by
  go_enter Tryz.func17, Tryz.ntmps17
  have hE : ∀ W, Fr 2 [(0, .cells #[.int .i64 0, .int .i64 0, .int .i64 1, .int .i64 0] 23), (1, .cells #[.int .i64 1, .int .i64 0, .int .i64 0, .int .i64 0] 23)] [] w W → (W.cell? ⟨w.heap.size, 0, none⟩ = some (.int .i64 0) ∧ W.cell? ⟨w.heap.size, 1, none⟩ = some (.int .i64 0) ∧ W.cell? ⟨w.heap.size, 2, none⟩ = some (.int .i64 1) ∧ W.cell? ⟨w.heap.size, 3, none⟩ = some (.int .i64 0) ∧ W.cell? ⟨w.heap.size + 1, 0, none⟩ = some (.int .i64 1) ∧ W.cell? ⟨w.heap.size + 1, 1, none⟩ = some (.int .i64 0) ∧ W.cell? ⟨w.heap.size + 1, 2, none⟩ = some (.int .i64 0) ∧ W.cell? ⟨w.heap.size + 1, 3, none⟩ = some (.int .i64 0)) := fun W h => by (repeat' apply And.intro) <;> first | exact h.at0 rfl | exact h.at rfl | exact (h.rms0 rfl).cell | exact (h.rms rfl).cell | exact (h.rms0 rfl).frozen | exact (h.rms rfl).frozen
  have HE := Lib.hid hE
  clear hE
  go_wp2_with fail
  (go_at_call 7; refine (awake_direction _).mono ?_; rintro e w1 ⟨rfl, hb1⟩; (try clear hq); (try clear hz); have hF : Fr 2 [(0, .cells #[.int .i64 0, .int .i64 0, .int .i64 1, .int .i64 0] 23), (1, .cells #[.int .i64 1, .int .i64 0, .int .i64 0, .int .i64 0] 23)] [] w w1 := Fr.call (by (repeat (first | exact hF | exact (((Fr.nil w).fixed (by simp) (.cells #[.int .i64 0, .int .i64 0, .int .i64 1, .int .i64 0] 23)).fixed (by simp) (.cells #[.int .i64 1, .int .i64 0, .int .i64 0, .int .i64 0] 23)) | exact And.left (by assumption) | refine Fr.set ?_ (by first | (simp; done) | (simp; omega)) (by first | (simp [List.lookup]; done) | (simp [Nat.add_assoc, List.lookup]; done)) _ | refine Fr.drew ?_ | refine Fr.alloc ?_ _))) hb1; have hq := HE.out _ hF; have hz : w.heap.size < w1.heap.size ∧ w.heap.size + 1 < w1.heap.size := by have hs := Own.size (Fr.own hF); omega)
  have hF := hF.alloc (.cells #[.int .i64 0, .int .i64 1, .int .i64 0] 24)
  have hD : Fr 1 [(0, .cells #[.int .i64 0, .int .i64 1, .int .i64 0] 24)] [] w1 (w1.alloc (.cells #[.int .i64 0, .int .i64 1, .int .i64 0] 24)) := (Fr.nil w1).fixed (by simp) _
  have HD : Hid (∀ W, Fr 1 [(0, .cells #[.int .i64 0, .int .i64 1, .int .i64 0] 24)] [] w1 W → W.cell? ⟨w1.heap.size, 0, none⟩ = some (.int .i64 0) ∧ W.cell? ⟨w1.heap.size, 1, none⟩ = some (.int .i64 1) ∧ W.cell? ⟨w1.heap.size, 2, none⟩ = some (.int .i64 0)) := fun W h => ⟨h.at0 rfl, h.at0 rfl, h.at0 rfl⟩
  have dq := HD.out _ hD
  go_wp2_with fail
  ((with_reducible refine (awake_left _).mono ?_); rintro e w2 ⟨rfl, hb⟩)
  have hF : Fr 2 [(0, .cells #[.int .i64 0, .int .i64 0, .int .i64 1, .int .i64 0] 23), (1, .cells #[.int .i64 1, .int .i64 0, .int .i64 0, .int .i64 0] 23)] [] w w2 := Fr.call (by (repeat (first | exact hF | exact hD | (with_reducible refine Fr.drew ?_) | (with_reducible refine Fr.alloc ?_ _)))) hb
  have hD : Fr 1 [(0, .cells #[.int .i64 0, .int .i64 1, .int .i64 0] 24)] [] w1 w2 := Fr.call (by (repeat (first | exact hF | exact hD | (with_reducible refine Fr.drew ?_) | (with_reducible refine Fr.alloc ?_ _)))) hb
  clear hq hz dq
  have hq := HE.out _ hF
  have dq := HD.out _ hD
  have hz : w.heap.size < w2.heap.size ∧ w.heap.size + 1 < w2.heap.size ∧ w1.heap.size < w2.heap.size := by have h1 := Own.size (Fr.own hF); have h2 := Own.size (Fr.own hD); omega
  go_wp2_with fail
  ((with_reducible refine (awake_crosses _).mono ?_); rintro e w3 ⟨rfl, hb⟩)
  have hF : Fr 2 [(0, .cells #[.int .i64 0, .int .i64 0, .int .i64 1, .int .i64 0] 23), (1, .cells #[.int .i64 1, .int .i64 0, .int .i64 0, .int .i64 0] 23)] [] w w3 := Fr.call (by (repeat (first | exact hF | exact hD | (with_reducible refine Fr.drew ?_) | (with_reducible refine Fr.alloc ?_ _)))) hb
  have hD : Fr 1 [(0, .cells #[.int .i64 0, .int .i64 1, .int .i64 0] 24)] [] w1 w3 := Fr.call (by (repeat (first | exact hF | exact hD | (with_reducible refine Fr.drew ?_) | (with_reducible refine Fr.alloc ?_ _)))) hb
  clear hq hz dq
  have hq := HE.out _ hF
  have dq := HD.out _ hD
  have hz : w.heap.size < w3.heap.size ∧ w.heap.size + 1 < w3.heap.size ∧ w1.heap.size < w3.heap.size := by have h1 := Own.size (Fr.own hF); have h2 := Own.size (Fr.own hD); omega
  go_wp2_with fail
  ((with_reducible refine (awake_clockwise _ _ _ ?_ ?_ ?_).mono ?_); (focus simp); (focus exact ⟨by simp [go_sem], by simp [go_sem], by simp [go_sem]⟩); (focus exact ⟨by simp [go_sem], by simp [go_sem], by simp [go_sem]⟩); rintro e w4 ⟨rfl, hb⟩)
  have hF : Fr 2 [(0, .cells #[.int .i64 0, .int .i64 0, .int .i64 1, .int .i64 0] 23), (1, .cells #[.int .i64 1, .int .i64 0, .int .i64 0, .int .i64 0] 23)] [] w w4 := Fr.call (by (repeat (first | exact hF | exact hD | (with_reducible refine Fr.drew ?_) | (with_reducible refine Fr.alloc ?_ _)))) hb
  have hD : Fr 1 [(0, .cells #[.int .i64 0, .int .i64 1, .int .i64 0] 24)] [] w1 w4 := Fr.call (by (repeat (first | exact hF | exact hD | (with_reducible refine Fr.drew ?_) | (with_reducible refine Fr.alloc ?_ _)))) hb
  clear hq hz dq
  have hq := HE.out _ hF
  have dq := HD.out _ hD
  have hz : w.heap.size < w4.heap.size ∧ w.heap.size + 1 < w4.heap.size ∧ w1.heap.size < w4.heap.size := by have h1 := Own.size (Fr.own hF); have h2 := Own.size (Fr.own hD); omega
  go_wp2_with fail
  ((with_reducible refine (awake_angle _).mono ?_); rintro e w5 ⟨rfl, hb⟩)
  have hF : Fr 2 [(0, .cells #[.int .i64 0, .int .i64 0, .int .i64 1, .int .i64 0] 23), (1, .cells #[.int .i64 1, .int .i64 0, .int .i64 0, .int .i64 0] 23)] [] w w5 := Fr.call (by (repeat (first | exact hF | exact hD | (with_reducible refine Fr.drew ?_) | (with_reducible refine Fr.alloc ?_ _)))) hb
  have hD : Fr 1 [(0, .cells #[.int .i64 0, .int .i64 1, .int .i64 0] 24)] [] w1 w5 := Fr.call (by (repeat (first | exact hF | exact hD | (with_reducible refine Fr.drew ?_) | (with_reducible refine Fr.alloc ?_ _)))) hb
  clear hq hz dq
  have hq := HE.out _ hF
  have dq := HD.out _ hD
  have hz : w.heap.size < w5.heap.size ∧ w.heap.size + 1 < w5.heap.size ∧ w1.heap.size < w5.heap.size := by have h1 := Own.size (Fr.own hF); have h2 := Own.size (Fr.own hD); omega
  go_wp2_with fail
  ((with_reducible refine (awake_points _ _ _ ?_ ?_ ?_ ?_ ?_).mono ?_); (focus simp); (focus exact ⟨by simp [go_sem], by simp [go_sem], by simp [go_sem], by simp [go_sem]⟩); (focus exact ⟨by simp [go_sem], by simp [go_sem], by simp [go_sem], by simp [go_sem]⟩); (focus exact ⟨by simp [go_sem], by simp [go_sem], by simp [go_sem], by simp [go_sem]⟩); (focus exact ⟨by simp [go_sem], by simp [go_sem], by simp [go_sem], by simp [go_sem]⟩); rintro e w6 ⟨g, o, c, rfl, hg, hs, hb⟩)
  have hF : Fr 2 [(0, .cells #[.int .i64 0, .int .i64 0, .int .i64 1, .int .i64 0] 23), (1, .cells #[.int .i64 1, .int .i64 0, .int .i64 0, .int .i64 0] 23)] [] w w6 := Fr.call (by (repeat (first | exact hF | exact hD | (with_reducible refine Fr.drew ?_) | (with_reducible refine Fr.alloc ?_ _)))) hb
  have hD : Fr 1 [(0, .cells #[.int .i64 0, .int .i64 1, .int .i64 0] 24)] [] w1 w6 := Fr.call (by (repeat (first | exact hF | exact hD | (with_reducible refine Fr.drew ?_) | (with_reducible refine Fr.alloc ?_ _)))) hb
  clear hq hz dq
  have hq := HE.out _ hF
  have dq := HD.out _ hD
  have hz : w.heap.size < w6.heap.size ∧ w.heap.size + 1 < w6.heap.size ∧ w1.heap.size < w6.heap.size := by have h1 := Own.size (Fr.own hF); have h2 := Own.size (Fr.own hD); omega
  have HS := Lib.hid (And.intro hg hs)
  clear hg hs
  have hf6 := hF.own
  clear hq hD HD HE hb
  go_wp2_with fail
  ((with_reducible refine (awake_same _ _ _ _ _ _ _ ?_ ?_ ?_ ?_ ?_).mono ?_); (focus (have := HS.out.1; simp; omega)); (focus simp); (focus exact HS.out.2.below ((Below.refl w6.heap.size w6).alloc (Nat.le_refl _) _) HS.out.1); (focus exact ⟨by simp [go_sem], by simp [go_sem], by simp [go_sem], by simp [go_sem]⟩); (focus exact ⟨by simp [go_sem], by simp [go_sem], by simp [go_sem], by simp [go_sem]⟩); rintro e w7 ⟨rfl, hb7⟩)
  go_wp2
  go_ret
  refine ⟨rfl, ?_⟩
  exact (hf6.below.alloc hf6.below.size _).trans (hb7.mono (by have := hf6.below.size; simp; omega))

end Go.Proofs.YtaoedfegakpjeabGreat
