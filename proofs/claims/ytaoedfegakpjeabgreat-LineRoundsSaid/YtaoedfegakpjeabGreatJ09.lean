/- Contracts of the functions that the statement reaches, and plain lemmas: part 9 of 25. -/
import Derived.Test.YtaoedfegakpjeabGreatJ08
import Derived.ProofKit
import Derived.Laws.IdiomArrays
import Derived.Test.YtaoedfegakpjeabGreatJ05
import Derived.Test.YtaoedfegakpjeabGreatJ06
import Derived.Laws.EntriesVeiled
import Derived.Deep.LoopGhost
import Derived.Test.YtaoedfegakpjeabGreatJ07

namespace Go.Proofs.YtaoedfegakpjeabGreat
open Go.RowKit

theorem NumV.shape {z : Int} {v : Value} {W : World} (h : NumV z v W) : ∃ b ad len, v = .agg #[.bool b, .slice ad len len] := by
  obtain ⟨ad, len, rfl, _⟩ := h.dig
  exact ⟨_, ad, len, rfl⟩
theorem sizeI_small {a : Int} (h1 : -1000000000 < a) (h2 : a < 1000000000) : sizeI a = (a.natAbs : Int) := by
  unfold sizeI
  split
  · rename_i h; unfold wrap64 at h; omega
  · split
    · rename_i h; unfold wrap64 at *; omega
    · rename_i h; unfold wrap64 at *; omega
theorem gcd2_small {a b : Int} (h1 : -1000000000 < a) (h2 : a < 1000000000) (h3 : -1000000000 < b) (h4 : b < 1000000000) : gcd2 a b = (Nat.gcd a.natAbs b.natAbs : Nat) := by
  rw [gcd2_eq, sizeI_small h1 h2, sizeI_small h3 h4]; simp

/-- Four numbers divided by their greatest common divisor are a right plane, if they are small. -/
theorem right_quo (x0 x1 x2 x3 q0 q1 q2 q3 : Int) (g : Nat) (hg : g = Nat.gcd (Nat.gcd x0.natAbs x1.natAbs) (Nat.gcd x2.natAbs x3.natAbs)) (hg0 : 0 < g) (e0 : x0 = g * q0) (e1 : x1 = g * q1) (e2 : x2 = g * q2) (e3 : x3 = g * q3)
    (h0 : x0.natAbs ≤ 1000) (h1 : x1.natAbs ≤ 1000) (h2 : x2.natAbs ≤ 1000) (h3 : x3.natAbs ≤ 1000) (hz : ¬ (x0 = 0 ∧ x1 = 0 ∧ x2 = 0)) : rightB q0 q1 q2 q3 = true := by
  have le : ∀ {x q : Int}, x = g * q → q.natAbs ≤ x.natAbs ∧ x.natAbs = g * q.natAbs := fun {x q} e => by
    have h : x.natAbs = g * q.natAbs := by rw [e, Int.natAbs_mul]; simp
    exact ⟨by rw [h]; exact Nat.le_mul_of_pos_left _ hg0, h⟩
  obtain ⟨l0, m0⟩ := le e0
  obtain ⟨l1, m1⟩ := le e1
  obtain ⟨l2, m2⟩ := le e2
  obtain ⟨l3, m3⟩ := le e3
  have hgg : Nat.gcd (Nat.gcd q0.natAbs q1.natAbs) (Nat.gcd q2.natAbs q3.natAbs) = 1 := by
    rw [m0, m1, m2, m3, Nat.gcd_mul_left, Nat.gcd_mul_left, Nat.gcd_mul_left] at hg
    exact Nat.eq_of_mul_eq_mul_left hg0 (by omega)
  have b1 : Nat.gcd q0.natAbs q1.natAbs < 1001 := gcd_lt (by omega) (by omega)
  have b2 : Nat.gcd q2.natAbs q3.natAbs < 1001 := gcd_lt (by omega) (by omega)
  have hz' : ¬ (q0 = 0 ∧ q1 = 0 ∧ q2 = 0) := fun h => hz ⟨by rw [e0, h.1]; simp, by rw [e1, h.2.1]; simp, by rw [e2, h.2.2]; simp⟩
  rw [rightB_eq, gcd2_small (a := q0) (by omega) (by omega) (by omega) (by omega), gcd2_small (a := q2) (by omega) (by omega) (by omega) (by omega), gcd2_small (by omega) (by omega) (by omega) (by omega)]
  simp only [Int.natAbs_natCast, hgg]
  rw [sizeI_small (by omega) (by omega), sizeI_small (by omega) (by omega), sizeI_small (by omega) (by omega), sizeI_small (by omega) (by omega)]
  simp
  refine ⟨by omega, by omega, by omega, by omega, by omega⟩

set_option maxRecDepth 100000 in
set_option maxHeartbeats 2000000 in
theorem make_q (x0 x1 x2 x3 q0 q1 q2 q3 : Int) (w : World)
    (b0 : -10000 < x0 ∧ x0 < 10000) (b1 : -10000 < x1 ∧ x1 < 10000) (b2 : -10000 < x2 ∧ x2 < 10000) (b3 : -10000 < x3 ∧ x3 < 10000) (hz : x0 ≠ 0 ∨ (x0 = 0 ∧ x1 ≠ 0) ∨ (x0 = 0 ∧ x1 = 0 ∧ x2 ≠ 0))
    (HR : Hid (∀ W n0 d0 n1 d1 n2 d2 n3 d3, NumV x0 (.agg #[n0, d0]) W → NumV x1 (.agg #[n1, d1]) W → NumV x2 (.agg #[n2, d2]) W → NumV x3 (.agg #[n3, d3]) W → Calls Tryz.prog 64 #[.agg #[n0, d0, n1, d1, n2, d2, n3, d3]] W fun e w' => e = .returned (.tuple #[.agg #[.int .i64 q0, .int .i64 q1, .int .i64 q2, .int .i64 q3], .bool true]) ∧ Below W.heap.size W w'))
    (HG : Hid (∀ W, Calls Tryz.prog 19 #[.agg #[.int .i64 q0, .int .i64 q1, .int .i64 q2, .int .i64 q3]] W fun e w' => e = .returned (.bool true) ∧ Below W.heap.size W w')) :
    Calls Tryz.prog 39 #[.int .i64 x0, .int .i64 x1, .int .i64 x2, .int .i64 x3] w fun e w' => e = .returned (.tuple #[.agg #[.int .i64 q0, .int .i64 q1, .int .i64 q2, .int .i64 q3], .int .i64 0]) ∧ Below w.heap.size w w' := by
  obtain ⟨l0, r0⟩ := b0
  obtain ⟨l1, r1⟩ := b1
  obtain ⟨l2, r2⟩ := b2
  obtain ⟨l3, r3⟩ := b3
  rcases hz with h | ⟨rfl, h⟩ | ⟨rfl, rfl, h⟩
  all_goals
    have hb := beq_eq_false_iff_ne.2 h
    clear h
    go_enter Tryz.func39, Tryz.ntmps39
    have hE : ∀ W, Fr 1 [(0, .cells #[.int .i64 0, .int .i64 0, .int .i64 0, .int .i64 0] 23)] [(0, 4)] w W → (W.cell? ⟨w.heap.size, 0, none⟩ = some (.int .i64 0) ∧ W.cell? ⟨w.heap.size, 1, none⟩ = some (.int .i64 0) ∧ W.cell? ⟨w.heap.size, 2, none⟩ = some (.int .i64 0) ∧ W.cell? ⟨w.heap.size, 3, none⟩ = some (.int .i64 0) ∧ (∀ o, o < 4 → W.frozen? ⟨w.heap.size, o, none⟩ = false)) := fun W h => by (repeat' apply And.intro) <;> first | exact h.at0 rfl | exact h.at rfl | exact (h.rms0 rfl).cell | exact (h.rms rfl).cell | exact (h.rms0 rfl).frozen | exact (h.rms rfl).frozen
    have HE := Lib.hid hE
    clear hE
    go_wp2_with fail
    ((with_reducible refine (from_any _ _ l0 r0).mono ?_); rintro e w1 ⟨⟨v0, rfl, hv0⟩, hb1⟩)
    have hF1 : Fr 1 [(0, .cells #[.int .i64 0, .int .i64 0, .int .i64 0, .int .i64 0] 23)] [(0, 4)] w w1 := Fr.call ((Fr.nil w).bothy (by simp) #[.int .i64 0, .int .i64 0, .int .i64 0, .int .i64 0] 23) hb1
    clear hb1
    go_wp2_with fail
    ((with_reducible refine (from_any _ _ l1 r1).mono ?_); rintro e w2 ⟨⟨v1, rfl, hv1⟩, hb2⟩)
    have hF2 := hF1.call hb2
    have hv0 := hv0.call hb2
    clear hF1 hb2
    go_wp2_with fail
    ((with_reducible refine (from_any _ _ l2 r2).mono ?_); rintro e w3 ⟨⟨v2, rfl, hv2⟩, hb3⟩)
    have hF3 := hF2.call hb3
    have hv0 := hv0.call hb3
    have hv1 := hv1.call hb3
    clear hF2 hb3
    go_wp2_with fail
    ((with_reducible refine (from_any _ _ l3 r3).mono ?_); rintro e w4 ⟨⟨v3, rfl, hv3⟩, hb4⟩)
    have hF4 := hF3.call hb4
    have hv0 := hv0.call hb4
    have hv1 := hv1.call hb4
    have hv2 := hv2.call hb4
    clear hF3 hb4
    obtain ⟨z0, a0, c0, rfl⟩ := hv0.shape
    obtain ⟨z1, a1, c1, rfl⟩ := hv1.shape
    obtain ⟨z2, a2, c2, rfl⟩ := hv2.shape
    obtain ⟨z3, a3, c3, rfl⟩ := hv3.shape
    have hv0 := Lib.hid hv0
    have hv1 := Lib.hid hv1
    have hv2 := Lib.hid hv2
    have hv3 := Lib.hid hv3
    go_wp2_with fail
    ((with_reducible refine (HR.out _ _ _ _ _ _ _ _ _ hv0.out hv1.out hv2.out hv3.out).mono ?_); rintro e w5 ⟨rfl, hb5⟩)
    have hF5 := hF4.call hb5
    clear hF4 hb5 hv0 hv1 hv2 hv3
    go_wp2_with fail
    ((with_reducible refine (HG.out _).mono ?_); rintro e w6 ⟨rfl, hb6⟩)
    have hF6 : Fr 1 [(0, .cells #[.int .i64 0, .int .i64 0, .int .i64 0, .int .i64 0] 23)] [(0, 4)] w w6 := (hF5.alloc _).call hb6
    have hq := HE.out _ hF6
    have hz : w.heap.size < w6.heap.size := by have hs := Own.size (Fr.own hF6); omega
    obtain ⟨hc6, hf6⟩ := bcell hb6
    go_wp2
    refine bodyPost_ret (v := .tuple #[.agg #[.int .i64 q0, .int .i64 q1, .int .i64 q2, .int .i64 q3], .int .i64 0]) ?_ rfl ⟨rfl, ?_⟩
    · simp [results, Tryz.results39, go_sem, hq]
    · have h := hF6.own.below
      exact (((h.setCell (by simp) _).setCell (by simp) _).setCell (by simp) _).setCell (by simp) _

/-- Make, of small numbers: a right plane. -/
theorem make_any (x0 x1 x2 x3 : Int) (w : World) (h0 : x0.natAbs ≤ 1000) (h1 : x1.natAbs ≤ 1000) (h2 : x2.natAbs ≤ 1000) (h3 : x3.natAbs ≤ 1000) (hz : ¬ (x0 = 0 ∧ x1 = 0 ∧ x2 = 0)) :
    Calls Tryz.prog 39 #[.int .i64 x0, .int .i64 x1, .int .i64 x2, .int .i64 x3] w fun e w' => (∃ q : Q4, rightB q.a q.b q.c q.d = true ∧ q.I64 ∧ e = .returned (.tuple #[.agg #[.int .i64 (q.a), .int .i64 (q.b), .int .i64 (q.c), .int .i64 (q.d)], .int .i64 0])) ∧ Below w.heap.size w w' := by
  obtain ⟨g, hg⟩ : ∃ g : Nat, g = Nat.gcd (Nat.gcd x0.natAbs x1.natAbs) (Nat.gcd x2.natAbs x3.natAbs) := ⟨_, rfl⟩
  have hd : g ∣ x0.natAbs ∧ g ∣ x1.natAbs ∧ g ∣ x2.natAbs ∧ g ∣ x3.natAbs := by
    rw [hg]
    exact ⟨Nat.dvd_trans (Nat.gcd_dvd_left _ _) (Nat.gcd_dvd_left _ _), Nat.dvd_trans (Nat.gcd_dvd_left _ _) (Nat.gcd_dvd_right _ _), Nat.dvd_trans (Nat.gcd_dvd_right _ _) (Nat.gcd_dvd_left _ _), Nat.dvd_trans (Nat.gcd_dvd_right _ _) (Nat.gcd_dvd_right _ _)⟩
  have hg0 : 0 < g := by
    rcases Nat.eq_zero_or_pos g with h | h
    · rw [h] at hd
      have a0 := Nat.eq_zero_of_zero_dvd hd.1
      have a1 := Nat.eq_zero_of_zero_dvd hd.2.1
      have a2 := Nat.eq_zero_of_zero_dvd hd.2.2.1
      exact absurd (by omega) hz
    · exact h
  have ex : ∀ {x : Int}, g ∣ x.natAbs → ∃ q : Int, x = g * q := fun {x} h => by
    obtain ⟨q, e⟩ := Int.ofNat_dvd_left.2 h
    exact ⟨q, e⟩
  obtain ⟨q0, e0⟩ := ex hd.1
  obtain ⟨q1, e1⟩ := ex hd.2.1
  obtain ⟨q2, e2⟩ := ex hd.2.2.1
  obtain ⟨q3, e3⟩ := ex hd.2.2.2
  have hr := right_quo x0 x1 x2 x3 q0 q1 q2 q3 g hg hg0 e0 e1 e2 e3 h0 h1 h2 h3 hz
  have i0 := quo_lt hg0 (by omega) (by omega) e0
  have i1 := quo_lt hg0 (by omega) (by omega) e1
  have i2 := quo_lt hg0 (by omega) (by omega) e2
  have i3 := quo_lt hg0 (by omega) (by omega) e3
  have iq : (⟨q0, q1, q2, q3⟩ : Q4).I64 := ⟨⟨by show _ ≤ q0; omega, by show q0 ≤ _; omega⟩, ⟨by show _ ≤ q1; omega, by show q1 ≤ _; omega⟩, ⟨by show _ ≤ q2; omega, by show q2 ≤ _; omega⟩, ⟨by show _ ≤ q3; omega, by show q3 ≤ _; omega⟩⟩
  refine (make_q x0 x1 x2 x3 q0 q1 q2 q3 w (by omega) (by omega) (by omega) (by omega) (by omega) ?_ ?_).mono fun e w' h => ⟨⟨⟨q0, q1, q2, q3⟩, hr, iq, h.1⟩, h.2⟩
  · intro W n0 d0 n1 d1 n2 d2 n3 d3 v0 v1 v2 v3
    exact reduced_any x0 x1 x2 x3 n0 d0 n1 d1 n2 d2 n3 d3 W (by omega) (by omega) (by omega) (by omega) g _ _ rfl rfl hg hg0 q0 q1 q2 q3 e0 e1 e2 e3 v0 v1 v2 v3
  · intro W
    refine (right_any q0 q1 q2 q3 W iq.1 iq.2.1 iq.2.2.1 iq.2.2.2).mono fun e w' h => ⟨?_, h.2⟩
    rw [h.1, hr]

end Go.Proofs.YtaoedfegakpjeabGreat

namespace Go.Proofs.YtaoedfegakpjeabGreat
open Go.RowKit

theorem u64_wrap_range (x : Int) : 0 ≤ IntKind.u64.wrap x ∧ IntKind.u64.wrap x ≤ 18446744073709551615 := by
  have e : IntKind.u64.wrap x = x % 18446744073709551616 := by simp [IntKind.wrap, IntKind.signed, IntKind.bits]
  rw [e]; omega
/-- A number as a word. -/
noncomputable def wrd (x : Int) : Int := vl (IntKind.u64.wrap x)
theorem wrd_eq (x : Int) : wrd x = IntKind.u64.wrap x := vl_eq _
theorem wrd_range (x : Int) : 0 ≤ wrd x ∧ wrd x ≤ 18446744073709551615 := by rw [wrd_eq]; exact u64_wrap_range x

/-- A coordinate of Tame's plane; its last number. -/
noncomputable def tmV (x m : Int) : Int := vl (wrap64 (wrap64 (IntKind.u64.wrap x % (2 * m + 1)) - m))
theorem tmV_eq (x m : Int) : tmV x m = wrap64 (wrap64 (IntKind.u64.wrap x % (2 * m + 1)) - m) := vl_eq _
theorem tmV_range (x m : Int) (hm : 1 ≤ m) (hm5 : m ≤ 20) : -m ≤ tmV x m ∧ tmV x m ≤ m := by
  have h1 := Int.emod_nonneg (IntKind.u64.wrap x) (show 2 * m + 1 ≠ 0 by omega)
  have h2 := Int.emod_lt_of_pos (IntKind.u64.wrap x) (show 0 < 2 * m + 1 by omega)
  rw [tmV_eq]
  generalize IntKind.u64.wrap x % (2 * m + 1) = r at h1 h2
  unfold wrap64; omega

/-- The first k coordinates. -/
def TameC (b : Nat) (y0 y1 y2 : Int) (k : Nat) (W : World) : Prop := (0 < k → W.cell? ⟨b, 0, none⟩ = some (.int .i64 y0)) ∧ (1 < k → W.cell? ⟨b, 1, none⟩ = some (.int .i64 y1)) ∧ (2 < k → W.cell? ⟨b, 2, none⟩ = some (.int .i64 y2))
section
variable {b : Nat} {y0 y1 y2 : Int} {W : World}
theorem TameC.set0 (hr : Room W b 4) (_ : True) : TameC b y0 y1 y2 1 (W.setCell ⟨b, 0, none⟩ (.int .i64 y0)) := ⟨fun _ => hr.hit (by omega), by omega, by omega⟩
theorem TameC.set1 (h : TameC b y0 y1 y2 1 W) (hr : Room W b 4) : TameC b y0 y1 y2 2 (W.setCell ⟨b, 1, none⟩ (.int .i64 y1)) := ⟨fun _ => (cell_set_off (by omega)).trans (h.1 (by omega)), fun _ => hr.hit (by omega), by omega⟩
theorem TameC.set2 (h : TameC b y0 y1 y2 2 W) (hr : Room W b 4) : TameC b y0 y1 y2 3 (W.setCell ⟨b, 2, none⟩ (.int .i64 y2)) := ⟨fun _ => (cell_set_off (by omega)).trans (h.1 (by omega)), fun _ => (cell_set_off (by omega)).trans (h.2.1 (by omega)), fun _ => hr.hit (by omega)⟩
end

theorem Fr.set2' {o1 : Obj} {rm : List (Nat × Nat)} {w W : World} (h : Fr 3 [(0, o1)] rm w W) (o : Nat) (v : Value) : Fr 3 [(0, o1)] rm w (W.setCell ⟨w.heap.size + 1 + 1, o, none⟩ v) := by
  refine Fr.set h (by show w.heap.size ≤ w.heap.size + 1 + 1; omega) ?_ v
  show (List.lookup (w.heap.size + 1 + 1 - w.heap.size) _).isNone = true
  rw [show w.heap.size + 1 + 1 - w.heap.size = 2 by omega]
  rfl

set_option maxRecDepth 100000 in
set_option maxHeartbeats 2000000 in
theorem tame_any (x0 x1 x2 x3 m : Int) (w : World) (hm : 1 ≤ m) (hm5 : m ≤ 5) :
    Calls Tryz.prog 16 #[.agg #[.int .i64 x0, .int .i64 x1, .int .i64 x2, .int .i64 x3], .int .i64 m] w fun e w' => (∃ q : Q4, rightB q.a q.b q.c q.d = true ∧ q.I64 ∧ e = .returned (.agg #[.int .i64 (q.a), .int .i64 (q.b), .int .i64 (q.c), .int .i64 (q.d)])) ∧ Below w.heap.size w w' := by
  have HY : Hid (∀ x, -m ≤ tmV x m ∧ tmV x m ≤ m) := fun x => tmV_range x m hm (by omega)
  have HE0 : Hid (∀ x, wrap64 (wrap64 (IntKind.u64.wrap x % (2 * m + 1)) - m) = tmV x m) := fun x => (tmV_eq x m).symm
  have hu0 := u64_wrap_range x0
  have hu1 := u64_wrap_range x1
  have hu2 := u64_wrap_range x2
  have hu3 := u64_wrap_range x3
  go_enter Tryz.func16, Tryz.ntmps16
  have hE : ∀ W, Fr 3 [(0, .cells #[.int .i64 x0, .int .i64 x1, .int .i64 x2, .int .i64 x3] 22)] [(1, 4), (2, 4)] w W → (W.cell? ⟨w.heap.size, 0, none⟩ = some (.int .i64 x0) ∧ W.cell? ⟨w.heap.size, 1, none⟩ = some (.int .i64 x1) ∧ W.cell? ⟨w.heap.size, 2, none⟩ = some (.int .i64 x2) ∧ W.cell? ⟨w.heap.size, 3, none⟩ = some (.int .i64 x3) ∧ (∀ o, o < 4 → W.cell? ⟨w.heap.size + 1, o, none⟩ = some (cellOf W ⟨w.heap.size + 1, o, none⟩)) ∧ (∀ o, o < 4 → W.frozen? ⟨w.heap.size + 1, o, none⟩ = false) ∧ (∀ o, o < 4 → W.cell? ⟨w.heap.size + 2, o, none⟩ = some (cellOf W ⟨w.heap.size + 2, o, none⟩)) ∧ (∀ o, o < 4 → W.frozen? ⟨w.heap.size + 2, o, none⟩ = false)) := fun W h => by (repeat' apply And.intro) <;> first | exact h.at0 rfl | exact h.at rfl | exact (h.rms0 rfl).cell | exact (h.rms rfl).cell | exact (h.rms0 rfl).frozen | exact (h.rms rfl).frozen
  have HE := Lib.hid hE
  clear hE
  go_wp2
  go_loopw [6] (fun v wr => ∃ k : Nat, k ≤ 3 ∧ v = .int .i64 k ∧ Fr 3 [(0, .cells #[.int .i64 x0, .int .i64 x1, .int .i64 x2, .int .i64 x3] 22)] [(1, 4), (2, 4)] w wr ∧ TameC (w.heap.size + 1 + 1) (tmV x0 m) (tmV x1 m) (tmV x2 m) k wr) (fun v _ => 3 - (intOf v).toNat)
  case atStart => exact ⟨0, by omega, rfl, ((((Fr.nil w).fixed (by simp) (.cells #[.int .i64 x0, .int .i64 x1, .int .i64 x2, .int .i64 x3] 22)).roomy (by simp) #[.int .i64 0, .int .i64 0, .int .i64 0, .int .i64 0] 23).roomy (by simp) #[.int .i64 0, .int .i64 0, .int .i64 0, .int .i64 0] 23), by omega, by omega, by omega⟩
  case round =>
    rename_i wr
    obtain ⟨k, hk, rfl, hF, hC⟩ := hrel
    have HC := Lib.hid hC
    clear hC
    match k, hk with
    | 0, _ =>
      have hq := HE.out _ hF
      go_wp2
      go_roundw
      case measure => simp [intOf]
      case rel =>
        rw [HE0.out]
        exact ⟨1, by omega, rfl, (by (repeat (first | exact hF | exact And.left (by assumption) | refine Fr.set ?_ (by first | (simp; done) | (simp; omega)) (by first | (simp [List.lookup]; done) | (simp [Nat.add_assoc, List.lookup]; done)) _ | refine Fr.drew ?_ | refine Fr.alloc ?_ _))), TameC.set0 (hF.rms (i := 2) rfl) trivial⟩
    | 1, _ =>
      have hq := HE.out _ hF
      go_wp2
      go_roundw
      case measure => simp [intOf]
      case rel =>
        rw [HE0.out]
        exact ⟨2, by omega, rfl, (by (repeat (first | exact hF | exact And.left (by assumption) | refine Fr.set ?_ (by first | (simp; done) | (simp; omega)) (by first | (simp [List.lookup]; done) | (simp [Nat.add_assoc, List.lookup]; done)) _ | refine Fr.drew ?_ | refine Fr.alloc ?_ _))), HC.out.set1 (hF.rms (i := 2) rfl)⟩
    | 2, _ =>
      have hq := HE.out _ hF
      go_wp2
      go_roundw
      case measure => simp [intOf]
      case rel =>
        rw [HE0.out]
        exact ⟨3, by omega, rfl, (by (repeat (first | exact hF | exact And.left (by assumption) | refine Fr.set ?_ (by first | (simp; done) | (simp; omega)) (by first | (simp [List.lookup]; done) | (simp [Nat.add_assoc, List.lookup]; done)) _ | refine Fr.drew ?_ | refine Fr.alloc ?_ _))), HC.out.set2 (hF.rms (i := 2) rfl)⟩
    | 3, _ =>
      obtain ⟨x00, x01, x02, x03, -, -, -, -⟩ := HE.out _ hF
      have rc := (hF.rms (i := 1) (n := 4) rfl).cell
      have rf := (hF.rms (i := 1) (n := 4) rfl).frozen
      have pf := (hF.rms (i := 2) (n := 4) rfl).frozen
      have c0 := HC.out.1 (by omega)
      have c1 := HC.out.2.1 (by omega)
      have c2 := HC.out.2.2 (by omega)
      obtain ⟨l0, r0⟩ := HY.out x0
      obtain ⟨l1, r1⟩ := HY.out x1
      obtain ⟨l2, r2⟩ := HY.out x2
      have hz : w.heap.size < wr.heap.size ∧ w.heap.size + 1 < wr.heap.size ∧ w.heap.size + 2 < wr.heap.size := by have hs := Own.size (Fr.own hF); omega
      generalize tmV x0 m = y0 at c0 l0 r0
      generalize tmV x1 m = y1 at c1 l1 r1
      generalize tmV x2 m = y2 at c2 l2 r2
      have hm3 := tmV_range x3 20 (by omega) (by omega)
      have HE3 : Hid (IntKind.u64.wrap x3 % 41 - 20 = tmV x3 20) := by
        unfold Hid; rw [tmV_eq]
        generalize IntKind.u64.wrap x3 = r at hu3
        unfold wrap64; omega
      generalize tmV x3 20 = y3 at hm3 HE3
      have HM : Hid (∀ (z0 : Int) W, z0.natAbs ≤ 1000 → ¬ (z0 = 0 ∧ y1 = 0 ∧ y2 = 0) → Calls Tryz.prog 39 #[.int .i64 z0, .int .i64 y1, .int .i64 y2, .int .i64 y3] W fun e w' => (∃ q : Q4, rightB q.a q.b q.c q.d = true ∧ q.I64 ∧ e = .returned (.tuple #[.agg #[.int .i64 (q.a), .int .i64 (q.b), .int .i64 (q.c), .int .i64 (q.d)], .int .i64 0])) ∧ Below W.heap.size W w') := fun z0 W b0 hz => make_any z0 y1 y2 y3 W b0 (by omega) (by omega) (by omega) hz
      clear HC HY HE0 hm3
      have hcase : y0 ≠ 0 ∨ (y0 = 0 ∧ y1 ≠ 0) ∨ (y0 = 0 ∧ y1 = 0 ∧ y2 ≠ 0) ∨ (y0 = 0 ∧ y1 = 0 ∧ y2 = 0) := by omega
      rcases hcase with h | ⟨rfl, h⟩ | ⟨rfl, rfl, h⟩ | ⟨rfl, rfl, rfl⟩
      case inr.inr.inr =>
        go_wp2_with fail
        rw [HE3.out]
        ((with_reducible refine (HM.out 1 _ (by decide) (by decide)).mono ?_); rintro e w1 ⟨⟨q, hq1, hq2, rfl⟩, hb1⟩)
        have hF1 : Fr 3 [(0, .cells #[.int .i64 x0, .int .i64 x1, .int .i64 x2, .int .i64 x3] 22)] [(1, 4), (2, 4)] w w1 := Fr.call (hF.set2' _ _) hb1
        have rc1 := (hF1.rms (i := 1) (n := 4) rfl).cell
        have rf1 := (hF1.rms (i := 1) (n := 4) rfl).frozen
        have hz1 : w.heap.size < w1.heap.size ∧ w.heap.size + 1 < w1.heap.size := by have hs := Own.size (Fr.own hF1); omega
        have HQ := Lib.hid (And.intro hq1 hq2)
        clear hq1 hq2 hb1 rc rf pf x00 x01 x02 x03 c0 c1 c2
        go_wp2
        refine bodyPost_ret (v := .agg #[.int .i64 (q.a), .int .i64 (q.b), .int .i64 (q.c), .int .i64 (q.d)]) ?_ rfl ⟨⟨q, HQ.out.1, HQ.out.2, rfl⟩, ?_⟩
        · simp [results, Tryz.results16, go_sem, rc1, hz1]
        · have h := hF1.own.below
          exact ((((h.setCell (by simp) _).setCell (by simp) _).setCell (by simp) _).setCell (by simp) _).alloc (by simp; omega) _
      all_goals
        have hb := beq_eq_false_iff_ne.2 h
        go_wp2_with fail
        rw [HE3.out]
        ((with_reducible refine (HM.out _ _ (by omega) (by omega)).mono ?_); rintro e w1 ⟨⟨q, hq1, hq2, rfl⟩, hb1⟩)
        have hF1 : Fr 3 [(0, .cells #[.int .i64 x0, .int .i64 x1, .int .i64 x2, .int .i64 x3] 22)] [(1, 4), (2, 4)] w w1 := Fr.call hF hb1
        have rc1 := (hF1.rms (i := 1) (n := 4) rfl).cell
        have rf1 := (hF1.rms (i := 1) (n := 4) rfl).frozen
        have hz1 : w.heap.size < w1.heap.size ∧ w.heap.size + 1 < w1.heap.size := by have hs := Own.size (Fr.own hF1); omega
        have HQ := Lib.hid (And.intro hq1 hq2)
        clear hq1 hq2 hb1 rc rf pf x00 x01 x02 x03 c0 c1 c2
        go_wp2
        refine bodyPost_ret (v := .agg #[.int .i64 (q.a), .int .i64 (q.b), .int .i64 (q.c), .int .i64 (q.d)]) ?_ rfl ⟨⟨q, HQ.out.1, HQ.out.2, rfl⟩, ?_⟩
        · simp [results, Tryz.results16, go_sem, rc1, hz1]
        · have h := hF1.own.below
          exact ((((h.setCell (by simp) _).setCell (by simp) _).setCell (by simp) _).setCell (by simp) _).alloc (by simp; omega) _

end Go.Proofs.YtaoedfegakpjeabGreat

namespace Go.Proofs.YtaoedfegakpjeabGreat
open Go.ChangeShapes Go.WideShapes Go.ChangeAt Go.RowKit

theorem Tryz.own : ownKnob Tryz.prog.godebug = none := by kernel_rfl
theorem Tryz.c22 : Tryz.prog.cellsOf 22 = 4 := by kernel_rfl
theorem Tryz.c23 : Tryz.prog.cellsOf 23 = 4 := by kernel_rfl
theorem Tryz.c24 : Tryz.prog.cellsOf 24 = 3 := by kernel_rfl

theorem list4 {α : Type} (l : List α) (h : (⟨l⟩ : Array α).size = 4) : ∃ a b c d, l = [a, b, c, d] := by
  match l, h with
  | [a, b, c, d], _ => exact ⟨a, b, c, d, rfl⟩
theorem list3 {α : Type} (l : List α) (h : (⟨l⟩ : Array α).size = 3) : ∃ a b c, l = [a, b, c] := by
  match l, h with
  | [a, b, c], _ => exact ⟨a, b, c, rfl⟩
theorem i64_wf {x : Int} (h : (Lit.int .i64 x).wf = true) : I64 x := by
  simp [Lit.wf, IntKind.min, IntKind.max, IntKind.signed, IntKind.bits] at h
  exact ⟨by omega, by omega⟩
theorem wf_i64 {x : Int} (h : I64 x) : (Lit.int .i64 x).wf = true := by
  unfold I64 at h
  simp [Lit.wf, IntKind.min, IntKind.max, IntKind.signed, IntKind.bits]
  omega

section
variable {H : Type} {enc : TypeId × Value → H} {w : World} {base : Nat} {spare : Nat → Bool} {held : Bool}

def dat4 {H : Type} (q : Q4) : DataW H := .agg [.lit (.int .i64 q.a), .lit (.int .i64 q.b), .lit (.int .i64 q.c), .lit (.int .i64 q.d)]
def dat3 {H : Type} (q : T3) : DataW H := .agg [.lit (.int .i64 q.x), .lit (.int .i64 q.y), .lit (.int .i64 q.z)]
def T3.I64 (q : T3) : Prop := Proofs.YtaoedfegakpjeabGreat.I64 q.x ∧ Proofs.YtaoedfegakpjeabGreat.I64 q.y ∧ Proofs.YtaoedfegakpjeabGreat.I64 q.z

set_option maxRecDepth 100000 in
/-- An array of four int64, opened. -/
theorem open4 {t : TypeId} {b0 : Nat} {v : Value} {d : DataW H} {p : List MemPlace} (ht : Tryz.prog.underlying t = some (.array 4 2)) (hC : Tryz.prog.cellsOf t = 4)
    (hv : Value.okWide Tryz.prog w .any b0 t v) (h : DataW.Trod enc Tryz.prog w base spare held t v d p) : ∃ q : Q4, v = .agg #[.int .i64 (q.a), .int .i64 (q.b), .int .i64 (q.c), .int .i64 (q.d)] ∧ d = dat4 q ∧ p = [] ∧ q.I64 := by
  obtain ⟨cs, rfl, hsz, _⟩ : ∃ cs, v = .agg cs ∧ cs.size = Tryz.prog.cellsOf t ∧ Row.okWide Tryz.prog w .any b0 t cs := by
    simpa [Value.okWide, ht] using hv
  rw [hC] at hsz
  obtain ⟨l⟩ := cs
  obtain ⟨c0, c1, c2, c3, rfl⟩ := list4 l hsz
  obtain ⟨fuel, hf⟩ := h
  obtain ⟨y0, y1, y2, y3, m, hx, hy0, hy1, hy2, hy3⟩ := trod_array4 ht Tryz.cells2 hf
  obtain ⟨x0, e0, rfl, w0⟩ := DataW.trod_int Tryz.u2 hy0
  obtain ⟨x1, e1, rfl, w1⟩ := DataW.trod_int Tryz.u2 hy1
  obtain ⟨x2, e2, rfl, w2⟩ := DataW.trod_int Tryz.u2 hy2
  obtain ⟨x3, e3, rfl, w3⟩ := DataW.trod_int Tryz.u2 hy3
  simp at e0 e1 e2 e3
  subst e0 e1 e2 e3
  simp only [Prod.mk.injEq] at hx
  exact ⟨⟨x0, x1, x2, x3⟩, rfl, hx.1, by simpa using hx.2, i64_wf w0, i64_wf w1, i64_wf w2, i64_wf w3⟩
set_option maxRecDepth 100000 in
theorem open3 {t : TypeId} {b0 : Nat} {v : Value} {d : DataW H} {p : List MemPlace} (ht : Tryz.prog.underlying t = some (.array 3 2)) (hC : Tryz.prog.cellsOf t = 3)
    (hv : Value.okWide Tryz.prog w .any b0 t v) (h : DataW.Trod enc Tryz.prog w base spare held t v d p) : ∃ q : T3, v = .agg #[.int .i64 (q.x), .int .i64 (q.y), .int .i64 (q.z)] ∧ d = dat3 q ∧ p = [] ∧ q.I64 := by
  obtain ⟨cs, rfl, hsz, _⟩ : ∃ cs, v = .agg cs ∧ cs.size = Tryz.prog.cellsOf t ∧ Row.okWide Tryz.prog w .any b0 t cs := by
    simpa [Value.okWide, ht] using hv
  rw [hC] at hsz
  obtain ⟨l⟩ := cs
  obtain ⟨c0, c1, c2, rfl⟩ := list3 l hsz
  obtain ⟨fuel, hf⟩ := h
  obtain ⟨y0, y1, y2, m, hx, hy0, hy1, hy2⟩ := trod_array3 ht Tryz.cells2 hf
  obtain ⟨x0, e0, rfl, w0⟩ := DataW.trod_int Tryz.u2 hy0
  obtain ⟨x1, e1, rfl, w1⟩ := DataW.trod_int Tryz.u2 hy1
  obtain ⟨x2, e2, rfl, w2⟩ := DataW.trod_int Tryz.u2 hy2
  simp at e0 e1 e2
  subst e0 e1 e2
  simp only [Prod.mk.injEq] at hx
  exact ⟨⟨x0, x1, x2⟩, rfl, hx.1, by simpa using hx.2, i64_wf w0, i64_wf w1, i64_wf w2⟩
theorem shut4 {t : TypeId} {q : Q4} (ht : Tryz.prog.underlying t = some (.array 4 2)) (hC : Tryz.prog.cellsOf t = 4) (hq : q.I64) : DataW.Trod enc Tryz.prog w base spare held t (.agg #[.int .i64 (q.a), .int .i64 (q.b), .int .i64 (q.c), .int .i64 (q.d)]) (dat4 q) [] := by
  obtain ⟨h0, h1, h2, h3⟩ := hq
  exact ⟨2, by simp [DataW.trod, dat4, Value.cells, ht, hC, Tryz.cells2, wf_i64 h0, wf_i64 h1, wf_i64 h2, wf_i64 h3, show List.range 4 = [0, 1, 2, 3] from rfl]⟩
theorem shut3 {t : TypeId} {q : T3} (ht : Tryz.prog.underlying t = some (.array 3 2)) (hC : Tryz.prog.cellsOf t = 3) (hq : q.I64) : DataW.Trod enc Tryz.prog w base spare held t (.agg #[.int .i64 (q.x), .int .i64 (q.y), .int .i64 (q.z)]) (dat3 q) [] := by
  obtain ⟨h0, h1, h2⟩ := hq
  exact ⟨2, by simp [DataW.trod, dat3, Value.cells, ht, hC, Tryz.cells2, wf_i64 h0, wf_i64 h1, wf_i64 h2, show List.range 3 = [0, 1, 2] from rfl]⟩

/-- The row's last step: of the world behind the call it is known that old memory has not turned. -/
theorem post_below {P : Program} {f : Func} {s : ChangeSpec} {apart fresh handsOn again : Bool} {W W' : World} {args : Array Value} {v : Value} {ds gs : List (DataW H)} {before pa pv : List MemPlace}
    (hW : DataW.Whole enc P f.params.toList s.vars apart W args.toList ds gs before)
    (hres : ∀ (b : Nat) (sp : Nat → Bool) (hd : Bool), DataW.TrodAll enc P W' b sp hd f.resultTypes.toList (v.resultList f.resultTypes.size) (s.fn H (ds ++ gs)).results [])
    (hargs : ∀ sp : Nat → Bool, (∀ p ∈ before, sp p.block = true) → DataW.TrodAll enc P W' 0 sp true f.params.toList args.toList (s.fn H (ds ++ gs)).args pa)
    (hvars : ∀ sp : Nat → Bool, (∀ p ∈ before, sp p.block = true) → DataW.TrodVars enc P W' sp s.vars (s.fn H (ds ++ gs)).vars pv)
    (hps : before = pa ++ pv) (hb : Below W.heap.size W W')
    (hok : ∀ (j : Nat) (t : TypeId) (r : Value), f.resultTypes[j]? = some t → (v.resultList f.resultTypes.size)[j]? = some r → Value.okWide P W' .any 0 t r) :
    s.post enc P f apart fresh handsOn again W args v W' := by
  have lt : ∀ p, p ∈ before → p.block < W.heap.size := fun p hp => hW.lt p hp
  have old : ∀ p, p ∈ before → (fun b => decide (b < W.heap.size)) p.block = true := fun p hp => decide_eq_true (lt p hp)
  refine ⟨ds, gs, before, [], pa, pv, hW, hres _ _ _, hargs _ old, hvars _ old, World.keptBut_mono (fun p hp => ⟨hp, ?_⟩) (hb.frame (· ∈ before)), fun _ => ?_⟩
  · have hp' := hp
    rw [hps, List.mem_append] at hp'
    exact Or.inr hp'
  · obtain ⟨_, _, _, _, _, hz, hn⟩ := hW
    refine ⟨hok, _, _, ([] ++ pa) ++ pv, ⟨[] ++ pa, pv, trodAll_append (hargs _ (fun _ _ => rfl)) (hres _ _ _), hvars _ (fun _ _ => rfl), rfl, fun b off hp => ?_, fun ha => ?_⟩, ?_⟩
    · have hin : MemPlace.cell b off ∈ before := by rw [hps]; simpa using hp
      rw [hb.frozen (lt _ hin)]; exact hz b off hin
    · have h := hn ha
      rw [hps] at h; simpa using h
    · intro p hp _
      rw [hps]; simpa using hp
end

end Go.Proofs.YtaoedfegakpjeabGreat

namespace Go.Proofs.YtaoedfegakpjeabGreat
open Go.RowKit

/-- The angle of two directions in a plane. -/
noncomputable def angS (n u v : T3) : Int := vl (angle n.x n.y n.z u.x u.y u.z v.x v.y v.z)
theorem angS_eq (n u v : T3) : angS n u v = angle n.x n.y n.z u.x u.y u.z v.x v.y v.z := vl_eq _
theorem angS_any (n u v : T3) (w : World) :
    Calls Tryz.prog 59 #[.agg #[.int .i64 (n.x), .int .i64 (n.y), .int .i64 (n.z)], .agg #[.int .i64 (u.x), .int .i64 (u.y), .int .i64 (u.z)], .agg #[.int .i64 (v.x), .int .i64 (v.y), .int .i64 (v.z)]] w fun e w' => e = .returned (.int .i64 (angS n u v)) ∧ Below w.heap.size w w' := by
  rw [angS_eq]
  exact angle_any _ _ _ _ _ _ _ _ _ w
theorem angS_range (n u v : T3) : 0 ≤ angS n u v ∧ angS n u v ≤ 3 := by
  rw [angS_eq]; unfold angle
  repeat' split
  all_goals omega
/-- The rank: the same direction first, the left last; and the order. -/
noncomputable def rankI (n f v : T3) : Int := vl ((4 - angS n f v) % 4)
theorem rankI_eq (n f v : T3) : rankI n f v = (4 - angS n f v) % 4 := vl_eq _
theorem rankI_range (n f v : T3) : 0 ≤ rankI n f v ∧ rankI n f v ≤ 3 := by rw [rankI_eq]; omega
noncomputable def ordI (n f v : T3) : Int := vl ((rankI n f v + 3) % 4)
theorem ordI_eq (n f v : T3) : ordI n f v = (rankI n f v + 3) % 4 := vl_eq _
theorem ordI_range (n f v : T3) : 0 ≤ ordI n f v ∧ ordI n f v ≤ 3 := by rw [ordI_eq]; omega

set_option maxHeartbeats 1000000 in
theorem rank_any (n f v : T3) (nb fb : Nat) (w : World) (hn : nb < w.heap.size) (hf : fb < w.heap.size) (cn : At3 w nb 0 n) (cf : At3 w fb 0 f) :
    Calls Tryz.prog 73 #[.agg #[.int .i64 (v.x), .int .i64 (v.y), .int .i64 (v.z)], .pointer (some ⟨nb, 0, none⟩), .pointer (some ⟨fb, 0, none⟩)] w fun e w' => e = .returned (.int .i64 (rankI n f v)) ∧ Below w.heap.size w w' := by
  obtain ⟨n0, n1, n2⟩ := cn
  obtain ⟨f0, f1, f2⟩ := cf
  simp only [Nat.zero_add] at n1 n2 f1 f2
  have hr := Lib.hid (angS_range n f v)
  have HV : Hid (IntKind.i64.wrap (4 - angS n f v) = 4 - angS n f v ∧ (4 - angS n f v).tmod 4 = rankI n f v) := by
    have h := hr.out
    refine ⟨by rw [IntKind.wrap_i64]; omega, ?_⟩
    rw [rankI_eq, Int.tmod_eq_emod_of_nonneg (by omega)]
  have h1 := HV.out.1
  have h2 := HV.out.2
  go_enter Tryz.func73, Tryz.ntmps73
  go_wp2_with (go_at_call 59; refine (angS_any n f v _).mono ?_; rintro e w1 ⟨rfl, hb1⟩)
  go_ret
  refine ⟨rfl, ?_⟩
  (repeat (first | exact Below.refl _ _ | refine Below.alloc ?_ (by first | (simp; done) | (simp; omega)) _ | refine Below.setCell ?_ (by first | (simp; done) | (simp; omega)) _ | refine Below.drew ?_)); (try (refine Below.trans ?_ (hb1.mono (by first | (simp; done) | (simp; omega))); repeat (first | exact Below.refl _ _ | refine Below.alloc ?_ (by first | (simp; done) | (simp; omega)) _ | refine Below.setCell ?_ (by first | (simp; done) | (simp; omega)) _ | refine Below.drew ?_)))

set_option maxHeartbeats 1000000 in
theorem order_any (n f v : T3) (nb fb rb : Nat) (w : World) (hn : nb < w.heap.size) (hf : fb < w.heap.size) (hrb : rb < w.heap.size) (cn : At3 w nb 0 n) (cf : At3 w fb 0 f)
    (cr : w.cell? ⟨rb, 0, none⟩ = some (.func (.func 73) #[] #[.pointer (some ⟨nb, 0, none⟩), .pointer (some ⟨fb, 0, none⟩)])) :
    Calls Tryz.prog 74 #[.agg #[.int .i64 (v.x), .int .i64 (v.y), .int .i64 (v.z)], .pointer (some ⟨rb, 0, none⟩)] w fun e w' => e = .returned (.int .i64 (ordI n f v)) ∧ Below w.heap.size w w' := by
  have hr := Lib.hid (rankI_range n f v)
  have HV : Hid (IntKind.i64.wrap (rankI n f v + 3) = rankI n f v + 3 ∧ (rankI n f v + 3).tmod 4 = ordI n f v) := by
    have h := hr.out
    refine ⟨by rw [IntKind.wrap_i64]; omega, ?_⟩
    rw [ordI_eq, Int.tmod_eq_emod_of_nonneg (by omega)]
  have h1 := HV.out.1
  have h2 := HV.out.2
  have hra := fun W hn hf cn cf => rank_any n f v nb fb W hn hf cn cf
  have CN := Lib.hid cn
  have CF := Lib.hid cf
  clear cn cf
  go_enter Tryz.func74, Tryz.ntmps74
  go_wp2_with (go_at_call 73; refine (hra _ (by simp; omega) (by simp; omega) (CN.out.below ((Below.refl w.heap.size w).alloc (Nat.le_refl _) _) hn) (CF.out.below ((Below.refl w.heap.size w).alloc (Nat.le_refl _) _) hf)).mono ?_; rintro e w1 ⟨rfl, hb1⟩)
  go_ret
  refine ⟨rfl, ?_⟩
  (repeat (first | exact Below.refl _ _ | refine Below.alloc ?_ (by first | (simp; done) | (simp; omega)) _ | refine Below.setCell ?_ (by first | (simp; done) | (simp; omega)) _ | refine Below.drew ?_)); (try (refine Below.trans ?_ (hb1.mono (by first | (simp; done) | (simp; omega))); repeat (first | exact Below.refl _ _ | refine Below.alloc ?_ (by first | (simp; done) | (simp; omega)) _ | refine Below.setCell ?_ (by first | (simp; done) | (simp; omega)) _ | refine Below.drew ?_)))

theorem order_c (n f v : T3) (nb fb rb : Nat) (w : World) (n0 : w.cell? ⟨nb, 0, none⟩ = some (.int .i64 n.x)) (n1 : w.cell? ⟨nb, 1, none⟩ = some (.int .i64 n.y)) (n2 : w.cell? ⟨nb, 2, none⟩ = some (.int .i64 n.z)) (f0 : w.cell? ⟨fb, 0, none⟩ = some (.int .i64 f.x)) (f1 : w.cell? ⟨fb, 1, none⟩ = some (.int .i64 f.y)) (f2 : w.cell? ⟨fb, 2, none⟩ = some (.int .i64 f.z))
    (cr : w.cell? ⟨rb, 0, none⟩ = some (.func (.func 73) #[] #[.pointer (some ⟨nb, 0, none⟩), .pointer (some ⟨fb, 0, none⟩)])) :
    Calls Tryz.prog 74 #[.agg #[.int .i64 (v.x), .int .i64 (v.y), .int .i64 (v.z)], .pointer (some ⟨rb, 0, none⟩)] w fun e w' => e = .returned (.int .i64 (ordI n f v)) ∧ Below w.heap.size w w' :=
  order_any n f v nb fb rb w (World.block_lt_of_cell? w _ n0) (World.block_lt_of_cell? w _ f0) (World.block_lt_of_cell? w _ cr) ⟨n0, by simpa using n1, by simpa using n2⟩ ⟨f0, by simpa using f1, by simpa using f2⟩ cr

/-- Does a direction come ahead of another one? -/
noncomputable def soonB (n f v b : T3) : Bool := vlB (decide (ordI n f v < ordI n f b) || (decide (ordI n f v = ordI n f b) && decide (angS n b v = 1)))
theorem soonB_eq (n f v b : T3) : soonB n f v b = (decide (ordI n f v < ordI n f b) || (decide (ordI n f v = ordI n f b) && decide (angS n b v = 1))) := vlB_eq _
instance : Inhabited T3 := ⟨⟨0, 0, 0⟩⟩
/-- The best of the first so many. -/
noncomputable def cwN (n f : T3) (vs : List T3) : Nat → Nat
  | 0 => 0
  | k + 1 => if soonB n f vs[k]! vs[cwN n f vs k]! then k else cwN n f vs k
theorem cwN_le (n f : T3) (vs : List T3) : ∀ k, cwN n f vs k ≤ k - 1
  | 0 => Nat.le_refl _
  | k + 1 => by
    have := cwN_le n f vs k
    unfold cwN; split <;> omega

set_option maxRecDepth 100000 in
set_option maxHeartbeats 2000000 in
theorem clockwise_sl (n f : T3) (vs : List T3) (b o cap : Nat) (w : World) (hl : vs.length ≤ 1000) (hB : b < w.heap.size) (hc : Sl3 w b o vs) :
    Calls Tryz.prog 43 #[.agg #[.int .i64 (n.x), .int .i64 (n.y), .int .i64 (n.z)], .agg #[.int .i64 (f.x), .int .i64 (f.y), .int .i64 (f.z)], .slice (some ⟨b, o, none⟩) vs.length cap] w fun e w' => e = .returned (.int .i64 (cwN n f vs vs.length)) ∧ Below w.heap.size w w' := by
  have HC := Lib.hid hc
  clear hc
  go_enter Tryz.func43, Tryz.ntmps43
  have hE : ∀ W, Fr 3 [(0, .cells #[.int .i64 (n.x), .int .i64 (n.y), .int .i64 (n.z)] 66), (1, .cells #[.int .i64 (f.x), .int .i64 (f.y), .int .i64 (f.z)] 66), (2, .cells #[.func (.func 73) #[] #[.pointer (some ⟨w.heap.size, 0, none⟩), .pointer (some ⟨w.heap.size + 1, 0, none⟩)]] 85)] [] w W → (W.cell? ⟨w.heap.size, 0, none⟩ = some (.int .i64 (n.x)) ∧ W.cell? ⟨w.heap.size, 1, none⟩ = some (.int .i64 (n.y)) ∧ W.cell? ⟨w.heap.size, 2, none⟩ = some (.int .i64 (n.z)) ∧ W.cell? ⟨w.heap.size + 1, 0, none⟩ = some (.int .i64 (f.x)) ∧ W.cell? ⟨w.heap.size + 1, 1, none⟩ = some (.int .i64 (f.y)) ∧ W.cell? ⟨w.heap.size + 1, 2, none⟩ = some (.int .i64 (f.z)) ∧ W.cell? ⟨w.heap.size + 2, 0, none⟩ = some (.func (.func 73) #[] #[.pointer (some ⟨w.heap.size, 0, none⟩), .pointer (some ⟨w.heap.size + 1, 0, none⟩)])) := fun W h => by (repeat' apply And.intro) <;> first | exact h.at0 rfl | exact h.at rfl | exact (h.rms0 rfl).cell | exact (h.rms rfl).cell | exact (h.rms0 rfl).frozen | exact (h.rms rfl).frozen
  have HE := Lib.hid hE
  clear hE
  go_wp2
  go_loopg [7, 18] vs.length (fun g1 v7 v18 wr => ∃ k : Nat, k ≤ vs.length ∧ vs.length - k ≤ g1 ∧ v7 = .int .i64 (cwN n f vs k) ∧ v18 = .int .i64 k ∧ Fr 3 [(0, .cells #[.int .i64 (n.x), .int .i64 (n.y), .int .i64 (n.z)] 66), (1, .cells #[.int .i64 (f.x), .int .i64 (f.y), .int .i64 (f.z)] 66), (2, .cells #[.func (.func 73) #[] #[.pointer (some ⟨w.heap.size, 0, none⟩), .pointer (some ⟨w.heap.size + 1, 0, none⟩)]] 85)] [] w wr)
  case atStart => exact ⟨0, by omega, by omega, rfl, rfl, ((((Fr.nil w).fixed (by simp) (.cells #[.int .i64 (n.x), .int .i64 (n.y), .int .i64 (n.z)] 66)).fixed (by simp) (.cells #[.int .i64 (f.x), .int .i64 (f.y), .int .i64 (f.z)] 66)).fixed (by simp) (.cells #[.func (.func 73) #[] #[.pointer (some ⟨w.heap.size, 0, none⟩), .pointer (some ⟨w.heap.size + 1, 0, none⟩)]] 85))⟩
  case round =>
    rename World => wr
    obtain ⟨k, hk, hg1, rfl, rfl, hF⟩ := hrel
    by_cases hlt : k < vs.length
    · have hble := cwN_le n f vs k
      obtain ⟨best, hbest⟩ : ∃ x, x = cwN n f vs k := ⟨_, rfl⟩
      have HBEST := Lib.hid hbest
      rw [← hbest] at hble ⊢
      clear hbest
      have hbl : best < vs.length := by omega
      have hbelow := hF.own.below
      obtain ⟨v, hv⟩ : ∃ v, vs[k]? = some v := ⟨_, List.getElem?_eq_getElem hlt⟩
      obtain ⟨bv, hbv⟩ : ∃ v, vs[best]? = some v := ⟨_, List.getElem?_eq_getElem hbl⟩
      have ⟨v0, v1, v2⟩ := (HC.out k v hv).below hbelow hB
      have ⟨b0, b1, b2⟩ := (HC.out best bv hbv).below hbelow hB
      have HV := Lib.hid (show vs[k]! = v by simp [List.getElem!_eq_getElem?_getD, hv])
      have HBV := Lib.hid (show vs[best]! = bv by simp [List.getElem!_eq_getElem?_getD, hbv])
      clear hv hbv
      have hltz : (k : Int) < (vs.length : Int) := by omega
      have hblz : (best : Int) < (vs.length : Int) := by omega
      have hq := HE.out _ hF
      have hsz : w.heap.size + 2 < wr.heap.size := by have hs := Own.size (Fr.own hF); omega
      go_wp2_with fail
      have hFa := hF.alloc (.cells #[.int .i64 v.x, .int .i64 v.y, .int .i64 v.z] 66)
      have hqa := HE.out _ hFa
      have hba : Below wr.heap.size wr (wr.alloc (.cells #[.int .i64 v.x, .int .i64 v.y, .int .i64 v.z] 66)) := (Below.refl _ _).alloc (Nat.le_refl _) _
      have hBr : b < wr.heap.size := Nat.lt_of_lt_of_le hB hbelow.size
      have c0 := (hba.cell (p := ⟨b, _, none⟩) hBr).trans b0
      have c1 := (hba.cell (p := ⟨b, _, none⟩) hBr).trans b1
      have c2 := (hba.cell (p := ⟨b, _, none⟩) hBr).trans b2
      have x0 : (wr.alloc (.cells #[.int .i64 v.x, .int .i64 v.y, .int .i64 v.z] 66)).cell? ⟨wr.heap.size, 0, none⟩ = some (.int .i64 v.x) := by simp [go_sem]
      have x1 : (wr.alloc (.cells #[.int .i64 v.x, .int .i64 v.y, .int .i64 v.z] 66)).cell? ⟨wr.heap.size, 1, none⟩ = some (.int .i64 v.y) := by simp [go_sem]
      have x2 : (wr.alloc (.cells #[.int .i64 v.x, .int .i64 v.y, .int .i64 v.z] 66)).cell? ⟨wr.heap.size, 2, none⟩ = some (.int .i64 v.z) := by simp [go_sem]
      have hsa : (wr.alloc (.cells #[.int .i64 v.x, .int .i64 v.y, .int .i64 v.z] 66)).heap.size = wr.heap.size + 1 := by simp
      obtain ⟨n0, n1, n2, f0, f1, f2, r0⟩ := hqa
      clear hq v0 v1 v2 b0 b1 b2 HE hba hbelow hF
      obtain ⟨vb, hvb⟩ : ∃ x, x = wr.heap.size := ⟨_, rfl⟩
      rw [← hvb] at x0 x1 x2 hsa hBr hsz ⊢
      generalize wr.alloc (.cells #[.int .i64 v.x, .int .i64 v.y, .int .i64 v.z] 66) = wa at x0 x1 x2 hsa hFa n0 n1 n2 f0 f1 f2 r0 c0 c1 c2 ⊢
      clear hvb
      have HFa : Hid (Fr 3 _ _ w wa) := hFa
      clear hFa
      obtain ⟨rb, hrb⟩ : ∃ x, x = w.heap.size + 1 + 1 := ⟨_, rfl⟩
      obtain ⟨fb, hfb⟩ : ∃ x, x = w.heap.size + 1 := ⟨_, rfl⟩
      obtain ⟨nb, hnb⟩ : ∃ x, x = w.heap.size := ⟨_, rfl⟩
      have l1 : nb < wa.heap.size := by omega
      have l2 : fb < wa.heap.size := by omega
      have l3 : rb < wa.heap.size := by omega
      have l4 : vb < wa.heap.size := by omega
      have l5 : b < wa.heap.size := by omega
      rw [show w.heap.size + 2 = rb by omega] at r0
      rw [← hrb, ← hfb, ← hnb]
      rw [← hfb, ← hnb] at r0
      rw [← hfb] at f0 f1 f2
      rw [← hnb] at n0 n1 n2
      have HB := Lib.hid (And.intro hrb (And.intro hfb hnb))
      clear hrb hfb hnb
      have hE : ∀ W, Fr 0 [] [] wa W → (W.cell? ⟨nb, 0, none⟩ = some (.int .i64 (n.x)) ∧ W.cell? ⟨nb, 1, none⟩ = some (.int .i64 (n.y)) ∧ W.cell? ⟨nb, 2, none⟩ = some (.int .i64 (n.z)) ∧ W.cell? ⟨fb, 0, none⟩ = some (.int .i64 (f.x)) ∧ W.cell? ⟨fb, 1, none⟩ = some (.int .i64 (f.y)) ∧ W.cell? ⟨fb, 2, none⟩ = some (.int .i64 (f.z)) ∧ W.cell? ⟨rb, 0, none⟩ = some (.func (.func 73) #[] #[.pointer (some ⟨nb, 0, none⟩), .pointer (some ⟨fb, 0, none⟩)]) ∧ W.cell? ⟨vb, 0, none⟩ = some (.int .i64 (v.x)) ∧ W.cell? ⟨vb, 1, none⟩ = some (.int .i64 (v.y)) ∧ W.cell? ⟨vb, 2, none⟩ = some (.int .i64 (v.z)) ∧ W.cell? ⟨b, (o+best*3), none⟩ = some (.int .i64 (bv.x)) ∧ W.cell? ⟨b, (o+best*3) + 1, none⟩ = some (.int .i64 (bv.y)) ∧ W.cell? ⟨b, (o+best*3) + 2, none⟩ = some (.int .i64 (bv.z))) := fun W h => by (repeat' apply And.intro) <;> first | exact h.at0 rfl | exact h.at rfl | exact (h.rms0 rfl).cell | exact (h.rms rfl).cell | exact (h.rms0 rfl).frozen | exact (h.rms rfl).frozen | exact (h.own.below.cell (p := ⟨nb, _, none⟩) l1).trans (by assumption) | exact (h.own.below.cell (p := ⟨fb, _, none⟩) l2).trans (by assumption) | exact (h.own.below.cell (p := ⟨rb, _, none⟩) l3).trans (by assumption) | exact (h.own.below.cell (p := ⟨vb, _, none⟩) l4).trans (by assumption) | exact (h.own.below.cell (p := ⟨b, _, none⟩) l5).trans (by assumption)
      have HE := Lib.hid hE
      clear hE
      have hF0 : Fr 0 [] [] wa wa := Fr.nil _
      clear n0 n1 n2 f0 f1 f2 r0 x0 x1 x2 c0 c1 c2
      go_region_held3 (fun W => Fr 0 [] [] wa W ∧ W.cell? ⟨nb, 0, none⟩ = some (.int .i64 (n.x)) ∧ W.cell? ⟨nb, 1, none⟩ = some (.int .i64 (n.y)) ∧ W.cell? ⟨nb, 2, none⟩ = some (.int .i64 (n.z)) ∧ W.cell? ⟨fb, 0, none⟩ = some (.int .i64 (f.x)) ∧ W.cell? ⟨fb, 1, none⟩ = some (.int .i64 (f.y)) ∧ W.cell? ⟨fb, 2, none⟩ = some (.int .i64 (f.z)) ∧ W.cell? ⟨rb, 0, none⟩ = some (.func (.func 73) #[] #[.pointer (some ⟨nb, 0, none⟩), .pointer (some ⟨fb, 0, none⟩)]) ∧ W.cell? ⟨vb, 0, none⟩ = some (.int .i64 (v.x)) ∧ W.cell? ⟨vb, 1, none⟩ = some (.int .i64 (v.y)) ∧ W.cell? ⟨vb, 2, none⟩ = some (.int .i64 (v.z)) ∧ W.cell? ⟨b, (o+best*3), none⟩ = some (.int .i64 (bv.x)) ∧ W.cell? ⟨b, (o+best*3) + 1, none⟩ = some (.int .i64 (bv.y)) ∧ W.cell? ⟨b, (o+best*3) + 2, none⟩ = some (.int .i64 (bv.z))) ((first | exact hSK | assumption | (have hq := Fr.keep HE.out (by assumption) hb1; exact hq) | (have hq := Fr.both HE.out hF.drew; exact hq) | (have hq := Fr.both HE.out (Fr.nil wa).drew; exact hq) | (refine Fr.both HE.out ?_; (repeat (first | exact hF | exact And.left (by assumption) | refine Fr.set ?_ (by first | (simp; done) | (simp; omega)) (by first | (simp [List.lookup]; done) | (simp [Nat.add_assoc, List.lookup]; done)) _ | refine Fr.drew ?_ | refine Fr.alloc ?_ _))))) (first | (go_at_call 74; obtain ⟨-, q0, q1, q2, q3, q4, q5, q6, -⟩ : Fr 0 [] [] wa _ ∧ _ ∧ _ ∧ _ ∧ _ ∧ _ ∧ _ ∧ _ ∧ _ := (by assumption); refine (order_c n f v nb fb rb _ q0 q1 q2 q3 q4 q5 q6).mono ?_; clear q0 q1 q2 q3 q4 q5 q6; rintro e w1 ⟨rfl, hb1⟩) | (go_at_call 74; obtain ⟨-, q0, q1, q2, q3, q4, q5, q6, -⟩ : Fr 0 [] [] wa _ ∧ _ ∧ _ ∧ _ ∧ _ ∧ _ ∧ _ ∧ _ ∧ _ := (by assumption); refine (order_c n f bv nb fb rb _ q0 q1 q2 q3 q4 q5 q6).mono ?_; clear q0 q1 q2 q3 q4 q5 q6; rintro e w1 ⟨rfl, hb1⟩))
      rename World => w1
      have hFG : Fr 0 [] [] wa w1 := And.left (by assumption)
      have HF1 := Lib.hid (HFa.out.call hFG.own.below)
      have hS1 := HE.out _ hFG
      have HS1 := Lib.hid (And.intro hFG hS1)
      clear hF0 hFG
      have HNX : ∀ r, soonB n f v bv = r → cwN n f vs (k + 1) = if r then k else best := fun r hr => by
        show (if soonB n f vs[k]! vs[cwN n f vs k]! then k else cwN n f vs k) = _
        rw [← HBEST.out, HV.out, HBV.out, hr]
      have HNX := Lib.hid HNX
      by_cases h1 : ordI n f v < ordI n f bv
      · have hs := Lib.hid (show soonB n f v bv = true by rw [soonB_eq]; simp [h1])
        clear hS1
        go_wp2_with fail
        go_region
        obtain ⟨hrb, hfb, hnb⟩ := HB.out
        subst hrb hfb hnb
        go_wp2
        go_roundg (vs.length - (k + 1))
        case measure => omega
        case rel => exact ⟨k + 1, by omega, Nat.le_refl _, by rw [HNX.out _ hs.out]; rfl, by go_num, HF1.out.drew⟩
      · by_cases h2 : ordI n f v = ordI n f bv
        · have HH1 := Lib.hid h1
          have HH2 := Lib.hid h2
          by_cases h3 : angS n bv v = 1
          · have hs := Lib.hid (show soonB n f v bv = true by rw [soonB_eq]; simp [h2, h3])
            clear hS1
            go_wp2_with fail
            go_region_held3 (fun W => Fr 0 [] [] wa W ∧ W.cell? ⟨nb, 0, none⟩ = some (.int .i64 (n.x)) ∧ W.cell? ⟨nb, 1, none⟩ = some (.int .i64 (n.y)) ∧ W.cell? ⟨nb, 2, none⟩ = some (.int .i64 (n.z)) ∧ W.cell? ⟨fb, 0, none⟩ = some (.int .i64 (f.x)) ∧ W.cell? ⟨fb, 1, none⟩ = some (.int .i64 (f.y)) ∧ W.cell? ⟨fb, 2, none⟩ = some (.int .i64 (f.z)) ∧ W.cell? ⟨rb, 0, none⟩ = some (.func (.func 73) #[] #[.pointer (some ⟨nb, 0, none⟩), .pointer (some ⟨fb, 0, none⟩)]) ∧ W.cell? ⟨vb, 0, none⟩ = some (.int .i64 (v.x)) ∧ W.cell? ⟨vb, 1, none⟩ = some (.int .i64 (v.y)) ∧ W.cell? ⟨vb, 2, none⟩ = some (.int .i64 (v.z)) ∧ W.cell? ⟨b, (o+best*3), none⟩ = some (.int .i64 (bv.x)) ∧ W.cell? ⟨b, (o+best*3) + 1, none⟩ = some (.int .i64 (bv.y)) ∧ W.cell? ⟨b, (o+best*3) + 2, none⟩ = some (.int .i64 (bv.z))) ((first | exact hSK | assumption | (have hq := Fr.keep HE.out (by assumption) hb1; exact hq) | (have hq := Fr.both HE.out hF.drew; exact hq) | (have hq := Fr.both HE.out (Fr.nil wa).drew; exact hq) | (refine Fr.both HE.out ?_; (repeat (first | exact hF | exact And.left (by assumption) | refine Fr.set ?_ (by first | (simp; done) | (simp; omega)) (by first | (simp [List.lookup]; done) | (simp [Nat.add_assoc, List.lookup]; done)) _ | refine Fr.drew ?_ | refine Fr.alloc ?_ _))))) (first | (go_at_call 59; refine (angS_any n bv v _).mono ?_; rintro e w1 ⟨rfl, hb1⟩))
            rename World => w2
            have hFG2 : Fr 0 [] [] wa w2 := And.left (by assumption)
            have HF2 := Lib.hid (HFa.out.call hFG2.own.below)
            obtain ⟨hrb, hfb, hnb⟩ := HB.out
            subst hrb hfb hnb
            go_wp2
            go_roundg (vs.length - (k + 1))
            case measure => omega
            case rel => exact ⟨k + 1, by omega, Nat.le_refl _, by rw [HNX.out _ hs.out]; rfl, by go_num, HF2.out⟩
          · have hs := Lib.hid (show soonB n f v bv = false by rw [soonB_eq]; simp [h1, h3])
            clear hS1
            go_wp2_with fail
            go_region_held3 (fun W => Fr 0 [] [] wa W ∧ W.cell? ⟨nb, 0, none⟩ = some (.int .i64 (n.x)) ∧ W.cell? ⟨nb, 1, none⟩ = some (.int .i64 (n.y)) ∧ W.cell? ⟨nb, 2, none⟩ = some (.int .i64 (n.z)) ∧ W.cell? ⟨fb, 0, none⟩ = some (.int .i64 (f.x)) ∧ W.cell? ⟨fb, 1, none⟩ = some (.int .i64 (f.y)) ∧ W.cell? ⟨fb, 2, none⟩ = some (.int .i64 (f.z)) ∧ W.cell? ⟨rb, 0, none⟩ = some (.func (.func 73) #[] #[.pointer (some ⟨nb, 0, none⟩), .pointer (some ⟨fb, 0, none⟩)]) ∧ W.cell? ⟨vb, 0, none⟩ = some (.int .i64 (v.x)) ∧ W.cell? ⟨vb, 1, none⟩ = some (.int .i64 (v.y)) ∧ W.cell? ⟨vb, 2, none⟩ = some (.int .i64 (v.z)) ∧ W.cell? ⟨b, (o+best*3), none⟩ = some (.int .i64 (bv.x)) ∧ W.cell? ⟨b, (o+best*3) + 1, none⟩ = some (.int .i64 (bv.y)) ∧ W.cell? ⟨b, (o+best*3) + 2, none⟩ = some (.int .i64 (bv.z))) ((first | exact hSK | assumption | (have hq := Fr.keep HE.out (by assumption) hb1; exact hq) | (have hq := Fr.both HE.out hF.drew; exact hq) | (have hq := Fr.both HE.out (Fr.nil wa).drew; exact hq) | (refine Fr.both HE.out ?_; (repeat (first | exact hF | exact And.left (by assumption) | refine Fr.set ?_ (by first | (simp; done) | (simp; omega)) (by first | (simp [List.lookup]; done) | (simp [Nat.add_assoc, List.lookup]; done)) _ | refine Fr.drew ?_ | refine Fr.alloc ?_ _))))) (first | (go_at_call 59; refine (angS_any n bv v _).mono ?_; rintro e w1 ⟨rfl, hb1⟩))
            rename World => w2
            have hFG2 : Fr 0 [] [] wa w2 := And.left (by assumption)
            have HF2 := Lib.hid (HFa.out.call hFG2.own.below)
            obtain ⟨hrb, hfb, hnb⟩ := HB.out
            subst hrb hfb hnb
            go_wp2
            go_roundg (vs.length - (k + 1))
            case measure => omega
            case rel => exact ⟨k + 1, by omega, Nat.le_refl _, by rw [HNX.out _ hs.out]; rfl, by go_num, HF2.out⟩
        · have hs := Lib.hid (show soonB n f v bv = false by rw [soonB_eq]; simp [h1, h2])
          have hd1 : decide (ordI n f v < ordI n f bv) = false := decide_eq_false h1
          have hd2 : decide (ordI n f v = ordI n f bv) = false := decide_eq_false h2
          have hd3 : (ordI n f v == ordI n f bv) = false := by simpa using h2
          clear hS1
          go_wp2_with fail
          go_region
          obtain ⟨hrb, hfb, hnb⟩ := HB.out
          subst hrb hfb hnb
          go_wp2
          go_roundg (vs.length - (k + 1))
          case measure => omega
          case rel => exact ⟨k + 1, by omega, Nat.le_refl _, by rw [HNX.out _ hs.out]; rfl, by go_num, HF1.out.drew⟩
    · have hkk : k = vs.length := by omega
      have HK := Lib.hid hkk
      have hltz : ¬ (k : Int) < (vs.length : Int) := by omega
      clear hkk
      go_wp2
      go_ret
      exact ⟨ret_int (by rw [HK.out]), hF.own.below⟩

end Go.Proofs.YtaoedfegakpjeabGreat

namespace Go.Proofs.YtaoedfegakpjeabGreat
open Go.RowKit

/-- What a point is divided by for its lowest terms. -/
noncomputable def lowG (q : Q4) : Int := vl (if q.d < 0 then wrap64 (-gcd4 q.a q.b q.c q.d) else gcd4 q.a q.b q.c q.d)
theorem lowG_eq (q : Q4) : lowG q = (if q.d < 0 then wrap64 (-gcd4 q.a q.b q.c q.d) else gcd4 q.a q.b q.c q.d) := vl_eq _
noncomputable def quoI (x g : Int) : Int := vl (wrap64 (x.tdiv g))
theorem quoI_eq (x g : Int) : quoI x g = wrap64 (x.tdiv g) := vl_eq _
noncomputable def Q4.low (q : Q4) : Q4 := ⟨quoI q.a (lowG q), quoI q.b (lowG q), quoI q.c (lowG q), quoI q.d (lowG q)⟩

set_option maxHeartbeats 400000 in
theorem lowest_neg (q : Q4) (w : World) (iq : q.I64) (hg : ¬ lowG q = 0) (hd : q.d < 0) :
    Calls Tryz.prog 98 #[.agg #[.int .i64 (q.a), .int .i64 (q.b), .int .i64 (q.c), .int .i64 (q.d)]] w fun e w' => e = .returned (.agg #[.int .i64 (quoI q.a (lowG q)), .int .i64 (quoI q.b (lowG q)), .int .i64 (quoI q.c (lowG q)), .int .i64 (quoI q.d (lowG q))]) ∧ Below w.heap.size w w' := by
  obtain ⟨ia, ib, ic, id⟩ := iq
  have hL : lowG q = wrap64 (-gcd4 q.a q.b q.c q.d) := by rw [lowG_eq, if_pos hd]
  rw [hL] at hg
  have hb := beq_eq_false_iff_ne.2 hg
  have HL := Lib.hid hL
  clear hL
  go_enter Tryz.func98, Tryz.ntmps98
  go_wp2_with (go_at_call 67; refine (ggcd_four q.a q.b q.c q.d _ _ _ _ ia ib ic id (by simp [go_sem]) (by simp [go_sem]) (by simp [go_sem]) (by simp [go_sem])).mono ?_; rintro e w1 ⟨rfl, hb1⟩; obtain ⟨hc1, hf1⟩ := bcell hb1)
  go_region
  go_wp2
  rw [quoI_eq, quoI_eq, quoI_eq, quoI_eq, HL.out]
  refine bodyPost_ret (v := .agg #[.int .i64 (wrap64 (q.a.tdiv (wrap64 (-gcd4 q.a q.b q.c q.d)))), .int .i64 (wrap64 (q.b.tdiv (wrap64 (-gcd4 q.a q.b q.c q.d)))), .int .i64 (wrap64 (q.c.tdiv (wrap64 (-gcd4 q.a q.b q.c q.d)))), .int .i64 (wrap64 (q.d.tdiv (wrap64 (-gcd4 q.a q.b q.c q.d))))]) ?_ rfl ⟨rfl, ?_⟩
  · simp [results, Tryz.results98, go_sem, hc1]
  · (repeat (first | exact Below.refl _ _ | refine Below.alloc ?_ (by first | (simp; done) | (simp; omega)) _ | refine Below.setCell ?_ (by first | (simp; done) | (simp; omega)) _ | refine Below.drew ?_)); (try (refine Below.trans ?_ (hb1.mono (by first | (simp; done) | (simp; omega))); repeat (first | exact Below.refl _ _ | refine Below.alloc ?_ (by first | (simp; done) | (simp; omega)) _ | refine Below.setCell ?_ (by first | (simp; done) | (simp; omega)) _ | refine Below.drew ?_)))

set_option maxHeartbeats 400000 in
theorem lowest_pos (q : Q4) (w : World) (iq : q.I64) (hg : ¬ lowG q = 0) (hd : ¬ q.d < 0) :
    Calls Tryz.prog 98 #[.agg #[.int .i64 (q.a), .int .i64 (q.b), .int .i64 (q.c), .int .i64 (q.d)]] w fun e w' => e = .returned (.agg #[.int .i64 (quoI q.a (lowG q)), .int .i64 (quoI q.b (lowG q)), .int .i64 (quoI q.c (lowG q)), .int .i64 (quoI q.d (lowG q))]) ∧ Below w.heap.size w w' := by
  obtain ⟨ia, ib, ic, id⟩ := iq
  have hL : lowG q = gcd4 q.a q.b q.c q.d := by rw [lowG_eq, if_neg hd]
  rw [hL] at hg
  have hb := beq_eq_false_iff_ne.2 hg
  have HL := Lib.hid hL
  clear hL
  go_enter Tryz.func98, Tryz.ntmps98
  go_wp2_with (go_at_call 67; refine (ggcd_four q.a q.b q.c q.d _ _ _ _ ia ib ic id (by simp [go_sem]) (by simp [go_sem]) (by simp [go_sem]) (by simp [go_sem])).mono ?_; rintro e w1 ⟨rfl, hb1⟩; obtain ⟨hc1, hf1⟩ := bcell hb1)
  go_region
  go_wp2
  rw [quoI_eq, quoI_eq, quoI_eq, quoI_eq, HL.out]
  refine bodyPost_ret (v := .agg #[.int .i64 (wrap64 (q.a.tdiv (gcd4 q.a q.b q.c q.d))), .int .i64 (wrap64 (q.b.tdiv (gcd4 q.a q.b q.c q.d))), .int .i64 (wrap64 (q.c.tdiv (gcd4 q.a q.b q.c q.d))), .int .i64 (wrap64 (q.d.tdiv (gcd4 q.a q.b q.c q.d)))]) ?_ rfl ⟨rfl, ?_⟩
  · simp [results, Tryz.results98, go_sem, hc1]
  · (repeat (first | exact Below.refl _ _ | refine Below.alloc ?_ (by first | (simp; done) | (simp; omega)) _ | refine Below.setCell ?_ (by first | (simp; done) | (simp; omega)) _ | refine Below.drew ?_)); (try (refine Below.trans ?_ (hb1.mono (by first | (simp; done) | (simp; omega))); repeat (first | exact Below.refl _ _ | refine Below.alloc ?_ (by first | (simp; done) | (simp; omega)) _ | refine Below.setCell ?_ (by first | (simp; done) | (simp; omega)) _ | refine Below.drew ?_)))

theorem lowest_any (q : Q4) (w : World) (iq : q.I64) (hg : ¬ lowG q = 0) :
    Calls Tryz.prog 98 #[.agg #[.int .i64 (q.a), .int .i64 (q.b), .int .i64 (q.c), .int .i64 (q.d)]] w fun e w' => e = .returned (.agg #[.int .i64 (quoI q.a (lowG q)), .int .i64 (quoI q.b (lowG q)), .int .i64 (quoI q.c (lowG q)), .int .i64 (quoI q.d (lowG q))]) ∧ Below w.heap.size w w' := by
  by_cases h : q.d < 0
  · exact lowest_neg q w iq hg h
  · exact lowest_pos q w iq hg h

end Go.Proofs.YtaoedfegakpjeabGreat
