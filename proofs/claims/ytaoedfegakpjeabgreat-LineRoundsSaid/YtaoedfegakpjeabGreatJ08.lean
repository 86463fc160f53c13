/- Contracts of the functions that the statement reaches, and plain lemmas: part 8 of 25. -/
import Derived.Test.YtaoedfegakpjeabGreatJ07

namespace Go.Proofs.YtaoedfegakpjeabGreat
open Go.RowKit

theorem wdiv_any (x y q : Int) (vx vy : Value) (w : World) (h1 : -10000 < x) (h2 : x < 10000) (h3 : 0 < y) (h4 : y < 10000) (hq : x = y * q) (hq1 : -10000 < q) (hq2 : q < 10000) (hx : NumV x vx w) (hy : NumV y vy w) :
    Calls Tryz.prog 91 #[vx, vy] w fun e w' => (∃ v, e = .returned (.tuple #[v, .agg #[.bool false, .slice none 0 0]]) ∧ NumV q v w') ∧ Below w.heap.size w w' := by
  obtain ⟨ada, la, rfl, hda⟩ := hx.dig
  obtain ⟨adb, lb, rfl, hdb⟩ := hy.dig
  exact wdiv_dig x y q _ _ ada adb la lb w rfl rfl h1 h2 h3 h4 hq hq1 hq2 hda hdb

theorem gcd_lt {a b n : Nat} (ha : a < n) (hb : b < n) : Nat.gcd a b < n := by
  rcases Nat.eq_zero_or_pos a with h | h
  · rw [h, Nat.gcd_zero_left]; exact hb
  · exact Nat.lt_of_le_of_lt (Nat.gcd_le_left b h) ha
theorem quo_lt {g : Nat} {x q : Int} (hg : 0 < g) (l1 : -10000 < x) (l2 : x < 10000) (e : x = g * q) : -10000 < q ∧ q < 10000 := by
  have h : x.natAbs = g * q.natAbs := by rw [e, Int.natAbs_mul]; simp
  have h2 : q.natAbs ≤ x.natAbs := by rw [h]; exact Nat.le_mul_of_pos_left _ hg
  omega
theorem Fr.set2 {o1 o2 : Obj} {rm : List (Nat × Nat)} {w W : World} (h : Fr 2 [(0, o1), (1, o2)] rm w W) {c : Nat} (hc : w.heap.size + 1 < c) (o : Nat) (v : Value) : Fr 2 [(0, o1), (1, o2)] rm w (W.setCell ⟨c, o, none⟩ v) := by
  refine Fr.set h (by show w.heap.size ≤ c; omega) ?_ v
  show (List.lookup (c - w.heap.size) _).isNone = true
  obtain ⟨m, hm⟩ : ∃ m, c - w.heap.size = m + 2 := ⟨c - w.heap.size - 2, by omega⟩
  rw [hm]
  simp [List.lookup]

/-- The block that holds the divisor. -/
structure RedAt (g gb : Nat) (w W : World) : Prop where
  lo : w.heap.size + 1 < gb
  lt : gb < W.heap.size
  num : ∃ n d, NumV (g : Nat) (.agg #[n, d]) W ∧ W.cell? ⟨gb, 0, none⟩ = some n ∧ W.cell? ⟨gb, 1, none⟩ = some d

/-- The world at the head of the loop: the divisor, and the first k quotients. -/
structure RedL (x0 q0 q1 q2 q3 : Int) (g gb ob : Nat) (w : World) (k : Nat) (W : World) : Prop where
  lo : w.heap.size + 1 < gb
  lt : gb < ob
  ol : ob < W.heap.size
  num : ∃ n d, NumV (g : Nat) (.agg #[n, d]) W ∧ W.cell? ⟨gb, 0, none⟩ = some n ∧ W.cell? ⟨gb, 1, none⟩ = some d
  blk : ∃ c : Array Value, c.size = 4 ∧ Blk W ob (.cells c 22)
  e0 : 0 < k → W.cell? ⟨ob, 0, none⟩ = some (.int .i64 q0)
  e1 : 1 < k → W.cell? ⟨ob, 1, none⟩ = some (.int .i64 q1)
  e2 : 2 < k → W.cell? ⟨ob, 2, none⟩ = some (.int .i64 q2)
  e3 : 3 < k → W.cell? ⟨ob, 3, none⟩ = some (.int .i64 q3)

section
variable {x0 q0 q1 q2 q3 : Int} {g gb ob : Nat} {w W W1 : World} {k : Nat}
theorem RedL.below (h : RedL x0 q0 q1 q2 q3 g gb ob w k W) (hb : Below W.heap.size W W1) : RedL x0 q0 q1 q2 q3 g gb ob w k W1 := by
  have l1 := h.ol
  have l2 := h.lt
  obtain ⟨n, d, h1, h2, h3⟩ := h.num
  obtain ⟨c, h4, h5⟩ := h.blk
  have cc : ∀ {b o : Nat} {v : Value}, b < W.heap.size → W.cell? ⟨b, o, none⟩ = some v → W1.cell? ⟨b, o, none⟩ = some v := fun {b o v} hl hc => (hb.cell (p := ⟨b, o, none⟩) hl).trans hc
  exact ⟨h.lo, h.lt, Nat.lt_of_lt_of_le l1 hb.size, ⟨n, d, h1.call hb, cc (by omega) h2, cc (by omega) h3⟩, ⟨c, h4, h5.below hb l1⟩, fun hk => cc l1 (h.e0 hk), fun hk => cc l1 (h.e1 hk), fun hk => cc l1 (h.e2 hk), fun hk => cc l1 (h.e3 hk)⟩
theorem RedL.room (h : RedL x0 q0 q1 q2 q3 g gb ob w k W) : Room W ob 4 := by
  obtain ⟨c, h4, h5⟩ := h.blk
  exact ⟨c, _, h4, h5⟩
theorem RedL.set (h : RedL x0 q0 q1 q2 q3 g gb ob w k W) {j : Nat} {q : Int} (hk : j < 4) (hj : j = k) (hq : (j = 0 → q = q0) ∧ (j = 1 → q = q1) ∧ (j = 2 → q = q2) ∧ (j = 3 → q = q3)) :
    RedL x0 q0 q1 q2 q3 g gb ob w (k + 1) (W.setCell ⟨ob, j, none⟩ (.int .i64 q)) := by
  subst hj
  have hr := h.room
  have l2 := h.lt
  obtain ⟨n, d, h1, h2, h3⟩ := h.num
  obtain ⟨c, h4, h5⟩ := h.blk
  have hn : ¬ IntB W ob := h5.notInt (by decide)
  have hit : (W.setCell ⟨ob, j, none⟩ (.int .i64 q)).cell? ⟨ob, j, none⟩ = some (.int .i64 q) := hr.hit hk
  have off : ∀ {o : Nat} {v : Value}, o ≠ j → W.cell? ⟨ob, o, none⟩ = some v → (W.setCell ⟨ob, j, none⟩ (.int .i64 q)).cell? ⟨ob, o, none⟩ = some v := fun {o v} ho hc => (cell_set_off ho).trans hc
  have oth : ∀ {o : Nat} {v : Value}, W.cell? ⟨gb, o, none⟩ = some v → (W.setCell ⟨ob, j, none⟩ (.int .i64 q)).cell? ⟨gb, o, none⟩ = some v := fun {o v} hc => (cell_set_other (by show gb ≠ ob; omega)).trans hc
  refine ⟨h.lo, h.lt, by simpa [World.setCell] using h.ol, ⟨n, d, h1.set hn, oth h2, oth h3⟩, ?_, fun hh => ?_, fun hh => ?_, fun hh => ?_, fun hh => ?_⟩
  · refine ⟨c.setIfInBounds j (.int .i64 q), by simpa using h4, ?_⟩
    unfold Blk at *
    simp [World.setCell, Array.getElem?_modify, h5]
  · by_cases e : j = 0
    · rw [← hq.1 e]; subst e; exact hit
    · exact off (by omega) (h.e0 (by omega))
  · by_cases e : j = 1
    · rw [← hq.2.1 e]; subst e; exact hit
    · exact off (by omega) (h.e1 (by omega))
  · by_cases e : j = 2
    · rw [← hq.2.2.1 e]; subst e; exact hit
    · exact off (by omega) (h.e2 (by omega))
  · by_cases e : j = 3
    · rw [← hq.2.2.2 e]; subst e; exact hit
    · exact off (by omega) (h.e3 (by omega))
theorem RedL.start {n d : Value} (hlo : w.heap.size + 1 < gb) (hlt : gb < W.heap.size) (hv : NumV (g : Nat) (.agg #[n, d]) W) (c0 : W.cell? ⟨gb, 0, none⟩ = some n) (c1 : W.cell? ⟨gb, 1, none⟩ = some d) (ho : ob = W.heap.size) (c : Array Value) (hc : c.size = 4) :
    RedL x0 q0 q1 q2 q3 g gb ob w 0 (W.alloc (.cells c 22)) := by
  have hb : Below W.heap.size W (W.alloc (.cells c 22)) := (Below.refl _ _).alloc (Nat.le_refl _) _
  subst ho
  exact ⟨hlo, hlt, by simp, ⟨n, d, hv.call hb, (hb.cell (p := ⟨gb, 0, none⟩) hlt).trans c0, (hb.cell (p := ⟨gb, 1, none⟩) hlt).trans c1⟩, ⟨c, hc, by unfold Blk; show (W.heap.push _)[W.heap.size]? = _; simp⟩, by omega, by omega, by omega, by omega⟩
end

-- DEFS1
def red1A (n0 d0 n1 d1 n2 d2 n3 d3 : Value) (s : Nat) (u : Nat → Value) : Act := { tmps := #[.agg #[n0, d0, n1, d1, n2, d2, n3, d3], .pointer (some ⟨s, 0, none⟩), .pointer (some ⟨s + 1, 0, none⟩), .bool false, u 4, undef, undef, undef, undef, undef, undef, u 11, u 12, u 13, u 14, u 15, u 16, u 17, u 18, u 19, u 20, u 21, undef, undef, undef, undef, undef, undef, undef, undef, undef, undef, undef, undef, undef, undef, undef, undef, undef, undef, undef, undef, undef, undef, undef, undef], defers := [] }
def red1S (n0 d0 n1 d1 n2 d2 n3 d3 : Value) (s : Nat) (g1 g2 g : Nat) : Nat → VS
  | 11 => .eq (.pointer (some ⟨s, 0, none⟩))
  | 12 => .eq (.agg #[n0, d0])
  | 13 => .eq (.pointer (some ⟨s, 2, none⟩))
  | 14 => .eq (.agg #[n1, d1])
  | 15 => .num (g1 : Nat)
  | 16 => .eq (.pointer (some ⟨s, 4, none⟩))
  | 17 => .eq (.agg #[n2, d2])
  | 18 => .eq (.pointer (some ⟨s, 6, none⟩))
  | 19 => .eq (.agg #[n3, d3])
  | 20 => .num (g2 : Nat)
  | 21 => .num (g : Nat)
  | _ => .eq undef
-- END1

/-- The parts of a number's value. -/
def numNeg : Value → Value
  | .agg c => c.getD 0 undef
  | _ => undef
def numD : Value → Value
  | .agg c => c.getD 1 undef
  | _ => undef
theorem NumV.parts {z : Int} {v : Value} {W : World} (h : NumV z v W) : v = .agg #[numNeg v, numD v] := by
  obtain ⟨ad, len, rfl, _⟩ := h.dig
  rfl

set_option maxRecDepth 100000 in
set_option maxHeartbeats 4000000 in
theorem reduced_any (x0 x1 x2 x3 : Int) (n0 d0 n1 d1 n2 d2 n3 d3 : Value) (w : World)
    (b0 : -10000 < x0 ∧ x0 < 10000) (b1 : -10000 < x1 ∧ x1 < 10000) (b2 : -10000 < x2 ∧ x2 < 10000) (b3 : -10000 < x3 ∧ x3 < 10000)
    (g g1 g2 : Nat) (hg1 : g1 = Nat.gcd x0.natAbs x1.natAbs) (hg2 : g2 = Nat.gcd x2.natAbs x3.natAbs) (hg : g = Nat.gcd g1 g2) (hg0 : 0 < g) (q0 q1 q2 q3 : Int) (e0 : x0 = g * q0) (e1 : x1 = g * q1) (e2 : x2 = g * q2) (e3 : x3 = g * q3)
    (h0 : NumV x0 (.agg #[n0, d0]) w) (h1 : NumV x1 (.agg #[n1, d1]) w) (h2 : NumV x2 (.agg #[n2, d2]) w) (h3 : NumV x3 (.agg #[n3, d3]) w) :
    Calls Tryz.prog 64 #[.agg #[n0, d0, n1, d1, n2, d2, n3, d3]] w fun e w' => e = .returned (.tuple #[.agg #[.int .i64 q0, .int .i64 q1, .int .i64 q2, .int .i64 q3], .bool true]) ∧ Below w.heap.size w w' := by
  have H0 := Lib.hid h0
  have H1 := Lib.hid h1
  have H2 := Lib.hid h2
  have H3 := Lib.hid h3
  clear h0 h1 h2 h3
  have HA : Hid (∀ W va vb, NumV x0 va W → NumV x1 vb W → Calls Tryz.prog 90 #[va, vb] W fun e w' => (∃ v, e = .returned v ∧ NumV (g1 : Nat) v w') ∧ Below W.heap.size W w') := fun W va vb ha hb => by rw [hg1]; exact wgcd_any x0 x1 va vb W b0.1 b0.2 b1.1 b1.2 ha hb
  have HB : Hid (∀ W va vb, NumV x2 va W → NumV x3 vb W → Calls Tryz.prog 90 #[va, vb] W fun e w' => (∃ v, e = .returned v ∧ NumV (g2 : Nat) v w') ∧ Below W.heap.size W w') := fun W va vb ha hb => by rw [hg2]; exact wgcd_any x2 x3 va vb W b2.1 b2.2 b3.1 b3.2 ha hb
  have hle1 : g1 < 10000 := by rw [hg1]; exact gcd_lt (by omega) (by omega)
  have hle2 : g2 < 10000 := by rw [hg2]; exact gcd_lt (by omega) (by omega)
  have HC : Hid (∀ W va vb, NumV (g1 : Nat) va W → NumV (g2 : Nat) vb W → Calls Tryz.prog 90 #[va, vb] W fun e w' => (∃ v, e = .returned v ∧ NumV (g : Nat) v w') ∧ Below W.heap.size W w') := fun W va vb ha hb => by rw [hg]; exact wgcd_any g1 g2 va vb W (by omega) (by omega) (by omega) (by omega) ha hb
  have q_lt : ∀ {x q : Int}, -10000 < x → x < 10000 → x = g * q → -10000 < q ∧ q < 10000 := fun {x q} l1 l2 e => quo_lt hg0 l1 l2 e
  have hgl : (g : Int) < 10000 := by have : g < 10000 := (by rw [hg]; exact gcd_lt hle1 hle2); omega
  have HD0 : Hid (∀ W va vb, NumV x0 va W → NumV (g : Nat) vb W → Calls Tryz.prog 91 #[va, vb] W fun e w' => (∃ v, e = .returned (.tuple #[v, .agg #[.bool false, .slice none 0 0]]) ∧ NumV q0 v w') ∧ Below W.heap.size W w') := fun W va vb ha hb => wdiv_any x0 g q0 va vb W b0.1 b0.2 (by omega) hgl e0 (q_lt b0.1 b0.2 e0).1 (q_lt b0.1 b0.2 e0).2 ha hb
  have HD1 : Hid (∀ W va vb, NumV x1 va W → NumV (g : Nat) vb W → Calls Tryz.prog 91 #[va, vb] W fun e w' => (∃ v, e = .returned (.tuple #[v, .agg #[.bool false, .slice none 0 0]]) ∧ NumV q1 v w') ∧ Below W.heap.size W w') := fun W va vb ha hb => wdiv_any x1 g q1 va vb W b1.1 b1.2 (by omega) hgl e1 (q_lt b1.1 b1.2 e1).1 (q_lt b1.1 b1.2 e1).2 ha hb
  have HD2 : Hid (∀ W va vb, NumV x2 va W → NumV (g : Nat) vb W → Calls Tryz.prog 91 #[va, vb] W fun e w' => (∃ v, e = .returned (.tuple #[v, .agg #[.bool false, .slice none 0 0]]) ∧ NumV q2 v w') ∧ Below W.heap.size W w') := fun W va vb ha hb => wdiv_any x2 g q2 va vb W b2.1 b2.2 (by omega) hgl e2 (q_lt b2.1 b2.2 e2).1 (q_lt b2.1 b2.2 e2).2 ha hb
  have HD3 : Hid (∀ W va vb, NumV x3 va W → NumV (g : Nat) vb W → Calls Tryz.prog 91 #[va, vb] W fun e w' => (∃ v, e = .returned (.tuple #[v, .agg #[.bool false, .slice none 0 0]]) ∧ NumV q3 v w') ∧ Below W.heap.size W w') := fun W va vb ha hb => wdiv_any x3 g q3 va vb W b3.1 b3.2 (by omega) hgl e3 (q_lt b3.1 b3.2 e3).1 (q_lt b3.1 b3.2 e3).2 ha hb
  have HI0 : Hid (∀ W v, NumV q0 v W → Calls Tryz.prog 92 #[v] W fun e w' => e = .returned (.tuple #[.int .i64 q0, .bool true]) ∧ Below W.heap.size W w') := fun W v h => wint_any q0 v W (q_lt b0.1 b0.2 e0).1 (q_lt b0.1 b0.2 e0).2 h
  have HI1 : Hid (∀ W v, NumV q1 v W → Calls Tryz.prog 92 #[v] W fun e w' => e = .returned (.tuple #[.int .i64 q1, .bool true]) ∧ Below W.heap.size W w') := fun W v h => wint_any q1 v W (q_lt b1.1 b1.2 e1).1 (q_lt b1.1 b1.2 e1).2 h
  have HI2 : Hid (∀ W v, NumV q2 v W → Calls Tryz.prog 92 #[v] W fun e w' => e = .returned (.tuple #[.int .i64 q2, .bool true]) ∧ Below W.heap.size W w') := fun W v h => wint_any q2 v W (q_lt b2.1 b2.2 e2).1 (q_lt b2.1 b2.2 e2).2 h
  have HI3 : Hid (∀ W v, NumV q3 v W → Calls Tryz.prog 92 #[v] W fun e w' => e = .returned (.tuple #[.int .i64 q3, .bool true]) ∧ Below W.heap.size W w') := fun W v h => wint_any q3 v W (q_lt b3.1 b3.2 e3).1 (q_lt b3.1 b3.2 e3).2 h
  clear hg1 hg2 hg e0 e1 e2 e3 q_lt hgl
  go_enter Tryz.func64, Tryz.ntmps64
  have hE : ∀ W, Fr 2 [(0, .cells #[n0, d0, n1, d1, n2, d2, n3, d3] 111), (1, .cells #[.int .i64 0, .int .i64 0, .int .i64 0, .int .i64 0] 22)] [(0, 8), (1, 4)] w W → (W.cell? ⟨w.heap.size, 0, none⟩ = some (n0) ∧ W.cell? ⟨w.heap.size, 1, none⟩ = some (d0) ∧ W.cell? ⟨w.heap.size, 2, none⟩ = some (n1) ∧ W.cell? ⟨w.heap.size, 3, none⟩ = some (d1) ∧ W.cell? ⟨w.heap.size, 4, none⟩ = some (n2) ∧ W.cell? ⟨w.heap.size, 5, none⟩ = some (d2) ∧ W.cell? ⟨w.heap.size, 6, none⟩ = some (n3) ∧ W.cell? ⟨w.heap.size, 7, none⟩ = some (d3) ∧ (∀ o, o < 8 → W.frozen? ⟨w.heap.size, o, none⟩ = false) ∧ W.cell? ⟨w.heap.size + 1, 0, none⟩ = some (.int .i64 0) ∧ W.cell? ⟨w.heap.size + 1, 1, none⟩ = some (.int .i64 0) ∧ W.cell? ⟨w.heap.size + 1, 2, none⟩ = some (.int .i64 0) ∧ W.cell? ⟨w.heap.size + 1, 3, none⟩ = some (.int .i64 0) ∧ (∀ o, o < 4 → W.frozen? ⟨w.heap.size + 1, o, none⟩ = false)) := fun W h => by (repeat' apply And.intro) <;> first | exact h.at0 rfl | exact h.at rfl | exact (h.rms0 rfl).cell | exact (h.rms rfl).cell | exact (h.rms0 rfl).frozen | exact (h.rms rfl).frozen
  have HE := Lib.hid hE
  clear hE
  go_wp2
  go_cut [4] (fun s4 wx => ∃ gb, s4 = .pointer (some ⟨gb, 0, none⟩) ∧ RedAt g gb w wx ∧ Fr 2 [(0, .cells #[n0, d0, n1, d1, n2, d2, n3, d3] 111), (1, .cells #[.int .i64 0, .int .i64 0, .int .i64 0, .int .i64 0] 22)] [(0, 8), (1, 4)] w wx)
  case first =>
    have hF0 : Fr 2 [(0, .cells #[n0, d0, n1, d1, n2, d2, n3, d3] 111), (1, .cells #[.int .i64 0, .int .i64 0, .int .i64 0, .int .i64 0] 22)] [(0, 8), (1, 4)] w _ := (((Fr.nil w).bothy (by simp) #[n0, d0, n1, d1, n2, d2, n3, d3] 111).bothy (by simp) #[.int .i64 0, .int .i64 0, .int .i64 0, .int .i64 0] 22)
    obtain ⟨W, hW⟩ : ∃ W, W = (w.alloc (.cells #[n0, d0, n1, d1, n2, d2, n3, d3] 111)).alloc (.cells #[.int .i64 0, .int .i64 0, .int .i64 0, .int .i64 0] 22) := ⟨_, rfl⟩
    rw [← hW] at hF0 ⊢
    clear hW
    have hRg : ∀ (n : Nat), n = w.heap.size → True := fun _ _ => trivial
    refine wp_region_inv (by kernel_rfl) (by kernel_rfl) (fun listed a wr => ∃ u : Nat → Value, a = red1A n0 d0 n1 d1 n2 d2 n3 d3 w.heap.size u ∧ RgP W.drew (red1S n0 d0 n1 d1 n2 d2 n3 d3 w.heap.size g1 g2 g) (fun _ => .num (g : Nat)) [(0, 11), (1, 12), (2, 13), (3, 14), (4, 15), (5, 16), (6, 17), (7, 18), (8, 19), (9, 20), (10, 21)] [(11, 4, 12)] listed u wr) ⟨fun _ => undef, rfl, RgP.start _ _⟩ ?_ ?_
    rotate_left
    · rintro listed hs i hi a wr ⟨u, rfl, hR⟩ hr
      simp only [red1A]
      match i, hi, hr with
-- OPS1
      | 0, _, hr =>
        as_aux_lemma =>
        refine wpOp_step rfl (fun K' hK => ?_)
        go_simp
        exact hK _ _ ⟨upd u 11 _, rfl, hR.yields (Below.refl _ _) rfl rfl rfl⟩
      | 1, _, hr =>
        as_aux_lemma =>
        refine wpOp_step rfl (fun K' hK => ?_)
        have e0 : u 11 = .pointer (some ⟨w.heap.size, 0, none⟩) := hR.val (0, 11) (by simp) (dep_of hr 0 (by kernel_rfl))
        have hqr := HE.out _ (hF0.drew.call hR.below)
        go_simp
        exact hK _ _ ⟨upd u 12 _, by simp [upd, e0], hR.yields (Below.refl _ _) rfl rfl rfl⟩
      | 2, _, hr =>
        as_aux_lemma =>
        refine wpOp_step rfl (fun K' hK => ?_)
        go_simp
        exact hK _ _ ⟨upd u 13 _, rfl, hR.yields (Below.refl _ _) rfl rfl rfl⟩
      | 3, _, hr =>
        as_aux_lemma =>
        refine wpOp_step rfl (fun K' hK => ?_)
        have e0 : u 13 = .pointer (some ⟨w.heap.size, 2, none⟩) := hR.val (2, 13) (by simp) (dep_of hr 2 (by kernel_rfl))
        have hqr := HE.out _ (hF0.drew.call hR.below)
        go_simp
        exact hK _ _ ⟨upd u 14 _, by simp [upd, e0], hR.yields (Below.refl _ _) rfl rfl rfl⟩
      | 4, _, hr =>
        as_aux_lemma =>
        refine wpOp_step rfl (fun K' hK => ?_)
        have e1 : u 12 = .agg #[n0, d0] := hR.val (1, 12) (by simp) (dep_of hr 1 (by kernel_rfl))
        have e2 : u 14 = .agg #[n1, d1] := hR.val (3, 14) (by simp) (dep_of hr 3 (by kernel_rfl))
        go_simp
        refine (HA.out wr _ _ (H0.out.below (Nat.le_refl _) (hF0.drew.call hR.below).own.below) (H1.out.below (Nat.le_refl _) (hF0.drew.call hR.below).own.below)).mono ?_
        rintro e w1 ⟨⟨v, rfl, hv⟩, hb1⟩
        exact hK _ _ ⟨upd u 15 v, by simp [upd, e1, e2], hR.yields hb1 hv rfl rfl⟩
      | 5, _, hr =>
        as_aux_lemma =>
        refine wpOp_step rfl (fun K' hK => ?_)
        go_simp
        exact hK _ _ ⟨upd u 16 _, rfl, hR.yields (Below.refl _ _) rfl rfl rfl⟩
      | 6, _, hr =>
        as_aux_lemma =>
        refine wpOp_step rfl (fun K' hK => ?_)
        have e0 : u 16 = .pointer (some ⟨w.heap.size, 4, none⟩) := hR.val (5, 16) (by simp) (dep_of hr 5 (by kernel_rfl))
        have hqr := HE.out _ (hF0.drew.call hR.below)
        go_simp
        exact hK _ _ ⟨upd u 17 _, by simp [upd, e0], hR.yields (Below.refl _ _) rfl rfl rfl⟩
      | 7, _, hr =>
        as_aux_lemma =>
        refine wpOp_step rfl (fun K' hK => ?_)
        go_simp
        exact hK _ _ ⟨upd u 18 _, rfl, hR.yields (Below.refl _ _) rfl rfl rfl⟩
      | 8, _, hr =>
        as_aux_lemma =>
        refine wpOp_step rfl (fun K' hK => ?_)
        have e0 : u 18 = .pointer (some ⟨w.heap.size, 6, none⟩) := hR.val (7, 18) (by simp) (dep_of hr 7 (by kernel_rfl))
        have hqr := HE.out _ (hF0.drew.call hR.below)
        go_simp
        exact hK _ _ ⟨upd u 19 _, by simp [upd, e0], hR.yields (Below.refl _ _) rfl rfl rfl⟩
      | 9, _, hr =>
        as_aux_lemma =>
        refine wpOp_step rfl (fun K' hK => ?_)
        have e1 : u 17 = .agg #[n2, d2] := hR.val (6, 17) (by simp) (dep_of hr 6 (by kernel_rfl))
        have e2 : u 19 = .agg #[n3, d3] := hR.val (8, 19) (by simp) (dep_of hr 8 (by kernel_rfl))
        go_simp
        refine (HB.out wr _ _ (H2.out.below (Nat.le_refl _) (hF0.drew.call hR.below).own.below) (H3.out.below (Nat.le_refl _) (hF0.drew.call hR.below).own.below)).mono ?_
        rintro e w1 ⟨⟨v, rfl, hv⟩, hb1⟩
        exact hK _ _ ⟨upd u 20 v, by simp [upd, e1, e2], hR.yields hb1 hv rfl rfl⟩
      | 10, _, hr =>
        as_aux_lemma =>
        refine wpOp_step rfl (fun K' hK => ?_)
        have e1 := hR.val (4, 15) (by simp) (dep_of hr 4 (by kernel_rfl))
        have e2 := hR.val (9, 20) (by simp) (dep_of hr 9 (by kernel_rfl))
        have e1 := Lib.hid e1
        have e2 := Lib.hid e2
        go_simp
        refine (HC.out wr _ _ e1.out e2.out).mono ?_
        rintro e w1 ⟨⟨v, rfl, hv⟩, hb1⟩
        exact hK _ _ ⟨upd u 21 v, rfl, hR.yields hb1 hv rfl rfl⟩
      | 11, _, hr =>
        as_aux_lemma =>
        refine wpOp_step rfl (fun K' hK => ?_)
        go_simp
        exact hK _ _ ⟨upd u 4 _, rfl, hR.makes rfl (ready_spec.1 hr).2.1 rfl rfl⟩
      | 12, _, hr =>
        as_aux_lemma =>
        refine wpOp_step rfl (fun K' hK => ?_)
        have hl := dep_of hr 11 (by kernel_rfl)
        obtain ⟨b, c, eb, _, hn, _⟩ := hR.ali (11, 4, 12) (by simp) hl
        have hv : NumV (g : Int) (u 21) wr := hR.val (10, 21) (by simp) (dep_of hr 10 (by kernel_rfl))
        obtain ⟨ad, len, ev, _⟩ := hv.digN
        have hrm : Room wr b 2 := ⟨c, _, hn.1, hn.2⟩
        rw [ev] at hv
        have HV := Lib.hid hv
        have HN := Lib.hid hn
        clear hv hn
        have rc := hrm.cell
        have rf := hrm.frozen
        go_simp
        exact hK _ _ ⟨u, by simp [ev, eb], hR.stores (k := 11) (d := 4) hl eb HV.out rfl⟩
-- ENDOPS1
    · rintro listed a W2 ⟨u, rfl, hR⟩ hl
      simp only [red1A]
      obtain ⟨b, c, eb, hlo, hn, hv⟩ := hR.ali (11, 4, 12) (by simp) (hl 11 (by decide))
      have hv : NumV (g : Int) (.agg c) W2 := hv (hl 12 (by decide))
      have hF2 := hF0.drew.call hR.below
      have HS := Lib.hid (show w.heap.size + 1 < b by have := hF0.own.size; simp at hlo; omega)
      have HN := Lib.hid hn
      have HV := Lib.hid hv
      have HF := Lib.hid hF2
      have HEB := Lib.hid eb
      clear hv hn hF2 eb hR hl hlo hF0
      go_wp2_with fail
      go_meet
      refine ⟨b, HEB.out, ⟨HS.out, HN.out.2.lt, ?_⟩, HF.out⟩
      obtain ⟨h1, h2⟩ := HN.out
      have hv := HV.out
      unfold Blk at h2
      match c, h1 with
      | ⟨[p, q]⟩, _ => exact ⟨p, q, hv, by simp [World.cell?, h2], by simp [World.cell?, h2]⟩
  case rest =>
    obtain ⟨gb, rfl, hG, hF⟩ := hcut
    rename World => W
    have HG := Lib.hid hG
    clear hG HA HB HC
    go_wp2
    obtain ⟨ob, hob⟩ : ∃ ob, ob = W.heap.size := ⟨_, rfl⟩
    have HL : RedL x0 q0 q1 q2 q3 g gb ob w 0 (W.alloc (.cells #[.int .i64 0, .int .i64 0, .int .i64 0, .int .i64 0] 22)) := by
      obtain ⟨hlo, hlt, ng, dg, hvg, c0, c1⟩ := HG.out
      exact RedL.start hlo hlt hvg c0 c1 hob _ rfl
    rw [← hob]
    rw [← hob] at *
    go_loopw [6] (fun v wr => ∃ k : Nat, k ≤ 4 ∧ v = .int .i64 k ∧ Fr 2 [(0, .cells #[n0, d0, n1, d1, n2, d2, n3, d3] 111), (1, .cells #[.int .i64 0, .int .i64 0, .int .i64 0, .int .i64 0] 22)] [(0, 8), (1, 4)] w wr ∧ RedL x0 q0 q1 q2 q3 g gb ob w k wr) (fun v _ => 4 - (intOf v).toNat)
    case atStart => exact ⟨0, by omega, rfl, hF.alloc _, HL⟩
    case round =>
      rename_i wr
      obtain ⟨k, hk, rfl, hF1, hL⟩ := hrel
      clear hF HL HG
      match k, hk with
-- OPS2
      | 0, _ =>
        have hq := HE.out _ hF1
        obtain ⟨ng, dg, hvg, cg0, cg1⟩ := hL.num
        have hgb : gb < wr.heap.size := Nat.lt_trans hL.lt hL.ol
        have HVG := Lib.hid hvg
        have HL1 := Lib.hid hL
        clear hvg hL
        go_wp2
        clear hq
        refine wp_region_inv (by kernel_rfl) (by kernel_rfl) (fun listed a wy => ∃ u : Nat → Value, a = { tmps := #[.agg #[n0, d0, n1, d1, n2, d2, n3, d3], .pointer (some ⟨w.heap.size, 0, none⟩), .pointer (some ⟨w.heap.size + 1, 0, none⟩), u3, .pointer (some ⟨gb, 0, none⟩), .pointer (some ⟨ob, 0, none⟩), .int .i64 0, u 7, u 8, u9, u10, u11, u12, u13, u14, u15, u16, u17, u18, u19, u20, u21, .int .i64 0, .bool true, u24, u25, u 26, u 27, u 28, u 29, u 30, u 31, u 32, u 33, u34, u35, u36, u37, u38, u39, u40, u41, u42, u43, u44, u45], defers := [] } ∧ RgP wr.drew (fun d => match d with | 27 => .eq (.int .i64 0) | 28 => .eq (.pointer (some ⟨w.heap.size, 0, none⟩)) | 29 => .eq (.agg #[n0, d0]) | 30 => .eq (.agg #[ng, dg]) | 31 => .duo q0 | 26 => .duo q0 | 32 => .num q0 | 33 => .eq (.agg #[.bool false, .slice none 0 0]) | _ => .eq undef) (fun d => match d with | 7 => .num q0 | _ => .eq (.agg #[.bool false, .slice none 0 0])) [(0, 27), (1, 28), (2, 29), (3, 30), (4, 31), (5, 26), (6, 32), (7, 33)] [(8, 7, 10), (9, 8, 11)] listed u wy) ⟨fun d => match d with | 7 => u7 | 8 => u8 | 26 => u26 | 27 => u27 | 28 => u28 | 29 => u29 | 30 => u30 | 31 => u31 | 32 => u32 | 33 => u33 | _ => undef, rfl, RgP.start _ _⟩ ?_ ?_
        rotate_left
        · rintro listed hs i hi a wy ⟨u, rfl, hR⟩ hr
          match i, hi, hr with
          | 0, _, hr =>
            as_aux_lemma =>
            refine wpOp_step rfl (fun K' hK => ?_)
            go_simp
            exact hK _ _ ⟨upd u 27 _, rfl, hR.yields (Below.refl _ _) rfl rfl rfl⟩
          | 1, _, hr =>
            as_aux_lemma =>
            refine wpOp_step rfl (fun K' hK => ?_)
            have e0 : u 27 = .int .i64 0 := hR.val (0, 27) (by simp) (dep_of hr 0 (by kernel_rfl))
            go_simp
            exact hK _ _ ⟨upd u 28 _, by simp [upd, e0], hR.yields (Below.refl _ _) rfl rfl rfl⟩
          | 2, _, hr =>
            as_aux_lemma =>
            refine wpOp_step rfl (fun K' hK => ?_)
            have e0 : u 28 = .pointer (some ⟨w.heap.size, 0, none⟩) := hR.val (1, 28) (by simp) (dep_of hr 1 (by kernel_rfl))
            have hqr := HE.out _ (hF1.drew.call hR.below)
            go_simp
            exact hK _ _ ⟨upd u 29 _, by simp [upd, e0], hR.yields (Below.refl _ _) rfl rfl rfl⟩
          | 3, _, hr =>
            as_aux_lemma =>
            refine wpOp_step rfl (fun K' hK => ?_)
            have g0 := (hR.below.cell (p := ⟨gb, 0, none⟩) hgb).trans cg0
            have g1 := (hR.below.cell (p := ⟨gb, 1, none⟩) hgb).trans cg1
            skip
            go_simp
            exact hK _ _ ⟨upd u 30 _, rfl, hR.yields (Below.refl _ _) rfl rfl rfl⟩
          | 4, _, hr =>
            as_aux_lemma =>
            refine wpOp_step rfl (fun K' hK => ?_)
            have e1 : u 29 = .agg #[n0, d0] := hR.val (2, 29) (by simp) (dep_of hr 2 (by kernel_rfl))
            have e2 : u 30 = .agg #[ng, dg] := hR.val (3, 30) (by simp) (dep_of hr 3 (by kernel_rfl))
            go_simp
            refine (HD0.out wy _ _ (H0.out.below (Nat.le_refl _) (hF1.drew.call hR.below).own.below) ((HVG.out.below (Nat.le_refl _) (Below.refl _ _).drew).call hR.below)).mono ?_
            rintro e w1 ⟨⟨v, rfl, hv⟩, hb1⟩
            exact hK _ _ ⟨upd u 31 _, by simp [upd, e1, e2], hR.yields hb1 ⟨v, rfl, hv⟩ rfl rfl⟩
          | 5, _, hr =>
            as_aux_lemma =>
            refine wpOp_step rfl (fun K' hK => ?_)
            have hv := hR.val (4, 31) (by simp) (dep_of hr 4 (by kernel_rfl))
            have hv := Lib.hid hv
            go_simp
            exact hK _ _ ⟨upd u 26 (u 31), rfl, hR.yields (Below.refl _ _) hv.out rfl rfl⟩
          | 6, _, hr =>
            as_aux_lemma =>
            refine wpOp_step rfl (fun K' hK => ?_)
            obtain ⟨v, ev, hv⟩ : ∃ v, u 26 = .tuple #[v, .agg #[.bool false, .slice none 0 0]] ∧ NumV q0 v wy := hR.val (5, 26) (by simp) (dep_of hr 5 (by kernel_rfl))
            have hv := Lib.hid hv
            go_simp
            exact hK _ _ ⟨upd u 32 v, by simp [upd, ev], hR.yields (Below.refl _ _) hv.out rfl rfl⟩
          | 7, _, hr =>
            as_aux_lemma =>
            refine wpOp_step rfl (fun K' hK => ?_)
            obtain ⟨v, ev, hv⟩ : ∃ v, u 26 = .tuple #[v, .agg #[.bool false, .slice none 0 0]] ∧ NumV q0 v wy := hR.val (5, 26) (by simp) (dep_of hr 5 (by kernel_rfl))
            clear hv
            go_simp
            exact hK _ _ ⟨upd u 33 _, by simp [upd, ev], hR.yields (Below.refl _ _) rfl rfl rfl⟩
          | 8, _, hr =>
            as_aux_lemma =>
            refine wpOp_step rfl (fun K' hK => ?_)
            go_simp
            exact hK _ _ ⟨upd u 7 _, rfl, hR.makes rfl (ready_spec.1 hr).2.1 rfl rfl⟩
          | 9, _, hr =>
            as_aux_lemma =>
            refine wpOp_step rfl (fun K' hK => ?_)
            go_simp
            exact hK _ _ ⟨upd u 8 _, rfl, hR.makes rfl (ready_spec.1 hr).2.1 rfl rfl⟩
          | 10, _, hr =>
            as_aux_lemma =>
            refine wpOp_step rfl (fun K' hK => ?_)
            have hl := dep_of hr 8 (by kernel_rfl)
            obtain ⟨b, c, eb, _, hn, _⟩ := hR.ali (8, 7, 10) (by simp) hl
            have hv : NumV q0 (u 32) wy := hR.val (6, 32) (by simp) (dep_of hr 6 (by kernel_rfl))
            obtain ⟨ad, len, ev, _⟩ := hv.dig
            have hrm : Room wy b 2 := ⟨c, _, hn.1, hn.2⟩
            rw [ev] at hv
            have HV := Lib.hid hv
            clear hv hn
            have rc := hrm.cell
            have rf := hrm.frozen
            go_simp
            exact hK _ _ ⟨u, by simp [ev, eb], hR.stores (k := 8) (d := 7) hl eb HV.out rfl⟩
          | 11, _, hr =>
            as_aux_lemma =>
            refine wpOp_step rfl (fun K' hK => ?_)
            have hl := dep_of hr 9 (by kernel_rfl)
            obtain ⟨b, c, eb, _, hn, _⟩ := hR.ali (9, 8, 11) (by simp) hl
            have ev : u 33 = .agg #[.bool false, .slice none 0 0] := hR.val (7, 33) (by simp) (dep_of hr 7 (by kernel_rfl))
            have hrm : Room wy b 2 := ⟨c, _, hn.1, hn.2⟩
            clear hn
            have rc := hrm.cell
            have rf := hrm.frozen
            go_simp
            exact hK _ _ ⟨u, by simp [ev, eb], hR.stores (k := 9) (d := 8) hl eb rfl rfl⟩
        · rintro listed a W2 ⟨u, rfl, hR⟩ hl
          obtain ⟨b, c, eb, hlo, hn, hv⟩ := hR.ali (8, 7, 10) (by simp) (hl 8 (by decide))
          have hv : NumV q0 (.agg c) W2 := hv (hl 10 (by decide))
          obtain ⟨ad, len, ec, _⟩ := hv.dig
          have ec : c = #[.bool (decide (q0 < 0)), .slice ad len len] := by simpa using ec
          subst ec
          have hb : b < W2.heap.size := hn.2.lt
          have c0 : W2.cell? ⟨b, 0, none⟩ = some (.bool (decide (q0 < 0))) := by have h2 := hn.2; unfold Blk at h2; simp [World.cell?, h2]
          have c1 : W2.cell? ⟨b, 1, none⟩ = some (.slice ad len len) := by have h2 := hn.2; unfold Blk at h2; simp [World.cell?, h2]
          have hF2 := hF1.drew.call hR.below
          have hL2 : RedL x0 q0 q1 q2 q3 g gb ob w 0 W2 := (HL1.out.below (Below.refl _ _).drew).below hR.below
          have HV := Lib.hid hv
          simp only [eb]
          clear hR hl hn hv eb hlo hF1 cg0 cg1 HVG HL1 hgb
          go_wp2_with fail
          ((with_reducible refine (HI0.out _ _ HV.out).mono ?_); rintro e w3 ⟨rfl, hb3⟩)
          have hF3 := hF2.call hb3
          have hL3 := hL2.below hb3
          have rc := hL3.room.cell
          have rf := hL3.room.frozen
          have HL3 := Lib.hid hL3
          have hol := hL3.ol
          have hlo := hL3.lo
          have hlt := hL3.lt
          clear hF2 hL2 hb3 c0 c1 hb HV hL3
          go_wp2
          go_roundw
          case rel => exact ⟨1, by omega, rfl, hF3.set2 (by omega) _ _, HL3.out.set (by omega) rfl (by simp)⟩
          case measure => simp [intOf]
      | 1, _ =>
        have hq := HE.out _ hF1
        obtain ⟨ng, dg, hvg, cg0, cg1⟩ := hL.num
        have hgb : gb < wr.heap.size := Nat.lt_trans hL.lt hL.ol
        have HVG := Lib.hid hvg
        have HL1 := Lib.hid hL
        clear hvg hL
        go_wp2
        clear hq
        refine wp_region_inv (by kernel_rfl) (by kernel_rfl) (fun listed a wy => ∃ u : Nat → Value, a = { tmps := #[.agg #[n0, d0, n1, d1, n2, d2, n3, d3], .pointer (some ⟨w.heap.size, 0, none⟩), .pointer (some ⟨w.heap.size + 1, 0, none⟩), u3, .pointer (some ⟨gb, 0, none⟩), .pointer (some ⟨ob, 0, none⟩), .int .i64 1, u 7, u 8, u9, u10, u11, u12, u13, u14, u15, u16, u17, u18, u19, u20, u21, .int .i64 1, .bool true, u24, u25, u 26, u 27, u 28, u 29, u 30, u 31, u 32, u 33, u34, u35, u36, u37, u38, u39, u40, u41, u42, u43, u44, u45], defers := [] } ∧ RgP wr.drew (fun d => match d with | 27 => .eq (.int .i64 1) | 28 => .eq (.pointer (some ⟨w.heap.size, 2, none⟩)) | 29 => .eq (.agg #[n1, d1]) | 30 => .eq (.agg #[ng, dg]) | 31 => .duo q1 | 26 => .duo q1 | 32 => .num q1 | 33 => .eq (.agg #[.bool false, .slice none 0 0]) | _ => .eq undef) (fun d => match d with | 7 => .num q1 | _ => .eq (.agg #[.bool false, .slice none 0 0])) [(0, 27), (1, 28), (2, 29), (3, 30), (4, 31), (5, 26), (6, 32), (7, 33)] [(8, 7, 10), (9, 8, 11)] listed u wy) ⟨fun d => match d with | 7 => u7 | 8 => u8 | 26 => u26 | 27 => u27 | 28 => u28 | 29 => u29 | 30 => u30 | 31 => u31 | 32 => u32 | 33 => u33 | _ => undef, rfl, RgP.start _ _⟩ ?_ ?_
        rotate_left
        · rintro listed hs i hi a wy ⟨u, rfl, hR⟩ hr
          match i, hi, hr with
          | 0, _, hr =>
            as_aux_lemma =>
            refine wpOp_step rfl (fun K' hK => ?_)
            go_simp
            exact hK _ _ ⟨upd u 27 _, rfl, hR.yields (Below.refl _ _) rfl rfl rfl⟩
          | 1, _, hr =>
            as_aux_lemma =>
            refine wpOp_step rfl (fun K' hK => ?_)
            have e0 : u 27 = .int .i64 1 := hR.val (0, 27) (by simp) (dep_of hr 0 (by kernel_rfl))
            go_simp
            exact hK _ _ ⟨upd u 28 _, by simp [upd, e0], hR.yields (Below.refl _ _) rfl rfl rfl⟩
          | 2, _, hr =>
            as_aux_lemma =>
            refine wpOp_step rfl (fun K' hK => ?_)
            have e0 : u 28 = .pointer (some ⟨w.heap.size, 2, none⟩) := hR.val (1, 28) (by simp) (dep_of hr 1 (by kernel_rfl))
            have hqr := HE.out _ (hF1.drew.call hR.below)
            go_simp
            exact hK _ _ ⟨upd u 29 _, by simp [upd, e0], hR.yields (Below.refl _ _) rfl rfl rfl⟩
          | 3, _, hr =>
            as_aux_lemma =>
            refine wpOp_step rfl (fun K' hK => ?_)
            have g0 := (hR.below.cell (p := ⟨gb, 0, none⟩) hgb).trans cg0
            have g1 := (hR.below.cell (p := ⟨gb, 1, none⟩) hgb).trans cg1
            skip
            go_simp
            exact hK _ _ ⟨upd u 30 _, rfl, hR.yields (Below.refl _ _) rfl rfl rfl⟩
          | 4, _, hr =>
            as_aux_lemma =>
            refine wpOp_step rfl (fun K' hK => ?_)
            have e1 : u 29 = .agg #[n1, d1] := hR.val (2, 29) (by simp) (dep_of hr 2 (by kernel_rfl))
            have e2 : u 30 = .agg #[ng, dg] := hR.val (3, 30) (by simp) (dep_of hr 3 (by kernel_rfl))
            go_simp
            refine (HD1.out wy _ _ (H1.out.below (Nat.le_refl _) (hF1.drew.call hR.below).own.below) ((HVG.out.below (Nat.le_refl _) (Below.refl _ _).drew).call hR.below)).mono ?_
            rintro e w1 ⟨⟨v, rfl, hv⟩, hb1⟩
            exact hK _ _ ⟨upd u 31 _, by simp [upd, e1, e2], hR.yields hb1 ⟨v, rfl, hv⟩ rfl rfl⟩
          | 5, _, hr =>
            as_aux_lemma =>
            refine wpOp_step rfl (fun K' hK => ?_)
            have hv := hR.val (4, 31) (by simp) (dep_of hr 4 (by kernel_rfl))
            have hv := Lib.hid hv
            go_simp
            exact hK _ _ ⟨upd u 26 (u 31), rfl, hR.yields (Below.refl _ _) hv.out rfl rfl⟩
          | 6, _, hr =>
            as_aux_lemma =>
            refine wpOp_step rfl (fun K' hK => ?_)
            obtain ⟨v, ev, hv⟩ : ∃ v, u 26 = .tuple #[v, .agg #[.bool false, .slice none 0 0]] ∧ NumV q1 v wy := hR.val (5, 26) (by simp) (dep_of hr 5 (by kernel_rfl))
            have hv := Lib.hid hv
            go_simp
            exact hK _ _ ⟨upd u 32 v, by simp [upd, ev], hR.yields (Below.refl _ _) hv.out rfl rfl⟩
          | 7, _, hr =>
            as_aux_lemma =>
            refine wpOp_step rfl (fun K' hK => ?_)
            obtain ⟨v, ev, hv⟩ : ∃ v, u 26 = .tuple #[v, .agg #[.bool false, .slice none 0 0]] ∧ NumV q1 v wy := hR.val (5, 26) (by simp) (dep_of hr 5 (by kernel_rfl))
            clear hv
            go_simp
            exact hK _ _ ⟨upd u 33 _, by simp [upd, ev], hR.yields (Below.refl _ _) rfl rfl rfl⟩
          | 8, _, hr =>
            as_aux_lemma =>
            refine wpOp_step rfl (fun K' hK => ?_)
            go_simp
            exact hK _ _ ⟨upd u 7 _, rfl, hR.makes rfl (ready_spec.1 hr).2.1 rfl rfl⟩
          | 9, _, hr =>
            as_aux_lemma =>
            refine wpOp_step rfl (fun K' hK => ?_)
            go_simp
            exact hK _ _ ⟨upd u 8 _, rfl, hR.makes rfl (ready_spec.1 hr).2.1 rfl rfl⟩
          | 10, _, hr =>
            as_aux_lemma =>
            refine wpOp_step rfl (fun K' hK => ?_)
            have hl := dep_of hr 8 (by kernel_rfl)
            obtain ⟨b, c, eb, _, hn, _⟩ := hR.ali (8, 7, 10) (by simp) hl
            have hv : NumV q1 (u 32) wy := hR.val (6, 32) (by simp) (dep_of hr 6 (by kernel_rfl))
            obtain ⟨ad, len, ev, _⟩ := hv.dig
            have hrm : Room wy b 2 := ⟨c, _, hn.1, hn.2⟩
            rw [ev] at hv
            have HV := Lib.hid hv
            clear hv hn
            have rc := hrm.cell
            have rf := hrm.frozen
            go_simp
            exact hK _ _ ⟨u, by simp [ev, eb], hR.stores (k := 8) (d := 7) hl eb HV.out rfl⟩
          | 11, _, hr =>
            as_aux_lemma =>
            refine wpOp_step rfl (fun K' hK => ?_)
            have hl := dep_of hr 9 (by kernel_rfl)
            obtain ⟨b, c, eb, _, hn, _⟩ := hR.ali (9, 8, 11) (by simp) hl
            have ev : u 33 = .agg #[.bool false, .slice none 0 0] := hR.val (7, 33) (by simp) (dep_of hr 7 (by kernel_rfl))
            have hrm : Room wy b 2 := ⟨c, _, hn.1, hn.2⟩
            clear hn
            have rc := hrm.cell
            have rf := hrm.frozen
            go_simp
            exact hK _ _ ⟨u, by simp [ev, eb], hR.stores (k := 9) (d := 8) hl eb rfl rfl⟩
        · rintro listed a W2 ⟨u, rfl, hR⟩ hl
          obtain ⟨b, c, eb, hlo, hn, hv⟩ := hR.ali (8, 7, 10) (by simp) (hl 8 (by decide))
          have hv : NumV q1 (.agg c) W2 := hv (hl 10 (by decide))
          obtain ⟨ad, len, ec, _⟩ := hv.dig
          have ec : c = #[.bool (decide (q1 < 0)), .slice ad len len] := by simpa using ec
          subst ec
          have hb : b < W2.heap.size := hn.2.lt
          have c0 : W2.cell? ⟨b, 0, none⟩ = some (.bool (decide (q1 < 0))) := by have h2 := hn.2; unfold Blk at h2; simp [World.cell?, h2]
          have c1 : W2.cell? ⟨b, 1, none⟩ = some (.slice ad len len) := by have h2 := hn.2; unfold Blk at h2; simp [World.cell?, h2]
          have hF2 := hF1.drew.call hR.below
          have hL2 : RedL x0 q0 q1 q2 q3 g gb ob w 1 W2 := (HL1.out.below (Below.refl _ _).drew).below hR.below
          have HV := Lib.hid hv
          simp only [eb]
          clear hR hl hn hv eb hlo hF1 cg0 cg1 HVG HL1 hgb
          go_wp2_with fail
          ((with_reducible refine (HI1.out _ _ HV.out).mono ?_); rintro e w3 ⟨rfl, hb3⟩)
          have hF3 := hF2.call hb3
          have hL3 := hL2.below hb3
          have rc := hL3.room.cell
          have rf := hL3.room.frozen
          have HL3 := Lib.hid hL3
          have hol := hL3.ol
          have hlo := hL3.lo
          have hlt := hL3.lt
          clear hF2 hL2 hb3 c0 c1 hb HV hL3
          go_wp2
          go_roundw
          case rel => exact ⟨2, by omega, rfl, hF3.set2 (by omega) _ _, HL3.out.set (by omega) rfl (by simp)⟩
          case measure => simp [intOf]
      | 2, _ =>
        have hq := HE.out _ hF1
        obtain ⟨ng, dg, hvg, cg0, cg1⟩ := hL.num
        have hgb : gb < wr.heap.size := Nat.lt_trans hL.lt hL.ol
        have HVG := Lib.hid hvg
        have HL1 := Lib.hid hL
        clear hvg hL
        go_wp2
        clear hq
        refine wp_region_inv (by kernel_rfl) (by kernel_rfl) (fun listed a wy => ∃ u : Nat → Value, a = { tmps := #[.agg #[n0, d0, n1, d1, n2, d2, n3, d3], .pointer (some ⟨w.heap.size, 0, none⟩), .pointer (some ⟨w.heap.size + 1, 0, none⟩), u3, .pointer (some ⟨gb, 0, none⟩), .pointer (some ⟨ob, 0, none⟩), .int .i64 2, u 7, u 8, u9, u10, u11, u12, u13, u14, u15, u16, u17, u18, u19, u20, u21, .int .i64 2, .bool true, u24, u25, u 26, u 27, u 28, u 29, u 30, u 31, u 32, u 33, u34, u35, u36, u37, u38, u39, u40, u41, u42, u43, u44, u45], defers := [] } ∧ RgP wr.drew (fun d => match d with | 27 => .eq (.int .i64 2) | 28 => .eq (.pointer (some ⟨w.heap.size, 4, none⟩)) | 29 => .eq (.agg #[n2, d2]) | 30 => .eq (.agg #[ng, dg]) | 31 => .duo q2 | 26 => .duo q2 | 32 => .num q2 | 33 => .eq (.agg #[.bool false, .slice none 0 0]) | _ => .eq undef) (fun d => match d with | 7 => .num q2 | _ => .eq (.agg #[.bool false, .slice none 0 0])) [(0, 27), (1, 28), (2, 29), (3, 30), (4, 31), (5, 26), (6, 32), (7, 33)] [(8, 7, 10), (9, 8, 11)] listed u wy) ⟨fun d => match d with | 7 => u7 | 8 => u8 | 26 => u26 | 27 => u27 | 28 => u28 | 29 => u29 | 30 => u30 | 31 => u31 | 32 => u32 | 33 => u33 | _ => undef, rfl, RgP.start _ _⟩ ?_ ?_
        rotate_left
        · rintro listed hs i hi a wy ⟨u, rfl, hR⟩ hr
          match i, hi, hr with
          | 0, _, hr =>
            as_aux_lemma =>
            refine wpOp_step rfl (fun K' hK => ?_)
            go_simp
            exact hK _ _ ⟨upd u 27 _, rfl, hR.yields (Below.refl _ _) rfl rfl rfl⟩
          | 1, _, hr =>
            as_aux_lemma =>
            refine wpOp_step rfl (fun K' hK => ?_)
            have e0 : u 27 = .int .i64 2 := hR.val (0, 27) (by simp) (dep_of hr 0 (by kernel_rfl))
            go_simp
            exact hK _ _ ⟨upd u 28 _, by simp [upd, e0], hR.yields (Below.refl _ _) rfl rfl rfl⟩
          | 2, _, hr =>
            as_aux_lemma =>
            refine wpOp_step rfl (fun K' hK => ?_)
            have e0 : u 28 = .pointer (some ⟨w.heap.size, 4, none⟩) := hR.val (1, 28) (by simp) (dep_of hr 1 (by kernel_rfl))
            have hqr := HE.out _ (hF1.drew.call hR.below)
            go_simp
            exact hK _ _ ⟨upd u 29 _, by simp [upd, e0], hR.yields (Below.refl _ _) rfl rfl rfl⟩
          | 3, _, hr =>
            as_aux_lemma =>
            refine wpOp_step rfl (fun K' hK => ?_)
            have g0 := (hR.below.cell (p := ⟨gb, 0, none⟩) hgb).trans cg0
            have g1 := (hR.below.cell (p := ⟨gb, 1, none⟩) hgb).trans cg1
            skip
            go_simp
            exact hK _ _ ⟨upd u 30 _, rfl, hR.yields (Below.refl _ _) rfl rfl rfl⟩
          | 4, _, hr =>
            as_aux_lemma =>
            refine wpOp_step rfl (fun K' hK => ?_)
            have e1 : u 29 = .agg #[n2, d2] := hR.val (2, 29) (by simp) (dep_of hr 2 (by kernel_rfl))
            have e2 : u 30 = .agg #[ng, dg] := hR.val (3, 30) (by simp) (dep_of hr 3 (by kernel_rfl))
            go_simp
            refine (HD2.out wy _ _ (H2.out.below (Nat.le_refl _) (hF1.drew.call hR.below).own.below) ((HVG.out.below (Nat.le_refl _) (Below.refl _ _).drew).call hR.below)).mono ?_
            rintro e w1 ⟨⟨v, rfl, hv⟩, hb1⟩
            exact hK _ _ ⟨upd u 31 _, by simp [upd, e1, e2], hR.yields hb1 ⟨v, rfl, hv⟩ rfl rfl⟩
          | 5, _, hr =>
            as_aux_lemma =>
            refine wpOp_step rfl (fun K' hK => ?_)
            have hv := hR.val (4, 31) (by simp) (dep_of hr 4 (by kernel_rfl))
            have hv := Lib.hid hv
            go_simp
            exact hK _ _ ⟨upd u 26 (u 31), rfl, hR.yields (Below.refl _ _) hv.out rfl rfl⟩
          | 6, _, hr =>
            as_aux_lemma =>
            refine wpOp_step rfl (fun K' hK => ?_)
            obtain ⟨v, ev, hv⟩ : ∃ v, u 26 = .tuple #[v, .agg #[.bool false, .slice none 0 0]] ∧ NumV q2 v wy := hR.val (5, 26) (by simp) (dep_of hr 5 (by kernel_rfl))
            have hv := Lib.hid hv
            go_simp
            exact hK _ _ ⟨upd u 32 v, by simp [upd, ev], hR.yields (Below.refl _ _) hv.out rfl rfl⟩
          | 7, _, hr =>
            as_aux_lemma =>
            refine wpOp_step rfl (fun K' hK => ?_)
            obtain ⟨v, ev, hv⟩ : ∃ v, u 26 = .tuple #[v, .agg #[.bool false, .slice none 0 0]] ∧ NumV q2 v wy := hR.val (5, 26) (by simp) (dep_of hr 5 (by kernel_rfl))
            clear hv
            go_simp
            exact hK _ _ ⟨upd u 33 _, by simp [upd, ev], hR.yields (Below.refl _ _) rfl rfl rfl⟩
          | 8, _, hr =>
            as_aux_lemma =>
            refine wpOp_step rfl (fun K' hK => ?_)
            go_simp
            exact hK _ _ ⟨upd u 7 _, rfl, hR.makes rfl (ready_spec.1 hr).2.1 rfl rfl⟩
          | 9, _, hr =>
            as_aux_lemma =>
            refine wpOp_step rfl (fun K' hK => ?_)
            go_simp
            exact hK _ _ ⟨upd u 8 _, rfl, hR.makes rfl (ready_spec.1 hr).2.1 rfl rfl⟩
          | 10, _, hr =>
            as_aux_lemma =>
            refine wpOp_step rfl (fun K' hK => ?_)
            have hl := dep_of hr 8 (by kernel_rfl)
            obtain ⟨b, c, eb, _, hn, _⟩ := hR.ali (8, 7, 10) (by simp) hl
            have hv : NumV q2 (u 32) wy := hR.val (6, 32) (by simp) (dep_of hr 6 (by kernel_rfl))
            obtain ⟨ad, len, ev, _⟩ := hv.dig
            have hrm : Room wy b 2 := ⟨c, _, hn.1, hn.2⟩
            rw [ev] at hv
            have HV := Lib.hid hv
            clear hv hn
            have rc := hrm.cell
            have rf := hrm.frozen
            go_simp
            exact hK _ _ ⟨u, by simp [ev, eb], hR.stores (k := 8) (d := 7) hl eb HV.out rfl⟩
          | 11, _, hr =>
            as_aux_lemma =>
            refine wpOp_step rfl (fun K' hK => ?_)
            have hl := dep_of hr 9 (by kernel_rfl)
            obtain ⟨b, c, eb, _, hn, _⟩ := hR.ali (9, 8, 11) (by simp) hl
            have ev : u 33 = .agg #[.bool false, .slice none 0 0] := hR.val (7, 33) (by simp) (dep_of hr 7 (by kernel_rfl))
            have hrm : Room wy b 2 := ⟨c, _, hn.1, hn.2⟩
            clear hn
            have rc := hrm.cell
            have rf := hrm.frozen
            go_simp
            exact hK _ _ ⟨u, by simp [ev, eb], hR.stores (k := 9) (d := 8) hl eb rfl rfl⟩
        · rintro listed a W2 ⟨u, rfl, hR⟩ hl
          obtain ⟨b, c, eb, hlo, hn, hv⟩ := hR.ali (8, 7, 10) (by simp) (hl 8 (by decide))
          have hv : NumV q2 (.agg c) W2 := hv (hl 10 (by decide))
          obtain ⟨ad, len, ec, _⟩ := hv.dig
          have ec : c = #[.bool (decide (q2 < 0)), .slice ad len len] := by simpa using ec
          subst ec
          have hb : b < W2.heap.size := hn.2.lt
          have c0 : W2.cell? ⟨b, 0, none⟩ = some (.bool (decide (q2 < 0))) := by have h2 := hn.2; unfold Blk at h2; simp [World.cell?, h2]
          have c1 : W2.cell? ⟨b, 1, none⟩ = some (.slice ad len len) := by have h2 := hn.2; unfold Blk at h2; simp [World.cell?, h2]
          have hF2 := hF1.drew.call hR.below
          have hL2 : RedL x0 q0 q1 q2 q3 g gb ob w 2 W2 := (HL1.out.below (Below.refl _ _).drew).below hR.below
          have HV := Lib.hid hv
          simp only [eb]
          clear hR hl hn hv eb hlo hF1 cg0 cg1 HVG HL1 hgb
          go_wp2_with fail
          ((with_reducible refine (HI2.out _ _ HV.out).mono ?_); rintro e w3 ⟨rfl, hb3⟩)
          have hF3 := hF2.call hb3
          have hL3 := hL2.below hb3
          have rc := hL3.room.cell
          have rf := hL3.room.frozen
          have HL3 := Lib.hid hL3
          have hol := hL3.ol
          have hlo := hL3.lo
          have hlt := hL3.lt
          clear hF2 hL2 hb3 c0 c1 hb HV hL3
          go_wp2
          go_roundw
          case rel => exact ⟨3, by omega, rfl, hF3.set2 (by omega) _ _, HL3.out.set (by omega) rfl (by simp)⟩
          case measure => simp [intOf]
      | 3, _ =>
        have hq := HE.out _ hF1
        obtain ⟨ng, dg, hvg, cg0, cg1⟩ := hL.num
        have hgb : gb < wr.heap.size := Nat.lt_trans hL.lt hL.ol
        have HVG := Lib.hid hvg
        have HL1 := Lib.hid hL
        clear hvg hL
        go_wp2
        clear hq
        refine wp_region_inv (by kernel_rfl) (by kernel_rfl) (fun listed a wy => ∃ u : Nat → Value, a = { tmps := #[.agg #[n0, d0, n1, d1, n2, d2, n3, d3], .pointer (some ⟨w.heap.size, 0, none⟩), .pointer (some ⟨w.heap.size + 1, 0, none⟩), u3, .pointer (some ⟨gb, 0, none⟩), .pointer (some ⟨ob, 0, none⟩), .int .i64 3, u 7, u 8, u9, u10, u11, u12, u13, u14, u15, u16, u17, u18, u19, u20, u21, .int .i64 3, .bool true, u24, u25, u 26, u 27, u 28, u 29, u 30, u 31, u 32, u 33, u34, u35, u36, u37, u38, u39, u40, u41, u42, u43, u44, u45], defers := [] } ∧ RgP wr.drew (fun d => match d with | 27 => .eq (.int .i64 3) | 28 => .eq (.pointer (some ⟨w.heap.size, 6, none⟩)) | 29 => .eq (.agg #[n3, d3]) | 30 => .eq (.agg #[ng, dg]) | 31 => .duo q3 | 26 => .duo q3 | 32 => .num q3 | 33 => .eq (.agg #[.bool false, .slice none 0 0]) | _ => .eq undef) (fun d => match d with | 7 => .num q3 | _ => .eq (.agg #[.bool false, .slice none 0 0])) [(0, 27), (1, 28), (2, 29), (3, 30), (4, 31), (5, 26), (6, 32), (7, 33)] [(8, 7, 10), (9, 8, 11)] listed u wy) ⟨fun d => match d with | 7 => u7 | 8 => u8 | 26 => u26 | 27 => u27 | 28 => u28 | 29 => u29 | 30 => u30 | 31 => u31 | 32 => u32 | 33 => u33 | _ => undef, rfl, RgP.start _ _⟩ ?_ ?_
        rotate_left
        · rintro listed hs i hi a wy ⟨u, rfl, hR⟩ hr
          match i, hi, hr with
          | 0, _, hr =>
            as_aux_lemma =>
            refine wpOp_step rfl (fun K' hK => ?_)
            go_simp
            exact hK _ _ ⟨upd u 27 _, rfl, hR.yields (Below.refl _ _) rfl rfl rfl⟩
          | 1, _, hr =>
            as_aux_lemma =>
            refine wpOp_step rfl (fun K' hK => ?_)
            have e0 : u 27 = .int .i64 3 := hR.val (0, 27) (by simp) (dep_of hr 0 (by kernel_rfl))
            go_simp
            exact hK _ _ ⟨upd u 28 _, by simp [upd, e0], hR.yields (Below.refl _ _) rfl rfl rfl⟩
          | 2, _, hr =>
            as_aux_lemma =>
            refine wpOp_step rfl (fun K' hK => ?_)
            have e0 : u 28 = .pointer (some ⟨w.heap.size, 6, none⟩) := hR.val (1, 28) (by simp) (dep_of hr 1 (by kernel_rfl))
            have hqr := HE.out _ (hF1.drew.call hR.below)
            go_simp
            exact hK _ _ ⟨upd u 29 _, by simp [upd, e0], hR.yields (Below.refl _ _) rfl rfl rfl⟩
          | 3, _, hr =>
            as_aux_lemma =>
            refine wpOp_step rfl (fun K' hK => ?_)
            have g0 := (hR.below.cell (p := ⟨gb, 0, none⟩) hgb).trans cg0
            have g1 := (hR.below.cell (p := ⟨gb, 1, none⟩) hgb).trans cg1
            skip
            go_simp
            exact hK _ _ ⟨upd u 30 _, rfl, hR.yields (Below.refl _ _) rfl rfl rfl⟩
          | 4, _, hr =>
            as_aux_lemma =>
            refine wpOp_step rfl (fun K' hK => ?_)
            have e1 : u 29 = .agg #[n3, d3] := hR.val (2, 29) (by simp) (dep_of hr 2 (by kernel_rfl))
            have e2 : u 30 = .agg #[ng, dg] := hR.val (3, 30) (by simp) (dep_of hr 3 (by kernel_rfl))
            go_simp
            refine (HD3.out wy _ _ (H3.out.below (Nat.le_refl _) (hF1.drew.call hR.below).own.below) ((HVG.out.below (Nat.le_refl _) (Below.refl _ _).drew).call hR.below)).mono ?_
            rintro e w1 ⟨⟨v, rfl, hv⟩, hb1⟩
            exact hK _ _ ⟨upd u 31 _, by simp [upd, e1, e2], hR.yields hb1 ⟨v, rfl, hv⟩ rfl rfl⟩
          | 5, _, hr =>
            as_aux_lemma =>
            refine wpOp_step rfl (fun K' hK => ?_)
            have hv := hR.val (4, 31) (by simp) (dep_of hr 4 (by kernel_rfl))
            have hv := Lib.hid hv
            go_simp
            exact hK _ _ ⟨upd u 26 (u 31), rfl, hR.yields (Below.refl _ _) hv.out rfl rfl⟩
          | 6, _, hr =>
            as_aux_lemma =>
            refine wpOp_step rfl (fun K' hK => ?_)
            obtain ⟨v, ev, hv⟩ : ∃ v, u 26 = .tuple #[v, .agg #[.bool false, .slice none 0 0]] ∧ NumV q3 v wy := hR.val (5, 26) (by simp) (dep_of hr 5 (by kernel_rfl))
            have hv := Lib.hid hv
            go_simp
            exact hK _ _ ⟨upd u 32 v, by simp [upd, ev], hR.yields (Below.refl _ _) hv.out rfl rfl⟩
          | 7, _, hr =>
            as_aux_lemma =>
            refine wpOp_step rfl (fun K' hK => ?_)
            obtain ⟨v, ev, hv⟩ : ∃ v, u 26 = .tuple #[v, .agg #[.bool false, .slice none 0 0]] ∧ NumV q3 v wy := hR.val (5, 26) (by simp) (dep_of hr 5 (by kernel_rfl))
            clear hv
            go_simp
            exact hK _ _ ⟨upd u 33 _, by simp [upd, ev], hR.yields (Below.refl _ _) rfl rfl rfl⟩
          | 8, _, hr =>
            as_aux_lemma =>
            refine wpOp_step rfl (fun K' hK => ?_)
            go_simp
            exact hK _ _ ⟨upd u 7 _, rfl, hR.makes rfl (ready_spec.1 hr).2.1 rfl rfl⟩
          | 9, _, hr =>
            as_aux_lemma =>
            refine wpOp_step rfl (fun K' hK => ?_)
            go_simp
            exact hK _ _ ⟨upd u 8 _, rfl, hR.makes rfl (ready_spec.1 hr).2.1 rfl rfl⟩
          | 10, _, hr =>
            as_aux_lemma =>
            refine wpOp_step rfl (fun K' hK => ?_)
            have hl := dep_of hr 8 (by kernel_rfl)
            obtain ⟨b, c, eb, _, hn, _⟩ := hR.ali (8, 7, 10) (by simp) hl
            have hv : NumV q3 (u 32) wy := hR.val (6, 32) (by simp) (dep_of hr 6 (by kernel_rfl))
            obtain ⟨ad, len, ev, _⟩ := hv.dig
            have hrm : Room wy b 2 := ⟨c, _, hn.1, hn.2⟩
            rw [ev] at hv
            have HV := Lib.hid hv
            clear hv hn
            have rc := hrm.cell
            have rf := hrm.frozen
            go_simp
            exact hK _ _ ⟨u, by simp [ev, eb], hR.stores (k := 8) (d := 7) hl eb HV.out rfl⟩
          | 11, _, hr =>
            as_aux_lemma =>
            refine wpOp_step rfl (fun K' hK => ?_)
            have hl := dep_of hr 9 (by kernel_rfl)
            obtain ⟨b, c, eb, _, hn, _⟩ := hR.ali (9, 8, 11) (by simp) hl
            have ev : u 33 = .agg #[.bool false, .slice none 0 0] := hR.val (7, 33) (by simp) (dep_of hr 7 (by kernel_rfl))
            have hrm : Room wy b 2 := ⟨c, _, hn.1, hn.2⟩
            clear hn
            have rc := hrm.cell
            have rf := hrm.frozen
            go_simp
            exact hK _ _ ⟨u, by simp [ev, eb], hR.stores (k := 9) (d := 8) hl eb rfl rfl⟩
        · rintro listed a W2 ⟨u, rfl, hR⟩ hl
          obtain ⟨b, c, eb, hlo, hn, hv⟩ := hR.ali (8, 7, 10) (by simp) (hl 8 (by decide))
          have hv : NumV q3 (.agg c) W2 := hv (hl 10 (by decide))
          obtain ⟨ad, len, ec, _⟩ := hv.dig
          have ec : c = #[.bool (decide (q3 < 0)), .slice ad len len] := by simpa using ec
          subst ec
          have hb : b < W2.heap.size := hn.2.lt
          have c0 : W2.cell? ⟨b, 0, none⟩ = some (.bool (decide (q3 < 0))) := by have h2 := hn.2; unfold Blk at h2; simp [World.cell?, h2]
          have c1 : W2.cell? ⟨b, 1, none⟩ = some (.slice ad len len) := by have h2 := hn.2; unfold Blk at h2; simp [World.cell?, h2]
          have hF2 := hF1.drew.call hR.below
          have hL2 : RedL x0 q0 q1 q2 q3 g gb ob w 3 W2 := (HL1.out.below (Below.refl _ _).drew).below hR.below
          have HV := Lib.hid hv
          simp only [eb]
          clear hR hl hn hv eb hlo hF1 cg0 cg1 HVG HL1 hgb
          go_wp2_with fail
          ((with_reducible refine (HI3.out _ _ HV.out).mono ?_); rintro e w3 ⟨rfl, hb3⟩)
          have hF3 := hF2.call hb3
          have hL3 := hL2.below hb3
          have rc := hL3.room.cell
          have rf := hL3.room.frozen
          have HL3 := Lib.hid hL3
          have hol := hL3.ol
          have hlo := hL3.lo
          have hlt := hL3.lt
          clear hF2 hL2 hb3 c0 c1 hb HV hL3
          go_wp2
          go_roundw
          case rel => exact ⟨4, by omega, rfl, hF3.set2 (by omega) _ _, HL3.out.set (by omega) rfl (by simp)⟩
          case measure => simp [intOf]
-- ENDOPS2
      | 4, _ =>
        have e0 := hL.e0 (by omega)
        have e1 := hL.e1 (by omega)
        have e2 := hL.e2 (by omega)
        have e3 := hL.e3 (by omega)
        have hq := HE.out _ hF1
        have hz : w.heap.size < wr.heap.size ∧ w.heap.size + 1 < wr.heap.size := by have hs := Own.size (Fr.own hF1); omega
        have hwo := hF1.own.below
        clear hL
        go_wp2
        refine bodyPost_ret (v := .tuple #[.agg #[.int .i64 q0, .int .i64 q1, .int .i64 q2, .int .i64 q3], .bool true]) ?_ rfl ⟨rfl, ?_⟩
        · simp [results, Tryz.results64, go_sem, hq]
        · exact (((hwo.setCell (by simp) _).setCell (by simp) _).setCell (by simp) _).setCell (by simp) _

end Go.Proofs.YtaoedfegakpjeabGreat
