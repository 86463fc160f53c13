/- Contracts of the functions that the statement reaches, and plain lemmas: part 19 of 25. -/
import Derived.Test.YtaoedfegakpjeabGreatJ18
import Derived.Deep.CutRange
import Derived.Deep.DeepCutAuto

namespace Go.Proofs.YtaoedfegakpjeabGreat
open Go.RowKit

theorem I64w (x : Int) : I64 (IntKind.i64.wrap x) := by rw [IntKind.wrap_i64]; exact ⟨by omega, by omega⟩

set_option maxHeartbeats 1000000 in
theorem det_ex (a b c x y z r s t : Int) (w : World) :
    Calls Tryz.prog 51 #[.agg #[.int .i64 a, .int .i64 b, .int .i64 c], .agg #[.int .i64 x, .int .i64 y, .int .i64 z], .agg #[.int .i64 r, .int .i64 s, .int .i64 t]] w fun e w' => (∃ n, I64 n ∧ e = .returned (.int .i64 n)) ∧ Below w.heap.size w w' := by
  have HX : Hid (∀ W, Calls Tryz.prog 37 #[.agg #[.int .i64 x, .int .i64 y, .int .i64 z], .agg #[.int .i64 r, .int .i64 s, .int .i64 t]] W fun e w' => e = .returned (.agg #[.int .i64 (crs y t z s), .int .i64 (crs z r x t), .int .i64 (crs x s y r)]) ∧ Below W.heap.size W w') := fun W => pcross_any x y z r s t W
  generalize crs y t z s = u at HX
  generalize crs z r x t = v at HX
  generalize crs x s y r = k at HX
  go_enter Tryz.func51, Tryz.ntmps51
  have hE : ∀ W, Fr 3 [(0, .cells #[.int .i64 a, .int .i64 b, .int .i64 c] 24), (1, .cells #[.int .i64 x, .int .i64 y, .int .i64 z] 24), (2, .cells #[.int .i64 r, .int .i64 s, .int .i64 t] 24)] [] w W → (W.cell? ⟨w.heap.size, 0, none⟩ = some (.int .i64 a) ∧ W.cell? ⟨w.heap.size, 1, none⟩ = some (.int .i64 b) ∧ W.cell? ⟨w.heap.size, 2, none⟩ = some (.int .i64 c) ∧ W.cell? ⟨w.heap.size + 1, 0, none⟩ = some (.int .i64 x) ∧ W.cell? ⟨w.heap.size + 1, 1, none⟩ = some (.int .i64 y) ∧ W.cell? ⟨w.heap.size + 1, 2, none⟩ = some (.int .i64 z) ∧ W.cell? ⟨w.heap.size + 2, 0, none⟩ = some (.int .i64 r) ∧ W.cell? ⟨w.heap.size + 2, 1, none⟩ = some (.int .i64 s) ∧ W.cell? ⟨w.heap.size + 2, 2, none⟩ = some (.int .i64 t)) := fun W h => by (repeat' apply And.intro) <;> first | exact h.at0 rfl | exact h.at rfl | exact (h.rms0 rfl).cell | exact (h.rms rfl).cell | exact (h.rms0 rfl).frozen | exact (h.rms rfl).frozen
  have HE := Lib.hid hE
  clear hE
  go_wp2
  go_region_held3 (fun W => Fr 3 [(0, .cells #[.int .i64 a, .int .i64 b, .int .i64 c] 24), (1, .cells #[.int .i64 x, .int .i64 y, .int .i64 z] 24), (2, .cells #[.int .i64 r, .int .i64 s, .int .i64 t] 24)] [] w W ∧ W.cell? ⟨w.heap.size, 0, none⟩ = some (.int .i64 a) ∧ W.cell? ⟨w.heap.size, 1, none⟩ = some (.int .i64 b) ∧ W.cell? ⟨w.heap.size, 2, none⟩ = some (.int .i64 c) ∧ W.cell? ⟨w.heap.size + 1, 0, none⟩ = some (.int .i64 x) ∧ W.cell? ⟨w.heap.size + 1, 1, none⟩ = some (.int .i64 y) ∧ W.cell? ⟨w.heap.size + 1, 2, none⟩ = some (.int .i64 z) ∧ W.cell? ⟨w.heap.size + 2, 0, none⟩ = some (.int .i64 r) ∧ W.cell? ⟨w.heap.size + 2, 1, none⟩ = some (.int .i64 s) ∧ W.cell? ⟨w.heap.size + 2, 2, none⟩ = some (.int .i64 t)) ((first | exact hSK | assumption | (have hq := Fr.keep HE.out (by assumption) hb1; exact hq) | (have hq := Fr.both HE.out hF.drew; exact hq) | (have hq := Fr.both HE.out ((((Fr.nil w).fixed (by simp) (.cells #[.int .i64 a, .int .i64 b, .int .i64 c] 24)).fixed (by simp) (.cells #[.int .i64 x, .int .i64 y, .int .i64 z] 24)).fixed (by simp) (.cells #[.int .i64 r, .int .i64 s, .int .i64 t] 24)).drew; exact hq) | (refine Fr.both HE.out ?_; (repeat (first | exact hF | exact And.left (by assumption) | refine Fr.set ?_ (by first | (simp; done) | (simp; omega)) (by first | (simp [List.lookup]; done) | (simp [Nat.add_assoc, List.lookup]; done)) _ | refine Fr.drew ?_ | refine Fr.alloc ?_ _))))) (first | (go_at_call 37; refine (HX.out _).mono ?_; rintro e w1 ⟨rfl, hb1⟩) | (go_at_call 13; refine (pdot_any _ _ _ _ _ _ _).mono ?_; rintro e w1 ⟨rfl, hb1⟩))
  go_wp2
  go_ret
  obtain ⟨hF, -⟩ : Fr 3 _ _ w _ ∧ _ := by assumption
  exact ⟨⟨_, dot_i64 _ _ _ _ _ _, rfl⟩, hF.own.below⟩

theorem sizeI_zero {a : Int} (h : I64 a) (h0 : sizeI a = 0) : a = 0 := by
  unfold I64 at h
  unfold sizeI wrap64 at h0
  (repeat' split at h0) <;> omega
theorem gcd2_nz {a b : Int} (_ia : I64 a) (ib : I64 b) (h : ¬ b = 0) : ¬ gcd2 a b = 0 := by
  rw [gcd2_eq]
  intro k
  have k1 : Nat.gcd (sizeI a).toNat (sizeI b).toNat = 0 := by omega
  have k2 := (Nat.gcd_eq_zero_iff.1 k1).2
  have k3 := sizeI_nonneg ib
  exact h (sizeI_zero ib (by omega))
theorem gcd2_nonneg (a b : Int) : 0 ≤ gcd2 a b := by rw [gcd2_eq]; omega

set_option maxRecDepth 100000 in
set_option maxHeartbeats 2000000 in
theorem lowest_ex (x y z t : Int) (w : World) (ix : I64 x) (iy : I64 y) (iz : I64 z) (it : I64 t) (ht : ¬ t = 0) :
    Calls Tryz.prog 52 #[.agg #[.int .i64 x, .int .i64 y, .int .i64 z, .int .i64 t]] w fun e w' => (∃ n : Q4, n.I64 ∧ e = .returned (.agg #[.int .i64 (n.a), .int .i64 (n.b), .int .i64 (n.c), .int .i64 (n.d)])) ∧ Below w.heap.size w w' := by
  have J1 := gcd2_i64 ix iy
  have J2 := gcd2_i64 iz it
  have J3 := gcd2_i64 J1 J2
  have hg := gcd2_nz J1 J2 (gcd2_nz iz it ht)
  have hp := gcd2_nonneg (gcd2 x y) (gcd2 z t)
  have HJ : Hid (¬ gcd2 (gcd2 x y) (gcd2 z t) = 0 ∧ 0 ≤ gcd2 (gcd2 x y) (gcd2 z t) ∧ I64 (gcd2 (gcd2 x y) (gcd2 z t))) := ⟨hg, hp, J3⟩
  clear J3 hg hp ht
  go_enter Tryz.func52, Tryz.ntmps52
  have hE : ∀ W, Fr 2 [(0, .cells #[.int .i64 x, .int .i64 y, .int .i64 z, .int .i64 t] 22)] [(1, 4)] w W → (W.cell? ⟨w.heap.size, 0, none⟩ = some (.int .i64 x) ∧ W.cell? ⟨w.heap.size, 1, none⟩ = some (.int .i64 y) ∧ W.cell? ⟨w.heap.size, 2, none⟩ = some (.int .i64 z) ∧ W.cell? ⟨w.heap.size, 3, none⟩ = some (.int .i64 t) ∧ (∀ o, o < 4 → W.cell? ⟨w.heap.size + 1, o, none⟩ = some (cellOf W ⟨w.heap.size + 1, o, none⟩)) ∧ (∀ o, o < 4 → W.frozen? ⟨w.heap.size + 1, o, none⟩ = false)) := fun W h => by (repeat' apply And.intro) <;> first | exact h.at0 rfl | exact h.at rfl | exact (h.rms0 rfl).cell | exact (h.rms rfl).cell | exact (h.rms0 rfl).frozen | exact (h.rms rfl).frozen
  have HE := Lib.hid hE
  clear hE
  go_wp2
  go_region_held3 (fun W => Fr 2 [(0, .cells #[.int .i64 x, .int .i64 y, .int .i64 z, .int .i64 t] 22)] [(1, 4)] w W ∧ W.cell? ⟨w.heap.size, 0, none⟩ = some (.int .i64 x) ∧ W.cell? ⟨w.heap.size, 1, none⟩ = some (.int .i64 y) ∧ W.cell? ⟨w.heap.size, 2, none⟩ = some (.int .i64 z) ∧ W.cell? ⟨w.heap.size, 3, none⟩ = some (.int .i64 t) ∧ (∀ o, o < 4 → W.cell? ⟨w.heap.size + 1, o, none⟩ = some (cellOf W ⟨w.heap.size + 1, o, none⟩)) ∧ (∀ o, o < 4 → W.frozen? ⟨w.heap.size + 1, o, none⟩ = false)) ((first | exact hSK | assumption | (have hq := Fr.keep HE.out (by assumption) hb1; exact hq) | (have hq := Fr.both HE.out hF.drew; exact hq) | (have hq := Fr.both HE.out (((Fr.nil w).fixed (by simp) (.cells #[.int .i64 x, .int .i64 y, .int .i64 z, .int .i64 t] 22)).roomy (by simp) #[.int .i64 0, .int .i64 0, .int .i64 0, .int .i64 0] 48).drew; exact hq) | (refine Fr.both HE.out ?_; (repeat (first | exact hF | exact And.left (by assumption) | refine Fr.set ?_ (by first | (simp; done) | (simp; omega)) (by first | (simp [List.lookup]; done) | (simp [Nat.add_assoc, List.lookup]; done)) _ | refine Fr.drew ?_ | refine Fr.alloc ?_ _))))) (first | (go_at_call 38; refine (pgcd_any _ _ _ (by assumption) (by assumption)).mono ?_; rintro e w1 ⟨rfl, hb1⟩))
  obtain ⟨hG, k0, k1, k2, k3⟩ : Fr 2 [(0, .cells #[.int .i64 x, .int .i64 y, .int .i64 z, .int .i64 t] 22)] [(1, 4)] w _ ∧ _ := by assumption
  rename World => W3
  have hr := hG.rms (i := 1) (n := 4) rfl
  have rc := hr.cell
  have rf := hr.frozen
  have HRR := Lib.hid hr
  have HBB : Hid (Below w.heap.size w W3) := hG.own.below
  clear hr hG HE J1 J2 ix iy iz it
  generalize gcd2 (gcd2 x y) (gcd2 z t) = g at HJ ⊢
  by_cases h : t < 0
  · have hz : ¬ wrap64 (-g) = 0 := by
      obtain ⟨h1, h2, h3⟩ := HJ.out
      unfold I64 at h3; unfold wrap64; omega
    go_wp2
    go_region
    go_wp2
    refine bodyPost_ret (v := .agg #[.int .i64 (wrap64 (x.tdiv (wrap64 (-g)))), .int .i64 (wrap64 (y.tdiv (wrap64 (-g)))), .int .i64 (wrap64 (z.tdiv (wrap64 (-g)))), .int .i64 (wrap64 (t.tdiv (wrap64 (-g))))]) ?_ rfl ⟨⟨⟨wrap64 (x.tdiv (wrap64 (-g))), wrap64 (y.tdiv (wrap64 (-g))), wrap64 (z.tdiv (wrap64 (-g))), wrap64 (t.tdiv (wrap64 (-g)))⟩, ⟨I64.wrap _, I64.wrap _, I64.wrap _, I64.wrap _⟩, rfl⟩, ?_⟩
    · simp [results, Tryz.results52, go_sem, HRR.out.some]
    · exact ((((HBB.out.setCell (by simp) _).setCell (by simp) _).setCell (by simp) _).setCell (by simp) _).drew
  · have hz := HJ.out.1
    go_wp2
    go_region
    go_wp2
    refine bodyPost_ret (v := .agg #[.int .i64 (wrap64 (x.tdiv g)), .int .i64 (wrap64 (y.tdiv g)), .int .i64 (wrap64 (z.tdiv g)), .int .i64 (wrap64 (t.tdiv g))]) ?_ rfl ⟨⟨⟨wrap64 (x.tdiv g), wrap64 (y.tdiv g), wrap64 (z.tdiv g), wrap64 (t.tdiv g)⟩, ⟨I64.wrap _, I64.wrap _, I64.wrap _, I64.wrap _⟩, rfl⟩, ?_⟩
    · simp [results, Tryz.results52, go_sem, HRR.out.some]
    · exact ((((HBB.out.setCell (by simp) _).setCell (by simp) _).setCell (by simp) _).setCell (by simp) _).drew

/-- A block of three int64. -/
def V3 (b : Nat) (W : World) : Prop := ∃ t : T3, t.I64' ∧ Blk W b (VV t)
def X4 (x : Q4) : Obj := .cells #[.int .i64 x.a, .int .i64 x.b, .int .i64 x.c, .int .i64 x.d] 22
/-- The blocks of Meet; P is known of the last of the four numbers. -/
structure MS (p q r : Q4) (P : Int → Prop) (w W : World) : Prop where
  below : Below w.heap.size w W
  bp : Blk W w.heap.size (PV p)
  bq : Blk W (w.heap.size + 1) (PV q)
  br : Blk W (w.heap.size + 1 + 1) (PV r)
  bz : Blk W (w.heap.size + 1 + 1 + 1) (PT ⟨0, 0, 0, 0⟩)
  bx : ∃ x : Q4, x.I64 ∧ P x.d ∧ Blk W (w.heap.size + 1 + 1 + 1 + 1) (X4 x)
section
variable {p q r : Q4} {P : Int → Prop} {w W W1 : World} {b : Nat}
theorem V3.drew (h : V3 b W) : V3 b W.drew := h
theorem V3.new (W : World) : V3 W.heap.size (W.alloc (VV ⟨0, 0, 0⟩)) := ⟨⟨0, 0, 0⟩, ⟨⟨by decide, by decide⟩, ⟨by decide, by decide⟩, ⟨by decide, by decide⟩⟩, blk_new W (VV ⟨0, 0, 0⟩)⟩
theorem V3.below (h : V3 b W) (hb : Below W.heap.size W W1) : V3 b W1 := by
  obtain ⟨t, h1, h2⟩ := h; exact ⟨t, h1, h2.below hb h2.lt⟩
theorem V3.frozen (h : V3 b W) : ∀ o, W.frozen? ⟨b, o, none⟩ = false := by
  obtain ⟨t, _, h⟩ := h; exact (blk_cells h).2
theorem V3.cell (h : V3 b W) {k : Nat} (hk : k < 3) : ∃ n, W.cell? ⟨b, k, none⟩ = some (.int .i64 n) := by
  obtain ⟨t, _, h⟩ := h
  match k, hk with
  | 0, _ => exact ⟨_, (blk_cells h).1 _ _ rfl⟩
  | 1, _ => exact ⟨_, (blk_cells h).1 _ _ rfl⟩
  | 2, _ => exact ⟨_, (blk_cells h).1 _ _ rfl⟩
theorem V3.cells (h : V3 b W) : ∃ x y z, W.cell? ⟨b, 0, none⟩ = some (.int .i64 x) ∧ W.cell? ⟨b, 1, none⟩ = some (.int .i64 y) ∧ W.cell? ⟨b, 2, none⟩ = some (.int .i64 z) := by
  obtain ⟨t, _, h⟩ := h; exact ⟨_, _, _, blk_three h⟩
theorem V3.set (h : V3 b W) {b' k : Nat} {n : Int} (hk : k < 3) (hn : I64 n) : V3 b (W.setCell ⟨b', k, none⟩ (.int .i64 n)) := by
  obtain ⟨t, h1, h2⟩ := h
  by_cases e : b = b'
  · subst e
    match k, hk with
    | 0, _ => exact ⟨⟨n, t.y, t.z⟩, ⟨hn, h1.2.1, h1.2.2⟩, blk_set h2⟩
    | 1, _ => exact ⟨⟨t.x, n, t.z⟩, ⟨h1.1, hn, h1.2.2⟩, blk_set h2⟩
    | 2, _ => exact ⟨⟨t.x, t.y, n⟩, ⟨h1.1, h1.2.1, hn⟩, blk_set h2⟩
  · exact ⟨t, h1, blk_other h2 e⟩
theorem MS.call (h : MS p q r P w W) (hb : Below W.heap.size W W1) : MS p q r P w W1 := by
  obtain ⟨x, x1, x2, x3⟩ := h.bx
  exact ⟨h.below.trans (hb.mono h.below.size), h.bp.below hb h.bp.lt, h.bq.below hb h.bq.lt, h.br.below hb h.br.lt, h.bz.below hb h.bz.lt, x, x1, x2, x3.below hb x3.lt⟩
theorem MS.drew (h : MS p q r P w W) : MS p q r P w W.drew := h.call (Below.refl _ _).drew
theorem MS.lt (h : MS p q r P w W) : w.heap.size + 1 + 1 + 1 + 1 < W.heap.size := by obtain ⟨x, _, _, h⟩ := h.bx; exact h.lt
theorem MS.set (h : MS p q r P w W) (hb : w.heap.size + 1 + 1 + 1 + 1 < b) (o : Nat) (v : Value) : MS p q r P w (W.setCell ⟨b, o, none⟩ v) := by
  obtain ⟨x, x1, x2, x3⟩ := h.bx
  exact ⟨h.below.setCell (by simp; omega) _, blk_other h.bp (by omega), blk_other h.bq (by omega), blk_other h.br (by omega), blk_other h.bz (by omega), x, x1, x2, blk_other x3 (by omega)⟩
theorem MS.setX (h : MS p q r P w W) {k : Nat} {n : Int} (hk : k < 3) (hn : I64 n) : MS p q r P w (W.setCell ⟨w.heap.size + 1 + 1 + 1 + 1, k, none⟩ (.int .i64 n)) := by
  obtain ⟨x, x1, x2, x3⟩ := h.bx
  refine ⟨h.below.setCell (by simp; omega) _, blk_other h.bp (by omega), blk_other h.bq (by omega), blk_other h.br (by omega), blk_other h.bz (by omega), ?_⟩
  match k, hk with
  | 0, _ => exact ⟨⟨n, x.b, x.c, x.d⟩, ⟨hn, x1.2⟩, x2, blk_set x3⟩
  | 1, _ => exact ⟨⟨x.a, n, x.c, x.d⟩, ⟨x1.1, hn, x1.2.2⟩, x2, blk_set x3⟩
  | 2, _ => exact ⟨⟨x.a, x.b, n, x.d⟩, ⟨x1.1, x1.2.1, hn, x1.2.2.2⟩, x2, blk_set x3⟩
theorem MS.setD (h : MS p q r P w W) {P' : Int → Prop} {n : Int} (hn : I64 n) (hP : P' n) : MS p q r P' w (W.setCell ⟨w.heap.size + 1 + 1 + 1 + 1, 3, none⟩ (.int .i64 n)) := by
  obtain ⟨x, x1, x2, x3⟩ := h.bx
  exact ⟨h.below.setCell (by simp; omega) _, blk_other h.bp (by omega), blk_other h.bq (by omega), blk_other h.br (by omega), blk_other h.bz (by omega), ⟨x.a, x.b, x.c, n⟩, ⟨x1.1, x1.2.1, x1.2.2.1, hn⟩, hP, blk_set x3⟩
theorem MS.cellX (h : MS p q r P w W) {k : Nat} (hk : k < 4) : ∃ n, W.cell? ⟨w.heap.size + 1 + 1 + 1 + 1, k, none⟩ = some (.int .i64 n) := by
  obtain ⟨x, _, _, h⟩ := h.bx
  match k, hk with
  | 0, _ => exact ⟨_, (blk_cells h).1 _ _ rfl⟩
  | 1, _ => exact ⟨_, (blk_cells h).1 _ _ rfl⟩
  | 2, _ => exact ⟨_, (blk_cells h).1 _ _ rfl⟩
  | 3, _ => exact ⟨_, (blk_cells h).1 _ _ rfl⟩
theorem MS.frozenX (h : MS p q r P w W) : ∀ o, W.frozen? ⟨w.heap.size + 1 + 1 + 1 + 1, o, none⟩ = false := by
  obtain ⟨x, _, _, h⟩ := h.bx; exact (blk_cells h).2
theorem MS.start (p q r : Q4) (w : World) : MS p q r (fun _ => True) w (((((w.alloc (PV p)).alloc (PV q)).alloc (PV r)).alloc (PT ⟨0, 0, 0, 0⟩)).alloc (X4 ⟨0, 0, 0, 0⟩)) :=
  ⟨((((Below.refl _ _).alloc (Nat.le_refl _) _).alloc (by simp) _).alloc (by simp; omega) _).alloc (by simp; omega) _ |>.alloc (by simp; omega) _,
   (blk_new w (PV p)).alloc.alloc.alloc.alloc, by simpa using (blk_new (w.alloc (PV p)) (PV q)).alloc.alloc.alloc, by simpa using (blk_new ((w.alloc (PV p)).alloc (PV q)) (PV r)).alloc.alloc,
   by simpa using (blk_new (((w.alloc (PV p)).alloc (PV q)).alloc (PV r)) (PT ⟨0, 0, 0, 0⟩)).alloc, ⟨0, 0, 0, 0⟩, ⟨⟨by decide, by decide⟩, ⟨by decide, by decide⟩, ⟨by decide, by decide⟩, ⟨by decide, by decide⟩⟩, trivial, by simpa using blk_new ((((w.alloc (PV p)).alloc (PV q)).alloc (PV r)).alloc (PT ⟨0, 0, 0, 0⟩)) (X4 ⟨0, 0, 0, 0⟩)⟩
end
def meeS2 (w : World) (p q r : Q4) (d : Nat) (_ : World) (v : Value) : Prop := match d with
  | 13 => v = .agg #[.int .i64 (p.a), .int .i64 (p.b), .int .i64 (p.c), .int .i64 (p.d)]
  | 14 => v = .agg #[.int .i64 (p.a), .int .i64 (p.b), .int .i64 (p.c)]
  | 15 => v = .agg #[.int .i64 (q.a), .int .i64 (q.b), .int .i64 (q.c), .int .i64 (q.d)]
  | 16 => v = .agg #[.int .i64 (q.a), .int .i64 (q.b), .int .i64 (q.c)]
  | 17 => v = .agg #[.int .i64 (r.a), .int .i64 (r.b), .int .i64 (r.c), .int .i64 (r.d)]
  | 18 => v = .agg #[.int .i64 (r.a), .int .i64 (r.b), .int .i64 (r.c)]
  | 19 => ∃ n, I64 n ∧ v = .int .i64 n
  | _ => v = .pointer (some ⟨w.heap.size + 1 + 1 + 1 + 1, 3, none⟩)
def meeS8 (w : World) (p q r : Q4) (d : Nat) (W : World) (v : Value) : Prop := match d with
  | 29 => v = .agg #[.int .i64 (p.a), .int .i64 (p.b), .int .i64 (p.c), .int .i64 (p.d)]
  | 30 => v = .agg #[.int .i64 (p.a), .int .i64 (p.b), .int .i64 (p.c)]
  | 31 => v = .agg #[.int .i64 (q.a), .int .i64 (q.b), .int .i64 (q.c), .int .i64 (q.d)]
  | 32 => v = .agg #[.int .i64 (q.a), .int .i64 (q.b), .int .i64 (q.c)]
  | 33 => v = .agg #[.int .i64 (r.a), .int .i64 (r.b), .int .i64 (r.c), .int .i64 (r.d)]
  | 34 => v = .agg #[.int .i64 (r.a), .int .i64 (r.b), .int .i64 (r.c)]
  | _ => ∃ b, v = .pointer (some ⟨b, 0, none⟩) ∧ w.heap.size + 1 + 1 + 1 + 1 < b ∧ V3 b W
theorem meeS8_mono {w : World} {p q r : Q4} {W W1 : World} (hb : Below W.heap.size W W1) (d : Nat) (v : Value) (h : meeS8 w p q r d W v) : meeS8 w p q r d W1 v := by
  unfold meeS8 at h ⊢
  split at h <;> first | exact h | (obtain ⟨b, h1, h2, h3⟩ := h; exact ⟨b, h1, h2, h3.below hb⟩)
theorem meeS8_set {w : World} {p q r : Q4} {W : World} {b k : Nat} {n : Int} (hk : k < 3) (hn : I64 n) (d : Nat) (v : Value) (h : meeS8 w p q r d W v) : meeS8 w p q r d (W.setCell ⟨b, k, none⟩ (.int .i64 n)) v := by
  unfold meeS8 at h ⊢
  split at h <;> first | exact h | (obtain ⟨b, h1, h2, h3⟩ := h; exact ⟨b, h1, h2, h3.set hk hn⟩)
theorem meeS8_put {w : World} {p q r : Q4} {W : World} {b : Nat} {x y z : Int} (hx : I64 x) (hy : I64 y) (hz : I64 z) (d : Nat) (v : Value) (h : meeS8 w p q r d W v) : meeS8 w p q r d (((W.setCell ⟨b, 0, none⟩ (.int .i64 x)).setCell ⟨b, 1, none⟩ (.int .i64 y)).setCell ⟨b, 2, none⟩ (.int .i64 z)) v :=
  meeS8_set (by omega) hz d v (meeS8_set (by omega) hy d v (meeS8_set (by omega) hx d v h))
def meeS9 (w : World) (k b0 b1 b2 : Nat) (d : Nat) (_ : World) (v : Value) : Prop := match d with
  | 35 => v = .int .i64 k
  | 36 => v = .int .i64 k
  | 37 => v = .int .i64 k
  | 38 => v = .pointer (some ⟨w.heap.size, 3, none⟩)
  | 39 => ∃ n, v = .int .i64 n
  | 40 => ∃ n, I64 n ∧ v = .int .i64 n
  | 41 => v = .pointer (some ⟨w.heap.size + 1, 3, none⟩)
  | 42 => ∃ n, v = .int .i64 n
  | 43 => ∃ n, I64 n ∧ v = .int .i64 n
  | 44 => v = .pointer (some ⟨w.heap.size + 1 + 1, 3, none⟩)
  | 45 => ∃ n, v = .int .i64 n
  | 46 => ∃ n, I64 n ∧ v = .int .i64 n
  | 47 => v = .pointer (some ⟨b0, k, none⟩)
  | 48 => v = .pointer (some ⟨b1, k, none⟩)
  | _ => v = .pointer (some ⟨b2, k, none⟩)

/-- What Meet returns: four int64 and a truth. -/
def MeetOut (e : Ending) : Prop := ∃ (x : Q4) (c : Bool), x.I64 ∧ e = .returned (.tuple #[.agg #[.int .i64 (x.a), .int .i64 (x.b), .int .i64 (x.c), .int .i64 (x.d)], .bool c])
theorem zero_i64 : (⟨0, 0, 0, 0⟩ : Q4).I64 := ⟨⟨by decide, by decide⟩, ⟨by decide, by decide⟩, ⟨by decide, by decide⟩, ⟨by decide, by decide⟩⟩

set_option maxRecDepth 100000 in
set_option maxHeartbeats 4000000 in
/-- Meet returns, and what it returns is four int64 and a truth. -/
theorem meet_ex (p q r : Q4) (w : World) (ip : p.I64) (iq : q.I64) (ir : r.I64) :
    Calls Tryz.prog 28 #[.agg #[.int .i64 (p.a), .int .i64 (p.b), .int .i64 (p.c), .int .i64 (p.d)], .agg #[.int .i64 (q.a), .int .i64 (q.b), .int .i64 (q.c), .int .i64 (q.d)], .agg #[.int .i64 (r.a), .int .i64 (r.b), .int .i64 (r.c), .int .i64 (r.d)]] w fun e w' => MeetOut e ∧ Below w.heap.size w w' := by
  have HI : Hid (p.I64 ∧ q.I64 ∧ r.I64) := ⟨ip, iq, ir⟩
  clear ip iq ir
  go_enter Tryz.func28, Tryz.ntmps28
  have HM : Hid (MS p q r (fun _ => True) w (((((w.alloc (.cells #[.int .i64 p.a, .int .i64 p.b, .int .i64 p.c, .int .i64 p.d] 23)).alloc (.cells #[.int .i64 q.a, .int .i64 q.b, .int .i64 q.c, .int .i64 q.d] 23)).alloc (.cells #[.int .i64 r.a, .int .i64 r.b, .int .i64 r.c, .int .i64 r.d] 23)).alloc (.cells #[.int .i64 0, .int .i64 0, .int .i64 0, .int .i64 0] 48)).alloc (.cells #[.int .i64 0, .int .i64 0, .int .i64 0, .int .i64 0] 22))) := MS.start p q r w
  go_upto_region 2 with fail
  go_cut [] (fun wx => Hid (MS p q r (fun _ => True) w wx))
  case first =>
    generalize hW0 : World.alloc _ _ = W0 at HM ⊢
    refine wp_region_inv (by kernel_rfl) (by kernel_rfl) (fun listed aa wy => ∃ t : Nat → Value, aa = { tmps := #[.agg #[.int .i64 (p.a), .int .i64 (p.b), .int .i64 (p.c), .int .i64 (p.d)], .agg #[.int .i64 (q.a), .int .i64 (q.b), .int .i64 (q.c), .int .i64 (q.d)], .agg #[.int .i64 (r.a), .int .i64 (r.b), .int .i64 (r.c), .int .i64 (r.d)], .pointer (some ⟨w.heap.size, 0, none⟩), .pointer (some ⟨w.heap.size + 1, 0, none⟩), .pointer (some ⟨w.heap.size + 1 + 1, 0, none⟩), .pointer (some ⟨w.heap.size + 1 + 1 + 1, 0, none⟩), .bool false, .pointer (some ⟨w.heap.size + 1 + 1 + 1 + 1, 0, none⟩), undef, undef, undef, undef, t 13, t 14, t 15, t 16, t 17, t 18, t 19, t 20, undef, undef, undef, undef, undef, undef, undef, undef, undef, undef, undef, undef, undef, undef, undef, undef, undef, undef, undef, undef, undef, undef, undef, undef, undef, undef, undef, undef, undef, undef, undef, undef, undef, undef, undef, undef, undef], defers := [] } ∧ IR (fun W => MS p q r (fun _ => True) w W) (meeS2 w p q r) [(0, 13), (1, 14), (2, 15), (3, 16), (4, 17), (5, 18), (6, 19), (7, 20)] listed t wy) ⟨(fun _ => undef), rfl, IR.start _ HM.out.drew _⟩ ?_ ?_
    rotate_left
    · rintro listed hs i hi aa wy ⟨t, rfl, hR⟩ hr
      match i, hi, hr with
      | 0, _, hr =>
        as_aux_lemma =>
        refine wpOp_step rfl (fun K' hK => ?_)
        have hL := hR.fin
        obtain ⟨c0, c1, c2, c3⟩ := blk_four hL.bp
        clear hL
        go_simp
        exact hK _ _ ⟨upd t 13 _, rfl, hR.yields hR.fin (fun _ _ h => h) rfl rfl⟩
      | 1, _, hr =>
        as_aux_lemma =>
        refine wpOp_step rfl (fun K' hK => ?_)
        have e1 : t 13 = .agg #[.int .i64 (p.a), .int .i64 (p.b), .int .i64 (p.c), .int .i64 (p.d)] := hR.val (0, 13) (by simp) (dep_of hr 0 (by kernel_rfl))
        have HR := Lib.hid hR.fin
        go_simp
        refine (pnormal_any _ _ _ _ _).mono ?_
        rintro e w1 ⟨rfl, hb⟩
        exact hK _ _ ⟨upd t 14 _, by simp [upd, e1], hR.yields (HR.out.call hb) (fun _ _ h => h) rfl rfl⟩
      | 2, _, hr =>
        as_aux_lemma =>
        refine wpOp_step rfl (fun K' hK => ?_)
        have hL := hR.fin
        obtain ⟨c0, c1, c2, c3⟩ := blk_four hL.bq
        clear hL
        go_simp
        exact hK _ _ ⟨upd t 15 _, rfl, hR.yields hR.fin (fun _ _ h => h) rfl rfl⟩
      | 3, _, hr =>
        as_aux_lemma =>
        refine wpOp_step rfl (fun K' hK => ?_)
        have e1 : t 15 = .agg #[.int .i64 (q.a), .int .i64 (q.b), .int .i64 (q.c), .int .i64 (q.d)] := hR.val (2, 15) (by simp) (dep_of hr 2 (by kernel_rfl))
        have HR := Lib.hid hR.fin
        go_simp
        refine (pnormal_any _ _ _ _ _).mono ?_
        rintro e w1 ⟨rfl, hb⟩
        exact hK _ _ ⟨upd t 16 _, by simp [upd, e1], hR.yields (HR.out.call hb) (fun _ _ h => h) rfl rfl⟩
      | 4, _, hr =>
        as_aux_lemma =>
        refine wpOp_step rfl (fun K' hK => ?_)
        have hL := hR.fin
        obtain ⟨c0, c1, c2, c3⟩ := blk_four hL.br
        clear hL
        go_simp
        exact hK _ _ ⟨upd t 17 _, rfl, hR.yields hR.fin (fun _ _ h => h) rfl rfl⟩
      | 5, _, hr =>
        as_aux_lemma =>
        refine wpOp_step rfl (fun K' hK => ?_)
        have e1 : t 17 = .agg #[.int .i64 (r.a), .int .i64 (r.b), .int .i64 (r.c), .int .i64 (r.d)] := hR.val (4, 17) (by simp) (dep_of hr 4 (by kernel_rfl))
        have HR := Lib.hid hR.fin
        go_simp
        refine (pnormal_any _ _ _ _ _).mono ?_
        rintro e w1 ⟨rfl, hb⟩
        exact hK _ _ ⟨upd t 18 _, by simp [upd, e1], hR.yields (HR.out.call hb) (fun _ _ h => h) rfl rfl⟩
      | 6, _, hr =>
        as_aux_lemma =>
        refine wpOp_step rfl (fun K' hK => ?_)
        have e1 : t 14 = .agg #[.int .i64 (p.a), .int .i64 (p.b), .int .i64 (p.c)] := hR.val (1, 14) (by simp) (dep_of hr 1 (by kernel_rfl))
        have e2 : t 16 = .agg #[.int .i64 (q.a), .int .i64 (q.b), .int .i64 (q.c)] := hR.val (3, 16) (by simp) (dep_of hr 3 (by kernel_rfl))
        have e3 : t 18 = .agg #[.int .i64 (r.a), .int .i64 (r.b), .int .i64 (r.c)] := hR.val (5, 18) (by simp) (dep_of hr 5 (by kernel_rfl))
        have HR := Lib.hid hR.fin
        go_simp
        refine (det_ex _ _ _ _ _ _ _ _ _ _).mono ?_
        rintro e w1 ⟨⟨n, hn, rfl⟩, hb⟩
        exact hK _ _ ⟨upd t 19 _, by simp [upd, e1, e2, e3], hR.yields (HR.out.call hb) (fun _ _ h => h) ⟨n, hn, rfl⟩ rfl⟩
      | 7, _, hr =>
        as_aux_lemma =>
        refine wpOp_step rfl (fun K' hK => ?_)
        go_simp
        exact hK _ _ ⟨upd t 20 _, rfl, hR.yields hR.fin (fun _ _ h => h) rfl rfl⟩
      | 8, _, hr =>
        as_aux_lemma =>
        refine wpOp_step rfl (fun K' hK => ?_)
        have e1 : t 20 = .pointer (some ⟨w.heap.size + 1 + 1 + 1 + 1, 3, none⟩) := hR.val (7, 20) (by simp) (dep_of hr 7 (by kernel_rfl))
        obtain ⟨n, hn, ex1⟩ := hR.val (6, 19) (by simp) (dep_of hr 6 (by kernel_rfl))
        have ex1 : t 19 = .int .i64 n := ex1
        have HM2 := Lib.hid (hR.fin.setD (P' := fun _ => True) hn trivial)
        obtain ⟨m, c0⟩ := hR.fin.cellX (k := 3) (by omega)
        have cf := hR.fin.frozenX
        clear hn
        go_simp
        exact hK _ _ ⟨t, by simp [e1, ex1], hR.stores HM2.out (fun _ _ h => h) rfl⟩
    rintro listed a2 W2 ⟨t, rfl, hR⟩ hl
    have HX := Lib.hid hR.fin
    clear hR hl
    go_wp2_with fail
    go_meet
    exact HX
  case rest =>
    rename World => wx
    have HM1 := hcut
    clear HM hcut
    obtain ⟨x, ix, -, hx⟩ := HM1.out.bx
    by_cases h0 : x.d = 0
    · have HBZ := Lib.hid HM1.out.bz
      obtain ⟨z0, z1, z2, z3⟩ := blk_point HM1.out.bz
      have zf := (blk_cells HM1.out.bz).2
      have x3 : wx.cell? ⟨w.heap.size + 1 + 1 + 1 + 1, 3, none⟩ = some (.int .i64 0) := by rw [← h0]; exact (blk_cells hx).1 _ _ rfl
      have HB := Lib.hid HM1.out.below
      have hr : Room wx (w.heap.size + 1 + 1 + 1) 4 := ⟨_, _, rfl, HBZ.out⟩
      clear hx
      go_wp2
      refine bodyPost_ret (v := .tuple #[.agg #[.int .i64 0, .int .i64 0, .int .i64 0, .int .i64 0], .bool false]) ?_ rfl ⟨⟨⟨0, 0, 0, 0⟩, false, zero_i64, rfl⟩, ?_⟩
      · simp [results, Tryz.results28, go_sem, hr.some]
      · exact (((HB.out.setCell (by simp; omega) _).setCell (by simp; omega) _).setCell (by simp; omega) _).setCell (by simp; omega) _
    · have x3 : wx.cell? ⟨w.heap.size + 1 + 1 + 1 + 1, 3, none⟩ = some (.int .i64 x.d) := (blk_cells hx).1 _ _ rfl
      have hz : (x.d == 0) = false := by simpa using h0
      have HM : Hid (MS p q r (fun d => d ≠ 0) w wx) := ⟨HM1.out.below, HM1.out.bp, HM1.out.bq, HM1.out.br, HM1.out.bz, x, ix, h0, hx⟩
      clear HM1 hx ix
      go_wp2
      go_loopw [9] (fun s9 wr => ∃ k : Nat, k ≤ 3 ∧ s9 = .int .i64 k ∧ Hid (MS p q r (fun d => d ≠ 0) w wr)) (fun v _ => 3 - (intOf v).toNat)
      case atStart => exact ⟨0, by omega, rfl, HM⟩
      case round =>
        clear HM h0 hz x3
        rename World => wr
        obtain ⟨k, hk, rfl, HM⟩ := hrel
        by_cases hk3 : k < 3
        · have hlz : (k : Int) < 3 := by omega
          go_upto_region 8 with fail
          go_cut [10, 11, 12] from 25 to 55 (fun s10 s11 s12 wx => (∃ b0, s10 = .pointer (some ⟨b0, 0, none⟩) ∧ ∃ b1, s11 = .pointer (some ⟨b1, 0, none⟩) ∧ ∃ b2, s12 = .pointer (some ⟨b2, 0, none⟩) ∧ Hid (w.heap.size + 1 + 1 + 1 + 1 < b0 ∧ w.heap.size + 1 + 1 + 1 + 1 < b1 ∧ w.heap.size + 1 + 1 + 1 + 1 < b2) ∧ Hid (V3 b0 wx ∧ V3 b1 wx ∧ V3 b2 wx)) ∧ Hid (MS p q r (fun d => d ≠ 0) w wx))
          case first =>
            refine wp_region_inv (by kernel_rfl) (by kernel_rfl) (fun listed aa wy => ∃ t : Nat → Value, aa = { tmps := #[.agg #[.int .i64 (p.a), .int .i64 (p.b), .int .i64 (p.c), .int .i64 (p.d)], .agg #[.int .i64 (q.a), .int .i64 (q.b), .int .i64 (q.c), .int .i64 (q.d)], .agg #[.int .i64 (r.a), .int .i64 (r.b), .int .i64 (r.c), .int .i64 (r.d)], .pointer (some ⟨w.heap.size, 0, none⟩), .pointer (some ⟨w.heap.size + 1, 0, none⟩), .pointer (some ⟨w.heap.size + 1 + 1, 0, none⟩), .pointer (some ⟨w.heap.size + 1 + 1 + 1, 0, none⟩), .bool false, .pointer (some ⟨w.heap.size + 1 + 1 + 1 + 1, 0, none⟩), .int .i64 k, t 10, t 11, t 12, u13, u14, u15, u16, u17, u18, u19, u20, .pointer (some ⟨w.heap.size + 1 + 1 + 1 + 1, 3, none⟩), .int .i64 x.d, .bool false, u24, .int .i64 k, .bool true, u27, u28, t 29, t 30, t 31, t 32, t 33, t 34, u35, u36, u37, u38, u39, u40, u41, u42, u43, u44, u45, u46, u47, u48, u49, u50, u51, u52, u53, u54, u55, u56, u57], defers := [] } ∧ IR (fun W => MS p q r (fun d => d ≠ 0) w W) (meeS8 w p q r) [(0, 29), (1, 30), (2, 31), (3, 32), (4, 33), (5, 34), (6, 10), (7, 11), (8, 12)] listed t wy) ⟨(fun d => match d with | 29 => u29 | 30 => u30 | 31 => u31 | 32 => u32 | 33 => u33 | 34 => u34 | 10 => u10 | 11 => u11 | 12 => u12 | _ => undef), rfl, IR.start _ HM.out.drew _⟩ ?_ ?_
            rotate_left
            · rintro listed hs i hi aa wy ⟨t, rfl, hR⟩ hr
              match i, hi, hr with
              | 0, _, hr =>
                as_aux_lemma =>
                refine wpOp_step rfl (fun K' hK => ?_)
                have hL := hR.fin
                obtain ⟨c0, c1, c2, c3⟩ := blk_four hL.bp
                clear hL
                go_simp
                exact hK _ _ ⟨upd t 29 _, rfl, hR.yields hR.fin (fun _ _ h => h) rfl rfl⟩
              | 1, _, hr =>
                as_aux_lemma =>
                refine wpOp_step rfl (fun K' hK => ?_)
                have e1 : t 29 = .agg #[.int .i64 (p.a), .int .i64 (p.b), .int .i64 (p.c), .int .i64 (p.d)] := hR.val (0, 29) (by simp) (dep_of hr 0 (by kernel_rfl))
                have HR := Lib.hid hR.fin
                go_simp
                refine (pnormal_any _ _ _ _ _).mono ?_
                rintro e w1 ⟨rfl, hb⟩
                exact hK _ _ ⟨upd t 30 _, by simp [upd, e1], hR.yields (HR.out.call hb) (meeS8_mono hb) rfl rfl⟩
              | 2, _, hr =>
                as_aux_lemma =>
                refine wpOp_step rfl (fun K' hK => ?_)
                have hL := hR.fin
                obtain ⟨c0, c1, c2, c3⟩ := blk_four hL.bq
                clear hL
                go_simp
                exact hK _ _ ⟨upd t 31 _, rfl, hR.yields hR.fin (fun _ _ h => h) rfl rfl⟩
              | 3, _, hr =>
                as_aux_lemma =>
                refine wpOp_step rfl (fun K' hK => ?_)
                have e1 : t 31 = .agg #[.int .i64 (q.a), .int .i64 (q.b), .int .i64 (q.c), .int .i64 (q.d)] := hR.val (2, 31) (by simp) (dep_of hr 2 (by kernel_rfl))
                have HR := Lib.hid hR.fin
                go_simp
                refine (pnormal_any _ _ _ _ _).mono ?_
                rintro e w1 ⟨rfl, hb⟩
                exact hK _ _ ⟨upd t 32 _, by simp [upd, e1], hR.yields (HR.out.call hb) (meeS8_mono hb) rfl rfl⟩
              | 4, _, hr =>
                as_aux_lemma =>
                refine wpOp_step rfl (fun K' hK => ?_)
                have hL := hR.fin
                obtain ⟨c0, c1, c2, c3⟩ := blk_four hL.br
                clear hL
                go_simp
                exact hK _ _ ⟨upd t 33 _, rfl, hR.yields hR.fin (fun _ _ h => h) rfl rfl⟩
              | 5, _, hr =>
                as_aux_lemma =>
                refine wpOp_step rfl (fun K' hK => ?_)
                have e1 : t 33 = .agg #[.int .i64 (r.a), .int .i64 (r.b), .int .i64 (r.c), .int .i64 (r.d)] := hR.val (4, 33) (by simp) (dep_of hr 4 (by kernel_rfl))
                have HR := Lib.hid hR.fin
                go_simp
                refine (pnormal_any _ _ _ _ _).mono ?_
                rintro e w1 ⟨rfl, hb⟩
                exact hK _ _ ⟨upd t 34 _, by simp [upd, e1], hR.yields (HR.out.call hb) (meeS8_mono hb) rfl rfl⟩
              | 6, _, hr =>
                as_aux_lemma =>
                refine wpOp_step rfl (fun K' hK => ?_)
                have HR := Lib.hid hR.fin
                have hb : Below wy.heap.size wy (wy.alloc (VV ⟨0, 0, 0⟩)) := (Below.refl _ _).alloc (Nat.le_refl _) _
                have HB := Lib.hid hb
                clear hb
                go_simp
                exact hK _ _ ⟨upd t 10 _, rfl, hR.yields (HR.out.call HB.out) (meeS8_mono HB.out) ⟨_, rfl, HR.out.lt, V3.new wy⟩ rfl⟩
              | 7, _, hr =>
                as_aux_lemma =>
                refine wpOp_step rfl (fun K' hK => ?_)
                have HR := Lib.hid hR.fin
                have hb : Below wy.heap.size wy (wy.alloc (VV ⟨0, 0, 0⟩)) := (Below.refl _ _).alloc (Nat.le_refl _) _
                have HB := Lib.hid hb
                clear hb
                go_simp
                exact hK _ _ ⟨upd t 11 _, rfl, hR.yields (HR.out.call HB.out) (meeS8_mono HB.out) ⟨_, rfl, HR.out.lt, V3.new wy⟩ rfl⟩
              | 8, _, hr =>
                as_aux_lemma =>
                refine wpOp_step rfl (fun K' hK => ?_)
                have HR := Lib.hid hR.fin
                have hb : Below wy.heap.size wy (wy.alloc (VV ⟨0, 0, 0⟩)) := (Below.refl _ _).alloc (Nat.le_refl _) _
                have HB := Lib.hid hb
                clear hb
                go_simp
                exact hK _ _ ⟨upd t 12 _, rfl, hR.yields (HR.out.call HB.out) (meeS8_mono HB.out) ⟨_, rfl, HR.out.lt, V3.new wy⟩ rfl⟩
              | 9, _, hr =>
                as_aux_lemma =>
                refine wpOp_step rfl (fun K' hK => ?_)
                have e1 : t 30 = .agg #[.int .i64 (p.a), .int .i64 (p.b), .int .i64 (p.c)] := hR.val (1, 30) (by simp) (dep_of hr 1 (by kernel_rfl))
                obtain ⟨b, eb, hlo, hv⟩ := hR.val (6, 10) (by simp) (dep_of hr 6 (by kernel_rfl))
                have eb : t 10 = .pointer (some ⟨b, 0, none⟩) := eb
                obtain ⟨y0, y1, y2, hy⟩ := hv.cells
                have cf := hv.frozen
                have hI := HI.out.1
                have HM2 := Lib.hid (((hR.fin.set hlo 0 (.int .i64 p.a)).set hlo 1 (.int .i64 p.b)).set hlo 2 (.int .i64 p.c))
                have HS2 := Lib.hid (fun d v h => meeS8_put (w := w) (p := p) (q := q) (r := r) (b := b) (W := wy) hI.1 hI.2.1 hI.2.2.1 d v h)
                clear hI hlo hv
                go_simp
                exact hK _ _ ⟨t, by simp [e1, eb], hR.stores HM2.out HS2.out rfl⟩
              | 10, _, hr =>
                as_aux_lemma =>
                refine wpOp_step rfl (fun K' hK => ?_)
                have e1 : t 32 = .agg #[.int .i64 (q.a), .int .i64 (q.b), .int .i64 (q.c)] := hR.val (3, 32) (by simp) (dep_of hr 3 (by kernel_rfl))
                obtain ⟨b, eb, hlo, hv⟩ := hR.val (7, 11) (by simp) (dep_of hr 7 (by kernel_rfl))
                have eb : t 11 = .pointer (some ⟨b, 0, none⟩) := eb
                obtain ⟨y0, y1, y2, hy⟩ := hv.cells
                have cf := hv.frozen
                have hI := HI.out.2.1
                have HM2 := Lib.hid (((hR.fin.set hlo 0 (.int .i64 q.a)).set hlo 1 (.int .i64 q.b)).set hlo 2 (.int .i64 q.c))
                have HS2 := Lib.hid (fun d v h => meeS8_put (w := w) (p := p) (q := q) (r := r) (b := b) (W := wy) hI.1 hI.2.1 hI.2.2.1 d v h)
                clear hI hlo hv
                go_simp
                exact hK _ _ ⟨t, by simp [e1, eb], hR.stores HM2.out HS2.out rfl⟩
              | 11, _, hr =>
                as_aux_lemma =>
                refine wpOp_step rfl (fun K' hK => ?_)
                have e1 : t 34 = .agg #[.int .i64 (r.a), .int .i64 (r.b), .int .i64 (r.c)] := hR.val (5, 34) (by simp) (dep_of hr 5 (by kernel_rfl))
                obtain ⟨b, eb, hlo, hv⟩ := hR.val (8, 12) (by simp) (dep_of hr 8 (by kernel_rfl))
                have eb : t 12 = .pointer (some ⟨b, 0, none⟩) := eb
                obtain ⟨y0, y1, y2, hy⟩ := hv.cells
                have cf := hv.frozen
                have hI := HI.out.2.2
                have HM2 := Lib.hid (((hR.fin.set hlo 0 (.int .i64 r.a)).set hlo 1 (.int .i64 r.b)).set hlo 2 (.int .i64 r.c))
                have HS2 := Lib.hid (fun d v h => meeS8_put (w := w) (p := p) (q := q) (r := r) (b := b) (W := wy) hI.1 hI.2.1 hI.2.2.1 d v h)
                clear hI hlo hv
                go_simp
                exact hK _ _ ⟨t, by simp [e1, eb], hR.stores HM2.out HS2.out rfl⟩
            rintro listed a2 W2 ⟨t, rfl, hR⟩ hl
            obtain ⟨b0, eb0, hlo0, hv0⟩ : ∃ b, t 10 = .pointer (some ⟨b, 0, none⟩) ∧ w.heap.size + 1 + 1 + 1 + 1 < b ∧ V3 b W2 := hR.val (6, 10) (by simp) (hl 6 (by decide))
            obtain ⟨b1, eb1, hlo1, hv1⟩ : ∃ b, t 11 = .pointer (some ⟨b, 0, none⟩) ∧ w.heap.size + 1 + 1 + 1 + 1 < b ∧ V3 b W2 := hR.val (7, 11) (by simp) (hl 7 (by decide))
            obtain ⟨b2, eb2, hlo2, hv2⟩ : ∃ b, t 12 = .pointer (some ⟨b, 0, none⟩) ∧ w.heap.size + 1 + 1 + 1 + 1 < b ∧ V3 b W2 := hR.val (8, 12) (by simp) (hl 8 (by decide))
            have HX := Lib.hid hR.fin
            clear hR hl
            go_wp2_with fail
            go_meet
            exact ⟨⟨b0, eb0, b1, eb1, b2, eb2, Lib.hid ⟨hlo0, hlo1, hlo2⟩, Lib.hid ⟨hv0, hv1, hv2⟩⟩, HX⟩
          case rest =>
            clear HM
            obtain ⟨⟨b0, rfl, b1, rfl, b2, rfl, HLO, HV⟩, HM⟩ := hcut
            clear wr
            rename World => wr
            go_upto_region 9 with fail
            go_cut [] from 25 to 55 (fun wx => Hid (MS p q r (fun d => d ≠ 0) w wx ∧ V3 b0 wx ∧ V3 b1 wx ∧ V3 b2 wx))
            case first =>
              refine wp_region_inv (by kernel_rfl) (by kernel_rfl) (fun listed aa wy => ∃ t : Nat → Value, aa = { tmps := #[.agg #[.int .i64 (p.a), .int .i64 (p.b), .int .i64 (p.c), .int .i64 (p.d)], .agg #[.int .i64 (q.a), .int .i64 (q.b), .int .i64 (q.c), .int .i64 (q.d)], .agg #[.int .i64 (r.a), .int .i64 (r.b), .int .i64 (r.c), .int .i64 (r.d)], .pointer (some ⟨w.heap.size, 0, none⟩), .pointer (some ⟨w.heap.size + 1, 0, none⟩), .pointer (some ⟨w.heap.size + 1 + 1, 0, none⟩), .pointer (some ⟨w.heap.size + 1 + 1 + 1, 0, none⟩), .bool false, .pointer (some ⟨w.heap.size + 1 + 1 + 1 + 1, 0, none⟩), .int .i64 k, .pointer (some ⟨b0, 0, none⟩), .pointer (some ⟨b1, 0, none⟩), .pointer (some ⟨b2, 0, none⟩), u13, u14, u15, u16, u17, u18, u19, u20, .pointer (some ⟨w.heap.size + 1 + 1 + 1 + 1, 3, none⟩), .int .i64 x.d, .bool false, u24, u25, u26, u27, u28, u29, u30, u31, u32, u33, u34, t 35, t 36, t 37, t 38, t 39, t 40, t 41, t 42, t 43, t 44, t 45, t 46, t 47, t 48, t 49, u50, u51, u52, u53, u54, u55, u56, u57], defers := [] } ∧ IR (fun W => MS p q r (fun d => d ≠ 0) w W ∧ V3 b0 W ∧ V3 b1 W ∧ V3 b2 W) (meeS9 w k b0 b1 b2) [(0, 35), (1, 36), (2, 37), (3, 38), (4, 39), (5, 40), (6, 41), (7, 42), (8, 43), (9, 44), (10, 45), (11, 46), (12, 47), (14, 48), (16, 49)] listed t wy) ⟨(fun d => match d with | 35 => u35 | 36 => u36 | 37 => u37 | 38 => u38 | 39 => u39 | 40 => u40 | 41 => u41 | 42 => u42 | 43 => u43 | 44 => u44 | 45 => u45 | 46 => u46 | 47 => u47 | 48 => u48 | 49 => u49 | _ => undef), rfl, IR.start _ ⟨HM.out.drew, HV.out.1.drew, HV.out.2.1.drew, HV.out.2.2.drew⟩ _⟩ ?_ ?_
              rotate_left
              · rintro listed hs i hi aa wy ⟨t, rfl, hR⟩ hr
                match i, hi, hr with
                | 0, _, hr =>
                  as_aux_lemma =>
                  refine wpOp_step rfl (fun K' hK => ?_)
                  go_simp
                  exact hK _ _ ⟨upd t 35 _, rfl, hR.yields hR.fin (fun _ _ h => h) rfl rfl⟩
                | 1, _, hr =>
                  as_aux_lemma =>
                  refine wpOp_step rfl (fun K' hK => ?_)
                  go_simp
                  exact hK _ _ ⟨upd t 36 _, rfl, hR.yields hR.fin (fun _ _ h => h) rfl rfl⟩
                | 2, _, hr =>
                  as_aux_lemma =>
                  refine wpOp_step rfl (fun K' hK => ?_)
                  go_simp
                  exact hK _ _ ⟨upd t 37 _, rfl, hR.yields hR.fin (fun _ _ h => h) rfl rfl⟩
                | 3, _, hr =>
                  as_aux_lemma =>
                  refine wpOp_step rfl (fun K' hK => ?_)
                  go_simp
                  exact hK _ _ ⟨upd t 38 _, rfl, hR.yields hR.fin (fun _ _ h => h) rfl rfl⟩
                | 4, _, hr =>
                  as_aux_lemma =>
                  refine wpOp_step rfl (fun K' hK => ?_)
                  have e1 : t 38 = .pointer (some ⟨w.heap.size, 3, none⟩) := hR.val (3, 38) (by simp) (dep_of hr 3 (by kernel_rfl))
                  obtain ⟨c0, c1, c2, c3⟩ := blk_four hR.fin.1.bp
                  go_simp
                  exact hK _ _ ⟨upd t 39 (.int .i64 p.d), by simp [upd, e1], hR.yields hR.fin (fun _ _ h => h) ⟨_, rfl⟩ rfl⟩
                | 5, _, hr =>
                  as_aux_lemma =>
                  refine wpOp_step rfl (fun K' hK => ?_)
                  obtain ⟨n, ex1⟩ := hR.val (4, 39) (by simp) (dep_of hr 4 (by kernel_rfl))
                  have ex1 : t 39 = .int .i64 n := ex1
                  go_simp
                  exact hK _ _ ⟨upd t 40 (.int .i64 (IntKind.i64.wrap (-n))), by simp [upd, ex1], hR.yields hR.fin (fun _ _ h => h) ⟨_, I64w _, rfl⟩ rfl⟩
                | 6, _, hr =>
                  as_aux_lemma =>
                  refine wpOp_step rfl (fun K' hK => ?_)
                  go_simp
                  exact hK _ _ ⟨upd t 41 _, rfl, hR.yields hR.fin (fun _ _ h => h) rfl rfl⟩
                | 7, _, hr =>
                  as_aux_lemma =>
                  refine wpOp_step rfl (fun K' hK => ?_)
                  have e1 : t 41 = .pointer (some ⟨w.heap.size + 1, 3, none⟩) := hR.val (6, 41) (by simp) (dep_of hr 6 (by kernel_rfl))
                  obtain ⟨c0, c1, c2, c3⟩ := blk_four hR.fin.1.bq
                  go_simp
                  exact hK _ _ ⟨upd t 42 (.int .i64 q.d), by simp [upd, e1], hR.yields hR.fin (fun _ _ h => h) ⟨_, rfl⟩ rfl⟩
                | 8, _, hr =>
                  as_aux_lemma =>
                  refine wpOp_step rfl (fun K' hK => ?_)
                  obtain ⟨n, ex1⟩ := hR.val (7, 42) (by simp) (dep_of hr 7 (by kernel_rfl))
                  have ex1 : t 42 = .int .i64 n := ex1
                  go_simp
                  exact hK _ _ ⟨upd t 43 (.int .i64 (IntKind.i64.wrap (-n))), by simp [upd, ex1], hR.yields hR.fin (fun _ _ h => h) ⟨_, I64w _, rfl⟩ rfl⟩
                | 9, _, hr =>
                  as_aux_lemma =>
                  refine wpOp_step rfl (fun K' hK => ?_)
                  go_simp
                  exact hK _ _ ⟨upd t 44 _, rfl, hR.yields hR.fin (fun _ _ h => h) rfl rfl⟩
                | 10, _, hr =>
                  as_aux_lemma =>
                  refine wpOp_step rfl (fun K' hK => ?_)
                  have e1 : t 44 = .pointer (some ⟨w.heap.size + 1 + 1, 3, none⟩) := hR.val (9, 44) (by simp) (dep_of hr 9 (by kernel_rfl))
                  obtain ⟨c0, c1, c2, c3⟩ := blk_four hR.fin.1.br
                  go_simp
                  exact hK _ _ ⟨upd t 45 (.int .i64 r.d), by simp [upd, e1], hR.yields hR.fin (fun _ _ h => h) ⟨_, rfl⟩ rfl⟩
                | 11, _, hr =>
                  as_aux_lemma =>
                  refine wpOp_step rfl (fun K' hK => ?_)
                  obtain ⟨n, ex1⟩ := hR.val (10, 45) (by simp) (dep_of hr 10 (by kernel_rfl))
                  have ex1 : t 45 = .int .i64 n := ex1
                  go_simp
                  exact hK _ _ ⟨upd t 46 (.int .i64 (IntKind.i64.wrap (-n))), by simp [upd, ex1], hR.yields hR.fin (fun _ _ h => h) ⟨_, I64w _, rfl⟩ rfl⟩
                | 12, _, hr =>
                  as_aux_lemma =>
                  refine wpOp_step rfl (fun K' hK => ?_)
                  have e1 : t 35 = .int .i64 k := hR.val (0, 35) (by simp) (dep_of hr 0 (by kernel_rfl))
                  go_simp
                  exact hK _ _ ⟨upd t 47 _, by simp [upd, e1], hR.yields hR.fin (fun _ _ h => h) rfl rfl⟩
                | 13, _, hr =>
                  as_aux_lemma =>
                  refine wpOp_step rfl (fun K' hK => ?_)
                  have e1 : t 47 = .pointer (some ⟨b0, k, none⟩) := hR.val (12, 47) (by simp) (dep_of hr 12 (by kernel_rfl))
                  obtain ⟨n, hn, ex1⟩ := hR.val (5, 40) (by simp) (dep_of hr 5 (by kernel_rfl))
                  have ex1 : t 40 = .int .i64 n := ex1
                  obtain ⟨m, c0⟩ := hR.fin.2.1.cell hk3
                  have cf := hR.fin.2.1.frozen
                  have HM2 : Hid (MS p q r (fun d => d ≠ 0) w (wy.setCell ⟨b0, k, none⟩ (.int .i64 n)) ∧ V3 b0 (wy.setCell ⟨b0, k, none⟩ (.int .i64 n)) ∧ V3 b1 (wy.setCell ⟨b0, k, none⟩ (.int .i64 n)) ∧ V3 b2 (wy.setCell ⟨b0, k, none⟩ (.int .i64 n))) := ⟨hR.fin.1.set HLO.out.1 _ _, hR.fin.2.1.set hk3 hn, hR.fin.2.2.1.set hk3 hn, hR.fin.2.2.2.set hk3 hn⟩
                  clear hn
                  go_simp
                  exact hK _ _ ⟨t, by simp [e1, ex1], hR.stores HM2.out (fun _ _ h => h) rfl⟩
                | 14, _, hr =>
                  as_aux_lemma =>
                  refine wpOp_step rfl (fun K' hK => ?_)
                  have e1 : t 36 = .int .i64 k := hR.val (1, 36) (by simp) (dep_of hr 1 (by kernel_rfl))
                  go_simp
                  exact hK _ _ ⟨upd t 48 _, by simp [upd, e1], hR.yields hR.fin (fun _ _ h => h) rfl rfl⟩
                | 15, _, hr =>
                  as_aux_lemma =>
                  refine wpOp_step rfl (fun K' hK => ?_)
                  have e1 : t 48 = .pointer (some ⟨b1, k, none⟩) := hR.val (14, 48) (by simp) (dep_of hr 14 (by kernel_rfl))
                  obtain ⟨n, hn, ex1⟩ := hR.val (8, 43) (by simp) (dep_of hr 8 (by kernel_rfl))
                  have ex1 : t 43 = .int .i64 n := ex1
                  obtain ⟨m, c0⟩ := hR.fin.2.2.1.cell hk3
                  have cf := hR.fin.2.2.1.frozen
                  have HM2 : Hid (MS p q r (fun d => d ≠ 0) w (wy.setCell ⟨b1, k, none⟩ (.int .i64 n)) ∧ V3 b0 (wy.setCell ⟨b1, k, none⟩ (.int .i64 n)) ∧ V3 b1 (wy.setCell ⟨b1, k, none⟩ (.int .i64 n)) ∧ V3 b2 (wy.setCell ⟨b1, k, none⟩ (.int .i64 n))) := ⟨hR.fin.1.set HLO.out.2.1 _ _, hR.fin.2.1.set hk3 hn, hR.fin.2.2.1.set hk3 hn, hR.fin.2.2.2.set hk3 hn⟩
                  clear hn
                  go_simp
                  exact hK _ _ ⟨t, by simp [e1, ex1], hR.stores HM2.out (fun _ _ h => h) rfl⟩
                | 16, _, hr =>
                  as_aux_lemma =>
                  refine wpOp_step rfl (fun K' hK => ?_)
                  have e1 : t 37 = .int .i64 k := hR.val (2, 37) (by simp) (dep_of hr 2 (by kernel_rfl))
                  go_simp
                  exact hK _ _ ⟨upd t 49 _, by simp [upd, e1], hR.yields hR.fin (fun _ _ h => h) rfl rfl⟩
                | 17, _, hr =>
                  as_aux_lemma =>
                  refine wpOp_step rfl (fun K' hK => ?_)
                  have e1 : t 49 = .pointer (some ⟨b2, k, none⟩) := hR.val (16, 49) (by simp) (dep_of hr 16 (by kernel_rfl))
                  obtain ⟨n, hn, ex1⟩ := hR.val (11, 46) (by simp) (dep_of hr 11 (by kernel_rfl))
                  have ex1 : t 46 = .int .i64 n := ex1
                  obtain ⟨m, c0⟩ := hR.fin.2.2.2.cell hk3
                  have cf := hR.fin.2.2.2.frozen
                  have HM2 : Hid (MS p q r (fun d => d ≠ 0) w (wy.setCell ⟨b2, k, none⟩ (.int .i64 n)) ∧ V3 b0 (wy.setCell ⟨b2, k, none⟩ (.int .i64 n)) ∧ V3 b1 (wy.setCell ⟨b2, k, none⟩ (.int .i64 n)) ∧ V3 b2 (wy.setCell ⟨b2, k, none⟩ (.int .i64 n))) := ⟨hR.fin.1.set HLO.out.2.2 _ _, hR.fin.2.1.set hk3 hn, hR.fin.2.2.1.set hk3 hn, hR.fin.2.2.2.set hk3 hn⟩
                  clear hn
                  go_simp
                  exact hK _ _ ⟨t, by simp [e1, ex1], hR.stores HM2.out (fun _ _ h => h) rfl⟩
                | n + 18, hi, _ => exact absurd (show n + 18 < 18 from hi) (by omega)
              rintro listed a2 W2 ⟨t, rfl, hR⟩ hl
              have HX := Lib.hid hR.fin
              clear hR hl
              go_wp2_with fail
              go_meet
              exact HX
            case rest =>
              have HX : Hid (MS p q r (fun d => d ≠ 0) w _ ∧ V3 b0 _ ∧ V3 b1 _ ∧ V3 b2 _) := hcut
              clear HM HV wr hcut
              rename World => wr
              obtain ⟨u0, u1, u2, a0, a1, a2⟩ := HX.out.2.1.cells
              obtain ⟨v0, v1, v2, c0, c1, c2⟩ := HX.out.2.2.1.cells
              obtain ⟨y0, y1, y2, d0, d1, d2⟩ := HX.out.2.2.2.cells
              go_wp2_with fail
              ((with_reducible refine (det_ex _ _ _ _ _ _ _ _ _ _).mono ?_); rintro e w1 ⟨⟨n, hn, rfl⟩, hb⟩)
              have hM1 := HX.out.1.call hb
              obtain ⟨m, e0⟩ := hM1.cellX (k := k) (by omega)
              have ef := hM1.frozenX
              have HM2 := Lib.hid (hM1.setX hk3 hn)
              clear HX hb a0 a1 a2 c0 c1 c2 d0 d1 d2 hM1
              go_wp2
              go_roundw
              case rel => exact ⟨k + 1, by omega, by go_num, HM2⟩
              case measure => simp [intOf]; omega
        · have hlz : ¬ (k : Int) < 3 := by omega
          obtain ⟨x, ix, nx, hx⟩ := HM.out.bx
          obtain ⟨x0, x1, x2, x3⟩ : wr.cell? ⟨w.heap.size + 1 + 1 + 1 + 1, 0, none⟩ = some (.int .i64 x.a) ∧ wr.cell? ⟨w.heap.size + 1 + 1 + 1 + 1, 1, none⟩ = some (.int .i64 x.b) ∧ wr.cell? ⟨w.heap.size + 1 + 1 + 1 + 1, 2, none⟩ = some (.int .i64 x.c) ∧ wr.cell? ⟨w.heap.size + 1 + 1 + 1 + 1, 3, none⟩ = some (.int .i64 x.d) :=
            ⟨(blk_cells hx).1 _ _ rfl, (blk_cells hx).1 _ _ rfl, (blk_cells hx).1 _ _ rfl, (blk_cells hx).1 _ _ rfl⟩
          have HLW : Hid (∀ W, Calls Tryz.prog 52 #[.agg #[.int .i64 (x.a), .int .i64 (x.b), .int .i64 (x.c), .int .i64 (x.d)]] W fun e w' => (∃ n : Q4, n.I64 ∧ e = .returned (.agg #[.int .i64 (n.a), .int .i64 (n.b), .int .i64 (n.c), .int .i64 (n.d)])) ∧ Below W.heap.size W w') := fun W => lowest_ex x.a x.b x.c x.d W ix.1 ix.2.1 ix.2.2.1 ix.2.2.2 nx
          clear hx ix nx
          go_wp2_with fail
          ((with_reducible refine (HLW.out _).mono ?_); rintro e w1 ⟨⟨n, hn, rfl⟩, hb⟩)
          have hM1 := HM.out.call hb
          obtain ⟨z0, z1, z2, z3⟩ := blk_point hM1.bz
          have zf := (blk_cells hM1.bz).2
          have HB := Lib.hid hM1.below
          have HNI := Lib.hid hn
          have HBZ := Lib.hid hM1.bz
          clear hM1 hb HM x0 x1 x2 x3 hn
          have hr : Room w1 (w.heap.size + 1 + 1 + 1) 4 := ⟨_, _, rfl, HBZ.out⟩
          go_wp2
          refine bodyPost_ret (v := .tuple #[.agg #[.int .i64 (n.a), .int .i64 (n.b), .int .i64 (n.c), .int .i64 (n.d)], .bool true]) ?_ rfl ⟨⟨n, true, HNI.out, rfl⟩, ?_⟩
          · simp [results, Tryz.results28, go_sem, hr.some]
          · exact (((HB.out.setCell (by simp; omega) _).setCell (by simp; omega) _).setCell (by simp; omega) _).setCell (by simp; omega) _

end Go.Proofs.YtaoedfegakpjeabGreat
