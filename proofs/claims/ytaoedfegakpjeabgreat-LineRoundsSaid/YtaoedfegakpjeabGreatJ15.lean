/- Contracts of the functions that the statement reaches, and plain lemmas: part 15 of 25. -/
import Derived.Test.YtaoedfegakpjeabGreatJ14
import Derived.Test.YtaoedfegakpjeabGreatJ09
import Derived.Deep.CutRange
import Derived.Deep.DeepCutAuto

namespace Go.Proofs.YtaoedfegakpjeabGreat
open Go.RowKit

/-- A vector is a direction in a plane. -/
def WayOK (p : Q4) (d : T3) : Prop := ¬ (d.x = 0 ∧ d.y = 0 ∧ d.z = 0) ∧ d.x.natAbs ≤ 2000000 ∧ d.y.natAbs ≤ 2000000 ∧ d.z.natAbs ≤ 2000000 ∧ p.a * d.x + p.b * d.y + p.c * d.z = 0
/-- The normal's vector product with a vector. -/
noncomputable def wcx (p : Q4) (v : T3) : Int := crs p.b v.z p.c v.y
noncomputable def wcy (p : Q4) (v : T3) : Int := crs p.c v.x p.a v.z
noncomputable def wcz (p : Q4) (v : T3) : Int := crs p.a v.y p.b v.x
theorem wc_ok {p : Q4} (hp : Pl p) {v : T3} (hx : v.x.natAbs ≤ 4) (hy : v.y.natAbs ≤ 4) (hz : v.z.natAbs ≤ 4) (hn : eq3B (wcx p v) (wcy p v) (wcz p v) 0 0 0 = false) : WayOK p ⟨wcx p v, wcy p v, wcz p v⟩ := by
  have x := crs_id hp.b hz hp.c hy (by omega)
  have y := crs_id hp.c hx hp.a hz (by omega)
  have z := crs_id hp.a hy hp.b hx (by omega)
  refine ⟨fun h => ?_, ?_, ?_, ?_, ?_⟩
  · have h1 : wcx p v = 0 := h.1
    have h2 : wcy p v = 0 := h.2.1
    have h3 : wcz p v = 0 := h.2.2
    rw [h1, h2, h3] at hn; simp [eq3B] at hn
  · show (crs p.b v.z p.c v.y).natAbs ≤ _; rw [x.1]; omega
  · show (crs p.c v.x p.a v.z).natAbs ≤ _; rw [y.1]; omega
  · show (crs p.a v.y p.b v.x).natAbs ≤ _; rw [z.1]; omega
  · show p.a * crs p.b v.z p.c v.y + p.b * crs p.c v.x p.a v.z + p.c * crs p.a v.y p.b v.x = 0
    rw [x.1, y.1, z.1]; grind
/-- One of the products with the two first axes is not 0. -/
theorem wc_axes {p : Q4} (hp : Pl p) (h1 : eq3B (wcx p ⟨1, 0, 0⟩) (wcy p ⟨1, 0, 0⟩) (wcz p ⟨1, 0, 0⟩) 0 0 0 = true) : eq3B (wcx p ⟨0, 1, 0⟩) (wcy p ⟨0, 1, 0⟩) (wcz p ⟨0, 1, 0⟩) 0 0 0 = false := by
  have y := crs_id (b := p.c) (z := 1) (c := p.a) (y := 0) (A := 1000) (B := 1) hp.c (by decide) hp.a (by decide) (by omega)
  have z := crs_id (b := p.a) (z := 0) (c := p.b) (y := 1) (A := 1000) (B := 1) hp.a (by decide) hp.b (by decide) (by omega)
  have x' := crs_id (b := p.b) (z := 0) (c := p.c) (y := 1) (A := 1000) (B := 1) hp.b (by decide) hp.c (by decide) (by omega)
  have z' := crs_id (b := p.a) (z := 1) (c := p.b) (y := 0) (A := 1000) (B := 1) hp.a (by decide) hp.b (by decide) (by omega)
  have h : wcy p ⟨1, 0, 0⟩ = 0 ∧ wcz p ⟨1, 0, 0⟩ = 0 := by
    simp only [eq3B, Bool.and_eq_true, beq_iff_eq] at h1; exact ⟨h1.2.1, h1.2.2⟩
  have e1 : p.c = 0 := by
    have := h.1; unfold wcy at this; rw [y.1] at this; omega
  have e2 : p.b = 0 := by
    have := h.2; unfold wcz at this; rw [z.1] at this; omega
  have hn := hp.nz
  cases he : eq3B (wcx p ⟨0, 1, 0⟩) (wcy p ⟨0, 1, 0⟩) (wcz p ⟨0, 1, 0⟩) 0 0 0 with
  | false => rfl
  | true =>
    exfalso
    simp only [eq3B, Bool.and_eq_true, beq_iff_eq] at he
    have := he.2.2; unfold wcz at this; rw [z'.1] at this
    exact hn ⟨by omega, e2, e1⟩

theorem Room.lt {W : World} {b n : Nat} (h : Room W b n) : b < W.heap.size := by
  obtain ⟨c, t, _, h⟩ := h; exact (Array.getElem?_eq_some_iff.1 h).1
theorem Room.below {W W1 : World} {b n : Nat} (h : Room W b n) (hb : Below W.heap.size W W1) : Room W1 b n := by
  have hl := h.lt
  obtain ⟨c, t, h1, h2⟩ := h
  exact ⟨c, t, h1, by rw [hb.block b hl]; exact h2⟩
/-- The cells of the vector: the first k have turned. -/
def WyC (b : Nat) (v : T3) (y0 y1 y2 : Int) (k : Nat) (W : World) : Prop := W.cell? ⟨b, 0, none⟩ = some (.int .i64 (if 0 < k then y0 else v.x)) ∧ W.cell? ⟨b, 1, none⟩ = some (.int .i64 (if 1 < k then y1 else v.y)) ∧ W.cell? ⟨b, 2, none⟩ = some (.int .i64 (if 2 < k then y2 else v.z))
theorem WyC.set0 {b : Nat} {v : T3} {y0 y1 y2 : Int} {W : World} (h : WyC b v y0 y1 y2 0 W) (hr : Room W b 3) : WyC b v y0 y1 y2 1 (W.setCell ⟨b, 0, none⟩ (.int .i64 y0)) := ⟨hr.hit (by omega), (cell_set_off (by omega)).trans h.2.1, (cell_set_off (by omega)).trans h.2.2⟩
theorem WyC.set1 {b : Nat} {v : T3} {y0 y1 y2 : Int} {W : World} (h : WyC b v y0 y1 y2 1 W) (hr : Room W b 3) : WyC b v y0 y1 y2 2 (W.setCell ⟨b, 1, none⟩ (.int .i64 y1)) := ⟨(cell_set_off (by omega)).trans h.1, hr.hit (by omega), (cell_set_off (by omega)).trans h.2.2⟩
theorem WyC.set2 {b : Nat} {v : T3} {y0 y1 y2 : Int} {W : World} (h : WyC b v y0 y1 y2 2 W) (hr : Room W b 3) : WyC b v y0 y1 y2 3 (W.setCell ⟨b, 2, none⟩ (.int .i64 y2)) := ⟨(cell_set_off (by omega)).trans h.1, (cell_set_off (by omega)).trans h.2.1, hr.hit (by omega)⟩
/-- What is known behind the first product. -/
structure WyAt (p : Q4) (y : T3) (b6 : Nat) (w wr W : World) : Prop where
  below : Below wr.heap.size wr W
  lo : wr.heap.size ≤ b6
  room : Room W b6 3
  c0 : W.cell? ⟨b6, 0, none⟩ = some (.int .i64 (wcx p y))
  c1 : W.cell? ⟨b6, 1, none⟩ = some (.int .i64 (wcy p y))
  c2 : W.cell? ⟨b6, 2, none⟩ = some (.int .i64 (wcz p y))

set_option maxRecDepth 100000 in
set_option maxHeartbeats 2000000 in
theorem wy_any (p : Q4) (v : T3) (w : World) :
    Calls Tryz.prog 22 #[.agg #[.int .i64 (p.a), .int .i64 (p.b), .int .i64 (p.c), .int .i64 (p.d)], .agg #[.int .i64 (v.x), .int .i64 (v.y), .int .i64 (v.z)]] w fun e w' => (∃ d : T3, (Pl p → WayOK p d) ∧ I64 d.x ∧ I64 d.y ∧ I64 d.z ∧ e = .returned (.agg #[.int .i64 (d.x), .int .i64 (d.y), .int .i64 (d.z)])) ∧ Below w.heap.size w w' := by
  have HY : Hid (∀ x, -4 ≤ tmV x 4 ∧ tmV x 4 ≤ 4) := fun x => tmV_range x 4 (by omega) (by omega)
  have HE0 : Hid (∀ x, IntKind.u64.wrap x % 9 - 4 = tmV x 4) := fun x => by
    have := u64_wrap_range x
    rw [tmV_eq]
    generalize IntKind.u64.wrap x = r at this
    unfold wrap64; omega
  have hu0 := u64_wrap_range v.x
  have hu1 := u64_wrap_range v.y
  have hu2 := u64_wrap_range v.z
  go_enter Tryz.func22, Tryz.ntmps22
  have hE : ∀ W, Fr 3 [(0, .cells #[.int .i64 (p.a), .int .i64 (p.b), .int .i64 (p.c), .int .i64 (p.d)] 23)] [(1, 3), (2, 3)] w W → (W.cell? ⟨w.heap.size, 0, none⟩ = some (.int .i64 (p.a)) ∧ W.cell? ⟨w.heap.size, 1, none⟩ = some (.int .i64 (p.b)) ∧ W.cell? ⟨w.heap.size, 2, none⟩ = some (.int .i64 (p.c)) ∧ W.cell? ⟨w.heap.size, 3, none⟩ = some (.int .i64 (p.d)) ∧ (∀ o, o < 3 → W.cell? ⟨w.heap.size + 1, o, none⟩ = some (cellOf W ⟨w.heap.size + 1, o, none⟩)) ∧ (∀ o, o < 3 → W.frozen? ⟨w.heap.size + 1, o, none⟩ = false) ∧ (∀ o, o < 3 → W.cell? ⟨w.heap.size + 2, o, none⟩ = some (cellOf W ⟨w.heap.size + 2, o, none⟩)) ∧ (∀ o, o < 3 → W.frozen? ⟨w.heap.size + 2, o, none⟩ = false)) := fun W h => by (repeat' apply And.intro) <;> first | exact h.at0 rfl | exact h.at rfl | exact (h.rms0 rfl).cell | exact (h.rms rfl).cell | exact (h.rms0 rfl).frozen | exact (h.rms rfl).frozen
  have HE := Lib.hid hE
  clear hE
  go_wp2
  go_loopw [5] (fun i wr => ∃ k : Nat, k ≤ 3 ∧ i = .int .i64 k ∧ Fr 3 [(0, .cells #[.int .i64 (p.a), .int .i64 (p.b), .int .i64 (p.c), .int .i64 (p.d)] 23)] [(1, 3), (2, 3)] w wr ∧ WyC (w.heap.size + 1) v (tmV v.x 4) (tmV v.y 4) (tmV v.z 4) k wr) (fun i _ => 3 - (intOf i).toNat)
  case atStart => exact ⟨0, by omega, rfl, ((((Fr.nil w).fixed (by simp) (.cells #[.int .i64 (p.a), .int .i64 (p.b), .int .i64 (p.c), .int .i64 (p.d)] 23)).roomy (by simp) #[.int .i64 (v.x), .int .i64 (v.y), .int .i64 (v.z)] 24).roomy (by simp) #[.int .i64 0, .int .i64 0, .int .i64 0] 24), by simp [WyC, go_sem]⟩
  case round =>
    rename_i wr
    obtain ⟨k, hk, rfl, hF, hC⟩ := hrel
    match k, hk with
    | 0, _ =>
      have HC := Lib.hid hC
      obtain ⟨v0, v1, v2⟩ : wr.cell? ⟨w.heap.size + 1, 0, none⟩ = some (.int .i64 v.x) ∧ wr.cell? ⟨w.heap.size + 1, 1, none⟩ = some (.int .i64 v.y) ∧ wr.cell? ⟨w.heap.size + 1, 2, none⟩ = some (.int .i64 v.z) := hC
      have hq := (hF.rms (i := 1) (n := 3) rfl).frozen
      go_wp2
      go_roundw
      case measure => simp [intOf]
      case rel =>
        rw [HE0.out]
        exact ⟨1, by omega, rfl, (by (repeat (first | exact hF | exact And.left (by assumption) | refine Fr.set ?_ (by first | (simp; done) | (simp; omega)) (by first | (simp [List.lookup]; done) | (simp [Nat.add_assoc, List.lookup]; done)) _ | refine Fr.drew ?_ | refine Fr.alloc ?_ _))), HC.out.set0 (hF.rms (i := 1) rfl)⟩
    | 1, _ =>
      have HC := Lib.hid hC
      obtain ⟨v0, v1, v2⟩ : wr.cell? ⟨w.heap.size + 1, 0, none⟩ = some (.int .i64 (tmV v.x 4)) ∧ wr.cell? ⟨w.heap.size + 1, 1, none⟩ = some (.int .i64 v.y) ∧ wr.cell? ⟨w.heap.size + 1, 2, none⟩ = some (.int .i64 v.z) := hC
      have hq := (hF.rms (i := 1) (n := 3) rfl).frozen
      go_wp2
      go_roundw
      case measure => simp [intOf]
      case rel =>
        rw [HE0.out]
        exact ⟨2, by omega, rfl, (by (repeat (first | exact hF | exact And.left (by assumption) | refine Fr.set ?_ (by first | (simp; done) | (simp; omega)) (by first | (simp [List.lookup]; done) | (simp [Nat.add_assoc, List.lookup]; done)) _ | refine Fr.drew ?_ | refine Fr.alloc ?_ _))), HC.out.set1 (hF.rms (i := 1) rfl)⟩
    | 2, _ =>
      have HC := Lib.hid hC
      obtain ⟨v0, v1, v2⟩ : wr.cell? ⟨w.heap.size + 1, 0, none⟩ = some (.int .i64 (tmV v.x 4)) ∧ wr.cell? ⟨w.heap.size + 1, 1, none⟩ = some (.int .i64 (tmV v.y 4)) ∧ wr.cell? ⟨w.heap.size + 1, 2, none⟩ = some (.int .i64 v.z) := hC
      have hq := (hF.rms (i := 1) (n := 3) rfl).frozen
      go_wp2
      go_roundw
      case measure => simp [intOf]
      case rel =>
        rw [HE0.out]
        exact ⟨3, by omega, rfl, (by (repeat (first | exact hF | exact And.left (by assumption) | refine Fr.set ?_ (by first | (simp; done) | (simp; omega)) (by first | (simp [List.lookup]; done) | (simp [Nat.add_assoc, List.lookup]; done)) _ | refine Fr.drew ?_ | refine Fr.alloc ?_ _))), HC.out.set2 (hF.rms (i := 1) rfl)⟩
    | 3, _ =>
      obtain ⟨v0, v1, v2⟩ : wr.cell? ⟨w.heap.size + 1, 0, none⟩ = some (.int .i64 (tmV v.x 4)) ∧ wr.cell? ⟨w.heap.size + 1, 1, none⟩ = some (.int .i64 (tmV v.y 4)) ∧ wr.cell? ⟨w.heap.size + 1, 2, none⟩ = some (.int .i64 (tmV v.z 4)) := hC
      obtain ⟨l0, r0⟩ := HY.out v.x
      obtain ⟨l1, r1⟩ := HY.out v.y
      obtain ⟨l2, r2⟩ := HY.out v.z
      obtain ⟨y, hy⟩ : ∃ y : T3, y = ⟨tmV v.x 4, tmV v.y 4, tmV v.z 4⟩ := ⟨_, rfl⟩
      have ey0 : tmV v.x 4 = y.x := by rw [hy]
      have ey1 : tmV v.y 4 = y.y := by rw [hy]
      have ey2 : tmV v.z 4 = y.z := by rw [hy]
      rw [ey0] at v0 l0 r0
      rw [ey1] at v1 l1 r1
      rw [ey2] at v2 l2 r2
      have HL : Hid (y.x.natAbs ≤ 4 ∧ y.y.natAbs ≤ 4 ∧ y.z.natAbs ≤ 4) := ⟨by omega, by omega, by omega⟩
      clear hy ey0 ey1 ey2 HY HE0 hu0 hu1 hu2 l0 l1 l2 r0 r1 r2
      obtain ⟨p0, p1, p2, p3, -⟩ := HE.out _ hF
      have s0 : w.heap.size < wr.heap.size := by have := hF.own.size; omega
      have s1 : w.heap.size + 1 < wr.heap.size := by have := hF.own.size; omega
      have hres := Lib.hid (hF.rms (i := 2) (n := 3) rfl)
      have hwr := Lib.hid hF.own.below
      clear HE hF
      go_wp2
      have hE : ∀ W, Fr 0 [] [] wr W → (W.cell? ⟨w.heap.size, 0, none⟩ = some (.int .i64 (p.a)) ∧ W.cell? ⟨w.heap.size, 1, none⟩ = some (.int .i64 (p.b)) ∧ W.cell? ⟨w.heap.size, 2, none⟩ = some (.int .i64 (p.c)) ∧ W.cell? ⟨w.heap.size, 3, none⟩ = some (.int .i64 (p.d)) ∧ W.cell? ⟨(w.heap.size+1), 0, none⟩ = some (.int .i64 (y.x)) ∧ W.cell? ⟨(w.heap.size+1), 1, none⟩ = some (.int .i64 (y.y)) ∧ W.cell? ⟨(w.heap.size+1), 2, none⟩ = some (.int .i64 (y.z))) := fun W h => by (repeat' apply And.intro) <;> first | exact h.at0 rfl | exact h.at rfl | exact (h.rms0 rfl).cell | exact (h.rms rfl).cell | exact (h.rms0 rfl).frozen | exact (h.rms rfl).frozen | exact (h.own.below.cell (p := ⟨w.heap.size, _, none⟩) s0).trans (by assumption) | exact (h.own.below.cell (p := ⟨(w.heap.size+1), _, none⟩) s1).trans (by assumption)
      have HE := Lib.hid hE
      clear hE
      have hF : Fr 0 [] [] wr wr := Fr.nil _
      clear p0 p1 p2 p3 v0 v1 v2
      go_cut [6] (fun s6 wx => ∃ b6, s6 = .pointer (some ⟨b6, 0, none⟩) ∧ WyAt p y b6 w wr wx)
      case first =>
        have HX : Hid (∀ W, Calls Tryz.prog 37 #[.agg #[.int .i64 (p.a), .int .i64 (p.b), .int .i64 (p.c)], .agg #[.int .i64 (y.x), .int .i64 (y.y), .int .i64 (y.z)]] W fun e w' => e = .returned (.agg #[.int .i64 (wcx p y), .int .i64 (wcy p y), .int .i64 (wcz p y)]) ∧ Below W.heap.size W w') := fun W => pcross_any p.a p.b p.c y.x y.y y.z W
        refine wp_region_inv (by kernel_rfl) (by kernel_rfl) (fun listed a wy => ∃ u : Nat → Value, a = { tmps := #[.agg #[.int .i64 (p.a), .int .i64 (p.b), .int .i64 (p.c), .int .i64 (p.d)], .agg #[.int .i64 (v.x), .int .i64 (v.y), .int .i64 (v.z)], .pointer (some ⟨w.heap.size, 0, none⟩), .pointer (some ⟨w.heap.size + 1, 0, none⟩), .pointer (some ⟨w.heap.size + 1 + 1, 0, none⟩), .int .i64 3, u 6, .int .i64 3, .bool false, u9, u10, u11, u12, u13, u14, u15, u16, u17, u18, u19, u 20, u 21, u 22, u 23, undef, undef, undef, undef, undef, undef, undef, undef, undef, undef, undef, undef, undef, undef, undef], defers := [] } ∧ Rg wr.drew (fun d => match d with | 20 => .agg #[.int .i64 (p.a), .int .i64 (p.b), .int .i64 (p.c), .int .i64 (p.d)] | 21 => .agg #[.int .i64 (p.a), .int .i64 (p.b), .int .i64 (p.c)] | 22 => .agg #[.int .i64 (y.x), .int .i64 (y.y), .int .i64 (y.z)] | _ => .agg #[.int .i64 (wcx p y), .int .i64 (wcy p y), .int .i64 (wcz p y)]) (fun _ => [.int .i64 (wcx p y), .int .i64 (wcy p y), .int .i64 (wcz p y)]) [(0, 20), (1, 21), (2, 22), (3, 23)] [(4, 6, 3)] [(5, 6)] listed u wy) ⟨fun _ => undef, rfl, Rg.start _ _⟩ ?_ ?_
        rotate_left
        · rintro listed hs i hi a wy ⟨u, rfl, hR⟩ hr
          match i, hi, hr with
          | 0, _, hr =>
            as_aux_lemma =>
            refine wpOp_step rfl (fun K' hK => ?_)
            have hqr := HE.out _ (hF.drew.call hR.below)
            go_simp
            exact hK _ _ ⟨upd u 20 _, rfl, hR.yields (Below.refl _ _) rfl rfl rfl rfl⟩
          | 1, _, hr =>
            as_aux_lemma =>
            refine wpOp_step rfl (fun K' hK => ?_)
            have e0 : u 20 = .agg #[.int .i64 (p.a), .int .i64 (p.b), .int .i64 (p.c), .int .i64 (p.d)] := hR.val (0, 20) (by simp) (dep_of hr 0 (by kernel_rfl))
            go_simp
            refine (pnormal_any _ _ _ _ _).mono ?_
            rintro e w1 ⟨rfl, hb1⟩
            exact hK _ _ ⟨upd u 21 _, by simp [upd, e0], hR.yields hb1 rfl rfl rfl rfl⟩
          | 2, _, hr =>
            as_aux_lemma =>
            refine wpOp_step rfl (fun K' hK => ?_)
            have hqr := HE.out _ (hF.drew.call hR.below)
            go_simp
            exact hK _ _ ⟨upd u 22 _, rfl, hR.yields (Below.refl _ _) rfl rfl rfl rfl⟩
          | 3, _, hr =>
            as_aux_lemma =>
            refine wpOp_step rfl (fun K' hK => ?_)
            have e1 : u 21 = .agg #[.int .i64 (p.a), .int .i64 (p.b), .int .i64 (p.c)] := hR.val (1, 21) (by simp) (dep_of hr 1 (by kernel_rfl))
            have e2 : u 22 = .agg #[.int .i64 (y.x), .int .i64 (y.y), .int .i64 (y.z)] := hR.val (2, 22) (by simp) (dep_of hr 2 (by kernel_rfl))
            go_simp
            refine (HX.out _).mono ?_
            rintro e w1 ⟨rfl, hb1⟩
            exact hK _ _ ⟨upd u 23 _, by simp [upd, e1, e2], hR.yields hb1 rfl rfl rfl rfl⟩
          | 4, _, hr =>
            as_aux_lemma =>
            refine wpOp_step rfl (fun K' hK => ?_)
            go_simp
            exact hK _ _ ⟨upd u 6 _, rfl, hR.makes (n := 3) rfl (ready_spec.1 hr).2.1 rfl rfl rfl⟩
          | 5, _, hr =>
            as_aux_lemma =>
            refine wpOp_step rfl (fun K' hK => ?_)
            have e1 : u 23 = .agg #[.int .i64 (wcx p y), .int .i64 (wcy p y), .int .i64 (wcz p y)] := hR.val (3, 23) (by simp) (dep_of hr 3 (by kernel_rfl))
            have hl := dep_of hr 4 (by kernel_rfl)
            obtain ⟨b, eb, _, _, hrm⟩ := hR.ali (4, 6, 3) (by simp) hl
            have rc := hrm.cell
            have rf := hrm.frozen
            go_simp
            refine hK _ _ ⟨u, by simp [e1, eb], hR.stores (k := 4) (s := 6) (n := 3) hl eb ((OnlyAt.set _ _ _ _).trans ((OnlyAt.set _ _ _ _).trans (OnlyAt.set _ _ _ _))) ?_ rfl⟩
            intro j v hj
            match j, hj with
            | 0, hj => simp at hj; subst hj; simp [go_sem, hrm.some]
            | 1, hj => simp at hj; subst hj; simp [go_sem, hrm.some]
            | 2, hj => simp at hj; subst hj; simp [go_sem, hrm.some]
        rintro listed a W2 ⟨u, rfl, hR⟩ hl
        obtain ⟨b, eb, hlo, _, hrm⟩ := hR.ali (4, 6, 3) (by simp) (hl 4 (by decide))
        obtain ⟨b', eb', _, hk, _⟩ := hR.sto (5, 6) (by simp) (hl 5 (by decide))
        have ebb : b' = b := by have := eb'.symm.trans eb; simpa using this
        subst ebb
        have HAT : Hid (WyAt p y b' w wr W2) := ⟨(Below.refl wr.heap.size wr).drew.trans hR.below, hlo, hrm, hk 0 _ rfl, hk 1 _ rfl, hk 2 _ rfl⟩
        have HEB := Lib.hid eb
        clear hR hl eb eb' hlo hrm hk
        go_wp2_with fail
        go_meet
        exact ⟨b', HEB.out, HAT.out⟩
      case rest =>
        obtain ⟨b6, rfl, hat⟩ := hcut
        rename World => wx
        have hbx := hat.below
        have hr := hres.out.below hbx
        have h6 := hat.room
        have hW : Hid (Below wr.heap.size wr wx) := hbx
        have hlo := hat.lo
        have s2 := hres.out.lt
        obtain ⟨p0, p1, p2, p3, -⟩ := HE.out _ (hF.call hbx)
        have c0 := hat.c0
        have c1 := hat.c1
        have c2 := hat.c2
        have hbw : Hid (Below w.heap.size w wx) := Lib.hid (hwr.out.trans (hbx.mono hwr.out.size))
        have HN : Hid (∀ W, Calls Tryz.prog 14 #[.agg #[.int .i64 (p.a), .int .i64 (p.b), .int .i64 (p.c), .int .i64 (p.d)]] W fun e w' => e = .returned (.agg #[.int .i64 (p.a), .int .i64 (p.b), .int .i64 (p.c)]) ∧ Below W.heap.size W w') := fun W => pnormal_any p.a p.b p.c p.d W
        have HX1 : Hid (∀ W, Calls Tryz.prog 37 #[.agg #[.int .i64 (p.a), .int .i64 (p.b), .int .i64 (p.c)], .agg #[.int .i64 1, .int .i64 0, .int .i64 0]] W fun e w' => e = .returned (.agg #[.int .i64 (wcx p ⟨1, 0, 0⟩), .int .i64 (wcy p ⟨1, 0, 0⟩), .int .i64 (wcz p ⟨1, 0, 0⟩)]) ∧ Below W.heap.size W w') := fun W => pcross_any p.a p.b p.c 1 0 0 W
        have HX2 : Hid (∀ W, Calls Tryz.prog 37 #[.agg #[.int .i64 (p.a), .int .i64 (p.b), .int .i64 (p.c)], .agg #[.int .i64 0, .int .i64 1, .int .i64 0]] W fun e w' => e = .returned (.agg #[.int .i64 (wcx p ⟨0, 1, 0⟩), .int .i64 (wcy p ⟨0, 1, 0⟩), .int .i64 (wcz p ⟨0, 1, 0⟩)]) ∧ Below W.heap.size W w') := fun W => pcross_any p.a p.b p.c 0 1 0 W
        clear hat hbx hF
        cases h1 : eq3B (wcx p y) (wcy p y) (wcz p y) 0 0 0 with
        | false =>
          have HO : Hid (Pl p → WayOK p ⟨wcx p y, wcy p y, wcz p y⟩) := fun hp => wc_ok hp HL.out.1 HL.out.2.1 HL.out.2.2 h1
          have rc := hr.cell
          have rf := hr.frozen
          clear hr
          go_wp2
          refine bodyPost_ret (v := .agg #[.int .i64 (wcx p y), .int .i64 (wcy p y), .int .i64 (wcz p y)]) ?_ rfl ⟨⟨⟨wcx p y, wcy p y, wcz p y⟩, HO.out, crs_i64 _ _ _ _, crs_i64 _ _ _ _, crs_i64 _ _ _ _, rfl⟩, ?_⟩
          · simp [results, Tryz.results22, go_sem, rc]
          · exact ((hbw.out.setCell (by simp; omega) _).setCell (by simp; omega) _).setCell (by simp; omega) _
        | true =>
          have hne1 : ¬ b6 = w.heap.size + 2 := by omega
          have hne2 : ¬ w.heap.size + 2 = b6 := by omega
          cases h2 : eq3B (wcx p ⟨1, 0, 0⟩) (wcy p ⟨1, 0, 0⟩) (wcz p ⟨1, 0, 0⟩) 0 0 0 with
          | false =>
            have HO : Hid (Pl p → WayOK p ⟨wcx p ⟨1, 0, 0⟩, wcy p ⟨1, 0, 0⟩, wcz p ⟨1, 0, 0⟩⟩) := fun hp => wc_ok hp (by decide) (by decide) (by decide) h2
            go_wp2_with fail
            ((with_reducible refine (HN.out _).mono ?_); rintro e w1a ⟨rfl, hb1⟩)
            go_wp2_with fail
            ((with_reducible refine (HX1.out _).mono ?_); rintro e w1b ⟨rfl, hb2⟩)
            have hr := (hr.below hb1).below hb2
            have h6 := (h6.below hb1).below hb2
            have hW := Lib.hid ((hW.out.trans (hb1.mono hW.out.size)).trans (hb2.mono (Nat.le_trans hW.out.size hb1.size)))
            have hbw := Lib.hid (hwr.out.trans (hW.out.mono hwr.out.size))
            obtain ⟨p0, p1, p2, p3, -⟩ := HE.out _ (Fr.call (Fr.nil wr) hW.out)
            clear hb1 hb2
            have r6c := h6.cell
            have r6f := h6.frozen
            have l6 := h6.lt
            have rc := hr.cell
            have rf := hr.frozen
            go_wp2
            refine bodyPost_ret (v := .agg #[.int .i64 (wcx p ⟨1, 0, 0⟩), .int .i64 (wcy p ⟨1, 0, 0⟩), .int .i64 (wcz p ⟨1, 0, 0⟩)]) ?_ rfl ⟨⟨⟨wcx p ⟨1, 0, 0⟩, wcy p ⟨1, 0, 0⟩, wcz p ⟨1, 0, 0⟩⟩, HO.out, crs_i64 _ _ _ _, crs_i64 _ _ _ _, crs_i64 _ _ _ _, rfl⟩, ?_⟩
            · simp [results, Tryz.results22, go_sem, rc]
            · exact (((((hbw.out.setCell (by simp; omega) _).setCell (by simp; omega) _).setCell (by simp; omega) _).setCell (by simp; omega) _).setCell (by simp; omega) _).setCell (by simp; omega) _
          | true =>
            have HO : Hid (Pl p → WayOK p ⟨wcx p ⟨0, 1, 0⟩, wcy p ⟨0, 1, 0⟩, wcz p ⟨0, 1, 0⟩⟩) := fun hp => wc_ok hp (by decide) (by decide) (by decide) (wc_axes hp h2)
            go_wp2_with fail
            ((with_reducible refine (HN.out _).mono ?_); rintro e w1a ⟨rfl, hb1⟩)
            go_wp2_with fail
            ((with_reducible refine (HX1.out _).mono ?_); rintro e w1b ⟨rfl, hb2⟩)
            have hr := (hr.below hb1).below hb2
            have h6 := (h6.below hb1).below hb2
            have hW := Lib.hid ((hW.out.trans (hb1.mono hW.out.size)).trans (hb2.mono (Nat.le_trans hW.out.size hb1.size)))
            have hbw := Lib.hid (hwr.out.trans (hW.out.mono hwr.out.size))
            obtain ⟨p0, p1, p2, p3, -⟩ := HE.out _ (Fr.call (Fr.nil wr) hW.out)
            clear hb1 hb2
            have r6c := h6.cell
            have r6f := h6.frozen
            have l6 := h6.lt
            go_wp2_with fail
            ((with_reducible refine (HN.out _).mono ?_); rintro e w2a ⟨rfl, hb1⟩)
            go_wp2_with fail
            ((with_reducible refine (HX2.out _).mono ?_); rintro e w2b ⟨rfl, hb2⟩)
            have hW3 : Below wr.heap.size wr (((w1b.setCell ⟨b6, 0, none⟩ (.int .i64 (wcx p ⟨1, 0, 0⟩))).setCell ⟨b6, 1, none⟩ (.int .i64 (wcy p ⟨1, 0, 0⟩))).setCell ⟨b6, 2, none⟩ (.int .i64 (wcz p ⟨1, 0, 0⟩))) := ((hW.out.setCell (by simp; omega) _).setCell (by simp; omega) _).setCell (by simp; omega) _
            have hr := ((((hr.set ⟨b6, 0, none⟩ (.int .i64 (wcx p ⟨1, 0, 0⟩))).set ⟨b6, 1, none⟩ (.int .i64 (wcy p ⟨1, 0, 0⟩))).set ⟨b6, 2, none⟩ (.int .i64 (wcz p ⟨1, 0, 0⟩))).below hb1).below hb2
            have h6 := ((((h6.set ⟨b6, 0, none⟩ (.int .i64 (wcx p ⟨1, 0, 0⟩))).set ⟨b6, 1, none⟩ (.int .i64 (wcy p ⟨1, 0, 0⟩))).set ⟨b6, 2, none⟩ (.int .i64 (wcz p ⟨1, 0, 0⟩))).below hb1).below hb2
            have hW := Lib.hid ((hW3.trans (hb1.mono hW3.size)).trans (hb2.mono (Nat.le_trans hW3.size hb1.size)))
            have hbw := Lib.hid (hwr.out.trans (hW.out.mono hwr.out.size))
            clear hb1 hb2 hW3 r6c r6f l6 p0 p1 p2 p3
            have r6c := h6.cell
            have r6f := h6.frozen
            have l6 := h6.lt
            have rc := hr.cell
            have rf := hr.frozen
            go_wp2
            refine bodyPost_ret (v := .agg #[.int .i64 (wcx p ⟨0, 1, 0⟩), .int .i64 (wcy p ⟨0, 1, 0⟩), .int .i64 (wcz p ⟨0, 1, 0⟩)]) ?_ rfl ⟨⟨⟨wcx p ⟨0, 1, 0⟩, wcy p ⟨0, 1, 0⟩, wcz p ⟨0, 1, 0⟩⟩, HO.out, crs_i64 _ _ _ _, crs_i64 _ _ _ _, crs_i64 _ _ _ _, rfl⟩, ?_⟩
            · simp [results, Tryz.results22, go_sem, rc]
            · exact (((((hbw.out.setCell (by simp; omega) _).setCell (by simp; omega) _).setCell (by simp; omega) _).setCell (by simp; omega) _).setCell (by simp; omega) _).setCell (by simp; omega) _

end Go.Proofs.YtaoedfegakpjeabGreat

namespace Go.Proofs.YtaoedfegakpjeabGreat
open Go.RowKit

def PV (p : Q4) : Obj := .cells #[.int .i64 p.a, .int .i64 p.b, .int .i64 p.c, .int .i64 p.d] 23
def VV (v : T3) : Obj := .cells #[.int .i64 v.x, .int .i64 v.y, .int .i64 v.z] 24
theorem blk_cells {W : World} {b : Nat} {c : Array Value} {t : TypeId} (h : Blk W b (.cells c t)) : (∀ o (x : Value), c[o]? = some x → W.cell? ⟨b, o, none⟩ = some x) ∧ (∀ o, W.frozen? ⟨b, o, none⟩ = false) := by
  unfold Blk at h
  refine ⟨fun o x hx => ?_, fun o => ?_⟩
  · simp only [World.cell?, h]; simpa using hx
  · simp [World.frozen?, h]
theorem blk_set {W : World} {b o : Nat} {c : Array Value} {t : TypeId} {x : Value} (h : Blk W b (.cells c t)) : Blk (W.setCell ⟨b, o, none⟩ x) b (.cells (c.setIfInBounds o x) t) := by
  unfold Blk at *
  simp [World.setCell, Array.getElem?_modify, h]
theorem blk_other {W : World} {b b' o : Nat} {ob : Obj} {x : Value} (h : Blk W b ob) (hne : b ≠ b') : Blk (W.setCell ⟨b', o, none⟩ x) b ob := by
  unfold Blk at *
  rw [Below.heap_setCell _ _ _ _ (by show b ≠ b'; exact hne)]; exact h
theorem blk_new (W : World) (o : Obj) : Blk (W.alloc o) W.heap.size o := by
  unfold Blk; show (W.heap.push _)[W.heap.size]? = _; simp
theorem Blk.alloc {W : World} {b : Nat} {o o' : Obj} (h : Blk W b o) : Blk (W.alloc o') b o := h.below ((Below.refl W.heap.size W).alloc (Nat.le_refl _) _) h.lt

/-- The state of a region: I what is known of memory, S what is known of each temporary that has been drawn. -/
structure IR (I : World → Prop) (S : Nat → World → Value → Prop) (vals : List (Nat × Nat)) (listed : Array Bool) (t : Nat → Value) (W : World) : Prop where
  fin : I W
  val : ∀ x ∈ vals, listed.getD x.1 false = true → S x.2 W (t x.2)
section
variable {I : World → Prop} {S : Nat → World → Value → Prop} {vals : List (Nat × Nat)} {listed : Array Bool} {t : Nat → Value} {W W1 : World}
theorem IR.start (n : Nat) (h : I W) (t : Nat → Value) : IR I S vals (Array.replicate n false) t W :=
  ⟨h, fun x _ hl => by simp only [Array.getD] at hl; split at hl <;> simp at hl⟩
theorem IR.yields {i d : Nat} {v : Value} (h : IR I S vals listed t W) (hI : I W1) (hm : ∀ d v, S d W v → S d W1 v) (hv : S d W1 v) (h1 : clashV vals i d = true) : IR I S vals (listed.setIfInBounds i true) (upd t d v) W1 := by
  refine ⟨hI, fun x hx hl => ?_⟩
  have hc := List.all_eq_true.1 h1 x hx
  by_cases e : x.1 = i
  · rw [if_pos e] at hc
    have : x.2 = d := by simpa using hc
    rw [this, upd_same]; exact hv
  · rw [if_neg e] at hc
    rw [upd_other _ _ (by simpa using hc)]
    exact hm _ _ (h.val x hx ((listed_set hl).resolve_left e))
theorem IR.stores {i : Nat} (h : IR I S vals listed t W) (hI : I W1) (hm : ∀ d v, S d W v → S d W1 v) (h1 : (vals.all fun x => x.1 != i) = true) : IR I S vals (listed.setIfInBounds i true) t W1 := by
  refine ⟨hI, fun x hx hl => ?_⟩
  have hc := List.all_eq_true.1 h1 x hx
  simp only [bne_iff_ne, ne_eq] at hc
  exact hm _ _ (h.val x hx ((listed_set hl).resolve_left hc))
end

end Go.Proofs.YtaoedfegakpjeabGreat

namespace Go.Proofs.YtaoedfegakpjeabGreat
open Go.RowKit

/-- What is known of the temporaries of sooner's region. -/
def soonS (w : World) (p : Q4) (f x y : T3) (m n : Nat) (d : Nat) (_ : World) (v : Value) : Prop := match d with
  | 13 => v = .agg #[.int .i64 (p.a), .int .i64 (p.b), .int .i64 (p.c), .int .i64 (p.d)]
  | 14 => v = .agg #[.int .i64 (f.x), .int .i64 (f.y), .int .i64 (f.z)]
  | 15 => v = .agg #[.int .i64 (x.x), .int .i64 (x.y), .int .i64 (x.z)]
  | 16 => v = .int .i64 m
  | 17 => v = .pointer (some ⟨w.heap.size + 1 + 1 + 1 + 1, m, none⟩)
  | 18 => v = .int .i64 (3 - (m : Int))
  | 19 => v = .agg #[.int .i64 (p.a), .int .i64 (p.b), .int .i64 (p.c), .int .i64 (p.d)]
  | 20 => v = .agg #[.int .i64 (f.x), .int .i64 (f.y), .int .i64 (f.z)]
  | 21 => v = .agg #[.int .i64 (y.x), .int .i64 (y.y), .int .i64 (y.z)]
  | 22 => v = .int .i64 n
  | 23 => v = .pointer (some ⟨w.heap.size + 1 + 1 + 1 + 1, n, none⟩)
  | 24 => v = .int .i64 (3 - (n : Int))
  | 10 => v = .int .i64 (3 - (m : Int))
  | _ => v = .int .i64 (3 - (n : Int))

set_option maxRecDepth 100000 in
set_option maxHeartbeats 2000000 in
theorem sooner_gen (p : Q4) (f x y : T3) (m n : Nat) (c : Int) (w : World) (hm : m < 4) (hn : n < 4)
    (hA : ∀ W, Calls Tryz.prog 75 #[.agg #[.int .i64 (p.a), .int .i64 (p.b), .int .i64 (p.c), .int .i64 (p.d)], .agg #[.int .i64 (f.x), .int .i64 (f.y), .int .i64 (f.z)], .agg #[.int .i64 (x.x), .int .i64 (x.y), .int .i64 (x.z)]] W fun e w' => e = .returned (.int .i64 m) ∧ Below W.heap.size W w')
    (hB : ∀ W, Calls Tryz.prog 75 #[.agg #[.int .i64 (p.a), .int .i64 (p.b), .int .i64 (p.c), .int .i64 (p.d)], .agg #[.int .i64 (f.x), .int .i64 (f.y), .int .i64 (f.z)], .agg #[.int .i64 (y.x), .int .i64 (y.y), .int .i64 (y.z)]] W fun e w' => e = .returned (.int .i64 n) ∧ Below W.heap.size W w')
    (hC : ∀ W, Calls Tryz.prog 75 #[.agg #[.int .i64 (p.a), .int .i64 (p.b), .int .i64 (p.c), .int .i64 (p.d)], .agg #[.int .i64 (x.x), .int .i64 (x.y), .int .i64 (x.z)], .agg #[.int .i64 (y.x), .int .i64 (y.y), .int .i64 (y.z)]] W fun e w' => e = .returned (.int .i64 c) ∧ Below W.heap.size W w') :
    Calls Tryz.prog 45 #[.agg #[.int .i64 (p.a), .int .i64 (p.b), .int .i64 (p.c), .int .i64 (p.d)], .agg #[.int .i64 (f.x), .int .i64 (f.y), .int .i64 (f.z)], .agg #[.int .i64 (x.x), .int .i64 (x.y), .int .i64 (x.z)], .agg #[.int .i64 (y.x), .int .i64 (y.y), .int .i64 (y.z)]] w fun e w' => e = .returned (.bool (if m = n then decide (c = 3) else decide (n < m))) ∧ Below w.heap.size w w' := by
  have HA := Lib.hid hA
  have HB := Lib.hid hB
  have HC := Lib.hid hC
  clear hA hB hC
  obtain ⟨res, hres⟩ : ∃ res, res = (if m = n then decide (c = 3) else decide (n < m)) := ⟨_, rfl⟩
  rw [← hres]
  have HRES := Lib.hid hres
  clear hres
  go_enter Tryz.func45, Tryz.ntmps45
  have hE : ∀ W, Fr 5 [(0, .cells #[.int .i64 (p.a), .int .i64 (p.b), .int .i64 (p.c), .int .i64 (p.d)] 23), (1, .cells #[.int .i64 (f.x), .int .i64 (f.y), .int .i64 (f.z)] 24), (2, .cells #[.int .i64 (x.x), .int .i64 (x.y), .int .i64 (x.z)] 24), (3, .cells #[.int .i64 (y.x), .int .i64 (y.y), .int .i64 (y.z)] 24), (4, .cells #[.int .i64 3, .int .i64 2, .int .i64 1, .int .i64 0] 63)] [] w W → (W.cell? ⟨w.heap.size, 0, none⟩ = some (.int .i64 (p.a)) ∧ W.cell? ⟨w.heap.size, 1, none⟩ = some (.int .i64 (p.b)) ∧ W.cell? ⟨w.heap.size, 2, none⟩ = some (.int .i64 (p.c)) ∧ W.cell? ⟨w.heap.size, 3, none⟩ = some (.int .i64 (p.d)) ∧ W.cell? ⟨w.heap.size + 1, 0, none⟩ = some (.int .i64 (f.x)) ∧ W.cell? ⟨w.heap.size + 1, 1, none⟩ = some (.int .i64 (f.y)) ∧ W.cell? ⟨w.heap.size + 1, 2, none⟩ = some (.int .i64 (f.z)) ∧ W.cell? ⟨w.heap.size + 2, 0, none⟩ = some (.int .i64 (x.x)) ∧ W.cell? ⟨w.heap.size + 2, 1, none⟩ = some (.int .i64 (x.y)) ∧ W.cell? ⟨w.heap.size + 2, 2, none⟩ = some (.int .i64 (x.z)) ∧ W.cell? ⟨w.heap.size + 3, 0, none⟩ = some (.int .i64 (y.x)) ∧ W.cell? ⟨w.heap.size + 3, 1, none⟩ = some (.int .i64 (y.y)) ∧ W.cell? ⟨w.heap.size + 3, 2, none⟩ = some (.int .i64 (y.z)) ∧ W.cell? ⟨w.heap.size + 4, 0, none⟩ = some (.int .i64 3) ∧ W.cell? ⟨w.heap.size + 4, 1, none⟩ = some (.int .i64 2) ∧ W.cell? ⟨w.heap.size + 4, 2, none⟩ = some (.int .i64 1) ∧ W.cell? ⟨w.heap.size + 4, 3, none⟩ = some (.int .i64 0)) := fun W h => by (repeat' apply And.intro) <;> first | exact h.at0 rfl | exact h.at rfl | exact (h.rms0 rfl).cell | exact (h.rms rfl).cell | exact (h.rms0 rfl).frozen | exact (h.rms rfl).frozen
  have HE := Lib.hid hE
  clear hE
  go_wp2
  have hF0 : Fr 5 [(0, .cells #[.int .i64 (p.a), .int .i64 (p.b), .int .i64 (p.c), .int .i64 (p.d)] 23), (1, .cells #[.int .i64 (f.x), .int .i64 (f.y), .int .i64 (f.z)] 24), (2, .cells #[.int .i64 (x.x), .int .i64 (x.y), .int .i64 (x.z)] 24), (3, .cells #[.int .i64 (y.x), .int .i64 (y.y), .int .i64 (y.z)] 24), (4, .cells #[.int .i64 3, .int .i64 2, .int .i64 1, .int .i64 0] 63)] [] w _ := ((((((Fr.nil w).fixed (by simp) (.cells #[.int .i64 (p.a), .int .i64 (p.b), .int .i64 (p.c), .int .i64 (p.d)] 23)).fixed (by simp) (.cells #[.int .i64 (f.x), .int .i64 (f.y), .int .i64 (f.z)] 24)).fixed (by simp) (.cells #[.int .i64 (x.x), .int .i64 (x.y), .int .i64 (x.z)] 24)).fixed (by simp) (.cells #[.int .i64 (y.x), .int .i64 (y.y), .int .i64 (y.z)] 24)).fixed (by simp) (.cells #[.int .i64 3, .int .i64 2, .int .i64 1, .int .i64 0] 63))
  go_cut [10, 11] (fun s10 s11 wx => s10 = .int .i64 (3 - (m : Int)) ∧ s11 = .int .i64 (3 - (n : Int)) ∧ Hid (Fr 5 [(0, .cells #[.int .i64 (p.a), .int .i64 (p.b), .int .i64 (p.c), .int .i64 (p.d)] 23), (1, .cells #[.int .i64 (f.x), .int .i64 (f.y), .int .i64 (f.z)] 24), (2, .cells #[.int .i64 (x.x), .int .i64 (x.y), .int .i64 (x.z)] 24), (3, .cells #[.int .i64 (y.x), .int .i64 (y.y), .int .i64 (y.z)] 24), (4, .cells #[.int .i64 3, .int .i64 2, .int .i64 1, .int .i64 0] 63)] [] w wx))
  case first =>
    refine wp_region_inv (by kernel_rfl) (by kernel_rfl) (fun listed a wy => ∃ t : Nat → Value, a = { tmps := #[.agg #[.int .i64 (p.a), .int .i64 (p.b), .int .i64 (p.c), .int .i64 (p.d)], .agg #[.int .i64 (f.x), .int .i64 (f.y), .int .i64 (f.z)], .agg #[.int .i64 (x.x), .int .i64 (x.y), .int .i64 (x.z)], .agg #[.int .i64 (y.x), .int .i64 (y.y), .int .i64 (y.z)], .pointer (some ⟨w.heap.size, 0, none⟩), .pointer (some ⟨w.heap.size + 1, 0, none⟩), .pointer (some ⟨w.heap.size + 1 + 1, 0, none⟩), .pointer (some ⟨w.heap.size + 1 + 1 + 1, 0, none⟩), .bool false, .pointer (some ⟨w.heap.size + 1 + 1 + 1 + 1, 0, none⟩), t 10, t 11, .agg #[.int .i64 3, .int .i64 2, .int .i64 1, .int .i64 0], t 13, t 14, t 15, t 16, t 17, t 18, t 19, t 20, t 21, t 22, t 23, t 24, undef, undef, undef, undef, undef, undef, undef, undef, undef, undef, undef], defers := [] } ∧ IR (fun W => Fr 5 [(0, .cells #[.int .i64 (p.a), .int .i64 (p.b), .int .i64 (p.c), .int .i64 (p.d)] 23), (1, .cells #[.int .i64 (f.x), .int .i64 (f.y), .int .i64 (f.z)] 24), (2, .cells #[.int .i64 (x.x), .int .i64 (x.y), .int .i64 (x.z)] 24), (3, .cells #[.int .i64 (y.x), .int .i64 (y.y), .int .i64 (y.z)] 24), (4, .cells #[.int .i64 3, .int .i64 2, .int .i64 1, .int .i64 0] 63)] [] w W) (soonS w p f x y m n) [(0, 13), (1, 14), (2, 15), (3, 16), (4, 17), (5, 18), (6, 19), (7, 20), (8, 21), (9, 22), (10, 23), (11, 24), (12, 10), (13, 11)] listed t wy) ⟨(fun _ => undef), rfl, IR.start _ hF0.drew _⟩ ?_ ?_
    rotate_left
    · rintro listed hs i hi a wy ⟨t, rfl, hR⟩ hr
      match i, hi, hr with
      | 0, _, hr =>
        as_aux_lemma =>
        refine wpOp_step rfl (fun K' hK => ?_)
        have hq := HE.out _ hR.fin
        go_simp
        exact hK _ _ ⟨upd t 13 _, rfl, hR.yields hR.fin (fun _ _ h => h) rfl rfl⟩
      | 1, _, hr =>
        as_aux_lemma =>
        refine wpOp_step rfl (fun K' hK => ?_)
        have hq := HE.out _ hR.fin
        go_simp
        exact hK _ _ ⟨upd t 14 _, rfl, hR.yields hR.fin (fun _ _ h => h) rfl rfl⟩
      | 2, _, hr =>
        as_aux_lemma =>
        refine wpOp_step rfl (fun K' hK => ?_)
        have hq := HE.out _ hR.fin
        go_simp
        exact hK _ _ ⟨upd t 15 _, rfl, hR.yields hR.fin (fun _ _ h => h) rfl rfl⟩
      | 3, _, hr =>
        as_aux_lemma =>
        refine wpOp_step rfl (fun K' hK => ?_)
        have e1 : t 13 = .agg #[.int .i64 (p.a), .int .i64 (p.b), .int .i64 (p.c), .int .i64 (p.d)] := hR.val (0, 13) (by simp) (dep_of hr 0 (by kernel_rfl))
        have e2 : t 14 = .agg #[.int .i64 (f.x), .int .i64 (f.y), .int .i64 (f.z)] := hR.val (1, 14) (by simp) (dep_of hr 1 (by kernel_rfl))
        have e3 : t 15 = .agg #[.int .i64 (x.x), .int .i64 (x.y), .int .i64 (x.z)] := hR.val (2, 15) (by simp) (dep_of hr 2 (by kernel_rfl))
        have HR := Lib.hid hR.fin
        go_simp
        refine (HA.out _).mono ?_
        rintro e w1 ⟨rfl, hb⟩
        exact hK _ _ ⟨upd t 16 _, by simp [upd, e1, e2, e3], hR.yields (HR.out.call hb) (fun _ _ h => h) rfl rfl⟩
      | 4, _, hr =>
        as_aux_lemma =>
        refine wpOp_step rfl (fun K' hK => ?_)
        have e1 : t 16 = .int .i64 m := hR.val (3, 16) (by simp) (dep_of hr 3 (by kernel_rfl))
        match m, hm with
        | 0, _ =>
          have e1 : t 16 = .int .i64 0 := e1
          go_simp
          exact hK _ _ ⟨upd t 17 _, by simp [upd, e1], hR.yields hR.fin (fun _ _ h => h) rfl rfl⟩
        | 1, _ =>
          have e1 : t 16 = .int .i64 1 := e1
          go_simp
          exact hK _ _ ⟨upd t 17 _, by simp [upd, e1], hR.yields hR.fin (fun _ _ h => h) rfl rfl⟩
        | 2, _ =>
          have e1 : t 16 = .int .i64 2 := e1
          go_simp
          exact hK _ _ ⟨upd t 17 _, by simp [upd, e1], hR.yields hR.fin (fun _ _ h => h) rfl rfl⟩
        | 3, _ =>
          have e1 : t 16 = .int .i64 3 := e1
          go_simp
          exact hK _ _ ⟨upd t 17 _, by simp [upd, e1], hR.yields hR.fin (fun _ _ h => h) rfl rfl⟩
      | 5, _, hr =>
        as_aux_lemma =>
        refine wpOp_step rfl (fun K' hK => ?_)
        have hq := HE.out _ hR.fin
        have e1 : t 17 = .pointer (some ⟨w.heap.size + 1 + 1 + 1 + 1, m, none⟩) := hR.val (4, 17) (by simp) (dep_of hr 4 (by kernel_rfl))
        match m, hm with
        | 0, _ =>
          have e1 : t 17 = .pointer (some ⟨w.heap.size + 1 + 1 + 1 + 1, 0, none⟩) := e1
          go_simp
          exact hK _ _ ⟨upd t 18 _, by simp [upd, e1], hR.yields hR.fin (fun _ _ h => h) rfl rfl⟩
        | 1, _ =>
          have e1 : t 17 = .pointer (some ⟨w.heap.size + 1 + 1 + 1 + 1, 1, none⟩) := e1
          go_simp
          exact hK _ _ ⟨upd t 18 _, by simp [upd, e1], hR.yields hR.fin (fun _ _ h => h) rfl rfl⟩
        | 2, _ =>
          have e1 : t 17 = .pointer (some ⟨w.heap.size + 1 + 1 + 1 + 1, 2, none⟩) := e1
          go_simp
          exact hK _ _ ⟨upd t 18 _, by simp [upd, e1], hR.yields hR.fin (fun _ _ h => h) rfl rfl⟩
        | 3, _ =>
          have e1 : t 17 = .pointer (some ⟨w.heap.size + 1 + 1 + 1 + 1, 3, none⟩) := e1
          go_simp
          exact hK _ _ ⟨upd t 18 _, by simp [upd, e1], hR.yields hR.fin (fun _ _ h => h) rfl rfl⟩
      | 6, _, hr =>
        as_aux_lemma =>
        refine wpOp_step rfl (fun K' hK => ?_)
        have hq := HE.out _ hR.fin
        go_simp
        exact hK _ _ ⟨upd t 19 _, rfl, hR.yields hR.fin (fun _ _ h => h) rfl rfl⟩
      | 7, _, hr =>
        as_aux_lemma =>
        refine wpOp_step rfl (fun K' hK => ?_)
        have hq := HE.out _ hR.fin
        go_simp
        exact hK _ _ ⟨upd t 20 _, rfl, hR.yields hR.fin (fun _ _ h => h) rfl rfl⟩
      | 8, _, hr =>
        as_aux_lemma =>
        refine wpOp_step rfl (fun K' hK => ?_)
        have hq := HE.out _ hR.fin
        go_simp
        exact hK _ _ ⟨upd t 21 _, rfl, hR.yields hR.fin (fun _ _ h => h) rfl rfl⟩
      | 9, _, hr =>
        as_aux_lemma =>
        refine wpOp_step rfl (fun K' hK => ?_)
        have e1 : t 19 = .agg #[.int .i64 (p.a), .int .i64 (p.b), .int .i64 (p.c), .int .i64 (p.d)] := hR.val (6, 19) (by simp) (dep_of hr 6 (by kernel_rfl))
        have e2 : t 20 = .agg #[.int .i64 (f.x), .int .i64 (f.y), .int .i64 (f.z)] := hR.val (7, 20) (by simp) (dep_of hr 7 (by kernel_rfl))
        have e3 : t 21 = .agg #[.int .i64 (y.x), .int .i64 (y.y), .int .i64 (y.z)] := hR.val (8, 21) (by simp) (dep_of hr 8 (by kernel_rfl))
        have HR := Lib.hid hR.fin
        go_simp
        refine (HB.out _).mono ?_
        rintro e w1 ⟨rfl, hb⟩
        exact hK _ _ ⟨upd t 22 _, by simp [upd, e1, e2, e3], hR.yields (HR.out.call hb) (fun _ _ h => h) rfl rfl⟩
      | 10, _, hr =>
        as_aux_lemma =>
        refine wpOp_step rfl (fun K' hK => ?_)
        have e1 : t 22 = .int .i64 n := hR.val (9, 22) (by simp) (dep_of hr 9 (by kernel_rfl))
        match n, hn with
        | 0, _ =>
          have e1 : t 22 = .int .i64 0 := e1
          go_simp
          exact hK _ _ ⟨upd t 23 _, by simp [upd, e1], hR.yields hR.fin (fun _ _ h => h) rfl rfl⟩
        | 1, _ =>
          have e1 : t 22 = .int .i64 1 := e1
          go_simp
          exact hK _ _ ⟨upd t 23 _, by simp [upd, e1], hR.yields hR.fin (fun _ _ h => h) rfl rfl⟩
        | 2, _ =>
          have e1 : t 22 = .int .i64 2 := e1
          go_simp
          exact hK _ _ ⟨upd t 23 _, by simp [upd, e1], hR.yields hR.fin (fun _ _ h => h) rfl rfl⟩
        | 3, _ =>
          have e1 : t 22 = .int .i64 3 := e1
          go_simp
          exact hK _ _ ⟨upd t 23 _, by simp [upd, e1], hR.yields hR.fin (fun _ _ h => h) rfl rfl⟩
      | 11, _, hr =>
        as_aux_lemma =>
        refine wpOp_step rfl (fun K' hK => ?_)
        have hq := HE.out _ hR.fin
        have e1 : t 23 = .pointer (some ⟨w.heap.size + 1 + 1 + 1 + 1, n, none⟩) := hR.val (10, 23) (by simp) (dep_of hr 10 (by kernel_rfl))
        match n, hn with
        | 0, _ =>
          have e1 : t 23 = .pointer (some ⟨w.heap.size + 1 + 1 + 1 + 1, 0, none⟩) := e1
          go_simp
          exact hK _ _ ⟨upd t 24 _, by simp [upd, e1], hR.yields hR.fin (fun _ _ h => h) rfl rfl⟩
        | 1, _ =>
          have e1 : t 23 = .pointer (some ⟨w.heap.size + 1 + 1 + 1 + 1, 1, none⟩) := e1
          go_simp
          exact hK _ _ ⟨upd t 24 _, by simp [upd, e1], hR.yields hR.fin (fun _ _ h => h) rfl rfl⟩
        | 2, _ =>
          have e1 : t 23 = .pointer (some ⟨w.heap.size + 1 + 1 + 1 + 1, 2, none⟩) := e1
          go_simp
          exact hK _ _ ⟨upd t 24 _, by simp [upd, e1], hR.yields hR.fin (fun _ _ h => h) rfl rfl⟩
        | 3, _ =>
          have e1 : t 23 = .pointer (some ⟨w.heap.size + 1 + 1 + 1 + 1, 3, none⟩) := e1
          go_simp
          exact hK _ _ ⟨upd t 24 _, by simp [upd, e1], hR.yields hR.fin (fun _ _ h => h) rfl rfl⟩
      | 12, _, hr =>
        as_aux_lemma =>
        refine wpOp_step rfl (fun K' hK => ?_)
        have e1 : t 18 = .int .i64 (3 - (m : Int)) := hR.val (5, 18) (by simp) (dep_of hr 5 (by kernel_rfl))
        go_simp
        exact hK _ _ ⟨upd t 10 _, by simp [upd, e1], hR.yields hR.fin (fun _ _ h => h) rfl rfl⟩
      | 13, _, hr =>
        as_aux_lemma =>
        refine wpOp_step rfl (fun K' hK => ?_)
        have e1 : t 24 = .int .i64 (3 - (n : Int)) := hR.val (11, 24) (by simp) (dep_of hr 11 (by kernel_rfl))
        go_simp
        exact hK _ _ ⟨upd t 11 _, by simp [upd, e1], hR.yields hR.fin (fun _ _ h => h) rfl rfl⟩
    rintro listed a2 W2 ⟨t, rfl, hR⟩ hl
    have e1 : t 10 = .int .i64 (3 - (m : Int)) := hR.val (12, 10) (by simp) (hl 12 (by decide))
    have e2 : t 11 = .int .i64 (3 - (n : Int)) := hR.val (13, 11) (by simp) (hl 13 (by decide))
    have HX := Lib.hid hR.fin
    clear hR hl
    go_wp2_with fail
    go_meet
    exact ⟨e1, e2, HX⟩
  case rest =>
    obtain ⟨rfl, rfl, HX⟩ := hcut
    have hF := HX.out
    have hqr := HE.out _ hF
    by_cases hab : m = n
    · have e1 : (3 - (m : Int) != 3 - (n : Int)) = false := by simp; omega
      have HR2 : Hid (res = decide (c = 3)) := by unfold Hid; rw [HRES.out, if_pos hab]
      clear hab HRES
      go_wp2_with fail
      (go_at_call 75; refine (HC.out _).mono ?_; rintro e w1 ⟨rfl, hb1⟩; (try clear hq); (try clear hz); have hF : Fr 5 [(0, .cells #[.int .i64 (p.a), .int .i64 (p.b), .int .i64 (p.c), .int .i64 (p.d)] 23), (1, .cells #[.int .i64 (f.x), .int .i64 (f.y), .int .i64 (f.z)] 24), (2, .cells #[.int .i64 (x.x), .int .i64 (x.y), .int .i64 (x.z)] 24), (3, .cells #[.int .i64 (y.x), .int .i64 (y.y), .int .i64 (y.z)] 24), (4, .cells #[.int .i64 3, .int .i64 2, .int .i64 1, .int .i64 0] 63)] [] w w1 := Fr.call (by (repeat (first | exact hF | exact ((((((Fr.nil w).fixed (by simp) (.cells #[.int .i64 (p.a), .int .i64 (p.b), .int .i64 (p.c), .int .i64 (p.d)] 23)).fixed (by simp) (.cells #[.int .i64 (f.x), .int .i64 (f.y), .int .i64 (f.z)] 24)).fixed (by simp) (.cells #[.int .i64 (x.x), .int .i64 (x.y), .int .i64 (x.z)] 24)).fixed (by simp) (.cells #[.int .i64 (y.x), .int .i64 (y.y), .int .i64 (y.z)] 24)).fixed (by simp) (.cells #[.int .i64 3, .int .i64 2, .int .i64 1, .int .i64 0] 63)) | exact And.left (by assumption) | refine Fr.set ?_ (by first | (simp; done) | (simp; omega)) (by first | (simp [List.lookup]; done) | (simp [Nat.add_assoc, List.lookup]; done)) _ | refine Fr.drew ?_ | refine Fr.alloc ?_ _))) hb1; have hq := HE.out _ hF; have hz : w.heap.size < w1.heap.size ∧ w.heap.size + 1 < w1.heap.size ∧ w.heap.size + 2 < w1.heap.size ∧ w.heap.size + 3 < w1.heap.size ∧ w.heap.size + 4 < w1.heap.size := by have hs := Own.size (Fr.own hF); omega)
      go_wp2
      go_ret
      refine ⟨?_, ?_⟩
      · rw [HR2.out]; rfl
      · refine Own.below (Fr.own (k := 5) (fx := [(0, .cells #[.int .i64 (p.a), .int .i64 (p.b), .int .i64 (p.c), .int .i64 (p.d)] 23), (1, .cells #[.int .i64 (f.x), .int .i64 (f.y), .int .i64 (f.z)] 24), (2, .cells #[.int .i64 (x.x), .int .i64 (x.y), .int .i64 (x.z)] 24), (3, .cells #[.int .i64 (y.x), .int .i64 (y.y), .int .i64 (y.z)] 24), (4, .cells #[.int .i64 3, .int .i64 2, .int .i64 1, .int .i64 0] 63)]) (rm := []) ?_); (repeat (first | exact hF | exact And.left (by assumption) | refine Fr.set ?_ (by first | (simp; done) | (simp; omega)) (by first | (simp [List.lookup]; done) | (simp [Nat.add_assoc, List.lookup]; done)) _ | refine Fr.drew ?_ | refine Fr.alloc ?_ _))
    · have e1 : (3 - (m : Int) != 3 - (n : Int)) = true := by simp; omega
      have HR2 : Hid (res = decide (n < m)) := by unfold Hid; rw [HRES.out, if_neg hab]
      clear hab HRES
      go_wp2
      go_ret
      refine ⟨?_, ?_⟩
      · rw [HR2.out]; rfl
      · exact HX.out.own.below

theorem rangI_range (p : Q4) (u v : T3) : 0 ≤ rangI p u v ∧ rangI p u v ≤ 3 := by
  rw [rangI_eq]; (repeat' split) <;> omega
/-- Is a direction met before another one? -/
noncomputable def rsoonB (p : Q4) (f x y : T3) : Bool := vlB (if rangI p f x = rangI p f y then decide (rangI p x y = 3) else decide (rangI p f y < rangI p f x))
theorem rsoonB_eq (p : Q4) (f x y : T3) : rsoonB p f x y = (if rangI p f x = rangI p f y then decide (rangI p x y = 3) else decide (rangI p f y < rangI p f x)) := vlB_eq _
theorem sooner_any (p : Q4) (f x y : T3) (w : World) :
    Calls Tryz.prog 45 #[.agg #[.int .i64 (p.a), .int .i64 (p.b), .int .i64 (p.c), .int .i64 (p.d)], .agg #[.int .i64 (f.x), .int .i64 (f.y), .int .i64 (f.z)], .agg #[.int .i64 (x.x), .int .i64 (x.y), .int .i64 (x.z)], .agg #[.int .i64 (y.x), .int .i64 (y.y), .int .i64 (y.z)]] w fun e w' => e = .returned (.bool (rsoonB p f x y)) ∧ Below w.heap.size w w' := by
  obtain ⟨a0, a1⟩ := rangI_range p f x
  obtain ⟨b0, b1⟩ := rangI_range p f y
  obtain ⟨m, hm⟩ : ∃ m : Nat, (m : Int) = rangI p f x := ⟨(rangI p f x).toNat, by omega⟩
  obtain ⟨n, hn⟩ : ∃ n : Nat, (n : Int) = rangI p f y := ⟨(rangI p f y).toNat, by omega⟩
  have h := sooner_gen p f x y m n (rangI p x y) w (by omega) (by omega) (fun W => by rw [hm]; exact rangle_any p f x W) (fun W => by rw [hn]; exact rangle_any p f y W) (fun W => rangle_any p x y W)
  have e : rsoonB p f x y = (if m = n then decide (rangI p x y = 3) else decide (n < m)) := by
    rw [rsoonB_eq, ← hm, ← hn]
    simp only [Int.natCast_inj, Int.ofNat_lt]
  rw [e]; exact h
/-- The one that is met first of the first so many. -/
noncomputable def rcwN (p : Q4) (f : T3) (l : List T3) : Nat → Nat
  | 0 => 0
  | k + 1 => if rsoonB p f l[k]! l[rcwN p f l k]! then k else rcwN p f l k
theorem rcwN_le (p : Q4) (f : T3) (l : List T3) : ∀ k, rcwN p f l k ≤ k - 1
  | 0 => Nat.le_refl _
  | k + 1 => by
    have := rcwN_le p f l k
    unfold rcwN; split <;> omega
/-- What is known of the temporaries of Clockwise's region. -/
def cwS (p : Q4) (f x y : T3) (V : Value) (b o k m : Nat) (r : Bool) (d : Nat) (_ : World) (v : Value) : Prop := match d with
  | 15 => v = .agg #[.int .i64 (p.a), .int .i64 (p.b), .int .i64 (p.c), .int .i64 (p.d)]
  | 16 => v = .agg #[.int .i64 (f.x), .int .i64 (f.y), .int .i64 (f.z)]
  | 17 => v = V
  | 18 => v = .int .i64 k
  | 19 => v = .pointer (some ⟨b, o + k * 3, none⟩)
  | 20 => v = .agg #[.int .i64 (x.x), .int .i64 (x.y), .int .i64 (x.z)]
  | 21 => v = V
  | 22 => v = .int .i64 m
  | 23 => v = .pointer (some ⟨b, o + m * 3, none⟩)
  | 24 => v = .agg #[.int .i64 (y.x), .int .i64 (y.y), .int .i64 (y.z)]
  | _ => v = .bool r

set_option maxRecDepth 100000 in
set_option maxHeartbeats 2000000 in
theorem rclockwise_any (p : Q4) (f : T3) (l : List T3) (b o cap : Nat) (w : World) (h0 : 0 < l.length) (hl : l.length ≤ 1000000) (hB : b < w.heap.size) (hc : Sl3 w b o l) :
    Calls Tryz.prog 21 #[.agg #[.int .i64 (p.a), .int .i64 (p.b), .int .i64 (p.c), .int .i64 (p.d)], .agg #[.int .i64 (f.x), .int .i64 (f.y), .int .i64 (f.z)], .slice (some ⟨b, o, none⟩) l.length cap] w fun e w' => e = .returned (.int .i64 (rcwN p f l l.length)) ∧ Below w.heap.size w w' := by
  have HC := Lib.hid hc
  clear hc
  go_enter Tryz.func21, Tryz.ntmps21
  have hE : ∀ W, Fr 2 [(0, .cells #[.int .i64 (p.a), .int .i64 (p.b), .int .i64 (p.c), .int .i64 (p.d)] 23), (1, .cells #[.int .i64 (f.x), .int .i64 (f.y), .int .i64 (f.z)] 24)] [] w W → (W.cell? ⟨w.heap.size, 0, none⟩ = some (.int .i64 (p.a)) ∧ W.cell? ⟨w.heap.size, 1, none⟩ = some (.int .i64 (p.b)) ∧ W.cell? ⟨w.heap.size, 2, none⟩ = some (.int .i64 (p.c)) ∧ W.cell? ⟨w.heap.size, 3, none⟩ = some (.int .i64 (p.d)) ∧ W.cell? ⟨w.heap.size + 1, 0, none⟩ = some (.int .i64 (f.x)) ∧ W.cell? ⟨w.heap.size + 1, 1, none⟩ = some (.int .i64 (f.y)) ∧ W.cell? ⟨w.heap.size + 1, 2, none⟩ = some (.int .i64 (f.z))) := fun W h => by (repeat' apply And.intro) <;> first | exact h.at0 rfl | exact h.at rfl | exact (h.rms0 rfl).cell | exact (h.rms rfl).cell | exact (h.rms0 rfl).frozen | exact (h.rms rfl).frozen
  have HE := Lib.hid hE
  clear hE
  go_wp2
  go_loopw [7, 8] (fun v7 v8 wr => ∃ k : Nat, 1 ≤ k ∧ k ≤ l.length ∧ v8 = .int .i64 k ∧ v7 = .int .i64 (rcwN p f l k) ∧ Fr 2 [(0, .cells #[.int .i64 (p.a), .int .i64 (p.b), .int .i64 (p.c), .int .i64 (p.d)] 23), (1, .cells #[.int .i64 (f.x), .int .i64 (f.y), .int .i64 (f.z)] 24)] [] w wr) (fun _ v _ => l.length - (intOf v).toNat)
  case atStart => exact ⟨1, by omega, by omega, rfl, by unfold rcwN; simp [rcwN], (((Fr.nil w).fixed (by simp) (.cells #[.int .i64 (p.a), .int .i64 (p.b), .int .i64 (p.c), .int .i64 (p.d)] 23)).fixed (by simp) (.cells #[.int .i64 (f.x), .int .i64 (f.y), .int .i64 (f.z)] 24))⟩
  case round =>
    rename_i wr
    obtain ⟨k, hk1, hk, rfl, rfl, hF⟩ := hrel
    by_cases hlt : k < l.length
    · obtain ⟨m, hm⟩ : ∃ m, m = rcwN p f l k := ⟨_, rfl⟩
      have hml := rcwN_le p f l k
      rw [← hm] at hml
      obtain ⟨x, hx⟩ : ∃ x, l[k]? = some x := ⟨_, List.getElem?_eq_getElem hlt⟩
      obtain ⟨y, hy⟩ : ∃ y, l[m]? = some y := ⟨_, List.getElem?_eq_getElem (by omega)⟩
      have HN : Hid (rcwN p f l (k + 1) = if rsoonB p f x y then k else m) := by
        unfold Hid
        rw [rcwN, ← hm, show l[k]! = x by simp [List.getElem!_eq_getElem?_getD, hx], show l[m]! = y by simp [List.getElem!_eq_getElem?_getD, hy]]
      have HX : Hid (∀ W, Below w.heap.size w W → At3 W b (o + k * 3) x) := fun W hb => (HC.out k x hx).below hb hB
      have HY : Hid (∀ W, Below w.heap.size w W → At3 W b (o + m * 3) y) := fun W hb => (HC.out m y hy).below hb hB
      have HS : Hid (∀ W, Calls Tryz.prog 45 #[.agg #[.int .i64 (p.a), .int .i64 (p.b), .int .i64 (p.c), .int .i64 (p.d)], .agg #[.int .i64 (f.x), .int .i64 (f.y), .int .i64 (f.z)], .agg #[.int .i64 (x.x), .int .i64 (x.y), .int .i64 (x.z)], .agg #[.int .i64 (y.x), .int .i64 (y.y), .int .i64 (y.z)]] W fun e w' => e = .returned (.bool (rsoonB p f x y)) ∧ Below W.heap.size W w') := fun W => sooner_any p f x y W
      rw [← hm]
      have hmlt : m < l.length := by omega
      have hklz : (k : Int) < (l.length : Int) := by omega
      have hmlz : (m : Int) < (l.length : Int) := by omega
      clear hm hx hy
      generalize rsoonB p f x y = r at HN HS
      have HF := Lib.hid hF
      clear hF
      go_upto_region 5 with fail
      go_cut [25] from 9 to 26 (fun s25 wx => s25 = .bool r ∧ Hid (Fr 2 [(0, .cells #[.int .i64 (p.a), .int .i64 (p.b), .int .i64 (p.c), .int .i64 (p.d)] 23), (1, .cells #[.int .i64 (f.x), .int .i64 (f.y), .int .i64 (f.z)] 24)] [] w wx))
      case first =>
        refine wp_region_inv (by kernel_rfl) (by kernel_rfl) (fun listed a wy => ∃ t : Nat → Value, a = { tmps := #[.agg #[.int .i64 (p.a), .int .i64 (p.b), .int .i64 (p.c), .int .i64 (p.d)], .agg #[.int .i64 (f.x), .int .i64 (f.y), .int .i64 (f.z)], .slice (some ⟨b, o, none⟩) l.length cap, .pointer (some ⟨w.heap.size, 0, none⟩), .pointer (some ⟨w.heap.size + 1, 0, none⟩), undef, .int .i64 0, .int .i64 m, .int .i64 k, .int .i64 k, .slice (some ⟨b, o, none⟩) l.length cap, .int .i64 l.length, .bool true, u13, u14, t 15, t 16, t 17, t 18, t 19, t 20, t 21, t 22, t 23, t 24, t 25, u26, undef], defers := [] } ∧ IR (fun W => Fr 2 [(0, .cells #[.int .i64 (p.a), .int .i64 (p.b), .int .i64 (p.c), .int .i64 (p.d)] 23), (1, .cells #[.int .i64 (f.x), .int .i64 (f.y), .int .i64 (f.z)] 24)] [] w W) (cwS p f x y (.slice (some ⟨b, o, none⟩) l.length cap) b o k m r) [(0, 15), (1, 16), (2, 17), (3, 18), (4, 19), (5, 20), (6, 21), (7, 22), (8, 23), (9, 24), (10, 25)] listed t wy) ⟨(fun d => match d with | 15 => u15 | 16 => u16 | 17 => u17 | 18 => u18 | 19 => u19 | 20 => u20 | 21 => u21 | 22 => u22 | 23 => u23 | 24 => u24 | 25 => u25 | _ => undef), rfl, IR.start _ HF.out.drew _⟩ ?_ ?_
        rotate_left
        · rintro listed hs i hi a wy ⟨t, rfl, hR⟩ hr
          match i, hi, hr with
          | 0, _, hr =>
            as_aux_lemma =>
            refine wpOp_step rfl (fun K' hK => ?_)
            have hq := HE.out _ hR.fin
            go_simp
            exact hK _ _ ⟨upd t 15 _, rfl, hR.yields hR.fin (fun _ _ h => h) rfl rfl⟩
          | 1, _, hr =>
            as_aux_lemma =>
            refine wpOp_step rfl (fun K' hK => ?_)
            have hq := HE.out _ hR.fin
            go_simp
            exact hK _ _ ⟨upd t 16 _, rfl, hR.yields hR.fin (fun _ _ h => h) rfl rfl⟩
          | 2, _, hr =>
            as_aux_lemma =>
            refine wpOp_step rfl (fun K' hK => ?_)
            go_simp
            exact hK _ _ ⟨upd t 17 _, rfl, hR.yields hR.fin (fun _ _ h => h) rfl rfl⟩
          | 3, _, hr =>
            as_aux_lemma =>
            refine wpOp_step rfl (fun K' hK => ?_)
            go_simp
            exact hK _ _ ⟨upd t 18 _, rfl, hR.yields hR.fin (fun _ _ h => h) rfl rfl⟩
          | 4, _, hr =>
            as_aux_lemma =>
            refine wpOp_step rfl (fun K' hK => ?_)
            have e1 : t 17 = .slice (some ⟨b, o, none⟩) l.length cap := hR.val (2, 17) (by simp) (dep_of hr 2 (by kernel_rfl))
            have e2 : t 18 = .int .i64 k := hR.val (3, 18) (by simp) (dep_of hr 3 (by kernel_rfl))
            go_simp
            exact hK _ _ ⟨upd t 19 _, by simp [upd, e1, e2], hR.yields hR.fin (fun _ _ h => h) rfl rfl⟩
          | 5, _, hr =>
            as_aux_lemma =>
            refine wpOp_step rfl (fun K' hK => ?_)
            have e1 : t 19 = .pointer (some ⟨b, o + k * 3, none⟩) := hR.val (4, 19) (by simp) (dep_of hr 4 (by kernel_rfl))
            obtain ⟨c0, c1, c2⟩ := HX.out _ hR.fin.own.below
            go_simp
            exact hK _ _ ⟨upd t 20 _, by simp [upd, e1], hR.yields hR.fin (fun _ _ h => h) rfl rfl⟩
          | 6, _, hr =>
            as_aux_lemma =>
            refine wpOp_step rfl (fun K' hK => ?_)
            go_simp
            exact hK _ _ ⟨upd t 21 _, rfl, hR.yields hR.fin (fun _ _ h => h) rfl rfl⟩
          | 7, _, hr =>
            as_aux_lemma =>
            refine wpOp_step rfl (fun K' hK => ?_)
            go_simp
            exact hK _ _ ⟨upd t 22 _, rfl, hR.yields hR.fin (fun _ _ h => h) rfl rfl⟩
          | 8, _, hr =>
            as_aux_lemma =>
            refine wpOp_step rfl (fun K' hK => ?_)
            have e1 : t 21 = .slice (some ⟨b, o, none⟩) l.length cap := hR.val (6, 21) (by simp) (dep_of hr 6 (by kernel_rfl))
            have e2 : t 22 = .int .i64 m := hR.val (7, 22) (by simp) (dep_of hr 7 (by kernel_rfl))
            go_simp
            exact hK _ _ ⟨upd t 23 _, by simp [upd, e1, e2], hR.yields hR.fin (fun _ _ h => h) rfl rfl⟩
          | 9, _, hr =>
            as_aux_lemma =>
            refine wpOp_step rfl (fun K' hK => ?_)
            have e1 : t 23 = .pointer (some ⟨b, o + m * 3, none⟩) := hR.val (8, 23) (by simp) (dep_of hr 8 (by kernel_rfl))
            obtain ⟨c0, c1, c2⟩ := HY.out _ hR.fin.own.below
            go_simp
            exact hK _ _ ⟨upd t 24 _, by simp [upd, e1], hR.yields hR.fin (fun _ _ h => h) rfl rfl⟩
          | 10, _, hr =>
            as_aux_lemma =>
            refine wpOp_step rfl (fun K' hK => ?_)
            have e1 : t 15 = .agg #[.int .i64 (p.a), .int .i64 (p.b), .int .i64 (p.c), .int .i64 (p.d)] := hR.val (0, 15) (by simp) (dep_of hr 0 (by kernel_rfl))
            have e2 : t 16 = .agg #[.int .i64 (f.x), .int .i64 (f.y), .int .i64 (f.z)] := hR.val (1, 16) (by simp) (dep_of hr 1 (by kernel_rfl))
            have e3 : t 20 = .agg #[.int .i64 (x.x), .int .i64 (x.y), .int .i64 (x.z)] := hR.val (5, 20) (by simp) (dep_of hr 5 (by kernel_rfl))
            have e4 : t 24 = .agg #[.int .i64 (y.x), .int .i64 (y.y), .int .i64 (y.z)] := hR.val (9, 24) (by simp) (dep_of hr 9 (by kernel_rfl))
            have HR := Lib.hid hR.fin
            go_simp
            refine (HS.out _).mono ?_
            rintro e w1 ⟨rfl, hb⟩
            exact hK _ _ ⟨upd t 25 _, by simp [upd, e1, e2, e3, e4], hR.yields (HR.out.call hb) (fun _ _ h => h) rfl rfl⟩
        rintro listed a2 W2 ⟨t, rfl, hR⟩ hl
        have e1 : t 25 = .bool r := hR.val (10, 25) (by simp) (hl 10 (by decide))
        have HZ := Lib.hid hR.fin
        clear hR hl
        go_wp2_with fail
        go_meet
        exact ⟨e1, HZ⟩
      case rest =>
        obtain ⟨rfl, HG⟩ := hcut
        clear HF
        cases r with
        | true =>
          go_wp2
          go_roundw
          case rel => exact ⟨k + 1, by omega, by omega, by go_num, by rw [HN.out]; rfl, HG.out⟩
          case measure => simp [intOf]; omega
        | false =>
          go_wp2
          go_roundw
          case rel => exact ⟨k + 1, by omega, by omega, by go_num, by rw [HN.out]; rfl, HG.out⟩
          case measure => simp [intOf]; omega
    · have hkk : k = l.length := by omega
      have HK := Lib.hid hkk
      clear hkk
      go_wp2
      go_ret
      refine ⟨ret_int ?_, hF.own.below⟩
      rw [HK.out]

end Go.Proofs.YtaoedfegakpjeabGreat
