/- Contracts of the functions that the statement reaches, and plain lemmas: part 15 of 23. -/
import Derived.Test.YtaoedfegakpjeabGreatG14
import Derived.Test.YtaoedfegakpjeabGreatG03

namespace Go.Proofs.YtaoedfegakpjeabGreat
open Go.RowKit

/-- A vector is a direction in a plane. -/
def WayOK (p : Q4) (d : T3) : Prop := ¬ (d.x = 0 ∧ d.y = 0 ∧ d.z = 0) ∧ d.x.natAbs ≤ 2000000 ∧ d.y.natAbs ≤ 2000000 ∧ d.z.natAbs ≤ 2000000 ∧ p.a * d.x + p.b * d.y + p.c * d.z = 0
/-- The normal's vector product with a vector. -/
noncomputable def wcx (p : Q4) (v : T3) : Int := crs p.b v.z p.c v.y
noncomputable def wcy (p : Q4) (v : T3) : Int := crs p.c v.x p.a v.z
noncomputable def wcz (p : Q4) (v : T3) : Int := crs p.a v.y p.b v.x
theorem wc_ok {p : Q4} (hp : Pl p) {v : T3} (hx : v.x.natAbs ≤ 4) (hy : v.y.natAbs ≤ 4) (hz : v.z.natAbs ≤ 4) (hn : eq3B (wcx p v) (wcy p v) (wcz p v) 0 0 0 = false) : WayOK p ⟨wcx p v, wcy p v, wcz p v⟩ := by
  have x := crs_id hp.b hz hp.c hy (by omega)
  have y := crs_id hp.c hx hp.a hz (by omega)
  have z := crs_id hp.a hy hp.b hx (by omega)
  refine ⟨fun h => ?_, ?_, ?_, ?_, ?_⟩
  · have h1 : wcx p v = 0 := h.1
    have h2 : wcy p v = 0 := h.2.1
    have h3 : wcz p v = 0 := h.2.2
    rw [h1, h2, h3] at hn; simp [eq3B] at hn
  · show (crs p.b v.z p.c v.y).natAbs ≤ _; rw [x.1]; omega
  · show (crs p.c v.x p.a v.z).natAbs ≤ _; rw [y.1]; omega
  · show (crs p.a v.y p.b v.x).natAbs ≤ _; rw [z.1]; omega
  · show p.a * crs p.b v.z p.c v.y + p.b * crs p.c v.x p.a v.z + p.c * crs p.a v.y p.b v.x = 0
    rw [x.1, y.1, z.1]; grind
/-- One of the products with the two first axes is not 0. -/
theorem wc_axes {p : Q4} (hp : Pl p) (h1 : eq3B (wcx p ⟨1, 0, 0⟩) (wcy p ⟨1, 0, 0⟩) (wcz p ⟨1, 0, 0⟩) 0 0 0 = true) : eq3B (wcx p ⟨0, 1, 0⟩) (wcy p ⟨0, 1, 0⟩) (wcz p ⟨0, 1, 0⟩) 0 0 0 = false := by
  have y := crs_id (b := p.c) (z := 1) (c := p.a) (y := 0) (A := 1000) (B := 1) hp.c (by decide) hp.a (by decide) (by omega)
  have z := crs_id (b := p.a) (z := 0) (c := p.b) (y := 1) (A := 1000) (B := 1) hp.a (by decide) hp.b (by decide) (by omega)
  have x' := crs_id (b := p.b) (z := 0) (c := p.c) (y := 1) (A := 1000) (B := 1) hp.b (by decide) hp.c (by decide) (by omega)
  have z' := crs_id (b := p.a) (z := 1) (c := p.b) (y := 0) (A := 1000) (B := 1) hp.a (by decide) hp.b (by decide) (by omega)
  have h : wcy p ⟨1, 0, 0⟩ = 0 ∧ wcz p ⟨1, 0, 0⟩ = 0 := by
    simp only [eq3B, Bool.and_eq_true, beq_iff_eq] at h1; exact ⟨h1.2.1, h1.2.2⟩
  have e1 : p.c = 0 := by
    have := h.1; unfold wcy at this; rw [y.1] at this; omega
  have e2 : p.b = 0 := by
    have := h.2; unfold wcz at this; rw [z.1] at this; omega
  have hn := hp.nz
  cases he : eq3B (wcx p ⟨0, 1, 0⟩) (wcy p ⟨0, 1, 0⟩) (wcz p ⟨0, 1, 0⟩) 0 0 0 with
  | false => rfl
  | true =>
    exfalso
    simp only [eq3B, Bool.and_eq_true, beq_iff_eq] at he
    have := he.2.2; unfold wcz at this; rw [z'.1] at this
    exact hn ⟨by omega, e2, e1⟩

theorem Room.lt {W : World} {b n : Nat} (h : Room W b n) : b < W.heap.size := by
  obtain ⟨c, t, _, h⟩ := h; exact (Array.getElem?_eq_some_iff.1 h).1
theorem Room.below {W W1 : World} {b n : Nat} (h : Room W b n) (hb : Below W.heap.size W W1) : Room W1 b n := by
  have hl := h.lt
  obtain ⟨c, t, h1, h2⟩ := h
  exact ⟨c, t, h1, by rw [hb.block b hl]; exact h2⟩
/-- The cells of the vector: the first k have turned. -/
def WyC (b : Nat) (v : T3) (y0 y1 y2 : Int) (k : Nat) (W : World) : Prop := W.cell? ⟨b, 0, none⟩ = some (.int .i64 (if 0 < k then y0 else v.x)) ∧ W.cell? ⟨b, 1, none⟩ = some (.int .i64 (if 1 < k then y1 else v.y)) ∧ W.cell? ⟨b, 2, none⟩ = some (.int .i64 (if 2 < k then y2 else v.z))
theorem WyC.set0 {b : Nat} {v : T3} {y0 y1 y2 : Int} {W : World} (h : WyC b v y0 y1 y2 0 W) (hr : Room W b 3) : WyC b v y0 y1 y2 1 (W.setCell ⟨b, 0, none⟩ (.int .i64 y0)) := ⟨hr.hit (by omega), (cell_set_off (by omega)).trans h.2.1, (cell_set_off (by omega)).trans h.2.2⟩
theorem WyC.set1 {b : Nat} {v : T3} {y0 y1 y2 : Int} {W : World} (h : WyC b v y0 y1 y2 1 W) (hr : Room W b 3) : WyC b v y0 y1 y2 2 (W.setCell ⟨b, 1, none⟩ (.int .i64 y1)) := ⟨(cell_set_off (by omega)).trans h.1, hr.hit (by omega), (cell_set_off (by omega)).trans h.2.2⟩
theorem WyC.set2 {b : Nat} {v : T3} {y0 y1 y2 : Int} {W : World} (h : WyC b v y0 y1 y2 2 W) (hr : Room W b 3) : WyC b v y0 y1 y2 3 (W.setCell ⟨b, 2, none⟩ (.int .i64 y2)) := ⟨(cell_set_off (by omega)).trans h.1, (cell_set_off (by omega)).trans h.2.1, hr.hit (by omega)⟩
/-- What is known behind the first product. -/
structure WyAt (p : Q4) (y : T3) (b6 : Nat) (w wr W : World) : Prop where
  below : Below wr.heap.size wr W
  lo : wr.heap.size ≤ b6
  room : Room W b6 3
  c0 : W.cell? ⟨b6, 0, none⟩ = some (.int .i64 (wcx p y))
  c1 : W.cell? ⟨b6, 1, none⟩ = some (.int .i64 (wcy p y))
  c2 : W.cell? ⟨b6, 2, none⟩ = some (.int .i64 (wcz p y))

set_option maxRecDepth 100000 in
set_option maxHeartbeats 2000000 in
theorem wy_any (p : Q4) (v : T3) (w : World) :
    Calls Tryz.prog 22 #[.agg #[.int .i64 (p.a), .int .i64 (p.b), .int .i64 (p.c), .int .i64 (p.d)], .agg #[.int .i64 (v.x), .int .i64 (v.y), .int .i64 (v.z)]] w fun e w' => (∃ d : T3, (Pl p → WayOK p d) ∧ I64 d.x ∧ I64 d.y ∧ I64 d.z ∧ e = .returned (.agg #[.int .i64 (d.x), .int .i64 (d.y), .int .i64 (d.z)])) ∧ Below w.heap.size w w' := by
  have HY : Hid (∀ x, -4 ≤ tmV x 4 ∧ tmV x 4 ≤ 4) := fun x => tmV_range x 4 (by omega) (by omega)
  have HE0 : Hid (∀ x, IntKind.u64.wrap x % 9 - 4 = tmV x 4) := fun x => by
    have := u64_wrap_range x
    rw [tmV_eq]
    generalize IntKind.u64.wrap x = r at this
    unfold wrap64; omega
  have hu0 := u64_wrap_range v.x
  have hu1 := u64_wrap_range v.y
  have hu2 := u64_wrap_range v.z
  go_enter Tryz.func22, Tryz.ntmps22
  have hE : ∀ W, Fr 3 [(0, .cells #[.int .i64 (p.a), .int .i64 (p.b), .int .i64 (p.c), .int .i64 (p.d)] 23)] [(1, 3), (2, 3)] w W → (W.cell? ⟨w.heap.size, 0, none⟩ = some (.int .i64 (p.a)) ∧ W.cell? ⟨w.heap.size, 1, none⟩ = some (.int .i64 (p.b)) ∧ W.cell? ⟨w.heap.size, 2, none⟩ = some (.int .i64 (p.c)) ∧ W.cell? ⟨w.heap.size, 3, none⟩ = some (.int .i64 (p.d)) ∧ (∀ o, o < 3 → W.cell? ⟨w.heap.size + 1, o, none⟩ = some (cellOf W ⟨w.heap.size + 1, o, none⟩)) ∧ (∀ o, o < 3 → W.frozen? ⟨w.heap.size + 1, o, none⟩ = false) ∧ (∀ o, o < 3 → W.cell? ⟨w.heap.size + 2, o, none⟩ = some (cellOf W ⟨w.heap.size + 2, o, none⟩)) ∧ (∀ o, o < 3 → W.frozen? ⟨w.heap.size + 2, o, none⟩ = false)) := fun W h => by (repeat' apply And.intro) <;> first | exact h.at0 rfl | exact h.at rfl | exact (h.rms0 rfl).cell | exact (h.rms rfl).cell | exact (h.rms0 rfl).frozen | exact (h.rms rfl).frozen
  have HE := Lib.hid hE
  clear hE
  go_wp2
  go_loopw [5] (fun i wr => ∃ k : Nat, k ≤ 3 ∧ i = .int .i64 k ∧ Fr 3 [(0, .cells #[.int .i64 (p.a), .int .i64 (p.b), .int .i64 (p.c), .int .i64 (p.d)] 23)] [(1, 3), (2, 3)] w wr ∧ WyC (w.heap.size + 1) v (tmV v.x 4) (tmV v.y 4) (tmV v.z 4) k wr) (fun i _ => 3 - (intOf i).toNat)
  case atStart => exact ⟨0, by omega, rfl, ((((Fr.nil w).fixed (by simp) (.cells #[.int .i64 (p.a), .int .i64 (p.b), .int .i64 (p.c), .int .i64 (p.d)] 23)).roomy (by simp) #[.int .i64 (v.x), .int .i64 (v.y), .int .i64 (v.z)] 24).roomy (by simp) #[.int .i64 0, .int .i64 0, .int .i64 0] 24), by simp [WyC, go_sem]⟩
  case round =>
    rename_i wr
    obtain ⟨k, hk, rfl, hF, hC⟩ := hrel
    match k, hk with
    | 0, _ =>
      have HC := Lib.hid hC
      obtain ⟨v0, v1, v2⟩ : wr.cell? ⟨w.heap.size + 1, 0, none⟩ = some (.int .i64 v.x) ∧ wr.cell? ⟨w.heap.size + 1, 1, none⟩ = some (.int .i64 v.y) ∧ wr.cell? ⟨w.heap.size + 1, 2, none⟩ = some (.int .i64 v.z) := hC
      have hq := (hF.rms (i := 1) (n := 3) rfl).frozen
      go_wp2
      go_roundw
      case measure => simp [intOf]
      case rel =>
        rw [HE0.out]
        exact ⟨1, by omega, rfl, (by (repeat (first | exact hF | exact And.left (by assumption) | refine Fr.set ?_ (by first | (simp; done) | (simp; omega)) (by first | (simp [List.lookup]; done) | (simp [Nat.add_assoc, List.lookup]; done)) _ | refine Fr.drew ?_ | refine Fr.alloc ?_ _))), HC.out.set0 (hF.rms (i := 1) rfl)⟩
    | 1, _ =>
      have HC := Lib.hid hC
      obtain ⟨v0, v1, v2⟩ : wr.cell? ⟨w.heap.size + 1, 0, none⟩ = some (.int .i64 (tmV v.x 4)) ∧ wr.cell? ⟨w.heap.size + 1, 1, none⟩ = some (.int .i64 v.y) ∧ wr.cell? ⟨w.heap.size + 1, 2, none⟩ = some (.int .i64 v.z) := hC
      have hq := (hF.rms (i := 1) (n := 3) rfl).frozen
      go_wp2
      go_roundw
      case measure => simp [intOf]
      case rel =>
        rw [HE0.out]
        exact ⟨2, by omega, rfl, (by (repeat (first | exact hF | exact And.left (by assumption) | refine Fr.set ?_ (by first | (simp; done) | (simp; omega)) (by first | (simp [List.lookup]; done) | (simp [Nat.add_assoc, List.lookup]; done)) _ | refine Fr.drew ?_ | refine Fr.alloc ?_ _))), HC.out.set1 (hF.rms (i := 1) rfl)⟩
    | 2, _ =>
      have HC := Lib.hid hC
      obtain ⟨v0, v1, v2⟩ : wr.cell? ⟨w.heap.size + 1, 0, none⟩ = some (.int .i64 (tmV v.x 4)) ∧ wr.cell? ⟨w.heap.size + 1, 1, none⟩ = some (.int .i64 (tmV v.y 4)) ∧ wr.cell? ⟨w.heap.size + 1, 2, none⟩ = some (.int .i64 v.z) := hC
      have hq := (hF.rms (i := 1) (n := 3) rfl).frozen
      go_wp2
      go_roundw
      case measure => simp [intOf]
      case rel =>
        rw [HE0.out]
        exact ⟨3, by omega, rfl, (by (repeat (first | exact hF | exact And.left (by assumption) | refine Fr.set ?_ (by first | (simp; done) | (simp; omega)) (by first | (simp [List.lookup]; done) | (simp [Nat.add_assoc, List.lookup]; done)) _ | refine Fr.drew ?_ | refine Fr.alloc ?_ _))), HC.out.set2 (hF.rms (i := 1) rfl)⟩
    | 3, _ =>
      obtain ⟨v0, v1, v2⟩ : wr.cell? ⟨w.heap.size + 1, 0, none⟩ = some (.int .i64 (tmV v.x 4)) ∧ wr.cell? ⟨w.heap.size + 1, 1, none⟩ = some (.int .i64 (tmV v.y 4)) ∧ wr.cell? ⟨w.heap.size + 1, 2, none⟩ = some (.int .i64 (tmV v.z 4)) := hC
      obtain ⟨l0, r0⟩ := HY.out v.x
      obtain ⟨l1, r1⟩ := HY.out v.y
      obtain ⟨l2, r2⟩ := HY.out v.z
      obtain ⟨y, hy⟩ : ∃ y : T3, y = ⟨tmV v.x 4, tmV v.y 4, tmV v.z 4⟩ := ⟨_, rfl⟩
      have ey0 : tmV v.x 4 = y.x := by rw [hy]
      have ey1 : tmV v.y 4 = y.y := by rw [hy]
      have ey2 : tmV v.z 4 = y.z := by rw [hy]
      rw [ey0] at v0 l0 r0
      rw [ey1] at v1 l1 r1
      rw [ey2] at v2 l2 r2
      have HL : Hid (y.x.natAbs ≤ 4 ∧ y.y.natAbs ≤ 4 ∧ y.z.natAbs ≤ 4) := ⟨by omega, by omega, by omega⟩
      clear hy ey0 ey1 ey2 HY HE0 hu0 hu1 hu2 l0 l1 l2 r0 r1 r2
      obtain ⟨p0, p1, p2, p3, -⟩ := HE.out _ hF
      have s0 : w.heap.size < wr.heap.size := by have := hF.own.size; omega
      have s1 : w.heap.size + 1 < wr.heap.size := by have := hF.own.size; omega
      have hres := Lib.hid (hF.rms (i := 2) (n := 3) rfl)
      have hwr := Lib.hid hF.own.below
      clear HE hF
      go_wp2
      have hE : ∀ W, Fr 0 [] [] wr W → (W.cell? ⟨w.heap.size, 0, none⟩ = some (.int .i64 (p.a)) ∧ W.cell? ⟨w.heap.size, 1, none⟩ = some (.int .i64 (p.b)) ∧ W.cell? ⟨w.heap.size, 2, none⟩ = some (.int .i64 (p.c)) ∧ W.cell? ⟨w.heap.size, 3, none⟩ = some (.int .i64 (p.d)) ∧ W.cell? ⟨(w.heap.size+1), 0, none⟩ = some (.int .i64 (y.x)) ∧ W.cell? ⟨(w.heap.size+1), 1, none⟩ = some (.int .i64 (y.y)) ∧ W.cell? ⟨(w.heap.size+1), 2, none⟩ = some (.int .i64 (y.z))) := fun W h => by (repeat' apply And.intro) <;> first | exact h.at0 rfl | exact h.at rfl | exact (h.rms0 rfl).cell | exact (h.rms rfl).cell | exact (h.rms0 rfl).frozen | exact (h.rms rfl).frozen | exact (h.own.below.cell (p := ⟨w.heap.size, _, none⟩) s0).trans (by assumption) | exact (h.own.below.cell (p := ⟨(w.heap.size+1), _, none⟩) s1).trans (by assumption)
      have HE := Lib.hid hE
      clear hE
      have hF : Fr 0 [] [] wr wr := Fr.nil _
      clear p0 p1 p2 p3 v0 v1 v2
      go_cut [6] (fun s6 wx => ∃ b6, s6 = .pointer (some ⟨b6, 0, none⟩) ∧ WyAt p y b6 w wr wx)
      case first =>
        have HX : Hid (∀ W, Calls Tryz.prog 37 #[.agg #[.int .i64 (p.a), .int .i64 (p.b), .int .i64 (p.c)], .agg #[.int .i64 (y.x), .int .i64 (y.y), .int .i64 (y.z)]] W fun e w' => e = .returned (.agg #[.int .i64 (wcx p y), .int .i64 (wcy p y), .int .i64 (wcz p y)]) ∧ Below W.heap.size W w') := fun W => pcross_any p.a p.b p.c y.x y.y y.z W
        refine wp_region_inv (by kernel_rfl) (by kernel_rfl) (fun listed a wy => ∃ u : Nat → Value, a = { tmps := #[.agg #[.int .i64 (p.a), .int .i64 (p.b), .int .i64 (p.c), .int .i64 (p.d)], .agg #[.int .i64 (v.x), .int .i64 (v.y), .int .i64 (v.z)], .pointer (some ⟨w.heap.size, 0, none⟩), .pointer (some ⟨w.heap.size + 1, 0, none⟩), .pointer (some ⟨w.heap.size + 1 + 1, 0, none⟩), .int .i64 3, u 6, .int .i64 3, .bool false, u9, u10, u11, u12, u13, u14, u15, u16, u17, u18, u19, u 20, u 21, u 22, u 23, undef, undef, undef, undef, undef, undef, undef, undef, undef, undef, undef, undef, undef, undef, undef], defers := [] } ∧ Rg wr.drew (fun d => match d with | 20 => .agg #[.int .i64 (p.a), .int .i64 (p.b), .int .i64 (p.c), .int .i64 (p.d)] | 21 => .agg #[.int .i64 (p.a), .int .i64 (p.b), .int .i64 (p.c)] | 22 => .agg #[.int .i64 (y.x), .int .i64 (y.y), .int .i64 (y.z)] | _ => .agg #[.int .i64 (wcx p y), .int .i64 (wcy p y), .int .i64 (wcz p y)]) (fun _ => [.int .i64 (wcx p y), .int .i64 (wcy p y), .int .i64 (wcz p y)]) [(0, 20), (1, 21), (2, 22), (3, 23)] [(4, 6, 3)] [(5, 6)] listed u wy) ⟨fun _ => undef, rfl, Rg.start _ _⟩ ?_ ?_
        rotate_left
        · rintro listed hs i hi a wy ⟨u, rfl, hR⟩ hr
          match i, hi, hr with
          | 0, _, hr =>
            as_aux_lemma =>
            refine wpOp_step rfl (fun K' hK => ?_)
            have hqr := HE.out _ (hF.drew.call hR.below)
            go_simp
            exact hK _ _ ⟨upd u 20 _, rfl, hR.yields (Below.refl _ _) rfl rfl rfl rfl⟩
          | 1, _, hr =>
            as_aux_lemma =>
            refine wpOp_step rfl (fun K' hK => ?_)
            have e0 : u 20 = .agg #[.int .i64 (p.a), .int .i64 (p.b), .int .i64 (p.c), .int .i64 (p.d)] := hR.val (0, 20) (by simp) (dep_of hr 0 (by kernel_rfl))
            go_simp
            refine (pnormal_any _ _ _ _ _).mono ?_
            rintro e w1 ⟨rfl, hb1⟩
            exact hK _ _ ⟨upd u 21 _, by simp [upd, e0], hR.yields hb1 rfl rfl rfl rfl⟩
          | 2, _, hr =>
            as_aux_lemma =>
            refine wpOp_step rfl (fun K' hK => ?_)
            have hqr := HE.out _ (hF.drew.call hR.below)
            go_simp
            exact hK _ _ ⟨upd u 22 _, rfl, hR.yields (Below.refl _ _) rfl rfl rfl rfl⟩
          | 3, _, hr =>
            as_aux_lemma =>
            refine wpOp_step rfl (fun K' hK => ?_)
            have e1 : u 21 = .agg #[.int .i64 (p.a), .int .i64 (p.b), .int .i64 (p.c)] := hR.val (1, 21) (by simp) (dep_of hr 1 (by kernel_rfl))
            have e2 : u 22 = .agg #[.int .i64 (y.x), .int .i64 (y.y), .int .i64 (y.z)] := hR.val (2, 22) (by simp) (dep_of hr 2 (by kernel_rfl))
            go_simp
            refine (HX.out _).mono ?_
            rintro e w1 ⟨rfl, hb1⟩
            exact hK _ _ ⟨upd u 23 _, by simp [upd, e1, e2], hR.yields hb1 rfl rfl rfl rfl⟩
          | 4, _, hr =>
            as_aux_lemma =>
            refine wpOp_step rfl (fun K' hK => ?_)
            go_simp
            exact hK _ _ ⟨upd u 6 _, rfl, hR.makes (n := 3) rfl (ready_spec.1 hr).2.1 rfl rfl rfl⟩
          | 5, _, hr =>
            as_aux_lemma =>
            refine wpOp_step rfl (fun K' hK => ?_)
            have e1 : u 23 = .agg #[.int .i64 (wcx p y), .int .i64 (wcy p y), .int .i64 (wcz p y)] := hR.val (3, 23) (by simp) (dep_of hr 3 (by kernel_rfl))
            have hl := dep_of hr 4 (by kernel_rfl)
            obtain ⟨b, eb, _, _, hrm⟩ := hR.ali (4, 6, 3) (by simp) hl
            have rc := hrm.cell
            have rf := hrm.frozen
            go_simp
            refine hK _ _ ⟨u, by simp [e1, eb], hR.stores (k := 4) (s := 6) (n := 3) hl eb ((OnlyAt.set _ _ _ _).trans ((OnlyAt.set _ _ _ _).trans (OnlyAt.set _ _ _ _))) ?_ rfl⟩
            intro j v hj
            match j, hj with
            | 0, hj => simp at hj; subst hj; simp [go_sem, hrm.some]
            | 1, hj => simp at hj; subst hj; simp [go_sem, hrm.some]
            | 2, hj => simp at hj; subst hj; simp [go_sem, hrm.some]
        rintro listed a W2 ⟨u, rfl, hR⟩ hl
        obtain ⟨b, eb, hlo, _, hrm⟩ := hR.ali (4, 6, 3) (by simp) (hl 4 (by decide))
        obtain ⟨b', eb', _, hk, _⟩ := hR.sto (5, 6) (by simp) (hl 5 (by decide))
        have ebb : b' = b := by have := eb'.symm.trans eb; simpa using this
        subst ebb
        have HAT : Hid (WyAt p y b' w wr W2) := ⟨(Below.refl wr.heap.size wr).drew.trans hR.below, hlo, hrm, hk 0 _ rfl, hk 1 _ rfl, hk 2 _ rfl⟩
        have HEB := Lib.hid eb
        clear hR hl eb eb' hlo hrm hk
        go_wp2_with fail
        go_meet
        exact ⟨b', HEB.out, HAT.out⟩
      case rest =>
        obtain ⟨b6, rfl, hat⟩ := hcut
        rename World => wx
        have hbx := hat.below
        have hr := hres.out.below hbx
        have h6 := hat.room
        have hW : Hid (Below wr.heap.size wr wx) := hbx
        have hlo := hat.lo
        have s2 := hres.out.lt
        obtain ⟨p0, p1, p2, p3, -⟩ := HE.out _ (hF.call hbx)
        have c0 := hat.c0
        have c1 := hat.c1
        have c2 := hat.c2
        have hbw : Hid (Below w.heap.size w wx) := Lib.hid (hwr.out.trans (hbx.mono hwr.out.size))
        have HN : Hid (∀ W, Calls Tryz.prog 14 #[.agg #[.int .i64 (p.a), .int .i64 (p.b), .int .i64 (p.c), .int .i64 (p.d)]] W fun e w' => e = .returned (.agg #[.int .i64 (p.a), .int .i64 (p.b), .int .i64 (p.c)]) ∧ Below W.heap.size W w') := fun W => pnormal_any p.a p.b p.c p.d W
        have HX1 : Hid (∀ W, Calls Tryz.prog 37 #[.agg #[.int .i64 (p.a), .int .i64 (p.b), .int .i64 (p.c)], .agg #[.int .i64 1, .int .i64 0, .int .i64 0]] W fun e w' => e = .returned (.agg #[.int .i64 (wcx p ⟨1, 0, 0⟩), .int .i64 (wcy p ⟨1, 0, 0⟩), .int .i64 (wcz p ⟨1, 0, 0⟩)]) ∧ Below W.heap.size W w') := fun W => pcross_any p.a p.b p.c 1 0 0 W
        have HX2 : Hid (∀ W, Calls Tryz.prog 37 #[.agg #[.int .i64 (p.a), .int .i64 (p.b), .int .i64 (p.c)], .agg #[.int .i64 0, .int .i64 1, .int .i64 0]] W fun e w' => e = .returned (.agg #[.int .i64 (wcx p ⟨0, 1, 0⟩), .int .i64 (wcy p ⟨0, 1, 0⟩), .int .i64 (wcz p ⟨0, 1, 0⟩)]) ∧ Below W.heap.size W w') := fun W => pcross_any p.a p.b p.c 0 1 0 W
        clear hat hbx hF
        cases h1 : eq3B (wcx p y) (wcy p y) (wcz p y) 0 0 0 with
        | false =>
          have HO : Hid (Pl p → WayOK p ⟨wcx p y, wcy p y, wcz p y⟩) := fun hp => wc_ok hp HL.out.1 HL.out.2.1 HL.out.2.2 h1
          have rc := hr.cell
          have rf := hr.frozen
          clear hr
          go_wp2
          refine bodyPost_ret (v := .agg #[.int .i64 (wcx p y), .int .i64 (wcy p y), .int .i64 (wcz p y)]) ?_ rfl ⟨⟨⟨wcx p y, wcy p y, wcz p y⟩, HO.out, crs_i64 _ _ _ _, crs_i64 _ _ _ _, crs_i64 _ _ _ _, rfl⟩, ?_⟩
          · simp [results, Tryz.results22, go_sem, rc]
          · exact ((hbw.out.setCell (by simp; omega) _).setCell (by simp; omega) _).setCell (by simp; omega) _
        | true =>
          have hne1 : ¬ b6 = w.heap.size + 2 := by omega
          have hne2 : ¬ w.heap.size + 2 = b6 := by omega
          cases h2 : eq3B (wcx p ⟨1, 0, 0⟩) (wcy p ⟨1, 0, 0⟩) (wcz p ⟨1, 0, 0⟩) 0 0 0 with
          | false =>
            have HO : Hid (Pl p → WayOK p ⟨wcx p ⟨1, 0, 0⟩, wcy p ⟨1, 0, 0⟩, wcz p ⟨1, 0, 0⟩⟩) := fun hp => wc_ok hp (by decide) (by decide) (by decide) h2
            go_wp2_with fail
            ((with_reducible refine (HN.out _).mono ?_); rintro e w1a ⟨rfl, hb1⟩)
            go_wp2_with fail
            ((with_reducible refine (HX1.out _).mono ?_); rintro e w1b ⟨rfl, hb2⟩)
            have hr := (hr.below hb1).below hb2
            have h6 := (h6.below hb1).below hb2
            have hW := Lib.hid ((hW.out.trans (hb1.mono hW.out.size)).trans (hb2.mono (Nat.le_trans hW.out.size hb1.size)))
            have hbw := Lib.hid (hwr.out.trans (hW.out.mono hwr.out.size))
            obtain ⟨p0, p1, p2, p3, -⟩ := HE.out _ (Fr.call (Fr.nil wr) hW.out)
            clear hb1 hb2
            have r6c := h6.cell
            have r6f := h6.frozen
            have l6 := h6.lt
            have rc := hr.cell
            have rf := hr.frozen
            go_wp2
            refine bodyPost_ret (v := .agg #[.int .i64 (wcx p ⟨1, 0, 0⟩), .int .i64 (wcy p ⟨1, 0, 0⟩), .int .i64 (wcz p ⟨1, 0, 0⟩)]) ?_ rfl ⟨⟨⟨wcx p ⟨1, 0, 0⟩, wcy p ⟨1, 0, 0⟩, wcz p ⟨1, 0, 0⟩⟩, HO.out, crs_i64 _ _ _ _, crs_i64 _ _ _ _, crs_i64 _ _ _ _, rfl⟩, ?_⟩
            · simp [results, Tryz.results22, go_sem, rc]
            · exact (((((hbw.out.setCell (by simp; omega) _).setCell (by simp; omega) _).setCell (by simp; omega) _).setCell (by simp; omega) _).setCell (by simp; omega) _).setCell (by simp; omega) _
          | true =>
            have HO : Hid (Pl p → WayOK p ⟨wcx p ⟨0, 1, 0⟩, wcy p ⟨0, 1, 0⟩, wcz p ⟨0, 1, 0⟩⟩) := fun hp => wc_ok hp (by decide) (by decide) (by decide) (wc_axes hp h2)
            go_wp2_with fail
            ((with_reducible refine (HN.out _).mono ?_); rintro e w1a ⟨rfl, hb1⟩)
            go_wp2_with fail
            ((with_reducible refine (HX1.out _).mono ?_); rintro e w1b ⟨rfl, hb2⟩)
            have hr := (hr.below hb1).below hb2
            have h6 := (h6.below hb1).below hb2
            have hW := Lib.hid ((hW.out.trans (hb1.mono hW.out.size)).trans (hb2.mono (Nat.le_trans hW.out.size hb1.size)))
            have hbw := Lib.hid (hwr.out.trans (hW.out.mono hwr.out.size))
            obtain ⟨p0, p1, p2, p3, -⟩ := HE.out _ (Fr.call (Fr.nil wr) hW.out)
            clear hb1 hb2
            have r6c := h6.cell
            have r6f := h6.frozen
            have l6 := h6.lt
            go_wp2_with fail
            ((with_reducible refine (HN.out _).mono ?_); rintro e w2a ⟨rfl, hb1⟩)
            go_wp2_with fail
            ((with_reducible refine (HX2.out _).mono ?_); rintro e w2b ⟨rfl, hb2⟩)
            have hW3 : Below wr.heap.size wr (((w1b.setCell ⟨b6, 0, none⟩ (.int .i64 (wcx p ⟨1, 0, 0⟩))).setCell ⟨b6, 1, none⟩ (.int .i64 (wcy p ⟨1, 0, 0⟩))).setCell ⟨b6, 2, none⟩ (.int .i64 (wcz p ⟨1, 0, 0⟩))) := ((hW.out.setCell (by simp; omega) _).setCell (by simp; omega) _).setCell (by simp; omega) _
            have hr := ((((hr.set ⟨b6, 0, none⟩ (.int .i64 (wcx p ⟨1, 0, 0⟩))).set ⟨b6, 1, none⟩ (.int .i64 (wcy p ⟨1, 0, 0⟩))).set ⟨b6, 2, none⟩ (.int .i64 (wcz p ⟨1, 0, 0⟩))).below hb1).below hb2
            have h6 := ((((h6.set ⟨b6, 0, none⟩ (.int .i64 (wcx p ⟨1, 0, 0⟩))).set ⟨b6, 1, none⟩ (.int .i64 (wcy p ⟨1, 0, 0⟩))).set ⟨b6, 2, none⟩ (.int .i64 (wcz p ⟨1, 0, 0⟩))).below hb1).below hb2
            have hW := Lib.hid ((hW3.trans (hb1.mono hW3.size)).trans (hb2.mono (Nat.le_trans hW3.size hb1.size)))
            have hbw := Lib.hid (hwr.out.trans (hW.out.mono hwr.out.size))
            clear hb1 hb2 hW3 r6c r6f l6 p0 p1 p2 p3
            have r6c := h6.cell
            have r6f := h6.frozen
            have l6 := h6.lt
            have rc := hr.cell
            have rf := hr.frozen
            go_wp2
            refine bodyPost_ret (v := .agg #[.int .i64 (wcx p ⟨0, 1, 0⟩), .int .i64 (wcy p ⟨0, 1, 0⟩), .int .i64 (wcz p ⟨0, 1, 0⟩)]) ?_ rfl ⟨⟨⟨wcx p ⟨0, 1, 0⟩, wcy p ⟨0, 1, 0⟩, wcz p ⟨0, 1, 0⟩⟩, HO.out, crs_i64 _ _ _ _, crs_i64 _ _ _ _, crs_i64 _ _ _ _, rfl⟩, ?_⟩
            · simp [results, Tryz.results22, go_sem, rc]
            · exact (((((hbw.out.setCell (by simp; omega) _).setCell (by simp; omega) _).setCell (by simp; omega) _).setCell (by simp; omega) _).setCell (by simp; omega) _).setCell (by simp; omega) _

end Go.Proofs.YtaoedfegakpjeabGreat

namespace Go.Proofs.YtaoedfegakpjeabGreat
open Go.RowKit

set_option maxHeartbeats 400000 in
theorem psign_any (a : Int) (w : World) :
    Calls Tryz.prog 12 #[.int .i64 a] w fun e w' => e = .returned (.int .i64 (sgn a)) ∧ w = w' := by
  go_enter Tryz.func12, Tryz.ntmps12
  go_wp2
  all_goals (go_ret; exact ⟨ret_int (by unfold sgn cmp3; (repeat' split) <;> omega), rfl⟩)

/-- What is known behind the vector product. -/
structure DrAt (x y z : Int) (b : Nat) (w W : World) : Prop where
  below : Below w.heap.size w W
  lo : w.heap.size + 2 < b
  lt : b < W.heap.size
  room : Room W (w.heap.size + 2) 3
  c0 : W.cell? ⟨b, 0, none⟩ = some (.int .i64 x)
  c1 : W.cell? ⟨b, 1, none⟩ = some (.int .i64 y)
  c2 : W.cell? ⟨b, 2, none⟩ = some (.int .i64 z)

set_option maxRecDepth 100000 in
set_option maxHeartbeats 2000000 in
theorem rdirection_gen (p q : Q4) (x y z : Int) (w : World) (hX : ∀ W, Calls Tryz.prog 37 #[.agg #[.int .i64 (p.a), .int .i64 (p.b), .int .i64 (p.c)], .agg #[.int .i64 (q.a), .int .i64 (q.b), .int .i64 (q.c)]] W fun e w' => e = .returned (.agg #[.int .i64 x, .int .i64 y, .int .i64 z]) ∧ Below W.heap.size W w') (J2 : I64 x) (J3 : I64 y) (J4 : I64 z) (hg1 : ¬ gcd2 (gcd2 x y) z = 0) :
    Calls Tryz.prog 11 #[.agg #[.int .i64 (p.a), .int .i64 (p.b), .int .i64 (p.c), .int .i64 (p.d)], .agg #[.int .i64 (q.a), .int .i64 (q.b), .int .i64 (q.c), .int .i64 (q.d)]] w fun e w' => e = .returned (.agg #[.int .i64 (wrap64 (x.tdiv (gcd2 (gcd2 x y) z))), .int .i64 (wrap64 (y.tdiv (gcd2 (gcd2 x y) z))), .int .i64 (wrap64 (z.tdiv (gcd2 (gcd2 x y) z)))]) ∧ Below w.heap.size w w' := by
  have J1 := gcd2_i64 J2 J3
  have HX := Lib.hid hX
  clear hX
  go_enter Tryz.func11, Tryz.ntmps11
  go_wp2
  have hE : ∀ W, Fr 3 [(0, .cells #[.int .i64 (p.a), .int .i64 (p.b), .int .i64 (p.c), .int .i64 (p.d)] 23), (1, .cells #[.int .i64 (q.a), .int .i64 (q.b), .int .i64 (q.c), .int .i64 (q.d)] 23)] [(2, 3)] w W → (W.cell? ⟨w.heap.size, 0, none⟩ = some (.int .i64 (p.a)) ∧ W.cell? ⟨w.heap.size, 1, none⟩ = some (.int .i64 (p.b)) ∧ W.cell? ⟨w.heap.size, 2, none⟩ = some (.int .i64 (p.c)) ∧ W.cell? ⟨w.heap.size, 3, none⟩ = some (.int .i64 (p.d)) ∧ W.cell? ⟨w.heap.size + 1, 0, none⟩ = some (.int .i64 (q.a)) ∧ W.cell? ⟨w.heap.size + 1, 1, none⟩ = some (.int .i64 (q.b)) ∧ W.cell? ⟨w.heap.size + 1, 2, none⟩ = some (.int .i64 (q.c)) ∧ W.cell? ⟨w.heap.size + 1, 3, none⟩ = some (.int .i64 (q.d)) ∧ (∀ o, o < 3 → W.cell? ⟨w.heap.size + 2, o, none⟩ = some (cellOf W ⟨w.heap.size + 2, o, none⟩)) ∧ (∀ o, o < 3 → W.frozen? ⟨w.heap.size + 2, o, none⟩ = false)) := fun W h => by (repeat' apply And.intro) <;> first | exact h.at0 rfl | exact h.at rfl | exact (h.rms0 rfl).cell | exact (h.rms rfl).cell | exact (h.rms0 rfl).frozen | exact (h.rms rfl).frozen
  have HE := Lib.hid hE
  clear hE
  have hF0 : Fr 3 [(0, .cells #[.int .i64 (p.a), .int .i64 (p.b), .int .i64 (p.c), .int .i64 (p.d)] 23), (1, .cells #[.int .i64 (q.a), .int .i64 (q.b), .int .i64 (q.c), .int .i64 (q.d)] 23)] [(2, 3)] w _ := ((((Fr.nil w).fixed (by simp) (.cells #[.int .i64 (p.a), .int .i64 (p.b), .int .i64 (p.c), .int .i64 (p.d)] 23)).fixed (by simp) (.cells #[.int .i64 (q.a), .int .i64 (q.b), .int .i64 (q.c), .int .i64 (q.d)] 23)).roomy (by simp) #[.int .i64 0, .int .i64 0, .int .i64 0] 24)
  go_cut [5] (fun s5 wx => ∃ b, s5 = .pointer (some ⟨b, 0, none⟩) ∧ DrAt x y z b w wx)
  case first =>
    have hb0 := hF0.own.below
    have hsz := hF0.own.size
    have hrm0 := hF0.rms (i := 2) (n := 3) rfl
    generalize hW0 : World.alloc _ _ = W0 at hF0 hb0 hsz hrm0 ⊢
    clear hW0
    refine wp_region_inv (by kernel_rfl) (by kernel_rfl) (fun listed a wy => ∃ u : Nat → Value, a = { tmps := #[.agg #[.int .i64 (p.a), .int .i64 (p.b), .int .i64 (p.c), .int .i64 (p.d)], .agg #[.int .i64 (q.a), .int .i64 (q.b), .int .i64 (q.c), .int .i64 (q.d)], .pointer (some ⟨w.heap.size, 0, none⟩), .pointer (some ⟨w.heap.size + 1, 0, none⟩), .pointer (some ⟨w.heap.size + 1 + 1, 0, none⟩), u 5, undef, u 7, u 8, u 9, u 10, u 11, undef, undef, undef, undef, undef, undef, undef, undef, undef, undef, undef, undef, undef, undef, undef, undef, undef, undef, undef, undef, undef], defers := [] } ∧ Rg W0.drew (fun d => match d with | 7 => .agg #[.int .i64 (p.a), .int .i64 (p.b), .int .i64 (p.c), .int .i64 (p.d)] | 8 => .agg #[.int .i64 (p.a), .int .i64 (p.b), .int .i64 (p.c)] | 9 => .agg #[.int .i64 (q.a), .int .i64 (q.b), .int .i64 (q.c), .int .i64 (q.d)] | 10 => .agg #[.int .i64 (q.a), .int .i64 (q.b), .int .i64 (q.c)] | _ => .agg #[.int .i64 x, .int .i64 y, .int .i64 z]) (fun _ => [.int .i64 x, .int .i64 y, .int .i64 z]) [(0, 7), (1, 8), (2, 9), (3, 10), (4, 11)] [(5, 5, 3)] [(6, 5)] listed u wy) ⟨fun _ => undef, rfl, Rg.start _ _⟩ ?_ ?_
    rotate_left
    · rintro listed hs i hi a wy ⟨u, rfl, hR⟩ hr
      match i, hi, hr with
      | 0, _, hr =>
        as_aux_lemma =>
        refine wpOp_step rfl (fun K' hK => ?_)
        have hqr := HE.out _ (hF0.drew.call hR.below)
        go_simp
        exact hK _ _ ⟨upd u 7 _, rfl, hR.yields (Below.refl _ _) rfl rfl rfl rfl⟩
      | 1, _, hr =>
        as_aux_lemma =>
        refine wpOp_step rfl (fun K' hK => ?_)
        have e0 : u 7 = .agg #[.int .i64 (p.a), .int .i64 (p.b), .int .i64 (p.c), .int .i64 (p.d)] := hR.val (0, 7) (by simp) (dep_of hr 0 (by kernel_rfl))
        go_simp
        refine (pnormal_any _ _ _ _ _).mono ?_
        rintro e w1 ⟨rfl, hb1⟩
        exact hK _ _ ⟨upd u 8 _, by simp [upd, e0], hR.yields hb1 rfl rfl rfl rfl⟩
      | 2, _, hr =>
        as_aux_lemma =>
        refine wpOp_step rfl (fun K' hK => ?_)
        have hqr := HE.out _ (hF0.drew.call hR.below)
        go_simp
        exact hK _ _ ⟨upd u 9 _, rfl, hR.yields (Below.refl _ _) rfl rfl rfl rfl⟩
      | 3, _, hr =>
        as_aux_lemma =>
        refine wpOp_step rfl (fun K' hK => ?_)
        have e0 : u 9 = .agg #[.int .i64 (q.a), .int .i64 (q.b), .int .i64 (q.c), .int .i64 (q.d)] := hR.val (2, 9) (by simp) (dep_of hr 2 (by kernel_rfl))
        go_simp
        refine (pnormal_any _ _ _ _ _).mono ?_
        rintro e w1 ⟨rfl, hb1⟩
        exact hK _ _ ⟨upd u 10 _, by simp [upd, e0], hR.yields hb1 rfl rfl rfl rfl⟩
      | 4, _, hr =>
        as_aux_lemma =>
        refine wpOp_step rfl (fun K' hK => ?_)
        have e1 : u 8 = .agg #[.int .i64 (p.a), .int .i64 (p.b), .int .i64 (p.c)] := hR.val (1, 8) (by simp) (dep_of hr 1 (by kernel_rfl))
        have e2 : u 10 = .agg #[.int .i64 (q.a), .int .i64 (q.b), .int .i64 (q.c)] := hR.val (3, 10) (by simp) (dep_of hr 3 (by kernel_rfl))
        go_simp
        refine (HX.out _).mono ?_
        rintro e w1 ⟨rfl, hb1⟩
        exact hK _ _ ⟨upd u 11 _, by simp [upd, e1, e2], hR.yields hb1 rfl rfl rfl rfl⟩
      | 5, _, hr =>
        as_aux_lemma =>
        refine wpOp_step rfl (fun K' hK => ?_)
        go_simp
        exact hK _ _ ⟨upd u 5 _, rfl, hR.makes (n := 3) rfl (ready_spec.1 hr).2.1 rfl rfl rfl⟩
      | 6, _, hr =>
        as_aux_lemma =>
        refine wpOp_step rfl (fun K' hK => ?_)
        have e1 : u 11 = .agg #[.int .i64 x, .int .i64 y, .int .i64 z] := hR.val (4, 11) (by simp) (dep_of hr 4 (by kernel_rfl))
        have hl := dep_of hr 5 (by kernel_rfl)
        obtain ⟨b, eb, _, _, hrm⟩ := hR.ali (5, 5, 3) (by simp) hl
        have rc := hrm.cell
        have rf := hrm.frozen
        go_simp
        refine hK _ _ ⟨u, by simp [e1, eb], hR.stores (k := 5) (s := 5) (n := 3) hl eb ((OnlyAt.set _ _ _ _).trans ((OnlyAt.set _ _ _ _).trans (OnlyAt.set _ _ _ _))) ?_ rfl⟩
        intro j v hj
        match j, hj with
        | 0, hj => simp at hj; subst hj; simp [go_sem, hrm.some]
        | 1, hj => simp at hj; subst hj; simp [go_sem, hrm.some]
        | 2, hj => simp at hj; subst hj; simp [go_sem, hrm.some]
    rintro listed a W2 ⟨u, rfl, hR⟩ hl
    obtain ⟨b, eb, hlo, _, hrm⟩ := hR.ali (5, 5, 3) (by simp) (hl 5 (by decide))
    obtain ⟨b', eb', _, hk, _⟩ := hR.sto (6, 5) (by simp) (hl 6 (by decide))
    have ebb : b' = b := by have := eb'.symm.trans eb; simpa using this
    subst ebb
    have hbW : Below W0.heap.size W0 W2 := (Below.refl W0.heap.size W0).drew.trans hR.below
    have HAT : Hid (DrAt x y z b' w W2) := ⟨hb0.trans (hbW.mono (by omega)), by have : W0.heap.size ≤ b' := hlo; omega, hrm.lt, hrm0.below hbW, hk 0 _ rfl, hk 1 _ rfl, hk 2 _ rfl⟩
    have HEB := Lib.hid eb
    clear hR hl eb eb' hlo hrm hk hbW
    go_wp2_with fail
    go_meet
    exact ⟨b', HEB.out, HAT.out⟩
  case rest =>
    obtain ⟨b, rfl, hat⟩ := hcut
    clear HE hF0
    rename World => wx
    have HBW := Lib.hid hat.below
    have HRM := Lib.hid hat.room
    have hlt := hat.lt
    have hlo := hat.lo
    have c0 := hat.c0
    have c1 := hat.c1
    have c2 := hat.c2
    clear hat
    have hE : ∀ W, Fr 0 [] [] wx W → (W.cell? ⟨b, 0, none⟩ = some (.int .i64 x) ∧ W.cell? ⟨b, 1, none⟩ = some (.int .i64 y) ∧ W.cell? ⟨b, 2, none⟩ = some (.int .i64 z)) := fun W h => by (repeat' apply And.intro) <;> first | exact h.at0 rfl | exact h.at rfl | exact (h.rms0 rfl).cell | exact (h.rms rfl).cell | exact (h.rms0 rfl).frozen | exact (h.rms rfl).frozen | exact (h.own.below.cell (p := ⟨b, _, none⟩) hlt).trans (by assumption)
    have HE := Lib.hid hE
    clear hE
    have hF : Fr 0 [] [] wx wx := Fr.nil _
    go_wp2
    go_region_held3 (fun W => Fr 0 [] [] wx W ∧ W.cell? ⟨b, 0, none⟩ = some (.int .i64 x) ∧ W.cell? ⟨b, 1, none⟩ = some (.int .i64 y) ∧ W.cell? ⟨b, 2, none⟩ = some (.int .i64 z)) ((first | exact hSK | assumption | (have hq := Fr.keep HE.out (by assumption) hb1; exact hq) | (have hq := Fr.both HE.out hF.drew; exact hq) | (have hq := Fr.both HE.out (Fr.nil wx).drew; exact hq) | (refine Fr.both HE.out ?_; (repeat (first | exact hF | exact And.left (by assumption) | refine Fr.set ?_ (by first | (simp; done) | (simp; omega)) (by first | (simp [List.lookup]; done) | (simp [Nat.add_assoc, List.lookup]; done)) _ | refine Fr.drew ?_ | refine Fr.alloc ?_ _))))) ((go_at_call 38; refine (pgcd_any _ _ _ (by assumption) (by assumption)).mono ?_; rintro e w1 ⟨rfl, hb1⟩))
    obtain ⟨hG, k0, k1, k2⟩ : Fr 0 [] [] wx _ ∧ _ := by assumption
    rename World => W3
    have hr : Room W3 (w.heap.size + 1 + 1) 3 := HRM.out.below hG.own.below
    have rc := hr.cell
    have rf := hr.frozen
    have HRR := Lib.hid hr
    have HBB : Hid (Below w.heap.size w W3) := HBW.out.trans (hG.own.below.mono (by omega))
    clear hr hG hF HE HRM HBW
    go_wp2
    go_region
    go_wp2
    refine bodyPost_ret (v := .agg #[.int .i64 (wrap64 (x.tdiv (gcd2 (gcd2 x y) z))), .int .i64 (wrap64 (y.tdiv (gcd2 (gcd2 x y) z))), .int .i64 (wrap64 (z.tdiv (gcd2 (gcd2 x y) z)))]) ?_ rfl ⟨rfl, ?_⟩
    · simp [results, Tryz.results11, go_sem, HRR.out.some]
    · exact (((HBB.out.setCell (by simp; omega) _).setCell (by simp; omega) _).setCell (by simp; omega) _).drew

/-- Of two right planes that are not parallel the reference's direction is the code's own. -/
theorem rdirection_any (p q : Q4) (w : World) (hp : Pl p) (hq : Pl q) (hn : ¬ (p.dx q = 0 ∧ p.dy q = 0 ∧ p.dz q = 0)) :
    Calls Tryz.prog 11 #[.agg #[.int .i64 (p.a), .int .i64 (p.b), .int .i64 (p.c), .int .i64 (p.d)], .agg #[.int .i64 (q.a), .int .i64 (q.b), .int .i64 (q.c), .int .i64 (q.d)]] w fun e w' => e = .returned (.agg #[.int .i64 (p.dx q), .int .i64 (p.dy q), .int .i64 (p.dz q)]) ∧ Below w.heap.size w w' := by
  obtain ⟨x, y, z, bx, by', bz⟩ := cross_id hp hq
  have hc : ¬ (p.cx q = 0 ∧ p.cy q = 0 ∧ p.cz q = 0) := fun h => hn ((dir_zero hp hq).2 h)
  have k1 : gcd2 (p.cx q) (p.cy q) = (Nat.gcd (p.cx q).natAbs (p.cy q).natAbs : Nat) := gcd2_small (by omega) (by omega) (by omega) (by omega)
  have k0 : Nat.gcd (p.cx q).natAbs (p.cy q).natAbs < 2000001 := gcd_lt (by omega) (by omega)
  have k2 : gcd2 (gcd2 (p.cx q) (p.cy q)) (p.cz q) = (Nat.gcd (Nat.gcd (p.cx q).natAbs (p.cy q).natAbs) (p.cz q).natAbs : Nat) := by
    rw [k1, gcd2_small (by omega) (by omega) (by omega) (by omega)]; simp
  have k3 : Nat.gcd (Nat.gcd (p.cx q).natAbs (p.cy q).natAbs) (p.cz q).natAbs < 2000001 := gcd_lt k0 (by omega)
  have k4 : Nat.gcd (Nat.gcd (p.cx q).natAbs (p.cy q).natAbs) (p.cz q).natAbs ≠ 0 := fun h => by
    have h1 := Nat.gcd_eq_zero_iff.1 h
    have h2 := Nat.gcd_eq_zero_iff.1 h1.1
    exact hc ⟨by omega, by omega, by omega⟩
  have eg : dirG p.a p.b p.c q.a q.b q.c = gcd2 (gcd2 (p.cx q) (p.cy q)) (p.cz q) := by
    unfold dirG
    rw [x, y, z, gcd3_eq, k2]
    have e : gcdN [p.cx q, p.cy q, p.cz q] = Nat.gcd (Nat.gcd (p.cx q).natAbs (p.cy q).natAbs) (p.cz q).natAbs := by simp [gcdN]
    rw [e]
    exact wrap_id (by omega)
  have hne : ¬ gcd2 (gcd2 (p.cx q) (p.cy q)) (p.cz q) = 0 := by rw [k2]; omega
  have d1 : p.dx q = wrap64 ((p.cx q).tdiv (gcd2 (gcd2 (p.cx q) (p.cy q)) (p.cz q))) := by unfold Q4.dx dirX; rw [eg, x, shortBy, if_neg hne]
  have d2 : p.dy q = wrap64 ((p.cy q).tdiv (gcd2 (gcd2 (p.cx q) (p.cy q)) (p.cz q))) := by unfold Q4.dy dirY; rw [eg, y, shortBy, if_neg hne]
  have d3 : p.dz q = wrap64 ((p.cz q).tdiv (gcd2 (gcd2 (p.cx q) (p.cy q)) (p.cz q))) := by unfold Q4.dz dirZ; rw [eg, z, shortBy, if_neg hne]
  have h := rdirection_gen p q (p.cx q) (p.cy q) (p.cz q) w (fun W => by have h := pcross_any p.a p.b p.c q.a q.b q.c W; rw [x, y, z] at h; exact h) ⟨by omega, by omega⟩ ⟨by omega, by omega⟩ ⟨by omega, by omega⟩ hne
  rw [← d1, ← d2, ← d3] at h
  exact h

set_option maxHeartbeats 1000000 in
theorem rleft_gen (p q r : Q4) (x y z : Int) (w : World) (hD : ∀ W, Calls Tryz.prog 11 #[.agg #[.int .i64 (p.a), .int .i64 (p.b), .int .i64 (p.c), .int .i64 (p.d)], .agg #[.int .i64 (q.a), .int .i64 (q.b), .int .i64 (q.c), .int .i64 (q.d)]] W fun e w' => e = .returned (.agg #[.int .i64 x, .int .i64 y, .int .i64 z]) ∧ Below W.heap.size W w') :
    Calls Tryz.prog 15 #[.agg #[.int .i64 (p.a), .int .i64 (p.b), .int .i64 (p.c), .int .i64 (p.d)], .agg #[.int .i64 (q.a), .int .i64 (q.b), .int .i64 (q.c), .int .i64 (q.d)], .agg #[.int .i64 (r.a), .int .i64 (r.b), .int .i64 (r.c), .int .i64 (r.d)]] w fun e w' => e = .returned (.int .i64 (sgn (dot r.a r.b r.c (crs p.b z p.c y) (crs p.c x p.a z) (crs p.a y p.b x)))) ∧ Below w.heap.size w w' := by
  have HD := Lib.hid hD
  clear hD
  go_enter Tryz.func15, Tryz.ntmps15
  go_wp2
  have hE : ∀ W, Fr 3 [(0, .cells #[.int .i64 (p.a), .int .i64 (p.b), .int .i64 (p.c), .int .i64 (p.d)] 23), (1, .cells #[.int .i64 (q.a), .int .i64 (q.b), .int .i64 (q.c), .int .i64 (q.d)] 23), (2, .cells #[.int .i64 (r.a), .int .i64 (r.b), .int .i64 (r.c), .int .i64 (r.d)] 23)] [] w W → (W.cell? ⟨w.heap.size, 0, none⟩ = some (.int .i64 (p.a)) ∧ W.cell? ⟨w.heap.size, 1, none⟩ = some (.int .i64 (p.b)) ∧ W.cell? ⟨w.heap.size, 2, none⟩ = some (.int .i64 (p.c)) ∧ W.cell? ⟨w.heap.size, 3, none⟩ = some (.int .i64 (p.d)) ∧ W.cell? ⟨w.heap.size + 1, 0, none⟩ = some (.int .i64 (q.a)) ∧ W.cell? ⟨w.heap.size + 1, 1, none⟩ = some (.int .i64 (q.b)) ∧ W.cell? ⟨w.heap.size + 1, 2, none⟩ = some (.int .i64 (q.c)) ∧ W.cell? ⟨w.heap.size + 1, 3, none⟩ = some (.int .i64 (q.d)) ∧ W.cell? ⟨w.heap.size + 2, 0, none⟩ = some (.int .i64 (r.a)) ∧ W.cell? ⟨w.heap.size + 2, 1, none⟩ = some (.int .i64 (r.b)) ∧ W.cell? ⟨w.heap.size + 2, 2, none⟩ = some (.int .i64 (r.c)) ∧ W.cell? ⟨w.heap.size + 2, 3, none⟩ = some (.int .i64 (r.d))) := fun W h => by (repeat' apply And.intro) <;> first | exact h.at0 rfl | exact h.at rfl | exact (h.rms0 rfl).cell | exact (h.rms rfl).cell | exact (h.rms0 rfl).frozen | exact (h.rms rfl).frozen
  have HE := Lib.hid hE
  clear hE
  go_region_held3 (fun W => Fr 3 [(0, .cells #[.int .i64 (p.a), .int .i64 (p.b), .int .i64 (p.c), .int .i64 (p.d)] 23), (1, .cells #[.int .i64 (q.a), .int .i64 (q.b), .int .i64 (q.c), .int .i64 (q.d)] 23), (2, .cells #[.int .i64 (r.a), .int .i64 (r.b), .int .i64 (r.c), .int .i64 (r.d)] 23)] [] w W ∧ W.cell? ⟨w.heap.size, 0, none⟩ = some (.int .i64 (p.a)) ∧ W.cell? ⟨w.heap.size, 1, none⟩ = some (.int .i64 (p.b)) ∧ W.cell? ⟨w.heap.size, 2, none⟩ = some (.int .i64 (p.c)) ∧ W.cell? ⟨w.heap.size, 3, none⟩ = some (.int .i64 (p.d)) ∧ W.cell? ⟨w.heap.size + 1, 0, none⟩ = some (.int .i64 (q.a)) ∧ W.cell? ⟨w.heap.size + 1, 1, none⟩ = some (.int .i64 (q.b)) ∧ W.cell? ⟨w.heap.size + 1, 2, none⟩ = some (.int .i64 (q.c)) ∧ W.cell? ⟨w.heap.size + 1, 3, none⟩ = some (.int .i64 (q.d)) ∧ W.cell? ⟨w.heap.size + 2, 0, none⟩ = some (.int .i64 (r.a)) ∧ W.cell? ⟨w.heap.size + 2, 1, none⟩ = some (.int .i64 (r.b)) ∧ W.cell? ⟨w.heap.size + 2, 2, none⟩ = some (.int .i64 (r.c)) ∧ W.cell? ⟨w.heap.size + 2, 3, none⟩ = some (.int .i64 (r.d))) ((first | exact hSK | assumption | (have hq := Fr.keep HE.out (by assumption) hb1; exact hq) | (have hq := Fr.both HE.out hF.drew; exact hq) | (have hq := Fr.both HE.out ((((Fr.nil w).fixed (by simp) (.cells #[.int .i64 (p.a), .int .i64 (p.b), .int .i64 (p.c), .int .i64 (p.d)] 23)).fixed (by simp) (.cells #[.int .i64 (q.a), .int .i64 (q.b), .int .i64 (q.c), .int .i64 (q.d)] 23)).fixed (by simp) (.cells #[.int .i64 (r.a), .int .i64 (r.b), .int .i64 (r.c), .int .i64 (r.d)] 23)).drew; exact hq) | (refine Fr.both HE.out ?_; (repeat (first | exact hF | exact And.left (by assumption) | refine Fr.set ?_ (by first | (simp; done) | (simp; omega)) (by first | (simp [List.lookup]; done) | (simp [Nat.add_assoc, List.lookup]; done)) _ | refine Fr.drew ?_ | refine Fr.alloc ?_ _))))) (first | (go_at_call 14; refine (pnormal_any _ _ _ _ _).mono ?_; rintro e w1 ⟨rfl, hb1⟩) | (go_at_call 11; refine (HD.out _).mono ?_; rintro e w1 ⟨rfl, hb1⟩) | (go_at_call 37; refine (pcross_any _ _ _ _ _ _ _).mono ?_; rintro e w1 ⟨rfl, hb1⟩) | (go_at_call 13; refine (pdot_any _ _ _ _ _ _ _).mono ?_; rintro e w1 ⟨rfl, hb1⟩) | (go_at_call 12; refine (psign_any _ _).mono ?_; rintro e w1 ⟨rfl, rfl⟩))
  go_wp2
  go_ret
  obtain ⟨hF, -⟩ : Fr 3 _ _ w _ ∧ _ := by assumption
  exact ⟨rfl, hF.own.below⟩

end Go.Proofs.YtaoedfegakpjeabGreat

namespace Go.Proofs.YtaoedfegakpjeabGreat
open Go.RowKit

noncomputable def sideI (p x : Q4) : Int := vl (sgn (wrap64 (wrap64 (wrap64 (wrap64 (p.a * x.a) + wrap64 (p.b * x.b)) + wrap64 (p.c * x.c)) + wrap64 (p.d * x.d))))
theorem sideI_eq (p x : Q4) : sideI p x = sgn (wrap64 (wrap64 (wrap64 (wrap64 (p.a * x.a) + wrap64 (p.b * x.b)) + wrap64 (p.c * x.c)) + wrap64 (p.d * x.d))) := vl_eq _

set_option maxHeartbeats 400000 in
theorem gside_any (p x : Q4) (w : World) :
    Calls Tryz.prog 46 #[.agg #[.int .i64 (p.a), .int .i64 (p.b), .int .i64 (p.c), .int .i64 (p.d)], .agg #[.int .i64 (x.a), .int .i64 (x.b), .int .i64 (x.c), .int .i64 (x.d)]] w fun e w' => e = .returned (.int .i64 (sideI p x)) ∧ Below w.heap.size w w' := by
  go_enter Tryz.func46, Tryz.ntmps46
  go_wp2_with (go_at_call 63; refine (sign_any _ _).mono ?_; rintro e w1 ⟨rfl, rfl⟩)
  go_ret
  refine ⟨by rw [sideI_eq]; rfl, ?_⟩
  repeat (first | exact Below.refl _ _ | refine Below.alloc ?_ (by first | (simp; done) | (simp; omega)) _ | refine Below.setCell ?_ (by first | (simp; done) | (simp; omega)) _ | refine Below.drew ?_)

set_option maxHeartbeats 400000 in
theorem pside_any (p x : Q4) (w : World) :
    Calls Tryz.prog 31 #[.agg #[.int .i64 (p.a), .int .i64 (p.b), .int .i64 (p.c), .int .i64 (p.d)], .agg #[.int .i64 (x.a), .int .i64 (x.b), .int .i64 (x.c), .int .i64 (x.d)]] w fun e w' => e = .returned (.int .i64 (sideI p x)) ∧ Below w.heap.size w w' := by
  go_enter Tryz.func31, Tryz.ntmps31
  go_wp2_with (go_at_call 12; refine (psign_any _ _).mono ?_; rintro e w1 ⟨rfl, rfl⟩)
  go_ret
  refine ⟨by rw [sideI_eq]; rfl, ?_⟩
  repeat (first | exact Below.refl _ _ | refine Below.alloc ?_ (by first | (simp; done) | (simp; omega)) _ | refine Below.setCell ?_ (by first | (simp; done) | (simp; omega)) _ | refine Below.drew ?_)

/-- A point is on the line of two planes. -/
noncomputable def onB (p q x : Q4) : Bool := vlB (sideI p x == 0 && sideI q x == 0)
theorem onB_eq (p q x : Q4) : onB p q x = (sideI p x == 0 && sideI q x == 0) := vlB_eq _

set_option maxHeartbeats 400000 in
theorem on_any (p q x : Q4) (w : World) :
    Calls Tryz.prog 26 #[.agg #[.int .i64 (p.a), .int .i64 (p.b), .int .i64 (p.c), .int .i64 (p.d)], .agg #[.int .i64 (q.a), .int .i64 (q.b), .int .i64 (q.c), .int .i64 (q.d)], .agg #[.int .i64 (x.a), .int .i64 (x.b), .int .i64 (x.c), .int .i64 (x.d)]] w fun e w' => e = .returned (.bool (onB p q x)) ∧ Below w.heap.size w w' := by
  have HV := Lib.hid (onB_eq p q x)
  have HA : Hid (∀ W, Calls Tryz.prog 31 #[.agg #[.int .i64 (p.a), .int .i64 (p.b), .int .i64 (p.c), .int .i64 (p.d)], .agg #[.int .i64 (x.a), .int .i64 (x.b), .int .i64 (x.c), .int .i64 (x.d)]] W fun e w' => e = .returned (.int .i64 (sideI p x)) ∧ Below W.heap.size W w') := fun W => pside_any p x W
  have HB : Hid (∀ W, Calls Tryz.prog 31 #[.agg #[.int .i64 (q.a), .int .i64 (q.b), .int .i64 (q.c), .int .i64 (q.d)], .agg #[.int .i64 (x.a), .int .i64 (x.b), .int .i64 (x.c), .int .i64 (x.d)]] W fun e w' => e = .returned (.int .i64 (sideI q x)) ∧ Below W.heap.size W w') := fun W => pside_any q x W
  generalize sideI p x = s at HV HA
  generalize sideI q x = t at HV HB
  go_enter Tryz.func26, Tryz.ntmps26
  have hE : ∀ W, Fr 3 [(0, .cells #[.int .i64 (p.a), .int .i64 (p.b), .int .i64 (p.c), .int .i64 (p.d)] 23), (1, .cells #[.int .i64 (q.a), .int .i64 (q.b), .int .i64 (q.c), .int .i64 (q.d)] 23), (2, .cells #[.int .i64 (x.a), .int .i64 (x.b), .int .i64 (x.c), .int .i64 (x.d)] 48)] [] w W → (W.cell? ⟨w.heap.size, 0, none⟩ = some (.int .i64 (p.a)) ∧ W.cell? ⟨w.heap.size, 1, none⟩ = some (.int .i64 (p.b)) ∧ W.cell? ⟨w.heap.size, 2, none⟩ = some (.int .i64 (p.c)) ∧ W.cell? ⟨w.heap.size, 3, none⟩ = some (.int .i64 (p.d)) ∧ W.cell? ⟨w.heap.size + 1, 0, none⟩ = some (.int .i64 (q.a)) ∧ W.cell? ⟨w.heap.size + 1, 1, none⟩ = some (.int .i64 (q.b)) ∧ W.cell? ⟨w.heap.size + 1, 2, none⟩ = some (.int .i64 (q.c)) ∧ W.cell? ⟨w.heap.size + 1, 3, none⟩ = some (.int .i64 (q.d)) ∧ W.cell? ⟨w.heap.size + 2, 0, none⟩ = some (.int .i64 (x.a)) ∧ W.cell? ⟨w.heap.size + 2, 1, none⟩ = some (.int .i64 (x.b)) ∧ W.cell? ⟨w.heap.size + 2, 2, none⟩ = some (.int .i64 (x.c)) ∧ W.cell? ⟨w.heap.size + 2, 3, none⟩ = some (.int .i64 (x.d))) := fun W h => by (repeat' apply And.intro) <;> first | exact h.at0 rfl | exact h.at rfl | exact (h.rms0 rfl).cell | exact (h.rms rfl).cell | exact (h.rms0 rfl).frozen | exact (h.rms rfl).frozen
  have HE := Lib.hid hE
  clear hE
  by_cases h : s = 0
  · subst h
    go_wp2_with fail
    (go_at_call 31; refine (HA.out _).mono ?_; rintro e w1 ⟨rfl, hb1⟩; (try clear hq); (try clear hz); have hF : Fr 3 [(0, .cells #[.int .i64 (p.a), .int .i64 (p.b), .int .i64 (p.c), .int .i64 (p.d)] 23), (1, .cells #[.int .i64 (q.a), .int .i64 (q.b), .int .i64 (q.c), .int .i64 (q.d)] 23), (2, .cells #[.int .i64 (x.a), .int .i64 (x.b), .int .i64 (x.c), .int .i64 (x.d)] 48)] [] w w1 := Fr.call (by (repeat (first | exact hF | exact ((((Fr.nil w).fixed (by simp) (.cells #[.int .i64 (p.a), .int .i64 (p.b), .int .i64 (p.c), .int .i64 (p.d)] 23)).fixed (by simp) (.cells #[.int .i64 (q.a), .int .i64 (q.b), .int .i64 (q.c), .int .i64 (q.d)] 23)).fixed (by simp) (.cells #[.int .i64 (x.a), .int .i64 (x.b), .int .i64 (x.c), .int .i64 (x.d)] 48)) | exact And.left (by assumption) | refine Fr.set ?_ (by first | (simp; done) | (simp; omega)) (by first | (simp [List.lookup]; done) | (simp [Nat.add_assoc, List.lookup]; done)) _ | refine Fr.drew ?_ | refine Fr.alloc ?_ _))) hb1; have hq := HE.out _ hF; have hz : w.heap.size < w1.heap.size ∧ w.heap.size + 1 < w1.heap.size ∧ w.heap.size + 2 < w1.heap.size := by have hs := Own.size (Fr.own hF); omega)
    go_wp2_with fail
    (go_at_call 31; refine (HB.out _).mono ?_; rintro e w1 ⟨rfl, hb1⟩; (try clear hq); (try clear hz); have hF : Fr 3 [(0, .cells #[.int .i64 (p.a), .int .i64 (p.b), .int .i64 (p.c), .int .i64 (p.d)] 23), (1, .cells #[.int .i64 (q.a), .int .i64 (q.b), .int .i64 (q.c), .int .i64 (q.d)] 23), (2, .cells #[.int .i64 (x.a), .int .i64 (x.b), .int .i64 (x.c), .int .i64 (x.d)] 48)] [] w w1 := Fr.call (by (repeat (first | exact hF | exact ((((Fr.nil w).fixed (by simp) (.cells #[.int .i64 (p.a), .int .i64 (p.b), .int .i64 (p.c), .int .i64 (p.d)] 23)).fixed (by simp) (.cells #[.int .i64 (q.a), .int .i64 (q.b), .int .i64 (q.c), .int .i64 (q.d)] 23)).fixed (by simp) (.cells #[.int .i64 (x.a), .int .i64 (x.b), .int .i64 (x.c), .int .i64 (x.d)] 48)) | exact And.left (by assumption) | refine Fr.set ?_ (by first | (simp; done) | (simp; omega)) (by first | (simp [List.lookup]; done) | (simp [Nat.add_assoc, List.lookup]; done)) _ | refine Fr.drew ?_ | refine Fr.alloc ?_ _))) hb1; have hq := HE.out _ hF; have hz : w.heap.size < w1.heap.size ∧ w.heap.size + 1 < w1.heap.size ∧ w.heap.size + 2 < w1.heap.size := by have hs := Own.size (Fr.own hF); omega)
    go_wp2
    go_ret
    refine ⟨ret_bool (by rw [HV.out]; simp), ?_⟩
    refine Own.below (Fr.own (k := 3) (fx := [(0, .cells #[.int .i64 (p.a), .int .i64 (p.b), .int .i64 (p.c), .int .i64 (p.d)] 23), (1, .cells #[.int .i64 (q.a), .int .i64 (q.b), .int .i64 (q.c), .int .i64 (q.d)] 23), (2, .cells #[.int .i64 (x.a), .int .i64 (x.b), .int .i64 (x.c), .int .i64 (x.d)] 48)]) (rm := []) ?_); (repeat (first | exact hF | exact And.left (by assumption) | refine Fr.set ?_ (by first | (simp; done) | (simp; omega)) (by first | (simp [List.lookup]; done) | (simp [Nat.add_assoc, List.lookup]; done)) _ | refine Fr.drew ?_ | refine Fr.alloc ?_ _))
  · have hs : (s == 0) = false := by simpa using h
    have HH := Lib.hid h
    clear h
    go_wp2_with fail
    (go_at_call 31; refine (HA.out _).mono ?_; rintro e w1 ⟨rfl, hb1⟩; (try clear hq); (try clear hz); have hF : Fr 3 [(0, .cells #[.int .i64 (p.a), .int .i64 (p.b), .int .i64 (p.c), .int .i64 (p.d)] 23), (1, .cells #[.int .i64 (q.a), .int .i64 (q.b), .int .i64 (q.c), .int .i64 (q.d)] 23), (2, .cells #[.int .i64 (x.a), .int .i64 (x.b), .int .i64 (x.c), .int .i64 (x.d)] 48)] [] w w1 := Fr.call (by (repeat (first | exact hF | exact ((((Fr.nil w).fixed (by simp) (.cells #[.int .i64 (p.a), .int .i64 (p.b), .int .i64 (p.c), .int .i64 (p.d)] 23)).fixed (by simp) (.cells #[.int .i64 (q.a), .int .i64 (q.b), .int .i64 (q.c), .int .i64 (q.d)] 23)).fixed (by simp) (.cells #[.int .i64 (x.a), .int .i64 (x.b), .int .i64 (x.c), .int .i64 (x.d)] 48)) | exact And.left (by assumption) | refine Fr.set ?_ (by first | (simp; done) | (simp; omega)) (by first | (simp [List.lookup]; done) | (simp [Nat.add_assoc, List.lookup]; done)) _ | refine Fr.drew ?_ | refine Fr.alloc ?_ _))) hb1; have hq := HE.out _ hF; have hz : w.heap.size < w1.heap.size ∧ w.heap.size + 1 < w1.heap.size ∧ w.heap.size + 2 < w1.heap.size := by have hs := Own.size (Fr.own hF); omega)
    go_wp2
    go_ret
    refine ⟨ret_bool (by rw [HV.out]; simp [HH.out]), ?_⟩
    refine Own.below (Fr.own (k := 3) (fx := [(0, .cells #[.int .i64 (p.a), .int .i64 (p.b), .int .i64 (p.c), .int .i64 (p.d)] 23), (1, .cells #[.int .i64 (q.a), .int .i64 (q.b), .int .i64 (q.c), .int .i64 (q.d)] 23), (2, .cells #[.int .i64 (x.a), .int .i64 (x.b), .int .i64 (x.c), .int .i64 (x.d)] 48)]) (rm := []) ?_); (repeat (first | exact hF | exact And.left (by assumption) | refine Fr.set ?_ (by first | (simp; done) | (simp; omega)) (by first | (simp [List.lookup]; done) | (simp [Nat.add_assoc, List.lookup]; done)) _ | refine Fr.drew ?_ | refine Fr.alloc ?_ _))

end Go.Proofs.YtaoedfegakpjeabGreat

namespace Go.Proofs.YtaoedfegakpjeabGreat
open Go.RowKit

def PV (p : Q4) : Obj := .cells #[.int .i64 p.a, .int .i64 p.b, .int .i64 p.c, .int .i64 p.d] 23
def VV (v : T3) : Obj := .cells #[.int .i64 v.x, .int .i64 v.y, .int .i64 v.z] 24
theorem blk_cells {W : World} {b : Nat} {c : Array Value} {t : TypeId} (h : Blk W b (.cells c t)) : (∀ o (x : Value), c[o]? = some x → W.cell? ⟨b, o, none⟩ = some x) ∧ (∀ o, W.frozen? ⟨b, o, none⟩ = false) := by
  unfold Blk at h
  refine ⟨fun o x hx => ?_, fun o => ?_⟩
  · simp only [World.cell?, h]; simpa using hx
  · simp [World.frozen?, h]
theorem blk_set {W : World} {b o : Nat} {c : Array Value} {t : TypeId} {x : Value} (h : Blk W b (.cells c t)) : Blk (W.setCell ⟨b, o, none⟩ x) b (.cells (c.setIfInBounds o x) t) := by
  unfold Blk at *
  simp [World.setCell, Array.getElem?_modify, h]
theorem blk_other {W : World} {b b' o : Nat} {ob : Obj} {x : Value} (h : Blk W b ob) (hne : b ≠ b') : Blk (W.setCell ⟨b', o, none⟩ x) b ob := by
  unfold Blk at *
  rw [Below.heap_setCell _ _ _ _ (by show b ≠ b'; exact hne)]; exact h
theorem blk_new (W : World) (o : Obj) : Blk (W.alloc o) W.heap.size o := by
  unfold Blk; show (W.heap.push _)[W.heap.size]? = _; simp
theorem Blk.alloc {W : World} {b : Nat} {o o' : Obj} (h : Blk W b o) : Blk (W.alloc o') b o := h.below ((Below.refl W.heap.size W).alloc (Nat.le_refl _) _) h.lt

/-- The state of a region: I what is known of memory, S what is known of each temporary that has been drawn. -/
structure IR (I : World → Prop) (S : Nat → World → Value → Prop) (vals : List (Nat × Nat)) (listed : Array Bool) (t : Nat → Value) (W : World) : Prop where
  fin : I W
  val : ∀ x ∈ vals, listed.getD x.1 false = true → S x.2 W (t x.2)
section
variable {I : World → Prop} {S : Nat → World → Value → Prop} {vals : List (Nat × Nat)} {listed : Array Bool} {t : Nat → Value} {W W1 : World}
theorem IR.start (n : Nat) (h : I W) (t : Nat → Value) : IR I S vals (Array.replicate n false) t W :=
  ⟨h, fun x _ hl => by simp only [Array.getD] at hl; split at hl <;> simp at hl⟩
theorem IR.yields {i d : Nat} {v : Value} (h : IR I S vals listed t W) (hI : I W1) (hm : ∀ d v, S d W v → S d W1 v) (hv : S d W1 v) (h1 : clashV vals i d = true) : IR I S vals (listed.setIfInBounds i true) (upd t d v) W1 := by
  refine ⟨hI, fun x hx hl => ?_⟩
  have hc := List.all_eq_true.1 h1 x hx
  by_cases e : x.1 = i
  · rw [if_pos e] at hc
    have : x.2 = d := by simpa using hc
    rw [this, upd_same]; exact hv
  · rw [if_neg e] at hc
    rw [upd_other _ _ (by simpa using hc)]
    exact hm _ _ (h.val x hx ((listed_set hl).resolve_left e))
theorem IR.stores {i : Nat} (h : IR I S vals listed t W) (hI : I W1) (hm : ∀ d v, S d W v → S d W1 v) (h1 : (vals.all fun x => x.1 != i) = true) : IR I S vals (listed.setIfInBounds i true) t W1 := by
  refine ⟨hI, fun x hx hl => ?_⟩
  have hc := List.all_eq_true.1 h1 x hx
  simp only [bne_iff_ne, ne_eq] at hc
  exact hm _ _ (h.val x hx ((listed_set hl).resolve_left hc))
end

end Go.Proofs.YtaoedfegakpjeabGreat

namespace Go.Proofs.YtaoedfegakpjeabGreat
open Go.RowKit

structure LD (p q r : Q4) (w W : World) : Prop where
  below : Below w.heap.size w W
  size : w.heap.size + 2 < W.heap.size
  bp : Blk W w.heap.size (PV p)
  bq : Blk W (w.heap.size + 1) (PV q)
  br : Blk W (w.heap.size + 1 + 1) (PV r)
/-- .. and the vector. -/
structure LE (p q r : Q4) (d : T3) (b : Nat) (w W : World) : Prop where
  ld : LD p q r w W
  lo : w.heap.size + 2 < b
  bd : Blk W b (VV d)
section
variable {p q r : Q4} {d : T3} {b : Nat} {w W W1 : World}
theorem LD.call (h : LD p q r w W) (hb : Below W.heap.size W W1) : LD p q r w W1 := by
  have hs := h.size
  exact ⟨h.below.trans (hb.mono (by omega)), Nat.lt_of_lt_of_le hs hb.size, h.bp.below hb (by omega), h.bq.below hb (by omega), h.br.below hb (by omega)⟩
theorem LD.drew (h : LD p q r w W) : LD p q r w W.drew := h.call (Below.refl _ _).drew
theorem LE.call (h : LE p q r d b w W) (hb : Below W.heap.size W W1) : LE p q r d b w W1 := ⟨h.ld.call hb, h.lo, h.bd.below hb h.bd.lt⟩
theorem LE.drew (h : LE p q r d b w W) : LE p q r d b w W.drew := h.call (Below.refl _ _).drew
theorem blk_four {W : World} {b : Nat} {p : Q4} (h : Blk W b (PV p)) : W.cell? ⟨b, 0, none⟩ = some (.int .i64 p.a) ∧ W.cell? ⟨b, 1, none⟩ = some (.int .i64 p.b) ∧ W.cell? ⟨b, 2, none⟩ = some (.int .i64 p.c) ∧ W.cell? ⟨b, 3, none⟩ = some (.int .i64 p.d) :=
  ⟨(blk_cells h).1 _ _ rfl, (blk_cells h).1 _ _ rfl, (blk_cells h).1 _ _ rfl, (blk_cells h).1 _ _ rfl⟩
theorem blk_three {W : World} {b : Nat} {v : T3} (h : Blk W b (VV v)) : W.cell? ⟨b, 0, none⟩ = some (.int .i64 v.x) ∧ W.cell? ⟨b, 1, none⟩ = some (.int .i64 v.y) ∧ W.cell? ⟨b, 2, none⟩ = some (.int .i64 v.z) :=
  ⟨(blk_cells h).1 _ _ rfl, (blk_cells h).1 _ _ rfl, (blk_cells h).1 _ _ rfl⟩
theorem LD.pc (h : LD p q r w W) : W.cell? ⟨w.heap.size, 0, none⟩ = some (.int .i64 p.a) ∧ W.cell? ⟨w.heap.size, 1, none⟩ = some (.int .i64 p.b) ∧ W.cell? ⟨w.heap.size, 2, none⟩ = some (.int .i64 p.c) ∧ W.cell? ⟨w.heap.size, 3, none⟩ = some (.int .i64 p.d) := blk_four h.bp
theorem LD.qc (h : LD p q r w W) : W.cell? ⟨w.heap.size + 1, 0, none⟩ = some (.int .i64 q.a) ∧ W.cell? ⟨w.heap.size + 1, 1, none⟩ = some (.int .i64 q.b) ∧ W.cell? ⟨w.heap.size + 1, 2, none⟩ = some (.int .i64 q.c) ∧ W.cell? ⟨w.heap.size + 1, 3, none⟩ = some (.int .i64 q.d) := blk_four h.bq
theorem LD.rc (h : LD p q r w W) : W.cell? ⟨w.heap.size + 1 + 1, 0, none⟩ = some (.int .i64 r.a) ∧ W.cell? ⟨w.heap.size + 1 + 1, 1, none⟩ = some (.int .i64 r.b) ∧ W.cell? ⟨w.heap.size + 1 + 1, 2, none⟩ = some (.int .i64 r.c) ∧ W.cell? ⟨w.heap.size + 1 + 1, 3, none⟩ = some (.int .i64 r.d) := blk_four h.br
theorem LE.dc (h : LE p q r d b w W) : W.cell? ⟨b, 0, none⟩ = some (.int .i64 d.x) ∧ W.cell? ⟨b, 1, none⟩ = some (.int .i64 d.y) ∧ W.cell? ⟨b, 2, none⟩ = some (.int .i64 d.z) := blk_three h.bd
theorem LD.setP (h : LD p q r w W) (x : Q4) : LD x q r w ((((W.setCell ⟨w.heap.size, 0, none⟩ (.int .i64 x.a)).setCell ⟨w.heap.size, 1, none⟩ (.int .i64 x.b)).setCell ⟨w.heap.size, 2, none⟩ (.int .i64 x.c)).setCell ⟨w.heap.size, 3, none⟩ (.int .i64 x.d)) :=
  ⟨(((h.below.setCell (by simp) _).setCell (by simp) _).setCell (by simp) _).setCell (by simp) _, by simpa [World.setCell] using h.size,
    blk_set (blk_set (blk_set (blk_set h.bp))), blk_other (blk_other (blk_other (blk_other h.bq (by omega)) (by omega)) (by omega)) (by omega), blk_other (blk_other (blk_other (blk_other h.br (by omega)) (by omega)) (by omega)) (by omega)⟩
theorem LD.setQ (h : LD p q r w W) (x : Q4) : LD p x r w ((((W.setCell ⟨w.heap.size + 1, 0, none⟩ (.int .i64 x.a)).setCell ⟨w.heap.size + 1, 1, none⟩ (.int .i64 x.b)).setCell ⟨w.heap.size + 1, 2, none⟩ (.int .i64 x.c)).setCell ⟨w.heap.size + 1, 3, none⟩ (.int .i64 x.d)) :=
  ⟨(((h.below.setCell (by simp) _).setCell (by simp) _).setCell (by simp) _).setCell (by simp) _, by simpa [World.setCell] using h.size,
    blk_other (blk_other (blk_other (blk_other h.bp (by omega)) (by omega)) (by omega)) (by omega), blk_set (blk_set (blk_set (blk_set h.bq))), blk_other (blk_other (blk_other (blk_other h.br (by omega)) (by omega)) (by omega)) (by omega)⟩
theorem LD.setR (h : LD p q r w W) (x : Q4) : LD p q x w ((((W.setCell ⟨w.heap.size + 1 + 1, 0, none⟩ (.int .i64 x.a)).setCell ⟨w.heap.size + 1 + 1, 1, none⟩ (.int .i64 x.b)).setCell ⟨w.heap.size + 1 + 1, 2, none⟩ (.int .i64 x.c)).setCell ⟨w.heap.size + 1 + 1, 3, none⟩ (.int .i64 x.d)) :=
  ⟨(((h.below.setCell (by simp; omega) _).setCell (by simp; omega) _).setCell (by simp; omega) _).setCell (by simp; omega) _, by simpa [World.setCell] using h.size,
    blk_other (blk_other (blk_other (blk_other h.bp (by omega)) (by omega)) (by omega)) (by omega), blk_other (blk_other (blk_other (blk_other h.bq (by omega)) (by omega)) (by omega)) (by omega), blk_set (blk_set (blk_set (blk_set h.br)))⟩
theorem LD.vec (h : LD p q r w W) (d : T3) : LE p q r d W.heap.size w (W.alloc (VV d)) :=
  ⟨h.call ((Below.refl _ _).alloc (Nat.le_refl _) _), h.size, blk_new W (VV d)⟩
theorem LD.start (p q r : Q4) (w : World) : LD p q r w (((w.alloc (PV p)).alloc (PV q)).alloc (PV r)) :=
  ⟨(((Below.refl _ _).alloc (Nat.le_refl _) _).alloc (by simp) _).alloc (by simp; omega) _, by simp, (blk_new w (PV p)).alloc.alloc, by simpa using (blk_new (w.alloc (PV p)) (PV q)).alloc, by simpa using blk_new ((w.alloc (PV p)).alloc (PV q)) (PV r)⟩
end

end Go.Proofs.YtaoedfegakpjeabGreat
