/- Contracts of the functions that the statement reaches, and plain lemmas: part 15 of 16. -/
import Derived.Test.YtaoedfegakpjeabK14

namespace Go.Proofs.Ytaoedfegakpjeab
open Go.RowKit

/-- A vector is a direction in a plane. -/
def WayOK (p : Q4) (d : T3) : Prop := ¬ (d.x = 0 ∧ d.y = 0 ∧ d.z = 0) ∧ d.x.natAbs ≤ 2000000 ∧ d.y.natAbs ≤ 2000000 ∧ d.z.natAbs ≤ 2000000 ∧ p.a * d.x + p.b * d.y + p.c * d.z = 0
/-- The normal's vector product with a vector. -/
noncomputable def wcx (p : Q4) (v : T3) : Int := crs p.b v.z p.c v.y
noncomputable def wcy (p : Q4) (v : T3) : Int := crs p.c v.x p.a v.z
noncomputable def wcz (p : Q4) (v : T3) : Int := crs p.a v.y p.b v.x
theorem wc_ok {p : Q4} (hp : Pl p) {v : T3} (hx : v.x.natAbs ≤ 4) (hy : v.y.natAbs ≤ 4) (hz : v.z.natAbs ≤ 4) (hn : eq3B (wcx p v) (wcy p v) (wcz p v) 0 0 0 = false) : WayOK p ⟨wcx p v, wcy p v, wcz p v⟩ := by
  have x := crs_id hp.b hz hp.c hy (by omega)
  have y := crs_id hp.c hx hp.a hz (by omega)
  have z := crs_id hp.a hy hp.b hx (by omega)
  refine ⟨fun h => ?_, ?_, ?_, ?_, ?_⟩
  · have h1 : wcx p v = 0 := h.1
    have h2 : wcy p v = 0 := h.2.1
    have h3 : wcz p v = 0 := h.2.2
    rw [h1, h2, h3] at hn; simp [eq3B] at hn
  · show (crs p.b v.z p.c v.y).natAbs ≤ _; rw [x.1]; omega
  · show (crs p.c v.x p.a v.z).natAbs ≤ _; rw [y.1]; omega
  · show (crs p.a v.y p.b v.x).natAbs ≤ _; rw [z.1]; omega
  · show p.a * crs p.b v.z p.c v.y + p.b * crs p.c v.x p.a v.z + p.c * crs p.a v.y p.b v.x = 0
    rw [x.1, y.1, z.1]; grind
/-- One of the products with the two first axes is not 0. -/
theorem wc_axes {p : Q4} (hp : Pl p) (h1 : eq3B (wcx p ⟨1, 0, 0⟩) (wcy p ⟨1, 0, 0⟩) (wcz p ⟨1, 0, 0⟩) 0 0 0 = true) : eq3B (wcx p ⟨0, 1, 0⟩) (wcy p ⟨0, 1, 0⟩) (wcz p ⟨0, 1, 0⟩) 0 0 0 = false := by
  have y := crs_id (b := p.c) (z := 1) (c := p.a) (y := 0) (A := 1000) (B := 1) hp.c (by decide) hp.a (by decide) (by omega)
  have z := crs_id (b := p.a) (z := 0) (c := p.b) (y := 1) (A := 1000) (B := 1) hp.a (by decide) hp.b (by decide) (by omega)
  have x' := crs_id (b := p.b) (z := 0) (c := p.c) (y := 1) (A := 1000) (B := 1) hp.b (by decide) hp.c (by decide) (by omega)
  have z' := crs_id (b := p.a) (z := 1) (c := p.b) (y := 0) (A := 1000) (B := 1) hp.a (by decide) hp.b (by decide) (by omega)
  have h : wcy p ⟨1, 0, 0⟩ = 0 ∧ wcz p ⟨1, 0, 0⟩ = 0 := by
    simp only [eq3B, Bool.and_eq_true, beq_iff_eq] at h1; exact ⟨h1.2.1, h1.2.2⟩
  have e1 : p.c = 0 := by
    have := h.1; unfold wcy at this; rw [y.1] at this; omega
  have e2 : p.b = 0 := by
    have := h.2; unfold wcz at this; rw [z.1] at this; omega
  have hn := hp.nz
  cases he : eq3B (wcx p ⟨0, 1, 0⟩) (wcy p ⟨0, 1, 0⟩) (wcz p ⟨0, 1, 0⟩) 0 0 0 with
  | false => rfl
  | true =>
    exfalso
    simp only [eq3B, Bool.and_eq_true, beq_iff_eq] at he
    have := he.2.2; unfold wcz at this; rw [z'.1] at this
    exact hn ⟨by omega, e2, e1⟩

theorem Room.lt {W : World} {b n : Nat} (h : Room W b n) : b < W.heap.size := by
  obtain ⟨c, t, _, h⟩ := h; exact (Array.getElem?_eq_some_iff.1 h).1
theorem Room.below {W W1 : World} {b n : Nat} (h : Room W b n) (hb : Below W.heap.size W W1) : Room W1 b n := by
  have hl := h.lt
  obtain ⟨c, t, h1, h2⟩ := h
  exact ⟨c, t, h1, by rw [hb.block b hl]; exact h2⟩
/-- The cells of the vector: the first k have turned. -/
def WyC (b : Nat) (v : T3) (y0 y1 y2 : Int) (k : Nat) (W : World) : Prop := W.cell? ⟨b, 0, none⟩ = some (.int .i64 (if 0 < k then y0 else v.x)) ∧ W.cell? ⟨b, 1, none⟩ = some (.int .i64 (if 1 < k then y1 else v.y)) ∧ W.cell? ⟨b, 2, none⟩ = some (.int .i64 (if 2 < k then y2 else v.z))
theorem WyC.set0 {b : Nat} {v : T3} {y0 y1 y2 : Int} {W : World} (h : WyC b v y0 y1 y2 0 W) (hr : Room W b 3) : WyC b v y0 y1 y2 1 (W.setCell ⟨b, 0, none⟩ (.int .i64 y0)) := ⟨hr.hit (by omega), (cell_set_off (by omega)).trans h.2.1, (cell_set_off (by omega)).trans h.2.2⟩
theorem WyC.set1 {b : Nat} {v : T3} {y0 y1 y2 : Int} {W : World} (h : WyC b v y0 y1 y2 1 W) (hr : Room W b 3) : WyC b v y0 y1 y2 2 (W.setCell ⟨b, 1, none⟩ (.int .i64 y1)) := ⟨(cell_set_off (by omega)).trans h.1, hr.hit (by omega), (cell_set_off (by omega)).trans h.2.2⟩
theorem WyC.set2 {b : Nat} {v : T3} {y0 y1 y2 : Int} {W : World} (h : WyC b v y0 y1 y2 2 W) (hr : Room W b 3) : WyC b v y0 y1 y2 3 (W.setCell ⟨b, 2, none⟩ (.int .i64 y2)) := ⟨(cell_set_off (by omega)).trans h.1, (cell_set_off (by omega)).trans h.2.1, hr.hit (by omega)⟩
/-- What is known behind the first product. -/
structure WyAt (p : Q4) (y : T3) (b6 : Nat) (w wr W : World) : Prop where
  below : Below wr.heap.size wr W
  lo : wr.heap.size ≤ b6
  room : Room W b6 3
  c0 : W.cell? ⟨b6, 0, none⟩ = some (.int .i64 (wcx p y))
  c1 : W.cell? ⟨b6, 1, none⟩ = some (.int .i64 (wcy p y))
  c2 : W.cell? ⟨b6, 2, none⟩ = some (.int .i64 (wcz p y))

set_option maxRecDepth 100000 in
set_option maxHeartbeats 2000000 in
theorem wy_any (p : Q4) (v : T3) (w : World) :
    Calls Try.prog 10 #[.agg #[.int .i64 (p.a), .int .i64 (p.b), .int .i64 (p.c), .int .i64 (p.d)], .agg #[.int .i64 (v.x), .int .i64 (v.y), .int .i64 (v.z)]] w fun e w' => (∃ d : T3, (Pl p → WayOK p d) ∧ I64 d.x ∧ I64 d.y ∧ I64 d.z ∧ e = .returned (.agg #[.int .i64 (d.x), .int .i64 (d.y), .int .i64 (d.z)])) ∧ Below w.heap.size w w' := by
  have HY : Hid (∀ x, -4 ≤ tmV x 4 ∧ tmV x 4 ≤ 4) := fun x => tmV_range x 4 (by omega) (by omega)
  have HE0 : Hid (∀ x, IntKind.u64.wrap x % 9 - 4 = tmV x 4) := fun x => by
    have := u64_wrap_range x
    rw [tmV_eq]
    generalize IntKind.u64.wrap x = r at this
    unfold wrap64; omega
  have hu0 := u64_wrap_range v.x
  have hu1 := u64_wrap_range v.y
  have hu2 := u64_wrap_range v.z
  go_enter Try.func10, Try.ntmps10
  have hE : ∀ W, Fr 3 [(0, .cells #[.int .i64 (p.a), .int .i64 (p.b), .int .i64 (p.c), .int .i64 (p.d)] 23)] [(1, 3), (2, 3)] w W → (W.cell? ⟨w.heap.size, 0, none⟩ = some (.int .i64 (p.a)) ∧ W.cell? ⟨w.heap.size, 1, none⟩ = some (.int .i64 (p.b)) ∧ W.cell? ⟨w.heap.size, 2, none⟩ = some (.int .i64 (p.c)) ∧ W.cell? ⟨w.heap.size, 3, none⟩ = some (.int .i64 (p.d)) ∧ (∀ o, o < 3 → W.cell? ⟨w.heap.size + 1, o, none⟩ = some (cellOf W ⟨w.heap.size + 1, o, none⟩)) ∧ (∀ o, o < 3 → W.frozen? ⟨w.heap.size + 1, o, none⟩ = false) ∧ (∀ o, o < 3 → W.cell? ⟨w.heap.size + 2, o, none⟩ = some (cellOf W ⟨w.heap.size + 2, o, none⟩)) ∧ (∀ o, o < 3 → W.frozen? ⟨w.heap.size + 2, o, none⟩ = false)) := fun W h => by (repeat' apply And.intro) <;> first | exact h.at0 rfl | exact h.at rfl | exact (h.rms0 rfl).cell | exact (h.rms rfl).cell | exact (h.rms0 rfl).frozen | exact (h.rms rfl).frozen
  have HE := Lib.hid hE
  clear hE
  go_wp2
  go_loopw [5] (fun i wr => ∃ k : Nat, k ≤ 3 ∧ i = .int .i64 k ∧ Fr 3 [(0, .cells #[.int .i64 (p.a), .int .i64 (p.b), .int .i64 (p.c), .int .i64 (p.d)] 23)] [(1, 3), (2, 3)] w wr ∧ WyC (w.heap.size + 1) v (tmV v.x 4) (tmV v.y 4) (tmV v.z 4) k wr) (fun i _ => 3 - (intOf i).toNat)
  case atStart => exact ⟨0, by omega, rfl, ((((Fr.nil w).fixed (by simp) (.cells #[.int .i64 (p.a), .int .i64 (p.b), .int .i64 (p.c), .int .i64 (p.d)] 23)).roomy (by simp) #[.int .i64 (v.x), .int .i64 (v.y), .int .i64 (v.z)] 24).roomy (by simp) #[.int .i64 0, .int .i64 0, .int .i64 0] 24), by simp [WyC, go_sem]⟩
  case round =>
    rename_i wr
    obtain ⟨k, hk, rfl, hF, hC⟩ := hrel
    match k, hk with
    | 0, _ =>
      have HC := Lib.hid hC
      obtain ⟨v0, v1, v2⟩ : wr.cell? ⟨w.heap.size + 1, 0, none⟩ = some (.int .i64 v.x) ∧ wr.cell? ⟨w.heap.size + 1, 1, none⟩ = some (.int .i64 v.y) ∧ wr.cell? ⟨w.heap.size + 1, 2, none⟩ = some (.int .i64 v.z) := hC
      have hq := (hF.rms (i := 1) (n := 3) rfl).frozen
      go_wp2
      go_roundw
      case measure => simp [intOf]
      case rel =>
        rw [HE0.out]
        exact ⟨1, by omega, rfl, (by (repeat (first | exact hF | exact And.left (by assumption) | refine Fr.set ?_ (by first | (simp; done) | (simp; omega)) (by first | (simp [List.lookup]; done) | (simp [Nat.add_assoc, List.lookup]; done)) _ | refine Fr.drew ?_ | refine Fr.alloc ?_ _))), HC.out.set0 (hF.rms (i := 1) rfl)⟩
    | 1, _ =>
      have HC := Lib.hid hC
      obtain ⟨v0, v1, v2⟩ : wr.cell? ⟨w.heap.size + 1, 0, none⟩ = some (.int .i64 (tmV v.x 4)) ∧ wr.cell? ⟨w.heap.size + 1, 1, none⟩ = some (.int .i64 v.y) ∧ wr.cell? ⟨w.heap.size + 1, 2, none⟩ = some (.int .i64 v.z) := hC
      have hq := (hF.rms (i := 1) (n := 3) rfl).frozen
      go_wp2
      go_roundw
      case measure => simp [intOf]
      case rel =>
        rw [HE0.out]
        exact ⟨2, by omega, rfl, (by (repeat (first | exact hF | exact And.left (by assumption) | refine Fr.set ?_ (by first | (simp; done) | (simp; omega)) (by first | (simp [List.lookup]; done) | (simp [Nat.add_assoc, List.lookup]; done)) _ | refine Fr.drew ?_ | refine Fr.alloc ?_ _))), HC.out.set1 (hF.rms (i := 1) rfl)⟩
    | 2, _ =>
      have HC := Lib.hid hC
      obtain ⟨v0, v1, v2⟩ : wr.cell? ⟨w.heap.size + 1, 0, none⟩ = some (.int .i64 (tmV v.x 4)) ∧ wr.cell? ⟨w.heap.size + 1, 1, none⟩ = some (.int .i64 (tmV v.y 4)) ∧ wr.cell? ⟨w.heap.size + 1, 2, none⟩ = some (.int .i64 v.z) := hC
      have hq := (hF.rms (i := 1) (n := 3) rfl).frozen
      go_wp2
      go_roundw
      case measure => simp [intOf]
      case rel =>
        rw [HE0.out]
        exact ⟨3, by omega, rfl, (by (repeat (first | exact hF | exact And.left (by assumption) | refine Fr.set ?_ (by first | (simp; done) | (simp; omega)) (by first | (simp [List.lookup]; done) | (simp [Nat.add_assoc, List.lookup]; done)) _ | refine Fr.drew ?_ | refine Fr.alloc ?_ _))), HC.out.set2 (hF.rms (i := 1) rfl)⟩
    | 3, _ =>
      obtain ⟨v0, v1, v2⟩ : wr.cell? ⟨w.heap.size + 1, 0, none⟩ = some (.int .i64 (tmV v.x 4)) ∧ wr.cell? ⟨w.heap.size + 1, 1, none⟩ = some (.int .i64 (tmV v.y 4)) ∧ wr.cell? ⟨w.heap.size + 1, 2, none⟩ = some (.int .i64 (tmV v.z 4)) := hC
      obtain ⟨l0, r0⟩ := HY.out v.x
      obtain ⟨l1, r1⟩ := HY.out v.y
      obtain ⟨l2, r2⟩ := HY.out v.z
      obtain ⟨y, hy⟩ : ∃ y : T3, y = ⟨tmV v.x 4, tmV v.y 4, tmV v.z 4⟩ := ⟨_, rfl⟩
      have ey0 : tmV v.x 4 = y.x := by rw [hy]
      have ey1 : tmV v.y 4 = y.y := by rw [hy]
      have ey2 : tmV v.z 4 = y.z := by rw [hy]
      rw [ey0] at v0 l0 r0
      rw [ey1] at v1 l1 r1
      rw [ey2] at v2 l2 r2
      have HL : Hid (y.x.natAbs ≤ 4 ∧ y.y.natAbs ≤ 4 ∧ y.z.natAbs ≤ 4) := ⟨by omega, by omega, by omega⟩
      clear hy ey0 ey1 ey2 HY HE0 hu0 hu1 hu2 l0 l1 l2 r0 r1 r2
      obtain ⟨p0, p1, p2, p3, -⟩ := HE.out _ hF
      have s0 : w.heap.size < wr.heap.size := by have := hF.own.size; omega
      have s1 : w.heap.size + 1 < wr.heap.size := by have := hF.own.size; omega
      have hres := Lib.hid (hF.rms (i := 2) (n := 3) rfl)
      have hwr := Lib.hid hF.own.below
      clear HE hF
      go_wp2
      have hE : ∀ W, Fr 0 [] [] wr W → (W.cell? ⟨w.heap.size, 0, none⟩ = some (.int .i64 (p.a)) ∧ W.cell? ⟨w.heap.size, 1, none⟩ = some (.int .i64 (p.b)) ∧ W.cell? ⟨w.heap.size, 2, none⟩ = some (.int .i64 (p.c)) ∧ W.cell? ⟨w.heap.size, 3, none⟩ = some (.int .i64 (p.d)) ∧ W.cell? ⟨(w.heap.size+1), 0, none⟩ = some (.int .i64 (y.x)) ∧ W.cell? ⟨(w.heap.size+1), 1, none⟩ = some (.int .i64 (y.y)) ∧ W.cell? ⟨(w.heap.size+1), 2, none⟩ = some (.int .i64 (y.z))) := fun W h => by (repeat' apply And.intro) <;> first | exact h.at0 rfl | exact h.at rfl | exact (h.rms0 rfl).cell | exact (h.rms rfl).cell | exact (h.rms0 rfl).frozen | exact (h.rms rfl).frozen | exact (h.own.below.cell (p := ⟨w.heap.size, _, none⟩) s0).trans (by assumption) | exact (h.own.below.cell (p := ⟨(w.heap.size+1), _, none⟩) s1).trans (by assumption)
      have HE := Lib.hid hE
      clear hE
      have hF : Fr 0 [] [] wr wr := Fr.nil _
      clear p0 p1 p2 p3 v0 v1 v2
      go_cut [6] (fun s6 wx => ∃ b6, s6 = .pointer (some ⟨b6, 0, none⟩) ∧ WyAt p y b6 w wr wx)
      case first =>
        have HX : Hid (∀ W, Calls Try.prog 25 #[.agg #[.int .i64 (p.a), .int .i64 (p.b), .int .i64 (p.c)], .agg #[.int .i64 (y.x), .int .i64 (y.y), .int .i64 (y.z)]] W fun e w' => e = .returned (.agg #[.int .i64 (wcx p y), .int .i64 (wcy p y), .int .i64 (wcz p y)]) ∧ Below W.heap.size W w') := fun W => pcross_any p.a p.b p.c y.x y.y y.z W
        refine wp_region_inv (by kernel_rfl) (by kernel_rfl) (fun listed a wy => ∃ u : Nat → Value, a = { tmps := #[.agg #[.int .i64 (p.a), .int .i64 (p.b), .int .i64 (p.c), .int .i64 (p.d)], .agg #[.int .i64 (v.x), .int .i64 (v.y), .int .i64 (v.z)], .pointer (some ⟨w.heap.size, 0, none⟩), .pointer (some ⟨w.heap.size + 1, 0, none⟩), .pointer (some ⟨w.heap.size + 1 + 1, 0, none⟩), .int .i64 3, u 6, .int .i64 3, .bool false, u9, u10, u11, u12, u13, u14, u15, u16, u17, u18, u19, u 20, u 21, u 22, u 23, undef, undef, undef, undef, undef, undef, undef, undef, undef, undef, undef, undef, undef, undef, undef], defers := [] } ∧ Rg wr.drew (fun d => match d with | 20 => .agg #[.int .i64 (p.a), .int .i64 (p.b), .int .i64 (p.c), .int .i64 (p.d)] | 21 => .agg #[.int .i64 (p.a), .int .i64 (p.b), .int .i64 (p.c)] | 22 => .agg #[.int .i64 (y.x), .int .i64 (y.y), .int .i64 (y.z)] | _ => .agg #[.int .i64 (wcx p y), .int .i64 (wcy p y), .int .i64 (wcz p y)]) (fun _ => [.int .i64 (wcx p y), .int .i64 (wcy p y), .int .i64 (wcz p y)]) [(0, 20), (1, 21), (2, 22), (3, 23)] [(4, 6, 3)] [(5, 6)] listed u wy) ⟨fun _ => undef, rfl, Rg.start _ _⟩ ?_ ?_
        rotate_left
        · rintro listed hs i hi a wy ⟨u, rfl, hR⟩ hr
          match i, hi, hr with
          | 0, _, hr =>
            as_aux_lemma =>
            refine wpOp_step rfl (fun K' hK => ?_)
            have hqr := HE.out _ (hF.drew.call hR.below)
            go_simp
            exact hK _ _ ⟨upd u 20 _, rfl, hR.yields (Below.refl _ _) rfl rfl rfl rfl⟩
          | 1, _, hr =>
            as_aux_lemma =>
            refine wpOp_step rfl (fun K' hK => ?_)
            have e0 : u 20 = .agg #[.int .i64 (p.a), .int .i64 (p.b), .int .i64 (p.c), .int .i64 (p.d)] := hR.val (0, 20) (by simp) (dep_of hr 0 (by kernel_rfl))
            go_simp
            refine (pnormal_any _ _ _ _ _).mono ?_
            rintro e w1 ⟨rfl, hb1⟩
            exact hK _ _ ⟨upd u 21 _, by simp [upd, e0], hR.yields hb1 rfl rfl rfl rfl⟩
          | 2, _, hr =>
            as_aux_lemma =>
            refine wpOp_step rfl (fun K' hK => ?_)
            have hqr := HE.out _ (hF.drew.call hR.below)
            go_simp
            exact hK _ _ ⟨upd u 22 _, rfl, hR.yields (Below.refl _ _) rfl rfl rfl rfl⟩
          | 3, _, hr =>
            as_aux_lemma =>
            refine wpOp_step rfl (fun K' hK => ?_)
            have e1 : u 21 = .agg #[.int .i64 (p.a), .int .i64 (p.b), .int .i64 (p.c)] := hR.val (1, 21) (by simp) (dep_of hr 1 (by kernel_rfl))
            have e2 : u 22 = .agg #[.int .i64 (y.x), .int .i64 (y.y), .int .i64 (y.z)] := hR.val (2, 22) (by simp) (dep_of hr 2 (by kernel_rfl))
            go_simp
            refine (HX.out _).mono ?_
            rintro e w1 ⟨rfl, hb1⟩
            exact hK _ _ ⟨upd u 23 _, by simp [upd, e1, e2], hR.yields hb1 rfl rfl rfl rfl⟩
          | 4, _, hr =>
            as_aux_lemma =>
            refine wpOp_step rfl (fun K' hK => ?_)
            go_simp
            exact hK _ _ ⟨upd u 6 _, rfl, hR.makes (n := 3) rfl (ready_spec.1 hr).2.1 rfl rfl rfl⟩
          | 5, _, hr =>
            as_aux_lemma =>
            refine wpOp_step rfl (fun K' hK => ?_)
            have e1 : u 23 = .agg #[.int .i64 (wcx p y), .int .i64 (wcy p y), .int .i64 (wcz p y)] := hR.val (3, 23) (by simp) (dep_of hr 3 (by kernel_rfl))
            have hl := dep_of hr 4 (by kernel_rfl)
            obtain ⟨b, eb, _, _, hrm⟩ := hR.ali (4, 6, 3) (by simp) hl
            have rc := hrm.cell
            have rf := hrm.frozen
            go_simp
            refine hK _ _ ⟨u, by simp [e1, eb], hR.stores (k := 4) (s := 6) (n := 3) hl eb ((OnlyAt.set _ _ _ _).trans ((OnlyAt.set _ _ _ _).trans (OnlyAt.set _ _ _ _))) ?_ rfl⟩
            intro j v hj
            match j, hj with
            | 0, hj => simp at hj; subst hj; simp [go_sem, hrm.some]
            | 1, hj => simp at hj; subst hj; simp [go_sem, hrm.some]
            | 2, hj => simp at hj; subst hj; simp [go_sem, hrm.some]
        rintro listed a W2 ⟨u, rfl, hR⟩ hl
        obtain ⟨b, eb, hlo, _, hrm⟩ := hR.ali (4, 6, 3) (by simp) (hl 4 (by decide))
        obtain ⟨b', eb', _, hk, _⟩ := hR.sto (5, 6) (by simp) (hl 5 (by decide))
        have ebb : b' = b := by have := eb'.symm.trans eb; simpa using this
        subst ebb
        have HAT : Hid (WyAt p y b' w wr W2) := ⟨(Below.refl wr.heap.size wr).drew.trans hR.below, hlo, hrm, hk 0 _ rfl, hk 1 _ rfl, hk 2 _ rfl⟩
        have HEB := Lib.hid eb
        clear hR hl eb eb' hlo hrm hk
        go_wp2_with fail
        go_meet
        exact ⟨b', HEB.out, HAT.out⟩
      case rest =>
        obtain ⟨b6, rfl, hat⟩ := hcut
        rename World => wx
        have hbx := hat.below
        have hr := hres.out.below hbx
        have h6 := hat.room
        have hW : Hid (Below wr.heap.size wr wx) := hbx
        have hlo := hat.lo
        have s2 := hres.out.lt
        obtain ⟨p0, p1, p2, p3, -⟩ := HE.out _ (hF.call hbx)
        have c0 := hat.c0
        have c1 := hat.c1
        have c2 := hat.c2
        have hbw : Hid (Below w.heap.size w wx) := Lib.hid (hwr.out.trans (hbx.mono hwr.out.size))
        have HN : Hid (∀ W, Calls Try.prog 24 #[.agg #[.int .i64 (p.a), .int .i64 (p.b), .int .i64 (p.c), .int .i64 (p.d)]] W fun e w' => e = .returned (.agg #[.int .i64 (p.a), .int .i64 (p.b), .int .i64 (p.c)]) ∧ Below W.heap.size W w') := fun W => pnormal_any p.a p.b p.c p.d W
        have HX1 : Hid (∀ W, Calls Try.prog 25 #[.agg #[.int .i64 (p.a), .int .i64 (p.b), .int .i64 (p.c)], .agg #[.int .i64 1, .int .i64 0, .int .i64 0]] W fun e w' => e = .returned (.agg #[.int .i64 (wcx p ⟨1, 0, 0⟩), .int .i64 (wcy p ⟨1, 0, 0⟩), .int .i64 (wcz p ⟨1, 0, 0⟩)]) ∧ Below W.heap.size W w') := fun W => pcross_any p.a p.b p.c 1 0 0 W
        have HX2 : Hid (∀ W, Calls Try.prog 25 #[.agg #[.int .i64 (p.a), .int .i64 (p.b), .int .i64 (p.c)], .agg #[.int .i64 0, .int .i64 1, .int .i64 0]] W fun e w' => e = .returned (.agg #[.int .i64 (wcx p ⟨0, 1, 0⟩), .int .i64 (wcy p ⟨0, 1, 0⟩), .int .i64 (wcz p ⟨0, 1, 0⟩)]) ∧ Below W.heap.size W w') := fun W => pcross_any p.a p.b p.c 0 1 0 W
        clear hat hbx hF
        cases h1 : eq3B (wcx p y) (wcy p y) (wcz p y) 0 0 0 with
        | false =>
          have HO : Hid (Pl p → WayOK p ⟨wcx p y, wcy p y, wcz p y⟩) := fun hp => wc_ok hp HL.out.1 HL.out.2.1 HL.out.2.2 h1
          have rc := hr.cell
          have rf := hr.frozen
          clear hr
          go_wp2
          refine bodyPost_ret (v := .agg #[.int .i64 (wcx p y), .int .i64 (wcy p y), .int .i64 (wcz p y)]) ?_ rfl ⟨⟨⟨wcx p y, wcy p y, wcz p y⟩, HO.out, crs_i64 _ _ _ _, crs_i64 _ _ _ _, crs_i64 _ _ _ _, rfl⟩, ?_⟩
          · simp [results, Try.results10, go_sem, rc]
          · exact ((hbw.out.setCell (by simp; omega) _).setCell (by simp; omega) _).setCell (by simp; omega) _
        | true =>
          have hne1 : ¬ b6 = w.heap.size + 2 := by omega
          have hne2 : ¬ w.heap.size + 2 = b6 := by omega
          cases h2 : eq3B (wcx p ⟨1, 0, 0⟩) (wcy p ⟨1, 0, 0⟩) (wcz p ⟨1, 0, 0⟩) 0 0 0 with
          | false =>
            have HO : Hid (Pl p → WayOK p ⟨wcx p ⟨1, 0, 0⟩, wcy p ⟨1, 0, 0⟩, wcz p ⟨1, 0, 0⟩⟩) := fun hp => wc_ok hp (by decide) (by decide) (by decide) h2
            go_wp2_with fail
            ((with_reducible refine (HN.out _).mono ?_); rintro e w1a ⟨rfl, hb1⟩)
            go_wp2_with fail
            ((with_reducible refine (HX1.out _).mono ?_); rintro e w1b ⟨rfl, hb2⟩)
            have hr := (hr.below hb1).below hb2
            have h6 := (h6.below hb1).below hb2
            have hW := Lib.hid ((hW.out.trans (hb1.mono hW.out.size)).trans (hb2.mono (Nat.le_trans hW.out.size hb1.size)))
            have hbw := Lib.hid (hwr.out.trans (hW.out.mono hwr.out.size))
            obtain ⟨p0, p1, p2, p3, -⟩ := HE.out _ (Fr.call (Fr.nil wr) hW.out)
            clear hb1 hb2
            have r6c := h6.cell
            have r6f := h6.frozen
            have l6 := h6.lt
            have rc := hr.cell
            have rf := hr.frozen
            go_wp2
            refine bodyPost_ret (v := .agg #[.int .i64 (wcx p ⟨1, 0, 0⟩), .int .i64 (wcy p ⟨1, 0, 0⟩), .int .i64 (wcz p ⟨1, 0, 0⟩)]) ?_ rfl ⟨⟨⟨wcx p ⟨1, 0, 0⟩, wcy p ⟨1, 0, 0⟩, wcz p ⟨1, 0, 0⟩⟩, HO.out, crs_i64 _ _ _ _, crs_i64 _ _ _ _, crs_i64 _ _ _ _, rfl⟩, ?_⟩
            · simp [results, Try.results10, go_sem, rc]
            · exact (((((hbw.out.setCell (by simp; omega) _).setCell (by simp; omega) _).setCell (by simp; omega) _).setCell (by simp; omega) _).setCell (by simp; omega) _).setCell (by simp; omega) _
          | true =>
            have HO : Hid (Pl p → WayOK p ⟨wcx p ⟨0, 1, 0⟩, wcy p ⟨0, 1, 0⟩, wcz p ⟨0, 1, 0⟩⟩) := fun hp => wc_ok hp (by decide) (by decide) (by decide) (wc_axes hp h2)
            go_wp2_with fail
            ((with_reducible refine (HN.out _).mono ?_); rintro e w1a ⟨rfl, hb1⟩)
            go_wp2_with fail
            ((with_reducible refine (HX1.out _).mono ?_); rintro e w1b ⟨rfl, hb2⟩)
            have hr := (hr.below hb1).below hb2
            have h6 := (h6.below hb1).below hb2
            have hW := Lib.hid ((hW.out.trans (hb1.mono hW.out.size)).trans (hb2.mono (Nat.le_trans hW.out.size hb1.size)))
            have hbw := Lib.hid (hwr.out.trans (hW.out.mono hwr.out.size))
            obtain ⟨p0, p1, p2, p3, -⟩ := HE.out _ (Fr.call (Fr.nil wr) hW.out)
            clear hb1 hb2
            have r6c := h6.cell
            have r6f := h6.frozen
            have l6 := h6.lt
            go_wp2_with fail
            ((with_reducible refine (HN.out _).mono ?_); rintro e w2a ⟨rfl, hb1⟩)
            go_wp2_with fail
            ((with_reducible refine (HX2.out _).mono ?_); rintro e w2b ⟨rfl, hb2⟩)
            have hW3 : Below wr.heap.size wr (((w1b.setCell ⟨b6, 0, none⟩ (.int .i64 (wcx p ⟨1, 0, 0⟩))).setCell ⟨b6, 1, none⟩ (.int .i64 (wcy p ⟨1, 0, 0⟩))).setCell ⟨b6, 2, none⟩ (.int .i64 (wcz p ⟨1, 0, 0⟩))) := ((hW.out.setCell (by simp; omega) _).setCell (by simp; omega) _).setCell (by simp; omega) _
            have hr := ((((hr.set ⟨b6, 0, none⟩ (.int .i64 (wcx p ⟨1, 0, 0⟩))).set ⟨b6, 1, none⟩ (.int .i64 (wcy p ⟨1, 0, 0⟩))).set ⟨b6, 2, none⟩ (.int .i64 (wcz p ⟨1, 0, 0⟩))).below hb1).below hb2
            have h6 := ((((h6.set ⟨b6, 0, none⟩ (.int .i64 (wcx p ⟨1, 0, 0⟩))).set ⟨b6, 1, none⟩ (.int .i64 (wcy p ⟨1, 0, 0⟩))).set ⟨b6, 2, none⟩ (.int .i64 (wcz p ⟨1, 0, 0⟩))).below hb1).below hb2
            have hW := Lib.hid ((hW3.trans (hb1.mono hW3.size)).trans (hb2.mono (Nat.le_trans hW3.size hb1.size)))
            have hbw := Lib.hid (hwr.out.trans (hW.out.mono hwr.out.size))
            clear hb1 hb2 hW3 r6c r6f l6 p0 p1 p2 p3
            have r6c := h6.cell
            have r6f := h6.frozen
            have l6 := h6.lt
            have rc := hr.cell
            have rf := hr.frozen
            go_wp2
            refine bodyPost_ret (v := .agg #[.int .i64 (wcx p ⟨0, 1, 0⟩), .int .i64 (wcy p ⟨0, 1, 0⟩), .int .i64 (wcz p ⟨0, 1, 0⟩)]) ?_ rfl ⟨⟨⟨wcx p ⟨0, 1, 0⟩, wcy p ⟨0, 1, 0⟩, wcz p ⟨0, 1, 0⟩⟩, HO.out, crs_i64 _ _ _ _, crs_i64 _ _ _ _, crs_i64 _ _ _ _, rfl⟩, ?_⟩
            · simp [results, Try.results10, go_sem, rc]
            · exact (((((hbw.out.setCell (by simp; omega) _).setCell (by simp; omega) _).setCell (by simp; omega) _).setCell (by simp; omega) _).setCell (by simp; omega) _).setCell (by simp; omega) _

end Go.Proofs.Ytaoedfegakpjeab

namespace Go.Proofs.Ytaoedfegakpjeab
open Go.RowKit

inductive VT
  | eq (v : Value)
  | vec
def VT.holds : VT → Value → Prop
  | .eq v, x => x = v
  | .vec, x => ∃ d : T3, I64 d.x ∧ I64 d.y ∧ I64 d.z ∧ x = .agg #[.int .i64 (d.x), .int .i64 (d.y), .int .i64 (d.z)]
/-- The state of such a region: the world by L; operations 6 and 7 store. -/
structure WR (W0 : World) (L : T3 → T3 → World → Prop) (u v : T3) (S : Nat → VT) (vals : List (Nat × Nat)) (d1 d2 : Nat) (listed : Array Bool) (t : Nat → Value) (W : World) : Prop where
  val : ∀ x ∈ vals, listed.getD x.1 false = true → (S x.2).holds (t x.2)
  fin : ∃ x y : T3, L x y W ∧ (listed.getD 6 false = true → t d1 = .agg #[.int .i64 (x.x), .int .i64 (x.y), .int .i64 (x.z)]) ∧ (listed.getD 6 false = false → x = u) ∧ (listed.getD 7 false = true → t d2 = .agg #[.int .i64 (y.x), .int .i64 (y.y), .int .i64 (y.z)]) ∧ (listed.getD 7 false = false → y = v)
  ord : ∀ j, j < 6 → (listed.getD 6 false = true ∨ listed.getD 7 false = true) → listed.getD j false = true
  clo : listed.getD 5 false = true → listed.getD 3 false = true ∧ listed.getD 4 false = true
section
variable {W0 W W1 : World} {L : T3 → T3 → World → Prop} {u v : T3} {S : Nat → VT} {vals : List (Nat × Nat)} {d1 d2 : Nat} {listed : Array Bool} {t : Nat → Value}
theorem WR.start (n : Nat) (t : Nat → Value) (h : L u v W) : WR W0 L u v S vals d1 d2 (Array.replicate n false) t W := by
  have hf : ∀ i, (Array.replicate n false).getD i false = false := fun i => by
    simp only [Array.getD]
    split <;> simp
  refine ⟨fun x _ hl => ?_, ⟨u, v, h, fun hl => ?_, fun _ => rfl, fun hl => ?_, fun _ => rfl⟩, fun j _ hl => ?_, fun hl => ?_⟩
  · rw [hf] at hl; cases hl
  · rw [hf] at hl; cases hl
  · rw [hf] at hl; cases hl
  · rw [hf, hf] at hl; rcases hl with h | h <;> cases h
  · rw [hf] at hl; cases hl
theorem listed_keep {i j : Nat} (h : (listed.setIfInBounds i true).getD j false = false) : listed.getD j false = false := by
  cases hl : listed.getD j false with
  | false => rfl
  | true => rw [listed_more hl] at h; cases h
/-- What is stored is not yet there. -/
theorem WR.fresh (h : WR W0 L u v S vals d1 d2 listed t W) {i : Nat} (hi : i < 6) (hr : listed.getD i true = false) : L u v W := by
  have hn : ¬ (listed.getD 6 false = true ∨ listed.getD 7 false = true) := fun hh => by
    have := listed_getD (h.ord i hi hh)
    rw [this] at hr; cases hr
  obtain ⟨x, y, hL, _, h6, _, h7⟩ := h.fin
  have e6 : listed.getD 6 false = false := by
    cases hh : listed.getD 6 false with
    | false => rfl
    | true => exact absurd (Or.inl hh) hn
  have e7 : listed.getD 7 false = false := by
    cases hh : listed.getD 7 false with
    | false => rfl
    | true => exact absurd (Or.inr hh) hn
  rw [h6 e6, h7 e7] at hL; exact hL
theorem WR.yields {i d : Nat} {z : Value} (h : WR W0 L u v S vals d1 d2 listed t W) (hi : i < 6) (hr : listed.getD i true = false) (hL : L u v W1) (hv : (S d).holds z) (h1 : clashV vals i d = true) (hc : i = 5 → listed.getD 3 false = true ∧ listed.getD 4 false = true) :
    WR W0 L u v S vals d1 d2 (listed.setIfInBounds i true) (upd t d z) W1 := by
  have hn : ¬ (listed.getD 6 false = true ∨ listed.getD 7 false = true) := fun hh => by
    have := listed_getD (h.ord i hi hh)
    rw [this] at hr; cases hr
  have n6 : ∀ {b : Nat}, b = 6 ∨ b = 7 → (listed.setIfInBounds i true).getD b false = true → False := fun {b} hb hl => by
    have := (listed_set hl).resolve_left (by omega)
    rcases hb with rfl | rfl
    · exact hn (.inl this)
    · exact hn (.inr this)
  refine ⟨fun x hx hl => ?_, ⟨u, v, hL, fun hl => (n6 (.inl rfl) hl).elim, fun _ => rfl, fun hl => (n6 (.inr rfl) hl).elim, fun _ => rfl⟩, fun j _ hl => ?_, fun hl => ?_⟩
  · have hc := List.all_eq_true.1 h1 x hx
    by_cases e : x.1 = i
    · rw [if_pos e] at hc
      have : x.2 = d := by simpa using hc
      rw [this, upd_same]; exact hv
    · rw [if_neg e] at hc
      rw [upd_other _ _ (by simpa using hc)]
      exact h.val x hx ((listed_set hl).resolve_left e)
  · rcases hl with hl | hl
    · exact (n6 (.inl rfl) hl).elim
    · exact (n6 (.inr rfl) hl).elim
  · by_cases e : 5 = i
    · have := hc e.symm
      exact ⟨listed_more this.1, listed_more this.2⟩
    · have := h.clo ((listed_set hl).resolve_left e)
      exact ⟨listed_more this.1, listed_more this.2⟩
theorem WR.store6 {d : T3} (h : WR W0 L u v S vals d1 d2 listed t W) (hsz : 6 < listed.size) (hd : ∀ j, j < 6 → listed.getD j false = true) (hv : (vals.all fun x => x.1 != 6) = true) (ht : t d1 = .agg #[.int .i64 (d.x), .int .i64 (d.y), .int .i64 (d.z)]) (hL : ∀ x y, L x y W → L d y W1) :
    WR W0 L u v S vals d1 d2 (listed.setIfInBounds 6 true) t W1 := by
  obtain ⟨x, y, hl, _, _, h7, h7'⟩ := h.fin
  refine ⟨fun z hz hk => h.val z hz ((listed_set hk).resolve_left (by simpa using List.all_eq_true.1 hv z hz)), ⟨d, y, hL x y hl, fun _ => ht, fun hk => ?_, fun hk => h7 ((listed_set hk).resolve_left (by decide)), fun hk => h7' (listed_keep hk)⟩, fun j hj _ => listed_more (hd j hj), fun _ => ⟨listed_more (hd 3 (by decide)), listed_more (hd 4 (by decide))⟩⟩
  exfalso
  simp [Array.getD, hsz] at hk
theorem WR.store7 {d : T3} (h : WR W0 L u v S vals d1 d2 listed t W) (hsz : 7 < listed.size) (hd : ∀ j, j < 6 → listed.getD j false = true) (hv : (vals.all fun x => x.1 != 7) = true) (ht : t d2 = .agg #[.int .i64 (d.x), .int .i64 (d.y), .int .i64 (d.z)]) (hL : ∀ x y, L x y W → L x d W1) :
    WR W0 L u v S vals d1 d2 (listed.setIfInBounds 7 true) t W1 := by
  obtain ⟨x, y, hl, h6, h6', _, _⟩ := h.fin
  refine ⟨fun z hz hk => h.val z hz ((listed_set hk).resolve_left (by simpa using List.all_eq_true.1 hv z hz)), ⟨x, d, hL x y hl, fun hk => h6 ((listed_set hk).resolve_left (by decide)), fun hk => h6' (listed_keep hk), fun _ => ht, fun hk => ?_⟩, fun j hj _ => listed_more (hd j hj), fun _ => ⟨listed_more (hd 3 (by decide)), listed_more (hd 4 (by decide))⟩⟩
  exfalso
  simp [Array.getD, hsz] at hk
end

end Go.Proofs.Ytaoedfegakpjeab
