/- Contracts of the functions that the statement reaches, and plain lemmas: part 11 of 25. -/
import Derived.Test.YtaoedfegakpjeabGreatJ10
import Derived.StillTailTactics
import Derived.RangeFuncNested
import Derived.RangeFuncBound
import Derived.RangeFuncCalls
import Derived.RangeFuncLeaves
import Derived.RangeFuncBox
import Derived.Shelf.Abstract
import Derived.Shelf.RegionOpen
import Derived.OwnWalkIn
import Derived.TacticsInMore
import Derived.LoopNIn
import Derived.LoopIn
import Derived.Maps.AppendAt

namespace Go.Proofs.YtaoedfegakpjeabGreat
open Go.RowKit

def MFr (p q r : Q4) (w W : World) : Prop := Fr 4 [(0, .cells #[.int .i64 p.a, .int .i64 p.b, .int .i64 p.c, .int .i64 p.d] 23), (1, .cells #[.int .i64 q.a, .int .i64 q.b, .int .i64 q.c, .int .i64 q.d] 23), (2, .cells #[.int .i64 r.a, .int .i64 r.b, .int .i64 r.c, .int .i64 r.d] 23)] [(3, 4)] w W
/-- What is known at the head of the loop: the planes, the three products, and the first k elements. -/
structure MeetAt (p q r : Q4) (w : World) (b11 b12 b13 c k : Nat) (W : World) : Prop where
  own : MFr p q r w W
  c11 : At3 W b11 0 ⟨crs q.b r.c q.c r.b, crs q.c r.a q.a r.c, crs q.a r.b q.b r.a⟩
  c12 : At3 W b12 0 ⟨crs r.b p.c r.c p.b, crs r.c p.a r.a p.c, crs r.a p.b r.b p.a⟩
  c13 : At3 W b13 0 ⟨crs p.b q.c p.c q.b, crs p.c q.a p.a q.c, crs p.a q.b p.b q.a⟩
  room : Room W c 4
  lt : b11 < c ∧ b12 < c ∧ b13 < c ∧ w.heap.size + 3 < c ∧ c < W.heap.size
  e0 : 0 < k → W.cell? ⟨c, 0, none⟩ = some (.int .i64 (neg3 p.d (crs q.b r.c q.c r.b) q.d (crs r.b p.c r.c p.b) r.d (crs p.b q.c p.c q.b)))
  e1 : 1 < k → W.cell? ⟨c, 1, none⟩ = some (.int .i64 (neg3 p.d (crs q.c r.a q.a r.c) q.d (crs r.c p.a r.a p.c) r.d (crs p.c q.a p.a q.c)))
  e2 : 2 < k → W.cell? ⟨c, 2, none⟩ = some (.int .i64 (neg3 p.d (crs q.a r.b q.b r.a) q.d (crs r.a p.b r.b p.a) r.d (crs p.a q.b p.b q.a)))

theorem MFr.set {p q r : Q4} {w W : World} {c : Nat} (h : MFr p q r w W) (hc : w.heap.size + 3 < c) (o : Nat) (v : Value) : MFr p q r w (W.setCell ⟨c, o, none⟩ v) := by
  refine Fr.set h (by show w.heap.size ≤ c; omega) ?_ v
  show (List.lookup (c - w.heap.size) _).isNone = true
  obtain ⟨m, hm⟩ : ∃ m, c - w.heap.size = m + 4 := ⟨c - w.heap.size - 4, by omega⟩
  rw [hm]
  simp [List.lookup]
theorem At3.other {W : World} {b o c j : Nat} {v : T3} (h : At3 W b o v) (hc : b ≠ c) (x : Value) : At3 (W.setCell ⟨c, j, none⟩ x) b o v :=
  ⟨((OnlyAt.set W c j x).cell (p := ⟨b, _, none⟩) hc).trans h.1, ((OnlyAt.set W c j x).cell (p := ⟨b, _, none⟩) hc).trans h.2.1, ((OnlyAt.set W c j x).cell (p := ⟨b, _, none⟩) hc).trans h.2.2⟩
theorem MeetAt.base {p q r : Q4} {w W : World} {b11 b12 b13 c k : Nat} (h : MeetAt p q r w b11 b12 b13 c k W) (o : Nat) (v : Value) : MeetAt p q r w b11 b12 b13 c 0 (W.setCell ⟨c, o, none⟩ v).drew :=
  { own := (h.own.set h.lt.2.2.2.1 o v).drew, c11 := h.c11.other (by have := h.lt; omega) v, c12 := h.c12.other (by have := h.lt; omega) v, c13 := h.c13.other (by have := h.lt; omega) v, room := (h.room.set _ v), lt := ⟨h.lt.1, h.lt.2.1, h.lt.2.2.1, h.lt.2.2.2.1, by have := h.lt; simpa [World.setCell] using this.2.2.2.2⟩, e0 := by omega, e1 := by omega, e2 := by omega }

set_option maxHeartbeats 4000000 in
set_option maxRecDepth 100000 in
theorem meet_ok (p q r : Q4) (w : World) (hd : (det p q r == 0) = false) (hg : ¬ lowG (rawPt p q r) = 0) :
    Calls Tryz.prog 80 #[.agg #[.int .i64 (p.a), .int .i64 (p.b), .int .i64 (p.c), .int .i64 (p.d)], .agg #[.int .i64 (q.a), .int .i64 (q.b), .int .i64 (q.c), .int .i64 (q.d)], .agg #[.int .i64 (r.a), .int .i64 (r.b), .int .i64 (r.c), .int .i64 (r.d)]] w fun e w' => e = .returned (.tuple #[.agg #[.int .i64 (quoI (rawPt p q r).a (lowG (rawPt p q r))), .int .i64 (quoI (rawPt p q r).b (lowG (rawPt p q r))), .int .i64 (quoI (rawPt p q r).c (lowG (rawPt p q r))), .int .i64 (quoI (rawPt p q r).d (lowG (rawPt p q r)))], .bool true]) ∧ Below w.heap.size w w' := by
  go_enter Tryz.func80, Tryz.ntmps80
  have hE : ∀ W, Fr 4 [(0, .cells #[.int .i64 (p.a), .int .i64 (p.b), .int .i64 (p.c), .int .i64 (p.d)] 23), (1, .cells #[.int .i64 (q.a), .int .i64 (q.b), .int .i64 (q.c), .int .i64 (q.d)] 23), (2, .cells #[.int .i64 (r.a), .int .i64 (r.b), .int .i64 (r.c), .int .i64 (r.d)] 23)] [(3, 4)] w W → (W.cell? ⟨w.heap.size, 0, none⟩ = some (.int .i64 (p.a)) ∧ W.cell? ⟨w.heap.size, 1, none⟩ = some (.int .i64 (p.b)) ∧ W.cell? ⟨w.heap.size, 2, none⟩ = some (.int .i64 (p.c)) ∧ W.cell? ⟨w.heap.size, 3, none⟩ = some (.int .i64 (p.d)) ∧ W.cell? ⟨w.heap.size + 1, 0, none⟩ = some (.int .i64 (q.a)) ∧ W.cell? ⟨w.heap.size + 1, 1, none⟩ = some (.int .i64 (q.b)) ∧ W.cell? ⟨w.heap.size + 1, 2, none⟩ = some (.int .i64 (q.c)) ∧ W.cell? ⟨w.heap.size + 1, 3, none⟩ = some (.int .i64 (q.d)) ∧ W.cell? ⟨w.heap.size + 2, 0, none⟩ = some (.int .i64 (r.a)) ∧ W.cell? ⟨w.heap.size + 2, 1, none⟩ = some (.int .i64 (r.b)) ∧ W.cell? ⟨w.heap.size + 2, 2, none⟩ = some (.int .i64 (r.c)) ∧ W.cell? ⟨w.heap.size + 2, 3, none⟩ = some (.int .i64 (r.d)) ∧ (∀ o, o < 4 → W.cell? ⟨w.heap.size + 3, o, none⟩ = some (cellOf W ⟨w.heap.size + 3, o, none⟩)) ∧ (∀ o, o < 4 → W.frozen? ⟨w.heap.size + 3, o, none⟩ = false)) := fun W h => by (repeat' apply And.intro) <;> first | exact h.at0 rfl | exact h.at rfl | exact (h.rms0 rfl).cell | exact (h.rms rfl).cell | exact (h.rms0 rfl).frozen | exact (h.rms rfl).frozen
  have HE := Lib.hid hE
  clear hE
  go_wp2
  refine gen_world (P := fun W => Code.wp _ _ _ _ W) (fun W => Fr 4 [(0, .cells #[.int .i64 (p.a), .int .i64 (p.b), .int .i64 (p.c), .int .i64 (p.d)] 23), (1, .cells #[.int .i64 (q.a), .int .i64 (q.b), .int .i64 (q.c), .int .i64 (q.d)] 23), (2, .cells #[.int .i64 (r.a), .int .i64 (r.b), .int .i64 (r.c), .int .i64 (r.d)] 23)] [(3, 4)] w W) (((((Fr.nil w).fixed (by simp) (.cells #[.int .i64 (p.a), .int .i64 (p.b), .int .i64 (p.c), .int .i64 (p.d)] 23)).fixed (by simp) (.cells #[.int .i64 (q.a), .int .i64 (q.b), .int .i64 (q.c), .int .i64 (q.d)] 23)).fixed (by simp) (.cells #[.int .i64 (r.a), .int .i64 (r.b), .int .i64 (r.c), .int .i64 (r.d)] 23)).roomy (by simp) #[.int .i64 0, .int .i64 0, .int .i64 0, .int .i64 0] 48) ?_
  intro W hF
  refine wp_region_inv (by kernel_rfl) (by kernel_rfl) (fun listed a wr => ∃ u : Nat → Value, a = meet1A p q r w.heap.size u ∧ Rg W.drew (meet1V p q r) (meet1C p q r) [(0, 17), (1, 18), (2, 19), (3, 20), (4, 21), (5, 22)] [(6, 8, 3), (7, 9, 3), (8, 10, 3)] [(9, 8), (10, 9), (11, 10)] listed u wr) ⟨fun _ => undef, rfl, Rg.start _ _⟩ ?_ ?_
  rotate_left
  · rintro listed hs i hi a wr ⟨u, rfl, hR⟩ hr
    simp only [meet1A]
    match i, hi, hr with
    | 0, _, hr =>
      as_aux_lemma =>
      refine wpOp_step rfl (fun K' hK => ?_)
      have hqr := HE.out _ (hF.drew.call hR.below)
      go_simp
      exact hK _ _ ⟨upd u 17 (.agg #[.int .i64 (p.a), .int .i64 (p.b), .int .i64 (p.c), .int .i64 (p.d)]), rfl, hR.yields (Below.refl _ _) rfl rfl rfl rfl⟩
    | 1, _, hr =>
      as_aux_lemma =>
      refine wpOp_step rfl (fun K' hK => ?_)
      have e0 : u 17 = .agg #[.int .i64 (p.a), .int .i64 (p.b), .int .i64 (p.c), .int .i64 (p.d)] := hR.val (0, 17) (by simp) (dep_of hr 0 (by kernel_rfl))
      go_simp
      refine (normal_any _ _ _ _ _).mono ?_
      rintro e w1 ⟨rfl, hb1⟩
      exact hK _ _ ⟨upd u 18 (.agg #[.int .i64 (p.a), .int .i64 (p.b), .int .i64 (p.c)]), by simp [upd, e0], hR.yields hb1 rfl rfl rfl rfl⟩
    | 2, _, hr =>
      as_aux_lemma =>
      refine wpOp_step rfl (fun K' hK => ?_)
      have hqr := HE.out _ (hF.drew.call hR.below)
      go_simp
      exact hK _ _ ⟨upd u 19 (.agg #[.int .i64 (q.a), .int .i64 (q.b), .int .i64 (q.c), .int .i64 (q.d)]), rfl, hR.yields (Below.refl _ _) rfl rfl rfl rfl⟩
    | 3, _, hr =>
      as_aux_lemma =>
      refine wpOp_step rfl (fun K' hK => ?_)
      have e0 : u 19 = .agg #[.int .i64 (q.a), .int .i64 (q.b), .int .i64 (q.c), .int .i64 (q.d)] := hR.val (2, 19) (by simp) (dep_of hr 2 (by kernel_rfl))
      go_simp
      refine (normal_any _ _ _ _ _).mono ?_
      rintro e w1 ⟨rfl, hb1⟩
      exact hK _ _ ⟨upd u 20 (.agg #[.int .i64 (q.a), .int .i64 (q.b), .int .i64 (q.c)]), by simp [upd, e0], hR.yields hb1 rfl rfl rfl rfl⟩
    | 4, _, hr =>
      as_aux_lemma =>
      refine wpOp_step rfl (fun K' hK => ?_)
      have hqr := HE.out _ (hF.drew.call hR.below)
      go_simp
      exact hK _ _ ⟨upd u 21 (.agg #[.int .i64 (r.a), .int .i64 (r.b), .int .i64 (r.c), .int .i64 (r.d)]), rfl, hR.yields (Below.refl _ _) rfl rfl rfl rfl⟩
    | 5, _, hr =>
      as_aux_lemma =>
      refine wpOp_step rfl (fun K' hK => ?_)
      have e0 : u 21 = .agg #[.int .i64 (r.a), .int .i64 (r.b), .int .i64 (r.c), .int .i64 (r.d)] := hR.val (4, 21) (by simp) (dep_of hr 4 (by kernel_rfl))
      go_simp
      refine (normal_any _ _ _ _ _).mono ?_
      rintro e w1 ⟨rfl, hb1⟩
      exact hK _ _ ⟨upd u 22 (.agg #[.int .i64 (r.a), .int .i64 (r.b), .int .i64 (r.c)]), by simp [upd, e0], hR.yields hb1 rfl rfl rfl rfl⟩
    | 6, _, hr =>
      as_aux_lemma =>
      refine wpOp_step rfl (fun K' hK => ?_)
      go_simp
      exact hK _ _ ⟨upd u 8 _, rfl, hR.makes (n := 3) rfl (ready_spec.1 hr).2.1 rfl rfl rfl⟩
    | 7, _, hr =>
      as_aux_lemma =>
      refine wpOp_step rfl (fun K' hK => ?_)
      go_simp
      exact hK _ _ ⟨upd u 9 _, rfl, hR.makes (n := 3) rfl (ready_spec.1 hr).2.1 rfl rfl rfl⟩
    | 8, _, hr =>
      as_aux_lemma =>
      refine wpOp_step rfl (fun K' hK => ?_)
      go_simp
      exact hK _ _ ⟨upd u 10 _, rfl, hR.makes (n := 3) rfl (ready_spec.1 hr).2.1 rfl rfl rfl⟩
    | 9, _, hr =>
      as_aux_lemma =>
      refine wpOp_step rfl (fun K' hK => ?_)
      have e1 : u 18 = .agg #[.int .i64 (p.a), .int .i64 (p.b), .int .i64 (p.c)] := hR.val (1, 18) (by simp) (dep_of hr 1 (by kernel_rfl))
      have hl := dep_of hr 6 (by kernel_rfl)
      obtain ⟨b, eb, _, _, hrm⟩ := hR.ali (6, 8, 3) (by simp) hl
      have rc := hrm.cell
      have rf := hrm.frozen
      go_simp
      refine hK _ _ ⟨u, by simp [e1, eb], hR.stores (k := 6) (s := 8) (n := 3) hl eb ((OnlyAt.set _ _ _ _).trans ((OnlyAt.set _ _ _ _).trans (OnlyAt.set _ _ _ _))) ?_ rfl⟩
      intro j v hj
      match j, hj with
      | 0, hj => simp [meet1C] at hj; subst hj; simp [go_sem, hrm.some]
      | 1, hj => simp [meet1C] at hj; subst hj; simp [go_sem, hrm.some]
      | 2, hj => simp [meet1C] at hj; subst hj; simp [go_sem, hrm.some]
    | 10, _, hr =>
      as_aux_lemma =>
      refine wpOp_step rfl (fun K' hK => ?_)
      have e1 : u 20 = .agg #[.int .i64 (q.a), .int .i64 (q.b), .int .i64 (q.c)] := hR.val (3, 20) (by simp) (dep_of hr 3 (by kernel_rfl))
      have hl := dep_of hr 7 (by kernel_rfl)
      obtain ⟨b, eb, _, _, hrm⟩ := hR.ali (7, 9, 3) (by simp) hl
      have rc := hrm.cell
      have rf := hrm.frozen
      go_simp
      refine hK _ _ ⟨u, by simp [e1, eb], hR.stores (k := 7) (s := 9) (n := 3) hl eb ((OnlyAt.set _ _ _ _).trans ((OnlyAt.set _ _ _ _).trans (OnlyAt.set _ _ _ _))) ?_ rfl⟩
      intro j v hj
      match j, hj with
      | 0, hj => simp [meet1C] at hj; subst hj; simp [go_sem, hrm.some]
      | 1, hj => simp [meet1C] at hj; subst hj; simp [go_sem, hrm.some]
      | 2, hj => simp [meet1C] at hj; subst hj; simp [go_sem, hrm.some]
    | 11, _, hr =>
      as_aux_lemma =>
      refine wpOp_step rfl (fun K' hK => ?_)
      have e1 : u 22 = .agg #[.int .i64 (r.a), .int .i64 (r.b), .int .i64 (r.c)] := hR.val (5, 22) (by simp) (dep_of hr 5 (by kernel_rfl))
      have hl := dep_of hr 8 (by kernel_rfl)
      obtain ⟨b, eb, _, _, hrm⟩ := hR.ali (8, 10, 3) (by simp) hl
      have rc := hrm.cell
      have rf := hrm.frozen
      go_simp
      refine hK _ _ ⟨u, by simp [e1, eb], hR.stores (k := 8) (s := 10) (n := 3) hl eb ((OnlyAt.set _ _ _ _).trans ((OnlyAt.set _ _ _ _).trans (OnlyAt.set _ _ _ _))) ?_ rfl⟩
      intro j v hj
      match j, hj with
      | 0, hj => simp [meet1C] at hj; subst hj; simp [go_sem, hrm.some]
      | 1, hj => simp [meet1C] at hj; subst hj; simp [go_sem, hrm.some]
      | 2, hj => simp [meet1C] at hj; subst hj; simp [go_sem, hrm.some]
  rintro listed a W2 ⟨u, rfl, hR⟩ hl
  have e17 := hR.val (0, 17) (by simp) (hl 0 (by decide))
  have e18 := hR.val (1, 18) (by simp) (hl 1 (by decide))
  have e19 := hR.val (2, 19) (by simp) (hl 2 (by decide))
  have e20 := hR.val (3, 20) (by simp) (hl 3 (by decide))
  have e21 := hR.val (4, 21) (by simp) (hl 4 (by decide))
  have e22 := hR.val (5, 22) (by simp) (hl 5 (by decide))
  obtain ⟨b8, e8, hb8, k8, -⟩ := hR.sto (9, 8) (by simp) (hl 9 (by decide))
  obtain ⟨b9, e9, hb9, k9, -⟩ := hR.sto (10, 9) (by simp) (hl 10 (by decide))
  obtain ⟨b10, e10, hb10, k10, -⟩ := hR.sto (11, 10) (by simp) (hl 11 (by decide))
  have cb80 : W2.cell? ⟨b8, 0, none⟩ = some (.int .i64 p.a) := k8 0 _ rfl
  have cb81 : W2.cell? ⟨b8, 1, none⟩ = some (.int .i64 p.b) := k8 1 _ rfl
  have cb82 : W2.cell? ⟨b8, 2, none⟩ = some (.int .i64 p.c) := k8 2 _ rfl
  have cb90 : W2.cell? ⟨b9, 0, none⟩ = some (.int .i64 q.a) := k9 0 _ rfl
  have cb91 : W2.cell? ⟨b9, 1, none⟩ = some (.int .i64 q.b) := k9 1 _ rfl
  have cb92 : W2.cell? ⟨b9, 2, none⟩ = some (.int .i64 q.c) := k9 2 _ rfl
  have cb100 : W2.cell? ⟨b10, 0, none⟩ = some (.int .i64 r.a) := k10 0 _ rfl
  have cb101 : W2.cell? ⟨b10, 1, none⟩ = some (.int .i64 r.b) := k10 1 _ rfl
  have cb102 : W2.cell? ⟨b10, 2, none⟩ = some (.int .i64 r.c) := k10 2 _ rfl
  have hF2 := hF.drew.call hR.below
  simp only [meet1A, e17, e18, e19, e20, e21, e22, e8, e9, e10, meet1V]
  clear e17 e18 e19 e20 e21 e22 e8 e9 e10 k8 k9 k10 hR hl
  clear u listed
  have hF := hF2
  clear hF2
  go_wp2
  refine wp_region_inv (by kernel_rfl) (by kernel_rfl) (fun listed a wr => ∃ u : Nat → Value, a = meet2A p q r w.heap.size b8 b9 b10 u ∧ Rg W2.drew (meet2V p q r) (meet2C p q r) [(0, 23), (1, 24), (2, 25), (3, 26), (4, 27), (5, 28), (6, 29), (7, 30), (8, 31)] [(9, 11, 3), (10, 12, 3), (11, 13, 3)] [(12, 11), (13, 12), (14, 13)] listed u wr) ⟨fun _ => undef, rfl, Rg.start _ _⟩ ?_ ?_
  rotate_left
  · rintro listed hs i hi a wr ⟨u, rfl, hR⟩ hr
    simp only [meet2A]
    match i, hi, hr with
    | 0, _, hr =>
      as_aux_lemma =>
      refine wpOp_step rfl (fun K' hK => ?_)
      have x0 : wr.cell? ⟨b9, 0, none⟩ = some (.int .i64 q.a) := (hR.below.cell (p := ⟨b9, 0, none⟩) hb9).trans cb90
      have x1 : wr.cell? ⟨b9, 1, none⟩ = some (.int .i64 q.b) := (hR.below.cell (p := ⟨b9, 1, none⟩) hb9).trans cb91
      have x2 : wr.cell? ⟨b9, 2, none⟩ = some (.int .i64 q.c) := (hR.below.cell (p := ⟨b9, 2, none⟩) hb9).trans cb92
      go_simp
      exact hK _ _ ⟨upd u 23 (.agg #[.int .i64 (q.a), .int .i64 (q.b), .int .i64 (q.c)]), rfl, hR.yields (Below.refl _ _) rfl rfl rfl rfl⟩
    | 1, _, hr =>
      as_aux_lemma =>
      refine wpOp_step rfl (fun K' hK => ?_)
      have x0 : wr.cell? ⟨b10, 0, none⟩ = some (.int .i64 r.a) := (hR.below.cell (p := ⟨b10, 0, none⟩) hb10).trans cb100
      have x1 : wr.cell? ⟨b10, 1, none⟩ = some (.int .i64 r.b) := (hR.below.cell (p := ⟨b10, 1, none⟩) hb10).trans cb101
      have x2 : wr.cell? ⟨b10, 2, none⟩ = some (.int .i64 r.c) := (hR.below.cell (p := ⟨b10, 2, none⟩) hb10).trans cb102
      go_simp
      exact hK _ _ ⟨upd u 24 (.agg #[.int .i64 (r.a), .int .i64 (r.b), .int .i64 (r.c)]), rfl, hR.yields (Below.refl _ _) rfl rfl rfl rfl⟩
    | 2, _, hr =>
      as_aux_lemma =>
      refine wpOp_step rfl (fun K' hK => ?_)
      have e0 : u 23 = .agg #[.int .i64 (q.a), .int .i64 (q.b), .int .i64 (q.c)] := hR.val (0, 23) (by simp) (dep_of hr 0 (by kernel_rfl))
      have e1 : u 24 = .agg #[.int .i64 (r.a), .int .i64 (r.b), .int .i64 (r.c)] := hR.val (1, 24) (by simp) (dep_of hr 1 (by kernel_rfl))
      go_simp
      refine (cross_any _ _ _ _ _ _ _).mono ?_
      rintro e w1 ⟨rfl, hb1⟩
      exact hK _ _ ⟨upd u 25 (.agg #[.int .i64 (crs q.b r.c q.c r.b), .int .i64 (crs q.c r.a q.a r.c), .int .i64 (crs q.a r.b q.b r.a)]), by simp [upd, e0, e1], hR.yields hb1 rfl rfl rfl rfl⟩
    | 3, _, hr =>
      as_aux_lemma =>
      refine wpOp_step rfl (fun K' hK => ?_)
      have x0 : wr.cell? ⟨b10, 0, none⟩ = some (.int .i64 r.a) := (hR.below.cell (p := ⟨b10, 0, none⟩) hb10).trans cb100
      have x1 : wr.cell? ⟨b10, 1, none⟩ = some (.int .i64 r.b) := (hR.below.cell (p := ⟨b10, 1, none⟩) hb10).trans cb101
      have x2 : wr.cell? ⟨b10, 2, none⟩ = some (.int .i64 r.c) := (hR.below.cell (p := ⟨b10, 2, none⟩) hb10).trans cb102
      go_simp
      exact hK _ _ ⟨upd u 26 (.agg #[.int .i64 (r.a), .int .i64 (r.b), .int .i64 (r.c)]), rfl, hR.yields (Below.refl _ _) rfl rfl rfl rfl⟩
    | 4, _, hr =>
      as_aux_lemma =>
      refine wpOp_step rfl (fun K' hK => ?_)
      have x0 : wr.cell? ⟨b8, 0, none⟩ = some (.int .i64 p.a) := (hR.below.cell (p := ⟨b8, 0, none⟩) hb8).trans cb80
      have x1 : wr.cell? ⟨b8, 1, none⟩ = some (.int .i64 p.b) := (hR.below.cell (p := ⟨b8, 1, none⟩) hb8).trans cb81
      have x2 : wr.cell? ⟨b8, 2, none⟩ = some (.int .i64 p.c) := (hR.below.cell (p := ⟨b8, 2, none⟩) hb8).trans cb82
      go_simp
      exact hK _ _ ⟨upd u 27 (.agg #[.int .i64 (p.a), .int .i64 (p.b), .int .i64 (p.c)]), rfl, hR.yields (Below.refl _ _) rfl rfl rfl rfl⟩
    | 5, _, hr =>
      as_aux_lemma =>
      refine wpOp_step rfl (fun K' hK => ?_)
      have e0 : u 26 = .agg #[.int .i64 (r.a), .int .i64 (r.b), .int .i64 (r.c)] := hR.val (3, 26) (by simp) (dep_of hr 3 (by kernel_rfl))
      have e1 : u 27 = .agg #[.int .i64 (p.a), .int .i64 (p.b), .int .i64 (p.c)] := hR.val (4, 27) (by simp) (dep_of hr 4 (by kernel_rfl))
      go_simp
      refine (cross_any _ _ _ _ _ _ _).mono ?_
      rintro e w1 ⟨rfl, hb1⟩
      exact hK _ _ ⟨upd u 28 (.agg #[.int .i64 (crs r.b p.c r.c p.b), .int .i64 (crs r.c p.a r.a p.c), .int .i64 (crs r.a p.b r.b p.a)]), by simp [upd, e0, e1], hR.yields hb1 rfl rfl rfl rfl⟩
    | 6, _, hr =>
      as_aux_lemma =>
      refine wpOp_step rfl (fun K' hK => ?_)
      have x0 : wr.cell? ⟨b8, 0, none⟩ = some (.int .i64 p.a) := (hR.below.cell (p := ⟨b8, 0, none⟩) hb8).trans cb80
      have x1 : wr.cell? ⟨b8, 1, none⟩ = some (.int .i64 p.b) := (hR.below.cell (p := ⟨b8, 1, none⟩) hb8).trans cb81
      have x2 : wr.cell? ⟨b8, 2, none⟩ = some (.int .i64 p.c) := (hR.below.cell (p := ⟨b8, 2, none⟩) hb8).trans cb82
      go_simp
      exact hK _ _ ⟨upd u 29 (.agg #[.int .i64 (p.a), .int .i64 (p.b), .int .i64 (p.c)]), rfl, hR.yields (Below.refl _ _) rfl rfl rfl rfl⟩
    | 7, _, hr =>
      as_aux_lemma =>
      refine wpOp_step rfl (fun K' hK => ?_)
      have x0 : wr.cell? ⟨b9, 0, none⟩ = some (.int .i64 q.a) := (hR.below.cell (p := ⟨b9, 0, none⟩) hb9).trans cb90
      have x1 : wr.cell? ⟨b9, 1, none⟩ = some (.int .i64 q.b) := (hR.below.cell (p := ⟨b9, 1, none⟩) hb9).trans cb91
      have x2 : wr.cell? ⟨b9, 2, none⟩ = some (.int .i64 q.c) := (hR.below.cell (p := ⟨b9, 2, none⟩) hb9).trans cb92
      go_simp
      exact hK _ _ ⟨upd u 30 (.agg #[.int .i64 (q.a), .int .i64 (q.b), .int .i64 (q.c)]), rfl, hR.yields (Below.refl _ _) rfl rfl rfl rfl⟩
    | 8, _, hr =>
      as_aux_lemma =>
      refine wpOp_step rfl (fun K' hK => ?_)
      have e0 : u 29 = .agg #[.int .i64 (p.a), .int .i64 (p.b), .int .i64 (p.c)] := hR.val (6, 29) (by simp) (dep_of hr 6 (by kernel_rfl))
      have e1 : u 30 = .agg #[.int .i64 (q.a), .int .i64 (q.b), .int .i64 (q.c)] := hR.val (7, 30) (by simp) (dep_of hr 7 (by kernel_rfl))
      go_simp
      refine (cross_any _ _ _ _ _ _ _).mono ?_
      rintro e w1 ⟨rfl, hb1⟩
      exact hK _ _ ⟨upd u 31 (.agg #[.int .i64 (crs p.b q.c p.c q.b), .int .i64 (crs p.c q.a p.a q.c), .int .i64 (crs p.a q.b p.b q.a)]), by simp [upd, e0, e1], hR.yields hb1 rfl rfl rfl rfl⟩
    | 9, _, hr =>
      as_aux_lemma =>
      refine wpOp_step rfl (fun K' hK => ?_)
      go_simp
      exact hK _ _ ⟨upd u 11 _, rfl, hR.makes (n := 3) rfl (ready_spec.1 hr).2.1 rfl rfl rfl⟩
    | 10, _, hr =>
      as_aux_lemma =>
      refine wpOp_step rfl (fun K' hK => ?_)
      go_simp
      exact hK _ _ ⟨upd u 12 _, rfl, hR.makes (n := 3) rfl (ready_spec.1 hr).2.1 rfl rfl rfl⟩
    | 11, _, hr =>
      as_aux_lemma =>
      refine wpOp_step rfl (fun K' hK => ?_)
      go_simp
      exact hK _ _ ⟨upd u 13 _, rfl, hR.makes (n := 3) rfl (ready_spec.1 hr).2.1 rfl rfl rfl⟩
    | 12, _, hr =>
      as_aux_lemma =>
      refine wpOp_step rfl (fun K' hK => ?_)
      have e1 : u 25 = .agg #[.int .i64 (crs q.b r.c q.c r.b), .int .i64 (crs q.c r.a q.a r.c), .int .i64 (crs q.a r.b q.b r.a)] := hR.val (2, 25) (by simp) (dep_of hr 2 (by kernel_rfl))
      have hl := dep_of hr 9 (by kernel_rfl)
      obtain ⟨b, eb, _, _, hrm⟩ := hR.ali (9, 11, 3) (by simp) hl
      have rc := hrm.cell
      have rf := hrm.frozen
      go_simp
      refine hK _ _ ⟨u, by simp [e1, eb], hR.stores (k := 9) (s := 11) (n := 3) hl eb ((OnlyAt.set _ _ _ _).trans ((OnlyAt.set _ _ _ _).trans (OnlyAt.set _ _ _ _))) ?_ rfl⟩
      intro j v hj
      match j, hj with
      | 0, hj => simp [meet2C] at hj; subst hj; simp [go_sem, hrm.some]
      | 1, hj => simp [meet2C] at hj; subst hj; simp [go_sem, hrm.some]
      | 2, hj => simp [meet2C] at hj; subst hj; simp [go_sem, hrm.some]
    | 13, _, hr =>
      as_aux_lemma =>
      refine wpOp_step rfl (fun K' hK => ?_)
      have e1 : u 28 = .agg #[.int .i64 (crs r.b p.c r.c p.b), .int .i64 (crs r.c p.a r.a p.c), .int .i64 (crs r.a p.b r.b p.a)] := hR.val (5, 28) (by simp) (dep_of hr 5 (by kernel_rfl))
      have hl := dep_of hr 10 (by kernel_rfl)
      obtain ⟨b, eb, _, _, hrm⟩ := hR.ali (10, 12, 3) (by simp) hl
      have rc := hrm.cell
      have rf := hrm.frozen
      go_simp
      refine hK _ _ ⟨u, by simp [e1, eb], hR.stores (k := 10) (s := 12) (n := 3) hl eb ((OnlyAt.set _ _ _ _).trans ((OnlyAt.set _ _ _ _).trans (OnlyAt.set _ _ _ _))) ?_ rfl⟩
      intro j v hj
      match j, hj with
      | 0, hj => simp [meet2C] at hj; subst hj; simp [go_sem, hrm.some]
      | 1, hj => simp [meet2C] at hj; subst hj; simp [go_sem, hrm.some]
      | 2, hj => simp [meet2C] at hj; subst hj; simp [go_sem, hrm.some]
    | 14, _, hr =>
      as_aux_lemma =>
      refine wpOp_step rfl (fun K' hK => ?_)
      have e1 : u 31 = .agg #[.int .i64 (crs p.b q.c p.c q.b), .int .i64 (crs p.c q.a p.a q.c), .int .i64 (crs p.a q.b p.b q.a)] := hR.val (8, 31) (by simp) (dep_of hr 8 (by kernel_rfl))
      have hl := dep_of hr 11 (by kernel_rfl)
      obtain ⟨b, eb, _, _, hrm⟩ := hR.ali (11, 13, 3) (by simp) hl
      have rc := hrm.cell
      have rf := hrm.frozen
      go_simp
      refine hK _ _ ⟨u, by simp [e1, eb], hR.stores (k := 11) (s := 13) (n := 3) hl eb ((OnlyAt.set _ _ _ _).trans ((OnlyAt.set _ _ _ _).trans (OnlyAt.set _ _ _ _))) ?_ rfl⟩
      intro j v hj
      match j, hj with
      | 0, hj => simp [meet2C] at hj; subst hj; simp [go_sem, hrm.some]
      | 1, hj => simp [meet2C] at hj; subst hj; simp [go_sem, hrm.some]
      | 2, hj => simp [meet2C] at hj; subst hj; simp [go_sem, hrm.some]
  rintro listed a W3 ⟨u, rfl, hR⟩ hl
  have e23 := hR.val (0, 23) (by simp) (hl 0 (by decide))
  have e24 := hR.val (1, 24) (by simp) (hl 1 (by decide))
  have e25 := hR.val (2, 25) (by simp) (hl 2 (by decide))
  have e26 := hR.val (3, 26) (by simp) (hl 3 (by decide))
  have e27 := hR.val (4, 27) (by simp) (hl 4 (by decide))
  have e28 := hR.val (5, 28) (by simp) (hl 5 (by decide))
  have e29 := hR.val (6, 29) (by simp) (hl 6 (by decide))
  have e30 := hR.val (7, 30) (by simp) (hl 7 (by decide))
  have e31 := hR.val (8, 31) (by simp) (hl 8 (by decide))
  obtain ⟨b11, e11, hb11, k11, -⟩ := hR.sto (12, 11) (by simp) (hl 12 (by decide))
  obtain ⟨b12, e12, hb12, k12, -⟩ := hR.sto (13, 12) (by simp) (hl 13 (by decide))
  obtain ⟨b13, e13, hb13, k13, -⟩ := hR.sto (14, 13) (by simp) (hl 14 (by decide))
  have d80 : W3.cell? ⟨b8, 0, none⟩ = some (.int .i64 p.a) := (hR.below.cell (p := ⟨b8, 0, none⟩) hb8).trans cb80
  have d81 : W3.cell? ⟨b8, 1, none⟩ = some (.int .i64 p.b) := (hR.below.cell (p := ⟨b8, 1, none⟩) hb8).trans cb81
  have d82 : W3.cell? ⟨b8, 2, none⟩ = some (.int .i64 p.c) := (hR.below.cell (p := ⟨b8, 2, none⟩) hb8).trans cb82
  have d90 : W3.cell? ⟨b9, 0, none⟩ = some (.int .i64 q.a) := (hR.below.cell (p := ⟨b9, 0, none⟩) hb9).trans cb90
  have d91 : W3.cell? ⟨b9, 1, none⟩ = some (.int .i64 q.b) := (hR.below.cell (p := ⟨b9, 1, none⟩) hb9).trans cb91
  have d92 : W3.cell? ⟨b9, 2, none⟩ = some (.int .i64 q.c) := (hR.below.cell (p := ⟨b9, 2, none⟩) hb9).trans cb92
  have d100 : W3.cell? ⟨b10, 0, none⟩ = some (.int .i64 r.a) := (hR.below.cell (p := ⟨b10, 0, none⟩) hb10).trans cb100
  have d101 : W3.cell? ⟨b10, 1, none⟩ = some (.int .i64 r.b) := (hR.below.cell (p := ⟨b10, 1, none⟩) hb10).trans cb101
  have d102 : W3.cell? ⟨b10, 2, none⟩ = some (.int .i64 r.c) := (hR.below.cell (p := ⟨b10, 2, none⟩) hb10).trans cb102
  have d110 : W3.cell? ⟨b11, 0, none⟩ = some (.int .i64 (crs q.b r.c q.c r.b)) := k11 0 _ rfl
  have d111 : W3.cell? ⟨b11, 1, none⟩ = some (.int .i64 (crs q.c r.a q.a r.c)) := k11 1 _ rfl
  have d112 : W3.cell? ⟨b11, 2, none⟩ = some (.int .i64 (crs q.a r.b q.b r.a)) := k11 2 _ rfl
  have d120 : W3.cell? ⟨b12, 0, none⟩ = some (.int .i64 (crs r.b p.c r.c p.b)) := k12 0 _ rfl
  have d121 : W3.cell? ⟨b12, 1, none⟩ = some (.int .i64 (crs r.c p.a r.a p.c)) := k12 1 _ rfl
  have d122 : W3.cell? ⟨b12, 2, none⟩ = some (.int .i64 (crs r.a p.b r.b p.a)) := k12 2 _ rfl
  have d130 : W3.cell? ⟨b13, 0, none⟩ = some (.int .i64 (crs p.b q.c p.c q.b)) := k13 0 _ rfl
  have d131 : W3.cell? ⟨b13, 1, none⟩ = some (.int .i64 (crs p.c q.a p.a q.c)) := k13 1 _ rfl
  have d132 : W3.cell? ⟨b13, 2, none⟩ = some (.int .i64 (crs p.a q.b p.b q.a)) := k13 2 _ rfl
  have hF2 := hF.drew.call hR.below
  have hb8' : b8 < W3.heap.size := Nat.lt_of_lt_of_le hb8 hR.below.size
  have hb9' : b9 < W3.heap.size := Nat.lt_of_lt_of_le hb9 hR.below.size
  have hb10' : b10 < W3.heap.size := Nat.lt_of_lt_of_le hb10 hR.below.size
  simp only [meet2A, e23, e24, e25, e26, e27, e28, e29, e30, e31, e11, e12, e13, meet2V]
  clear e23 e24 e25 e26 e27 e28 e29 e30 e31 e11 e12 e13 k11 k12 k13 hR hl hb8 hb9 hb10 hF
  clear cb80 cb81 cb82 cb90 cb91 cb92 cb100 cb101 cb102
  have hF := hF2
  clear hF2
  have hq := HE.out _ hF
  rw [det_eq] at hd
  go_wp2_with (go_at_call 72; refine (dot_any _ _ _ _ _ _ _).mono ?_; rintro e w1 ⟨rfl, hb1⟩; (try clear hq); (try clear hz); have hF : Fr 4 [(0, .cells #[.int .i64 (p.a), .int .i64 (p.b), .int .i64 (p.c), .int .i64 (p.d)] 23), (1, .cells #[.int .i64 (q.a), .int .i64 (q.b), .int .i64 (q.c), .int .i64 (q.d)] 23), (2, .cells #[.int .i64 (r.a), .int .i64 (r.b), .int .i64 (r.c), .int .i64 (r.d)] 23)] [(3, 4)] w w1 := Fr.call (by (repeat (first | exact hF | exact (((((Fr.nil w).fixed (by simp) (.cells #[.int .i64 (p.a), .int .i64 (p.b), .int .i64 (p.c), .int .i64 (p.d)] 23)).fixed (by simp) (.cells #[.int .i64 (q.a), .int .i64 (q.b), .int .i64 (q.c), .int .i64 (q.d)] 23)).fixed (by simp) (.cells #[.int .i64 (r.a), .int .i64 (r.b), .int .i64 (r.c), .int .i64 (r.d)] 23)).roomy (by simp) #[.int .i64 0, .int .i64 0, .int .i64 0, .int .i64 0] 48) | exact And.left (by assumption) | refine Fr.set ?_ (by first | (simp; done) | (simp; omega)) (by first | (simp [List.lookup]; done) | (simp [Nat.add_assoc, List.lookup]; done)) _ | refine Fr.drew ?_ | refine Fr.alloc ?_ _))) hb1; have hq := HE.out _ hF; have hz : w.heap.size < w1.heap.size ∧ w.heap.size + 1 < w1.heap.size ∧ w.heap.size + 2 < w1.heap.size ∧ w.heap.size + 3 < w1.heap.size := by have hs := Own.size (Fr.own hF); omega)
  have a11 : At3 w1 b11 0 ⟨crs q.b r.c q.c r.b, crs q.c r.a q.a r.c, crs q.a r.b q.b r.a⟩ := ⟨(hb1.cell (p := ⟨b11, 0, none⟩) hb11).trans d110, (hb1.cell (p := ⟨b11, 1, none⟩) hb11).trans d111, (hb1.cell (p := ⟨b11, 2, none⟩) hb11).trans d112⟩
  have a12 : At3 w1 b12 0 ⟨crs r.b p.c r.c p.b, crs r.c p.a r.a p.c, crs r.a p.b r.b p.a⟩ := ⟨(hb1.cell (p := ⟨b12, 0, none⟩) hb12).trans d120, (hb1.cell (p := ⟨b12, 1, none⟩) hb12).trans d121, (hb1.cell (p := ⟨b12, 2, none⟩) hb12).trans d122⟩
  have a13 : At3 w1 b13 0 ⟨crs p.b q.c p.c q.b, crs p.c q.a p.a q.c, crs p.a q.b p.b q.a⟩ := ⟨(hb1.cell (p := ⟨b13, 0, none⟩) hb13).trans d130, (hb1.cell (p := ⟨b13, 1, none⟩) hb13).trans d131, (hb1.cell (p := ⟨b13, 2, none⟩) hb13).trans d132⟩
  have hbel : Below w1.heap.size w1 (w1.alloc (.cells #[.int .i64 0, .int .i64 0, .int .i64 0, .int .i64 0] 48)) := (Below.refl _ _).alloc (Nat.le_refl _) _
  have l11 : b11 < w1.heap.size := Nat.lt_of_lt_of_le hb11 hb1.size
  have l12 : b12 < w1.heap.size := Nat.lt_of_lt_of_le hb12 hb1.size
  have l13 : b13 < w1.heap.size := Nat.lt_of_lt_of_le hb13 hb1.size
  refine gen_world (P := fun W => Code.wp _ _ _ _ W) (fun W => MeetAt p q r w b11 b12 b13 w1.heap.size 0 W) ⟨hF.alloc _, a11.below hbel l11, a12.below hbel l12, a13.below hbel l13, Room.new rfl rfl, ⟨l11, l12, l13, by have := hF.own.size; omega, by simp⟩, by omega, by omega, by omega⟩ ?_
  intro W5 hM
  clear a11 a12 a13 hbel l11 l12 l13 hb11 hb12 hb13 hq hz hF hb1
  clear d80 d81 d82 d90 d91 d92 d100 d101 d102 d110 d111 d112 d120 d121 d122 d130 d131 d132 hb8' hb9' hb10'
  generalize w1.heap.size = c at *
  go_loopw [38] (fun v wr => ∃ k : Nat, k ≤ 3 ∧ v = .int .i64 k ∧ MeetAt p q r w b11 b12 b13 c k wr) (fun v _ => 3 - (intOf v).toNat)
  case atStart => exact ⟨0, by omega, rfl, hM⟩
  case round =>
    rename_i wr
    clear hM
    obtain ⟨k, hk, rfl, hM⟩ := hrel
    match k, hk with
    | 0, _ =>
      have hw := HE.out _ hM.own
      have x11 : wr.cell? ⟨b11, 0, none⟩ = some (.int .i64 (crs q.b r.c q.c r.b)) := hM.c11.1
      have x12 : wr.cell? ⟨b12, 0, none⟩ = some (.int .i64 (crs r.b p.c r.c p.b)) := hM.c12.1
      have x13 : wr.cell? ⟨b13, 0, none⟩ = some (.int .i64 (crs p.b q.c p.c q.b)) := hM.c13.1
      have rc := hM.room.cell
      have rf := hM.room.frozen
      have hM0 := Lib.hid hM
      clear hM
      go_wp2
      go_still_tail 23, (by kernel_rfl)
      change wpList _ _ _ _ _ (World.drew wr)
      go_wp2
      go_roundw
      case rel =>
        refine ⟨1, by omega, by go_num, ?_⟩
        exact { hM0.out.base 0 _ with e0 := fun _ => by simp only [neg3_eq]; simp [go_sem, hM0.out.room.some], e1 := by omega, e2 := by omega }
      case measure => simp [intOf]
    | 1, _ =>
      have hw := HE.out _ hM.own
      have x11 : wr.cell? ⟨b11, 1, none⟩ = some (.int .i64 (crs q.c r.a q.a r.c)) := hM.c11.2.1
      have x12 : wr.cell? ⟨b12, 1, none⟩ = some (.int .i64 (crs r.c p.a r.a p.c)) := hM.c12.2.1
      have x13 : wr.cell? ⟨b13, 1, none⟩ = some (.int .i64 (crs p.c q.a p.a q.c)) := hM.c13.2.1
      have rc := hM.room.cell
      have rf := hM.room.frozen
      have hM0 := Lib.hid hM
      clear hM
      go_wp2
      go_still_tail 23, (by kernel_rfl)
      change wpList _ _ _ _ _ (World.drew wr)
      go_wp2
      go_roundw
      case rel =>
        refine ⟨2, by omega, by go_num, ?_⟩
        exact { hM0.out.base 1 _ with e0 := fun _ => by have h := hM0.out.e0 (by omega); simp [go_sem, h], e1 := fun _ => by simp only [neg3_eq]; simp [go_sem, hM0.out.room.some], e2 := by omega }
      case measure => simp [intOf]
    | 2, _ =>
      have hw := HE.out _ hM.own
      have x11 : wr.cell? ⟨b11, 2, none⟩ = some (.int .i64 (crs q.a r.b q.b r.a)) := hM.c11.2.2
      have x12 : wr.cell? ⟨b12, 2, none⟩ = some (.int .i64 (crs r.a p.b r.b p.a)) := hM.c12.2.2
      have x13 : wr.cell? ⟨b13, 2, none⟩ = some (.int .i64 (crs p.a q.b p.b q.a)) := hM.c13.2.2
      have rc := hM.room.cell
      have rf := hM.room.frozen
      have hM0 := Lib.hid hM
      clear hM
      go_wp2
      go_still_tail 23, (by kernel_rfl)
      change wpList _ _ _ _ _ (World.drew wr)
      go_wp2
      go_roundw
      case rel =>
        refine ⟨3, by omega, by go_num, ?_⟩
        exact { hM0.out.base 2 _ with e0 := fun _ => by have h := hM0.out.e0 (by omega); simp [go_sem, h], e1 := fun _ => by have h := hM0.out.e1 (by omega); simp [go_sem, h], e2 := fun _ => by simp only [neg3_eq]; simp [go_sem, hM0.out.room.some] }
      case measure => simp [intOf]
    | 3, _ =>
      have hw := HE.out _ hM.own
      have rc := hM.room.cell 3 (by omega)
      have rf := hM.room.frozen 3 (by omega)
      have y0 := hM.e0 (by omega)
      have y1 := hM.e1 (by omega)
      have y2 := hM.e2 (by omega)
      have hr : (wr.cell? ⟨c, 3, none⟩).isSome = true := hM.room.some (by omega)
      have hX : ∀ v, Fr 4 [(0, .cells #[.int .i64 (p.a), .int .i64 (p.b), .int .i64 (p.c), .int .i64 (p.d)] 23), (1, .cells #[.int .i64 (q.a), .int .i64 (q.b), .int .i64 (q.c), .int .i64 (q.d)] 23), (2, .cells #[.int .i64 (r.a), .int .i64 (r.b), .int .i64 (r.c), .int .i64 (r.d)] 23)] [(3, 4)] w (wr.setCell ⟨c, 3, none⟩ v) := fun v => hM.own.set hM.lt.2.2.2.1 3 v
      have HX := Lib.hid hX
      clear hM hX
      have iR := Lib.hid (rawPt_i64 p q r)
      go_wp2_with (go_at_call 98; refine (lowest_any ⟨neg3 p.d (crs q.b r.c q.c r.b) q.d (crs r.b p.c r.c p.b) r.d (crs p.b q.c p.c q.b), neg3 p.d (crs q.c r.a q.a r.c) q.d (crs r.c p.a r.a p.c) r.d (crs p.c q.a p.a q.c), neg3 p.d (crs q.a r.b q.b r.a) q.d (crs r.a p.b r.b p.a) r.d (crs p.a q.b p.b q.a), dot p.a p.b p.c (crs q.b r.c q.c r.b) (crs q.c r.a q.a r.c) (crs q.a r.b q.b r.a)⟩ _ iR.out hg).mono ?_; rintro e w1 ⟨rfl, hb1⟩; have hF := Fr.call (HX.out _) hb1; have hq := HE.out _ hF)
      refine bodyPost_ret (v := .tuple #[.agg #[.int .i64 (quoI (rawPt p q r).a (lowG (rawPt p q r))), .int .i64 (quoI (rawPt p q r).b (lowG (rawPt p q r))), .int .i64 (quoI (rawPt p q r).c (lowG (rawPt p q r))), .int .i64 (quoI (rawPt p q r).d (lowG (rawPt p q r)))], .bool true]) ?_ rfl ⟨rfl, ?_⟩
      · simp [results, Tryz.results80, go_sem, hq]
        exact ⟨rfl, rfl, rfl, rfl⟩
      · refine Own.below (Fr.own (k := 4) (fx := [(0, .cells #[.int .i64 (p.a), .int .i64 (p.b), .int .i64 (p.c), .int .i64 (p.d)] 23), (1, .cells #[.int .i64 (q.a), .int .i64 (q.b), .int .i64 (q.c), .int .i64 (q.d)] 23), (2, .cells #[.int .i64 (r.a), .int .i64 (r.b), .int .i64 (r.c), .int .i64 (r.d)] 23)]) (rm := [(3, 4)]) ?_); (repeat (first | exact hF | exact And.left (by assumption) | refine Fr.set ?_ (by first | (simp; done) | (simp; omega)) (by first | (simp [List.lookup]; done) | (simp [Nat.add_assoc, List.lookup]; done)) _ | refine Fr.drew ?_ | refine Fr.alloc ?_ _))

end Go.Proofs.YtaoedfegakpjeabGreat

namespace Go.Proofs.YtaoedfegakpjeabGreat
open Go.RowKit Go.Shelf

theorem gcdN_dvd (zs : List Int) (g0 : Nat) : (zs.foldl (fun g z => Nat.gcd g z.natAbs) g0 ∣ g0) ∧ ∀ z, z ∈ zs → zs.foldl (fun g z => Nat.gcd g z.natAbs) g0 ∣ z.natAbs := by
  induction zs generalizing g0 with
  | nil => exact ⟨Nat.dvd_refl _, by simp⟩
  | cons x xs ih =>
    obtain ⟨h1, h2⟩ := ih (Nat.gcd g0 x.natAbs)
    refine ⟨Nat.dvd_trans h1 (Nat.gcd_dvd_left _ _), ?_⟩
    intro z hz
    rcases List.mem_cons.1 hz with rfl | hz
    · exact Nat.dvd_trans h1 (Nat.gcd_dvd_right _ _)
    · exact h2 z hz
theorem gcd4_range (a b c d : Int) (hd : I64 d) (h0 : d ≠ 0) : ∃ g : Int, gcd4 a b c d = wrap64 g ∧ 1 ≤ g ∧ g ≤ 9223372036854775808 := by
  refine ⟨(gcdN [a, b, c, d] : Nat), gcd4_eq _ _ _ _, ?_, ?_⟩
  all_goals
    have h := (gcdN_dvd [a, b, c, d] 0).2 d (by simp)
    have hp : 0 < d.natAbs := by omega
    have hle := Nat.le_of_dvd hp h
    have hpos := Nat.pos_of_dvd_of_pos h hp
    unfold gcdN I64 at *
    omega
theorem lowG_ne (q : Q4) (hd : I64 q.d) (h0 : q.d ≠ 0) : ¬ lowG q = 0 := by
  obtain ⟨g, e, h1, h2⟩ := gcd4_range q.a q.b q.c q.d hd h0
  rw [lowG_eq, e]
  split <;> (unfold wrap64; omega)

/-- Three planes meet in a point; the point. -/
noncomputable def meB (p q r : Q4) : Bool := vlB (!(det p q r == 0))
theorem meB_eq (p q r : Q4) : meB p q r = !(det p q r == 0) := vlB_eq _
noncomputable def meX (p q r : Q4) : Q4 := ⟨vl (if meB p q r then quoI (rawPt p q r).a (lowG (rawPt p q r)) else 0), vl (if meB p q r then quoI (rawPt p q r).b (lowG (rawPt p q r)) else 0), vl (if meB p q r then quoI (rawPt p q r).c (lowG (rawPt p q r)) else 0), vl (if meB p q r then quoI (rawPt p q r).d (lowG (rawPt p q r)) else 0)⟩
theorem meX_hit {p q r : Q4} (h : meB p q r = true) : meX p q r = (rawPt p q r).low := by unfold meX Q4.low; simp only [vl_eq, h, if_true]
theorem meX_miss {p q r : Q4} (h : meB p q r = false) : meX p q r = ⟨0, 0, 0, 0⟩ := by unfold meX; simp [vl_eq, h]
theorem quoI_i64 (x g : Int) : I64 (quoI x g) := by rw [quoI_eq]; exact I64.wrap _
theorem meX_i64 (p q r : Q4) : (meX p q r).I64 := by
  cases h : meB p q r with
  | true => rw [meX_hit h]; exact ⟨quoI_i64 _ _, quoI_i64 _ _, quoI_i64 _ _, quoI_i64 _ _⟩
  | false => rw [meX_miss h]; refine ⟨⟨?_, ?_⟩, ⟨?_, ?_⟩, ⟨?_, ?_⟩, ⟨?_, ?_⟩⟩ <;> decide
theorem meet_any (p q r : Q4) (w : World) :
    Calls Tryz.prog 80 #[.agg #[.int .i64 (p.a), .int .i64 (p.b), .int .i64 (p.c), .int .i64 (p.d)], .agg #[.int .i64 (q.a), .int .i64 (q.b), .int .i64 (q.c), .int .i64 (q.d)], .agg #[.int .i64 (r.a), .int .i64 (r.b), .int .i64 (r.c), .int .i64 (r.d)]] w fun e w' => e = .returned (.tuple #[.agg #[.int .i64 ((meX p q r).a), .int .i64 ((meX p q r).b), .int .i64 ((meX p q r).c), .int .i64 ((meX p q r).d)], .bool (meB p q r)]) ∧ Below w.heap.size w w' := by
  cases h : meB p q r with
  | true =>
    have hd : (det p q r == 0) = false := by rw [meB_eq] at h; simpa using h
    have h0 : (rawPt p q r).d ≠ 0 := by
      have e : (rawPt p q r).d = det p q r := (det_eq p q r).symm
      rw [e]; simpa using hd
    rw [meX_hit h]
    exact meet_ok p q r w hd (lowG_ne _ (rawPt_i64 p q r).2.2.2 h0)
  | false =>
    rw [meX_miss h]
    exact meet_none p q r w (by rw [meB_eq] at h; simpa using h)

/-- The points in which planes meet the line of two. -/
noncomputable def mets (p q : Q4) (ps : List Q4) : List Q4 := (ps.filter (meB p q)).map (meX p q)
theorem mets_hit {p q : Q4} {ps : List Q4} {k : Nat} {r : Q4} (hk : ps[k]? = some r) (h : meB p q r = true) : mets p q (ps.take (k + 1)) = mets p q (ps.take k) ++ [meX p q r] := by
  obtain ⟨h1, h2⟩ := List.getElem?_eq_some_iff.1 hk
  rw [List.take_succ_eq_append_getElem h1]; unfold mets; simp [h2, h]
theorem mets_miss {p q : Q4} {ps : List Q4} {k : Nat} {r : Q4} (hk : ps[k]? = some r) (h : meB p q r = false) : mets p q (ps.take (k + 1)) = mets p q (ps.take k) := by
  obtain ⟨h1, h2⟩ := List.getElem?_eq_some_iff.1 hk
  rw [List.take_succ_eq_append_getElem h1]; unfold mets; simp [h2, h]
theorem mets_len (p q : Q4) (ps : List Q4) : (mets p q ps).length ≤ ps.length := by unfold mets; simp; exact List.length_filter_le _ _
theorem mets_i64 (p q : Q4) (ps : List Q4) : ∀ x, x ∈ mets p q ps → x.I64 := by
  intro x hx; unfold mets at hx
  obtain ⟨r, _, rfl⟩ := List.mem_map.1 hx
  exact meX_i64 p q r
theorem SlV.read {W : World} {v : Value} {ps : List Q4} (h : SlV W v ps) : ps = [] ∧ v = .slice none 0 0 ∨ ∃ b o cap, v = .slice (some ⟨b, o, none⟩) ps.length cap ∧ b < W.heap.size ∧ Sl4 W b o ps := by
  rcases h with ⟨h1, h2⟩ | h
  · exact .inl ⟨h2, h1⟩
  · exact .inr h

theorem grown_of_below {w w' : World} (h : Below w.heap.size w w') : w.grownBy w' none := ⟨h.os, h.tape, h.output, h.size, fun k hk _ => h.block k hk⟩

set_option maxRecDepth 100000 in
set_option maxHeartbeats 2000000 in
/-- line.meets$1, a slice that is not nil. -/
theorem meets1_sl (n l Bl Bp Bq n₀ b o cap : Nat) (hn : 1 ≤ n) (p q : Q4) (ps : List Q4) (J Jx : List Q4 → World → Prop) (hl : ps.length ≤ 1000000)
    (hY : ∀ pre x W, J pre W → pre.length < ps.length → YieldAt Fence.wide (n - 1) Tryz.prog l #[.agg #[.int .i64 (x.a), .int .i64 (x.b), .int .i64 (x.c), .int .i64 (x.d)]] W fun e W' =>
      (e = .returned (.bool true) ∧ J (pre ++ [x]) W' ∧ Below n₀ W W') ∨ (e = .returned (.bool false) ∧ Jx (pre ++ [x]) W'))
    (hJ : ∀ s W W', J s W → W.grownBy W' none → J s W')
    (W : World) (hn₀ : n₀ ≤ W.heap.size) (hBl : Bl < n₀) (hBp : Bp < n₀) (hBq : Bq < n₀) (hb : b < n₀)
    (cl : W.cell? ⟨Bl, 0, none⟩ = some (.slice (some ⟨b, o, none⟩) ps.length cap)) (cp : At4 W Bp 0 p) (cq : At4 W Bq 0 q) (cs : Sl4 W b o ps) (h0 : J [] W) :
    CallsIn Fence.wide n Tryz.prog 79 #[.func (.yield l) #[] #[], .pointer (some ⟨Bl, 0, none⟩), .pointer (some ⟨Bp, 0, none⟩), .pointer (some ⟨Bq, 0, none⟩)] W fun e W' => (∃ v, e = .returned v) ∧
      ((∃ ys, ys = mets p q ps ∧ J ys W') ∨ (∃ pre, True ∧ Jx pre W')) := by
  have HS := Lib.hid cs
  have HP := Lib.hid cp
  have HQ := Lib.hid cq
  have HJ := Lib.hid hJ
  have HY := Lib.hid hY
  clear cs cp cq hJ hY
  refine callsIn_of_wp Tryz.func79 rfl trivial ?_ rfl
  simp only [Tryz.ntmps79, List.size_toArray, List.length_cons, List.length_nil, Nat.reduceAdd, Nat.reduceSub, Array.replicate_succ, Array.replicate_zero, List.push_toArray, List.append_toArray, List.nil_append, List.cons_append]
  gi_wp2
  gi_loopw [11] (fun v wr => ∃ k : Nat, k ≤ ps.length ∧ v = .int .i64 k ∧ Below n₀ W wr ∧ W.heap.size ≤ wr.heap.size ∧ Hid (J (mets p q (ps.take k)) wr)) (fun v _ => ps.length - (intOf v).toNat)
  case atStart => exact ⟨0, Nat.zero_le _, rfl, Below.refl _ _, Nat.le_refl _, by unfold Hid; simpa [mets] using h0⟩
  case round =>
    rename_i wr
    obtain ⟨k, hk, rfl, hw, hsz, HK⟩ := hrel
    by_cases hlt : k < ps.length
    · obtain ⟨r, hr⟩ : ∃ r, ps[k]? = some r := ⟨_, List.getElem?_eq_getElem hlt⟩
      obtain ⟨c0, c1, c2, c3⟩ := (HS.out k r hr).below hw hb
      obtain ⟨p0, p1, p2, p3⟩ := HP.out.below hw hBp
      obtain ⟨q0, q1, q2, q3⟩ := HQ.out.below hw hBq
      simp only [Nat.zero_add] at p1 p2 p3 q1 q2 q3
      have cl1 := (hw.cell (p := ⟨Bl, 0, none⟩) hBl).trans cl
      have lp : Bp < wr.heap.size := by omega
      have lq : Bq < wr.heap.size := by omega
      have HR := Lib.hid hr
      clear hr
      have hlen : (mets p q (ps.take k)).length < ps.length := by
        have := mets_len p q (ps.take k)
        rw [List.length_take] at this; omega
      have hw0 : Below n₀ wr (wr.alloc (.cells #[.int .i64 r.a, .int .i64 r.b, .int .i64 r.c, .int .i64 r.d] 23)) := (Below.refl _ _).alloc (by omega) _
      have hl0 : n₀ ≤ (wr.alloc (.cells #[.int .i64 r.a, .int .i64 r.b, .int .i64 r.c, .int .i64 r.d] 23)).heap.size := by have := hw0.size; omega
      have hw0 := Lib.hid hw0
      cases hm : meB p q r with
      | false =>
        have HM := Lib.hid hm
        clear hm
        gi_wp2_with ((try refine ⟨trivial, ?_⟩); gi_at_call 80; refine (callsIn_wide.2 (meet_any p q r _)).mono ?_; rw [HM.out]; rintro e w1 ⟨rfl, hb1⟩; have hJ2 := HJ.out _ _ _ (HJ.out _ _ _ (HJ.out _ _ _ HK.out (World.grownBy_alloc _ _ none)) (grown_of_below hb1)) (World.grownBy_alloc _ (.cells #[.int .i64 (meX p q r).a, .int .i64 (meX p q r).b, .int .i64 (meX p q r).c, .int .i64 (meX p q r).d] 48) none))
        refine ⟨fun _ h => (by cases h), ?_⟩
        gi_wp2
        go_roundw
        case rel =>
          refine ⟨k + 1, by omega, by go_num, ?_, ?_, ?_⟩
          · exact hw.trans (hw0.out.trans ((hb1.mono hl0).alloc (by have := hb1.size; omega) _))
          · have := hb1.size; simp at this ⊢; omega
          · rw [mets_miss HR.out HM.out]; exact hJ2
        case measure => simp [intOf]; omega
      | true =>
        have HM := Lib.hid hm
        clear hm
        gi_wp2_with ((try refine ⟨trivial, ?_⟩); gi_at_call 80; refine (callsIn_wide.2 (meet_any p q r _)).mono ?_; rw [HM.out]; rintro e w1 ⟨rfl, hb1⟩; have hJ2 := HJ.out _ _ _ (HJ.out _ _ _ (HJ.out _ _ _ HK.out (World.grownBy_alloc _ _ none)) (grown_of_below hb1)) (World.grownBy_alloc _ (.cells #[.int .i64 (meX p q r).a, .int .i64 (meX p q r).b, .int .i64 (meX p q r).c, .int .i64 (meX p q r).d] 48) none); obtain ⟨fn, tmps, assign, body, hy, hR⟩ := HY.out _ (meX p q r) _ hJ2 hlen)
        refine hR.mono ?_
        rintro e W3 (⟨rfl, hJ3, hk3⟩ | ⟨rfl, hJx3⟩)
        · gi_wp2
          go_roundw
          case rel =>
            refine ⟨k + 1, by omega, by go_num, ?_, ?_, ?_⟩
            · exact hw.trans (hw0.out.trans ((((hb1.mono hl0).alloc (by have := hb1.size; omega) _)).trans hk3))
            · have := hb1.size; have h3 := hk3.size; simp at this h3 ⊢; omega
            · rw [mets_hit HR.out HM.out]; exact hJ3
          case measure => simp [intOf]; omega
        · gi_wp2
          refine bodyPost_ret (results_none rfl _ _ _) rfl ?_
          exact ⟨⟨_, rfl⟩, .inr ⟨_, trivial, hJx3⟩⟩
    · have hkk : k = ps.length := by omega
      have HKK := Lib.hid hkk
      clear hkk
      gi_wp2
      go_end0
      refine ⟨⟨_, rfl⟩, .inl ⟨_, rfl, ?_⟩⟩
      have := HK.out
      rw [HKK.out, List.take_length] at this
      exact this

end Go.Proofs.YtaoedfegakpjeabGreat

namespace Go.Proofs.YtaoedfegakpjeabGreat
open Go.RowKit Go.Shelf
attribute [local go_sem] Oper.semAt_some

/-- The cells of a row of points. -/
def flat4 (l : List Q4) : List Value := l.flatMap fun q => [.int .i64 q.a, .int .i64 q.b, .int .i64 q.c, .int .i64 q.d]
theorem flat4_snoc (l : List Q4) (q : Q4) : flat4 (l ++ [q]) = flat4 l ++ [.int .i64 q.a, .int .i64 q.b, .int .i64 q.c, .int .i64 q.d] := by simp [flat4]
theorem flat4_len (l : List Q4) : (flat4 l).length = l.length * 4 := by
  induction l with
  | nil => rfl
  | cons x xs ih => simp [flat4] at ih ⊢; omega

set_option maxRecDepth 100000 in
set_option maxHeartbeats 2000000 in
/-- line.meets$1 at the nil slice. -/
theorem meets1_nil (n l Bl Bp Bq n₀ : Nat) (_hn : 1 ≤ n) (p q : Q4) (J Jx : List Q4 → World → Prop)
    (W : World) (_hn₀ : n₀ ≤ W.heap.size) (_hBl : Bl < n₀) (cl : W.cell? ⟨Bl, 0, none⟩ = some (.slice none 0 0)) (h0 : J [] W) :
    CallsIn Fence.wide n Tryz.prog 79 #[.func (.yield l) #[] #[], .pointer (some ⟨Bl, 0, none⟩), .pointer (some ⟨Bp, 0, none⟩), .pointer (some ⟨Bq, 0, none⟩)] W fun e W' => (∃ v, e = .returned v) ∧
      ((∃ ys, ys = mets p q [] ∧ J ys W') ∨ (∃ pre, True ∧ Jx pre W')) := by
  refine callsIn_of_wp Tryz.func79 rfl trivial ?_ rfl
  simp only [Tryz.ntmps79, List.size_toArray, List.length_cons, List.length_nil, Nat.reduceAdd, Nat.reduceSub, Array.replicate_succ, Array.replicate_zero, List.push_toArray, List.append_toArray, List.nil_append, List.cons_append]
  gi_wp2
  gi_loopw [11] (fun v wr => v = .int .i64 0 ∧ Hid (J [] wr)) (fun v _ => 0)
  case atStart => exact ⟨rfl, h0⟩
  case round =>
    rename_i wr
    obtain ⟨rfl, HK⟩ := hrel
    gi_wp2
    go_end0
    exact ⟨⟨_, rfl⟩, .inl ⟨_, rfl, HK.out⟩⟩

/-- THE POINTS COME, AS AN ITERATOR. -/
theorem meets1_stops (n Bl Bp Bq n₀ : Nat) (hn : 1 ≤ n) (p q : Q4) (ps : List Q4) (v : Value) (w : World) (hl : ps.length ≤ 1000000) (hn₀ : n₀ ≤ w.heap.size)
    (hBl : Bl < n₀) (hBp : Bp < n₀) (hBq : Bq < n₀) (hv : ∀ b o cap, v = .slice (some ⟨b, o, none⟩) ps.length cap → b < n₀)
    (cl : w.cell? ⟨Bl, 0, none⟩ = some v) (cp : At4 w Bp 0 p) (cq : At4 w Bq 0 q) (cs : SlV w v ps) :
    SeqStopsK Fence.wide n Tryz.prog 79 #[.pointer (some ⟨Bl, 0, none⟩), .pointer (some ⟨Bp, 0, none⟩), .pointer (some ⟨Bq, 0, none⟩)] (fun x : Q4 => #[.agg #[.int .i64 (x.a), .int .i64 (x.b), .int .i64 (x.c), .int .i64 (x.d)]]) (Below n₀) (fun ys => ys = mets p q ps) (fun _ => True) ps.length w := by
  intro l J Jx W hW hJ hJx hY h0
  have hW' : Below n₀ w W := hW.mono hn₀
  have hs : n₀ ≤ W.heap.size := Nat.le_trans hn₀ hW.size
  have cl' := (hW'.cell (p := ⟨Bl, 0, none⟩) hBl).trans cl
  rcases cs.read with ⟨rfl, rfl⟩ | ⟨b, o, cap, rfl, hb, hS⟩
  · exact meets1_nil n l Bl Bp Bq n₀ hn p q J Jx W hs hBl cl' h0
  · have hb' := hv _ _ _ rfl
    exact meets1_sl n l Bl Bp Bq n₀ b o cap hn p q ps J Jx hl hY (fun s A B h hg => hJ s A B none h hg (fun r e => by cases e)) W hs hBl hBp hBq hb' cl' (cp.below hW' hBp) (cq.below hW' hBq) (hS.below hW' hb') h0

/-- A box of four. -/
def Boxed4 (W : World) (B : Nat) (x : Q4) : Prop := W.heap[B]? = some (.cells #[.int .i64 x.a, .int .i64 x.b, .int .i64 x.c, .int .i64 x.d] 48 (0, 0))
theorem Boxed4.kept {W W' : World} {row : Option Nat} {B : Nat} {x : Q4} (h : Boxed4 W B x) (hg : W.grownBy W' row) (hne : some B ≠ row) : Boxed4 W' B x := (hg.block B (Array.getElem?_eq_some_iff.1 h).1 hne).trans h
theorem boxed4_own {β : Type} (B : Nat) (x : Q4) : Go.Own (fun (_ : β) W => Boxed4 W B x) := fun s X Y row hs hg hrow =>
  hs.kept hg (fun e' => by obtain ⟨o, ho, hc⟩ := hrow B e'.symm; rw [show X.heap[B]? = _ from hs] at ho; cases ho; cases hc)
theorem Boxed4.at {W : World} {B : Nat} {x : Q4} (h : Boxed4 W B x) : At4 W B 0 x := by
  have e : W.heap[B]? = _ := h
  refine ⟨?_, ?_, ?_, ?_⟩ <;> simp [World.cell?, e]
theorem cell_four_new (W : World) (x : Q4) (t : TypeId) : ∀ j u, [Value.int .i64 x.a, .int .i64 x.b, .int .i64 x.c, .int .i64 x.d][j]? = some u → (W.alloc (.cells #[.int .i64 x.a, .int .i64 x.b, .int .i64 x.c, .int .i64 x.d] t)).cell? ((⟨W.heap.size, 0, none⟩ : Addr).add j) = some u := by
  have e := World.alloc_heap_new W (.cells #[.int .i64 x.a, .int .i64 x.b, .int .i64 x.c, .int .i64 x.d] t)
  generalize W.alloc (.cells #[.int .i64 x.a, .int .i64 x.b, .int .i64 x.c, .int .i64 x.d] t) = W' at e ⊢
  generalize W.heap.size = B at e ⊢
  intro j u hu
  match j, hu with
  | 0, hu | 1, hu | 2, hu | 3, hu =>
    simp at hu; subst hu
    simp [World.cell?, e, Addr.add]

theorem info48p : (Tryz.prog.info? 48).map (fun i => (i.zero, i.size, i.bytes)) = some (some (.agg #[.int .i64 0, .int .i64 0, .int .i64 0, .int .i64 0]), 4, 32) := by kernel_rfl

set_option maxRecDepth 100000 in
set_option maxHeartbeats 2000000 in
/-- slices.AppendSeq, the nil slice ahead of the points. -/
theorem appendSeq_in (n Bl Bp Bq : Nat) (hn : 4 ≤ n) (p q : Q4) (ps : List Q4) (v : Value) (w : World) (hl : ps.length ≤ 1000000)
    (hBl : Bl < w.heap.size) (hBp : Bp < w.heap.size) (hBq : Bq < w.heap.size)
    (cl : w.cell? ⟨Bl, 0, none⟩ = some v) (cp : At4 w Bp 0 p) (cq : At4 w Bq 0 q) (cs : SlV w v ps) :
    CallsIn Fence.wide n Tryz.prog 78 #[.slice none 0 0, .func (.func 79) #[] #[.pointer (some ⟨Bl, 0, none⟩), .pointer (some ⟨Bp, 0, none⟩), .pointer (some ⟨Bq, 0, none⟩)]] w fun e W' =>
      ∃ u, e = .returned u ∧ W'.ownsRow w.heap.size 48 4 u (mets p q ps).length (flat4 (mets p q ps)) ∧ (u = .slice none 0 0 ↔ mets p q ps = []) ∧ Below w.heap.size w W' := by
  have h1 : 1 ≤ n := by omega
  obtain ⟨i0, hi, hz0, hz1, hz2⟩ := info_parts info48p
  have hv : ∀ b o cap, v = .slice (some ⟨b, o, none⟩) ps.length cap → b < w.heap.size := by
    intro b o cap e
    rcases cs.read with ⟨_, h⟩ | ⟨b', o', cap', h, hb, _⟩
    · rw [h] at e; cases e
    · rw [h] at e; cases e; exact hb
  refine callsIn_of_wp_marks Tryz.func78 rfl trivial ?_ rfl
  simp only [Tryz.ntmps78, List.size_toArray, List.length_cons, List.length_nil, Nat.reduceAdd, Nat.reduceSub, Array.replicate_succ, Array.replicate_zero, List.push_toArray, List.append_toArray, List.nil_append, List.cons_append]
  gi_wp2
  have bO := Boxed.new w 59 (.slice none 0 0)
  have hB0 : Below w.heap.size w (w.alloc (.cells #[.slice none 0 0] 59)) := (Below.refl _ w).alloc (Nat.le_refl _) _
  have hsz : (w.alloc (.cells #[.slice none 0 0] 59)).heap.size = w.heap.size + 1 := by simp
  obtain ⟨W0, hW0⟩ : ∃ W0, w.alloc (.cells #[.slice none 0 0] 59) = W0 := ⟨_, rfl⟩
  rw [hW0] at bO hB0 hsz ⊢
  clear hW0
  refine wpIn_rangeFunc_ownH rfl h1 (gf := 79) (lb := #[.pointer (some ⟨Bl, 0, none⟩), .pointer (some ⟨Bp, 0, none⟩), .pointer (some ⟨Bq, 0, none⟩)]) rfl trivial (enters_of Tryz.func79 (by kernel_rfl) rfl)
    (meets1_stops (n - 1) Bl Bp Bq w.heap.size (by omega) p q ps v W0 hl (by omega) hBl hBp hBq hv ((hB0.cell (p := ⟨Bl, 0, none⟩) hBl).trans cl) (cp.below hB0 hBp) (cq.below hB0 hBq) (cs.below (Nat.le_refl _) hB0)) belowK_t (belowK_b (by omega)) (Below.refl _ _) (fun _ => rfl)
    (fun pre W => (∃ u, Boxed W w.heap.size 59 u ∧ W.ownsRow w.heap.size 48 4 u pre.length (flat4 pre) ∧ (u = .slice none 0 0 ↔ pre = [])) ∧ Below w.heap.size w W)
    (fun _ _ _ => False)
    (OwnFrom.and (Go.Own.from (holdsRow_own w.heap.size w.heap.size 59 48 4 (fun pre => pre.length) (fun pre => flat4 pre) (fun pre u => u = .slice none 0 0 ↔ pre = [])) _) (ownFrom_below (Nat.le_refl _) (by omega)))
    (fun _ _ _ _ _ hs _ _ => hs)
    ⟨⟨_, bO, World.ownsRow_nil _ _ _ _, by simp⟩, hB0⟩
    (fun x a' W => ∃ Bx, w.heap.size < Bx ∧ Boxed4 W Bx x ∧ a' = { tmps := #[.slice none 0 0, .func (.func 79) #[] #[.pointer (some ⟨Bl, 0, none⟩), .pointer (some ⟨Bp, 0, none⟩), .pointer (some ⟨Bq, 0, none⟩)], .pointer (some ⟨w.heap.size, 0, none⟩), undef, .slice none 0 0, .pointer (some ⟨Bx, 0, none⟩), .func (.func 79) #[] #[.pointer (some ⟨Bl, 0, none⟩), .pointer (some ⟨Bp, 0, none⟩), .pointer (some ⟨Bq, 0, none⟩)], .agg #[.int .i64 (x.a), .int .i64 (x.b), .int .i64 (x.c), .int .i64 (x.d)], undef, undef, undef, undef, undef], defers := [] })
    (fun x a' _ X Y row hs hg hr => by obtain ⟨Bx, h1, h2, h3⟩ := hs; exact ⟨Bx, h1, boxed4_own (β := Unit) Bx x () X Y row h2 hg (fun r e => (hr r e).2), h3⟩)
    ?assign ?body ?done ?stop
  case assign =>
    rintro l pre x W K ⟨⟨u, bS1, hrow, hnil⟩, hB1⟩ hK
    gi_wp2
    exact hK _ _ ((KeepsOthers.alloc _ _).from _) ((Below.refl _ W).alloc hB1.size _) ⟨⟨u, bS1.alloc _, hrow.alloc _, hnil⟩, hB1.alloc hB1.size _⟩ ⟨W.heap.size, bS1.lt, World.alloc_heap_new W _, rfl⟩
  case body =>
    rintro l pre x a' W hl' _ ⟨⟨u, hv1, hrow, hnil⟩, hB⟩ ⟨Bx, hBx, bX, rfl⟩ hlt
    have hc := hv1.cell
    obtain ⟨x0, x1, x2, x3⟩ := bX.at
    simp only [Nat.zero_add] at x1 x2 x3
    gi_wp2_with (gi_at_builtin; refine wpListIn_append_own _ rfl _ _ 59 rfl w.heap.size 48 i0 (.agg #[.int .i64 0, .int .i64 0, .int .i64 0, .int .i64 0]) 4 32 Tryz.underlying59 hi hz0 hz1 hz2 rfl (by decide) _ _ _ rfl (hrow.alloc _) ⟨W.heap.size, 0, none⟩ 1 1 [.int .i64 x.a, .int .i64 x.b, .int .i64 x.c, .int .i64 x.d] rfl rfl (cell_four_new _ _ _) (by simp [Value.oneCell']) (by simp [maxLen]; omega) (by omega) (by have := hB.size; simp; omega) ?_; intro v' w1 hown' hgrow _; obtain ⟨g', cap', rfl⟩ := ownsRow_succ hown'; obtain ⟨hv1', hv2, hr2, hk2, hb2⟩ := hv1.appended (by decide) hrow hB.size (Nat.le_refl _) hown' hgrow; have hc1 := hv1'.cell; have hf1 := hv1'.frozen)
    exact ⟨hk2.from _, hb2, ⟨_, hv2, by rw [flat4_snoc]; simpa using hr2, by simp⟩, hB.trans hb2⟩
  case done =>
    rintro D ys W hD rfl ⟨⟨u, hv1, hrow, hnil⟩, hB⟩ hK
    have hc := hv1.cell
    gi_wp2
    refine ⟨by simp, .inl ⟨_, _, rfl, run_takeDeferred hK, ?_⟩⟩
    exact ⟨_, results_tmp rfl _ _ _, u, rfl, ownsRow_putObj hrow _ hK rfl, hnil, hB.trans (belowK_b (w := w) (Nat.le_refl _) W D _ _ (by omega) hK rfl rfl)⟩
  case stop =>
    rintro D c pre W _ _ h _
    exact h.elim

end Go.Proofs.YtaoedfegakpjeabGreat

namespace Go.Proofs.YtaoedfegakpjeabGreat
open Go.RowKit Go.Shelf

set_option maxHeartbeats 1000000 in
/-- slices.Collect of the points. -/
theorem collect_any (Bl Bp Bq : Nat) (p q : Q4) (ps : List Q4) (v : Value) (w : World) (hl : ps.length ≤ 1000000)
    (hBl : Bl < w.heap.size) (hBp : Bp < w.heap.size) (hBq : Bq < w.heap.size)
    (cl : w.cell? ⟨Bl, 0, none⟩ = some v) (cp : At4 w Bp 0 p) (cq : At4 w Bq 0 q) (cs : SlV w v ps) :
    Calls Tryz.prog 54 #[.func (.func 79) #[] #[.pointer (some ⟨Bl, 0, none⟩), .pointer (some ⟨Bp, 0, none⟩), .pointer (some ⟨Bq, 0, none⟩)]] w fun e W' =>
      ∃ u, e = .returned u ∧ W'.ownsRow w.heap.size 48 4 u (mets p q ps).length (flat4 (mets p q ps)) ∧ (u = .slice none 0 0 ↔ mets p q ps = []) ∧ Below w.heap.size w W' := by
  have h := callsIn_wide.1 (appendSeq_in 4 Bl Bp Bq (by omega) p q ps v w hl hBl hBp hBq cl cp cq cs)
  clear cl cp cq cs
  go_enter Tryz.func54, Tryz.ntmps54
  go_wp2_with (go_at_call 78; refine h.mono ?_; clear h; rintro e w1 ⟨u, rfl, hrow, hnil, hb1⟩)
  go_ret
  exact ⟨u, rfl, hrow, hnil, hb1⟩

set_option maxHeartbeats 1000000 in
/-- line.meets: the closure, and the three boxes. -/
theorem meets_any (p q : Q4) (v : Value) (w : World) (hz : ∃ o n c, v = .slice o n c) :
    Calls Tryz.prog 55 #[.agg #[.int .i64 (p.a), .int .i64 (p.b), .int .i64 (p.c), .int .i64 (p.d)], .agg #[.int .i64 (q.a), .int .i64 (q.b), .int .i64 (q.c), .int .i64 (q.d)], v] w fun e w' =>
      e = .returned (.func (.func 79) #[] #[.pointer (some ⟨w.heap.size + 1 + 1, 0, none⟩), .pointer (some ⟨w.heap.size, 0, none⟩), .pointer (some ⟨w.heap.size + 1, 0, none⟩)]) ∧
      w' = ((w.alloc (.cells #[.int .i64 p.a, .int .i64 p.b, .int .i64 p.c, .int .i64 p.d] 23)).alloc (.cells #[.int .i64 q.a, .int .i64 q.b, .int .i64 q.c, .int .i64 q.d] 23)).alloc (.cells #[v] 31) := by
  obtain ⟨o, n, c, rfl⟩ := hz
  go_enter Tryz.func55, Tryz.ntmps55
  go_wp2
  go_ret
  exact ⟨rfl, rfl⟩

end Go.Proofs.YtaoedfegakpjeabGreat
