/- Contracts of the functions that the statement reaches, and plain lemmas: part 19 of 29. -/
import Derived.Test.YtealnhaffphamaaGreatK18
import Derived.Test.YtealnhaffphamaaGreatK16
import Derived.Test.YtealnhaffphamaaGreatK17
set_option linter.unusedVariables false
set_option linter.unusedSimpArgs false

-- PRINTED BY print.sh 35421559b90ae4d0a3588c463048766b98c2df88dd9212a6774a882060cdf62d: not written by this session
namespace Go.Proofs.YtealnhaffphamaaGreat.PNew
open Go.RowKit Go.Proofs.YtealnhaffphamaaGreatW.PrintWords Go.Proofs.YtealnhaffphamaaGreatW.PrintLast Go.Proofs.YtealnhaffphamaaGreatW.PrintMore
attribute [local go_sem] max2_int min2_int max_two min_two max_three min_three max_four min_four   -- for this text's walks alone
set_option linter.unusedVariables false
set_option linter.unusedSimpArgs false

/-! ### euler_New: function 24 -/
def euler_New.f  : Option (Int × (List (List (List Int)))) := some (1, (([(([(([0] : List Int))] : List (List Int)))] : List (List (List Int)))))
set_option maxHeartbeats 8000000 in
set_option maxRecDepth 100000 in
theorem euler_New.calls  (r1 : Int) (r2 : List (List (List Int))) (w : World) (h : euler_New.f  = some (r1, r2)) :
    Calls Tryz.prog 24 #[] w fun e w' => ∃ v1_ : Value, e = .returned (.agg #[.int .i64 r1, v1_]) ∧ Kd.N (Kd.slice 43 (Kd.slice 3 (Kd.int .i64))) 42 w' w.heap.size (fun k_ => (w.heap.size ≤ k_)) v1_ r2 ∧ Below w.heap.size w w' := by
  have hu31 := Tryz.underlying31
  have HB := Aside0.mk (Below.refl w.heap.size w)
  have H : (some (1, (([(([(([0] : List Int))] : List (List Int)))] : List (List (List Int)))))) = some (r1, r2) := h
  clear h
  obtain ⟨y102, hy102⟩ : ∃ y_ : List Int, y_ = (([0] : List Int)) := ⟨_, rfl⟩
  replace H : (some (1, (([(([y102] : List (List Int)))] : List (List (List Int)))))) = some (r1, r2) := by first | (rw [hy102]; with_reducible exact H) | (have H2_ := (Option.bind_some _ _).symm.trans H; rw [hy102]; with_reducible exact H2_) | (have H2_ := (Option.bind_some _ _).symm.trans H; with_reducible exact H2_) | with_reducible exact H | (rw [hy102]; exact H) | exact H
  have Ny102 := Aside0.mk hy102
  clear hy102
  obtain ⟨y105, hy105⟩ : ∃ y_ : List (List Int), y_ = (([y102] : List (List Int))) := ⟨_, rfl⟩
  replace H : (some (1, (([y105] : List (List (List Int)))))) = some (r1, r2) := by first | (rw [hy105]; with_reducible exact H) | (have H2_ := (Option.bind_some _ _).symm.trans H; rw [hy105]; with_reducible exact H2_) | (have H2_ := (Option.bind_some _ _).symm.trans H; with_reducible exact H2_) | with_reducible exact H | (rw [hy105]; exact H) | exact H
  have Ny105 := Aside0.mk hy105
  clear hy105
  obtain ⟨y108, hy108⟩ : ∃ y_ : List (List (List Int)), y_ = (([y105] : List (List (List Int)))) := ⟨_, rfl⟩
  replace H : (some (1, y108)) = some (r1, r2) := by first | (rw [hy108]; with_reducible exact H) | (have H2_ := (Option.bind_some _ _).symm.trans H; rw [hy108]; with_reducible exact H2_) | (have H2_ := (Option.bind_some _ _).symm.trans H; with_reducible exact H2_) | with_reducible exact H | (rw [hy108]; exact H) | exact H
  have Ny108 := Aside0.mk hy108
  clear hy108
  simp only [Option.some.injEq, Prod.mk.injEq] at H
  obtain ⟨rfl, rfl⟩ := H
  go_enter Tryz.func24, Tryz.ntmps24
  go_wp2_with (first | ((with_reducible refine gate_dst (N := 0) rfl ?_); refine box_event ?hg (N := 0) ?hd (cs := #[.int .i64 0, .slice none 0 0]) (t := 31) ?hr ?_; (case hd => rfl); (case hg => rfl); (case hr => first | (go_simp; done) | (go_simp; rfl)); intro gb101 hg w1 hbox hb; have n0_ := Aside0.mk (below_step (by repeat (first | (with_reducible first | exact HB.out | apply below_alloc | apply pw_below_drewN | apply below_drew1) | exact HB.out)) hb); have n1_ := Aside0.mk (hbox); have n2_ := Aside0.mk ((by rw [hg]; exact (below_size (by repeat (first | (with_reducible first | exact HB.out | apply below_alloc | apply pw_below_drewN | apply below_drew1) | exact HB.out))) : w.heap.size ≤ gb101)); have n3_ := Aside0.mk ((by rw [hg]; exact (below_size (by repeat (first | (with_reducible first | exact HB.out | apply below_alloc | apply pw_below_drewN | apply below_drew1) | exact HB.out))) : w.heap.size ≤ gb101)); clear HB; have HB := n0_; have BK101 := n1_; have GW101 := n2_; have GE101 := n3_; clear n0_ n1_ n2_ n3_; clear hb hbox hg) | ((with_reducible refine gate_dst (N := 1) rfl ?_); refine Kd.R_lit (Kd.int .i64) _ 3 ?hg (N := 1) ?hd (xs := ([0] : List Int)) (inner := [.int .i64 0]) (ok := fun _ => True) (okp := fun _ => True) ?hr ?hp (fun _ hk => hk) trivial (Below.refl _ _) (Nat.le_refl _) (by simp) ?_; (case hd => rfl); (case hg => rfl); (case hr => first | (go_simp; done) | (go_simp; rfl)); (case hp => exact (Reps.one (show Kd.M (Kd.int .i64) _ _ _ 0 [.int .i64 0] from rfl) (Reps.none _ _))); intro v103 w2 ho3 hb hg_ hnew_; clear hg_ hnew_; (first | rw [← Ny102.out] at ho3 | (simp only [Int.reduceToNat] at ho3; rw [← Ny102.out] at ho3)); have n0_ := Aside0.mk (Kd.R_lower (Kd.R_newM (M := fun k_ => (w.heap.size ≤ k_)) ho3 (below_size (by repeat (first | (with_reducible first | exact HB.out | apply below_alloc | apply pw_below_drewN | apply below_drew1 | refine below_set ?_ GE101.out) | exact HB.out))) (fun k_ h_ => h_)) (below_size (by repeat (first | (with_reducible first | exact HB.out | apply below_alloc | apply pw_below_drewN | apply below_drew1 | refine below_set ?_ GE101.out) | exact HB.out)))); have n1_ := Aside0.mk (blk_below (g := gb101) (o := .cells #[.int .i64 0, .slice none 0 0] 31 (0, 0)) (by (with_reducible repeat (first | refine blk_drewN ?_ _ | refine blk_drew ?_ | refine blk_alloc ?_ _)); exact BK101.out) hb); have n2_ := Aside0.mk (below_step (by repeat (first | (with_reducible first | exact HB.out | apply below_alloc | apply pw_below_drewN | apply below_drew1 | refine below_set ?_ GE101.out) | exact HB.out)) hb); clear BK101; clear HB; have HO104 := n0_; have BK101 := n1_; have HB := n2_; clear n0_ n1_ n2_; clear hb ho3; obtain ⟨Ao4, co4, eo4⟩ := Kd.R_slice HO104.out; subst eo4) | ((with_reducible refine gate_dst (N := 2) rfl ?_); refine Kd.N_lit (Kd.slice 3 (Kd.int .i64)) _ 43 ?hg (N' := 2) ?hd (xs := ([y102] : List (List Int))) (inner := [.slice Ao4 y102.length co4]) (ok := (fun k_ => (w.heap.size ≤ k_) ∧ k_ ≠ gb101)) (okp := (fun k_ => (w.heap.size ≤ k_) ∧ k_ ≠ gb101)) ?hr ?hp (fun _ hk => hk) ((show ∀ k_, w2.heap.size ≤ k_ → (fun k_ => (w.heap.size ≤ k_) ∧ k_ ≠ gb101) k_ from fun k_ hk => ⟨(Nat.le_trans (below_size (by repeat (first | (with_reducible first | exact HB.out | apply below_alloc | apply pw_below_drewN | apply below_drew1 | refine below_set ?_ GE101.out) | exact HB.out))) hk), Kd.freshB (g := gb101) (o := .cells #[.int .i64 0, .slice none 0 0] 31 (0, 0)) (by (with_reducible repeat (first | refine blk_drewN ?_ _ | refine blk_drew ?_ | refine blk_alloc ?_ _)); exact BK101.out) k_ hk⟩) _ (Nat.le_refl _)) (Below.refl _ _) (Nat.le_refl _) (by simp) ?_; (case hd => rfl); (case hg => rfl); (case hr => first | (go_simp; done) | (go_simp; rfl)); (case hp => exact (Reps.one (show Kd.FK (Kd.slice 3 (Kd.int .i64)) _ _ y102 [.slice Ao4 y102.length co4] from (Kd.FK_slice_mk (Kd.R_reads' (Kd.R_mono (ok' := (fun k_ => (w.heap.size ≤ k_) ∧ k_ ≠ gb101)) (Kd.R_types (HO104.out) BK101.out (by decide)) (fun k_ hk => ⟨hk.1.1, hk.2⟩))).2.1 (Kd.R_F (Kd.R_mono (ok' := (fun k_ => (w.heap.size ≤ k_) ∧ k_ ≠ gb101)) (Kd.R_types (HO104.out) BK101.out (by decide)) (fun k_ hk => ⟨hk.1.1, hk.2⟩))))) (Reps.none _ _))); intro v106 w5 ho6 hb hg_ hnew_; clear hg_ hnew_; (first | rw [← Ny105.out] at ho6 | (simp only [Int.reduceToNat] at ho6; rw [← Ny105.out] at ho6)); have n0_ := Aside0.mk (Kd.N_lower ho6 (below_size (by repeat (first | (with_reducible first | exact HB.out | apply below_alloc | apply pw_below_drewN | apply below_drew1 | refine below_set ?_ GE101.out) | exact HB.out)))); have n1_ := Aside0.mk (blk_below (g := gb101) (o := .cells #[.int .i64 0, .slice none 0 0] 31 (0, 0)) (by (with_reducible repeat (first | refine blk_drewN ?_ _ | refine blk_drew ?_ | refine blk_alloc ?_ _)); exact BK101.out) hb); have n2_ := Aside0.mk (below_step (by repeat (first | (with_reducible first | exact HB.out | apply below_alloc | apply pw_below_drewN | apply below_drew1 | refine below_set ?_ GE101.out) | exact HB.out)) hb); clear BK101; clear HB; clear HO104; have HO107 := n0_; have BK101 := n1_; have HB := n2_; clear n0_ n1_ n2_; clear hb ho6; obtain ⟨Ao7, co7, eo7⟩ := Kd.N_slice HO107.out; subst eo7) | ((with_reducible refine gate_dst (N := 3) rfl ?_); refine Kd.N_lit (Kd.slice 43 (Kd.slice 3 (Kd.int .i64))) _ 42 ?hg (N' := 3) ?hd (xs := ([y105] : List (List (List Int)))) (inner := [.slice Ao7 y105.length co7]) (ok := (fun k_ => (w.heap.size ≤ k_) ∧ k_ ≠ gb101)) (okp := (fun k_ => (w.heap.size ≤ k_) ∧ k_ ≠ gb101)) ?hr ?hp (fun _ hk => hk) ((show ∀ k_, w5.heap.size ≤ k_ → (fun k_ => (w.heap.size ≤ k_) ∧ k_ ≠ gb101) k_ from fun k_ hk => ⟨(Nat.le_trans (below_size (by repeat (first | (with_reducible first | exact HB.out | apply below_alloc | apply pw_below_drewN | apply below_drew1 | refine below_set ?_ GE101.out) | exact HB.out))) hk), Kd.freshB (g := gb101) (o := .cells #[.int .i64 0, .slice none 0 0] 31 (0, 0)) (by (with_reducible repeat (first | refine blk_drewN ?_ _ | refine blk_drew ?_ | refine blk_alloc ?_ _)); exact BK101.out) k_ hk⟩) _ (Nat.le_refl _)) (Below.refl _ _) (Nat.le_refl _) (by simp) ?_; (case hd => rfl); (case hg => rfl); (case hr => first | (go_simp; done) | (go_simp; rfl)); (case hp => exact (Reps.one (show Kd.FK (Kd.slice 43 (Kd.slice 3 (Kd.int .i64))) _ _ y105 [.slice Ao7 y105.length co7] from (Kd.FK_slice_mk (Kd.N_reads' (Kd.N_mono (ok' := (fun k_ => (w.heap.size ≤ k_) ∧ k_ ≠ gb101)) (HO107.out) (fun k_ hk => ⟨hk.1, hk.2⟩))).2.1 (Kd.N_F (Kd.N_mono (ok' := (fun k_ => (w.heap.size ≤ k_) ∧ k_ ≠ gb101)) (HO107.out) (fun k_ hk => ⟨hk.1, hk.2⟩))))) (Reps.none _ _))); intro v109 w8 ho9 hb hg_ hnew_; clear hg_ hnew_; (first | rw [← Ny108.out] at ho9 | (simp only [Int.reduceToNat] at ho9; rw [← Ny108.out] at ho9)); have n0_ := Aside0.mk (Kd.N_lower ho9 (below_size (by repeat (first | (with_reducible first | exact HB.out | apply below_alloc | apply pw_below_drewN | apply below_drew1 | refine below_set ?_ GE101.out) | exact HB.out)))); have n1_ := Aside0.mk (blk_below (g := gb101) (o := .cells #[.int .i64 0, .slice none 0 0] 31 (0, 0)) (by (with_reducible repeat (first | refine blk_drewN ?_ _ | refine blk_drew ?_ | refine blk_alloc ?_ _)); exact BK101.out) hb); have n2_ := Aside0.mk (below_step (by repeat (first | (with_reducible first | exact HB.out | apply below_alloc | apply pw_below_drewN | apply below_drew1 | refine below_set ?_ GE101.out) | exact HB.out)) hb); clear BK101; clear HB; clear HO107; have HO110 := n0_; have BK101 := n1_; have HB := n2_; clear n0_ n1_ n2_; clear hb ho9; obtain ⟨Ao10, co10, eo10⟩ := Kd.N_slice HO110.out; subst eo10; have hcz11_0 : w8.cell? ⟨gb101, 0, none⟩ = some (.int .i64 0) := (blk_cell BK101.out 0).trans rfl; have hcz11_1 : w8.cell? ⟨gb101, 1, none⟩ = some (.slice none 0 0) := (blk_cell BK101.out 1).trans rfl; have hfz11_0 := blk_frozen BK101.out 0; have hfz11_1 := blk_frozen BK101.out 1))
  refine bodyPost_ret (results_cell_row rfl _ _ gb101 31 #[.int .i64 1, .slice Ao10 y108.length co10] (0, 0) _ rfl (by (with_reducible repeat (first | refine blk_drewN ?_ _ | refine blk_drew ?_ | refine blk_alloc ?_ _)); refine blk_put (cs := #[.int .i64 1, .slice none 0 0]) ?_ 1 _ rfl; (with_reducible repeat (first | refine blk_drewN ?_ _ | refine blk_drew ?_ | refine blk_alloc ?_ _)); refine blk_put (cs := #[.int .i64 0, .slice none 0 0]) ?_ 0 _ rfl; (with_reducible repeat (first | refine blk_drewN ?_ _ | refine blk_drew ?_ | refine blk_alloc ?_ _)); exact BK101.out) Tryz.underlying31 rfl (by kernel_rfl)) rfl ?_
  exact ⟨_, by first | rfl | (simp [errW_none, errW_some] <;> rfl) | (simp [*, errW_none, errW_some] <;> rfl), by (with_reducible repeat (first | apply Kd.N_alloc | apply Kd.N_drewN | apply Kd.N_drew)); exact Kd.N_mono (Kd.N_far (p := ⟨gb101, 1, none⟩) (Kd.N_far (p := ⟨gb101, 0, none⟩) (Kd.N_mono HO110.out (fun k_ hk => (⟨hk, hk.2⟩ : _ ∧ k_ ≠ gb101))) (fun _ hk => hk.2) (.int .i64 1)) (fun _ hk => hk.2) (.slice Ao10 y108.length co10)) (fun _ hk => hk.1.1), by repeat (first | (with_reducible first | exact HB.out | apply below_alloc | apply pw_below_drewN | apply below_drew1 | refine below_set ?_ GE101.out) | exact HB.out)⟩

/-! ### spokeshaveref14_New: function 30 -/
def spokeshaveref14_New.f  : Option (Int × (List (List (List Int)))) := some (1, (([(([(([0] : List Int))] : List (List Int)))] : List (List (List Int)))))
set_option maxHeartbeats 8000000 in
set_option maxRecDepth 100000 in
theorem spokeshaveref14_New.calls  (r1 : Int) (r2 : List (List (List Int))) (w : World) (h : spokeshaveref14_New.f  = some (r1, r2)) :
    Calls Tryz.prog 30 #[] w fun e w' => ∃ v1_ : Value, e = .returned (.agg #[.int .i64 r1, v1_]) ∧ Kd.N (Kd.slice 43 (Kd.slice 3 (Kd.int .i64))) 42 w' w.heap.size (fun k_ => (w.heap.size ≤ k_)) v1_ r2 ∧ Below w.heap.size w w' := by
  have hu28 := Tryz.underlying28
  have HB := Aside0.mk (Below.refl w.heap.size w)
  have H : (some (1, (([(([(([0] : List Int))] : List (List Int)))] : List (List (List Int)))))) = some (r1, r2) := h
  clear h
  obtain ⟨y112, hy112⟩ : ∃ y_ : List Int, y_ = (([0] : List Int)) := ⟨_, rfl⟩
  replace H : (some (1, (([(([y112] : List (List Int)))] : List (List (List Int)))))) = some (r1, r2) := by first | (rw [hy112]; with_reducible exact H) | (have H2_ := (Option.bind_some _ _).symm.trans H; rw [hy112]; with_reducible exact H2_) | (have H2_ := (Option.bind_some _ _).symm.trans H; with_reducible exact H2_) | with_reducible exact H | (rw [hy112]; exact H) | exact H
  have Ny112 := Aside0.mk hy112
  clear hy112
  obtain ⟨y115, hy115⟩ : ∃ y_ : List (List Int), y_ = (([y112] : List (List Int))) := ⟨_, rfl⟩
  replace H : (some (1, (([y115] : List (List (List Int)))))) = some (r1, r2) := by first | (rw [hy115]; with_reducible exact H) | (have H2_ := (Option.bind_some _ _).symm.trans H; rw [hy115]; with_reducible exact H2_) | (have H2_ := (Option.bind_some _ _).symm.trans H; with_reducible exact H2_) | with_reducible exact H | (rw [hy115]; exact H) | exact H
  have Ny115 := Aside0.mk hy115
  clear hy115
  obtain ⟨y118, hy118⟩ : ∃ y_ : List (List (List Int)), y_ = (([y115] : List (List (List Int)))) := ⟨_, rfl⟩
  replace H : (some (1, y118)) = some (r1, r2) := by first | (rw [hy118]; with_reducible exact H) | (have H2_ := (Option.bind_some _ _).symm.trans H; rw [hy118]; with_reducible exact H2_) | (have H2_ := (Option.bind_some _ _).symm.trans H; with_reducible exact H2_) | with_reducible exact H | (rw [hy118]; exact H) | exact H
  have Ny118 := Aside0.mk hy118
  clear hy118
  simp only [Option.some.injEq, Prod.mk.injEq] at H
  obtain ⟨rfl, rfl⟩ := H
  go_enter Tryz.func30, Tryz.ntmps30
  go_wp2_with (first | ((with_reducible refine gate_dst (N := 0) rfl ?_); refine box_event ?hg (N := 0) ?hd (cs := #[.int .i64 0, .slice none 0 0]) (t := 28) ?hr ?_; (case hd => rfl); (case hg => rfl); (case hr => first | (go_simp; done) | (go_simp; rfl)); intro gb111 hg w1 hbox hb; have n0_ := Aside0.mk (below_step (by repeat (first | (with_reducible first | exact HB.out | apply below_alloc | apply pw_below_drewN | apply below_drew1) | exact HB.out)) hb); have n1_ := Aside0.mk (hbox); have n2_ := Aside0.mk ((by rw [hg]; exact (below_size (by repeat (first | (with_reducible first | exact HB.out | apply below_alloc | apply pw_below_drewN | apply below_drew1) | exact HB.out))) : w.heap.size ≤ gb111)); have n3_ := Aside0.mk ((by rw [hg]; exact (below_size (by repeat (first | (with_reducible first | exact HB.out | apply below_alloc | apply pw_below_drewN | apply below_drew1) | exact HB.out))) : w.heap.size ≤ gb111)); clear HB; have HB := n0_; have BK111 := n1_; have GW111 := n2_; have GE111 := n3_; clear n0_ n1_ n2_ n3_; clear hb hbox hg) | ((with_reducible refine gate_dst (N := 1) rfl ?_); refine Kd.R_lit (Kd.int .i64) _ 3 ?hg (N := 1) ?hd (xs := ([0] : List Int)) (inner := [.int .i64 0]) (ok := fun _ => True) (okp := fun _ => True) ?hr ?hp (fun _ hk => hk) trivial (Below.refl _ _) (Nat.le_refl _) (by simp) ?_; (case hd => rfl); (case hg => rfl); (case hr => first | (go_simp; done) | (go_simp; rfl)); (case hp => exact (Reps.one (show Kd.M (Kd.int .i64) _ _ _ 0 [.int .i64 0] from rfl) (Reps.none _ _))); intro v113 w2 ho3 hb hg_ hnew_; clear hg_ hnew_; (first | rw [← Ny112.out] at ho3 | (simp only [Int.reduceToNat] at ho3; rw [← Ny112.out] at ho3)); have n0_ := Aside0.mk (Kd.R_lower (Kd.R_newM (M := fun k_ => (w.heap.size ≤ k_)) ho3 (below_size (by repeat (first | (with_reducible first | exact HB.out | apply below_alloc | apply pw_below_drewN | apply below_drew1 | refine below_set ?_ GE111.out) | exact HB.out))) (fun k_ h_ => h_)) (below_size (by repeat (first | (with_reducible first | exact HB.out | apply below_alloc | apply pw_below_drewN | apply below_drew1 | refine below_set ?_ GE111.out) | exact HB.out)))); have n1_ := Aside0.mk (blk_below (g := gb111) (o := .cells #[.int .i64 0, .slice none 0 0] 28 (0, 0)) (by (with_reducible repeat (first | refine blk_drewN ?_ _ | refine blk_drew ?_ | refine blk_alloc ?_ _)); exact BK111.out) hb); have n2_ := Aside0.mk (below_step (by repeat (first | (with_reducible first | exact HB.out | apply below_alloc | apply pw_below_drewN | apply below_drew1 | refine below_set ?_ GE111.out) | exact HB.out)) hb); clear BK111; clear HB; have HO114 := n0_; have BK111 := n1_; have HB := n2_; clear n0_ n1_ n2_; clear hb ho3; obtain ⟨Ao4, co4, eo4⟩ := Kd.R_slice HO114.out; subst eo4) | ((with_reducible refine gate_dst (N := 2) rfl ?_); refine Kd.N_lit (Kd.slice 3 (Kd.int .i64)) _ 43 ?hg (N' := 2) ?hd (xs := ([y112] : List (List Int))) (inner := [.slice Ao4 y112.length co4]) (ok := (fun k_ => (w.heap.size ≤ k_) ∧ k_ ≠ gb111)) (okp := (fun k_ => (w.heap.size ≤ k_) ∧ k_ ≠ gb111)) ?hr ?hp (fun _ hk => hk) ((show ∀ k_, w2.heap.size ≤ k_ → (fun k_ => (w.heap.size ≤ k_) ∧ k_ ≠ gb111) k_ from fun k_ hk => ⟨(Nat.le_trans (below_size (by repeat (first | (with_reducible first | exact HB.out | apply below_alloc | apply pw_below_drewN | apply below_drew1 | refine below_set ?_ GE111.out) | exact HB.out))) hk), Kd.freshB (g := gb111) (o := .cells #[.int .i64 0, .slice none 0 0] 28 (0, 0)) (by (with_reducible repeat (first | refine blk_drewN ?_ _ | refine blk_drew ?_ | refine blk_alloc ?_ _)); exact BK111.out) k_ hk⟩) _ (Nat.le_refl _)) (Below.refl _ _) (Nat.le_refl _) (by simp) ?_; (case hd => rfl); (case hg => rfl); (case hr => first | (go_simp; done) | (go_simp; rfl)); (case hp => exact (Reps.one (show Kd.FK (Kd.slice 3 (Kd.int .i64)) _ _ y112 [.slice Ao4 y112.length co4] from (Kd.FK_slice_mk (Kd.R_reads' (Kd.R_mono (ok' := (fun k_ => (w.heap.size ≤ k_) ∧ k_ ≠ gb111)) (Kd.R_types (HO114.out) BK111.out (by decide)) (fun k_ hk => ⟨hk.1.1, hk.2⟩))).2.1 (Kd.R_F (Kd.R_mono (ok' := (fun k_ => (w.heap.size ≤ k_) ∧ k_ ≠ gb111)) (Kd.R_types (HO114.out) BK111.out (by decide)) (fun k_ hk => ⟨hk.1.1, hk.2⟩))))) (Reps.none _ _))); intro v116 w5 ho6 hb hg_ hnew_; clear hg_ hnew_; (first | rw [← Ny115.out] at ho6 | (simp only [Int.reduceToNat] at ho6; rw [← Ny115.out] at ho6)); have n0_ := Aside0.mk (Kd.N_lower ho6 (below_size (by repeat (first | (with_reducible first | exact HB.out | apply below_alloc | apply pw_below_drewN | apply below_drew1 | refine below_set ?_ GE111.out) | exact HB.out)))); have n1_ := Aside0.mk (blk_below (g := gb111) (o := .cells #[.int .i64 0, .slice none 0 0] 28 (0, 0)) (by (with_reducible repeat (first | refine blk_drewN ?_ _ | refine blk_drew ?_ | refine blk_alloc ?_ _)); exact BK111.out) hb); have n2_ := Aside0.mk (below_step (by repeat (first | (with_reducible first | exact HB.out | apply below_alloc | apply pw_below_drewN | apply below_drew1 | refine below_set ?_ GE111.out) | exact HB.out)) hb); clear BK111; clear HB; clear HO114; have HO117 := n0_; have BK111 := n1_; have HB := n2_; clear n0_ n1_ n2_; clear hb ho6; obtain ⟨Ao7, co7, eo7⟩ := Kd.N_slice HO117.out; subst eo7) | ((with_reducible refine gate_dst (N := 3) rfl ?_); refine Kd.N_lit (Kd.slice 43 (Kd.slice 3 (Kd.int .i64))) _ 42 ?hg (N' := 3) ?hd (xs := ([y115] : List (List (List Int)))) (inner := [.slice Ao7 y115.length co7]) (ok := (fun k_ => (w.heap.size ≤ k_) ∧ k_ ≠ gb111)) (okp := (fun k_ => (w.heap.size ≤ k_) ∧ k_ ≠ gb111)) ?hr ?hp (fun _ hk => hk) ((show ∀ k_, w5.heap.size ≤ k_ → (fun k_ => (w.heap.size ≤ k_) ∧ k_ ≠ gb111) k_ from fun k_ hk => ⟨(Nat.le_trans (below_size (by repeat (first | (with_reducible first | exact HB.out | apply below_alloc | apply pw_below_drewN | apply below_drew1 | refine below_set ?_ GE111.out) | exact HB.out))) hk), Kd.freshB (g := gb111) (o := .cells #[.int .i64 0, .slice none 0 0] 28 (0, 0)) (by (with_reducible repeat (first | refine blk_drewN ?_ _ | refine blk_drew ?_ | refine blk_alloc ?_ _)); exact BK111.out) k_ hk⟩) _ (Nat.le_refl _)) (Below.refl _ _) (Nat.le_refl _) (by simp) ?_; (case hd => rfl); (case hg => rfl); (case hr => first | (go_simp; done) | (go_simp; rfl)); (case hp => exact (Reps.one (show Kd.FK (Kd.slice 43 (Kd.slice 3 (Kd.int .i64))) _ _ y115 [.slice Ao7 y115.length co7] from (Kd.FK_slice_mk (Kd.N_reads' (Kd.N_mono (ok' := (fun k_ => (w.heap.size ≤ k_) ∧ k_ ≠ gb111)) (HO117.out) (fun k_ hk => ⟨hk.1, hk.2⟩))).2.1 (Kd.N_F (Kd.N_mono (ok' := (fun k_ => (w.heap.size ≤ k_) ∧ k_ ≠ gb111)) (HO117.out) (fun k_ hk => ⟨hk.1, hk.2⟩))))) (Reps.none _ _))); intro v119 w8 ho9 hb hg_ hnew_; clear hg_ hnew_; (first | rw [← Ny118.out] at ho9 | (simp only [Int.reduceToNat] at ho9; rw [← Ny118.out] at ho9)); have n0_ := Aside0.mk (Kd.N_lower ho9 (below_size (by repeat (first | (with_reducible first | exact HB.out | apply below_alloc | apply pw_below_drewN | apply below_drew1 | refine below_set ?_ GE111.out) | exact HB.out)))); have n1_ := Aside0.mk (blk_below (g := gb111) (o := .cells #[.int .i64 0, .slice none 0 0] 28 (0, 0)) (by (with_reducible repeat (first | refine blk_drewN ?_ _ | refine blk_drew ?_ | refine blk_alloc ?_ _)); exact BK111.out) hb); have n2_ := Aside0.mk (below_step (by repeat (first | (with_reducible first | exact HB.out | apply below_alloc | apply pw_below_drewN | apply below_drew1 | refine below_set ?_ GE111.out) | exact HB.out)) hb); clear BK111; clear HB; clear HO117; have HO120 := n0_; have BK111 := n1_; have HB := n2_; clear n0_ n1_ n2_; clear hb ho9; obtain ⟨Ao10, co10, eo10⟩ := Kd.N_slice HO120.out; subst eo10; have hcz11_0 : w8.cell? ⟨gb111, 0, none⟩ = some (.int .i64 0) := (blk_cell BK111.out 0).trans rfl; have hcz11_1 : w8.cell? ⟨gb111, 1, none⟩ = some (.slice none 0 0) := (blk_cell BK111.out 1).trans rfl; have hfz11_0 := blk_frozen BK111.out 0; have hfz11_1 := blk_frozen BK111.out 1))
  refine bodyPost_ret (results_cell_row rfl _ _ gb111 28 #[.int .i64 1, .slice Ao10 y118.length co10] (0, 0) _ rfl (by (with_reducible repeat (first | refine blk_drewN ?_ _ | refine blk_drew ?_ | refine blk_alloc ?_ _)); refine blk_put (cs := #[.int .i64 1, .slice none 0 0]) ?_ 1 _ rfl; (with_reducible repeat (first | refine blk_drewN ?_ _ | refine blk_drew ?_ | refine blk_alloc ?_ _)); refine blk_put (cs := #[.int .i64 0, .slice none 0 0]) ?_ 0 _ rfl; (with_reducible repeat (first | refine blk_drewN ?_ _ | refine blk_drew ?_ | refine blk_alloc ?_ _)); exact BK111.out) Tryz.underlying28 rfl (by kernel_rfl)) rfl ?_
  exact ⟨_, by first | rfl | (simp [errW_none, errW_some] <;> rfl) | (simp [*, errW_none, errW_some] <;> rfl), by (with_reducible repeat (first | apply Kd.N_alloc | apply Kd.N_drewN | apply Kd.N_drew)); exact Kd.N_mono (Kd.N_far (p := ⟨gb111, 1, none⟩) (Kd.N_far (p := ⟨gb111, 0, none⟩) (Kd.N_mono HO120.out (fun k_ hk => (⟨hk, hk.2⟩ : _ ∧ k_ ≠ gb111))) (fun _ hk => hk.2) (.int .i64 1)) (fun _ hk => hk.2) (.slice Ao10 y118.length co10)) (fun _ hk => hk.1.1), by repeat (first | (with_reducible first | exact HB.out | apply below_alloc | apply pw_below_drewN | apply below_drew1 | refine below_set ?_ GE111.out) | exact HB.out)⟩

end Go.Proofs.YtealnhaffphamaaGreat.PNew

namespace Go.Proofs.YtealnhaffphamaaGreat
open Go.RowKit Go.Shelf Go.Proofs.YtealnhaffphamaaGreatW.PrintWords

/-- A row of values, just built. -/
theorem own_lit {B : Nat} {e : TypeId} (W : World) (vs : List Value) {n : Nat} (hn : n = vs.length) (hB : B ≤ W.heap.size) (h : n ≤ 1000000) : (W.alloc (.cells vs.toArray e)).ownsRow B e 1 (.slice (some ⟨W.heap.size, 0, none⟩) n n) n vs :=
  ⟨by omega, .inr ⟨W.heap.size, n, vs.toArray, rfl, hB, blk_new W _, by omega, by simp only [maxLen]; omega, by simp [hn], by simp [hn]⟩⟩
theorem FW.lit1 {base : Nat} {u : Value} {x : List Int} (W : World) (hB : base ≤ W.heap.size) (h : W.ownsRow base 3 1 u x.length (intsV x)) : FW base (.slice (some ⟨W.heap.size, 0, none⟩) 1 1) [x] 1 (fun _ => u) (W.alloc (.cells #[u] 43)) :=
  ⟨own_lit W [u] rfl hB (by omega), fun l hl => by
    obtain rfl : l = 0 := by omega
    exact own_keptB h (World.grownBy_alloc W _ none) (fun b e => by cases e)⟩
theorem MW.lit1 {base : Nat} {u : Value} {ls : List (List Int)} {lv : Nat → Value} (W : World) (hB : base ≤ W.heap.size) (h : FW base u ls ls.length lv W) : MW base (.slice (some ⟨W.heap.size, 0, none⟩) 1 1) [ls] 1 (fun _ => u) (fun _ => lv) (W.alloc (.cells #[u] 42)) :=
  ⟨own_lit W [u] rfl hB (by omega), fun f hf => by
    obtain rfl : f = 0 := by omega
    exact h.kept (World.grownBy_alloc W _ none) (fun b e => by cases e), fun f hf f' hf' hne => by omega⟩
theorem MW.lit2 {base : Nat} {u v : Value} {ls ms : List (List Int)} {lv mv : Nat → Value} (W : World) (hB : base ≤ W.heap.size) (h : FW base u ls ls.length lv W) (k : FW base v ms ms.length mv W) (hd : Ap u v) :
    MW base (.slice (some ⟨W.heap.size, 0, none⟩) 2 2) [ls, ms] 2 (fun f => if f = 0 then u else v) (fun f => if f = 0 then lv else mv) (W.alloc (.cells #[u, v] 42)) :=
  ⟨own_lit W [u, v] rfl hB (by omega), fun f hf => by
    rcases (show f = 0 ∨ f = 1 by omega) with rfl | rfl
    · exact h.kept (World.grownBy_alloc W _ none) (fun b e => by cases e)
    · exact k.kept (World.grownBy_alloc W _ none) (fun b e => by cases e), fun f hf f' hf' hne => by
    rcases (show f = 0 ∧ f' = 1 ∨ f = 1 ∧ f' = 0 by omega) with ⟨rfl, rfl⟩ | ⟨rfl, rfl⟩
    · exact hd
    · exact hd.symm⟩

/-! ### right, decided -/
def nodeB (fs : Fs) (ds : List PV) : List PV → Bool
  | [] => false
  | x :: rest => (decide ((lpA fs x.f x.l).length = 1) && rest.isEmpty) || (decide ((lpA fs x.f x.l).length ≠ 1) && decide (iterP fs ds (pl3 x) (rest.length + 1) = pl3 x) && (List.range rest.length).all fun j => decide (iterP fs ds (pl3 x) (j + 1) ≠ pl3 x))
theorem nodeB_ok {fs : Fs} {ds l : List PV} (h : nodeB fs ds l = true) : NodeOk fs ds l := by
  cases l with
  | nil => simp [nodeB] at h
  | cons x rest =>
    simp only [nodeB, Bool.or_eq_true, Bool.and_eq_true, decide_eq_true_eq, List.isEmpty_iff, List.all_eq_true, List.mem_range] at h
    refine ⟨x, rest, rfl, fun h1 => ?_, fun h1 => ?_⟩
    · rcases h with h | h
      · exact h.2
      · exact absurd h1 h.1.1
    · rcases h with h | h
      · exact absurd h.1 h1
      · refine ⟨h.1.2, fun j hj hlt => ?_⟩
        have := h.2 (j - 1) (by simp at hlt; omega)
        rwa [show j - 1 + 1 = j by omega] at this
def edB (fs : Fs) : Bool := decide ((dartsA fs (plsA fs)).Pairwise (fun x y => ¬ (x.v = y.v ∧ x.a = y.a))) && (dartsA fs (plsA fs)).all (fun x => decide (x.v ≠ x.a) && hasE (dartsA fs (plsA fs)) x.a x.v)
theorem edB_ok {fs : Fs} (h : edB fs = true) : EdOk fs := by
  simp only [edB, Bool.and_eq_true, decide_eq_true_eq, List.all_eq_true] at h
  exact ⟨⟨h.1, fun x hx => (h.2 x hx).1⟩, fun x hx => (h.2 x hx).2⟩
def wholeB (N : Int) (fs : Fs) : Bool := decide (1 ≤ N ∧ N ≤ 200 ∧ 1 ≤ fs.length ∧ fs.length ≤ 400 ∧ fs.flatten.length ≤ 400 ∧ fs.flatten.flatten.length ≤ 2000) && fs.all (fun f => !f.isEmpty) && fs.flatten.all (fun l => !l.isEmpty)
theorem wholeB_ok {N : Int} {fs : Fs} (h : wholeB N fs = true) : Whole N fs := by
  rw [whole_iff]
  simp only [wholeB, Bool.and_eq_true, decide_eq_true_eq, List.all_eq_true, Bool.not_eq_true'] at h
  obtain ⟨⟨⟨h1, h2, h3, h4, h5, h6⟩, h7⟩, h8⟩ := h
  exact ⟨h1, h2, h3, h4, h5, h6, fun f hf e => by have := h7 f hf; rw [e] at this; simp at this, fun l hl e => by have := h8 l hl; rw [e] at this; simp at this⟩
def rightB (N : Int) (fs : Fs) : Bool := wholeB N fs && (plsA fs).all (fun x => decide (0 ≤ x.v ∧ x.v < N)) && edB fs && (List.range N.toNat).all fun i => nodeB fs (dartsA fs (plsA fs)) (rowsA (plsA fs) i)
theorem rightB_ok {N : Int} {fs : Fs} (h : rightB N fs = true) : RightP N fs := by
  simp only [rightB, Bool.and_eq_true, List.all_eq_true, decide_eq_true_eq, List.mem_range] at h
  obtain ⟨⟨⟨h1, h2⟩, h3⟩, h4⟩ := h
  exact ⟨wholeB_ok h1, h2, edB_ok h3, fun i hi => nodeB_ok (h4 i (by omega))⟩

def fM : Fs := [[[0]]]
def fA : Fs := [[[0, 1]]]
def fB : Fs := [[[0, 2, 0, 1]]]
def f2 : Fs := [[[0, 1, 2]], [[0, 2, 1]]]
def fT : Fs := [[[0, 1, 2], [0, 2, 1]]]
theorem rM : RightP 1 fM := rightB_ok (by decide)
theorem rA : RightP 2 fA := rightB_ok (by decide)
theorem rB : RightP 3 fB := rightB_ok (by decide)
theorem r2 : RightP 3 f2 := rightB_ok (by decide)
theorem rT : RightP 3 fT := rightB_ok (by decide)
theorem anM : anE 1 fM 0 0 0 = .ok (2, fA) := by
  have h := anE_ok (f := 0) (l := 0) (i := 0) rM (by unfold HasP; decide)
  have e : setL fM 0 0 (anL 1 (lpA fM 0 0) 0) = fA := by decide
  rw [e] at h
  refine h.trans ?_
  unfold fitE
  rw [if_pos (show RightP (1 + 1) fA from rA)]; rfl
theorem anA : anE 2 fA 0 0 0 = .ok (3, fB) := by
  have h := anE_ok (f := 0) (l := 0) (i := 0) rA (by unfold HasP; decide)
  have e : setL fA 0 0 (anL 2 (lpA fA 0 0) 0) = fB := by decide
  rw [e] at h
  refine h.trans ?_
  unfold fitE
  rw [if_pos (show RightP (2 + 1) fB from rB)]; rfl
theorem df2 : dfE 3 f2 0 1 = .ok (3, fT) := by
  have h := df_ok (f := 0) (g := 1) r2 (by decide) (by decide) (by decide) (by decide)
  have e : ((f2.set 0 (fcA f2 0 ++ [lpA f2 1 0])).eraseIdx 1) = fT := by decide
  rw [e] at h
  refine h.trans ?_
  unfold fitE
  rw [if_pos rT]
open Classical in
theorem shOne {fs : Fs} (h : fs.length = 1) : (shA fs).length = 1 := by
  unfold shA
  rw [h]
  show (if ∃ g, g < 0 ∧ Conn fs g 0 then ([] : List (List Int)) else [] ++ [compA fs 0]).length = 1
  rw [if_neg (fun ⟨g, hg, _⟩ => by omega)]
  rfl
open Classical in
theorem sh2 : (shA f2).length = 1 := by
  have hc : Conn f2 0 1 := .one ⟨pvA f2 0 0 0, dart_of (fs := f2) (p := (0, 0, 0)) ⟨by decide, by decide, by decide⟩ (by decide), rfl, by decide⟩
  unfold shA
  rw [show f2.length = 2 from rfl]
  simp only [shUp]
  rw [if_neg (show ¬ ∃ g, g < 0 ∧ Conn f2 g 0 from fun ⟨g, hg, _⟩ => by omega), if_pos (show ∃ g, g < 0 + 1 ∧ Conn f2 g (0 + 1) from ⟨0, by omega, hc⟩)]
  rfl
theorem ctM : ctV 1 fM = .agg #[.int .i64 1, .int .i64 0, .int .i64 1, .int .i64 0, .int .i64 1, .int .i64 0] := by
  unfold ctV hdN
  rw [shOne rfl, show edN fM = 0 by decide]
  rfl
theorem ct2 : ctV 3 f2 = .agg #[.int .i64 3, .int .i64 3, .int .i64 2, .int .i64 0, .int .i64 1, .int .i64 0] := by
  unfold ctV hdN
  rw [sh2, show edN f2 = 3 by decide]
  rfl
theorem ctT : ctV 3 fT = .agg #[.int .i64 3, .int .i64 3, .int .i64 1, .int .i64 1, .int .i64 1, .int .i64 1] := by
  unfold ctV hdN
  rw [shOne rfl, show edN fT = 3 by decide]
  rfl
theorem likeP_refl (N : Int) (fs : Fs) : LikeP N N fs fs := ⟨rfl, rfl, fun f _ => ⟨rfl, fun l _ => rfl⟩⟩
theorem cpM : cpA fM 1000 1000 5000 = fM := by decide
theorem cpAA : cpA fA 1000 1000 5000 = fA := by decide
theorem cpB : cpA fB 1000 1000 5000 = fB := by decide
theorem not_right_nil (N : Int) : ¬ RightP N [] := fun h => by have := h.1.2.2.1; simp at this
theorem fine_of {N : Int} {fs : Fs} (h : RightP N fs) : Sm fs ∧ NI fs ∧ (plsA fs).length ≤ 100000 := ⟨h.fine.sm (by omega), h.fine.ni, h.fine.cap (by omega)⟩
theorem new_any (w : World) : Calls Tryz.prog 24 #[] w fun e w' => (∃ A c, e = .returned (.agg #[.int .i64 1, .slice A fM.length c]) ∧ fM.length ≤ c ∧ RF w' A fM) ∧ Below w.heap.size w w' := by
  refine (PNew.euler_New.calls 1 fM w rfl).mono ?_
  rintro e w' ⟨v, rfl, hN, hB⟩
  obtain ⟨A, c, rfl, h1, h2⟩ := Kd.N_reads hN
  exact ⟨⟨A, c, rfl, h1, h2⟩, hB⟩
theorem rnew_any (w : World) : Calls Tryz.prog 30 #[] w fun e w' => (∃ A c, e = .returned (.agg #[.int .i64 1, .slice A fM.length c]) ∧ fM.length ≤ c ∧ RF w' A fM) ∧ Below w.heap.size w w' := by
  refine (PNew.spokeshaveref14_New.calls 1 fM w rfl).mono ?_
  rintro e w' ⟨v, rfl, hN, hB⟩
  obtain ⟨A, c, rfl, h1, h2⟩ := Kd.N_reads hN
  exact ⟨⟨A, c, rfl, h1, h2⟩, hB⟩

end Go.Proofs.YtealnhaffphamaaGreat
