/- Contracts of the functions that the statement reaches, and plain lemmas: part 10 of 25. -/
import Derived.Test.YtaoedfegakpjeabGreatJ09

namespace Go.Proofs.YtaoedfegakpjeabGreat
open Go.RowKit

/-- A world under a name: what is known of it goes with it. -/
theorem gen_world {P : World → Prop} {w0 : World} (R : World → Prop) (h : R w0) (k : ∀ W, R W → P W) : P w0 := k _ h
theorem ne_of_beq {a b : Int} (h : (a == b) = false) : ¬ a = b := by simpa using h

/-- The determinant of three planes' normals. -/
noncomputable def det (p q r : Q4) : Int := vl (dot p.a p.b p.c (crs q.b r.c q.c r.b) (crs q.c r.a q.a r.c) (crs q.a r.b q.b r.a))
theorem det_eq (p q r : Q4) : det p q r = dot p.a p.b p.c (crs q.b r.c q.c r.b) (crs q.c r.a q.a r.c) (crs q.a r.b q.b r.a) := vl_eq _
theorem dot_i64 (a b c x y z : Int) : I64 (dot a b c x y z) := by rw [dot_eq]; exact I64.wrap _
/-- An element of the point before its lowest terms. -/
noncomputable def neg3 (a x b y c z : Int) : Int := vl (wrap64 (-wrap64 (wrap64 (wrap64 (a * x) + wrap64 (b * y)) + wrap64 (c * z))))
theorem neg3_eq (a x b y c z : Int) : neg3 a x b y c z = wrap64 (-wrap64 (wrap64 (wrap64 (a * x) + wrap64 (b * y)) + wrap64 (c * z))) := vl_eq _
noncomputable def rawPt (p q r : Q4) : Q4 := ⟨neg3 p.d (crs q.b r.c q.c r.b) q.d (crs r.b p.c r.c p.b) r.d (crs p.b q.c p.c q.b), neg3 p.d (crs q.c r.a q.a r.c) q.d (crs r.c p.a r.a p.c) r.d (crs p.c q.a p.a q.c), neg3 p.d (crs q.a r.b q.b r.a) q.d (crs r.a p.b r.b p.a) r.d (crs p.a q.b p.b q.a), dot p.a p.b p.c (crs q.b r.c q.c r.b) (crs q.c r.a q.a r.c) (crs q.a r.b q.b r.a)⟩
theorem neg3_i64 (a x b y c z : Int) : I64 (neg3 a x b y c z) := by rw [neg3_eq]; exact I64.wrap _
theorem rawPt_i64 (p q r : Q4) : (rawPt p q r).I64 := ⟨neg3_i64 _ _ _ _ _ _, neg3_i64 _ _ _ _ _ _, neg3_i64 _ _ _ _ _ _, dot_i64 _ _ _ _ _ _⟩

noncomputable def meet1V (p q r : Q4) : Nat → Value := fun
  | 17 => .agg #[.int .i64 (p.a), .int .i64 (p.b), .int .i64 (p.c), .int .i64 (p.d)]
  | 18 => .agg #[.int .i64 (p.a), .int .i64 (p.b), .int .i64 (p.c)]
  | 19 => .agg #[.int .i64 (q.a), .int .i64 (q.b), .int .i64 (q.c), .int .i64 (q.d)]
  | 20 => .agg #[.int .i64 (q.a), .int .i64 (q.b), .int .i64 (q.c)]
  | 21 => .agg #[.int .i64 (r.a), .int .i64 (r.b), .int .i64 (r.c), .int .i64 (r.d)]
  | 22 => .agg #[.int .i64 (r.a), .int .i64 (r.b), .int .i64 (r.c)]
  | _ => undef
noncomputable def meet1C (p q r : Q4) : Nat → List Value := fun
  | 9 => [.int .i64 p.a, .int .i64 p.b, .int .i64 p.c]
  | 10 => [.int .i64 q.a, .int .i64 q.b, .int .i64 q.c]
  | 11 => [.int .i64 r.a, .int .i64 r.b, .int .i64 r.c]
  | _ => []
noncomputable def meet2V (p q r : Q4) : Nat → Value := fun
  | 23 => .agg #[.int .i64 (q.a), .int .i64 (q.b), .int .i64 (q.c)]
  | 24 => .agg #[.int .i64 (r.a), .int .i64 (r.b), .int .i64 (r.c)]
  | 25 => .agg #[.int .i64 (crs q.b r.c q.c r.b), .int .i64 (crs q.c r.a q.a r.c), .int .i64 (crs q.a r.b q.b r.a)]
  | 26 => .agg #[.int .i64 (r.a), .int .i64 (r.b), .int .i64 (r.c)]
  | 27 => .agg #[.int .i64 (p.a), .int .i64 (p.b), .int .i64 (p.c)]
  | 28 => .agg #[.int .i64 (crs r.b p.c r.c p.b), .int .i64 (crs r.c p.a r.a p.c), .int .i64 (crs r.a p.b r.b p.a)]
  | 29 => .agg #[.int .i64 (p.a), .int .i64 (p.b), .int .i64 (p.c)]
  | 30 => .agg #[.int .i64 (q.a), .int .i64 (q.b), .int .i64 (q.c)]
  | 31 => .agg #[.int .i64 (crs p.b q.c p.c q.b), .int .i64 (crs p.c q.a p.a q.c), .int .i64 (crs p.a q.b p.b q.a)]
  | _ => undef
noncomputable def meet2C (p q r : Q4) : Nat → List Value := fun
  | 12 => [.int .i64 (crs q.b r.c q.c r.b), .int .i64 (crs q.c r.a q.a r.c), .int .i64 (crs q.a r.b q.b r.a)]
  | 13 => [.int .i64 (crs r.b p.c r.c p.b), .int .i64 (crs r.c p.a r.a p.c), .int .i64 (crs r.a p.b r.b p.a)]
  | 14 => [.int .i64 (crs p.b q.c p.c q.b), .int .i64 (crs p.c q.a p.a q.c), .int .i64 (crs p.a q.b p.b q.a)]
  | _ => []
def meet1A (p q r : Q4) (n : Nat) (u : Nat → Value) : Act := ⟨#[.agg #[.int .i64 (p.a), .int .i64 (p.b), .int .i64 (p.c), .int .i64 (p.d)], .agg #[.int .i64 (q.a), .int .i64 (q.b), .int .i64 (q.c), .int .i64 (q.d)], .agg #[.int .i64 (r.a), .int .i64 (r.b), .int .i64 (r.c), .int .i64 (r.d)], .pointer (some ⟨n, 0, none⟩), .pointer (some ⟨n + 1, 0, none⟩), .pointer (some ⟨n + 1 + 1, 0, none⟩), .pointer (some ⟨n + 1 + 1 + 1, 0, none⟩), .bool false, u 8, u 9, u 10, undef, undef, undef, undef, undef, undef, u 17, u 18, u 19, u 20, u 21, u 22, undef, undef, undef, undef, undef, undef, undef, undef, undef, undef, undef, undef, undef, undef, undef, undef, undef, undef, undef, undef, undef, undef, undef, undef, undef, undef, undef, undef, undef, undef, undef, undef, undef, undef, undef, undef, undef, undef, undef, undef, undef, undef, undef, undef, undef, undef], []⟩
def meet2A (p q r : Q4) (n b8 b9 b10 : Nat) (u : Nat → Value) : Act := ⟨#[.agg #[.int .i64 (p.a), .int .i64 (p.b), .int .i64 (p.c), .int .i64 (p.d)], .agg #[.int .i64 (q.a), .int .i64 (q.b), .int .i64 (q.c), .int .i64 (q.d)], .agg #[.int .i64 (r.a), .int .i64 (r.b), .int .i64 (r.c), .int .i64 (r.d)], .pointer (some ⟨n, 0, none⟩), .pointer (some ⟨n + 1, 0, none⟩), .pointer (some ⟨n + 1 + 1, 0, none⟩), .pointer (some ⟨n + 1 + 1 + 1, 0, none⟩), .bool false, .pointer (some ⟨b8, 0, none⟩), .pointer (some ⟨b9, 0, none⟩), .pointer (some ⟨b10, 0, none⟩), u 11, u 12, u 13, undef, undef, undef, .agg #[.int .i64 (p.a), .int .i64 (p.b), .int .i64 (p.c), .int .i64 (p.d)], .agg #[.int .i64 (p.a), .int .i64 (p.b), .int .i64 (p.c)], .agg #[.int .i64 (q.a), .int .i64 (q.b), .int .i64 (q.c), .int .i64 (q.d)], .agg #[.int .i64 (q.a), .int .i64 (q.b), .int .i64 (q.c)], .agg #[.int .i64 (r.a), .int .i64 (r.b), .int .i64 (r.c), .int .i64 (r.d)], .agg #[.int .i64 (r.a), .int .i64 (r.b), .int .i64 (r.c)], u 23, u 24, u 25, u 26, u 27, u 28, u 29, u 30, u 31, undef, undef, undef, undef, undef, undef, undef, undef, undef, undef, undef, undef, undef, undef, undef, undef, undef, undef, undef, undef, undef, undef, undef, undef, undef, undef, undef, undef, undef, undef, undef, undef, undef, undef, undef, undef, undef], []⟩

set_option maxHeartbeats 4000000 in
set_option maxRecDepth 100000 in
theorem meet_none (p q r : Q4) (w : World) (hd : (det p q r == 0) = true) :
    Calls Tryz.prog 80 #[.agg #[.int .i64 (p.a), .int .i64 (p.b), .int .i64 (p.c), .int .i64 (p.d)], .agg #[.int .i64 (q.a), .int .i64 (q.b), .int .i64 (q.c), .int .i64 (q.d)], .agg #[.int .i64 (r.a), .int .i64 (r.b), .int .i64 (r.c), .int .i64 (r.d)]] w fun e w' => e = .returned (.tuple #[.agg #[.int .i64 0, .int .i64 0, .int .i64 0, .int .i64 0], .bool false]) ∧ Below w.heap.size w w' := by
  go_enter Tryz.func80, Tryz.ntmps80
  have hE : ∀ W, Fr 4 [(0, .cells #[.int .i64 (p.a), .int .i64 (p.b), .int .i64 (p.c), .int .i64 (p.d)] 23), (1, .cells #[.int .i64 (q.a), .int .i64 (q.b), .int .i64 (q.c), .int .i64 (q.d)] 23), (2, .cells #[.int .i64 (r.a), .int .i64 (r.b), .int .i64 (r.c), .int .i64 (r.d)] 23)] [(3, 4)] w W → (W.cell? ⟨w.heap.size, 0, none⟩ = some (.int .i64 (p.a)) ∧ W.cell? ⟨w.heap.size, 1, none⟩ = some (.int .i64 (p.b)) ∧ W.cell? ⟨w.heap.size, 2, none⟩ = some (.int .i64 (p.c)) ∧ W.cell? ⟨w.heap.size, 3, none⟩ = some (.int .i64 (p.d)) ∧ W.cell? ⟨w.heap.size + 1, 0, none⟩ = some (.int .i64 (q.a)) ∧ W.cell? ⟨w.heap.size + 1, 1, none⟩ = some (.int .i64 (q.b)) ∧ W.cell? ⟨w.heap.size + 1, 2, none⟩ = some (.int .i64 (q.c)) ∧ W.cell? ⟨w.heap.size + 1, 3, none⟩ = some (.int .i64 (q.d)) ∧ W.cell? ⟨w.heap.size + 2, 0, none⟩ = some (.int .i64 (r.a)) ∧ W.cell? ⟨w.heap.size + 2, 1, none⟩ = some (.int .i64 (r.b)) ∧ W.cell? ⟨w.heap.size + 2, 2, none⟩ = some (.int .i64 (r.c)) ∧ W.cell? ⟨w.heap.size + 2, 3, none⟩ = some (.int .i64 (r.d)) ∧ (∀ o, o < 4 → W.cell? ⟨w.heap.size + 3, o, none⟩ = some (cellOf W ⟨w.heap.size + 3, o, none⟩)) ∧ (∀ o, o < 4 → W.frozen? ⟨w.heap.size + 3, o, none⟩ = false)) := fun W h => by (repeat' apply And.intro) <;> first | exact h.at0 rfl | exact h.at rfl | exact (h.rms0 rfl).cell | exact (h.rms rfl).cell | exact (h.rms0 rfl).frozen | exact (h.rms rfl).frozen
  have HE := Lib.hid hE
  clear hE
  go_wp2
  refine gen_world (P := fun W => Code.wp _ _ _ _ W) (fun W => Fr 4 [(0, .cells #[.int .i64 (p.a), .int .i64 (p.b), .int .i64 (p.c), .int .i64 (p.d)] 23), (1, .cells #[.int .i64 (q.a), .int .i64 (q.b), .int .i64 (q.c), .int .i64 (q.d)] 23), (2, .cells #[.int .i64 (r.a), .int .i64 (r.b), .int .i64 (r.c), .int .i64 (r.d)] 23)] [(3, 4)] w W) (((((Fr.nil w).fixed (by simp) (.cells #[.int .i64 (p.a), .int .i64 (p.b), .int .i64 (p.c), .int .i64 (p.d)] 23)).fixed (by simp) (.cells #[.int .i64 (q.a), .int .i64 (q.b), .int .i64 (q.c), .int .i64 (q.d)] 23)).fixed (by simp) (.cells #[.int .i64 (r.a), .int .i64 (r.b), .int .i64 (r.c), .int .i64 (r.d)] 23)).roomy (by simp) #[.int .i64 0, .int .i64 0, .int .i64 0, .int .i64 0] 48) ?_
  intro W hF
  refine wp_region_inv (by kernel_rfl) (by kernel_rfl) (fun listed a wr => ∃ u : Nat → Value, a = meet1A p q r w.heap.size u ∧ Rg W.drew (meet1V p q r) (meet1C p q r) [(0, 17), (1, 18), (2, 19), (3, 20), (4, 21), (5, 22)] [(6, 8, 3), (7, 9, 3), (8, 10, 3)] [(9, 8), (10, 9), (11, 10)] listed u wr) ⟨fun _ => undef, rfl, Rg.start _ _⟩ ?_ ?_
  rotate_left
  · rintro listed hs i hi a wr ⟨u, rfl, hR⟩ hr
    simp only [meet1A]
    match i, hi, hr with
    | 0, _, hr =>
      as_aux_lemma =>
      refine wpOp_step rfl (fun K' hK => ?_)
      have hqr := HE.out _ (hF.drew.call hR.below)
      go_simp
      exact hK _ _ ⟨upd u 17 (.agg #[.int .i64 (p.a), .int .i64 (p.b), .int .i64 (p.c), .int .i64 (p.d)]), rfl, hR.yields (Below.refl _ _) rfl rfl rfl rfl⟩
    | 1, _, hr =>
      as_aux_lemma =>
      refine wpOp_step rfl (fun K' hK => ?_)
      have e0 : u 17 = .agg #[.int .i64 (p.a), .int .i64 (p.b), .int .i64 (p.c), .int .i64 (p.d)] := hR.val (0, 17) (by simp) (dep_of hr 0 (by kernel_rfl))
      go_simp
      refine (normal_any _ _ _ _ _).mono ?_
      rintro e w1 ⟨rfl, hb1⟩
      exact hK _ _ ⟨upd u 18 (.agg #[.int .i64 (p.a), .int .i64 (p.b), .int .i64 (p.c)]), by simp [upd, e0], hR.yields hb1 rfl rfl rfl rfl⟩
    | 2, _, hr =>
      as_aux_lemma =>
      refine wpOp_step rfl (fun K' hK => ?_)
      have hqr := HE.out _ (hF.drew.call hR.below)
      go_simp
      exact hK _ _ ⟨upd u 19 (.agg #[.int .i64 (q.a), .int .i64 (q.b), .int .i64 (q.c), .int .i64 (q.d)]), rfl, hR.yields (Below.refl _ _) rfl rfl rfl rfl⟩
    | 3, _, hr =>
      as_aux_lemma =>
      refine wpOp_step rfl (fun K' hK => ?_)
      have e0 : u 19 = .agg #[.int .i64 (q.a), .int .i64 (q.b), .int .i64 (q.c), .int .i64 (q.d)] := hR.val (2, 19) (by simp) (dep_of hr 2 (by kernel_rfl))
      go_simp
      refine (normal_any _ _ _ _ _).mono ?_
      rintro e w1 ⟨rfl, hb1⟩
      exact hK _ _ ⟨upd u 20 (.agg #[.int .i64 (q.a), .int .i64 (q.b), .int .i64 (q.c)]), by simp [upd, e0], hR.yields hb1 rfl rfl rfl rfl⟩
    | 4, _, hr =>
      as_aux_lemma =>
      refine wpOp_step rfl (fun K' hK => ?_)
      have hqr := HE.out _ (hF.drew.call hR.below)
      go_simp
      exact hK _ _ ⟨upd u 21 (.agg #[.int .i64 (r.a), .int .i64 (r.b), .int .i64 (r.c), .int .i64 (r.d)]), rfl, hR.yields (Below.refl _ _) rfl rfl rfl rfl⟩
    | 5, _, hr =>
      as_aux_lemma =>
      refine wpOp_step rfl (fun K' hK => ?_)
      have e0 : u 21 = .agg #[.int .i64 (r.a), .int .i64 (r.b), .int .i64 (r.c), .int .i64 (r.d)] := hR.val (4, 21) (by simp) (dep_of hr 4 (by kernel_rfl))
      go_simp
      refine (normal_any _ _ _ _ _).mono ?_
      rintro e w1 ⟨rfl, hb1⟩
      exact hK _ _ ⟨upd u 22 (.agg #[.int .i64 (r.a), .int .i64 (r.b), .int .i64 (r.c)]), by simp [upd, e0], hR.yields hb1 rfl rfl rfl rfl⟩
    | 6, _, hr =>
      as_aux_lemma =>
      refine wpOp_step rfl (fun K' hK => ?_)
      go_simp
      exact hK _ _ ⟨upd u 8 _, rfl, hR.makes (n := 3) rfl (ready_spec.1 hr).2.1 rfl rfl rfl⟩
    | 7, _, hr =>
      as_aux_lemma =>
      refine wpOp_step rfl (fun K' hK => ?_)
      go_simp
      exact hK _ _ ⟨upd u 9 _, rfl, hR.makes (n := 3) rfl (ready_spec.1 hr).2.1 rfl rfl rfl⟩
    | 8, _, hr =>
      as_aux_lemma =>
      refine wpOp_step rfl (fun K' hK => ?_)
      go_simp
      exact hK _ _ ⟨upd u 10 _, rfl, hR.makes (n := 3) rfl (ready_spec.1 hr).2.1 rfl rfl rfl⟩
    | 9, _, hr =>
      as_aux_lemma =>
      refine wpOp_step rfl (fun K' hK => ?_)
      have e1 : u 18 = .agg #[.int .i64 (p.a), .int .i64 (p.b), .int .i64 (p.c)] := hR.val (1, 18) (by simp) (dep_of hr 1 (by kernel_rfl))
      have hl := dep_of hr 6 (by kernel_rfl)
      obtain ⟨b, eb, _, _, hrm⟩ := hR.ali (6, 8, 3) (by simp) hl
      have rc := hrm.cell
      have rf := hrm.frozen
      go_simp
      refine hK _ _ ⟨u, by simp [e1, eb], hR.stores (k := 6) (s := 8) (n := 3) hl eb ((OnlyAt.set _ _ _ _).trans ((OnlyAt.set _ _ _ _).trans (OnlyAt.set _ _ _ _))) ?_ rfl⟩
      intro j v hj
      match j, hj with
      | 0, hj => simp [meet1C] at hj; subst hj; simp [go_sem, hrm.some]
      | 1, hj => simp [meet1C] at hj; subst hj; simp [go_sem, hrm.some]
      | 2, hj => simp [meet1C] at hj; subst hj; simp [go_sem, hrm.some]
    | 10, _, hr =>
      as_aux_lemma =>
      refine wpOp_step rfl (fun K' hK => ?_)
      have e1 : u 20 = .agg #[.int .i64 (q.a), .int .i64 (q.b), .int .i64 (q.c)] := hR.val (3, 20) (by simp) (dep_of hr 3 (by kernel_rfl))
      have hl := dep_of hr 7 (by kernel_rfl)
      obtain ⟨b, eb, _, _, hrm⟩ := hR.ali (7, 9, 3) (by simp) hl
      have rc := hrm.cell
      have rf := hrm.frozen
      go_simp
      refine hK _ _ ⟨u, by simp [e1, eb], hR.stores (k := 7) (s := 9) (n := 3) hl eb ((OnlyAt.set _ _ _ _).trans ((OnlyAt.set _ _ _ _).trans (OnlyAt.set _ _ _ _))) ?_ rfl⟩
      intro j v hj
      match j, hj with
      | 0, hj => simp [meet1C] at hj; subst hj; simp [go_sem, hrm.some]
      | 1, hj => simp [meet1C] at hj; subst hj; simp [go_sem, hrm.some]
      | 2, hj => simp [meet1C] at hj; subst hj; simp [go_sem, hrm.some]
    | 11, _, hr =>
      as_aux_lemma =>
      refine wpOp_step rfl (fun K' hK => ?_)
      have e1 : u 22 = .agg #[.int .i64 (r.a), .int .i64 (r.b), .int .i64 (r.c)] := hR.val (5, 22) (by simp) (dep_of hr 5 (by kernel_rfl))
      have hl := dep_of hr 8 (by kernel_rfl)
      obtain ⟨b, eb, _, _, hrm⟩ := hR.ali (8, 10, 3) (by simp) hl
      have rc := hrm.cell
      have rf := hrm.frozen
      go_simp
      refine hK _ _ ⟨u, by simp [e1, eb], hR.stores (k := 8) (s := 10) (n := 3) hl eb ((OnlyAt.set _ _ _ _).trans ((OnlyAt.set _ _ _ _).trans (OnlyAt.set _ _ _ _))) ?_ rfl⟩
      intro j v hj
      match j, hj with
      | 0, hj => simp [meet1C] at hj; subst hj; simp [go_sem, hrm.some]
      | 1, hj => simp [meet1C] at hj; subst hj; simp [go_sem, hrm.some]
      | 2, hj => simp [meet1C] at hj; subst hj; simp [go_sem, hrm.some]
  rintro listed a W2 ⟨u, rfl, hR⟩ hl
  have e17 := hR.val (0, 17) (by simp) (hl 0 (by decide))
  have e18 := hR.val (1, 18) (by simp) (hl 1 (by decide))
  have e19 := hR.val (2, 19) (by simp) (hl 2 (by decide))
  have e20 := hR.val (3, 20) (by simp) (hl 3 (by decide))
  have e21 := hR.val (4, 21) (by simp) (hl 4 (by decide))
  have e22 := hR.val (5, 22) (by simp) (hl 5 (by decide))
  obtain ⟨b8, e8, hb8, k8, -⟩ := hR.sto (9, 8) (by simp) (hl 9 (by decide))
  obtain ⟨b9, e9, hb9, k9, -⟩ := hR.sto (10, 9) (by simp) (hl 10 (by decide))
  obtain ⟨b10, e10, hb10, k10, -⟩ := hR.sto (11, 10) (by simp) (hl 11 (by decide))
  have cb80 : W2.cell? ⟨b8, 0, none⟩ = some (.int .i64 p.a) := k8 0 _ rfl
  have cb81 : W2.cell? ⟨b8, 1, none⟩ = some (.int .i64 p.b) := k8 1 _ rfl
  have cb82 : W2.cell? ⟨b8, 2, none⟩ = some (.int .i64 p.c) := k8 2 _ rfl
  have cb90 : W2.cell? ⟨b9, 0, none⟩ = some (.int .i64 q.a) := k9 0 _ rfl
  have cb91 : W2.cell? ⟨b9, 1, none⟩ = some (.int .i64 q.b) := k9 1 _ rfl
  have cb92 : W2.cell? ⟨b9, 2, none⟩ = some (.int .i64 q.c) := k9 2 _ rfl
  have cb100 : W2.cell? ⟨b10, 0, none⟩ = some (.int .i64 r.a) := k10 0 _ rfl
  have cb101 : W2.cell? ⟨b10, 1, none⟩ = some (.int .i64 r.b) := k10 1 _ rfl
  have cb102 : W2.cell? ⟨b10, 2, none⟩ = some (.int .i64 r.c) := k10 2 _ rfl
  have hF2 := hF.drew.call hR.below
  simp only [meet1A, e17, e18, e19, e20, e21, e22, e8, e9, e10, meet1V]
  clear e17 e18 e19 e20 e21 e22 e8 e9 e10 k8 k9 k10 hR hl
  clear u listed
  have hF := hF2
  clear hF2
  go_wp2
  refine wp_region_inv (by kernel_rfl) (by kernel_rfl) (fun listed a wr => ∃ u : Nat → Value, a = meet2A p q r w.heap.size b8 b9 b10 u ∧ Rg W2.drew (meet2V p q r) (meet2C p q r) [(0, 23), (1, 24), (2, 25), (3, 26), (4, 27), (5, 28), (6, 29), (7, 30), (8, 31)] [(9, 11, 3), (10, 12, 3), (11, 13, 3)] [(12, 11), (13, 12), (14, 13)] listed u wr) ⟨fun _ => undef, rfl, Rg.start _ _⟩ ?_ ?_
  rotate_left
  · rintro listed hs i hi a wr ⟨u, rfl, hR⟩ hr
    simp only [meet2A]
    match i, hi, hr with
    | 0, _, hr =>
      as_aux_lemma =>
      refine wpOp_step rfl (fun K' hK => ?_)
      have x0 : wr.cell? ⟨b9, 0, none⟩ = some (.int .i64 q.a) := (hR.below.cell (p := ⟨b9, 0, none⟩) hb9).trans cb90
      have x1 : wr.cell? ⟨b9, 1, none⟩ = some (.int .i64 q.b) := (hR.below.cell (p := ⟨b9, 1, none⟩) hb9).trans cb91
      have x2 : wr.cell? ⟨b9, 2, none⟩ = some (.int .i64 q.c) := (hR.below.cell (p := ⟨b9, 2, none⟩) hb9).trans cb92
      go_simp
      exact hK _ _ ⟨upd u 23 (.agg #[.int .i64 (q.a), .int .i64 (q.b), .int .i64 (q.c)]), rfl, hR.yields (Below.refl _ _) rfl rfl rfl rfl⟩
    | 1, _, hr =>
      as_aux_lemma =>
      refine wpOp_step rfl (fun K' hK => ?_)
      have x0 : wr.cell? ⟨b10, 0, none⟩ = some (.int .i64 r.a) := (hR.below.cell (p := ⟨b10, 0, none⟩) hb10).trans cb100
      have x1 : wr.cell? ⟨b10, 1, none⟩ = some (.int .i64 r.b) := (hR.below.cell (p := ⟨b10, 1, none⟩) hb10).trans cb101
      have x2 : wr.cell? ⟨b10, 2, none⟩ = some (.int .i64 r.c) := (hR.below.cell (p := ⟨b10, 2, none⟩) hb10).trans cb102
      go_simp
      exact hK _ _ ⟨upd u 24 (.agg #[.int .i64 (r.a), .int .i64 (r.b), .int .i64 (r.c)]), rfl, hR.yields (Below.refl _ _) rfl rfl rfl rfl⟩
    | 2, _, hr =>
      as_aux_lemma =>
      refine wpOp_step rfl (fun K' hK => ?_)
      have e0 : u 23 = .agg #[.int .i64 (q.a), .int .i64 (q.b), .int .i64 (q.c)] := hR.val (0, 23) (by simp) (dep_of hr 0 (by kernel_rfl))
      have e1 : u 24 = .agg #[.int .i64 (r.a), .int .i64 (r.b), .int .i64 (r.c)] := hR.val (1, 24) (by simp) (dep_of hr 1 (by kernel_rfl))
      go_simp
      refine (cross_any _ _ _ _ _ _ _).mono ?_
      rintro e w1 ⟨rfl, hb1⟩
      exact hK _ _ ⟨upd u 25 (.agg #[.int .i64 (crs q.b r.c q.c r.b), .int .i64 (crs q.c r.a q.a r.c), .int .i64 (crs q.a r.b q.b r.a)]), by simp [upd, e0, e1], hR.yields hb1 rfl rfl rfl rfl⟩
    | 3, _, hr =>
      as_aux_lemma =>
      refine wpOp_step rfl (fun K' hK => ?_)
      have x0 : wr.cell? ⟨b10, 0, none⟩ = some (.int .i64 r.a) := (hR.below.cell (p := ⟨b10, 0, none⟩) hb10).trans cb100
      have x1 : wr.cell? ⟨b10, 1, none⟩ = some (.int .i64 r.b) := (hR.below.cell (p := ⟨b10, 1, none⟩) hb10).trans cb101
      have x2 : wr.cell? ⟨b10, 2, none⟩ = some (.int .i64 r.c) := (hR.below.cell (p := ⟨b10, 2, none⟩) hb10).trans cb102
      go_simp
      exact hK _ _ ⟨upd u 26 (.agg #[.int .i64 (r.a), .int .i64 (r.b), .int .i64 (r.c)]), rfl, hR.yields (Below.refl _ _) rfl rfl rfl rfl⟩
    | 4, _, hr =>
      as_aux_lemma =>
      refine wpOp_step rfl (fun K' hK => ?_)
      have x0 : wr.cell? ⟨b8, 0, none⟩ = some (.int .i64 p.a) := (hR.below.cell (p := ⟨b8, 0, none⟩) hb8).trans cb80
      have x1 : wr.cell? ⟨b8, 1, none⟩ = some (.int .i64 p.b) := (hR.below.cell (p := ⟨b8, 1, none⟩) hb8).trans cb81
      have x2 : wr.cell? ⟨b8, 2, none⟩ = some (.int .i64 p.c) := (hR.below.cell (p := ⟨b8, 2, none⟩) hb8).trans cb82
      go_simp
      exact hK _ _ ⟨upd u 27 (.agg #[.int .i64 (p.a), .int .i64 (p.b), .int .i64 (p.c)]), rfl, hR.yields (Below.refl _ _) rfl rfl rfl rfl⟩
    | 5, _, hr =>
      as_aux_lemma =>
      refine wpOp_step rfl (fun K' hK => ?_)
      have e0 : u 26 = .agg #[.int .i64 (r.a), .int .i64 (r.b), .int .i64 (r.c)] := hR.val (3, 26) (by simp) (dep_of hr 3 (by kernel_rfl))
      have e1 : u 27 = .agg #[.int .i64 (p.a), .int .i64 (p.b), .int .i64 (p.c)] := hR.val (4, 27) (by simp) (dep_of hr 4 (by kernel_rfl))
      go_simp
      refine (cross_any _ _ _ _ _ _ _).mono ?_
      rintro e w1 ⟨rfl, hb1⟩
      exact hK _ _ ⟨upd u 28 (.agg #[.int .i64 (crs r.b p.c r.c p.b), .int .i64 (crs r.c p.a r.a p.c), .int .i64 (crs r.a p.b r.b p.a)]), by simp [upd, e0, e1], hR.yields hb1 rfl rfl rfl rfl⟩
    | 6, _, hr =>
      as_aux_lemma =>
      refine wpOp_step rfl (fun K' hK => ?_)
      have x0 : wr.cell? ⟨b8, 0, none⟩ = some (.int .i64 p.a) := (hR.below.cell (p := ⟨b8, 0, none⟩) hb8).trans cb80
      have x1 : wr.cell? ⟨b8, 1, none⟩ = some (.int .i64 p.b) := (hR.below.cell (p := ⟨b8, 1, none⟩) hb8).trans cb81
      have x2 : wr.cell? ⟨b8, 2, none⟩ = some (.int .i64 p.c) := (hR.below.cell (p := ⟨b8, 2, none⟩) hb8).trans cb82
      go_simp
      exact hK _ _ ⟨upd u 29 (.agg #[.int .i64 (p.a), .int .i64 (p.b), .int .i64 (p.c)]), rfl, hR.yields (Below.refl _ _) rfl rfl rfl rfl⟩
    | 7, _, hr =>
      as_aux_lemma =>
      refine wpOp_step rfl (fun K' hK => ?_)
      have x0 : wr.cell? ⟨b9, 0, none⟩ = some (.int .i64 q.a) := (hR.below.cell (p := ⟨b9, 0, none⟩) hb9).trans cb90
      have x1 : wr.cell? ⟨b9, 1, none⟩ = some (.int .i64 q.b) := (hR.below.cell (p := ⟨b9, 1, none⟩) hb9).trans cb91
      have x2 : wr.cell? ⟨b9, 2, none⟩ = some (.int .i64 q.c) := (hR.below.cell (p := ⟨b9, 2, none⟩) hb9).trans cb92
      go_simp
      exact hK _ _ ⟨upd u 30 (.agg #[.int .i64 (q.a), .int .i64 (q.b), .int .i64 (q.c)]), rfl, hR.yields (Below.refl _ _) rfl rfl rfl rfl⟩
    | 8, _, hr =>
      as_aux_lemma =>
      refine wpOp_step rfl (fun K' hK => ?_)
      have e0 : u 29 = .agg #[.int .i64 (p.a), .int .i64 (p.b), .int .i64 (p.c)] := hR.val (6, 29) (by simp) (dep_of hr 6 (by kernel_rfl))
      have e1 : u 30 = .agg #[.int .i64 (q.a), .int .i64 (q.b), .int .i64 (q.c)] := hR.val (7, 30) (by simp) (dep_of hr 7 (by kernel_rfl))
      go_simp
      refine (cross_any _ _ _ _ _ _ _).mono ?_
      rintro e w1 ⟨rfl, hb1⟩
      exact hK _ _ ⟨upd u 31 (.agg #[.int .i64 (crs p.b q.c p.c q.b), .int .i64 (crs p.c q.a p.a q.c), .int .i64 (crs p.a q.b p.b q.a)]), by simp [upd, e0, e1], hR.yields hb1 rfl rfl rfl rfl⟩
    | 9, _, hr =>
      as_aux_lemma =>
      refine wpOp_step rfl (fun K' hK => ?_)
      go_simp
      exact hK _ _ ⟨upd u 11 _, rfl, hR.makes (n := 3) rfl (ready_spec.1 hr).2.1 rfl rfl rfl⟩
    | 10, _, hr =>
      as_aux_lemma =>
      refine wpOp_step rfl (fun K' hK => ?_)
      go_simp
      exact hK _ _ ⟨upd u 12 _, rfl, hR.makes (n := 3) rfl (ready_spec.1 hr).2.1 rfl rfl rfl⟩
    | 11, _, hr =>
      as_aux_lemma =>
      refine wpOp_step rfl (fun K' hK => ?_)
      go_simp
      exact hK _ _ ⟨upd u 13 _, rfl, hR.makes (n := 3) rfl (ready_spec.1 hr).2.1 rfl rfl rfl⟩
    | 12, _, hr =>
      as_aux_lemma =>
      refine wpOp_step rfl (fun K' hK => ?_)
      have e1 : u 25 = .agg #[.int .i64 (crs q.b r.c q.c r.b), .int .i64 (crs q.c r.a q.a r.c), .int .i64 (crs q.a r.b q.b r.a)] := hR.val (2, 25) (by simp) (dep_of hr 2 (by kernel_rfl))
      have hl := dep_of hr 9 (by kernel_rfl)
      obtain ⟨b, eb, _, _, hrm⟩ := hR.ali (9, 11, 3) (by simp) hl
      have rc := hrm.cell
      have rf := hrm.frozen
      go_simp
      refine hK _ _ ⟨u, by simp [e1, eb], hR.stores (k := 9) (s := 11) (n := 3) hl eb ((OnlyAt.set _ _ _ _).trans ((OnlyAt.set _ _ _ _).trans (OnlyAt.set _ _ _ _))) ?_ rfl⟩
      intro j v hj
      match j, hj with
      | 0, hj => simp [meet2C] at hj; subst hj; simp [go_sem, hrm.some]
      | 1, hj => simp [meet2C] at hj; subst hj; simp [go_sem, hrm.some]
      | 2, hj => simp [meet2C] at hj; subst hj; simp [go_sem, hrm.some]
    | 13, _, hr =>
      as_aux_lemma =>
      refine wpOp_step rfl (fun K' hK => ?_)
      have e1 : u 28 = .agg #[.int .i64 (crs r.b p.c r.c p.b), .int .i64 (crs r.c p.a r.a p.c), .int .i64 (crs r.a p.b r.b p.a)] := hR.val (5, 28) (by simp) (dep_of hr 5 (by kernel_rfl))
      have hl := dep_of hr 10 (by kernel_rfl)
      obtain ⟨b, eb, _, _, hrm⟩ := hR.ali (10, 12, 3) (by simp) hl
      have rc := hrm.cell
      have rf := hrm.frozen
      go_simp
      refine hK _ _ ⟨u, by simp [e1, eb], hR.stores (k := 10) (s := 12) (n := 3) hl eb ((OnlyAt.set _ _ _ _).trans ((OnlyAt.set _ _ _ _).trans (OnlyAt.set _ _ _ _))) ?_ rfl⟩
      intro j v hj
      match j, hj with
      | 0, hj => simp [meet2C] at hj; subst hj; simp [go_sem, hrm.some]
      | 1, hj => simp [meet2C] at hj; subst hj; simp [go_sem, hrm.some]
      | 2, hj => simp [meet2C] at hj; subst hj; simp [go_sem, hrm.some]
    | 14, _, hr =>
      as_aux_lemma =>
      refine wpOp_step rfl (fun K' hK => ?_)
      have e1 : u 31 = .agg #[.int .i64 (crs p.b q.c p.c q.b), .int .i64 (crs p.c q.a p.a q.c), .int .i64 (crs p.a q.b p.b q.a)] := hR.val (8, 31) (by simp) (dep_of hr 8 (by kernel_rfl))
      have hl := dep_of hr 11 (by kernel_rfl)
      obtain ⟨b, eb, _, _, hrm⟩ := hR.ali (11, 13, 3) (by simp) hl
      have rc := hrm.cell
      have rf := hrm.frozen
      go_simp
      refine hK _ _ ⟨u, by simp [e1, eb], hR.stores (k := 11) (s := 13) (n := 3) hl eb ((OnlyAt.set _ _ _ _).trans ((OnlyAt.set _ _ _ _).trans (OnlyAt.set _ _ _ _))) ?_ rfl⟩
      intro j v hj
      match j, hj with
      | 0, hj => simp [meet2C] at hj; subst hj; simp [go_sem, hrm.some]
      | 1, hj => simp [meet2C] at hj; subst hj; simp [go_sem, hrm.some]
      | 2, hj => simp [meet2C] at hj; subst hj; simp [go_sem, hrm.some]
  rintro listed a W3 ⟨u, rfl, hR⟩ hl
  have e23 := hR.val (0, 23) (by simp) (hl 0 (by decide))
  have e24 := hR.val (1, 24) (by simp) (hl 1 (by decide))
  have e25 := hR.val (2, 25) (by simp) (hl 2 (by decide))
  have e26 := hR.val (3, 26) (by simp) (hl 3 (by decide))
  have e27 := hR.val (4, 27) (by simp) (hl 4 (by decide))
  have e28 := hR.val (5, 28) (by simp) (hl 5 (by decide))
  have e29 := hR.val (6, 29) (by simp) (hl 6 (by decide))
  have e30 := hR.val (7, 30) (by simp) (hl 7 (by decide))
  have e31 := hR.val (8, 31) (by simp) (hl 8 (by decide))
  obtain ⟨b11, e11, hb11, k11, -⟩ := hR.sto (12, 11) (by simp) (hl 12 (by decide))
  obtain ⟨b12, e12, hb12, k12, -⟩ := hR.sto (13, 12) (by simp) (hl 13 (by decide))
  obtain ⟨b13, e13, hb13, k13, -⟩ := hR.sto (14, 13) (by simp) (hl 14 (by decide))
  have d80 : W3.cell? ⟨b8, 0, none⟩ = some (.int .i64 p.a) := (hR.below.cell (p := ⟨b8, 0, none⟩) hb8).trans cb80
  have d81 : W3.cell? ⟨b8, 1, none⟩ = some (.int .i64 p.b) := (hR.below.cell (p := ⟨b8, 1, none⟩) hb8).trans cb81
  have d82 : W3.cell? ⟨b8, 2, none⟩ = some (.int .i64 p.c) := (hR.below.cell (p := ⟨b8, 2, none⟩) hb8).trans cb82
  have d90 : W3.cell? ⟨b9, 0, none⟩ = some (.int .i64 q.a) := (hR.below.cell (p := ⟨b9, 0, none⟩) hb9).trans cb90
  have d91 : W3.cell? ⟨b9, 1, none⟩ = some (.int .i64 q.b) := (hR.below.cell (p := ⟨b9, 1, none⟩) hb9).trans cb91
  have d92 : W3.cell? ⟨b9, 2, none⟩ = some (.int .i64 q.c) := (hR.below.cell (p := ⟨b9, 2, none⟩) hb9).trans cb92
  have d100 : W3.cell? ⟨b10, 0, none⟩ = some (.int .i64 r.a) := (hR.below.cell (p := ⟨b10, 0, none⟩) hb10).trans cb100
  have d101 : W3.cell? ⟨b10, 1, none⟩ = some (.int .i64 r.b) := (hR.below.cell (p := ⟨b10, 1, none⟩) hb10).trans cb101
  have d102 : W3.cell? ⟨b10, 2, none⟩ = some (.int .i64 r.c) := (hR.below.cell (p := ⟨b10, 2, none⟩) hb10).trans cb102
  have d110 : W3.cell? ⟨b11, 0, none⟩ = some (.int .i64 (crs q.b r.c q.c r.b)) := k11 0 _ rfl
  have d111 : W3.cell? ⟨b11, 1, none⟩ = some (.int .i64 (crs q.c r.a q.a r.c)) := k11 1 _ rfl
  have d112 : W3.cell? ⟨b11, 2, none⟩ = some (.int .i64 (crs q.a r.b q.b r.a)) := k11 2 _ rfl
  have d120 : W3.cell? ⟨b12, 0, none⟩ = some (.int .i64 (crs r.b p.c r.c p.b)) := k12 0 _ rfl
  have d121 : W3.cell? ⟨b12, 1, none⟩ = some (.int .i64 (crs r.c p.a r.a p.c)) := k12 1 _ rfl
  have d122 : W3.cell? ⟨b12, 2, none⟩ = some (.int .i64 (crs r.a p.b r.b p.a)) := k12 2 _ rfl
  have d130 : W3.cell? ⟨b13, 0, none⟩ = some (.int .i64 (crs p.b q.c p.c q.b)) := k13 0 _ rfl
  have d131 : W3.cell? ⟨b13, 1, none⟩ = some (.int .i64 (crs p.c q.a p.a q.c)) := k13 1 _ rfl
  have d132 : W3.cell? ⟨b13, 2, none⟩ = some (.int .i64 (crs p.a q.b p.b q.a)) := k13 2 _ rfl
  have hF2 := hF.drew.call hR.below
  have hb8' : b8 < W3.heap.size := Nat.lt_of_lt_of_le hb8 hR.below.size
  have hb9' : b9 < W3.heap.size := Nat.lt_of_lt_of_le hb9 hR.below.size
  have hb10' : b10 < W3.heap.size := Nat.lt_of_lt_of_le hb10 hR.below.size
  simp only [meet2A, e23, e24, e25, e26, e27, e28, e29, e30, e31, e11, e12, e13, meet2V]
  clear e23 e24 e25 e26 e27 e28 e29 e30 e31 e11 e12 e13 k11 k12 k13 hR hl hb8 hb9 hb10 hF
  clear cb80 cb81 cb82 cb90 cb91 cb92 cb100 cb101 cb102
  have hF := hF2
  clear hF2
  have hq := HE.out _ hF
  rw [det_eq] at hd
  go_wp2_with (go_at_call 72; refine (dot_any _ _ _ _ _ _ _).mono ?_; rintro e w1 ⟨rfl, hb1⟩; (try clear hq); (try clear hz); have hF : Fr 4 [(0, .cells #[.int .i64 (p.a), .int .i64 (p.b), .int .i64 (p.c), .int .i64 (p.d)] 23), (1, .cells #[.int .i64 (q.a), .int .i64 (q.b), .int .i64 (q.c), .int .i64 (q.d)] 23), (2, .cells #[.int .i64 (r.a), .int .i64 (r.b), .int .i64 (r.c), .int .i64 (r.d)] 23)] [(3, 4)] w w1 := Fr.call (by (repeat (first | exact hF | exact (((((Fr.nil w).fixed (by simp) (.cells #[.int .i64 (p.a), .int .i64 (p.b), .int .i64 (p.c), .int .i64 (p.d)] 23)).fixed (by simp) (.cells #[.int .i64 (q.a), .int .i64 (q.b), .int .i64 (q.c), .int .i64 (q.d)] 23)).fixed (by simp) (.cells #[.int .i64 (r.a), .int .i64 (r.b), .int .i64 (r.c), .int .i64 (r.d)] 23)).roomy (by simp) #[.int .i64 0, .int .i64 0, .int .i64 0, .int .i64 0] 48) | exact And.left (by assumption) | refine Fr.set ?_ (by first | (simp; done) | (simp; omega)) (by first | (simp [List.lookup]; done) | (simp [Nat.add_assoc, List.lookup]; done)) _ | refine Fr.drew ?_ | refine Fr.alloc ?_ _))) hb1; have hq := HE.out _ hF; have hz : w.heap.size < w1.heap.size ∧ w.heap.size + 1 < w1.heap.size ∧ w.heap.size + 2 < w1.heap.size ∧ w.heap.size + 3 < w1.heap.size := by have hs := Own.size (Fr.own hF); omega)
  refine bodyPost_ret (v := .tuple #[.agg #[.int .i64 0, .int .i64 0, .int .i64 0, .int .i64 0], .bool false]) ?_ rfl ⟨rfl, ?_⟩
  · simp [results, Tryz.results80, go_sem, hq]
  · refine Own.below (Fr.own (k := 4) (fx := [(0, .cells #[.int .i64 (p.a), .int .i64 (p.b), .int .i64 (p.c), .int .i64 (p.d)] 23), (1, .cells #[.int .i64 (q.a), .int .i64 (q.b), .int .i64 (q.c), .int .i64 (q.d)] 23), (2, .cells #[.int .i64 (r.a), .int .i64 (r.b), .int .i64 (r.c), .int .i64 (r.d)] 23)]) (rm := [(3, 4)]) ?_); (repeat (first | exact hF | exact And.left (by assumption) | refine Fr.set ?_ (by first | (simp; done) | (simp; omega)) (by first | (simp [List.lookup]; done) | (simp [Nat.add_assoc, List.lookup]; done)) _ | refine Fr.drew ?_ | refine Fr.alloc ?_ _))

end Go.Proofs.YtaoedfegakpjeabGreat
