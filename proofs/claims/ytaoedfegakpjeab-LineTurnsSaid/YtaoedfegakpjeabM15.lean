/- Contracts of the functions that the statement reaches, and plain lemmas: part 15 of 15. -/
import Derived.Test.YtaoedfegakpjeabM14

namespace Go.Proofs.Ytaoedfegakpjeab
open Go.RowKit

theorem at4_blk {W : World} {b : Nat} {c : Array Value} {q : Q4} (h : PB W b c) (hc : (.agg c : Value) = .agg #[.int .i64 (q.a), .int .i64 (q.b), .int .i64 (q.c), .int .i64 (q.d)]) : At4 W b 0 q := by
  have e : c = #[.int .i64 q.a, .int .i64 q.b, .int .i64 q.c, .int .i64 q.d] := by simpa using hc
  subst e
  have h2 := h.2
  unfold Blk at h2
  refine ⟨?_, ?_, ?_, ?_⟩ <;> simp [World.cell?, h2]

set_option maxRecDepth 100000 in
set_option maxHeartbeats 8000000 in
theorem turns_any (x y z : Q4) (w : World) :
    Calls Try.prog 4 #[.agg #[.int .i64 (x.a), .int .i64 (x.b), .int .i64 (x.c), .int .i64 (x.d)], .agg #[.int .i64 (y.a), .int .i64 (y.b), .int .i64 (y.c), .int .i64 (y.d)], .agg #[.int .i64 (z.a), .int .i64 (z.b), .int .i64 (z.c), .int .i64 (z.d)]] w fun e w' => e = .returned (.bool true) ∧ Below w.heap.size w w' := by
  go_enter Try.func4, Try.ntmps4
  have hE : ∀ W, Fr 3 [(0, .cells #[.int .i64 (x.a), .int .i64 (x.b), .int .i64 (x.c), .int .i64 (x.d)] 22), (1, .cells #[.int .i64 (y.a), .int .i64 (y.b), .int .i64 (y.c), .int .i64 (y.d)] 22), (2, .cells #[.int .i64 (z.a), .int .i64 (z.b), .int .i64 (z.c), .int .i64 (z.d)] 22)] [] w W → (W.cell? ⟨w.heap.size, 0, none⟩ = some (.int .i64 (x.a)) ∧ W.cell? ⟨w.heap.size, 1, none⟩ = some (.int .i64 (x.b)) ∧ W.cell? ⟨w.heap.size, 2, none⟩ = some (.int .i64 (x.c)) ∧ W.cell? ⟨w.heap.size, 3, none⟩ = some (.int .i64 (x.d)) ∧ W.cell? ⟨w.heap.size + 1, 0, none⟩ = some (.int .i64 (y.a)) ∧ W.cell? ⟨w.heap.size + 1, 1, none⟩ = some (.int .i64 (y.b)) ∧ W.cell? ⟨w.heap.size + 1, 2, none⟩ = some (.int .i64 (y.c)) ∧ W.cell? ⟨w.heap.size + 1, 3, none⟩ = some (.int .i64 (y.d)) ∧ W.cell? ⟨w.heap.size + 2, 0, none⟩ = some (.int .i64 (z.a)) ∧ W.cell? ⟨w.heap.size + 2, 1, none⟩ = some (.int .i64 (z.b)) ∧ W.cell? ⟨w.heap.size + 2, 2, none⟩ = some (.int .i64 (z.c)) ∧ W.cell? ⟨w.heap.size + 2, 3, none⟩ = some (.int .i64 (z.d))) := fun W h => by (repeat' apply And.intro) <;> first | exact h.at0 rfl | exact h.at rfl | exact (h.rms0 rfl).cell | exact (h.rms rfl).cell | exact (h.rms0 rfl).frozen | exact (h.rms rfl).frozen
  have HE := Lib.hid hE
  clear hE
  go_wp2
  refine gen_world (P := fun W => Code.wp _ _ _ _ W) (fun W => Fr 3 [(0, .cells #[.int .i64 (x.a), .int .i64 (x.b), .int .i64 (x.c), .int .i64 (x.d)] 22), (1, .cells #[.int .i64 (y.a), .int .i64 (y.b), .int .i64 (y.c), .int .i64 (y.d)] 22), (2, .cells #[.int .i64 (z.a), .int .i64 (z.b), .int .i64 (z.c), .int .i64 (z.d)] 22)] [] w W) ((((Fr.nil w).fixed (by simp) (.cells #[.int .i64 (x.a), .int .i64 (x.b), .int .i64 (x.c), .int .i64 (x.d)] 22)).fixed (by simp) (.cells #[.int .i64 (y.a), .int .i64 (y.b), .int .i64 (y.c), .int .i64 (y.d)] 22)).fixed (by simp) (.cells #[.int .i64 (z.a), .int .i64 (z.b), .int .i64 (z.c), .int .i64 (z.d)] 22)) ?_
  intro W hF
-- OPS
  refine wp_region_inv (by kernel_rfl) (by kernel_rfl) (fun listed a wy => ∃ u : Nat → Value, a = { tmps := #[.agg #[.int .i64 (x.a), .int .i64 (x.b), .int .i64 (x.c), .int .i64 (x.d)], .agg #[.int .i64 (y.a), .int .i64 (y.b), .int .i64 (y.c), .int .i64 (y.d)], .agg #[.int .i64 (z.a), .int .i64 (z.b), .int .i64 (z.c), .int .i64 (z.d)], .pointer (some ⟨w.heap.size, 0, none⟩), .pointer (some ⟨w.heap.size + 1, 0, none⟩), .pointer (some ⟨w.heap.size + 1 + 1, 0, none⟩), .bool false, u 7, u 8, u 9, undef, undef, undef, undef, undef, undef, undef, undef, undef, undef, undef, undef, undef, undef, undef, undef, u 26, u 27, u 28, u 29, u 30, u 31, undef, undef, undef, undef, undef, undef, undef, undef, undef, undef, undef, undef, undef, undef, undef, undef, undef, undef, undef, undef, undef, undef, undef, undef, undef, undef, undef, undef, undef, undef, undef, undef, undef, undef, undef, undef, undef, undef, undef, undef, undef, undef, undef, undef, undef, undef, undef, undef, undef, undef, undef, undef, undef, undef, undef, undef, undef, undef, undef, undef, undef, undef, undef, undef, undef, undef, undef, undef, undef, undef, undef, undef, undef, undef, undef, undef, undef, undef, undef, undef, undef, undef, undef, undef, undef, undef, undef, undef, undef, undef, undef, undef, undef, undef, undef, undef, undef, undef, undef, undef, undef, undef, undef, undef, undef, undef, undef, undef, undef, undef, undef, undef, undef, undef, undef, undef, undef, undef, undef, undef, undef, undef, undef, undef, undef, undef, undef, undef, undef, undef, undef, undef, undef, undef, undef, undef, undef, undef, undef, undef, undef, undef, undef, undef, undef, undef, undef, undef, undef], defers := [] } ∧ RgQ W.drew (fun d => match d with | 26 => .eq (.agg #[.int .i64 (x.a), .int .i64 (x.b), .int .i64 (x.c), .int .i64 (x.d)]) | 28 => .eq (.agg #[.int .i64 (y.a), .int .i64 (y.b), .int .i64 (y.c), .int .i64 (y.d)]) | 30 => .eq (.agg #[.int .i64 (z.a), .int .i64 (z.b), .int .i64 (z.c), .int .i64 (z.d)]) | _ => .pl) (fun _ => .pl) [(0, 26), (1, 27), (2, 28), (3, 29), (4, 30), (5, 31)] [(6, 7, 9), (7, 8, 10), (8, 9, 11)] listed u wy) ⟨fun _ => undef, rfl, RgQ.start _ _⟩ ?_ ?_
  rotate_left
  · rintro listed hs i hi a wy ⟨u, rfl, hR⟩ hr
    match i, hi, hr with
    | 0, _, hr =>
      as_aux_lemma =>
      refine wpOp_step rfl (fun K' hK => ?_)
      have hqr := HE.out _ (hF.drew.call hR.below)
      go_simp
      exact hK _ _ ⟨upd u 26 _, rfl, hR.yields (Below.refl _ _) rfl rfl rfl⟩
    | 1, _, hr =>
      as_aux_lemma =>
      refine wpOp_step rfl (fun K' hK => ?_)
      have e0 : u 26 = .agg #[.int .i64 (x.a), .int .i64 (x.b), .int .i64 (x.c), .int .i64 (x.d)] := hR.val (0, 26) (by simp) (dep_of hr 0 (by kernel_rfl))
      go_simp
      refine (tame_any x.a x.b x.c x.d 5 wy (by decide) (by decide)).mono ?_
      rintro e w1 ⟨⟨q, hq1, hq2, rfl⟩, hb1⟩
      exact hK _ _ ⟨upd u 27 _, by simp [upd, e0], hR.yields hb1 ⟨q, hq1, hq2, rfl⟩ rfl rfl⟩
    | 2, _, hr =>
      as_aux_lemma =>
      refine wpOp_step rfl (fun K' hK => ?_)
      have hqr := HE.out _ (hF.drew.call hR.below)
      go_simp
      exact hK _ _ ⟨upd u 28 _, rfl, hR.yields (Below.refl _ _) rfl rfl rfl⟩
    | 3, _, hr =>
      as_aux_lemma =>
      refine wpOp_step rfl (fun K' hK => ?_)
      have e0 : u 28 = .agg #[.int .i64 (y.a), .int .i64 (y.b), .int .i64 (y.c), .int .i64 (y.d)] := hR.val (2, 28) (by simp) (dep_of hr 2 (by kernel_rfl))
      go_simp
      refine (tame_any y.a y.b y.c y.d 5 wy (by decide) (by decide)).mono ?_
      rintro e w1 ⟨⟨q, hq1, hq2, rfl⟩, hb1⟩
      exact hK _ _ ⟨upd u 29 _, by simp [upd, e0], hR.yields hb1 ⟨q, hq1, hq2, rfl⟩ rfl rfl⟩
    | 4, _, hr =>
      as_aux_lemma =>
      refine wpOp_step rfl (fun K' hK => ?_)
      have hqr := HE.out _ (hF.drew.call hR.below)
      go_simp
      exact hK _ _ ⟨upd u 30 _, rfl, hR.yields (Below.refl _ _) rfl rfl rfl⟩
    | 5, _, hr =>
      as_aux_lemma =>
      refine wpOp_step rfl (fun K' hK => ?_)
      have e0 : u 30 = .agg #[.int .i64 (z.a), .int .i64 (z.b), .int .i64 (z.c), .int .i64 (z.d)] := hR.val (4, 30) (by simp) (dep_of hr 4 (by kernel_rfl))
      go_simp
      refine (tame_any z.a z.b z.c z.d 5 wy (by decide) (by decide)).mono ?_
      rintro e w1 ⟨⟨q, hq1, hq2, rfl⟩, hb1⟩
      exact hK _ _ ⟨upd u 31 _, by simp [upd, e0], hR.yields hb1 ⟨q, hq1, hq2, rfl⟩ rfl rfl⟩
    | 6, _, hr =>
      as_aux_lemma =>
      refine wpOp_step rfl (fun K' hK => ?_)
      go_simp
      exact hK _ _ ⟨upd u 7 _, rfl, hR.makes rfl (ready_spec.1 hr).2.1 rfl rfl⟩
    | 7, _, hr =>
      as_aux_lemma =>
      refine wpOp_step rfl (fun K' hK => ?_)
      go_simp
      exact hK _ _ ⟨upd u 8 _, rfl, hR.makes rfl (ready_spec.1 hr).2.1 rfl rfl⟩
    | 8, _, hr =>
      as_aux_lemma =>
      refine wpOp_step rfl (fun K' hK => ?_)
      go_simp
      exact hK _ _ ⟨upd u 9 _, rfl, hR.makes rfl (ready_spec.1 hr).2.1 rfl rfl⟩
    | 9, _, hr =>
      as_aux_lemma =>
      refine wpOp_step rfl (fun K' hK => ?_)
      have hl := dep_of hr 6 (by kernel_rfl)
      obtain ⟨b, c, eb, _, hn, _⟩ := hR.ali (6, 7, 9) (by simp) hl
      obtain ⟨q, hq1, hq2, ev⟩ : ∃ q : Q4, rightB q.a q.b q.c q.d = true ∧ q.I64 ∧ u 27 = .agg #[.int .i64 (q.a), .int .i64 (q.b), .int .i64 (q.c), .int .i64 (q.d)] := hR.val (1, 27) (by simp) (dep_of hr 1 (by kernel_rfl))
      have hrm : Room wy b 4 := ⟨c, _, hn.1, hn.2⟩
      have HQ := Lib.hid (And.intro hq1 hq2)
      clear hn hq1 hq2
      have rc := hrm.cell
      have rf := hrm.frozen
      go_simp
      exact hK _ _ ⟨u, by simp [ev, eb], hR.stores (k := 6) (d := 7) hl eb ⟨q, HQ.out.1, HQ.out.2, rfl⟩ rfl⟩
    | 10, _, hr =>
      as_aux_lemma =>
      refine wpOp_step rfl (fun K' hK => ?_)
      have hl := dep_of hr 7 (by kernel_rfl)
      obtain ⟨b, c, eb, _, hn, _⟩ := hR.ali (7, 8, 10) (by simp) hl
      obtain ⟨q, hq1, hq2, ev⟩ : ∃ q : Q4, rightB q.a q.b q.c q.d = true ∧ q.I64 ∧ u 29 = .agg #[.int .i64 (q.a), .int .i64 (q.b), .int .i64 (q.c), .int .i64 (q.d)] := hR.val (3, 29) (by simp) (dep_of hr 3 (by kernel_rfl))
      have hrm : Room wy b 4 := ⟨c, _, hn.1, hn.2⟩
      have HQ := Lib.hid (And.intro hq1 hq2)
      clear hn hq1 hq2
      have rc := hrm.cell
      have rf := hrm.frozen
      go_simp
      exact hK _ _ ⟨u, by simp [ev, eb], hR.stores (k := 7) (d := 8) hl eb ⟨q, HQ.out.1, HQ.out.2, rfl⟩ rfl⟩
    | 11, _, hr =>
      as_aux_lemma =>
      refine wpOp_step rfl (fun K' hK => ?_)
      have hl := dep_of hr 8 (by kernel_rfl)
      obtain ⟨b, c, eb, _, hn, _⟩ := hR.ali (8, 9, 11) (by simp) hl
      obtain ⟨q, hq1, hq2, ev⟩ : ∃ q : Q4, rightB q.a q.b q.c q.d = true ∧ q.I64 ∧ u 31 = .agg #[.int .i64 (q.a), .int .i64 (q.b), .int .i64 (q.c), .int .i64 (q.d)] := hR.val (5, 31) (by simp) (dep_of hr 5 (by kernel_rfl))
      have hrm : Room wy b 4 := ⟨c, _, hn.1, hn.2⟩
      have HQ := Lib.hid (And.intro hq1 hq2)
      clear hn hq1 hq2
      have rc := hrm.cell
      have rf := hrm.frozen
      go_simp
      exact hK _ _ ⟨u, by simp [ev, eb], hR.stores (k := 8) (d := 9) hl eb ⟨q, HQ.out.1, HQ.out.2, rfl⟩ rfl⟩
-- ENDOPS
  rintro listed a W2 ⟨u, rfl, hR⟩ hl
  obtain ⟨b7, c7, e7, hlo7, hn7, hv7⟩ := hR.ali (6, 7, 9) (by simp) (hl 6 (by decide))
  obtain ⟨b8, c8, e8, hlo8, hn8, hv8⟩ := hR.ali (7, 8, 10) (by simp) (hl 7 (by decide))
  obtain ⟨b9, c9, e9, hlo9, hn9, hv9⟩ := hR.ali (8, 9, 11) (by simp) (hl 8 (by decide))
  obtain ⟨p, hp, ip, f7⟩ := hv7 (hl 9 (by decide))
  obtain ⟨q, hq, iq, f8⟩ := hv8 (hl 10 (by decide))
  obtain ⟨r, hr, ir, f9⟩ := hv9 (hl 11 (by decide))
  have a7 := at4_blk hn7 f7
  have a8 := at4_blk hn8 f8
  have a9 := at4_blk hn9 f9
  have l7 := hn7.2.lt
  have l8 := hn8.2.lt
  have l9 := hn9.2.lt
  have HW := Lib.hid (hF.drew.call hR.below).own.below
  rw [right_plane ip] at hp
  rw [right_plane iq] at hq
  rw [right_plane ir] at hr
  simp only [e7, e8, e9]
  clear hR hl hn7 hn8 hn9 hv7 hv8 hv9 f7 f8 f9 e7 e8 e9 hlo7 hlo8 hlo9 hF HE
  generalize u 26 = u26
  generalize u 27 = u27
  generalize u 28 = u28
  generalize u 29 = u29
  generalize u 30 = u30
  generalize u 31 = u31
  clear u listed
-- REST
  have HPL := Lib.hid (And.intro hp (And.intro hq (And.intro hr (And.intro ip (And.intro iq ir)))))
  obtain ⟨p0, p1, p2, p3⟩ := a7
  obtain ⟨q0, q1, q2, q3⟩ := a8
  obtain ⟨r0, r1, r2, r3⟩ := a9
  simp only [Nat.zero_add] at p1 p2 p3 q1 q2 q3 r1 r2 r3
  have PP := (plane_iff.1 hp).1
  have QQ := (plane_iff.1 hq).1
  have HPQ := Lib.hid (And.intro PP QQ)
  clear PP QQ hp hq hr ip iq ir
  have hE : ∀ W, Fr 0 [] [] W2 W → (W.cell? ⟨b7, 0, none⟩ = some (.int .i64 (p.a)) ∧ W.cell? ⟨b7, 1, none⟩ = some (.int .i64 (p.b)) ∧ W.cell? ⟨b7, 2, none⟩ = some (.int .i64 (p.c)) ∧ W.cell? ⟨b7, 3, none⟩ = some (.int .i64 (p.d)) ∧ W.cell? ⟨b8, 0, none⟩ = some (.int .i64 (q.a)) ∧ W.cell? ⟨b8, 1, none⟩ = some (.int .i64 (q.b)) ∧ W.cell? ⟨b8, 2, none⟩ = some (.int .i64 (q.c)) ∧ W.cell? ⟨b8, 3, none⟩ = some (.int .i64 (q.d)) ∧ W.cell? ⟨b9, 0, none⟩ = some (.int .i64 (r.a)) ∧ W.cell? ⟨b9, 1, none⟩ = some (.int .i64 (r.b)) ∧ W.cell? ⟨b9, 2, none⟩ = some (.int .i64 (r.c)) ∧ W.cell? ⟨b9, 3, none⟩ = some (.int .i64 (r.d))) := fun W h => by (repeat' apply And.intro) <;> first | exact h.at0 rfl | exact h.at rfl | exact (h.rms0 rfl).cell | exact (h.rms rfl).cell | exact (h.rms0 rfl).frozen | exact (h.rms rfl).frozen | exact (h.own.below.cell (p := ⟨b7, _, none⟩) l7).trans (by assumption) | exact (h.own.below.cell (p := ⟨b8, _, none⟩) l8).trans (by assumption) | exact (h.own.below.cell (p := ⟨b9, _, none⟩) l9).trans (by assumption)
  have HE := Lib.hid hE
  clear hE
  have hF : Fr 0 [] [] W2 W2 := Fr.nil _
  have hq := HE.out _ hF
  have hz : b7 < W2.heap.size ∧ b8 < W2.heap.size ∧ b9 < W2.heap.size := ⟨l7, l8, l9⟩
  clear p0 p1 p2 p3 q0 q1 q2 q3 r0 r1 r2 r3
  have HA : Hid (∀ W, Calls Try.prog 11 #[] W fun e w' => e = .returned (.bool true) ∧ Below W.heap.size W w') := fun W => awake_any W
  by_cases hn : p.dx q = 0 ∧ p.dy q = 0 ∧ p.dz q = 0
  · obtain ⟨vx, vy, vz, hv⟩ : ∃ a b c, a = opV p q [] [] (p.dx q) ∧ b = opV p q [] [] (p.dy q) ∧ c = opV p q [] [] (p.dz q) := ⟨_, _, _, rfl, rfl, rfl⟩
    obtain ⟨ux, uy, uz, hu⟩ : ∃ a b c, a = opV q p [] [] (q.dx p) ∧ b = opV q p [] [] (q.dy p) ∧ c = opV q p [] [] (q.dz p) := ⟨_, _, _, rfl, rfl, rfl⟩
    have HD1 : Hid (∀ W, Calls Try.prog 12 #[.agg #[.int .i64 (p.a), .int .i64 (p.b), .int .i64 (p.c), .int .i64 (p.d)], .agg #[.int .i64 (q.a), .int .i64 (q.b), .int .i64 (q.c), .int .i64 (q.d)]] W fun e w' => e = .returned (.tuple #[.agg #[.int .i64 vx, .int .i64 vy, .int .i64 vz], .int .i64 4]) ∧ Below W.heap.size W w') := fun W => by
      obtain ⟨hp, hq, hr, ip, iq, ir⟩ := HPL.out
      rw [hv.1, hv.2.1, hv.2.2]; have h := lineDirection_any p q W ip iq
      rw [opE_planes hp hq rfl, if_pos hn] at h; exact h
    have HD2 : Hid (∀ W, Calls Try.prog 12 #[.agg #[.int .i64 (q.a), .int .i64 (q.b), .int .i64 (q.c), .int .i64 (q.d)], .agg #[.int .i64 (p.a), .int .i64 (p.b), .int .i64 (p.c), .int .i64 (p.d)]] W fun e w' => e = .returned (.tuple #[.agg #[.int .i64 ux, .int .i64 uy, .int .i64 uz], .int .i64 4]) ∧ Below W.heap.size W w') := fun W => by
      obtain ⟨hp, hq, hr, ip, iq, ir⟩ := HPL.out
      rw [hu.1, hu.2.1, hu.2.2]; have h := lineDirection_any q p W iq ip
      obtain ⟨d1, d2, d3⟩ := dir_back HPQ.out.1 HPQ.out.2
      rw [opE_planes hq hp rfl, if_pos (by rw [d1, d2, d3]; omega)] at h; exact h
    have HPA : Hid (∀ W, Calls Try.prog 13 #[.agg #[.int .i64 (p.a), .int .i64 (p.b), .int .i64 (p.c), .int .i64 (p.d)], .agg #[.int .i64 (q.a), .int .i64 (q.b), .int .i64 (q.c), .int .i64 (q.d)]] W fun e w' => e = .returned (.bool true) ∧ Below W.heap.size W w') := fun W => by
      have h := parallel_any p.a p.b p.c p.d q.a q.b q.c q.d W
      obtain ⟨e1, e2, e3, _⟩ := cross_id HPQ.out.1 HPQ.out.2
      obtain ⟨c1, c2, c3⟩ := (dir_zero HPQ.out.1 HPQ.out.2).1 hn
      rw [e1, e2, e3, c1, c2, c3] at h; exact h
    clear hv hu hn HPL HPQ
    go_wp2_with fail
    ((with_reducible refine (HD1.out _).mono ?_); rintro e v1 ⟨rfl, hb⟩)
    have hF : Fr 0 [] [] W2 v1 := Fr.call (by (repeat (first | exact hF | exact hD | exact hO | (with_reducible refine Fr.drew ?_) | (with_reducible refine Fr.alloc ?_ _)))) hb
    clear hq hz
    have hq := HE.out _ hF
    have hz : b7 < v1.heap.size ∧ b8 < v1.heap.size ∧ b9 < v1.heap.size := by have h1 := (Fr.own hF).size; omega
    clear hb
    have hF := hF.alloc (.cells #[.int .i64 vx, .int .i64 vy, .int .i64 vz] 24)
    have hD : Fr 1 [(0, .cells #[.int .i64 vx, .int .i64 vy, .int .i64 vz] 24)] [] v1 (v1.alloc (.cells #[.int .i64 vx, .int .i64 vy, .int .i64 vz] 24)) := (Fr.nil v1).fixed (by simp) _
    have HDC : Hid (∀ W, Fr 1 [(0, .cells #[.int .i64 vx, .int .i64 vy, .int .i64 vz] 24)] [] v1 W → W.cell? ⟨v1.heap.size, 0, none⟩ = some (.int .i64 vx) ∧ W.cell? ⟨v1.heap.size, 1, none⟩ = some (.int .i64 vy) ∧ W.cell? ⟨v1.heap.size, 2, none⟩ = some (.int .i64 vz)) := fun W h => ⟨h.at0 rfl, h.at0 rfl, h.at0 rfl⟩
    have hDq := HDC.out _ hD
    go_wp2_with fail
    ((with_reducible refine (HD2.out _).mono ?_); rintro e v2 ⟨rfl, hb⟩)
    have hF : Fr 0 [] [] W2 v2 := Fr.call (by (repeat (first | exact hF | exact hD | exact hO | (with_reducible refine Fr.drew ?_) | (with_reducible refine Fr.alloc ?_ _)))) hb
    have hD : Fr 1 [(0, .cells #[.int .i64 vx, .int .i64 vy, .int .i64 vz] 24)] [] v1 v2 := Fr.call (by (repeat (first | exact hF | exact hD | exact hO | (with_reducible refine Fr.drew ?_) | (with_reducible refine Fr.alloc ?_ _)))) hb
    clear hq hz hDq
    have hq := HE.out _ hF
    have hDq := HDC.out _ hD
    have hz : b7 < v2.heap.size ∧ b8 < v2.heap.size ∧ b9 < v2.heap.size ∧ v1.heap.size < v2.heap.size := by have h1 := (Fr.own hF).size; have h2 := (Fr.own hD).size; omega
    clear hb
    have hF := hF.alloc (.cells #[.int .i64 ux, .int .i64 uy, .int .i64 uz] 24)
    have hD := hD.alloc (.cells #[.int .i64 ux, .int .i64 uy, .int .i64 uz] 24)
    have hO : Fr 1 [(0, .cells #[.int .i64 ux, .int .i64 uy, .int .i64 uz] 24)] [] v2 (v2.alloc (.cells #[.int .i64 ux, .int .i64 uy, .int .i64 uz] 24)) := (Fr.nil v2).fixed (by simp) _
    have HOC : Hid (∀ W, Fr 1 [(0, .cells #[.int .i64 ux, .int .i64 uy, .int .i64 uz] 24)] [] v2 W → W.cell? ⟨v2.heap.size, 0, none⟩ = some (.int .i64 ux) ∧ W.cell? ⟨v2.heap.size, 1, none⟩ = some (.int .i64 uy) ∧ W.cell? ⟨v2.heap.size, 2, none⟩ = some (.int .i64 uz)) := fun W h => ⟨h.at0 rfl, h.at0 rfl, h.at0 rfl⟩
    have hOq := HOC.out _ hO
    go_wp2_with fail
    ((with_reducible refine (HPA.out _).mono ?_); rintro e v3 ⟨rfl, hb⟩)
    have hF : Fr 0 [] [] W2 v3 := Fr.call (by (repeat (first | exact hF | exact hD | exact hO | (with_reducible refine Fr.drew ?_) | (with_reducible refine Fr.alloc ?_ _)))) hb
    have hD : Fr 1 [(0, .cells #[.int .i64 vx, .int .i64 vy, .int .i64 vz] 24)] [] v1 v3 := Fr.call (by (repeat (first | exact hF | exact hD | exact hO | (with_reducible refine Fr.drew ?_) | (with_reducible refine Fr.alloc ?_ _)))) hb
    have hO : Fr 1 [(0, .cells #[.int .i64 ux, .int .i64 uy, .int .i64 uz] 24)] [] v2 v3 := Fr.call (by (repeat (first | exact hF | exact hD | exact hO | (with_reducible refine Fr.drew ?_) | (with_reducible refine Fr.alloc ?_ _)))) hb
    clear hq hz hDq hOq
    have hq := HE.out _ hF
    have hDq := HDC.out _ hD
    have hOq := HOC.out _ hO
    have hz : b7 < v3.heap.size ∧ b8 < v3.heap.size ∧ b9 < v3.heap.size ∧ v1.heap.size < v3.heap.size ∧ v2.heap.size < v3.heap.size := by have h1 := (Fr.own hF).size; have h2 := (Fr.own hD).size; have h3 := (Fr.own hO).size; omega
    clear hb
    go_wp2_with fail
    ((with_reducible refine (HA.out _).mono ?_); rintro e v4 ⟨rfl, hb⟩)
    go_wp2
    go_ret
    refine ⟨rfl, ?_⟩
    have h3 := HW.out.trans (hF.own.below.mono HW.out.size)
    exact h3.trans (hb.mono h3.size)
  · have HD1 : Hid (∀ W, Calls Try.prog 12 #[.agg #[.int .i64 (p.a), .int .i64 (p.b), .int .i64 (p.c), .int .i64 (p.d)], .agg #[.int .i64 (q.a), .int .i64 (q.b), .int .i64 (q.c), .int .i64 (q.d)]] W fun e w' => e = .returned (.tuple #[.agg #[.int .i64 (p.dx q), .int .i64 (p.dy q), .int .i64 (p.dz q)], .int .i64 0]) ∧ Below W.heap.size W w') := fun W => by
      obtain ⟨hp, hq, hr, ip, iq, ir⟩ := HPL.out
      have h := lineDirection_any p q W ip iq
      have h0 : opE p q [] [] = 0 := by rw [opE_planes hp hq rfl, if_neg hn]
      rw [h0, (opE_ok h0).1, (opE_ok h0).1, (opE_ok h0).1] at h; exact h
    have HD2 : Hid (∀ W, Calls Try.prog 12 #[.agg #[.int .i64 (q.a), .int .i64 (q.b), .int .i64 (q.c), .int .i64 (q.d)], .agg #[.int .i64 (p.a), .int .i64 (p.b), .int .i64 (p.c), .int .i64 (p.d)]] W fun e w' => e = .returned (.tuple #[.agg #[.int .i64 (q.dx p), .int .i64 (q.dy p), .int .i64 (q.dz p)], .int .i64 0]) ∧ Below W.heap.size W w') := fun W => by
      obtain ⟨hp, hq, hr, ip, iq, ir⟩ := HPL.out
      have h := lineDirection_any q p W iq ip
      obtain ⟨d1, d2, d3⟩ := dir_back HPQ.out.1 HPQ.out.2
      have h0 : opE q p [] [] = 0 := by rw [opE_planes hq hp rfl, if_neg (by rw [d1, d2, d3]; omega)]
      rw [h0, (opE_ok h0).1, (opE_ok h0).1, (opE_ok h0).1] at h; exact h
    obtain ⟨cc, hcc⟩ : ∃ cc, cc = crossV p q r := ⟨_, rfl⟩
    have HC1 : Hid (∀ W, Calls Try.prog 14 #[.agg #[.int .i64 (p.a), .int .i64 (p.b), .int .i64 (p.c), .int .i64 (p.d)], .agg #[.int .i64 (q.a), .int .i64 (q.b), .int .i64 (q.c), .int .i64 (q.d)], .agg #[.int .i64 (r.a), .int .i64 (r.b), .int .i64 (r.c), .int .i64 (r.d)]] W fun e w' => e = .returned (.tuple #[.int .i64 cc, .int .i64 0]) ∧ Below W.heap.size W w') := fun W => by
      obtain ⟨hp, hq, hr, ip, iq, ir⟩ := HPL.out
      have h := crosses_any p q r W ip iq ir
      rw [(crossV_pl hp hq hr hn).1, ← hcc] at h; exact h
    have HC2 : Hid (∀ W, Calls Try.prog 14 #[.agg #[.int .i64 (p.a), .int .i64 (p.b), .int .i64 (p.c), .int .i64 (p.d)], .agg #[.int .i64 (q.a), .int .i64 (q.b), .int .i64 (q.c), .int .i64 (q.d)], .agg #[.int .i64 (wrap64 (-r.a)), .int .i64 (wrap64 (-r.b)), .int .i64 (wrap64 (-r.c)), .int .i64 (wrap64 (-r.d))]] W fun e w' => e = .returned (.tuple #[.int .i64 (wrap64 (-cc)), .int .i64 0]) ∧ Below W.heap.size W w') := fun W => by
      obtain ⟨hp, hq, hr, ip, iq, ir⟩ := HPL.out
      have h := crosses_any p q r.opp W ip iq (opp_i64 r)
      rw [(crossV_pl hp hq (opp_plane hr) hn).1, turns_s hp hq hr hn, ← hcc] at h; exact h
    have HC3 : Hid (∀ W, Calls Try.prog 14 #[.agg #[.int .i64 (q.a), .int .i64 (q.b), .int .i64 (q.c), .int .i64 (q.d)], .agg #[.int .i64 (p.a), .int .i64 (p.b), .int .i64 (p.c), .int .i64 (p.d)], .agg #[.int .i64 (r.a), .int .i64 (r.b), .int .i64 (r.c), .int .i64 (r.d)]] W fun e w' => e = .returned (.tuple #[.int .i64 (wrap64 (-cc)), .int .i64 0]) ∧ Below W.heap.size W w') := fun W => by
      obtain ⟨hp, hq, hr, ip, iq, ir⟩ := HPL.out
      have h := crosses_any q p r W iq ip ir
      obtain ⟨d1, d2, d3⟩ := dir_back HPQ.out.1 HPQ.out.2
      rw [(crossV_pl hq hp hr (by rw [d1, d2, d3]; omega)).1, turns_t hp hq hr hn, ← hcc] at h; exact h
    have HL1 : Hid (∀ W, Calls Try.prog 16 #[.agg #[.int .i64 (p.a), .int .i64 (p.b), .int .i64 (p.c), .int .i64 (p.d)], .agg #[.int .i64 (q.a), .int .i64 (q.b), .int .i64 (q.c), .int .i64 (q.d)], .agg #[.int .i64 (q.a), .int .i64 (q.b), .int .i64 (q.c), .int .i64 (q.d)]] W fun e w' => e = .returned (.tuple #[.int .i64 (-1), .int .i64 0]) ∧ Below W.heap.size W w') := fun W => by
      obtain ⟨hp, hq, hr, ip, iq, ir⟩ := HPL.out
      have h := left_any p q q W ip iq iq
      rw [(leftV_pl hp hq hq hn).1, turns_u hp hq hn] at h; exact h
    have HL2 : Hid (∀ W, Calls Try.prog 16 #[.agg #[.int .i64 (p.a), .int .i64 (p.b), .int .i64 (p.c), .int .i64 (p.d)], .agg #[.int .i64 (q.a), .int .i64 (q.b), .int .i64 (q.c), .int .i64 (q.d)], .agg #[.int .i64 (p.a), .int .i64 (p.b), .int .i64 (p.c), .int .i64 (p.d)]] W fun e w' => e = .returned (.tuple #[.int .i64 0, .int .i64 0]) ∧ Below W.heap.size W w') := fun W => by
      obtain ⟨hp, hq, hr, ip, iq, ir⟩ := HPL.out
      have h := left_any p q p W ip iq ip
      rw [(leftV_pl hp hq hp hn).1, turns_w hp hq hn] at h; exact h
    have HC4 : Hid (∀ W, Calls Try.prog 14 #[.agg #[.int .i64 (p.a), .int .i64 (p.b), .int .i64 (p.c), .int .i64 (p.d)], .agg #[.int .i64 (q.a), .int .i64 (q.b), .int .i64 (q.c), .int .i64 (q.d)], .agg #[.int .i64 (q.a), .int .i64 (q.b), .int .i64 (q.c), .int .i64 (q.d)]] W fun e w' => e = .returned (.tuple #[.int .i64 0, .int .i64 0]) ∧ Below W.heap.size W w') := fun W => by
      obtain ⟨hp, hq, hr, ip, iq, ir⟩ := HPL.out
      have h := crosses_any p q q W ip iq iq
      rw [(crossV_pl hp hq hq hn).1, turns_own hp hq hn] at h; exact h
    have HG1 : Hid (∀ W, Calls Try.prog 17 #[.int .i64 (p.dx q), .int .i64 (p.dy q)] W fun e w' => e = .returned (.int .i64 (gcd2 (p.dx q) (p.dy q))) ∧ Below W.heap.size W w') := fun W => by
      obtain ⟨G, _, _, _, _, b1, b2, b3, _, _⟩ := dir_spec HPQ.out.1 HPQ.out.2
      exact pgcd_any _ _ W ⟨by omega, by omega⟩ ⟨by omega, by omega⟩
    have HG2 : Hid (∀ W, Calls Try.prog 17 #[.int .i64 (gcd2 (p.dx q) (p.dy q)), .int .i64 (p.dz q)] W fun e w' => e = .returned (.int .i64 1) ∧ Below W.heap.size W w') := fun W => by
      obtain ⟨G, _, _, _, _, b1, b2, b3, _, _⟩ := dir_spec HPQ.out.1 HPQ.out.2
      have h1 := dir_one HPQ.out.1 HPQ.out.2 (fun h => hn ((dir_zero HPQ.out.1 HPQ.out.2).2 h))
      have e1 := gcd2_small (a := p.dx q) (b := p.dy q) (by omega) (by omega) (by omega) (by omega)
      have l1 : Nat.gcd (p.dx q).natAbs (p.dy q).natAbs < 2000001 := gcd_lt (by omega) (by omega)
      have h := pgcd_any (gcd2 (p.dx q) (p.dy q)) (p.dz q) W (by rw [e1]; exact ⟨by omega, by omega⟩) ⟨by omega, by omega⟩
      rw [e1, gcd2_small (by omega) (by omega) (by omega) (by omega)] at h
      simp only [Int.natAbs_natCast, h1] at h
      rw [e1]; exact h
    have HO1 : Hid (eq3B (q.dx p) (q.dy p) (q.dz p) (wrap64 (-p.dx q)) (wrap64 (-p.dy q)) (wrap64 (-p.dz q)) = true) := by
      obtain ⟨G, _, _, _, _, b1, b2, b3, _, _⟩ := dir_spec HPQ.out.1 HPQ.out.2
      obtain ⟨d1, d2, d3⟩ := dir_back HPQ.out.1 HPQ.out.2
      unfold Hid
      rw [d1, d2, d3, wrap_id (by omega), wrap_id (by omega), wrap_id (by omega)]; simp [eq3B]
    have HO2 : Hid (eq3B (p.dx q) (p.dy q) (p.dz q) 0 0 0 = false) := by
      unfold Hid; simp [eq3B]; exact fun a b c => hn ⟨a, b, c⟩
    generalize q.dx p = ox at *
    generalize q.dy p = oy at *
    generalize q.dz p = oz at *
    generalize p.dx q = dx at *
    generalize p.dy q = dy at *
    generalize p.dz q = dz at *
    clear hcc hn HPL HPQ
    go_wp2_with fail
    ((with_reducible refine (HD1.out _).mono ?_); rintro e v1 ⟨rfl, hb⟩)
    have hF : Fr 0 [] [] W2 v1 := Fr.call (by (repeat (first | exact hF | exact hD | exact hO | (with_reducible refine Fr.drew ?_) | (with_reducible refine Fr.alloc ?_ _)))) hb
    clear hq hz
    have hq := HE.out _ hF
    have hz : b7 < v1.heap.size ∧ b8 < v1.heap.size ∧ b9 < v1.heap.size := by have h1 := (Fr.own hF).size; omega
    clear hb
    have hF := hF.alloc (.cells #[.int .i64 dx, .int .i64 dy, .int .i64 dz] 24)
    have hD : Fr 1 [(0, .cells #[.int .i64 dx, .int .i64 dy, .int .i64 dz] 24)] [] v1 (v1.alloc (.cells #[.int .i64 dx, .int .i64 dy, .int .i64 dz] 24)) := (Fr.nil v1).fixed (by simp) _
    have HDC : Hid (∀ W, Fr 1 [(0, .cells #[.int .i64 dx, .int .i64 dy, .int .i64 dz] 24)] [] v1 W → W.cell? ⟨v1.heap.size, 0, none⟩ = some (.int .i64 dx) ∧ W.cell? ⟨v1.heap.size, 1, none⟩ = some (.int .i64 dy) ∧ W.cell? ⟨v1.heap.size, 2, none⟩ = some (.int .i64 dz)) := fun W h => ⟨h.at0 rfl, h.at0 rfl, h.at0 rfl⟩
    have hDq := HDC.out _ hD
    go_wp2_with fail
    ((with_reducible refine (HD2.out _).mono ?_); rintro e v2 ⟨rfl, hb⟩)
    have hF : Fr 0 [] [] W2 v2 := Fr.call (by (repeat (first | exact hF | exact hD | exact hO | (with_reducible refine Fr.drew ?_) | (with_reducible refine Fr.alloc ?_ _)))) hb
    have hD : Fr 1 [(0, .cells #[.int .i64 dx, .int .i64 dy, .int .i64 dz] 24)] [] v1 v2 := Fr.call (by (repeat (first | exact hF | exact hD | exact hO | (with_reducible refine Fr.drew ?_) | (with_reducible refine Fr.alloc ?_ _)))) hb
    clear hq hz hDq
    have hq := HE.out _ hF
    have hDq := HDC.out _ hD
    have hz : b7 < v2.heap.size ∧ b8 < v2.heap.size ∧ b9 < v2.heap.size ∧ v1.heap.size < v2.heap.size := by have h1 := (Fr.own hF).size; have h2 := (Fr.own hD).size; omega
    clear hb
    have hF := hF.alloc (.cells #[.int .i64 ox, .int .i64 oy, .int .i64 oz] 24)
    have hD := hD.alloc (.cells #[.int .i64 ox, .int .i64 oy, .int .i64 oz] 24)
    have hO : Fr 1 [(0, .cells #[.int .i64 ox, .int .i64 oy, .int .i64 oz] 24)] [] v2 (v2.alloc (.cells #[.int .i64 ox, .int .i64 oy, .int .i64 oz] 24)) := (Fr.nil v2).fixed (by simp) _
    have HOC : Hid (∀ W, Fr 1 [(0, .cells #[.int .i64 ox, .int .i64 oy, .int .i64 oz] 24)] [] v2 W → W.cell? ⟨v2.heap.size, 0, none⟩ = some (.int .i64 ox) ∧ W.cell? ⟨v2.heap.size, 1, none⟩ = some (.int .i64 oy) ∧ W.cell? ⟨v2.heap.size, 2, none⟩ = some (.int .i64 oz)) := fun W h => ⟨h.at0 rfl, h.at0 rfl, h.at0 rfl⟩
    have hOq := HOC.out _ hO
    go_wp2_with fail
    ((with_reducible refine (HC1.out _).mono ?_); rintro e v3 ⟨rfl, hb⟩)
    have hF : Fr 0 [] [] W2 v3 := Fr.call (by (repeat (first | exact hF | exact hD | exact hO | (with_reducible refine Fr.drew ?_) | (with_reducible refine Fr.alloc ?_ _)))) hb
    have hD : Fr 1 [(0, .cells #[.int .i64 dx, .int .i64 dy, .int .i64 dz] 24)] [] v1 v3 := Fr.call (by (repeat (first | exact hF | exact hD | exact hO | (with_reducible refine Fr.drew ?_) | (with_reducible refine Fr.alloc ?_ _)))) hb
    have hO : Fr 1 [(0, .cells #[.int .i64 ox, .int .i64 oy, .int .i64 oz] 24)] [] v2 v3 := Fr.call (by (repeat (first | exact hF | exact hD | exact hO | (with_reducible refine Fr.drew ?_) | (with_reducible refine Fr.alloc ?_ _)))) hb
    clear hq hz hDq hOq
    have hq := HE.out _ hF
    have hDq := HDC.out _ hD
    have hOq := HOC.out _ hO
    have hz : b7 < v3.heap.size ∧ b8 < v3.heap.size ∧ b9 < v3.heap.size ∧ v1.heap.size < v3.heap.size ∧ v2.heap.size < v3.heap.size := by have h1 := (Fr.own hF).size; have h2 := (Fr.own hD).size; have h3 := (Fr.own hO).size; omega
    clear hb
    have HW3 := Lib.hid (HW.out.trans (hF.own.below.mono HW.out.size))
    obtain ⟨m7, m8, m9, mD, mO⟩ := hz
    obtain ⟨p0, p1, p2, p3, q0, q1, q2, q3, r0, r1, r2, r3⟩ := hq
    obtain ⟨x0, x1, x2⟩ := hDq
    obtain ⟨y0, y1, y2⟩ := hOq
    clear hF hD hO HE HDC HOC HW l7 l8 l9 HD1 HD2 HC1
    have hE : ∀ W, Fr 0 [] [] v3 W → (W.cell? ⟨b7, 0, none⟩ = some (.int .i64 (p.a)) ∧ W.cell? ⟨b7, 1, none⟩ = some (.int .i64 (p.b)) ∧ W.cell? ⟨b7, 2, none⟩ = some (.int .i64 (p.c)) ∧ W.cell? ⟨b7, 3, none⟩ = some (.int .i64 (p.d)) ∧ W.cell? ⟨b8, 0, none⟩ = some (.int .i64 (q.a)) ∧ W.cell? ⟨b8, 1, none⟩ = some (.int .i64 (q.b)) ∧ W.cell? ⟨b8, 2, none⟩ = some (.int .i64 (q.c)) ∧ W.cell? ⟨b8, 3, none⟩ = some (.int .i64 (q.d)) ∧ W.cell? ⟨b9, 0, none⟩ = some (.int .i64 (r.a)) ∧ W.cell? ⟨b9, 1, none⟩ = some (.int .i64 (r.b)) ∧ W.cell? ⟨b9, 2, none⟩ = some (.int .i64 (r.c)) ∧ W.cell? ⟨b9, 3, none⟩ = some (.int .i64 (r.d)) ∧ W.cell? ⟨v1.heap.size, 0, none⟩ = some (.int .i64 dx) ∧ W.cell? ⟨v1.heap.size, 1, none⟩ = some (.int .i64 dy) ∧ W.cell? ⟨v1.heap.size, 2, none⟩ = some (.int .i64 dz) ∧ W.cell? ⟨v2.heap.size, 0, none⟩ = some (.int .i64 ox) ∧ W.cell? ⟨v2.heap.size, 1, none⟩ = some (.int .i64 oy) ∧ W.cell? ⟨v2.heap.size, 2, none⟩ = some (.int .i64 oz)) := fun W h => by (repeat' apply And.intro) <;> first | exact h.at0 rfl | exact h.at rfl | exact (h.rms0 rfl).cell | exact (h.rms rfl).cell | exact (h.rms0 rfl).frozen | exact (h.rms rfl).frozen | exact (h.own.below.cell (p := ⟨b7, _, none⟩) m7).trans (by assumption) | exact (h.own.below.cell (p := ⟨b8, _, none⟩) m8).trans (by assumption) | exact (h.own.below.cell (p := ⟨b9, _, none⟩) m9).trans (by assumption) | exact (h.own.below.cell (p := ⟨v1.heap.size, _, none⟩) mD).trans (by assumption) | exact (h.own.below.cell (p := ⟨v2.heap.size, _, none⟩) mO).trans (by assumption)
    have HE := Lib.hid hE
    clear hE
    have hF : Fr 0 [] [] v3 v3 := Fr.nil _
    have hq := HE.out _ hF
    clear p0 p1 p2 p3 q0 q1 q2 q3 r0 r1 r2 r3 x0 x1 x2 y0 y1 y2
    go_wp2_with fail
    go_region_held3 (fun W => Fr 0 [] [] v3 W ∧ W.cell? ⟨b7, 0, none⟩ = some (.int .i64 (p.a)) ∧ W.cell? ⟨b7, 1, none⟩ = some (.int .i64 (p.b)) ∧ W.cell? ⟨b7, 2, none⟩ = some (.int .i64 (p.c)) ∧ W.cell? ⟨b7, 3, none⟩ = some (.int .i64 (p.d)) ∧ W.cell? ⟨b8, 0, none⟩ = some (.int .i64 (q.a)) ∧ W.cell? ⟨b8, 1, none⟩ = some (.int .i64 (q.b)) ∧ W.cell? ⟨b8, 2, none⟩ = some (.int .i64 (q.c)) ∧ W.cell? ⟨b8, 3, none⟩ = some (.int .i64 (q.d)) ∧ W.cell? ⟨b9, 0, none⟩ = some (.int .i64 (r.a)) ∧ W.cell? ⟨b9, 1, none⟩ = some (.int .i64 (r.b)) ∧ W.cell? ⟨b9, 2, none⟩ = some (.int .i64 (r.c)) ∧ W.cell? ⟨b9, 3, none⟩ = some (.int .i64 (r.d)) ∧ W.cell? ⟨v1.heap.size, 0, none⟩ = some (.int .i64 dx) ∧ W.cell? ⟨v1.heap.size, 1, none⟩ = some (.int .i64 dy) ∧ W.cell? ⟨v1.heap.size, 2, none⟩ = some (.int .i64 dz) ∧ W.cell? ⟨v2.heap.size, 0, none⟩ = some (.int .i64 ox) ∧ W.cell? ⟨v2.heap.size, 1, none⟩ = some (.int .i64 oy) ∧ W.cell? ⟨v2.heap.size, 2, none⟩ = some (.int .i64 oz)) ((first | exact hSK | assumption | (have hq := Fr.keep HE.out (by assumption) hb1; exact hq) | (have hq := Fr.both HE.out hF.drew; exact hq) | (have hq := Fr.both HE.out (Fr.nil v3).drew; exact hq) | (refine Fr.both HE.out ?_; (repeat (first | exact hF | exact And.left (by assumption) | refine Fr.set ?_ (by first | (simp; done) | (simp; omega)) (by first | (simp [List.lookup]; done) | (simp [Nat.add_assoc, List.lookup]; done)) _ | refine Fr.drew ?_ | refine Fr.alloc ?_ _))))) (first | (go_at_call 15; refine (popposite_any _ _ _ _ _).mono ?_; rintro e w1 ⟨rfl, hb1⟩) | (go_at_call 14; refine (HC2.out _).mono ?_; rintro e w1 ⟨rfl, hb1⟩))
    rename World => v4
    rename Fr 0 [] [] v3 v4 ∧ _ => hS
    have hF4 : Fr 0 [] [] v3 v4 := hS.1
    clear hF hS
    have hF := hF4
    clear hF4 HC2
    have hq := HE.out _ hF
    go_wp2_with fail
    ((with_reducible refine (HC3.out _).mono ?_); rintro e v5 ⟨rfl, hb⟩)
    have hF : Fr 0 [] [] v3 v5 := Fr.call (by (repeat (first | exact hF | (with_reducible refine Fr.drew ?_) | (with_reducible refine Fr.alloc ?_ _)))) hb
    clear hq hb HC3
    have hq := HE.out _ hF
    go_wp2_with fail
    ((with_reducible refine (HL1.out _).mono ?_); rintro e v6 ⟨rfl, hb⟩)
    have hF : Fr 0 [] [] v3 v6 := Fr.call (by (repeat (first | exact hF | (with_reducible refine Fr.drew ?_) | (with_reducible refine Fr.alloc ?_ _)))) hb
    clear hq hb HL1
    have hq := HE.out _ hF
    go_wp2_with fail
    ((with_reducible refine (HL2.out _).mono ?_); rintro e v7 ⟨rfl, hb⟩)
    have hF : Fr 0 [] [] v3 v7 := Fr.call (by (repeat (first | exact hF | (with_reducible refine Fr.drew ?_) | (with_reducible refine Fr.alloc ?_ _)))) hb
    clear hq hb HL2
    have hq := HE.out _ hF
    have ho1 := HO1.out
    have ho2 := HO2.out
    go_wp2_with fail
    ((with_reducible refine (HC4.out _).mono ?_); rintro e v8 ⟨rfl, hb⟩)
    have hF : Fr 0 [] [] v3 v8 := Fr.call (by (repeat (first | exact hF | (with_reducible refine Fr.drew ?_) | (with_reducible refine Fr.alloc ?_ _)))) hb
    clear hq hb HC4
    have hq := HE.out _ hF
    go_wp2_with fail
    simp only [List.append_eq, List.cons_append, List.nil_append]
    have hw1 : IntKind.i64.wrap (-dx) = wrap64 (-dx) := (by rw [IntKind.wrap_i64]; unfold wrap64; omega)
    have hw2 : IntKind.i64.wrap (-dy) = wrap64 (-dy) := (by rw [IntKind.wrap_i64]; unfold wrap64; omega)
    have hw3 : IntKind.i64.wrap (-dz) = wrap64 (-dz) := (by rw [IntKind.wrap_i64]; unfold wrap64; omega)
    have hw4 : IntKind.i64.wrap (-cc) = wrap64 (-cc) := (by rw [IntKind.wrap_i64]; unfold wrap64; omega)
    have hSK := Fr.both HE.out hF.drew
    go_region_held3 (fun W => Fr 0 [] [] v3 W ∧ W.cell? ⟨b7, 0, none⟩ = some (.int .i64 (p.a)) ∧ W.cell? ⟨b7, 1, none⟩ = some (.int .i64 (p.b)) ∧ W.cell? ⟨b7, 2, none⟩ = some (.int .i64 (p.c)) ∧ W.cell? ⟨b7, 3, none⟩ = some (.int .i64 (p.d)) ∧ W.cell? ⟨b8, 0, none⟩ = some (.int .i64 (q.a)) ∧ W.cell? ⟨b8, 1, none⟩ = some (.int .i64 (q.b)) ∧ W.cell? ⟨b8, 2, none⟩ = some (.int .i64 (q.c)) ∧ W.cell? ⟨b8, 3, none⟩ = some (.int .i64 (q.d)) ∧ W.cell? ⟨b9, 0, none⟩ = some (.int .i64 (r.a)) ∧ W.cell? ⟨b9, 1, none⟩ = some (.int .i64 (r.b)) ∧ W.cell? ⟨b9, 2, none⟩ = some (.int .i64 (r.c)) ∧ W.cell? ⟨b9, 3, none⟩ = some (.int .i64 (r.d)) ∧ W.cell? ⟨v1.heap.size, 0, none⟩ = some (.int .i64 dx) ∧ W.cell? ⟨v1.heap.size, 1, none⟩ = some (.int .i64 dy) ∧ W.cell? ⟨v1.heap.size, 2, none⟩ = some (.int .i64 dz) ∧ W.cell? ⟨v2.heap.size, 0, none⟩ = some (.int .i64 ox) ∧ W.cell? ⟨v2.heap.size, 1, none⟩ = some (.int .i64 oy) ∧ W.cell? ⟨v2.heap.size, 2, none⟩ = some (.int .i64 oz)) ((first | exact hSK | assumption | (have hq := Fr.keep HE.out (by assumption) hb1; exact hq) | (have hq := Fr.both HE.out hF.drew; exact hq) | (have hq := Fr.both HE.out (Fr.nil v3).drew; exact hq) | (refine Fr.both HE.out ?_; (repeat (first | exact hF | exact And.left (by assumption) | refine Fr.set ?_ (by first | (simp; done) | (simp; omega)) (by first | (simp [List.lookup]; done) | (simp [Nat.add_assoc, List.lookup]; done)) _ | refine Fr.drew ?_ | refine Fr.alloc ?_ _))))) (first | (go_at_call 17; (with_reducible refine (HG1.out _).mono ?_); rintro e w1 ⟨rfl, hb1⟩) | (go_at_call 17; (with_reducible refine (HG2.out _).mono ?_); rintro e w1 ⟨rfl, hb1⟩) | (go_at_call 11; (with_reducible refine (HA.out _).mono ?_); rintro e w1 ⟨rfl, hb1⟩))
    rename World => v9
    have hF9 : Fr 0 [] [] v3 v9 := And.left (by assumption)
    clear hF
    have hF := hF9
    go_wp2
    go_ret
    refine ⟨rfl, ?_⟩
    exact HW3.out.trans (hF.own.below.mono HW3.out.size)

end Go.Proofs.Ytaoedfegakpjeab
