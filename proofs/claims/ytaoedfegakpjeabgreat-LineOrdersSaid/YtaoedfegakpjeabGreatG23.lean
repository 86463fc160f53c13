/- Contracts of the functions that the statement reaches, and plain lemmas: part 23 of 23. -/
import Derived.Test.YtaoedfegakpjeabGreatG21
import Derived.Test.YtaoedfegakpjeabGreatG13
import Derived.Test.YtaoedfegakpjeabGreatG22
import Derived.Deep.CutRange
import Derived.Deep.DeepCutAuto
import Derived.Deep.CutBlock

namespace Go.Proofs.YtaoedfegakpjeabGreat
open Go.RowKit

def B8 (p q : Q4) : Obj := .cells #[.int .i64 p.a, .int .i64 p.b, .int .i64 p.c, .int .i64 p.d, .int .i64 q.a, .int .i64 q.b, .int .i64 q.c, .int .i64 q.d] 47

theorem step_yes {c : Bool} {p q : Prop} (hc : c = true) (h : p) : if c = true then p else q := by rw [if_pos hc]; exact h
theorem step_no {c : Bool} {p q : Prop} (hc : c = false) (h : q) : if c = true then p else q := by rw [hc]; simpa using h
/-- What is known of the temporaries of the comparison, where there is no error. -/
def ordS (p q a b : Q4) (C : Int) (d : Nat) (_ : World) (v : Value) : Prop := match d with
  | 68 => v = .int .i64 0
  | 69 => v = .int .i64 0
  | 72 => v = .int .i64 0
  | 75 => True
  | 76 => True
  | 80 => v = .int .i64 0
  | 81 => v = .bool true
  | 82 => v = .bool true
  | 83 => v = .int .i64 C
  | 84 => v = .agg #[.int .i64 (p.a), .int .i64 (p.b), .int .i64 (p.c), .int .i64 (p.d)]
  | 85 => v = .agg #[.int .i64 (q.a), .int .i64 (q.b), .int .i64 (q.c), .int .i64 (q.d)]
  | 86 => v = .agg #[.int .i64 (p.dx q), .int .i64 (p.dy q), .int .i64 (p.dz q)]
  | 87 => v = .agg #[.int .i64 (a.a), .int .i64 (a.b), .int .i64 (a.c), .int .i64 (a.d)]
  | 88 => v = .agg #[.int .i64 (b.a), .int .i64 (b.b), .int .i64 (b.c), .int .i64 (b.d)]
  | 89 => v = .int .i64 C
  | _ => v = .bool false

theorem lo_start (p q a b : Q4) (w : World) : Below w.heap.size w (((w.alloc (B8 p q)).alloc (PT a)).alloc (PT b)) ∧ w.heap.size + 1 + 1 + 1 ≤ (((w.alloc (B8 p q)).alloc (PT a)).alloc (PT b)).heap.size ∧ Blk (((w.alloc (B8 p q)).alloc (PT a)).alloc (PT b)) w.heap.size (B8 p q) ∧ Blk (((w.alloc (B8 p q)).alloc (PT a)).alloc (PT b)) (w.heap.size + 1) (PT a) ∧ Blk (((w.alloc (B8 p q)).alloc (PT a)).alloc (PT b)) (w.heap.size + 1 + 1) (PT b) :=
  ⟨(((Below.refl _ _).alloc (Nat.le_refl _) _).alloc (by simp) _).alloc (by simp; omega) _, by simp, (blk_new w (B8 p q)).alloc.alloc, by simpa using (blk_new (w.alloc (B8 p q)) (PT a)).alloc, by simpa using blk_new ((w.alloc (B8 p q)).alloc (PT a)) (PT b)⟩
theorem blk_eight {W : World} {b : Nat} {p q : Q4} (h : Blk W b (B8 p q)) : (W.cell? ⟨b, 0, none⟩ = some (.int .i64 p.a) ∧ W.cell? ⟨b, 1, none⟩ = some (.int .i64 p.b) ∧ W.cell? ⟨b, 2, none⟩ = some (.int .i64 p.c) ∧ W.cell? ⟨b, 3, none⟩ = some (.int .i64 p.d)) ∧ (W.cell? ⟨b, 4, none⟩ = some (.int .i64 q.a) ∧ W.cell? ⟨b, 5, none⟩ = some (.int .i64 q.b) ∧ W.cell? ⟨b, 6, none⟩ = some (.int .i64 q.c) ∧ W.cell? ⟨b, 7, none⟩ = some (.int .i64 q.d)) :=
  ⟨⟨(blk_cells h).1 _ _ rfl, (blk_cells h).1 _ _ rfl, (blk_cells h).1 _ _ rfl, (blk_cells h).1 _ _ rfl⟩, (blk_cells h).1 _ _ rfl, (blk_cells h).1 _ _ rfl, (blk_cells h).1 _ _ rfl, (blk_cells h).1 _ _ rfl⟩

set_option maxRecDepth 100000 in
set_option maxHeartbeats 4000000 in
theorem orders_any (p0 q0 a0 b0 : Q4) (w : World) (ip0 : p0.I64) (iq0 : q0.I64) (ia0 : a0.I64) (ib0 : b0.I64) :
    Calls Tryz.prog 5 #[.agg #[.int .i64 (p0.a), .int .i64 (p0.b), .int .i64 (p0.c), .int .i64 (p0.d), .int .i64 (q0.a), .int .i64 (q0.b), .int .i64 (q0.c), .int .i64 (q0.d)], .agg #[.int .i64 (a0.a), .int .i64 (a0.b), .int .i64 (a0.c), .int .i64 (a0.d)], .agg #[.int .i64 (b0.a), .int .i64 (b0.b), .int .i64 (b0.c), .int .i64 (b0.d)]] w fun e w' => e = .returned (.bool true) ∧ Below w.heap.size w w' := by
  have HI0 : Hid (p0.I64 ∧ q0.I64 ∧ a0.I64 ∧ b0.I64) := ⟨ip0, iq0, ia0, ib0⟩
  clear ip0 iq0 ia0 ib0
  go_enter Tryz.func5, Tryz.ntmps5
  go_upto_region 1 with fail
  go_cut [7, 8] from 17 to 20 (fun s7 s8 wx => ∃ P, s7 = .pointer (some ⟨P, 0, none⟩) ∧ ∃ Q, s8 = .pointer (some ⟨Q, 0, none⟩) ∧ Hid (LO p0 q0 a0 b0 P Q w wx))
  case first =>
    have HS : Hid (Below w.heap.size w (((w.alloc (.cells #[.int .i64 p0.a, .int .i64 p0.b, .int .i64 p0.c, .int .i64 p0.d, .int .i64 q0.a, .int .i64 q0.b, .int .i64 q0.c, .int .i64 q0.d] 47)).alloc (.cells #[.int .i64 a0.a, .int .i64 a0.b, .int .i64 a0.c, .int .i64 a0.d] 48)).alloc (.cells #[.int .i64 b0.a, .int .i64 b0.b, .int .i64 b0.c, .int .i64 b0.d] 48)) ∧ w.heap.size + 1 + 1 + 1 ≤ (((w.alloc (.cells #[.int .i64 p0.a, .int .i64 p0.b, .int .i64 p0.c, .int .i64 p0.d, .int .i64 q0.a, .int .i64 q0.b, .int .i64 q0.c, .int .i64 q0.d] 47)).alloc (.cells #[.int .i64 a0.a, .int .i64 a0.b, .int .i64 a0.c, .int .i64 a0.d] 48)).alloc (.cells #[.int .i64 b0.a, .int .i64 b0.b, .int .i64 b0.c, .int .i64 b0.d] 48)).heap.size ∧ Blk (((w.alloc (.cells #[.int .i64 p0.a, .int .i64 p0.b, .int .i64 p0.c, .int .i64 p0.d, .int .i64 q0.a, .int .i64 q0.b, .int .i64 q0.c, .int .i64 q0.d] 47)).alloc (.cells #[.int .i64 a0.a, .int .i64 a0.b, .int .i64 a0.c, .int .i64 a0.d] 48)).alloc (.cells #[.int .i64 b0.a, .int .i64 b0.b, .int .i64 b0.c, .int .i64 b0.d] 48)) w.heap.size (B8 p0 q0) ∧ Blk (((w.alloc (.cells #[.int .i64 p0.a, .int .i64 p0.b, .int .i64 p0.c, .int .i64 p0.d, .int .i64 q0.a, .int .i64 q0.b, .int .i64 q0.c, .int .i64 q0.d] 47)).alloc (.cells #[.int .i64 a0.a, .int .i64 a0.b, .int .i64 a0.c, .int .i64 a0.d] 48)).alloc (.cells #[.int .i64 b0.a, .int .i64 b0.b, .int .i64 b0.c, .int .i64 b0.d] 48)) (w.heap.size + 1) (PT a0) ∧ Blk (((w.alloc (.cells #[.int .i64 p0.a, .int .i64 p0.b, .int .i64 p0.c, .int .i64 p0.d, .int .i64 q0.a, .int .i64 q0.b, .int .i64 q0.c, .int .i64 q0.d] 47)).alloc (.cells #[.int .i64 a0.a, .int .i64 a0.b, .int .i64 a0.c, .int .i64 a0.d] 48)).alloc (.cells #[.int .i64 b0.a, .int .i64 b0.b, .int .i64 b0.c, .int .i64 b0.d] 48)) (w.heap.size + 1 + 1) (PT b0)) := lo_start p0 q0 a0 b0 w
    generalize (((w.alloc (.cells #[.int .i64 p0.a, .int .i64 p0.b, .int .i64 p0.c, .int .i64 p0.d, .int .i64 q0.a, .int .i64 q0.b, .int .i64 q0.c, .int .i64 q0.d] 47)).alloc (.cells #[.int .i64 a0.a, .int .i64 a0.b, .int .i64 a0.c, .int .i64 a0.d] 48)).alloc (.cells #[.int .i64 b0.a, .int .i64 b0.b, .int .i64 b0.c, .int .i64 b0.d] 48)) = W0 at HS ⊢
    have HB8 : Hid (∀ W, Below W0.drew.heap.size W0.drew W → Blk W w.heap.size (B8 p0 q0)) := fun W hb => HS.out.2.2.1.below (W := W0) ((Below.refl W0.heap.size W0).drew.trans hb) HS.out.2.2.1.lt
    refine wp_region_inv (by kernel_rfl) (by kernel_rfl) (fun listed aa wy => ∃ u : Nat → Value, aa = { tmps := #[.agg #[.int .i64 (p0.a), .int .i64 (p0.b), .int .i64 (p0.c), .int .i64 (p0.d), .int .i64 (q0.a), .int .i64 (q0.b), .int .i64 (q0.c), .int .i64 (q0.d)], .agg #[.int .i64 (a0.a), .int .i64 (a0.b), .int .i64 (a0.c), .int .i64 (a0.d)], .agg #[.int .i64 (b0.a), .int .i64 (b0.b), .int .i64 (b0.c), .int .i64 (b0.d)], .pointer (some ⟨w.heap.size, 0, none⟩), .pointer (some ⟨w.heap.size + 1, 0, none⟩), .pointer (some ⟨w.heap.size + 1 + 1, 0, none⟩), .bool false, u 7, u 8, undef, undef, undef, undef, undef, undef, undef, undef, u 17, u 18, u 19, u 20, undef, undef, undef, undef, undef, undef, undef, undef, undef, undef, undef, undef, undef, undef, undef, undef, undef, undef, undef, undef, undef, undef, undef, undef, undef, undef, undef, undef, undef, undef, undef, undef, undef, undef, undef, undef, undef, undef, undef, undef, undef, undef, undef, undef, undef, undef, undef, undef, undef, undef, undef, undef, undef, undef, undef, undef, undef, undef, undef, undef, undef, undef, undef, undef, undef, undef, undef, undef, undef, undef, undef, undef, undef, undef, undef, undef, undef, undef, undef, undef, undef, undef, undef, undef, undef, undef, undef, undef, undef, undef, undef, undef, undef, undef, undef, undef, undef, undef, undef, undef, undef, undef, undef, undef, undef, undef, undef, undef, undef, undef, undef, undef, undef], defers := [] } ∧ Rg W0.drew (fun d => match d with | 17 => .pointer (some ⟨w.heap.size, 0, none⟩) | 18 => .agg #[.int .i64 (p0.a), .int .i64 (p0.b), .int .i64 (p0.c), .int .i64 (p0.d)] | 19 => .pointer (some ⟨w.heap.size, 4, none⟩) | _ => .agg #[.int .i64 (q0.a), .int .i64 (q0.b), .int .i64 (q0.c), .int .i64 (q0.d)]) (fun d => match d with | 6 => [.int .i64 p0.a, .int .i64 p0.b, .int .i64 p0.c, .int .i64 p0.d] | _ => [.int .i64 q0.a, .int .i64 q0.b, .int .i64 q0.c, .int .i64 q0.d]) [(0, 17), (1, 18), (2, 19), (3, 20)] [(4, 7, 4), (5, 8, 4)] [(6, 7), (7, 8)] listed u wy) ⟨fun _ => undef, rfl, Rg.start _ _⟩ ?_ ?_
    rotate_left
    · rintro listed hs i hi aa wy ⟨u, rfl, hR⟩ hr
      match i, hi, hr with
      | 0, _, hr =>
        as_aux_lemma =>
        refine wpOp_step rfl (fun K' hK => ?_)
        go_simp
        exact hK _ _ ⟨upd u 17 _, rfl, hR.yields (Below.refl _ _) rfl rfl rfl rfl⟩
      | 1, _, hr =>
        as_aux_lemma =>
        refine wpOp_step rfl (fun K' hK => ?_)
        have e1 : u 17 = .pointer (some ⟨w.heap.size, 0, none⟩) := hR.val (0, 17) (by simp) (dep_of hr 0 (by kernel_rfl))
        obtain ⟨⟨c0, c1, c2, c3⟩, -⟩ := blk_eight (HB8.out _ hR.below)
        go_simp
        exact hK _ _ ⟨upd u 18 _, by simp [upd, e1], hR.yields (Below.refl _ _) rfl rfl rfl rfl⟩
      | 2, _, hr =>
        as_aux_lemma =>
        refine wpOp_step rfl (fun K' hK => ?_)
        go_simp
        exact hK _ _ ⟨upd u 19 _, rfl, hR.yields (Below.refl _ _) rfl rfl rfl rfl⟩
      | 3, _, hr =>
        as_aux_lemma =>
        refine wpOp_step rfl (fun K' hK => ?_)
        have e1 : u 19 = .pointer (some ⟨w.heap.size, 4, none⟩) := hR.val (2, 19) (by simp) (dep_of hr 2 (by kernel_rfl))
        obtain ⟨-, c0, c1, c2, c3⟩ := blk_eight (HB8.out _ hR.below)
        go_simp
        exact hK _ _ ⟨upd u 20 _, by simp [upd, e1], hR.yields (Below.refl _ _) rfl rfl rfl rfl⟩
      | 4, _, hr =>
        as_aux_lemma =>
        refine wpOp_step rfl (fun K' hK => ?_)
        go_simp
        exact hK _ _ ⟨upd u 7 _, rfl, hR.makes (n := 4) rfl (ready_spec.1 hr).2.1 rfl rfl rfl⟩
      | 5, _, hr =>
        as_aux_lemma =>
        refine wpOp_step rfl (fun K' hK => ?_)
        go_simp
        exact hK _ _ ⟨upd u 8 _, rfl, hR.makes (n := 4) rfl (ready_spec.1 hr).2.1 rfl rfl rfl⟩
      | 6, _, hr =>
        as_aux_lemma =>
        refine wpOp_step rfl (fun K' hK => ?_)
        have e1 : u 18 = .agg #[.int .i64 (p0.a), .int .i64 (p0.b), .int .i64 (p0.c), .int .i64 (p0.d)] := hR.val (1, 18) (by simp) (dep_of hr 1 (by kernel_rfl))
        have hl := dep_of hr 4 (by kernel_rfl)
        obtain ⟨bb, eb, _, _, hrm⟩ := hR.ali (4, 7, 4) (by simp) hl
        have rc := hrm.cell
        have rf := hrm.frozen
        go_simp
        refine hK _ _ ⟨u, by simp [e1, eb], hR.stores (k := 4) (s := 7) (n := 4) hl eb ((OnlyAt.set _ _ _ _).trans ((OnlyAt.set _ _ _ _).trans ((OnlyAt.set _ _ _ _).trans (OnlyAt.set _ _ _ _)))) ?_ rfl⟩
        intro j v hj
        match j, hj with
        | 0, hj => simp at hj; subst hj; simp [go_sem, hrm.some]
        | 1, hj => simp at hj; subst hj; simp [go_sem, hrm.some]
        | 2, hj => simp at hj; subst hj; simp [go_sem, hrm.some]
        | 3, hj => simp at hj; subst hj; simp [go_sem, hrm.some]
      | 7, _, hr =>
        as_aux_lemma =>
        refine wpOp_step rfl (fun K' hK => ?_)
        have e1 : u 20 = .agg #[.int .i64 (q0.a), .int .i64 (q0.b), .int .i64 (q0.c), .int .i64 (q0.d)] := hR.val (3, 20) (by simp) (dep_of hr 3 (by kernel_rfl))
        have hl := dep_of hr 5 (by kernel_rfl)
        obtain ⟨bb, eb, _, _, hrm⟩ := hR.ali (5, 8, 4) (by simp) hl
        have rc := hrm.cell
        have rf := hrm.frozen
        go_simp
        refine hK _ _ ⟨u, by simp [e1, eb], hR.stores (k := 5) (s := 8) (n := 4) hl eb ((OnlyAt.set _ _ _ _).trans ((OnlyAt.set _ _ _ _).trans ((OnlyAt.set _ _ _ _).trans (OnlyAt.set _ _ _ _)))) ?_ rfl⟩
        intro j v hj
        match j, hj with
        | 0, hj => simp at hj; subst hj; simp [go_sem, hrm.some]
        | 1, hj => simp at hj; subst hj; simp [go_sem, hrm.some]
        | 2, hj => simp at hj; subst hj; simp [go_sem, hrm.some]
        | 3, hj => simp at hj; subst hj; simp [go_sem, hrm.some]
    rintro listed a2 W2 ⟨u, rfl, hR⟩ hl
    obtain ⟨b0, e0, lo0, _, hr0⟩ := hR.ali (4, 7, 4) (by simp) (hl 4 (by decide))
    obtain ⟨c0, f0, _, hk0, _⟩ := hR.sto (6, 7) (by simp) (hl 6 (by decide))
    have g0 : c0 = b0 := by have := f0.symm.trans e0; simpa using this
    subst g0
    obtain ⟨b1, e1, lo1, _, hr1⟩ := hR.ali (5, 8, 4) (by simp) (hl 5 (by decide))
    obtain ⟨c1, f1, _, hk1, _⟩ := hR.sto (7, 8) (by simp) (hl 7 (by decide))
    have g1 : c1 = b1 := by have := f1.symm.trans e1; simpa using this
    subst g1
    have hd := hR.dis (4, 7, 4) (by simp) (5, 8, 4) (by simp) (by decide) (hl 4 (by decide)) (hl 5 (by decide))
    have hne : c0 ≠ c1 := fun h => hd (by rw [h] at e0; exact e0.trans e1.symm)
    have hbW : Below W0.heap.size W0 W2 := (Below.refl W0.heap.size W0).drew.trans hR.below
    obtain ⟨t1, t2, t3, t4, t5⟩ := HS.out
    have HL : Hid (LO p0 q0 a0 b0 c0 c1 w W2) := ⟨t1.trans (hbW.mono t1.size), ⟨by have : W0.heap.size ≤ c0 := lo0; omega, by have : W0.heap.size ≤ c1 := lo1; omega, hne⟩, t4.below hbW t4.lt, t5.below hbW t5.lt, PB4.of_room hr0 (hk0 0 _ rfl) (hk0 1 _ rfl) (hk0 2 _ rfl) (hk0 3 _ rfl), PB4.of_room hr1 (hk1 0 _ rfl) (hk1 1 _ rfl) (hk1 2 _ rfl) (hk1 3 _ rfl)⟩
    have HE0 := Lib.hid e0
    have HE1 := Lib.hid e1
    clear hR hl e0 e1 f0 f1 hk0 hk1 hr0 hr1 lo0 lo1 hd hbW t1 t2 t3 t4 t5
    go_wp2_with fail
    go_meet
    exact ⟨c0, HE0.out, c1, HE1.out, HL⟩
  case rest =>
    obtain ⟨P, rfl, Q, rfl, HL0⟩ := hcut
    rename World => wx
    go_wp2
    go_loopw [9] (fun i wr => ∃ k : Nat, k ≤ 2 ∧ i = .int .i64 k ∧ ∃ p q a b, Hid (p.I64 ∧ q.I64 ∧ a.I64 ∧ b.I64) ∧ Hid (LO p q a b P Q w wr)) (fun i _ => 2 - (intOf i).toNat)
    case atStart => exact ⟨0, by omega, rfl, p0, q0, a0, b0, HI0, HL0⟩
    case round =>
      rename World => wr
      obtain ⟨k, hk, rfl, p, q, a, b, HI, HL⟩ := hrel
      clear HI0 HL0
      by_cases hlt : k < 2
      · obtain ⟨C, hC⟩ : ∃ C, C = lalV p q a b := ⟨_, rfl⟩
        obtain ⟨E, hE⟩ : ∃ E, E = ordE p q a b := ⟨_, rfl⟩
        have HAL : Hid (∀ W, Calls Tryz.prog 23 #[.agg #[.int .i64 (p.a), .int .i64 (p.b), .int .i64 (p.c), .int .i64 (p.d)], .agg #[.int .i64 (q.a), .int .i64 (q.b), .int .i64 (q.c), .int .i64 (q.d)], .agg #[.int .i64 (a.a), .int .i64 (a.b), .int .i64 (a.c), .int .i64 (a.d)], .agg #[.int .i64 (b.a), .int .i64 (b.b), .int .i64 (b.c), .int .i64 (b.d)]] W fun e w' => e = .returned (.tuple #[.int .i64 C, .int .i64 E]) ∧ Below W.heap.size W w') := fun W => by
          have h := lineAlong_any p q a b W HI.out.1 HI.out.2.1 HI.out.2.2.1 HI.out.2.2.2
          rw [ord_err] at h; rw [hC, hE]; exact h
        have HC0 : Hid (¬ E = 0 → C = 0) := fun h => by rw [hC]; exact ord_none p q a b (by rw [← hE]; exact h)
        have HC1 : Hid (E = 0 → (∀ W, Calls Tryz.prog 11 #[.agg #[.int .i64 (p.a), .int .i64 (p.b), .int .i64 (p.c), .int .i64 (p.d)], .agg #[.int .i64 (q.a), .int .i64 (q.b), .int .i64 (q.c), .int .i64 (q.d)]] W fun e w' => e = .returned (.agg #[.int .i64 (p.dx q), .int .i64 (p.dy q), .int .i64 (p.dz q)]) ∧ Below W.heap.size W w') ∧ ∀ W, Calls Tryz.prog 27 #[.agg #[.int .i64 (p.dx q), .int .i64 (p.dy q), .int .i64 (p.dz q)], .agg #[.int .i64 (a.a), .int .i64 (a.b), .int .i64 (a.c), .int .i64 (a.d)], .agg #[.int .i64 (b.a), .int .i64 (b.b), .int .i64 (b.c), .int .i64 (b.d)]] W fun e w' => e = .returned (.int .i64 C) ∧ Below W.heap.size W w') := fun h => by
          obtain ⟨hp, hq, ha, hb, hn, hv⟩ := ord_val p q a b (by rw [← hE]; exact h)
          refine ⟨fun W => rdirection_any p q W hp hq hn, fun W => ?_⟩
          have h2 := cmpAlong_any ⟨p.dx q, p.dy q, p.dz q⟩ a b W ha.sm hb.sm
          rw [hC, hv]; exact h2
        have HEQ : Hid (E = ordE p q a b) := hE
        clear hC hE
        obtain ⟨a0', a1', a2', a3'⟩ := HL.out.bp.four
        obtain ⟨b0', b1', b2', b3'⟩ := HL.out.bq.four
        obtain ⟨c0', c1', c2', c3'⟩ := blk_point HL.out.ba
        obtain ⟨d0', d1', d2', d3'⟩ := blk_point HL.out.bb
        go_upto_region 5 with fail
        go_cut [10, 11] from 21 to 132 (fun s10 s11 wx => s10 = .int .i64 C ∧ s11 = .int .i64 E ∧ Hid (LO p q a b P Q w wx))
        case first =>
          go_wp2_with fail
          ((with_reducible refine (HAL.out _).mono ?_); rintro e w1 ⟨rfl, hb⟩)
          have HL1 := Lib.hid (HL.out.call hb)
          clear HL hb a0' a1' a2' a3' b0' b1' b2' b3' c0' c1' c2' c3' d0' d1' d2' d3'
          go_wp2
          go_meet
          exact ⟨rfl, rfl, HL1⟩
        case rest =>
          obtain ⟨rfl, rfl, HLE⟩ := hcut
          clear HL HAL a0' a1' a2' a3' b0' b1' b2' b3' c0' c1' c2' c3' d0' d1' d2' d3'
          rename World => wx
          obtain ⟨R1, hR1⟩ : ∃ R1, R1 = (!p.plane || !q.plane) := ⟨_, rfl⟩
          obtain ⟨R2, hR2⟩ : ∃ R2, R2 = (!a.point || !b.point) := ⟨_, rfl⟩
          obtain ⟨R3, hR3⟩ : ∃ R3, R3 = eq3B (p.dx q) (p.dy q) (p.dz q) 0 0 0 := ⟨_, rfl⟩
          obtain ⟨R4, hR4⟩ : ∃ R4, R4 = (!onB p q a || !onB p q b) := ⟨_, rfl⟩
          have HEV : Hid (E = if R1 = true then 30 else if R2 = true then 40 else if R3 = true then 4 else if R4 = true then 1 else 0) := by
            unfold Hid; rw [HEQ.out, ordE_eq, hR1, hR2, hR3, hR4]
          have HPAR : Hid (R1 = false → ∀ W, Calls Tryz.prog 25 #[.agg #[.int .i64 (p.a), .int .i64 (p.b), .int .i64 (p.c), .int .i64 (p.d)], .agg #[.int .i64 (q.a), .int .i64 (q.b), .int .i64 (q.c), .int .i64 (q.d)]] W fun e w' => e = .returned (.bool R3) ∧ Below W.heap.size W w') := fun h W => by
            rw [hR1] at h
            have hp : p.plane = true := by cases k : p.plane with | true => rfl | false => rw [k] at h; simp at h
            have hq : q.plane = true := by cases k : q.plane with | true => rfl | false => rw [k] at h; simp at h
            have h2 := parallel_any p.a p.b p.c p.d q.a q.b q.c q.d W
            rw [par_dir (plane_iff.1 hp).1 (plane_iff.1 hq).1] at h2; rw [hR3]; exact h2
          have HRP : Hid (∀ W, Calls Tryz.prog 19 #[.agg #[.int .i64 (p.a), .int .i64 (p.b), .int .i64 (p.c), .int .i64 (p.d)]] W fun e w' => e = .returned (.bool p.plane) ∧ Below W.heap.size W w') := fun W => right_q p HI.out.1 W
          have HRQ : Hid (∀ W, Calls Tryz.prog 19 #[.agg #[.int .i64 (q.a), .int .i64 (q.b), .int .i64 (q.c), .int .i64 (q.d)]] W fun e w' => e = .returned (.bool q.plane) ∧ Below W.heap.size W w') := fun W => right_q q HI.out.2.1 W
          have HPA : Hid (∀ W, Calls Tryz.prog 24 #[.agg #[.int .i64 (a.a), .int .i64 (a.b), .int .i64 (a.c), .int .i64 (a.d)]] W fun e w' => e = .returned (.bool a.point) ∧ Below W.heap.size W w') := fun W => by
            obtain ⟨i1, i2, i3, i4⟩ := HI.out.2.2.1
            have h := qright_any a.a a.b a.c a.d W i1 i2 i3 i4; rw [sound_point HI.out.2.2.1] at h; exact h
          have HPB : Hid (∀ W, Calls Tryz.prog 24 #[.agg #[.int .i64 (b.a), .int .i64 (b.b), .int .i64 (b.c), .int .i64 (b.d)]] W fun e w' => e = .returned (.bool b.point) ∧ Below W.heap.size W w') := fun W => by
            obtain ⟨i1, i2, i3, i4⟩ := HI.out.2.2.2
            have h := qright_any b.a b.b b.c b.d W i1 i2 i3 i4; rw [sound_point HI.out.2.2.2] at h; exact h
          have HOA : Hid (∀ W, Calls Tryz.prog 26 #[.agg #[.int .i64 (p.a), .int .i64 (p.b), .int .i64 (p.c), .int .i64 (p.d)], .agg #[.int .i64 (q.a), .int .i64 (q.b), .int .i64 (q.c), .int .i64 (q.d)], .agg #[.int .i64 (a.a), .int .i64 (a.b), .int .i64 (a.c), .int .i64 (a.d)]] W fun e w' => e = .returned (.bool (onB p q a)) ∧ Below W.heap.size W w') := fun W => on_any p q a W
          have HOB : Hid (∀ W, Calls Tryz.prog 26 #[.agg #[.int .i64 (p.a), .int .i64 (p.b), .int .i64 (p.c), .int .i64 (p.d)], .agg #[.int .i64 (q.a), .int .i64 (q.b), .int .i64 (q.c), .int .i64 (q.d)], .agg #[.int .i64 (b.a), .int .i64 (b.b), .int .i64 (b.c), .int .i64 (b.d)]] W fun e w' => e = .returned (.bool (onB p q b)) ∧ Below W.heap.size W w') := fun W => on_any p q b W
          generalize p.plane = pp at hR1 HRP
          generalize q.plane = pq at hR1 HRQ
          generalize a.point = pa at hR2 HPA
          generalize b.point = pb at hR2 HPB
          generalize onB p q a = oa at hR4 HOA
          generalize onB p q b = ob at hR4 HOB
          have HR1 := Lib.hid hR1
          have HR2 := Lib.hid hR2
          have HR4 := Lib.hid hR4
          clear hR1 hR2 hR3 hR4 HEQ
          go_upto_block 2 with fail
          go_cut [12] from 21 to 132 (fun s12 wx => s12 = .int .i64 E ∧ Hid (LO p q a b P Q w wx))
          case first =>
            go_upto_region 7 with fail
            go_cut [33] from 21 to 132 (fun s33 wx => s33 = .bool R1 ∧ Hid (LO p q a b P Q w wx))
            case first =>
              obtain ⟨a0', a1', a2', a3'⟩ := HLE.out.bp.four
              cases pp with
              | false =>
                have hR : R1 = true := by rw [HR1.out]; rfl
                subst hR
                go_wp2_with fail
                ((with_reducible refine (HRP.out _).mono ?_); rintro e w1 ⟨rfl, hb⟩)
                have HL1 := Lib.hid (HLE.out.call hb)
                clear HLE hb a0' a1' a2' a3'
                go_wp2
                go_meet
                exact ⟨rfl, HL1⟩
              | true =>
                have hR : R1 = !pq := by rw [HR1.out]; rfl
                subst hR
                go_wp2_with fail
                ((with_reducible refine (HRP.out _).mono ?_); rintro e w1 ⟨rfl, hb⟩)
                have HL1 := Lib.hid (HLE.out.call hb)
                clear HLE hb a0' a1' a2' a3'
                obtain ⟨b0', b1', b2', b3'⟩ := HL1.out.bq.four
                go_wp2_with fail
                ((with_reducible refine (HRQ.out _).mono ?_); rintro e w2 ⟨rfl, hb⟩)
                have HL2 := Lib.hid (HL1.out.call hb)
                clear HL1 hb b0' b1' b2' b3'
                go_wp2
                go_meet
                exact ⟨rfl, HL2⟩
            case rest =>
              obtain ⟨rfl, HL1⟩ := hcut
              clear HLE HRP HRQ HR1 wx
              rename World => wx
              cases R1 with
              | true =>
                have hE : E = 30 := by rw [HEV.out]; rfl
                subst hE
                go_wp2
                go_meet
                exact ⟨rfl, HL1⟩
              | false =>
                have HPR := Lib.hid (HPAR.out rfl)
                have HEV2 : Hid (E = if R2 = true then 40 else if R3 = true then 4 else if R4 = true then 1 else 0) := by unfold Hid; rw [HEV.out]; rfl
                clear HPAR HEV
                go_upto_region 9 with fail
                go_cut [42] from 21 to 132 (fun s42 wx => s42 = .bool R2 ∧ Hid (LO p q a b P Q w wx))
                case first =>
                  obtain ⟨a0', a1', a2', a3'⟩ := blk_point HL1.out.ba
                  cases pa with
                  | false =>
                    have hR : R2 = true := by rw [HR2.out]; rfl
                    subst hR
                    go_wp2_with fail
                    ((with_reducible refine (HPA.out _).mono ?_); rintro e w1 ⟨rfl, hb⟩)
                    have HL2 := Lib.hid (HL1.out.call hb)
                    clear HL1 hb a0' a1' a2' a3'
                    go_wp2
                    go_meet
                    exact ⟨rfl, HL2⟩
                  | true =>
                    have hR : R2 = !pb := by rw [HR2.out]; rfl
                    subst hR
                    go_wp2_with fail
                    ((with_reducible refine (HPA.out _).mono ?_); rintro e w1 ⟨rfl, hb⟩)
                    have HL2 := Lib.hid (HL1.out.call hb)
                    clear HL1 hb a0' a1' a2' a3'
                    obtain ⟨b0', b1', b2', b3'⟩ := blk_point HL2.out.bb
                    go_wp2_with fail
                    ((with_reducible refine (HPB.out _).mono ?_); rintro e w2 ⟨rfl, hb⟩)
                    have HL3 := Lib.hid (HL2.out.call hb)
                    clear HL2 hb b0' b1' b2' b3'
                    go_wp2
                    go_meet
                    exact ⟨rfl, HL3⟩
                case rest =>
                  obtain ⟨rfl, HL2⟩ := hcut
                  clear HL1 HPA HPB HR2 wx
                  rename World => wx
                  cases R2 with
                  | true =>
                    have hE : E = 40 := by rw [HEV2.out]; rfl
                    subst hE
                    go_wp2
                    go_meet
                    exact ⟨rfl, HL2⟩
                  | false =>
                    have HEV3 : Hid (E = if R3 = true then 4 else if R4 = true then 1 else 0) := by unfold Hid; rw [HEV2.out]; rfl
                    clear HEV2
                    obtain ⟨a0', a1', a2', a3'⟩ := HL2.out.bp.four
                    obtain ⟨b0', b1', b2', b3'⟩ := HL2.out.bq.four
                    cases R3 with
                    | true =>
                      have hE : E = 4 := by rw [HEV3.out]; rfl
                      subst hE
                      go_wp2_with fail
                      ((with_reducible refine (HPR.out _).mono ?_); rintro e w1 ⟨rfl, hb⟩)
                      have HL3 := Lib.hid (HL2.out.call hb)
                      clear HL2 hb a0' a1' a2' a3' b0' b1' b2' b3'
                      go_wp2
                      go_meet
                      exact ⟨rfl, HL3⟩
                    | false =>
                      have HEV4 : Hid (E = if R4 = true then 1 else 0) := by unfold Hid; rw [HEV3.out]; rfl
                      clear HEV3
                      go_wp2_with fail
                      ((with_reducible refine (HPR.out _).mono ?_); rintro e w1 ⟨rfl, hb⟩)
                      have HL3 := Lib.hid (HL2.out.call hb)
                      clear HL2 hb a0' a1' a2' a3' b0' b1' b2' b3' HPR
                      go_upto_region 13 with fail
                      go_cut [55] from 21 to 132 (fun s55 wx => s55 = .bool R4 ∧ Hid (LO p q a b P Q w wx))
                      case first =>
                        obtain ⟨a0', a1', a2', a3'⟩ := HL3.out.bp.four
                        obtain ⟨b0', b1', b2', b3'⟩ := HL3.out.bq.four
                        obtain ⟨c0', c1', c2', c3'⟩ := blk_point HL3.out.ba
                        cases oa with
                        | false =>
                          have hR : R4 = true := by rw [HR4.out]; rfl
                          subst hR
                          go_wp2_with fail
                          ((with_reducible refine (HOA.out _).mono ?_); rintro e w2 ⟨rfl, hb⟩)
                          have HL4 := Lib.hid (HL3.out.call hb)
                          clear HL3 hb a0' a1' a2' a3' b0' b1' b2' b3' c0' c1' c2' c3'
                          go_wp2
                          go_meet
                          exact ⟨rfl, HL4⟩
                        | true =>
                          have hR : R4 = !ob := by rw [HR4.out]; rfl
                          subst hR
                          go_wp2_with fail
                          ((with_reducible refine (HOA.out _).mono ?_); rintro e w2 ⟨rfl, hb⟩)
                          have HL4 := Lib.hid (HL3.out.call hb)
                          clear HL3 hb a0' a1' a2' a3' b0' b1' b2' b3' c0' c1' c2' c3'
                          obtain ⟨a0', a1', a2', a3'⟩ := HL4.out.bp.four
                          obtain ⟨b0', b1', b2', b3'⟩ := HL4.out.bq.four
                          obtain ⟨c0', c1', c2', c3'⟩ := blk_point HL4.out.bb
                          go_wp2_with fail
                          ((with_reducible refine (HOB.out _).mono ?_); rintro e w3 ⟨rfl, hb⟩)
                          have HL5 := Lib.hid (HL4.out.call hb)
                          clear HL4 hb a0' a1' a2' a3' b0' b1' b2' b3' c0' c1' c2' c3'
                          go_wp2
                          go_meet
                          exact ⟨rfl, HL5⟩
                      case rest =>
                        obtain ⟨rfl, HL4⟩ := hcut
                        clear HL3 HOA HOB HR4
                        cases R4 with
                        | true =>
                          have hE : E = 1 := by rw [HEV4.out]; rfl
                          subst hE
                          go_wp2
                          go_meet
                          exact ⟨rfl, HL4⟩
                        | false =>
                          have hE : E = 0 := by rw [HEV4.out]; rfl
                          subst hE
                          go_wp2
                          go_meet
                          exact ⟨rfl, HL4⟩
          case rest =>
            have HL1 := hcut.2
            obtain ⟨rfl, -⟩ := hcut
            clear HLE wx
            have HLE := HL1
            clear HL1 HEV HPAR HPA HPB HOA HOB HR1 HR2 HR4 HRP HRQ
            rename World => wx
            go_upto_region 15 with fail
            go_cut [92] from 21 to 132 (fun s92 wx => s92 = .bool false ∧ Hid (LO p q a b P Q w wx))
            case first =>
              by_cases hE0 : E = 0
              · have HDI := Lib.hid (HC1.out hE0).1
                have HCA := Lib.hid (HC1.out hE0).2
                subst hE0
                clear HC0 HC1
                refine wp_region_inv (by kernel_rfl) (by kernel_rfl) (fun listed aa wy => ∃ t : Nat → Value, aa = { tmps := #[.agg #[.int .i64 (p0.a), .int .i64 (p0.b), .int .i64 (p0.c), .int .i64 (p0.d), .int .i64 (q0.a), .int .i64 (q0.b), .int .i64 (q0.c), .int .i64 (q0.d)], .agg #[.int .i64 (a0.a), .int .i64 (a0.b), .int .i64 (a0.c), .int .i64 (a0.d)], .agg #[.int .i64 (b0.a), .int .i64 (b0.b), .int .i64 (b0.c), .int .i64 (b0.d)], .pointer (some ⟨w.heap.size, 0, none⟩), .pointer (some ⟨w.heap.size + 1, 0, none⟩), .pointer (some ⟨w.heap.size + 1 + 1, 0, none⟩), u6, .pointer (some ⟨P, 0, none⟩), .pointer (some ⟨Q, 0, none⟩), .int .i64 k, .int .i64 C, .int .i64 0, .int .i64 0, u13, u14, u15, u16, u17, u18, u19, u20, u21, u22, u23, u24, u25, u26, u27, u28, u29, u30, u31, u32, u33, u34, u35, u36, u37, u38, u39, u40, u41, u42, u43, u44, u45, u46, u47, u48, u49, u50, u51, u52, u53, u54, u55, u56, u57, u58, u59, u60, u61, u62, u63, u64, u65, u66, u67, t 68, t 69, t 70, t 71, t 72, t 73, t 74, t 75, t 76, t 77, t 78, t 79, t 80, t 81, t 82, t 83, t 84, t 85, t 86, t 87, t 88, t 89, t 90, t 91, t 92, u93, u94, u95, u96, u97, u98, u99, u100, u101, u102, u103, u104, u105, u106, u107, u108, u109, u110, u111, u112, u113, u114, u115, u116, u117, u118, u119, u120, u121, u122, u123, u124, u125, u126, u127, u128, u129, u130, u131, u132, undef], defers := [] } ∧ IR (fun W => LO p q a b P Q w W) (ordS p q a b C) [(0, 68), (1, 69), (2, 70), (3, 71), (4, 72), (5, 73), (6, 74), (7, 75), (8, 76), (9, 77), (10, 78), (11, 79), (12, 80), (13, 81), (14, 82), (15, 83), (16, 84), (17, 85), (18, 86), (19, 87), (20, 88), (21, 89), (22, 90), (23, 91), (24, 92)] listed t wy) ⟨(fun d => match d with | 68 => u68 | 69 => u69 | 70 => u70 | 71 => u71 | 72 => u72 | 73 => u73 | 74 => u74 | 75 => u75 | 76 => u76 | 77 => u77 | 78 => u78 | 79 => u79 | 80 => u80 | 81 => u81 | 82 => u82 | 83 => u83 | 84 => u84 | 85 => u85 | 86 => u86 | 87 => u87 | 88 => u88 | 89 => u89 | 90 => u90 | 91 => u91 | 92 => u92 | _ => undef), rfl, IR.start _ HLE.out.drew _⟩ ?_ ?_
                rotate_left
                · rintro listed hs i hi aa wy ⟨t, rfl, hR⟩ hr
                  match i, hi, hr with
                  | 0, _, hr =>
                    as_aux_lemma =>
                    refine wpOp_step rfl (fun K' hK => ?_)
                    go_simp
                    exact hK _ _ ⟨upd t 68 (.int .i64 0), rfl, hR.yields hR.fin (fun _ _ h => h) rfl rfl⟩
                  | 1, _, hr =>
                    as_aux_lemma =>
                    refine wpOp_step rfl (fun K' hK => ?_)
                    go_simp
                    exact hK _ _ ⟨upd t 69 (.int .i64 0), rfl, hR.yields hR.fin (fun _ _ h => h) rfl rfl⟩
                  | 2, _, hr =>
                    as_aux_lemma =>
                    refine wpOp_step rfl (fun K' hK => ?_)
                    have e1 : t 68 = .int .i64 0 := hR.val (0, 68) (by simp) (dep_of hr 0 (by kernel_rfl))
                    have e2 : t 69 = .int .i64 0 := hR.val (1, 69) (by simp) (dep_of hr 1 (by kernel_rfl))
                    go_simp
                    exact hK _ _ ⟨upd t 70 (.bool false), by simp [upd, e1, e2], hR.yields hR.fin (fun _ _ h => h) rfl rfl⟩
                  | 3, _, hr =>
                    as_aux_lemma =>
                    refine wpOp_step rfl (fun K' hK => ?_)
                    have e1 : t 70 = .bool false := hR.val (2, 70) (by simp) (dep_of hr 2 (by kernel_rfl))
                    go_simp
                    exact hK _ _ ⟨upd t 71 (.bool false), by simp [upd, e1], hR.yields hR.fin (fun _ _ h => h) rfl rfl⟩
                  | 4, _, hr =>
                    as_aux_lemma =>
                    refine wpOp_step rfl (fun K' hK => ?_)
                    have e9 : t 71 = .bool false := hR.val (3, 71) (by simp) (dep_of hr 3 (by kernel_rfl))
                    refine step_yes ?_ ?_
                    · simp [Region.wanted, yielded, e9]
                    go_simp
                    exact hK _ _ ⟨upd t 72 (.int .i64 0), by simp [upd, e9], hR.yields hR.fin (fun _ _ h => h) rfl rfl⟩
                  | 5, _, hr =>
                    as_aux_lemma =>
                    refine wpOp_step rfl (fun K' hK => ?_)
                    have e1 : t 72 = .int .i64 0 := hR.val (4, 72) (by simp) (dep_of hr 4 (by kernel_rfl))
                    have e9 : t 71 = .bool false := hR.val (3, 71) (by simp) (dep_of hr 3 (by kernel_rfl))
                    refine step_yes ?_ ?_
                    · simp [Region.wanted, yielded, e9]
                    go_simp
                    exact hK _ _ ⟨upd t 73 (.bool false), by simp [upd, e1, e9], hR.yields hR.fin (fun _ _ h => h) rfl rfl⟩
                  | 6, _, hr =>
                    as_aux_lemma =>
                    refine wpOp_step rfl (fun K' hK => ?_)
                    have e1 : t 73 = .bool false := hR.val (5, 73) (by simp) (dep_of hr 5 (by kernel_rfl))
                    have e9 : t 71 = .bool false := hR.val (3, 71) (by simp) (dep_of hr 3 (by kernel_rfl))
                    refine step_yes ?_ ?_
                    · simp [Region.wanted, yielded, e9]
                    go_simp
                    exact hK _ _ ⟨upd t 74 (.bool false), by simp [upd, e1, e9], hR.yields hR.fin (fun _ _ h => h) rfl rfl⟩
                  | 7, _, hr =>
                    as_aux_lemma =>
                    refine wpOp_step rfl (fun K' hK => ?_)
                    have e9 : t 74 = .bool false := hR.val (6, 74) (by simp) (dep_of hr 6 (by kernel_rfl))
                    refine step_no ?_ ?_
                    · simp [Region.wanted, yielded, e9]
                    go_simp
                    exact hK _ _ ⟨upd t 75 undef, by simp [upd, e9], hR.yields hR.fin (fun _ _ h => h) trivial rfl⟩
                  | 8, _, hr =>
                    as_aux_lemma =>
                    refine wpOp_step rfl (fun K' hK => ?_)
                    have e9 : t 74 = .bool false := hR.val (6, 74) (by simp) (dep_of hr 6 (by kernel_rfl))
                    refine step_no ?_ ?_
                    · simp [Region.wanted, yielded, e9]
                    go_simp
                    exact hK _ _ ⟨upd t 76 undef, by simp [upd, e9], hR.yields hR.fin (fun _ _ h => h) trivial rfl⟩
                  | 9, _, hr =>
                    as_aux_lemma =>
                    refine wpOp_step rfl (fun K' hK => ?_)
                    have e1 : t 74 = .bool false := hR.val (6, 74) (by simp) (dep_of hr 6 (by kernel_rfl))
                    have e9 : t 71 = .bool false := hR.val (3, 71) (by simp) (dep_of hr 3 (by kernel_rfl))
                    refine step_yes ?_ ?_
                    · simp [Region.wanted, yielded, e9]
                    go_simp
                    exact hK _ _ ⟨upd t 77 (.bool false), by simp [upd, e1, e9], hR.yields hR.fin (fun _ _ h => h) rfl rfl⟩
                  | 10, _, hr =>
                    as_aux_lemma =>
                    refine wpOp_step rfl (fun K' hK => ?_)
                    have e1 : t 71 = .bool false := hR.val (3, 71) (by simp) (dep_of hr 3 (by kernel_rfl))
                    have e2 : t 77 = .bool false := hR.val (9, 77) (by simp) (dep_of hr 9 (by kernel_rfl))
                    go_simp
                    exact hK _ _ ⟨upd t 78 (.bool false), by simp [upd, e1, e2], hR.yields hR.fin (fun _ _ h => h) rfl rfl⟩
                  | 11, _, hr =>
                    as_aux_lemma =>
                    refine wpOp_step rfl (fun K' hK => ?_)
                    have e1 : t 78 = .bool false := hR.val (10, 78) (by simp) (dep_of hr 10 (by kernel_rfl))
                    go_simp
                    exact hK _ _ ⟨upd t 79 (.bool false), by simp [upd, e1], hR.yields hR.fin (fun _ _ h => h) rfl rfl⟩
                  | 12, _, hr =>
                    as_aux_lemma =>
                    refine wpOp_step rfl (fun K' hK => ?_)
                    have e9 : t 79 = .bool false := hR.val (11, 79) (by simp) (dep_of hr 11 (by kernel_rfl))
                    refine step_yes ?_ ?_
                    · simp [Region.wanted, yielded, e9]
                    go_simp
                    exact hK _ _ ⟨upd t 80 (.int .i64 0), by simp [upd, e9], hR.yields hR.fin (fun _ _ h => h) rfl rfl⟩
                  | 13, _, hr =>
                    as_aux_lemma =>
                    refine wpOp_step rfl (fun K' hK => ?_)
                    have e1 : t 80 = .int .i64 0 := hR.val (12, 80) (by simp) (dep_of hr 12 (by kernel_rfl))
                    have e9 : t 79 = .bool false := hR.val (11, 79) (by simp) (dep_of hr 11 (by kernel_rfl))
                    refine step_yes ?_ ?_
                    · simp [Region.wanted, yielded, e9]
                    go_simp
                    exact hK _ _ ⟨upd t 81 (.bool true), by simp [upd, e1, e9], hR.yields hR.fin (fun _ _ h => h) rfl rfl⟩
                  | 14, _, hr =>
                    as_aux_lemma =>
                    refine wpOp_step rfl (fun K' hK => ?_)
                    have e1 : t 81 = .bool true := hR.val (13, 81) (by simp) (dep_of hr 13 (by kernel_rfl))
                    have e9 : t 79 = .bool false := hR.val (11, 79) (by simp) (dep_of hr 11 (by kernel_rfl))
                    refine step_yes ?_ ?_
                    · simp [Region.wanted, yielded, e9]
                    go_simp
                    exact hK _ _ ⟨upd t 82 (.bool true), by simp [upd, e1, e9], hR.yields hR.fin (fun _ _ h => h) rfl rfl⟩
                  | 15, _, hr =>
                    as_aux_lemma =>
                    refine wpOp_step rfl (fun K' hK => ?_)
                    have e9 : t 82 = .bool true := hR.val (14, 82) (by simp) (dep_of hr 14 (by kernel_rfl))
                    refine step_yes ?_ ?_
                    · simp [Region.wanted, yielded, e9]
                    go_simp
                    exact hK _ _ ⟨upd t 83 (.int .i64 C), by simp [upd, e9], hR.yields hR.fin (fun _ _ h => h) rfl rfl⟩
                  | 16, _, hr =>
                    as_aux_lemma =>
                    refine wpOp_step rfl (fun K' hK => ?_)
                    have e9 : t 82 = .bool true := hR.val (14, 82) (by simp) (dep_of hr 14 (by kernel_rfl))
                    refine step_yes ?_ ?_
                    · simp [Region.wanted, yielded, e9]
                    obtain ⟨c0, c1, c2, c3⟩ := hR.fin.bp.four
                    go_simp
                    exact hK _ _ ⟨upd t 84 (.agg #[.int .i64 (p.a), .int .i64 (p.b), .int .i64 (p.c), .int .i64 (p.d)]), by simp [upd, e9], hR.yields hR.fin (fun _ _ h => h) rfl rfl⟩
                  | 17, _, hr =>
                    as_aux_lemma =>
                    refine wpOp_step rfl (fun K' hK => ?_)
                    have e9 : t 82 = .bool true := hR.val (14, 82) (by simp) (dep_of hr 14 (by kernel_rfl))
                    refine step_yes ?_ ?_
                    · simp [Region.wanted, yielded, e9]
                    obtain ⟨c0, c1, c2, c3⟩ := hR.fin.bq.four
                    go_simp
                    exact hK _ _ ⟨upd t 85 (.agg #[.int .i64 (q.a), .int .i64 (q.b), .int .i64 (q.c), .int .i64 (q.d)]), by simp [upd, e9], hR.yields hR.fin (fun _ _ h => h) rfl rfl⟩
                  | 18, _, hr =>
                    as_aux_lemma =>
                    refine wpOp_step rfl (fun K' hK => ?_)
                    have e1 : t 84 = .agg #[.int .i64 (p.a), .int .i64 (p.b), .int .i64 (p.c), .int .i64 (p.d)] := hR.val (16, 84) (by simp) (dep_of hr 16 (by kernel_rfl))
                    have e2 : t 85 = .agg #[.int .i64 (q.a), .int .i64 (q.b), .int .i64 (q.c), .int .i64 (q.d)] := hR.val (17, 85) (by simp) (dep_of hr 17 (by kernel_rfl))
                    have e9 : t 82 = .bool true := hR.val (14, 82) (by simp) (dep_of hr 14 (by kernel_rfl))
                    refine step_yes ?_ ?_
                    · simp [Region.wanted, yielded, e9]
                    have HR := Lib.hid hR.fin
                    go_simp
                    refine (HDI.out _).mono ?_
                    rintro e w1 ⟨rfl, hb⟩
                    exact hK _ _ ⟨upd t 86 _, by simp [upd, e1, e2, e9], hR.yields (HR.out.call hb) (fun _ _ h => h) rfl rfl⟩
                  | 19, _, hr =>
                    as_aux_lemma =>
                    refine wpOp_step rfl (fun K' hK => ?_)
                    have e9 : t 82 = .bool true := hR.val (14, 82) (by simp) (dep_of hr 14 (by kernel_rfl))
                    refine step_yes ?_ ?_
                    · simp [Region.wanted, yielded, e9]
                    obtain ⟨c0, c1, c2, c3⟩ := blk_point hR.fin.ba
                    go_simp
                    exact hK _ _ ⟨upd t 87 (.agg #[.int .i64 (a.a), .int .i64 (a.b), .int .i64 (a.c), .int .i64 (a.d)]), by simp [upd, e9], hR.yields hR.fin (fun _ _ h => h) rfl rfl⟩
                  | 20, _, hr =>
                    as_aux_lemma =>
                    refine wpOp_step rfl (fun K' hK => ?_)
                    have e9 : t 82 = .bool true := hR.val (14, 82) (by simp) (dep_of hr 14 (by kernel_rfl))
                    refine step_yes ?_ ?_
                    · simp [Region.wanted, yielded, e9]
                    obtain ⟨c0, c1, c2, c3⟩ := blk_point hR.fin.bb
                    go_simp
                    exact hK _ _ ⟨upd t 88 (.agg #[.int .i64 (b.a), .int .i64 (b.b), .int .i64 (b.c), .int .i64 (b.d)]), by simp [upd, e9], hR.yields hR.fin (fun _ _ h => h) rfl rfl⟩
                  | 21, _, hr =>
                    as_aux_lemma =>
                    refine wpOp_step rfl (fun K' hK => ?_)
                    have e1 : t 86 = .agg #[.int .i64 (p.dx q), .int .i64 (p.dy q), .int .i64 (p.dz q)] := hR.val (18, 86) (by simp) (dep_of hr 18 (by kernel_rfl))
                    have e2 : t 87 = .agg #[.int .i64 (a.a), .int .i64 (a.b), .int .i64 (a.c), .int .i64 (a.d)] := hR.val (19, 87) (by simp) (dep_of hr 19 (by kernel_rfl))
                    have e3 : t 88 = .agg #[.int .i64 (b.a), .int .i64 (b.b), .int .i64 (b.c), .int .i64 (b.d)] := hR.val (20, 88) (by simp) (dep_of hr 20 (by kernel_rfl))
                    have e9 : t 82 = .bool true := hR.val (14, 82) (by simp) (dep_of hr 14 (by kernel_rfl))
                    refine step_yes ?_ ?_
                    · simp [Region.wanted, yielded, e9]
                    have HR := Lib.hid hR.fin
                    go_simp
                    refine (HCA.out _).mono ?_
                    rintro e w1 ⟨rfl, hb⟩
                    exact hK _ _ ⟨upd t 89 _, by simp [upd, e1, e2, e3, e9], hR.yields (HR.out.call hb) (fun _ _ h => h) rfl rfl⟩
                  | 22, _, hr =>
                    as_aux_lemma =>
                    refine wpOp_step rfl (fun K' hK => ?_)
                    have e1 : t 83 = .int .i64 C := hR.val (15, 83) (by simp) (dep_of hr 15 (by kernel_rfl))
                    have e2 : t 89 = .int .i64 C := hR.val (21, 89) (by simp) (dep_of hr 21 (by kernel_rfl))
                    have e9 : t 82 = .bool true := hR.val (14, 82) (by simp) (dep_of hr 14 (by kernel_rfl))
                    refine step_yes ?_ ?_
                    · simp [Region.wanted, yielded, e9]
                    go_simp
                    exact hK _ _ ⟨upd t 90 (.bool false), by simp [upd, e1, e2, e9], hR.yields hR.fin (fun _ _ h => h) rfl rfl⟩
                  | 23, _, hr =>
                    as_aux_lemma =>
                    refine wpOp_step rfl (fun K' hK => ?_)
                    have e1 : t 82 = .bool true := hR.val (14, 82) (by simp) (dep_of hr 14 (by kernel_rfl))
                    have e2 : t 90 = .bool false := hR.val (22, 90) (by simp) (dep_of hr 22 (by kernel_rfl))
                    have e9 : t 79 = .bool false := hR.val (11, 79) (by simp) (dep_of hr 11 (by kernel_rfl))
                    refine step_yes ?_ ?_
                    · simp [Region.wanted, yielded, e9]
                    go_simp
                    exact hK _ _ ⟨upd t 91 (.bool false), by simp [upd, e1, e2, e9], hR.yields hR.fin (fun _ _ h => h) rfl rfl⟩
                  | 24, _, hr =>
                    as_aux_lemma =>
                    refine wpOp_step rfl (fun K' hK => ?_)
                    have e1 : t 79 = .bool false := hR.val (11, 79) (by simp) (dep_of hr 11 (by kernel_rfl))
                    have e2 : t 91 = .bool false := hR.val (23, 91) (by simp) (dep_of hr 23 (by kernel_rfl))
                    go_simp
                    exact hK _ _ ⟨upd t 92 (.bool false), by simp [upd, e1, e2], hR.yields hR.fin (fun _ _ h => h) rfl rfl⟩
                  | n + 25, hi, _ => exact absurd (show n + 25 < 25 from hi) (by omega)
                rintro listed a2 W2 ⟨t, rfl, hR⟩ hl
                have e1 : t 92 = .bool false := hR.val (24, 92) (by simp) (hl 24 (by decide))
                have HX := Lib.hid hR.fin
                clear hR hl
                go_wp2_with fail
                go_meet
                exact ⟨e1, HX⟩
              · have hC := HC0.out hE0
                subst hC
                have n1 : (E != 0) = true := by simpa using hE0
                have n2 : (E == 0) = false := by simpa using hE0
                go_wp2
                go_region
                go_wp2
                go_meet
                exact ⟨rfl, Lib.hid (HLE.out.call (Below.refl _ _).drew)⟩
            case rest =>
              obtain ⟨rfl, HL1⟩ := hcut
              clear HLE HC0 HC1 wx
              have HLE := HL1
              clear HL1
              rename World => wx
              go_upto_region 17 with fail
              go_cut [] from 21 to 132 (fun wx => ∃ p q, Hid (p.I64 ∧ q.I64) ∧ Hid (LO p q a b P Q w wx))
              case first =>
                refine wp_region_inv (by kernel_rfl) (by kernel_rfl) (fun listed aa wy => ∃ t : Nat → Value, aa = { tmps := #[.agg #[.int .i64 (p0.a), .int .i64 (p0.b), .int .i64 (p0.c), .int .i64 (p0.d), .int .i64 (q0.a), .int .i64 (q0.b), .int .i64 (q0.c), .int .i64 (q0.d)], .agg #[.int .i64 (a0.a), .int .i64 (a0.b), .int .i64 (a0.c), .int .i64 (a0.d)], .agg #[.int .i64 (b0.a), .int .i64 (b0.b), .int .i64 (b0.c), .int .i64 (b0.d)], .pointer (some ⟨w.heap.size, 0, none⟩), .pointer (some ⟨w.heap.size + 1, 0, none⟩), .pointer (some ⟨w.heap.size + 1 + 1, 0, none⟩), u6, .pointer (some ⟨P, 0, none⟩), .pointer (some ⟨Q, 0, none⟩), .int .i64 k, .int .i64 C, .int .i64 E, .int .i64 E, u13, u14, u15, u16, u17, u18, u19, u20, u21, u22, u23, u24, u25, u26, u27, u28, u29, u30, u31, u32, u33, u34, u35, u36, u37, u38, u39, u40, u41, u42, u43, u44, u45, u46, u47, u48, u49, u50, u51, u52, u53, u54, u55, u56, u57, u58, u59, u60, u61, u62, u63, u64, u65, u66, u67, u68, u69, u70, u71, u72, u73, u74, u75, u76, u77, u78, u79, u80, u81, u82, u83, u84, u85, u86, u87, u88, u89, u90, u91, .bool false, t 93, t 94, t 95, t 96, u97, u98, u99, u100, u101, u102, u103, u104, u105, u106, u107, u108, u109, u110, u111, u112, u113, u114, u115, u116, u117, u118, u119, u120, u121, u122, u123, u124, u125, u126, u127, u128, u129, u130, u131, u132, undef], defers := [] } ∧ IR (fun W => ∃ p q, (p.I64 ∧ q.I64) ∧ LO p q a b P Q w W) (fun _ _ v => ∃ x : Q4, x.I64 ∧ v = .agg #[.int .i64 (x.a), .int .i64 (x.b), .int .i64 (x.c), .int .i64 (x.d)]) [(0, 93), (1, 94), (2, 95), (3, 96)] listed t wy) ⟨(fun d => match d with | 93 => u93 | 94 => u94 | 95 => u95 | 96 => u96 | _ => undef), rfl, IR.start _ ⟨p, q, ⟨HI.out.1, HI.out.2.1⟩, HLE.out.drew⟩ _⟩ ?_ ?_
                rotate_left
                · rintro listed hs i hi aa wy ⟨t, rfl, hR⟩ hr
                  match i, hi, hr with
                  | 0, _, hr =>
                    as_aux_lemma =>
                    refine wpOp_step rfl (fun K' hK => ?_)
                    obtain ⟨p, q, hI, hL⟩ := hR.fin
                    obtain ⟨c0, c1, c2, c3⟩ := hL.bp.four
                    have HY := Lib.hid hI.1
                    clear hL hI
                    go_simp
                    exact hK _ _ ⟨upd t 93 _, rfl, hR.yields hR.fin (fun _ _ h => h) ⟨p, HY.out, rfl⟩ rfl⟩
                  | 1, _, hr =>
                    as_aux_lemma =>
                    refine wpOp_step rfl (fun K' hK => ?_)
                    obtain ⟨x, hx, ex1⟩ := hR.val (0, 93) (by simp) (dep_of hr 0 (by kernel_rfl))
                    have ex1 : t 93 = .agg #[.int .i64 (x.a), .int .i64 (x.b), .int .i64 (x.c), .int .i64 (x.d)] := ex1
                    obtain ⟨p, q, hI, hL⟩ := hR.fin
                    have HI := Lib.hid hI
                    have HL := Lib.hid hL
                    clear hx hI hL
                    go_simp
                    refine (tame_any x.a x.b x.c x.d 3 wy (by decide) (by decide)).mono ?_
                    rintro e w1 ⟨⟨y, _, hy2, rfl⟩, hb⟩
                    exact hK _ _ ⟨upd t 94 _, by simp [upd, ex1], hR.yields ⟨p, q, HI.out, HL.out.call hb⟩ (fun _ _ h => h) ⟨y, hy2, rfl⟩ rfl⟩
                  | 2, _, hr =>
                    as_aux_lemma =>
                    refine wpOp_step rfl (fun K' hK => ?_)
                    obtain ⟨p, q, hI, hL⟩ := hR.fin
                    obtain ⟨c0, c1, c2, c3⟩ := hL.bq.four
                    have HY := Lib.hid hI.2
                    clear hL hI
                    go_simp
                    exact hK _ _ ⟨upd t 95 _, rfl, hR.yields hR.fin (fun _ _ h => h) ⟨q, HY.out, rfl⟩ rfl⟩
                  | 3, _, hr =>
                    as_aux_lemma =>
                    refine wpOp_step rfl (fun K' hK => ?_)
                    obtain ⟨x, hx, ex1⟩ := hR.val (2, 95) (by simp) (dep_of hr 2 (by kernel_rfl))
                    have ex1 : t 95 = .agg #[.int .i64 (x.a), .int .i64 (x.b), .int .i64 (x.c), .int .i64 (x.d)] := ex1
                    obtain ⟨p, q, hI, hL⟩ := hR.fin
                    have HI := Lib.hid hI
                    have HL := Lib.hid hL
                    clear hx hI hL
                    go_simp
                    refine (tame_any x.a x.b x.c x.d 3 wy (by decide) (by decide)).mono ?_
                    rintro e w1 ⟨⟨y, _, hy2, rfl⟩, hb⟩
                    exact hK _ _ ⟨upd t 96 _, by simp [upd, ex1], hR.yields ⟨p, q, HI.out, HL.out.call hb⟩ (fun _ _ h => h) ⟨y, hy2, rfl⟩ rfl⟩
                  | 4, _, hr =>
                    as_aux_lemma =>
                    refine wpOp_step rfl (fun K' hK => ?_)
                    obtain ⟨x, hx, ex1⟩ := hR.val (1, 94) (by simp) (dep_of hr 1 (by kernel_rfl))
                    have ex1 : t 94 = .agg #[.int .i64 (x.a), .int .i64 (x.b), .int .i64 (x.c), .int .i64 (x.d)] := ex1
                    obtain ⟨p, q, hI, hL⟩ := hR.fin
                    obtain ⟨c0, c1, c2, c3⟩ := hL.bp.four
                    have cf := hL.bp.frozen
                    have HIL : Hid ((x.I64 ∧ q.I64) ∧ LO x q a b P Q w ((((wy.setCell ⟨P, 0, none⟩ (.int .i64 x.a)).setCell ⟨P, 1, none⟩ (.int .i64 x.b)).setCell ⟨P, 2, none⟩ (.int .i64 x.c)).setCell ⟨P, 3, none⟩ (.int .i64 x.d))) := ⟨⟨hx, hI.2⟩, hL.setP x⟩
                    clear hI hL hx
                    go_simp
                    exact hK _ _ ⟨t, by simp [ex1], hR.stores ⟨_, _, HIL.out.1, HIL.out.2⟩ (fun _ _ h => h) rfl⟩
                  | 5, _, hr =>
                    as_aux_lemma =>
                    refine wpOp_step rfl (fun K' hK => ?_)
                    obtain ⟨x, hx, ex1⟩ := hR.val (3, 96) (by simp) (dep_of hr 3 (by kernel_rfl))
                    have ex1 : t 96 = .agg #[.int .i64 (x.a), .int .i64 (x.b), .int .i64 (x.c), .int .i64 (x.d)] := ex1
                    obtain ⟨p, q, hI, hL⟩ := hR.fin
                    obtain ⟨c0, c1, c2, c3⟩ := hL.bq.four
                    have cf := hL.bq.frozen
                    have HIL : Hid ((p.I64 ∧ x.I64) ∧ LO p x a b P Q w ((((wy.setCell ⟨Q, 0, none⟩ (.int .i64 x.a)).setCell ⟨Q, 1, none⟩ (.int .i64 x.b)).setCell ⟨Q, 2, none⟩ (.int .i64 x.c)).setCell ⟨Q, 3, none⟩ (.int .i64 x.d))) := ⟨⟨hI.1, hx⟩, hL.setQ x⟩
                    clear hI hL hx
                    go_simp
                    exact hK _ _ ⟨t, by simp [ex1], hR.stores ⟨_, _, HIL.out.1, HIL.out.2⟩ (fun _ _ h => h) rfl⟩
                rintro listed a2 W2 ⟨t, rfl, hR⟩ hl
                obtain ⟨p2, q2, hI, hL⟩ := hR.fin
                have HX := Lib.hid hI
                have HY := Lib.hid hL
                clear hR hl hI hL
                go_wp2_with fail
                go_meet
                exact ⟨p2, q2, HX, HY⟩
              case rest =>
                have HI0 := HI
                clear HLE HI
                obtain ⟨p, q, HPQ, HL1⟩ := hcut
                have HI : Hid (p.I64 ∧ q.I64 ∧ a.I64 ∧ b.I64) := ⟨HPQ.out.1, HPQ.out.2, HI0.out.2.2.1, HI0.out.2.2.2⟩
                clear HPQ HI0 wx
                have HLE := HL1
                clear HL1
                rename World => wx
                go_upto_region 18 with fail
                go_cut [13, 14] from 21 to 132 (fun s13 s14 wx => ∃ bx, s13 = .pointer (some ⟨bx, 0, none⟩) ∧ ∃ c, s14 = .bool c ∧ Hid (V4 bx wx) ∧ Hid (LO p q a b P Q w wx))
                case first =>
                  refine wp_region_inv (by kernel_rfl) (by kernel_rfl) (fun listed aa wy => ∃ t : Nat → Value, aa = { tmps := #[.agg #[.int .i64 (p0.a), .int .i64 (p0.b), .int .i64 (p0.c), .int .i64 (p0.d), .int .i64 (q0.a), .int .i64 (q0.b), .int .i64 (q0.c), .int .i64 (q0.d)], .agg #[.int .i64 (a0.a), .int .i64 (a0.b), .int .i64 (a0.c), .int .i64 (a0.d)], .agg #[.int .i64 (b0.a), .int .i64 (b0.b), .int .i64 (b0.c), .int .i64 (b0.d)], .pointer (some ⟨w.heap.size, 0, none⟩), .pointer (some ⟨w.heap.size + 1, 0, none⟩), .pointer (some ⟨w.heap.size + 1 + 1, 0, none⟩), u6, .pointer (some ⟨P, 0, none⟩), .pointer (some ⟨Q, 0, none⟩), .int .i64 k, .int .i64 C, .int .i64 E, .int .i64 E, t 13, t 14, u15, u16, u17, u18, u19, u20, u21, u22, u23, u24, u25, u26, u27, u28, u29, u30, u31, u32, u33, u34, u35, u36, u37, u38, u39, u40, u41, u42, u43, u44, u45, u46, u47, u48, u49, u50, u51, u52, u53, u54, u55, u56, u57, u58, u59, u60, u61, u62, u63, u64, u65, u66, u67, u68, u69, u70, u71, u72, u73, u74, u75, u76, u77, u78, u79, u80, u81, u82, u83, u84, u85, u86, u87, u88, u89, u90, u91, u92, u93, u94, u95, u96, t 97, t 98, t 99, t 100, t 101, t 102, t 103, t 104, t 105, t 106, t 107, t 108, t 109, t 110, t 111, t 112, u113, u114, u115, u116, u117, u118, u119, u120, u121, u122, u123, u124, u125, u126, u127, u128, u129, u130, u131, u132, undef], defers := [] } ∧ IR (fun W => LO p q a b P Q w W) (lorS p q a P Q (w.heap.size + 1) 0 w) [(0, 98), (1, 99), (2, 100), (3, 101), (4, 102), (5, 103), (6, 104), (7, 105), (8, 106), (9, 107), (10, 108), (11, 109), (12, 110), (13, 97), (14, 111), (15, 112), (16, 13), (18, 14)] listed t wy) ⟨(fun d => match d with | 97 => u97 | 98 => u98 | 99 => u99 | 100 => u100 | 101 => u101 | 102 => u102 | 103 => u103 | 104 => u104 | 105 => u105 | 106 => u106 | 107 => u107 | 108 => u108 | 109 => u109 | 110 => u110 | 111 => u111 | 112 => u112 | 13 => u13 | 14 => u14 | _ => undef), rfl, IR.start _ HLE.out.drew _⟩ ?_ ?_
                  rotate_left
                  · rintro listed hs i hi aa wy ⟨t, rfl, hR⟩ hr
                    match i, hi, hr with
                    | 0, _, hr =>
                      as_aux_lemma =>
                      refine wpOp_step rfl (fun K' hK => ?_)
                      obtain ⟨c0, c1, c2, c3⟩ := hR.fin.bp.four
                      go_simp
                      exact hK _ _ ⟨upd t 98 _, rfl, hR.yields hR.fin (fun _ _ h => h) rfl rfl⟩
                    | 1, _, hr =>
                      as_aux_lemma =>
                      refine wpOp_step rfl (fun K' hK => ?_)
                      obtain ⟨c0, c1, c2, c3⟩ := hR.fin.bq.four
                      go_simp
                      exact hK _ _ ⟨upd t 99 _, rfl, hR.yields hR.fin (fun _ _ h => h) rfl rfl⟩
                    | 2, _, hr =>
                      as_aux_lemma =>
                      refine wpOp_step rfl (fun K' hK => ?_)
                      go_simp
                      exact hK _ _ ⟨upd t 100 _, rfl, hR.yields hR.fin (fun _ _ h => h) rfl rfl⟩
                    | 3, _, hr =>
                      as_aux_lemma =>
                      refine wpOp_step rfl (fun K' hK => ?_)
                      have e1 : t 100 = .pointer (some ⟨w.heap.size + 1, 0, none⟩) := hR.val (2, 100) (by simp) (dep_of hr 2 (by kernel_rfl))
                      obtain ⟨c0, c1, c2, c3⟩ := blk_point hR.fin.ba
                      go_simp
                      exact hK _ _ ⟨upd t 101 _, by simp [upd, e1], hR.yields hR.fin (fun _ _ h => h) rfl rfl⟩
                    | 4, _, hr =>
                      as_aux_lemma =>
                      refine wpOp_step rfl (fun K' hK => ?_)
                      go_simp
                      exact hK _ _ ⟨upd t 102 _, rfl, hR.yields hR.fin (fun _ _ h => h) rfl rfl⟩
                    | 5, _, hr =>
                      as_aux_lemma =>
                      refine wpOp_step rfl (fun K' hK => ?_)
                      have e1 : t 102 = .pointer (some ⟨w.heap.size + 1, 1, none⟩) := hR.val (4, 102) (by simp) (dep_of hr 4 (by kernel_rfl))
                      obtain ⟨c0, c1, c2, c3⟩ := blk_point hR.fin.ba
                      go_simp
                      exact hK _ _ ⟨upd t 103 _, by simp [upd, e1], hR.yields hR.fin (fun _ _ h => h) rfl rfl⟩
                    | 6, _, hr =>
                      as_aux_lemma =>
                      refine wpOp_step rfl (fun K' hK => ?_)
                      go_simp
                      exact hK _ _ ⟨upd t 104 _, rfl, hR.yields hR.fin (fun _ _ h => h) rfl rfl⟩
                    | 7, _, hr =>
                      as_aux_lemma =>
                      refine wpOp_step rfl (fun K' hK => ?_)
                      have e1 : t 104 = .pointer (some ⟨w.heap.size + 1, 2, none⟩) := hR.val (6, 104) (by simp) (dep_of hr 6 (by kernel_rfl))
                      obtain ⟨c0, c1, c2, c3⟩ := blk_point hR.fin.ba
                      go_simp
                      exact hK _ _ ⟨upd t 105 _, by simp [upd, e1], hR.yields hR.fin (fun _ _ h => h) rfl rfl⟩
                    | 8, _, hr =>
                      as_aux_lemma =>
                      refine wpOp_step rfl (fun K' hK => ?_)
                      go_simp
                      exact hK _ _ ⟨upd t 106 _, rfl, hR.yields hR.fin (fun _ _ h => h) rfl rfl⟩
                    | 9, _, hr =>
                      as_aux_lemma =>
                      refine wpOp_step rfl (fun K' hK => ?_)
                      have e1 : t 106 = .pointer (some ⟨w.heap.size + 1, 3, none⟩) := hR.val (8, 106) (by simp) (dep_of hr 8 (by kernel_rfl))
                      obtain ⟨c0, c1, c2, c3⟩ := blk_point hR.fin.ba
                      go_simp
                      exact hK _ _ ⟨upd t 107 _, by simp [upd, e1], hR.yields hR.fin (fun _ _ h => h) rfl rfl⟩
                    | 10, _, hr =>
                      as_aux_lemma =>
                      refine wpOp_step rfl (fun K' hK => ?_)
                      have e1 : t 101 = .int .i64 a.a := hR.val (3, 101) (by simp) (dep_of hr 3 (by kernel_rfl))
                      have e2 : t 103 = .int .i64 a.b := hR.val (5, 103) (by simp) (dep_of hr 5 (by kernel_rfl))
                      have e3 : t 105 = .int .i64 a.c := hR.val (7, 105) (by simp) (dep_of hr 7 (by kernel_rfl))
                      have e4 : t 107 = .int .i64 a.d := hR.val (9, 107) (by simp) (dep_of hr 9 (by kernel_rfl))
                      go_simp
                      exact hK _ _ ⟨upd t 108 _, by simp [upd, e1, e2, e3, e4], hR.yields hR.fin (fun _ _ h => h) rfl rfl⟩
                    | 11, _, hr =>
                      as_aux_lemma =>
                      refine wpOp_step rfl (fun K' hK => ?_)
                      have e1 : t 108 = .agg #[.int .i64 (a.a), .int .i64 (a.b), .int .i64 (a.c), .int .i64 (a.d)] := hR.val (10, 108) (by simp) (dep_of hr 10 (by kernel_rfl))
                      have HR := Lib.hid hR.fin
                      go_simp
                      refine (tame_any _ _ _ _ 3 wy (by decide) (by decide)).mono ?_
                      rintro e w1 ⟨⟨y, _, hy2, rfl⟩, hb⟩
                      exact hK _ _ ⟨upd t 109 _, by simp [upd, e1], hR.yields (HR.out.call hb) (lorS_mono hb) ⟨y, hy2, rfl⟩ rfl⟩
                    | 12, _, hr =>
                      as_aux_lemma =>
                      refine wpOp_step rfl (fun K' hK => ?_)
                      have e1 : t 98 = .agg #[.int .i64 (p.a), .int .i64 (p.b), .int .i64 (p.c), .int .i64 (p.d)] := hR.val (0, 98) (by simp) (dep_of hr 0 (by kernel_rfl))
                      have e2 : t 99 = .agg #[.int .i64 (q.a), .int .i64 (q.b), .int .i64 (q.c), .int .i64 (q.d)] := hR.val (1, 99) (by simp) (dep_of hr 1 (by kernel_rfl))
                      obtain ⟨y, hy, ex3⟩ := hR.val (11, 109) (by simp) (dep_of hr 11 (by kernel_rfl))
                      have ex3 : t 109 = .agg #[.int .i64 (y.a), .int .i64 (y.b), .int .i64 (y.c), .int .i64 (y.d)] := ex3
                      have HR := Lib.hid hR.fin
                      have HY := Lib.hid hy
                      clear hy
                      go_simp
                      refine (meet_ex p q y wy HI.out.1 HI.out.2.1 HY.out).mono ?_
                      rintro e w1 ⟨⟨x, cc, hx, rfl⟩, hb⟩
                      exact hK _ _ ⟨upd t 110 _, by simp [upd, e1, e2, ex3], hR.yields (HR.out.call hb) (lorS_mono hb) ⟨x, cc, hx, rfl⟩ rfl⟩
                    | 13, _, hr =>
                      as_aux_lemma =>
                      refine wpOp_step rfl (fun K' hK => ?_)
                      obtain ⟨x, cc, hx, ex1⟩ := hR.val (12, 110) (by simp) (dep_of hr 12 (by kernel_rfl))
                      have ex1 : t 110 = .tuple #[.agg #[.int .i64 (x.a), .int .i64 (x.b), .int .i64 (x.c), .int .i64 (x.d)], .bool cc] := ex1
                      have HX := Lib.hid hx
                      clear hx
                      go_simp
                      exact hK _ _ ⟨upd t 97 (.tuple #[.agg #[.int .i64 (x.a), .int .i64 (x.b), .int .i64 (x.c), .int .i64 (x.d)], .bool cc]), by simp [upd, ex1], hR.yields hR.fin (fun _ _ h => h) ⟨x, cc, HX.out, rfl⟩ rfl⟩
                    | 14, _, hr =>
                      as_aux_lemma =>
                      refine wpOp_step rfl (fun K' hK => ?_)
                      obtain ⟨x, cc, hx, ex1⟩ := hR.val (13, 97) (by simp) (dep_of hr 13 (by kernel_rfl))
                      have ex1 : t 97 = .tuple #[.agg #[.int .i64 (x.a), .int .i64 (x.b), .int .i64 (x.c), .int .i64 (x.d)], .bool cc] := ex1
                      have HX := Lib.hid hx
                      clear hx
                      go_simp
                      exact hK _ _ ⟨upd t 111 (.agg #[.int .i64 (x.a), .int .i64 (x.b), .int .i64 (x.c), .int .i64 (x.d)]), by simp [upd, ex1], hR.yields hR.fin (fun _ _ h => h) ⟨x, HX.out, rfl⟩ rfl⟩
                    | 15, _, hr =>
                      as_aux_lemma =>
                      refine wpOp_step rfl (fun K' hK => ?_)
                      obtain ⟨x, cc, hx, ex1⟩ := hR.val (13, 97) (by simp) (dep_of hr 13 (by kernel_rfl))
                      have ex1 : t 97 = .tuple #[.agg #[.int .i64 (x.a), .int .i64 (x.b), .int .i64 (x.c), .int .i64 (x.d)], .bool cc] := ex1
                      clear hx
                      go_simp
                      exact hK _ _ ⟨upd t 112 (.bool cc), by simp [upd, ex1], hR.yields hR.fin (fun _ _ h => h) ⟨cc, rfl⟩ rfl⟩
                    | 16, _, hr =>
                      as_aux_lemma =>
                      refine wpOp_step rfl (fun K' hK => ?_)
                      have HR := Lib.hid hR.fin
                      have hb : Below wy.heap.size wy (wy.alloc (PT ⟨0, 0, 0, 0⟩)) := (Below.refl _ _).alloc (Nat.le_refl _) _
                      have HB := Lib.hid hb
                      clear hb
                      go_simp
                      exact hK _ _ ⟨upd t 13 _, rfl, hR.yields (HR.out.call HB.out) (lorS_mono HB.out) ⟨_, rfl, HR.out.far, V4.new wy⟩ rfl⟩
                    | 17, _, hr =>
                      as_aux_lemma =>
                      refine wpOp_step rfl (fun K' hK => ?_)
                      obtain ⟨bb, eb, hfar, hv⟩ := hR.val (16, 13) (by simp) (dep_of hr 16 (by kernel_rfl))
                      have eb : t 13 = .pointer (some ⟨bb, 0, none⟩) := eb
                      obtain ⟨x, hx, ex1⟩ := hR.val (14, 111) (by simp) (dep_of hr 14 (by kernel_rfl))
                      have ex1 : t 111 = .agg #[.int .i64 (x.a), .int .i64 (x.b), .int .i64 (x.c), .int .i64 (x.d)] := ex1
                      obtain ⟨y0, y1, y2, y3, hc⟩ := hv.cells
                      have cf := hv.frozen
                      have HM2 : Hid (LO p q a b P Q w ((((wy.setCell ⟨bb, 0, none⟩ (.int .i64 x.a)).setCell ⟨bb, 1, none⟩ (.int .i64 x.b)).setCell ⟨bb, 2, none⟩ (.int .i64 x.c)).setCell ⟨bb, 3, none⟩ (.int .i64 x.d))) := hR.fin.far4 hfar x
                      have HS2 := Lib.hid (fun i v h => lorS_put (p := p) (q := q) (x := a) (P := P) (Q := Q) (S := w.heap.size + 1) (d := 0) (w := w) (b := bb) (W := wy) hx i v h)
                      clear hx hfar hv
                      go_simp
                      exact hK _ _ ⟨t, by simp [ex1, eb], hR.stores HM2.out HS2.out rfl⟩
                    | 18, _, hr =>
                      as_aux_lemma =>
                      refine wpOp_step rfl (fun K' hK => ?_)
                      obtain ⟨cc, ex1⟩ := hR.val (15, 112) (by simp) (dep_of hr 15 (by kernel_rfl))
                      have ex1 : t 112 = .bool cc := ex1
                      go_simp
                      exact hK _ _ ⟨upd t 14 (.bool cc), by simp [upd, ex1], hR.yields hR.fin (fun _ _ h => h) ⟨cc, rfl⟩ rfl⟩
                    | n + 19, hi, _ => exact absurd (show n + 19 < 19 from hi) (by omega)
                  rintro listed a2 W2 ⟨t, rfl, hR⟩ hl
                  obtain ⟨bb, eb, hfar, hv⟩ : ∃ b, t 13 = .pointer (some ⟨b, 0, none⟩) ∧ Far P Q w b ∧ V4 b W2 := hR.val (16, 13) (by simp) (hl 16 (by decide))
                  obtain ⟨cc, ec⟩ : ∃ c, t 14 = .bool c := hR.val (18, 14) (by simp) (hl 18 (by decide))
                  have HX := Lib.hid hR.fin
                  clear hR hl
                  go_wp2_with fail
                  go_meet
                  exact ⟨bb, eb, cc, ec, hv, HX⟩
                case rest =>
                  clear HLE wx
                  obtain ⟨bx, rfl, c, rfl, HV, HL1⟩ := hcut
                  rename World => wx
                  go_upto_if 113 with fail
                  go_cut [] from 21 to 132 (fun wx => ∃ a : Q4, Hid a.I64 ∧ Hid (LO p q a b P Q w wx))
                  case first =>
                    cases c with
                    | false =>
                      have HIA : Hid a.I64 := HI.out.2.2.1
                      go_wp2
                      go_meet
                      exact ⟨a, HIA, HL1⟩
                    | true =>
                      obtain ⟨x, ix, hx⟩ := HV.out
                      obtain ⟨x0, x1, x2, x3⟩ := hx.four
                      obtain ⟨y0, y1, y2, y3⟩ := blk_point HL1.out.ba
                      have yf := (blk_cells HL1.out.ba).2
                      have HIA : Hid x.I64 := ix
                      have HL2 := Lib.hid (HL1.out.setA x)
                      clear hx ix
                      go_wp2
                      go_meet
                      exact ⟨x, HIA, HL2⟩
                  case rest =>
                    have HI0 := HI
                    clear HL1 HV HI wx
                    obtain ⟨a, HIA, HLE⟩ := hcut
                    have HI : Hid (p.I64 ∧ q.I64 ∧ a.I64 ∧ b.I64) := ⟨HI0.out.1, HI0.out.2.1, HIA.out, HI0.out.2.2.2⟩
                    clear HIA HI0
                    rename World => wx
                    go_upto_region 21 with fail
                    go_cut [15, 16] from 21 to 132 (fun s15 s16 wx => ∃ by', s15 = .pointer (some ⟨by', 0, none⟩) ∧ ∃ c, s16 = .bool c ∧ Hid (V4 by' wx) ∧ Hid (LO p q a b P Q w wx))
                    case first =>
                      refine wp_region_inv (by kernel_rfl) (by kernel_rfl) (fun listed aa wy => ∃ t : Nat → Value, aa = { tmps := #[.agg #[.int .i64 (p0.a), .int .i64 (p0.b), .int .i64 (p0.c), .int .i64 (p0.d), .int .i64 (q0.a), .int .i64 (q0.b), .int .i64 (q0.c), .int .i64 (q0.d)], .agg #[.int .i64 (a0.a), .int .i64 (a0.b), .int .i64 (a0.c), .int .i64 (a0.d)], .agg #[.int .i64 (b0.a), .int .i64 (b0.b), .int .i64 (b0.c), .int .i64 (b0.d)], .pointer (some ⟨w.heap.size, 0, none⟩), .pointer (some ⟨w.heap.size + 1, 0, none⟩), .pointer (some ⟨w.heap.size + 1 + 1, 0, none⟩), u6, .pointer (some ⟨P, 0, none⟩), .pointer (some ⟨Q, 0, none⟩), .int .i64 k, .int .i64 C, .int .i64 E, .int .i64 E, .pointer (some ⟨bx, 0, none⟩), .bool c, t 15, t 16, u17, u18, u19, u20, u21, u22, u23, u24, u25, u26, u27, u28, u29, u30, u31, u32, u33, u34, u35, u36, u37, u38, u39, u40, u41, u42, u43, u44, u45, u46, u47, u48, u49, u50, u51, u52, u53, u54, u55, u56, u57, u58, u59, u60, u61, u62, u63, u64, u65, u66, u67, u68, u69, u70, u71, u72, u73, u74, u75, u76, u77, u78, u79, u80, u81, u82, u83, u84, u85, u86, u87, u88, u89, u90, u91, u92, u93, u94, u95, u96, u97, u98, u99, u100, u101, u102, u103, u104, u105, u106, u107, u108, u109, u110, u111, u112, u113, u114, t 115, t 116, t 117, t 118, t 119, t 120, t 121, t 122, t 123, t 124, t 125, t 126, t 127, t 128, t 129, t 130, u131, u132, undef], defers := [] } ∧ IR (fun W => LO p q a b P Q w W) (lorS p q b P Q (w.heap.size + 1 + 1) 18 w) [(0, 116), (1, 117), (2, 118), (3, 119), (4, 120), (5, 121), (6, 122), (7, 123), (8, 124), (9, 125), (10, 126), (11, 127), (12, 128), (13, 115), (14, 129), (15, 130), (16, 15), (18, 16)] listed t wy) ⟨(fun d => match d with | 115 => u115 | 116 => u116 | 117 => u117 | 118 => u118 | 119 => u119 | 120 => u120 | 121 => u121 | 122 => u122 | 123 => u123 | 124 => u124 | 125 => u125 | 126 => u126 | 127 => u127 | 128 => u128 | 129 => u129 | 130 => u130 | 15 => u15 | 16 => u16 | _ => undef), rfl, IR.start _ HLE.out.drew _⟩ ?_ ?_
                      rotate_left
                      · rintro listed hs i hi aa wy ⟨t, rfl, hR⟩ hr
                        match i, hi, hr with
                        | 0, _, hr =>
                          as_aux_lemma =>
                          refine wpOp_step rfl (fun K' hK => ?_)
                          obtain ⟨c0, c1, c2, c3⟩ := hR.fin.bp.four
                          go_simp
                          exact hK _ _ ⟨upd t 116 _, rfl, hR.yields hR.fin (fun _ _ h => h) rfl rfl⟩
                        | 1, _, hr =>
                          as_aux_lemma =>
                          refine wpOp_step rfl (fun K' hK => ?_)
                          obtain ⟨c0, c1, c2, c3⟩ := hR.fin.bq.four
                          go_simp
                          exact hK _ _ ⟨upd t 117 _, rfl, hR.yields hR.fin (fun _ _ h => h) rfl rfl⟩
                        | 2, _, hr =>
                          as_aux_lemma =>
                          refine wpOp_step rfl (fun K' hK => ?_)
                          go_simp
                          exact hK _ _ ⟨upd t 118 _, rfl, hR.yields hR.fin (fun _ _ h => h) rfl rfl⟩
                        | 3, _, hr =>
                          as_aux_lemma =>
                          refine wpOp_step rfl (fun K' hK => ?_)
                          have e1 : t 118 = .pointer (some ⟨w.heap.size + 1 + 1, 0, none⟩) := hR.val (2, 118) (by simp) (dep_of hr 2 (by kernel_rfl))
                          obtain ⟨c0, c1, c2, c3⟩ := blk_point hR.fin.bb
                          go_simp
                          exact hK _ _ ⟨upd t 119 _, by simp [upd, e1], hR.yields hR.fin (fun _ _ h => h) rfl rfl⟩
                        | 4, _, hr =>
                          as_aux_lemma =>
                          refine wpOp_step rfl (fun K' hK => ?_)
                          go_simp
                          exact hK _ _ ⟨upd t 120 _, rfl, hR.yields hR.fin (fun _ _ h => h) rfl rfl⟩
                        | 5, _, hr =>
                          as_aux_lemma =>
                          refine wpOp_step rfl (fun K' hK => ?_)
                          have e1 : t 120 = .pointer (some ⟨w.heap.size + 1 + 1, 1, none⟩) := hR.val (4, 120) (by simp) (dep_of hr 4 (by kernel_rfl))
                          obtain ⟨c0, c1, c2, c3⟩ := blk_point hR.fin.bb
                          go_simp
                          exact hK _ _ ⟨upd t 121 _, by simp [upd, e1], hR.yields hR.fin (fun _ _ h => h) rfl rfl⟩
                        | 6, _, hr =>
                          as_aux_lemma =>
                          refine wpOp_step rfl (fun K' hK => ?_)
                          go_simp
                          exact hK _ _ ⟨upd t 122 _, rfl, hR.yields hR.fin (fun _ _ h => h) rfl rfl⟩
                        | 7, _, hr =>
                          as_aux_lemma =>
                          refine wpOp_step rfl (fun K' hK => ?_)
                          have e1 : t 122 = .pointer (some ⟨w.heap.size + 1 + 1, 2, none⟩) := hR.val (6, 122) (by simp) (dep_of hr 6 (by kernel_rfl))
                          obtain ⟨c0, c1, c2, c3⟩ := blk_point hR.fin.bb
                          go_simp
                          exact hK _ _ ⟨upd t 123 _, by simp [upd, e1], hR.yields hR.fin (fun _ _ h => h) rfl rfl⟩
                        | 8, _, hr =>
                          as_aux_lemma =>
                          refine wpOp_step rfl (fun K' hK => ?_)
                          go_simp
                          exact hK _ _ ⟨upd t 124 _, rfl, hR.yields hR.fin (fun _ _ h => h) rfl rfl⟩
                        | 9, _, hr =>
                          as_aux_lemma =>
                          refine wpOp_step rfl (fun K' hK => ?_)
                          have e1 : t 124 = .pointer (some ⟨w.heap.size + 1 + 1, 3, none⟩) := hR.val (8, 124) (by simp) (dep_of hr 8 (by kernel_rfl))
                          obtain ⟨c0, c1, c2, c3⟩ := blk_point hR.fin.bb
                          go_simp
                          exact hK _ _ ⟨upd t 125 _, by simp [upd, e1], hR.yields hR.fin (fun _ _ h => h) rfl rfl⟩
                        | 10, _, hr =>
                          as_aux_lemma =>
                          refine wpOp_step rfl (fun K' hK => ?_)
                          have e1 : t 119 = .int .i64 b.a := hR.val (3, 119) (by simp) (dep_of hr 3 (by kernel_rfl))
                          have e2 : t 121 = .int .i64 b.b := hR.val (5, 121) (by simp) (dep_of hr 5 (by kernel_rfl))
                          have e3 : t 123 = .int .i64 b.c := hR.val (7, 123) (by simp) (dep_of hr 7 (by kernel_rfl))
                          have e4 : t 125 = .int .i64 b.d := hR.val (9, 125) (by simp) (dep_of hr 9 (by kernel_rfl))
                          go_simp
                          exact hK _ _ ⟨upd t 126 _, by simp [upd, e1, e2, e3, e4], hR.yields hR.fin (fun _ _ h => h) rfl rfl⟩
                        | 11, _, hr =>
                          as_aux_lemma =>
                          refine wpOp_step rfl (fun K' hK => ?_)
                          have e1 : t 126 = .agg #[.int .i64 (b.a), .int .i64 (b.b), .int .i64 (b.c), .int .i64 (b.d)] := hR.val (10, 126) (by simp) (dep_of hr 10 (by kernel_rfl))
                          have HR := Lib.hid hR.fin
                          go_simp
                          refine (tame_any _ _ _ _ 3 wy (by decide) (by decide)).mono ?_
                          rintro e w1 ⟨⟨y, _, hy2, rfl⟩, hb⟩
                          exact hK _ _ ⟨upd t 127 _, by simp [upd, e1], hR.yields (HR.out.call hb) (lorS_mono hb) ⟨y, hy2, rfl⟩ rfl⟩
                        | 12, _, hr =>
                          as_aux_lemma =>
                          refine wpOp_step rfl (fun K' hK => ?_)
                          have e1 : t 116 = .agg #[.int .i64 (p.a), .int .i64 (p.b), .int .i64 (p.c), .int .i64 (p.d)] := hR.val (0, 116) (by simp) (dep_of hr 0 (by kernel_rfl))
                          have e2 : t 117 = .agg #[.int .i64 (q.a), .int .i64 (q.b), .int .i64 (q.c), .int .i64 (q.d)] := hR.val (1, 117) (by simp) (dep_of hr 1 (by kernel_rfl))
                          obtain ⟨y, hy, ex3⟩ := hR.val (11, 127) (by simp) (dep_of hr 11 (by kernel_rfl))
                          have ex3 : t 127 = .agg #[.int .i64 (y.a), .int .i64 (y.b), .int .i64 (y.c), .int .i64 (y.d)] := ex3
                          have HR := Lib.hid hR.fin
                          have HY := Lib.hid hy
                          clear hy
                          go_simp
                          refine (meet_ex p q y wy HI.out.1 HI.out.2.1 HY.out).mono ?_
                          rintro e w1 ⟨⟨x, cc, hx, rfl⟩, hb⟩
                          exact hK _ _ ⟨upd t 128 _, by simp [upd, e1, e2, ex3], hR.yields (HR.out.call hb) (lorS_mono hb) ⟨x, cc, hx, rfl⟩ rfl⟩
                        | 13, _, hr =>
                          as_aux_lemma =>
                          refine wpOp_step rfl (fun K' hK => ?_)
                          obtain ⟨x, cc, hx, ex1⟩ := hR.val (12, 128) (by simp) (dep_of hr 12 (by kernel_rfl))
                          have ex1 : t 128 = .tuple #[.agg #[.int .i64 (x.a), .int .i64 (x.b), .int .i64 (x.c), .int .i64 (x.d)], .bool cc] := ex1
                          have HX := Lib.hid hx
                          clear hx
                          go_simp
                          exact hK _ _ ⟨upd t 115 (.tuple #[.agg #[.int .i64 (x.a), .int .i64 (x.b), .int .i64 (x.c), .int .i64 (x.d)], .bool cc]), by simp [upd, ex1], hR.yields hR.fin (fun _ _ h => h) ⟨x, cc, HX.out, rfl⟩ rfl⟩
                        | 14, _, hr =>
                          as_aux_lemma =>
                          refine wpOp_step rfl (fun K' hK => ?_)
                          obtain ⟨x, cc, hx, ex1⟩ := hR.val (13, 115) (by simp) (dep_of hr 13 (by kernel_rfl))
                          have ex1 : t 115 = .tuple #[.agg #[.int .i64 (x.a), .int .i64 (x.b), .int .i64 (x.c), .int .i64 (x.d)], .bool cc] := ex1
                          have HX := Lib.hid hx
                          clear hx
                          go_simp
                          exact hK _ _ ⟨upd t 129 (.agg #[.int .i64 (x.a), .int .i64 (x.b), .int .i64 (x.c), .int .i64 (x.d)]), by simp [upd, ex1], hR.yields hR.fin (fun _ _ h => h) ⟨x, HX.out, rfl⟩ rfl⟩
                        | 15, _, hr =>
                          as_aux_lemma =>
                          refine wpOp_step rfl (fun K' hK => ?_)
                          obtain ⟨x, cc, hx, ex1⟩ := hR.val (13, 115) (by simp) (dep_of hr 13 (by kernel_rfl))
                          have ex1 : t 115 = .tuple #[.agg #[.int .i64 (x.a), .int .i64 (x.b), .int .i64 (x.c), .int .i64 (x.d)], .bool cc] := ex1
                          clear hx
                          go_simp
                          exact hK _ _ ⟨upd t 130 (.bool cc), by simp [upd, ex1], hR.yields hR.fin (fun _ _ h => h) ⟨cc, rfl⟩ rfl⟩
                        | 16, _, hr =>
                          as_aux_lemma =>
                          refine wpOp_step rfl (fun K' hK => ?_)
                          have HR := Lib.hid hR.fin
                          have hb : Below wy.heap.size wy (wy.alloc (PT ⟨0, 0, 0, 0⟩)) := (Below.refl _ _).alloc (Nat.le_refl _) _
                          have HB := Lib.hid hb
                          clear hb
                          go_simp
                          exact hK _ _ ⟨upd t 15 _, rfl, hR.yields (HR.out.call HB.out) (lorS_mono HB.out) ⟨_, rfl, HR.out.far, V4.new wy⟩ rfl⟩
                        | 17, _, hr =>
                          as_aux_lemma =>
                          refine wpOp_step rfl (fun K' hK => ?_)
                          obtain ⟨bb, eb, hfar, hv⟩ := hR.val (16, 15) (by simp) (dep_of hr 16 (by kernel_rfl))
                          have eb : t 15 = .pointer (some ⟨bb, 0, none⟩) := eb
                          obtain ⟨x, hx, ex1⟩ := hR.val (14, 129) (by simp) (dep_of hr 14 (by kernel_rfl))
                          have ex1 : t 129 = .agg #[.int .i64 (x.a), .int .i64 (x.b), .int .i64 (x.c), .int .i64 (x.d)] := ex1
                          obtain ⟨y0, y1, y2, y3, hc⟩ := hv.cells
                          have cf := hv.frozen
                          have HM2 : Hid (LO p q a b P Q w ((((wy.setCell ⟨bb, 0, none⟩ (.int .i64 x.a)).setCell ⟨bb, 1, none⟩ (.int .i64 x.b)).setCell ⟨bb, 2, none⟩ (.int .i64 x.c)).setCell ⟨bb, 3, none⟩ (.int .i64 x.d))) := hR.fin.far4 hfar x
                          have HS2 := Lib.hid (fun i v h => lorS_put (p := p) (q := q) (x := b) (P := P) (Q := Q) (S := w.heap.size + 1 + 1) (d := 18) (w := w) (b := bb) (W := wy) hx i v h)
                          clear hx hfar hv
                          go_simp
                          exact hK _ _ ⟨t, by simp [ex1, eb], hR.stores HM2.out HS2.out rfl⟩
                        | 18, _, hr =>
                          as_aux_lemma =>
                          refine wpOp_step rfl (fun K' hK => ?_)
                          obtain ⟨cc, ex1⟩ := hR.val (15, 130) (by simp) (dep_of hr 15 (by kernel_rfl))
                          have ex1 : t 130 = .bool cc := ex1
                          go_simp
                          exact hK _ _ ⟨upd t 16 (.bool cc), by simp [upd, ex1], hR.yields hR.fin (fun _ _ h => h) ⟨cc, rfl⟩ rfl⟩
                        | n + 19, hi, _ => exact absurd (show n + 19 < 19 from hi) (by omega)
                      rintro listed a2 W2 ⟨t, rfl, hR⟩ hl
                      obtain ⟨bb, eb, hfar, hv⟩ : ∃ b, t 15 = .pointer (some ⟨b, 0, none⟩) ∧ Far P Q w b ∧ V4 b W2 := hR.val (16, 15) (by simp) (hl 16 (by decide))
                      obtain ⟨cc, ec⟩ : ∃ c, t 16 = .bool c := hR.val (18, 16) (by simp) (hl 18 (by decide))
                      have HX := Lib.hid hR.fin
                      clear hR hl
                      go_wp2_with fail
                      go_meet
                      exact ⟨bb, eb, cc, ec, hv, HX⟩
                    case rest =>
                      clear HLE wx
                      obtain ⟨by', rfl, c2, rfl, HV, HL1⟩ := hcut
                      rename World => wx
                      cases c2 with
                      | false =>
                        go_wp2
                        go_roundw
                        case rel => exact ⟨k + 1, by omega, by go_num, p, q, a, b, HI, HL1⟩
                        case measure => simp [intOf]; omega
                      | true =>
                        obtain ⟨x, ix, hx⟩ := HV.out
                        obtain ⟨x0, x1, x2, x3⟩ := hx.four
                        obtain ⟨y0, y1, y2, y3⟩ := blk_point HL1.out.bb
                        have yf := (blk_cells HL1.out.bb).2
                        have HI2 : Hid (p.I64 ∧ q.I64 ∧ a.I64 ∧ x.I64) := ⟨HI.out.1, HI.out.2.1, HI.out.2.2.1, ix⟩
                        have HL2 := Lib.hid (HL1.out.setB x)
                        clear hx ix
                        go_wp2
                        go_roundw
                        case rel => exact ⟨k + 1, by omega, by go_num, p, q, a, x, HI2, HL2⟩
                        case measure => simp [intOf]; omega
      · have HA : Hid (∀ W, Calls Tryz.prog 17 #[] W fun e w' => e = .returned (.bool true) ∧ Below W.heap.size W w') := fun W => awake_any W
        go_wp2_with fail
        ((with_reducible refine (HA.out _).mono ?_); rintro e w1 ⟨rfl, hb⟩)
        go_wp2
        go_ret
        exact ⟨rfl, (HL.out.call hb).below⟩

end Go.Proofs.YtaoedfegakpjeabGreat
