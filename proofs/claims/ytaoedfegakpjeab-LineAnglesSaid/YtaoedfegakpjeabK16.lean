/- Contracts of the functions that the statement reaches, and plain lemmas: part 16 of 16. -/
import Derived.Test.YtaoedfegakpjeabK14
import Derived.Test.YtaoedfegakpjeabK15
import Derived.Test.YtaoedfegakpjeabK13
import Derived.Deep.CutRange
import Derived.Deep.DeepCutAuto

namespace Go.Proofs.Ytaoedfegakpjeab
open Go.RowKit

def PV (p : Q4) : Obj := .cells #[.int .i64 p.a, .int .i64 p.b, .int .i64 p.c, .int .i64 p.d] 23
def VV (v : T3) : Obj := .cells #[.int .i64 v.x, .int .i64 v.y, .int .i64 v.z] 24
/-- The three variables' blocks. -/
structure LA (p : Q4) (u v : T3) (w W : World) : Prop where
  below : Below w.heap.size w W
  size : w.heap.size + 2 < W.heap.size
  bp : Blk W w.heap.size (PV p)
  bu : Blk W (w.heap.size + 1) (VV u)
  bv : Blk W (w.heap.size + 1 + 1) (VV v)
section
variable {p p' : Q4} {u v u' v' : T3} {w W W1 : World}
theorem LA.call (h : LA p u v w W) (hb : Below W.heap.size W W1) : LA p u v w W1 := by
  have hs := h.size
  exact ⟨h.below.trans (hb.mono (by omega)), Nat.lt_of_lt_of_le hs hb.size, h.bp.below hb (by omega), h.bu.below hb (by omega), h.bv.below hb (by omega)⟩
theorem LA.drew (h : LA p u v w W) : LA p u v w W.drew := h.call (Below.refl _ _).drew
theorem blk_cells {W : World} {b : Nat} {c : Array Value} {t : TypeId} (h : Blk W b (.cells c t)) : (∀ o (x : Value), c[o]? = some x → W.cell? ⟨b, o, none⟩ = some x) ∧ (∀ o, W.frozen? ⟨b, o, none⟩ = false) := by
  unfold Blk at h
  refine ⟨fun o x hx => ?_, fun o => ?_⟩
  · simp only [World.cell?, h]; simpa using hx
  · simp [World.frozen?, h]
theorem LA.pc (h : LA p u v w W) : W.cell? ⟨w.heap.size, 0, none⟩ = some (.int .i64 p.a) ∧ W.cell? ⟨w.heap.size, 1, none⟩ = some (.int .i64 p.b) ∧ W.cell? ⟨w.heap.size, 2, none⟩ = some (.int .i64 p.c) ∧ W.cell? ⟨w.heap.size, 3, none⟩ = some (.int .i64 p.d) ∧ ∀ o, W.frozen? ⟨w.heap.size, o, none⟩ = false :=
  ⟨(blk_cells h.bp).1 _ _ rfl, (blk_cells h.bp).1 _ _ rfl, (blk_cells h.bp).1 _ _ rfl, (blk_cells h.bp).1 _ _ rfl, (blk_cells h.bp).2⟩
theorem LA.uc (h : LA p u v w W) : W.cell? ⟨w.heap.size + 1, 0, none⟩ = some (.int .i64 u.x) ∧ W.cell? ⟨w.heap.size + 1, 1, none⟩ = some (.int .i64 u.y) ∧ W.cell? ⟨w.heap.size + 1, 2, none⟩ = some (.int .i64 u.z) ∧ ∀ o, W.frozen? ⟨w.heap.size + 1, o, none⟩ = false :=
  ⟨(blk_cells h.bu).1 _ _ rfl, (blk_cells h.bu).1 _ _ rfl, (blk_cells h.bu).1 _ _ rfl, (blk_cells h.bu).2⟩
theorem LA.vc (h : LA p u v w W) : W.cell? ⟨w.heap.size + 1 + 1, 0, none⟩ = some (.int .i64 v.x) ∧ W.cell? ⟨w.heap.size + 1 + 1, 1, none⟩ = some (.int .i64 v.y) ∧ W.cell? ⟨w.heap.size + 1 + 1, 2, none⟩ = some (.int .i64 v.z) ∧ ∀ o, W.frozen? ⟨w.heap.size + 1 + 1, o, none⟩ = false :=
  ⟨(blk_cells h.bv).1 _ _ rfl, (blk_cells h.bv).1 _ _ rfl, (blk_cells h.bv).1 _ _ rfl, (blk_cells h.bv).2⟩
theorem LA.pc' (h : LA p u v w W) : W.cell? ⟨w.heap.size, 0, none⟩ = some (.int .i64 p.a) ∧ W.cell? ⟨w.heap.size, 1, none⟩ = some (.int .i64 p.b) ∧ W.cell? ⟨w.heap.size, 2, none⟩ = some (.int .i64 p.c) ∧ W.cell? ⟨w.heap.size, 3, none⟩ = some (.int .i64 p.d) := ⟨h.pc.1, h.pc.2.1, h.pc.2.2.1, h.pc.2.2.2.1⟩
theorem blk_set {W : World} {b o : Nat} {c : Array Value} {t : TypeId} {x : Value} (h : Blk W b (.cells c t)) : Blk (W.setCell ⟨b, o, none⟩ x) b (.cells (c.setIfInBounds o x) t) := by
  unfold Blk at *
  simp [World.setCell, Array.getElem?_modify, h]
theorem blk_other {W : World} {b b' o : Nat} {ob : Obj} {x : Value} (h : Blk W b ob) (hne : b ≠ b') : Blk (W.setCell ⟨b', o, none⟩ x) b ob := by
  unfold Blk at *
  rw [Below.heap_setCell _ _ _ _ (by show b ≠ b'; exact hne)]; exact h
theorem LA.setP (h : LA p u v w W) (q : Q4) : LA q u v w ((((W.setCell ⟨w.heap.size, 0, none⟩ (.int .i64 q.a)).setCell ⟨w.heap.size, 1, none⟩ (.int .i64 q.b)).setCell ⟨w.heap.size, 2, none⟩ (.int .i64 q.c)).setCell ⟨w.heap.size, 3, none⟩ (.int .i64 q.d)) :=
  ⟨(((h.below.setCell (by simp) _).setCell (by simp) _).setCell (by simp) _).setCell (by simp) _, by simpa [World.setCell] using h.size,
    blk_set (blk_set (blk_set (blk_set h.bp))), blk_other (blk_other (blk_other (blk_other h.bu (by omega)) (by omega)) (by omega)) (by omega), blk_other (blk_other (blk_other (blk_other h.bv (by omega)) (by omega)) (by omega)) (by omega)⟩
theorem LA.setU (h : LA p u v w W) (q : T3) : LA p q v w (((W.setCell ⟨w.heap.size + 1, 0, none⟩ (.int .i64 q.x)).setCell ⟨w.heap.size + 1, 1, none⟩ (.int .i64 q.y)).setCell ⟨w.heap.size + 1, 2, none⟩ (.int .i64 q.z)) :=
  ⟨((h.below.setCell (by simp) _).setCell (by simp) _).setCell (by simp) _, by simpa [World.setCell] using h.size,
    blk_other (blk_other (blk_other h.bp (by omega)) (by omega)) (by omega), blk_set (blk_set (blk_set h.bu)), blk_other (blk_other (blk_other h.bv (by omega)) (by omega)) (by omega)⟩
theorem LA.setV (h : LA p u v w W) (q : T3) : LA p u q w (((W.setCell ⟨w.heap.size + 1 + 1, 0, none⟩ (.int .i64 q.x)).setCell ⟨w.heap.size + 1 + 1, 1, none⟩ (.int .i64 q.y)).setCell ⟨w.heap.size + 1 + 1, 2, none⟩ (.int .i64 q.z)) :=
  ⟨((h.below.setCell (by simp; omega) _).setCell (by simp; omega) _).setCell (by simp; omega) _, by simpa [World.setCell] using h.size,
    blk_other (blk_other (blk_other h.bp (by omega)) (by omega)) (by omega), blk_other (blk_other (blk_other h.bu (by omega)) (by omega)) (by omega), blk_set (blk_set (blk_set h.bv))⟩
theorem LA.v0 (h : LA p u v w W) (x : Int) : LA p u ⟨x, v.y, v.z⟩ w (W.setCell ⟨w.heap.size + 1 + 1, 0, none⟩ (.int .i64 x)) :=
  ⟨h.below.setCell (by simp; omega) _, by simpa [World.setCell] using h.size, blk_other h.bp (by omega), blk_other h.bu (by omega), blk_set h.bv⟩
theorem LA.v1 (h : LA p u v w W) (x : Int) : LA p u ⟨v.x, x, v.z⟩ w (W.setCell ⟨w.heap.size + 1 + 1, 1, none⟩ (.int .i64 x)) :=
  ⟨h.below.setCell (by simp; omega) _, by simpa [World.setCell] using h.size, blk_other h.bp (by omega), blk_other h.bu (by omega), blk_set h.bv⟩
theorem LA.v2 (h : LA p u v w W) (x : Int) : LA p u ⟨v.x, v.y, x⟩ w (W.setCell ⟨w.heap.size + 1 + 1, 2, none⟩ (.int .i64 x)) :=
  ⟨h.below.setCell (by simp; omega) _, by simpa [World.setCell] using h.size, blk_other h.bp (by omega), blk_other h.bu (by omega), blk_set h.bv⟩
theorem LA.e0 (h : LA p u v w W) (hv : v.I64') (a : Int) (ha : I64 a) : ∃ z : T3, Hid z.I64' ∧ Hid (LA p u z w (W.setCell ⟨w.heap.size + 1 + 1, 0, none⟩ (.int .i64 a))) := ⟨_, Lib.hid (show T3.I64' ⟨a, v.y, v.z⟩ from ⟨ha, hv.2.1, hv.2.2⟩), Lib.hid (h.v0 a)⟩
theorem LA.f0 (h : LA p u v w W) (hv : v.I64') (b a : Int) (ha : I64 a) : ∃ z : T3, Hid z.I64' ∧ Hid (LA p u z w ((W.setCell ⟨w.heap.size + 1 + 1, 0, none⟩ (.int .i64 b)).setCell ⟨w.heap.size + 1 + 1, 0, none⟩ (.int .i64 a))) := ⟨_, Lib.hid (show T3.I64' ⟨a, v.y, v.z⟩ from ⟨ha, hv.2.1, hv.2.2⟩), Lib.hid ((h.v0 b).v0 a)⟩
theorem LA.e1 (h : LA p u v w W) (hv : v.I64') (a : Int) (ha : I64 a) : ∃ z : T3, Hid z.I64' ∧ Hid (LA p u z w (W.setCell ⟨w.heap.size + 1 + 1, 1, none⟩ (.int .i64 a))) := ⟨_, Lib.hid (show T3.I64' ⟨v.x, a, v.z⟩ from ⟨hv.1, ha, hv.2.2⟩), Lib.hid (h.v1 a)⟩
theorem LA.f1 (h : LA p u v w W) (hv : v.I64') (b a : Int) (ha : I64 a) : ∃ z : T3, Hid z.I64' ∧ Hid (LA p u z w ((W.setCell ⟨w.heap.size + 1 + 1, 1, none⟩ (.int .i64 b)).setCell ⟨w.heap.size + 1 + 1, 1, none⟩ (.int .i64 a))) := ⟨_, Lib.hid (show T3.I64' ⟨v.x, a, v.z⟩ from ⟨hv.1, ha, hv.2.2⟩), Lib.hid ((h.v1 b).v1 a)⟩
theorem LA.e2 (h : LA p u v w W) (hv : v.I64') (a : Int) (ha : I64 a) : ∃ z : T3, Hid z.I64' ∧ Hid (LA p u z w (W.setCell ⟨w.heap.size + 1 + 1, 2, none⟩ (.int .i64 a))) := ⟨_, Lib.hid (show T3.I64' ⟨v.x, v.y, a⟩ from ⟨hv.1, hv.2.1, ha⟩), Lib.hid (h.v2 a)⟩
theorem LA.f2 (h : LA p u v w W) (hv : v.I64') (b a : Int) (ha : I64 a) : ∃ z : T3, Hid z.I64' ∧ Hid (LA p u z w ((W.setCell ⟨w.heap.size + 1 + 1, 2, none⟩ (.int .i64 b)).setCell ⟨w.heap.size + 1 + 1, 2, none⟩ (.int .i64 a))) := ⟨_, Lib.hid (show T3.I64' ⟨v.x, v.y, a⟩ from ⟨hv.1, hv.2.1, ha⟩), Lib.hid ((h.v2 b).v2 a)⟩
theorem blk_new (W : World) (o : Obj) : Blk (W.alloc o) W.heap.size o := by
  unfold Blk; show (W.heap.push _)[W.heap.size]? = _; simp
theorem Blk.alloc {W : World} {b : Nat} {o o' : Obj} (h : Blk W b o) : Blk (W.alloc o') b o := h.below ((Below.refl W.heap.size W).alloc (Nat.le_refl _) _) h.lt
theorem LA.start (p : Q4) (u v : T3) (w : World) : LA p u v w (((w.alloc (PV p)).alloc (VV u)).alloc (VV v)) :=
  ⟨(((Below.refl _ _).alloc (Nat.le_refl _) _).alloc (by simp) _).alloc (by simp; omega) _, by simp, (blk_new w (PV p)).alloc.alloc, by simpa using (blk_new (w.alloc (PV p)) (VV u)).alloc, by simpa using blk_new ((w.alloc (PV p)).alloc (VV u)) (VV v)⟩
end

set_option maxRecDepth 100000 in
set_option maxHeartbeats 4000000 in
theorem angles_any (p0 : Q4) (u0 v0 : T3) (w : World) (ip0 : p0.I64) (iu0 : u0.I64') (iv0 : v0.I64') :
    Calls Try.prog 3 #[.agg #[.int .i64 (p0.a), .int .i64 (p0.b), .int .i64 (p0.c), .int .i64 (p0.d)], .agg #[.int .i64 (u0.x), .int .i64 (u0.y), .int .i64 (u0.z)], .agg #[.int .i64 (v0.x), .int .i64 (v0.y), .int .i64 (v0.z)]] w fun e w' => e = .returned (.bool true) ∧ Below w.heap.size w w' := by
  have HI0 : Hid (p0.I64 ∧ u0.I64' ∧ v0.I64') := ⟨ip0, iu0, iv0⟩
  clear ip0 iu0 iv0
  go_enter Try.func3, Try.ntmps3
  go_wp2
  go_loopw [7] (fun i wr => ∃ k : Nat, k ≤ 3 ∧ i = .int .i64 k ∧ ∃ p u v, Hid (p.I64 ∧ u.I64' ∧ v.I64') ∧ Hid (LA p u v w wr)) (fun i _ => 3 - (intOf i).toNat)
  case atStart => exact ⟨0, by omega, rfl, p0, u0, v0, HI0, LA.start p0 u0 v0 w⟩
  case round =>
    rename_i wr
    obtain ⟨k, hk, rfl, p, u, v, HI, HL⟩ := hrel
    clear HI0
    by_cases hlt : k < 3
    · obtain ⟨a0, a1, a2, a3, -⟩ := HL.out.pc
      obtain ⟨u1, u2, u3, -⟩ := HL.out.uc
      obtain ⟨v1, v2, v3, -⟩ := HL.out.vc
      have HAE : Hid (∀ W, Calls Try.prog 5 #[.agg #[.int .i64 (p.a), .int .i64 (p.b), .int .i64 (p.c), .int .i64 (p.d)], .agg #[.int .i64 (u.x), .int .i64 (u.y), .int .i64 (u.z)], .agg #[.int .i64 (v.x), .int .i64 (v.y), .int .i64 (v.z)]] W fun e w' => e = .returned (.tuple #[.int .i64 (angV p u v), .int .i64 (laE p u v)]) ∧ Below W.heap.size W w') := fun W => by
        have h := lineAngle_any p u v W HI.out.1
        rw [angE_la p HI.out.2.1 HI.out.2.2] at h; exact h
      have HRI : Hid (∀ W, Calls Try.prog 6 #[.agg #[.int .i64 (p.a), .int .i64 (p.b), .int .i64 (p.c), .int .i64 (p.d)]] W fun e w' => e = .returned (.bool p.plane) ∧ Below W.heap.size W w') := fun W => by
        have h := right_any p.a p.b p.c p.d W HI.out.1.1 HI.out.1.2.1 HI.out.1.2.2.1 HI.out.1.2.2.2
        rw [right_plane HI.out.1] at h; exact h
      go_wp2_with fail
      ((with_reducible refine (HAE.out _).mono ?_); rintro e w1 ⟨rfl, hb⟩)
      have HL1 := Lib.hid (HL.out.call hb)
      clear HL hb HAE a0 a1 a2 a3 u1 u2 u3 v1 v2 v3
      obtain ⟨a0, a1, a2, a3, -⟩ := HL1.out.pc
      cases hp : p.plane with
      | false =>
        have hlE : laE p u v = 30 := by rw [laE_eq, if_pos hp]
        have haV : angV p u v = 0 := (angV_la p HI.out.2.1 HI.out.2.2).1 (by rw [hlE]; decide)
        have HR1 : Hid (∀ W, Calls Try.prog 6 #[.agg #[.int .i64 (p.a), .int .i64 (p.b), .int .i64 (p.c), .int .i64 (p.d)]] W fun e w' => e = .returned (.bool false) ∧ Below W.heap.size W w') := fun W => by have h := HRI.out W; rw [hp] at h; exact h
        rw [hlE, haV]
        clear hlE haV HRI
        go_wp2_with fail
        ((with_reducible refine (HR1.out _).mono ?_); rintro e w2 ⟨rfl, hb⟩)
        have HL2 := Lib.hid (HL1.out.call hb)
        clear HL1 hb HR1 a0 a1 a2 a3 hp
        have hL2 := HL2.out
        go_upto_region 12 with fail
        go_cut [] from 8 to 62 (fun wx => ∃ q : Q4, Hid q.I64 ∧ Hid (LA q u v w wx))
        case first =>
          obtain ⟨a0, a1, a2, a3, af⟩ := hL2.pc
          go_wp2_with fail
          ((with_reducible refine (tame_any p.a p.b p.c p.d 4 _ (by decide) (by decide)).mono ?_); rintro e w3 ⟨⟨q, hq1, hq2, rfl⟩, hb⟩)
          have hL3 := hL2.call hb
          clear hL2 a0 a1 a2 a3 af hb
          obtain ⟨a0, a1, a2, a3, af⟩ := hL3.pc
          have HQI : Hid q.I64 := hq2
          clear hq1 hq2
          have HL3 := Lib.hid (hL3.setP q)
          clear hL3
          go_wp2_with fail
          go_meet
          exact ⟨q, HQI, HL3.out⟩
        case rest =>
          obtain ⟨q, HQI, HLW⟩ := hcut
          rename World => W
          clear HL2 hL2
          go_wp2_with fail
          refine wp_region_inv (by kernel_rfl) (by kernel_rfl) (fun listed a wy => ∃ t : Nat → Value, a = { tmps := #[.agg #[.int .i64 (p0.a), .int .i64 (p0.b), .int .i64 (p0.c), .int .i64 (p0.d)], .agg #[.int .i64 (u0.x), .int .i64 (u0.y), .int .i64 (u0.z)], .agg #[.int .i64 (v0.x), .int .i64 (v0.y), .int .i64 (v0.z)], .pointer (some ⟨w.heap.size, 0, none⟩), .pointer (some ⟨w.heap.size + 1, 0, none⟩), .pointer (some ⟨w.heap.size + 1 + 1, 0, none⟩), u6, .int .i64 k, u8, u9, u10, u11, u12, u13, u14, u15, u16, u17, u18, u19, u20, u21, u22, u23, u24, u25, u26, u27, u28, u29, u30, u31, u32, u33, u34, u35, u36, u37, u38, u39, u40, u41, u42, u43, u44, u45, u46, u47, u48, u49, u50, u51, u52, u53, u54, u55, u56, u57, u58, u59, u60, u61, u62, t 63, t 64, t 65, t 66, t 67, t 68, u69, u70, u71, u72, u73, u74, u75, u76, u77, u78, u79, u80, u81, u82, u83, u84, u85, u86, u87, u88, u89, u90, undef], defers := [] } ∧ WR W (fun x y W => LA q x y w W) u v (fun d => match d with | 63 => .eq (.agg #[.int .i64 (q.a), .int .i64 (q.b), .int .i64 (q.c), .int .i64 (q.d)]) | 64 => .eq (.agg #[.int .i64 (u.x), .int .i64 (u.y), .int .i64 (u.z)]) | 66 => .eq (.agg #[.int .i64 (q.a), .int .i64 (q.b), .int .i64 (q.c), .int .i64 (q.d)]) | 67 => .eq (.agg #[.int .i64 (v.x), .int .i64 (v.y), .int .i64 (v.z)]) | _ => .vec) [(0, 63), (1, 64), (2, 65), (3, 66), (4, 67), (5, 68)] 65 68 listed t wy) ⟨(fun d => match d with | 63 => u63 | 64 => u64 | 65 => u65 | 66 => u66 | 67 => u67 | 68 => u68 | _ => undef), rfl, WR.start _ _ HLW.out.drew⟩ ?_ ?_
          rotate_left
          · rintro listed hs i hi a wy ⟨t, rfl, hR⟩ hr
            match i, hi, hr with
            | 0, _, hr =>
              as_aux_lemma =>
              refine wpOp_step rfl (fun K' hK => ?_)
              have hL := hR.fresh (by decide) (ready_spec.1 hr).2.1
              obtain ⟨c0, c1, c2, c3⟩ := hL.pc'
              clear hL
              go_simp
              exact hK _ _ ⟨upd t 63 _, rfl, hR.yields (by decide) (ready_spec.1 hr).2.1 (hR.fresh (by decide) (ready_spec.1 hr).2.1) rfl rfl (by intro h; cases h)⟩
            | 1, _, hr =>
              as_aux_lemma =>
              refine wpOp_step rfl (fun K' hK => ?_)
              have hL := hR.fresh (by decide) (ready_spec.1 hr).2.1
              obtain ⟨c0, c1, c2, c3⟩ := hL.uc
              clear hL
              go_simp
              exact hK _ _ ⟨upd t 64 _, rfl, hR.yields (by decide) (ready_spec.1 hr).2.1 (hR.fresh (by decide) (ready_spec.1 hr).2.1) rfl rfl (by intro h; cases h)⟩
            | 2, _, hr =>
              as_aux_lemma =>
              refine wpOp_step rfl (fun K' hK => ?_)
              have e1 : t 63 = .agg #[.int .i64 (q.a), .int .i64 (q.b), .int .i64 (q.c), .int .i64 (q.d)] := hR.val (0, 63) (by simp) (dep_of hr 0 (by kernel_rfl))
              have e2 : t 64 = .agg #[.int .i64 (u.x), .int .i64 (u.y), .int .i64 (u.z)] := hR.val (1, 64) (by simp) (dep_of hr 1 (by kernel_rfl))
              have HF := Lib.hid (hR.fresh (by decide) (ready_spec.1 hr).2.1)
              go_simp
              refine (wy_any q u wy).mono ?_
              rintro e w1 ⟨⟨d, _, d1, d2, d3, rfl⟩, hb1⟩
              exact hK _ _ ⟨upd t 65 _, by simp [upd, e1, e2], hR.yields (by decide) (ready_spec.1 hr).2.1 (HF.out.call hb1) ⟨d, d1, d2, d3, rfl⟩ rfl (by intro h; cases h)⟩
            | 3, _, hr =>
              as_aux_lemma =>
              refine wpOp_step rfl (fun K' hK => ?_)
              have hL := hR.fresh (by decide) (ready_spec.1 hr).2.1
              obtain ⟨c0, c1, c2, c3⟩ := hL.pc'
              clear hL
              go_simp
              exact hK _ _ ⟨upd t 66 _, rfl, hR.yields (by decide) (ready_spec.1 hr).2.1 (hR.fresh (by decide) (ready_spec.1 hr).2.1) rfl rfl (by intro h; cases h)⟩
            | 4, _, hr =>
              as_aux_lemma =>
              refine wpOp_step rfl (fun K' hK => ?_)
              have hL := hR.fresh (by decide) (ready_spec.1 hr).2.1
              obtain ⟨c0, c1, c2, c3⟩ := hL.vc
              clear hL
              go_simp
              exact hK _ _ ⟨upd t 67 _, rfl, hR.yields (by decide) (ready_spec.1 hr).2.1 (hR.fresh (by decide) (ready_spec.1 hr).2.1) rfl rfl (by intro h; cases h)⟩
            | 5, _, hr =>
              as_aux_lemma =>
              refine wpOp_step rfl (fun K' hK => ?_)
              have e1 : t 66 = .agg #[.int .i64 (q.a), .int .i64 (q.b), .int .i64 (q.c), .int .i64 (q.d)] := hR.val (3, 66) (by simp) (dep_of hr 3 (by kernel_rfl))
              have e2 : t 67 = .agg #[.int .i64 (v.x), .int .i64 (v.y), .int .i64 (v.z)] := hR.val (4, 67) (by simp) (dep_of hr 4 (by kernel_rfl))
              have HF := Lib.hid (hR.fresh (by decide) (ready_spec.1 hr).2.1)
              go_simp
              refine (wy_any q v wy).mono ?_
              rintro e w1 ⟨⟨d, _, d1, d2, d3, rfl⟩, hb1⟩
              exact hK _ _ ⟨upd t 68 _, by simp [upd, e1, e2], hR.yields (by decide) (ready_spec.1 hr).2.1 (HF.out.call hb1) ⟨d, d1, d2, d3, rfl⟩ rfl (fun _ => ⟨dep_of hr 3 (by kernel_rfl), dep_of hr 4 (by kernel_rfl)⟩)⟩
            | 6, _, hr =>
              as_aux_lemma =>
              refine wpOp_step rfl (fun K' hK => ?_)
              obtain ⟨d, d1, d2, d3, ev⟩ : ∃ d : T3, I64 d.x ∧ I64 d.y ∧ I64 d.z ∧ t 65 = .agg #[.int .i64 (d.x), .int .i64 (d.y), .int .i64 (d.z)] := hR.val (2, 65) (by simp) (dep_of hr 2 (by kernel_rfl))
              obtain ⟨x, y, hL, _⟩ := hR.fin
              obtain ⟨c0, c1, c2, c3⟩ := hL.uc
              have HD : Hid (∀ j, j < 6 → listed.getD j false = true) := fun j hj => by
                match j, hj with
                | 0, _ => exact dep_of hr 0 (by kernel_rfl)
                | 1, _ => exact dep_of hr 1 (by kernel_rfl)
                | 2, _ => exact dep_of hr 2 (by kernel_rfl)
                | 3, _ => exact (hR.clo (dep_of hr 5 (by kernel_rfl))).1
                | 4, _ => exact (hR.clo (dep_of hr 5 (by kernel_rfl))).2
                | 5, _ => exact dep_of hr 5 (by kernel_rfl)
              clear hL
              go_simp
              exact hK _ _ ⟨t, by simp [ev], hR.store6 (by rw [hs]; decide) HD.out rfl ev (fun x y h => h.setU d)⟩
            | 7, _, hr =>
              as_aux_lemma =>
              refine wpOp_step rfl (fun K' hK => ?_)
              obtain ⟨d, d1, d2, d3, ev⟩ : ∃ d : T3, I64 d.x ∧ I64 d.y ∧ I64 d.z ∧ t 68 = .agg #[.int .i64 (d.x), .int .i64 (d.y), .int .i64 (d.z)] := hR.val (5, 68) (by simp) (dep_of hr 5 (by kernel_rfl))
              obtain ⟨x, y, hL, _⟩ := hR.fin
              obtain ⟨c0, c1, c2, c3⟩ := hL.vc
              have HD : Hid (∀ j, j < 6 → listed.getD j false = true) := fun j hj => by
                match j, hj with
                | 0, _ => exact dep_of hr 0 (by kernel_rfl)
                | 1, _ => exact dep_of hr 1 (by kernel_rfl)
                | 2, _ => exact dep_of hr 2 (by kernel_rfl)
                | 3, _ => exact (hR.clo (dep_of hr 5 (by kernel_rfl))).1
                | 4, _ => exact (hR.clo (dep_of hr 5 (by kernel_rfl))).2
                | 5, _ => exact dep_of hr 5 (by kernel_rfl)
              clear hL
              go_simp
              exact hK _ _ ⟨t, by simp [ev], hR.store7 (by rw [hs]; decide) HD.out rfl ev (fun x y h => h.setV d)⟩
          rintro listed a W2 ⟨t, rfl, hR⟩ hl
          obtain ⟨x, y, hL2, hx, -, hy, -⟩ := hR.fin
          obtain ⟨dx, x1, x2, x3, ex⟩ : ∃ d : T3, I64 d.x ∧ I64 d.y ∧ I64 d.z ∧ t 65 = .agg #[.int .i64 (d.x), .int .i64 (d.y), .int .i64 (d.z)] := hR.val (2, 65) (by simp) (hl 2 (by decide))
          obtain ⟨dy, y1, y2, y3, ey⟩ : ∃ d : T3, I64 d.x ∧ I64 d.y ∧ I64 d.z ∧ t 68 = .agg #[.int .i64 (d.x), .int .i64 (d.y), .int .i64 (d.z)] := hR.val (5, 68) (by simp) (hl 5 (by decide))
          have HXI : Hid (x.I64' ∧ y.I64') := by
            have h1 := ex.symm.trans (hx (hl 6 (by decide)))
            have h2 := ey.symm.trans (hy (hl 7 (by decide)))
            simp at h1 h2
            unfold Hid T3.I64'
            rw [← h1.1, ← h1.2.1, ← h1.2.2, ← h2.1, ← h2.2.1, ← h2.2.2]
            exact ⟨⟨x1, x2, x3⟩, ⟨y1, y2, y3⟩⟩
          have HL2 := Lib.hid hL2
          clear hR hl hL2 hx hy ex ey x1 x2 x3 y1 y2 y3 HLW HI
          generalize t 63 = u63
          generalize t 64 = u64
          generalize t 65 = u65
          generalize t 66 = u66
          generalize t 67 = u67
          generalize t 68 = u68
          clear t listed dx dy
          by_cases hk1 : k = 1
          · subst hk1
            go_wp2
            go_loopw [11] (fun j W3 => ∃ m : Nat, m ≤ 3 ∧ j = .int .i64 m ∧ ∃ z : T3, Hid z.I64' ∧ Hid (LA q x z w W3)) (fun j _ => 3 - (intOf j).toNat)
            case atStart => exact ⟨0, by omega, rfl, y, HXI.out.2, HL2⟩
            case round =>
              rename World => W3
              obtain ⟨m, hm, rfl, z, HZ, HL3⟩ := hrel
              obtain ⟨q0, q1, q2, q3⟩ := HL3.out.pc'
              obtain ⟨x0, x1, x2, -⟩ := HL3.out.uc
              obtain ⟨z0, z1, z2, zf⟩ := HL3.out.vc
              match m, hm with
              | 0, _ =>
                go_wp2
                all_goals
                  go_roundw
                  case measure => simp [intOf]
                  case rel => first | exact ⟨1, by omega, rfl, HL3.out.e0 HZ.out _ (I64.wrap _)⟩ | exact ⟨1, by omega, rfl, HL3.out.f0 HZ.out _ _ (I64.wrap _)⟩
              | 1, _ =>
                go_wp2
                all_goals
                  go_roundw
                  case measure => simp [intOf]
                  case rel => first | exact ⟨2, by omega, rfl, HL3.out.e1 HZ.out _ (I64.wrap _)⟩ | exact ⟨2, by omega, rfl, HL3.out.f1 HZ.out _ _ (I64.wrap _)⟩
              | 2, _ =>
                go_wp2
                all_goals
                  go_roundw
                  case measure => simp [intOf]
                  case rel => first | exact ⟨3, by omega, rfl, HL3.out.e2 HZ.out _ (I64.wrap _)⟩ | exact ⟨3, by omega, rfl, HL3.out.f2 HZ.out _ _ (I64.wrap _)⟩
              | 3, _ =>
                go_wp2
                go_roundw
                case measure => simp [intOf]
                case rel => exact ⟨2, by omega, rfl, q, x, z, ⟨HQI.out, HXI.out.1, HZ.out⟩, HL3⟩
          · have hk2 : ((k : Int) == 1) = false := by simp; omega
            go_wp2
            go_roundw
            case measure => simp [intOf]; omega
            case rel => exact ⟨k + 1, by omega, by go_num, q, x, y, ⟨HQI.out, HXI.out.1, HXI.out.2⟩, HL2⟩
      | true =>
        have HR1 : Hid (∀ W, Calls Try.prog 6 #[.agg #[.int .i64 (p.a), .int .i64 (p.b), .int .i64 (p.c), .int .i64 (p.d)]] W fun e w' => e = .returned (.bool true) ∧ Below W.heap.size W w') := fun W => by have h := HRI.out W; rw [hp] at h; exact h
        clear HRI
        obtain ⟨b0, b1, b2, -⟩ := HL1.out.uc
        obtain ⟨d0, d1, d2, -⟩ := HL1.out.vc
        cases hu : wayB p u with
        | false =>
          have hlE : laE p u v = 1 := by rw [laE_eq, if_neg (by rw [hp]; decide), if_pos hu]
          have haV : angV p u v = 0 := (angV_la p HI.out.2.1 HI.out.2.2).1 (by rw [hlE]; decide)
          have HWu : Hid (∀ W, Calls Try.prog 7 #[.agg #[.int .i64 (p.a), .int .i64 (p.b), .int .i64 (p.c), .int .i64 (p.d)], .agg #[.int .i64 (u.x), .int .i64 (u.y), .int .i64 (u.z)]] W fun e w' => e = .returned (.bool false) ∧ Below W.heap.size W w') := fun W => by have h := way_any p u W; rw [hu] at h; exact h
          rw [hlE, haV]
          clear hlE haV hp hu
          go_wp2_with fail
          ((with_reducible refine (HR1.out _).mono ?_); rintro e w2 ⟨rfl, hb⟩)
          have HL2 := Lib.hid (HL1.out.call hb)
          clear HL1 hb HR1 a0 a1 a2 a3 b0 b1 b2 d0 d1 d2
          obtain ⟨a0, a1, a2, a3, -⟩ := HL2.out.pc
          obtain ⟨b0, b1, b2, -⟩ := HL2.out.uc
          obtain ⟨d0, d1, d2, -⟩ := HL2.out.vc
          go_wp2_with fail
          ((with_reducible refine (HWu.out _).mono ?_); rintro e w3 ⟨rfl, hb⟩)
          have HL3 := Lib.hid (HL2.out.call hb)
          clear HL2 hb HWu a0 a1 a2 a3 b0 b1 b2 d0 d1 d2
          obtain ⟨a0, a1, a2, a3, -⟩ := HL3.out.pc
          obtain ⟨b0, b1, b2, -⟩ := HL3.out.uc
          obtain ⟨d0, d1, d2, -⟩ := HL3.out.vc
          clear a0 a1 a2 a3 b0 b1 b2 d0 d1 d2
          have hL2 := HL3.out
          go_upto_region 12 with fail
          go_cut [] from 8 to 62 (fun wx => ∃ q : Q4, Hid q.I64 ∧ Hid (LA q u v w wx))
          case first =>
            obtain ⟨a0, a1, a2, a3, af⟩ := hL2.pc
            go_wp2_with fail
            ((with_reducible refine (tame_any p.a p.b p.c p.d 4 _ (by decide) (by decide)).mono ?_); rintro e w9 ⟨⟨q, hq1, hq2, rfl⟩, hb⟩)
            have hL3 := hL2.call hb
            clear hL2 a0 a1 a2 a3 af hb
            obtain ⟨a0, a1, a2, a3, af⟩ := hL3.pc
            have HQI : Hid q.I64 := hq2
            clear hq1 hq2
            have HL3 := Lib.hid (hL3.setP q)
            clear hL3
            go_wp2_with fail
            go_meet
            exact ⟨q, HQI, HL3.out⟩
          case rest =>
            obtain ⟨q, HQI, HLW⟩ := hcut
            rename World => W
            clear HL3 hL2
            go_wp2_with fail
            refine wp_region_inv (by kernel_rfl) (by kernel_rfl) (fun listed a wy => ∃ t : Nat → Value, a = { tmps := #[.agg #[.int .i64 (p0.a), .int .i64 (p0.b), .int .i64 (p0.c), .int .i64 (p0.d)], .agg #[.int .i64 (u0.x), .int .i64 (u0.y), .int .i64 (u0.z)], .agg #[.int .i64 (v0.x), .int .i64 (v0.y), .int .i64 (v0.z)], .pointer (some ⟨w.heap.size, 0, none⟩), .pointer (some ⟨w.heap.size + 1, 0, none⟩), .pointer (some ⟨w.heap.size + 1 + 1, 0, none⟩), u6, .int .i64 k, u8, u9, u10, u11, u12, u13, u14, u15, u16, u17, u18, u19, u20, u21, u22, u23, u24, u25, u26, u27, u28, u29, u30, u31, u32, u33, u34, u35, u36, u37, u38, u39, u40, u41, u42, u43, u44, u45, u46, u47, u48, u49, u50, u51, u52, u53, u54, u55, u56, u57, u58, u59, u60, u61, u62, t 63, t 64, t 65, t 66, t 67, t 68, u69, u70, u71, u72, u73, u74, u75, u76, u77, u78, u79, u80, u81, u82, u83, u84, u85, u86, u87, u88, u89, u90, undef], defers := [] } ∧ WR W (fun x y W => LA q x y w W) u v (fun d => match d with | 63 => .eq (.agg #[.int .i64 (q.a), .int .i64 (q.b), .int .i64 (q.c), .int .i64 (q.d)]) | 64 => .eq (.agg #[.int .i64 (u.x), .int .i64 (u.y), .int .i64 (u.z)]) | 66 => .eq (.agg #[.int .i64 (q.a), .int .i64 (q.b), .int .i64 (q.c), .int .i64 (q.d)]) | 67 => .eq (.agg #[.int .i64 (v.x), .int .i64 (v.y), .int .i64 (v.z)]) | _ => .vec) [(0, 63), (1, 64), (2, 65), (3, 66), (4, 67), (5, 68)] 65 68 listed t wy) ⟨(fun d => match d with | 63 => u63 | 64 => u64 | 65 => u65 | 66 => u66 | 67 => u67 | 68 => u68 | _ => undef), rfl, WR.start _ _ HLW.out.drew⟩ ?_ ?_
            rotate_left
            · rintro listed hs i hi a wy ⟨t, rfl, hR⟩ hr
              match i, hi, hr with
              | 0, _, hr =>
                as_aux_lemma =>
                refine wpOp_step rfl (fun K' hK => ?_)
                have hL := hR.fresh (by decide) (ready_spec.1 hr).2.1
                obtain ⟨c0, c1, c2, c3⟩ := hL.pc'
                clear hL
                go_simp
                exact hK _ _ ⟨upd t 63 _, rfl, hR.yields (by decide) (ready_spec.1 hr).2.1 (hR.fresh (by decide) (ready_spec.1 hr).2.1) rfl rfl (by intro h; cases h)⟩
              | 1, _, hr =>
                as_aux_lemma =>
                refine wpOp_step rfl (fun K' hK => ?_)
                have hL := hR.fresh (by decide) (ready_spec.1 hr).2.1
                obtain ⟨c0, c1, c2, c3⟩ := hL.uc
                clear hL
                go_simp
                exact hK _ _ ⟨upd t 64 _, rfl, hR.yields (by decide) (ready_spec.1 hr).2.1 (hR.fresh (by decide) (ready_spec.1 hr).2.1) rfl rfl (by intro h; cases h)⟩
              | 2, _, hr =>
                as_aux_lemma =>
                refine wpOp_step rfl (fun K' hK => ?_)
                have e1 : t 63 = .agg #[.int .i64 (q.a), .int .i64 (q.b), .int .i64 (q.c), .int .i64 (q.d)] := hR.val (0, 63) (by simp) (dep_of hr 0 (by kernel_rfl))
                have e2 : t 64 = .agg #[.int .i64 (u.x), .int .i64 (u.y), .int .i64 (u.z)] := hR.val (1, 64) (by simp) (dep_of hr 1 (by kernel_rfl))
                have HF := Lib.hid (hR.fresh (by decide) (ready_spec.1 hr).2.1)
                go_simp
                refine (wy_any q u wy).mono ?_
                rintro e w1 ⟨⟨d, _, d1, d2, d3, rfl⟩, hb1⟩
                exact hK _ _ ⟨upd t 65 _, by simp [upd, e1, e2], hR.yields (by decide) (ready_spec.1 hr).2.1 (HF.out.call hb1) ⟨d, d1, d2, d3, rfl⟩ rfl (by intro h; cases h)⟩
              | 3, _, hr =>
                as_aux_lemma =>
                refine wpOp_step rfl (fun K' hK => ?_)
                have hL := hR.fresh (by decide) (ready_spec.1 hr).2.1
                obtain ⟨c0, c1, c2, c3⟩ := hL.pc'
                clear hL
                go_simp
                exact hK _ _ ⟨upd t 66 _, rfl, hR.yields (by decide) (ready_spec.1 hr).2.1 (hR.fresh (by decide) (ready_spec.1 hr).2.1) rfl rfl (by intro h; cases h)⟩
              | 4, _, hr =>
                as_aux_lemma =>
                refine wpOp_step rfl (fun K' hK => ?_)
                have hL := hR.fresh (by decide) (ready_spec.1 hr).2.1
                obtain ⟨c0, c1, c2, c3⟩ := hL.vc
                clear hL
                go_simp
                exact hK _ _ ⟨upd t 67 _, rfl, hR.yields (by decide) (ready_spec.1 hr).2.1 (hR.fresh (by decide) (ready_spec.1 hr).2.1) rfl rfl (by intro h; cases h)⟩
              | 5, _, hr =>
                as_aux_lemma =>
                refine wpOp_step rfl (fun K' hK => ?_)
                have e1 : t 66 = .agg #[.int .i64 (q.a), .int .i64 (q.b), .int .i64 (q.c), .int .i64 (q.d)] := hR.val (3, 66) (by simp) (dep_of hr 3 (by kernel_rfl))
                have e2 : t 67 = .agg #[.int .i64 (v.x), .int .i64 (v.y), .int .i64 (v.z)] := hR.val (4, 67) (by simp) (dep_of hr 4 (by kernel_rfl))
                have HF := Lib.hid (hR.fresh (by decide) (ready_spec.1 hr).2.1)
                go_simp
                refine (wy_any q v wy).mono ?_
                rintro e w1 ⟨⟨d, _, d1, d2, d3, rfl⟩, hb1⟩
                exact hK _ _ ⟨upd t 68 _, by simp [upd, e1, e2], hR.yields (by decide) (ready_spec.1 hr).2.1 (HF.out.call hb1) ⟨d, d1, d2, d3, rfl⟩ rfl (fun _ => ⟨dep_of hr 3 (by kernel_rfl), dep_of hr 4 (by kernel_rfl)⟩)⟩
              | 6, _, hr =>
                as_aux_lemma =>
                refine wpOp_step rfl (fun K' hK => ?_)
                obtain ⟨d, d1, d2, d3, ev⟩ : ∃ d : T3, I64 d.x ∧ I64 d.y ∧ I64 d.z ∧ t 65 = .agg #[.int .i64 (d.x), .int .i64 (d.y), .int .i64 (d.z)] := hR.val (2, 65) (by simp) (dep_of hr 2 (by kernel_rfl))
                obtain ⟨x, y, hL, _⟩ := hR.fin
                obtain ⟨c0, c1, c2, c3⟩ := hL.uc
                have HD : Hid (∀ j, j < 6 → listed.getD j false = true) := fun j hj => by
                  match j, hj with
                  | 0, _ => exact dep_of hr 0 (by kernel_rfl)
                  | 1, _ => exact dep_of hr 1 (by kernel_rfl)
                  | 2, _ => exact dep_of hr 2 (by kernel_rfl)
                  | 3, _ => exact (hR.clo (dep_of hr 5 (by kernel_rfl))).1
                  | 4, _ => exact (hR.clo (dep_of hr 5 (by kernel_rfl))).2
                  | 5, _ => exact dep_of hr 5 (by kernel_rfl)
                clear hL
                go_simp
                exact hK _ _ ⟨t, by simp [ev], hR.store6 (by rw [hs]; decide) HD.out rfl ev (fun x y h => h.setU d)⟩
              | 7, _, hr =>
                as_aux_lemma =>
                refine wpOp_step rfl (fun K' hK => ?_)
                obtain ⟨d, d1, d2, d3, ev⟩ : ∃ d : T3, I64 d.x ∧ I64 d.y ∧ I64 d.z ∧ t 68 = .agg #[.int .i64 (d.x), .int .i64 (d.y), .int .i64 (d.z)] := hR.val (5, 68) (by simp) (dep_of hr 5 (by kernel_rfl))
                obtain ⟨x, y, hL, _⟩ := hR.fin
                obtain ⟨c0, c1, c2, c3⟩ := hL.vc
                have HD : Hid (∀ j, j < 6 → listed.getD j false = true) := fun j hj => by
                  match j, hj with
                  | 0, _ => exact dep_of hr 0 (by kernel_rfl)
                  | 1, _ => exact dep_of hr 1 (by kernel_rfl)
                  | 2, _ => exact dep_of hr 2 (by kernel_rfl)
                  | 3, _ => exact (hR.clo (dep_of hr 5 (by kernel_rfl))).1
                  | 4, _ => exact (hR.clo (dep_of hr 5 (by kernel_rfl))).2
                  | 5, _ => exact dep_of hr 5 (by kernel_rfl)
                clear hL
                go_simp
                exact hK _ _ ⟨t, by simp [ev], hR.store7 (by rw [hs]; decide) HD.out rfl ev (fun x y h => h.setV d)⟩
            rintro listed a W2 ⟨t, rfl, hR⟩ hl
            obtain ⟨x, y, hL2, hx, -, hy, -⟩ := hR.fin
            obtain ⟨dx, x1, x2, x3, ex⟩ : ∃ d : T3, I64 d.x ∧ I64 d.y ∧ I64 d.z ∧ t 65 = .agg #[.int .i64 (d.x), .int .i64 (d.y), .int .i64 (d.z)] := hR.val (2, 65) (by simp) (hl 2 (by decide))
            obtain ⟨dy, y1, y2, y3, ey⟩ : ∃ d : T3, I64 d.x ∧ I64 d.y ∧ I64 d.z ∧ t 68 = .agg #[.int .i64 (d.x), .int .i64 (d.y), .int .i64 (d.z)] := hR.val (5, 68) (by simp) (hl 5 (by decide))
            have HXI : Hid (x.I64' ∧ y.I64') := by
              have h1 := ex.symm.trans (hx (hl 6 (by decide)))
              have h2 := ey.symm.trans (hy (hl 7 (by decide)))
              simp at h1 h2
              unfold Hid T3.I64'
              rw [← h1.1, ← h1.2.1, ← h1.2.2, ← h2.1, ← h2.2.1, ← h2.2.2]
              exact ⟨⟨x1, x2, x3⟩, ⟨y1, y2, y3⟩⟩
            have HL2 := Lib.hid hL2
            clear hR hl hL2 hx hy ex ey x1 x2 x3 y1 y2 y3 HLW HI
            generalize t 63 = u63
            generalize t 64 = u64
            generalize t 65 = u65
            generalize t 66 = u66
            generalize t 67 = u67
            generalize t 68 = u68
            clear t listed dx dy
            by_cases hk1 : k = 1
            · subst hk1
              go_wp2
              go_loopw [11] (fun j W3 => ∃ m : Nat, m ≤ 3 ∧ j = .int .i64 m ∧ ∃ z : T3, Hid z.I64' ∧ Hid (LA q x z w W3)) (fun j _ => 3 - (intOf j).toNat)
              case atStart => exact ⟨0, by omega, rfl, y, HXI.out.2, HL2⟩
              case round =>
                rename World => W3
                obtain ⟨m, hm, rfl, z, HZ, HL3⟩ := hrel
                obtain ⟨q0, q1, q2, q3⟩ := HL3.out.pc'
                obtain ⟨x0, x1, x2, -⟩ := HL3.out.uc
                obtain ⟨z0, z1, z2, zf⟩ := HL3.out.vc
                match m, hm with
                | 0, _ =>
                  go_wp2
                  all_goals
                    go_roundw
                    case measure => simp [intOf]
                    case rel => first | exact ⟨1, by omega, rfl, HL3.out.e0 HZ.out _ (I64.wrap _)⟩ | exact ⟨1, by omega, rfl, HL3.out.f0 HZ.out _ _ (I64.wrap _)⟩
                | 1, _ =>
                  go_wp2
                  all_goals
                    go_roundw
                    case measure => simp [intOf]
                    case rel => first | exact ⟨2, by omega, rfl, HL3.out.e1 HZ.out _ (I64.wrap _)⟩ | exact ⟨2, by omega, rfl, HL3.out.f1 HZ.out _ _ (I64.wrap _)⟩
                | 2, _ =>
                  go_wp2
                  all_goals
                    go_roundw
                    case measure => simp [intOf]
                    case rel => first | exact ⟨3, by omega, rfl, HL3.out.e2 HZ.out _ (I64.wrap _)⟩ | exact ⟨3, by omega, rfl, HL3.out.f2 HZ.out _ _ (I64.wrap _)⟩
                | 3, _ =>
                  go_wp2
                  go_roundw
                  case measure => simp [intOf]
                  case rel => exact ⟨2, by omega, rfl, q, x, z, ⟨HQI.out, HXI.out.1, HZ.out⟩, HL3⟩
            · have hk2 : ((k : Int) == 1) = false := by simp; omega
              go_wp2
              go_roundw
              case measure => simp [intOf]; omega
              case rel => exact ⟨k + 1, by omega, by go_num, q, x, y, ⟨HQI.out, HXI.out.1, HXI.out.2⟩, HL2⟩
        | true =>
          have HWu : Hid (∀ W, Calls Try.prog 7 #[.agg #[.int .i64 (p.a), .int .i64 (p.b), .int .i64 (p.c), .int .i64 (p.d)], .agg #[.int .i64 (u.x), .int .i64 (u.y), .int .i64 (u.z)]] W fun e w' => e = .returned (.bool true) ∧ Below W.heap.size W w') := fun W => by have h := way_any p u W; rw [hu] at h; exact h
          have HWv : Hid (∀ W, Calls Try.prog 7 #[.agg #[.int .i64 (p.a), .int .i64 (p.b), .int .i64 (p.c), .int .i64 (p.d)], .agg #[.int .i64 (v.x), .int .i64 (v.y), .int .i64 (v.z)]] W fun e w' => e = .returned (.bool (wayB p v)) ∧ Below W.heap.size W w') := fun W => by exact way_any p v W
          cases hv : wayB p v with
          | false =>
            have hlE : laE p u v = 1 := by rw [laE_eq, if_neg (by rw [hp]; decide), if_neg (by rw [hu]; decide), if_pos hv]
            have haV : angV p u v = 0 := (angV_la p HI.out.2.1 HI.out.2.2).1 (by rw [hlE]; decide)
            rw [hv] at HWv
            rw [hlE, haV]
            clear hlE haV hp hu hv
            go_wp2_with fail
            ((with_reducible refine (HR1.out _).mono ?_); rintro e w2 ⟨rfl, hb⟩)
            have HL2 := Lib.hid (HL1.out.call hb)
            clear HL1 hb HR1 a0 a1 a2 a3 b0 b1 b2 d0 d1 d2
            obtain ⟨a0, a1, a2, a3, -⟩ := HL2.out.pc
            obtain ⟨b0, b1, b2, -⟩ := HL2.out.uc
            obtain ⟨d0, d1, d2, -⟩ := HL2.out.vc
            go_wp2_with fail
            ((with_reducible refine (HWu.out _).mono ?_); rintro e w3 ⟨rfl, hb⟩)
            have HL3 := Lib.hid (HL2.out.call hb)
            clear HL2 hb HWu a0 a1 a2 a3 b0 b1 b2 d0 d1 d2
            obtain ⟨a0, a1, a2, a3, -⟩ := HL3.out.pc
            obtain ⟨b0, b1, b2, -⟩ := HL3.out.uc
            obtain ⟨d0, d1, d2, -⟩ := HL3.out.vc
            go_wp2_with fail
            ((with_reducible refine (HWv.out _).mono ?_); rintro e w4 ⟨rfl, hb⟩)
            have HL4 := Lib.hid (HL3.out.call hb)
            clear HL3 hb HWv a0 a1 a2 a3 b0 b1 b2 d0 d1 d2
            obtain ⟨a0, a1, a2, a3, -⟩ := HL4.out.pc
            obtain ⟨b0, b1, b2, -⟩ := HL4.out.uc
            obtain ⟨d0, d1, d2, -⟩ := HL4.out.vc
            clear a0 a1 a2 a3 b0 b1 b2 d0 d1 d2
            have hL2 := HL4.out
            go_upto_region 12 with fail
            go_cut [] from 8 to 62 (fun wx => ∃ q : Q4, Hid q.I64 ∧ Hid (LA q u v w wx))
            case first =>
              obtain ⟨a0, a1, a2, a3, af⟩ := hL2.pc
              go_wp2_with fail
              ((with_reducible refine (tame_any p.a p.b p.c p.d 4 _ (by decide) (by decide)).mono ?_); rintro e w9 ⟨⟨q, hq1, hq2, rfl⟩, hb⟩)
              have hL3 := hL2.call hb
              clear hL2 a0 a1 a2 a3 af hb
              obtain ⟨a0, a1, a2, a3, af⟩ := hL3.pc
              have HQI : Hid q.I64 := hq2
              clear hq1 hq2
              have HL3 := Lib.hid (hL3.setP q)
              clear hL3
              go_wp2_with fail
              go_meet
              exact ⟨q, HQI, HL3.out⟩
            case rest =>
              obtain ⟨q, HQI, HLW⟩ := hcut
              rename World => W
              clear HL4 hL2
              go_wp2_with fail
              refine wp_region_inv (by kernel_rfl) (by kernel_rfl) (fun listed a wy => ∃ t : Nat → Value, a = { tmps := #[.agg #[.int .i64 (p0.a), .int .i64 (p0.b), .int .i64 (p0.c), .int .i64 (p0.d)], .agg #[.int .i64 (u0.x), .int .i64 (u0.y), .int .i64 (u0.z)], .agg #[.int .i64 (v0.x), .int .i64 (v0.y), .int .i64 (v0.z)], .pointer (some ⟨w.heap.size, 0, none⟩), .pointer (some ⟨w.heap.size + 1, 0, none⟩), .pointer (some ⟨w.heap.size + 1 + 1, 0, none⟩), u6, .int .i64 k, u8, u9, u10, u11, u12, u13, u14, u15, u16, u17, u18, u19, u20, u21, u22, u23, u24, u25, u26, u27, u28, u29, u30, u31, u32, u33, u34, u35, u36, u37, u38, u39, u40, u41, u42, u43, u44, u45, u46, u47, u48, u49, u50, u51, u52, u53, u54, u55, u56, u57, u58, u59, u60, u61, u62, t 63, t 64, t 65, t 66, t 67, t 68, u69, u70, u71, u72, u73, u74, u75, u76, u77, u78, u79, u80, u81, u82, u83, u84, u85, u86, u87, u88, u89, u90, undef], defers := [] } ∧ WR W (fun x y W => LA q x y w W) u v (fun d => match d with | 63 => .eq (.agg #[.int .i64 (q.a), .int .i64 (q.b), .int .i64 (q.c), .int .i64 (q.d)]) | 64 => .eq (.agg #[.int .i64 (u.x), .int .i64 (u.y), .int .i64 (u.z)]) | 66 => .eq (.agg #[.int .i64 (q.a), .int .i64 (q.b), .int .i64 (q.c), .int .i64 (q.d)]) | 67 => .eq (.agg #[.int .i64 (v.x), .int .i64 (v.y), .int .i64 (v.z)]) | _ => .vec) [(0, 63), (1, 64), (2, 65), (3, 66), (4, 67), (5, 68)] 65 68 listed t wy) ⟨(fun d => match d with | 63 => u63 | 64 => u64 | 65 => u65 | 66 => u66 | 67 => u67 | 68 => u68 | _ => undef), rfl, WR.start _ _ HLW.out.drew⟩ ?_ ?_
              rotate_left
              · rintro listed hs i hi a wy ⟨t, rfl, hR⟩ hr
                match i, hi, hr with
                | 0, _, hr =>
                  as_aux_lemma =>
                  refine wpOp_step rfl (fun K' hK => ?_)
                  have hL := hR.fresh (by decide) (ready_spec.1 hr).2.1
                  obtain ⟨c0, c1, c2, c3⟩ := hL.pc'
                  clear hL
                  go_simp
                  exact hK _ _ ⟨upd t 63 _, rfl, hR.yields (by decide) (ready_spec.1 hr).2.1 (hR.fresh (by decide) (ready_spec.1 hr).2.1) rfl rfl (by intro h; cases h)⟩
                | 1, _, hr =>
                  as_aux_lemma =>
                  refine wpOp_step rfl (fun K' hK => ?_)
                  have hL := hR.fresh (by decide) (ready_spec.1 hr).2.1
                  obtain ⟨c0, c1, c2, c3⟩ := hL.uc
                  clear hL
                  go_simp
                  exact hK _ _ ⟨upd t 64 _, rfl, hR.yields (by decide) (ready_spec.1 hr).2.1 (hR.fresh (by decide) (ready_spec.1 hr).2.1) rfl rfl (by intro h; cases h)⟩
                | 2, _, hr =>
                  as_aux_lemma =>
                  refine wpOp_step rfl (fun K' hK => ?_)
                  have e1 : t 63 = .agg #[.int .i64 (q.a), .int .i64 (q.b), .int .i64 (q.c), .int .i64 (q.d)] := hR.val (0, 63) (by simp) (dep_of hr 0 (by kernel_rfl))
                  have e2 : t 64 = .agg #[.int .i64 (u.x), .int .i64 (u.y), .int .i64 (u.z)] := hR.val (1, 64) (by simp) (dep_of hr 1 (by kernel_rfl))
                  have HF := Lib.hid (hR.fresh (by decide) (ready_spec.1 hr).2.1)
                  go_simp
                  refine (wy_any q u wy).mono ?_
                  rintro e w1 ⟨⟨d, _, d1, d2, d3, rfl⟩, hb1⟩
                  exact hK _ _ ⟨upd t 65 _, by simp [upd, e1, e2], hR.yields (by decide) (ready_spec.1 hr).2.1 (HF.out.call hb1) ⟨d, d1, d2, d3, rfl⟩ rfl (by intro h; cases h)⟩
                | 3, _, hr =>
                  as_aux_lemma =>
                  refine wpOp_step rfl (fun K' hK => ?_)
                  have hL := hR.fresh (by decide) (ready_spec.1 hr).2.1
                  obtain ⟨c0, c1, c2, c3⟩ := hL.pc'
                  clear hL
                  go_simp
                  exact hK _ _ ⟨upd t 66 _, rfl, hR.yields (by decide) (ready_spec.1 hr).2.1 (hR.fresh (by decide) (ready_spec.1 hr).2.1) rfl rfl (by intro h; cases h)⟩
                | 4, _, hr =>
                  as_aux_lemma =>
                  refine wpOp_step rfl (fun K' hK => ?_)
                  have hL := hR.fresh (by decide) (ready_spec.1 hr).2.1
                  obtain ⟨c0, c1, c2, c3⟩ := hL.vc
                  clear hL
                  go_simp
                  exact hK _ _ ⟨upd t 67 _, rfl, hR.yields (by decide) (ready_spec.1 hr).2.1 (hR.fresh (by decide) (ready_spec.1 hr).2.1) rfl rfl (by intro h; cases h)⟩
                | 5, _, hr =>
                  as_aux_lemma =>
                  refine wpOp_step rfl (fun K' hK => ?_)
                  have e1 : t 66 = .agg #[.int .i64 (q.a), .int .i64 (q.b), .int .i64 (q.c), .int .i64 (q.d)] := hR.val (3, 66) (by simp) (dep_of hr 3 (by kernel_rfl))
                  have e2 : t 67 = .agg #[.int .i64 (v.x), .int .i64 (v.y), .int .i64 (v.z)] := hR.val (4, 67) (by simp) (dep_of hr 4 (by kernel_rfl))
                  have HF := Lib.hid (hR.fresh (by decide) (ready_spec.1 hr).2.1)
                  go_simp
                  refine (wy_any q v wy).mono ?_
                  rintro e w1 ⟨⟨d, _, d1, d2, d3, rfl⟩, hb1⟩
                  exact hK _ _ ⟨upd t 68 _, by simp [upd, e1, e2], hR.yields (by decide) (ready_spec.1 hr).2.1 (HF.out.call hb1) ⟨d, d1, d2, d3, rfl⟩ rfl (fun _ => ⟨dep_of hr 3 (by kernel_rfl), dep_of hr 4 (by kernel_rfl)⟩)⟩
                | 6, _, hr =>
                  as_aux_lemma =>
                  refine wpOp_step rfl (fun K' hK => ?_)
                  obtain ⟨d, d1, d2, d3, ev⟩ : ∃ d : T3, I64 d.x ∧ I64 d.y ∧ I64 d.z ∧ t 65 = .agg #[.int .i64 (d.x), .int .i64 (d.y), .int .i64 (d.z)] := hR.val (2, 65) (by simp) (dep_of hr 2 (by kernel_rfl))
                  obtain ⟨x, y, hL, _⟩ := hR.fin
                  obtain ⟨c0, c1, c2, c3⟩ := hL.uc
                  have HD : Hid (∀ j, j < 6 → listed.getD j false = true) := fun j hj => by
                    match j, hj with
                    | 0, _ => exact dep_of hr 0 (by kernel_rfl)
                    | 1, _ => exact dep_of hr 1 (by kernel_rfl)
                    | 2, _ => exact dep_of hr 2 (by kernel_rfl)
                    | 3, _ => exact (hR.clo (dep_of hr 5 (by kernel_rfl))).1
                    | 4, _ => exact (hR.clo (dep_of hr 5 (by kernel_rfl))).2
                    | 5, _ => exact dep_of hr 5 (by kernel_rfl)
                  clear hL
                  go_simp
                  exact hK _ _ ⟨t, by simp [ev], hR.store6 (by rw [hs]; decide) HD.out rfl ev (fun x y h => h.setU d)⟩
                | 7, _, hr =>
                  as_aux_lemma =>
                  refine wpOp_step rfl (fun K' hK => ?_)
                  obtain ⟨d, d1, d2, d3, ev⟩ : ∃ d : T3, I64 d.x ∧ I64 d.y ∧ I64 d.z ∧ t 68 = .agg #[.int .i64 (d.x), .int .i64 (d.y), .int .i64 (d.z)] := hR.val (5, 68) (by simp) (dep_of hr 5 (by kernel_rfl))
                  obtain ⟨x, y, hL, _⟩ := hR.fin
                  obtain ⟨c0, c1, c2, c3⟩ := hL.vc
                  have HD : Hid (∀ j, j < 6 → listed.getD j false = true) := fun j hj => by
                    match j, hj with
                    | 0, _ => exact dep_of hr 0 (by kernel_rfl)
                    | 1, _ => exact dep_of hr 1 (by kernel_rfl)
                    | 2, _ => exact dep_of hr 2 (by kernel_rfl)
                    | 3, _ => exact (hR.clo (dep_of hr 5 (by kernel_rfl))).1
                    | 4, _ => exact (hR.clo (dep_of hr 5 (by kernel_rfl))).2
                    | 5, _ => exact dep_of hr 5 (by kernel_rfl)
                  clear hL
                  go_simp
                  exact hK _ _ ⟨t, by simp [ev], hR.store7 (by rw [hs]; decide) HD.out rfl ev (fun x y h => h.setV d)⟩
              rintro listed a W2 ⟨t, rfl, hR⟩ hl
              obtain ⟨x, y, hL2, hx, -, hy, -⟩ := hR.fin
              obtain ⟨dx, x1, x2, x3, ex⟩ : ∃ d : T3, I64 d.x ∧ I64 d.y ∧ I64 d.z ∧ t 65 = .agg #[.int .i64 (d.x), .int .i64 (d.y), .int .i64 (d.z)] := hR.val (2, 65) (by simp) (hl 2 (by decide))
              obtain ⟨dy, y1, y2, y3, ey⟩ : ∃ d : T3, I64 d.x ∧ I64 d.y ∧ I64 d.z ∧ t 68 = .agg #[.int .i64 (d.x), .int .i64 (d.y), .int .i64 (d.z)] := hR.val (5, 68) (by simp) (hl 5 (by decide))
              have HXI : Hid (x.I64' ∧ y.I64') := by
                have h1 := ex.symm.trans (hx (hl 6 (by decide)))
                have h2 := ey.symm.trans (hy (hl 7 (by decide)))
                simp at h1 h2
                unfold Hid T3.I64'
                rw [← h1.1, ← h1.2.1, ← h1.2.2, ← h2.1, ← h2.2.1, ← h2.2.2]
                exact ⟨⟨x1, x2, x3⟩, ⟨y1, y2, y3⟩⟩
              have HL2 := Lib.hid hL2
              clear hR hl hL2 hx hy ex ey x1 x2 x3 y1 y2 y3 HLW HI
              generalize t 63 = u63
              generalize t 64 = u64
              generalize t 65 = u65
              generalize t 66 = u66
              generalize t 67 = u67
              generalize t 68 = u68
              clear t listed dx dy
              by_cases hk1 : k = 1
              · subst hk1
                go_wp2
                go_loopw [11] (fun j W3 => ∃ m : Nat, m ≤ 3 ∧ j = .int .i64 m ∧ ∃ z : T3, Hid z.I64' ∧ Hid (LA q x z w W3)) (fun j _ => 3 - (intOf j).toNat)
                case atStart => exact ⟨0, by omega, rfl, y, HXI.out.2, HL2⟩
                case round =>
                  rename World => W3
                  obtain ⟨m, hm, rfl, z, HZ, HL3⟩ := hrel
                  obtain ⟨q0, q1, q2, q3⟩ := HL3.out.pc'
                  obtain ⟨x0, x1, x2, -⟩ := HL3.out.uc
                  obtain ⟨z0, z1, z2, zf⟩ := HL3.out.vc
                  match m, hm with
                  | 0, _ =>
                    go_wp2
                    all_goals
                      go_roundw
                      case measure => simp [intOf]
                      case rel => first | exact ⟨1, by omega, rfl, HL3.out.e0 HZ.out _ (I64.wrap _)⟩ | exact ⟨1, by omega, rfl, HL3.out.f0 HZ.out _ _ (I64.wrap _)⟩
                  | 1, _ =>
                    go_wp2
                    all_goals
                      go_roundw
                      case measure => simp [intOf]
                      case rel => first | exact ⟨2, by omega, rfl, HL3.out.e1 HZ.out _ (I64.wrap _)⟩ | exact ⟨2, by omega, rfl, HL3.out.f1 HZ.out _ _ (I64.wrap _)⟩
                  | 2, _ =>
                    go_wp2
                    all_goals
                      go_roundw
                      case measure => simp [intOf]
                      case rel => first | exact ⟨3, by omega, rfl, HL3.out.e2 HZ.out _ (I64.wrap _)⟩ | exact ⟨3, by omega, rfl, HL3.out.f2 HZ.out _ _ (I64.wrap _)⟩
                  | 3, _ =>
                    go_wp2
                    go_roundw
                    case measure => simp [intOf]
                    case rel => exact ⟨2, by omega, rfl, q, x, z, ⟨HQI.out, HXI.out.1, HZ.out⟩, HL3⟩
              · have hk2 : ((k : Int) == 1) = false := by simp; omega
                go_wp2
                go_roundw
                case measure => simp [intOf]; omega
                case rel => exact ⟨k + 1, by omega, by go_num, q, x, y, ⟨HQI.out, HXI.out.1, HXI.out.2⟩, HL2⟩
          | true =>
            have hlE : laE p u v = 0 := by rw [laE_eq, if_neg (by rw [hp]; decide), if_neg (by rw [hu]; decide), if_neg (by rw [hv]; decide)]
            have haV : angV p u v = rangI p u v := (angV_la p HI.out.2.1 HI.out.2.2).2 hlE
            rw [hv] at HWv
            rw [hlE, haV]
            have HAN : Hid (∀ W, Calls Try.prog 8 #[.agg #[.int .i64 (p.a), .int .i64 (p.b), .int .i64 (p.c), .int .i64 (p.d)], .agg #[.int .i64 (u.x), .int .i64 (u.y), .int .i64 (u.z)], .agg #[.int .i64 (v.x), .int .i64 (v.y), .int .i64 (v.z)]] W fun e w' => e = .returned (.int .i64 (rangI p u v)) ∧ Below W.heap.size W w') := fun W => by exact rangle_any p u v W
            clear hlE haV hp hu hv
            go_wp2_with fail
            ((with_reducible refine (HR1.out _).mono ?_); rintro e w2 ⟨rfl, hb⟩)
            have HL2 := Lib.hid (HL1.out.call hb)
            clear HL1 hb HR1 a0 a1 a2 a3 b0 b1 b2 d0 d1 d2
            obtain ⟨a0, a1, a2, a3, -⟩ := HL2.out.pc
            obtain ⟨b0, b1, b2, -⟩ := HL2.out.uc
            obtain ⟨d0, d1, d2, -⟩ := HL2.out.vc
            go_wp2_with fail
            ((with_reducible refine (HWu.out _).mono ?_); rintro e w3 ⟨rfl, hb⟩)
            have HL3 := Lib.hid (HL2.out.call hb)
            clear HL2 hb HWu a0 a1 a2 a3 b0 b1 b2 d0 d1 d2
            obtain ⟨a0, a1, a2, a3, -⟩ := HL3.out.pc
            obtain ⟨b0, b1, b2, -⟩ := HL3.out.uc
            obtain ⟨d0, d1, d2, -⟩ := HL3.out.vc
            go_wp2_with fail
            ((with_reducible refine (HWv.out _).mono ?_); rintro e w4 ⟨rfl, hb⟩)
            have HL4 := Lib.hid (HL3.out.call hb)
            clear HL3 hb HWv a0 a1 a2 a3 b0 b1 b2 d0 d1 d2
            obtain ⟨a0, a1, a2, a3, -⟩ := HL4.out.pc
            obtain ⟨b0, b1, b2, -⟩ := HL4.out.uc
            obtain ⟨d0, d1, d2, -⟩ := HL4.out.vc
            go_wp2_with fail
            ((with_reducible refine (HAN.out _).mono ?_); rintro e w5 ⟨rfl, hb⟩)
            have HL5 := Lib.hid (HL4.out.call hb)
            clear HL4 hb HAN a0 a1 a2 a3 b0 b1 b2 d0 d1 d2
            obtain ⟨a0, a1, a2, a3, -⟩ := HL5.out.pc
            obtain ⟨b0, b1, b2, -⟩ := HL5.out.uc
            obtain ⟨d0, d1, d2, -⟩ := HL5.out.vc
            clear a0 a1 a2 a3 b0 b1 b2 d0 d1 d2
            have hL2 := HL5.out
            go_upto_region 12 with fail
            go_cut [] from 8 to 62 (fun wx => ∃ q : Q4, Hid q.I64 ∧ Hid (LA q u v w wx))
            case first =>
              obtain ⟨a0, a1, a2, a3, af⟩ := hL2.pc
              go_wp2_with fail
              ((with_reducible refine (tame_any p.a p.b p.c p.d 4 _ (by decide) (by decide)).mono ?_); rintro e w9 ⟨⟨q, hq1, hq2, rfl⟩, hb⟩)
              have hL3 := hL2.call hb
              clear hL2 a0 a1 a2 a3 af hb
              obtain ⟨a0, a1, a2, a3, af⟩ := hL3.pc
              have HQI : Hid q.I64 := hq2
              clear hq1 hq2
              have HL3 := Lib.hid (hL3.setP q)
              clear hL3
              go_wp2_with fail
              go_meet
              exact ⟨q, HQI, HL3.out⟩
            case rest =>
              obtain ⟨q, HQI, HLW⟩ := hcut
              rename World => W
              clear HL5 hL2
              go_wp2_with fail
              refine wp_region_inv (by kernel_rfl) (by kernel_rfl) (fun listed a wy => ∃ t : Nat → Value, a = { tmps := #[.agg #[.int .i64 (p0.a), .int .i64 (p0.b), .int .i64 (p0.c), .int .i64 (p0.d)], .agg #[.int .i64 (u0.x), .int .i64 (u0.y), .int .i64 (u0.z)], .agg #[.int .i64 (v0.x), .int .i64 (v0.y), .int .i64 (v0.z)], .pointer (some ⟨w.heap.size, 0, none⟩), .pointer (some ⟨w.heap.size + 1, 0, none⟩), .pointer (some ⟨w.heap.size + 1 + 1, 0, none⟩), u6, .int .i64 k, u8, u9, u10, u11, u12, u13, u14, u15, u16, u17, u18, u19, u20, u21, u22, u23, u24, u25, u26, u27, u28, u29, u30, u31, u32, u33, u34, u35, u36, u37, u38, u39, u40, u41, u42, u43, u44, u45, u46, u47, u48, u49, u50, u51, u52, u53, u54, u55, u56, u57, u58, u59, u60, u61, u62, t 63, t 64, t 65, t 66, t 67, t 68, u69, u70, u71, u72, u73, u74, u75, u76, u77, u78, u79, u80, u81, u82, u83, u84, u85, u86, u87, u88, u89, u90, undef], defers := [] } ∧ WR W (fun x y W => LA q x y w W) u v (fun d => match d with | 63 => .eq (.agg #[.int .i64 (q.a), .int .i64 (q.b), .int .i64 (q.c), .int .i64 (q.d)]) | 64 => .eq (.agg #[.int .i64 (u.x), .int .i64 (u.y), .int .i64 (u.z)]) | 66 => .eq (.agg #[.int .i64 (q.a), .int .i64 (q.b), .int .i64 (q.c), .int .i64 (q.d)]) | 67 => .eq (.agg #[.int .i64 (v.x), .int .i64 (v.y), .int .i64 (v.z)]) | _ => .vec) [(0, 63), (1, 64), (2, 65), (3, 66), (4, 67), (5, 68)] 65 68 listed t wy) ⟨(fun d => match d with | 63 => u63 | 64 => u64 | 65 => u65 | 66 => u66 | 67 => u67 | 68 => u68 | _ => undef), rfl, WR.start _ _ HLW.out.drew⟩ ?_ ?_
              rotate_left
              · rintro listed hs i hi a wy ⟨t, rfl, hR⟩ hr
                match i, hi, hr with
                | 0, _, hr =>
                  as_aux_lemma =>
                  refine wpOp_step rfl (fun K' hK => ?_)
                  have hL := hR.fresh (by decide) (ready_spec.1 hr).2.1
                  obtain ⟨c0, c1, c2, c3⟩ := hL.pc'
                  clear hL
                  go_simp
                  exact hK _ _ ⟨upd t 63 _, rfl, hR.yields (by decide) (ready_spec.1 hr).2.1 (hR.fresh (by decide) (ready_spec.1 hr).2.1) rfl rfl (by intro h; cases h)⟩
                | 1, _, hr =>
                  as_aux_lemma =>
                  refine wpOp_step rfl (fun K' hK => ?_)
                  have hL := hR.fresh (by decide) (ready_spec.1 hr).2.1
                  obtain ⟨c0, c1, c2, c3⟩ := hL.uc
                  clear hL
                  go_simp
                  exact hK _ _ ⟨upd t 64 _, rfl, hR.yields (by decide) (ready_spec.1 hr).2.1 (hR.fresh (by decide) (ready_spec.1 hr).2.1) rfl rfl (by intro h; cases h)⟩
                | 2, _, hr =>
                  as_aux_lemma =>
                  refine wpOp_step rfl (fun K' hK => ?_)
                  have e1 : t 63 = .agg #[.int .i64 (q.a), .int .i64 (q.b), .int .i64 (q.c), .int .i64 (q.d)] := hR.val (0, 63) (by simp) (dep_of hr 0 (by kernel_rfl))
                  have e2 : t 64 = .agg #[.int .i64 (u.x), .int .i64 (u.y), .int .i64 (u.z)] := hR.val (1, 64) (by simp) (dep_of hr 1 (by kernel_rfl))
                  have HF := Lib.hid (hR.fresh (by decide) (ready_spec.1 hr).2.1)
                  go_simp
                  refine (wy_any q u wy).mono ?_
                  rintro e w1 ⟨⟨d, _, d1, d2, d3, rfl⟩, hb1⟩
                  exact hK _ _ ⟨upd t 65 _, by simp [upd, e1, e2], hR.yields (by decide) (ready_spec.1 hr).2.1 (HF.out.call hb1) ⟨d, d1, d2, d3, rfl⟩ rfl (by intro h; cases h)⟩
                | 3, _, hr =>
                  as_aux_lemma =>
                  refine wpOp_step rfl (fun K' hK => ?_)
                  have hL := hR.fresh (by decide) (ready_spec.1 hr).2.1
                  obtain ⟨c0, c1, c2, c3⟩ := hL.pc'
                  clear hL
                  go_simp
                  exact hK _ _ ⟨upd t 66 _, rfl, hR.yields (by decide) (ready_spec.1 hr).2.1 (hR.fresh (by decide) (ready_spec.1 hr).2.1) rfl rfl (by intro h; cases h)⟩
                | 4, _, hr =>
                  as_aux_lemma =>
                  refine wpOp_step rfl (fun K' hK => ?_)
                  have hL := hR.fresh (by decide) (ready_spec.1 hr).2.1
                  obtain ⟨c0, c1, c2, c3⟩ := hL.vc
                  clear hL
                  go_simp
                  exact hK _ _ ⟨upd t 67 _, rfl, hR.yields (by decide) (ready_spec.1 hr).2.1 (hR.fresh (by decide) (ready_spec.1 hr).2.1) rfl rfl (by intro h; cases h)⟩
                | 5, _, hr =>
                  as_aux_lemma =>
                  refine wpOp_step rfl (fun K' hK => ?_)
                  have e1 : t 66 = .agg #[.int .i64 (q.a), .int .i64 (q.b), .int .i64 (q.c), .int .i64 (q.d)] := hR.val (3, 66) (by simp) (dep_of hr 3 (by kernel_rfl))
                  have e2 : t 67 = .agg #[.int .i64 (v.x), .int .i64 (v.y), .int .i64 (v.z)] := hR.val (4, 67) (by simp) (dep_of hr 4 (by kernel_rfl))
                  have HF := Lib.hid (hR.fresh (by decide) (ready_spec.1 hr).2.1)
                  go_simp
                  refine (wy_any q v wy).mono ?_
                  rintro e w1 ⟨⟨d, _, d1, d2, d3, rfl⟩, hb1⟩
                  exact hK _ _ ⟨upd t 68 _, by simp [upd, e1, e2], hR.yields (by decide) (ready_spec.1 hr).2.1 (HF.out.call hb1) ⟨d, d1, d2, d3, rfl⟩ rfl (fun _ => ⟨dep_of hr 3 (by kernel_rfl), dep_of hr 4 (by kernel_rfl)⟩)⟩
                | 6, _, hr =>
                  as_aux_lemma =>
                  refine wpOp_step rfl (fun K' hK => ?_)
                  obtain ⟨d, d1, d2, d3, ev⟩ : ∃ d : T3, I64 d.x ∧ I64 d.y ∧ I64 d.z ∧ t 65 = .agg #[.int .i64 (d.x), .int .i64 (d.y), .int .i64 (d.z)] := hR.val (2, 65) (by simp) (dep_of hr 2 (by kernel_rfl))
                  obtain ⟨x, y, hL, _⟩ := hR.fin
                  obtain ⟨c0, c1, c2, c3⟩ := hL.uc
                  have HD : Hid (∀ j, j < 6 → listed.getD j false = true) := fun j hj => by
                    match j, hj with
                    | 0, _ => exact dep_of hr 0 (by kernel_rfl)
                    | 1, _ => exact dep_of hr 1 (by kernel_rfl)
                    | 2, _ => exact dep_of hr 2 (by kernel_rfl)
                    | 3, _ => exact (hR.clo (dep_of hr 5 (by kernel_rfl))).1
                    | 4, _ => exact (hR.clo (dep_of hr 5 (by kernel_rfl))).2
                    | 5, _ => exact dep_of hr 5 (by kernel_rfl)
                  clear hL
                  go_simp
                  exact hK _ _ ⟨t, by simp [ev], hR.store6 (by rw [hs]; decide) HD.out rfl ev (fun x y h => h.setU d)⟩
                | 7, _, hr =>
                  as_aux_lemma =>
                  refine wpOp_step rfl (fun K' hK => ?_)
                  obtain ⟨d, d1, d2, d3, ev⟩ : ∃ d : T3, I64 d.x ∧ I64 d.y ∧ I64 d.z ∧ t 68 = .agg #[.int .i64 (d.x), .int .i64 (d.y), .int .i64 (d.z)] := hR.val (5, 68) (by simp) (dep_of hr 5 (by kernel_rfl))
                  obtain ⟨x, y, hL, _⟩ := hR.fin
                  obtain ⟨c0, c1, c2, c3⟩ := hL.vc
                  have HD : Hid (∀ j, j < 6 → listed.getD j false = true) := fun j hj => by
                    match j, hj with
                    | 0, _ => exact dep_of hr 0 (by kernel_rfl)
                    | 1, _ => exact dep_of hr 1 (by kernel_rfl)
                    | 2, _ => exact dep_of hr 2 (by kernel_rfl)
                    | 3, _ => exact (hR.clo (dep_of hr 5 (by kernel_rfl))).1
                    | 4, _ => exact (hR.clo (dep_of hr 5 (by kernel_rfl))).2
                    | 5, _ => exact dep_of hr 5 (by kernel_rfl)
                  clear hL
                  go_simp
                  exact hK _ _ ⟨t, by simp [ev], hR.store7 (by rw [hs]; decide) HD.out rfl ev (fun x y h => h.setV d)⟩
              rintro listed a W2 ⟨t, rfl, hR⟩ hl
              obtain ⟨x, y, hL2, hx, -, hy, -⟩ := hR.fin
              obtain ⟨dx, x1, x2, x3, ex⟩ : ∃ d : T3, I64 d.x ∧ I64 d.y ∧ I64 d.z ∧ t 65 = .agg #[.int .i64 (d.x), .int .i64 (d.y), .int .i64 (d.z)] := hR.val (2, 65) (by simp) (hl 2 (by decide))
              obtain ⟨dy, y1, y2, y3, ey⟩ : ∃ d : T3, I64 d.x ∧ I64 d.y ∧ I64 d.z ∧ t 68 = .agg #[.int .i64 (d.x), .int .i64 (d.y), .int .i64 (d.z)] := hR.val (5, 68) (by simp) (hl 5 (by decide))
              have HXI : Hid (x.I64' ∧ y.I64') := by
                have h1 := ex.symm.trans (hx (hl 6 (by decide)))
                have h2 := ey.symm.trans (hy (hl 7 (by decide)))
                simp at h1 h2
                unfold Hid T3.I64'
                rw [← h1.1, ← h1.2.1, ← h1.2.2, ← h2.1, ← h2.2.1, ← h2.2.2]
                exact ⟨⟨x1, x2, x3⟩, ⟨y1, y2, y3⟩⟩
              have HL2 := Lib.hid hL2
              clear hR hl hL2 hx hy ex ey x1 x2 x3 y1 y2 y3 HLW HI
              generalize t 63 = u63
              generalize t 64 = u64
              generalize t 65 = u65
              generalize t 66 = u66
              generalize t 67 = u67
              generalize t 68 = u68
              clear t listed dx dy
              by_cases hk1 : k = 1
              · subst hk1
                go_wp2
                go_loopw [11] (fun j W3 => ∃ m : Nat, m ≤ 3 ∧ j = .int .i64 m ∧ ∃ z : T3, Hid z.I64' ∧ Hid (LA q x z w W3)) (fun j _ => 3 - (intOf j).toNat)
                case atStart => exact ⟨0, by omega, rfl, y, HXI.out.2, HL2⟩
                case round =>
                  rename World => W3
                  obtain ⟨m, hm, rfl, z, HZ, HL3⟩ := hrel
                  obtain ⟨q0, q1, q2, q3⟩ := HL3.out.pc'
                  obtain ⟨x0, x1, x2, -⟩ := HL3.out.uc
                  obtain ⟨z0, z1, z2, zf⟩ := HL3.out.vc
                  match m, hm with
                  | 0, _ =>
                    go_wp2
                    all_goals
                      go_roundw
                      case measure => simp [intOf]
                      case rel => first | exact ⟨1, by omega, rfl, HL3.out.e0 HZ.out _ (I64.wrap _)⟩ | exact ⟨1, by omega, rfl, HL3.out.f0 HZ.out _ _ (I64.wrap _)⟩
                  | 1, _ =>
                    go_wp2
                    all_goals
                      go_roundw
                      case measure => simp [intOf]
                      case rel => first | exact ⟨2, by omega, rfl, HL3.out.e1 HZ.out _ (I64.wrap _)⟩ | exact ⟨2, by omega, rfl, HL3.out.f1 HZ.out _ _ (I64.wrap _)⟩
                  | 2, _ =>
                    go_wp2
                    all_goals
                      go_roundw
                      case measure => simp [intOf]
                      case rel => first | exact ⟨3, by omega, rfl, HL3.out.e2 HZ.out _ (I64.wrap _)⟩ | exact ⟨3, by omega, rfl, HL3.out.f2 HZ.out _ _ (I64.wrap _)⟩
                  | 3, _ =>
                    go_wp2
                    go_roundw
                    case measure => simp [intOf]
                    case rel => exact ⟨2, by omega, rfl, q, x, z, ⟨HQI.out, HXI.out.1, HZ.out⟩, HL3⟩
              · have hk2 : ((k : Int) == 1) = false := by simp; omega
                go_wp2
                go_roundw
                case measure => simp [intOf]; omega
                case rel => exact ⟨k + 1, by omega, by go_num, q, x, y, ⟨HQI.out, HXI.out.1, HXI.out.2⟩, HL2⟩
    · have HA : Hid (∀ W, Calls Try.prog 11 #[] W fun e w' => e = .returned (.bool true) ∧ Below W.heap.size W w') := fun W => awake_any W
      go_wp2_with fail
      ((with_reducible refine (HA.out _).mono ?_); rintro e w1 ⟨rfl, hb⟩)
      go_wp2
      go_ret
      exact ⟨rfl, (HL.out.call hb).below⟩

end Go.Proofs.Ytaoedfegakpjeab
