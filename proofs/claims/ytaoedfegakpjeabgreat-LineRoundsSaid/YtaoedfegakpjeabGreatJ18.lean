/- Contracts of the functions that the statement reaches, and plain lemmas: part 18 of 25. -/
import Derived.Test.YtaoedfegakpjeabGreatJ17
import Derived.Test.YtaoedfegakpjeabGreatJ16
import Derived.Test.YtaoedfegakpjeabGreatJ06
import Derived.Deep.CutRange
import Derived.Deep.DeepCutAuto

namespace Go.Proofs.YtaoedfegakpjeabGreat
open Go.RowKit

noncomputable def lalE (p q a b : Q4) : Int := vl (if opE p q [] [a, b] = 0 then (if (onB p q a && onB p q b) = true then 0 else 1) else opE p q [] [a, b])
theorem lalE_eq (p q a b : Q4) : lalE p q a b = (if opE p q [] [a, b] = 0 then (if (onB p q a && onB p q b) = true then 0 else 1) else opE p q [] [a, b]) := vl_eq _
noncomputable def lalV (p q a b : Q4) : Int := vl (if opE p q [] [a, b] = 0 then (if (onB p q a && onB p q b) = true then alongI (opV p q [] [a, b] (p.dx q)) (opV p q [] [a, b] (p.dy q)) (opV p q [] [a, b] (p.dz q)) a b else 0) else 0)
theorem lalV_eq (p q a b : Q4) : lalV p q a b = (if opE p q [] [a, b] = 0 then (if (onB p q a && onB p q b) = true then alongI (opV p q [] [a, b] (p.dx q)) (opV p q [] [a, b] (p.dy q)) (opV p q [] [a, b] (p.dz q)) a b else 0) else 0) := vl_eq _
theorem len2 (a b : Q4) : [a, b].length ≤ 1000000 := by simp
theorem two_i64 {a b : Q4} (ha : a.I64) (hb : b.I64) : ∀ q : Q4, q ∈ [a, b] → q.I64 := fun q hq => by
  simp at hq; rcases hq with rfl | rfl
  · exact ha
  · exact hb
def PT (x : Q4) : Obj := .cells #[.int .i64 x.a, .int .i64 x.b, .int .i64 x.c, .int .i64 x.d] 48
def P2 (x y : Q4) : Obj := .cells #[.int .i64 x.a, .int .i64 x.b, .int .i64 x.c, .int .i64 x.d, .int .i64 y.a, .int .i64 y.b, .int .i64 y.c, .int .i64 y.d] 48
def GV (d : T3) : Obj := .cells #[.int .i64 d.x, .int .i64 d.y, .int .i64 d.z] 66
/-- The blocks of line.Along. -/
structure AL (p q a b : Q4) (d : T3) (V S : Nat) (w W : World) : Prop where
  below : Below w.heap.size w W
  bp : Blk W w.heap.size (PV p)
  bq : Blk W (w.heap.size + 1) (PV q)
  ba : Blk W (w.heap.size + 1 + 1) (PT a)
  bb : Blk W (w.heap.size + 1 + 1 + 1) (PT b)
  bv : Blk W V (GV d)
  bs : Blk W S (P2 a b)
theorem blk_point {W : World} {b : Nat} {p : Q4} (h : Blk W b (PT p)) : W.cell? ⟨b, 0, none⟩ = some (.int .i64 p.a) ∧ W.cell? ⟨b, 1, none⟩ = some (.int .i64 p.b) ∧ W.cell? ⟨b, 2, none⟩ = some (.int .i64 p.c) ∧ W.cell? ⟨b, 3, none⟩ = some (.int .i64 p.d) :=
  ⟨(blk_cells h).1 _ _ rfl, (blk_cells h).1 _ _ rfl, (blk_cells h).1 _ _ rfl, (blk_cells h).1 _ _ rfl⟩
theorem blk_gv {W : World} {b : Nat} {v : T3} (h : Blk W b (GV v)) : W.cell? ⟨b, 0, none⟩ = some (.int .i64 v.x) ∧ W.cell? ⟨b, 1, none⟩ = some (.int .i64 v.y) ∧ W.cell? ⟨b, 2, none⟩ = some (.int .i64 v.z) :=
  ⟨(blk_cells h).1 _ _ rfl, (blk_cells h).1 _ _ rfl, (blk_cells h).1 _ _ rfl⟩
theorem blk_two {W : World} {b : Nat} {x y : Q4} (h : Blk W b (P2 x y)) : (W.cell? ⟨b, 0, none⟩ = some (.int .i64 x.a) ∧ W.cell? ⟨b, 1, none⟩ = some (.int .i64 x.b) ∧ W.cell? ⟨b, 2, none⟩ = some (.int .i64 x.c) ∧ W.cell? ⟨b, 3, none⟩ = some (.int .i64 x.d)) ∧ (W.cell? ⟨b, 4, none⟩ = some (.int .i64 y.a) ∧ W.cell? ⟨b, 5, none⟩ = some (.int .i64 y.b) ∧ W.cell? ⟨b, 6, none⟩ = some (.int .i64 y.c) ∧ W.cell? ⟨b, 7, none⟩ = some (.int .i64 y.d)) :=
  ⟨⟨(blk_cells h).1 _ _ rfl, (blk_cells h).1 _ _ rfl, (blk_cells h).1 _ _ rfl, (blk_cells h).1 _ _ rfl⟩, (blk_cells h).1 _ _ rfl, (blk_cells h).1 _ _ rfl, (blk_cells h).1 _ _ rfl, (blk_cells h).1 _ _ rfl⟩
theorem AL.call {p q a b : Q4} {d : T3} {V S : Nat} {w W W1 : World} (h : AL p q a b d V S w W) (hb : Below W.heap.size W W1) : AL p q a b d V S w W1 :=
  ⟨h.below.trans (hb.mono h.below.size), h.bp.below hb h.bp.lt, h.bq.below hb h.bq.lt, h.ba.below hb h.ba.lt, h.bb.below hb h.bb.lt, h.bv.below hb h.bv.lt, h.bs.below hb h.bs.lt⟩

theorem AL.start {p q a b : Q4} {d : T3} {w W : World} (h : Fr 4 [(0, PV p), (1, PV q), (2, PT a), (3, PT b)] [] w W) : AL p q a b d W.heap.size (W.heap.size + 1) w ((W.alloc (GV d)).alloc (P2 a b)) := by
  have b0 : Blk W w.heap.size (PV p) := (h.fix 0 _ rfl).2
  have b1 : Blk W (w.heap.size + 1) (PV q) := (h.fix 1 _ rfl).2
  have b2 : Blk W (w.heap.size + 1 + 1) (PT a) := (h.fix 2 _ rfl).2
  have b3 : Blk W (w.heap.size + 1 + 1 + 1) (PT b) := (h.fix 3 _ rfl).2
  have hs := h.own.1
  exact ⟨(h.own.below.alloc (by omega) _).alloc (by simp; omega) _, b0.alloc.alloc, b1.alloc.alloc, b2.alloc.alloc, b3.alloc.alloc, (blk_new W (GV d)).alloc, by simpa using blk_new (W.alloc (GV d)) (P2 a b)⟩

set_option maxRecDepth 100000 in
set_option maxHeartbeats 2000000 in
theorem lineAlong_any (p q a b : Q4) (w : World) (ip : p.I64) (iq : q.I64) (ia : a.I64) (ib : b.I64) :
    Calls Tryz.prog 23 #[.agg #[.int .i64 (p.a), .int .i64 (p.b), .int .i64 (p.c), .int .i64 (p.d)], .agg #[.int .i64 (q.a), .int .i64 (q.b), .int .i64 (q.c), .int .i64 (q.d)], .agg #[.int .i64 (a.a), .int .i64 (a.b), .int .i64 (a.c), .int .i64 (a.d)], .agg #[.int .i64 (b.a), .int .i64 (b.b), .int .i64 (b.c), .int .i64 (b.d)]] w fun e w' => e = .returned (.tuple #[.int .i64 (lalV p q a b), .int .i64 (lalE p q a b)]) ∧ Below w.heap.size w w' := by
  have HO : Hid (∀ W v, SlV W v [a, b] → Calls Tryz.prog 33 #[.agg #[.int .i64 (p.a), .int .i64 (p.b), .int .i64 (p.c), .int .i64 (p.d)], .agg #[.int .i64 (q.a), .int .i64 (q.b), .int .i64 (q.c), .int .i64 (q.d)], .slice none 0 0, v] W fun e w' => e = .returned (.tuple #[.agg #[.int .i64 (opV p q [] [a, b] (p.dx q)), .int .i64 (opV p q [] [a, b] (p.dy q)), .int .i64 (opV p q [] [a, b] (p.dz q))], .int .i64 (opE p q [] [a, b])]) ∧ Below W.heap.size W w') := fun W v hv => opened_any p q [] [a, b] _ _ W ip iq len0 (len2 a b) nil_i64 (two_i64 ia ib) (SlV.nil _) hv
  have HSP : Hid (∀ (p x : Q4) W, Calls Tryz.prog 46 #[.agg #[.int .i64 (p.a), .int .i64 (p.b), .int .i64 (p.c), .int .i64 (p.d)], .agg #[.int .i64 (x.a), .int .i64 (x.b), .int .i64 (x.c), .int .i64 (x.d)]] W fun e w' => e = .returned (.int .i64 (sideI p x)) ∧ Below W.heap.size W w') := fun p x W => gside_any p x W
  obtain ⟨d, hd⟩ : ∃ d : T3, d = ⟨opV p q [] [a, b] (p.dx q), opV p q [] [a, b] (p.dy q), opV p q [] [a, b] (p.dz q)⟩ := ⟨_, rfl⟩
  have HAL : Hid (opE p q [] [a, b] = 0 → ∀ W, Calls Tryz.prog 47 #[.agg #[.int .i64 (a.a), .int .i64 (a.b), .int .i64 (a.c), .int .i64 (a.d), .int .i64 (b.a), .int .i64 (b.b), .int .i64 (b.c), .int .i64 (b.d)], .agg #[.int .i64 (d.x), .int .i64 (d.y), .int .i64 (d.z)]] W fun e w' => e = .returned (.int .i64 (alongI d.x d.y d.z a b)) ∧ Below W.heap.size W w') := fun h W => by
    have hz := (opE_ok h)
    exact along_any a b d.x d.y d.z W ia ib (by rw [hd]; show ¬ (opV p q [] [a, b] (p.dx q) = 0 ∧ opV p q [] [a, b] (p.dy q) = 0 ∧ opV p q [] [a, b] (p.dz q) = 0); rw [hz.1, hz.1, hz.1]; exact hz.2)
  have HLE := Lib.hid (lalE_eq p q a b)
  have HLV : Hid (lalV p q a b = (if opE p q [] [a, b] = 0 then (if (onB p q a && onB p q b) = true then alongI d.x d.y d.z a b else 0) else 0)) := by unfold Hid; rw [lalV_eq, hd]
  have HO2 : Hid (∀ W v, SlV W v [a, b] → Calls Tryz.prog 33 #[.agg #[.int .i64 (p.a), .int .i64 (p.b), .int .i64 (p.c), .int .i64 (p.d)], .agg #[.int .i64 (q.a), .int .i64 (q.b), .int .i64 (q.c), .int .i64 (q.d)], .slice none 0 0, v] W fun e w' => e = .returned (.tuple #[.agg #[.int .i64 (d.x), .int .i64 (d.y), .int .i64 (d.z)], .int .i64 (opE p q [] [a, b])]) ∧ Below W.heap.size W w') := by
    rw [hd]; exact HO
  clear hd HO ip iq ia ib
  generalize lalE p q a b = E at HLE ⊢
  generalize lalV p q a b = C at HLV ⊢
  generalize opE p q [] [a, b] = e0 at HLE HLV HO2 HAL
  go_enter Tryz.func23, Tryz.ntmps23
  have hE : ∀ W, Fr 4 [(0, .cells #[.int .i64 (p.a), .int .i64 (p.b), .int .i64 (p.c), .int .i64 (p.d)] 23), (1, .cells #[.int .i64 (q.a), .int .i64 (q.b), .int .i64 (q.c), .int .i64 (q.d)] 23), (2, .cells #[.int .i64 (a.a), .int .i64 (a.b), .int .i64 (a.c), .int .i64 (a.d)] 48), (3, .cells #[.int .i64 (b.a), .int .i64 (b.b), .int .i64 (b.c), .int .i64 (b.d)] 48)] [] w W → (W.cell? ⟨w.heap.size, 0, none⟩ = some (.int .i64 (p.a)) ∧ W.cell? ⟨w.heap.size, 1, none⟩ = some (.int .i64 (p.b)) ∧ W.cell? ⟨w.heap.size, 2, none⟩ = some (.int .i64 (p.c)) ∧ W.cell? ⟨w.heap.size, 3, none⟩ = some (.int .i64 (p.d)) ∧ W.cell? ⟨w.heap.size + 1, 0, none⟩ = some (.int .i64 (q.a)) ∧ W.cell? ⟨w.heap.size + 1, 1, none⟩ = some (.int .i64 (q.b)) ∧ W.cell? ⟨w.heap.size + 1, 2, none⟩ = some (.int .i64 (q.c)) ∧ W.cell? ⟨w.heap.size + 1, 3, none⟩ = some (.int .i64 (q.d)) ∧ W.cell? ⟨w.heap.size + 2, 0, none⟩ = some (.int .i64 (a.a)) ∧ W.cell? ⟨w.heap.size + 2, 1, none⟩ = some (.int .i64 (a.b)) ∧ W.cell? ⟨w.heap.size + 2, 2, none⟩ = some (.int .i64 (a.c)) ∧ W.cell? ⟨w.heap.size + 2, 3, none⟩ = some (.int .i64 (a.d)) ∧ W.cell? ⟨w.heap.size + 3, 0, none⟩ = some (.int .i64 (b.a)) ∧ W.cell? ⟨w.heap.size + 3, 1, none⟩ = some (.int .i64 (b.b)) ∧ W.cell? ⟨w.heap.size + 3, 2, none⟩ = some (.int .i64 (b.c)) ∧ W.cell? ⟨w.heap.size + 3, 3, none⟩ = some (.int .i64 (b.d))) := fun W h => by (repeat' apply And.intro) <;> first | exact h.at0 rfl | exact h.at rfl | exact (h.rms0 rfl).cell | exact (h.rms rfl).cell | exact (h.rms0 rfl).frozen | exact (h.rms rfl).frozen
  have HE := Lib.hid hE
  clear hE
  go_wp2_with fail
  (go_at_call 33; refine (HO2.out _ _ (by refine SlV.mk rfl ?_ (sl4_two ⟨?_, ?_, ?_, ?_⟩ ⟨?_, ?_, ?_, ?_⟩) <;> simp [go_sem])).mono ?_; rintro e w1 ⟨rfl, hb1⟩; (try clear hq); (try clear hz); have hF : Fr 4 [(0, .cells #[.int .i64 (p.a), .int .i64 (p.b), .int .i64 (p.c), .int .i64 (p.d)] 23), (1, .cells #[.int .i64 (q.a), .int .i64 (q.b), .int .i64 (q.c), .int .i64 (q.d)] 23), (2, .cells #[.int .i64 (a.a), .int .i64 (a.b), .int .i64 (a.c), .int .i64 (a.d)] 48), (3, .cells #[.int .i64 (b.a), .int .i64 (b.b), .int .i64 (b.c), .int .i64 (b.d)] 48)] [] w w1 := Fr.call (by (repeat (first | exact hF | exact (((((Fr.nil w).fixed (by simp) (.cells #[.int .i64 (p.a), .int .i64 (p.b), .int .i64 (p.c), .int .i64 (p.d)] 23)).fixed (by simp) (.cells #[.int .i64 (q.a), .int .i64 (q.b), .int .i64 (q.c), .int .i64 (q.d)] 23)).fixed (by simp) (.cells #[.int .i64 (a.a), .int .i64 (a.b), .int .i64 (a.c), .int .i64 (a.d)] 48)).fixed (by simp) (.cells #[.int .i64 (b.a), .int .i64 (b.b), .int .i64 (b.c), .int .i64 (b.d)] 48)) | exact And.left (by assumption) | refine Fr.set ?_ (by first | (simp; done) | (simp; omega)) (by first | (simp [List.lookup]; done) | (simp [Nat.add_assoc, List.lookup]; done)) _ | refine Fr.drew ?_ | refine Fr.alloc ?_ _))) hb1; have hq := HE.out _ hF; have hz : w.heap.size < w1.heap.size ∧ w.heap.size + 1 < w1.heap.size ∧ w.heap.size + 2 < w1.heap.size ∧ w.heap.size + 3 < w1.heap.size := by have hs := Own.size (Fr.own hF); omega)
  by_cases he : e0 = 0
  · subst he
    have hF0 : Fr 4 [(0, PV p), (1, PV q), (2, PT a), (3, PT b)] [] w w1 := hF
    have HAT := Lib.hid (AL.start (d := d) hF0)
    have HLE2 : Hid (E = if (onB p q a && onB p q b) = true then 0 else 1) := by unfold Hid; rw [HLE.out, if_pos rfl]
    have HLV2 : Hid (C = if (onB p q a && onB p q b) = true then alongI d.x d.y d.z a b else 0) := by unfold Hid; rw [HLV.out, if_pos rfl]
    have HAL2 := Lib.hid (HAL.out rfl)
    clear hF0 HLE HLV HAL
    go_upto_region 4 with fail
    go_cut [28, 29, 30] from 31 to 49 (fun s28 s29 s30 wx => s29 = .int .i64 2 ∧ s30 = .int .i64 0 ∧ ∃ S, s28 = .slice (some ⟨S, 0, none⟩) 2 2 ∧ Hid (AL p q a b d w1.heap.size S w wx))
    case first =>
      go_wp2
      go_meet
      exact ⟨rfl, rfl, _, rfl, HAT⟩
    case rest =>
      obtain ⟨rfl, rfl, S, rfl, HS⟩ := hcut
      clear hF HE HAT
      generalize w1.heap.size = V at HS ⊢
      rename World => wx
      go_wp2
      go_loopw [30] (fun s30 wr => ∃ k : Nat, k ≤ 2 ∧ s30 = .int .i64 k ∧ Hid ((0 < k → onB p q a = true) ∧ (1 < k → onB p q b = true)) ∧ Hid (AL p q a b d V S w wr)) (fun v _ => 2 - (intOf v).toNat)
      case atStart => exact ⟨0, by omega, rfl, ⟨by omega, by omega⟩, HS⟩
      case round =>
        rename World => wr
        obtain ⟨k, hk, rfl, HON, HL⟩ := hrel
        clear HS
        match k, hk with
        | 0, _ =>
          obtain ⟨x0, x1, x2, x3⟩ := (blk_two HL.out.bs).1
          have HA := Lib.hid (HSP.out p a)
          have HB := Lib.hid (HSP.out q a)
          have HN := Lib.hid (onB_eq p q a)
          generalize sideI p a = s at HA HN
          generalize sideI q a = u at HB HN
          have HLx : Hid (AL p q a b d V S w (wr.alloc (.cells #[.int .i64 a.a, .int .i64 a.b, .int .i64 a.c, .int .i64 a.d] 48))) := HL.out.call ((Below.refl wr.heap.size wr).alloc (Nat.le_refl _) (PT a))
          obtain ⟨p0, p1, p2, p3⟩ := blk_four HLx.out.bp
          by_cases hs : s = 0
          · subst hs
            go_wp2_with fail
            ((with_reducible refine (HA.out _).mono ?_); rintro e w2 ⟨rfl, hb⟩)
            have HL2 := Lib.hid (HLx.out.call hb)
            have y0 : w2.cell? ⟨wr.heap.size, 0, none⟩ = some (.int .i64 a.a) := (hb.cell (p := ⟨wr.heap.size, 0, none⟩) (by simp)).trans (by simp [go_sem])
            have y1 : w2.cell? ⟨wr.heap.size, 1, none⟩ = some (.int .i64 a.b) := (hb.cell (p := ⟨wr.heap.size, 1, none⟩) (by simp)).trans (by simp [go_sem])
            have y2 : w2.cell? ⟨wr.heap.size, 2, none⟩ = some (.int .i64 a.c) := (hb.cell (p := ⟨wr.heap.size, 2, none⟩) (by simp)).trans (by simp [go_sem])
            have y3 : w2.cell? ⟨wr.heap.size, 3, none⟩ = some (.int .i64 a.d) := (hb.cell (p := ⟨wr.heap.size, 3, none⟩) (by simp)).trans (by simp [go_sem])
            clear hb HLx x0 x1 x2 x3 p0 p1 p2 p3
            obtain ⟨q0, q1, q2, q3⟩ := blk_four HL2.out.bq
            by_cases hu : u = 0
            · subst hu
              go_wp2_with fail
              ((with_reducible refine (HB.out _).mono ?_); rintro e w3 ⟨rfl, hb⟩)
              have HL3 := Lib.hid (HL2.out.call hb)
              have HNX : Hid (onB p q a = true) := by unfold Hid; rw [HN.out]; rfl
              clear hb HL2 q0 q1 q2 q3 y0 y1 y2 y3
              go_wp2
              go_roundw
              case rel => exact ⟨1, by omega, by go_num, ⟨fun _ => HNX.out, by omega⟩, HL3⟩
              case measure => simp [intOf]
            · have hu1 : (u != 0) = true := by simpa using hu
              have HNX : Hid (onB p q a = false) := by unfold Hid; rw [HN.out]; simpa using hu
              go_wp2_with fail
              ((with_reducible refine (HB.out _).mono ?_); rintro e w3 ⟨rfl, hb⟩)
              have HL3 := Lib.hid (HL2.out.call hb)
              clear hb HL2 q0 q1 q2 q3 y0 y1 y2 y3
              have HX : Hid (E = 1 ∧ C = 0) := by unfold Hid; rw [HLE2.out, HLV2.out]; simp [HNX.out]
              go_wp2
              go_ret2
              refine ⟨by rw [HX.out.1, HX.out.2]; rfl, ?_⟩
              exact HL3.out.below
          · have hs1 : (s != 0) = true := by simpa using hs
            have HNX : Hid (onB p q a = false) := by unfold Hid; rw [HN.out]; simp; intro h; exact absurd h hs
            go_wp2_with fail
            ((with_reducible refine (HA.out _).mono ?_); rintro e w2 ⟨rfl, hb⟩)
            have HL3 := Lib.hid (HLx.out.call hb)
            clear hb HLx x0 x1 x2 x3 p0 p1 p2 p3
            have HX : Hid (E = 1 ∧ C = 0) := by unfold Hid; rw [HLE2.out, HLV2.out]; simp [HNX.out]
            go_wp2
            go_ret2
            refine ⟨by rw [HX.out.1, HX.out.2]; rfl, ?_⟩
            exact HL3.out.below
        | 1, _ =>
          obtain ⟨x0, x1, x2, x3⟩ := (blk_two HL.out.bs).2
          have HA := Lib.hid (HSP.out p b)
          have HB := Lib.hid (HSP.out q b)
          have HN := Lib.hid (onB_eq p q b)
          generalize sideI p b = s at HA HN
          generalize sideI q b = u at HB HN
          have HLx : Hid (AL p q a b d V S w (wr.alloc (.cells #[.int .i64 b.a, .int .i64 b.b, .int .i64 b.c, .int .i64 b.d] 48))) := HL.out.call ((Below.refl wr.heap.size wr).alloc (Nat.le_refl _) (PT b))
          obtain ⟨p0, p1, p2, p3⟩ := blk_four HLx.out.bp
          by_cases hs : s = 0
          · subst hs
            go_wp2_with fail
            ((with_reducible refine (HA.out _).mono ?_); rintro e w2 ⟨rfl, hb⟩)
            have HL2 := Lib.hid (HLx.out.call hb)
            have y0 : w2.cell? ⟨wr.heap.size, 0, none⟩ = some (.int .i64 b.a) := (hb.cell (p := ⟨wr.heap.size, 0, none⟩) (by simp)).trans (by simp [go_sem])
            have y1 : w2.cell? ⟨wr.heap.size, 1, none⟩ = some (.int .i64 b.b) := (hb.cell (p := ⟨wr.heap.size, 1, none⟩) (by simp)).trans (by simp [go_sem])
            have y2 : w2.cell? ⟨wr.heap.size, 2, none⟩ = some (.int .i64 b.c) := (hb.cell (p := ⟨wr.heap.size, 2, none⟩) (by simp)).trans (by simp [go_sem])
            have y3 : w2.cell? ⟨wr.heap.size, 3, none⟩ = some (.int .i64 b.d) := (hb.cell (p := ⟨wr.heap.size, 3, none⟩) (by simp)).trans (by simp [go_sem])
            clear hb HLx x0 x1 x2 x3 p0 p1 p2 p3
            obtain ⟨q0, q1, q2, q3⟩ := blk_four HL2.out.bq
            by_cases hu : u = 0
            · subst hu
              go_wp2_with fail
              ((with_reducible refine (HB.out _).mono ?_); rintro e w3 ⟨rfl, hb⟩)
              have HL3 := Lib.hid (HL2.out.call hb)
              have HNX : Hid (onB p q b = true) := by unfold Hid; rw [HN.out]; rfl
              clear hb HL2 q0 q1 q2 q3 y0 y1 y2 y3
              go_wp2
              go_roundw
              case rel => exact ⟨2, by omega, by go_num, ⟨fun _ => HON.out.1 (by omega), fun _ => HNX.out⟩, HL3⟩
              case measure => simp [intOf]
            · have hu1 : (u != 0) = true := by simpa using hu
              have HNX : Hid (onB p q b = false) := by unfold Hid; rw [HN.out]; simpa using hu
              go_wp2_with fail
              ((with_reducible refine (HB.out _).mono ?_); rintro e w3 ⟨rfl, hb⟩)
              have HL3 := Lib.hid (HL2.out.call hb)
              clear hb HL2 q0 q1 q2 q3 y0 y1 y2 y3
              have HX : Hid (E = 1 ∧ C = 0) := by unfold Hid; rw [HLE2.out, HLV2.out]; simp [HON.out.1 (by omega), HNX.out]
              go_wp2
              go_ret2
              refine ⟨by rw [HX.out.1, HX.out.2]; rfl, ?_⟩
              exact HL3.out.below
          · have hs1 : (s != 0) = true := by simpa using hs
            have HNX : Hid (onB p q b = false) := by unfold Hid; rw [HN.out]; simp; intro h; exact absurd h hs
            go_wp2_with fail
            ((with_reducible refine (HA.out _).mono ?_); rintro e w2 ⟨rfl, hb⟩)
            have HL3 := Lib.hid (HLx.out.call hb)
            clear hb HLx x0 x1 x2 x3 p0 p1 p2 p3
            have HX : Hid (E = 1 ∧ C = 0) := by unfold Hid; rw [HLE2.out, HLV2.out]; simp [HON.out.1 (by omega), HNX.out]
            go_wp2
            go_ret2
            refine ⟨by rw [HX.out.1, HX.out.2]; rfl, ?_⟩
            exact HL3.out.below
        | 2, _ =>
          obtain ⟨a0, a1, a2, a3⟩ := blk_point HL.out.ba
          obtain ⟨b0, b1, b2, b3⟩ := blk_point HL.out.bb
          obtain ⟨v0, v1, v2⟩ := blk_gv HL.out.bv
          have HX : Hid (E = 0 ∧ C = alongI d.x d.y d.z a b) := by unfold Hid; rw [HLE2.out, HLV2.out]; simp [HON.out.1 (by omega), HON.out.2 (by omega)]
          go_wp2_with fail
          ((with_reducible refine (HAL2.out _).mono ?_); rintro e w2 ⟨rfl, hb⟩)
          have HL3 := Lib.hid (HL.out.call hb)
          clear hb HL a0 a1 a2 a3 b0 b1 b2 b3 v0 v1 v2
          go_wp2
          go_ret2
          refine ⟨by rw [HX.out.1, HX.out.2]; rfl, ?_⟩
          exact HL3.out.below
  · have n1 : (e0 != 0) = true := by simpa using he
    have HC : Hid (C = 0 ∧ E = e0) := by unfold Hid; rw [HLV.out, HLE.out, if_neg he, if_neg he]; exact ⟨rfl, rfl⟩
    clear HLE HLV
    go_wp2
    go_ret2
    refine ⟨by rw [HC.out.1, HC.out.2]; rfl, ?_⟩
    refine Own.below (Fr.own (k := 4) (fx := [(0, .cells #[.int .i64 (p.a), .int .i64 (p.b), .int .i64 (p.c), .int .i64 (p.d)] 23), (1, .cells #[.int .i64 (q.a), .int .i64 (q.b), .int .i64 (q.c), .int .i64 (q.d)] 23), (2, .cells #[.int .i64 (a.a), .int .i64 (a.b), .int .i64 (a.c), .int .i64 (a.d)] 48), (3, .cells #[.int .i64 (b.a), .int .i64 (b.b), .int .i64 (b.c), .int .i64 (b.d)] 48)]) (rm := []) ?_); (repeat (first | exact hF | exact And.left (by assumption) | refine Fr.set ?_ (by first | (simp; done) | (simp; omega)) (by first | (simp [List.lookup]; done) | (simp [Nat.add_assoc, List.lookup]; done)) _ | refine Fr.drew ?_ | refine Fr.alloc ?_ _))

end Go.Proofs.YtaoedfegakpjeabGreat
