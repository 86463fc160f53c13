/- Contracts of the functions that the statement reaches, and plain lemmas: part 22 of 25. -/
import Derived.Test.YtaoedfegakpjeabGreatJ21
import Derived.Test.YtaoedfegakpjeabGreatJ15

namespace Go.Proofs.YtaoedfegakpjeabGreat
open Go.RowKit

/-- Numbers whose sizes are what they seem. -/
def Q4.sm (q : Q4) : Prop := q.a.natAbs ≤ 9223372036854775807 ∧ q.b.natAbs ≤ 9223372036854775807 ∧ q.c.natAbs ≤ 9223372036854775807 ∧ q.d.natAbs ≤ 9223372036854775807
theorem Q4.sm64 {q : Q4} (h : q.sm) : q.I64 := by
  obtain ⟨a, b, c, d⟩ := h
  exact ⟨⟨by omega, by omega⟩, ⟨by omega, by omega⟩, ⟨by omega, by omega⟩, ⟨by omega, by omega⟩⟩
noncomputable def calI (d : T3) (a b : Q4) : Int := vl (if d.x ≠ 0 then wrap64 (cmp3 (a.a * b.d) (b.a * a.d) * sgn d.x) else if d.y ≠ 0 then wrap64 (cmp3 (a.b * b.d) (b.b * a.d) * sgn d.y) else if d.z ≠ 0 then wrap64 (cmp3 (a.c * b.d) (b.c * a.d) * sgn d.z) else 0)
theorem calI_eq (d : T3) (a b : Q4) : calI d a b = (if d.x ≠ 0 then wrap64 (cmp3 (a.a * b.d) (b.a * a.d) * sgn d.x) else if d.y ≠ 0 then wrap64 (cmp3 (a.b * b.d) (b.b * a.d) * sgn d.y) else if d.z ≠ 0 then wrap64 (cmp3 (a.c * b.d) (b.c * a.d) * sgn d.z) else 0) := vl_eq _
/-- The first so many of the direction are 0. -/
def zTo (d : T3) (k : Nat) : Prop := (0 < k → d.x = 0) ∧ (1 < k → d.y = 0) ∧ (2 < k → d.z = 0)
theorem prods_any (x y z t : Int) (hx : x.natAbs ≤ 9223372036854775807) (hy : y.natAbs ≤ 9223372036854775807) (hz : z.natAbs ≤ 9223372036854775807) (ht : t.natAbs ≤ 9223372036854775807) : ∃ n h l n' h' l',
    (∀ W, Calls Tryz.prog 50 #[.int .i64 x, .int .i64 y] W fun e w' => e = .returned (.agg #[.bool n, .int .u64 h, .int .u64 l]) ∧ Below W.heap.size W w') ∧
    (∀ W, Calls Tryz.prog 50 #[.int .i64 z, .int .i64 t] W fun e w' => e = .returned (.agg #[.bool n', .int .u64 h', .int .u64 l']) ∧ Below W.heap.size W w') ∧
    (∀ W, Calls Tryz.prog 49 #[.agg #[.bool n, .int .u64 h, .int .u64 l], .agg #[.bool n', .int .u64 h', .int .u64 l']] W fun e w' => e = .returned (.int .i64 (cmp3 (x * y) (z * t))) ∧ Below W.heap.size W w') :=
  ⟨_, _, _, _, _, _, fun W => times_any x y W ⟨by omega, by omega⟩ ⟨by omega, by omega⟩, fun W => times_any z t W ⟨by omega, by omega⟩ ⟨by omega, by omega⟩, fun W => by
    have h := compareL_any (tNeg x y) (tHi x y) (tLo x y) (tNeg z t) (tHi z t) (tLo z t) W
    rw [cmpL_times hx hy hz ht] at h; exact h⟩

/-- What is known of the temporaries of CmpAlong's region. -/
def calS (w : World) (k : Nat) (ak bk ad bd dk : Int) (n : Bool) (h l : Int) (n' : Bool) (h' l' c s : Int) (d : Nat) (_ : World) (v : Value) : Prop := match d with
  | 16 => v = .int .i64 k
  | 17 => v = .pointer (some ⟨w.heap.size + 1, k, none⟩)
  | 18 => v = .int .i64 ak
  | 19 => v = .pointer (some ⟨w.heap.size + 1 + 1, 3, none⟩)
  | 20 => v = .int .i64 bd
  | 21 => v = .agg #[.bool n, .int .u64 h, .int .u64 l]
  | 22 => v = .int .i64 k
  | 23 => v = .pointer (some ⟨w.heap.size + 1 + 1, k, none⟩)
  | 24 => v = .int .i64 bk
  | 25 => v = .pointer (some ⟨w.heap.size + 1, 3, none⟩)
  | 26 => v = .int .i64 ad
  | 27 => v = .agg #[.bool n', .int .u64 h', .int .u64 l']
  | 28 => v = .int .i64 c
  | 29 => v = .int .i64 k
  | 30 => v = .pointer (some ⟨w.heap.size, k, none⟩)
  | 31 => v = .int .i64 dk
  | 32 => v = .int .i64 s
  | 33 => v = .int .i64 (IntKind.i64.wrap (c * s))
  | _ => v = .int .i64 (IntKind.i64.wrap (c * s))

set_option maxRecDepth 100000 in
set_option maxHeartbeats 4000000 in
theorem cmpAlong_any (d : T3) (a b : Q4) (w : World) (ha : a.sm) (hb : b.sm) :
    Calls Tryz.prog 27 #[.agg #[.int .i64 (d.x), .int .i64 (d.y), .int .i64 (d.z)], .agg #[.int .i64 (a.a), .int .i64 (a.b), .int .i64 (a.c), .int .i64 (a.d)], .agg #[.int .i64 (b.a), .int .i64 (b.b), .int .i64 (b.c), .int .i64 (b.d)]] w fun e w' => e = .returned (.int .i64 (calI d a b)) ∧ Below w.heap.size w w' := by
  have HV := Lib.hid (calI_eq d a b)
  generalize calI d a b = r at HV ⊢
  go_enter Tryz.func27, Tryz.ntmps27
  have hE : ∀ W, Fr 3 [(0, .cells #[.int .i64 (d.x), .int .i64 (d.y), .int .i64 (d.z)] 24), (1, .cells #[.int .i64 (a.a), .int .i64 (a.b), .int .i64 (a.c), .int .i64 (a.d)] 48), (2, .cells #[.int .i64 (b.a), .int .i64 (b.b), .int .i64 (b.c), .int .i64 (b.d)] 48)] [] w W → (W.cell? ⟨w.heap.size, 0, none⟩ = some (.int .i64 (d.x)) ∧ W.cell? ⟨w.heap.size, 1, none⟩ = some (.int .i64 (d.y)) ∧ W.cell? ⟨w.heap.size, 2, none⟩ = some (.int .i64 (d.z)) ∧ W.cell? ⟨w.heap.size + 1, 0, none⟩ = some (.int .i64 (a.a)) ∧ W.cell? ⟨w.heap.size + 1, 1, none⟩ = some (.int .i64 (a.b)) ∧ W.cell? ⟨w.heap.size + 1, 2, none⟩ = some (.int .i64 (a.c)) ∧ W.cell? ⟨w.heap.size + 1, 3, none⟩ = some (.int .i64 (a.d)) ∧ W.cell? ⟨w.heap.size + 2, 0, none⟩ = some (.int .i64 (b.a)) ∧ W.cell? ⟨w.heap.size + 2, 1, none⟩ = some (.int .i64 (b.b)) ∧ W.cell? ⟨w.heap.size + 2, 2, none⟩ = some (.int .i64 (b.c)) ∧ W.cell? ⟨w.heap.size + 2, 3, none⟩ = some (.int .i64 (b.d))) := fun W h => by (repeat' apply And.intro) <;> first | exact h.at0 rfl | exact h.at rfl | exact (h.rms0 rfl).cell | exact (h.rms rfl).cell | exact (h.rms0 rfl).frozen | exact (h.rms rfl).frozen
  have HE := Lib.hid hE
  clear hE
  go_wp2
  go_loopw [7] (fun v wr => ∃ k : Nat, k ≤ 3 ∧ v = .int .i64 k ∧ Fr 3 [(0, .cells #[.int .i64 (d.x), .int .i64 (d.y), .int .i64 (d.z)] 24), (1, .cells #[.int .i64 (a.a), .int .i64 (a.b), .int .i64 (a.c), .int .i64 (a.d)] 48), (2, .cells #[.int .i64 (b.a), .int .i64 (b.b), .int .i64 (b.c), .int .i64 (b.d)] 48)] [] w wr ∧ zTo d k) (fun v _ => 3 - (intOf v).toNat)
  case atStart => exact ⟨0, by omega, rfl, ((((Fr.nil w).fixed (by simp) (.cells #[.int .i64 (d.x), .int .i64 (d.y), .int .i64 (d.z)] 24)).fixed (by simp) (.cells #[.int .i64 (a.a), .int .i64 (a.b), .int .i64 (a.c), .int .i64 (a.d)] 48)).fixed (by simp) (.cells #[.int .i64 (b.a), .int .i64 (b.b), .int .i64 (b.c), .int .i64 (b.d)] 48)), by omega, by omega, by omega⟩
  case round =>
    rename_i wr
    obtain ⟨k, hk, rfl, hF, hr⟩ := hrel
    match k, hk with
    | 0, _ =>
      have hqr := HE.out _ hF
      by_cases hz : d.x = 0
      · have HZ := Lib.hid hz
        have HR := Lib.hid hr
        have HF := Lib.hid hF
        clear hr hF
        go_wp2
        go_roundw
        case rel => exact ⟨1, by omega, by go_num, HF.out, fun _ => HZ.out, by omega, by omega⟩
        case measure => simp [intOf]
      · have HN : Hid (r = wrap64 (cmp3 (a.a * b.d) (b.a * a.d) * sgn d.x)) := by unfold Hid; rw [HV.out, if_pos hz]
        have hz1 : (d.x != 0) = true := by simpa using hz
        obtain ⟨n, h, l, n', h', l', q1, q2, q3⟩ := prods_any a.a b.d b.a a.d ha.1 hb.2.2.2 hb.1 ha.2.2.2
        have HT1 := Lib.hid q1
        have HT2 := Lib.hid q2
        have HCM := Lib.hid q3
        have HSG : Hid (∀ W, Calls Tryz.prog 12 #[.int .i64 d.x] W fun e w' => e = .returned (.int .i64 (sgn d.x)) ∧ W = w') := fun W => psign_any _ W
        generalize cmp3 (a.a * b.d) (b.a * a.d) = c at HN HCM
        generalize sgn d.x = s at HN HSG
        have HF := Lib.hid hF
        clear q1 q2 q3 hr ha hb hF
        go_wp2
        refine wp_region_inv (by kernel_rfl) (by kernel_rfl) (fun listed aa wy => ∃ t : Nat → Value, aa = { tmps := #[.agg #[.int .i64 (d.x), .int .i64 (d.y), .int .i64 (d.z)], .agg #[.int .i64 (a.a), .int .i64 (a.b), .int .i64 (a.c), .int .i64 (a.d)], .agg #[.int .i64 (b.a), .int .i64 (b.b), .int .i64 (b.c), .int .i64 (b.d)], .pointer (some ⟨w.heap.size, 0, none⟩), .pointer (some ⟨w.heap.size + 1, 0, none⟩), .pointer (some ⟨w.heap.size + 1 + 1, 0, none⟩), t 6, .int .i64 0, .int .i64 0, .bool true, u10, u11, .int .i64 0, .pointer (some ⟨w.heap.size, 0, none⟩), .int .i64 d.x, .bool true, t 16, t 17, t 18, t 19, t 20, t 21, t 22, t 23, t 24, t 25, t 26, t 27, t 28, t 29, t 30, t 31, t 32, t 33], defers := [] } ∧ IR (fun W => Fr 3 [(0, .cells #[.int .i64 (d.x), .int .i64 (d.y), .int .i64 (d.z)] 24), (1, .cells #[.int .i64 (a.a), .int .i64 (a.b), .int .i64 (a.c), .int .i64 (a.d)] 48), (2, .cells #[.int .i64 (b.a), .int .i64 (b.b), .int .i64 (b.c), .int .i64 (b.d)] 48)] [] w W) (calS w 0 a.a b.a a.d b.d d.x n h l n' h' l' c s) [(0, 16), (1, 17), (2, 18), (3, 19), (4, 20), (5, 21), (6, 22), (7, 23), (8, 24), (9, 25), (10, 26), (11, 27), (12, 28), (13, 29), (14, 30), (15, 31), (16, 32), (17, 33), (18, 6)] listed t wy) ⟨(fun d => match d with | 16 => u16 | 17 => u17 | 18 => u18 | 19 => u19 | 20 => u20 | 21 => u21 | 22 => u22 | 23 => u23 | 24 => u24 | 25 => u25 | 26 => u26 | 27 => u27 | 28 => u28 | 29 => u29 | 30 => u30 | 31 => u31 | 32 => u32 | 33 => u33 | 6 => u6 | _ => undef), rfl, IR.start _ HF.out.drew _⟩ ?_ ?_
        rotate_left
        · rintro listed hs i hi aa wy ⟨t, rfl, hR⟩ hr
          match i, hi, hr with
          | 0, _, hr =>
            as_aux_lemma =>
            refine wpOp_step rfl (fun K' hK => ?_)
            go_simp
            exact hK _ _ ⟨upd t 16 _, rfl, hR.yields hR.fin (fun _ _ h => h) rfl rfl⟩
          | 1, _, hr =>
            as_aux_lemma =>
            refine wpOp_step rfl (fun K' hK => ?_)
            have e1 : t 16 = .int .i64 0 := hR.val (0, 16) (by simp) (dep_of hr 0 (by kernel_rfl))
            go_simp
            exact hK _ _ ⟨upd t 17 _, by simp [upd, e1], hR.yields hR.fin (fun _ _ h => h) rfl rfl⟩
          | 2, _, hr =>
            as_aux_lemma =>
            refine wpOp_step rfl (fun K' hK => ?_)
            have e1 : t 17 = .pointer (some ⟨w.heap.size + 1, 0, none⟩) := hR.val (1, 17) (by simp) (dep_of hr 1 (by kernel_rfl))
            have hq := HE.out _ hR.fin
            go_simp
            exact hK _ _ ⟨upd t 18 _, by simp [upd, e1], hR.yields hR.fin (fun _ _ h => h) rfl rfl⟩
          | 3, _, hr =>
            as_aux_lemma =>
            refine wpOp_step rfl (fun K' hK => ?_)
            go_simp
            exact hK _ _ ⟨upd t 19 _, rfl, hR.yields hR.fin (fun _ _ h => h) rfl rfl⟩
          | 4, _, hr =>
            as_aux_lemma =>
            refine wpOp_step rfl (fun K' hK => ?_)
            have e1 : t 19 = .pointer (some ⟨w.heap.size + 1 + 1, 3, none⟩) := hR.val (3, 19) (by simp) (dep_of hr 3 (by kernel_rfl))
            have hq := HE.out _ hR.fin
            go_simp
            exact hK _ _ ⟨upd t 20 _, by simp [upd, e1], hR.yields hR.fin (fun _ _ h => h) rfl rfl⟩
          | 5, _, hr =>
            as_aux_lemma =>
            refine wpOp_step rfl (fun K' hK => ?_)
            have e1 : t 18 = .int .i64 a.a := hR.val (2, 18) (by simp) (dep_of hr 2 (by kernel_rfl))
            have e2 : t 20 = .int .i64 b.d := hR.val (4, 20) (by simp) (dep_of hr 4 (by kernel_rfl))
            have HR := Lib.hid hR.fin
            go_simp
            refine (HT1.out _).mono ?_
            rintro e w1 ⟨rfl, hb⟩
            exact hK _ _ ⟨upd t 21 _, by simp [upd, e1, e2], hR.yields (HR.out.call hb) (fun _ _ h => h) rfl rfl⟩
          | 6, _, hr =>
            as_aux_lemma =>
            refine wpOp_step rfl (fun K' hK => ?_)
            go_simp
            exact hK _ _ ⟨upd t 22 _, rfl, hR.yields hR.fin (fun _ _ h => h) rfl rfl⟩
          | 7, _, hr =>
            as_aux_lemma =>
            refine wpOp_step rfl (fun K' hK => ?_)
            have e1 : t 22 = .int .i64 0 := hR.val (6, 22) (by simp) (dep_of hr 6 (by kernel_rfl))
            go_simp
            exact hK _ _ ⟨upd t 23 _, by simp [upd, e1], hR.yields hR.fin (fun _ _ h => h) rfl rfl⟩
          | 8, _, hr =>
            as_aux_lemma =>
            refine wpOp_step rfl (fun K' hK => ?_)
            have e1 : t 23 = .pointer (some ⟨w.heap.size + 1 + 1, 0, none⟩) := hR.val (7, 23) (by simp) (dep_of hr 7 (by kernel_rfl))
            have hq := HE.out _ hR.fin
            go_simp
            exact hK _ _ ⟨upd t 24 _, by simp [upd, e1], hR.yields hR.fin (fun _ _ h => h) rfl rfl⟩
          | 9, _, hr =>
            as_aux_lemma =>
            refine wpOp_step rfl (fun K' hK => ?_)
            go_simp
            exact hK _ _ ⟨upd t 25 _, rfl, hR.yields hR.fin (fun _ _ h => h) rfl rfl⟩
          | 10, _, hr =>
            as_aux_lemma =>
            refine wpOp_step rfl (fun K' hK => ?_)
            have e1 : t 25 = .pointer (some ⟨w.heap.size + 1, 3, none⟩) := hR.val (9, 25) (by simp) (dep_of hr 9 (by kernel_rfl))
            have hq := HE.out _ hR.fin
            go_simp
            exact hK _ _ ⟨upd t 26 _, by simp [upd, e1], hR.yields hR.fin (fun _ _ h => h) rfl rfl⟩
          | 11, _, hr =>
            as_aux_lemma =>
            refine wpOp_step rfl (fun K' hK => ?_)
            have e1 : t 24 = .int .i64 b.a := hR.val (8, 24) (by simp) (dep_of hr 8 (by kernel_rfl))
            have e2 : t 26 = .int .i64 a.d := hR.val (10, 26) (by simp) (dep_of hr 10 (by kernel_rfl))
            have HR := Lib.hid hR.fin
            go_simp
            refine (HT2.out _).mono ?_
            rintro e w1 ⟨rfl, hb⟩
            exact hK _ _ ⟨upd t 27 _, by simp [upd, e1, e2], hR.yields (HR.out.call hb) (fun _ _ h => h) rfl rfl⟩
          | 12, _, hr =>
            as_aux_lemma =>
            refine wpOp_step rfl (fun K' hK => ?_)
            have e1 : t 21 = .agg #[.bool n, .int .u64 h, .int .u64 l] := hR.val (5, 21) (by simp) (dep_of hr 5 (by kernel_rfl))
            have e2 : t 27 = .agg #[.bool n', .int .u64 h', .int .u64 l'] := hR.val (11, 27) (by simp) (dep_of hr 11 (by kernel_rfl))
            have HR := Lib.hid hR.fin
            go_simp
            refine (HCM.out _).mono ?_
            rintro e w1 ⟨rfl, hb⟩
            exact hK _ _ ⟨upd t 28 _, by simp [upd, e1, e2], hR.yields (HR.out.call hb) (fun _ _ h => h) rfl rfl⟩
          | 13, _, hr =>
            as_aux_lemma =>
            refine wpOp_step rfl (fun K' hK => ?_)
            go_simp
            exact hK _ _ ⟨upd t 29 _, rfl, hR.yields hR.fin (fun _ _ h => h) rfl rfl⟩
          | 14, _, hr =>
            as_aux_lemma =>
            refine wpOp_step rfl (fun K' hK => ?_)
            have e1 : t 29 = .int .i64 0 := hR.val (13, 29) (by simp) (dep_of hr 13 (by kernel_rfl))
            go_simp
            exact hK _ _ ⟨upd t 30 _, by simp [upd, e1], hR.yields hR.fin (fun _ _ h => h) rfl rfl⟩
          | 15, _, hr =>
            as_aux_lemma =>
            refine wpOp_step rfl (fun K' hK => ?_)
            have e1 : t 30 = .pointer (some ⟨w.heap.size, 0, none⟩) := hR.val (14, 30) (by simp) (dep_of hr 14 (by kernel_rfl))
            have hq := HE.out _ hR.fin
            go_simp
            exact hK _ _ ⟨upd t 31 _, by simp [upd, e1], hR.yields hR.fin (fun _ _ h => h) rfl rfl⟩
          | 16, _, hr =>
            as_aux_lemma =>
            refine wpOp_step rfl (fun K' hK => ?_)
            have e1 : t 31 = .int .i64 d.x := hR.val (15, 31) (by simp) (dep_of hr 15 (by kernel_rfl))
            have HR := Lib.hid hR.fin
            go_simp
            refine (HSG.out _).mono ?_
            rintro e w1 ⟨rfl, rfl⟩
            exact hK _ _ ⟨upd t 32 _, by simp [upd, e1], hR.yields HR.out (fun _ _ h => h) rfl rfl⟩
          | 17, _, hr =>
            as_aux_lemma =>
            refine wpOp_step rfl (fun K' hK => ?_)
            have e1 : t 28 = .int .i64 c := hR.val (12, 28) (by simp) (dep_of hr 12 (by kernel_rfl))
            have e2 : t 32 = .int .i64 s := hR.val (16, 32) (by simp) (dep_of hr 16 (by kernel_rfl))
            go_simp
            exact hK _ _ ⟨upd t 33 _, by simp [upd, e1, e2], hR.yields hR.fin (fun _ _ h => h) rfl rfl⟩
          | 18, _, hr =>
            as_aux_lemma =>
            refine wpOp_step rfl (fun K' hK => ?_)
            have e1 : t 33 = .int .i64 (IntKind.i64.wrap (c * s)) := hR.val (17, 33) (by simp) (dep_of hr 17 (by kernel_rfl))
            go_simp
            exact hK _ _ ⟨upd t 6 _, by simp [upd, e1], hR.yields hR.fin (fun _ _ h => h) rfl rfl⟩
          | n + 19, hi, _ => exact absurd (show n + 19 < 19 from hi) (by omega)
        rintro listed a2 W2 ⟨t, rfl, hR⟩ hl
        have e1 : t 6 = .int .i64 (IntKind.i64.wrap (c * s)) := hR.val (18, 6) (by simp) (hl 18 (by decide))
        have HX := Lib.hid hR.fin
        clear hR hl
        generalize t 6 = v6 at e1 ⊢
        subst e1
        go_wp2
        go_ret
        exact ⟨ret_int (by rw [HN.out, IntKind.wrap_i64]; unfold wrap64; omega), HX.out.own.below⟩
    | 1, _ =>
      have hqr := HE.out _ hF
      by_cases hz : d.y = 0
      · have HZ := Lib.hid hz
        have HR := Lib.hid hr
        have HF := Lib.hid hF
        clear hr hF
        go_wp2
        go_roundw
        case rel => exact ⟨2, by omega, by go_num, HF.out, fun _ => HR.out.1 (by omega), fun _ => HZ.out, by omega⟩
        case measure => simp [intOf]
      · have HN : Hid (r = wrap64 (cmp3 (a.b * b.d) (b.b * a.d) * sgn d.y)) := by unfold Hid; rw [HV.out, if_neg (by simp [hr.1 (by omega)]), if_pos hz]
        have hz1 : (d.y != 0) = true := by simpa using hz
        obtain ⟨n, h, l, n', h', l', q1, q2, q3⟩ := prods_any a.b b.d b.b a.d ha.2.1 hb.2.2.2 hb.2.1 ha.2.2.2
        have HT1 := Lib.hid q1
        have HT2 := Lib.hid q2
        have HCM := Lib.hid q3
        have HSG : Hid (∀ W, Calls Tryz.prog 12 #[.int .i64 d.y] W fun e w' => e = .returned (.int .i64 (sgn d.y)) ∧ W = w') := fun W => psign_any _ W
        generalize cmp3 (a.b * b.d) (b.b * a.d) = c at HN HCM
        generalize sgn d.y = s at HN HSG
        have HF := Lib.hid hF
        clear q1 q2 q3 hr ha hb hF
        go_wp2
        refine wp_region_inv (by kernel_rfl) (by kernel_rfl) (fun listed aa wy => ∃ t : Nat → Value, aa = { tmps := #[.agg #[.int .i64 (d.x), .int .i64 (d.y), .int .i64 (d.z)], .agg #[.int .i64 (a.a), .int .i64 (a.b), .int .i64 (a.c), .int .i64 (a.d)], .agg #[.int .i64 (b.a), .int .i64 (b.b), .int .i64 (b.c), .int .i64 (b.d)], .pointer (some ⟨w.heap.size, 0, none⟩), .pointer (some ⟨w.heap.size + 1, 0, none⟩), .pointer (some ⟨w.heap.size + 1 + 1, 0, none⟩), t 6, .int .i64 1, .int .i64 1, .bool true, u10, u11, .int .i64 1, .pointer (some ⟨w.heap.size, 1, none⟩), .int .i64 d.y, .bool true, t 16, t 17, t 18, t 19, t 20, t 21, t 22, t 23, t 24, t 25, t 26, t 27, t 28, t 29, t 30, t 31, t 32, t 33], defers := [] } ∧ IR (fun W => Fr 3 [(0, .cells #[.int .i64 (d.x), .int .i64 (d.y), .int .i64 (d.z)] 24), (1, .cells #[.int .i64 (a.a), .int .i64 (a.b), .int .i64 (a.c), .int .i64 (a.d)] 48), (2, .cells #[.int .i64 (b.a), .int .i64 (b.b), .int .i64 (b.c), .int .i64 (b.d)] 48)] [] w W) (calS w 1 a.b b.b a.d b.d d.y n h l n' h' l' c s) [(0, 16), (1, 17), (2, 18), (3, 19), (4, 20), (5, 21), (6, 22), (7, 23), (8, 24), (9, 25), (10, 26), (11, 27), (12, 28), (13, 29), (14, 30), (15, 31), (16, 32), (17, 33), (18, 6)] listed t wy) ⟨(fun d => match d with | 16 => u16 | 17 => u17 | 18 => u18 | 19 => u19 | 20 => u20 | 21 => u21 | 22 => u22 | 23 => u23 | 24 => u24 | 25 => u25 | 26 => u26 | 27 => u27 | 28 => u28 | 29 => u29 | 30 => u30 | 31 => u31 | 32 => u32 | 33 => u33 | 6 => u6 | _ => undef), rfl, IR.start _ HF.out.drew _⟩ ?_ ?_
        rotate_left
        · rintro listed hs i hi aa wy ⟨t, rfl, hR⟩ hr
          match i, hi, hr with
          | 0, _, hr =>
            as_aux_lemma =>
            refine wpOp_step rfl (fun K' hK => ?_)
            go_simp
            exact hK _ _ ⟨upd t 16 _, rfl, hR.yields hR.fin (fun _ _ h => h) rfl rfl⟩
          | 1, _, hr =>
            as_aux_lemma =>
            refine wpOp_step rfl (fun K' hK => ?_)
            have e1 : t 16 = .int .i64 1 := hR.val (0, 16) (by simp) (dep_of hr 0 (by kernel_rfl))
            go_simp
            exact hK _ _ ⟨upd t 17 _, by simp [upd, e1], hR.yields hR.fin (fun _ _ h => h) rfl rfl⟩
          | 2, _, hr =>
            as_aux_lemma =>
            refine wpOp_step rfl (fun K' hK => ?_)
            have e1 : t 17 = .pointer (some ⟨w.heap.size + 1, 1, none⟩) := hR.val (1, 17) (by simp) (dep_of hr 1 (by kernel_rfl))
            have hq := HE.out _ hR.fin
            go_simp
            exact hK _ _ ⟨upd t 18 _, by simp [upd, e1], hR.yields hR.fin (fun _ _ h => h) rfl rfl⟩
          | 3, _, hr =>
            as_aux_lemma =>
            refine wpOp_step rfl (fun K' hK => ?_)
            go_simp
            exact hK _ _ ⟨upd t 19 _, rfl, hR.yields hR.fin (fun _ _ h => h) rfl rfl⟩
          | 4, _, hr =>
            as_aux_lemma =>
            refine wpOp_step rfl (fun K' hK => ?_)
            have e1 : t 19 = .pointer (some ⟨w.heap.size + 1 + 1, 3, none⟩) := hR.val (3, 19) (by simp) (dep_of hr 3 (by kernel_rfl))
            have hq := HE.out _ hR.fin
            go_simp
            exact hK _ _ ⟨upd t 20 _, by simp [upd, e1], hR.yields hR.fin (fun _ _ h => h) rfl rfl⟩
          | 5, _, hr =>
            as_aux_lemma =>
            refine wpOp_step rfl (fun K' hK => ?_)
            have e1 : t 18 = .int .i64 a.b := hR.val (2, 18) (by simp) (dep_of hr 2 (by kernel_rfl))
            have e2 : t 20 = .int .i64 b.d := hR.val (4, 20) (by simp) (dep_of hr 4 (by kernel_rfl))
            have HR := Lib.hid hR.fin
            go_simp
            refine (HT1.out _).mono ?_
            rintro e w1 ⟨rfl, hb⟩
            exact hK _ _ ⟨upd t 21 _, by simp [upd, e1, e2], hR.yields (HR.out.call hb) (fun _ _ h => h) rfl rfl⟩
          | 6, _, hr =>
            as_aux_lemma =>
            refine wpOp_step rfl (fun K' hK => ?_)
            go_simp
            exact hK _ _ ⟨upd t 22 _, rfl, hR.yields hR.fin (fun _ _ h => h) rfl rfl⟩
          | 7, _, hr =>
            as_aux_lemma =>
            refine wpOp_step rfl (fun K' hK => ?_)
            have e1 : t 22 = .int .i64 1 := hR.val (6, 22) (by simp) (dep_of hr 6 (by kernel_rfl))
            go_simp
            exact hK _ _ ⟨upd t 23 _, by simp [upd, e1], hR.yields hR.fin (fun _ _ h => h) rfl rfl⟩
          | 8, _, hr =>
            as_aux_lemma =>
            refine wpOp_step rfl (fun K' hK => ?_)
            have e1 : t 23 = .pointer (some ⟨w.heap.size + 1 + 1, 1, none⟩) := hR.val (7, 23) (by simp) (dep_of hr 7 (by kernel_rfl))
            have hq := HE.out _ hR.fin
            go_simp
            exact hK _ _ ⟨upd t 24 _, by simp [upd, e1], hR.yields hR.fin (fun _ _ h => h) rfl rfl⟩
          | 9, _, hr =>
            as_aux_lemma =>
            refine wpOp_step rfl (fun K' hK => ?_)
            go_simp
            exact hK _ _ ⟨upd t 25 _, rfl, hR.yields hR.fin (fun _ _ h => h) rfl rfl⟩
          | 10, _, hr =>
            as_aux_lemma =>
            refine wpOp_step rfl (fun K' hK => ?_)
            have e1 : t 25 = .pointer (some ⟨w.heap.size + 1, 3, none⟩) := hR.val (9, 25) (by simp) (dep_of hr 9 (by kernel_rfl))
            have hq := HE.out _ hR.fin
            go_simp
            exact hK _ _ ⟨upd t 26 _, by simp [upd, e1], hR.yields hR.fin (fun _ _ h => h) rfl rfl⟩
          | 11, _, hr =>
            as_aux_lemma =>
            refine wpOp_step rfl (fun K' hK => ?_)
            have e1 : t 24 = .int .i64 b.b := hR.val (8, 24) (by simp) (dep_of hr 8 (by kernel_rfl))
            have e2 : t 26 = .int .i64 a.d := hR.val (10, 26) (by simp) (dep_of hr 10 (by kernel_rfl))
            have HR := Lib.hid hR.fin
            go_simp
            refine (HT2.out _).mono ?_
            rintro e w1 ⟨rfl, hb⟩
            exact hK _ _ ⟨upd t 27 _, by simp [upd, e1, e2], hR.yields (HR.out.call hb) (fun _ _ h => h) rfl rfl⟩
          | 12, _, hr =>
            as_aux_lemma =>
            refine wpOp_step rfl (fun K' hK => ?_)
            have e1 : t 21 = .agg #[.bool n, .int .u64 h, .int .u64 l] := hR.val (5, 21) (by simp) (dep_of hr 5 (by kernel_rfl))
            have e2 : t 27 = .agg #[.bool n', .int .u64 h', .int .u64 l'] := hR.val (11, 27) (by simp) (dep_of hr 11 (by kernel_rfl))
            have HR := Lib.hid hR.fin
            go_simp
            refine (HCM.out _).mono ?_
            rintro e w1 ⟨rfl, hb⟩
            exact hK _ _ ⟨upd t 28 _, by simp [upd, e1, e2], hR.yields (HR.out.call hb) (fun _ _ h => h) rfl rfl⟩
          | 13, _, hr =>
            as_aux_lemma =>
            refine wpOp_step rfl (fun K' hK => ?_)
            go_simp
            exact hK _ _ ⟨upd t 29 _, rfl, hR.yields hR.fin (fun _ _ h => h) rfl rfl⟩
          | 14, _, hr =>
            as_aux_lemma =>
            refine wpOp_step rfl (fun K' hK => ?_)
            have e1 : t 29 = .int .i64 1 := hR.val (13, 29) (by simp) (dep_of hr 13 (by kernel_rfl))
            go_simp
            exact hK _ _ ⟨upd t 30 _, by simp [upd, e1], hR.yields hR.fin (fun _ _ h => h) rfl rfl⟩
          | 15, _, hr =>
            as_aux_lemma =>
            refine wpOp_step rfl (fun K' hK => ?_)
            have e1 : t 30 = .pointer (some ⟨w.heap.size, 1, none⟩) := hR.val (14, 30) (by simp) (dep_of hr 14 (by kernel_rfl))
            have hq := HE.out _ hR.fin
            go_simp
            exact hK _ _ ⟨upd t 31 _, by simp [upd, e1], hR.yields hR.fin (fun _ _ h => h) rfl rfl⟩
          | 16, _, hr =>
            as_aux_lemma =>
            refine wpOp_step rfl (fun K' hK => ?_)
            have e1 : t 31 = .int .i64 d.y := hR.val (15, 31) (by simp) (dep_of hr 15 (by kernel_rfl))
            have HR := Lib.hid hR.fin
            go_simp
            refine (HSG.out _).mono ?_
            rintro e w1 ⟨rfl, rfl⟩
            exact hK _ _ ⟨upd t 32 _, by simp [upd, e1], hR.yields HR.out (fun _ _ h => h) rfl rfl⟩
          | 17, _, hr =>
            as_aux_lemma =>
            refine wpOp_step rfl (fun K' hK => ?_)
            have e1 : t 28 = .int .i64 c := hR.val (12, 28) (by simp) (dep_of hr 12 (by kernel_rfl))
            have e2 : t 32 = .int .i64 s := hR.val (16, 32) (by simp) (dep_of hr 16 (by kernel_rfl))
            go_simp
            exact hK _ _ ⟨upd t 33 _, by simp [upd, e1, e2], hR.yields hR.fin (fun _ _ h => h) rfl rfl⟩
          | 18, _, hr =>
            as_aux_lemma =>
            refine wpOp_step rfl (fun K' hK => ?_)
            have e1 : t 33 = .int .i64 (IntKind.i64.wrap (c * s)) := hR.val (17, 33) (by simp) (dep_of hr 17 (by kernel_rfl))
            go_simp
            exact hK _ _ ⟨upd t 6 _, by simp [upd, e1], hR.yields hR.fin (fun _ _ h => h) rfl rfl⟩
          | n + 19, hi, _ => exact absurd (show n + 19 < 19 from hi) (by omega)
        rintro listed a2 W2 ⟨t, rfl, hR⟩ hl
        have e1 : t 6 = .int .i64 (IntKind.i64.wrap (c * s)) := hR.val (18, 6) (by simp) (hl 18 (by decide))
        have HX := Lib.hid hR.fin
        clear hR hl
        generalize t 6 = v6 at e1 ⊢
        subst e1
        go_wp2
        go_ret
        exact ⟨ret_int (by rw [HN.out, IntKind.wrap_i64]; unfold wrap64; omega), HX.out.own.below⟩
    | 2, _ =>
      have hqr := HE.out _ hF
      by_cases hz : d.z = 0
      · have HZ := Lib.hid hz
        have HR := Lib.hid hr
        have HF := Lib.hid hF
        clear hr hF
        go_wp2
        go_roundw
        case rel => exact ⟨3, by omega, by go_num, HF.out, fun _ => HR.out.1 (by omega), fun _ => HR.out.2.1 (by omega), fun _ => HZ.out⟩
        case measure => simp [intOf]
      · have HN : Hid (r = wrap64 (cmp3 (a.c * b.d) (b.c * a.d) * sgn d.z)) := by unfold Hid; rw [HV.out, if_neg (by simp [hr.1 (by omega)]), if_neg (by simp [hr.2.1 (by omega)]), if_pos hz]
        have hz1 : (d.z != 0) = true := by simpa using hz
        obtain ⟨n, h, l, n', h', l', q1, q2, q3⟩ := prods_any a.c b.d b.c a.d ha.2.2.1 hb.2.2.2 hb.2.2.1 ha.2.2.2
        have HT1 := Lib.hid q1
        have HT2 := Lib.hid q2
        have HCM := Lib.hid q3
        have HSG : Hid (∀ W, Calls Tryz.prog 12 #[.int .i64 d.z] W fun e w' => e = .returned (.int .i64 (sgn d.z)) ∧ W = w') := fun W => psign_any _ W
        generalize cmp3 (a.c * b.d) (b.c * a.d) = c at HN HCM
        generalize sgn d.z = s at HN HSG
        have HF := Lib.hid hF
        clear q1 q2 q3 hr ha hb hF
        go_wp2
        refine wp_region_inv (by kernel_rfl) (by kernel_rfl) (fun listed aa wy => ∃ t : Nat → Value, aa = { tmps := #[.agg #[.int .i64 (d.x), .int .i64 (d.y), .int .i64 (d.z)], .agg #[.int .i64 (a.a), .int .i64 (a.b), .int .i64 (a.c), .int .i64 (a.d)], .agg #[.int .i64 (b.a), .int .i64 (b.b), .int .i64 (b.c), .int .i64 (b.d)], .pointer (some ⟨w.heap.size, 0, none⟩), .pointer (some ⟨w.heap.size + 1, 0, none⟩), .pointer (some ⟨w.heap.size + 1 + 1, 0, none⟩), t 6, .int .i64 2, .int .i64 2, .bool true, u10, u11, .int .i64 2, .pointer (some ⟨w.heap.size, 2, none⟩), .int .i64 d.z, .bool true, t 16, t 17, t 18, t 19, t 20, t 21, t 22, t 23, t 24, t 25, t 26, t 27, t 28, t 29, t 30, t 31, t 32, t 33], defers := [] } ∧ IR (fun W => Fr 3 [(0, .cells #[.int .i64 (d.x), .int .i64 (d.y), .int .i64 (d.z)] 24), (1, .cells #[.int .i64 (a.a), .int .i64 (a.b), .int .i64 (a.c), .int .i64 (a.d)] 48), (2, .cells #[.int .i64 (b.a), .int .i64 (b.b), .int .i64 (b.c), .int .i64 (b.d)] 48)] [] w W) (calS w 2 a.c b.c a.d b.d d.z n h l n' h' l' c s) [(0, 16), (1, 17), (2, 18), (3, 19), (4, 20), (5, 21), (6, 22), (7, 23), (8, 24), (9, 25), (10, 26), (11, 27), (12, 28), (13, 29), (14, 30), (15, 31), (16, 32), (17, 33), (18, 6)] listed t wy) ⟨(fun d => match d with | 16 => u16 | 17 => u17 | 18 => u18 | 19 => u19 | 20 => u20 | 21 => u21 | 22 => u22 | 23 => u23 | 24 => u24 | 25 => u25 | 26 => u26 | 27 => u27 | 28 => u28 | 29 => u29 | 30 => u30 | 31 => u31 | 32 => u32 | 33 => u33 | 6 => u6 | _ => undef), rfl, IR.start _ HF.out.drew _⟩ ?_ ?_
        rotate_left
        · rintro listed hs i hi aa wy ⟨t, rfl, hR⟩ hr
          match i, hi, hr with
          | 0, _, hr =>
            as_aux_lemma =>
            refine wpOp_step rfl (fun K' hK => ?_)
            go_simp
            exact hK _ _ ⟨upd t 16 _, rfl, hR.yields hR.fin (fun _ _ h => h) rfl rfl⟩
          | 1, _, hr =>
            as_aux_lemma =>
            refine wpOp_step rfl (fun K' hK => ?_)
            have e1 : t 16 = .int .i64 2 := hR.val (0, 16) (by simp) (dep_of hr 0 (by kernel_rfl))
            go_simp
            exact hK _ _ ⟨upd t 17 _, by simp [upd, e1], hR.yields hR.fin (fun _ _ h => h) rfl rfl⟩
          | 2, _, hr =>
            as_aux_lemma =>
            refine wpOp_step rfl (fun K' hK => ?_)
            have e1 : t 17 = .pointer (some ⟨w.heap.size + 1, 2, none⟩) := hR.val (1, 17) (by simp) (dep_of hr 1 (by kernel_rfl))
            have hq := HE.out _ hR.fin
            go_simp
            exact hK _ _ ⟨upd t 18 _, by simp [upd, e1], hR.yields hR.fin (fun _ _ h => h) rfl rfl⟩
          | 3, _, hr =>
            as_aux_lemma =>
            refine wpOp_step rfl (fun K' hK => ?_)
            go_simp
            exact hK _ _ ⟨upd t 19 _, rfl, hR.yields hR.fin (fun _ _ h => h) rfl rfl⟩
          | 4, _, hr =>
            as_aux_lemma =>
            refine wpOp_step rfl (fun K' hK => ?_)
            have e1 : t 19 = .pointer (some ⟨w.heap.size + 1 + 1, 3, none⟩) := hR.val (3, 19) (by simp) (dep_of hr 3 (by kernel_rfl))
            have hq := HE.out _ hR.fin
            go_simp
            exact hK _ _ ⟨upd t 20 _, by simp [upd, e1], hR.yields hR.fin (fun _ _ h => h) rfl rfl⟩
          | 5, _, hr =>
            as_aux_lemma =>
            refine wpOp_step rfl (fun K' hK => ?_)
            have e1 : t 18 = .int .i64 a.c := hR.val (2, 18) (by simp) (dep_of hr 2 (by kernel_rfl))
            have e2 : t 20 = .int .i64 b.d := hR.val (4, 20) (by simp) (dep_of hr 4 (by kernel_rfl))
            have HR := Lib.hid hR.fin
            go_simp
            refine (HT1.out _).mono ?_
            rintro e w1 ⟨rfl, hb⟩
            exact hK _ _ ⟨upd t 21 _, by simp [upd, e1, e2], hR.yields (HR.out.call hb) (fun _ _ h => h) rfl rfl⟩
          | 6, _, hr =>
            as_aux_lemma =>
            refine wpOp_step rfl (fun K' hK => ?_)
            go_simp
            exact hK _ _ ⟨upd t 22 _, rfl, hR.yields hR.fin (fun _ _ h => h) rfl rfl⟩
          | 7, _, hr =>
            as_aux_lemma =>
            refine wpOp_step rfl (fun K' hK => ?_)
            have e1 : t 22 = .int .i64 2 := hR.val (6, 22) (by simp) (dep_of hr 6 (by kernel_rfl))
            go_simp
            exact hK _ _ ⟨upd t 23 _, by simp [upd, e1], hR.yields hR.fin (fun _ _ h => h) rfl rfl⟩
          | 8, _, hr =>
            as_aux_lemma =>
            refine wpOp_step rfl (fun K' hK => ?_)
            have e1 : t 23 = .pointer (some ⟨w.heap.size + 1 + 1, 2, none⟩) := hR.val (7, 23) (by simp) (dep_of hr 7 (by kernel_rfl))
            have hq := HE.out _ hR.fin
            go_simp
            exact hK _ _ ⟨upd t 24 _, by simp [upd, e1], hR.yields hR.fin (fun _ _ h => h) rfl rfl⟩
          | 9, _, hr =>
            as_aux_lemma =>
            refine wpOp_step rfl (fun K' hK => ?_)
            go_simp
            exact hK _ _ ⟨upd t 25 _, rfl, hR.yields hR.fin (fun _ _ h => h) rfl rfl⟩
          | 10, _, hr =>
            as_aux_lemma =>
            refine wpOp_step rfl (fun K' hK => ?_)
            have e1 : t 25 = .pointer (some ⟨w.heap.size + 1, 3, none⟩) := hR.val (9, 25) (by simp) (dep_of hr 9 (by kernel_rfl))
            have hq := HE.out _ hR.fin
            go_simp
            exact hK _ _ ⟨upd t 26 _, by simp [upd, e1], hR.yields hR.fin (fun _ _ h => h) rfl rfl⟩
          | 11, _, hr =>
            as_aux_lemma =>
            refine wpOp_step rfl (fun K' hK => ?_)
            have e1 : t 24 = .int .i64 b.c := hR.val (8, 24) (by simp) (dep_of hr 8 (by kernel_rfl))
            have e2 : t 26 = .int .i64 a.d := hR.val (10, 26) (by simp) (dep_of hr 10 (by kernel_rfl))
            have HR := Lib.hid hR.fin
            go_simp
            refine (HT2.out _).mono ?_
            rintro e w1 ⟨rfl, hb⟩
            exact hK _ _ ⟨upd t 27 _, by simp [upd, e1, e2], hR.yields (HR.out.call hb) (fun _ _ h => h) rfl rfl⟩
          | 12, _, hr =>
            as_aux_lemma =>
            refine wpOp_step rfl (fun K' hK => ?_)
            have e1 : t 21 = .agg #[.bool n, .int .u64 h, .int .u64 l] := hR.val (5, 21) (by simp) (dep_of hr 5 (by kernel_rfl))
            have e2 : t 27 = .agg #[.bool n', .int .u64 h', .int .u64 l'] := hR.val (11, 27) (by simp) (dep_of hr 11 (by kernel_rfl))
            have HR := Lib.hid hR.fin
            go_simp
            refine (HCM.out _).mono ?_
            rintro e w1 ⟨rfl, hb⟩
            exact hK _ _ ⟨upd t 28 _, by simp [upd, e1, e2], hR.yields (HR.out.call hb) (fun _ _ h => h) rfl rfl⟩
          | 13, _, hr =>
            as_aux_lemma =>
            refine wpOp_step rfl (fun K' hK => ?_)
            go_simp
            exact hK _ _ ⟨upd t 29 _, rfl, hR.yields hR.fin (fun _ _ h => h) rfl rfl⟩
          | 14, _, hr =>
            as_aux_lemma =>
            refine wpOp_step rfl (fun K' hK => ?_)
            have e1 : t 29 = .int .i64 2 := hR.val (13, 29) (by simp) (dep_of hr 13 (by kernel_rfl))
            go_simp
            exact hK _ _ ⟨upd t 30 _, by simp [upd, e1], hR.yields hR.fin (fun _ _ h => h) rfl rfl⟩
          | 15, _, hr =>
            as_aux_lemma =>
            refine wpOp_step rfl (fun K' hK => ?_)
            have e1 : t 30 = .pointer (some ⟨w.heap.size, 2, none⟩) := hR.val (14, 30) (by simp) (dep_of hr 14 (by kernel_rfl))
            have hq := HE.out _ hR.fin
            go_simp
            exact hK _ _ ⟨upd t 31 _, by simp [upd, e1], hR.yields hR.fin (fun _ _ h => h) rfl rfl⟩
          | 16, _, hr =>
            as_aux_lemma =>
            refine wpOp_step rfl (fun K' hK => ?_)
            have e1 : t 31 = .int .i64 d.z := hR.val (15, 31) (by simp) (dep_of hr 15 (by kernel_rfl))
            have HR := Lib.hid hR.fin
            go_simp
            refine (HSG.out _).mono ?_
            rintro e w1 ⟨rfl, rfl⟩
            exact hK _ _ ⟨upd t 32 _, by simp [upd, e1], hR.yields HR.out (fun _ _ h => h) rfl rfl⟩
          | 17, _, hr =>
            as_aux_lemma =>
            refine wpOp_step rfl (fun K' hK => ?_)
            have e1 : t 28 = .int .i64 c := hR.val (12, 28) (by simp) (dep_of hr 12 (by kernel_rfl))
            have e2 : t 32 = .int .i64 s := hR.val (16, 32) (by simp) (dep_of hr 16 (by kernel_rfl))
            go_simp
            exact hK _ _ ⟨upd t 33 _, by simp [upd, e1, e2], hR.yields hR.fin (fun _ _ h => h) rfl rfl⟩
          | 18, _, hr =>
            as_aux_lemma =>
            refine wpOp_step rfl (fun K' hK => ?_)
            have e1 : t 33 = .int .i64 (IntKind.i64.wrap (c * s)) := hR.val (17, 33) (by simp) (dep_of hr 17 (by kernel_rfl))
            go_simp
            exact hK _ _ ⟨upd t 6 _, by simp [upd, e1], hR.yields hR.fin (fun _ _ h => h) rfl rfl⟩
          | n + 19, hi, _ => exact absurd (show n + 19 < 19 from hi) (by omega)
        rintro listed a2 W2 ⟨t, rfl, hR⟩ hl
        have e1 : t 6 = .int .i64 (IntKind.i64.wrap (c * s)) := hR.val (18, 6) (by simp) (hl 18 (by decide))
        have HX := Lib.hid hR.fin
        clear hR hl
        generalize t 6 = v6 at e1 ⊢
        subst e1
        go_wp2
        go_ret
        exact ⟨ret_int (by rw [HN.out, IntKind.wrap_i64]; unfold wrap64; omega), HX.out.own.below⟩
    | 3, _ =>
      have HN : Hid (r = 0) := by unfold Hid; rw [HV.out]; simp [hr.1 (by omega), hr.2.1 (by omega), hr.2.2 (by omega)]
      clear hr
      go_wp2
      go_ret
      exact ⟨ret_int (by rw [HN.out]), hF.own.below⟩

end Go.Proofs.YtaoedfegakpjeabGreat
