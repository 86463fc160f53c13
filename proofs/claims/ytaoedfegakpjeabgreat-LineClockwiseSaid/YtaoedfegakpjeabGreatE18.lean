/- Contracts of the functions that the statement reaches, and plain lemmas: part 18 of 18. -/
import Derived.Test.YtaoedfegakpjeabGreatE16
import Derived.Test.YtaoedfegakpjeabGreatE13
import Derived.Test.YtaoedfegakpjeabGreatE17
import Derived.Deep.CutRange
import Derived.Deep.DeepCutAuto

namespace Go.Proofs.YtaoedfegakpjeabGreat
open Go.RowKit

theorem info24v : (Tryz.prog.info? 24).map (fun i => (i.zero, i.size, i.bytes)) = some (some (.agg #[.int .i64 0, .int .i64 0, .int .i64 0]), 3, 24) := by kernel_rfl
theorem way_q (p : Q4) (u : T3) (W : World) : Calls Tryz.prog 20 #[.agg #[.int .i64 (p.a), .int .i64 (p.b), .int .i64 (p.c), .int .i64 (p.d)], .agg #[.int .i64 (u.x), .int .i64 (u.y), .int .i64 (u.z)]] W fun e w' => e = .returned (.bool (wayB p u)) ∧ Below W.heap.size W w' := by exact way_any p u W

theorem flat3_one (l : List T3) : ∀ u ∈ flat3 l, u.oneCell' = true := by
  intro u hu
  simp only [flat3, List.mem_flatMap, List.mem_cons, List.not_mem_nil, or_false] at hu
  obtain ⟨q, _, rfl | rfl | rfl⟩ := hu <;> rfl

theorem flat_i64 : (⟨0, 0, 1, 0⟩ : Q4).I64 := by refine ⟨⟨?_, ?_⟩, ⟨?_, ?_⟩, ⟨?_, ?_⟩, ⟨?_, ?_⟩⟩ <;> decide
/-- What is known of the temporaries of the region that turns an element. -/
def clwS (q : Q4) (V : Value) (g m : Nat) (d : Nat) (_ : World) (v : Value) : Prop := match d with
  | 102 => v = V
  | 103 => v = .int .i64 m
  | 104 => v = .agg #[.int .i64 (q.a), .int .i64 (q.b), .int .i64 (q.c), .int .i64 (q.d)]
  | 105 => v = V
  | 106 => v = .int .i64 m
  | 107 => v = .pointer (some ⟨g, m * 3, none⟩)
  | 108 => ∃ x : T3, v = .agg #[.int .i64 (x.x), .int .i64 (x.y), .int .i64 (x.z)]
  | 109 => ∃ x : T3, x.I64' ∧ v = .agg #[.int .i64 (x.x), .int .i64 (x.y), .int .i64 (x.z)]
  | _ => v = .pointer (some ⟨g, m * 3, none⟩)

set_option maxRecDepth 100000 in
set_option maxHeartbeats 4000000 in
theorem clw_any (p0 : Q4) (f0 : T3) (l0 : List T3) (v0 : Value) (w : World) (ip0 : p0.I64) (if0 : f0.I64') (il0 : ∀ v, v ∈ l0 → v.I64') (hv : (v0 = .slice none 0 0 ∧ l0 = []) ∨ ∃ n ad cap, n = l0.length ∧ v0 = .slice (some ad) n cap ∧ (∀ j u, (flat3 l0)[j]? = some u → w.cell? (ad.add j) = some u) ∧ n ≤ cap ∧ cap ≤ maxLen) :
    Calls Tryz.prog 4 #[.agg #[.int .i64 (p0.a), .int .i64 (p0.b), .int .i64 (p0.c), .int .i64 (p0.d)], .agg #[.int .i64 (f0.x), .int .i64 (f0.y), .int .i64 (f0.z)], v0] w fun e w' => e = .returned (.bool true) ∧ Below w.heap.size w w' := by
  obtain ⟨i0, hi, hz0, hz1, hz2⟩ := info_parts info24v
  have HI0 : Hid (p0.I64 ∧ f0.I64') := ⟨ip0, if0⟩
  have HIL := Lib.hid il0
  have HV := Lib.hid hv
  clear ip0 if0 il0 hv
  go_enter Tryz.func4, Tryz.ntmps4
  go_upto_region 2 with fail
  go_cut [7] (fun s7 wx => ∃ l : List T3, Hid (l.length ≤ 8 ∧ ∀ v, v ∈ l → v.I64') ∧ Hid (LC p0 f0 l s7 w wx))
  case first =>
    rcases HV.out with ⟨rfl, rfl⟩ | ⟨n, ad, cap, hn, rfl, hc, hcap, hm⟩
    · go_wp2
      go_meet
      exact ⟨[], Lib.hid ⟨by simp, fun v h => by simp at h⟩, Lib.hid (LC.start p0 f0 ⟨rfl, rfl, rfl, Nat.le_refl _, fun _ _ _ => rfl⟩ (World.ownsRow_nil _ _ _ _))⟩
    · obtain ⟨k, hk⟩ : ∃ k, k = min l0.length 8 := ⟨_, rfl⟩
      have HW : Hid (∀ W, Below w.heap.size w W → ∀ j u, (flat3 (l0.take k))[j]? = some u → W.cell? (ad.add j) = some u) := fun W hb j u hj => by
        have e : flat3 l0 = flat3 (l0.take k) ++ flat3 (l0.drop k) := by unfold flat3; rw [← List.flatMap_append, List.take_append_drop]
        have h0 := hc j u (by rw [e, List.getElem?_append_left (List.getElem?_eq_some_iff.1 hj).1]; exact hj)
        exact (hb.cell (World.block_lt_of_cell? w _ h0)).trans h0
      have HL : Hid ((flat3 (l0.take k)).length = k * 3) := by unfold Hid; rw [flat3_len, List.length_take]; omega
      rw [← hn] at hk
      have hmin : min (n : Int) 8 = (k : Int) := by omega
      have hkn : k ≤ n := by omega
      have hk8 : k ≤ 8 := by omega
      have HX : Hid ((l0.take k).length = k ∧ ∀ v, v ∈ l0.take k → v.I64') := ⟨by rw [List.length_take]; omega, fun v hv => HIL.out v (List.mem_of_mem_take hv)⟩
      clear hk hn hc
      have HB : Hid (Below w.heap.size w ((w.alloc (PV p0)).alloc (VV f0))) := ((Below.refl _ _).alloc (Nat.le_refl _) _).alloc (by simp) _
      go_wp2_with (at_builtin; refine wpList_append_own _ rfl _ _ 40 rfl (w.heap.size + 2) 24 i0 (.agg #[.int .i64 0, .int .i64 0, .int .i64 0]) 3 24 Tryz.underlying40 hi hz0 hz1 hz2 rfl (by decide) _ 0 [] rfl (World.ownsRow_nil _ _ _ _) ad k cap (flat3 (l0.take k)) rfl HL.out (HW.out _ HB.out) (flat3_one _) (by simp [maxLen]; omega) (by omega) (by simp) ?_; intro v' w1 hown hgrow _)
      go_meet
      rw [Nat.zero_add, List.nil_append] at hown
      exact ⟨l0.take k, Lib.hid ⟨by rw [HX.out.1]; exact hk8, HX.out.2⟩, Lib.hid (LC.start p0 f0 hgrow (by rw [HX.out.1]; exact hown))⟩
  case rest =>
    obtain ⟨l, HL8, HLC⟩ := hcut
    obtain ⟨a, cap, rfl, ha⟩ := HLC.out.slice
    obtain ⟨K, hK⟩ : ∃ K, K = l.length := ⟨_, rfl⟩
    have hK8 : K ≤ 8 := by rw [hK]; exact HL8.out.1
    rw [← hK] at ha
    have HA := Lib.hid ha
    have HI1 : Hid (p0.I64 ∧ f0.I64' ∧ ∀ v, v ∈ l → v.I64') := ⟨HI0.out.1, HI0.out.2, HL8.out.2⟩
    have HC1 : Hid (K = l.length ∧ LC p0 f0 l (.slice a K cap) w wc) := ⟨hK, by rw [hK]; exact HLC.out⟩
    rw [← hK]
    clear HL8 HLC hK HI0 HIL HV ha hi hz0 hz1 hz2
    rename World => wx
    go_wp2
    go_loopw [8] (fun i wr => ∃ k : Nat, k ≤ 2 ∧ i = .int .i64 k ∧ ∃ p f l, Hid (p.I64 ∧ f.I64' ∧ ∀ v, v ∈ l → v.I64') ∧ Hid (K = l.length ∧ LC p f l (.slice a K cap) w wr)) (fun i _ => 2 - (intOf i).toNat)
    case atStart => exact ⟨0, by omega, rfl, p0, f0, l, HI1, HC1⟩
    case round =>
      rename_i wr
      obtain ⟨k, hk, rfl, p, f, l, HI, HLK⟩ := hrel
      clear HI1 HC1
      by_cases hlt : k < 2
      · have HKL : Hid (K = l.length) := HLK.out.1
        have HL : Hid (LC p f l (.slice a K cap) w wr) := HLK.out.2
        clear HLK
        obtain ⟨C, hC⟩ : ∃ C, C = clkV p f l := ⟨_, rfl⟩
        obtain ⟨E, hE⟩ : ∃ E, E = rclkE p f l := ⟨_, rfl⟩
        have HCV : Hid ((E ≠ 0 → C = 0) ∧ (E = 0 → 0 < K ∧ C = (rcwN p f l K : Nat))) := by
          unfold Hid; rw [hC, hE, HKL.out]; exact clkV_same p HI.out.2.1 HI.out.2.2 (by rw [← HKL.out]; omega)
        have HEE : Hid (E = rclkE p f l) := hE
        have HCL : Hid (∀ W, LC p f l (.slice a K cap) w W → Calls Tryz.prog 18 #[.agg #[.int .i64 (p.a), .int .i64 (p.b), .int .i64 (p.c), .int .i64 (p.d)], .agg #[.int .i64 (f.x), .int .i64 (f.y), .int .i64 (f.z)], .slice a K cap] W fun e w' => e = .returned (.tuple #[.int .i64 C, .int .i64 E]) ∧ Below W.heap.size W w') := fun W h => by
          have hl : l.length ≤ 1000 := by rw [← HKL.out]; omega
          rw [HKL.out] at h ⊢
          rw [hC, hE, ← clkE_same p HI.out.2.1 HI.out.2.2 hl]
          exact lineClockwise_row h HI.out.1 hl
        clear hC hE
        obtain ⟨a0, a1, a2, a3⟩ := HL.out.pc
        obtain ⟨b0, b1, b2⟩ := HL.out.fc
        go_upto_region 6 with fail
        go_cut [9, 10] from 29 to 110 (fun s9 s10 wx => s9 = .int .i64 C ∧ s10 = .int .i64 E ∧ Hid (LC p f l (.slice a K cap) w wx))
        case first =>
          have HL0 := HL
          go_wp2_with fail
          ((with_reducible refine (HCL.out _ HL.out).mono ?_); rintro e w1 ⟨rfl, hb⟩)
          have HL1 := Lib.hid (HL.out.call hb)
          clear HL HL0 hb a0 a1 a2 a3 b0 b1 b2
          go_wp2
          go_meet
          exact ⟨rfl, rfl, HL1⟩
        case rest =>
          obtain ⟨rfl, rfl, HLE⟩ := hcut
          clear HL HCL a0 a1 a2 a3 b0 b1 b2
          rename World => wx
          obtain ⟨a0, a1, a2, a3⟩ := HLE.out.pc
          have HRI : Hid (∀ W, Calls Tryz.prog 19 #[.agg #[.int .i64 (p.a), .int .i64 (p.b), .int .i64 (p.c), .int .i64 (p.d)]] W fun e w' => e = .returned (.bool p.plane) ∧ Below W.heap.size W w') := fun W => right_q p HI.out.1 W
          go_upto_if 42 with ((with_reducible refine (HRI.out _).mono ?_); rintro e w1 ⟨rfl, hb⟩)
          have HL1 := Lib.hid (HLE.out.call hb)
          clear HLE HRI hb a0 a1 a2 a3
          go_cut [11] from 29 to 110 (fun s11 wx => s11 = .int .i64 E ∧ Hid (LC p f l (.slice a K cap) w wx))
          case first =>
            cases hp : p.plane with
            | false =>
              have hE : E = 30 := by rw [HEE.out, rclkE_eq, if_pos hp]
              subst hE
              clear hp
              go_wp2
              go_meet
              exact ⟨rfl, HL1⟩
            | true =>
              have HEV : Hid (E = if ((wayB p f && decide (0 < K)) && l.all (wayB p)) = false then 1 else 0) := by
                unfold Hid; rw [HEE.out, rclkE_eq, hp, if_neg (by decide), ← HKL.out, Bool.and_assoc]
              clear hp HEE
              obtain ⟨R0, hR0⟩ : ∃ R0, R0 = (wayB p f && decide (0 < K)) := ⟨_, rfl⟩
              rw [← hR0] at HEV
              have HR0 := Lib.hid hR0
              clear hR0
              go_upto_region 10 with fail
              go_cut [12] from 29 to 110 (fun s12 wx => s12 = .bool R0 ∧ Hid (LC p f l (.slice a K cap) w wx))
              case first =>
                obtain ⟨a0, a1, a2, a3⟩ := HL1.out.pc
                obtain ⟨b0, b1, b2⟩ := HL1.out.fc
                cases hwf : wayB p f with
                | false =>
                  have HW : Hid (∀ W, Calls Tryz.prog 20 #[.agg #[.int .i64 (p.a), .int .i64 (p.b), .int .i64 (p.c), .int .i64 (p.d)], .agg #[.int .i64 (f.x), .int .i64 (f.y), .int .i64 (f.z)]] W fun e w' => e = .returned (.bool false) ∧ Below W.heap.size W w') := fun W => by have h := way_q p f W; rw [hwf] at h; exact h
                  have hR : R0 = false := by rw [HR0.out, hwf]; rfl
                  subst hR
                  clear hwf
                  go_wp2_with fail
                  ((with_reducible refine (HW.out _).mono ?_); rintro e w2 ⟨rfl, hb⟩)
                  have HL2 := Lib.hid (HL1.out.call hb)
                  clear HL1 hb a0 a1 a2 a3 b0 b1 b2
                  go_wp2
                  go_meet
                  exact ⟨rfl, HL2⟩
                | true =>
                  have HW : Hid (∀ W, Calls Tryz.prog 20 #[.agg #[.int .i64 (p.a), .int .i64 (p.b), .int .i64 (p.c), .int .i64 (p.d)], .agg #[.int .i64 (f.x), .int .i64 (f.y), .int .i64 (f.z)]] W fun e w' => e = .returned (.bool true) ∧ Below W.heap.size W w') := fun W => by have h := way_q p f W; rw [hwf] at h; exact h
                  have HR1 : Hid (R0 = decide (0 < K)) := by unfold Hid; rw [HR0.out, hwf]; rfl
                  clear hwf HR0
                  go_wp2_with fail
                  ((with_reducible refine (HW.out _).mono ?_); rintro e w2 ⟨rfl, hb⟩)
                  have HL2 := Lib.hid (HL1.out.call hb)
                  clear HL1 hb a0 a1 a2 a3 b0 b1 b2
                  go_wp2
                  go_meet
                  refine ⟨?_, HL2⟩
                  rw [HR1.out]
              case rest =>
                obtain ⟨rfl, HL2⟩ := hcut
                clear HL1 wx HR0
                rename World => wx
                go_wp2
                go_loopw [12, 13] (fun s12 s13 wr => ∃ m : Nat, m ≤ K ∧ s13 = .int .i64 m ∧ s12 = .bool (R0 && (l.take m).all (wayB p)) ∧ Hid (LC p f l (.slice a K cap) w wr)) (fun _ v _ => K - (intOf v).toNat)
                case atStart => exact ⟨0, by omega, rfl, by simp, HL2⟩
                case round =>
                  rename World => wr2
                  obtain ⟨m, hm, rfl, rfl, HL3⟩ := hrel
                  clear HL2
                  by_cases hmK : m < K
                  · obtain ⟨g, rfl⟩ := HA.out (by omega)
                    obtain ⟨x, hx⟩ : ∃ x, l[m]? = some x := ⟨_, List.getElem?_eq_getElem (by rw [← HKL.out]; exact hmK)⟩
                    have HT : Hid ((l.take (m + 1)).all (wayB p) = ((l.take m).all (wayB p) && wayB p x)) := by
                      obtain ⟨h1, h2⟩ := List.getElem?_eq_some_iff.1 hx
                      unfold Hid; rw [List.take_succ_eq_append_getElem h1, h2]; simp
                    have hlz : (m : Int) < (K : Int) := by omega
                    obtain ⟨r, hr⟩ : ∃ r, r = (R0 && (l.take m).all (wayB p)) := ⟨_, rfl⟩
                    rw [← hr]
                    have HRR : Hid ((R0 && (l.take (m + 1)).all (wayB p)) = (r && wayB p x)) := by unfold Hid; rw [HT.out, hr, Bool.and_assoc]
                    clear hr HT
                    cases r with
                    | false =>
                      go_wp2
                      go_region
                      go_wp2
                      go_roundw
                      case rel => exact ⟨m + 1, by omega, by go_num, by rw [HRR.out]; rfl, Lib.hid HL3.out.drew⟩
                      case measure => simp [intOf]; omega
                    | true =>
                      have HWX : Hid (∀ W, Calls Tryz.prog 20 #[.agg #[.int .i64 (p.a), .int .i64 (p.b), .int .i64 (p.c), .int .i64 (p.d)], .agg #[.int .i64 (x.x), .int .i64 (x.y), .int .i64 (x.z)]] W fun e w' => e = .returned (.bool (wayB p x)) ∧ Below W.heap.size W w') := fun W => way_q p x W
                      have hls : LC p f l (.slice (some ⟨g, 0, none⟩) l.length cap) w wr2 := by rw [← HKL.out]; exact HL3.out
                      obtain ⟨sg, sl, -⟩ := hls.sl
                      obtain ⟨x0, x1, x2⟩ := sl m x hx
                      rw [Nat.zero_add] at x0 x1 x2
                      obtain ⟨a0, a1, a2, a3⟩ := HL3.out.pc
                      have s0 : w.heap.size < wr2.heap.size := by have := HL3.out.size; omega
                      clear sl hls hx
                      go_wp2
                      have hE : ∀ W, Fr 0 [] [] wr2 W → (W.cell? ⟨w.heap.size, 0, none⟩ = some (.int .i64 (p.a)) ∧ W.cell? ⟨w.heap.size, 1, none⟩ = some (.int .i64 (p.b)) ∧ W.cell? ⟨w.heap.size, 2, none⟩ = some (.int .i64 (p.c)) ∧ W.cell? ⟨w.heap.size, 3, none⟩ = some (.int .i64 (p.d)) ∧ W.cell? ⟨g, (m*3), none⟩ = some (.int .i64 (x.x)) ∧ W.cell? ⟨g, (m*3) + 1, none⟩ = some (.int .i64 (x.y)) ∧ W.cell? ⟨g, (m*3) + 2, none⟩ = some (.int .i64 (x.z))) := fun W h => by (repeat' apply And.intro) <;> first | exact h.at0 rfl | exact h.at rfl | exact (h.rms0 rfl).cell | exact (h.rms rfl).cell | exact (h.rms0 rfl).frozen | exact (h.rms rfl).frozen | exact (h.own.below.cell (p := ⟨w.heap.size, _, none⟩) s0).trans (by assumption) | exact (h.own.below.cell (p := ⟨g, _, none⟩) sg).trans (by assumption)
                      have HE := Lib.hid hE
                      clear hE
                      have hF : Fr 0 [] [] wr2 wr2 := Fr.nil _
                      clear a0 a1 a2 a3 x0 x1 x2
                      go_region_held3 (fun W => Fr 0 [] [] wr2 W ∧ W.cell? ⟨w.heap.size, 0, none⟩ = some (.int .i64 (p.a)) ∧ W.cell? ⟨w.heap.size, 1, none⟩ = some (.int .i64 (p.b)) ∧ W.cell? ⟨w.heap.size, 2, none⟩ = some (.int .i64 (p.c)) ∧ W.cell? ⟨w.heap.size, 3, none⟩ = some (.int .i64 (p.d)) ∧ W.cell? ⟨g, (m*3), none⟩ = some (.int .i64 (x.x)) ∧ W.cell? ⟨g, (m*3) + 1, none⟩ = some (.int .i64 (x.y)) ∧ W.cell? ⟨g, (m*3) + 2, none⟩ = some (.int .i64 (x.z))) ((first | exact hSK | assumption | (have hq := Fr.keep HE.out (by assumption) hb1; exact hq) | (have hq := Fr.both HE.out hF.drew; exact hq) | (have hq := Fr.both HE.out (Fr.nil wr2).drew; exact hq) | (refine Fr.both HE.out ?_; (repeat (first | exact hF | exact And.left (by assumption) | refine Fr.set ?_ (by first | (simp; done) | (simp; omega)) (by first | (simp [List.lookup]; done) | (simp [Nat.add_assoc, List.lookup]; done)) _ | refine Fr.drew ?_ | refine Fr.alloc ?_ _))))) ((go_at_call 20; refine (HWX.out _).mono ?_; rintro e w1 ⟨rfl, hb1⟩))
                      rename World => W3
                      have HG := Lib.hid (show Fr 0 [] [] wr2 W3 from And.left (by assumption))
                      go_wp2
                      go_roundw
                      case rel => exact ⟨m + 1, by omega, by go_num, by rw [HRR.out]; rfl, Lib.hid (HL3.out.call HG.out.own.below)⟩
                      case measure => simp [intOf]; omega
                  · have hmk : m = K := by omega
                    have HAL : Hid (E = if (R0 && (l.take m).all (wayB p)) = false then 1 else 0) := by
                      unfold Hid; rw [HEV.out, hmk, HKL.out, List.take_length]
                    have hlz : ¬ (m : Int) < (K : Int) := by omega
                    obtain ⟨r, hr⟩ : ∃ r, r = (R0 && (l.take m).all (wayB p)) := ⟨_, rfl⟩
                    rw [← hr] at HAL ⊢
                    clear hr hmk
                    cases r with
                    | false =>
                      have hE : E = 1 := by rw [HAL.out]; rfl
                      subst hE
                      go_wp2
                      go_meet
                      exact ⟨rfl, HL3⟩
                    | true =>
                      have hE : E = 0 := by rw [HAL.out]; rfl
                      subst hE
                      go_wp2
                      go_meet
                      exact ⟨rfl, HL3⟩
          case rest =>
            obtain ⟨rfl, HLE⟩ := hcut
            clear HL1 HEE wx
            rename World => wx
            go_upto_region 17 with fail
            go_cut [90] from 29 to 110 (fun s90 wx => s90 = .bool false ∧ Hid (LC p f l (.slice a K cap) w wx))
            case first =>
              by_cases hE0 : E = 0
              · obtain ⟨hK0, hC⟩ := HCV.out.2 hE0
                obtain ⟨g, rfl⟩ := HA.out hK0
                have HRC : Hid (∀ W, LC p f l (.slice (some ⟨g, 0, none⟩) K cap) w W → Calls Tryz.prog 21 #[.agg #[.int .i64 (p.a), .int .i64 (p.b), .int .i64 (p.c), .int .i64 (p.d)], .agg #[.int .i64 (f.x), .int .i64 (f.y), .int .i64 (f.z)], .slice (some ⟨g, 0, none⟩) K cap] W fun e w' => e = .returned (.int .i64 C) ∧ Below W.heap.size W w') := fun W h => by
                  have h' := h
                  rw [HKL.out] at h' ⊢
                  have hl8 : l.length ≤ 8 := by rw [← HKL.out]; exact hK8
                  have hr := rclockwise_any p f l g 0 cap W (by rw [← HKL.out]; exact hK0) (by omega) h'.sl.1 h'.sl.2.1
                  rw [hC, HKL.out]; exact hr
                subst hE0
                clear HCV hC
                obtain ⟨a0, a1, a2, a3⟩ := HLE.out.pc
                obtain ⟨b0, b1, b2⟩ := HLE.out.fc
                go_wp2_with fail
                ((with_reducible refine (HRC.out _ HLE.out).mono ?_); rintro e w2 ⟨rfl, hb⟩)
                have HL2 := Lib.hid (HLE.out.call hb)
                clear HLE hb a0 a1 a2 a3 b0 b1 b2
                go_wp2
                go_meet
                exact ⟨rfl, HL2⟩
              · have hC := HCV.out.1 hE0
                subst hC
                have n1 : (E != 0) = true := by simpa using hE0
                have n2 : (E == 0) = false := by simpa using hE0
                go_wp2
                go_meet
                exact ⟨rfl, HLE⟩
            case rest =>
              obtain ⟨rfl, HL1⟩ := hcut
              clear HLE HCV wx
              rename World => wx
              go_upto_region 19 with fail
              go_cut [] from 29 to 110 (fun wx => ∃ q : Q4, Hid q.I64 ∧ Hid (LC q f l (.slice a K cap) w wx))
              case first =>
                obtain ⟨a0, a1, a2, a3⟩ := HL1.out.pc
                go_wp2_with fail
                ((with_reducible refine (tame_any p.a p.b p.c p.d 3 _ (by decide) (by decide)).mono ?_); rintro e w3 ⟨⟨q, _, hq2, rfl⟩, hb⟩)
                have hL3 := HL1.out.call hb
                clear HL1 a0 a1 a2 a3 hb
                obtain ⟨a0, a1, a2, a3⟩ := hL3.pc
                have af := (blk_cells hL3.bp).2
                have HQI : Hid q.I64 := hq2
                clear hq2
                have HL3 := Lib.hid (hL3.setP q)
                clear hL3
                go_wp2_with fail
                go_meet
                exact ⟨q, HQI, HL3⟩
              case rest =>
                obtain ⟨q, HQI, HL2⟩ := hcut
                clear HL1 wx
                rename World => wx
                go_upto_region 20 with fail
                go_cut [] from 29 to 110 (fun wx => ∃ d : T3, Hid d.I64' ∧ Hid (LC q d l (.slice a K cap) w wx))
                case first =>
                  obtain ⟨a0, a1, a2, a3⟩ := HL2.out.pc
                  obtain ⟨b0, b1, b2⟩ := HL2.out.fc
                  go_wp2_with fail
                  ((with_reducible refine (wy_any q f _).mono ?_); rintro e w3 ⟨⟨d, _, d1, d2, d3, rfl⟩, hb⟩)
                  have hL3 := HL2.out.call hb
                  clear HL2 a0 a1 a2 a3 b0 b1 b2 hb
                  obtain ⟨b0, b1, b2⟩ := hL3.fc
                  have af := (blk_cells hL3.bf).2
                  have HDI : Hid d.I64' := ⟨d1, d2, d3⟩
                  clear d1 d2 d3
                  have HL3 := Lib.hid (hL3.setF d)
                  clear hL3
                  go_wp2_with fail
                  go_meet
                  exact ⟨d, HDI, HL3⟩
                case rest =>
                  obtain ⟨d, HDI, HL3⟩ := hcut
                  clear HL2 wx
                  rename World => wx
                  have HLL : Hid (∃ l : List T3, (∀ v, v ∈ l → v.I64') ∧ K = l.length ∧ LC q d l (.slice a K cap) w wx) := ⟨l, HI.out.2.2, HKL.out, HL3.out⟩
                  clear HL3 HI HKL
                  go_wp2
                  go_loopw [14] (fun s14 wr => ∃ m : Nat, m ≤ K ∧ s14 = .int .i64 m ∧ Hid (∃ l : List T3, (∀ v, v ∈ l → v.I64') ∧ K = l.length ∧ LC q d l (.slice a K cap) w wr)) (fun v _ => K - (intOf v).toNat)
                  case atStart => exact ⟨0, by omega, rfl, HLL⟩
                  case round =>
                    rename World => wr2
                    obtain ⟨m, hm, rfl, HLM⟩ := hrel
                    clear HLL
                    by_cases hmK : m < K
                    · obtain ⟨g, rfl⟩ := HA.out (by omega)
                      have hlz : (m : Int) < (K : Int) := by omega
                      go_upto_region 24 with fail
                      refine wp_region_inv (by kernel_rfl) (by kernel_rfl) (fun listed a wy => ∃ t : Nat → Value, a = { tmps := #[.agg #[.int .i64 (p0.a), .int .i64 (p0.b), .int .i64 (p0.c), .int .i64 (p0.d)], .agg #[.int .i64 (f0.x), .int .i64 (f0.y), .int .i64 (f0.z)], v0, .pointer (some ⟨w.heap.size, 0, none⟩), .pointer (some ⟨w.heap.size + 1, 0, none⟩), undef, u6, .slice (some ⟨g, 0, none⟩) K cap, .int .i64 k, .int .i64 C, .int .i64 E, .int .i64 E, u12, u13, .int .i64 m, undef, undef, undef, undef, undef, undef, undef, u22, u23, u24, u25, u26, u27, u28, u29, u30, u31, u32, u33, u34, u35, u36, u37, u38, u39, u40, u41, u42, u43, u44, u45, u46, u47, u48, u49, u50, u51, u52, u53, u54, u55, u56, u57, u58, u59, u60, u61, u62, u63, u64, u65, u66, u67, u68, u69, u70, u71, u72, u73, u74, u75, u76, u77, u78, u79, u80, u81, u82, u83, u84, u85, u86, u87, u88, u89, u90, u91, u92, u93, u94, u95, .int .i64 m, .slice (some ⟨g, 0, none⟩) K cap, .int .i64 K, .bool true, u100, u101, t 102, t 103, t 104, t 105, t 106, t 107, t 108, t 109, t 110, u111, u112, u113, u114, u115, u116, u117, u118, u119, u120, u121, u122, u123, u124, u125, u126, u127, u128, u129, u130, u131, u132, u133, u134, u135, u136, u137, u138, u139, u140, u141, u142, u143, u144, u145, u146, u147, u148, u149, u150], defers := [] } ∧ IR (fun W => ∃ l : List T3, (∀ v, v ∈ l → v.I64') ∧ K = l.length ∧ LC q d l (.slice (some ⟨g, 0, none⟩) K cap) w W) (clwS q (.slice (some ⟨g, 0, none⟩) K cap) g m) [(0, 102), (1, 103), (2, 104), (3, 105), (4, 106), (5, 107), (6, 108), (7, 109), (8, 110)] listed t wy) ⟨(fun d => match d with | 102 => u102 | 103 => u103 | 104 => u104 | 105 => u105 | 106 => u106 | 107 => u107 | 108 => u108 | 109 => u109 | 110 => u110 | _ => undef), rfl, IR.start _ ⟨HLM.out.choose, HLM.out.choose_spec.1, HLM.out.choose_spec.2.1, HLM.out.choose_spec.2.2.drew⟩ _⟩ ?_ ?_
                      rotate_left
                      · rintro listed hs i hi a wy ⟨t, rfl, hR⟩ hr
                        match i, hi, hr with
                        | 0, _, hr =>
                          as_aux_lemma =>
                          refine wpOp_step rfl (fun K' hK => ?_)
                          go_simp
                          exact hK _ _ ⟨upd t 102 _, rfl, hR.yields hR.fin (fun _ _ h => h) rfl rfl⟩
                        | 1, _, hr =>
                          as_aux_lemma =>
                          refine wpOp_step rfl (fun K' hK => ?_)
                          go_simp
                          exact hK _ _ ⟨upd t 103 _, rfl, hR.yields hR.fin (fun _ _ h => h) rfl rfl⟩
                        | 2, _, hr =>
                          as_aux_lemma =>
                          refine wpOp_step rfl (fun K' hK => ?_)
                          obtain ⟨l1, -, -, hL⟩ := hR.fin
                          obtain ⟨c0, c1, c2, c3⟩ := hL.pc
                          clear hL
                          go_simp
                          exact hK _ _ ⟨upd t 104 _, rfl, hR.yields hR.fin (fun _ _ h => h) rfl rfl⟩
                        | 3, _, hr =>
                          as_aux_lemma =>
                          refine wpOp_step rfl (fun K' hK => ?_)
                          go_simp
                          exact hK _ _ ⟨upd t 105 _, rfl, hR.yields hR.fin (fun _ _ h => h) rfl rfl⟩
                        | 4, _, hr =>
                          as_aux_lemma =>
                          refine wpOp_step rfl (fun K' hK => ?_)
                          go_simp
                          exact hK _ _ ⟨upd t 106 _, rfl, hR.yields hR.fin (fun _ _ h => h) rfl rfl⟩
                        | 5, _, hr =>
                          as_aux_lemma =>
                          refine wpOp_step rfl (fun K' hK => ?_)
                          have e1 : t 105 = .slice (some ⟨g, 0, none⟩) K cap := hR.val (3, 105) (by simp) (dep_of hr 3 (by kernel_rfl))
                          have e2 : t 106 = .int .i64 m := hR.val (4, 106) (by simp) (dep_of hr 4 (by kernel_rfl))
                          go_simp
                          exact hK _ _ ⟨upd t 107 _, by simp [upd, e1, e2], hR.yields hR.fin (fun _ _ h => h) rfl rfl⟩
                        | 6, _, hr =>
                          as_aux_lemma =>
                          refine wpOp_step rfl (fun K' hK => ?_)
                          have e1 : t 107 = .pointer (some ⟨g, m * 3, none⟩) := hR.val (5, 107) (by simp) (dep_of hr 5 (by kernel_rfl))
                          obtain ⟨l1, h1, h2, hL⟩ := hR.fin
                          rw [h2] at hL
                          obtain ⟨x, hx⟩ : ∃ x, l1[m]? = some x := ⟨_, List.getElem?_eq_getElem (by omega)⟩
                          obtain ⟨c0, c1, c2⟩ := hL.sl.2.1 m x hx
                          rw [Nat.zero_add] at c0 c1 c2
                          clear hL h1 h2 hx
                          go_simp
                          exact hK _ _ ⟨upd t 108 _, by simp [upd, e1], hR.yields hR.fin (fun _ _ h => h) ⟨x, rfl⟩ rfl⟩
                        | 7, _, hr =>
                          as_aux_lemma =>
                          refine wpOp_step rfl (fun K' hK => ?_)
                          have e1 : t 104 = .agg #[.int .i64 (q.a), .int .i64 (q.b), .int .i64 (q.c), .int .i64 (q.d)] := hR.val (2, 104) (by simp) (dep_of hr 2 (by kernel_rfl))
                          obtain ⟨x, ex⟩ := hR.val (6, 108) (by simp) (dep_of hr 6 (by kernel_rfl))
                          have ex : t 108 = .agg #[.int .i64 (x.x), .int .i64 (x.y), .int .i64 (x.z)] := ex
                          obtain ⟨l1, h1, h2, hL⟩ := hR.fin
                          have H1 := Lib.hid h1
                          have H2 := Lib.hid h2
                          have HL := Lib.hid hL
                          clear h1 h2 hL
                          go_simp
                          refine (wy_any q x wy).mono ?_
                          rintro e w1 ⟨⟨y, _, y1, y2, y3, rfl⟩, hb⟩
                          exact hK _ _ ⟨upd t 109 _, by simp [upd, e1, ex], hR.yields ⟨l1, H1.out, H2.out, HL.out.call hb⟩ (fun _ _ h => h) ⟨y, ⟨y1, y2, y3⟩, rfl⟩ rfl⟩
                        | 8, _, hr =>
                          as_aux_lemma =>
                          refine wpOp_step rfl (fun K' hK => ?_)
                          have e1 : t 102 = .slice (some ⟨g, 0, none⟩) K cap := hR.val (0, 102) (by simp) (dep_of hr 0 (by kernel_rfl))
                          have e2 : t 103 = .int .i64 m := hR.val (1, 103) (by simp) (dep_of hr 1 (by kernel_rfl))
                          go_simp
                          exact hK _ _ ⟨upd t 110 _, by simp [upd, e1, e2], hR.yields hR.fin (fun _ _ h => h) rfl rfl⟩
                        | 9, _, hr =>
                          as_aux_lemma =>
                          refine wpOp_step rfl (fun K' hK => ?_)
                          have e1 : t 110 = .pointer (some ⟨g, m * 3, none⟩) := hR.val (8, 110) (by simp) (dep_of hr 8 (by kernel_rfl))
                          obtain ⟨y, hy, ey⟩ := hR.val (7, 109) (by simp) (dep_of hr 7 (by kernel_rfl))
                          have ey : t 109 = .agg #[.int .i64 (y.x), .int .i64 (y.y), .int .i64 (y.z)] := ey
                          obtain ⟨l1, h1, h2, hL⟩ := hR.fin
                          have hL' := hL
                          rw [h2] at hL'
                          obtain ⟨x, hx⟩ : ∃ x, l1[m]? = some x := ⟨_, List.getElem?_eq_getElem (by omega)⟩
                          obtain ⟨c0, c1, c2⟩ := hL'.sl.2.1 m x hx
                          have hf := hL'.sl.2.2
                          rw [Nat.zero_add] at c0 c1 c2
                          have HS : Hid (∃ l : List T3, (∀ v, v ∈ l → v.I64') ∧ K = l.length ∧ LC q d l (.slice (some ⟨g, 0, none⟩) K cap) w (((wy.setCell ⟨g, m * 3, none⟩ (.int .i64 y.x)).setCell ⟨g, m * 3 + 1, none⟩ (.int .i64 y.y)).setCell ⟨g, m * 3 + 2, none⟩ (.int .i64 y.z))) := ⟨l1.set m y, fun v hv => (List.mem_or_eq_of_mem_set hv).elim (h1 v) (fun e => by rw [e]; exact hy), by rw [List.length_set]; exact h2, by have h := hL'.setL m (by omega) y; rw [← h2] at h; exact h⟩
                          clear h1 h2 hL hL' hx hy
                          go_simp
                          exact hK _ _ ⟨t, by simp [e1, ey], hR.stores HS.out (fun _ _ h => h) rfl⟩
                      rintro listed a2 W2 ⟨t, rfl, hR⟩ hl
                      have HX := Lib.hid hR.fin
                      clear hR hl
                      go_wp2_with fail
                      refine ⟨⟨m + 1, by omega, by go_num, HX⟩, ?_⟩
                      simp [intOf]; omega
                    · have hlz : ¬ (m : Int) < (K : Int) := by omega
                      obtain ⟨l2, h1, h2, h3⟩ := HLM.out
                      have HX : Hid ((q.I64 ∧ d.I64' ∧ ∀ v, v ∈ l2 → v.I64') ∧ K = l2.length ∧ LC q d l2 (.slice a K cap) w wr2) := ⟨⟨HQI.out, HDI.out, h1⟩, h2, h3⟩
                      clear h1 h2 h3 HLM
                      go_wp2
                      go_roundw
                      case rel => exact ⟨k + 1, by omega, by go_num, q, d, l2, HX.out.1, HX.out.2⟩
                      case measure => simp [intOf]; omega
      · obtain rfl : k = 2 := by omega
        have HL : Hid (LC p f l (.slice a K cap) w wr) := HLK.out.2
        clear HLK HI
        obtain ⟨i1, hi, hz0, hz1, hz2⟩ := info_parts info24v
        go_upto_region 25 with fail
        go_cut [15] from 111 to 150 (fun s15 wx => ∃ g, s15 = .slice (some ⟨g, 0, none⟩) 1001 1001 ∧ Hid (Laid p f g 0 w wx))
        case first =>
          go_wp2_with (at_make; refine wpList_make_full _ rfl _ _ 40 rfl wr.heap.size 24 i1 (.agg #[.int .i64 0, .int .i64 0, .int .i64 0]) 3 Tryz.underlying40 hi hz0 hz1 .i64 .i64 _ _ 1001 rfl rfl rfl rfl (by rw [hz2]; decide) (by decide) (Nat.le_refl _) ?_; intro w1 hown hgrow)
          go_meet
          rw [made_flat] at hown
          refine ⟨_, rfl, Lib.hid ⟨List.replicate 1001 ⟨0, 0, 0⟩, List.length_replicate, fun j hj => by omega, HL.out.other hgrow ?_⟩⟩
          rw [List.length_replicate]; exact hown
        case rest =>
          obtain ⟨g, rfl, HM⟩ := hcut
          clear HL hi hz0 hz1 hz2
          rename World => wx
          go_wp2
          go_loopw [16] (fun s16 wr => ∃ m : Nat, m ≤ 1001 ∧ s16 = .int .i64 m ∧ Hid (Laid p f g m w wr)) (fun v _ => 1001 - (intOf v).toNat)
          case atStart => exact ⟨0, by omega, rfl, HM⟩
          case round =>
            rename World => wr2
            obtain ⟨m, hm, rfl, HM2⟩ := hrel
            clear HM
            by_cases hmK : m < 1001
            · have hlz : (m : Int) < 1001 := by omega
              obtain ⟨⟨y, c0, c1, c2⟩, hf⟩ := HM2.out.room hmK
              have HN := Lib.hid (HM2.out.next hmK)
              go_wp2
              go_roundw
              case rel => exact ⟨m + 1, by omega, by go_num, HN⟩
              case measure => simp [intOf]; omega
            · have hlz : ¬ (m : Int) < 1001 := by omega
              have hm2 : m = 1001 := by omega
              subst hm2
              have HD := Lib.hid HM2.out.done
              have HB1 : Hid (∀ W, Below wr2.heap.size wr2 W → Calls Tryz.prog 18 #[.agg #[.int .i64 0, .int .i64 0, .int .i64 1, .int .i64 0], .agg #[.int .i64 0, .int .i64 1, .int .i64 0], .slice (some ⟨g, 0, none⟩) 1001 1001] W fun e w' => e = .returned (.tuple #[.int .i64 0, .int .i64 1]) ∧ Below W.heap.size W w') := fun W hb => by
                have h := clk_bad2 ⟨0, 0, 1, 0⟩ ⟨0, 1, 0⟩ (List.replicate 1001 ⟨1, 0, 0⟩) (some ⟨g, 0, none⟩) 1001 W flat_i64 awk_pl (.inr (by rw [List.length_replicate]; omega)) (by rw [List.length_replicate]; omega)
                obtain ⟨k1, k2⟩ := clk_big ⟨0, 1, 0⟩ (List.replicate 1001 ⟨1, 0, 0⟩) (by rw [List.length_replicate]; omega)
                rw [k1, k2, List.length_replicate] at h; exact h
              have HB2 : Hid (∀ W, Below wr2.heap.size wr2 W → Calls Tryz.prog 18 #[.agg #[.int .i64 0, .int .i64 0, .int .i64 1, .int .i64 0], .agg #[.int .i64 1, .int .i64 0, .int .i64 0], .slice (some ⟨g, 0, none⟩) 1000 1000] W fun e w' => e = .returned (.tuple #[.int .i64 0, .int .i64 0]) ∧ Below W.heap.size W w') := fun W hb => by
                have h := lineClockwise_sl ⟨0, 0, 1, 0⟩ ⟨1, 0, 0⟩ (List.replicate 1000 ⟨1, 0, 0⟩) g 0 1000 W flat_i64 (by rw [List.length_replicate]; omega) (Nat.lt_of_lt_of_le HM2.out.lt.1 hb.size) (HD.out.2.below hb HM2.out.lt.1)
                obtain ⟨k1, k2⟩ := clk_fit 1000 (by omega) (by omega)
                rw [k1, k2, List.length_replicate] at h; exact h
              have HBW := Lib.hid HM2.out.lt.2.2
              clear HD HM2
              go_wp2_with fail
              have hbel : Below wr2.heap.size wr2 (wr2.alloc (.cells #[.int .i64 0, .int .i64 0, .int .i64 1, .int .i64 0] 23)) := (Below.refl _ _).alloc (Nat.le_refl _) _
              ((with_reducible refine (HB1.out _ hbel).mono ?_); rintro e w2 ⟨rfl, hb⟩)
              have f0 : w2.cell? ⟨wr2.heap.size, 0, none⟩ = some (.int .i64 0) := (hb.cell (p := ⟨wr2.heap.size, 0, none⟩) (by simp)).trans (by simp [go_sem])
              have f1 : w2.cell? ⟨wr2.heap.size, 1, none⟩ = some (.int .i64 0) := (hb.cell (p := ⟨wr2.heap.size, 1, none⟩) (by simp)).trans (by simp [go_sem])
              have f2 : w2.cell? ⟨wr2.heap.size, 2, none⟩ = some (.int .i64 1) := (hb.cell (p := ⟨wr2.heap.size, 2, none⟩) (by simp)).trans (by simp [go_sem])
              have f3 : w2.cell? ⟨wr2.heap.size, 3, none⟩ = some (.int .i64 0) := (hb.cell (p := ⟨wr2.heap.size, 3, none⟩) (by simp)).trans (by simp [go_sem])
              have s3 : wr2.heap.size < w2.heap.size := by have := hb.size; simp at this; omega
              have HB3 : Hid (∀ W, Below w2.heap.size w2 W → Calls Tryz.prog 18 #[.agg #[.int .i64 0, .int .i64 0, .int .i64 1, .int .i64 0], .agg #[.int .i64 1, .int .i64 0, .int .i64 0], .slice (some ⟨g, 0, none⟩) 1000 1000] W fun e w' => e = .returned (.tuple #[.int .i64 0, .int .i64 0]) ∧ Below W.heap.size W w') := fun W h => HB2.out W ((hbel.trans (hb.mono (by simp))).trans (h.mono (by omega)))
              have HW2 : Hid (Below w.heap.size w w2) := HBW.out.trans ((hbel.trans (hb.mono (by simp))).mono HBW.out.size)
              clear hb hbel HB1 HB2 HBW
              go_wp2
              have hE : ∀ W, Fr 0 [] [] w2 W → (W.cell? ⟨wr2.heap.size, 0, none⟩ = some (.int .i64 0) ∧ W.cell? ⟨wr2.heap.size, 1, none⟩ = some (.int .i64 0) ∧ W.cell? ⟨wr2.heap.size, 2, none⟩ = some (.int .i64 1) ∧ W.cell? ⟨wr2.heap.size, 3, none⟩ = some (.int .i64 0)) := fun W h => by (repeat' apply And.intro) <;> first | exact h.at0 rfl | exact h.at rfl | exact (h.rms0 rfl).cell | exact (h.rms rfl).cell | exact (h.rms0 rfl).frozen | exact (h.rms rfl).frozen | exact (h.own.below.cell (p := ⟨wr2.heap.size, _, none⟩) s3).trans (by assumption)
              have HE := Lib.hid hE
              clear hE
              have hF : Fr 0 [] [] w2 w2 := Fr.nil _
              clear f0 f1 f2 f3
              go_region_held3 (fun W => Fr 0 [] [] w2 W ∧ W.cell? ⟨wr2.heap.size, 0, none⟩ = some (.int .i64 0) ∧ W.cell? ⟨wr2.heap.size, 1, none⟩ = some (.int .i64 0) ∧ W.cell? ⟨wr2.heap.size, 2, none⟩ = some (.int .i64 1) ∧ W.cell? ⟨wr2.heap.size, 3, none⟩ = some (.int .i64 0)) ((first | exact hSK | assumption | (have hq := Fr.keep HE.out (by assumption) hb1; exact hq) | (have hq := Fr.both HE.out hF.drew; exact hq) | (have hq := Fr.both HE.out (Fr.nil w2).drew; exact hq) | (refine Fr.both HE.out ?_; (repeat (first | exact hF | exact And.left (by assumption) | refine Fr.set ?_ (by first | (simp; done) | (simp; omega)) (by first | (simp [List.lookup]; done) | (simp [Nat.add_assoc, List.lookup]; done)) _ | refine Fr.drew ?_ | refine Fr.alloc ?_ _))))) ((go_at_call 18; obtain ⟨hFx, -⟩ : Fr 0 [] [] w2 _ ∧ _ := (by assumption); refine (HB3.out _ hFx.own.below).mono ?_; clear hFx; rintro e w1 ⟨rfl, hb1⟩))
              rename World => W3
              have HG := Lib.hid (show Fr 0 [] [] w2 W3 from And.left (by assumption))
              have HW3 : Hid (Below w.heap.size w W3) := HW2.out.trans (HG.out.own.below.mono HW2.out.size)
              have HAW : Hid (∀ W, Calls Tryz.prog 17 #[] W fun e w' => e = .returned (.bool true) ∧ Below W.heap.size W w') := fun W => awake_any W
              go_wp2_with fail
              ((with_reducible refine (HAW.out _).mono ?_); rintro e w4 ⟨rfl, hb⟩)
              have HW4 : Hid (Below w.heap.size w w4) := HW3.out.trans (hb.mono HW3.out.size)
              go_wp2
              go_ret
              exact ⟨rfl, HW4.out⟩

end Go.Proofs.YtaoedfegakpjeabGreat
