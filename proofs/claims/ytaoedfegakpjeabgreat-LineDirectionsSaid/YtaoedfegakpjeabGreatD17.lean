/- Contracts of the functions that the statement reaches, and plain lemmas: part 17 of 17. -/
import Derived.Test.YtaoedfegakpjeabGreatD16
import Derived.Test.YtaoedfegakpjeabGreatD13
import Derived.Deep.CutRange
import Derived.Deep.DeepCutAuto

namespace Go.Proofs.YtaoedfegakpjeabGreat
open Go.RowKit

/-- What a round compares. -/
structure DirOK (p q r : Q4) (d : T3) (E1 E3 C L : Int) : Prop where
  none1 : ¬ E1 = 0 → d = ⟨0, 0, 0⟩
  less : E3 = 0 → E1 = 0
  dir : E1 = 0 → ∀ W, Calls Tryz.prog 11 #[.agg #[.int .i64 (p.a), .int .i64 (p.b), .int .i64 (p.c), .int .i64 (p.d)], .agg #[.int .i64 (q.a), .int .i64 (q.b), .int .i64 (q.c), .int .i64 (q.d)]] W fun e w' => e = .returned (.agg #[.int .i64 (d.x), .int .i64 (d.y), .int .i64 (d.z)]) ∧ Below W.heap.size W w'
  none3 : ¬ E3 = 0 → C = 0 ∧ L = 0
  cross : E3 = 0 → sgn (dot d.x d.y d.z r.a r.b r.c) = C
  left : E3 = 0 → ∀ W, Calls Tryz.prog 15 #[.agg #[.int .i64 (p.a), .int .i64 (p.b), .int .i64 (p.c), .int .i64 (p.d)], .agg #[.int .i64 (q.a), .int .i64 (q.b), .int .i64 (q.c), .int .i64 (q.d)], .agg #[.int .i64 (r.a), .int .i64 (r.b), .int .i64 (r.c), .int .i64 (r.d)]] W fun e w' => e = .returned (.int .i64 L) ∧ Below W.heap.size W w'
theorem dirOK (p q r : Q4) : DirOK p q r ⟨opV p q [] [] (p.dx q), opV p q [] [] (p.dy q), opV p q [] [] (p.dz q)⟩ (opE p q [] []) (opE p q [r] []) (crossV p q r) (leftV p q r) := by
  have hdir : opE p q [] [] = 0 → ∀ W, Calls Tryz.prog 11 #[.agg #[.int .i64 (p.a), .int .i64 (p.b), .int .i64 (p.c), .int .i64 (p.d)], .agg #[.int .i64 (q.a), .int .i64 (q.b), .int .i64 (q.c), .int .i64 (q.d)]] W fun e w' => e = .returned (.agg #[.int .i64 (p.dx q), .int .i64 (p.dy q), .int .i64 (p.dz q)]) ∧ Below W.heap.size W w' := fun h W => by
    obtain ⟨hp, hq, _, hn⟩ := opE_zero h
    exact rdirection_any p q W (plane_iff.1 hp).1 (plane_iff.1 hq).1 hn
  refine ⟨fun h => ?_, opE_less, fun h W => ?_, fun h => ⟨cross_none h, left_none' h⟩, fun h => ?_, fun h W => ?_⟩
  · obtain ⟨a, b, c⟩ := opV_bad h; rw [a, b, c]
  · have k := hdir h W; simp only [opV_zero h]; exact k
  · have h1 := opE_less h
    simp only [opV_zero h1]; exact (cross_dir h).symm
  · have k := rleft_gen p q r (p.dx q) (p.dy q) (p.dz q) W (fun W => hdir (opE_less h) W)
    rw [left_dir h]; exact k

/-- What is known of the temporaries behind the calls of 'bad'. -/
def dirS (p q r : Q4) (E1 E3 : Int) (d : Nat) (W : World) (v : Value) : Prop := match d with
  | 40 => v = .agg #[.int .i64 (p.a), .int .i64 (p.b), .int .i64 (p.c), .int .i64 (p.d)]
  | 41 => v = .agg #[.int .i64 (q.a), .int .i64 (q.b), .int .i64 (q.c), .int .i64 (q.d)]
  | 42 => v = .int .i64 E1
  | 43 => v = .agg #[.int .i64 (p.a), .int .i64 (p.b), .int .i64 (p.c), .int .i64 (p.d)]
  | 44 => v = .agg #[.int .i64 (q.a), .int .i64 (q.b), .int .i64 (q.c), .int .i64 (q.d)]
  | 45 => v = .agg #[.int .i64 (r.a), .int .i64 (r.b), .int .i64 (r.c), .int .i64 (r.d)]
  | 46 => SlV W v [r]
  | 47 => v = .int .i64 E3
  | 14 => v = .int .i64 E1
  | _ => v = .int .i64 E3
theorem dirS_mono {p q r : Q4} {E1 E3 : Int} {W W1 : World} (hb : Below W.heap.size W W1) (d : Nat) (v : Value) (h : dirS p q r E1 E3 d W v) : dirS p q r E1 E3 d W1 v := by
  unfold dirS at h ⊢
  split at h <;> first | exact h | exact SlV.below h (Nat.le_refl _) hb

set_option maxRecDepth 100000 in
set_option maxHeartbeats 4000000 in
theorem directions_any (p0 q0 r0 : Q4) (w : World) (ip0 : p0.I64) (iq0 : q0.I64) (ir0 : r0.I64) :
    Calls Tryz.prog 3 #[.agg #[.int .i64 (p0.a), .int .i64 (p0.b), .int .i64 (p0.c), .int .i64 (p0.d)], .agg #[.int .i64 (q0.a), .int .i64 (q0.b), .int .i64 (q0.c), .int .i64 (q0.d)], .agg #[.int .i64 (r0.a), .int .i64 (r0.b), .int .i64 (r0.c), .int .i64 (r0.d)]] w fun e w' => e = .returned (.bool true) ∧ Below w.heap.size w w' := by
  have HI0 : Hid (p0.I64 ∧ q0.I64 ∧ r0.I64) := ⟨ip0, iq0, ir0⟩
  clear ip0 iq0 ir0
  go_enter Tryz.func3, Tryz.ntmps3
  go_wp2
  go_loopw [7] (fun i wr => ∃ k : Nat, k ≤ 2 ∧ i = .int .i64 k ∧ ∃ p q r, Hid (p.I64 ∧ q.I64 ∧ r.I64) ∧ Hid (LD p q r w wr)) (fun i _ => 2 - (intOf i).toNat)
  case atStart => exact ⟨0, by omega, rfl, p0, q0, r0, HI0, LD.start p0 q0 r0 w⟩
  case round =>
    rename_i wr
    obtain ⟨k, hk, rfl, p, q, r, HI, HL⟩ := hrel
    clear HI0
    by_cases hlt : k < 2
    · obtain ⟨d, hd⟩ : ∃ d : T3, d = ⟨opV p q [] [] (p.dx q), opV p q [] [] (p.dy q), opV p q [] [] (p.dz q)⟩ := ⟨_, rfl⟩
      obtain ⟨E1, h1⟩ : ∃ E1, E1 = opE p q [] [] := ⟨_, rfl⟩
      obtain ⟨E3, h3⟩ : ∃ E3, E3 = opE p q [r] [] := ⟨_, rfl⟩
      obtain ⟨C, hC⟩ : ∃ C, C = crossV p q r := ⟨_, rfl⟩
      obtain ⟨L, hLL⟩ : ∃ L, L = leftV p q r := ⟨_, rfl⟩
      have HOK : Hid (DirOK p q r d E1 E3 C L) := by have h := dirOK p q r; rw [← hd, ← h1, ← h3, ← hC, ← hLL] at h; exact h
      have HDI : Hid (∀ W, Calls Tryz.prog 7 #[.agg #[.int .i64 (p.a), .int .i64 (p.b), .int .i64 (p.c), .int .i64 (p.d)], .agg #[.int .i64 (q.a), .int .i64 (q.b), .int .i64 (q.c), .int .i64 (q.d)]] W fun e w' => e = .returned (.tuple #[.agg #[.int .i64 (d.x), .int .i64 (d.y), .int .i64 (d.z)], .int .i64 E1]) ∧ Below W.heap.size W w') := fun W => by
        rw [hd, h1]; exact lineDirection_any p q W HI.out.1 HI.out.2.1
      have HCR : Hid (∀ W, Calls Tryz.prog 8 #[.agg #[.int .i64 (p.a), .int .i64 (p.b), .int .i64 (p.c), .int .i64 (p.d)], .agg #[.int .i64 (q.a), .int .i64 (q.b), .int .i64 (q.c), .int .i64 (q.d)], .agg #[.int .i64 (r.a), .int .i64 (r.b), .int .i64 (r.c), .int .i64 (r.d)]] W fun e w' => e = .returned (.tuple #[.int .i64 C, .int .i64 E3]) ∧ Below W.heap.size W w') := fun W => by
        rw [hC, h3]; exact crosses_any p q r W HI.out.1 HI.out.2.1 HI.out.2.2
      have HLF : Hid (∀ W, Calls Tryz.prog 9 #[.agg #[.int .i64 (p.a), .int .i64 (p.b), .int .i64 (p.c), .int .i64 (p.d)], .agg #[.int .i64 (q.a), .int .i64 (q.b), .int .i64 (q.c), .int .i64 (q.d)], .agg #[.int .i64 (r.a), .int .i64 (r.b), .int .i64 (r.c), .int .i64 (r.d)]] W fun e w' => e = .returned (.tuple #[.int .i64 L, .int .i64 E3]) ∧ Below W.heap.size W w') := fun W => by
        rw [hLL, h3]; exact left_any p q r W HI.out.1 HI.out.2.1 HI.out.2.2
      have HB1 : Hid (∀ W, Calls Tryz.prog 10 #[.agg #[.int .i64 (p.a), .int .i64 (p.b), .int .i64 (p.c), .int .i64 (p.d)], .agg #[.int .i64 (q.a), .int .i64 (q.b), .int .i64 (q.c), .int .i64 (q.d)], .slice none 0 0] W fun e w' => e = .returned (.int .i64 E1) ∧ Below W.heap.size W w') := fun W => by
        rw [h1]; exact badE_any p q [] _ W HI.out.1 HI.out.2.1 len0 nil_i64 (SlV.nil _)
      have HB3 : Hid (∀ W v, SlV W v [r] → Calls Tryz.prog 10 #[.agg #[.int .i64 (p.a), .int .i64 (p.b), .int .i64 (p.c), .int .i64 (p.d)], .agg #[.int .i64 (q.a), .int .i64 (q.b), .int .i64 (q.c), .int .i64 (q.d)], v] W fun e w' => e = .returned (.int .i64 E3) ∧ Below W.heap.size W w') := fun W v hv => by
        rw [h3]; exact badE_any p q [r] v W HI.out.1 HI.out.2.1 (len1 r) (one_i64 HI.out.2.2) hv
      clear hd h1 h3 hC hLL
      obtain ⟨a0, a1, a2, a3⟩ := HL.out.pc
      obtain ⟨b0, b1, b2, b3⟩ := HL.out.qc
      go_upto_region 4 with fail
      go_cut [8, 9] from 16 to 117 (fun s8 s9 wx => s9 = .int .i64 E1 ∧ ∃ b, s8 = .pointer (some ⟨b, 0, none⟩) ∧ Hid (LE p q r d b w wx))
      case first =>
        go_wp2_with fail
        ((with_reducible refine (HDI.out _).mono ?_); rintro e w1 ⟨rfl, hb⟩)
        have HL1 := Lib.hid ((HL.out.call hb).vec d)
        clear HL hb a0 a1 a2 a3 b0 b1 b2 b3
        go_wp2
        go_meet
        exact ⟨rfl, _, rfl, HL1⟩
      case rest =>
        obtain ⟨rfl, b, rfl, HLE⟩ := hcut
        rename World => wx
        clear HL HDI a0 a1 a2 a3 b0 b1 b2 b3
        obtain ⟨a0, a1, a2, a3⟩ := HLE.out.ld.pc
        obtain ⟨b0, b1, b2, b3⟩ := HLE.out.ld.qc
        obtain ⟨c0, c1, c2, c3⟩ := HLE.out.ld.rc
        go_wp2_with fail
        ((with_reducible refine (HCR.out _).mono ?_); rintro e w1 ⟨rfl, hb⟩)
        have HL1 := Lib.hid (HLE.out.call hb)
        clear HLE hb HCR a0 a1 a2 a3 b0 b1 b2 b3 c0 c1 c2 c3
        obtain ⟨a0, a1, a2, a3⟩ := HL1.out.ld.pc
        obtain ⟨b0, b1, b2, b3⟩ := HL1.out.ld.qc
        obtain ⟨c0, c1, c2, c3⟩ := HL1.out.ld.rc
        go_upto_region 6 with fail
        go_cut [12, 13] from 16 to 117 (fun s12 s13 wx => s12 = .int .i64 L ∧ s13 = .int .i64 E3 ∧ Hid (LE p q r d b w wx))
        case first =>
          go_wp2_with fail
          ((with_reducible refine (HLF.out _).mono ?_); rintro e w2 ⟨rfl, hb⟩)
          have HL2 := Lib.hid (HL1.out.call hb)
          clear HL1 hb HLF a0 a1 a2 a3 b0 b1 b2 b3 c0 c1 c2 c3
          go_wp2
          go_meet
          exact ⟨rfl, rfl, HL2⟩
        case rest =>
          obtain ⟨rfl, rfl, HLE⟩ := hcut
          clear HL1 HLF a0 a1 a2 a3 b0 b1 b2 b3 c0 c1 c2 c3 wx w1
          rename World => wx
          go_upto_region 7 with fail
          go_cut [14, 15] from 16 to 117 (fun s14 s15 wx => s14 = .int .i64 E1 ∧ s15 = .int .i64 E3 ∧ Hid (LE p q r d b w wx))
          case first =>
            refine wp_region_inv (by kernel_rfl) (by kernel_rfl) (fun listed a wy => ∃ t : Nat → Value, a = { tmps := #[.agg #[.int .i64 (p0.a), .int .i64 (p0.b), .int .i64 (p0.c), .int .i64 (p0.d)], .agg #[.int .i64 (q0.a), .int .i64 (q0.b), .int .i64 (q0.c), .int .i64 (q0.d)], .agg #[.int .i64 (r0.a), .int .i64 (r0.b), .int .i64 (r0.c), .int .i64 (r0.d)], .pointer (some ⟨w.heap.size, 0, none⟩), .pointer (some ⟨w.heap.size + 1, 0, none⟩), .pointer (some ⟨w.heap.size + 1 + 1, 0, none⟩), u6, .int .i64 k, .pointer (some ⟨b, 0, none⟩), .int .i64 E1, .int .i64 C, .int .i64 E3, .int .i64 L, .int .i64 E3, t 14, t 15, u16, u17, u18, u19, u20, u21, u22, u23, u24, u25, u26, u27, u28, u29, u30, u31, u32, u33, u34, u35, u36, u37, u38, u39, t 40, t 41, t 42, t 43, t 44, t 45, t 46, t 47, u48, u49, u50, u51, u52, u53, u54, u55, u56, u57, u58, u59, u60, u61, u62, u63, u64, u65, u66, u67, u68, u69, u70, u71, u72, u73, u74, u75, u76, u77, u78, u79, u80, u81, u82, u83, u84, u85, u86, u87, u88, u89, u90, u91, u92, u93, u94, u95, u96, u97, u98, u99, u100, u101, u102, u103, u104, u105, u106, u107, u108, u109, u110, u111, u112, u113, u114, u115, u116, u117, undef], defers := [] } ∧ IR (fun W' => LE p q r d b w W') (dirS p q r E1 E3) [(0, 40), (1, 41), (2, 42), (3, 43), (4, 44), (5, 45), (6, 46), (7, 47), (8, 14), (9, 15)] listed t wy) ⟨(fun d => match d with | 40 => u40 | 41 => u41 | 42 => u42 | 43 => u43 | 44 => u44 | 45 => u45 | 46 => u46 | 47 => u47 | 14 => u14 | 15 => u15 | _ => undef), rfl, IR.start _ HLE.out.drew _⟩ ?_ ?_
            rotate_left
            · rintro listed hs i hi a wy ⟨t, rfl, hR⟩ hr
              match i, hi, hr with
              | 0, _, hr =>
                as_aux_lemma =>
                refine wpOp_step rfl (fun K' hK => ?_)
                have hL := hR.fin
                obtain ⟨c0, c1, c2, c3⟩ := hL.ld.pc
                clear hL
                go_simp
                exact hK _ _ ⟨upd t 40 _, rfl, hR.yields hR.fin (fun _ _ h => h) rfl rfl⟩
              | 1, _, hr =>
                as_aux_lemma =>
                refine wpOp_step rfl (fun K' hK => ?_)
                have hL := hR.fin
                obtain ⟨c0, c1, c2, c3⟩ := hL.ld.qc
                clear hL
                go_simp
                exact hK _ _ ⟨upd t 41 _, rfl, hR.yields hR.fin (fun _ _ h => h) rfl rfl⟩
              | 2, _, hr =>
                as_aux_lemma =>
                refine wpOp_step rfl (fun K' hK => ?_)
                have e1 : t 40 = .agg #[.int .i64 (p.a), .int .i64 (p.b), .int .i64 (p.c), .int .i64 (p.d)] := hR.val (0, 40) (by simp) (dep_of hr 0 (by kernel_rfl))
                have e2 : t 41 = .agg #[.int .i64 (q.a), .int .i64 (q.b), .int .i64 (q.c), .int .i64 (q.d)] := hR.val (1, 41) (by simp) (dep_of hr 1 (by kernel_rfl))
                have HR := Lib.hid hR.fin
                go_simp
                refine (HB1.out _).mono ?_
                rintro e w1 ⟨rfl, hb⟩
                exact hK _ _ ⟨upd t 42 _, by simp [upd, e1, e2], hR.yields (HR.out.call hb) (dirS_mono hb) rfl rfl⟩
              | 3, _, hr =>
                as_aux_lemma =>
                refine wpOp_step rfl (fun K' hK => ?_)
                have hL := hR.fin
                obtain ⟨c0, c1, c2, c3⟩ := hL.ld.pc
                clear hL
                go_simp
                exact hK _ _ ⟨upd t 43 _, rfl, hR.yields hR.fin (fun _ _ h => h) rfl rfl⟩
              | 4, _, hr =>
                as_aux_lemma =>
                refine wpOp_step rfl (fun K' hK => ?_)
                have hL := hR.fin
                obtain ⟨c0, c1, c2, c3⟩ := hL.ld.qc
                clear hL
                go_simp
                exact hK _ _ ⟨upd t 44 _, rfl, hR.yields hR.fin (fun _ _ h => h) rfl rfl⟩
              | 5, _, hr =>
                as_aux_lemma =>
                refine wpOp_step rfl (fun K' hK => ?_)
                have hL := hR.fin
                obtain ⟨c0, c1, c2, c3⟩ := hL.ld.rc
                clear hL
                go_simp
                exact hK _ _ ⟨upd t 45 _, rfl, hR.yields hR.fin (fun _ _ h => h) rfl rfl⟩
              | 6, _, hr =>
                as_aux_lemma =>
                refine wpOp_step rfl (fun K' hK => ?_)
                have e1 : t 45 = .agg #[.int .i64 (r.a), .int .i64 (r.b), .int .i64 (r.c), .int .i64 (r.d)] := hR.val (5, 45) (by simp) (dep_of hr 5 (by kernel_rfl))
                have HR := Lib.hid hR.fin
                have hb : Below wy.heap.size wy (wy.alloc (PV r)) := (Below.refl _ _).alloc (Nat.le_refl _) _
                have HSL : Hid (SlV (wy.alloc (PV r)) (.slice (some ⟨wy.heap.size, 0, none⟩) 1 1) [r]) := SlV.mk rfl (by simp) (sl4_one (by have h := blk_four (blk_new wy (PV r)); exact h))
                have HB := Lib.hid hb
                clear hb
                go_simp
                exact hK _ _ ⟨upd t 46 _, by simp [upd, e1], hR.yields (HR.out.call HB.out) (dirS_mono HB.out) HSL.out rfl⟩
              | 7, _, hr =>
                as_aux_lemma =>
                refine wpOp_step rfl (fun K' hK => ?_)
                have e1 : t 43 = .agg #[.int .i64 (p.a), .int .i64 (p.b), .int .i64 (p.c), .int .i64 (p.d)] := hR.val (3, 43) (by simp) (dep_of hr 3 (by kernel_rfl))
                have e2 : t 44 = .agg #[.int .i64 (q.a), .int .i64 (q.b), .int .i64 (q.c), .int .i64 (q.d)] := hR.val (4, 44) (by simp) (dep_of hr 4 (by kernel_rfl))
                have hv : SlV wy (t 46) [r] := hR.val (6, 46) (by simp) (dep_of hr 6 (by kernel_rfl))
                have HR := Lib.hid hR.fin
                have HV := Lib.hid hv
                clear hv
                go_simp
                refine (HB3.out _ _ HV.out).mono ?_
                rintro e w1 ⟨rfl, hb⟩
                exact hK _ _ ⟨upd t 47 _, by simp [upd, e1, e2], hR.yields (HR.out.call hb) (dirS_mono hb) rfl rfl⟩
              | 8, _, hr =>
                as_aux_lemma =>
                refine wpOp_step rfl (fun K' hK => ?_)
                have e1 : t 42 = .int .i64 E1 := hR.val (2, 42) (by simp) (dep_of hr 2 (by kernel_rfl))
                go_simp
                exact hK _ _ ⟨upd t 14 _, by simp [upd, e1], hR.yields hR.fin (fun _ _ h => h) rfl rfl⟩
              | 9, _, hr =>
                as_aux_lemma =>
                refine wpOp_step rfl (fun K' hK => ?_)
                have e1 : t 47 = .int .i64 E3 := hR.val (7, 47) (by simp) (dep_of hr 7 (by kernel_rfl))
                go_simp
                exact hK _ _ ⟨upd t 15 _, by simp [upd, e1], hR.yields hR.fin (fun _ _ h => h) rfl rfl⟩
            rintro listed a W2 ⟨t, rfl, hR⟩ hl
            have e1 : t 14 = .int .i64 E1 := hR.val (8, 14) (by simp) (hl 8 (by decide))
            have e2 : t 15 = .int .i64 E3 := hR.val (9, 15) (by simp) (hl 9 (by decide))
            have HX := Lib.hid hR.fin
            go_wp2_with fail
            go_meet
            exact ⟨e1, e2, HX⟩
          case rest =>
            obtain ⟨rfl, rfl, HL1⟩ := hcut
            clear HLE HB1 HB3 wx
            rename World => wx
            go_upto_region 8 with fail
            go_cut [81] from 16 to 117 (fun s81 wx => s81 = .bool false ∧ Hid (LE p q r d b w wx))
            case first =>
              have hOK := HOK.out
              obtain ⟨d0, d1, d2⟩ := HL1.out.dc
              by_cases hE1 : E1 = 0
              · by_cases hE3 : E3 = 0
                · subst hE1 hE3
                  clear hOK
                  go_wp2
                  go_meet
                  exact ⟨rfl, HL1⟩
                · subst hE1
                  obtain ⟨rfl, rfl⟩ := hOK.none3 hE3
                  have n3 : (E3 != 0) = true := by simpa using hE3
                  clear hOK
                  go_wp2
                  go_meet
                  exact ⟨rfl, HL1⟩
              · have hE3 : ¬ E3 = 0 := fun h => hE1 (hOK.less h)
                obtain ⟨rfl, rfl⟩ := hOK.none3 hE3
                have hd0 := hOK.none1 hE1
                subst hd0
                have n1 : (E1 != 0) = true := by simpa using hE1
                have n3 : (E3 != 0) = true := by simpa using hE3
                clear hOK
                go_wp2
                go_meet
                exact ⟨rfl, HL1⟩
            case rest =>
              obtain ⟨rfl, HLE⟩ := hcut
              clear HL1 wx
              rename World => wx
              go_upto_region 10 with fail
              go_cut [90] from 16 to 117 (fun s90 wx => s90 = .bool false ∧ Hid (LE p q r d b w wx))
              case first =>
                by_cases hE1 : E1 = 0
                · have HD := Lib.hid (HOK.out.dir hE1)
                  subst hE1
                  obtain ⟨a0, a1, a2, a3⟩ := HLE.out.ld.pc
                  obtain ⟨b0, b1, b2, b3⟩ := HLE.out.ld.qc
                  obtain ⟨d0, d1, d2⟩ := HLE.out.dc
                  have s0 : w.heap.size < wx.heap.size := by have := HLE.out.ld.size; omega
                  have s1 : w.heap.size + 1 < wx.heap.size := by have := HLE.out.ld.size; omega
                  have s3 : b < wx.heap.size := HLE.out.bd.lt
                  have hE : ∀ W, Fr 0 [] [] wx W → (W.cell? ⟨w.heap.size, 0, none⟩ = some (.int .i64 (p.a)) ∧ W.cell? ⟨w.heap.size, 1, none⟩ = some (.int .i64 (p.b)) ∧ W.cell? ⟨w.heap.size, 2, none⟩ = some (.int .i64 (p.c)) ∧ W.cell? ⟨w.heap.size, 3, none⟩ = some (.int .i64 (p.d)) ∧ W.cell? ⟨(w.heap.size+1), 0, none⟩ = some (.int .i64 (q.a)) ∧ W.cell? ⟨(w.heap.size+1), 1, none⟩ = some (.int .i64 (q.b)) ∧ W.cell? ⟨(w.heap.size+1), 2, none⟩ = some (.int .i64 (q.c)) ∧ W.cell? ⟨(w.heap.size+1), 3, none⟩ = some (.int .i64 (q.d)) ∧ W.cell? ⟨b, 0, none⟩ = some (.int .i64 (d.x)) ∧ W.cell? ⟨b, 1, none⟩ = some (.int .i64 (d.y)) ∧ W.cell? ⟨b, 2, none⟩ = some (.int .i64 (d.z))) := fun W h => by (repeat' apply And.intro) <;> first | exact h.at0 rfl | exact h.at rfl | exact (h.rms0 rfl).cell | exact (h.rms rfl).cell | exact (h.rms0 rfl).frozen | exact (h.rms rfl).frozen | exact (h.own.below.cell (p := ⟨w.heap.size, _, none⟩) s0).trans (by assumption) | exact (h.own.below.cell (p := ⟨(w.heap.size+1), _, none⟩) s1).trans (by assumption) | exact (h.own.below.cell (p := ⟨b, _, none⟩) s3).trans (by assumption)
                  have HE := Lib.hid hE
                  clear hE
                  have hF : Fr 0 [] [] wx wx := Fr.nil _
                  clear a0 a1 a2 a3 b0 b1 b2 b3 d0 d1 d2
                  go_region_held3 (fun W => Fr 0 [] [] wx W ∧ W.cell? ⟨w.heap.size, 0, none⟩ = some (.int .i64 (p.a)) ∧ W.cell? ⟨w.heap.size, 1, none⟩ = some (.int .i64 (p.b)) ∧ W.cell? ⟨w.heap.size, 2, none⟩ = some (.int .i64 (p.c)) ∧ W.cell? ⟨w.heap.size, 3, none⟩ = some (.int .i64 (p.d)) ∧ W.cell? ⟨(w.heap.size+1), 0, none⟩ = some (.int .i64 (q.a)) ∧ W.cell? ⟨(w.heap.size+1), 1, none⟩ = some (.int .i64 (q.b)) ∧ W.cell? ⟨(w.heap.size+1), 2, none⟩ = some (.int .i64 (q.c)) ∧ W.cell? ⟨(w.heap.size+1), 3, none⟩ = some (.int .i64 (q.d)) ∧ W.cell? ⟨b, 0, none⟩ = some (.int .i64 (d.x)) ∧ W.cell? ⟨b, 1, none⟩ = some (.int .i64 (d.y)) ∧ W.cell? ⟨b, 2, none⟩ = some (.int .i64 (d.z))) ((first | exact hSK | assumption | (have hq := Fr.keep HE.out (by assumption) hb1; exact hq) | (have hq := Fr.both HE.out hF.drew; exact hq) | (have hq := Fr.both HE.out (Fr.nil wx).drew; exact hq) | (refine Fr.both HE.out ?_; (repeat (first | exact hF | exact And.left (by assumption) | refine Fr.set ?_ (by first | (simp; done) | (simp; omega)) (by first | (simp [List.lookup]; done) | (simp [Nat.add_assoc, List.lookup]; done)) _ | refine Fr.drew ?_ | refine Fr.alloc ?_ _))))) ((go_at_call 11; refine (HD.out _).mono ?_; rintro e w1 ⟨rfl, hb1⟩))
                  rename World => W3
                  have HG := Lib.hid (show Fr 0 [] [] wx W3 from And.left (by assumption))
                  go_wp2
                  go_meet
                  exact ⟨by simp [eq3B], Lib.hid (HLE.out.call HG.out.own.below)⟩
                · have n1 : (E1 == 0) = false := by simpa using hE1
                  go_wp2
                  go_region
                  go_wp2
                  go_meet
                  exact ⟨rfl, Lib.hid (HLE.out.call (Below.refl _ _).drew)⟩
              case rest =>
                obtain ⟨rfl, HL1⟩ := hcut
                clear HLE wx
                rename World => wx
                go_upto_region 12 with fail
                go_cut [111] from 16 to 117 (fun s111 wx => s111 = .bool false ∧ Hid (LE p q r d b w wx))
                case first =>
                  by_cases hE3 : E3 = 0
                  · have HD := Lib.hid (HOK.out.dir (HOK.out.less hE3))
                    have HLF := Lib.hid (HOK.out.left hE3)
                    have HSG : Hid (∀ W, Calls Tryz.prog 12 #[.int .i64 (dot d.x d.y d.z r.a r.b r.c)] W fun e w' => e = .returned (.int .i64 C) ∧ W = w') := fun W => by
                      rw [← HOK.out.cross hE3]; exact psign_any _ W
                    subst hE3
                    clear HOK
                    obtain ⟨a0, a1, a2, a3⟩ := HL1.out.ld.pc
                    obtain ⟨b0, b1, b2, b3⟩ := HL1.out.ld.qc
                    obtain ⟨c0, c1, c2, c3⟩ := HL1.out.ld.rc
                    have s0 : w.heap.size < wx.heap.size := by have := HL1.out.ld.size; omega
                    have s1 : w.heap.size + 1 < wx.heap.size := by have := HL1.out.ld.size; omega
                    have s2 : w.heap.size + 1 + 1 < wx.heap.size := by have := HL1.out.ld.size; omega
                    have hE : ∀ W, Fr 0 [] [] wx W → (W.cell? ⟨w.heap.size, 0, none⟩ = some (.int .i64 (p.a)) ∧ W.cell? ⟨w.heap.size, 1, none⟩ = some (.int .i64 (p.b)) ∧ W.cell? ⟨w.heap.size, 2, none⟩ = some (.int .i64 (p.c)) ∧ W.cell? ⟨w.heap.size, 3, none⟩ = some (.int .i64 (p.d)) ∧ W.cell? ⟨(w.heap.size+1), 0, none⟩ = some (.int .i64 (q.a)) ∧ W.cell? ⟨(w.heap.size+1), 1, none⟩ = some (.int .i64 (q.b)) ∧ W.cell? ⟨(w.heap.size+1), 2, none⟩ = some (.int .i64 (q.c)) ∧ W.cell? ⟨(w.heap.size+1), 3, none⟩ = some (.int .i64 (q.d)) ∧ W.cell? ⟨(w.heap.size+1+1), 0, none⟩ = some (.int .i64 (r.a)) ∧ W.cell? ⟨(w.heap.size+1+1), 1, none⟩ = some (.int .i64 (r.b)) ∧ W.cell? ⟨(w.heap.size+1+1), 2, none⟩ = some (.int .i64 (r.c)) ∧ W.cell? ⟨(w.heap.size+1+1), 3, none⟩ = some (.int .i64 (r.d))) := fun W h => by (repeat' apply And.intro) <;> first | exact h.at0 rfl | exact h.at rfl | exact (h.rms0 rfl).cell | exact (h.rms rfl).cell | exact (h.rms0 rfl).frozen | exact (h.rms rfl).frozen | exact (h.own.below.cell (p := ⟨w.heap.size, _, none⟩) s0).trans (by assumption) | exact (h.own.below.cell (p := ⟨(w.heap.size+1), _, none⟩) s1).trans (by assumption) | exact (h.own.below.cell (p := ⟨(w.heap.size+1+1), _, none⟩) s2).trans (by assumption)
                    have HE := Lib.hid hE
                    clear hE
                    have hF : Fr 0 [] [] wx wx := Fr.nil _
                    clear a0 a1 a2 a3 b0 b1 b2 b3 c0 c1 c2 c3
                    go_region_held3 (fun W => Fr 0 [] [] wx W ∧ W.cell? ⟨w.heap.size, 0, none⟩ = some (.int .i64 (p.a)) ∧ W.cell? ⟨w.heap.size, 1, none⟩ = some (.int .i64 (p.b)) ∧ W.cell? ⟨w.heap.size, 2, none⟩ = some (.int .i64 (p.c)) ∧ W.cell? ⟨w.heap.size, 3, none⟩ = some (.int .i64 (p.d)) ∧ W.cell? ⟨(w.heap.size+1), 0, none⟩ = some (.int .i64 (q.a)) ∧ W.cell? ⟨(w.heap.size+1), 1, none⟩ = some (.int .i64 (q.b)) ∧ W.cell? ⟨(w.heap.size+1), 2, none⟩ = some (.int .i64 (q.c)) ∧ W.cell? ⟨(w.heap.size+1), 3, none⟩ = some (.int .i64 (q.d)) ∧ W.cell? ⟨(w.heap.size+1+1), 0, none⟩ = some (.int .i64 (r.a)) ∧ W.cell? ⟨(w.heap.size+1+1), 1, none⟩ = some (.int .i64 (r.b)) ∧ W.cell? ⟨(w.heap.size+1+1), 2, none⟩ = some (.int .i64 (r.c)) ∧ W.cell? ⟨(w.heap.size+1+1), 3, none⟩ = some (.int .i64 (r.d))) ((first | exact hSK | assumption | (have hq := Fr.keep HE.out (by assumption) hb1; exact hq) | (have hq := Fr.both HE.out hF.drew; exact hq) | (have hq := Fr.both HE.out (Fr.nil wx).drew; exact hq) | (refine Fr.both HE.out ?_; (repeat (first | exact hF | exact And.left (by assumption) | refine Fr.set ?_ (by first | (simp; done) | (simp; omega)) (by first | (simp [List.lookup]; done) | (simp [Nat.add_assoc, List.lookup]; done)) _ | refine Fr.drew ?_ | refine Fr.alloc ?_ _))))) (first | (go_at_call 11; refine (HD.out _).mono ?_; rintro e w1 ⟨rfl, hb1⟩) | (go_at_call 14; refine (pnormal_any _ _ _ _ _).mono ?_; rintro e w1 ⟨rfl, hb1⟩) | (go_at_call 13; refine (pdot_any _ _ _ _ _ _ _).mono ?_; rintro e w1 ⟨rfl, hb1⟩) | (go_at_call 12; refine (HSG.out _).mono ?_; rintro e w1 ⟨rfl, rfl⟩) | (go_at_call 15; refine (HLF.out _).mono ?_; rintro e w1 ⟨rfl, hb1⟩))
                    rename World => W3
                    have HG := Lib.hid (show Fr 0 [] [] wx W3 from And.left (by assumption))
                    go_wp2
                    go_meet
                    exact ⟨rfl, Lib.hid (HL1.out.call HG.out.own.below)⟩
                  · have n3 : (E3 == 0) = false := by simpa using hE3
                    go_wp2
                    go_region
                    go_wp2
                    go_meet
                    exact ⟨rfl, Lib.hid (HL1.out.call (Below.refl _ _).drew)⟩
                case rest =>
                  obtain ⟨rfl, HLE⟩ := hcut
                  clear HL1 HOK wx
                  rename World => wx
                  go_upto_region 14 with fail
                  refine wp_region_inv (by kernel_rfl) (by kernel_rfl) (fun listed a wy => ∃ t : Nat → Value, a = { tmps := #[.agg #[.int .i64 (p0.a), .int .i64 (p0.b), .int .i64 (p0.c), .int .i64 (p0.d)], .agg #[.int .i64 (q0.a), .int .i64 (q0.b), .int .i64 (q0.c), .int .i64 (q0.d)], .agg #[.int .i64 (r0.a), .int .i64 (r0.b), .int .i64 (r0.c), .int .i64 (r0.d)], .pointer (some ⟨w.heap.size, 0, none⟩), .pointer (some ⟨w.heap.size + 1, 0, none⟩), .pointer (some ⟨w.heap.size + 1 + 1, 0, none⟩), u6, .int .i64 k, .pointer (some ⟨b, 0, none⟩), .int .i64 E1, .int .i64 C, .int .i64 E3, .int .i64 L, .int .i64 E3, .int .i64 E1, .int .i64 E3, u16, u17, u18, u19, u20, u21, u22, u23, u24, u25, u26, u27, u28, u29, u30, u31, u32, u33, u34, u35, u36, u37, u38, u39, u40, u41, u42, u43, u44, u45, u46, u47, u48, u49, u50, u51, u52, u53, u54, u55, u56, u57, u58, u59, u60, u61, u62, u63, u64, u65, u66, u67, u68, u69, u70, u71, u72, u73, u74, u75, u76, u77, u78, u79, u80, u81, u82, u83, u84, u85, u86, u87, u88, u89, u90, u91, u92, u93, u94, u95, u96, u97, u98, u99, u100, u101, u102, u103, u104, u105, u106, u107, u108, u109, u110, .bool false, t 112, t 113, t 114, t 115, t 116, t 117, undef], defers := [] } ∧ IR (fun W' => ∃ p q r, (p.I64 ∧ q.I64 ∧ r.I64) ∧ LD p q r w W') (fun _ _ v => ∃ q : Q4, q.I64 ∧ v = .agg #[.int .i64 (q.a), .int .i64 (q.b), .int .i64 (q.c), .int .i64 (q.d)]) [(0, 112), (1, 113), (2, 114), (3, 115), (4, 116), (5, 117)] listed t wy) ⟨(fun d => match d with | 112 => u112 | 113 => u113 | 114 => u114 | 115 => u115 | 116 => u116 | 117 => u117 | _ => undef), rfl, IR.start _ ⟨p, q, r, HI.out, HLE.out.ld.drew⟩ _⟩ ?_ ?_
                  rotate_left
                  · rintro listed hs i hi a wy ⟨t, rfl, hR⟩ hr
                    match i, hi, hr with
                    | 0, _, hr =>
                      as_aux_lemma =>
                      refine wpOp_step rfl (fun K' hK => ?_)
                      obtain ⟨p, q, r, hI, hL⟩ := hR.fin
                      obtain ⟨c0, c1, c2, c3⟩ := hL.pc
                      have HY := Lib.hid hI.1
                      clear hL hI
                      go_simp
                      exact hK _ _ ⟨upd t 112 _, rfl, hR.yields hR.fin (fun _ _ h => h) ⟨_, HY.out, rfl⟩ rfl⟩
                    | 1, _, hr =>
                      as_aux_lemma =>
                      refine wpOp_step rfl (fun K' hK => ?_)
                      obtain ⟨x, hx, ex⟩ := hR.val (0, 112) (by simp) (dep_of hr 0 (by kernel_rfl))
                      have ex : t 112 = .agg #[.int .i64 (x.a), .int .i64 (x.b), .int .i64 (x.c), .int .i64 (x.d)] := ex
                      obtain ⟨p, q, r, hI, hL⟩ := hR.fin
                      have HI := Lib.hid hI
                      have HL := Lib.hid hL
                      clear hx hI hL
                      go_simp
                      refine (tame_any x.a x.b x.c x.d 4 wy (by decide) (by decide)).mono ?_
                      rintro e w1 ⟨⟨y, _, hy2, rfl⟩, hb⟩
                      exact hK _ _ ⟨upd t 113 _, by simp [upd, ex], hR.yields ⟨p, q, r, HI.out, HL.out.call hb⟩ (fun _ _ h => h) ⟨y, hy2, rfl⟩ rfl⟩
                    | 2, _, hr =>
                      as_aux_lemma =>
                      refine wpOp_step rfl (fun K' hK => ?_)
                      obtain ⟨p, q, r, hI, hL⟩ := hR.fin
                      obtain ⟨c0, c1, c2, c3⟩ := hL.qc
                      have HY := Lib.hid hI.2.1
                      clear hL hI
                      go_simp
                      exact hK _ _ ⟨upd t 114 _, rfl, hR.yields hR.fin (fun _ _ h => h) ⟨_, HY.out, rfl⟩ rfl⟩
                    | 3, _, hr =>
                      as_aux_lemma =>
                      refine wpOp_step rfl (fun K' hK => ?_)
                      obtain ⟨x, hx, ex⟩ := hR.val (2, 114) (by simp) (dep_of hr 2 (by kernel_rfl))
                      have ex : t 114 = .agg #[.int .i64 (x.a), .int .i64 (x.b), .int .i64 (x.c), .int .i64 (x.d)] := ex
                      obtain ⟨p, q, r, hI, hL⟩ := hR.fin
                      have HI := Lib.hid hI
                      have HL := Lib.hid hL
                      clear hx hI hL
                      go_simp
                      refine (tame_any x.a x.b x.c x.d 4 wy (by decide) (by decide)).mono ?_
                      rintro e w1 ⟨⟨y, _, hy2, rfl⟩, hb⟩
                      exact hK _ _ ⟨upd t 115 _, by simp [upd, ex], hR.yields ⟨p, q, r, HI.out, HL.out.call hb⟩ (fun _ _ h => h) ⟨y, hy2, rfl⟩ rfl⟩
                    | 4, _, hr =>
                      as_aux_lemma =>
                      refine wpOp_step rfl (fun K' hK => ?_)
                      obtain ⟨p, q, r, hI, hL⟩ := hR.fin
                      obtain ⟨c0, c1, c2, c3⟩ := hL.rc
                      have HY := Lib.hid hI.2.2
                      clear hL hI
                      go_simp
                      exact hK _ _ ⟨upd t 116 _, rfl, hR.yields hR.fin (fun _ _ h => h) ⟨_, HY.out, rfl⟩ rfl⟩
                    | 5, _, hr =>
                      as_aux_lemma =>
                      refine wpOp_step rfl (fun K' hK => ?_)
                      obtain ⟨x, hx, ex⟩ := hR.val (4, 116) (by simp) (dep_of hr 4 (by kernel_rfl))
                      have ex : t 116 = .agg #[.int .i64 (x.a), .int .i64 (x.b), .int .i64 (x.c), .int .i64 (x.d)] := ex
                      obtain ⟨p, q, r, hI, hL⟩ := hR.fin
                      have HI := Lib.hid hI
                      have HL := Lib.hid hL
                      clear hx hI hL
                      go_simp
                      refine (tame_any x.a x.b x.c x.d 4 wy (by decide) (by decide)).mono ?_
                      rintro e w1 ⟨⟨y, _, hy2, rfl⟩, hb⟩
                      exact hK _ _ ⟨upd t 117 _, by simp [upd, ex], hR.yields ⟨p, q, r, HI.out, HL.out.call hb⟩ (fun _ _ h => h) ⟨y, hy2, rfl⟩ rfl⟩
                    | 6, _, hr =>
                      as_aux_lemma =>
                      refine wpOp_step rfl (fun K' hK => ?_)
                      obtain ⟨x, hx, ex⟩ := hR.val (1, 113) (by simp) (dep_of hr 1 (by kernel_rfl))
                      have ex : t 113 = .agg #[.int .i64 (x.a), .int .i64 (x.b), .int .i64 (x.c), .int .i64 (x.d)] := ex
                      obtain ⟨p, q, r, hI, hL⟩ := hR.fin
                      obtain ⟨c0, c1, c2, c3⟩ := hL.pc
                      have hf := (blk_cells hL.bp).2
                      have HIL : Hid ((x.I64 ∧ q.I64 ∧ r.I64) ∧ LD x q r w ((((wy.setCell ⟨w.heap.size, 0, none⟩ (.int .i64 x.a)).setCell ⟨w.heap.size, 1, none⟩ (.int .i64 x.b)).setCell ⟨w.heap.size, 2, none⟩ (.int .i64 x.c)).setCell ⟨w.heap.size, 3, none⟩ (.int .i64 x.d))) := ⟨⟨hx, hI.2.1, hI.2.2⟩, hL.setP x⟩
                      clear hI hL hx
                      go_simp
                      exact hK _ _ ⟨t, by simp [ex], hR.stores ⟨_, _, _, HIL.out.1, HIL.out.2⟩ (fun _ _ h => h) rfl⟩
                    | 7, _, hr =>
                      as_aux_lemma =>
                      refine wpOp_step rfl (fun K' hK => ?_)
                      obtain ⟨x, hx, ex⟩ := hR.val (3, 115) (by simp) (dep_of hr 3 (by kernel_rfl))
                      have ex : t 115 = .agg #[.int .i64 (x.a), .int .i64 (x.b), .int .i64 (x.c), .int .i64 (x.d)] := ex
                      obtain ⟨p, q, r, hI, hL⟩ := hR.fin
                      obtain ⟨c0, c1, c2, c3⟩ := hL.qc
                      have hf := (blk_cells hL.bq).2
                      have HIL : Hid ((p.I64 ∧ x.I64 ∧ r.I64) ∧ LD p x r w ((((wy.setCell ⟨w.heap.size + 1, 0, none⟩ (.int .i64 x.a)).setCell ⟨w.heap.size + 1, 1, none⟩ (.int .i64 x.b)).setCell ⟨w.heap.size + 1, 2, none⟩ (.int .i64 x.c)).setCell ⟨w.heap.size + 1, 3, none⟩ (.int .i64 x.d))) := ⟨⟨hI.1, hx, hI.2.2⟩, hL.setQ x⟩
                      clear hI hL hx
                      go_simp
                      exact hK _ _ ⟨t, by simp [ex], hR.stores ⟨_, _, _, HIL.out.1, HIL.out.2⟩ (fun _ _ h => h) rfl⟩
                    | 8, _, hr =>
                      as_aux_lemma =>
                      refine wpOp_step rfl (fun K' hK => ?_)
                      obtain ⟨x, hx, ex⟩ := hR.val (5, 117) (by simp) (dep_of hr 5 (by kernel_rfl))
                      have ex : t 117 = .agg #[.int .i64 (x.a), .int .i64 (x.b), .int .i64 (x.c), .int .i64 (x.d)] := ex
                      obtain ⟨p, q, r, hI, hL⟩ := hR.fin
                      obtain ⟨c0, c1, c2, c3⟩ := hL.rc
                      have hf := (blk_cells hL.br).2
                      have HIL : Hid ((p.I64 ∧ q.I64 ∧ x.I64) ∧ LD p q x w ((((wy.setCell ⟨w.heap.size + 1 + 1, 0, none⟩ (.int .i64 x.a)).setCell ⟨w.heap.size + 1 + 1, 1, none⟩ (.int .i64 x.b)).setCell ⟨w.heap.size + 1 + 1, 2, none⟩ (.int .i64 x.c)).setCell ⟨w.heap.size + 1 + 1, 3, none⟩ (.int .i64 x.d))) := ⟨⟨hI.1, hI.2.1, hx⟩, hL.setR x⟩
                      clear hI hL hx
                      go_simp
                      exact hK _ _ ⟨t, by simp [ex], hR.stores ⟨_, _, _, HIL.out.1, HIL.out.2⟩ (fun _ _ h => h) rfl⟩
                  rintro listed a W2 ⟨t, rfl, hR⟩ hl
                  obtain ⟨p2, q2, r2, hI, hL⟩ := hR.fin
                  have HI2 := Lib.hid hI
                  have HL2 := Lib.hid hL
                  clear hI hL hR hl
                  go_wp2_with fail
                  refine ⟨⟨k + 1, by omega, by go_num, p2, q2, r2, HI2, HL2⟩, ?_⟩
                  simp [intOf]; omega
    · have HA : Hid (∀ W, Calls Tryz.prog 17 #[] W fun e w' => e = .returned (.bool true) ∧ Below W.heap.size W w') := fun W => awake_any W
      go_wp2_with fail
      ((with_reducible refine (HA.out _).mono ?_); rintro e w1 ⟨rfl, hb⟩)
      go_wp2
      go_ret
      exact ⟨rfl, (HL.out.call hb).below⟩

end Go.Proofs.YtaoedfegakpjeabGreat
