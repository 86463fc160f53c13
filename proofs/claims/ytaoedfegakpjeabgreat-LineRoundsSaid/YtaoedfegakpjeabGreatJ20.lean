/- Contracts of the functions that the statement reaches, and plain lemmas: part 20 of 25. -/
import Derived.Test.YtaoedfegakpjeabGreatJ16
import Derived.Test.YtaoedfegakpjeabGreatJ06

namespace Go.Proofs.YtaoedfegakpjeabGreat
open Go.RowKit

/-- The parts of a product of two halves. -/
theorem halves (U V U0 U1 V0 V1 D B C A D1 M M0 N M1 N1 N0 D0 : Int) (hU : 0 ≤ U ∧ U ≤ 9223372036854775807) (hV : 0 ≤ V ∧ V ≤ 9223372036854775807)
    (u0 : U0 = U % 4294967296) (u1 : U1 = U / 4294967296) (v0 : V0 = V % 4294967296) (v1 : V1 = V / 4294967296) (hD : D = U0 * V0) (hB : B = U1 * V0) (hC : C = U0 * V1) (hA : A = U1 * V1)
    (d1 : D1 = D / 4294967296) (hM : M = B + D1) (m0 : M0 = M % 4294967296) (hN : N = C + M0) (m1 : M1 = M / 4294967296) (n1 : N1 = N / 4294967296) (n0 : N0 = N % 4294967296) (d0 : D0 = D % 4294967296) :
    (0 ≤ D ∧ D ≤ 18446744065119617025) ∧ (0 ≤ B ∧ B ≤ 9223372032559808512) ∧ (0 ≤ C ∧ C ≤ 9223372032559808512) ∧ (0 ≤ A ∧ A ≤ 4611686018427387904) ∧ A + M1 + N1 = U * V / 18446744073709551616 ∧ N0 * 4294967296 + D0 = U * V % 18446744073709551616 := by
  have b0 : 0 ≤ U0 ∧ U0 ≤ 4294967295 := by omega
  have b1 : 0 ≤ U1 ∧ U1 ≤ 2147483647 := by omega
  have c0 : 0 ≤ V0 ∧ V0 ≤ 4294967295 := by omega
  have c1 : 0 ≤ V1 ∧ V1 ≤ 2147483647 := by omega
  have kD : 0 ≤ D ∧ D ≤ 18446744065119617025 := by
    rw [hD]; exact ⟨Int.mul_nonneg b0.1 c0.1, Int.le_trans (Int.mul_le_mul b0.2 c0.2 c0.1 (by omega)) (by decide)⟩
  have kB : 0 ≤ B ∧ B ≤ 9223372032559808512 := by
    rw [hB]; exact ⟨Int.mul_nonneg b1.1 c0.1, Int.le_trans (Int.mul_le_mul b1.2 c0.2 c0.1 (by omega)) (by decide)⟩
  have kC : 0 ≤ C ∧ C ≤ 9223372032559808512 := by
    rw [hC]; exact ⟨Int.mul_nonneg b0.1 c1.1, Int.le_trans (Int.mul_le_mul b0.2 c1.2 c1.1 (by omega)) (by decide)⟩
  have kA : 0 ≤ A ∧ A ≤ 4611686018427387904 := by
    rw [hA]; exact ⟨Int.mul_nonneg b1.1 c1.1, Int.le_trans (Int.mul_le_mul b1.2 c1.2 c1.1 (by omega)) (by decide)⟩
  have eU : U = U1 * 4294967296 + U0 := by omega
  have eV : V = V1 * 4294967296 + V0 := by omega
  have e : U * V = A * 18446744073709551616 + (B + C) * 4294967296 + D := by
    rw [eU, eV, hA, hB, hC, hD]; grind
  refine ⟨kD, kB, kC, kA, ?_, ?_⟩
  · rw [e]; omega
  · rw [e]; omega

noncomputable def tHi (a b : Int) : Int := vl (sizeI a * sizeI b / 18446744073709551616)
noncomputable def tLo (a b : Int) : Int := vl (sizeI a * sizeI b % 18446744073709551616)
theorem tHi_eq (a b : Int) : tHi a b = sizeI a * sizeI b / 18446744073709551616 := vl_eq _
theorem tLo_eq (a b : Int) : tLo a b = sizeI a * sizeI b % 18446744073709551616 := vl_eq _
noncomputable def tNeg (a b : Int) : Bool := vlB ((decide (a < 0) != decide (b < 0)) && (decide (0 < tHi a b) || decide (0 < tLo a b)))
theorem tNeg_eq (a b : Int) : tNeg a b = ((decide (a < 0) != decide (b < 0)) && (decide (0 < tHi a b) || decide (0 < tLo a b))) := vlB_eq _
theorem uw_id {x : Int} (h0 : 0 ≤ x) (h1 : x ≤ 18446744073709551615) : IntKind.u64.wrap x = x := by
  simp [IntKind.wrap, IntKind.bits, IntKind.signed]; omega

set_option maxHeartbeats 4000000 in
theorem times_any (a b : Int) (w : World) (ia : I64 a) (ib : I64 b) :
    Calls Tryz.prog 50 #[.int .i64 a, .int .i64 b] w fun e w' => e = .returned (.agg #[.bool (tNeg a b), .int .u64 (tHi a b), .int .u64 (tLo a b)]) ∧ Below w.heap.size w w' := by
  have HA : Hid (∀ W, Calls Tryz.prog 44 #[.int .i64 a] W fun e w' => e = .returned (.int .i64 (sizeI a)) ∧ W = w') := fun W => size_any a W
  have HB : Hid (∀ W, Calls Tryz.prog 44 #[.int .i64 b] W fun e w' => e = .returned (.int .i64 (sizeI b)) ∧ W = w') := fun W => size_any b W
  have hT := tNeg_eq a b
  have hH := tHi_eq a b
  have hL := tLo_eq a b
  have hU : 0 ≤ sizeI a ∧ sizeI a ≤ 9223372036854775807 := ⟨sizeI_nonneg ia, (sizeI_i64 ia).2⟩
  have hV : 0 ≤ sizeI b ∧ sizeI b ≤ 9223372036854775807 := ⟨sizeI_nonneg ib, (sizeI_i64 ib).2⟩
  generalize sizeI a = U at HA hH hL hU
  generalize sizeI b = V at HB hH hL hV
  generalize tHi a b = H at hT hH ⊢
  generalize tLo a b = L at hT hL ⊢
  generalize tNeg a b = T at hT ⊢
  obtain ⟨U0, u0⟩ : ∃ x, x = U % 4294967296 := ⟨_, rfl⟩
  obtain ⟨U1, u1⟩ : ∃ x, x = U / 4294967296 := ⟨_, rfl⟩
  obtain ⟨V0, v0⟩ : ∃ x, x = V % 4294967296 := ⟨_, rfl⟩
  obtain ⟨V1, v1⟩ : ∃ x, x = V / 4294967296 := ⟨_, rfl⟩
  obtain ⟨D, hD⟩ : ∃ x, x = U0 * V0 := ⟨_, rfl⟩
  obtain ⟨B, hB⟩ : ∃ x, x = U1 * V0 := ⟨_, rfl⟩
  obtain ⟨C, hC⟩ : ∃ x, x = U0 * V1 := ⟨_, rfl⟩
  obtain ⟨A, hA⟩ : ∃ x, x = U1 * V1 := ⟨_, rfl⟩
  obtain ⟨D1, d1⟩ : ∃ x, x = D / 4294967296 := ⟨_, rfl⟩
  obtain ⟨M, hM⟩ : ∃ x, x = B + D1 := ⟨_, rfl⟩
  obtain ⟨M0, m0⟩ : ∃ x, x = M % 4294967296 := ⟨_, rfl⟩
  obtain ⟨N, hN⟩ : ∃ x, x = C + M0 := ⟨_, rfl⟩
  obtain ⟨M1, m1⟩ : ∃ x, x = M / 4294967296 := ⟨_, rfl⟩
  obtain ⟨N1, n1⟩ : ∃ x, x = N / 4294967296 := ⟨_, rfl⟩
  obtain ⟨N0, n0⟩ : ∃ x, x = N % 4294967296 := ⟨_, rfl⟩
  obtain ⟨D0, d0⟩ : ∃ x, x = D % 4294967296 := ⟨_, rfl⟩
  obtain ⟨S, hS⟩ : ∃ x, x = A + M1 := ⟨_, rfl⟩
  obtain ⟨R, hR⟩ : ∃ x, x = N0 * 4294967296 := ⟨_, rfl⟩
  obtain ⟨kD, kB, kC, kA, eH, eL⟩ := halves U V U0 U1 V0 V1 D B C A D1 M M0 N M1 N1 N0 D0 hU hV u0 u1 v0 v1 hD hB hC hA d1 hM m0 hN m1 n1 n0 d0
  rw [← eH] at hH
  rw [← eL] at hL
  have q1 : IntKind.u64.wrap U = U := uw_id (by omega) (by omega)
  have q2 : IntKind.u64.wrap V = V := uw_id (by omega) (by omega)
  have q3 : U.tmod 4294967296 = U0 := by rw [Int.tmod_eq_emod_of_nonneg (show 0 ≤ U by omega)]; omega
  have q4 : V.tmod 4294967296 = V0 := by rw [Int.tmod_eq_emod_of_nonneg (show 0 ≤ V by omega)]; omega
  have q5 : IntKind.u64.wrap (U.tdiv 4294967296) = U1 := by rw [Int.tdiv_eq_ediv_of_nonneg (show 0 ≤ U by omega), uw_id] <;> omega
  have q6 : IntKind.u64.wrap (V.tdiv 4294967296) = V1 := by rw [Int.tdiv_eq_ediv_of_nonneg (show 0 ≤ V by omega), uw_id] <;> omega
  have q7 : IntKind.u64.wrap (U0 * V0) = D := by rw [← hD, uw_id] <;> omega
  have q8 : IntKind.u64.wrap (U1 * V0) = B := by rw [← hB, uw_id] <;> omega
  have q9 : IntKind.u64.wrap (U0 * V1) = C := by rw [← hC, uw_id] <;> omega
  have q10 : IntKind.u64.wrap (U1 * V1) = A := by rw [← hA, uw_id] <;> omega
  have q11 : IntKind.u64.wrap (D.tdiv 4294967296) = D1 := by rw [Int.tdiv_eq_ediv_of_nonneg (show 0 ≤ D by omega), uw_id] <;> omega
  have q12 : IntKind.u64.wrap (B + D1) = M := by rw [uw_id] <;> omega
  have q13 : M.tmod 4294967296 = M0 := by rw [Int.tmod_eq_emod_of_nonneg (show 0 ≤ M by omega)]; omega
  have q14 : IntKind.u64.wrap (C + M0) = N := by rw [uw_id] <;> omega
  have q15 : IntKind.u64.wrap (M.tdiv 4294967296) = M1 := by rw [Int.tdiv_eq_ediv_of_nonneg (show 0 ≤ M by omega), uw_id] <;> omega
  have q16 : IntKind.u64.wrap (A + M1) = S := by rw [uw_id] <;> omega
  have q17 : IntKind.u64.wrap (N.tdiv 4294967296) = N1 := by rw [Int.tdiv_eq_ediv_of_nonneg (show 0 ≤ N by omega), uw_id] <;> omega
  have q18 : IntKind.u64.wrap (S + N1) = H := by rw [uw_id] <;> omega
  have q19 : N.tmod 4294967296 = N0 := by rw [Int.tmod_eq_emod_of_nonneg (show 0 ≤ N by omega)]; omega
  have q20 : IntKind.u64.wrap (N0 * 4294967296) = R := by rw [uw_id] <;> omega
  have q21 : D.tmod 4294967296 = D0 := by rw [Int.tmod_eq_emod_of_nonneg (show 0 ≤ D by omega)]; omega
  have q22 : IntKind.u64.wrap (R + D0) = L := by rw [uw_id] <;> omega
  have HT := Lib.hid hT
  clear hT hU hV eH eL hH hL kD kB kC kA u0 u1 v0 v1 hD hB hC hA d1 hM m0 hN m1 n1 n0 d0 hS hR ia ib
  by_cases ha : a < 0 <;> by_cases hb : b < 0
  · have HR : Hid (T = false) := by unfold Hid; rw [HT.out]; simp [ha, hb]
    clear HT
    go_enter Tryz.func50, Tryz.ntmps50
    go_wp2_with fail
    ((with_reducible refine (HA.out _).mono ?_); rintro e w1 ⟨rfl, rfl⟩)
    go_wp2_with fail
    ((with_reducible refine (HB.out _).mono ?_); rintro e w1 ⟨rfl, rfl⟩)
    go_wp2
    rw [HR.out]
    refine bodyPost_ret (v := .agg #[.bool false, .int .u64 H, .int .u64 L]) ?_ rfl ⟨rfl, ?_⟩
    · simp [results, Tryz.results50, go_sem] <;> omega
    · exact (((Below.refl _ _).alloc (Nat.le_refl _) _).alloc (by simp) _)
  · by_cases h1 : 0 < H
    · have HR : Hid (T = true) := by unfold Hid; rw [HT.out]; simp [ha, hb, h1]
      clear HT
      go_enter Tryz.func50, Tryz.ntmps50
      go_wp2_with fail
      ((with_reducible refine (HA.out _).mono ?_); rintro e w1 ⟨rfl, rfl⟩)
      go_wp2_with fail
      ((with_reducible refine (HB.out _).mono ?_); rintro e w1 ⟨rfl, rfl⟩)
      go_wp2
      rw [HR.out]
      refine bodyPost_ret (v := .agg #[.bool true, .int .u64 H, .int .u64 L]) ?_ rfl ⟨rfl, ?_⟩
      · simp [results, Tryz.results50, go_sem] <;> omega
      · exact (((Below.refl _ _).alloc (Nat.le_refl _) _).alloc (by simp) _)
    · by_cases h2 : 0 < L
      · have HR : Hid (T = true) := by unfold Hid; rw [HT.out]; simp [ha, hb, h2]
        clear HT
        go_enter Tryz.func50, Tryz.ntmps50
        go_wp2_with fail
        ((with_reducible refine (HA.out _).mono ?_); rintro e w1 ⟨rfl, rfl⟩)
        go_wp2_with fail
        ((with_reducible refine (HB.out _).mono ?_); rintro e w1 ⟨rfl, rfl⟩)
        go_wp2
        rw [HR.out]
        refine bodyPost_ret (v := .agg #[.bool true, .int .u64 H, .int .u64 L]) ?_ rfl ⟨rfl, ?_⟩
        · simp [results, Tryz.results50, go_sem] <;> omega
        · exact (((Below.refl _ _).alloc (Nat.le_refl _) _).alloc (by simp) _)
      · have HR : Hid (T = false) := by unfold Hid; rw [HT.out]; simp [h1, h2]
        clear HT
        go_enter Tryz.func50, Tryz.ntmps50
        go_wp2_with fail
        ((with_reducible refine (HA.out _).mono ?_); rintro e w1 ⟨rfl, rfl⟩)
        go_wp2_with fail
        ((with_reducible refine (HB.out _).mono ?_); rintro e w1 ⟨rfl, rfl⟩)
        go_wp2
        rw [HR.out]
        refine bodyPost_ret (v := .agg #[.bool false, .int .u64 H, .int .u64 L]) ?_ rfl ⟨rfl, ?_⟩
        · simp [results, Tryz.results50, go_sem] <;> omega
        · exact (((Below.refl _ _).alloc (Nat.le_refl _) _).alloc (by simp) _)
  · by_cases h1 : 0 < H
    · have HR : Hid (T = true) := by unfold Hid; rw [HT.out]; simp [ha, hb, h1]
      clear HT
      go_enter Tryz.func50, Tryz.ntmps50
      go_wp2_with fail
      ((with_reducible refine (HA.out _).mono ?_); rintro e w1 ⟨rfl, rfl⟩)
      go_wp2_with fail
      ((with_reducible refine (HB.out _).mono ?_); rintro e w1 ⟨rfl, rfl⟩)
      go_wp2
      rw [HR.out]
      refine bodyPost_ret (v := .agg #[.bool true, .int .u64 H, .int .u64 L]) ?_ rfl ⟨rfl, ?_⟩
      · simp [results, Tryz.results50, go_sem] <;> omega
      · exact (((Below.refl _ _).alloc (Nat.le_refl _) _).alloc (by simp) _)
    · by_cases h2 : 0 < L
      · have HR : Hid (T = true) := by unfold Hid; rw [HT.out]; simp [ha, hb, h2]
        clear HT
        go_enter Tryz.func50, Tryz.ntmps50
        go_wp2_with fail
        ((with_reducible refine (HA.out _).mono ?_); rintro e w1 ⟨rfl, rfl⟩)
        go_wp2_with fail
        ((with_reducible refine (HB.out _).mono ?_); rintro e w1 ⟨rfl, rfl⟩)
        go_wp2
        rw [HR.out]
        refine bodyPost_ret (v := .agg #[.bool true, .int .u64 H, .int .u64 L]) ?_ rfl ⟨rfl, ?_⟩
        · simp [results, Tryz.results50, go_sem] <;> omega
        · exact (((Below.refl _ _).alloc (Nat.le_refl _) _).alloc (by simp) _)
      · have HR : Hid (T = false) := by unfold Hid; rw [HT.out]; simp [h1, h2]
        clear HT
        go_enter Tryz.func50, Tryz.ntmps50
        go_wp2_with fail
        ((with_reducible refine (HA.out _).mono ?_); rintro e w1 ⟨rfl, rfl⟩)
        go_wp2_with fail
        ((with_reducible refine (HB.out _).mono ?_); rintro e w1 ⟨rfl, rfl⟩)
        go_wp2
        rw [HR.out]
        refine bodyPost_ret (v := .agg #[.bool false, .int .u64 H, .int .u64 L]) ?_ rfl ⟨rfl, ?_⟩
        · simp [results, Tryz.results50, go_sem] <;> omega
        · exact (((Below.refl _ _).alloc (Nat.le_refl _) _).alloc (by simp) _)
  · have HR : Hid (T = false) := by unfold Hid; rw [HT.out]; simp [ha, hb]
    clear HT
    go_enter Tryz.func50, Tryz.ntmps50
    go_wp2_with fail
    ((with_reducible refine (HA.out _).mono ?_); rintro e w1 ⟨rfl, rfl⟩)
    go_wp2_with fail
    ((with_reducible refine (HB.out _).mono ?_); rintro e w1 ⟨rfl, rfl⟩)
    go_wp2
    rw [HR.out]
    refine bodyPost_ret (v := .agg #[.bool false, .int .u64 H, .int .u64 L]) ?_ rfl ⟨rfl, ?_⟩
    · simp [results, Tryz.results50, go_sem] <;> omega
    · exact (((Below.refl _ _).alloc (Nat.le_refl _) _).alloc (by simp) _)

end Go.Proofs.YtaoedfegakpjeabGreat
