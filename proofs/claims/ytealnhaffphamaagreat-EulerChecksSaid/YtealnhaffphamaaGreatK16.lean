/- Contracts of the functions that the statement reaches, and plain lemmas: part 16 of 29. -/
import Derived.Test.YtealnhaffphamaaGreatK15
set_option linter.unusedVariables false
set_option linter.unusedSimpArgs false

namespace Go.Proofs.YtealnhaffphamaaGreat
open Go.RowKit Go.Shelf Go.Proofs.YtealnhaffphamaaGreatW.PrintWords

/-- How many edges; rings; handles. -/
def edN (fs : Fs) : Nat := (dartsA fs (plsA fs)).length / 2
noncomputable def hdN (N : Int) (fs : Fs) : Int := ((shA fs).length : Int) - (N - (edN fs : Int) + (fs.length : Int) - ((fs.flatten.length : Int) - (fs.length : Int))).tdiv 2
noncomputable def ctV (N : Int) (fs : Fs) : Value := .agg #[.int .i64 N, .int .i64 (edN fs), .int .i64 fs.length, .int .i64 ((fs.flatten.length : Int) - (fs.length : Int)), .int .i64 (shA fs).length, .int .i64 (hdN N fs)]
theorem shUp_len (fs : Fs) (f : Nat) : (shUp fs f).length ≤ f := by
  induction f with
  | zero => simp [shUp]
  | succ f ih =>
    simp only [shUp]
    split
    · omega
    · simp; omega

theorem wrap64_small {x : Int} (h : -100000 ≤ x ∧ x ≤ 100000) : wrap64 x = x := by
  unfold wrap64
  omega
theorem Int.tdiv_mul_add_tmod_two (X : Int) : X.tdiv 2 * 2 + X.tmod 2 = X ∧ -1 ≤ X.tmod 2 ∧ X.tmod 2 ≤ 1 := by
  refine ⟨by rw [Int.mul_comm]; exact Int.mul_tdiv_add_tmod X 2, ?_⟩
  rcases Int.le_total 0 X with h | h
  · have h1 := Int.tmod_nonneg 2 h
    have h2 := Int.tmod_lt_of_pos X (b := 2) (by omega)
    omega
  · have h1 := Int.tmod_nonneg 2 (show 0 ≤ -X by omega)
    have h2 := Int.tmod_lt_of_pos (-X) (b := 2) (by omega)
    rw [Int.neg_tmod] at h1 h2
    omega
theorem ct_wraps {N : Int} {D L F S : Nat} {X : Int} (hN1 : 1 ≤ N) (hN2 : N ≤ 200) (hD : D ≤ 2000) (hL : L ≤ 2000) (hF : F ≤ 2000) (hS : S ≤ F) (hX : X = N - (D : Int) / 2 + (F : Int) - ((L : Int) - (F : Int))) :
    wrap64 ((D : Int) / 2) = (D : Int) / 2 ∧ wrap64 (N - (D : Int) / 2) = N - (D : Int) / 2 ∧ wrap64 (N - (D : Int) / 2 + (F : Int)) = N - (D : Int) / 2 + (F : Int) ∧ wrap64 ((L : Int) - (F : Int)) = (L : Int) - (F : Int) ∧
    wrap64 (N - (D : Int) / 2 + (F : Int) - ((L : Int) - (F : Int))) = X ∧ wrap64 (X.tdiv 2) = X.tdiv 2 ∧ wrap64 ((S : Int) - X.tdiv 2) = (S : Int) - X.tdiv 2 := by
  have hX1 : -5000 ≤ X ∧ X ≤ 5000 := by omega
  have hX2 : -5000 ≤ X.tdiv 2 ∧ X.tdiv 2 ≤ 5000 := by
    have h1 := Int.tdiv_mul_add_tmod_two X
    omega
  refine ⟨wrap64_small (by omega), wrap64_small (by omega), wrap64_small (by omega), wrap64_small (by omega), ?_, wrap64_small (by omega), wrap64_small (by omega)⟩
  rw [← hX]; exact wrap64_small (by omega)
theorem EM.len {W : World} {b : Nat} {ds : List PV} (h : EM W b ds) (ty : TypeId) : (Builtin.len_ #[82] ty #[.map (some b)]).run Tryz.prog W = .ok (.int .i64 ds.length) W := by
  obtain ⟨D, h1, h2, h3, h4, h5⟩ := h
  rw [h1.len Tryz.u88 ty, h5]
theorem blk_set6 {W : World} {b : Nat} {x0 x1 x2 x3 x4 x5 y0 y1 y2 y3 y4 y5 : Value} {t : TypeId} (h : Blk W b (.cells #[x0, x1, x2, x3, x4, x5] t)) : Blk ((((((W.setCell ⟨b, 0, none⟩ y0).setCell ⟨b, 1, none⟩ y1).setCell ⟨b, 2, none⟩ y2).setCell ⟨b, 3, none⟩ y3).setCell ⟨b, 4, none⟩ y4).setCell ⟨b, 5, none⟩ y5) b (.cells #[y0, y1, y2, y3, y4, y5] t) := blk_set (blk_set (blk_set (blk_set (blk_set (blk_set h)))))
theorem below_set6 {w W : World} {b : Nat} {y0 y1 y2 y3 y4 y5 : Value} (h : Below w.heap.size w W) (hb : w.heap.size ≤ b) : Below w.heap.size w ((((((W.setCell ⟨b, 0, none⟩ y0).setCell ⟨b, 1, none⟩ y1).setCell ⟨b, 2, none⟩ y2).setCell ⟨b, 3, none⟩ y3).setCell ⟨b, 4, none⟩ y4).setCell ⟨b, 5, none⟩ y5) :=
  (((((h.setCell (p := ⟨_, 0, none⟩) hb _).setCell (p := ⟨_, 1, none⟩) hb _).setCell (p := ⟨_, 2, none⟩) hb _).setCell (p := ⟨_, 3, none⟩) hb _).setCell (p := ⟨_, 4, none⟩) hb _).setCell (p := ⟨_, 5, none⟩) hb _

set_option maxRecDepth 100000 in
set_option maxHeartbeats 4000000 in
theorem counts_any (N : Int) (A : Option Addr) (c : Nat) (fs : Fs) (w : World) (hF : RF w A fs) (hSm : Sm fs) (hI : NI fs) (hcap : (plsA fs).length ≤ 100000) :
    Calls Tryz.prog 19 #[.agg #[.int .i64 N, .slice A fs.length c]] w fun e w' => ((RightP N fs → e = .returned (.tuple #[ctV N fs, .int .i64 0])) ∧ (¬ RightP N fs → e = .returned (.tuple #[.agg #[.int .i64 0, .int .i64 0, .int .i64 0, .int .i64 0, .int .i64 0, .int .i64 0], .int .i64 140]))) ∧ Below w.heap.size w w' := by
  obtain ⟨W1, hW1⟩ : ∃ W1, W1 = (w.alloc (.cells #[.int .i64 N, .slice A fs.length c] 31)).alloc (.cells #[.int .i64 0, .int .i64 0, .int .i64 0, .int .i64 0, .int .i64 0, .int .i64 0] 47) := ⟨_, rfl⟩
  have HOB : Hid (Obs [.cells #[.int .i64 N, .slice A fs.length c] 31, .cells #[.int .i64 0, .int .i64 0, .int .i64 0, .int .i64 0, .int .i64 0, .int .i64 0] 47] w W1) := by rw [hW1]; exact Obs.two w _ _
  have HR := Lib.hid (right_at (N := N) (c := c) hF HOB.out.below hSm hI hcap)
  have HF := Lib.hid hF
  have HS := Lib.hid hSm
  clear hF hSm hI hcap
  go_enter Tryz.func19, Tryz.ntmps19
  go_wp2_with fail
  rw [← hW1]
  clear hW1
  ((with_reducible refine (HR.out).mono ?_); rintro e W2 ⟨⟨b, rfl, hb⟩, -, hbl⟩)
  have HOB2 := Lib.hid (HOB.out.call hbl)
  have HBI := Lib.hid hb
  clear HR hb hbl HOB
  have m00 : W2.cell? ⟨w.heap.size, 0, none⟩ = some (.int .i64 N) := HOB2.out.cell 0 0 rfl rfl
  have m01 : W2.cell? ⟨w.heap.size, 1, none⟩ = some (.slice A fs.length c) := HOB2.out.cell 0 1 rfl rfl
  cases b
  · have hlt := (HOB2.out.blk 1 _ rfl).lt
    have z0 : W2.frozen? ⟨w.heap.size + 1, 0, none⟩ = false := HOB2.out.frz 1 0 rfl
    have z1 : W2.frozen? ⟨w.heap.size + 1, 1, none⟩ = false := HOB2.out.frz 1 1 rfl
    have z2 : W2.frozen? ⟨w.heap.size + 1, 2, none⟩ = false := HOB2.out.frz 1 2 rfl
    have z3 : W2.frozen? ⟨w.heap.size + 1, 3, none⟩ = false := HOB2.out.frz 1 3 rfl
    have z4 : W2.frozen? ⟨w.heap.size + 1, 4, none⟩ = false := HOB2.out.frz 1 4 rfl
    have z5 : W2.frozen? ⟨w.heap.size + 1, 5, none⟩ = false := HOB2.out.frz 1 5 rfl
    have c0 : W2.cell? ⟨w.heap.size + 1, 0, none⟩ = some (.int .i64 0) := HOB2.out.cell 1 0 rfl rfl
    have c1 : W2.cell? ⟨w.heap.size + 1, 1, none⟩ = some (.int .i64 0) := HOB2.out.cell 1 1 rfl rfl
    have c2 : W2.cell? ⟨w.heap.size + 1, 2, none⟩ = some (.int .i64 0) := HOB2.out.cell 1 2 rfl rfl
    have c3 : W2.cell? ⟨w.heap.size + 1, 3, none⟩ = some (.int .i64 0) := HOB2.out.cell 1 3 rfl rfl
    have c4 : W2.cell? ⟨w.heap.size + 1, 4, none⟩ = some (.int .i64 0) := HOB2.out.cell 1 4 rfl rfl
    have c5 : W2.cell? ⟨w.heap.size + 1, 5, none⟩ = some (.int .i64 0) := HOB2.out.cell 1 5 rfl rfl
    go_wp2
    have e0 := blk_cells (blk_set6 (y0 := .int .i64 0) (y1 := .int .i64 0) (y2 := .int .i64 0) (y3 := .int .i64 0) (y4 := .int .i64 0) (y5 := .int .i64 0) (HOB2.out.blk 1 _ rfl))
    have e00 := e0.1 0 _ rfl
    have e01 := e0.1 1 _ rfl
    have e02 := e0.1 2 _ rfl
    have e03 := e0.1 3 _ rfl
    have e04 := e0.1 4 _ rfl
    have e05 := e0.1 5 _ rfl
    refine bodyPost_ret (v := .tuple #[.agg #[.int .i64 0, .int .i64 0, .int .i64 0, .int .i64 0, .int .i64 0, .int .i64 0], .int .i64 140]) (by simp [results, Tryz.f19, go_sem, e00, e01, e02, e03, e04, e05]) rfl ?_
    exact ⟨⟨fun h => by simpa using HBI.out.2 h, fun _ => rfl⟩, below_set6 HOB2.out.below (by omega)⟩
  · have HRP : Hid (RightP N fs) := HBI.out.1 rfl
    have hfi := HRP.out.fine
    have HED := Lib.hid (edges_any N A c fs W2 (HF.out.below HOB2.out.below) HS.out hfi.ni (hfi.cap (by omega)))
    clear HBI
    go_wp2_with fail
    ((with_reducible refine (HED.out).mono ?_); rintro e W3 ⟨⟨m, b, rfl, hb, hm⟩, hbl⟩)
    obtain rfl : b = true := hb.2 HRP.out.2.2.1
    obtain ⟨k, rfl, hk1, hk2⟩ := hm rfl
    have HOB3 := Lib.hid (HOB2.out.call hbl)
    have HEM3 := Lib.hid hk2
    clear hb hm hk1 hk2 hbl HED HOB2 m00 m01
    have m00 : W3.cell? ⟨w.heap.size, 0, none⟩ = some (.int .i64 N) := HOB3.out.cell 0 0 rfl rfl
    have m01 : W3.cell? ⟨w.heap.size, 1, none⟩ = some (.slice A fs.length c) := HOB3.out.cell 0 1 rfl rfl
    have HSZ := Lib.hid (size_any N A c fs W3 (HF.out.below HOB3.out.below) HS.out)
    go_wp2_with fail
    ((with_reducible refine (HSZ.out).mono ?_); rintro e W4 ⟨rfl, hbl⟩)
    have HOB4 := Lib.hid (HOB3.out.call hbl)
    have HEM4 := Lib.hid (HEM3.out.kept (grown_of_below hbl none) (by simp))
    clear hbl HSZ HOB3 HEM3 m00 m01
    have m00 : W4.cell? ⟨w.heap.size, 0, none⟩ = some (.int .i64 N) := HOB4.out.cell 0 0 rfl rfl
    have m01 : W4.cell? ⟨w.heap.size, 1, none⟩ = some (.slice A fs.length c) := HOB4.out.cell 0 1 rfl rfl
    have HSH := Lib.hid (shells_are N A c fs W4 (HF.out.below HOB4.out.below) HRP.out)
    go_wp2_with fail
    ((with_reducible refine (HSH.out).mono ?_); rintro e W5 ⟨⟨v, lv, rfl, hFW⟩, hbl⟩)
    obtain ⟨AV, cV, rfl⟩ := own_slice hFW.own
    have HOB5 := Lib.hid (HOB4.out.call hbl)
    have HEM5 := Lib.hid (HEM4.out.kept (grown_of_below hbl none) (by simp))
    clear hbl HSH HOB4 HEM4 m00 m01 hFW
    have m00 : W5.cell? ⟨w.heap.size, 0, none⟩ = some (.int .i64 N) := HOB5.out.cell 0 0 rfl rfl
    have m01 : W5.cell? ⟨w.heap.size, 1, none⟩ = some (.slice A fs.length c) := HOB5.out.cell 0 1 rfl rfl
    obtain ⟨D, hD⟩ : ∃ D, D = (dartsA fs (plsA fs)).length := ⟨_, rfl⟩
    have hlen : ∀ ty, (Builtin.len_ #[82] ty #[.map (some k)]).run Tryz.prog W5 = .ok (.int .i64 D) W5 := fun ty => by rw [hD]; exact HEM5.out.len ty
    have hD2 : D ≤ 2000 := by
      have h1 := List.length_filter_le (dartB fs) (plsA fs)
      have h2 := hfi.nodes
      rw [← pls_len] at h2
      rw [hD]; unfold dartsA; omega
    have hL2 := hfi.loops
    rw [← nlA_eq] at hL2
    have hF2 := hfi.faces
    have hS2 := shUp_len fs fs.length
    have hN2 := HRP.out.1.2.1
    have hN1 := HRP.out.1.1
    obtain ⟨S, hS⟩ : ∃ S, S = (shA fs).length := ⟨_, rfl⟩
    have hS3 : S ≤ fs.length := by rw [hS]; exact hS2
    obtain ⟨L, hL⟩ : ∃ L, L = nlA fs fs.length := ⟨_, rfl⟩
    obtain ⟨F, hF⟩ : ∃ F, F = fs.length := ⟨_, rfl⟩
    have HD := Lib.hid hD
    have HSS := Lib.hid hS
    have HLL := Lib.hid hL
    have HFF := Lib.hid hF
    rw [← hF] at hF2 hS3
    rw [← hL] at hL2
    obtain ⟨X, hX⟩ : ∃ X : Int, X = N - (D : Int) / 2 + (F : Int) - ((L : Int) - (F : Int)) := ⟨_, rfl⟩
    have HX := Lib.hid hX
    obtain ⟨w1, w2, w3, w4, w5, w6, w7⟩ := ct_wraps hN1 hN2 hD2 hL2 hF2 hS3 hX
    clear hX hS hD hL hF hD2 hL2 hF2 hS2 hS3 hfi
    go_upto_region 6 with fail
    rw [← HSS.out, ← HLL.out, ← HFF.out]
    have hlt := (HOB5.out.blk 1 _ rfl).lt
    have z0 : W5.frozen? ⟨w.heap.size + 1, 0, none⟩ = false := HOB5.out.frz 1 0 rfl
    have z1 : W5.frozen? ⟨w.heap.size + 1, 1, none⟩ = false := HOB5.out.frz 1 1 rfl
    have z2 : W5.frozen? ⟨w.heap.size + 1, 2, none⟩ = false := HOB5.out.frz 1 2 rfl
    have z3 : W5.frozen? ⟨w.heap.size + 1, 3, none⟩ = false := HOB5.out.frz 1 3 rfl
    have z4 : W5.frozen? ⟨w.heap.size + 1, 4, none⟩ = false := HOB5.out.frz 1 4 rfl
    have z5 : W5.frozen? ⟨w.heap.size + 1, 5, none⟩ = false := HOB5.out.frz 1 5 rfl
    have c0 : W5.cell? ⟨w.heap.size + 1, 0, none⟩ = some (.int .i64 0) := HOB5.out.cell 1 0 rfl rfl
    have c1 : W5.cell? ⟨w.heap.size + 1, 1, none⟩ = some (.int .i64 0) := HOB5.out.cell 1 1 rfl rfl
    have c2 : W5.cell? ⟨w.heap.size + 1, 2, none⟩ = some (.int .i64 0) := HOB5.out.cell 1 2 rfl rfl
    have c3 : W5.cell? ⟨w.heap.size + 1, 3, none⟩ = some (.int .i64 0) := HOB5.out.cell 1 3 rfl rfl
    have c4 : W5.cell? ⟨w.heap.size + 1, 4, none⟩ = some (.int .i64 0) := HOB5.out.cell 1 4 rfl rfl
    have c5 : W5.cell? ⟨w.heap.size + 1, 5, none⟩ = some (.int .i64 0) := HOB5.out.cell 1 5 rfl rfl
    have HCV : Hid (ctV N fs = .agg #[.int .i64 N, .int .i64 ((D : Int) / 2), .int .i64 F, .int .i64 ((L : Int) - (F : Int)), .int .i64 S, .int .i64 ((S : Int) - X.tdiv 2)]) := by
      show ctV N fs = _
      have e1 : ((edN fs : Nat) : Int) = (D : Int) / 2 := by rw [HD.out]; unfold edN; omega
      have e2 : ((fs.flatten.length : Nat) : Int) = (L : Int) := by rw [HLL.out, nlA_eq]
      unfold ctV hdN
      rw [e1, e2, ← HSS.out, ← HFF.out, ← HX.out]
    go_wp2
    have e0 := blk_cells (blk_set6 (y0 := .int .i64 N) (y1 := .int .i64 ((D : Int) / 2)) (y2 := .int .i64 F) (y3 := .int .i64 ((L : Int) - (F : Int))) (y4 := .int .i64 S) (y5 := .int .i64 ((S : Int) - X.tdiv 2)) (HOB5.out.blk 1 _ rfl))
    have e00 := e0.1 0 _ rfl
    have e01 := e0.1 1 _ rfl
    have e02 := e0.1 2 _ rfl
    have e03 := e0.1 3 _ rfl
    have e04 := e0.1 4 _ rfl
    have e05 := e0.1 5 _ rfl
    refine bodyPost_ret (v := .tuple #[.agg #[.int .i64 N, .int .i64 ((D : Int) / 2), .int .i64 F, .int .i64 ((L : Int) - (F : Int)), .int .i64 S, .int .i64 ((S : Int) - X.tdiv 2)], .int .i64 0]) (by simp [results, Tryz.f19, go_sem, e00, e01, e02, e03, e04, e05]) rfl ?_
    exact ⟨⟨fun _ => by rw [HCV.out], fun h => absurd HRP.out h⟩, below_set6 HOB5.out.below (by omega)⟩

end Go.Proofs.YtealnhaffphamaaGreat
