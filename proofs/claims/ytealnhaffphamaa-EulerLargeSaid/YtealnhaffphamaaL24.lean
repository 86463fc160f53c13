/- Contracts of the functions that the statement reaches, and plain lemmas: part 24 of 24. -/
import Derived.Test.YtealnhaffphamaaL23
set_option linter.unusedVariables false
set_option linter.unusedSimpArgs false

namespace Go.Proofs.Ytealnhaffphamaa
open Go.RowKit Go.Shelf Go.Proofs.YtealnhaffphamaaW.PrintWords

theorem rf_nil (W : World) : RF W none [] := ⟨rfl, by decide, fun h => by simp at h⟩
theorem sm_nil : Sm [] := ⟨by simp, fun f => by simp [fcA], fun f l => by simp [lpA, lA, fcA]⟩

theorem given_al (N : Int) (n : Nat) (A : Option Addr) (c : Nat) (w : World) (hn : n ≤ 1000) (hF : RF w A (al n)) (hc : n ≤ c) :
    Calls Try.prog 11 #[.agg #[.int .i64 N, .slice A n c]] w fun e w' => (∃ A' c', e = .returned (.agg #[.int .i64 N, .slice A' n c']) ∧ n ≤ c' ∧ RF w' A' (al n)) ∧ Below w.heap.size w w' := by
  have h := given_any N A c (al n) w hF (by rw [al_len]; exact hc)
  rw [al_len] at h
  refine h.mono ?_
  rintro e w' ⟨⟨v, rfl, hG⟩, hb⟩
  rw [cp_al hn] at hG
  obtain ⟨A', c', rfl, h1, h2⟩ := hG.rf
  rw [al_len] at h1 ⊢
  exact ⟨⟨A', c', rfl, h1, h2⟩, hb⟩
theorem given_fM (A : Option Addr) (c : Nat) (w : World) (hF : RF w A fM) (hc : fM.length ≤ c) :
    Calls Try.prog 11 #[.agg #[.int .i64 1, .slice A fM.length c]] w fun e w' => (∃ A' c', e = .returned (.agg #[.int .i64 1, .slice A' fM.length c']) ∧ fM.length ≤ c' ∧ RF w' A' fM) ∧ Below w.heap.size w w' := by
  refine (given_any 1 A c fM w hF hc).mono ?_
  rintro e w' ⟨⟨v, rfl, hG⟩, hb⟩
  rw [show cpA fM 1000 1000 5000 = fM from rfl] at hG
  obtain ⟨A', c', rfl, h1, h2⟩ := hG.rf
  exact ⟨⟨A', c', rfl, h1, h2⟩, hb⟩
theorem own_al (N : Int) (n : Nat) (A : Option Addr) (c : Nat) (w : World) (hn : n ≤ 1000) (hF : RF w A (al n)) (hc : n ≤ c) :
    Calls Try.prog 22 #[.agg #[.int .i64 N, .slice A n c]] w fun e w' => (∃ A' c', e = .returned (.agg #[.int .i64 N, .slice A' n c'])) ∧ Below w.heap.size w w' := by
  have h := lown_any N A c (al n) w hF (by rw [al_len]; exact hc)
  rw [al_len] at h
  refine h.mono ?_
  rintro e w' ⟨⟨v, rfl, hG⟩, hb⟩
  rw [cp_al hn] at hG
  obtain ⟨A', c', rfl, h1, h2⟩ := hG.rf
  rw [al_len]
  exact ⟨⟨_, _, rfl⟩, hb⟩
theorem fine_al {n : Nat} (h : n ≤ 1000) : Fine 1000 (al n) := by
  refine ⟨by rw [al_len]; exact h, by rw [flat_al]; simp; exact h, by rw [flat2_al]; simp; exact h, fun v hv => ?_⟩
  rw [flat2_al] at hv
  obtain ⟨x, hx, rfl⟩ := List.mem_map.1 hv
  have := List.mem_range.1 hx
  omega
theorem check_bad (n : Nat) (A : Option Addr) (c : Nat) (w : World) (hn : n ≤ 1000) (h2 : 200 < n) (hF : RF w A (al n)) :
    Calls Try.prog 10 #[.agg #[.int .i64 n, .slice A n c]] w fun e w' => e = .returned (.int .i64 140) ∧ Below w.heap.size w w' := by
  have hf := fine_al hn
  have h := check_any n A c (al n) w hF (hf.sm (by omega)) hf.ni (hf.cap (by omega))
  rw [al_len] at h
  refine h.mono ?_
  rintro e w' ⟨⟨b, rfl, hb⟩, h3⟩
  obtain rfl : b = false := by
    cases b with
    | false => rfl
    | true => exact absurd (hb.1 rfl) (not_right_big (by omega))
  exact ⟨rfl, h3⟩
theorem check_al (N : Int) (n : Nat) (A : Option Addr) (c : Nat) (w : World) (hn : n ≤ 1000) (hF : RF w A (al n)) :
    Calls Try.prog 10 #[.agg #[.int .i64 N, .slice A n c]] w fun e w' => (∃ b : Bool, e = .returned (.int .i64 (if b then 0 else 140)) ∧ (b = true ↔ RightP N (al n))) ∧ Below w.heap.size w w' := by
  have hf := fine_al hn
  have h := check_any N A c (al n) w hF (hf.sm (by omega)) hf.ni (hf.cap (by omega))
  rw [al_len] at h
  exact h
theorem addNode_al (v : Nat) (hv : v < 200) (A : Option Addr) (c : Nat) (w : World) (hF : RF w A (al 200)) (hc : 200 ≤ c) :
    Calls Try.prog 17 #[.agg #[.int .i64 200, .slice A 200 c], .agg #[.int .i64 v, .int .i64 0, .int .i64 0]] w fun e w' => e = .returned (.tuple #[.agg #[.int .i64 0, .slice none 0 0], .int .i64 2]) ∧ Below w.heap.size w w' := by
  have hf := fine_al (n := 200) (by omega)
  have h := addNode_any 200 A c (al 200) v 0 0 w hF (by rw [al_len]; exact hc) (hf.sm (by omega)) hf.ni (hf.cap (by omega))
  rw [al_len] at h
  refine h.mono ?_
  rintro e w' ⟨h1, h2⟩
  rw [an_al hv] at h1
  exact ⟨h1, h2⟩
theorem both_al (A A2 : Option Addr) (c c2 : Nat) (w : World) (hF : RF w A (al 200)) (hG : RF w A2 fM) :
    Calls Try.prog 19 #[.agg #[.int .i64 200, .slice A 200 c], .agg #[.int .i64 1, .slice A2 fM.length c2]] w fun e w' => e = .returned (.tuple #[.agg #[.int .i64 0, .slice none 0 0], .int .i64 2]) ∧ Below w.heap.size w w' := by
  have hf := fine_al (n := 200) (by omega)
  have h := both_any 200 1 A A2 c c2 (al 200) fM w hF (hf.sm (by omega)) hf.ni (hf.cap (by omega)) hG (fine_of rM).1 (fine_of rM).2.1 (fine_of rM).2.2
  rw [al_len] at h
  refine h.mono ?_
  rintro e w' ⟨h1, h2⟩
  rw [bo_al] at h1
  exact ⟨h1, h2⟩
theorem both_al3 (A A2 : Option Addr) (c c2 : Nat) (w : World) (hF : RF w A fM) (hG : RF w A2 (al 199)) :
    Calls Try.prog 19 #[.agg #[.int .i64 1, .slice A fM.length c], .agg #[.int .i64 199, .slice A2 199 c2]] w fun e w' => (∃ A' c', e = .returned (.tuple #[.agg #[.int .i64 200, .slice A' 200 c'], .int .i64 0]) ∧ QM w' A' 200 c') ∧ Below w.heap.size w w' := by
  have hf := fine_al (n := 199) (by omega)
  have h := both_own 1 199 A A2 c c2 fM (al 199) w hF (fine_of rM).1 (fine_of rM).2.1 (fine_of rM).2.2 hG (hf.sm (by omega)) hf.ni (hf.cap (by omega))
  rw [al_len] at h
  refine h.mono ?_
  rintro e w' ⟨h1, h2⟩
  rw [bo_al2] at h1
  obtain ⟨A', c', base, vf, vl, rfl, h3, h4⟩ := h1
  rw [al_len] at h3 h4 ⊢
  exact ⟨⟨A', c', rfl, base, vf, vl, h4⟩, h2⟩
/-- The answer is ErrLarge, as it should be. -/
theorem fit_err (w : World) : Calls Try.prog 18 #[.agg #[.int .i64 0, .slice none 0 0], .int .i64 2, .int .i64 2, .agg #[.int .i64 0, .slice none 0 0]] w fun e w' => e = .returned (.bool true) ∧ Below w.heap.size w w' := by
  have h := fitL_any 0 0 none none 0 0 [] [] 2 2 w (rf_nil w) (by decide) (rf_nil w) (by decide) sm_nil
  refine (show Calls Try.prog 18 #[.agg #[.int .i64 0, .slice none 0 0], .int .i64 2, .int .i64 2, .agg #[.int .i64 0, .slice none 0 0]] w _ from h).mono ?_
  rintro e w' ⟨⟨b, rfl, hb⟩, h2⟩
  obtain rfl : b = true := hb.2 (by unfold FitP; rw [if_neg (by decide)]; exact ⟨rfl, rfl, rfl⟩)
  exact ⟨rfl, h2⟩

set_option maxRecDepth 100000 in
set_option maxHeartbeats 8000000 in
theorem large_any (kind by_ : Int) (w : World) : Calls Try.prog 4 #[.int .i64 kind, .int .i64 by_] w fun e w' => e = .returned (.bool true) ∧ Below w.heap.size w w' := by
  go_enter Try.func4, Try.ntmps4
  go_upto_region 2 with fail
  have hb := below_new w (.cells #[.int .i64 200, .slice none 0 0] 26)
  have hbn := blk_new w (.cells #[.int .i64 200, .slice none 0 0] 26)
  obtain ⟨b5, h5⟩ : ∃ b, w.heap.size = b := ⟨_, rfl⟩
  have HW5 := Lib.hid h5
  have HSZ : Hid (b5 + 1 ≤ (w.alloc (.cells #[.int .i64 200, .slice none 0 0] 26)).heap.size) := by show b5 + 1 ≤ _; rw [← h5]; simp
  rw [h5] at hbn ⊢
  have HBB := Lib.hid hbn
  have HBL := Lib.hid hb
  clear hb hbn
  generalize w.alloc (.cells #[.int .i64 200, .slice none 0 0] 26) = W1 at HBB HBL HSZ ⊢
  clear h5
  go_wp2
  go_loopw [6] (fun s6 wr => ∃ (v : Nat) (sv : Value) (vf : Nat → Value) (vl : Nat → Nat → Value), v ≤ 200 ∧ s6 = .int .i64 v ∧ Hid (Blk wr b5 (.cells #[.int .i64 200, sv] 26)) ∧ Hid (MW (b5 + 1) sv (al v) (al v).length vf vl wr) ∧ Hid (Below w.heap.size w wr) ∧ Hid (b5 + 1 ≤ wr.heap.size)) (fun v _ => 200 - (intOf v).toNat)
  case atStart => exact ⟨0, _, fun _ => undef, fun _ _ => undef, by omega, rfl, HBB, MW.nil _ _ _, HBL, HSZ⟩
  case round =>
    clear HBB HBL HSZ
    rename World => wr
    obtain ⟨v, sv, vf, vl, hv, rfl, HBB, HM, HBL, HSZ⟩ := hrel
    obtain ⟨AS, cS, hsv⟩ := own_slice HM.out.own
    rw [al_len] at hsv
    subst hsv
    have n0 := (blk_cells HBB.out).1 0 _ rfl
    have n1 := (blk_cells HBB.out).1 1 _ rfl
    have n2 := (blk_cells HBB.out).2 1
    have n3 := HBB.out.lt
    by_cases hlt : v < 200
    · have hvz : (v : Int) < 200 := by omega
      have h1 := own_lit (B := b5 + 1) (e := 3) wr (intsV [(v : Int)]) (n := 1) rfl HSZ.out (by omega)
      have h2 := FW.lit1 (base := b5 + 1) (x := [(v : Int)]) _ (by have := HSZ.out; simp; omega) h1
      rw [World.size_alloc] at h2
      have hga : wr.grownBy (((wr.alloc (.cells #[.int .i64 v] 3)).alloc (.cells #[.slice (some ⟨wr.heap.size, 0, none⟩) 1 1] 36)).alloc (.cells #[.slice (some ⟨wr.heap.size + 1, 0, none⟩) 1 1] 37)) none := ((World.grownBy_alloc wr _ none).trans (World.grownBy_alloc _ _ none)).trans (World.grownBy_alloc _ _ none)
      have HF3 : Hid (FW (b5 + 1) (.slice (some ⟨wr.heap.size + 1, 0, none⟩) 1 1) [[(v : Int)]] ([[(v : Int)]] : List (List Int)).length _ (((wr.alloc (.cells #[.int .i64 v] 3)).alloc (.cells #[.slice (some ⟨wr.heap.size, 0, none⟩) 1 1] 36)).alloc (.cells #[.slice (some ⟨wr.heap.size + 1, 0, none⟩) 1 1] 37))) := h2.kept (World.grownBy_alloc _ (.cells #[.slice (some ⟨wr.heap.size + 1, 0, none⟩) 1 1] 37) none) (fun b e => by cases e)
      have HM3 : Hid (MW (b5 + 1) (.slice AS v cS) (al v) (al v).length vf vl (((wr.alloc (.cells #[.int .i64 v] 3)).alloc (.cells #[.slice (some ⟨wr.heap.size, 0, none⟩) 1 1] 36)).alloc (.cells #[.slice (some ⟨wr.heap.size + 1, 0, none⟩) 1 1] 37))) := HM.out.kept hga (fun b e => by cases e)
      have HBB3 : Hid (Blk (((wr.alloc (.cells #[.int .i64 v] 3)).alloc (.cells #[.slice (some ⟨wr.heap.size, 0, none⟩) 1 1] 36)).alloc (.cells #[.slice (some ⟨wr.heap.size + 1, 0, none⟩) 1 1] 37)) b5 (.cells #[.int .i64 200, .slice AS v cS] 26)) := HBB.out.kept hga (by simp)
      have HBL3 : Hid (Below w.heap.size w (((wr.alloc (.cells #[.int .i64 v] 3)).alloc (.cells #[.slice (some ⟨wr.heap.size, 0, none⟩) 1 1] 36)).alloc (.cells #[.slice (some ⟨wr.heap.size + 1, 0, none⟩) 1 1] 37))) := HBL.out.grown hga HBL.out.size (fun b e => by cases e)
      have HS3 : Hid (b5 + 1 ≤ (((wr.alloc (.cells #[.int .i64 v] 3)).alloc (.cells #[.slice (some ⟨wr.heap.size, 0, none⟩) 1 1] 36)).alloc (.cells #[.slice (some ⟨wr.heap.size + 1, 0, none⟩) 1 1] 37)).heap.size) := Nat.le_trans HSZ.out hga.size
      have HAP : Hid (∀ f, f < (al v).length → Ap (vf f) (.slice (some ⟨wr.heap.size + 1, 0, none⟩) 1 1)) := fun f hf => Ap.of_lt (B := wr.heap.size) (fun q e => ((HM.out.face f hf).lt (.inl e)).2) (fun q e => by have e2 : q = wr.heap.size + 1 := (Option.some.inj e).symm; omega)
      have howe : (((wr.alloc (.cells #[.int .i64 v] 3)).alloc (.cells #[.slice (some ⟨wr.heap.size, 0, none⟩) 1 1] 36)).alloc (.cells #[.slice (some ⟨wr.heap.size + 1, 0, none⟩) 1 1] 37)).ownsRow (b5 + 1) 37 1 (.slice AS v cS) v ((List.range v).map vf) := by have h := HM3.out.own; rw [al_len] at h; exact h
      have HOWE := Lib.hid howe
      obtain ⟨iF, hiF, hiF0, hiF1, hiF2⟩ := info_parts infoF
      clear h1 h2 hga howe HM HBB HBL HSZ
      go_wp2_with (at_builtin; refine wpList_append_own _ rfl _ _ 24 rfl (b5 + 1) 37 iF (.slice none 0 0) 1 24 Try.underlying24 hiF hiF0 hiF1 hiF2 rfl (by decide) _ _ _ rfl HOWE.out ⟨wr.heap.size + 1 + 1, 0, none⟩ 1 1 [.slice (some ⟨wr.heap.size + 1, 0, none⟩) 1 1] rfl rfl (by have h := cell_one_new ((wr.alloc (.cells #[.int .i64 v] 3)).alloc (.cells #[.slice (some ⟨wr.heap.size, 0, none⟩) 1 1] 36)) (.slice (some ⟨wr.heap.size + 1, 0, none⟩) 1 1) 37; simp only [World.size_alloc] at h; exact h) (by simp [Value.oneCell']) (by simp only [maxLen]; omega) (by omega) HS3.out ?_; intro v' w7 hown7 hg7 _; obtain ⟨AJ, cJ, rfl⟩ := own_slice hown7; have hMJ := (HM3.out.appF HF3.out HAP.out (by rw [al_len]; exact hown7) hg7).congrF (al_succ v).symm; have hrow : ∀ q, (Value.slice AS v cS).ownBlock = some q → b5 + 1 ≤ q := fun q e => own_base HOWE.out q e; have HB7 := Lib.hid (HBB3.out.kept hg7 (fun e => by have := hrow _ e.symm; omega)); have p1 := (blk_cells HB7.out).1 1 _ rfl; have p2 := (blk_cells HB7.out).2 1; have p3 := HB7.out.lt; have HMJ := Lib.hid hMJ; have HBL7 := Lib.hid (HBL3.out.grown hg7 HBL3.out.size (fun q e => by have := hrow q e; have := HW5.out; omega)); have HS7 : Hid (b5 + 1 ≤ w7.heap.size) := Nat.le_trans HS3.out hg7.size; clear hMJ hrow hown7 hg7)
      go_roundw
      case rel => exact ⟨v + 1, _, _, _, by omega, by go_num, blk_set HB7.out, HMJ.out.kept (grown_set _ _ _ _) (fun q e hq => by cases e; have := (HMJ.out.lt hq).1; omega), HBL7.out.setCell (p := ⟨_, 1, none⟩) (by show w.heap.size ≤ b5; rw [HW5.out]; exact Nat.le_refl _) _, by simp; exact HS7.out⟩
      case measure => simp [intOf]; omega
    · have HV : Hid (v = 200) := by show v = 200; omega
      have hvz : ¬ (v : Int) < 200 := by omega
      clear hlt hv
      go_upto_region 7 with fail
      clear n0 n1 n2 n3 hvz
      obtain rfl : v = 200 := HV.out
      have HB : Hid (Below w.heap.size w wr) := HBL.out
      obtain ⟨AX, cX, hX1, hX2, hX3⟩ := HM.out.reads
      injection hX1 with ha hbad hc
      clear hbad
      subst ha hc
      rw [al_len] at hX2
      have RM : Hid (RF wr AS (al 200)) := hX3
      have BX : Hid (Blk wr b5 (.cells #[.int .i64 200, .slice AS 200 cS] 26)) := HBB.out
      clear hX3
      have HMW := HM
      clear HM HBB
      have q0 := (blk_cells BX.out).1 0 _ rfl
      have q1 := (blk_cells BX.out).1 1 _ rfl
      have HC := Lib.hid ((show Calls Try.prog 14 #[.int .i64 by_, .int .i64 200] wr _ from around_any by_ 200 (by omega) (by omega) wr))
      go_wp2_with fail
      ((with_reducible refine (HC.out).mono ?_); rintro e Wc1 ⟨rfl, hb⟩)
      obtain ⟨v8, hv8⟩ : ∃ v8, v8 = arA by_ 200 := ⟨_, rfl⟩
      have hv8l : v8 < 200 := by rw [hv8]; exact arA_lt _ (by omega)
      rw [← hv8]
      clear hv8
      have HMW' : Hid (MW (b5 + 1) (.slice AS 200 cS) (al 200) (al 200).length vf vl Wc1) := HMW.out.belowW hb
      have HS2 : Hid (b5 + 1 ≤ Wc1.heap.size) := Nat.le_trans HSZ.out hb.size
      clear HMW q0 q1
      clear HC
      have HB : Hid (Below w.heap.size w Wc1) := (HB.out).trans (hb.mono HB.out.size)
      have RM : Hid (RF Wc1 AS (al 200)) := (RM.out).below hb
      have BX : Hid (Blk Wc1 b5 (.cells #[.int .i64 200, .slice AS 200 cS] 26)) := (BX.out).bel hb
      clear hb
      have q0 := (blk_cells BX.out).1 0 _ rfl
      have q1 := (blk_cells BX.out).1 1 _ rfl
      have HC := Lib.hid (given_al 200 200 AS cS Wc1 (by omega) RM.out hX2)
      go_wp2_with fail
      ((with_reducible refine (HC.out).mono ?_); rintro e Wc2 ⟨⟨A8, c8, rfl, h81, h82⟩, hb⟩)
      have HMW := Lib.hid (HMW'.out.belowW hb)
      have HS3 : Hid (b5 + 1 ≤ Wc2.heap.size) := Nat.le_trans HS2.out hb.size
      clear HMW' HS2 q0 q1
      clear HC
      have HB : Hid (Below w.heap.size w Wc2) := (HB.out).trans (hb.mono HB.out.size)
      have RM : Hid (RF Wc2 AS (al 200)) := (RM.out).below hb
      have BX : Hid (Blk Wc2 b5 (.cells #[.int .i64 200, .slice AS 200 cS] 26)) := (BX.out).bel hb
      have R8 : Hid (RF Wc2 A8 (al 200)) := h82
      clear hb
      have HC := Lib.hid (check_al 200 200 A8 c8 Wc2 (by omega) R8.out)
      go_wp2_with fail
      ((with_reducible refine (HC.out).mono ?_); rintro e Wc3 ⟨⟨b, rfl, hbk⟩, hb⟩)
      obtain rfl : b = true := hbk.2 (right_al (n := 200) (by omega) (by omega))
      clear hbk h82
      have HMW' := Lib.hid (HMW.out.belowW hb)
      have HS4 : Hid (b5 + 1 ≤ Wc3.heap.size) := Nat.le_trans HS3.out hb.size
      clear HMW HS3
      clear HC
      have HB : Hid (Below w.heap.size w Wc3) := (HB.out).trans (hb.mono HB.out.size)
      have RM : Hid (RF Wc3 AS (al 200)) := (RM.out).below hb
      have BX : Hid (Blk Wc3 b5 (.cells #[.int .i64 200, .slice AS 200 cS] 26)) := (BX.out).bel hb
      have R8 : Hid (RF Wc3 A8 (al 200)) := (R8.out).below hb
      clear hb
      go_upto_region 11 with fail
      obtain ⟨kq, hkq⟩ : ∃ q, q = (IntKind.u64.wrap kind).tmod 3 := ⟨_, rfl⟩
      rw [← hkq]
      clear hkq
      by_cases hk0 : kq = 0
      · subst hk0
        have q0 := (blk_cells BX.out).1 0 _ rfl
        have q1 := (blk_cells BX.out).1 1 _ rfl
        have HC := Lib.hid (given_al 200 200 AS cS Wc3 (by omega) RM.out hX2)
        go_wp2_with fail
        ((with_reducible refine (HC.out).mono ?_); rintro e Wc4 ⟨⟨A9, c9, rfl, h91, h92⟩, hb⟩)
        clear HC
        have HB : Hid (Below w.heap.size w Wc4) := (HB.out).trans (hb.mono HB.out.size)
        have RM : Hid (RF Wc4 AS (al 200)) := (RM.out).below hb
        have BX : Hid (Blk Wc4 b5 (.cells #[.int .i64 200, .slice AS 200 cS] 26)) := (BX.out).bel hb
        have R8 : Hid (RF Wc4 A8 (al 200)) := (R8.out).below hb
        have R9 : Hid (RF Wc4 A9 (al 200)) := h92
        clear hb
        clear h92
        have HC := Lib.hid (addNode_al v8 hv8l A9 c9 Wc4 R9.out h91)
        go_wp2_with fail
        ((with_reducible refine (HC.out).mono ?_); rintro e Wc5 ⟨rfl, hb⟩)
        clear HC
        have HB : Hid (Below w.heap.size w Wc5) := (HB.out).trans (hb.mono HB.out.size)
        have RM : Hid (RF Wc5 AS (al 200)) := (RM.out).below hb
        have BX : Hid (Blk Wc5 b5 (.cells #[.int .i64 200, .slice AS 200 cS] 26)) := (BX.out).bel hb
        have R8 : Hid (RF Wc5 A8 (al 200)) := (R8.out).below hb
        have R9 : Hid (RF Wc5 A9 (al 200)) := (R9.out).below hb
        clear hb
        go_upto_region 13 with fail
        have hb := below_new Wc5 (.cells #[.int .i64 0, .slice none 0 0] 30)
        have hbn := blk_new Wc5 (.cells #[.int .i64 0, .slice none 0 0] 30)
        obtain ⟨b9, hb9⟩ : ∃ b, Wc5.heap.size = b := ⟨_, rfl⟩
        have HB : Hid (Below w.heap.size w (Wc5.alloc (.cells #[.int .i64 0, .slice none 0 0] 30))) := (HB.out).trans (hb.mono HB.out.size)
        have RM : Hid (RF (Wc5.alloc (.cells #[.int .i64 0, .slice none 0 0] 30)) AS (al 200)) := (RM.out).below hb
        have BX : Hid (Blk (Wc5.alloc (.cells #[.int .i64 0, .slice none 0 0] 30)) b5 (.cells #[.int .i64 200, .slice AS 200 cS] 26)) := (BX.out).bel hb
        have R8 : Hid (RF (Wc5.alloc (.cells #[.int .i64 0, .slice none 0 0] 30)) A8 (al 200)) := (R8.out).below hb
        have R9 : Hid (RF (Wc5.alloc (.cells #[.int .i64 0, .slice none 0 0] 30)) A9 (al 200)) := (R9.out).below hb
        rw [hb9] at hbn ⊢
        have BE : Hid (Blk (Wc5.alloc (.cells #[.int .i64 0, .slice none 0 0] 30)) b9 (.cells #[.int .i64 0, .slice none 0 0] 30)) := hbn
        clear hb hbn hb9
        generalize Wc5.alloc (.cells #[.int .i64 0, .slice none 0 0] 30) = Wn6 at HB RM BX R8 R9 BE ⊢
        clear q0 q1
        have q0 := (blk_cells BE.out).1 0 _ rfl
        have q1 := (blk_cells BE.out).1 1 _ rfl
        have HC := Lib.hid (fit_err Wn6)
        go_wp2_with fail
        ((with_reducible refine (HC.out).mono ?_); rintro e Wc7 ⟨rfl, hb⟩)
        clear q0 q1
        clear HC
        have HB : Hid (Below w.heap.size w Wc7) := (HB.out).trans (hb.mono HB.out.size)
        have RM : Hid (RF Wc7 AS (al 200)) := (RM.out).below hb
        have BX : Hid (Blk Wc7 b5 (.cells #[.int .i64 200, .slice AS 200 cS] 26)) := (BX.out).bel hb
        have R8 : Hid (RF Wc7 A8 (al 200)) := (R8.out).below hb
        have R9 : Hid (RF Wc7 A9 (al 200)) := (R9.out).below hb
        have BE : Hid (Blk Wc7 b9 (.cells #[.int .i64 0, .slice none 0 0] 30)) := (BE.out).bel hb
        clear hb
        have HC := Lib.hid (awake_any Wc7)
        go_wp2_with fail
        ((with_reducible refine (HC.out).mono ?_); rintro e Wc8 ⟨rfl, hb⟩)
        clear HC
        have HB : Hid (Below w.heap.size w Wc8) := (HB.out).trans (hb.mono HB.out.size)
        have RM : Hid (RF Wc8 AS (al 200)) := (RM.out).below hb
        have BX : Hid (Blk Wc8 b5 (.cells #[.int .i64 200, .slice AS 200 cS] 26)) := (BX.out).bel hb
        have R8 : Hid (RF Wc8 A8 (al 200)) := (R8.out).below hb
        have R9 : Hid (RF Wc8 A9 (al 200)) := (R9.out).below hb
        have BE : Hid (Blk Wc8 b9 (.cells #[.int .i64 0, .slice none 0 0] 30)) := (BE.out).bel hb
        clear hb
        go_wp2
        go_ret
        exact ⟨rfl, HB.out⟩
      · by_cases hk1 : kq = 1
        · subst hk1
          have q0 := (blk_cells BX.out).1 0 _ rfl
          have q1 := (blk_cells BX.out).1 1 _ rfl
          have HC := Lib.hid (given_al 200 200 AS cS Wc3 (by omega) RM.out hX2)
          go_wp2_with fail
          ((with_reducible refine (HC.out).mono ?_); rintro e Wc4 ⟨⟨A9, c9, rfl, h91, h92⟩, hb⟩)
          clear HC
          have HB : Hid (Below w.heap.size w Wc4) := (HB.out).trans (hb.mono HB.out.size)
          have RM : Hid (RF Wc4 AS (al 200)) := (RM.out).below hb
          have BX : Hid (Blk Wc4 b5 (.cells #[.int .i64 200, .slice AS 200 cS] 26)) := (BX.out).bel hb
          have R8 : Hid (RF Wc4 A8 (al 200)) := (R8.out).below hb
          have R9 : Hid (RF Wc4 A9 (al 200)) := h92
          clear hb
          clear h92
          have HC := Lib.hid (new_any Wc4)
          go_wp2_with fail
          ((with_reducible refine (HC.out).mono ?_); rintro e Wc5 ⟨⟨A10, c10, rfl, h101, h102⟩, hb⟩)
          clear HC
          have HB : Hid (Below w.heap.size w Wc5) := (HB.out).trans (hb.mono HB.out.size)
          have RM : Hid (RF Wc5 AS (al 200)) := (RM.out).below hb
          have BX : Hid (Blk Wc5 b5 (.cells #[.int .i64 200, .slice AS 200 cS] 26)) := (BX.out).bel hb
          have R8 : Hid (RF Wc5 A8 (al 200)) := (R8.out).below hb
          have R9 : Hid (RF Wc5 A9 (al 200)) := (R9.out).below hb
          have R10 : Hid (RF Wc5 A10 fM) := h102
          clear hb
          clear h102
          have HC := Lib.hid (both_al A9 A10 c9 c10 Wc5 R9.out R10.out)
          go_wp2_with fail
          ((with_reducible refine (HC.out).mono ?_); rintro e Wc6 ⟨rfl, hb⟩)
          clear HC
          have HB : Hid (Below w.heap.size w Wc6) := (HB.out).trans (hb.mono HB.out.size)
          have RM : Hid (RF Wc6 AS (al 200)) := (RM.out).below hb
          have BX : Hid (Blk Wc6 b5 (.cells #[.int .i64 200, .slice AS 200 cS] 26)) := (BX.out).bel hb
          have R8 : Hid (RF Wc6 A8 (al 200)) := (R8.out).below hb
          have R9 : Hid (RF Wc6 A9 (al 200)) := (R9.out).below hb
          have R10 : Hid (RF Wc6 A10 fM) := (R10.out).below hb
          clear hb
          go_upto_region 16 with fail
          have hb := below_new Wc6 (.cells #[.int .i64 0, .slice none 0 0] 30)
          have hbn := blk_new Wc6 (.cells #[.int .i64 0, .slice none 0 0] 30)
          obtain ⟨b11, hb11⟩ : ∃ b, Wc6.heap.size = b := ⟨_, rfl⟩
          have HB : Hid (Below w.heap.size w (Wc6.alloc (.cells #[.int .i64 0, .slice none 0 0] 30))) := (HB.out).trans (hb.mono HB.out.size)
          have RM : Hid (RF (Wc6.alloc (.cells #[.int .i64 0, .slice none 0 0] 30)) AS (al 200)) := (RM.out).below hb
          have BX : Hid (Blk (Wc6.alloc (.cells #[.int .i64 0, .slice none 0 0] 30)) b5 (.cells #[.int .i64 200, .slice AS 200 cS] 26)) := (BX.out).bel hb
          have R8 : Hid (RF (Wc6.alloc (.cells #[.int .i64 0, .slice none 0 0] 30)) A8 (al 200)) := (R8.out).below hb
          have R9 : Hid (RF (Wc6.alloc (.cells #[.int .i64 0, .slice none 0 0] 30)) A9 (al 200)) := (R9.out).below hb
          have R10 : Hid (RF (Wc6.alloc (.cells #[.int .i64 0, .slice none 0 0] 30)) A10 fM) := (R10.out).below hb
          rw [hb11] at hbn ⊢
          have BE : Hid (Blk (Wc6.alloc (.cells #[.int .i64 0, .slice none 0 0] 30)) b11 (.cells #[.int .i64 0, .slice none 0 0] 30)) := hbn
          clear hb hbn hb11
          generalize Wc6.alloc (.cells #[.int .i64 0, .slice none 0 0] 30) = Wn7 at HB RM BX R8 R9 R10 BE ⊢
          clear q0 q1
          have q0 := (blk_cells BE.out).1 0 _ rfl
          have q1 := (blk_cells BE.out).1 1 _ rfl
          have HC := Lib.hid (fit_err Wn7)
          go_wp2_with fail
          ((with_reducible refine (HC.out).mono ?_); rintro e Wc8 ⟨rfl, hb⟩)
          clear q0 q1
          clear HC
          have HB : Hid (Below w.heap.size w Wc8) := (HB.out).trans (hb.mono HB.out.size)
          have RM : Hid (RF Wc8 AS (al 200)) := (RM.out).below hb
          have BX : Hid (Blk Wc8 b5 (.cells #[.int .i64 200, .slice AS 200 cS] 26)) := (BX.out).bel hb
          have R8 : Hid (RF Wc8 A8 (al 200)) := (R8.out).below hb
          have R9 : Hid (RF Wc8 A9 (al 200)) := (R9.out).below hb
          have R10 : Hid (RF Wc8 A10 fM) := (R10.out).below hb
          have BE : Hid (Blk Wc8 b11 (.cells #[.int .i64 0, .slice none 0 0] 30)) := (BE.out).bel hb
          clear hb
          have HC := Lib.hid (awake_any Wc8)
          go_wp2_with fail
          ((with_reducible refine (HC.out).mono ?_); rintro e Wc9 ⟨rfl, hb⟩)
          clear HC
          have HB : Hid (Below w.heap.size w Wc9) := (HB.out).trans (hb.mono HB.out.size)
          have RM : Hid (RF Wc9 AS (al 200)) := (RM.out).below hb
          have BX : Hid (Blk Wc9 b5 (.cells #[.int .i64 200, .slice AS 200 cS] 26)) := (BX.out).bel hb
          have R8 : Hid (RF Wc9 A8 (al 200)) := (R8.out).below hb
          have R9 : Hid (RF Wc9 A9 (al 200)) := (R9.out).below hb
          have R10 : Hid (RF Wc9 A10 fM) := (R10.out).below hb
          have BE : Hid (Blk Wc9 b11 (.cells #[.int .i64 0, .slice none 0 0] 30)) := (BE.out).bel hb
          clear hb
          go_wp2
          go_ret
          exact ⟨rfl, HB.out⟩
        · have q0 := (blk_cells BX.out).1 0 _ rfl
          have q1 := (blk_cells BX.out).1 1 _ rfl
          go_upto_region 17 with fail
          rw [show (kq == 0) = false from by simpa using hk0, show (kq == 1) = false from by simpa using hk1]
          clear hk0 hk1
          obtain ⟨g, rfl⟩ : ∃ g, AS = some ⟨g, 0, none⟩ := by
            have h := HMW'.out.own
            rw [al_len] at h
            rcases h.2 with ⟨q, _⟩ | ⟨g, cap, cur, he, _⟩
            · cases q
            · cases he; exact ⟨g, rfl⟩
          obtain ⟨B, hB⟩ : ∃ B, Wc3.heap.size = B := ⟨_, rfl⟩
          have HGL : Hid (b5 + 1 ≤ g ∧ g < B) := by rw [← hB]; exact World.ownsRow.lt HMW'.out.own g rfl
          have HW6 : Hid (w.heap.size = b5) := HW5
          have HJ : Hid (JLa (b5 + 1) B g cS Wc3.drew) := by
            have h := HMW'.out
            have hl : ∀ f, f < 200 → ∀ q, (vf f).ownBlock = some q → q < B := fun f hf q e => by rw [← hB]; exact (h.lt (.inr ⟨f, by rw [al_len]; exact hf, .inl e⟩)).2
            rw [al_len] at h
            exact ⟨vf, vl, h.kept (grown_drew _) (fun b e => by cases e), hl⟩
          have HI : Hid (ILa w b5 B g cS Wc3.drew) := ⟨HB.out.grown (grown_drew _) HB.out.size (fun q e => by cases e), BX.out.kept (grown_drew _) (fun e => by cases e), Nat.le_of_eq hB.symm⟩
          have HBB : Hid (b5 + 1 ≤ B) := by rw [← hB]; exact HS4.out
          clear HMW' HS4 RM R8 BX HB hB q0 q1 h81
          have HX2 := Lib.hid hX2
          clear hX2
          refine wp_region_inv' (by kernel_rfl) (by kernel_rfl) (fun listed aa wy => ∃ t : Nat → Value, aa = { tmps := #[.int .i64 kind, .int .i64 by_, undef, undef, .bool false, .pointer (some ⟨b5, 0, none⟩), .int .i64 200, u7, .int .i64 v8, undef, undef, undef, undef, t 13, undef, undef, .agg #[.int .i64 200, .slice none 0 0], .int .i64 200, .pointer (some ⟨b5, 0, none⟩), .int .i64 200, .bool false, u21, u22, u23, u24, u25, u26, u27, u28, u29, u30, u31, .int .i64 by_, .pointer (some ⟨b5, 0, none⟩), .int .i64 200, .int .i64 v8, .agg #[.int .i64 200, .slice (some ⟨g, 0, none⟩) 200 cS], .agg #[.int .i64 200, .slice A8 200 c8], .int .i64 0, .bool false, .int .i64 kind, .int .u64 (IntKind.u64.wrap kind), .int .u64 kq, .bool false, .bool false, undef, undef, undef, undef, undef, undef, undef, undef, undef, undef, undef, undef, undef, undef, undef, .bool false, .bool false, undef, undef, undef, undef, undef, undef, undef, undef, undef, undef, undef, undef, undef, undef, t 76, t 77, t 78, t 79, t 80, t 81, t 82, t 83, t 84, t 85, t 86, t 87, undef, undef, undef, undef, undef, undef, undef, undef, undef, undef, undef, undef, undef, undef, undef, undef, undef, undef, undef, undef, undef, undef, undef, undef, undef, undef, undef, undef, undef, undef, undef, undef, undef, undef, undef, undef, undef, undef, undef, undef], defers := [] } ∧ IRK (JLa (b5 + 1) B g cS) 10 13 (fun t W => ∃ b A c k, t 13 = .pointer (some ⟨b, 0, none⟩) ∧ Blk W b (.cells #[.int .i64 201, .slice A 201 c] 26) ∧ QM W A 201 c ∧ QM W (some ⟨g, 0, none⟩) 199 k) (ILa w b5 B g cS) (SLa b5 B g cS) [(0, 76), (1, 77), (2, 78), (3, 79), (4, 80), (5, 81), (6, 82), (7, 83), (8, 84), (9, 85), (10, 86), (11, 87), (12, 13)] listed t wy) ⟨(fun d => match d with | 13 => undef | 76 => undef | 77 => undef | 78 => undef | 79 => undef | 80 => undef | 81 => undef | 82 => undef | 83 => undef | 84 => undef | 85 => undef | 86 => undef | 87 => undef | _ => undef), rfl, IRK.start _ HI.out HJ.out _⟩ ?_ ?_
          rotate_left
          · rintro listed hCl ix hix aa wy ⟨t, rfl, hR⟩ hr
            match ix, hix, hr with
            | 0, _, hr =>
              as_aux_lemma =>
              refine wpOp_step rfl (fun K' hK => ?_)
              go_simp
              exact hK _ _ ⟨upd t 76 (.pointer (some ⟨b5, 0, none⟩)), rfl, hR.yields hCl hr (by decide) (by decide) (by kernel_rfl) hR.fin (fun h => h) (fun _ _ h => h) (by rfl) rfl⟩
            | 1, _, hr =>
              as_aux_lemma =>
              refine wpOp_step rfl (fun K' hK => ?_)
              have e1 : t 76 = .pointer (some ⟨b5, 0, none⟩) := hR.val hCl hr (by kernel_rfl) (0, 76) (by simp) (dep_of hr 0 (by kernel_rfl))
              have f0 := (blk_cells hR.fin.box).1 0 _ rfl
              go_simp
              exact hK _ _ ⟨upd t 77 (.int .i64 200), by first | (simp [upd, e1]; done) | (simp [upd, e1]; rfl), hR.yields hCl hr (by decide) (by decide) (by kernel_rfl) hR.fin (fun h => h) (fun _ _ h => h) (by rfl) rfl⟩
            | 2, _, hr =>
              as_aux_lemma =>
              refine wpOp_step rfl (fun K' hK => ?_)
              have e1 : t 77 = .int .i64 200 := hR.val hCl hr (by kernel_rfl) (1, 77) (by simp) (dep_of hr 1 (by kernel_rfl))
              go_simp
              exact hK _ _ ⟨upd t 78 (.int .i64 201), by first | (simp [upd, e1]; done) | (simp [upd, e1]; rfl), hR.yields hCl hr (by decide) (by decide) (by kernel_rfl) hR.fin (fun h => h) (fun _ _ h => h) (by rfl) rfl⟩
            | 3, _, hr =>
              as_aux_lemma =>
              refine wpOp_step rfl (fun K' hK => ?_)
              go_simp
              exact hK _ _ ⟨upd t 79 (.pointer (some ⟨b5, 1, none⟩)), rfl, hR.yields hCl hr (by decide) (by decide) (by kernel_rfl) hR.fin (fun h => h) (fun _ _ h => h) (by rfl) rfl⟩
            | 4, _, hr =>
              as_aux_lemma =>
              refine wpOp_step rfl (fun K' hK => ?_)
              have e1 : t 79 = .pointer (some ⟨b5, 1, none⟩) := hR.val hCl hr (by kernel_rfl) (3, 79) (by simp) (dep_of hr 3 (by kernel_rfl))
              have f0 := (blk_cells hR.fin.box).1 1 _ rfl
              go_simp
              exact hK _ _ ⟨upd t 80 (.slice (some ⟨g, 0, none⟩) 200 cS), by first | (simp [upd, e1]; done) | (simp [upd, e1]; rfl), hR.yields hCl hr (by decide) (by decide) (by kernel_rfl) hR.fin (fun h => h) (fun _ _ h => h) (by rfl) rfl⟩
            | 5, _, hr =>
              as_aux_lemma =>
              refine wpOp_step rfl (fun K' hK => ?_)
              go_simp
              exact hK _ _ ⟨upd t 81 (.pointer (some ⟨b5, 0, none⟩)), rfl, hR.yields hCl hr (by decide) (by decide) (by kernel_rfl) hR.fin (fun h => h) (fun _ _ h => h) (by rfl) rfl⟩
            | 6, _, hr =>
              as_aux_lemma =>
              refine wpOp_step rfl (fun K' hK => ?_)
              have e1 : t 81 = .pointer (some ⟨b5, 0, none⟩) := hR.val hCl hr (by kernel_rfl) (5, 81) (by simp) (dep_of hr 5 (by kernel_rfl))
              have f0 := (blk_cells hR.fin.box).1 0 _ rfl
              go_simp
              exact hK _ _ ⟨upd t 82 (.int .i64 200), by first | (simp [upd, e1]; done) | (simp [upd, e1]; rfl), hR.yields hCl hr (by decide) (by decide) (by kernel_rfl) hR.fin (fun h => h) (fun _ _ h => h) (by rfl) rfl⟩
            | 7, _, hr =>
              as_aux_lemma =>
              refine wpOp_step rfl (fun K' hK => ?_)
              have e1 : t 82 = .int .i64 200 := hR.val hCl hr (by kernel_rfl) (6, 82) (by simp) (dep_of hr 6 (by kernel_rfl))
              go_simp
              have hg := World.grownBy_alloc wy (.cells #[.int .i64 200] 3) none
              exact hK _ _ ⟨upd t 83 (.slice (some ⟨wy.heap.size, 0, none⟩) 1 1), by first | (simp [upd, e1]; done) | (simp [upd, e1]; rfl), hR.yields hCl hr (by decide) (by decide) (by kernel_rfl) (hR.fin.grown hg (fun q e => by cases e)) (fun h => h.grown hg) (SLa.grown hg) ⟨_, rfl, own_lit wy [.int .i64 200] rfl hR.fin.size (by omega)⟩ rfl⟩
            | 8, _, hr =>
              as_aux_lemma =>
              refine wpOp_step rfl (fun K' hK => ?_)
              have hS83 : SLa b5 B g cS 83 wy (t 83) := hR.val hCl hr (by kernel_rfl) (7, 83) (by simp) (dep_of hr 7 (by kernel_rfl))
              obtain ⟨q, e9, ho⟩ := hS83
              skip
              go_simp
              have hg := World.grownBy_alloc wy (.cells #[.slice (some ⟨q, 0, none⟩) 1 1] 36) none
              exact hK _ _ ⟨upd t 84 (.slice (some ⟨wy.heap.size, 0, none⟩) 1 1), by simp [upd, e9], hR.yields hCl hr (by decide) (by decide) (by kernel_rfl) (hR.fin.grown hg (fun q e => by cases e)) (fun h => h.grown hg) (SLa.grown hg) ⟨_, _, rfl, FW.lit1 (x := [200]) wy hR.fin.size ho⟩ rfl⟩
            | 9, _, hr =>
              as_aux_lemma =>
              refine wpOp_step rfl (fun K' hK => ?_)
              have hS84 : SLa b5 B g cS 84 wy (t 84) := hR.val hCl hr (by kernel_rfl) (8, 84) (by simp) (dep_of hr 8 (by kernel_rfl))
              obtain ⟨q, u, e9, ho⟩ := hS84
              skip
              go_simp
              have hg := World.grownBy_alloc wy (.cells #[.slice (some ⟨q, 0, none⟩) 1 1] 37) none
              exact hK _ _ ⟨upd t 85 (.slice (some ⟨wy.heap.size, 0, none⟩) 1 1), by simp [upd, e9], hR.yields hCl hr (by decide) (by decide) (by kernel_rfl) (hR.fin.grown hg (fun q e => by cases e)) (fun h => h.grown hg) (SLa.grown hg) ⟨_, _, _, rfl, hR.fin.size, blk_new wy _, ho.kept hg (fun b e => by cases e)⟩ rfl⟩
            | 10, _, hr =>
              as_aux_lemma =>
              refine wpOp_step rfl (fun K' hK => ?_)
              have e1 : t 80 = .slice (some ⟨g, 0, none⟩) 200 cS := hR.val hCl hr (by kernel_rfl) (4, 80) (by simp) (dep_of hr 4 (by kernel_rfl))
              have hS85 : SLa b5 B g cS 85 wy (t 85) := hR.val hCl hr (by kernel_rfl) (9, 85) (by simp) (dep_of hr 9 (by kernel_rfl))
              obtain ⟨m, q, u, e9, hm, hbl, ho⟩ := hS85
              have hJ := hR.old (getD_tf (ready_spec.1 hr).2.1).1
              have hI2 := hR.fin
              obtain ⟨vf0, vl0, hM0, hl0⟩ := id hJ
              refine step_append_keep rfl (.tmp 80) (.tmp 85) _ rfl (b5 + 1) 37 Try.underlying24 infoF g cS 200 _ e1 hM0.own (.slice (some ⟨q, 0, none⟩) 1 1) rfl m e9 hbl (by omega) (Nat.le_trans HBB.out hI2.size) ?_
              intro q1 cap w1 hown hgr hw
              have hgl : ∀ r, (some g : Option Nat) = some r → r < B := fun r e => by cases e; exact HGL.out.2
              have hap := QM.app2 hM0 hl0 ho HBB.out hown hgr hw
              obtain ⟨hq1, k, hq2⟩ := hap
              exact hK _ _ ⟨upd t 86 (.slice (some ⟨q1, 0, none⟩) 201 cap), rfl, hR.turnsL hCl hr (by decide) (by kernel_rfl) (hI2.grown hgr (fun r e => by cases e; have h1 := HGL.out.1; have h2 := HW6.out; omega)) (fun x hx hne hl v hv => by
                simp only [List.mem_cons, List.not_mem_nil, or_false] at hx
                rcases hx with rfl | rfl | rfl | rfl | rfl | rfl | rfl | rfl | rfl | rfl | rfl | rfl | rfl <;> first | exact absurd rfl hne | exact SLa.turned hgr hgl (by decide) (by decide) hv | exact absurd hl (by rw [hCl.not hr 9 (by kernel_rfl)]; decide)) ⟨_, _, _, rfl, hq1, hq2⟩ rfl⟩
            | 11, _, hr =>
              as_aux_lemma =>
              refine wpOp_step rfl (fun K' hK => ?_)
              have e1 : t 78 = .int .i64 201 := hR.val hCl hr (by kernel_rfl) (2, 78) (by simp) (dep_of hr 2 (by kernel_rfl))
              have hS86 : SLa b5 B g cS 86 wy (t 86) := hR.val hCl hr (by kernel_rfl) (10, 86) (by simp) (dep_of hr 10 (by kernel_rfl))
              obtain ⟨A9, c9, k9, e9, hq1, hq2⟩ := hS86
              go_simp
              exact hK _ _ ⟨upd t 87 (.agg #[.int .i64 201, .slice A9 201 c9]), by first | (simp [upd, e1, e9]; done) | (simp [upd, e1, e9]; rfl), hR.yields hCl hr (by decide) (by decide) (by kernel_rfl) hR.fin (fun h => h) (fun _ _ h => h) ⟨_, _, _, rfl, hq1, hq2⟩ rfl⟩
            | 12, _, hr =>
              as_aux_lemma =>
              refine wpOp_step rfl (fun K' hK => ?_)
              go_simp
              have hg := World.grownBy_alloc wy (.cells #[.int .i64 0, .slice none 0 0] 26) none
              exact hK _ _ ⟨upd t 13 (.pointer (some ⟨wy.heap.size, 0, none⟩)), rfl, hR.yields hCl hr (by decide) (by decide) (by kernel_rfl) (hR.fin.grown hg (fun q e => by cases e)) (fun h => h.grown hg) (SLa.grown hg) ⟨_, _, _, rfl, hR.fin.size, blk_new wy _⟩ rfl⟩
            | 13, _, hr =>
              as_aux_lemma =>
              refine wpOp_step rfl (fun K' hK => ?_)
              have hS13 : SLa b5 B g cS 13 wy (t 13) := hR.vls (getD_tf (ready_spec.1 hr).2.1).1 (12, 13) (by simp) (dep_of hr 12 (by kernel_rfl))
              have hS87 : SLa b5 B g cS 87 wy (t 87) := hR.vls (getD_tf (ready_spec.1 hr).2.1).1 (11, 87) (by simp) (dep_of hr 11 (by kernel_rfl))
              obtain ⟨O, x0, y0, e8, hOB, hO⟩ := hS13
              obtain ⟨A9, c9, k9, e9, hq1, hq2⟩ := hS87
              have z0 := (blk_cells hO).1 0 _ rfl
              have z1 := (blk_cells hO).1 1 _ rfl
              have z2 := (blk_cells hO).2 0
              have z3 := (blk_cells hO).2 1
              have z4 := hO.lt
              have hne := HBB.out
              have hw6 := HW6.out
              have hE := hR.ends hr (W1 := (wy.setCell ⟨O, 0, none⟩ (.int .i64 201)).setCell ⟨O, 1, none⟩ (.slice A9 201 c9)) (.inl (dep_of hr 10 (by kernel_rfl))) (by decide) (hR.fin.grown (set2_grown _ _ _ _) (fun r e => by cases e; exact ⟨by omega, by omega⟩)) ⟨O, A9, c9, k9, e8, blk_set2 hO, hq1.set hO (by decide) (by decide) (by decide) _ _, hq2.set hO (by decide) (by decide) (by decide) _ _⟩
              go_simp
              exact hK _ _ ⟨t, by simp [e8, e9], hE⟩
            | nx + 14, hix, _ => exact absurd (show nx + 14 < 14 from hix) (by omega)
          rintro listed a2 W17 ⟨t, rfl, hR⟩ hl
          obtain ⟨b13, A13, c13, k13, e13, HBM, hq1, hq2⟩ := hR.new (hl 13 (by decide))
          have hI9 := hR.fin
          clear hR hl
          rw [e13]
          clear e13
          generalize t 76 = u76
          generalize t 77 = u77
          generalize t 78 = u78
          generalize t 79 = u79
          generalize t 80 = u80
          generalize t 81 = u81
          generalize t 82 = u82
          generalize t 83 = u83
          generalize t 84 = u84
          generalize t 85 = u85
          generalize t 86 = u86
          generalize t 87 = u87
          go_upto_region 18 with fail
          obtain ⟨iF, hiF, hiF0, hiF1, hiF2⟩ := info_parts infoF
          have HI8 : Hid (IL8 w b5 b13 g cS k13 c13 A13 W17.drew) := (IL8.mk hI9.old hI9.box HBM hq2 hq1).grown (grown_drew _)
          clear hI9 HBM hq1 hq2 HI HJ HGL
          refine wp_region_inv' (by kernel_rfl) (by kernel_rfl) (fun listed aa wy => ∃ t : Nat → Value, aa = { tmps := #[.int .i64 kind, .int .i64 by_, undef, undef, .bool false, .pointer (some ⟨b5, 0, none⟩), .int .i64 200, u7, .int .i64 v8, undef, undef, undef, undef, .pointer (some ⟨b13, 0, none⟩), t 14, t 15, .agg #[.int .i64 200, .slice none 0 0], .int .i64 200, .pointer (some ⟨b5, 0, none⟩), .int .i64 200, .bool false, u21, u22, u23, u24, u25, u26, u27, u28, u29, u30, u31, .int .i64 by_, .pointer (some ⟨b5, 0, none⟩), .int .i64 200, .int .i64 v8, .agg #[.int .i64 200, .slice (some ⟨g, 0, none⟩) 200 cS], .agg #[.int .i64 200, .slice A8 200 c8], .int .i64 0, .bool false, .int .i64 kind, .int .u64 (IntKind.u64.wrap kind), .int .u64 kq, .bool false, .bool false, undef, undef, undef, undef, undef, undef, undef, undef, undef, undef, undef, undef, undef, undef, undef, .bool false, .bool false, undef, undef, undef, undef, undef, undef, undef, undef, undef, undef, undef, undef, undef, undef, u76, u77, u78, u79, u80, u81, u82, u83, u84, u85, u86, u87, t 88, t 89, t 90, t 91, t 92, t 93, t 94, t 95, t 96, t 97, t 98, t 99, t 100, t 101, t 102, t 103, t 104, undef, undef, undef, undef, undef, undef, undef, undef, undef, undef, undef, undef, undef, undef, undef, undef, undef, undef, undef, undef, undef, undef, undef], defers := [] } ∧ IRP (fun _ => True) 18 (fun t W => ∃ b A c, t 14 = .pointer (some ⟨b, 0, none⟩) ∧ Blk W b (.cells #[.int .i64 200, .slice A 200 c] 30) ∧ QM W A 200 c) (IL8 w b5 b13 g cS k13 c13 A13) (SL8 w.heap.size b5 g cS) [(0, 89), (1, 90), (2, 91), (3, 92), (4, 93), (5, 94), (6, 95), (7, 96), (8, 97), (9, 98), (10, 99), (11, 100), (12, 101), (13, 102), (14, 88), (15, 103), (17, 14)] PL8 [(14, 88), (16, 104), (19, 15)] listed t wy) ⟨(fun d => match d with | 14 => undef | 15 => undef | 88 => undef | 89 => undef | 90 => undef | 91 => undef | 92 => undef | 93 => undef | 94 => undef | 95 => undef | 96 => undef | 97 => undef | 98 => undef | 99 => undef | 100 => undef | 101 => undef | 102 => undef | 103 => undef | 104 => undef | _ => undef), rfl, IRP.start _ HI8.out trivial _⟩ ?_ ?_
          rotate_left
          · rintro listed hCl ix hix aa wy ⟨t, rfl, hR⟩ hr
            match ix, hix, hr with
            | 0, _, hr =>
              as_aux_lemma =>
              refine wpOp_step rfl (fun K' hK => ?_)
              go_simp
              refine (rnew_any wy).mono ?_
              rintro e W' ⟨⟨A1, c1, rfl, h1, h2⟩, hb⟩
              exact hK _ _ ⟨upd t 89 (.agg #[.int .i64 1, .slice A1 fM.length c1]), rfl, hR.yields hCl hr (by decide) (by kernel_rfl) (hR.ire.fin.below hb) (fun h => h) (SL8.below hb) ⟨_, _, rfl, h1, h2⟩ rfl rfl trivial⟩
            | 1, _, hr =>
              as_aux_lemma =>
              refine wpOp_step rfl (fun K' hK => ?_)
              have hS89 : SL8 w.heap.size b5 g cS 89 wy (t 89) := hR.val hCl hr (by kernel_rfl) (0, 89) (by simp) (dep_of hr 0 (by kernel_rfl))
              obtain ⟨A0, c0, e9, h3, h4⟩ := hS89
              go_simp
              refine (given_fM A0 c0 wy h4 h3).mono ?_
              rintro e W' ⟨⟨A1, c1, rfl, h1, h2⟩, hb⟩
              exact hK _ _ ⟨upd t 90 (.agg #[.int .i64 1, .slice A1 fM.length c1]), by simp [upd, e9], hR.yields hCl hr (by decide) (by kernel_rfl) (hR.ire.fin.below hb) (fun h => h) (SL8.below hb) ⟨_, _, rfl, h1, h2⟩ rfl rfl trivial⟩
            | 2, _, hr =>
              as_aux_lemma =>
              refine wpOp_step rfl (fun K' hK => ?_)
              go_simp
              exact hK _ _ ⟨upd t 91 (.pointer (some ⟨b5, 0, none⟩)), rfl, hR.yields hCl hr (by decide) (by kernel_rfl) hR.ire.fin (fun h => h) (fun _ _ h => h) (by rfl) rfl rfl trivial⟩
            | 3, _, hr =>
              as_aux_lemma =>
              refine wpOp_step rfl (fun K' hK => ?_)
              have e1 : t 91 = .pointer (some ⟨b5, 0, none⟩) := hR.val hCl hr (by kernel_rfl) (2, 91) (by simp) (dep_of hr 2 (by kernel_rfl))
              have f0 := (blk_cells hR.ire.fin.box).1 0 _ rfl
              go_simp
              exact hK _ _ ⟨upd t 92 (.int .i64 200), by first | (simp [upd, e1]; done) | (simp [upd, e1]; rfl), hR.yields hCl hr (by decide) (by kernel_rfl) hR.ire.fin (fun h => h) (fun _ _ h => h) (by rfl) rfl rfl trivial⟩
            | 4, _, hr =>
              as_aux_lemma =>
              refine wpOp_step rfl (fun K' hK => ?_)
              have e1 : t 92 = .int .i64 200 := hR.val hCl hr (by kernel_rfl) (3, 92) (by simp) (dep_of hr 3 (by kernel_rfl))
              go_simp
              exact hK _ _ ⟨upd t 93 (.int .i64 199), by first | (simp [upd, e1]; done) | (simp [upd, e1]; rfl), hR.yields hCl hr (by decide) (by kernel_rfl) hR.ire.fin (fun h => h) (fun _ _ h => h) (by rfl) rfl rfl trivial⟩
            | 5, _, hr =>
              as_aux_lemma =>
              refine wpOp_step rfl (fun K' hK => ?_)
              go_simp
              exact hK _ _ ⟨upd t 94 (.pointer (some ⟨b5, 1, none⟩)), rfl, hR.yields hCl hr (by decide) (by kernel_rfl) hR.ire.fin (fun h => h) (fun _ _ h => h) (by rfl) rfl rfl trivial⟩
            | 6, _, hr =>
              as_aux_lemma =>
              refine wpOp_step rfl (fun K' hK => ?_)
              have e1 : t 94 = .pointer (some ⟨b5, 1, none⟩) := hR.val hCl hr (by kernel_rfl) (5, 94) (by simp) (dep_of hr 5 (by kernel_rfl))
              have f0 := (blk_cells hR.ire.fin.box).1 1 _ rfl
              go_simp
              exact hK _ _ ⟨upd t 95 (.slice (some ⟨g, 0, none⟩) 200 cS), by first | (simp [upd, e1]; done) | (simp [upd, e1]; rfl), hR.yields hCl hr (by decide) (by kernel_rfl) hR.ire.fin (fun h => h) (fun _ _ h => h) (by rfl) rfl rfl trivial⟩
            | 7, _, hr =>
              as_aux_lemma =>
              refine wpOp_step rfl (fun K' hK => ?_)
              go_simp
              exact hK _ _ ⟨upd t 96 (.pointer (some ⟨b5, 0, none⟩)), rfl, hR.yields hCl hr (by decide) (by kernel_rfl) hR.ire.fin (fun h => h) (fun _ _ h => h) (by rfl) rfl rfl trivial⟩
            | 8, _, hr =>
              as_aux_lemma =>
              refine wpOp_step rfl (fun K' hK => ?_)
              have e1 : t 96 = .pointer (some ⟨b5, 0, none⟩) := hR.val hCl hr (by kernel_rfl) (7, 96) (by simp) (dep_of hr 7 (by kernel_rfl))
              have f0 := (blk_cells hR.ire.fin.box).1 0 _ rfl
              go_simp
              exact hK _ _ ⟨upd t 97 (.int .i64 200), by first | (simp [upd, e1]; done) | (simp [upd, e1]; rfl), hR.yields hCl hr (by decide) (by kernel_rfl) hR.ire.fin (fun h => h) (fun _ _ h => h) (by rfl) rfl rfl trivial⟩
            | 9, _, hr =>
              as_aux_lemma =>
              refine wpOp_step rfl (fun K' hK => ?_)
              have e1 : t 97 = .int .i64 200 := hR.val hCl hr (by kernel_rfl) (8, 97) (by simp) (dep_of hr 8 (by kernel_rfl))
              go_simp
              exact hK _ _ ⟨upd t 98 (.int .i64 199), by first | (simp [upd, e1]; done) | (simp [upd, e1]; rfl), hR.yields hCl hr (by decide) (by kernel_rfl) hR.ire.fin (fun h => h) (fun _ _ h => h) (by rfl) rfl rfl trivial⟩
            | 10, _, hr =>
              as_aux_lemma =>
              refine wpOp_step rfl (fun K' hK => ?_)
              have e1 : t 95 = .slice (some ⟨g, 0, none⟩) 200 cS := hR.val hCl hr (by kernel_rfl) (6, 95) (by simp) (dep_of hr 6 (by kernel_rfl))
              have e2 : t 98 = .int .i64 199 := hR.val hCl hr (by kernel_rfl) (9, 98) (by simp) (dep_of hr 9 (by kernel_rfl))
              have hct := cut_to (P := Try.prog) 24 37 .i64 Try.underlying24 hiF (some ⟨g, 0, none⟩) 200 cS 199 (by omega) (by omega) HX2.out wy
              rw [show (199 : Int).toNat = 199 from rfl] at hct
              go_simp
              exact hK _ _ ⟨upd t 99 (.slice (some ⟨g, 0, none⟩) 199 cS), by first | (simp [upd, e1, e2]; done) | (simp [upd, e1, e2]; rfl), hR.yields hCl hr (by decide) (by kernel_rfl) hR.ire.fin (fun h => h) (fun _ _ h => h) (by rfl) rfl rfl trivial⟩
            | 11, _, hr =>
              as_aux_lemma =>
              refine wpOp_step rfl (fun K' hK => ?_)
              have e1 : t 93 = .int .i64 199 := hR.val hCl hr (by kernel_rfl) (4, 93) (by simp) (dep_of hr 4 (by kernel_rfl))
              have e2 : t 99 = .slice (some ⟨g, 0, none⟩) 199 cS := hR.val hCl hr (by kernel_rfl) (10, 99) (by simp) (dep_of hr 10 (by kernel_rfl))
              go_simp
              exact hK _ _ ⟨upd t 100 (.agg #[.int .i64 199, .slice (some ⟨g, 0, none⟩) 199 cS]), by first | (simp [upd, e1, e2]; done) | (simp [upd, e1, e2]; rfl), hR.yields hCl hr (by decide) (by kernel_rfl) hR.ire.fin (fun h => h) (fun _ _ h => h) (by rfl) rfl rfl trivial⟩
            | 12, _, hr =>
              as_aux_lemma =>
              refine wpOp_step rfl (fun K' hK => ?_)
              have hS100 : SL8 w.heap.size b5 g cS 100 wy (t 100) := hR.val hCl hr (by kernel_rfl) (11, 100) (by simp) (dep_of hr 11 (by kernel_rfl))
              have e9 : t 100 = .agg #[.int .i64 199, .slice (some ⟨g, 0, none⟩) 199 cS] := hS100
              have hl9 : 199 ≤ cS := Nat.le_trans (by omega) HX2.out
              go_simp
              refine (given_al 199 199 (some ⟨g, 0, none⟩) cS wy (by omega) hR.ire.fin.less.rf.2 hl9).mono ?_
              rintro e W' ⟨⟨A1, c1, rfl, h1, h2⟩, hb⟩
              exact hK _ _ ⟨upd t 101 (.agg #[.int .i64 199, .slice A1 199 c1]), by simp [upd, e9], hR.yields hCl hr (by decide) (by kernel_rfl) (hR.ire.fin.below hb) (fun h => h) (SL8.below hb) ⟨_, _, rfl, h1, h2⟩ rfl rfl trivial⟩
            | 13, _, hr =>
              as_aux_lemma =>
              refine wpOp_step rfl (fun K' hK => ?_)
              have hS90 : SL8 w.heap.size b5 g cS 90 wy (t 90) := hR.val hCl hr (by kernel_rfl) (1, 90) (by simp) (dep_of hr 1 (by kernel_rfl))
              have hS101 : SL8 w.heap.size b5 g cS 101 wy (t 101) := hR.val hCl hr (by kernel_rfl) (12, 101) (by simp) (dep_of hr 12 (by kernel_rfl))
              obtain ⟨A0, c0, e8, h3, h4⟩ := hS90
              obtain ⟨A9, c9, e9, h5, h6⟩ := hS101
              go_simp
              refine (both_al3 A0 A9 c0 c9 wy h4 h6).mono ?_
              rintro e W' ⟨⟨A1, c1, rfl, h1⟩, hb⟩
              exact hK _ _ ⟨upd t 102 (.tuple #[.agg #[.int .i64 200, .slice A1 200 c1], .int .i64 0]), by simp [upd, e8, e9], hR.yields hCl hr (by decide) (by kernel_rfl) (hR.ire.fin.below hb) (fun h => h) (SL8.below hb) ⟨_, _, rfl, h1⟩ rfl rfl trivial⟩
            | 14, _, hr =>
              as_aux_lemma =>
              refine wpOp_step rfl (fun K' hK => ?_)
              have hS102 : SL8 w.heap.size b5 g cS 102 wy (t 102) := hR.val hCl hr (by kernel_rfl) (13, 102) (by simp) (dep_of hr 13 (by kernel_rfl))
              obtain ⟨A1, c1, e9, h1⟩ := hS102
              go_simp
              exact hK _ _ ⟨upd t 88 (.tuple #[.agg #[.int .i64 200, .slice A1 200 c1], .int .i64 0]), by simp [upd, e9], hR.yields hCl hr (by decide) (by kernel_rfl) hR.ire.fin (fun h => h) (fun _ _ h => h) ⟨_, _, rfl, h1⟩ rfl rfl ⟨_, rfl⟩⟩
            | 15, _, hr =>
              as_aux_lemma =>
              refine wpOp_step rfl (fun K' hK => ?_)
              have hS88 : SL8 w.heap.size b5 g cS 88 wy (t 88) := hR.val hCl hr (by kernel_rfl) (14, 88) (by simp) (dep_of hr 14 (by kernel_rfl))
              obtain ⟨A1, c1, e9, h1⟩ := hS88
              go_simp
              exact hK _ _ ⟨upd t 103 (.agg #[.int .i64 200, .slice A1 200 c1]), by simp [upd, e9], hR.yields hCl hr (by decide) (by kernel_rfl) hR.ire.fin (fun h => h) (fun _ _ h => h) ⟨_, _, rfl, h1⟩ rfl rfl trivial⟩
            | 16, _, hr =>
              as_aux_lemma =>
              refine wpOp_step rfl (fun K' hK => ?_)
              obtain ⟨x9, e9⟩ : ∃ x, t 88 = .tuple #[x, .int .i64 0] := hR.pur (14, 88) (by simp) (dep_of hr 14 (by kernel_rfl))
              go_simp
              exact hK _ _ ⟨upd t 104 (.int .i64 0), by simp [upd, e9], hR.beside (by decide) (by decide) (fun h => by obtain ⟨b, A, c, h1, h2⟩ := h; exact ⟨b, A, c, (upd_other _ _ (by decide)).trans h1, h2⟩) rfl rfl⟩
            | 17, _, hr =>
              as_aux_lemma =>
              refine wpOp_step rfl (fun K' hK => ?_)
              go_simp
              have hb := below_new wy (.cells #[.int .i64 0, .slice none 0 0] 30)
              have hg := World.grownBy_alloc wy (.cells #[.int .i64 0, .slice none 0 0] 30) none
              exact hK _ _ ⟨upd t 14 (.pointer (some ⟨wy.heap.size, 0, none⟩)), rfl, hR.yields hCl hr (by decide) (by kernel_rfl) (hR.ire.fin.below hb) (fun h => h) (SL8.below hb) ⟨_, _, _, rfl, hR.ire.fin.old.size, blk_new wy _⟩ rfl rfl trivial⟩
            | 18, _, hr =>
              as_aux_lemma =>
              refine wpOp_step rfl (fun K' hK => ?_)
              have hA := hR.ire.atEnd hr
              have hS14 : SL8 w.heap.size b5 g cS 14 wy (t 14) := hA.2 (17, 14) (by simp) (dep_of hr 17 (by kernel_rfl))
              have hS103 : SL8 w.heap.size b5 g cS 103 wy (t 103) := hA.2 (15, 103) (by simp) (dep_of hr 15 (by kernel_rfl))
              obtain ⟨O, x0, y0, e8, hOB, hO⟩ := hS14
              obtain ⟨A9, c9, e9, hq⟩ := hS103
              have z0 := (blk_cells hO).1 0 _ rfl
              have z1 := (blk_cells hO).1 1 _ rfl
              have z2 := (blk_cells hO).2 0
              have z3 := (blk_cells hO).2 1
              have z4 := hO.lt
              have hE := hR.ends hr (W1 := (wy.setCell ⟨O, 0, none⟩ (.int .i64 200)).setCell ⟨O, 1, none⟩ (.slice A9 200 c9)) (hR.ire.fin.set hO hOB _ _) ⟨O, A9, c9, e8, blk_set2 hO, hq.set hO (by decide) (by decide) (by decide) _ _⟩ (by decide)
              clear hA
              go_simp
              exact hK _ _ ⟨t, by simp [e8, e9], hE⟩
            | 19, _, hr =>
              as_aux_lemma =>
              refine wpOp_step rfl (fun K' hK => ?_)
              have e9 : t 104 = .int .i64 0 := hR.pur (16, 104) (by simp) (dep_of hr 16 (by kernel_rfl))
              go_simp
              exact hK _ _ ⟨upd t 15 (.int .i64 0), by simp [upd, e9], hR.beside (by decide) (by decide) (fun h => by obtain ⟨b, A, c, h1, h2⟩ := h; exact ⟨b, A, c, (upd_other _ _ (by decide)).trans h1, h2⟩) rfl rfl⟩
            | nx + 20, hix, _ => exact absurd (show nx + 20 < 20 from hix) (by omega)
          rintro listed a2 W18 ⟨t, rfl, hR⟩ hl
          obtain ⟨b14, A14, c14, e14, HBN, hq3⟩ := hR.ire.new (hl 18 (by decide))
          have e15 : t 15 = .int .i64 0 := hR.pur (19, 15) (by simp) (hl 19 (by decide))
          have hI18 := hR.ire.fin
          clear hR hl
          rw [e14, e15]
          clear e14 e15
          generalize t 88 = u88
          generalize t 89 = u89
          generalize t 90 = u90
          generalize t 91 = u91
          generalize t 92 = u92
          generalize t 93 = u93
          generalize t 94 = u94
          generalize t 95 = u95
          generalize t 96 = u96
          generalize t 97 = u97
          generalize t 98 = u98
          generalize t 99 = u99
          generalize t 100 = u100
          generalize t 101 = u101
          generalize t 102 = u102
          generalize t 103 = u103
          generalize t 104 = u104
          clear hiF hiF0 hiF1 hiF2 HI8
          have HB : Hid (Below w.heap.size w W18) := hI18.old
          have BM : Hid (Blk W18 b13 (.cells #[.int .i64 201, .slice A13 201 c13] 26)) := hI18.more
          have BN : Hid (Blk W18 b14 (.cells #[.int .i64 200, .slice A14 200 c14] 30)) := HBN
          have HL13 := Lib.hid hI18.big.rf.1
          have HL14 := Lib.hid hq3.rf.1
          have RX : Hid (RF W18 A13 (al 201)) := hI18.big.rf.2
          have RN : Hid (RF W18 A14 (al 200)) := hq3.rf.2
          clear hI18 HBN hq3
          have q0 := (blk_cells BM.out).1 0 _ rfl
          have q1 := (blk_cells BM.out).1 1 _ rfl
          have HC := Lib.hid (given_al 201 201 A13 c13 W18 (by omega) RX.out HL13.out)
          go_wp2_with fail
          ((with_reducible refine (HC.out).mono ?_); rintro e Wc4 ⟨⟨A15, c15, rfl, h151, h152⟩, hb⟩)
          clear q0 q1
          clear HC
          have HB : Hid (Below w.heap.size w Wc4) := (HB.out).trans (hb.mono HB.out.size)
          have BM : Hid (Blk Wc4 b13 (.cells #[.int .i64 201, .slice A13 201 c13] 26)) := (BM.out).bel hb
          have BN : Hid (Blk Wc4 b14 (.cells #[.int .i64 200, .slice A14 200 c14] 30)) := (BN.out).bel hb
          have RX : Hid (RF Wc4 A13 (al 201)) := (RX.out).below hb
          have RN : Hid (RF Wc4 A14 (al 200)) := (RN.out).below hb
          have R15 : Hid (RF Wc4 A15 (al 201)) := h152
          clear hb
          clear h152
          have HC := Lib.hid ((show Calls Try.prog 10 #[.agg #[.int .i64 201, .slice A15 201 c15]] Wc4 _ from check_bad 201 A15 c15 Wc4 (by omega) (by omega) R15.out))
          go_wp2_with fail
          ((with_reducible refine (HC.out).mono ?_); rintro e Wc5 ⟨rfl, hb⟩)
          clear HC
          have HB : Hid (Below w.heap.size w Wc5) := (HB.out).trans (hb.mono HB.out.size)
          have BM : Hid (Blk Wc5 b13 (.cells #[.int .i64 201, .slice A13 201 c13] 26)) := (BM.out).bel hb
          have BN : Hid (Blk Wc5 b14 (.cells #[.int .i64 200, .slice A14 200 c14] 30)) := (BN.out).bel hb
          have RX : Hid (RF Wc5 A13 (al 201)) := (RX.out).below hb
          have RN : Hid (RF Wc5 A14 (al 200)) := (RN.out).below hb
          have R15 : Hid (RF Wc5 A15 (al 201)) := (R15.out).below hb
          clear hb
          have q0 := (blk_cells BN.out).1 0 _ rfl
          have q1 := (blk_cells BN.out).1 1 _ rfl
          have HC := Lib.hid (own_al 200 200 A14 c14 Wc5 (by omega) RN.out HL14.out)
          go_wp2_with fail
          ((with_reducible refine (HC.out).mono ?_); rintro e Wc6 ⟨⟨A16, c16, rfl⟩, hb⟩)
          clear q0 q1
          clear HC
          have HB : Hid (Below w.heap.size w Wc6) := (HB.out).trans (hb.mono HB.out.size)
          have BM : Hid (Blk Wc6 b13 (.cells #[.int .i64 201, .slice A13 201 c13] 26)) := (BM.out).bel hb
          have BN : Hid (Blk Wc6 b14 (.cells #[.int .i64 200, .slice A14 200 c14] 30)) := (BN.out).bel hb
          have RX : Hid (RF Wc6 A13 (al 201)) := (RX.out).below hb
          have RN : Hid (RF Wc6 A14 (al 200)) := (RN.out).below hb
          have R15 : Hid (RF Wc6 A15 (al 201)) := (R15.out).below hb
          clear hb
          have q0 := (blk_cells BN.out).1 0 _ rfl
          have q1 := (blk_cells BN.out).1 1 _ rfl
          have q2 := (blk_cells BN.out).2 1
          have hfl : ∀ W, (Instr.field 26 (.agg #[.int .i64 200, .slice A16 200 c16]) 0).run Try.prog W = .ok (.int .i64 200) W := fun W => by kernel_rfl
          have HC := Lib.hid (awake_any Wc6)
          go_wp2_with fail
          ((with_reducible refine (HC.out).mono ?_); rintro e Wc7 ⟨rfl, hb⟩)
          clear q0 q1 q2
          clear HC
          have HB : Hid (Below w.heap.size w Wc7) := (HB.out).trans (hb.mono HB.out.size)
          have BM : Hid (Blk Wc7 b13 (.cells #[.int .i64 201, .slice A13 201 c13] 26)) := (BM.out).bel hb
          have BN : Hid (Blk Wc7 b14 (.cells #[.int .i64 200, .slice A14 200 c14] 30)) := (BN.out).bel hb
          have RX : Hid (RF Wc7 A13 (al 201)) := (RX.out).below hb
          have RN : Hid (RF Wc7 A14 (al 200)) := (RN.out).below hb
          have R15 : Hid (RF Wc7 A15 (al 201)) := (R15.out).below hb
          clear hb
          go_wp2
          go_ret
          exact ⟨rfl, HB.out⟩

end Go.Proofs.Ytealnhaffphamaa
