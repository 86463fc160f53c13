/- Contracts of the functions that the statement reaches, and plain lemmas: part 12 of 29. -/
import Derived.Test.YtealnhaffphamaaGreatK11
set_option linter.unusedVariables false
set_option linter.unusedSimpArgs false

-- PRINTED BY print.sh 35421559b90ae4d0a3588c463048766b98c2df88dd9212a6774a882060cdf62d: not written by this session
namespace Go.Proofs.YtealnhaffphamaaGreat.PCmp
open Go.RowKit Go.Proofs.YtealnhaffphamaaGreatW.PrintWords Go.Proofs.YtealnhaffphamaaGreatW.PrintLast Go.Proofs.YtealnhaffphamaaGreatW.PrintMore
attribute [local go_sem] max2_int min2_int max_two min_two max_three min_three max_four min_four   -- for this text's walks alone
set_option linter.unusedVariables false
set_option linter.unusedSimpArgs false

/-! ### spokeshaveref14_cmp: function 83 -/
mutual
def spokeshaveref14_cmp.l0 : Nat → List Int → List Int → Int → Option (Int)
  | 0, _, _, _ => none
  | k + 1, x0, x1, x5 => if x5 < (x0.length : Int) then (spokeshaveref14_cmp.j1 k x0 x1 x5 (decide (x5 < (x1.length : Int)))) else (spokeshaveref14_cmp.j1 k x0 x1 x5 false)
def spokeshaveref14_cmp.j1 : Nat → List Int → List Int → Int → Bool → Option (Int)
  | 0, _, _, _, _ => none
  | k + 1, x0, x1, x5, x15 => if x15 = true then (if 0 ≤ x5 then (if x5 < (x0.length : Int) then (if x5 < (x1.length : Int) then (if (rd x0 x5) = (rd x1 x5) then (spokeshaveref14_cmp.l0 k x0 x1 (wrap64 (x5 + 1))) else (if (rd x0 x5) < (rd x1 x5) then (some (-1)) else (some 1))) else (none)) else (none)) else (none)) else (if (x0.length : Int) < (x1.length : Int) then (some (-1)) else (if (x0.length : Int) > (x1.length : Int) then (some 1) else (some 0)))
end
def spokeshaveref14_cmp.f (k : Nat) (l0 : List Int) (l1 : List Int) : Option (Int) := spokeshaveref14_cmp.l0 k l0 l1 0
theorem spokeshaveref14_cmp.mono_l : ∀ k, (∀ y0 y1 y2, LeO (spokeshaveref14_cmp.l0 k y0 y1 y2) (spokeshaveref14_cmp.l0 (k + 1) y0 y1 y2)) ∧ (∀ y0 y1 y2 y3, LeO (spokeshaveref14_cmp.j1 k y0 y1 y2 y3) (spokeshaveref14_cmp.j1 (k + 1) y0 y1 y2 y3))
  | 0 => ⟨fun _ _ _ r h => by simp [spokeshaveref14_cmp.l0] at h, fun _ _ _ _ r h => by simp [spokeshaveref14_cmp.j1] at h⟩
  | k + 1 => by
    obtain ⟨ih0, ih1⟩ := spokeshaveref14_cmp.mono_l k
    refine ⟨?_, ?_⟩
    · intro y0 y1 y2
      unfold spokeshaveref14_cmp.l0
      repeat' first
      | (with_reducible exact ih0 _ _ _)
      | (with_reducible exact ih1 _ _ _ _)
      | (with_reducible exact LeO.refl _)
      | (with_reducible exact LeO.none _)
      | (with_reducible refine LeO.ite ?_ ?_)
      | (with_reducible refine LeO.bind ?_ (fun _ => ?_))
      | exact ih0 _ _ _
      | exact ih1 _ _ _ _
      | exact LeO.none _
      | refine LeO.ite ?_ ?_
      | refine LeO.bind ?_ (fun _ => ?_)
    · intro y0 y1 y2 y3
      unfold spokeshaveref14_cmp.j1
      repeat' first
      | (with_reducible exact ih0 _ _ _)
      | (with_reducible exact ih1 _ _ _ _)
      | (with_reducible exact LeO.refl _)
      | (with_reducible exact LeO.none _)
      | (with_reducible refine LeO.ite ?_ ?_)
      | (with_reducible refine LeO.bind ?_ (fun _ => ?_))
      | exact ih0 _ _ _
      | exact ih1 _ _ _ _
      | exact LeO.none _
      | refine LeO.ite ?_ ?_
      | refine LeO.bind ?_ (fun _ => ?_)
theorem spokeshaveref14_cmp.mono : ∀ a0 a1 k, LeO (spokeshaveref14_cmp.f k a0 a1) (spokeshaveref14_cmp.f (k + 1) a0 a1) := by
  intro a0 a1 k
  obtain ⟨ih0, ih1⟩ := spokeshaveref14_cmp.mono_l k
  unfold spokeshaveref14_cmp.f
  repeat' first
      | (with_reducible exact ih0 _ _ _)
      | (with_reducible exact ih1 _ _ _ _)
      | (with_reducible exact LeO.refl _)
      | (with_reducible exact LeO.none _)
      | (with_reducible refine LeO.ite ?_ ?_)
      | (with_reducible refine LeO.bind ?_ (fun _ => ?_))
      | exact ih0 _ _ _
      | exact ih1 _ _ _ _
      | exact LeO.none _
      | refine LeO.ite ?_ ?_
      | refine LeO.bind ?_ (fun _ => ?_)
set_option maxHeartbeats 8000000 in
set_option maxRecDepth 100000 in
theorem spokeshaveref14_cmp.calls (k : Nat) (A0 : Option Addr) (c0 : Nat) (l0 : List Int) (A1 : Option Addr) (c1 : Nat) (l1 : List Int) (r : Int) (w : World) (hr0 : Kd.C (Kd.int .i64) w A0 l0.length l0) (hc0 : l0.length ≤ c0) (hr1 : Kd.C (Kd.int .i64) w A1 l1.length l1) (hc1 : l1.length ≤ c1) (h : spokeshaveref14_cmp.f k l0 l1 = some r) :
    Calls Tryz.prog 83 #[.slice A0 l0.length c0, .slice A1 l1.length c1] w fun e w' => e = .returned (.int .i64 r) ∧ Drawn0 w w' := by
  have HR0 := Aside0.mk hr0
  have HC0 := Aside0.mk hc0
  clear hr0 hc0
  have HR1 := Aside0.mk hr1
  have HC1 := Aside0.mk hc1
  clear hr1 hc1
  have H : (spokeshaveref14_cmp.l0 k l0 l1 0) = some r := h
  clear h
  have H' := Aside0.mk H
  clear H
  go_enter Tryz.func83, Tryz.ntmps83
  go_wp2
  repeat (go_quiet (fail); try go_wp2)
  go_loopg [5] k (fun kq v5 w' => ∃ (x5_1 : Int), v5 = .int .i64 x5_1 ∧ Aside0 (spokeshaveref14_cmp.l0 kq l0 l1 x5_1 = some r) ∧ Aside0 (kq ≤ k) ∧ Drawn0 w w')
  case atStart => exact ⟨(0), (by first | rfl | (simp; done) | (simp [*]; done)), H', ⟨Nat.le_refl _⟩, by repeat (first | exact Drawn0.refl _ | apply Drawn0.step)⟩
  case round =>
    clear H'
    try clear c1
    try clear p2
    obtain ⟨x5_1, rfl, HA, HK1, ⟨m1, rfl⟩⟩ := hrel
    cases gk with
    | zero => exact absurd HA.out (by simp [spokeshaveref14_cmp.l0])
    | succ k1 =>
      have H := HA.out
      clear HA
      simp only [spokeshaveref14_cmp.l0] at H
      have HC3 := Aside0.mk H
      clear H
      go_upto_region 2 with (fail)
      repeat (go_quiet (fail); go_upto_region 2 with (fail))
      go_cut [15] (fun v15 wc => ∃ (kq : Nat) (x15_2 : Bool), v15 = .bool x15_2 ∧ Aside0 (spokeshaveref14_cmp.j1 kq l0 l1 x5_1 x15_2 = some r) ∧ Aside0 (kq ≤ k1) ∧ Drawn0 w wc)
      case first =>
        have H := HC3.out
        clear HC3
        by_cases c4 : x5_1 < (l0.length : Int)
        · rw [if_pos c4] at H
          have c4b0 : decide (x5_1 < (l0.length : Int)) = true := decide_eq_true c4
          clear c4
          (first | rw [c4b0] | (simp only [i64_w, i32_w]; rw [c4b0]) | skip)
          have H' := Aside0.mk H
          clear H
          go_wp2
          repeat (go_quiet (fail); try go_wp2)
          go_meet
          case rel => exact ⟨_, (decide (x5_1 < (l1.length : Int))), (by first | rfl | (simp; done) | (simp [*]; done)), H', ⟨by have := HK1.out; first | omega | exact Nat.le_refl _⟩, by repeat (first | exact Drawn0.refl _ | apply Drawn0.step)⟩
        · rw [if_neg c4] at H
          have c4b0 : decide (x5_1 < (l0.length : Int)) = false := decide_eq_false c4
          clear c4
          (first | rw [c4b0] | (simp only [i64_w, i32_w]; rw [c4b0]) | skip)
          have H' := Aside0.mk H
          clear H
          go_wp2
          repeat (go_quiet (fail); try go_wp2)
          go_meet
          case rel => exact ⟨_, (false), (by first | rfl | (simp; done) | (simp [*]; done)), H', ⟨by have := HK1.out; first | omega | exact Nat.le_refl _⟩, by repeat (first | exact Drawn0.refl _ | apply Drawn0.step)⟩
      case rest =>
        clear HC3
        try clear c1
        try clear p2
        try clear c4
        try clear c4b0
        try clear p2
        obtain ⟨kq, x15_2, rfl, HA, HJ2, ⟨mc2, rfl⟩⟩ := hcut
        cases kq with
        | zero => exact absurd HA.out (by simp [spokeshaveref14_cmp.j1])
        | succ kj2 =>
          have H := HA.out
          clear HA
          simp only [spokeshaveref14_cmp.j1] at H
          by_cases c5 : x15_2 = true
          · subst c5
            have H1 : (if 0 ≤ x5_1 then (if x5_1 < (l0.length : Int) then (if x5_1 < (l1.length : Int) then (if (rd l0 x5_1) = (rd l1 x5_1) then (spokeshaveref14_cmp.l0 kj2 l0 l1 (wrap64 (x5_1 + 1))) else (if (rd l0 x5_1) < (rd l1 x5_1) then (some (-1)) else (some 1))) else (none)) else (none)) else (none)) = some r := by rw [if_pos rfl] at H; exact H
            clear H
            have H := H1
            clear H1
            by_cases c6 : 0 ≤ x5_1
            · rw [if_pos c6] at H
              have c6b0 : decide (0 ≤ x5_1) = true := decide_eq_true c6
              clear c6
              by_cases c7 : x5_1 < (l0.length : Int)
              · rw [if_pos c7] at H
                have c7b0 : decide (x5_1 < (l0.length : Int)) = true := decide_eq_true c7
                clear c7
                by_cases c8 : x5_1 < (l1.length : Int)
                · rw [if_pos c8] at H
                  have c8b0 : decide (x5_1 < (l1.length : Int)) = true := decide_eq_true c8
                  clear c8
                  by_cases c9 : (rd l0 x5_1) = (rd l1 x5_1)
                  · rw [if_pos c9] at H
                    have c9b0 : ((rd l0 x5_1) == (rd l1 x5_1)) = true := beq_iff_eq.mpr c9
                    have c9b1 : ((rd l0 x5_1) != (rd l1 x5_1)) = false := bne_eq_false_iff_eq.mpr c9
                    clear c9
                    have H' := Aside0.mk H
                    clear H
                    have p101 : 0 ≤ (x5_1 : Int) := of_decide_eq_true (by first | (with_reducible assumption) | assumption)
                    have q101 : x5_1 < (l0.length : Int) := of_decide_eq_true (by first | (with_reducible assumption) | assumption)
                    obtain ⟨ad101, e101, hx101_0⟩ := Kd.at_int HR0.out x5_1 p101 q101
                    cases e101
                    replace p101 := eq_true p101
                    replace q101 := eq_true q101
                    have p102 : 0 ≤ (x5_1 : Int) := of_decide_eq_true (by first | (with_reducible assumption) | assumption)
                    have q102 : x5_1 < (l1.length : Int) := of_decide_eq_true (by first | (with_reducible assumption) | assumption)
                    obtain ⟨ad102, e102, hx102_0⟩ := Kd.at_int HR1.out x5_1 p102 q102
                    cases e102
                    replace p102 := eq_true p102
                    replace q102 := eq_true q102
                    go_wp2
                    repeat (go_quiet (fail); try go_wp2)
                    go_roundg kj2
                    case measure => have := HK1.out; have := HJ2.out; omega
                    case rel => exact ⟨(wrap64 (x5_1 + 1)), (by first | rfl | (simp; done) | (simp [*]; done)), H', ⟨by have := HK1.out; have := HJ2.out; omega⟩, by repeat (first | exact Drawn0.refl _ | apply Drawn0.step)⟩
                  · rw [if_neg c9] at H
                    have c9b0 : ((rd l0 x5_1) == (rd l1 x5_1)) = false := beq_eq_false_iff_ne.mpr c9
                    have c9b1 : ((rd l0 x5_1) != (rd l1 x5_1)) = true := bne_iff_ne.mpr c9
                    by_cases c10 : (rd l0 x5_1) < (rd l1 x5_1)
                    · rw [if_pos c10] at H
                      have c10b0 : decide ((rd l0 x5_1) < (rd l1 x5_1)) = true := decide_eq_true c10
                      clear c10
                      obtain rfl := Option.some.inj H
                      have p101 : 0 ≤ (x5_1 : Int) := of_decide_eq_true (by first | (with_reducible assumption) | assumption)
                      have q101 : x5_1 < (l0.length : Int) := of_decide_eq_true (by first | (with_reducible assumption) | assumption)
                      obtain ⟨ad101, e101, hx101_0⟩ := Kd.at_int HR0.out x5_1 p101 q101
                      cases e101
                      replace p101 := eq_true p101
                      replace q101 := eq_true q101
                      have p102 : 0 ≤ (x5_1 : Int) := of_decide_eq_true (by first | (with_reducible assumption) | assumption)
                      have q102 : x5_1 < (l1.length : Int) := of_decide_eq_true (by first | (with_reducible assumption) | assumption)
                      obtain ⟨ad102, e102, hx102_0⟩ := Kd.at_int HR1.out x5_1 p102 q102
                      cases e102
                      replace p102 := eq_true p102
                      replace q102 := eq_true q102
                      have p103 : 0 ≤ (x5_1 : Int) := of_decide_eq_true (by first | (with_reducible assumption) | assumption)
                      have q103 : x5_1 < (l0.length : Int) := of_decide_eq_true (by first | (with_reducible assumption) | assumption)
                      obtain ⟨ad103, e103, hx103_0⟩ := Kd.at_int HR0.out x5_1 p103 q103
                      obtain rfl : ad101 = ad103 := (by injection e103)
                      replace p103 := eq_true p103
                      replace q103 := eq_true q103
                      have p104 : 0 ≤ (x5_1 : Int) := of_decide_eq_true (by first | (with_reducible assumption) | assumption)
                      have q104 : x5_1 < (l1.length : Int) := of_decide_eq_true (by first | (with_reducible assumption) | assumption)
                      obtain ⟨ad104, e104, hx104_0⟩ := Kd.at_int HR1.out x5_1 p104 q104
                      obtain rfl : ad102 = ad104 := (by injection e104)
                      replace p104 := eq_true p104
                      replace q104 := eq_true q104
                      go_wp2
                      repeat (go_quiet (fail); try go_wp2)
                      go_ret
                      exact ⟨by first | rfl | (simp; done) | (simp [*]; done), by repeat (first | exact Drawn0.refl _ | apply Drawn0.step)⟩
                    · rw [if_neg c10] at H
                      have c10b0 : decide ((rd l0 x5_1) < (rd l1 x5_1)) = false := decide_eq_false c10
                      clear c10
                      obtain rfl := Option.some.inj H
                      have p101 : 0 ≤ (x5_1 : Int) := of_decide_eq_true (by first | (with_reducible assumption) | assumption)
                      have q101 : x5_1 < (l0.length : Int) := of_decide_eq_true (by first | (with_reducible assumption) | assumption)
                      obtain ⟨ad101, e101, hx101_0⟩ := Kd.at_int HR0.out x5_1 p101 q101
                      cases e101
                      replace p101 := eq_true p101
                      replace q101 := eq_true q101
                      have p102 : 0 ≤ (x5_1 : Int) := of_decide_eq_true (by first | (with_reducible assumption) | assumption)
                      have q102 : x5_1 < (l1.length : Int) := of_decide_eq_true (by first | (with_reducible assumption) | assumption)
                      obtain ⟨ad102, e102, hx102_0⟩ := Kd.at_int HR1.out x5_1 p102 q102
                      cases e102
                      replace p102 := eq_true p102
                      replace q102 := eq_true q102
                      have p103 : 0 ≤ (x5_1 : Int) := of_decide_eq_true (by first | (with_reducible assumption) | assumption)
                      have q103 : x5_1 < (l0.length : Int) := of_decide_eq_true (by first | (with_reducible assumption) | assumption)
                      obtain ⟨ad103, e103, hx103_0⟩ := Kd.at_int HR0.out x5_1 p103 q103
                      obtain rfl : ad101 = ad103 := (by injection e103)
                      replace p103 := eq_true p103
                      replace q103 := eq_true q103
                      have p104 : 0 ≤ (x5_1 : Int) := of_decide_eq_true (by first | (with_reducible assumption) | assumption)
                      have q104 : x5_1 < (l1.length : Int) := of_decide_eq_true (by first | (with_reducible assumption) | assumption)
                      obtain ⟨ad104, e104, hx104_0⟩ := Kd.at_int HR1.out x5_1 p104 q104
                      obtain rfl : ad102 = ad104 := (by injection e104)
                      replace p104 := eq_true p104
                      replace q104 := eq_true q104
                      go_wp2
                      repeat (go_quiet (fail); try go_wp2)
                      go_ret
                      exact ⟨by first | rfl | (simp; done) | (simp [*]; done), by repeat (first | exact Drawn0.refl _ | apply Drawn0.step)⟩
                · rw [if_neg c8] at H
                  exact absurd H (by simp)
              · rw [if_neg c7] at H
                exact absurd H (by simp)
            · rw [if_neg c6] at H
              exact absurd H (by simp)
          · replace c5 := Bool.eq_false_iff.mpr c5
            subst c5
            have H1 : (if (l0.length : Int) < (l1.length : Int) then (some (-1)) else (if (l0.length : Int) > (l1.length : Int) then (some 1) else (some 0))) = some r := by rw [if_neg (show ¬ (false = true) by decide)] at H; exact H
            clear H
            have H := H1
            clear H1
            by_cases c11 : (l0.length : Int) < (l1.length : Int)
            · rw [if_pos c11] at H
              have c11b0 : decide ((l0.length : Int) < (l1.length : Int)) = true := decide_eq_true c11
              have c11b1 : decide (l0.length < l1.length) = true := decide_eq_true (Int.ofNat_lt.mp c11)
              clear c11
              obtain rfl := Option.some.inj H
              go_wp2
              repeat (go_quiet (fail); try go_wp2)
              go_ret
              exact ⟨by first | rfl | (simp; done) | (simp [*]; done), by repeat (first | exact Drawn0.refl _ | apply Drawn0.step)⟩
            · rw [if_neg c11] at H
              have c11b0 : decide ((l0.length : Int) < (l1.length : Int)) = false := decide_eq_false c11
              have c11b1 : decide (l0.length < l1.length) = false := decide_eq_false (fun h => c11 (Int.ofNat_lt.mpr h))
              clear c11
              by_cases c12 : (l0.length : Int) > (l1.length : Int)
              · rw [if_pos c12] at H
                have c12b0 : decide ((l1.length : Int) < (l0.length : Int)) = true := decide_eq_true c12
                have c12b1 : decide (l1.length < l0.length) = true := decide_eq_true (Int.ofNat_lt.mp c12)
                clear c12
                obtain rfl := Option.some.inj H
                go_wp2
                repeat (go_quiet (fail); try go_wp2)
                go_ret
                exact ⟨by first | rfl | (simp; done) | (simp [*]; done), by repeat (first | exact Drawn0.refl _ | apply Drawn0.step)⟩
              · rw [if_neg c12] at H
                have c12b0 : decide ((l1.length : Int) < (l0.length : Int)) = false := decide_eq_false c12
                have c12b1 : decide (l1.length < l0.length) = false := decide_eq_false (fun h => c12 (Int.ofNat_lt.mpr h))
                clear c12
                obtain rfl := Option.some.inj H
                go_wp2
                repeat (go_quiet (fail); try go_wp2)
                go_ret
                exact ⟨by first | rfl | (simp; done) | (simp [*]; done), by repeat (first | exact Drawn0.refl _ | apply Drawn0.step)⟩

end Go.Proofs.YtealnhaffphamaaGreat.PCmp

namespace Go.Proofs.YtealnhaffphamaaGreat
open Go.RowKit Go.Shelf Go.Proofs.YtealnhaffphamaaGreatW.PrintWords

/-- A loop that begins at a position. -/
def rotA (l : List Int) (i : Nat) : List Int := l.drop i ++ l.take i
theorem rotA_len (l : List Int) (i : Nat) : (rotA l i).length = l.length := by simp [rotA]; omega
/-- Lists compared, number by number. -/
def cmpA : List Int → List Int → Int
  | [], [] => 0
  | [], _ :: _ => -1
  | _ :: _, [] => 1
  | a :: r, b :: s => if a = b then cmpA r s else if a < b then -1 else 1
theorem cmpA_eq {a b : List Int} : cmpA a b = 0 ↔ a = b := by
  induction a generalizing b with
  | nil => cases b <;> simp [cmpA]
  | cons x a ih =>
    cases b with
    | nil => simp [cmpA]
    | cons y b =>
      simp only [cmpA]
      split
      · rename_i e; rw [ih]; simp [e]
      · rename_i e
        split <;> simp [e]

/-! ### cmp -/
theorem rd_getD (x : List Int) (i : Nat) : rd x (i : Int) = x.getD i 0 := by simp [rd]

theorem wrap_small {i : Nat} (h : i ≤ 1000000000) : wrap64 ((i : Int) + 1) = ((i + 1 : Nat) : Int) := by
  unfold wrap64
  omega
theorem cmp_l0 : ∀ (n k i : Nat) (a b : List Int), a.length - i ≤ n → i ≤ a.length → i ≤ b.length → 2 * n + 2 ≤ k → a.length ≤ 1000000000 → PCmp.spokeshaveref14_cmp.l0 k a b i = some (cmpA (a.drop i) (b.drop i)) := by
  intro n
  induction n with
  | zero =>
    intro k i a b hn hi hib hk hl
    obtain ⟨k, rfl⟩ : ∃ m, k = m + 2 := ⟨k - 2, by omega⟩
    have e : i = a.length := by omega
    simp only [PCmp.spokeshaveref14_cmp.l0, PCmp.spokeshaveref14_cmp.j1]
    rw [if_neg (by omega), if_neg (by simp)]
    rw [List.drop_eq_nil_of_le (show a.length ≤ i by omega)]
    by_cases h : (a.length : Int) < b.length
    · rw [if_pos h]
      have : 0 < (b.drop i).length := by simp; omega
      cases hb : b.drop i with
      | nil => rw [hb] at this; simp at this
      | cons y ys => rfl
    · rw [if_neg h, if_neg (by omega)]
      rw [List.drop_eq_nil_of_le (show b.length ≤ i by omega)]; rfl
  | succ n ih =>
    intro k i a b hn hi hib hk hl
    obtain ⟨k, rfl⟩ : ∃ m, k = m + 2 := ⟨k - 2, by omega⟩
    simp only [PCmp.spokeshaveref14_cmp.l0, PCmp.spokeshaveref14_cmp.j1]
    by_cases h1 : i < a.length
    · rw [if_pos (by omega)]
      rw [List.drop_eq_getElem_cons h1]
      by_cases h2 : i < b.length
      · rw [if_pos (by simpa using h2), if_pos (by omega), if_pos (by omega), if_pos (by omega), rd_getD, rd_getD]
        rw [List.drop_eq_getElem_cons h2]
        simp only [cmpA]
        have e1 : a.getD i 0 = a[i] := by simp [List.getD_eq_getElem?_getD, h1]
        have e2 : b.getD i 0 = b[i] := by simp [List.getD_eq_getElem?_getD, h2]
        rw [e1, e2]
        by_cases h3 : a[i] = b[i]
        · rw [if_pos h3, if_pos h3]
          rw [wrap_small (show i ≤ 1000000000 by omega)]
          exact ih k (i + 1) a b (by omega) (by omega) (by omega) (by omega) hl
        · rw [if_neg h3, if_neg h3]
          by_cases h4 : a[i] < b[i]
          · rw [if_pos h4, if_pos h4]
          · rw [if_neg h4, if_neg h4]
      · rw [if_neg (by simpa using h2), if_neg (by omega), if_pos (by omega)]
        rw [List.drop_eq_nil_of_le (show b.length ≤ i by omega)]; rfl
    · rw [if_neg (by omega), if_neg (by simp)]
      rw [List.drop_eq_nil_of_le (show a.length ≤ i by omega)]
      by_cases h : (a.length : Int) < b.length
      · rw [if_pos h]
        have : 0 < (b.drop i).length := by simp; omega
        cases hb : b.drop i with
        | nil => rw [hb] at this; simp at this
        | cons y ys => rfl
      · rw [if_neg h, if_neg (by omega)]
        rw [List.drop_eq_nil_of_le (show b.length ≤ i by omega)]; rfl
theorem cmp_any (A1 A2 : Option Addr) (n1 c1 n2 c2 : Nat) (a b : List Int) (w : World) (hn1 : n1 = a.length) (hn2 : n2 = b.length) (h1 : RI w A1 a) (hc1 : n1 ≤ c1) (h2 : RI w A2 b) (hc2 : n2 ≤ c2) (hl : a.length ≤ 1000000000) :
    Calls Tryz.prog 83 #[.slice A1 n1 c1, .slice A2 n2 c2] w fun e w' => e = .returned (.int .i64 (cmpA a b)) ∧ Below w.heap.size w w' := by
  subst hn1 hn2
  have h := PCmp.spokeshaveref14_cmp.calls (2 * a.length + 2) A1 c1 a A2 c2 b (cmpA a b) w h1 hc1 h2 hc2 (cmp_l0 a.length _ 0 a b (by omega) (by omega) (by omega) (by omega) hl)
  exact h.mono (fun e w' h => ⟨h.1, h.2.below⟩)

/-! ### turned -/
theorem ints_ri {W : World} {base n : Nat} {v : Value} {xs : List Int} (hn : n = xs.length) (h : W.ownsRow base 3 1 v n (intsV xs)) : ∃ A c, v = .slice A n c ∧ n ≤ c ∧ RI W A xs := by
  obtain ⟨A, c, h1, h2, h3⟩ := ints_reads hn h
  subst hn
  exact ⟨A, c, h1, h2, h3⟩
set_option maxRecDepth 100000 in
set_option maxHeartbeats 1000000 in
theorem rturned_any (A : Option Addr) (n c i : Nat) (l : List Int) (w : World) (hn : n = l.length) (h : RI w A l) (hc : n ≤ c) (hi : i ≤ n) (hl : n ≤ 10000000) :
    Calls Tryz.prog 90 #[.slice A n c, .int .i64 i] w fun e w' => (∃ v, e = .returned v ∧ w'.ownsRow w.heap.size 3 1 v (rotA l i).length (intsV (rotA l i))) ∧ Below w.heap.size w w' := by
  subst hn
  have HR := Lib.hid h
  obtain ⟨iI, hiI, hiI0, hiI1, hiI2⟩ := info_parts infoI
  have hcf := cut_from (P := Tryz.prog) 43 3 .i64 Tryz.underlying43 hiI 1 hiI1 A l.length c (i : Int) (by omega) (by omega)
  have hct := cut_to (P := Tryz.prog) 43 3 .i64 Tryz.underlying43 hiI A l.length c (i : Int) (by omega) (by omega) hc
  rw [Int.toNat_natCast] at hcf hct
  obtain ⟨A', hA'⟩ : ∃ A', A' = (if c = i then A else A.map (·.add (i * 1))) := ⟨_, rfl⟩
  have hd : RI w A' (l.drop i) := by rw [hA']; exact Kd.C_drop h hi hc
  have ht : RI w A (l.take i) := Kd.C_take h hi
  rw [← hA'] at hcf
  have HD := Lib.hid hd
  have HT := Lib.hid ht
  clear hd ht h hA'
  go_enter Tryz.func90, Tryz.ntmps90
  go_upto_region 3 with (at_builtin; refine wpList_append_ints rfl _ _ rfl w.heap.size (.slice none 0 0) [] (l.drop i) A' (l.length - i) (c - i) (by simp) rfl rfl (World.ownsRow_nil _ _ _ _) HD.out (Nat.le_refl _) (by simp; omega) ?_; intro v1 w1 hown1 hg1 _)
  have hg1 : w.grownBy w1 none := hg1
  have HB1 : Hid (Below w.heap.size w w1) := (Below.refl _ w).grown hg1 (Nat.le_refl _) (fun k e => by cases e)
  have HOW1 := Lib.hid hown1
  clear hown1 hg1
  go_wp2_with (at_builtin; refine wpList_append_ints rfl _ _ rfl w.heap.size v1 ([] ++ l.drop i) (l.take i) A i c (by simp; omega) rfl rfl HOW1.out (RI.below HT.out HB1.out) HB1.out.size (by simp; omega) ?_; intro v2 w2 hown2 hg2 _)
  go_ret
  exact ⟨⟨v2, rfl, hown2⟩, HB1.out.grown hg2 HB1.out.size (fun k e => own_base HOW1.out k e)⟩

end Go.Proofs.YtealnhaffphamaaGreat

namespace Go.Proofs.YtealnhaffphamaaGreat
open Go.RowKit Go.Shelf Go.Proofs.YtealnhaffphamaaGreatW.PrintWords

def leastUp (l : List Int) : Nat → List Int
  | 0 => l
  | i + 1 => if cmpA (rotA l i) (leastUp l i) < 0 then rotA l i else leastUp l i
/-- The first of all ways to begin a loop. -/
def leastA (l : List Int) : List Int := leastUp l l.length
theorem rotA_zero (l : List Int) : rotA l 0 = l := by simp [rotA]
theorem leastUp_one (l : List Int) : leastUp l 1 = l := by
  show (if cmpA (rotA l 0) l < 0 then rotA l 0 else l) = l
  rw [rotA_zero]
  split <;> rfl
theorem leastUp_len (l : List Int) (i : Nat) : (leastUp l i).length = l.length := by
  induction i with
  | zero => rfl
  | succ i ih =>
    simp only [leastUp]
    split
    · exact rotA_len l i
    · exact ih
theorem leastA_len (l : List Int) : (leastA l).length = l.length := leastUp_len l _
theorem leastA_of {l : List Int} {i : Nat} (h1 : 1 ≤ i) (h2 : i ≤ max 1 l.length) (h3 : ¬ i < l.length) : leastUp l i = leastA l := by
  unfold leastA
  rcases Nat.lt_or_ge l.length 1 with h | h
  · have e : l.length = 0 := by omega
    have e1 : i = 1 := by omega
    rw [e, e1, leastUp_one]; rfl
  · have : i = l.length := by omega
    rw [this]

set_option maxRecDepth 100000 in
set_option maxHeartbeats 2000000 in
theorem least_any (A : Option Addr) (n c : Nat) (l : List Int) (w : World) (hn : n = l.length) (h : RI w A l) (hc : n ≤ c) (hl : n ≤ 10000000) :
    Calls Tryz.prog 84 #[.slice A n c] w fun e w' => (∃ A' c', e = .returned (.slice A' n c') ∧ n ≤ c' ∧ RI w' A' (leastA l)) ∧ Below w.heap.size w w' := by
  have HR := Lib.hid h
  have HN := Lib.hid hn
  have HL := Lib.hid hl
  have HC := Lib.hid hc
  clear h hn hc
  go_enter Tryz.func84, Tryz.ntmps84
  go_wp2
  have HB0 : Hid (Below w.heap.size w w) := Below.refl _ _
  go_loopw [3, 4] (fun s3 s4 wr => ∃ (i c' : Nat) (A' : Option Addr), 1 ≤ i ∧ i ≤ max 1 n ∧ s3 = .slice A' n c' ∧ s4 = .int .i64 i ∧ Hid (n ≤ c') ∧ Hid (RI wr A' (leastUp l i)) ∧ Hid (Below w.heap.size w wr)) (fun _ v _ => n - (intOf v).toNat)
  case atStart => exact ⟨1, c, A, by omega, by omega, rfl, rfl, HC.out, by show RI w A (leastUp l 1); rw [leastUp_one]; exact HR.out, HB0⟩
  case round =>
    clear HB0
    rename World => wr
    obtain ⟨i, c', A', hi1, hi2, rfl, rfl, HC', HM, HB⟩ := hrel
    by_cases hlt : i < n
    · have hlz : (i : Int) < (n : Int) := by omega
      have HT := Lib.hid (rturned_any A n c i l wr HN.out (RI.below HR.out HB.out) HC.out (by omega) (by omega))
      go_upto_region 6 with ((with_reducible refine (HT.out).mono ?_); rintro e w1 ⟨⟨v1, rfl, ho1⟩, hb1⟩; obtain ⟨A1, c1, rfl, hc1, hr1⟩ := ints_ri (n := (rotA l i).length) rfl ho1)
      have HB1 := Lib.hid (HB.out.trans (hb1.mono HB.out.size))
      have HM1 := Lib.hid (RI.below HM.out hb1)
      have HR1 := Lib.hid hr1
      have hrl : (rotA l i).length = n := by rw [rotA_len, ← HN.out]
      rw [hrl] at hc1 ⊢
      have HC1 := Lib.hid hc1
      clear hr1 hb1 ho1 HT HB HM hc1
      have HP := Lib.hid (cmp_any A1 A' n c1 n c' (rotA l i) (leastUp l i) w1 hrl.symm (by rw [leastUp_len, ← HN.out]) HR1.out HC1.out HM1.out HC'.out (by rw [hrl]; omega))
      by_cases hcmp : cmpA (rotA l i) (leastUp l i) < 0
      · have HU : Hid (leastUp l (i + 1) = rotA l i) := by show leastUp l (i + 1) = rotA l i; simp only [leastUp]; rw [if_pos hcmp]
        go_wp2_with ((with_reducible refine (HP.out).mono ?_); rintro e w2 ⟨rfl, hb2⟩)
        go_roundw
        case rel => exact ⟨i + 1, c1, A1, by omega, by omega, rfl, by go_num, HC1, by show RI w2 A1 (leastUp l (i + 1)); rw [HU.out]; exact RI.below HR1.out hb2, HB1.out.trans (hb2.mono HB1.out.size)⟩
        case measure => simp [intOf]; omega
      · have HU : Hid (leastUp l (i + 1) = leastUp l i) := by show leastUp l (i + 1) = leastUp l i; simp only [leastUp]; rw [if_neg hcmp]
        go_wp2_with ((with_reducible refine (HP.out).mono ?_); rintro e w2 ⟨rfl, hb2⟩)
        go_roundw
        case rel => exact ⟨i + 1, c', A', by omega, by omega, rfl, by go_num, HC', by show RI w2 A' (leastUp l (i + 1)); rw [HU.out]; exact RI.below HM1.out hb2, HB1.out.trans (hb2.mono HB1.out.size)⟩
        case measure => simp [intOf]; omega
    · have HE : Hid (leastUp l i = leastA l) := leastA_of hi1 (by rw [← HN.out]; exact hi2) (by rw [← HN.out]; exact hlt)
      go_wp2
      go_ret
      exact ⟨⟨A', c', rfl, HC'.out, by rw [← HE.out]; exact HM.out⟩, HB.out⟩

end Go.Proofs.YtealnhaffphamaaGreat
