/- Contracts of the functions that the statement reaches, and plain lemmas: part 21 of 29. -/
import Derived.Test.YtealnhaffphamaaGreatK15
import Derived.Test.YtealnhaffphamaaGreatProg
import Derived.Below
import Derived.Deep.Draws
import Derived.Deep.AppendLies
import Derived.Maps.AppendAt
import Derived.OwnWalk
import Derived.Laws.BytesArg
import Derived.Laws.MakeOwn
import Derived.Laws.OwnMore
import Derived.Deep.OwnRows
import Derived.Tactics
import Derived.Lib.ConvBytes
import Derived.Laws.Slices
import Derived.WalkKit
import Derived.KernelRfl
import Derived.RowKit3
import Derived.Deep.LoopGhost
import Derived.Deep.QuietTactic
import Derived.BigQuiet
import Derived.WideLaws
import Derived.Deep.DeepCutAuto
import Derived.Deep.CutBlock
import Derived.Deep.RegionHeld3
import Derived.Laws.Rows
import Derived.Lib.AppendStr
import Derived.ArgAppend
import Derived.Laws.IdiomCopy
import Derived.OrdersHeld
import Derived.Laws.BitsLemmas
import Derived.RowKit
import Derived.Test.YtealnhaffphamaaGreatK02
import Derived.Test.YtealnhaffphamaaGreatK03
import Derived.Test.YtealnhaffphamaaGreatK04
set_option linter.unusedVariables false
set_option linter.unusedSimpArgs false

namespace Go.Proofs.YtealnhaffphamaaGreat
open Go.RowKit Go.Shelf Go.Proofs.YtealnhaffphamaaGreatW.PrintWords

/-- A bool that says whether. -/
def OutB (p : Prop) (e : Ending) : Prop := ∃ b, e = .returned (.bool b) ∧ (b = true ↔ p)
theorem OutB.no {p : Prop} (h : ¬ p) : OutB p (.returned (.bool false)) := ⟨false, rfl, by simpa using h⟩
theorem OutB.yes {p : Prop} (h : p) : OutB p (.returned (.bool true)) := ⟨true, rfl, by simpa using h⟩
/-- The places ahead of one. -/
def preA (fs : Fs) (f l i : Nat) : List PV := upA fs f ++ faceA fs f l ++ rowA fs f l i
theorem preA_i (fs : Fs) (f l i : Nat) : preA fs f l (i + 1) = preA fs f l i ++ [pvA fs f l i] := by unfold preA; rw [rowA_succ]; simp [List.append_assoc]
theorem preA_l (fs : Fs) (f l : Nat) : preA fs f (l + 1) 0 = preA fs f l (lpA fs f l).length := by unfold preA; rw [faceA_succ]; simp [List.append_assoc, rowA]
theorem preA_f (fs : Fs) (f : Nat) : preA fs (f + 1) 0 0 = preA fs f (fcA fs f).length 0 := by unfold preA; rw [upA_succ]; simp [rowA, faceA]
theorem preA_end (fs : Fs) : preA fs fs.length 0 0 = plsA fs := by unfold preA plsA; simp [rowA, faceA]
theorem preA_prefix (fs : Fs) {f l i : Nat} (hf : f < fs.length) (hl : l < (fcA fs f).length) (hi : i ≤ (lpA fs f l).length) : preA fs f l i <+: plsA fs := at_prefix fs hf hl hi
/-- The numbers of a model are within the limits, and each node, face and loop is there. -/
def SizR (N : Int) (fs : Fs) : Prop := 1 ≤ N ∧ N ≤ 200 ∧ fs.length ≤ 400 ∧ nlA fs fs.length ≤ 400 ∧ (plsA fs).length ≤ 2000 ∧ (∀ f, f < fs.length → 0 < (fcA fs f).length ∧ ∀ l, l < (fcA fs f).length → 0 < (lpA fs f l).length) ∧ (∀ x ∈ plsA fs, 0 ≤ x.v ∧ x.v < N) ∧ ∀ v : Nat, (v : Int) < N → (plsA fs).any (fun x => x.v == (v : Int)) = true
theorem nlA_mono {fs : Fs} {k n : Nat} (h : k ≤ n) : nlA fs k ≤ nlA fs n := by
  induction n with
  | zero => obtain rfl : k = 0 := by omega
            exact Nat.le_refl _
  | succ n ih =>
    by_cases e : k = n + 1
    · rw [e]; exact Nat.le_refl _
    · have := ih (by omega); simp only [nlA]; omega
/-- What sizes knows at a place. -/
structure SQ (N : Int) (fs : Fs) (f l i lo tp : Nat) : Prop where
  lo : lo = nlA fs f + l
  tp : tp = (preA fs f l i).length
  ne : ∀ g, g < f → 0 < (fcA fs g).length ∧ ∀ k, k < (fcA fs g).length → 0 < (lpA fs g k).length
  nl : ∀ k, k < l → 0 < (lpA fs f k).length
  val : ∀ x ∈ preA fs f l i, 0 ≤ x.v ∧ x.v < N
def metV (pre : List PV) (g : Nat) : Bool := pre.any fun x => x.v == (g : Int)
theorem metV_snoc (pre : List PV) {x : PV} {v : Nat} (h : x.v = v) : metV (pre ++ [x]) = mark (metV pre) v := by
  funext g
  unfold metV mark
  rw [List.any_append]
  simp only [List.any_cons, List.any_nil, Bool.or_false, h]
  by_cases e : g = v
  · subst e; simp
  · rw [if_neg e]
    have : ((v : Int) == (g : Int)) = false := by simp; omega
    rw [this, Bool.or_false]

set_option maxRecDepth 100000 in
set_option maxHeartbeats 4000000 in
theorem sizes_any (N : Int) (A : Option Addr) (c : Nat) (fs : Fs) (w : World) (hF : RF w A fs) (hSm : Sm fs) :
    Calls Tryz.prog 55 #[.agg #[.int .i64 N, .slice A fs.length c]] w fun e w' => OutB (SizR N fs) e ∧ Below w.heap.size w w' := by
  obtain ⟨W1, hW1⟩ : ∃ W1, W1 = w.alloc (.cells #[.int .i64 N, .slice A fs.length c] 28) := ⟨_, rfl⟩
  have HOB : Hid (Obs [.cells #[.int .i64 N, .slice A fs.length c] 28] w W1) := by rw [hW1]; exact Obs.one w _
  have HM : Hid (W1.heap.size = w.heap.size + 1) := by show _ = _; rw [hW1]; simp
  have HF := Lib.hid hF
  have HS := Lib.hid hSm
  have hN := hSm.1
  clear hF hSm
  go_enter Tryz.func55, Tryz.ntmps55
  go_upto_region 1 with fail
  rw [← hW1]
  clear hW1
  have m00 : W1.cell? ⟨w.heap.size, 0, none⟩ = some (.int .i64 N) := HOB.out.cell 0 0 rfl rfl
  have m01 : W1.cell? ⟨w.heap.size, 1, none⟩ = some (.slice A fs.length c) := HOB.out.cell 0 1 rfl rfl
  by_cases z1 : N < 1
  · have HNB : Hid (¬ SizR N fs) := fun h => by have := h.1; omega
    go_wp2
    go_ret
    exact ⟨OutB.no HNB.out, HOB.out.below⟩
  by_cases z2 : 200 < N
  · have HNB : Hid (¬ SizR N fs) := fun h => by have := h.2.1; omega
    go_wp2
    go_ret
    exact ⟨OutB.no HNB.out, HOB.out.below⟩
  by_cases z3 : (400 : Int) < (fs.length : Int)
  · have HNB : Hid (¬ SizR N fs) := fun h => by have := h.2.2.1; omega
    go_wp2
    go_ret
    exact ⟨OutB.no HNB.out, HOB.out.below⟩
  obtain ⟨n, rfl⟩ := Int.eq_ofNat_of_zero_le (show 0 ≤ N by omega)
  obtain ⟨M, hM⟩ : ∃ M, W1.heap.size = M := ⟨_, rfl⟩
  have HWM : Hid (w.heap.size + 1 = M) := by rw [← hM]; exact HM.out.symm
  clear HM
  obtain ⟨iB, hiB, hiB0, hiB1, hiB2⟩ := info_parts infoB
  go_upto_region 4 with fail
  go_cut [5] from 8 (fun s5 W3 => s5 = .slice (some ⟨M, 0, none⟩) n n ∧ Hid (Obs [.cells #[.int .i64 n, .slice A fs.length c] 28] w W3) ∧ Hid (Blk W3 M (.cells (mb n fun _ => false) 4)))
  case first =>
    go_wp2_with (at_make; refine wpList_make_full _ rfl _ _ 99 rfl M 4 iB (.bool false) 1 Tryz.underlying99 hiB hiB0 hiB1 .i64 .i64 _ _ n rfl rfl rfl rfl (by rw [hiB2]; omega) (by simp only [maxLen]; omega) (Nat.le_of_eq hM.symm) ?_; intro w3 hown3 hg3)
    rw [hM] at hown3
    go_meet
    case rel => exact ⟨rfl, HOB.out.grown hg3, made_met hown3⟩
  case rest =>
  obtain ⟨rfl, HOB3, HB3⟩ := hcut
  rename World => W3
  clear HOB m00 m01 hM hiB hiB0 hiB1 hiB2
  go_upto_region 5 with fail
  go_wp2
  go_loopw [2, 3, 4, 6] (fun _ s3 s4 s6 wr => Hid (∃ f lo tp : Nat, f ≤ fs.length ∧ lo ≤ 400 ∧ tp ≤ 2000 ∧ s3 = .int .i64 lo ∧ s4 = .int .i64 tp ∧ s6 = .int .i64 f ∧ Hid (SQ n fs f 0 0 lo tp) ∧ Hid (Obs [.cells #[.int .i64 n, .slice A fs.length c] 28] w wr) ∧ Hid (Blk wr M (.cells (mb n (metV (preA fs f 0 0))) 4)))) (fun _ _ _ v _ => fs.length - (intOf v).toNat)
  case atStart => exact ⟨0, 0, 0, by omega, by omega, by omega, rfl, rfl, rfl, ⟨rfl, rfl, fun g h => by omega, fun g h => by omega, fun x hx => by simp [preA, upA, faceA, rowA] at hx⟩, HOB3, HB3⟩
  case round =>
    clear HOB3 HB3
    rename World => wr
    obtain ⟨f, lo, tp, hf, hlo, htp, rfl, rfl, rfl, HQ, HOB, HMB⟩ := hrel.out
    have m00 : wr.cell? ⟨w.heap.size, 0, none⟩ = some (.int .i64 n) := HOB.out.cell 0 0 rfl rfl
    have m01 : wr.cell? ⟨w.heap.size, 1, none⟩ = some (.slice A fs.length c) := HOB.out.cell 0 1 rfl rfl
    by_cases hlt : f < fs.length
    · have hlz : (f : Int) < (fs.length : Int) := by omega
      have hrr := (HF.out.below HOB.out.below).at hlt
      obtain ⟨ad0, A0, c0, rfl, hc, hl0, hr0⟩ := hrr
      have hn0 := hr0.len
      by_cases h0 : (fcA fs f).length = 0
      · have h0z : ((fcA fs f).length : Int) = 0 := by omega
        have HNB : Hid (¬ SizR n fs) := fun h => by have := (h.2.2.2.2.2.1 f hlt).1; omega
        clear hr0
        go_wp2
        go_ret
        exact ⟨OutB.no HNB.out, HOB.out.below⟩
      have h0z : ¬ ((fcA fs f).length : Int) = 0 := by omega
      have HR0 := Lib.hid hr0
      clear hr0
      go_wp2
      go_loopw [2, 3, 4, 7] (fun _ s3 s4 s7 wr => Hid (∃ l lo tp : Nat, l ≤ (fcA fs f).length ∧ lo ≤ 400 ∧ tp ≤ 2000 ∧ s3 = .int .i64 lo ∧ s4 = .int .i64 tp ∧ s7 = .int .i64 l ∧ Hid (SQ n fs f l 0 lo tp) ∧ Hid (Obs [.cells #[.int .i64 n, .slice (some ad0) fs.length c] 28] w wr) ∧ Hid (Blk wr M (.cells (mb n (metV (preA fs f l 0))) 4)))) (fun _ _ _ v _ => (fcA fs f).length - (intOf v).toNat)
      case atStart => exact ⟨0, lo, tp, by omega, by omega, by omega, rfl, rfl, rfl, HQ, HOB, HMB⟩
      case round =>
        clear HOB HMB hc m00 m01 HR0 HQ
        rename World => wr
        obtain ⟨l, lo, tp, hl, hlo, htp, rfl, rfl, rfl, HQ, HOB, HMB⟩ := hrel.out
        have m00 : wr.cell? ⟨w.heap.size, 0, none⟩ = some (.int .i64 n) := HOB.out.cell 0 0 rfl rfl
        have m01 : wr.cell? ⟨w.heap.size, 1, none⟩ = some (.slice (some ad0) fs.length c) := HOB.out.cell 0 1 rfl rfl
        obtain ⟨ad', A0, c0, he, hc, hl0, hr0⟩ := (HF.out.below HOB.out.below).at hlt
        cases he
        have HR0 := Lib.hid hr0
        clear hr0
        by_cases hlt2 : l < (fcA fs f).length
        · have hlz2 : (l : Int) < ((fcA fs f).length : Int) := by omega
          obtain ⟨ad1, A1, c1, rfl, hc1, hl1, hr1⟩ := HR0.out.atP hlt2
          have hn1 := hr1.len
          by_cases h1 : (lpA fs f l).length = 0
          · have h1z : ((lpA fs f l).length : Int) = 0 := by omega
            have HNB : Hid (¬ SizR n fs) := fun h => by have := (h.2.2.2.2.2.1 f hlt).2 l hlt2; omega
            clear hr1
            go_wp2
            go_ret
            exact ⟨OutB.no HNB.out, HOB.out.below⟩
          have h1z : ¬ ((lpA fs f l).length : Int) = 0 := by omega
          have HR1 := Lib.hid hr1
          clear hr1
          have HQ0 : Hid (SQ n fs f l 0 lo tp ∧ 0 < (lpA fs f l).length) := ⟨HQ.out, by omega⟩
          have hlo1 : lo + 1 ≤ 401 := by omega
          obtain ⟨lo1, hl1e⟩ : ∃ q, q = lo + 1 := ⟨_, rfl⟩
          have hw1 : IntKind.i64.wrap ((lo : Int) + 1) = (lo1 : Int) := by rw [IntKind.wrap_i64]; omega
          have HL1 := Lib.hid hl1e
          clear hl1e
          go_wp2
          go_loopw [2, 4, 8] (fun _ s4 s8 wr => Hid (∃ i tp : Nat, i ≤ (lpA fs f l).length ∧ tp ≤ 2000 ∧ s4 = .int .i64 tp ∧ s8 = .int .i64 i ∧ Hid ((0 < i → lo1 ≤ 400) ∧ tp = (preA fs f l i).length ∧ ∀ x ∈ preA fs f l i, 0 ≤ x.v ∧ x.v < n) ∧ Hid (Obs [.cells #[.int .i64 n, .slice (some ad0) fs.length c] 28] w wr) ∧ Hid (Blk wr M (.cells (mb n (metV (preA fs f l i))) 4)))) (fun _ _ v _ => (lpA fs f l).length - (intOf v).toNat)
          case atStart => exact ⟨0, tp, by omega, by omega, rfl, rfl, ⟨fun h => by omega, HQ.out.tp, HQ.out.val⟩, HOB, HMB⟩
          case round =>
            clear HOB HMB hc m00 m01 HR0 hc1 HR1 htp
            rename World => wr
            obtain ⟨i, tp, hi, htp, rfl, rfl, HI, HOB, HMB⟩ := hrel.out
            have m00 : wr.cell? ⟨w.heap.size, 0, none⟩ = some (.int .i64 n) := HOB.out.cell 0 0 rfl rfl
            have m01 : wr.cell? ⟨w.heap.size, 1, none⟩ = some (.slice (some ad0) fs.length c) := HOB.out.cell 0 1 rfl rfl
            obtain ⟨ad', A0', c0', he, hc, hl0', hr0⟩ := (HF.out.below HOB.out.below).at hlt
            cases he
            obtain ⟨ad1', A1', c1', rfl, hc1, hl1', hr1⟩ := hr0.atP hlt2
            have hn2 := hr0.len
            clear hr0
            by_cases hlt3 : i < (lpA fs f l).length
            · have hlz3 : (i : Int) < ((lpA fs f l).length : Int) := by omega
              obtain ⟨ad2, rfl, hc2⟩ := hr1.at hlt3
              clear hr1
              obtain ⟨v, hv⟩ : ∃ v, v = (lpA fs f l).getD i 0 := ⟨_, rfl⟩
              rw [← hv] at hc2
              have HPV : Hid ((pvA fs f l i).v = v) := by show _ = _; rw [hv]; rfl
              have HMEM : Hid (pvA fs f l i ∈ plsA fs) := mem_pls.2 ⟨f, l, i, hlt, hlt2, hlt3, rfl⟩
              have HPRE : Hid (preA fs f l (i + 1) <+: plsA fs) := preA_prefix fs hlt hlt2 hlt3
              clear hv
              by_cases y1 : v < 0
              · have HNB : Hid (¬ SizR n fs) := fun h => by have := h.2.2.2.2.2.2.1 _ HMEM.out; rw [HPV.out] at this; omega
                go_wp2
                go_ret
                exact ⟨OutB.no HNB.out, HOB.out.below⟩
              by_cases y2 : v ≥ (n : Int)
              · have HNB : Hid (¬ SizR n fs) := fun h => by have := h.2.2.2.2.2.2.1 _ HMEM.out; rw [HPV.out] at this; omega
                go_wp2
                go_ret
                exact ⟨OutB.no HNB.out, HOB.out.below⟩
              by_cases y3 : (400 : Int) < (lo1 : Int)
              · have HNB : Hid (¬ SizR n fs) := fun h => by
                  have h4 := h.2.2.2.1
                  have h5 := nlA_mono (fs := fs) (show f + 1 ≤ fs.length by omega)
                  have h6 := HQ0.out.1.lo
                  have h7 := HL1.out
                  simp only [nlA] at h5
                  omega
                go_wp2
                go_ret
                exact ⟨OutB.no HNB.out, HOB.out.below⟩
              by_cases y4 : (2000 : Int) < ((tp + 1 : Nat) : Int)
              · have HNB : Hid (¬ SizR n fs) := fun h => by
                  have h4 := h.2.2.2.2.1
                  have h5 := HPRE.out.length_le
                  have h6 := HI.out.2.1
                  rw [preA_i, List.length_append, List.length_singleton] at h5
                  omega
                obtain ⟨t1, ht1⟩ : ∃ q, q = tp + 1 := ⟨_, rfl⟩
                have hw2 : IntKind.i64.wrap ((tp : Int) + 1) = (t1 : Int) := by rw [IntKind.wrap_i64]; omega
                rw [← ht1] at y4
                have HT1 := Lib.hid ht1
                clear ht1
                go_wp2
                go_ret
                exact ⟨OutB.no HNB.out, HOB.out.below⟩
              obtain ⟨vn, rfl⟩ := Int.eq_ofNat_of_zero_le (show 0 ≤ v by omega)
              obtain ⟨t1, ht1⟩ : ∃ q, q = tp + 1 := ⟨_, rfl⟩
              have hw2 : IntKind.i64.wrap ((tp : Int) + 1) = (t1 : Int) := by rw [IntKind.wrap_i64]; omega
              rw [← ht1] at y4
              have HT1 := Lib.hid ht1
              clear ht1
              have n0 := (blk_cells HMB.out).1 vn _ (mb_get _ (show vn < n by omega))
              have n1 := (blk_cells HMB.out).2 vn
              have hvz : (vn : Int) < (n : Int) := by omega
              go_wp2
              go_roundw
              case rel =>
                refine ⟨i + 1, t1, by omega, by omega, rfl, by go_num, ⟨fun _ => by omega, by rw [preA_i, List.length_append, List.length_singleton]; have := HI.out.2.1; have := HT1.out; omega, fun x hx => ?_⟩, ?_, ?_⟩
                · rw [preA_i] at hx
                  rcases List.mem_append.1 hx with hx | hx
                  · exact HI.out.2.2 x hx
                  · rw [List.mem_singleton.1 hx, HPV.out]; omega
                · exact HOB.out.kept (grown_set _ _ _ _) (fun k e => by cases e; have := HWM.out; simp; omega)
                · have h9 := blk_set (o := vn) (x := .bool true) HMB.out
                  rw [mb_mark, ← metV_snoc _ HPV.out, ← preA_i] at h9
                  exact h9
              case measure => simp [intOf]; omega
            · obtain rfl : i = (lpA fs f l).length := by omega
              clear hr1
              go_wp2
              go_roundw
              case rel =>
                refine ⟨l + 1, lo1, tp, by omega, HI.out.1 (by have := HQ0.out.2; omega), by omega, rfl, rfl, by go_num, ⟨by have := HQ0.out.1.lo; have := HL1.out; omega, by rw [preA_l]; exact HI.out.2.1, HQ0.out.1.ne, fun k hk => ?_, by rw [preA_l]; exact HI.out.2.2⟩, HOB, by rw [preA_l]; exact HMB⟩
                by_cases e : k = l
                · rw [e]; exact HQ0.out.2
                · exact HQ0.out.1.nl k (by omega)
              case measure => simp [intOf]; omega
        · obtain rfl : l = (fcA fs f).length := by omega
          go_wp2
          go_roundw
          case rel =>
            refine ⟨f + 1, lo, tp, by omega, by omega, by omega, rfl, rfl, by go_num, ⟨?_, ?_, fun g hg => ?_, fun k hk => by omega, ?_⟩, HOB, by rw [preA_f]; exact HMB⟩
            · have := HQ.out.lo; simp only [nlA]; omega
            · rw [preA_f]; exact HQ.out.tp
            · by_cases e : g = f
              · rw [e]; exact ⟨by omega, HQ.out.nl⟩
              · exact HQ.out.ne g (by omega)
            · rw [preA_f]; exact HQ.out.val
          case measure => simp [intOf]; omega
    · obtain rfl : f = fs.length := by omega
      have HSZ : Hid (∀ v : Nat, metV (plsA fs) v = metV (preA fs fs.length 0 0) v) := fun v => by rw [preA_end]
      go_wp2
      go_loopw [10] (fun s10 wr => Hid (∃ v : Nat, v ≤ n ∧ s10 = .int .i64 v ∧ Hid (∀ u, u < v → metV (plsA fs) u = true) ∧ Hid (Obs [.cells #[.int .i64 n, .slice A fs.length c] 28] w wr) ∧ Hid (Blk wr M (.cells (mb n (metV (preA fs fs.length 0 0))) 4)))) (fun v _ => n - (intOf v).toNat)
      case atStart => exact ⟨0, by omega, rfl, fun u h => by omega, HOB, HMB⟩
      case round =>
        clear HOB HMB m00 m01
        rename World => wr
        obtain ⟨v, hv, rfl, HU, HOB, HMB⟩ := hrel.out
        have m00 : wr.cell? ⟨w.heap.size, 0, none⟩ = some (.int .i64 n) := HOB.out.cell 0 0 rfl rfl
        by_cases hlt : v < n
        · have hvz : (v : Int) < (n : Int) := by omega
          have n0 := (blk_cells HMB.out).1 v _ (mb_get _ hlt)
          cases hm : metV (preA fs fs.length 0 0) v with
          | true =>
            rw [hm] at n0
            go_wp2
            go_roundw
            case rel =>
              refine ⟨v + 1, by omega, by go_num, fun u hu => ?_, HOB, HMB⟩
              by_cases e : u = v
              · rw [e, HSZ.out]; exact hm
              · exact HU.out u (by omega)
            case measure => simp [intOf]; omega
          | false =>
            rw [hm] at n0
            have HNB : Hid (¬ SizR n fs) := fun h => by
              have h4 := h.2.2.2.2.2.2.2 v (by omega)
              have h5 := (HSZ.out v).trans hm
              unfold metV at h5
              rw [h4] at h5; cases h5
            go_wp2
            go_ret
            exact ⟨OutB.no HNB.out, HOB.out.below⟩
        · obtain rfl : v = n := by omega
          have HYB : Hid (SizR v fs) := by
            have hq := HQ.out
            have e1 := hq.lo
            have e2 := hq.tp
            rw [preA_end] at e2
            refine ⟨by omega, by omega, by omega, by omega, by omega, hq.ne, ?_, fun u hu => HU.out u (by omega)⟩
            have := hq.val
            rw [preA_end] at this
            exact this
          go_wp2
          go_ret
          exact ⟨OutB.yes HYB.out, HOB.out.below⟩

end Go.Proofs.YtealnhaffphamaaGreat

-- PRINTED BY print.sh 35421559b90ae4d0a3588c463048766b98c2df88dd9212a6774a882060cdf62d: not written by this session
namespace Go.Proofs.YtealnhaffphamaaGreat.PEf
open Go.RowKit Go.Proofs.YtealnhaffphamaaGreatW.PrintWords Go.Proofs.YtealnhaffphamaaGreatW.PrintLast Go.Proofs.YtealnhaffphamaaGreatW.PrintMore
attribute [local go_sem] max2_int min2_int max_two min_two max_three min_three max_four min_four   -- for this text's walks alone
set_option linter.unusedVariables false
set_option linter.unusedSimpArgs false



def errW : Option Int → Value
  | none => .nilIface
  | some c => .iface 0 (.int .i64 c)
theorem errW_none : errW none = .nilIface := rfl
theorem errW_some (c : Int) : errW (some c) = .iface 0 (.int .i64 c) := rfl

theorem info103 : (Tryz.prog.info? 103).map (fun i => (i.zero, i.size, i.bytes)) = some (some (.agg #[(.int .i64 0), (.int .i64 0), (.int .i64 0), (.int .i64 0), (.int .i64 0)]), 5, 40) := by kernel_rfl
-- the values' own types
def rd_L1 (xs : List (List Int)) (i : Int) : (List Int) := xs.getD i.toNat ([] : List Int)
theorem at_L1 {w : World} {A : Option Addr} {n : Nat} {xs : List (List Int)} (h : Kd.C (Kd.slice 3 (Kd.int .i64)) w A n xs) (i : Int) (h0 : 0 ≤ i) (h1 : i < n) : ∃ ad A0 c0, A = some ad ∧ w.cell? (ad.add i.toNat) = some (.slice A0 (rd_L1 xs i).length c0) ∧ (rd_L1 xs i).length ≤ c0 ∧ (Kd.int .i64).C w A0 (rd_L1 xs i).length (rd_L1 xs i) := by
  obtain ⟨ad, c, e, _, hK, hc0⟩ := Kd.C_get h ([] : List Int) i h0 h1
  have hc : ∀ j u, c[j]? = some u → w.cell? (ad.add (i.toNat * 1 + j)) = some u := hc0
  obtain ⟨A0, c0, rfl, l0, g0⟩ := hK
  exact ⟨ad, A0, c0, e, by have hq := hc 0 _ rfl; rwa [Nat.mul_one, Nat.add_zero] at hq, l0, g0⟩

def rd_L2 (xs : List (List (List Int))) (i : Int) : (List (List Int)) := xs.getD i.toNat ([] : List (List Int))
theorem at_L2 {w : World} {A : Option Addr} {n : Nat} {xs : List (List (List Int))} (h : Kd.C (Kd.slice 43 (Kd.slice 3 (Kd.int .i64))) w A n xs) (i : Int) (h0 : 0 ≤ i) (h1 : i < n) : ∃ ad A0 c0, A = some ad ∧ w.cell? (ad.add i.toNat) = some (.slice A0 (rd_L2 xs i).length c0) ∧ (rd_L2 xs i).length ≤ c0 ∧ (Kd.slice 3 (Kd.int .i64)).C w A0 (rd_L2 xs i).length (rd_L2 xs i) := by
  obtain ⟨ad, c, e, _, hK, hc0⟩ := Kd.C_get h ([] : List (List Int)) i h0 h1
  have hc : ∀ j u, c[j]? = some u → w.cell? (ad.add (i.toNat * 1 + j)) = some u := hc0
  obtain ⟨A0, c0, rfl, l0, g0⟩ := hK
  exact ⟨ad, A0, c0, e, by have hq := hc 0 _ rfl; rwa [Nat.mul_one, Nat.add_zero] at hq, l0, g0⟩

/-! #### struct type 24 -/
structure S24 where
  f0 : Int
  f1 : Int
  f2 : Int
def z24 : S24 := ⟨(0 : Int), (0 : Int), (0 : Int)⟩
def k24 : Kd S24 := Kd.iso (Kd.pair (Kd.int .i64) (Kd.pair (Kd.int .i64) (Kd.int .i64))) (fun x : S24 => (x.f0, x.f1, x.f2))
theorem k24_open {w : World} {x : S24} {cs : List Value} (h : k24.K w x cs) : cs = [.int .i64 x.f0, .int .i64 x.f1, .int .i64 x.f2] := by
  obtain ⟨_, _, rfl, rfl, ⟨_, _, rfl, rfl, rfl⟩⟩ := h
  exact rfl
theorem k24_mkM (w : World) (base : Nat) (ok : Nat → Prop) (x : S24)  : k24.M w base ok x [.int .i64 x.f0, .int .i64 x.f1, .int .i64 x.f2] := ⟨[.int .i64 x.f0], [.int .i64 x.f1, .int .i64 x.f2], rfl, rfl, ⟨[.int .i64 x.f1], [.int .i64 x.f2], rfl, rfl, rfl⟩⟩
def rd_T24 (xs : List S24) (i : Int) : S24 := xs.getD i.toNat z24

/-! #### struct type 103 -/
structure S103 where
  f0 : Int
  f1 : Int
  f2 : S24
def z103 : S103 := ⟨(0 : Int), (0 : Int), z24⟩
def k103 : Kd S103 := Kd.iso (Kd.pair (Kd.int .i64) (Kd.pair (Kd.int .i64) k24)) (fun x : S103 => (x.f0, x.f1, x.f2))
theorem k103_open {w : World} {x : S103} {cs : List Value} (h : k103.K w x cs) : cs = [.int .i64 x.f0, .int .i64 x.f1, .int .i64 x.f2.f0, .int .i64 x.f2.f1, .int .i64 x.f2.f2] := by
  obtain ⟨_, _, rfl, rfl, ⟨_, _, rfl, rfl, s2⟩⟩ := h
  obtain rfl := k24_open s2
  exact rfl
theorem k103_mkM (w : World) (base : Nat) (ok : Nat → Prop) (x : S103)  : k103.M w base ok x [.int .i64 x.f0, .int .i64 x.f1, .int .i64 x.f2.f0, .int .i64 x.f2.f1, .int .i64 x.f2.f2] := ⟨[.int .i64 x.f0], [.int .i64 x.f1, .int .i64 x.f2.f0, .int .i64 x.f2.f1, .int .i64 x.f2.f2], rfl, rfl, ⟨[.int .i64 x.f1], [.int .i64 x.f2.f0, .int .i64 x.f2.f1, .int .i64 x.f2.f2], rfl, rfl, (k24_mkM w base ok x.f2 )⟩⟩
def rd_T103 (xs : List S103) (i : Int) : S103 := xs.getD i.toNat z103
theorem at_T103 {w : World} {A : Option Addr} {n : Nat} {xs : List S103} (h : Kd.C k103 w A n xs) (i : Int) (h0 : 0 ≤ i) (h1 : i < n) : ∃ ad , A = some ad ∧ w.cell? (ad.add (i.toNat * 5)) = some (.int .i64 (rd_T103 xs i).f0) ∧ w.cell? ⟨(ad.add (i.toNat * 5)).block, (ad.add (i.toNat * 5)).off + 1, none⟩ = some (.int .i64 (rd_T103 xs i).f1) ∧ w.cell? ⟨(ad.add (i.toNat * 5)).block, (ad.add (i.toNat * 5)).off + 2, none⟩ = some (.int .i64 (rd_T103 xs i).f2.f0) ∧ w.cell? ⟨(ad.add (i.toNat * 5)).block, (ad.add (i.toNat * 5)).off + 3, none⟩ = some (.int .i64 (rd_T103 xs i).f2.f1) ∧ w.cell? ⟨(ad.add (i.toNat * 5)).block, (ad.add (i.toNat * 5)).off + 4, none⟩ = some (.int .i64 (rd_T103 xs i).f2.f2) := by
  obtain ⟨ad, c, e, _, hK, hc0⟩ := Kd.C_get h z103 i h0 h1
  have hc : ∀ j u, c[j]? = some u → w.cell? (ad.add (i.toNat * 5 + j)) = some u := hc0
  obtain rfl := k103_open hK
  exact ⟨ad, e, hc 0 _ rfl, by rw [← add_field _ _ 1 (by omega)]; exact hc 1 _ rfl, by rw [← add_field _ _ 2 (by omega)]; exact hc 2 _ rfl, by rw [← add_field _ _ 3 (by omega)]; exact hc 3 _ rfl, by rw [← add_field _ _ 4 (by omega)]; exact hc 4 _ rfl⟩

end Go.Proofs.YtealnhaffphamaaGreat.PEf
