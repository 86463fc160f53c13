/- Contracts of the functions that the statement reaches, and plain lemmas: part 27 of 29. -/
import Derived.Test.YtealnhaffphamaaGreatK20
import Derived.Test.YtealnhaffphamaaGreatK26
import Derived.Test.YtealnhaffphamaaGreatProg
import Derived.Below
import Derived.Deep.Draws
import Derived.Deep.AppendLies
import Derived.Maps.AppendAt
import Derived.OwnWalk
import Derived.Laws.BytesArg
import Derived.Laws.MakeOwn
import Derived.Laws.OwnMore
import Derived.Deep.OwnRows
import Derived.Tactics
import Derived.Lib.ConvBytes
import Derived.Laws.Slices
import Derived.WalkKit
import Derived.KernelRfl
import Derived.RowKit3
import Derived.Deep.LoopGhost
import Derived.Deep.QuietTactic
import Derived.BigQuiet
import Derived.WideLaws
import Derived.Deep.DeepCutAuto
import Derived.Deep.CutBlock
import Derived.Deep.RegionHeld3
import Derived.Laws.Rows
import Derived.Lib.AppendStr
import Derived.ArgAppend
import Derived.Laws.IdiomCopy
import Derived.OrdersHeld
import Derived.Laws.BitsLemmas
import Derived.RowKit
import Derived.Test.YtealnhaffphamaaGreatK02
import Derived.Test.YtealnhaffphamaaGreatK03
import Derived.Test.YtealnhaffphamaaGreatK04
set_option linter.unusedVariables false
set_option linter.unusedSimpArgs false

namespace Go.Proofs.YtealnhaffphamaaGreat
open Go.RowKit Go.Proofs.YtealnhaffphamaaGreatW.PrintWords

def al (n : Nat) : Fs := (List.range n).map fun (v : Nat) => [[(v : Int)]]
theorem al_len (n : Nat) : (al n).length = n := by simp [al]

end Go.Proofs.YtealnhaffphamaaGreat

-- PRINTED BY print.sh 35421559b90ae4d0a3588c463048766b98c2df88dd9212a6774a882060cdf62d: not written by this session
namespace Go.Proofs.YtealnhaffphamaaGreat.PSmw
open Go.RowKit Go.Proofs.YtealnhaffphamaaGreatW.PrintWords Go.Proofs.YtealnhaffphamaaGreatW.PrintLast Go.Proofs.YtealnhaffphamaaGreatW.PrintMore
attribute [local go_sem] max2_int min2_int max_two min_two max_three min_three max_four min_four   -- for this text's walks alone
set_option linter.unusedVariables false
set_option linter.unusedSimpArgs false



def errW : Option Int → Value
  | none => .nilIface
  | some c => .iface 0 (.int .i64 c)
theorem errW_none : errW none = .nilIface := rfl
theorem errW_some (c : Int) : errW (some c) = .iface 0 (.int .i64 c) := rfl

-- the values' own types
def rd_L1 (xs : List (List Int)) (i : Int) : (List Int) := xs.getD i.toNat ([] : List Int)
theorem at_L1 {w : World} {A : Option Addr} {n : Nat} {xs : List (List Int)} (h : Kd.C (Kd.slice 3 (Kd.int .i64)) w A n xs) (i : Int) (h0 : 0 ≤ i) (h1 : i < n) : ∃ ad A0 c0, A = some ad ∧ w.cell? (ad.add i.toNat) = some (.slice A0 (rd_L1 xs i).length c0) ∧ (rd_L1 xs i).length ≤ c0 ∧ (Kd.int .i64).C w A0 (rd_L1 xs i).length (rd_L1 xs i) := by
  obtain ⟨ad, c, e, _, hK, hc0⟩ := Kd.C_get h ([] : List Int) i h0 h1
  have hc : ∀ j u, c[j]? = some u → w.cell? (ad.add (i.toNat * 1 + j)) = some u := hc0
  obtain ⟨A0, c0, rfl, l0, g0⟩ := hK
  exact ⟨ad, A0, c0, e, by have hq := hc 0 _ rfl; rwa [Nat.mul_one, Nat.add_zero] at hq, l0, g0⟩

def rd_L2 (xs : List (List (List Int))) (i : Int) : (List (List Int)) := xs.getD i.toNat ([] : List (List Int))
theorem at_L2 {w : World} {A : Option Addr} {n : Nat} {xs : List (List (List Int))} (h : Kd.C (Kd.slice 43 (Kd.slice 3 (Kd.int .i64))) w A n xs) (i : Int) (h0 : 0 ≤ i) (h1 : i < n) : ∃ ad A0 c0, A = some ad ∧ w.cell? (ad.add i.toNat) = some (.slice A0 (rd_L2 xs i).length c0) ∧ (rd_L2 xs i).length ≤ c0 ∧ (Kd.slice 3 (Kd.int .i64)).C w A0 (rd_L2 xs i).length (rd_L2 xs i) := by
  obtain ⟨ad, c, e, _, hK, hc0⟩ := Kd.C_get h ([] : List (List Int)) i h0 h1
  have hc : ∀ j u, c[j]? = some u → w.cell? (ad.add (i.toNat * 1 + j)) = some u := hc0
  obtain ⟨A0, c0, rfl, l0, g0⟩ := hK
  exact ⟨ad, A0, c0, e, by have hq := hc 0 _ rfl; rwa [Nat.mul_one, Nat.add_zero] at hq, l0, g0⟩

end Go.Proofs.YtealnhaffphamaaGreat.PSmw

-- PRINTED BY print.sh 35421559b90ae4d0a3588c463048766b98c2df88dd9212a6774a882060cdf62d: not written by this session
namespace Go.Proofs.YtealnhaffphamaaGreat.PSmw
open Go.RowKit Go.Proofs.YtealnhaffphamaaGreatW.PrintWords Go.Proofs.YtealnhaffphamaaGreatW.PrintLast Go.Proofs.YtealnhaffphamaaGreatW.PrintMore
attribute [local go_sem] max2_int min2_int max_two min_two max_three min_three max_four min_four   -- for this text's walks alone
set_option linter.unusedVariables false
set_option linter.unusedSimpArgs false

/-! ### spokeshavelaw14_around: function 13 -/
def spokeshavelaw14_around.f (a0 : Int) (a1 : Int) : Option (Int) := if (IntKind.u64.wrap (mx a1 1)) = 0 then (none) else (some (wrap64 (Int.tmod (IntKind.u64.wrap (a0)) (IntKind.u64.wrap (mx a1 1)))))
set_option maxHeartbeats 8000000 in
set_option maxRecDepth 100000 in
theorem spokeshavelaw14_around.calls (a0 : Int) (a1 : Int) (r : Int) (w : World) (h : spokeshavelaw14_around.f a0 a1 = some r) :
    Calls Tryz.prog 13 #[.int .i64 a0, .int .i64 a1] w fun e w' => e = .returned (.int .i64 r) ∧ Below w.heap.size w w' := by
  have HB := Aside0.mk (Below.refl w.heap.size w)
  have H : (if (IntKind.u64.wrap (mx a1 1)) = 0 then (none) else (some (wrap64 (Int.tmod (IntKind.u64.wrap (a0)) (IntKind.u64.wrap (mx a1 1)))))) = some r := h
  clear h
  obtain ⟨ji3, hji3⟩ : ∃ j_ : Int, (mx a1 1) = j_ := ⟨_, rfl⟩
  replace H : (if (IntKind.u64.wrap (ji3)) = 0 then (none) else (some (wrap64 (Int.tmod (IntKind.u64.wrap (a0)) (IntKind.u64.wrap (ji3)))))) = some r := by first | (rw [hji3] at H; exact H) | (simp only [hji3] at H ⊢; exact H)
  (try (have hji3l : 1 ≤ ji3 := by (rw [← hji3]; unfold mx; (repeat' split) <;> omega)))
  (try (have hji3m : 0 ≤ ji3 := by omega))
  have hji3_ : (if a1 < 1 then 1 else a1) = ji3 := hji3
  by_cases c4 : (IntKind.u64.wrap (ji3)) = 0
  · rw [if_pos c4] at H
    exact absurd H (by simp)
  · rw [if_neg c4] at H
    have c4b0 : ((IntKind.u64.wrap (ji3)) == 0) = false := beq_eq_false_iff_ne.mpr c4
    have c4b1 : ((IntKind.u64.wrap (ji3)) != 0) = true := bne_iff_ne.mpr c4
    obtain rfl := Option.some.inj H
    go_enter Tryz.func13, Tryz.ntmps13
    go_wp2
    go_ret
    exact ⟨by first | rfl | (simp [errW_none, errW_some] <;> rfl) | (simp only [← hji3]; first | rfl | (simp [errW_none, errW_some] <;> rfl)) | (simp [*, errW_none, errW_some] <;> rfl), by repeat (first | (with_reducible first | exact HB.out | apply below_alloc | apply pw_below_drewN | apply below_drew1) | exact HB.out)⟩

/-! ### spokeshavelaw14_somewhere: function 7 -/
def spokeshavelaw14_somewhere.f (a0_0 : Int) (l0_1 : List (List (List Int))) (a1 : Int) (a2 : Int) (a3 : Int) : Option (Int × Int × Int) := (spokeshavelaw14_around.f a1 (l0_1.length : Int)).bind fun t103 => (if 0 ≤ t103 then (if t103 < (l0_1.length : Int) then ((spokeshavelaw14_around.f a2 ((rd_L2 l0_1 t103).length : Int)).bind fun t105 => (if 0 ≤ t105 then (if t105 < ((rd_L2 l0_1 t103).length : Int) then ((spokeshavelaw14_around.f a3 ((rd_L1 (rd_L2 l0_1 t103) t105).length : Int)).bind fun t108 => (some (t103, t105, t108))) else (none)) else (none))) else (none)) else (none))
set_option maxHeartbeats 8000000 in
set_option maxRecDepth 100000 in
theorem spokeshavelaw14_somewhere.calls (a0_0 : Int) (A0_1 : Option Addr) (c0_1 : Nat) (l0_1 : List (List (List Int))) (a1 : Int) (a2 : Int) (a3 : Int) (r1 : Int) (r2 : Int) (r3 : Int) (w : World) (hr0_1 : Kd.C (Kd.slice 43 (Kd.slice 3 (Kd.int .i64))) w A0_1 l0_1.length l0_1) (hc0_1 : l0_1.length ≤ c0_1) (h : spokeshavelaw14_somewhere.f a0_0 l0_1 a1 a2 a3 = some (r1, r2, r3)) :
    Calls Tryz.prog 7 #[.agg #[.int .i64 a0_0, .slice A0_1 l0_1.length c0_1], .int .i64 a1, .int .i64 a2, .int .i64 a3] w fun e w' => e = .returned (.agg #[.int .i64 r1, .int .i64 r2, .int .i64 r3]) ∧ Below w.heap.size w w' := by
  have hu28 := Tryz.underlying28
  have hu24 := Tryz.underlying24
  have HR0_1 := Aside0.mk hr0_1
  have HC0_1 := Aside0.mk hc0_1
  clear hr0_1 hc0_1
  have HB := Aside0.mk (Below.refl w.heap.size w)
  have H : ((spokeshavelaw14_around.f a1 (l0_1.length : Int)).bind fun t103 => (if 0 ≤ t103 then (if t103 < (l0_1.length : Int) then ((spokeshavelaw14_around.f a2 ((rd_L2 l0_1 t103).length : Int)).bind fun t105 => (if 0 ≤ t105 then (if t105 < ((rd_L2 l0_1 t103).length : Int) then ((spokeshavelaw14_around.f a3 ((rd_L1 (rd_L2 l0_1 t103) t105).length : Int)).bind fun t108 => (some (t103, t105, t108))) else (none)) else (none))) else (none)) else (none))) = some (r1, r2, r3) := h
  clear h
  replace H := Option.bind_eq_some_iff.mp H
  obtain ⟨t103, A50, H⟩ := H
  replace H : (if 0 ≤ t103 then (if t103 < (l0_1.length : Int) then ((spokeshavelaw14_around.f a2 ((rd_L2 l0_1 t103).length : Int)).bind fun t105 => (if 0 ≤ t105 then (if t105 < ((rd_L2 l0_1 t103).length : Int) then ((spokeshavelaw14_around.f a3 ((rd_L1 (rd_L2 l0_1 t103) t105).length : Int)).bind fun t108 => (some (t103, t105, t108))) else (none)) else (none))) else (none)) else (none)) = some (r1, r2, r3) := H
  have A5 := Aside0.mk A50
  clear A50
  by_cases c6 : 0 ≤ t103
  · rw [if_pos c6] at H
    have c6b0 : decide (0 ≤ t103) = true := decide_eq_true c6
    clear c6
    by_cases c7 : t103 < (l0_1.length : Int)
    · rw [if_pos c7] at H
      have c7b0 : decide (t103 < (l0_1.length : Int)) = true := decide_eq_true c7
      clear c7
      replace H := Option.bind_eq_some_iff.mp H
      obtain ⟨t105, A80, H⟩ := H
      replace H : (if 0 ≤ t105 then (if t105 < ((rd_L2 l0_1 t103).length : Int) then ((spokeshavelaw14_around.f a3 ((rd_L1 (rd_L2 l0_1 t103) t105).length : Int)).bind fun t108 => (some (t103, t105, t108))) else (none)) else (none)) = some (r1, r2, r3) := H
      have A8 := Aside0.mk A80
      clear A80
      by_cases c9 : 0 ≤ t105
      · rw [if_pos c9] at H
        have c9b0 : decide (0 ≤ t105) = true := decide_eq_true c9
        clear c9
        by_cases c10 : t105 < ((rd_L2 l0_1 t103).length : Int)
        · rw [if_pos c10] at H
          have c10b0 : decide (t105 < ((rd_L2 l0_1 t103).length : Int)) = true := decide_eq_true c10
          clear c10
          replace H := Option.bind_eq_some_iff.mp H
          obtain ⟨t108, A110, H⟩ := H
          replace H : (some (t103, t105, t108)) = some (r1, r2, r3) := H
          have A11 := Aside0.mk A110
          clear A110
          simp only [Option.some.injEq, Prod.mk.injEq] at H
          obtain ⟨rfl, rfl, rfl⟩ := H
          go_enter Tryz.func7, Tryz.ntmps7
          go_wp2_with (first | ((with_reducible refine gate_dst (N := 4) rfl ?_); refine box_event ?hg (N := 4) ?hd (cs := #[.int .i64 a0_0, .slice A0_1 l0_1.length c0_1]) (t := 28) ?hr ?_; (case hd => rfl); (case hg => rfl); (case hr => first | (go_simp; done) | (go_simp; rfl)); intro gb101 hg w12 hbox hb; have n0_ := Aside0.mk (below_step (by repeat (first | (with_reducible first | exact HB.out | apply below_alloc | apply pw_below_drewN | apply below_drew1) | exact HB.out)) hb); have n1_ := Aside0.mk (hbox); have n2_ := Aside0.mk ((by rw [hg]; exact (below_size (by repeat (first | (with_reducible first | exact HB.out | apply below_alloc | apply pw_below_drewN | apply below_drew1) | exact HB.out))) : w.heap.size ≤ gb101)); have n3_ := Aside0.mk ((by rw [hg]; exact (below_size (by repeat (first | (with_reducible first | exact HB.out | apply below_alloc | apply pw_below_drewN | apply below_drew1) | exact HB.out))) : w.heap.size ≤ gb101)); clear HB; have HB := n0_; have BK101 := n1_; have GW101 := n2_; have GE101 := n3_; clear n0_ n1_ n2_ n3_; clear hb hbox hg) | ((with_reducible refine gate_dst (N := 8) rfl ?_); refine box_event ?hg (N := 8) ?hd (cs := #[.int .i64 0, .int .i64 0, .int .i64 0]) (t := 24) ?hr ?_; (case hd => rfl); (case hg => rfl); (case hr => first | (go_simp; done) | (go_simp; rfl)); intro gb102 hg w13 hbox hb; have n0_ := Aside0.mk (blk_below (g := gb101) (o := .cells #[.int .i64 a0_0, .slice A0_1 l0_1.length c0_1] 28 (0, 0)) (by (with_reducible repeat (first | refine blk_drewN ?_ _ | refine blk_drew ?_ | refine blk_alloc ?_ _)); exact BK101.out) hb); have n1_ := Aside0.mk (below_step (by repeat (first | (with_reducible first | exact HB.out | apply below_alloc | apply pw_below_drewN | apply below_drew1 | refine below_set ?_ GE101.out) | exact HB.out)) hb); have n2_ := Aside0.mk (hbox); have n3_ := Aside0.mk ((by rw [hg]; exact (below_size (by repeat (first | (with_reducible first | exact HB.out | apply below_alloc | apply pw_below_drewN | apply below_drew1 | refine below_set ?_ GE101.out) | exact HB.out))) : w.heap.size ≤ gb102)); have n4_ := Aside0.mk ((by rw [hg]; exact (below_size (by repeat (first | (with_reducible first | exact HB.out | apply below_alloc | apply pw_below_drewN | apply below_drew1 | refine below_set ?_ GE101.out) | exact HB.out))) : w.heap.size ≤ gb102)); have n5_ := Aside0.mk ((by rw [hg]; exact Nat.ne_of_lt (blk_lt (g := gb101) (o := .cells #[.int .i64 a0_0, .slice A0_1 l0_1.length c0_1] 28 (0, 0)) (by (with_reducible repeat (first | refine blk_drewN ?_ _ | refine blk_drew ?_ | refine blk_alloc ?_ _)); exact BK101.out)) : gb101 ≠ gb102)); have n6_ := Aside0.mk ((by rw [hg]; exact Nat.ne_of_gt (blk_lt (g := gb101) (o := .cells #[.int .i64 a0_0, .slice A0_1 l0_1.length c0_1] 28 (0, 0)) (by (with_reducible repeat (first | refine blk_drewN ?_ _ | refine blk_drew ?_ | refine blk_alloc ?_ _)); exact BK101.out)) : gb102 ≠ gb101)); clear BK101; clear HB; have BK101 := n0_; have HB := n1_; have BK102 := n2_; have GW102 := n3_; have GE102 := n4_; have NB101_102 := n5_; have NB102_101 := n6_; clear n0_ n1_ n2_ n3_ n4_ n5_ n6_; clear hb hbox hg; have hnb14 := NB101_102.out; have hnc14 := NB102_101.out; have hcz15_0 : w13.cell? ⟨gb101, 0, none⟩ = some (.int .i64 a0_0) := (blk_cell BK101.out 0).trans rfl; have hcz15_1 : w13.cell? ⟨gb101, 1, none⟩ = some (.slice A0_1 l0_1.length c0_1) := (blk_cell BK101.out 1).trans rfl; have hfz15_0 := blk_frozen BK101.out 0; have hfz15_1 := blk_frozen BK101.out 1) | ((with_reducible refine gate_callee (f := 13) rfl ?_); refine goesL_ (some 15) rfl rfl Tryz.func13 (by kernel_rfl) rfl #[.int .i64 a1, .int .i64 (l0_1.length : Int)] rfl (by (try simp only [List.map_toArray, List.map_cons, List.map_nil]); first | done | rfl | (simp only [List.length_drop, List.length_take]; rfl)) ?_; (with_reducible refine (spokeshavelaw14_around.calls a1 (l0_1.length : Int) t103 _ A5.out).mono ?_); rintro e w16 ⟨rfl, hb⟩; refine ⟨_, rfl, ?_⟩; have n0_ := Aside0.mk (blk_below (g := gb101) (o := .cells #[.int .i64 a0_0, .slice A0_1 l0_1.length c0_1] 28 (0, 0)) (by (with_reducible repeat (first | refine blk_drewN ?_ _ | refine blk_drew ?_ | refine blk_alloc ?_ _)); exact BK101.out) hb); have n1_ := Aside0.mk (blk_below (g := gb102) (o := .cells #[.int .i64 0, .int .i64 0, .int .i64 0] 24 (0, 0)) (by (with_reducible repeat (first | refine blk_drewN ?_ _ | refine blk_drew ?_ | refine blk_alloc ?_ _)); exact BK102.out) hb); have n2_ := Aside0.mk (below_step (by repeat (first | (with_reducible first | exact HB.out | apply below_alloc | apply pw_below_drewN | apply below_drew1 | refine below_set ?_ GE101.out | refine below_set ?_ GE102.out) | exact HB.out)) hb); clear BK101; clear BK102; clear HB; have BK101 := n0_; have BK102 := n1_; have HB := n2_; clear n0_ n1_ n2_; (try clear hb); (try clear hb2); (try clear hk); (try clear hi); have hcz17_0 : w16.cell? ⟨gb101, 0, none⟩ = some (.int .i64 a0_0) := (blk_cell BK101.out 0).trans rfl; have hcz17_1 : w16.cell? ⟨gb101, 1, none⟩ = some (.slice A0_1 l0_1.length c0_1) := (blk_cell BK101.out 1).trans rfl; have hfz17_0 := blk_frozen BK101.out 0; have hfz17_1 := blk_frozen BK101.out 1; have p104 : 0 ≤ (t103 : Int) := of_decide_eq_true (by first | (with_reducible assumption) | assumption); have q104 : t103 < (l0_1.length : Int) := of_decide_eq_true (by first | (with_reducible assumption) | assumption); obtain ⟨ad104, A104_0, c104_0, e104, hx104_0, hl104_0, hi104_0⟩ := at_L2 HR0_1.out t103 p104 q104; cases e104; replace hx104_0 := (HB.out.cell (World.block_lt_of_cell? w _ hx104_0)).trans hx104_0; have HR104_0 := Aside0.mk hi104_0; have HC104_0 := Aside0.mk hl104_0; clear hi104_0 hl104_0; replace p104 := eq_true p104; replace q104 := eq_true q104) | ((with_reducible refine gate_callee (f := 13) rfl ?_); refine goesL_ (some 23) rfl rfl Tryz.func13 (by kernel_rfl) rfl #[.int .i64 a2, .int .i64 ((rd_L2 l0_1 t103).length : Int)] rfl (by (try simp only [List.map_toArray, List.map_cons, List.map_nil]); first | done | rfl | (simp only [List.length_drop, List.length_take]; rfl)) ?_; (with_reducible refine (spokeshavelaw14_around.calls a2 ((rd_L2 l0_1 t103).length : Int) t105 _ A8.out).mono ?_); rintro e w18 ⟨rfl, hb⟩; refine ⟨_, rfl, ?_⟩; have n0_ := Aside0.mk (blk_below (g := gb101) (o := .cells #[.int .i64 a0_0, .slice (some ad104) l0_1.length c0_1] 28 (0, 0)) (by (with_reducible repeat (first | refine blk_drewN ?_ _ | refine blk_drew ?_ | refine blk_alloc ?_ _)); exact BK101.out) hb); have n1_ := Aside0.mk (blk_below (g := gb102) (o := .cells #[.int .i64 0, .int .i64 0, .int .i64 0] 24 (0, 0)) (by (with_reducible repeat (first | refine blk_drewN ?_ _ | refine blk_drew ?_ | refine blk_alloc ?_ _)); exact BK102.out) hb); have n2_ := Aside0.mk (below_step (by repeat (first | (with_reducible first | exact HB.out | apply below_alloc | apply pw_below_drewN | apply below_drew1 | refine below_set ?_ GE101.out | refine below_set ?_ GE102.out) | exact HB.out)) hb); clear BK101; clear BK102; clear HB; have BK101 := n0_; have BK102 := n1_; have HB := n2_; clear n0_ n1_ n2_; (try clear hb); (try clear hb2); (try clear hk); (try clear hi); have hcz19_0 : w18.cell? ⟨gb101, 0, none⟩ = some (.int .i64 a0_0) := (blk_cell BK101.out 0).trans rfl; have hcz19_1 : w18.cell? ⟨gb101, 1, none⟩ = some (.slice (some ad104) l0_1.length c0_1) := (blk_cell BK101.out 1).trans rfl; have hfz19_0 := blk_frozen BK101.out 0; have hfz19_1 := blk_frozen BK101.out 1; have p106 : 0 ≤ (t103 : Int) := of_decide_eq_true (by first | (with_reducible assumption) | assumption); have q106 : t103 < (l0_1.length : Int) := of_decide_eq_true (by first | (with_reducible assumption) | assumption); obtain ⟨ad106, A106_0, c106_0, e106, hx106_0, hl106_0, hi106_0⟩ := at_L2 HR0_1.out t103 p106 q106; obtain rfl : ad104 = ad106 := (by injection e106); replace hx106_0 := (HB.out.cell (World.block_lt_of_cell? w _ hx106_0)).trans hx106_0; have HR106_0 := Aside0.mk hi106_0; have HC106_0 := Aside0.mk hl106_0; clear hi106_0 hl106_0; replace p106 := eq_true p106; replace q106 := eq_true q106; have p107 : 0 ≤ (t105 : Int) := of_decide_eq_true (by first | (with_reducible assumption) | assumption); have q107 : t105 < ((rd_L2 l0_1 t103).length : Int) := of_decide_eq_true (by first | (with_reducible assumption) | assumption); obtain ⟨ad107, A107_0, c107_0, e107, hx107_0, hl107_0, hi107_0⟩ := at_L1 HR106_0.out t105 p107 q107; cases e107; replace hx107_0 := (HB.out.cell (World.block_lt_of_cell? w _ hx107_0)).trans hx107_0; have HR107_0 := Aside0.mk hi107_0; have HC107_0 := Aside0.mk hl107_0; clear hi107_0 hl107_0; replace p107 := eq_true p107; replace q107 := eq_true q107) | ((with_reducible refine gate_callee (f := 13) rfl ?_); refine goesL_ (some 36) rfl rfl Tryz.func13 (by kernel_rfl) rfl #[.int .i64 a3, .int .i64 ((rd_L1 (rd_L2 l0_1 t103) t105).length : Int)] rfl (by (try simp only [List.map_toArray, List.map_cons, List.map_nil]); first | done | rfl | (simp only [List.length_drop, List.length_take]; rfl)) ?_; (with_reducible refine (spokeshavelaw14_around.calls a3 ((rd_L1 (rd_L2 l0_1 t103) t105).length : Int) t108 _ A11.out).mono ?_); rintro e w20 ⟨rfl, hb⟩; refine ⟨_, rfl, ?_⟩; have n0_ := Aside0.mk (blk_below (g := gb101) (o := .cells #[.int .i64 a0_0, .slice (some ad104) l0_1.length c0_1] 28 (0, 0)) (by (with_reducible repeat (first | refine blk_drewN ?_ _ | refine blk_drew ?_ | refine blk_alloc ?_ _)); exact BK101.out) hb); have n1_ := Aside0.mk (blk_below (g := gb102) (o := .cells #[.int .i64 0, .int .i64 0, .int .i64 0] 24 (0, 0)) (by (with_reducible repeat (first | refine blk_drewN ?_ _ | refine blk_drew ?_ | refine blk_alloc ?_ _)); exact BK102.out) hb); have n2_ := Aside0.mk (below_step (by repeat (first | (with_reducible first | exact HB.out | apply below_alloc | apply pw_below_drewN | apply below_drew1 | refine below_set ?_ GE101.out | refine below_set ?_ GE102.out) | exact HB.out)) hb); clear BK101; clear BK102; clear HB; have BK101 := n0_; have BK102 := n1_; have HB := n2_; clear n0_ n1_ n2_; (try clear hb); (try clear hb2); (try clear hk); (try clear hi); have hcz21_0 : w20.cell? ⟨gb102, 0, none⟩ = some (.int .i64 0) := (blk_cell BK102.out 0).trans rfl; have hcz21_1 : w20.cell? ⟨gb102, 1, none⟩ = some (.int .i64 0) := (blk_cell BK102.out 1).trans rfl; have hcz21_2 : w20.cell? ⟨gb102, 2, none⟩ = some (.int .i64 0) := (blk_cell BK102.out 2).trans rfl; have hfz21_0 := blk_frozen BK102.out 0; have hfz21_1 := blk_frozen BK102.out 1; have hfz21_2 := blk_frozen BK102.out 2))
          refine bodyPost_ret (results_cell_row rfl _ _ gb102 24 #[.int .i64 t103, .int .i64 t105, .int .i64 t108] (0, 0) _ rfl (by (with_reducible repeat (first | refine blk_drewN ?_ _ | refine blk_drew ?_ | refine blk_alloc ?_ _)); refine blk_put (cs := #[.int .i64 t103, .int .i64 t105, .int .i64 0]) ?_ 2 _ rfl; (with_reducible repeat (first | refine blk_drewN ?_ _ | refine blk_drew ?_ | refine blk_alloc ?_ _)); refine blk_put (cs := #[.int .i64 t103, .int .i64 0, .int .i64 0]) ?_ 1 _ rfl; (with_reducible repeat (first | refine blk_drewN ?_ _ | refine blk_drew ?_ | refine blk_alloc ?_ _)); refine blk_put (cs := #[.int .i64 0, .int .i64 0, .int .i64 0]) ?_ 0 _ rfl; (with_reducible repeat (first | refine blk_drewN ?_ _ | refine blk_drew ?_ | refine blk_alloc ?_ _)); exact BK102.out) Tryz.underlying24 rfl (by kernel_rfl)) rfl ?_
          exact ⟨by first | rfl | (simp [errW_none, errW_some] <;> rfl) | (simp [*, errW_none, errW_some] <;> rfl), by repeat (first | (with_reducible first | exact HB.out | apply below_alloc | apply pw_below_drewN | apply below_drew1 | refine below_set ?_ GE101.out | refine below_set ?_ GE102.out) | exact HB.out)⟩
        · rw [if_neg c10] at H
          exact absurd H (by simp)
      · rw [if_neg c9] at H
        exact absurd H (by simp)
    · rw [if_neg c7] at H
      exact absurd H (by simp)
  · rw [if_neg c6] at H
    exact absurd H (by simp)

end Go.Proofs.YtealnhaffphamaaGreat.PSmw

namespace Go.Proofs.YtealnhaffphamaaGreat
open Go.RowKit Go.Proofs.YtealnhaffphamaaGreatW.PrintWords

/-- A number that goes round. -/
def arA (a : Int) (n : Nat) : Nat := ((a % 18446744073709551616) % (n : Int)).toNat

end Go.Proofs.YtealnhaffphamaaGreat

namespace Go.Proofs.YtealnhaffphamaaGreat
open Go.RowKit Go.Shelf Go.Proofs.YtealnhaffphamaaGreatW.PrintWords


theorem own_take {W : World} {base : Nat} {e : TypeId} {A : Option Addr} {n c m : Nat} {xs : List Value} (h : W.ownsRow base e 1 (.slice A n c) n xs) (hm : m ≤ n) : W.ownsRow base e 1 (.slice A m c) m (xs.take m) := by
  have hl : xs.length = n := by simpa using h.1
  refine ⟨by simp; omega, ?_⟩
  rcases h.2 with ⟨q, q2⟩ | ⟨g, cap, cur, he, hbg, hg, hnc, hcm, hcs, htake⟩
  · cases q
    obtain rfl : m = 0 := by omega
    exact .inl ⟨rfl, rfl⟩
  · cases he
    refine .inr ⟨g, c, cur, rfl, hbg, hg, by omega, hcm, hcs, ?_⟩
    rw [show m * 1 = min m (n * 1) by omega, ← List.take_take, htake]
theorem MW.take {W : World} {base : Nat} {A : Option Addr} {n c m : Nat} {fs gs : Fs} {vf : Nat → Value} {vl : Nat → Nat → Value} (h : MW base (.slice A n c) fs n vf vl W) (hm : m ≤ n) (hn : n = fs.length) (hg : gs = fs.take m) : MW base (.slice A m c) gs m vf vl W := by
  subst hg
  have e : ∀ f, f < m → fcA (fs.take m) f = fcA fs f := fun f hf => by simp [fcA, List.getD_eq_getElem?_getD, List.getElem?_take, hf]
  refine ⟨?_, fun f hf => by rw [e f hf]; exact h.face f (by omega), fun f hf f' hf' hne => h.dis f (by omega) f' (by omega) hne⟩
  have h2 := own_take h.own hm
  rwa [← List.map_take, List.take_range, show min m n = m by omega] at h2
theorem MW.not_blk {W : World} {base : Nat} {v : Value} {fs : Fs} {k : Nat} {vf : Nat → Value} {vl : Nat → Nat → Value} {O : Nat} {cs : Array Value} {t : TypeId} (h : MW base v fs k vf vl W) (hO : Blk W O (.cells cs t)) (h1 : t ≠ 3) (h2 : t ≠ 43) (h3 : t ≠ 42) : ¬ MB v fs k vf vl O := by
  rintro (q | ⟨f, hf, q | ⟨l, hl, q⟩⟩)
  · exact own_ne_blk2 h.own hO h3 q
  · exact own_ne_blk2 (h.face f hf).own hO h2 q
  · exact own_ne_blk2 ((h.face f hf).ownL l hl) hO h1 q

/-- A model of faces of one node each, in rows of one's own. -/
def QM (W : World) (A : Option Addr) (m c : Nat) : Prop := ∃ base vf vl, MW base (.slice A m c) (al m) m vf vl W
section
variable {W W1 : World} {A : Option Addr} {m c : Nat}
theorem QM.rf (h : QM W A m c) : m ≤ c ∧ RF W A (al m) := by
  obtain ⟨base, vf, vl, h⟩ := h
  have h2 : MW base (.slice A m c) (al m) (al m).length vf vl W := by rw [al_len]; exact h
  obtain ⟨A', c', e1, e2, e3⟩ := h2.reads
  injection e1 with ea en ec
  subst ea ec
  rw [al_len] at e2
  exact ⟨e2, e3⟩
theorem QM.grown (h : QM W A m c) (hg : W.grownBy W1 none) : QM W1 A m c := by
  obtain ⟨base, vf, vl, h⟩ := h
  exact ⟨base, vf, vl, h.kept hg (fun b e => by cases e)⟩
theorem QM.below (h : QM W A m c) (hb : Below W.heap.size W W1) : QM W1 A m c := h.grown (grown_of_below hb none)
theorem QM.set (h : QM W A m c) {O : Nat} {cs : Array Value} {t : TypeId} (hO : Blk W O (.cells cs t)) (h1 : t ≠ 3) (h2 : t ≠ 43) (h3 : t ≠ 42) (x y : Value) : QM ((W.setCell ⟨O, 0, none⟩ x).setCell ⟨O, 1, none⟩ y) A m c := by
  obtain ⟨base, vf, vl, h⟩ := h
  exact ⟨base, vf, vl, h.kept (set2_grown _ _ _ _) (fun r e q => by cases e; exact h.not_blk hO h1 h2 h3 q)⟩
end
theorem Blk.ne {W : World} {O O' : Nat} {cs cs' : Array Value} {t t' : TypeId} (h : Blk W O (.cells cs t)) (k : Blk W O' (.cells cs' t')) (hne : t ≠ t') : O ≠ O' := by
  rintro rfl
  have e := Option.some.inj (h.symm.trans k)
  injection e with _ e
  exact hne e

/-- The larger model while it is made: the faces' row, which the append has not come to. -/
def JLa (B' B g cS : Nat) (W : World) : Prop := ∃ vf vl, MW B' (.slice (some ⟨g, 0, none⟩) 200 cS) (al 200) 200 vf vl W ∧ ∀ f, f < 200 → ∀ q, (vf f).ownBlock = some q → q < B
theorem JLa.grown {B' B g cS : Nat} {W W1 : World} (h : JLa B' B g cS W) (hg : W.grownBy W1 none) : JLa B' B g cS W1 := by
  obtain ⟨vf, vl, h1, h2⟩ := h
  exact ⟨vf, vl, h1.kept hg (fun b e => by cases e), h2⟩
/-- What holds of the world then, throughout. -/
structure ILa (w : World) (b5 B g cS : Nat) (W : World) : Prop where
  old : Below w.heap.size w W
  box : Blk W b5 (.cells #[.int .i64 200, .slice (some ⟨g, 0, none⟩) 200 cS] 28)
  size : B ≤ W.heap.size
theorem ILa.grown {w : World} {b5 B g cS : Nat} {W W1 : World} {row : Option Nat} (h : ILa w b5 B g cS W) (hg : W.grownBy W1 row) (h1 : ∀ q, row = some q → w.heap.size ≤ q ∧ q ≠ b5) : ILa w b5 B g cS W1 :=
  ⟨h.old.grown hg h.old.size (fun q e => (h1 q e).1), h.box.kept hg (fun e => (h1 _ e.symm).2 rfl), Nat.le_trans h.size hg.size⟩
/-- The temporaries' facts then. -/
def SLa (b5 B g cS : Nat) (d : Nat) (W : World) (v : Value) : Prop := match d with
  | 76 => v = .pointer (some ⟨b5, 0, none⟩)
  | 77 => v = .int .i64 200
  | 78 => v = .int .i64 201
  | 79 => v = .pointer (some ⟨b5, 1, none⟩)
  | 80 => v = .slice (some ⟨g, 0, none⟩) 200 cS
  | 81 => v = .pointer (some ⟨b5, 0, none⟩)
  | 82 => v = .int .i64 200
  | 83 => ∃ q, v = .slice (some ⟨q, 0, none⟩) 1 1 ∧ W.ownsRow B 3 1 (.slice (some ⟨q, 0, none⟩) 1 1) 1 [.int .i64 200]
  | 84 => ∃ q u, v = .slice (some ⟨q, 0, none⟩) 1 1 ∧ FW B (.slice (some ⟨q, 0, none⟩) 1 1) [[200]] 1 (fun _ => u) W
  | 85 => ∃ m q u, v = .slice (some ⟨m, 0, none⟩) 1 1 ∧ B ≤ m ∧ Blk W m (.cells #[.slice (some ⟨q, 0, none⟩) 1 1] 42) ∧ FW B (.slice (some ⟨q, 0, none⟩) 1 1) [[200]] 1 (fun _ => u) W
  | 86 => ∃ A c k, v = .slice A 201 c ∧ QM W A 201 c ∧ QM W (some ⟨g, 0, none⟩) 199 k
  | 87 => ∃ A c k, v = .agg #[.int .i64 201, .slice A 201 c] ∧ QM W A 201 c ∧ QM W (some ⟨g, 0, none⟩) 199 k
  | 13 => ∃ b x y, v = .pointer (some ⟨b, 0, none⟩) ∧ B ≤ b ∧ Blk W b (.cells #[x, y] 28)
  | _ => True
theorem SLa.turned {b5 B g cS : Nat} {W W1 : World} {row : Option Nat} (hg : W.grownBy W1 row) (hr : ∀ q, row = some q → q < B) {d : Nat} (h1 : d ≠ 86) (h2 : d ≠ 87) {v : Value} (h : SLa b5 B g cS d W v) : SLa b5 B g cS d W1 v := by
  unfold SLa at h ⊢
  split at h
  case h_8 => obtain ⟨q, e, h⟩ := h; exact ⟨q, e, own_keptB h hg (fun r e2 e3 => by have := hr r e2; have := (World.ownsRow.lt h r e3).1; omega)⟩
  case h_9 => obtain ⟨q, u, e, h⟩ := h; exact ⟨q, u, e, h.kept hg (fun r e2 e3 => by have := hr r e2; have := (h.lt e3).1; omega)⟩
  case h_10 => obtain ⟨m, q, u, e, hm, hb, h⟩ := h; exact ⟨m, q, u, e, hm, hb.kept hg (fun e2 => by have := hr _ e2.symm; omega), h.kept hg (fun r e2 e3 => by have := hr r e2; have := (h.lt e3).1; omega)⟩
  case h_11 => exact absurd rfl h1
  case h_12 => exact absurd rfl h2
  case h_13 => obtain ⟨b, x, y, e, hm, hb⟩ := h; exact ⟨b, x, y, e, hm, hb.kept hg (fun e2 => by have := hr _ e2.symm; omega)⟩
  all_goals exact h
theorem SLa.grown {b5 B g cS : Nat} {W W1 : World} (hg : W.grownBy W1 none) (d : Nat) (v : Value) (h : SLa b5 B g cS d W v) : SLa b5 B g cS d W1 v := by
  by_cases h1 : d = 86
  · subst h1; obtain ⟨A, c, k, e, q1, q2⟩ := h; exact ⟨A, c, k, e, q1.grown hg, q2.grown hg⟩
  by_cases h2 : d = 87
  · subst h2; obtain ⟨A, c, k, e, q1, q2⟩ := h; exact ⟨A, c, k, e, q1.grown hg, q2.grown hg⟩
  exact SLa.turned hg (fun q e => by cases e) h1 h2 h


/-- A region whose operation e is a store; what comes beside and behind it reads alone (pv, P). -/
structure IRP (J : World → Prop) (e : Nat) (C : (Nat → Value) → World → Prop) (I : World → Prop) (S : Nat → World → Value → Prop) (vals : List (Nat × Nat)) (P : Nat → Value → Prop) (pv : List (Nat × Nat)) (listed : Array Bool) (t : Nat → Value) (W : World) : Prop where
  ire : IRE J e C I S vals listed t W
  pur : ∀ x ∈ pv, listed.getD x.1 false = true → P x.2 (t x.2)
section
variable {J I : World → Prop} {C : (Nat → Value) → World → Prop} {e : Nat} {S : Nat → World → Value → Prop} {vals pv : List (Nat × Nat)} {P : Nat → Value → Prop} {listed : Array Bool} {t : Nat → Value} {W W1 : World} {ops : Array Oper}
theorem IRP.start (n : Nat) (hI : I W) (h : J W) (t : Nat → Value) : IRP J e C I S vals P pv (Array.replicate n false) t W := ⟨IRE.start n hI h t, fun _ _ h => (none_listed h).elim⟩
theorem IRP.purs {i d : Nat} {v : Value} (h : IRP J e C I S vals P pv listed t W) (h2 : clashV pv i d = true) (hp : P d v) : ∀ x ∈ pv, (listed.setIfInBounds i true).getD x.1 false = true → P x.2 (upd t d v x.2) := fun x hx hlx => by
  have hc := List.all_eq_true.1 h2 x hx
  by_cases q : x.1 = i
  · rw [if_pos q] at hc
    have : x.2 = d := by simpa using hc
    rw [this, upd_same]; exact hp
  · rw [if_neg q] at hc
    have hne : x.2 ≠ d := by simpa using hc
    rw [upd_other _ _ hne]
    exact h.pur x hx ((listed_set hlx).resolve_left q)
theorem IRP.val {i : Nat} (h : IRP J e C I S vals P pv listed t W) (hC : Cl ops listed) (hr : i ∈ Region.ready .any ops listed) (hre : reachB ops 9 e i = true) (x : Nat × Nat) (hx : x ∈ vals) (hl : listed.getD x.1 false = true) : S x.2 W (t x.2) := h.ire.val hC hr hre x hx hl
theorem IRP.yields {i d : Nat} {v : Value} (h : IRP J e C I S vals P pv listed t W) (hC : Cl ops listed) (hr : i ∈ Region.ready .any ops listed) (he : i ≠ e) (hre : reachB ops 9 e i = true) (hI : I W1) (hJ : J W → J W1) (hm : ∀ d v, S d W v → S d W1 v) (hv : S d W1 v) (h1 : clashV vals i d = true) (h2 : clashV pv i d = true) (hp : P d v) : IRP J e C I S vals P pv (listed.setIfInBounds i true) (upd t d v) W1 :=
  ⟨h.ire.yields hC hr he hre hI hJ hm hv h1, h.purs h2 hp⟩
theorem IRP.beside {i d : Nat} {v : Value} (h : IRP J e C I S vals P pv listed t W) (he : i ≠ e) (hv : ∀ x ∈ vals, x.1 ≠ i ∧ x.2 ≠ d) (hC : C t W → C (upd t d v) W) (h2 : clashV pv i d = true) (hp : P d v) : IRP J e C I S vals P pv (listed.setIfInBounds i true) (upd t d v) W :=
  ⟨⟨h.ire.fin, fun hl => by
      rw [getD_set_ne he] at hl
      obtain ⟨h3, h4⟩ := h.ire.old hl
      exact ⟨h3, fun x hx hlx => by
        obtain ⟨q1, q2⟩ := hv x hx
        rw [upd_other _ _ q2]
        exact h4 x hx ((listed_set hlx).resolve_left q1)⟩, fun hl => by
      rw [getD_set_ne he] at hl
      exact hC (h.ire.new hl)⟩, h.purs h2 hp⟩
theorem IRP.ends (h : IRP J e C I S vals P pv listed t W) (hr : e ∈ Region.ready .any ops listed) (hI : I W1) (hC : C t W1) (h2 : ∀ x ∈ pv, x.1 ≠ e) : IRP J e C I S vals P pv (listed.setIfInBounds e true) t W1 :=
  ⟨h.ire.ends hr hI hC, fun x hx hlx => h.pur x hx ((listed_set hlx).resolve_left (h2 x hx))⟩
end

/-- What holds of the world while the model of two is made, throughout. -/
structure IL8 (w : World) (b5 b13 g cS k cA : Nat) (A : Option Addr) (W : World) : Prop where
  old : Below w.heap.size w W
  box : Blk W b5 (.cells #[.int .i64 200, .slice (some ⟨g, 0, none⟩) 200 cS] 28)
  more : Blk W b13 (.cells #[.int .i64 201, .slice A 201 cA] 28)
  less : QM W (some ⟨g, 0, none⟩) 199 k
  big : QM W A 201 cA
theorem IL8.below {w : World} {b5 b13 g cS k cA : Nat} {A : Option Addr} {W W1 : World} (h : IL8 w b5 b13 g cS k cA A W) (hb : Below W.heap.size W W1) : IL8 w b5 b13 g cS k cA A W1 :=
  ⟨h.old.trans (hb.mono h.old.size), h.box.bel hb, h.more.bel hb, h.less.below hb, h.big.below hb⟩
theorem IL8.grown {w : World} {b5 b13 g cS k cA : Nat} {A : Option Addr} {W W1 : World} (h : IL8 w b5 b13 g cS k cA A W) (hg : W.grownBy W1 none) : IL8 w b5 b13 g cS k cA A W1 :=
  ⟨h.old.grown hg h.old.size (fun q e => by cases e), h.box.kept hg (fun e => by cases e), h.more.kept hg (fun e => by cases e), h.less.grown hg, h.big.grown hg⟩
/-- A store into a box of another type. -/
theorem IL8.set {w : World} {b5 b13 g cS k cA : Nat} {A : Option Addr} {W : World} (h : IL8 w b5 b13 g cS k cA A W) {O : Nat} {cs : Array Value} (hO : Blk W O (.cells cs 31)) (hw : w.heap.size ≤ O) (x y : Value) : IL8 w b5 b13 g cS k cA A ((W.setCell ⟨O, 0, none⟩ x).setCell ⟨O, 1, none⟩ y) :=
  ⟨h.old.grown (set2_grown _ _ _ _) h.old.size (fun q e => by cases e; exact hw), h.box.kept (set2_grown _ _ _ _) (fun e => h.box.ne hO (by decide) (Option.some.inj e)), h.more.kept (set2_grown _ _ _ _) (fun e => h.more.ne hO (by decide) (Option.some.inj e)), h.less.set hO (by decide) (by decide) (by decide) _ _, h.big.set hO (by decide) (by decide) (by decide) _ _⟩
/-- The temporaries' facts then. -/
def SL8 (B0 b5 g cS : Nat) (d : Nat) (W : World) (v : Value) : Prop := match d with
  | 89 => ∃ A c, v = .agg #[.int .i64 1, .slice A fM.length c] ∧ fM.length ≤ c ∧ RF W A fM
  | 90 => ∃ A c, v = .agg #[.int .i64 1, .slice A fM.length c] ∧ fM.length ≤ c ∧ RF W A fM
  | 91 => v = .pointer (some ⟨b5, 0, none⟩)
  | 92 => v = .int .i64 200
  | 93 => v = .int .i64 199
  | 94 => v = .pointer (some ⟨b5, 1, none⟩)
  | 95 => v = .slice (some ⟨g, 0, none⟩) 200 cS
  | 96 => v = .pointer (some ⟨b5, 0, none⟩)
  | 97 => v = .int .i64 200
  | 98 => v = .int .i64 199
  | 99 => v = .slice (some ⟨g, 0, none⟩) 199 cS
  | 100 => v = .agg #[.int .i64 199, .slice (some ⟨g, 0, none⟩) 199 cS]
  | 101 => ∃ A c, v = .agg #[.int .i64 199, .slice A 199 c] ∧ 199 ≤ c ∧ RF W A (al 199)
  | 102 => ∃ A c, v = .tuple #[.agg #[.int .i64 200, .slice A 200 c], .int .i64 0] ∧ QM W A 200 c
  | 88 => ∃ A c, v = .tuple #[.agg #[.int .i64 200, .slice A 200 c], .int .i64 0] ∧ QM W A 200 c
  | 103 => ∃ A c, v = .agg #[.int .i64 200, .slice A 200 c] ∧ QM W A 200 c
  | 14 => ∃ b x y, v = .pointer (some ⟨b, 0, none⟩) ∧ B0 ≤ b ∧ Blk W b (.cells #[x, y] 31)
  | _ => True
theorem SL8.below {B0 b5 g cS : Nat} {W W1 : World} (hb : Below W.heap.size W W1) (d : Nat) (v : Value) (h : SL8 B0 b5 g cS d W v) : SL8 B0 b5 g cS d W1 v := by
  unfold SL8 at h ⊢
  split at h
  case h_1 => obtain ⟨A, c, e, h1, h2⟩ := h; exact ⟨A, c, e, h1, h2.below hb⟩
  case h_2 => obtain ⟨A, c, e, h1, h2⟩ := h; exact ⟨A, c, e, h1, h2.below hb⟩
  case h_13 => obtain ⟨A, c, e, h1, h2⟩ := h; exact ⟨A, c, e, h1, h2.below hb⟩
  case h_14 => obtain ⟨A, c, e, h2⟩ := h; exact ⟨A, c, e, h2.below hb⟩
  case h_15 => obtain ⟨A, c, e, h2⟩ := h; exact ⟨A, c, e, h2.below hb⟩
  case h_16 => obtain ⟨A, c, e, h2⟩ := h; exact ⟨A, c, e, h2.below hb⟩
  case h_17 => obtain ⟨b, x, y, e, h1, h2⟩ := h; exact ⟨b, x, y, e, h1, h2.bel hb⟩
  all_goals exact h
def PL8 (d : Nat) (v : Value) : Prop := match d with
  | 88 => ∃ x, v = .tuple #[x, .int .i64 0]
  | 104 => v = .int .i64 0
  | 15 => v = .int .i64 0
  | _ => True

end Go.Proofs.YtealnhaffphamaaGreat
