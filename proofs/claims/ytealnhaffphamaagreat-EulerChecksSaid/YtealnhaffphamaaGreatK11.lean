/- Contracts of the functions that the statement reaches, and plain lemmas: part 11 of 29. -/
import Derived.Test.YtealnhaffphamaaGreatK10
import Derived.Deep.CutRange
import Derived.Test.YtealnhaffphamaaGreatProg
import Derived.Below
import Derived.Deep.Draws
import Derived.Deep.AppendLies
import Derived.Maps.AppendAt
import Derived.OwnWalk
import Derived.Laws.BytesArg
import Derived.Laws.MakeOwn
import Derived.Laws.OwnMore
import Derived.Deep.OwnRows
import Derived.Tactics
import Derived.Lib.ConvBytes
import Derived.Laws.Slices
import Derived.WalkKit
import Derived.KernelRfl
import Derived.RowKit3
import Derived.Deep.LoopGhost
import Derived.Deep.QuietTactic
import Derived.BigQuiet
import Derived.WideLaws
import Derived.Deep.DeepCutAuto
import Derived.Deep.CutBlock
import Derived.Deep.RegionHeld3
import Derived.Laws.Rows
import Derived.Lib.AppendStr
import Derived.ArgAppend
import Derived.Laws.IdiomCopy
import Derived.OrdersHeld
import Derived.Laws.BitsLemmas
import Derived.RowKit
import Derived.Test.YtealnhaffphamaaGreatK02
import Derived.Test.YtealnhaffphamaaGreatK03
import Derived.Test.YtealnhaffphamaaGreatK04
set_option linter.unusedVariables false
set_option linter.unusedSimpArgs false

namespace Go.Proofs.YtealnhaffphamaaGreat
open Go.RowKit Go.Shelf Go.Proofs.YtealnhaffphamaaGreatW.PrintWords
open Classical

set_option maxRecDepth 100000 in
set_option maxHeartbeats 4000000 in
theorem dropNode_bad (N : Int) (A : Option Addr) (c : Nat) (fs : Fs) (v : Int) (w : World) (hF : RF w A fs) (hc : fs.length ≤ c) (hSm : Sm fs) (hI : NI fs) (hcap : (plsA fs).length ≤ 100000) (hno : ¬ RightP N fs) :
    Calls Tryz.prog 11 #[.agg #[.int .i64 N, .slice A fs.length c], .int .i64 v] w fun e w' => e = .returned (.tuple #[.agg #[.int .i64 0, .slice none 0 0], .int .i64 140]) ∧ Below w.heap.size w w' := by
  have HNO := Lib.hid hno
  clear hno
  obtain ⟨W1, hW1⟩ : ∃ W1, W1 = ((w.alloc (.cells #[.int .i64 N, .slice A fs.length c] 31)).alloc (.cells #[.int .i64 v] 3)).alloc (.cells #[.int .i64 0, .slice none 0 0] 31) := ⟨_, rfl⟩
  have HOB : Hid (Obs [.cells #[.int .i64 N, .slice A fs.length c] 31, .cells #[.int .i64 v] 3, .cells #[.int .i64 0, .slice none 0 0] 31] w W1) := by rw [hW1]; exact Obs.three w _ _ _
  have HR := Lib.hid (right_at (N := N) (c := c) hF HOB.out.below hSm hI hcap)
  have HF := Lib.hid hF
  have HS := Lib.hid hSm
  have HC := Lib.hid hc
  clear hF hSm hI hcap hc
  go_enter Tryz.func11, Tryz.ntmps11
  go_wp2_with fail
  rw [← hW1]
  clear hW1
  ((with_reducible refine (HR.out).mono ?_); rintro e W2 ⟨⟨b, rfl, hb⟩, -, hbl⟩)
  have HOB2 := Lib.hid (HOB.out.call hbl)
  have HBI := Lib.hid hb
  clear HR hb hbl HOB
  have m00 : W2.cell? ⟨w.heap.size, 0, none⟩ = some (.int .i64 N) := HOB2.out.cell 0 0 rfl rfl
  have m01 : W2.cell? ⟨w.heap.size, 1, none⟩ = some (.slice A fs.length c) := HOB2.out.cell 0 1 rfl rfl
  have m10 : W2.cell? ⟨w.heap.size + 1, 0, none⟩ = some (.int .i64 v) := HOB2.out.cell 1 0 rfl rfl
  have m20 : W2.cell? ⟨w.heap.size + 1 + 1, 0, none⟩ = some (.int .i64 0) := HOB2.out.cell 2 0 rfl rfl
  have z20 : W2.frozen? ⟨w.heap.size + 1 + 1, 0, none⟩ = false := HOB2.out.frz 2 0 rfl
  have m21 : W2.cell? ⟨w.heap.size + 1 + 1, 1, none⟩ = some (.slice none 0 0) := HOB2.out.cell 2 1 rfl rfl
  have z21 : W2.frozen? ⟨w.heap.size + 1 + 1, 1, none⟩ = false := HOB2.out.frz 2 1 rfl
  cases b
  · go_wp2
    obtain ⟨hx, hxB⟩ := HOB2.out.ret 2 (.int .i64 0) (.slice none 0 0) rfl
    have e00 := (blk_cells hx).1 0 _ rfl
    have e01 := (blk_cells hx).1 1 _ rfl
    refine bodyPost_ret (v := .tuple #[.agg #[.int .i64 0, .slice none 0 0], .int .i64 140]) (by simp [results, Tryz.f11, go_sem, e00, e01]) rfl ?_
    exact ⟨rfl, hxB⟩
  · exact absurd (HBI.out.1 rfl) HNO.out
set_option maxRecDepth 100000 in
set_option maxHeartbeats 4000000 in
theorem addEdge_bad (N : Int) (A : Option Addr) (c : Nat) (fs : Fs) (f1 l1 i1 f2 l2 i2 : Int) (w : World) (hF : RF w A fs) (hc : fs.length ≤ c) (hSm : Sm fs) (hI : NI fs) (hcap : (plsA fs).length ≤ 100000) (hno : ¬ RightP N fs) :
    Calls Tryz.prog 14 #[.agg #[.int .i64 N, .slice A fs.length c], .agg #[.int .i64 f1, .int .i64 l1, .int .i64 i1], .agg #[.int .i64 f2, .int .i64 l2, .int .i64 i2]] w fun e w' => e = .returned (.tuple #[.agg #[.int .i64 0, .slice none 0 0], .int .i64 140]) ∧ Below w.heap.size w w' := by
  have HNO := Lib.hid hno
  clear hno
  obtain ⟨W1, hW1⟩ : ∃ W1, W1 = (((w.alloc (.cells #[.int .i64 N, .slice A fs.length c] 31)).alloc (.cells #[.int .i64 f1, .int .i64 l1, .int .i64 i1] 36)).alloc (.cells #[.int .i64 f2, .int .i64 l2, .int .i64 i2] 36)).alloc (.cells #[.int .i64 0, .slice none 0 0] 31) := ⟨_, rfl⟩
  have HOB : Hid (Obs [.cells #[.int .i64 N, .slice A fs.length c] 31, .cells #[.int .i64 f1, .int .i64 l1, .int .i64 i1] 36, .cells #[.int .i64 f2, .int .i64 l2, .int .i64 i2] 36, .cells #[.int .i64 0, .slice none 0 0] 31] w W1) := by rw [hW1]; exact Obs.four w _ _ _ _
  have HR := Lib.hid (right_at (N := N) (c := c) hF HOB.out.below hSm hI hcap)
  have HF := Lib.hid hF
  have HS := Lib.hid hSm
  have HC := Lib.hid hc
  clear hF hSm hI hcap hc
  go_enter Tryz.func14, Tryz.ntmps14
  go_wp2_with fail
  rw [← hW1]
  clear hW1
  ((with_reducible refine (HR.out).mono ?_); rintro e W2 ⟨⟨b, rfl, hb⟩, -, hbl⟩)
  have HOB2 := Lib.hid (HOB.out.call hbl)
  have HBI := Lib.hid hb
  clear HR hb hbl HOB
  have m00 : W2.cell? ⟨w.heap.size, 0, none⟩ = some (.int .i64 N) := HOB2.out.cell 0 0 rfl rfl
  have m01 : W2.cell? ⟨w.heap.size, 1, none⟩ = some (.slice A fs.length c) := HOB2.out.cell 0 1 rfl rfl
  have m10 : W2.cell? ⟨w.heap.size + 1, 0, none⟩ = some (.int .i64 f1) := HOB2.out.cell 1 0 rfl rfl
  have m11 : W2.cell? ⟨w.heap.size + 1, 1, none⟩ = some (.int .i64 l1) := HOB2.out.cell 1 1 rfl rfl
  have m12 : W2.cell? ⟨w.heap.size + 1, 2, none⟩ = some (.int .i64 i1) := HOB2.out.cell 1 2 rfl rfl
  have m20 : W2.cell? ⟨w.heap.size + 1 + 1, 0, none⟩ = some (.int .i64 f2) := HOB2.out.cell 2 0 rfl rfl
  have m21 : W2.cell? ⟨w.heap.size + 1 + 1, 1, none⟩ = some (.int .i64 l2) := HOB2.out.cell 2 1 rfl rfl
  have m22 : W2.cell? ⟨w.heap.size + 1 + 1, 2, none⟩ = some (.int .i64 i2) := HOB2.out.cell 2 2 rfl rfl
  have m30 : W2.cell? ⟨w.heap.size + 1 + 1 + 1, 0, none⟩ = some (.int .i64 0) := HOB2.out.cell 3 0 rfl rfl
  have z30 : W2.frozen? ⟨w.heap.size + 1 + 1 + 1, 0, none⟩ = false := HOB2.out.frz 3 0 rfl
  have m31 : W2.cell? ⟨w.heap.size + 1 + 1 + 1, 1, none⟩ = some (.slice none 0 0) := HOB2.out.cell 3 1 rfl rfl
  have z31 : W2.frozen? ⟨w.heap.size + 1 + 1 + 1, 1, none⟩ = false := HOB2.out.frz 3 1 rfl
  cases b
  · go_wp2
    obtain ⟨hx, hxB⟩ := HOB2.out.ret 3 (.int .i64 0) (.slice none 0 0) rfl
    have e00 := (blk_cells hx).1 0 _ rfl
    have e01 := (blk_cells hx).1 1 _ rfl
    refine bodyPost_ret (v := .tuple #[.agg #[.int .i64 0, .slice none 0 0], .int .i64 140]) (by simp [results, Tryz.f14, go_sem, e00, e01]) rfl ?_
    exact ⟨rfl, hxB⟩
  · exact absurd (HBI.out.1 rfl) HNO.out
set_option maxRecDepth 100000 in
set_option maxHeartbeats 4000000 in
theorem dropEdge_bad (N : Int) (A : Option Addr) (c : Nat) (fs : Fs) (v u : Int) (w : World) (hF : RF w A fs) (hc : fs.length ≤ c) (hSm : Sm fs) (hI : NI fs) (hcap : (plsA fs).length ≤ 100000) (hno : ¬ RightP N fs) :
    Calls Tryz.prog 15 #[.agg #[.int .i64 N, .slice A fs.length c], .int .i64 v, .int .i64 u] w fun e w' => e = .returned (.tuple #[.agg #[.int .i64 0, .slice none 0 0], .int .i64 140]) ∧ Below w.heap.size w w' := by
  have HNO := Lib.hid hno
  clear hno
  obtain ⟨W1, hW1⟩ : ∃ W1, W1 = (w.alloc (.cells #[.int .i64 N, .slice A fs.length c] 31)).alloc (.cells #[.int .i64 0, .slice none 0 0] 31) := ⟨_, rfl⟩
  have HOB : Hid (Obs [.cells #[.int .i64 N, .slice A fs.length c] 31, .cells #[.int .i64 0, .slice none 0 0] 31] w W1) := by rw [hW1]; exact Obs.two w _ _
  have HR := Lib.hid (right_at (N := N) (c := c) hF HOB.out.below hSm hI hcap)
  have HF := Lib.hid hF
  have HS := Lib.hid hSm
  have HC := Lib.hid hc
  clear hF hSm hI hcap hc
  go_enter Tryz.func15, Tryz.ntmps15
  go_wp2_with fail
  rw [← hW1]
  clear hW1
  ((with_reducible refine (HR.out).mono ?_); rintro e W2 ⟨⟨b, rfl, hb⟩, -, hbl⟩)
  have HOB2 := Lib.hid (HOB.out.call hbl)
  have HBI := Lib.hid hb
  clear HR hb hbl HOB
  have m00 : W2.cell? ⟨w.heap.size, 0, none⟩ = some (.int .i64 N) := HOB2.out.cell 0 0 rfl rfl
  have m01 : W2.cell? ⟨w.heap.size, 1, none⟩ = some (.slice A fs.length c) := HOB2.out.cell 0 1 rfl rfl
  have m10 : W2.cell? ⟨w.heap.size + 1, 0, none⟩ = some (.int .i64 0) := HOB2.out.cell 1 0 rfl rfl
  have z10 : W2.frozen? ⟨w.heap.size + 1, 0, none⟩ = false := HOB2.out.frz 1 0 rfl
  have m11 : W2.cell? ⟨w.heap.size + 1, 1, none⟩ = some (.slice none 0 0) := HOB2.out.cell 1 1 rfl rfl
  have z11 : W2.frozen? ⟨w.heap.size + 1, 1, none⟩ = false := HOB2.out.frz 1 1 rfl
  cases b
  · go_wp2
    obtain ⟨hx, hxB⟩ := HOB2.out.ret 1 (.int .i64 0) (.slice none 0 0) rfl
    have e00 := (blk_cells hx).1 0 _ rfl
    have e01 := (blk_cells hx).1 1 _ rfl
    refine bodyPost_ret (v := .tuple #[.agg #[.int .i64 0, .slice none 0 0], .int .i64 140]) (by simp [results, Tryz.f15, go_sem, e00, e01]) rfl ?_
    exact ⟨rfl, hxB⟩
  · exact absurd (HBI.out.1 rfl) HNO.out
set_option maxRecDepth 100000 in
set_option maxHeartbeats 4000000 in
theorem addFace_bad (N : Int) (A : Option Addr) (c : Nat) (fs : Fs) (f g : Int) (w : World) (hF : RF w A fs) (hc : fs.length ≤ c) (hSm : Sm fs) (hI : NI fs) (hcap : (plsA fs).length ≤ 100000) (hno : ¬ RightP N fs) :
    Calls Tryz.prog 17 #[.agg #[.int .i64 N, .slice A fs.length c], .int .i64 f, .int .i64 g] w fun e w' => e = .returned (.tuple #[.agg #[.int .i64 0, .slice none 0 0], .int .i64 140]) ∧ Below w.heap.size w w' := by
  have HNO := Lib.hid hno
  clear hno
  obtain ⟨W1, hW1⟩ : ∃ W1, W1 = (w.alloc (.cells #[.int .i64 N, .slice A fs.length c] 31)).alloc (.cells #[.int .i64 0, .slice none 0 0] 31) := ⟨_, rfl⟩
  have HOB : Hid (Obs [.cells #[.int .i64 N, .slice A fs.length c] 31, .cells #[.int .i64 0, .slice none 0 0] 31] w W1) := by rw [hW1]; exact Obs.two w _ _
  have HR := Lib.hid (right_at (N := N) (c := c) hF HOB.out.below hSm hI hcap)
  have HF := Lib.hid hF
  have HS := Lib.hid hSm
  have HC := Lib.hid hc
  clear hF hSm hI hcap hc
  go_enter Tryz.func17, Tryz.ntmps17
  go_wp2_with fail
  rw [← hW1]
  clear hW1
  ((with_reducible refine (HR.out).mono ?_); rintro e W2 ⟨⟨b, rfl, hb⟩, -, hbl⟩)
  have HOB2 := Lib.hid (HOB.out.call hbl)
  have HBI := Lib.hid hb
  clear HR hb hbl HOB
  have m00 : W2.cell? ⟨w.heap.size, 0, none⟩ = some (.int .i64 N) := HOB2.out.cell 0 0 rfl rfl
  have m01 : W2.cell? ⟨w.heap.size, 1, none⟩ = some (.slice A fs.length c) := HOB2.out.cell 0 1 rfl rfl
  have m10 : W2.cell? ⟨w.heap.size + 1, 0, none⟩ = some (.int .i64 0) := HOB2.out.cell 1 0 rfl rfl
  have z10 : W2.frozen? ⟨w.heap.size + 1, 0, none⟩ = false := HOB2.out.frz 1 0 rfl
  have m11 : W2.cell? ⟨w.heap.size + 1, 1, none⟩ = some (.slice none 0 0) := HOB2.out.cell 1 1 rfl rfl
  have z11 : W2.frozen? ⟨w.heap.size + 1, 1, none⟩ = false := HOB2.out.frz 1 1 rfl
  cases b
  · go_wp2
    obtain ⟨hx, hxB⟩ := HOB2.out.ret 1 (.int .i64 0) (.slice none 0 0) rfl
    have e00 := (blk_cells hx).1 0 _ rfl
    have e01 := (blk_cells hx).1 1 _ rfl
    refine bodyPost_ret (v := .tuple #[.agg #[.int .i64 0, .slice none 0 0], .int .i64 140]) (by simp [results, Tryz.f17, go_sem, e00, e01]) rfl ?_
    exact ⟨rfl, hxB⟩
  · exact absurd (HBI.out.1 rfl) HNO.out
set_option maxRecDepth 100000 in
set_option maxHeartbeats 4000000 in
theorem turned_bad (N : Int) (A : Option Addr) (c : Nat) (fs : Fs)  (w : World) (hF : RF w A fs) (hc : fs.length ≤ c) (hSm : Sm fs) (hI : NI fs) (hcap : (plsA fs).length ≤ 100000) (hno : ¬ RightP N fs) :
    Calls Tryz.prog 18 #[.agg #[.int .i64 N, .slice A fs.length c]] w fun e w' => e = .returned (.tuple #[.agg #[.int .i64 0, .slice none 0 0], .int .i64 140]) ∧ Below w.heap.size w w' := by
  have HNO := Lib.hid hno
  clear hno
  obtain ⟨W1, hW1⟩ : ∃ W1, W1 = (w.alloc (.cells #[.int .i64 N, .slice A fs.length c] 31)).alloc (.cells #[.int .i64 0, .slice none 0 0] 31) := ⟨_, rfl⟩
  have HOB : Hid (Obs [.cells #[.int .i64 N, .slice A fs.length c] 31, .cells #[.int .i64 0, .slice none 0 0] 31] w W1) := by rw [hW1]; exact Obs.two w _ _
  have HR := Lib.hid (right_at (N := N) (c := c) hF HOB.out.below hSm hI hcap)
  have HF := Lib.hid hF
  have HS := Lib.hid hSm
  have HC := Lib.hid hc
  clear hF hSm hI hcap hc
  go_enter Tryz.func18, Tryz.ntmps18
  go_wp2_with fail
  rw [← hW1]
  clear hW1
  ((with_reducible refine (HR.out).mono ?_); rintro e W2 ⟨⟨b, rfl, hb⟩, -, hbl⟩)
  have HOB2 := Lib.hid (HOB.out.call hbl)
  have HBI := Lib.hid hb
  clear HR hb hbl HOB
  have m00 : W2.cell? ⟨w.heap.size, 0, none⟩ = some (.int .i64 N) := HOB2.out.cell 0 0 rfl rfl
  have m01 : W2.cell? ⟨w.heap.size, 1, none⟩ = some (.slice A fs.length c) := HOB2.out.cell 0 1 rfl rfl
  have m10 : W2.cell? ⟨w.heap.size + 1, 0, none⟩ = some (.int .i64 0) := HOB2.out.cell 1 0 rfl rfl
  have z10 : W2.frozen? ⟨w.heap.size + 1, 0, none⟩ = false := HOB2.out.frz 1 0 rfl
  have m11 : W2.cell? ⟨w.heap.size + 1, 1, none⟩ = some (.slice none 0 0) := HOB2.out.cell 1 1 rfl rfl
  have z11 : W2.frozen? ⟨w.heap.size + 1, 1, none⟩ = false := HOB2.out.frz 1 1 rfl
  cases b
  · go_wp2
    obtain ⟨hx, hxB⟩ := HOB2.out.ret 1 (.int .i64 0) (.slice none 0 0) rfl
    have e00 := (blk_cells hx).1 0 _ rfl
    have e01 := (blk_cells hx).1 1 _ rfl
    refine bodyPost_ret (v := .tuple #[.agg #[.int .i64 0, .slice none 0 0], .int .i64 140]) (by simp [results, Tryz.f18, go_sem, e00, e01]) rfl ?_
    exact ⟨rfl, hxB⟩
  · exact absurd (HBI.out.1 rfl) HNO.out

end Go.Proofs.YtealnhaffphamaaGreat

namespace Go.Proofs.YtealnhaffphamaaGreat
open Go.RowKit Go.Shelf Go.Proofs.YtealnhaffphamaaGreatW.PrintWords

/-- append of a slice of integers that is read, to a row of one's own. -/
theorem run_append_ints (W : World) (base : Nat) (ty : TypeId) (v : Value) (xs ys : List Int) (A : Option Addr) (c : Nat) (HO : W.ownsRow base 3 1 v xs.length (intsV xs)) (HR : RI W A ys) (hbase : base ≤ W.heap.size) (hl : xs.length + ys.length ≤ 100000000) :
    ∃ v1 w1, (Builtin.append_ #[43, 43] ty #[v, .slice A ys.length c]).run Tryz.prog W = .ok v1 w1 ∧ w1.ownsRow base 3 1 v1 (xs ++ ys).length (intsV (xs ++ ys)) ∧ W.grownBy w1 v.ownBlock ∧ (v1.ownBlock = v.ownBlock ∨ v1.ownBlock = some W.heap.size) := by
  obtain ⟨i0, hi, hz0, hz1, hz2⟩ := info_parts infoI
  rcases A with _ | ad
  · have h0 : ys.length = 0 := by
      rcases Nat.eq_zero_or_pos ys.length with h0 | h0
      · exact h0
      · obtain ⟨ad, h, _⟩ := RI.at HR h0
        cases h
    obtain rfl : ys = [] := List.eq_nil_of_length_eq_zero h0
    refine ⟨v, W, ?_, by simpa using HO, World.grownBy.refl W _, .inl rfl⟩
    rcases HO.2 with ⟨rfl, hn⟩ | ⟨g, cap, cur, rfl, _, _, hnc, _⟩
    · simp [Builtin.append_, run_underlying Tryz.underlying43, sizeOf, typeInfo, hi, Builtin.lenOf, Builtin.firstCells]
    · simp [Builtin.append_, run_underlying Tryz.underlying43, sizeOf, typeInfo, hi, Builtin.lenOf, Builtin.firstCells, hnc, storeCells]
  · obtain ⟨v1, w1, hr, h2, h3, _, h5⟩ := run_append_own_at (P := Tryz.prog) W base 43 ty 3 i0 (.int .i64 0) 1 8 Tryz.underlying43 hi hz0 hz1 hz2 rfl (by omega) v xs.length (intsV xs) HO ad ys.length c (intsV ys) (by simp [intsV]) (fun j u hu => by
      have hj : j < ys.length := by have := (List.getElem?_eq_some_iff.1 hu).1; rwa [intsV_len] at this
      obtain ⟨ad', h', hc⟩ := RI.at HR hj
      cases h'
      rw [hc, ← hu]
      simp [intsV, List.getD_eq_getElem?_getD, hj])
      (intsV_one ys) (by simp only [maxLen]; omega) (by omega) hbase
    exact ⟨v1, w1, hr, by rw [intsV_app, List.length_append]; exact h2, h3, h5⟩
theorem step_append_ints {ops : Array Oper} {o : Oper} {a : Act} {W : World} {K : Act → World → Prop} {Q : Exit → Act → World → Prop} {E : Prop} (hgd : o.guard = none) (s x : Operand)
    (ho : o.op = .call { callee := .builtin .append, args := #[s, x], argTypes := #[43, 43] })
    (base : Nat) (v : Value) (xs ys : List Int) (A : Option Addr) (m c : Nat) (hm : m = ys.length) (hs : a.eval s = v) (hx : a.eval x = .slice A m c) (HO : W.ownsRow base 3 1 v xs.length (intsV xs)) (HR : RI W A ys) (hbase : base ≤ W.heap.size) (hl : xs.length + ys.length ≤ 100000000)
    (h : ∀ v1 w1, w1.ownsRow base 3 1 v1 (xs ++ ys).length (intsV (xs ++ ys)) → W.grownBy w1 v.ownBlock → (v1.ownBlock = v.ownBlock ∨ v1.ownBlock = some W.heap.size) → K (a.put o.dst v1) w1) :
    if Region.wanted o (yielded ops a.tmps) = true then Oper.wp Tryz.prog o a W K Q else E := by
  have hw : Region.wanted o (yielded ops a.tmps) = true := by simp [Region.wanted, hgd]
  rw [if_pos hw]
  subst hm
  obtain ⟨v1, w1, hr, h2, h3, h4⟩ := run_append_ints W base o.type v xs ys A c HO HR hbase hl
  unfold Oper.wp execOp
  simp only [ho, resolve, invoke, builtin, Sem.run_bind, Sem.run_pure, Result.andThen_ok, List.map_toArray, List.map_cons, List.map_nil, hs, hx, hr]
  exact h v1 w1 h2 h3 h4
theorem wpList_append_ints {ops : Array Oper} {rest : List Oper} {o : Oper} {a : Act} {W : World} {Q : Exit → Act → World → Prop} (hgd : o.guard = none) (s x : Operand)
    (ho : o.op = .call { callee := .builtin .append, args := #[s, x], argTypes := #[43, 43] })
    (base : Nat) (v : Value) (xs ys : List Int) (A : Option Addr) (m c : Nat) (hm : m = ys.length) (hs : a.eval s = v) (hx : a.eval x = .slice A m c) (HO : W.ownsRow base 3 1 v xs.length (intsV xs)) (HR : RI W A ys) (hbase : base ≤ W.heap.size) (hl : xs.length + ys.length ≤ 100000000)
    (h : ∀ v1 w1, w1.ownsRow base 3 1 v1 (xs ++ ys).length (intsV (xs ++ ys)) → W.grownBy w1 v.ownBlock → (v1.ownBlock = v.ownBlock ∨ v1.ownBlock = some W.heap.size) → wpList Tryz.prog ops Q rest (a.put o.dst v1) w1) : wpList Tryz.prog ops Q (o :: rest) a W := by
  refine wpList_plain hgd fun K hK => ?_
  subst hm
  obtain ⟨v1, w1, hr, h2, h3, h4⟩ := run_append_ints W base o.type v xs ys A c HO HR hbase hl
  unfold Oper.wp execOp
  simp only [ho, resolve, invoke, builtin, Sem.run_bind, Sem.run_pure, Result.andThen_ok, List.map_toArray, List.map_cons, List.map_nil, hs, hx, hr]
  exact hK _ _ (h v1 w1 h2 h3 h4)

/-- A copy, with limits. -/
def cpA (fs : Fs) (many loops nodes : Nat) : Fs := (fs.take many).map fun f => (f.take loops).map fun l => l.take nodes
theorem getD_map_nil {α β : Type} (g : List α → List β) (h0 : g [] = []) (xs : List (List α)) (i : Nat) : (xs.map g).getD i [] = g (xs.getD i []) := by
  rw [List.getD_eq_getElem?_getD, List.getD_eq_getElem?_getD, List.getElem?_map]
  cases xs[i]? with
  | none => simp [h0]
  | some x => rfl
theorem getD_take {α : Type} (xs : List (List α)) {k i : Nat} (h : i < k) : (xs.take k).getD i [] = xs.getD i [] := by
  rw [List.getD_eq_getElem?_getD, List.getD_eq_getElem?_getD, List.getElem?_take_of_lt h]
theorem fcA_cpA (fs : Fs) {many loops nodes f : Nat} (h : f < many) : fcA (cpA fs many loops nodes) f = ((fcA fs f).take loops).map fun l => l.take nodes := by
  unfold fcA cpA
  exact (getD_map_nil (α := List Int) (β := List Int) (fun f => (f.take loops).map fun l => l.take nodes) (by simp) _ _).trans (by rw [getD_take fs h])
theorem lpA_cpA (fs : Fs) {many loops nodes f l : Nat} (h : f < many) (hl : l < loops) : lpA (cpA fs many loops nodes) f l = (lpA fs f l).take nodes := by
  unfold lpA lA
  rw [fcA_cpA fs h]
  exact (getD_map_nil (α := Int) (β := Int) (fun l => List.take nodes l) (by simp) _ _).trans (by rw [getD_take _ hl])
theorem cpA_len (fs : Fs) (many loops nodes : Nat) : (cpA fs many loops nodes).length = min many fs.length := by simp [cpA]
theorem fcA_cpA_len (fs : Fs) {many loops nodes f : Nat} (h : f < many) : (fcA (cpA fs many loops nodes) f).length = min loops (fcA fs f).length := by rw [fcA_cpA fs h]; simp
def SCy (B : Nat) (fs : Fs) (ad ad1 : Addr) (A2 : Option Addr) (c c0 c2 k l n m nodes : Nat) (d : Nat) (W : World) (v : Value) : Prop := match d with | 39 => v = .slice none 0 0 | 40 => v = .slice (some ad) fs.length c | 41 => v = .int .i64 k | 42 => v = .pointer (some (ad.add k)) | 43 => v = .slice (some ad1) (fcA fs k).length c0 | 44 => v = .int .i64 l | 45 => v = .pointer (some (ad1.add l)) | 46 => v = .slice A2 n c2 | 47 => v = .slice (some ad) fs.length c | 48 => v = .int .i64 k | 49 => v = .pointer (some (ad.add k)) | 50 => v = .slice (some ad1) (fcA fs k).length c0 | 51 => v = .int .i64 l | 52 => v = .pointer (some (ad1.add l)) | 53 => v = .slice A2 n c2 | 54 => v = .int .i64 n | 55 => v = .int .i64 nodes | 56 => v = .int .i64 m | 57 => v = .slice A2 m c2 | 58 => W.ownsRow B 3 1 v m (intsV ((lpA fs k l).take nodes)) | 13 => W.ownsRow B 3 1 v m (intsV ((lpA fs k l).take nodes)) | _ => True
theorem SCy.grown {B : Nat} {fs : Fs} {ad ad1 : Addr} {A2 : Option Addr} {c c0 c2 k l n m nodes : Nat} {W W1 : World} (hg : W.grownBy W1 none) : ∀ d v, SCy B fs ad ad1 A2 c c0 c2 k l n m nodes d W v → SCy B fs ad ad1 A2 c c0 c2 k l n m nodes d W1 v := by
  intro d v h
  unfold SCy at h ⊢
  split at h
  all_goals first | exact h | exact own_keptB h hg (fun b e => by cases e)

set_option maxRecDepth 100000 in
set_option maxHeartbeats 4000000 in
theorem copy_any (A : Option Addr) (c : Nat) (fs : Fs) (many loops nodes : Nat) (w : World) (hF : RF w A fs) (hc : fs.length ≤ c) (hm : many ≤ 100000) (hl : loops ≤ 100000) (hn : nodes ≤ 100000) :
    Calls Tryz.prog 21 #[.slice A fs.length c, .int .i64 many, .int .i64 loops, .int .i64 nodes] w fun e w' => (∃ v vf vl, e = .returned v ∧ MW w.heap.size v (cpA fs many loops nodes) (cpA fs many loops nodes).length vf vl w') ∧ Below w.heap.size w w' := by
  have HF := Lib.hid hF
  have HMA := Lib.hid hm
  have HLO := Lib.hid hl
  have HNO := Lib.hid hn
  have hN := hF.len
  clear hF hc hm hl hn
  go_enter Tryz.func21, Tryz.ntmps21
  go_wp2
  obtain ⟨G, hG⟩ : ∃ G, G = cpA fs many loops nodes := ⟨_, rfl⟩
  have HGG := Lib.hid hG
  clear hG
  have HB0 : Hid (Below w.heap.size w w) := Below.refl _ _
  go_loopw [9, 10] (fun s9 s10 wr => ∃ (k : Nat) (vf : Nat → Value) (vl : Nat → Nat → Value), k ≤ fs.length ∧ k ≤ many ∧ s10 = .int .i64 k ∧ Hid (Below w.heap.size w wr) ∧ Hid (MW w.heap.size s9 G k vf vl wr)) (fun _ v _ => fs.length - (intOf v).toNat)
  case atStart => exact ⟨0, fun _ => undef, fun _ _ => undef, by omega, by omega, rfl, HB0, MW.nil _ _ _⟩
  case round =>
    clear HB0
    rename World => wr
    obtain ⟨k, vf, vl, hk, hkm, rfl, HB, HM⟩ := hrel
    by_cases hlt : k < fs.length ∧ k < many
    · obtain ⟨hlt, hltm⟩ := hlt
      have hkz : (k : Int) < (fs.length : Int) := by omega
      have hkmz : (k : Int) < (many : Int) := by omega
      obtain ⟨ad, A0, c0, rfl, hc0, hl0, hr0⟩ := HF.out.at hlt
      have HCK := Lib.hid hc0
      have hc0 := pw_cell_below HB.out hc0
      have HR0 := Lib.hid hr0
      have hn0 := hr0.len
      obtain ⟨B', hB'⟩ : ∃ B', wr.heap.size = B' := ⟨_, rfl⟩
      have HOLD : Hid (∀ b, MB u9 G k vf vl b → b < B') := fun b hb => by rw [← hB']; exact (HM.out.lt hb).2
      have HBB : Hid (w.heap.size ≤ B') := by rw [← hB']; exact HB.out.size
      have HFCK : Hid (fcA G k = ((fcA fs k).take loops).map fun l => l.take nodes) := by rw [HGG.out]; exact fcA_cpA fs hltm
      clear hr0
      go_upto_region 5 with fail
      go_cut [11] from 14 to 66 (fun s11 wc => s11 = .slice none 0 0 ∧ wr = wc)
      case first =>
        go_wp2
        go_meet
        case rel => exact ⟨rfl, rfl⟩
      case rest =>
      obtain ⟨rfl, rfl⟩ := hcut
      go_wp2
      go_loopw [11, 12] (fun s11 s12 wi => ∃ (l : Nat) (lv : Nat → Value), l ≤ (fcA fs k).length ∧ l ≤ loops ∧ s12 = .int .i64 l ∧ Hid (Below w.heap.size w wi) ∧ Hid (MW w.heap.size u9 G k vf vl wi) ∧ Hid (FW B' s11 (fcA G k) l lv wi) ∧ Hid (B' ≤ wi.heap.size)) (fun _ v _ => (fcA fs k).length - (intOf v).toNat)
      case atStart => exact ⟨0, fun _ => undef, by omega, by omega, rfl, HB, HM, FW.nil _ _, Nat.le_of_eq hB'.symm⟩
      case round =>
        clear HB HM hc0 hB'
        rename World => wi
        obtain ⟨l, lv, hl, hlm, rfl, HBI, HM, HFW, HSZ⟩ := hrel
        have hc0 := pw_cell_below HBI.out (show w.cell? (ad.add k) = some (.slice A0 (fcA fs k).length c0) from HCK.out)
        by_cases hlt2 : l < (fcA fs k).length ∧ l < loops
        · obtain ⟨hlt2, hltm2⟩ := hlt2
          have hlz : (l : Int) < ((fcA fs k).length : Int) := by omega
          have hlmz : (l : Int) < (loops : Int) := by omega
          obtain ⟨ad1, A2, c2, rfl, hc1, hl1, hr1⟩ := HR0.out.atP hlt2
          have HR1 := Lib.hid hr1
          have HC1 : Hid (∀ W, Below w.heap.size w W → W.cell? (ad1.add l) = some (.slice A2 (lpA fs k l).length c2)) := fun W h => pw_cell_below h hc1
          have HC0 : Hid (∀ W, Below w.heap.size w W → W.cell? (ad.add k) = some (.slice (some ad1) (fcA fs k).length c0)) := fun W h => pw_cell_below h HCK.out
          obtain ⟨n, hn⟩ : ∃ n, n = (lpA fs k l).length := ⟨_, rfl⟩
          have hn1 := hr1.len
          rw [← hn] at hl1 hn1
          obtain ⟨m, hm⟩ : ∃ m, m = min n nodes := ⟨_, rfl⟩
          have HN := Lib.hid hn
          rw [← hn] at HC1
          have hmz : min (n : Int) (nodes : Int) = (m : Int) := by omega
          have HM0 := Lib.hid hm
          clear hr1 hc1 hn hm
          go_upto_region 9 with fail
          go_cut [13] from 25 to 62 (fun s13 wc => s13 = .slice none 0 0 ∧ wi = wc)
          case first =>
            go_wp2
            go_meet
            case rel => exact ⟨rfl, rfl⟩
          case rest =>
            obtain ⟨rfl, rfl⟩ := hcut
            clear hc0
            go_upto_region 10 with fail
            obtain ⟨iI, hiI, hiI0, hiI1, hiI2⟩ := info_parts infoI
            refine wp_region_inv' (by kernel_rfl) (by kernel_rfl) (fun listed aa wy => ∃ t : Nat → Value, aa = { tmps := #[.slice (some ad) fs.length c, .int .i64 many, .int .i64 loops, .int .i64 nodes, undef, undef, undef, undef, .slice none 0 0, u9, .int .i64 k, u11, .int .i64 l, t 13, u14, u15, u16, u17, u18, u19, u20, u21, u22, u23, u24, u25, u26, u27, u28, u29, u30, u31, u32, u33, u34, u35, u36, u37, u38, t 39, t 40, t 41, t 42, t 43, t 44, t 45, t 46, t 47, t 48, t 49, t 50, t 51, t 52, t 53, t 54, t 55, t 56, t 57, t 58, u59, u60, u61, u62, u63, u64, u65, u66, undef], defers := [] } ∧ IRX 20 13 (.slice none 0 0) (fun wz => Below w.heap.size w wz ∧ MW w.heap.size u9 G k vf vl wz ∧ FW B' u11 (fcA G k) l lv wz ∧ B' ≤ wz.heap.size) (SCy B' fs ad ad1 A2 c c0 c2 k l n m nodes) [(0, 39), (1, 40), (2, 41), (3, 42), (4, 43), (5, 44), (6, 45), (7, 46), (8, 47), (9, 48), (10, 49), (11, 50), (12, 51), (13, 52), (14, 53), (15, 54), (16, 55), (17, 56), (18, 57), (19, 58), (20, 13)] listed t wy) ⟨(fun d => match d with | 13 => .slice none 0 0 | 39 => u39 | 40 => u40 | 41 => u41 | 42 => u42 | 43 => u43 | 44 => u44 | 45 => u45 | 46 => u46 | 47 => u47 | 48 => u48 | 49 => u49 | 50 => u50 | 51 => u51 | 52 => u52 | 53 => u53 | 54 => u54 | 55 => u55 | 56 => u56 | 57 => u57 | 58 => u58 | _ => undef), rfl, IRX.start _ ⟨HBI.out.grown (grown_drew _) HBI.out.size (fun k e => by cases e), HM.out.kept (grown_drew _) (fun r e => by cases e), HFW.out.kept (grown_drew _) (fun r e => by cases e), HSZ.out⟩ _ rfl⟩ ?_ ?_
            rotate_left
            · rintro listed hCl ix hix aa wy ⟨t, rfl, hR⟩ hr
              match ix, hix, hr with
              | 0, _, hr =>
                as_aux_lemma =>
                refine wpOp_step rfl (fun K' hK => ?_)
                have e0 : t 13 = .slice none 0 0 := hR.ini (hCl.not hr 9 (by kernel_rfl))
                go_simp
                exact hK _ _ ⟨upd t 39 (.slice none 0 0), by first | (simp [upd, e0]; done) | (simp [upd, e0]; rfl), hR.yields (by decide) (by decide) hR.ir.fin (fun _ _ h => h) (by rfl) rfl⟩
              | 1, _, hr =>
                as_aux_lemma =>
                refine wpOp_step rfl (fun K' hK => ?_)
                go_simp
                exact hK _ _ ⟨upd t 40 (.slice (some ad) fs.length c), rfl, hR.yields (by decide) (by decide) hR.ir.fin (fun _ _ h => h) (by rfl) rfl⟩
              | 2, _, hr =>
                as_aux_lemma =>
                refine wpOp_step rfl (fun K' hK => ?_)
                go_simp
                exact hK _ _ ⟨upd t 41 (.int .i64 k), rfl, hR.yields (by decide) (by decide) hR.ir.fin (fun _ _ h => h) (by rfl) rfl⟩
              | 3, _, hr =>
                as_aux_lemma =>
                refine wpOp_step rfl (fun K' hK => ?_)
                have e1 : t 40 = .slice (some ad) fs.length c := hR.ir.val (1, 40) (by simp) (dep_of hr 1 (by kernel_rfl))
                have e2 : t 41 = .int .i64 k := hR.ir.val (2, 41) (by simp) (dep_of hr 2 (by kernel_rfl))
                go_simp
                exact hK _ _ ⟨upd t 42 (.pointer (some (ad.add k))), by first | (simp [upd, e1, e2]; done) | (simp [upd, e1, e2]; rfl), hR.yields (by decide) (by decide) hR.ir.fin (fun _ _ h => h) (by rfl) rfl⟩
              | 4, _, hr =>
                as_aux_lemma =>
                refine wpOp_step rfl (fun K' hK => ?_)
                have e1 : t 42 = .pointer (some (ad.add k)) := hR.ir.val (3, 42) (by simp) (dep_of hr 3 (by kernel_rfl))
                have f0 := HC0.out _ hR.ir.fin.1
                go_simp
                exact hK _ _ ⟨upd t 43 (.slice (some ad1) (fcA fs k).length c0), by first | (simp [upd, e1]; done) | (simp [upd, e1]; rfl), hR.yields (by decide) (by decide) hR.ir.fin (fun _ _ h => h) (by rfl) rfl⟩
              | 5, _, hr =>
                as_aux_lemma =>
                refine wpOp_step rfl (fun K' hK => ?_)
                go_simp
                exact hK _ _ ⟨upd t 44 (.int .i64 l), rfl, hR.yields (by decide) (by decide) hR.ir.fin (fun _ _ h => h) (by rfl) rfl⟩
              | 6, _, hr =>
                as_aux_lemma =>
                refine wpOp_step rfl (fun K' hK => ?_)
                have e1 : t 43 = .slice (some ad1) (fcA fs k).length c0 := hR.ir.val (4, 43) (by simp) (dep_of hr 4 (by kernel_rfl))
                have e2 : t 44 = .int .i64 l := hR.ir.val (5, 44) (by simp) (dep_of hr 5 (by kernel_rfl))
                go_simp
                exact hK _ _ ⟨upd t 45 (.pointer (some (ad1.add l))), by first | (simp [upd, e1, e2]; done) | (simp [upd, e1, e2]; rfl), hR.yields (by decide) (by decide) hR.ir.fin (fun _ _ h => h) (by rfl) rfl⟩
              | 7, _, hr =>
                as_aux_lemma =>
                refine wpOp_step rfl (fun K' hK => ?_)
                have e1 : t 45 = .pointer (some (ad1.add l)) := hR.ir.val (6, 45) (by simp) (dep_of hr 6 (by kernel_rfl))
                have f0 := HC1.out _ hR.ir.fin.1
                go_simp
                exact hK _ _ ⟨upd t 46 (.slice A2 n c2), by first | (simp [upd, e1]; done) | (simp [upd, e1]; rfl), hR.yields (by decide) (by decide) hR.ir.fin (fun _ _ h => h) (by rfl) rfl⟩
              | 8, _, hr =>
                as_aux_lemma =>
                refine wpOp_step rfl (fun K' hK => ?_)
                go_simp
                exact hK _ _ ⟨upd t 47 (.slice (some ad) fs.length c), rfl, hR.yields (by decide) (by decide) hR.ir.fin (fun _ _ h => h) (by rfl) rfl⟩
              | 9, _, hr =>
                as_aux_lemma =>
                refine wpOp_step rfl (fun K' hK => ?_)
                go_simp
                exact hK _ _ ⟨upd t 48 (.int .i64 k), rfl, hR.yields (by decide) (by decide) hR.ir.fin (fun _ _ h => h) (by rfl) rfl⟩
              | 10, _, hr =>
                as_aux_lemma =>
                refine wpOp_step rfl (fun K' hK => ?_)
                have e1 : t 47 = .slice (some ad) fs.length c := hR.ir.val (8, 47) (by simp) (dep_of hr 8 (by kernel_rfl))
                have e2 : t 48 = .int .i64 k := hR.ir.val (9, 48) (by simp) (dep_of hr 9 (by kernel_rfl))
                go_simp
                exact hK _ _ ⟨upd t 49 (.pointer (some (ad.add k))), by first | (simp [upd, e1, e2]; done) | (simp [upd, e1, e2]; rfl), hR.yields (by decide) (by decide) hR.ir.fin (fun _ _ h => h) (by rfl) rfl⟩
              | 11, _, hr =>
                as_aux_lemma =>
                refine wpOp_step rfl (fun K' hK => ?_)
                have e1 : t 49 = .pointer (some (ad.add k)) := hR.ir.val (10, 49) (by simp) (dep_of hr 10 (by kernel_rfl))
                have f0 := HC0.out _ hR.ir.fin.1
                go_simp
                exact hK _ _ ⟨upd t 50 (.slice (some ad1) (fcA fs k).length c0), by first | (simp [upd, e1]; done) | (simp [upd, e1]; rfl), hR.yields (by decide) (by decide) hR.ir.fin (fun _ _ h => h) (by rfl) rfl⟩
              | 12, _, hr =>
                as_aux_lemma =>
                refine wpOp_step rfl (fun K' hK => ?_)
                go_simp
                exact hK _ _ ⟨upd t 51 (.int .i64 l), rfl, hR.yields (by decide) (by decide) hR.ir.fin (fun _ _ h => h) (by rfl) rfl⟩
              | 13, _, hr =>
                as_aux_lemma =>
                refine wpOp_step rfl (fun K' hK => ?_)
                have e1 : t 50 = .slice (some ad1) (fcA fs k).length c0 := hR.ir.val (11, 50) (by simp) (dep_of hr 11 (by kernel_rfl))
                have e2 : t 51 = .int .i64 l := hR.ir.val (12, 51) (by simp) (dep_of hr 12 (by kernel_rfl))
                go_simp
                exact hK _ _ ⟨upd t 52 (.pointer (some (ad1.add l))), by first | (simp [upd, e1, e2]; done) | (simp [upd, e1, e2]; rfl), hR.yields (by decide) (by decide) hR.ir.fin (fun _ _ h => h) (by rfl) rfl⟩
              | 14, _, hr =>
                as_aux_lemma =>
                refine wpOp_step rfl (fun K' hK => ?_)
                have e1 : t 52 = .pointer (some (ad1.add l)) := hR.ir.val (13, 52) (by simp) (dep_of hr 13 (by kernel_rfl))
                have f0 := HC1.out _ hR.ir.fin.1
                go_simp
                exact hK _ _ ⟨upd t 53 (.slice A2 n c2), by first | (simp [upd, e1]; done) | (simp [upd, e1]; rfl), hR.yields (by decide) (by decide) hR.ir.fin (fun _ _ h => h) (by rfl) rfl⟩
              | 15, _, hr =>
                as_aux_lemma =>
                refine wpOp_step rfl (fun K' hK => ?_)
                have e1 : t 53 = .slice A2 n c2 := hR.ir.val (14, 53) (by simp) (dep_of hr 14 (by kernel_rfl))
                go_simp
                exact hK _ _ ⟨upd t 54 (.int .i64 n), by first | (simp [upd, e1]; done) | (simp [upd, e1]; rfl), hR.yields (by decide) (by decide) hR.ir.fin (fun _ _ h => h) (by rfl) rfl⟩
              | 16, _, hr =>
                as_aux_lemma =>
                refine wpOp_step rfl (fun K' hK => ?_)
                go_simp
                exact hK _ _ ⟨upd t 55 (.int .i64 nodes), rfl, hR.yields (by decide) (by decide) hR.ir.fin (fun _ _ h => h) (by rfl) rfl⟩
              | 17, _, hr =>
                as_aux_lemma =>
                refine wpOp_step rfl (fun K' hK => ?_)
                have e1 : t 54 = .int .i64 n := hR.ir.val (15, 54) (by simp) (dep_of hr 15 (by kernel_rfl))
                have e2 : t 55 = .int .i64 nodes := hR.ir.val (16, 55) (by simp) (dep_of hr 16 (by kernel_rfl))
                go_simp
                exact hK _ _ ⟨upd t 56 (.int .i64 m), by first | (simp [upd, e1, e2]; done) | (simp [upd, e1, e2]; rfl), hR.yields (by decide) (by decide) hR.ir.fin (fun _ _ h => h) (by rfl) rfl⟩
              | 18, _, hr =>
                as_aux_lemma =>
                refine wpOp_step rfl (fun K' hK => ?_)
                have e1 : t 46 = .slice A2 n c2 := hR.ir.val (7, 46) (by simp) (dep_of hr 7 (by kernel_rfl))
                have e2 : t 56 = .int .i64 m := hR.ir.val (17, 56) (by simp) (dep_of hr 17 (by kernel_rfl))
                have hct := cut_to (P := Tryz.prog) 43 3 .i64 Tryz.underlying43 hiI A2 n c2 (m : Int) (by omega) (by have := HM0.out; omega) hl1 wy
                rw [Int.toNat_natCast] at hct
                go_simp
                exact hK _ _ ⟨upd t 57 (.slice A2 m c2), by first | (simp [upd, e1, e2]; done) | (simp [upd, e1, e2]; rfl), hR.yields (by decide) (by decide) hR.ir.fin (fun _ _ h => h) (by rfl) rfl⟩
              | 19, _, hr =>
                as_aux_lemma =>
                refine wpOp_step rfl (fun K' hK => ?_)
                have e1 : t 39 = .slice none 0 0 := hR.ir.val (0, 39) (by simp) (dep_of hr 0 (by kernel_rfl))
                have e2 : t 57 = .slice A2 m c2 := hR.ir.val (18, 57) (by simp) (dep_of hr 18 (by kernel_rfl))
                have hI2 := hR.ir.fin
                have hr2 := RI.below HR1.out hI2.1
                have hr3 : RI wy A2 ((lpA fs k l).take nodes) := by have h := Kd.C_take (m := m) hr2 (by have h1 := HM0.out; have h2 := HN.out; omega); rwa [show (lpA fs k l).take m = (lpA fs k l).take nodes by have h1 := HM0.out; have h2 := HN.out; rw [List.take_eq_take_iff]; omega] at h
                refine step_append_ints rfl (.tmp 39) (.tmp 57) rfl B' (.slice none 0 0) [] ((lpA fs k l).take nodes) A2 m c2 (by have h1 := HM0.out; have h2 := HN.out; rw [List.length_take]; omega) e1 e2 (World.ownsRow_nil _ _ _ _) hr3 hI2.2.2.2 (by have h1 := HNO.out; rw [List.length_take]; simp; omega) ?_
                intro v1 w1 hown hg hat
                have hg : wy.grownBy w1 none := hg
                refine hK _ _ ⟨upd t 58 v1, rfl, hR.yields (by decide) (by decide) ⟨hI2.1.grown hg hI2.1.size (fun k e => by cases e), hI2.2.1.kept hg (fun r e => by cases e), hI2.2.2.1.kept hg (fun r e => by cases e), Nat.le_trans hI2.2.2.2 hg.size⟩ (SCy.grown hg) ?_ rfl⟩
                have hl3 : ([] ++ (lpA fs k l).take nodes).length = m := by have h1 := HM0.out; have h2 := HN.out; simp; omega
                rw [hl3] at hown
                exact hown
              | 20, _, hr =>
                as_aux_lemma =>
                refine wpOp_step rfl (fun K' hK => ?_)
                have h58 : wy.ownsRow B' 3 1 (t 58) m (intsV ((lpA fs k l).take nodes)) := hR.ir.val (19, 58) (by simp) (dep_of hr 19 (by kernel_rfl))
                go_simp
                exact hK _ _ ⟨upd t 13 (t 58), rfl, hR.ends hr hR.ir.fin (fun _ _ h => h) h58 rfl⟩
              | nx + 21, hix, _ => exact absurd (show nx + 21 < 21 from hix) (by omega)
            rintro listed a2 W10 ⟨t, rfl, hR⟩ hl
            have hrow : W10.ownsRow B' 3 1 (t 13) m (intsV ((lpA fs k l).take nodes)) := hR.ir.val (20, 13) (by simp) (hl 20 (by decide))
            obtain ⟨hB10, hM10, hF10, hS10⟩ := hR.ir.fin
            clear hR hl
            generalize t 13 = u13 at hrow ⊢
            generalize t 39 = u39
            generalize t 40 = u40
            generalize t 41 = u41
            generalize t 42 = u42
            generalize t 43 = u43
            generalize t 44 = u44
            generalize t 45 = u45
            generalize t 46 = u46
            generalize t 47 = u47
            generalize t 48 = u48
            generalize t 49 = u49
            generalize t 50 = u50
            generalize t 51 = u51
            generalize t 52 = u52
            generalize t 53 = u53
            generalize t 54 = u54
            generalize t 55 = u55
            generalize t 56 = u56
            generalize t 57 = u57
            generalize t 58 = u58
            obtain ⟨⟨A13, n13, c13⟩, h13⟩ := slice_of_own hrow
            simp only [encS] at h13
            subst h13
            obtain ⟨iL, hiL, hiL0, hiL1, hiL2⟩ := info_parts infoL
            have hg3 : W10.grownBy (W10.alloc (.cells #[.slice A13 n13 c13] 43)) none := World.grownBy_alloc _ _ _
            have HBX3 := Lib.hid (hB10.grown hg3 hB10.size (fun k e => by cases e))
            have HM3 := Lib.hid (hM10.kept hg3 (fun r e => by cases e))
            have HFW3 := Lib.hid (hF10.kept hg3 (fun r e => by cases e))
            have HOW3 := Lib.hid (own_keptB hrow hg3 (fun r e => by cases e))
            have HS3 : Hid (B' ≤ (W10.alloc (.cells #[.slice A13 n13 c13] 43)).heap.size) := Nat.le_trans hS10 hg3.size
            have hs0l : l + 1 ≤ 1000001 := by have := HLO.out; omega
            clear hg3 hB10 hM10 hF10 hS10 hrow HBI HM HFW HSZ
            go_wp2_with (at_builtin; refine wpList_append_own _ rfl _ _ 42 rfl B' 43 iL (.slice none 0 0) 1 24 Tryz.underlying42 hiL hiL0 hiL1 hiL2 rfl (by decide) _ _ _ rfl HFW3.out.own ⟨W10.heap.size, 0, none⟩ 1 1 [.slice A13 n13 c13] rfl rfl (cell_one_new _ _ _) (by simp [Value.oneCell']) (by simp only [maxLen]; omega) (by omega) HS3.out ?_; intro v' w4 hown4 hg4 _)
            go_roundw
            case rel =>
              have hB4 : ∀ r, u11.ownBlock = some r → B' ≤ r := fun r e => (HFW3.out.lt (.inl e)).1
              have hll : lA (fcA G k) l = (lpA fs k l).take nodes := by rw [HGG.out]; exact lpA_cpA fs hltm hltm2
              refine ⟨l + 1, fun j => if j = l then .slice A13 n13 c13 else lv j, by omega, by omega, by go_num, HBX3.out.grown hg4 HBX3.out.size (fun r e => by have := hB4 r e; have := HBB.out; omega), HM3.out.kept hg4 (fun r e q => by have := hB4 r e; have := HOLD.out _ q; omega), FW.snoc HFW3.out ?_ hown4 hg4, Nat.le_trans HS3.out hg4.size⟩
              rw [hll, show ((lpA fs k l).take nodes).length = m by have h1 := HM0.out; have h2 := HN.out; rw [List.length_take]; omega]
              exact HOW3.out
            case measure => simp [intOf]; omega
        · have HLEN : Hid (l = (fcA G k).length) := by
            show l = _
            rw [HGG.out, fcA_cpA_len fs hltm]; omega
          obtain ⟨AF, cF, hu11⟩ := own_slice HFW.out.own
          subst hu11
          obtain ⟨iF, hiF, hiF0, hiF1, hiF2⟩ := info_parts infoF
          have hg3 : wi.grownBy (wi.alloc (.cells #[.slice AF l cF] 42)) none := World.grownBy_alloc _ _ _
          have HBX3 := Lib.hid (HBI.out.grown hg3 HBI.out.size (fun k e => by cases e))
          have HM3 := Lib.hid (HM.out.kept hg3 (fun r e => by cases e))
          have HFW3 := Lib.hid (HFW.out.kept hg3 (fun r e => by cases e))
          have HS3 : Hid (w.heap.size ≤ (wi.alloc (.cells #[.slice AF l cF] 42)).heap.size) := Nat.le_trans HBI.out.size hg3.size
          have hkb : k + 1 ≤ 100000 := by have := HMA.out; omega
          clear hg3 HBI HM HFW
          by_cases hq : (l : Int) < ((fcA fs k).length : Int)
          · have hq2 : ¬ (l : Int) < (loops : Int) := by omega
            go_wp2_with (at_builtin; refine wpList_append_own _ rfl _ _ 26 rfl w.heap.size 42 iF (.slice none 0 0) 1 24 Tryz.underlying26 hiF hiF0 hiF1 hiF2 rfl (by decide) _ _ _ rfl HM3.out.own ⟨wi.heap.size, 0, none⟩ 1 1 [.slice AF l cF] rfl rfl (cell_one_new _ _ _) (by simp [Value.oneCell']) (by simp only [maxLen]; omega) (by omega) HS3.out ?_; intro v' w4 hown4 hg4 _)
            go_roundw
            case rel =>
              have hm5 := MW.snoc HM3.out (by rw [← HLEN.out]; exact HFW3.out.lower HBB.out) (fun f hf => by
                cases hb : (vf f).ownBlock with
                | none => exact .inl rfl
                | some r => exact .inr (fun e => by
                    have h1 := HOLD.out r (.inr ⟨f, hf, .inl hb⟩)
                    have h2 := (HFW3.out.lt (.inl e.symm)).1
                    omega)) hown4 hg4
              exact ⟨k + 1, _, _, by omega, by omega, by go_num, HBX3.out.grown hg4 HBX3.out.size (fun r e => (HM3.out.lt (.inl e)).1), hm5⟩
            case measure => simp [intOf]; omega
          · go_wp2_with (at_builtin; refine wpList_append_own _ rfl _ _ 26 rfl w.heap.size 42 iF (.slice none 0 0) 1 24 Tryz.underlying26 hiF hiF0 hiF1 hiF2 rfl (by decide) _ _ _ rfl HM3.out.own ⟨wi.heap.size, 0, none⟩ 1 1 [.slice AF l cF] rfl rfl (cell_one_new _ _ _) (by simp [Value.oneCell']) (by simp only [maxLen]; omega) (by omega) HS3.out ?_; intro v' w4 hown4 hg4 _)
            go_roundw
            case rel =>
              have hm5 := MW.snoc HM3.out (by rw [← HLEN.out]; exact HFW3.out.lower HBB.out) (fun f hf => by
                cases hb : (vf f).ownBlock with
                | none => exact .inl rfl
                | some r => exact .inr (fun e => by
                    have h1 := HOLD.out r (.inr ⟨f, hf, .inl hb⟩)
                    have h2 := (HFW3.out.lt (.inl e.symm)).1
                    omega)) hown4 hg4
              exact ⟨k + 1, _, _, by omega, by omega, by go_num, HBX3.out.grown hg4 HBX3.out.size (fun r e => (HM3.out.lt (.inl e)).1), hm5⟩
            case measure => simp [intOf]; omega
    · have HLEN : Hid (k = G.length) := by
        show k = _
        rw [HGG.out, cpA_len]; omega
      obtain ⟨AV, cV, hu9⟩ := own_slice HM.out.own
      subst hu9
      by_cases hq : (k : Int) < (fs.length : Int)
      · have hq2 : ¬ (k : Int) < (many : Int) := by omega
        go_wp2
        go_ret
        exact ⟨⟨_, rfl, vf, vl, by rw [← HGG.out, ← HLEN.out]; exact HM.out⟩, HB.out⟩
      · go_wp2
        go_ret
        exact ⟨⟨_, rfl, vf, vl, by rw [← HGG.out, ← HLEN.out]; exact HM.out⟩, HB.out⟩

end Go.Proofs.YtealnhaffphamaaGreat

-- PRINTED BY print.sh 35421559b90ae4d0a3588c463048766b98c2df88dd9212a6774a882060cdf62d: not written by this session
namespace Go.Proofs.YtealnhaffphamaaGreat.PCmp
open Go.RowKit Go.Proofs.YtealnhaffphamaaGreatW.PrintWords Go.Proofs.YtealnhaffphamaaGreatW.PrintLast Go.Proofs.YtealnhaffphamaaGreatW.PrintMore
attribute [local go_sem] max2_int min2_int max_two min_two max_three min_three max_four min_four   -- for this text's walks alone
set_option linter.unusedVariables false
set_option linter.unusedSimpArgs false



def errW : Option Int → Value
  | none => .nilIface
  | some c => .iface 0 (.int .i64 c)
theorem errW_none : errW none = .nilIface := rfl
theorem errW_some (c : Int) : errW (some c) = .iface 0 (.int .i64 c) := rfl

-- the values' own types

end Go.Proofs.YtealnhaffphamaaGreat.PCmp
