/- Contracts of the functions that the statement reaches, and plain lemmas: part 26 of 29. -/
import Derived.Test.YtealnhaffphamaaGreatK25
import Derived.Test.YtealnhaffphamaaGreatK18
import Derived.Deep.CutRange
import Derived.WalkMore
set_option linter.unusedVariables false
set_option linter.unusedSimpArgs false

namespace Go.Proofs.YtealnhaffphamaaGreat
open Go.RowKit Go.Shelf Go.Proofs.YtealnhaffphamaaGreatW.PrintWords
open Classical

noncomputable def boE (N : Int) (fs : Fs) (M : Int) (gs : Fs) : Except Int (Int × Fs) :=
  if ¬ RightP N fs ∨ ¬ RightP M gs then .error 140 else fitE (N + M) (fs ++ shAll N gs)

/-! ### two models copied, in either order -/
def Cp2 (B : Nat) (N : Int) (fs : Fs) (s : Nat) (W : World) (t : Nat → Value) : Prop := ∃ A c vf vl, t s = .agg #[.int .i64 N, .slice A fs.length c] ∧ MW B (.slice A fs.length c) fs fs.length vf vl W ∧ MD fs fs.length vl ∧ MX fs fs.length vl
def CpB (B : Nat) (N M : Int) (fs gs : Fs) (W : World) (t : Nat → Value) : Prop := ∃ A c vf vl A2 c2 wf wl, t 23 = .agg #[.int .i64 N, .slice A fs.length c] ∧ MW B (.slice A fs.length c) fs fs.length vf vl W ∧ t 25 = .agg #[.int .i64 M, .slice A2 gs.length c2] ∧ MW B (.slice A2 gs.length c2) gs gs.length wf wl W ∧ MD gs gs.length wl ∧ MX gs gs.length wl ∧ ∀ b, MB (.slice A fs.length c) fs fs.length vf vl b → ¬ MB (.slice A2 gs.length c2) gs gs.length wf wl b
def BxA (B s : Nat) (W : World) (t : Nat → Value) : Prop := ∃ O, t s = .pointer (some ⟨O, 0, none⟩) ∧ B ≤ O ∧ ∃ x y, Blk W O (.cells #[x, y] 31)
def BxN (_ : World) (t : Nat → Value) : Prop := ∃ O O', t 6 = .pointer (some ⟨O, 0, none⟩) ∧ t 7 = .pointer (some ⟨O', 0, none⟩) ∧ O ≠ O'
def BxS (N : Int) (n s r : Nat) (W : World) (t : Nat → Value) : Prop := ∃ O A c, t s = .pointer (some ⟨O, 0, none⟩) ∧ t r = .agg #[.int .i64 N, .slice A n c] ∧ Blk W O (.cells #[.int .i64 N, .slice A n c] 31)
section
variable {B n s r : Nat} {N M : Int} {fs gs : Fs} {W W1 : World} {t t' : Nat → Value}
theorem Cp2.mono (h : Cp2 B N fs s W t) (e : t' s = t s) (hg : W.grownBy W1 none) : Cp2 B N fs s W1 t' := by
  obtain ⟨A, c, vf, vl, h1, h2, h3⟩ := h
  exact ⟨A, c, vf, vl, e.trans h1, h2.kept hg (fun r e => by cases e), h3⟩
theorem CpB.mono (h : CpB B N M fs gs W t) (e : t' 23 = t 23) (e2 : t' 25 = t 25) (hg : W.grownBy W1 none) : CpB B N M fs gs W1 t' := by
  obtain ⟨A, c, vf, vl, A2, c2, wf, wl, h1, h2, h3, h4, h5⟩ := h
  exact ⟨A, c, vf, vl, A2, c2, wf, wl, e.trans h1, h2.kept hg (fun r e => by cases e), e2.trans h3, h4.kept hg (fun r e => by cases e), h5⟩
theorem BxA.mono (h : BxA B s W t) (e : t' s = t s) (hg : W.grownBy W1 none) : BxA B s W1 t' := by
  obtain ⟨O, h1, h2, x, y, h3⟩ := h
  exact ⟨O, e.trans h1, h2, x, y, h3.kept hg (by simp)⟩
theorem BxS.mono (h : BxS N n s r W t) (e : t' s = t s) (e2 : t' r = t r) (hg : W.grownBy W1 none) : BxS N n s r W1 t' := by
  obtain ⟨O, A, c, h1, h2, h3⟩ := h
  exact ⟨O, A, c, e.trans h1, e2.trans h2, h3.kept hg (by simp)⟩
theorem set2_grown (W : World) (O : Nat) (x y : Value) : W.grownBy ((W.setCell ⟨O, 0, none⟩ x).setCell ⟨O, 1, none⟩ y) (some O) := (grown_set _ _ _ _).trans (grown_set _ _ _ _)
theorem MW.set2 {base k : Nat} {v : Value} {vf : Nat → Value} {vl : Nat → Nat → Value} {O : Nat} {cs : Array Value} (h : MW base v fs k vf vl W) (hO : Blk W O (.cells cs 31)) (x y : Value) : MW base v fs k vf vl ((W.setCell ⟨O, 0, none⟩ x).setCell ⟨O, 1, none⟩ y) :=
  h.kept (set2_grown _ _ _ _) (fun r e q => by cases e; exact h.not_model hO q)
theorem Cp2.set (h : Cp2 B N fs s W t) {O : Nat} {cs : Array Value} (hO : Blk W O (.cells cs 31)) (x y : Value) : Cp2 B N fs s ((W.setCell ⟨O, 0, none⟩ x).setCell ⟨O, 1, none⟩ y) t := by
  obtain ⟨A, c, vf, vl, h1, h2, h3⟩ := h
  exact ⟨A, c, vf, vl, h1, h2.set2 hO x y, h3⟩
theorem CpB.set (h : CpB B N M fs gs W t) {O : Nat} {cs : Array Value} (hO : Blk W O (.cells cs 31)) (x y : Value) : CpB B N M fs gs ((W.setCell ⟨O, 0, none⟩ x).setCell ⟨O, 1, none⟩ y) t := by
  obtain ⟨A, c, vf, vl, A2, c2, wf, wl, h1, h2, h3, h4, h5⟩ := h
  exact ⟨A, c, vf, vl, A2, c2, wf, wl, h1, h2.set2 hO x y, h3, h4.set2 hO x y, h5⟩
theorem BxA.set (h : BxA B s W t) {O : Nat} {u v : Value} (hO : Blk W O (.cells #[u, v] 31)) (x y : Value) : BxA B s ((W.setCell ⟨O, 0, none⟩ x).setCell ⟨O, 1, none⟩ y) t := by
  obtain ⟨O', h1, h2, x', y', h3⟩ := h
  by_cases e : O' = O
  · subst e; exact ⟨O', h1, h2, x, y, blk_set2 hO⟩
  · exact ⟨O', h1, h2, x', y', h3.kept (set2_grown _ _ _ _) (fun q => e (by injection q))⟩
theorem BxS.set (h : BxS N n s r W t) {O : Nat} (hO : ∀ O', t s = .pointer (some ⟨O', 0, none⟩) → O' ≠ O) (x y : Value) : BxS N n s r ((W.setCell ⟨O, 0, none⟩ x).setCell ⟨O, 1, none⟩ y) t := by
  obtain ⟨O', A, c, h1, h2, h3⟩ := h
  exact ⟨O', A, c, h1, h2, h3.kept (set2_grown _ _ _ _) (fun q => hO O' h1 (by injection q))⟩
/-- All of it. -/
def LBo (B : Nat) (N M : Int) (fs gs : Fs) (X Y : Value) : List (List Nat × (World → (Nat → Value) → Prop)) :=
  [([0], fun _ t => t 22 = X), ([2], fun _ t => t 24 = Y), ([1], Cp2 B N fs 23), ([3], Cp2 B M gs 25), ([1, 3], CpB B N M fs gs), ([4], BxA B 6), ([5], BxA B 7), ([4, 5], BxN), ([1, 4, 6], BxS N fs.length 6 23), ([3, 5, 7], BxS M gs.length 7 25)]
/-- A step that only makes memory, to slot d. -/
theorem LBo.grows {B : Nat} {N M : Int} {fs gs : Fs} {X Y : Value} {I : World → Prop} {listed : Array Bool} {t : Nat → Value} {i d : Nat} {v : Value} (h : IRT I (LBo B N M fs gs X Y) listed t W) (hI : I W1) (hg : W.grownBy W1 none)
    (hid : (i = 0 ∧ d = 22) ∨ (i = 2 ∧ d = 24) ∨ (i = 1 ∧ d = 23) ∨ (i = 3 ∧ d = 25) ∨ (i = 4 ∧ d = 6) ∨ (i = 5 ∧ d = 7)) (hn : ∀ x ∈ LBo B N M fs gs X Y, i ∈ x.1 → (∀ j ∈ x.1, j ≠ i → listed.getD j false = true) → x.2 W1 (upd t d v)) : IRT I (LBo B N M fs gs X Y) (listed.setIfInBounds i true) (upd t d v) W1 := by
  refine h.step hI (fun x hx hni hl hf => ?_) hn
  simp only [LBo, List.mem_cons, List.not_mem_nil, or_false] at hx
  rcases hx with rfl | rfl | rfl | rfl | rfl | rfl | rfl | rfl | rfl | rfl <;> simp only [List.mem_cons, List.not_mem_nil, or_false, not_or] at hni
  · show upd t d v 22 = X
    rw [upd_other _ _ (by omega)]; exact hf
  · show upd t d v 24 = Y
    rw [upd_other _ _ (by omega)]; exact hf
  · exact Cp2.mono hf (upd_other _ _ (by omega)) hg
  · exact Cp2.mono hf (upd_other _ _ (by omega)) hg
  · exact CpB.mono hf (upd_other _ _ (by omega)) (upd_other _ _ (by omega)) hg
  · exact BxA.mono hf (upd_other _ _ (by omega)) hg
  · exact BxA.mono hf (upd_other _ _ (by omega)) hg
  · obtain ⟨O, O', h1, h2, h3⟩ := hf
    exact ⟨O, O', (upd_other _ _ (by omega)).trans h1, (upd_other _ _ (by omega)).trans h2, h3⟩
  · exact BxS.mono hf (upd_other _ _ (by omega)) (upd_other _ _ (by omega)) hg
  · exact BxS.mono hf (upd_other _ _ (by omega)) (upd_other _ _ (by omega)) hg
end
/-- What an operator answers: an error, or a model of rows of one's own. -/
def OpOwn (r : Except Int (Int × Fs)) (e : Ending) (w : World) : Prop := match r with
  | .error z => e = .returned (.tuple #[.agg #[.int .i64 0, .slice none 0 0], .int .i64 z])
  | .ok (N, fs) => ∃ A c base vf vl, e = .returned (.tuple #[.agg #[.int .i64 N, .slice A fs.length c], .int .i64 0]) ∧ fs.length ≤ c ∧ MW base (.slice A fs.length c) fs fs.length vf vl w
theorem OpOwn.out {r : Except Int (Int × Fs)} {e : Ending} {w : World} (h : OpOwn r e w) : OpOut r e w := by
  match r, h with
  | .error z, h => exact h
  | .ok (N, fs), ⟨A, c, base, vf, vl, h1, h2, h3⟩ =>
    obtain ⟨A', c', e1, e2, e3⟩ := h3.reads
    injection e1 with ea en ec
    subst ea ec
    exact ⟨A, c, h1, h2, e3⟩
theorem opOwn_fit {base : Nat} {fs : Fs} {vf : Nat → Value} {vl : Nat → Nat → Value} {W : World} {N : Int} {A : Option Addr} {n c : Nat} {b : Bool} {e : Ending} {r : Except Int (Int × Fs)} (hr : r = fitE N fs) (hb : b = true ↔ RightP N fs) (h : MW base (.slice A n c) fs fs.length vf vl W)
    (he : e = .returned (if b then .tuple #[.agg #[.int .i64 N, .slice A n c], .int .i64 0] else .tuple #[.agg #[.int .i64 0, .slice none 0 0], .int .i64 2])) : OpOwn r e W := by
  subst hr
  obtain ⟨A', c', e1, e2, e3⟩ := h.reads
  injection e1 with ea en ec
  subst ea en ec
  unfold fitE
  cases b with
  | true =>
    rw [if_pos (hb.1 rfl)]
    exact ⟨A, c, base, vf, vl, he, e2, h⟩
  | false =>
    rw [if_neg (fun h => by have := hb.2 h; cases this)]
    exact he
theorem wrap64_mid {x : Int} (h : -100000 ≤ x ∧ x ≤ 100000) : wrap64 x = x := by
  unfold wrap64
  omega
theorem boE_ok {N M : Int} {fs gs : Fs} (h1 : RightP N fs) (h2 : RightP M gs) : boE N fs M gs = fitE (N + M) (fs ++ shAll N gs) := by
  unfold boE
  rw [if_neg (fun h => h.elim (fun q => q h1) (fun q => q h2))]
theorem boE_big {N M : Int} {fs gs hs : Fs} (h1 : RightP N fs) (h2 : RightP M gs) (hb : 200 < N + M) : boE N fs M gs = fitE (N + M) (fs ++ hs) := by
  rw [boE_ok h1 h2]
  unfold fitE
  rw [if_neg (fun h => by have := h.1.2.1; omega), if_neg (fun h => by have := h.1.2.1; omega)]
theorem own_ne_blk2 {W : World} {base e size n b : Nat} {v : Value} {xs : List Value} {cs : Array Value} {t : TypeId} (ho : W.ownsRow base e size v n xs) (hb : Blk W b (.cells cs t)) (hne : t ≠ e) : v.ownBlock ≠ some b := by
  intro q
  obtain ⟨c, hc⟩ := own_typed ho b q
  unfold Blk at hb
  rw [hb] at hc
  injection hc with hc
  injection hc with _ hc
  exact hne hc


set_option maxRecDepth 100000 in
set_option maxHeartbeats 8000000 in
theorem both_own (N M : Int) (A A2 : Option Addr) (c c2 : Nat) (fs gs : Fs) (w : World) (hF : RF w A fs) (hSm : Sm fs) (hI : NI fs) (hcap : (plsA fs).length ≤ 100000) (hG : RF w A2 gs) (hSm2 : Sm gs) (hI2 : NI gs) (hcap2 : (plsA gs).length ≤ 100000) :
    Calls Tryz.prog 25 #[.agg #[.int .i64 N, .slice A fs.length c], .agg #[.int .i64 M, .slice A2 gs.length c2]] w fun e w' => OpOwn (boE N fs M gs) e w' ∧ Below w.heap.size w w' := by
  obtain ⟨W1, hW1⟩ : ∃ W1, W1 = ((w.alloc (.cells #[.int .i64 N, .slice A fs.length c] 31)).alloc (.cells #[.int .i64 M, .slice A2 gs.length c2] 31)).alloc (.cells #[.int .i64 0, .slice none 0 0] 31) := ⟨_, rfl⟩
  have HOB : Hid (Obs [.cells #[.int .i64 N, .slice A fs.length c] 31, .cells #[.int .i64 M, .slice A2 gs.length c2] 31, .cells #[.int .i64 0, .slice none 0 0] 31] w W1) := by rw [hW1]; exact Obs.three w _ _ _
  have HR := Lib.hid (right_at (N := N) (c := c) hF HOB.out.below hSm hI hcap)
  have HF := Lib.hid hF
  have HS := Lib.hid hSm
  have HG := Lib.hid hG
  have HS2 := Lib.hid hSm2
  have HI2 := Lib.hid hI2
  have HCAP2 := Lib.hid hcap2
  clear hF hSm hI hcap hG hSm2 hI2 hcap2
  go_enter Tryz.func25, Tryz.ntmps25
  go_wp2
  rw [← hW1]
  clear hW1
  go_step3
  have m00 : W1.cell? ⟨w.heap.size, 0, none⟩ = some (.int .i64 N) := HOB.out.cell 0 0 rfl rfl
  have m01 : W1.cell? ⟨w.heap.size, 1, none⟩ = some (.slice A fs.length c) := HOB.out.cell 0 1 rfl rfl
  have m10 : W1.cell? ⟨w.heap.size + 1, 0, none⟩ = some (.int .i64 M) := HOB.out.cell 1 0 rfl rfl
  have m11 : W1.cell? ⟨w.heap.size + 1, 1, none⟩ = some (.slice A2 gs.length c2) := HOB.out.cell 1 1 rfl rfl
  have m20 : W1.cell? ⟨w.heap.size + 1 + 1, 0, none⟩ = some (.int .i64 0) := HOB.out.cell 2 0 rfl rfl
  have z20 : W1.frozen? ⟨w.heap.size + 1 + 1, 0, none⟩ = false := HOB.out.frz 2 0 rfl
  have m21 : W1.cell? ⟨w.heap.size + 1 + 1, 1, none⟩ = some (.slice none 0 0) := HOB.out.cell 2 1 rfl rfl
  have z21 : W1.frozen? ⟨w.heap.size + 1 + 1, 1, none⟩ = false := HOB.out.frz 2 1 rfl
  go_wp2_with fail
  ((with_reducible refine (HR.out).mono ?_); rintro e W2 ⟨⟨b, rfl, hb⟩, -, hbl⟩)
  clear m00 m01 m10 m11 m20 z20 m21 z21
  have HOB2 := Lib.hid (HOB.out.call hbl)
  have HBI := Lib.hid hb
  clear HR hb hbl HOB
  have m00 : W2.cell? ⟨w.heap.size, 0, none⟩ = some (.int .i64 N) := HOB2.out.cell 0 0 rfl rfl
  have m01 : W2.cell? ⟨w.heap.size, 1, none⟩ = some (.slice A fs.length c) := HOB2.out.cell 0 1 rfl rfl
  have m10 : W2.cell? ⟨w.heap.size + 1, 0, none⟩ = some (.int .i64 M) := HOB2.out.cell 1 0 rfl rfl
  have m11 : W2.cell? ⟨w.heap.size + 1, 1, none⟩ = some (.slice A2 gs.length c2) := HOB2.out.cell 1 1 rfl rfl
  have m20 : W2.cell? ⟨w.heap.size + 1 + 1, 0, none⟩ = some (.int .i64 0) := HOB2.out.cell 2 0 rfl rfl
  have z20 : W2.frozen? ⟨w.heap.size + 1 + 1, 0, none⟩ = false := HOB2.out.frz 2 0 rfl
  have m21 : W2.cell? ⟨w.heap.size + 1 + 1, 1, none⟩ = some (.slice none 0 0) := HOB2.out.cell 2 1 rfl rfl
  have z21 : W2.frozen? ⟨w.heap.size + 1 + 1, 1, none⟩ = false := HOB2.out.frz 2 1 rfl
  cases b
  · have HNO : Hid (¬ RightP N fs ∨ ¬ RightP M gs) := .inl (fun h => by simpa using HBI.out.2 h)
    have HE : Hid (boE N fs M gs = .error 140) := by
      show _ = _
      unfold boE
      rw [if_pos HNO.out]
    go_wp2
    rw [Exit.noGoto_ret]
    obtain ⟨hx, hxB⟩ := HOB2.out.ret 2 (.int .i64 0) (.slice none 0 0) rfl
    have e00 := (blk_cells hx).1 0 _ rfl
    have e01 := (blk_cells hx).1 1 _ rfl
    refine bodyPost_ret (v := .tuple #[.agg #[.int .i64 0, .slice none 0 0], .int .i64 140]) (by simp [results, Tryz.f25, go_sem, e00, e01]) rfl ?_
    exact ⟨by rw [HE.out]; rfl, hxB⟩
  · have HRP : Hid (RightP N fs) := HBI.out.1 rfl
    clear HBI
    have HR := Lib.hid (right_at (N := M) (c := c2) HG.out HOB2.out.below HS2.out HI2.out HCAP2.out)
    go_wp2_with fail
    ((with_reducible refine (HR.out).mono ?_); rintro e W2b ⟨⟨b, rfl, hb⟩, -, hbl⟩)
    clear m00 m01 m10 m11 m20 z20 m21 z21
    have HOB := Lib.hid (HOB2.out.call hbl)
    have HBI := Lib.hid hb
    clear HR hb hbl HOB2
    have m00 : W2b.cell? ⟨w.heap.size, 0, none⟩ = some (.int .i64 N) := HOB.out.cell 0 0 rfl rfl
    have m01 : W2b.cell? ⟨w.heap.size, 1, none⟩ = some (.slice A fs.length c) := HOB.out.cell 0 1 rfl rfl
    have m10 : W2b.cell? ⟨w.heap.size + 1, 0, none⟩ = some (.int .i64 M) := HOB.out.cell 1 0 rfl rfl
    have m11 : W2b.cell? ⟨w.heap.size + 1, 1, none⟩ = some (.slice A2 gs.length c2) := HOB.out.cell 1 1 rfl rfl
    have m20 : W2b.cell? ⟨w.heap.size + 1 + 1, 0, none⟩ = some (.int .i64 0) := HOB.out.cell 2 0 rfl rfl
    have z20 : W2b.frozen? ⟨w.heap.size + 1 + 1, 0, none⟩ = false := HOB.out.frz 2 0 rfl
    have m21 : W2b.cell? ⟨w.heap.size + 1 + 1, 1, none⟩ = some (.slice none 0 0) := HOB.out.cell 2 1 rfl rfl
    have z21 : W2b.frozen? ⟨w.heap.size + 1 + 1, 1, none⟩ = false := HOB.out.frz 2 1 rfl
    cases b
    · have HNO : Hid (¬ RightP N fs ∨ ¬ RightP M gs) := .inr (fun h => by simpa using HBI.out.2 h)
      have HE : Hid (boE N fs M gs = .error 140) := by
        show _ = _
        unfold boE
        rw [if_pos HNO.out]
      go_wp2
      rw [Exit.noGoto_ret]
      obtain ⟨hx, hxB⟩ := HOB.out.ret 2 (.int .i64 0) (.slice none 0 0) rfl
      have e00 := (blk_cells hx).1 0 _ rfl
      have e01 := (blk_cells hx).1 1 _ rfl
      refine bodyPost_ret (v := .tuple #[.agg #[.int .i64 0, .slice none 0 0], .int .i64 140]) (by simp [results, Tryz.f25, go_sem, e00, e01]) rfl ?_
      exact ⟨by rw [HE.out]; rfl, hxB⟩
    · have HRP2 : Hid (RightP M gs) := HBI.out.1 rfl
      clear HBI HI2 HCAP2
      go_upto_region 3 with fail
      clear m00 m01 m10 m11 m20 z20 m21 z21
      refine wp_region_inv' (by kernel_rfl) (by kernel_rfl) (fun listed aa wy => ∃ t : Nat → Value, aa = { tmps := #[.agg #[.int .i64 N, .slice A fs.length c], .agg #[.int .i64 M, .slice A2 gs.length c2], .pointer (some ⟨w.heap.size, 0, none⟩), .pointer (some ⟨w.heap.size + 1, 0, none⟩), .pointer (some ⟨w.heap.size + 1 + 1, 0, none⟩), .int .i64 0, t 6, t 7, undef, undef, undef, undef, undef, .agg #[.int .i64 N, .slice A fs.length c], .bool true, .bool false, .bool false, .agg #[.int .i64 M, .slice A2 gs.length c2], .bool true, .bool false, .bool false, undef, t 22, t 23, t 24, t 25, undef, undef, undef, undef, undef, undef, undef, undef, undef, undef, undef, undef, undef, undef, undef, undef, undef, undef, undef, undef, undef, undef, undef, undef, undef, undef, undef, undef, undef, undef, undef, undef, undef, undef, undef, undef, undef, undef, undef, undef, undef, undef, undef, undef, undef, undef, undef, undef, undef, undef], defers := [] } ∧ IRT (fun wz => Obs [.cells #[.int .i64 N, .slice A fs.length c] 31, .cells #[.int .i64 M, .slice A2 gs.length c2] 31, .cells #[.int .i64 0, .slice none 0 0] 31] w wz) (LBo (w.heap.size + 3) N M fs gs (.agg #[.int .i64 N, .slice A fs.length c]) (.agg #[.int .i64 M, .slice A2 gs.length c2])) listed t wy) ⟨(fun d => match d with | 6 => undef | 7 => undef | 22 => undef | 23 => undef | 24 => undef | 25 => undef | _ => undef), rfl, IRT.start _ (HOB.out.grown (grown_drew _)) (by rfl) _⟩ ?_ ?_
      rotate_left
      · rintro listed hCl ix hix aa wy ⟨t, rfl, hR⟩ hr
        match ix, hix, hr with
        | 0, _, hr =>
          as_aux_lemma =>
          refine wpOp_step rfl (fun K' hK => ?_)
          have hI2 := hR.fin
          have f0 : wy.cell? ⟨w.heap.size, 0, none⟩ = some (.int .i64 N) := hI2.cell 0 0 rfl rfl
          have f1 : wy.cell? ⟨w.heap.size, 1, none⟩ = some (.slice A fs.length c) := hI2.cell 0 1 rfl rfl
          go_simp
          exact hK _ _ ⟨upd t 22 (.agg #[.int .i64 N, .slice A fs.length c]), rfl, LBo.grows hR hI2 (World.grownBy.refl _ _) (by omega) (fun x hx hi hl => by
            simp only [LBo, List.mem_cons, List.not_mem_nil, or_false] at hx
            rcases hx with rfl | rfl | rfl | rfl | rfl | rfl | rfl | rfl | rfl | rfl <;> simp at hi
            exact upd_same _ _ _)⟩
        | 1, _, hr =>
          as_aux_lemma =>
          refine wpOp_step rfl (fun K' hK => ?_)
          have hI2 := hR.fin
          have e1 : t 22 = .agg #[.int .i64 N, .slice A fs.length c] := hR.fact ([0], fun _ t => t 22 = .agg #[.int .i64 N, .slice A fs.length c]) (by simp [LBo]) (fun j hj => by rw [List.mem_singleton.1 hj]; exact dep_of hr 0 (by kernel_rfl))
          go_simp
          refine (copied_any N A c fs wy (HF.out.below hI2.below) HS.out).mono ?_
          rintro e W' ⟨⟨v, vf, vl, rfl, hM, hMD, hMX⟩, hbl⟩
          obtain ⟨A', c', rfl⟩ := own_slice hM.own
          have hlo : w.heap.size + 3 ≤ wy.heap.size := hI2.size
          have hcp : Cp2 (w.heap.size + 3) N fs 23 W' (upd t 23 (.agg #[.int .i64 N, .slice A' fs.length c'])) := ⟨A', c', vf, vl, upd_same _ _ _, hM.lower hlo, hMD, hMX⟩
          refine hK _ _ ⟨upd t 23 (.agg #[.int .i64 N, .slice A' fs.length c']), by simp [upd, e1], LBo.grows hR (hI2.call hbl) (grown_of_below hbl none) (by omega) (fun x hx hi hl => ?_)⟩
          simp only [LBo, List.mem_cons, List.not_mem_nil, or_false] at hx
          rcases hx with rfl | rfl | rfl | rfl | rfl | rfl | rfl | rfl | rfl | rfl <;> simp at hi
          · exact hcp
          · obtain ⟨A3, c3, xf, xl, k1, k2, k3, k4⟩ : Cp2 (w.heap.size + 3) M gs 25 wy t := hR.fact ([3], Cp2 (w.heap.size + 3) M gs 25) (by simp [LBo]) (fun j hj => by rw [List.mem_singleton.1 hj]; exact hl 3 (by simp) (by decide))
            exact ⟨A', c', vf, vl, A3, c3, xf, xl, upd_same _ _ _, hM.lower hlo, (upd_other _ _ (by decide)).trans k1, k2.belowW hbl, k3, k4, fun b q q2 => by have := (k2.lt q2).2; have := (hM.lt q).1; omega⟩
          · exact absurd (hl 6 (by simp) (by decide)) (by rw [hCl.not hr 9 (by kernel_rfl)]; decide)
        | 2, _, hr =>
          as_aux_lemma =>
          refine wpOp_step rfl (fun K' hK => ?_)
          have hI2 := hR.fin
          have f0 : wy.cell? ⟨w.heap.size + 1, 0, none⟩ = some (.int .i64 M) := hI2.cell 1 0 rfl rfl
          have f1 : wy.cell? ⟨w.heap.size + 1, 1, none⟩ = some (.slice A2 gs.length c2) := hI2.cell 1 1 rfl rfl
          go_simp
          exact hK _ _ ⟨upd t 24 (.agg #[.int .i64 M, .slice A2 gs.length c2]), rfl, LBo.grows hR hI2 (World.grownBy.refl _ _) (by omega) (fun x hx hi hl => by
            simp only [LBo, List.mem_cons, List.not_mem_nil, or_false] at hx
            rcases hx with rfl | rfl | rfl | rfl | rfl | rfl | rfl | rfl | rfl | rfl <;> simp at hi
            exact upd_same _ _ _)⟩
        | 3, _, hr =>
          as_aux_lemma =>
          refine wpOp_step rfl (fun K' hK => ?_)
          have hI2 := hR.fin
          have e1 : t 24 = .agg #[.int .i64 M, .slice A2 gs.length c2] := hR.fact ([2], fun _ t => t 24 = .agg #[.int .i64 M, .slice A2 gs.length c2]) (by simp [LBo]) (fun j hj => by rw [List.mem_singleton.1 hj]; exact dep_of hr 2 (by kernel_rfl))
          go_simp
          refine (copied_any M A2 c2 gs wy (HG.out.below hI2.below) HS2.out).mono ?_
          rintro e W' ⟨⟨v, vf, vl, rfl, hM, hMD, hMX⟩, hbl⟩
          obtain ⟨A', c', rfl⟩ := own_slice hM.own
          have hlo : w.heap.size + 3 ≤ wy.heap.size := hI2.size
          have hcp : Cp2 (w.heap.size + 3) M gs 25 W' (upd t 25 (.agg #[.int .i64 M, .slice A' gs.length c'])) := ⟨A', c', vf, vl, upd_same _ _ _, hM.lower hlo, hMD, hMX⟩
          refine hK _ _ ⟨upd t 25 (.agg #[.int .i64 M, .slice A' gs.length c']), by simp [upd, e1], LBo.grows hR (hI2.call hbl) (grown_of_below hbl none) (by omega) (fun x hx hi hl => ?_)⟩
          simp only [LBo, List.mem_cons, List.not_mem_nil, or_false] at hx
          rcases hx with rfl | rfl | rfl | rfl | rfl | rfl | rfl | rfl | rfl | rfl <;> simp at hi
          · exact hcp
          · obtain ⟨A3, c3, xf, xl, k1, k2, k3, k4⟩ : Cp2 (w.heap.size + 3) N fs 23 wy t := hR.fact ([1], Cp2 (w.heap.size + 3) N fs 23) (by simp [LBo]) (fun j hj => by rw [List.mem_singleton.1 hj]; exact hl 1 (by simp) (by decide))
            exact ⟨A3, c3, xf, xl, A', c', vf, vl, (upd_other _ _ (by decide)).trans k1, k2.belowW hbl, upd_same _ _ _, hM.lower hlo, hMD, hMX, fun b q q2 => by have := (k2.lt q).2; have := (hM.lt q2).1; omega⟩
          · exact absurd (hl 7 (by simp) (by decide)) (by rw [hCl.not hr 9 (by kernel_rfl)]; decide)
        | 4, _, hr =>
          as_aux_lemma =>
          refine wpOp_step rfl (fun K' hK => ?_)
          have hI2 := hR.fin
          go_simp
          have hg := World.grownBy_alloc wy (.cells #[.int .i64 0, .slice none 0 0] 31) none
          refine hK _ _ ⟨upd t 6 (.pointer (some ⟨wy.heap.size, 0, none⟩)), rfl, LBo.grows hR (hI2.grown hg) hg (by omega) (fun x hx hi hl => ?_)⟩
          simp only [LBo, List.mem_cons, List.not_mem_nil, or_false] at hx
          rcases hx with rfl | rfl | rfl | rfl | rfl | rfl | rfl | rfl | rfl | rfl <;> simp at hi
          · exact ⟨wy.heap.size, upd_same _ _ _, hI2.size, _, _, blk_new wy _⟩
          · obtain ⟨O, k1, k2, x', y', k3⟩ : BxA (w.heap.size + 3) 7 wy t := hR.fact ([5], BxA (w.heap.size + 3) 7) (by simp [LBo]) (fun j hj => by rw [List.mem_singleton.1 hj]; exact hl 5 (by simp) (by decide))
            exact ⟨wy.heap.size, O, upd_same _ _ _, (upd_other _ _ (by decide)).trans k1, by have := k3.lt; omega⟩
          · exact absurd (hl 6 (by simp) (by decide)) (by rw [hCl.not hr 9 (by kernel_rfl)]; decide)
        | 5, _, hr =>
          as_aux_lemma =>
          refine wpOp_step rfl (fun K' hK => ?_)
          have hI2 := hR.fin
          go_simp
          have hg := World.grownBy_alloc wy (.cells #[.int .i64 0, .slice none 0 0] 31) none
          refine hK _ _ ⟨upd t 7 (.pointer (some ⟨wy.heap.size, 0, none⟩)), rfl, LBo.grows hR (hI2.grown hg) hg (by omega) (fun x hx hi hl => ?_)⟩
          simp only [LBo, List.mem_cons, List.not_mem_nil, or_false] at hx
          rcases hx with rfl | rfl | rfl | rfl | rfl | rfl | rfl | rfl | rfl | rfl <;> simp at hi
          · exact ⟨wy.heap.size, upd_same _ _ _, hI2.size, _, _, blk_new wy _⟩
          · obtain ⟨O, k1, k2, x', y', k3⟩ : BxA (w.heap.size + 3) 6 wy t := hR.fact ([4], BxA (w.heap.size + 3) 6) (by simp [LBo]) (fun j hj => by rw [List.mem_singleton.1 hj]; exact hl 4 (by simp) (by decide))
            exact ⟨O, wy.heap.size, (upd_other _ _ (by decide)).trans k1, upd_same _ _ _, by have := k3.lt; omega⟩
          · exact absurd (hl 7 (by simp) (by decide)) (by rw [hCl.not hr 9 (by kernel_rfl)]; decide)
        | 6, _, hr =>
          as_aux_lemma =>
          refine wpOp_step rfl (fun K' hK => ?_)
          have hI2 := hR.fin
          obtain ⟨O, k1, k2, x', y', k3⟩ : BxA (w.heap.size + 3) 6 wy t := hR.fact ([4], BxA (w.heap.size + 3) 6) (by simp [LBo]) (fun j hj => by rw [List.mem_singleton.1 hj]; exact dep_of hr 4 (by kernel_rfl))
          obtain ⟨A', c', vf, vl, m1, m2, m3, m4⟩ : Cp2 (w.heap.size + 3) N fs 23 wy t := hR.fact ([1], Cp2 (w.heap.size + 3) N fs 23) (by simp [LBo]) (fun j hj => by rw [List.mem_singleton.1 hj]; exact dep_of hr 1 (by kernel_rfl))
          have z0 := (blk_cells k3).1 0 _ rfl
          have z1 := (blk_cells k3).1 1 _ rfl
          have z2 := (blk_cells k3).2 0
          have z3 := (blk_cells k3).2 1
          have z4 := k3.lt
          go_simp
          refine hK _ _ ⟨t, by simp [k1, m1], hR.step (hI2.kept (set2_grown _ _ _ _) (fun q e => by cases e; exact k2)) (fun x hx hni hl hf => ?_) (fun x hx hi hl => ?_)⟩
          · simp only [LBo, List.mem_cons, List.not_mem_nil, or_false] at hx
            rcases hx with rfl | rfl | rfl | rfl | rfl | rfl | rfl | rfl | rfl | rfl <;> simp only [List.mem_cons, List.not_mem_nil, or_false, not_or] at hni
            · exact hf
            · exact hf
            · exact Cp2.set hf k3 _ _
            · exact Cp2.set hf k3 _ _
            · exact CpB.set hf k3 _ _
            · exact BxA.set hf k3 _ _
            · exact BxA.set hf k3 _ _
            · exact hf
            · exact (hni.2.2 trivial).elim
            · exact BxS.set hf (fun O' q e => by
                obtain ⟨P, P', p1, p2, p3⟩ : BxN wy t := hR.fact ([4, 5], BxN) (by simp [LBo]) (fun j hj => by rcases List.mem_cons.1 hj with rfl | hj; exact dep_of hr 4 (by kernel_rfl); rw [List.mem_singleton.1 hj]; exact hl 5 (by simp))
                rw [p1] at k1; rw [p2] at q; cases q; cases k1; exact p3 e.symm) _ _
          · simp only [LBo, List.mem_cons, List.not_mem_nil, or_false] at hx
            rcases hx with rfl | rfl | rfl | rfl | rfl | rfl | rfl | rfl | rfl | rfl <;> simp at hi
            exact ⟨O, A', c', k1, m1, blk_set2 k3⟩
        | 7, _, hr =>
          as_aux_lemma =>
          refine wpOp_step rfl (fun K' hK => ?_)
          have hI2 := hR.fin
          obtain ⟨O, k1, k2, x', y', k3⟩ : BxA (w.heap.size + 3) 7 wy t := hR.fact ([5], BxA (w.heap.size + 3) 7) (by simp [LBo]) (fun j hj => by rw [List.mem_singleton.1 hj]; exact dep_of hr 5 (by kernel_rfl))
          obtain ⟨A', c', vf, vl, m1, m2, m3, m4⟩ : Cp2 (w.heap.size + 3) M gs 25 wy t := hR.fact ([3], Cp2 (w.heap.size + 3) M gs 25) (by simp [LBo]) (fun j hj => by rw [List.mem_singleton.1 hj]; exact dep_of hr 3 (by kernel_rfl))
          have z0 := (blk_cells k3).1 0 _ rfl
          have z1 := (blk_cells k3).1 1 _ rfl
          have z2 := (blk_cells k3).2 0
          have z3 := (blk_cells k3).2 1
          have z4 := k3.lt
          go_simp
          refine hK _ _ ⟨t, by simp [k1, m1], hR.step (hI2.kept (set2_grown _ _ _ _) (fun q e => by cases e; exact k2)) (fun x hx hni hl hf => ?_) (fun x hx hi hl => ?_)⟩
          · simp only [LBo, List.mem_cons, List.not_mem_nil, or_false] at hx
            rcases hx with rfl | rfl | rfl | rfl | rfl | rfl | rfl | rfl | rfl | rfl <;> simp only [List.mem_cons, List.not_mem_nil, or_false, not_or] at hni
            · exact hf
            · exact hf
            · exact Cp2.set hf k3 _ _
            · exact Cp2.set hf k3 _ _
            · exact CpB.set hf k3 _ _
            · exact BxA.set hf k3 _ _
            · exact BxA.set hf k3 _ _
            · exact hf
            · exact BxS.set hf (fun O' q e => by
                obtain ⟨P, P', p1, p2, p3⟩ : BxN wy t := hR.fact ([4, 5], BxN) (by simp [LBo]) (fun j hj => by rcases List.mem_cons.1 hj with rfl | hj; exact hl 4 (by simp); rw [List.mem_singleton.1 hj]; exact dep_of hr 5 (by kernel_rfl))
                rw [p1] at q; rw [p2] at k1; cases q; cases k1; exact p3 e) _ _
            · exact (hni.2.2 trivial).elim
          · simp only [LBo, List.mem_cons, List.not_mem_nil, or_false] at hx
            rcases hx with rfl | rfl | rfl | rfl | rfl | rfl | rfl | rfl | rfl | rfl <;> simp at hi
            exact ⟨O, A', c', k1, m1, blk_set2 k3⟩
        | nx + 8, hix, _ => exact absurd (show nx + 8 < 8 from hix) (by omega)
      rintro listed a2 W3 ⟨t, rfl, hR⟩ hl
      have hall : ∀ j, j < 8 → listed.getD j false = true := fun j hj => hl j hj
      have hO3 := hR.fin
      obtain ⟨A1, c1, vf, vl, A3, c3, wf, wl, m1, m2, m3, m4, m5, m6, m7⟩ : CpB (w.heap.size + 3) N M fs gs W3 t := hR.fact ([1, 3], CpB (w.heap.size + 3) N M fs gs) (by simp [LBo]) (fun j hj => hall j (by simp at hj; omega))
      obtain ⟨O, O', p1, p2, p3⟩ : BxN W3 t := hR.fact ([4, 5], BxN) (by simp [LBo]) (fun j hj => hall j (by simp at hj; omega))
      obtain ⟨Oa, Aa, ca, q1, q2, q3⟩ : BxS N fs.length 6 23 W3 t := hR.fact ([1, 4, 6], BxS N fs.length 6 23) (by simp [LBo]) (fun j hj => hall j (by simp at hj; omega))
      obtain ⟨Ob', Ab, cb, r1, r2, r3⟩ : BxS M gs.length 7 25 W3 t := hR.fact ([3, 5, 7], BxS M gs.length 7 25) (by simp [LBo]) (fun j hj => hall j (by simp at hj; omega))
      obtain ⟨_, k1, k2, _, _, _⟩ : BxA (w.heap.size + 3) 6 W3 t := hR.fact ([4], BxA (w.heap.size + 3) 6) (by simp [LBo]) (fun j hj => hall j (by simp at hj; omega))
      obtain ⟨_, l1, l2, _, _, _⟩ : BxA (w.heap.size + 3) 7 W3 t := hR.fact ([5], BxA (w.heap.size + 3) 7) (by simp [LBo]) (fun j hj => hall j (by simp at hj; omega))
      rw [p1] at q1 k1
      rw [p2] at r1 l1
      rw [m1] at q2
      rw [m3] at r2
      cases q1
      cases k1
      cases r1
      cases l1
      cases q2
      cases r2
      clear hR hl hall
      rw [p1, p2]
      clear p1 p2 m1 m3
      generalize t 22 = u22
      generalize t 23 = u23
      generalize t 24 = u24
      generalize t 25 = u25
      have hg0 := (HRP2.out.1).2.2.1
      obtain ⟨g, cg, hsv, hgB, hgl0⟩ := m4.own.form (by omega)
      injection hsv with hsa _ hsc
      subst hsa hsc
      have HNM : Hid (wrap64 (N + M) = N + M) := wrap64_mid (by have h1 := HRP.out.1.1; have h2 := HRP.out.1.2.1; have h3 := HRP2.out.1.1; have h4 := HRP2.out.1.2.1; omega)
      have HF5 := Lib.hid m2
      have HMG := Lib.hid m4
      have HMD := Lib.hid m5
      have HMX := Lib.hid m6
      have HOB3 := Lib.hid hO3
      have HBO := Lib.hid q3
      have HBO2 := Lib.hid r3
      have HK2 := Lib.hid k2
      have HL2 := Lib.hid l2
      have HDB : Hid (∀ b, MB (.slice A1 fs.length c1) fs fs.length vf vl b → ∀ hs : Fs, hs.length = gs.length → (∀ f, (fcA hs f).length = (fcA gs f).length) → ¬ MB (.slice (some ⟨g, 0, none⟩) gs.length c3) hs hs.length wf wl b) := fun b hb hs e1 e2 h => by
        refine m7 b hb ?_
        rcases h with h | ⟨f, hf, h | ⟨l, hl, h⟩⟩
        · exact .inl h
        · exact .inr ⟨f, by omega, .inl h⟩
        · exact .inr ⟨f, by omega, .inr ⟨l, by rw [← e2]; exact hl, h⟩⟩
      have HAP : Hid (∀ i, i < fs.length → ∀ j, j < gs.length → Ap (vf i) (wf j)) := fun i hi j hj => by
        cases hq : (vf i).ownBlock with
        | none => exact .inl hq
        | some b => exact .inr (fun e => m7 b (.inr ⟨i, hi, .inl hq⟩) (.inr ⟨j, hj, .inl (e.symm.trans hq)⟩))
      clear m2 m4 m5 m6 m7 hO3 q3 r3 k2 l2
      have c0 := (blk_cells HBO2.out).1 1 _ rfl
      go_wp2
      go_step3
      go_upto_region 4 with fail
      go_cut [27, 28, 29] from 13 (fun s27 s28 s29 wc => s27 = .slice (some ⟨g, 0, none⟩) gs.length c3 ∧ s28 = .int .i64 gs.length ∧ s29 = .int .i64 0 ∧ W3 = wc)
      case first =>
        go_wp2
        go_meet
        case rel => exact ⟨rfl, rfl, rfl, rfl⟩
      case rest =>
      obtain ⟨rfl, rfl, rfl, rfl⟩ := hcut
      clear c0
      go_wp2
      have HRS : Hid ((Obs [.cells #[.int .i64 N, .slice A fs.length c] 31, .cells #[.int .i64 M, .slice A2 gs.length c2] 31, .cells #[.int .i64 0, .slice none 0 0] 31] w W3) ∧ MW (w.heap.size + 3) (.slice A1 fs.length c1) fs fs.length vf vl W3 ∧ Blk W3 O (.cells #[.int .i64 N, .slice A1 fs.length c1] 31) ∧ Blk W3 O' (.cells #[.int .i64 M, .slice (some ⟨g, 0, none⟩) gs.length c3] 31)) := ⟨HOB3.out, HF5.out, HBO.out, HBO2.out⟩
      clear HOB3 HF5 HBO HBO2
      go_loopw [29] (fun s29 wr => ∃ (f0 : Nat) (hs : Fs), f0 ≤ gs.length ∧ s29 = .int .i64 f0 ∧ Hid (ShI N gs hs (fun f _ _ => f < f0)) ∧ Hid (MW (w.heap.size + 3) (.slice (some ⟨g, 0, none⟩) gs.length c3) hs hs.length wf wl wr) ∧ Hid ((Obs [.cells #[.int .i64 N, .slice A fs.length c] 31, .cells #[.int .i64 M, .slice A2 gs.length c2] 31, .cells #[.int .i64 0, .slice none 0 0] 31] w wr) ∧ MW (w.heap.size + 3) (.slice A1 fs.length c1) fs fs.length vf vl wr ∧ Blk wr O (.cells #[.int .i64 N, .slice A1 fs.length c1] 31) ∧ Blk wr O' (.cells #[.int .i64 M, .slice (some ⟨g, 0, none⟩) gs.length c3] 31))) (fun v _ => gs.length - (intOf v).toNat)
      case atStart => exact ⟨0, gs, by omega, rfl, (ShI.start N gs).congr (fun f l i _ _ _ => by simp), HMG, HRS⟩
      case round =>
        clear HMG HRS
        rename World => wr
        obtain ⟨f0, hs, hf0, rfl, HSH, HMG, HRS⟩ := hrel
        have hgs := HRP2.out.fine.faces
        by_cases hlt : f0 < gs.length
        · have hltz : (f0 : Int) < (gs.length : Int) := by omega
          have hlh : f0 < hs.length := by rw [HSH.out.len]; exact hlt
          obtain ⟨gf, cf, hwf, hgf1, hgf2⟩ := (HMG.out.face f0 hlh).own.form (by rw [HSH.out.flen]; exact (HRP2.out.1.2.2.2.2.2.2 f0 hlt).1)
          rw [HSH.out.flen] at hwf
          have HWF := Lib.hid hwf
          have HCF : Hid (∀ (h : Fs) W, h.length = gs.length → MW (w.heap.size + 3) (.slice (some ⟨g, 0, none⟩) gs.length c3) h h.length wf wl W → W.cell? ⟨g, f0, none⟩ = some (.slice (some ⟨gf, 0, none⟩) ((fcA gs f0).length) cf)) := fun h W e hM => by
            have h2 := hM.own
            rw [e] at h2
            have q0 := World.ownsRow.cellAt h2 f0 (by omega)
            rw [List.getElem?_map, List.getElem?_range (by omega)] at q0
            simp only [Option.map_some, HWF.out] at q0
            exact q0
          have cq1 := HCF.out hs wr HSH.out.len HMG.out
          clear hwf
          go_wp2
          go_loopw [35] (fun s35 wr => ∃ (l0 : Nat) (hs : Fs), l0 ≤ (fcA gs f0).length ∧ s35 = .int .i64 l0 ∧ Hid (ShI N gs hs (fun f l _ => f < f0 ∨ (f = f0 ∧ l < l0))) ∧ Hid (MW (w.heap.size + 3) (.slice (some ⟨g, 0, none⟩) gs.length c3) hs hs.length wf wl wr) ∧ Hid ((Obs [.cells #[.int .i64 N, .slice A fs.length c] 31, .cells #[.int .i64 M, .slice A2 gs.length c2] 31, .cells #[.int .i64 0, .slice none 0 0] 31] w wr) ∧ MW (w.heap.size + 3) (.slice A1 fs.length c1) fs fs.length vf vl wr ∧ Blk wr O (.cells #[.int .i64 N, .slice A1 fs.length c1] 31) ∧ Blk wr O' (.cells #[.int .i64 M, .slice (some ⟨g, 0, none⟩) gs.length c3] 31))) (fun v _ => (fcA gs f0).length - (intOf v).toNat)
          case atStart => exact ⟨0, hs, by omega, rfl, HSH.out.congr (fun f l i _ _ _ => by simp), HMG, HRS⟩
          case round =>
            clear HMG HRS HSH cq1 hlh
            rename World => wi
            obtain ⟨l0, hs, hl0, rfl, HSH, HMG, HRS⟩ := hrel
            have hfl := HRP2.out.fine.loops
            have hfc := fcA_len_le gs f0
            by_cases hlt2 : l0 < (fcA gs f0).length
            · have hltz2 : (l0 : Int) < ((fcA gs f0).length : Int) := by omega
              obtain ⟨bl, hwl⟩ := HMX.out f0 hlt l0 hlt2
              obtain ⟨n, hn⟩ : ∃ n, n = (lpA gs f0 l0).length := ⟨_, rfl⟩
              have hwl : wl f0 l0 = .slice (some ⟨bl, 0, none⟩) n n := by rw [hn]; exact hwl
              have HWL := Lib.hid hwl
              have HN0 := Lib.hid hn
              have hnn := lpA_len_le gs f0 l0
              have hnd := HRP2.out.fine.nodes
              rw [← hn] at hnn
              have HCL : Hid (∀ (h : Fs) W, h.length = gs.length → (fcA h f0).length = (fcA gs f0).length → MW (w.heap.size + 3) (.slice (some ⟨g, 0, none⟩) gs.length c3) h h.length wf wl W → W.cell? ⟨gf, l0, none⟩ = some (.slice (some ⟨bl, 0, none⟩) n n)) := fun h W e1 e2 hM => by
                have h2 := (hM.face f0 (by omega)).own
                rw [e2, HWF.out] at h2
                have q0 := World.ownsRow.cellAt h2 l0 (by omega)
                rw [List.getElem?_map, List.getElem?_range (by omega)] at q0
                simp only [Option.map_some, HWL.out] at q0
                exact q0
              have cq2 := HCL.out hs wi HSH.out.len (HSH.out.flen f0) HMG.out
              clear hwl hn
              go_wp2
              go_loopw [41] (fun s41 wr => ∃ (i0 : Nat) (hs : Fs), i0 ≤ n ∧ s41 = .int .i64 i0 ∧ Hid (ShI N gs hs (fun f l i => f < f0 ∨ (f = f0 ∧ (l < l0 ∨ (l = l0 ∧ i < i0))))) ∧ Hid (MW (w.heap.size + 3) (.slice (some ⟨g, 0, none⟩) gs.length c3) hs hs.length wf wl wr) ∧ Hid ((Obs [.cells #[.int .i64 N, .slice A fs.length c] 31, .cells #[.int .i64 M, .slice A2 gs.length c2] 31, .cells #[.int .i64 0, .slice none 0 0] 31] w wr) ∧ MW (w.heap.size + 3) (.slice A1 fs.length c1) fs fs.length vf vl wr ∧ Blk wr O (.cells #[.int .i64 N, .slice A1 fs.length c1] 31) ∧ Blk wr O' (.cells #[.int .i64 M, .slice (some ⟨g, 0, none⟩) gs.length c3] 31))) (fun v _ => n - (intOf v).toNat)
              case atStart => exact ⟨0, hs, by omega, rfl, HSH.out.congr (fun f l i _ _ _ => by simp), HMG, HRS⟩
              case round =>
                clear HMG HRS HSH cq2
                rename World => wj
                obtain ⟨i0, hs, hi0, rfl, HSH, HMG, HRS⟩ := hrel
                by_cases hlt3 : i0 < n
                · have hltz3 : (i0 : Int) < (n : Int) := by omega
                  obtain ⟨x, hx⟩ : ∃ x, x = (lpA gs f0 l0).getD i0 0 := ⟨_, rfl⟩
                  have hi3 : i0 < (lpA gs f0 l0).length := by rw [← HN0.out]; exact hlt3
                  have hxv : (lpA hs f0 l0).getD i0 0 = x := by rw [HSH.out.val f0 l0 i0 hlt hlt2 hi3, if_neg (by omega), hx]
                  have hxr : 0 ≤ x ∧ x < M := by rw [hx]; exact HRP2.out.2.1 (pvA gs f0 l0 i0) (mem_pls.2 ⟨f0, l0, i0, hlt, hlt2, hi3, rfl⟩)
                  have hN200 := HRP.out.1.2.1
                  have hM200 := HRP2.out.1.2.1
                  have hN1 := HRP.out.1.1
                  have HW : Hid (IntKind.i64.wrap (x + N) = x + N) := by show IntKind.i64.wrap (x + N) = x + N; rw [IntKind.wrap_i64]; omega
                  have HLF : Hid (f0 < hs.length ∧ l0 < (fcA hs f0).length) := ⟨by rw [HSH.out.len]; exact hlt, by rw [HSH.out.flen]; exact hlt2⟩
                  have HLL : Hid ((lpA hs f0 l0).length = (lpA gs f0 l0).length) := HSH.out.llen f0 l0
                  have HMDH : Hid (MD hs hs.length wl) := by
                    have h := HMD.out
                    have e := HSH.out.flen
                    show MD hs hs.length wl
                    rw [HSH.out.len]
                    exact ⟨fun f hf => by rw [e]; exact h.1 f hf, fun f hf f' hf' hne i hi j hj => by rw [e] at hi hj; exact h.2 f hf f' hf' hne i hi j hj⟩
                  have HCX : Hid (∀ W, MW (w.heap.size + 3) (.slice (some ⟨g, 0, none⟩) gs.length c3) hs hs.length wf wl W → W.cell? ⟨bl, i0, none⟩ = some (.int .i64 x)) := fun W hM => by
                    have h2 := (hM.face f0 HLF.out.1).ownL l0 HLF.out.2
                    rw [HWL.out] at h2
                    have h4 : (lA (fcA hs f0) l0).length = n := by rw [HN0.out]; exact HLL.out
                    rw [h4] at h2
                    have h3 := World.ownsRow.cellAt h2 i0 (by omega)
                    have h5 : i0 < (lpA hs f0 l0).length := by rw [HLL.out]; exact hi3
                    rw [h3]
                    have h6 : (lA (fcA hs f0) l0) = lpA hs f0 l0 := rfl
                    rw [h6, ← hxv]
                    simp [intsV, List.getD_eq_getElem?_getD, h5]
                  have HSH2 := Lib.hid (HSH.out.put hlt hlt2 hi3 (by omega))
                  rw [← hx] at HSH2
                  clear hxv hx
                  go_upto_region 13 with fail
                  refine wp_region_inv' (by kernel_rfl) (by kernel_rfl) (fun listed aa wy => ∃ t : Nat → Value, aa = { tmps := #[.agg #[.int .i64 N, .slice A fs.length c], .agg #[.int .i64 M, .slice A2 gs.length c2], .pointer (some ⟨w.heap.size, 0, none⟩), .pointer (some ⟨w.heap.size + 1, 0, none⟩), .pointer (some ⟨w.heap.size + 1 + 1, 0, none⟩), .int .i64 0, .pointer (some ⟨O, 0, none⟩), .pointer (some ⟨O', 0, none⟩), undef, .slice (some ⟨gf, 0, none⟩) ((fcA gs f0).length) cf, undef, .slice (some ⟨bl, 0, none⟩) n n, .int .i64 i0, u13, u14, u15, u16, u17, u18, u19, u20, u21, u22, u23, u24, u25, u26, .slice (some ⟨g, 0, none⟩) gs.length c3, .int .i64 gs.length, .int .i64 f0, .bool true, .pointer (some ⟨g, f0, none⟩), .slice (some ⟨gf, 0, none⟩) ((fcA gs f0).length) cf, .slice (some ⟨gf, 0, none⟩) ((fcA gs f0).length) cf, .int .i64 (fcA gs f0).length, .int .i64 l0, .bool true, .pointer (some ⟨gf, l0, none⟩), .slice (some ⟨bl, 0, none⟩) n n, .slice (some ⟨bl, 0, none⟩) n n, .int .i64 n, .int .i64 i0, .bool true, .int .i64 i0, t 44, t 45, t 46, t 47, t 48, t 49, t 50, t 51, u52, u53, u54, u55, u56, u57, u58, u59, u60, u61, u62, u63, u64, u65, u66, u67, u68, u69, u70, u71, u72, u73, u74, u75], defers := [] } ∧ IRE (fun wz => MW (w.heap.size + 3) (.slice (some ⟨g, 0, none⟩) gs.length c3) hs hs.length wf wl wz ∧ ((Obs [.cells #[.int .i64 N, .slice A fs.length c] 31, .cells #[.int .i64 M, .slice A2 gs.length c2] 31, .cells #[.int .i64 0, .slice none 0 0] 31] w wz) ∧ MW (w.heap.size + 3) (.slice A1 fs.length c1) fs fs.length vf vl wz ∧ Blk wz O (.cells #[.int .i64 N, .slice A1 fs.length c1] 31) ∧ Blk wz O' (.cells #[.int .i64 M, .slice (some ⟨g, 0, none⟩) gs.length c3] 31))) 8 (fun _ wz => MW (w.heap.size + 3) (.slice (some ⟨g, 0, none⟩) gs.length c3) (setL hs f0 l0 ((lpA hs f0 l0).set i0 (x + N))) (setL hs f0 l0 ((lpA hs f0 l0).set i0 (x + N))).length wf wl wz ∧ ((Obs [.cells #[.int .i64 N, .slice A fs.length c] 31, .cells #[.int .i64 M, .slice A2 gs.length c2] 31, .cells #[.int .i64 0, .slice none 0 0] 31] w wz) ∧ MW (w.heap.size + 3) (.slice A1 fs.length c1) fs fs.length vf vl wz ∧ Blk wz O (.cells #[.int .i64 N, .slice A1 fs.length c1] 31) ∧ Blk wz O' (.cells #[.int .i64 M, .slice (some ⟨g, 0, none⟩) gs.length c3] 31))) (fun _ => True) (fun d (_ : World) v => match d with | 44 => v = .slice (some ⟨bl, 0, none⟩) n n | 45 => v = .int .i64 i0 | 46 => v = .pointer (some ⟨bl, i0, none⟩) | 47 => v = .int .i64 x | 48 => v = .pointer (some ⟨w.heap.size, 0, none⟩) | 49 => v = .int .i64 N | 50 => v = .int .i64 (x + N) | 51 => v = .pointer (some ⟨bl, i0, none⟩) | _ => True) [(0, 44), (1, 45), (2, 46), (3, 47), (4, 48), (5, 49), (6, 50), (7, 51)] listed t wy) ⟨(fun d => match d with | 44 => u44 | 45 => u45 | 46 => u46 | 47 => u47 | 48 => u48 | 49 => u49 | 50 => u50 | 51 => u51 | _ => undef), rfl, IRE.start _ trivial ⟨HMG.out.kept (grown_drew _) (fun r e => by cases e), HRS.out.1.grown (grown_drew _), HRS.out.2.1.kept (grown_drew _) (fun r e => by cases e), HRS.out.2.2.1.kept (grown_drew _) (by simp), HRS.out.2.2.2.kept (grown_drew _) (by simp)⟩ _⟩ ?_ ?_
                  rotate_left
                  · rintro listed hCl ix hix aa wy ⟨t, rfl, hR⟩ hr
                    match ix, hix, hr with
                    | 0, _, hr =>
                      as_aux_lemma =>
                      refine wpOp_step rfl (fun K' hK => ?_)
                      go_simp
                      exact hK _ _ ⟨upd t 44 (.slice (some ⟨bl, 0, none⟩) n n), rfl, hR.yields hCl hr (by decide) (by kernel_rfl) hR.fin (fun h => h) (fun _ _ h => h) (by rfl) rfl⟩
                    | 1, _, hr =>
                      as_aux_lemma =>
                      refine wpOp_step rfl (fun K' hK => ?_)
                      go_simp
                      exact hK _ _ ⟨upd t 45 (.int .i64 i0), rfl, hR.yields hCl hr (by decide) (by kernel_rfl) hR.fin (fun h => h) (fun _ _ h => h) (by rfl) rfl⟩
                    | 2, _, hr =>
                      as_aux_lemma =>
                      refine wpOp_step rfl (fun K' hK => ?_)
                      have e1 : t 44 = .slice (some ⟨bl, 0, none⟩) n n := hR.val hCl hr (by kernel_rfl) (0, 44) (by simp) (dep_of hr 0 (by kernel_rfl))
                      have e2 : t 45 = .int .i64 i0 := hR.val hCl hr (by kernel_rfl) (1, 45) (by simp) (dep_of hr 1 (by kernel_rfl))
                      go_simp
                      exact hK _ _ ⟨upd t 46 (.pointer (some ⟨bl, i0, none⟩)), by first | (simp [upd, e1, e2]; done) | (simp [upd, e1, e2]; rfl), hR.yields hCl hr (by decide) (by kernel_rfl) hR.fin (fun h => h) (fun _ _ h => h) (by rfl) rfl⟩
                    | 3, _, hr =>
                      as_aux_lemma =>
                      refine wpOp_step rfl (fun K' hK => ?_)
                      have e1 : t 46 = .pointer (some ⟨bl, i0, none⟩) := hR.val hCl hr (by kernel_rfl) (2, 46) (by simp) (dep_of hr 2 (by kernel_rfl))
                      have f0' := HCX.out _ (hR.bef hCl hr (by kernel_rfl)).1
                      go_simp
                      exact hK _ _ ⟨upd t 47 (.int .i64 x), by first | (simp [upd, e1]; done) | (simp [upd, e1]; rfl), hR.yields hCl hr (by decide) (by kernel_rfl) hR.fin (fun h => h) (fun _ _ h => h) (by rfl) rfl⟩
                    | 4, _, hr =>
                      as_aux_lemma =>
                      refine wpOp_step rfl (fun K' hK => ?_)
                      go_simp
                      exact hK _ _ ⟨upd t 48 (.pointer (some ⟨w.heap.size, 0, none⟩)), rfl, hR.yields hCl hr (by decide) (by kernel_rfl) hR.fin (fun h => h) (fun _ _ h => h) (by rfl) rfl⟩
                    | 5, _, hr =>
                      as_aux_lemma =>
                      refine wpOp_step rfl (fun K' hK => ?_)
                      have e1 : t 48 = .pointer (some ⟨w.heap.size, 0, none⟩) := hR.val hCl hr (by kernel_rfl) (4, 48) (by simp) (dep_of hr 4 (by kernel_rfl))
                      have f0' : wy.cell? ⟨w.heap.size, 0, none⟩ = some (.int .i64 N) := ((hR.bef hCl hr (by kernel_rfl)).2.1).cell 0 0 rfl rfl
                      go_simp
                      exact hK _ _ ⟨upd t 49 (.int .i64 N), by first | (simp [upd, e1]; done) | (simp [upd, e1]; rfl), hR.yields hCl hr (by decide) (by kernel_rfl) hR.fin (fun h => h) (fun _ _ h => h) (by rfl) rfl⟩
                    | 6, _, hr =>
                      as_aux_lemma =>
                      refine wpOp_step rfl (fun K' hK => ?_)
                      have e1 : t 47 = .int .i64 x := hR.val hCl hr (by kernel_rfl) (3, 47) (by simp) (dep_of hr 3 (by kernel_rfl))
                      have e2 : t 49 = .int .i64 N := hR.val hCl hr (by kernel_rfl) (5, 49) (by simp) (dep_of hr 5 (by kernel_rfl))
                      have hw := HW.out
                      go_simp
                      exact hK _ _ ⟨upd t 50 (.int .i64 (x + N)), by first | (simp [upd, e1, e2]; done) | (simp [upd, e1, e2]; rfl), hR.yields hCl hr (by decide) (by kernel_rfl) trivial (fun h => h) (fun _ _ h => h) (by rfl) rfl⟩
                    | 7, _, hr =>
                      as_aux_lemma =>
                      refine wpOp_step rfl (fun K' hK => ?_)
                      have e1 : t 44 = .slice (some ⟨bl, 0, none⟩) n n := hR.val hCl hr (by kernel_rfl) (0, 44) (by simp) (dep_of hr 0 (by kernel_rfl))
                      have e2 : t 45 = .int .i64 i0 := hR.val hCl hr (by kernel_rfl) (1, 45) (by simp) (dep_of hr 1 (by kernel_rfl))
                      go_simp
                      exact hK _ _ ⟨upd t 51 (.pointer (some ⟨bl, i0, none⟩)), by first | (simp [upd, e1, e2]; done) | (simp [upd, e1, e2]; rfl), hR.yields hCl hr (by decide) (by kernel_rfl) hR.fin (fun h => h) (fun _ _ h => h) (by rfl) rfl⟩
                    | 8, _, hr =>
                      as_aux_lemma =>
                      refine wpOp_step rfl (fun K' hK => ?_)
                      have e1 : t 51 = .pointer (some ⟨bl, i0, none⟩) := (hR.atEnd hr).2 (7, 51) (by simp) (dep_of hr 7 (by kernel_rfl))
                      have e2 : t 50 = .int .i64 (x + N) := (hR.atEnd hr).2 (6, 50) (by simp) (dep_of hr 6 (by kernel_rfl))
                      obtain ⟨hM0, hO0, hF0, hB0, hB0'⟩ := (hR.atEnd hr).1
                      have hlf := (hM0.face f0 HLF.out.1).ownL l0 HLF.out.2
                      have hlf2 : wy.ownsRow (w.heap.size + 3) 3 1 (.slice (some ⟨bl, 0, none⟩) n n) n (intsV (lpA hs f0 l0)) := by rw [← HWL.out, HN0.out, ← HLL.out]; exact hlf
                      have z0 := HCX.out _ hM0
                      have z1 := World.ownsRow.frozenAt hlf2 i0
                      have z2 := (World.ownsRow.lt hlf2 bl rfl)
                      have hput := hM0.putAt HMDH.out HLF.out.1 HLF.out.2 HWL.out (i := i0) (x + N)
                      have hbF : ¬ MB (.slice A1 fs.length c1) fs fs.length vf vl bl := fun q => HDB.out bl q hs HSH.out.len HSH.out.flen (.inr ⟨f0, HLF.out.1, .inr ⟨l0, HLF.out.2, by rw [HWL.out]; rfl⟩⟩)
                      have hE := hR.ends hr (W1 := wy.setCell ⟨bl, i0, none⟩ (.int .i64 (x + N))) trivial ⟨hput, hO0.kept (grown_set _ _ _ _) (fun q e => by cases e; have := z2.1; simp; omega), hF0.kept (grown_set _ _ _ _) (fun q e => by cases e; exact hbF), hB0.kept (grown_set _ _ _ _) (fun e => own_ne_blk2 hlf2 hB0 (by decide) e.symm), hB0'.kept (grown_set _ _ _ _) (fun e => own_ne_blk2 hlf2 hB0' (by decide) e.symm)⟩
                      clear hput hM0 hO0 hF0 hB0 hB0' hlf hlf2 hbF
                      go_simp
                      exact hK _ _ ⟨t, by simp [e1, e2], hE⟩
                    | nx + 9, hix, _ => exact absurd (show nx + 9 < 9 from hix) (by omega)
                  rintro listed a2 W13 ⟨t, rfl, hR⟩ hl
                  obtain ⟨hM13, hR13⟩ := hR.new (hl 8 (by decide))
                  clear hR hl
                  generalize t 44 = u44
                  generalize t 45 = u45
                  generalize t 46 = u46
                  generalize t 47 = u47
                  generalize t 48 = u48
                  generalize t 49 = u49
                  generalize t 50 = u50
                  generalize t 51 = u51
                  clear HMG HRS
                  have HMG := Lib.hid hM13
                  have HRS := Lib.hid hR13
                  clear hM13 hR13
                  have z0 : W13.cell? ⟨bl, i0, none⟩ = some (.int .i64 (x + N)) := by
                    have h1 : f0 < (setL hs f0 l0 ((lpA hs f0 l0).set i0 (x + N))).length := by rw [setL_len]; exact HLF.out.1
                    have h2 := (HMG.out.face f0 h1).ownL l0 (by rw [fcA_setL_len HLF.out.1]; exact HLF.out.2)
                    rw [HWL.out] at h2
                    have h6 : lA (fcA (setL hs f0 l0 ((lpA hs f0 l0).set i0 (x + N))) f0) l0 = (lpA hs f0 l0).set i0 (x + N) := by
                      have h7 := lpA_setL HLF.out.1 HLF.out.2 ((lpA hs f0 l0).set i0 (x + N)) f0 l0
                      rw [if_pos ⟨rfl, rfl⟩] at h7
                      exact h7
                    rw [h6] at h2
                    have h5 : i0 < (lpA hs f0 l0).length := by rw [HLL.out]; exact hi3
                    rw [List.length_set, show (lpA hs f0 l0).length = n by rw [HN0.out]; exact HLL.out] at h2
                    have h3 := World.ownsRow.cellAt h2 i0 (by omega)
                    rw [h3]
                    simp [intsV, h5]
                  by_cases hge : x + N ≥ 200
                  · have HBIG : Hid (200 < N + M) := by show 200 < N + M; omega
                    have HSH0 := HSH
                    clear HSH
                    have HSH := HSH2
                    clear HSH2 HSH0
                    obtain ⟨hO5, hF5, hB5, hB5'⟩ := HRS.out
                    have HGM := Lib.hid HMG.out
                    have hgl : (setL hs f0 l0 ((lpA hs f0 l0).set i0 (x + N))).length = gs.length := HSH.out.len
                    have hnews : ∀ j u, ((List.range gs.length).map wf)[j]? = some u → W13.cell? ((⟨g, 0, none⟩ : Addr).add j) = some u := by
                      have h := HMG.out.own
                      rw [hgl] at h
                      exact World.ownsRow.cells h rfl
                    have hone : ∀ u ∈ (List.range gs.length).map wf, u.oneCell' = true := fun u hu => by
                      obtain ⟨j, hj, rfl⟩ := List.mem_map.1 hu
                      obtain ⟨x, hx⟩ := slice_of_own (HMG.out.face j (by rw [hgl]; exact List.mem_range.1 hj)).own
                      rw [hx]; exact encS_one x
                    have hFi : Fine 100000 (fs ++ (setL hs f0 l0 ((lpA hs f0 l0).set i0 (x + N)))) := ((HRP.out.fine).app (HSH.out.fine HRP2.out.fine (by have h1 := HRP.out.1.1; have h2 := HRP.out.1.2.1; omega) (fun v hv => by rw [← pls_v] at hv; obtain ⟨x, hx, rfl⟩ := List.mem_map.1 hv; have h1 := HRP2.out.2.1 x hx; have h2 := HRP2.out.1.2.1; omega))).mono (by omega)
                    have HFI := Lib.hid hFi
                    have hfl := HRP.out.fine.faces
                    have hgl2 := HRP2.out.fine.faces
                    clear hFi
                    have n0 := (blk_cells hB5).1 0 _ rfl
                    have n1 := (blk_cells hB5).1 1 _ rfl
                    have n2 := (blk_cells hB5').1 1 _ rfl
                    have n3 := (blk_cells hB5).2 1
                    have n4 := hB5.lt
                    have hOs : w.heap.size + 3 ≤ W13.heap.size := hO5.size
                    obtain ⟨iF, hiF, hiF0, hiF1, hiF2⟩ := info_parts infoF
                    go_upto_region 19 with (at_builtin; refine wpList_append_own _ rfl _ _ 26 rfl (w.heap.size + 3) 42 iF (.slice none 0 0) 1 24 Tryz.underlying26 hiF hiF0 hiF1 hiF2 rfl (by decide) _ _ _ rfl hF5.own ⟨g, 0, none⟩ gs.length c3 ((List.range gs.length).map wf) rfl (by simp) hnews hone (by simp only [maxLen]; omega) (by omega) hOs ?_; intro v' w4 hown4 hg4 _; obtain ⟨AJ, cJ, rfl⟩ := own_slice hown4; have HJ : Hid (MW (w.heap.size + 3) (.slice AJ (fs.length + gs.length) cJ) (fs ++ (setL hs f0 l0 ((lpA hs f0 l0).set i0 (x + N)))) (fs ++ (setL hs f0 l0 ((lpA hs f0 l0).set i0 (x + N)))).length _ _ w4) := MW.join hF5 HGM.out (fun i hi j hj => by rw [hgl] at hj; exact HAP.out i hi j hj) (fun q hq => HDB.out q (.inl hq) (setL hs f0 l0 ((lpA hs f0 l0).set i0 (x + N))) hgl HSH.out.flen) (by rw [hgl]; exact hown4) hg4; have hO6 := hO5.kept hg4 (fun q e => (hF5.lt (.inl e)).1); have hB6 := hB5.kept hg4 (fun e => own_ne_blk2 hF5.own hB5 (by decide) e.symm); have o1 := (blk_cells hB6).1 1 _ rfl; have o2 := (blk_cells hB6).2 1; have o3 := hB6.lt)
                    have hO7 := hO6.kept (grown_set w4 O 1 (.slice AJ (fs.length + gs.length) cJ)) (fun q e => by cases e; have := HK2.out; simp; omega)
                    have hJ7 := HJ.out.setO hB6 1 (.slice AJ (fs.length + gs.length) cJ)
                    have hB7 := blk_set (o := 1) (x := .slice AJ (fs.length + gs.length) cJ) hB6
                    clear hO6 hB6 HJ o1 o2 o3 n0 n1 n2 n3 n4 hown4 hg4
                    generalize w4.setCell ⟨O, 1, none⟩ (.slice AJ (fs.length + gs.length) cJ) = w5 at hO7 hJ7 hB7 ⊢
                    have p0 := (blk_cells hB7).1 0 _ rfl
                    have p1 := (blk_cells hB7).2 0
                    have p2 := hB7.lt
                    have p4 : w5.cell? ⟨w.heap.size + 1, 0, none⟩ = some (.int .i64 M) := hO7.cell 1 0 rfl rfl
                    have hNM := HNM.out
                    go_upto_region 20 with fail
                    have hO8 := hO7.kept (grown_set w5 O 0 (.int .i64 (N + M))) (fun q e => by cases e; have := HK2.out; simp; omega)
                    have hJ8 := hJ7.setO hB7 0 (.int .i64 (N + M))
                    have hB8 := blk_set (o := 0) (x := .int .i64 (N + M)) hB7
                    clear hO7 hJ7 hB7 p0 p1 p2 p4
                    generalize w5.setCell ⟨O, 0, none⟩ (.int .i64 (N + M)) = W11 at hO8 hJ8 hB8 ⊢
                    have HOB10 := Lib.hid hO8
                    have HM10 := Lib.hid hJ8
                    have HOUT10 := Lib.hid hB8
                    clear hO8 hJ8 hB8
                    have HFT := Lib.hid (fit_own (N + M) HM10.out HFI.out)
                    have m0 := (blk_cells HOUT10.out).1 0 _ rfl
                    have m1 := (blk_cells HOUT10.out).1 1 _ rfl
                    go_wp2_with fail
                    ((with_reducible refine (HFT.out).mono ?_); rintro e W12 ⟨⟨bb, rfl, hbb⟩, hbl⟩)
                    have HBB := Lib.hid hbb
                    have HOB12 := Lib.hid (HOB10.out.call hbl)
                    have HM12 := Lib.hid (HM10.out.belowW hbl)
                    clear HFT hbb hbl HOB10 HM10 HOUT10 m0 m1
                    have m20 : W12.cell? ⟨w.heap.size + 1 + 1, 0, none⟩ = some (.int .i64 0) := HOB12.out.cell 2 0 rfl rfl
                    have z20 : W12.frozen? ⟨w.heap.size + 1 + 1, 0, none⟩ = false := HOB12.out.frz 2 0 rfl
                    have m21 : W12.cell? ⟨w.heap.size + 1 + 1, 1, none⟩ = some (.slice none 0 0) := HOB12.out.cell 2 1 rfl rfl
                    have z21 : W12.frozen? ⟨w.heap.size + 1 + 1, 1, none⟩ = false := HOB12.out.frz 2 1 rfl
                    have HE : Hid (boE N fs M gs = fitE (N + M) (fs ++ (setL hs f0 l0 ((lpA hs f0 l0).set i0 (x + N))))) := boE_big HRP.out HRP2.out HBIG.out
                    cases bb
                    · go_wp2
                      rw [Exit.noGoto_ret]
                      obtain ⟨hx, hxB⟩ := HOB12.out.ret 2 (.int .i64 0) (.slice none 0 0) rfl
                      have e00 := (blk_cells hx).1 0 _ rfl
                      have e01 := (blk_cells hx).1 1 _ rfl
                      refine bodyPost_ret (v := .tuple #[.agg #[.int .i64 0, .slice none 0 0], .int .i64 2]) (by simp [results, Tryz.f25, go_sem, e00, e01]) rfl ?_
                      exact ⟨opOwn_fit (b := false) HE.out (by simpa using HBB.out) (HM12.out.back (r := w.heap.size + 1 + 1) (by omega) (.int .i64 0) (.slice none 0 0)) rfl, hxB⟩
                    · go_wp2
                      rw [Exit.noGoto_ret]
                      obtain ⟨hx, hxB⟩ := HOB12.out.ret 2 (.int .i64 (N + M)) (.slice AJ (fs.length + gs.length) cJ) rfl
                      have e00 := (blk_cells hx).1 0 _ rfl
                      have e01 := (blk_cells hx).1 1 _ rfl
                      refine bodyPost_ret (v := .tuple #[.agg #[.int .i64 (N + M), .slice AJ (fs.length + gs.length) cJ], .int .i64 0]) (by simp [results, Tryz.f25, go_sem, e00, e01]) rfl ?_
                      exact ⟨opOwn_fit (b := true) HE.out (by simpa using HBB.out) (HM12.out.back (r := w.heap.size + 1 + 1) (by omega) (.int .i64 (N + M)) (.slice AJ (fs.length + gs.length) cJ)) rfl, hxB⟩
                  · go_wp2
                    go_roundw
                    case rel =>
                      exact ⟨i0 + 1, _, by omega, by go_num, HSH2.out.congr (fun f l i _ _ _ => by omega), HMG, HRS⟩
                    case measure => simp [intOf]; omega
                · obtain rfl : i0 = n := by omega
                  go_wp2
                  go_roundw
                  case rel =>
                    exact ⟨l0 + 1, hs, by omega, by go_num, HSH.out.congr (fun f l i hf hl hi => by
                      have hnn2 := HN0.out
                      constructor
                      · rintro (h | ⟨rfl, h | ⟨rfl, h⟩⟩) <;> omega
                      · rintro (h | ⟨rfl, h⟩)
                        · exact .inl h
                        · rcases Nat.lt_or_ge l l0 with q | q
                          · exact .inr ⟨rfl, .inl q⟩
                          · obtain rfl : l = l0 := by omega
                            exact .inr ⟨rfl, .inr ⟨rfl, by omega⟩⟩), HMG, HRS⟩
                  case measure => simp [intOf]; omega
            · obtain rfl : l0 = (fcA gs f0).length := by omega
              go_wp2
              go_roundw
              case rel =>
                exact ⟨f0 + 1, hs, by omega, by go_num, HSH.out.congr (fun f l i hf hl hi => by
                  constructor
                  · rintro (h | ⟨rfl, h⟩) <;> omega
                  · intro h
                    rcases Nat.lt_or_ge f f0 with q | q
                    · exact .inl q
                    · obtain rfl : f = f0 := by omega
                      exact .inr ⟨rfl, hl⟩), HMG, HRS⟩
              case measure => simp [intOf]; omega
        · obtain rfl : f0 = gs.length := by omega
          have HALL : Hid (∀ f l i, f < gs.length → l < (fcA gs f).length → i < (lpA gs f l).length → f < gs.length) := fun f l i h _ _ => h
          obtain ⟨hO5, hF5, hB5, hB5'⟩ := HRS.out
          have HGM := Lib.hid HMG.out
          have hgl : hs.length = gs.length := HSH.out.len
          have hnews : ∀ j u, ((List.range gs.length).map wf)[j]? = some u → wr.cell? ((⟨g, 0, none⟩ : Addr).add j) = some u := by
            have h := HMG.out.own
            rw [hgl] at h
            exact World.ownsRow.cells h rfl
          have hone : ∀ u ∈ (List.range gs.length).map wf, u.oneCell' = true := fun u hu => by
            obtain ⟨j, hj, rfl⟩ := List.mem_map.1 hu
            obtain ⟨x, hx⟩ := slice_of_own (HMG.out.face j (by rw [hgl]; exact List.mem_range.1 hj)).own
            rw [hx]; exact encS_one x
          have hFi : Fine 100000 (fs ++ hs) := ((HRP.out.fine).app (HSH.out.fine HRP2.out.fine (by have h1 := HRP.out.1.1; have h2 := HRP.out.1.2.1; omega) (fun v hv => by rw [← pls_v] at hv; obtain ⟨x, hx, rfl⟩ := List.mem_map.1 hv; have h1 := HRP2.out.2.1 x hx; have h2 := HRP2.out.1.2.1; omega))).mono (by omega)
          have HFI := Lib.hid hFi
          have hfl := HRP.out.fine.faces
          have hgl2 := HRP2.out.fine.faces
          clear hFi
          have n0 := (blk_cells hB5).1 0 _ rfl
          have n1 := (blk_cells hB5).1 1 _ rfl
          have n2 := (blk_cells hB5').1 1 _ rfl
          have n3 := (blk_cells hB5).2 1
          have n4 := hB5.lt
          have hOs : w.heap.size + 3 ≤ wr.heap.size := hO5.size
          obtain ⟨iF, hiF, hiF0, hiF1, hiF2⟩ := info_parts infoF
          go_upto_region 19 with (at_builtin; refine wpList_append_own _ rfl _ _ 26 rfl (w.heap.size + 3) 42 iF (.slice none 0 0) 1 24 Tryz.underlying26 hiF hiF0 hiF1 hiF2 rfl (by decide) _ _ _ rfl hF5.own ⟨g, 0, none⟩ gs.length c3 ((List.range gs.length).map wf) rfl (by simp) hnews hone (by simp only [maxLen]; omega) (by omega) hOs ?_; intro v' w4 hown4 hg4 _; obtain ⟨AJ, cJ, rfl⟩ := own_slice hown4; have HJ : Hid (MW (w.heap.size + 3) (.slice AJ (fs.length + gs.length) cJ) (fs ++ hs) (fs ++ hs).length _ _ w4) := MW.join hF5 HGM.out (fun i hi j hj => by rw [hgl] at hj; exact HAP.out i hi j hj) (fun q hq => HDB.out q (.inl hq) hs hgl HSH.out.flen) (by rw [hgl]; exact hown4) hg4; have hO6 := hO5.kept hg4 (fun q e => (hF5.lt (.inl e)).1); have hB6 := hB5.kept hg4 (fun e => own_ne_blk2 hF5.own hB5 (by decide) e.symm); have o1 := (blk_cells hB6).1 1 _ rfl; have o2 := (blk_cells hB6).2 1; have o3 := hB6.lt)
          have hO7 := hO6.kept (grown_set w4 O 1 (.slice AJ (fs.length + gs.length) cJ)) (fun q e => by cases e; have := HK2.out; simp; omega)
          have hJ7 := HJ.out.setO hB6 1 (.slice AJ (fs.length + gs.length) cJ)
          have hB7 := blk_set (o := 1) (x := .slice AJ (fs.length + gs.length) cJ) hB6
          clear hO6 hB6 HJ o1 o2 o3 n0 n1 n2 n3 n4 hown4 hg4
          generalize w4.setCell ⟨O, 1, none⟩ (.slice AJ (fs.length + gs.length) cJ) = w5 at hO7 hJ7 hB7 ⊢
          have p0 := (blk_cells hB7).1 0 _ rfl
          have p1 := (blk_cells hB7).2 0
          have p2 := hB7.lt
          have p4 : w5.cell? ⟨w.heap.size + 1, 0, none⟩ = some (.int .i64 M) := hO7.cell 1 0 rfl rfl
          have hNM := HNM.out
          go_upto_region 20 with fail
          have hO8 := hO7.kept (grown_set w5 O 0 (.int .i64 (N + M))) (fun q e => by cases e; have := HK2.out; simp; omega)
          have hJ8 := hJ7.setO hB7 0 (.int .i64 (N + M))
          have hB8 := blk_set (o := 0) (x := .int .i64 (N + M)) hB7
          clear hO7 hJ7 hB7 p0 p1 p2 p4
          generalize w5.setCell ⟨O, 0, none⟩ (.int .i64 (N + M)) = W11 at hO8 hJ8 hB8 ⊢
          have HOB10 := Lib.hid hO8
          have HM10 := Lib.hid hJ8
          have HOUT10 := Lib.hid hB8
          clear hO8 hJ8 hB8
          have HFT := Lib.hid (fit_own (N + M) HM10.out HFI.out)
          have m0 := (blk_cells HOUT10.out).1 0 _ rfl
          have m1 := (blk_cells HOUT10.out).1 1 _ rfl
          go_wp2_with fail
          ((with_reducible refine (HFT.out).mono ?_); rintro e W12 ⟨⟨bb, rfl, hbb⟩, hbl⟩)
          have HBB := Lib.hid hbb
          have HOB12 := Lib.hid (HOB10.out.call hbl)
          have HM12 := Lib.hid (HM10.out.belowW hbl)
          clear HFT hbb hbl HOB10 HM10 HOUT10 m0 m1
          have m20 : W12.cell? ⟨w.heap.size + 1 + 1, 0, none⟩ = some (.int .i64 0) := HOB12.out.cell 2 0 rfl rfl
          have z20 : W12.frozen? ⟨w.heap.size + 1 + 1, 0, none⟩ = false := HOB12.out.frz 2 0 rfl
          have m21 : W12.cell? ⟨w.heap.size + 1 + 1, 1, none⟩ = some (.slice none 0 0) := HOB12.out.cell 2 1 rfl rfl
          have z21 : W12.frozen? ⟨w.heap.size + 1 + 1, 1, none⟩ = false := HOB12.out.frz 2 1 rfl
          have HE : Hid (boE N fs M gs = fitE (N + M) (fs ++ hs)) := by show boE N fs M gs = _; rw [HSH.out.done HALL.out]; exact boE_ok HRP.out HRP2.out
          cases bb
          · go_wp2
            rw [Exit.noGoto_ret]
            obtain ⟨hx, hxB⟩ := HOB12.out.ret 2 (.int .i64 0) (.slice none 0 0) rfl
            have e00 := (blk_cells hx).1 0 _ rfl
            have e01 := (blk_cells hx).1 1 _ rfl
            refine bodyPost_ret (v := .tuple #[.agg #[.int .i64 0, .slice none 0 0], .int .i64 2]) (by simp [results, Tryz.f25, go_sem, e00, e01]) rfl ?_
            exact ⟨opOwn_fit (b := false) HE.out (by simpa using HBB.out) (HM12.out.back (r := w.heap.size + 1 + 1) (by omega) (.int .i64 0) (.slice none 0 0)) rfl, hxB⟩
          · go_wp2
            rw [Exit.noGoto_ret]
            obtain ⟨hx, hxB⟩ := HOB12.out.ret 2 (.int .i64 (N + M)) (.slice AJ (fs.length + gs.length) cJ) rfl
            have e00 := (blk_cells hx).1 0 _ rfl
            have e01 := (blk_cells hx).1 1 _ rfl
            refine bodyPost_ret (v := .tuple #[.agg #[.int .i64 (N + M), .slice AJ (fs.length + gs.length) cJ], .int .i64 0]) (by simp [results, Tryz.f25, go_sem, e00, e01]) rfl ?_
            exact ⟨opOwn_fit (b := true) HE.out (by simpa using HBB.out) (HM12.out.back (r := w.heap.size + 1 + 1) (by omega) (.int .i64 (N + M)) (.slice AJ (fs.length + gs.length) cJ)) rfl, hxB⟩

theorem both_any (N M : Int) (A A2 : Option Addr) (c c2 : Nat) (fs gs : Fs) (w : World) (hF : RF w A fs) (hSm : Sm fs) (hI : NI fs) (hcap : (plsA fs).length ≤ 100000) (hG : RF w A2 gs) (hSm2 : Sm gs) (hI2 : NI gs) (hcap2 : (plsA gs).length ≤ 100000) :
    Calls Tryz.prog 25 #[.agg #[.int .i64 N, .slice A fs.length c], .agg #[.int .i64 M, .slice A2 gs.length c2]] w fun e w' => OpOut (boE N fs M gs) e w' ∧ Below w.heap.size w w' :=
  (both_own N M A A2 c c2 fs gs w hF hSm hI hcap hG hSm2 hI2 hcap2).mono fun _ _ h => ⟨h.1.out, h.2⟩

end Go.Proofs.YtealnhaffphamaaGreat
