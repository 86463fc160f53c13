/- Contracts of the functions that the statement reaches, and plain lemmas: part 19 of 24. -/
import Derived.Test.YtealnhaffphamaaL16
import Derived.Test.YtealnhaffphamaaL17
import Derived.Test.YtealnhaffphamaaL18
set_option linter.unusedVariables false
set_option linter.unusedSimpArgs false

namespace Go.Proofs.Ytealnhaffphamaa
open Go.RowKit Go.Shelf Go.Proofs.YtealnhaffphamaaW.PrintWords

/-- A row of values, just built. -/
theorem own_lit {B : Nat} {e : TypeId} (W : World) (vs : List Value) {n : Nat} (hn : n = vs.length) (hB : B ≤ W.heap.size) (h : n ≤ 1000000) : (W.alloc (.cells vs.toArray e)).ownsRow B e 1 (.slice (some ⟨W.heap.size, 0, none⟩) n n) n vs :=
  ⟨by omega, .inr ⟨W.heap.size, n, vs.toArray, rfl, hB, blk_new W _, by omega, by simp only [maxLen]; omega, by simp [hn], by simp [hn]⟩⟩
theorem FW.lit1 {base : Nat} {u : Value} {x : List Int} (W : World) (hB : base ≤ W.heap.size) (h : W.ownsRow base 3 1 u x.length (intsV x)) : FW base (.slice (some ⟨W.heap.size, 0, none⟩) 1 1) [x] 1 (fun _ => u) (W.alloc (.cells #[u] 36)) :=
  ⟨own_lit W [u] rfl hB (by omega), fun l hl => by
    obtain rfl : l = 0 := by omega
    exact own_keptB h (World.grownBy_alloc W _ none) (fun b e => by cases e)⟩
theorem MW.lit1 {base : Nat} {u : Value} {ls : List (List Int)} {lv : Nat → Value} (W : World) (hB : base ≤ W.heap.size) (h : FW base u ls ls.length lv W) : MW base (.slice (some ⟨W.heap.size, 0, none⟩) 1 1) [ls] 1 (fun _ => u) (fun _ => lv) (W.alloc (.cells #[u] 37)) :=
  ⟨own_lit W [u] rfl hB (by omega), fun f hf => by
    obtain rfl : f = 0 := by omega
    exact h.kept (World.grownBy_alloc W _ none) (fun b e => by cases e), fun f hf f' hf' hne => by omega⟩
theorem MW.lit2 {base : Nat} {u v : Value} {ls ms : List (List Int)} {lv mv : Nat → Value} (W : World) (hB : base ≤ W.heap.size) (h : FW base u ls ls.length lv W) (k : FW base v ms ms.length mv W) (hd : Ap u v) :
    MW base (.slice (some ⟨W.heap.size, 0, none⟩) 2 2) [ls, ms] 2 (fun f => if f = 0 then u else v) (fun f => if f = 0 then lv else mv) (W.alloc (.cells #[u, v] 37)) :=
  ⟨own_lit W [u, v] rfl hB (by omega), fun f hf => by
    rcases (show f = 0 ∨ f = 1 by omega) with rfl | rfl
    · exact h.kept (World.grownBy_alloc W _ none) (fun b e => by cases e)
    · exact k.kept (World.grownBy_alloc W _ none) (fun b e => by cases e), fun f hf f' hf' hne => by
    rcases (show f = 0 ∧ f' = 1 ∨ f = 1 ∧ f' = 0 by omega) with ⟨rfl, rfl⟩ | ⟨rfl, rfl⟩
    · exact hd
    · exact hd.symm⟩

/-! ### right, decided -/
def nodeB (fs : Fs) (ds : List PV) : List PV → Bool
  | [] => false
  | x :: rest => (decide ((lpA fs x.f x.l).length = 1) && rest.isEmpty) || (decide ((lpA fs x.f x.l).length ≠ 1) && decide (iterP fs ds (pl3 x) (rest.length + 1) = pl3 x) && (List.range rest.length).all fun j => decide (iterP fs ds (pl3 x) (j + 1) ≠ pl3 x))
theorem nodeB_ok {fs : Fs} {ds l : List PV} (h : nodeB fs ds l = true) : NodeOk fs ds l := by
  cases l with
  | nil => simp [nodeB] at h
  | cons x rest =>
    simp only [nodeB, Bool.or_eq_true, Bool.and_eq_true, decide_eq_true_eq, List.isEmpty_iff, List.all_eq_true, List.mem_range] at h
    refine ⟨x, rest, rfl, fun h1 => ?_, fun h1 => ?_⟩
    · rcases h with h | h
      · exact h.2
      · exact absurd h1 h.1.1
    · rcases h with h | h
      · exact absurd h.1 h1
      · refine ⟨h.1.2, fun j hj hlt => ?_⟩
        have := h.2 (j - 1) (by simp at hlt; omega)
        rwa [show j - 1 + 1 = j by omega] at this
def edB (fs : Fs) : Bool := decide ((dartsA fs (plsA fs)).Pairwise (fun x y => ¬ (x.v = y.v ∧ x.a = y.a))) && (dartsA fs (plsA fs)).all (fun x => decide (x.v ≠ x.a) && hasE (dartsA fs (plsA fs)) x.a x.v)
theorem edB_ok {fs : Fs} (h : edB fs = true) : EdOk fs := by
  simp only [edB, Bool.and_eq_true, decide_eq_true_eq, List.all_eq_true] at h
  exact ⟨⟨h.1, fun x hx => (h.2 x hx).1⟩, fun x hx => (h.2 x hx).2⟩
def wholeB (N : Int) (fs : Fs) : Bool := decide (1 ≤ N ∧ N ≤ 200 ∧ 1 ≤ fs.length ∧ fs.length ≤ 400 ∧ fs.flatten.length ≤ 400 ∧ fs.flatten.flatten.length ≤ 2000) && fs.all (fun f => !f.isEmpty) && fs.flatten.all (fun l => !l.isEmpty)
theorem wholeB_ok {N : Int} {fs : Fs} (h : wholeB N fs = true) : Whole N fs := by
  rw [whole_iff]
  simp only [wholeB, Bool.and_eq_true, decide_eq_true_eq, List.all_eq_true, Bool.not_eq_true'] at h
  obtain ⟨⟨⟨h1, h2, h3, h4, h5, h6⟩, h7⟩, h8⟩ := h
  exact ⟨h1, h2, h3, h4, h5, h6, fun f hf e => by have := h7 f hf; rw [e] at this; simp at this, fun l hl e => by have := h8 l hl; rw [e] at this; simp at this⟩
def rightB (N : Int) (fs : Fs) : Bool := wholeB N fs && (plsA fs).all (fun x => decide (0 ≤ x.v ∧ x.v < N)) && edB fs && (List.range N.toNat).all fun i => nodeB fs (dartsA fs (plsA fs)) (rowsA (plsA fs) i)
theorem rightB_ok {N : Int} {fs : Fs} (h : rightB N fs = true) : RightP N fs := by
  simp only [rightB, Bool.and_eq_true, List.all_eq_true, decide_eq_true_eq, List.mem_range] at h
  obtain ⟨⟨⟨h1, h2⟩, h3⟩, h4⟩ := h
  exact ⟨wholeB_ok h1, h2, edB_ok h3, fun i hi => nodeB_ok (h4 i (by omega))⟩

def fM : Fs := [[[0]]]
def fA : Fs := [[[0, 1]]]
def fB : Fs := [[[0, 2, 0, 1]]]
def f2 : Fs := [[[0, 1, 2]], [[0, 2, 1]]]
def fT : Fs := [[[0, 1, 2], [0, 2, 1]]]
theorem rM : RightP 1 fM := rightB_ok (by decide)
theorem rA : RightP 2 fA := rightB_ok (by decide)
theorem rB : RightP 3 fB := rightB_ok (by decide)
theorem r2 : RightP 3 f2 := rightB_ok (by decide)
theorem rT : RightP 3 fT := rightB_ok (by decide)
theorem anM : anE 1 fM 0 0 0 = .ok (2, fA) := by
  have h := anE_ok (f := 0) (l := 0) (i := 0) rM (by unfold HasP; decide)
  have e : setL fM 0 0 (anL 1 (lpA fM 0 0) 0) = fA := by decide
  rw [e] at h
  refine h.trans ?_
  unfold fitE
  rw [if_pos (show RightP (1 + 1) fA from rA)]; rfl
theorem anA : anE 2 fA 0 0 0 = .ok (3, fB) := by
  have h := anE_ok (f := 0) (l := 0) (i := 0) rA (by unfold HasP; decide)
  have e : setL fA 0 0 (anL 2 (lpA fA 0 0) 0) = fB := by decide
  rw [e] at h
  refine h.trans ?_
  unfold fitE
  rw [if_pos (show RightP (2 + 1) fB from rB)]; rfl
theorem df2 : dfE 3 f2 0 1 = .ok (3, fT) := by
  have h := df_ok (f := 0) (g := 1) r2 (by decide) (by decide) (by decide) (by decide)
  have e : ((f2.set 0 (fcA f2 0 ++ [lpA f2 1 0])).eraseIdx 1) = fT := by decide
  rw [e] at h
  refine h.trans ?_
  unfold fitE
  rw [if_pos rT]
open Classical in
theorem shOne {fs : Fs} (h : fs.length = 1) : (shA fs).length = 1 := by
  unfold shA
  rw [h]
  show (if ∃ g, g < 0 ∧ Conn fs g 0 then ([] : List (List Int)) else [] ++ [compA fs 0]).length = 1
  rw [if_neg (fun ⟨g, hg, _⟩ => by omega)]
  rfl
open Classical in
theorem sh2 : (shA f2).length = 1 := by
  have hc : Conn f2 0 1 := .one ⟨pvA f2 0 0 0, dart_of (fs := f2) (p := (0, 0, 0)) ⟨by decide, by decide, by decide⟩ (by decide), rfl, by decide⟩
  unfold shA
  rw [show f2.length = 2 from rfl]
  simp only [shUp]
  rw [if_neg (show ¬ ∃ g, g < 0 ∧ Conn f2 g 0 from fun ⟨g, hg, _⟩ => by omega), if_pos (show ∃ g, g < 0 + 1 ∧ Conn f2 g (0 + 1) from ⟨0, by omega, hc⟩)]
  rfl
theorem ctM : ctV 1 fM = .agg #[.int .i64 1, .int .i64 0, .int .i64 1, .int .i64 0, .int .i64 1, .int .i64 0] := by
  unfold ctV hdN
  rw [shOne rfl, show edN fM = 0 by decide]
  rfl
theorem ct2 : ctV 3 f2 = .agg #[.int .i64 3, .int .i64 3, .int .i64 2, .int .i64 0, .int .i64 1, .int .i64 0] := by
  unfold ctV hdN
  rw [sh2, show edN f2 = 3 by decide]
  rfl
theorem ctT : ctV 3 fT = .agg #[.int .i64 3, .int .i64 3, .int .i64 1, .int .i64 1, .int .i64 1, .int .i64 1] := by
  unfold ctV hdN
  rw [shOne rfl, show edN fT = 3 by decide]
  rfl
theorem likeP_refl (N : Int) (fs : Fs) : LikeP N N fs fs := ⟨rfl, rfl, fun f _ => ⟨rfl, fun l _ => rfl⟩⟩
theorem cpM : cpA fM 1000 1000 5000 = fM := by decide
theorem cpAA : cpA fA 1000 1000 5000 = fA := by decide
theorem cpB : cpA fB 1000 1000 5000 = fB := by decide
theorem not_right_nil (N : Int) : ¬ RightP N [] := fun h => by have := h.1.2.2.1; simp at this
theorem fine_of {N : Int} {fs : Fs} (h : RightP N fs) : Sm fs ∧ NI fs ∧ (plsA fs).length ≤ 100000 := ⟨h.fine.sm (by omega), h.fine.ni, h.fine.cap (by omega)⟩
theorem new_any (w : World) : Calls Try.prog 20 #[] w fun e w' => (∃ A c, e = .returned (.agg #[.int .i64 1, .slice A fM.length c]) ∧ fM.length ≤ c ∧ RF w' A fM) ∧ Below w.heap.size w w' := by
  refine (PNew.euler_New.calls 1 fM w rfl).mono ?_
  rintro e w' ⟨v, rfl, hN, hB⟩
  obtain ⟨A, c, rfl, h1, h2⟩ := Kd.N_reads hN
  exact ⟨⟨A, c, rfl, h1, h2⟩, hB⟩
theorem rnew_any (w : World) : Calls Try.prog 21 #[] w fun e w' => (∃ A c, e = .returned (.agg #[.int .i64 1, .slice A fM.length c]) ∧ fM.length ≤ c ∧ RF w' A fM) ∧ Below w.heap.size w w' := by
  refine (PNew.spokeshaveref14_New.calls 1 fM w rfl).mono ?_
  rintro e w' ⟨v, rfl, hN, hB⟩
  obtain ⟨A, c, rfl, h1, h2⟩ := Kd.N_reads hN
  exact ⟨⟨A, c, rfl, h1, h2⟩, hB⟩

end Go.Proofs.Ytealnhaffphamaa
