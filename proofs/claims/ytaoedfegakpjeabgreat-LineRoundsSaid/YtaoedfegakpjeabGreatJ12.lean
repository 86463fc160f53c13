/- Contracts of the functions that the statement reaches, and plain lemmas: part 12 of 25. -/
import Derived.Test.YtaoedfegakpjeabGreatJ11
import Derived.Test.YtaoedfegakpjeabGreatJ06
import Derived.Sort.LotA
import Derived.Sort.Lot0
import Derived.Deep.LoopGhost
import Derived.Laws.IdiomCopy
import Derived.Test.YtaoedfegakpjeabGreatJ05
import Derived.Lib.SliceRun
import Derived.BigFrame
import Derived.Test.YtaoedfegakpjeabGreatJ04

namespace Go.Proofs.YtaoedfegakpjeabGreat
open Go.RowKit Go.Shelf Go.Sort

instance : Inhabited Q4 := ⟨⟨0, 0, 0, 0⟩⟩
/-- The row of a slice. -/
def RowQ (W : World) (g : Nat) (d : Array Q4) : Prop := ∀ k, k < d.size → At4 W g (k * 4) d[k]!
def FreeB (W : World) (g : Nat) : Prop := ∀ o, W.frozen? ⟨g, o, none⟩ = false
def cells4 (q : Q4) : List Value := [.int .i64 q.a, .int .i64 q.b, .int .i64 q.c, .int .i64 q.d]
theorem At4.some {W : World} {g o : Nat} {q : Q4} (h : At4 W g o q) : ∀ j, j < 4 → (W.cell? ⟨g, o + j, none⟩).isSome = true := by
  intro j hj
  match j, hj with
  | 0, _ => rw [show o + 0 = o from rfl, h.1]; rfl
  | 1, _ => rw [h.2.1]; rfl
  | 2, _ => rw [h.2.2.1]; rfl
  | 3, _ => rw [h.2.2.2]; rfl
theorem At4.put {W : World} {g o : Nat} {r : Q4} (h : At4 W g o r) (q : Q4) : At4 (W.setCells g o (cells4 q)) g o q := by
  have hs : ∀ j, j < (cells4 q).length → (W.cell? ⟨g, o + j, none⟩).isSome = true := h.some
  have e := World.cell?_setCells_in g (cells4 q) o W hs
  exact ⟨e 0 (by simp [cells4]), e 1 (by simp [cells4]), e 2 (by simp [cells4]), e 3 (by simp [cells4])⟩
theorem At4.keep {W : World} {g o o' : Nat} {r : Q4} (h : At4 W g o' r) (q : Q4) (ho : o' + 4 ≤ o ∨ o + 4 ≤ o') : At4 (W.setCells g o (cells4 q)) g o' r := by
  have e : ∀ t, t < 4 → (W.setCells g o (cells4 q)).cell? ⟨g, o' + t, none⟩ = W.cell? ⟨g, o' + t, none⟩ := fun t ht =>
    World.cell?_setCells_out g (cells4 q) o W _ (fun _ _ => by simp [cells4]; omega)
  exact ⟨(e 0 (by omega)).trans h.1, (e 1 (by omega)).trans h.2.1, (e 2 (by omega)).trans h.2.2.1, (e 3 (by omega)).trans h.2.2.2⟩
theorem RowQ.put {W : World} {g : Nat} {d : Array Q4} (h : RowQ W g d) (i : Nat) (q : Q4) (hi : i < d.size) : RowQ (W.setCells g (i * 4) (cells4 q)) g (d.setIfInBounds i q) := by
  intro k hk
  rw [Array.size_setIfInBounds] at hk
  by_cases e : k = i
  · subst e
    have : (d.setIfInBounds k q)[k]! = q := by simp [hi]
    rw [this]; exact (h k hk).put q
  · have : (d.setIfInBounds i q)[k]! = d[k]! := by simp [Array.getElem!_eq_getD, Array.getD_eq_getD_getElem?, Ne.symm e]
    rw [this]; exact (h k hk).keep q (by omega)
theorem RowQ.swp {W : World} {g : Nat} {d : Array Q4} (h : RowQ W g d) (i j : Nat) (hi : i < d.size) (hj : j < d.size) :
    RowQ ((W.setCells g (i * 4) (cells4 d[j]!)).setCells g (j * 4) (cells4 d[i]!)) g (swp d i j) :=
  (h.put i _ hi).put j _ (by rw [Array.size_setIfInBounds]; exact hj)
theorem RowQ.below {W W1 : World} {g B : Nat} {d : Array Q4} (h : RowQ W g d) (hb : Below B W W1) (hg : g < B) : RowQ W1 g d := fun k hk => (h k hk).below hb hg
theorem FreeB.below {W W1 : World} {g B : Nat} (h : FreeB W g) (hb : Below B W W1) (hg : g < B) : FreeB W1 g := fun o => (hb.frozen (p := ⟨g, o, none⟩) hg).trans (h o)
theorem FreeB.put {W : World} {g : Nat} (h : FreeB W g) (b o : Nat) (vs : List Value) : FreeB (W.setCells b o vs) g := fun x => by rw [World.frozen?_setCells]; exact h x
theorem grown_setCells (g : Nat) : ∀ (vs : List Value) (o : Nat) (W : World), W.grownBy (W.setCells g o vs) (some g)
  | [], o, W => World.grownBy.refl W _
  | v :: vs, o, W => by
    have h : W.grownBy (W.setCell ⟨g, o, none⟩ v) (some g) := ⟨rfl, rfl, rfl, by simp, fun k _ hne => Below.heap_setCell W ⟨g, o, none⟩ v k (fun e => hne (by rw [e]))⟩
    exact h.trans (grown_setCells g vs (o + 1) (W.setCell ⟨g, o, none⟩ v))
/-- All elements are words. -/
def AllI (d : Array Q4) : Prop := ∀ k, k < d.size → d[k]!.I64
theorem AllI.swp {d : Array Q4} (h : AllI d) (i j : Nat) (hi : i < d.size) (hj : j < d.size) : AllI (swp d i j) := by
  intro k hk
  rw [size_swp] at hk
  unfold Sort.swp
  by_cases e : k = j
  · subst e
    have : ((d.setIfInBounds i d[k]!).setIfInBounds k d[i]!)[k]! = d[i]! := by simp [hk]
    rw [this]; exact h i hi
  · have e1 : ((d.setIfInBounds i d[j]!).setIfInBounds j d[i]!)[k]! = (d.setIfInBounds i d[j]!)[k]! := by simp [Array.getElem!_eq_getD, Array.getD_eq_getD_getElem?, Ne.symm e]
    rw [e1]
    by_cases e2 : k = i
    · subst e2
      have : (d.setIfInBounds k d[j]!)[k]! = d[j]! := by simp [hk]
      rw [this]; exact h j hj
    · have e3 : (d.setIfInBounds i d[j]!)[k]! = d[k]! := by simp [Array.getElem!_eq_getD, Array.getD_eq_getD_getElem?, Ne.symm e2]
      rw [e3]; exact h k hk

/-- Which of two points comes first. -/
noncomputable def ptLt (dx dy dz : Int) (a b : Q4) : Bool := vlB (decide (alongI dx dy dz a b < 0))
theorem ptLt_eq (dx dy dz : Int) (a b : Q4) : ptLt dx dy dz a b = decide (alongI dx dy dz a b < 0) := vlB_eq _

theorem insIn_stop (lt : Q4 → Q4 → Bool) (j : Nat) (d : Array Q4) (h : j = 0 ∨ lt d[j]! d[j - 1]! = false) : insInner lt 0 j d = d := by
  cases j with
  | zero => rfl
  | succ j => rcases h with h | h; · omega
              · unfold insInner; rw [if_neg (by simpa using h)]
theorem insIn_go (lt : Q4 → Q4 → Bool) (j : Nat) (d : Array Q4) (h : lt d[j + 1]! d[j]! = true) : insInner lt 0 (j + 1) d = insInner lt 0 j (swp d (j + 1) j) := by
  rw [insInner, if_pos (by simp [h])]
theorem insOut_go (lt : Q4 → Q4 → Bool) (b i : Nat) (d : Array Q4) (h : i < b) : insOuter lt 0 b i d = insOuter lt 0 b (i + 1) (insInner lt 0 i d) := by rw [insOuter, if_pos h]
theorem insOut_stop (lt : Q4 → Q4 → Bool) (b i : Nat) (d : Array Q4) (h : ¬ i < b) : insOuter lt 0 b i d = d := by rw [insOuter, if_neg h]

/-- A world of the sort's. -/
structure SortW (w : World) (g : Nat) (d : Array Q4) (W : World) : Prop where
  grown : w.grownBy W (some g)
  row : RowQ W g d
  free : FreeB W g
  all : AllI d

theorem SortW.drew {w W : World} {g : Nat} {d : Array Q4} (h : SortW w g d W) : SortW w g d W.drew :=
  ⟨⟨h.grown.os, h.grown.tape, h.grown.output, h.grown.size, h.grown.block⟩, h.row, h.free, h.all⟩
theorem SortW.called {w W W1 : World} {g : Nat} {d : Array Q4} (h : SortW w g d W) (hb : Below W.heap.size W W1) (hg : g < W.heap.size) : SortW w g d W1 :=
  ⟨⟨hb.os.trans h.grown.os, hb.tape.trans h.grown.tape, hb.output.trans h.grown.output, Nat.le_trans h.grown.size hb.size, fun k hk hne => (hb.block k (Nat.lt_of_lt_of_le hk h.grown.size)).trans (h.grown.block k hk hne)⟩, h.row.below hb hg, h.free.below hb hg, h.all⟩
theorem SortW.exch {w W : World} {g : Nat} {d : Array Q4} (h : SortW w g d W) (i j : Nat) (hi : i < d.size) (hj : j < d.size) (x y : Q4) (hx : d[i]! = x) (hy : d[j]! = y) :
    SortW w g (swp d i j) ((W.setCells g (i * 4) (cells4 y)).setCells g (j * 4) (cells4 x)) := by
  subst hx hy
  exact ⟨(h.grown.trans (grown_setCells g _ _ _)).trans (grown_setCells g _ _ _), h.row.swp i j hi hj, FreeB.put (FreeB.put h.free g _ _) g _ _, h.all.swp i j hi hj⟩

set_option maxRecDepth 100000 in
set_option maxHeartbeats 2000000 in
theorem insertion_any (d : Array Q4) (g cap db : Nat) (dx dy dz : Int) (w : World) (hn : ¬ (dx = 0 ∧ dy = 0 ∧ dz = 0)) (hg : g < w.heap.size) (hdb : db < w.heap.size) (hne : db ≠ g) (hsz : d.size ≤ 1000000)
    (d0 : w.cell? ⟨db, 0, none⟩ = some (.int .i64 dx)) (d1 : w.cell? ⟨db, 1, none⟩ = some (.int .i64 dy)) (d2 : w.cell? ⟨db, 2, none⟩ = some (.int .i64 dz)) (hr : RowQ w g d) (hf : FreeB w g) (hi : AllI d) :
    Calls Tryz.prog 99 #[.slice (some ⟨g, 0, none⟩) d.size cap, .int .i64 0, .int .i64 d.size, .func (.func 57) #[] #[.pointer (some ⟨db, 0, none⟩)]] w fun e w' =>
      e = .returned (.tuple #[]) ∧ SortW w g (insertionSort (ptLt dx dy dz) d 0 d.size) w' := by
  have HS : Hid (SortW w g d w) := ⟨World.grownBy.refl _ _, hr, hf, hi⟩
  have HN := Lib.hid hn
  clear hr hf hi hn
  go_enter Tryz.func99, Tryz.ntmps99
  go_wp2
  go_loopg [8] d.size (fun g1 vi wr => ∃ (i : Nat) (dk : Array Q4), vi = .int .i64 i ∧ 1 ≤ i ∧ i ≤ d.size + 1 ∧ d.size + 1 - i ≤ g1 + 1 ∧ dk.size = d.size ∧ Hid (SortW w g dk wr) ∧ Hid (insOuter (ptLt dx dy dz) 0 d.size i dk = insOuter (ptLt dx dy dz) 0 d.size 1 d))
  case atStart => exact ⟨1, d, by go_num, by omega, by omega, by omega, rfl, HS, rfl⟩
  case round =>
    rename World => wr
    obtain ⟨i, dk, rfl, hai, hib, hg1, hsk, HW, HO⟩ := hrel
    by_cases hlt : i < d.size
    · have hltz : (i : Int) < (d.size : Int) := by omega
      go_wp2
      go_loopg [9] i (fun g2 vj wr2 => ∃ (j : Nat) (dj : Array Q4), vj = .int .i64 j ∧ j ≤ i ∧ j ≤ g2 ∧ dj.size = d.size ∧ Hid (SortW w g dj wr2) ∧ Hid (insInner (ptLt dx dy dz) 0 j dj = insInner (ptLt dx dy dz) 0 i dk))
      case atStart => exact ⟨i, dk, rfl, Nat.le_refl _, Nat.le_refl _, hsk, HW, rfl⟩
      case round =>
        rename World => wr2
        obtain ⟨j, dj, rfl, hji, hg2, hsj, HV, HI⟩ := hrel
        have out : (j = 0 ∨ ptLt dx dy dz dj[j]! dj[j - 1]! = false) → Hid (insOuter (ptLt dx dy dz) 0 d.size (i + 1) dj = insOuter (ptLt dx dy dz) 0 d.size 1 d) := fun hs => by
          show _ = _
          rw [← HO.out, insOut_go _ _ _ _ hlt, ← HI.out, insIn_stop _ _ _ hs]
        have OUT : Hid _ := out
        clear out
        by_cases hja : 0 < j
        · obtain ⟨jp, rfl⟩ : ∃ jp, j = jp + 1 := ⟨j - 1, by omega⟩
          have hg' : g < wr2.heap.size := Nat.lt_of_lt_of_le hg HV.out.grown.size
          have hdb' : db < wr2.heap.size := Nat.lt_of_lt_of_le hdb HV.out.grown.size
          have e0 := HV.out.grown.cell d0 (by simpa using hne)
          have e1 := HV.out.grown.cell d1 (by simpa using hne)
          have e2 := HV.out.grown.cell d2 (by simpa using hne)
          obtain ⟨ca, cb, cc, cd⟩ := HV.out.row (jp + 1) (by omega)
          obtain ⟨pa, pb, pc, pd⟩ := HV.out.row jp (by omega)
          have ij := HV.out.all (jp + 1) (by omega)
          have ip := HV.out.all jp (by omega)
          obtain ⟨xj, hxj⟩ : ∃ x, dj[jp + 1]! = x := ⟨_, rfl⟩
          obtain ⟨xp, hxp⟩ : ∃ x, dj[jp]! = x := ⟨_, rfl⟩
          rw [hxj] at ca cb cc cd ij
          rw [hxp] at pa pb pc pd ip
          have HXJ := Lib.hid hxj
          have HXP := Lib.hid hxp
          clear hxj hxp
          have hwp : IntKind.i64.wrap (jp : Int) = (jp : Int) := by rw [IntKind.wrap_i64]; omega
          have jz : (jp : Int) + 1 < (d.size : Int) := by omega
          have jz1 : (jp : Int) < (d.size : Int) := by omega
          have hjaz' : (0 : Int) < (jp : Int) + 1 := by omega
          have p0 : (0 : Int) ≤ (jp : Int) + 1 := by omega
          have e0' : ((jp : Int) + 1).toNat = jp + 1 := by omega
          have hE : ∀ W, Fr 0 [] [] wr2 W → (W.cell? ⟨g, (jp+1)*4, none⟩ = some (.int .i64 (xj.a)) ∧ W.cell? ⟨g, (jp+1)*4 + 1, none⟩ = some (.int .i64 (xj.b)) ∧ W.cell? ⟨g, (jp+1)*4 + 2, none⟩ = some (.int .i64 (xj.c)) ∧ W.cell? ⟨g, (jp+1)*4 + 3, none⟩ = some (.int .i64 (xj.d)) ∧ W.cell? ⟨g, jp*4, none⟩ = some (.int .i64 (xp.a)) ∧ W.cell? ⟨g, jp*4 + 1, none⟩ = some (.int .i64 (xp.b)) ∧ W.cell? ⟨g, jp*4 + 2, none⟩ = some (.int .i64 (xp.c)) ∧ W.cell? ⟨g, jp*4 + 3, none⟩ = some (.int .i64 (xp.d)) ∧ W.cell? ⟨db, 0, none⟩ = some (.int .i64 dx) ∧ W.cell? ⟨db, 1, none⟩ = some (.int .i64 dy) ∧ W.cell? ⟨db, 2, none⟩ = some (.int .i64 dz)) := fun W h => by (repeat' apply And.intro) <;> first | exact h.at0 rfl | exact h.at rfl | exact (h.rms0 rfl).cell | exact (h.rms rfl).cell | exact (h.rms0 rfl).frozen | exact (h.rms rfl).frozen | exact (h.own.below.cell (p := ⟨g, _, none⟩) hg').trans (by assumption) | exact (h.own.below.cell (p := ⟨g, _, none⟩) hg').trans (by assumption) | exact (h.own.below.cell (p := ⟨db, _, none⟩) hdb').trans (by assumption)
          have HE := Lib.hid hE
          clear hE
          have hF0 : Fr 0 [] [] wr2 wr2 := Fr.nil _
          by_cases hlv : alongI dx dy dz xj xp < 0
          · go_wp2_with fail
            go_region_held3 (fun W => Fr 0 [] [] wr2 W ∧ W.cell? ⟨g, (jp+1)*4, none⟩ = some (.int .i64 (xj.a)) ∧ W.cell? ⟨g, (jp+1)*4 + 1, none⟩ = some (.int .i64 (xj.b)) ∧ W.cell? ⟨g, (jp+1)*4 + 2, none⟩ = some (.int .i64 (xj.c)) ∧ W.cell? ⟨g, (jp+1)*4 + 3, none⟩ = some (.int .i64 (xj.d)) ∧ W.cell? ⟨g, jp*4, none⟩ = some (.int .i64 (xp.a)) ∧ W.cell? ⟨g, jp*4 + 1, none⟩ = some (.int .i64 (xp.b)) ∧ W.cell? ⟨g, jp*4 + 2, none⟩ = some (.int .i64 (xp.c)) ∧ W.cell? ⟨g, jp*4 + 3, none⟩ = some (.int .i64 (xp.d)) ∧ W.cell? ⟨db, 0, none⟩ = some (.int .i64 dx) ∧ W.cell? ⟨db, 1, none⟩ = some (.int .i64 dy) ∧ W.cell? ⟨db, 2, none⟩ = some (.int .i64 dz)) ((first | exact hSK | assumption | (have hq := Fr.keep HE.out (by assumption) hb1; exact hq) | (have hq := Fr.both HE.out hF.drew; exact hq) | (have hq := Fr.both HE.out (Fr.nil wr2).drew; exact hq) | (refine Fr.both HE.out ?_; (repeat (first | exact hF | exact And.left (by assumption) | refine Fr.set ?_ (by first | (simp; done) | (simp; omega)) (by first | (simp [List.lookup]; done) | (simp [Nat.add_assoc, List.lookup]; done)) _ | refine Fr.drew ?_ | refine Fr.alloc ?_ _))))) ((go_at_call 57; refine (points1_any xj xp dx dy dz db _ ij ip HN.out (by assumption) (by assumption) (by assumption) (by assumption)).mono ?_; rintro e w1 ⟨rfl, hb1⟩))
            rename World => w1
            obtain ⟨hG, hcs⟩ : Fr 0 [] [] wr2 w1 ∧ _ := by assumption
            obtain ⟨ca1, cb1, cc1, cd1, pa1, pb1, pc1, pd1, -, -, -⟩ := hcs
            have hB1 := hG.own.below
            have HW1 : Hid (SortW w g dj w1) := HV.out.called hB1 hg'
            have hf1 := HW1.out.free
            unfold FreeB at hf1
            clear hG hB1 ca cb cc cd pa pb pc pd e0 e1 e2 HE hb1 hF0
            go_wp2_with fail
            go_region
            have HW' : Hid (SortW w g (swp dj (jp + 1) jp) ((w1.setCells g ((jp + 1) * 4) (cells4 xp)).setCells g (jp * 4) (cells4 xj)).drew) := (HW1.out.exch (jp + 1) jp (by omega) (by omega) xj xp HXJ.out HXP.out).drew
            go_wp2
            go_roundg jp
            case measure => omega
            case rel =>
              refine ⟨jp, swp dj (jp + 1) jp, by go_num, by omega, Nat.le_refl _, by rw [size_swp]; exact hsj, HW'.out, ?_⟩
              show _ = _
              rw [← HI.out, insIn_go _ _ _ (by rw [HXJ.out, HXP.out, ptLt_eq]; exact decide_eq_true hlv)]
          · go_wp2_with fail
            go_region_held3 (fun W => Fr 0 [] [] wr2 W ∧ W.cell? ⟨g, (jp+1)*4, none⟩ = some (.int .i64 (xj.a)) ∧ W.cell? ⟨g, (jp+1)*4 + 1, none⟩ = some (.int .i64 (xj.b)) ∧ W.cell? ⟨g, (jp+1)*4 + 2, none⟩ = some (.int .i64 (xj.c)) ∧ W.cell? ⟨g, (jp+1)*4 + 3, none⟩ = some (.int .i64 (xj.d)) ∧ W.cell? ⟨g, jp*4, none⟩ = some (.int .i64 (xp.a)) ∧ W.cell? ⟨g, jp*4 + 1, none⟩ = some (.int .i64 (xp.b)) ∧ W.cell? ⟨g, jp*4 + 2, none⟩ = some (.int .i64 (xp.c)) ∧ W.cell? ⟨g, jp*4 + 3, none⟩ = some (.int .i64 (xp.d)) ∧ W.cell? ⟨db, 0, none⟩ = some (.int .i64 dx) ∧ W.cell? ⟨db, 1, none⟩ = some (.int .i64 dy) ∧ W.cell? ⟨db, 2, none⟩ = some (.int .i64 dz)) ((first | exact hSK | assumption | (have hq := Fr.keep HE.out (by assumption) hb1; exact hq) | (have hq := Fr.both HE.out hF.drew; exact hq) | (have hq := Fr.both HE.out (Fr.nil wr2).drew; exact hq) | (refine Fr.both HE.out ?_; (repeat (first | exact hF | exact And.left (by assumption) | refine Fr.set ?_ (by first | (simp; done) | (simp; omega)) (by first | (simp [List.lookup]; done) | (simp [Nat.add_assoc, List.lookup]; done)) _ | refine Fr.drew ?_ | refine Fr.alloc ?_ _))))) ((go_at_call 57; refine (points1_any xj xp dx dy dz db _ ij ip HN.out (by assumption) (by assumption) (by assumption) (by assumption)).mono ?_; rintro e w1 ⟨rfl, hb1⟩))
            rename World => w1
            obtain ⟨hG, -⟩ : Fr 0 [] [] wr2 w1 ∧ _ := by assumption
            have hB1 := hG.own.below
            have HW' : Hid (SortW w g dj w1) := HV.out.called hB1 hg'
            clear hG hB1 ca cb cc cd pa pb pc pd e0 e1 e2 HE hb1 hF0
            go_wp2
            go_roundg (d.size - (i + 1))
            case measure => omega
            case rel => exact ⟨i + 1, dj, by go_num, by omega, by omega, by omega, hsj, HW'.out, OUT.out (Or.inr (by simp only [Nat.add_sub_cancel]; rw [HXJ.out, HXP.out, ptLt_eq]; exact decide_eq_false (by omega)))⟩
        · have hj0 : j = 0 := by omega
          subst hj0
          have HW' : Hid (SortW w g dj wr2.drew) := HV.out.drew
          go_wp2_with fail
          go_region
          all_goals go_wp2
          go_roundg (d.size - (i + 1))
          case measure => omega
          case rel => exact ⟨i + 1, dj, by go_num, by omega, by omega, by omega, hsj, HW'.out, OUT.out (Or.inl (by trivial))⟩
    · have hltz : ¬ (i : Int) < (d.size : Int) := by omega
      go_wp2
      go_end0
      exact ⟨rfl, by unfold Sort.insertionSort; rw [← HO.out, insOut_stop _ _ _ _ hlt]; exact HW.out⟩

end Go.Proofs.YtaoedfegakpjeabGreat

namespace Go.Proofs.YtaoedfegakpjeabGreat
open Go.RowKit Go.Shelf Go.Sort

set_option maxRecDepth 100000 in
set_option maxHeartbeats 2000000 in
theorem pdq_any (d : Array Q4) (g cap db : Nat) (dx dy dz lim : Int) (w : World) (hn : ¬ (dx = 0 ∧ dy = 0 ∧ dz = 0)) (hg : g < w.heap.size) (hdb : db < w.heap.size) (hne : db ≠ g) (hsz : d.size ≤ 12)
    (d0 : w.cell? ⟨db, 0, none⟩ = some (.int .i64 dx)) (d1 : w.cell? ⟨db, 1, none⟩ = some (.int .i64 dy)) (d2 : w.cell? ⟨db, 2, none⟩ = some (.int .i64 dz)) (hr : RowQ w g d) (hf : FreeB w g) (hi : AllI d) :
    Calls Tryz.prog 81 #[.slice (some ⟨g, 0, none⟩) d.size cap, .int .i64 0, .int .i64 d.size, .int .i64 lim, .func (.func 57) #[] #[.pointer (some ⟨db, 0, none⟩)]] w fun e w' =>
      e = .returned (.tuple #[]) ∧ SortW w g (insertionSort (ptLt dx dy dz) d 0 d.size) w' := by
  have h := insertion_any d g cap db dx dy dz w hn hg hdb hne (by omega) d0 d1 d2 hr hf hi
  clear d0 d1 d2 hr hf hi hn
  have hz : (d.size : Int) ≤ 12 := by omega
  have hw : IntKind.i64.wrap (d.size : Int) = (d.size : Int) := by rw [IntKind.wrap_i64]; omega
  go_enter Tryz.func81, Tryz.ntmps81
  go_wp2
  refine wp_loop_rounds 1 ?_
  rw [rounds_succ]
  go_wp2_with (go_at_call 99; refine h.mono ?_; rintro e w' ⟨rfl, hW⟩)
  (try simp only [Exit.inBlock, Exit.then]); refine bodyPost_ret (results_none rfl _ _ _) rfl ?_
  exact ⟨rfl, hW⟩

set_option maxRecDepth 100000 in
set_option maxHeartbeats 2000000 in
theorem sortFunc_any (d : Array Q4) (g cap db : Nat) (dx dy dz : Int) (w : World) (hn : ¬ (dx = 0 ∧ dy = 0 ∧ dz = 0)) (hg : g < w.heap.size) (hdb : db < w.heap.size) (hne : db ≠ g) (hsz : d.size ≤ 12)
    (d0 : w.cell? ⟨db, 0, none⟩ = some (.int .i64 dx)) (d1 : w.cell? ⟨db, 1, none⟩ = some (.int .i64 dy)) (d2 : w.cell? ⟨db, 2, none⟩ = some (.int .i64 dz)) (hr : RowQ w g d) (hf : FreeB w g) (hi : AllI d) :
    Calls Tryz.prog 56 #[.slice (some ⟨g, 0, none⟩) d.size cap, .func (.func 57) #[] #[.pointer (some ⟨db, 0, none⟩)]] w fun e w' =>
      e = .returned (.tuple #[]) ∧ SortW w g (insertionSort (ptLt dx dy dz) d 0 d.size) w' := by
  have h := fun lim => pdq_any d g cap db dx dy dz lim w hn hg hdb hne hsz d0 d1 d2 hr hf hi
  clear d0 d1 d2 hr hf hi hn
  have wr : IntKind.u64.wrap (d.size : Int) = d.size := by simp [IntKind.wrap, IntKind.bits, IntKind.signed]; omega
  have hl := Tryz.bits_Len (d.size : Int) w (by omega) (by omega)
  go_enter Tryz.func56, Tryz.ntmps56
  go_wp2_with (first | (go_at_call 82; refine hl.mono ?_; rintro e w' ⟨rfl, rfl⟩) | (go_at_call 81; refine (h _).mono ?_; rintro e w' ⟨rfl, hW⟩))
  go_end0
  exact ⟨rfl, hW⟩

set_option maxRecDepth 100000 in
set_option maxHeartbeats 2000000 in
theorem insertion_nil (fv : Value) (w : World) :
    Calls Tryz.prog 99 #[.slice none 0 0, .int .i64 0, .int .i64 0, fv] w fun e w' => e = .returned (.tuple #[]) ∧ w' = w := by
  go_enter Tryz.func99, Tryz.ntmps99
  go_wp2
  refine wp_loop_rounds 1 ?_
  rw [rounds_succ]
  go_wp2
  go_end0
  exact ⟨rfl, rfl⟩
set_option maxRecDepth 100000 in
set_option maxHeartbeats 2000000 in
theorem pdq_nil (fv : Value) (lim : Int) (w : World) :
    Calls Tryz.prog 81 #[.slice none 0 0, .int .i64 0, .int .i64 0, .int .i64 lim, fv] w fun e w' => e = .returned (.tuple #[]) ∧ w' = w := by
  have h := insertion_nil fv w
  go_enter Tryz.func81, Tryz.ntmps81
  go_wp2
  refine wp_loop_rounds 1 ?_
  rw [rounds_succ]
  go_wp2_with (go_at_call 99; refine h.mono ?_; rintro e w' ⟨rfl, rfl⟩)
  (try simp only [Exit.inBlock, Exit.then]); refine bodyPost_ret (results_none rfl _ _ _) rfl ?_
  exact ⟨rfl, rfl⟩
set_option maxRecDepth 100000 in
set_option maxHeartbeats 2000000 in
theorem sortFunc_nil (fv : Value) (w : World) :
    Calls Tryz.prog 56 #[.slice none 0 0, fv] w fun e w' => e = .returned (.tuple #[]) ∧ w' = w := by
  have h := fun lim => pdq_nil fv lim w
  have hl := Tryz.bits_Len 0 w (by omega) (by omega)
  go_enter Tryz.func56, Tryz.ntmps56
  go_wp2_with (first | (go_at_call 82; refine hl.mono ?_; rintro e w' ⟨rfl, rfl⟩) | (go_at_call 81; refine (h _).mono ?_; rintro e w' ⟨rfl, rfl⟩))
  go_end0
  exact ⟨rfl, rfl⟩

end Go.Proofs.YtaoedfegakpjeabGreat

namespace Go.Proofs.YtaoedfegakpjeabGreat
open Go.RowKit Go.Shelf Go.Sort

def Q4.eqB (p q : Q4) : Bool := eq4B p.a p.b p.c p.d q.a q.b q.c q.d
theorem Q4.eqB_iff (p q : Q4) : p.eqB q = true ↔ p = q := by
  cases p; cases q; simp [Q4.eqB, eq4B]
/-- What is equal to the one ahead of it goes. -/
def cmpct : List Q4 → List Q4
  | [] => []
  | [x] => [x]
  | x :: y :: r => if y.eqB x then cmpct (y :: r) else x :: cmpct (y :: r)
theorem cmpct_snoc (l : List Q4) (y x : Q4) : cmpct (l ++ [y, x]) = if x.eqB y then cmpct (l ++ [y]) else cmpct (l ++ [y]) ++ [x] := by
  induction l with
  | nil =>
    simp only [List.nil_append, cmpct]
    split
    · rename_i h; rw [(Q4.eqB_iff _ _).1 h]
    · rfl
  | cons z r ih =>
    cases r with
    | nil =>
      simp only [List.nil_append, List.cons_append, cmpct] at ih ⊢
      split <;> split <;> simp_all
    | cons z2 r =>
      simp only [List.cons_append, cmpct] at ih ⊢
      by_cases h : z2.eqB z = true
      · simp only [h, if_true]; exact ih
      · simp only [h]
        rw [ih]
        by_cases hx : x.eqB y = true <;> simp [hx]
theorem take_two (d : List Q4) (k : Nat) (h : k + 1 < d.length) : d.take (k + 2) = d.take k ++ [d[k], d[k + 1]] := by
  rw [List.take_succ_eq_append_getElem h, List.take_succ_eq_append_getElem (by omega), List.append_assoc]; rfl
theorem cmpct_take (d : Array Q4) (k : Nat) (h : k + 1 < d.size) : cmpct (d.toList.take (k + 2)) = if (d[k + 1]!).eqB d[k]! then cmpct (d.toList.take (k + 1)) else cmpct (d.toList.take (k + 1)) ++ [d[k + 1]!] := by
  have e1 : d[k + 1]! = d.toList[k + 1]'(by simpa using h) := by simp [h]
  have e0 : d[k]! = d.toList[k]'(by simp; omega) := by rw [getElem!_pos d k (by omega)]; simp
  rw [take_two _ _ (by simpa using h), cmpct_snoc, ← e1, ← e0, List.take_succ_eq_append_getElem (by simp; omega), ← e0]

theorem zero60 (w : World) : (zeroValue 48).run Tryz.prog w = .ok (.agg #[.int .i64 0, .int .i64 0, .int .i64 0, .int .i64 0]) w := by kernel_rfl
theorem clear4 (g o n c : Nat) (w : World) (hn : 0 < n) (hc : ∀ j, j < n * 4 → (w.cell? ⟨g, o + j, none⟩).isSome = true) (hf : FreeB w g) :
    ∃ vs : List Value, ∀ ty, (Builtin.clear_ #[59] ty #[.slice (some ⟨g, o, none⟩) n c]).run Tryz.prog w = .ok (.tuple #[]) (w.setCells g o vs) := by
  refine ⟨(Builtin.zeroCells (Value.agg #[.int .i64 0, .int .i64 0, .int .i64 0, .int .i64 0]).cells n).toList, fun ty => ?_⟩
  have hl : (Builtin.zeroCells (Value.agg #[.int .i64 0, .int .i64 0, .int .i64 0, .int .i64 0]).cells n).toList.length = n * 4 := by
    simp [Builtin.zeroCells, Value.cells]
  have h1 : ∀ v ∈ (Builtin.zeroCells (Value.agg #[.int .i64 0, .int .i64 0, .int .i64 0, .int .i64 0]).cells n).toList, v.oneCell' = true := by
    intro v hv
    simp only [Builtin.zeroCells, Array.toList_map, List.mem_map] at hv
    obtain ⟨i, _, rfl⟩ := hv
    have hi : i % 4 < 4 := Nat.mod_lt _ (by omega)
    show ((#[Value.int .i64 0, .int .i64 0, .int .i64 0, .int .i64 0] : Array Value)[i % 4]!).oneCell' = true
    generalize i % 4 = m at hi
    match m, hi with
    | 0, _ => rfl
    | 1, _ => rfl
    | 2, _ => rfl
    | 3, _ => rfl
  have hst := run_storeCells_cells (P := Tryz.prog) g o _ 0 w (by rw [hl]; simpa using hc) (by intro j _; exact hf _) h1
  simp only [Nat.add_zero] at hst
  obtain ⟨m, rfl⟩ : ∃ m, n = m + 1 := ⟨n - 1, by omega⟩
  simp [Builtin.clear_, run_underlying Tryz.underlying59, hst]

/-- What the inner loop holds: k: where the next one goes; m: so many have been looked at. -/
structure CmpI (d dj : Array Q4) (k m : Nat) : Prop where
  size : dj.size = d.size
  le : k < m
  lem : m ≤ d.size
  done : dj.toList.take k = cmpct (d.toList.take m)
  high : ∀ i, m ≤ i + 1 → dj[i]! = d[i]!
theorem CmpI.skip {d dj : Array Q4} {k m : Nat} (h : CmpI d dj k m) (hm : m < d.size) (h1 : 1 ≤ m) (he : (d[m]!).eqB d[m - 1]! = true) : CmpI d dj k (m + 1) := by
  refine ⟨h.size, by have := h.le; omega, by omega, ?_, fun i hi => h.high i (by omega)⟩
  obtain ⟨p, rfl⟩ : ∃ p, m = p + 1 := ⟨m - 1, by omega⟩
  rw [cmpct_take d p (by omega), if_pos (by simpa using he)]
  exact h.done
theorem CmpI.keep {d dj : Array Q4} {k m : Nat} (h : CmpI d dj k m) (hm : m < d.size) (h1 : 1 ≤ m) (he : (d[m]!).eqB d[m - 1]! = false) : CmpI d (dj.setIfInBounds k d[m]!) (k + 1) (m + 1) := by
  have hk : k < dj.size := by have := h.le; have := h.size; omega
  refine ⟨by simp [h.size], by have := h.le; omega, by omega, ?_, fun i hi => ?_⟩
  · obtain ⟨p, rfl⟩ : ∃ p, m = p + 1 := ⟨m - 1, by omega⟩
    rw [cmpct_take d p (by omega), if_neg (by simpa using he), ← h.done]
    simp only [Array.toList_setIfInBounds]
    rw [List.take_succ_eq_append_getElem (by simpa using hk)]
    simp [List.take_set_of_le (Nat.le_refl k)]
  · have : (dj.setIfInBounds k d[m]!)[i]! = dj[i]! := by
      have hne : k ≠ i := by have := h.le; omega
      simp [Array.getElem!_eq_getD, Array.getD_eq_getD_getElem?, hne]
    rw [this]; exact h.high i (by omega)
/-- No two neighbours are equal up to a place. -/
def NoDup (d : Array Q4) (k : Nat) : Prop := ∀ i, 1 ≤ i → i < k → (d[i]!).eqB d[i - 1]! = false
theorem NoDup.cmpct {d : Array Q4} {k : Nat} (h : NoDup d k) (hk : k ≤ d.size) : cmpct (d.toList.take k) = d.toList.take k := by
  induction k with
  | zero => rfl
  | succ k ih =>
    cases k with
    | zero => rw [List.take_succ_eq_append_getElem (by simp; omega)]; rfl
    | succ k =>
      rw [cmpct_take d k (by omega), if_neg (by have := h (k + 1) (by omega) (by omega); simpa using this), ih (fun i h1 h2 => h i h1 (by omega)) (by omega), List.take_succ_eq_append_getElem (i := k + 1) (by simp; omega)]
      congr 2
      rw [getElem!_pos d (k + 1) (by omega)]; simp
theorem CmpI.start {d : Array Q4} {k : Nat} (h : NoDup d k) (h1 : 1 ≤ k) (hk : k < d.size) (he : (d[k]!).eqB d[k - 1]! = true) : CmpI d d k (k + 1) := by
  refine ⟨rfl, by omega, by omega, ?_, fun _ _ => rfl⟩
  obtain ⟨p, rfl⟩ : ∃ p, k = p + 1 := ⟨k - 1, by omega⟩
  rw [cmpct_take d p (by omega), if_pos (by simpa using he), h.cmpct (by omega)]

set_option maxRecDepth 100000 in
set_option maxHeartbeats 2000000 in
theorem compact_any (d : Array Q4) (g cap : Nat) (w : World) (_hg : g < w.heap.size) (hsz : d.size ≤ 1000000) (hcap : d.size ≤ cap) (_hcm : cap ≤ 9223372036854775807) (hr : RowQ w g d) (hf : FreeB w g) :
    Calls Tryz.prog 58 #[.slice (some ⟨g, 0, none⟩) d.size cap] w fun e w' =>
      ∃ d' : Array Q4, d'.toList = cmpct d.toList ∧ e = .returned (.slice (some ⟨g, 0, none⟩) d'.size cap) ∧ w.grownBy w' (some g) ∧ RowQ w' g d' := by
  have HR := Lib.hid hr
  have HF := Lib.hid hf
  clear hr hf
  by_cases h2 : d.size < 2
  · have hz : (d.size : Int) < 2 := by omega
    go_enter Tryz.func58, Tryz.ntmps58
    go_wp2
    go_ret
    refine ⟨d, ?_, rfl, World.grownBy.refl _ _, HR.out⟩
    have := NoDup.cmpct (d := d) (k := d.size) (fun i h1 h3 => by omega) (Nat.le_refl _)
    rw [show d.size = d.toList.length from by simp, List.take_length] at this
    exact this.symm
  · have hz : ¬ (d.size : Int) < 2 := by omega
    go_enter Tryz.func58, Tryz.ntmps58
    go_wp2
    go_loopg [3] d.size (fun g1 v wr => ∃ k : Nat, v = .int .i64 k ∧ 1 ≤ k ∧ k ≤ d.size ∧ d.size - k ≤ g1 ∧ Hid (w.grownBy wr (some g)) ∧ Hid (RowQ wr g d) ∧ Hid (FreeB wr g) ∧ Hid (NoDup d k))
    case atStart => exact ⟨1, rfl, by omega, by omega, by omega, World.grownBy.refl _ _, HR, HF, fun i h1 h3 => by omega⟩
    case round =>
      rename World => wr
      obtain ⟨k, rfl, h1, hk, hg1, HG, HW, HV, HD⟩ := hrel
      by_cases hlt : k < d.size
      · have hltz : (k : Int) < (d.size : Int) := by omega
        obtain ⟨kp, rfl⟩ : ∃ p, k = p + 1 := ⟨k - 1, by omega⟩
        obtain ⟨ca, cb, cc, cd⟩ := HW.out (kp + 1) hlt
        obtain ⟨pa, pb, pc, pd⟩ := HW.out kp (by omega)
        obtain ⟨xj, hxj⟩ : ∃ x, d[kp + 1]! = x := ⟨_, rfl⟩
        obtain ⟨xp, hxp⟩ : ∃ x, d[kp]! = x := ⟨_, rfl⟩
        rw [hxj] at ca cb cc cd
        rw [hxp] at pa pb pc pd
        have HXJ := Lib.hid hxj
        have HXP := Lib.hid hxp
        clear hxj hxp
        have hwp : IntKind.i64.wrap (kp : Int) = (kp : Int) := by rw [IntKind.wrap_i64]; omega
        have jz : (kp : Int) + 1 < (d.size : Int) := by omega
        have jz1 : (kp : Int) < (d.size : Int) := by omega
        have p0 : (0 : Int) ≤ (kp : Int) + 1 := by omega
        have e0' : ((kp : Int) + 1).toNat = kp + 1 := by omega
        cases he : eq4B xj.a xj.b xj.c xj.d xp.a xp.b xp.c xp.d with
        | false =>
          have HE : Hid (xj.eqB xp = false) := he
          go_wp2_with fail
          go_region
          go_wp2
          go_roundg (d.size - (kp + 1 + 1))
          case measure => omega
          case rel =>
            refine ⟨kp + 1 + 1, by go_num, by omega, by omega, Nat.le_refl _, ?_, HW.out, HV.out, ?_⟩
            · exact ⟨HG.out.os, HG.out.tape, HG.out.output, HG.out.size, HG.out.block⟩
            · intro i hi1 hi2
              by_cases e : i = kp + 1
              · subst e; simp only [Nat.add_sub_cancel]; rw [HXJ.out, HXP.out]; exact HE.out
              · exact HD.out i hi1 (by omega)
        | true =>
          have HE : Hid (xj.eqB xp = true) := he
          go_wp2_with fail
          go_region
          go_wp2_with fail
          generalize hn2 : d.size - (kp + 1) = n2
          have HN2 := Lib.hid hn2
          clear hn2 ca cb cc cd pa pb pc pd
          have hn2' : kp + 1 + n2 = d.size := by have := HN2.out; omega
          go_loopg [3, 5] d.size (fun g2 v3 v5 wr2 => ∃ (kk k2 : Nat) (dj : Array Q4), v3 = .int .i64 kk ∧ v5 = .int .i64 k2 ∧ 1 ≤ k2 ∧ k2 ≤ n2 ∧ n2 - k2 ≤ g2 ∧ Hid (w.grownBy wr2 (some g)) ∧ Hid (RowQ wr2 g dj) ∧ Hid (FreeB wr2 g) ∧ Hid (CmpI d dj kk (kp + 1 + k2)))
          case atStart => exact ⟨kp + 1, 1, d, rfl, rfl, Nat.le_refl _, by omega, by omega, ⟨HG.out.os, HG.out.tape, HG.out.output, HG.out.size, HG.out.block⟩, HW.out, HV.out, CmpI.start HD.out (by omega) hlt (by simp only [Nat.add_sub_cancel]; rw [HXJ.out, HXP.out]; exact HE.out)⟩
          case round =>
            clear HXJ HXP HE he HG HW HV HD
            rename World => wr2
            obtain ⟨kk, k2, dj, rfl, rfl, h21, h2n, hg2, HG, HW, HV, HI⟩ := hrel
            by_cases hlt2 : k2 < n2
            · have hltz2 : (k2 : Int) < (n2 : Int) := by omega
              obtain ⟨q, rfl⟩ : ∃ p, k2 = p + 1 := ⟨k2 - 1, by omega⟩
              have hds := HI.out.size
              have hkl := HI.out.le
              have ra := HW.out (kp + 1 + (q + 1)) (by omega)
              have rb := HW.out (kp + 1 + q) (by omega)
              rw [HI.out.high _ (by omega), show (kp + 1 + (q + 1)) * 4 = (kp + 1) * 4 + (q + 1) * 4 by omega] at ra
              rw [HI.out.high _ (by omega), show (kp + 1 + q) * 4 = (kp + 1) * 4 + q * 4 by omega] at rb
              obtain ⟨ca, cb, cc, cd⟩ := ra
              obtain ⟨pa, pb, pc, pd⟩ := rb
              obtain ⟨ka, kb, kc, kd⟩ := HW.out kk (by omega)
              obtain ⟨yj, hyj⟩ : ∃ x, d[kp + 1 + (q + 1)]! = x := ⟨_, rfl⟩
              obtain ⟨yp, hyp⟩ : ∃ x, d[kp + 1 + q]! = x := ⟨_, rfl⟩
              obtain ⟨xk, hxk⟩ : ∃ x, dj[kk]! = x := ⟨_, rfl⟩
              rw [hyj] at ca cb cc cd
              rw [hyp] at pa pb pc pd
              rw [hxk] at ka kb kc kd
              have HYJ := Lib.hid hyj
              have HYP := Lib.hid hyp
              clear hyj hyp hxk hds
              have hwq : IntKind.i64.wrap (q : Int) = (q : Int) := by rw [IntKind.wrap_i64]; omega
              have kz : (q : Int) + 1 < (n2 : Int) := by omega
              have kz1 : (q : Int) < (n2 : Int) := by omega
              have kz2 : (kk : Int) < (d.size : Int) := by omega
              have q0 : (0 : Int) ≤ (q : Int) + 1 := by omega
              have q1 : ((q : Int) + 1).toNat = q + 1 := by omega
              have hf2 := HV.out
              unfold FreeB at hf2
              have hdd : HI.out.size = HI.out.size := rfl
              clear hdd
              cases he : eq4B yj.a yj.b yj.c yj.d yp.a yp.b yp.c yp.d with
              | true =>
                have HE : Hid (yj.eqB yp = true) := he
                go_wp2_with fail
                go_region
                go_wp2
                go_roundg (n2 - (q + 1 + 1))
                case measure => omega
                case rel =>
                  refine ⟨kk, q + 1 + 1, dj, rfl, by go_num, by omega, by omega, Nat.le_refl _, ⟨HG.out.os, HG.out.tape, HG.out.output, HG.out.size, HG.out.block⟩, HW.out, HV.out, ?_⟩
                  exact HI.out.skip (m := kp + 1 + (q + 1)) (by omega) (by omega) (by rw [show kp + 1 + (q + 1) - 1 = kp + 1 + q by omega, HYJ.out, HYP.out]; exact HE.out)
              | false =>
                have HE : Hid (yj.eqB yp = false) := he
                have HW' : Hid (RowQ (wr2.setCells g (kk * 4) (cells4 yj)) g (dj.setIfInBounds kk yj)) := HW.out.put kk yj (by have := HI.out.size; omega)
                have HG' : Hid (w.grownBy (wr2.setCells g (kk * 4) (cells4 yj)) (some g)) := HG.out.trans (grown_setCells g _ _ _)
                go_wp2_with fail
                go_region
                go_wp2
                go_roundg (n2 - (q + 1 + 1))
                case measure => omega
                case rel =>
                  refine ⟨kk + 1, q + 1 + 1, dj.setIfInBounds kk yj, by go_num, by go_num, by omega, by omega, Nat.le_refl _, ⟨HG'.out.os, HG'.out.tape, HG'.out.output, HG'.out.size, HG'.out.block⟩, HW'.out, FreeB.put HV.out g (kk * 4) (cells4 yj), ?_⟩
                  have := HI.out.keep (m := kp + 1 + (q + 1)) (by omega) (by omega) (by rw [show kp + 1 + (q + 1) - 1 = kp + 1 + q by omega, HYJ.out, HYP.out]; exact HE.out)
                  rw [HYJ.out] at this
                  exact this
            · have hkk : k2 = n2 := by omega
              subst hkk
              have hltz2 : ¬ (k2 : Int) < (k2 : Int) := by omega
              have hkl := HI.out.le
              have hds := HI.out.size
              obtain ⟨vs, hcl⟩ := clear4 g (kk * 4) (d.size - kk) (cap - kk) wr2 (by omega) (fun j hj => by
                have := (HW.out (kk + j / 4) (by omega)).some (j % 4) (Nat.mod_lt _ (by omega))
                rw [show (kk + j / 4) * 4 + j % 4 = kk * 4 + j by omega] at this; exact this) HV.out
              clear hds
              go_wp2_with (simp only [hcl])
              go_ret
              have hds := HI.out.size
              have hd := HI.out.done
              rw [hn2', show d.size = d.toList.length from by simp, List.take_length] at hd
              refine ⟨(dj.toList.take kk).toArray, by simpa using hd, ?_, HG.out.trans (grown_setCells g vs _ _), ?_⟩
              · have : (dj.toList.take kk).toArray.size = kk := by simp; omega
                rw [this]
                rfl
              · intro i hi
                have hi' : i < kk := by simp at hi; omega
                have e : (dj.toList.take kk).toArray[i]! = dj[i]! := by
                  rw [getElem!_pos _ i hi, getElem!_pos dj i (by omega)]; simp
                rw [e]
                have h4 := HW.out i (by omega)
                have eo : ∀ t, t < 4 → (wr2.setCells g (kk * 4) vs).cell? ⟨g, i * 4 + t, none⟩ = wr2.cell? ⟨g, i * 4 + t, none⟩ := fun t ht =>
                  World.cell?_setCells_out g vs (kk * 4) wr2 _ (fun _ _ => by simp; omega)
                exact ⟨(eo 0 (by omega)).trans h4.1, (eo 1 (by omega)).trans h4.2.1, (eo 2 (by omega)).trans h4.2.2.1, (eo 3 (by omega)).trans h4.2.2.2⟩
      · have hkk : k = d.size := by omega
        have HKK := Lib.hid hkk
        have hltz : ¬ (k : Int) < (d.size : Int) := by omega
        clear hkk
        go_wp2
        go_ret
        refine ⟨d, ?_, rfl, HG.out, HW.out⟩
        have := NoDup.cmpct (d := d) (k := d.size) (by rw [← HKK.out]; exact HD.out) (Nat.le_refl _)
        rw [show d.size = d.toList.length from by simp, List.take_length] at this
        exact this.symm

end Go.Proofs.YtaoedfegakpjeabGreat

namespace Go.Proofs.YtaoedfegakpjeabGreat
open Go.RowKit Go.Shelf Go.Sort

theorem opE_ok {p q : Q4} {ms pts : List Q4} (h : opE p q ms pts = 0) : (∀ x, opV p q ms pts x = x) ∧ ¬ (p.dx q = 0 ∧ p.dy q = 0 ∧ p.dz q = 0) := by
  rw [opE_eq] at h
  split at h
  · omega
  · rename_i h1
    split at h
    · omega
    · rename_i h2
      split at h
      · omega
      · rename_i h3
        split at h
        · omega
        · rename_i h4
          refine ⟨fun x => by rw [opV_eq, if_neg h1, if_neg h2, if_neg h3], fun hh => h4 ?_⟩
          rw [hh.1, hh.2.1, hh.2.2]; rfl

theorem flat4_get (l : List Q4) : ∀ (k : Nat) (q : Q4), l[k]? = some q → ∀ j, j < 4 → (flat4 l)[k * 4 + j]? = (cells4 q)[j]? := by
  induction l with
  | nil => intro k q h; simp at h
  | cons x xs ih =>
    intro k q h j hj
    have e : flat4 (x :: xs) = cells4 x ++ flat4 xs := by simp [flat4, cells4]
    rw [e]
    cases k with
    | zero =>
      simp at h; subst h
      rw [List.getElem?_append_left (by simp [cells4]; omega)]; simp
    | succ k =>
      simp at h
      rw [List.getElem?_append_right (by simp [cells4]; omega), show (k + 1) * 4 + j - (cells4 x).length = k * 4 + j by simp [cells4]; omega]
      exact ih k q h j hj
theorem own_row {W : World} {base g n cap : Nat} {l : List Q4} (h : W.ownsRow base 48 4 (.slice (some ⟨g, 0, none⟩) n cap) n (flat4 l)) :
    RowQ W g l.toArray ∧ FreeB W g ∧ n ≤ cap ∧ cap ≤ maxLen ∧ base ≤ g ∧ g < W.heap.size := by
  have hc := h.cells (g := g) rfl
  rcases h.2 with ⟨hh, _⟩ | ⟨g', cap', cur, hh, hb, hgg, h1, h2, _, _⟩
  · cases hh
  · cases hh
    refine ⟨fun k hk => ?_, fun o => ?_, h1, h2, hb, (Array.getElem?_eq_some_iff.1 hgg).1⟩
    · have hk' : l[k]? = some l.toArray[k]! := by rw [getElem!_pos _ k hk]; simp at hk ⊢
      have f := flat4_get l k _ hk'
      have ad : ∀ j, (⟨g, 0, none⟩ : Addr).add j = ⟨g, j, none⟩ := fun j => by unfold Addr.add; split <;> simp_all
      have e : ∀ j v, j < 4 → (cells4 l.toArray[k]!)[j]? = some v → W.cell? ⟨g, k * 4 + j, none⟩ = some v := fun j v hj hv => by
        have := hc (k * 4 + j) v ((f j hj).trans hv)
        rwa [ad] at this
      exact ⟨e 0 _ (by omega) rfl, e 1 _ (by omega) rfl, e 2 _ (by omega) rfl, e 3 _ (by omega) rfl⟩
    · simp [World.frozen?, hgg]

set_option maxHeartbeats 1000000 in
theorem compact_nil (w : World) : Calls Tryz.prog 58 #[.slice none 0 0] w fun e w' => e = .returned (.slice none 0 0) ∧ w' = w := by
  go_enter Tryz.func58, Tryz.ntmps58
  go_wp2
  go_ret
  exact ⟨rfl, rfl⟩

/-- The points of line.Points. -/
noncomputable def ptsL (p q : Q4) (ps : List Q4) : List Q4 := if opE p q ps [] = 0 then cmpct (insertionSort (ptLt (p.dx q) (p.dy q) (p.dz q)) (mets p q ps).toArray 0 (mets p q ps).length).toList else []

set_option maxHeartbeats 2000000 in
theorem linePoints_bad (p q : Q4) (ps : List Q4) (vm : Value) (w : World) (ip : p.I64) (iq : q.I64) (hl : ps.length ≤ 12) (him : ∀ q, q ∈ ps → q.I64) (hm : SlV w vm ps) (he : ¬ opE p q ps [] = 0) :
    Calls Tryz.prog 30 #[.agg #[.int .i64 (p.a), .int .i64 (p.b), .int .i64 (p.c), .int .i64 (p.d)], .agg #[.int .i64 (q.a), .int .i64 (q.b), .int .i64 (q.c), .int .i64 (q.d)], vm] w fun e w' => ∃ v, e = .returned (.tuple #[v, .int .i64 (opE p q ps [])]) ∧ SlV w' v (ptsL p q ps) ∧ Below w.heap.size w w' := by
  have HL : Hid (ptsL p q ps = []) := by unfold Hid ptsL; rw [if_neg he]
  have hlm : ps.length ≤ 1000000 := by omega
  have hop := fun W h => opened_any p q ps [] vm (.slice none 0 0) W ip iq hlm len0 him nil_i64 h (SlV.nil W)
  have HM := Lib.hid hm
  clear hm him
  go_enter Tryz.func30, Tryz.ntmps30
  have hE : ∀ W, Fr 2 [(0, .cells #[.int .i64 (p.a), .int .i64 (p.b), .int .i64 (p.c), .int .i64 (p.d)] 23), (1, .cells #[.int .i64 (q.a), .int .i64 (q.b), .int .i64 (q.c), .int .i64 (q.d)] 23)] [] w W → (W.cell? ⟨w.heap.size, 0, none⟩ = some (.int .i64 (p.a)) ∧ W.cell? ⟨w.heap.size, 1, none⟩ = some (.int .i64 (p.b)) ∧ W.cell? ⟨w.heap.size, 2, none⟩ = some (.int .i64 (p.c)) ∧ W.cell? ⟨w.heap.size, 3, none⟩ = some (.int .i64 (p.d)) ∧ W.cell? ⟨w.heap.size + 1, 0, none⟩ = some (.int .i64 (q.a)) ∧ W.cell? ⟨w.heap.size + 1, 1, none⟩ = some (.int .i64 (q.b)) ∧ W.cell? ⟨w.heap.size + 1, 2, none⟩ = some (.int .i64 (q.c)) ∧ W.cell? ⟨w.heap.size + 1, 3, none⟩ = some (.int .i64 (q.d))) := fun W h => by (repeat' apply And.intro) <;> first | exact h.at0 rfl | exact h.at rfl | exact (h.rms0 rfl).cell | exact (h.rms rfl).cell | exact (h.rms0 rfl).frozen | exact (h.rms rfl).frozen
  have HE := Lib.hid hE
  clear hE
  go_wp2_with fail
  (go_at_call 33; refine (hop _ (HM.out.below (Nat.le_refl _) (by repeat (first | exact Below.refl _ _ | refine Below.alloc ?_ (by first | (simp; done) | (simp; omega)) _ | refine Below.setCell ?_ (by first | (simp; done) | (simp; omega)) _ | refine Below.drew ?_)))).mono ?_; rintro e w1 ⟨rfl, hb1⟩; (try clear hq); (try clear hz); have hF : Fr 2 [(0, .cells #[.int .i64 (p.a), .int .i64 (p.b), .int .i64 (p.c), .int .i64 (p.d)] 23), (1, .cells #[.int .i64 (q.a), .int .i64 (q.b), .int .i64 (q.c), .int .i64 (q.d)] 23)] [] w w1 := Fr.call (by (repeat (first | exact hF | exact (((Fr.nil w).fixed (by simp) (.cells #[.int .i64 (p.a), .int .i64 (p.b), .int .i64 (p.c), .int .i64 (p.d)] 23)).fixed (by simp) (.cells #[.int .i64 (q.a), .int .i64 (q.b), .int .i64 (q.c), .int .i64 (q.d)] 23)) | exact And.left (by assumption) | refine Fr.set ?_ (by first | (simp; done) | (simp; omega)) (by first | (simp [List.lookup]; done) | (simp [Nat.add_assoc, List.lookup]; done)) _ | refine Fr.drew ?_ | refine Fr.alloc ?_ _))) hb1; have hq := HE.out _ hF; have hz : w.heap.size < w1.heap.size ∧ w.heap.size + 1 < w1.heap.size := by have hs := Own.size (Fr.own hF); omega)
  go_wp2
  refine bodyPost_ret (v := .tuple #[.slice none 0 0, .int .i64 (opE p q ps [])]) ?_ rfl ⟨_, rfl, by rw [HL.out]; exact SlV.nil _, ?_⟩
  · simp [results, Tryz.results30, go_sem]
  · refine Own.below (Fr.own (k := 2) (fx := [(0, .cells #[.int .i64 (p.a), .int .i64 (p.b), .int .i64 (p.c), .int .i64 (p.d)] 23), (1, .cells #[.int .i64 (q.a), .int .i64 (q.b), .int .i64 (q.c), .int .i64 (q.d)] 23)]) (rm := []) ?_); (repeat (first | exact hF | exact And.left (by assumption) | refine Fr.set ?_ (by first | (simp; done) | (simp; omega)) (by first | (simp [List.lookup]; done) | (simp [Nat.add_assoc, List.lookup]; done)) _ | refine Fr.drew ?_ | refine Fr.alloc ?_ _))

theorem size_insIn (lt : Q4 → Q4 → Bool) : ∀ (j : Nat) (d : Array Q4), (insInner lt 0 j d).size = d.size
  | 0, d => rfl
  | j + 1, d => by
    rw [insInner]; split
    · rw [size_insIn lt j, size_swp]
    · rfl
theorem size_insOut (lt : Q4 → Q4 → Bool) (b : Nat) : ∀ (n i : Nat) (d : Array Q4), b - i = n → (insOuter lt 0 b i d).size = d.size
  | 0, i, d, h => by rw [insOut_stop _ _ _ _ (by omega)]
  | n + 1, i, d, h => by rw [insOut_go _ _ _ _ (by omega), size_insOut lt b n (i + 1) _ (by omega), size_insIn]
theorem size_isort (lt : Q4 → Q4 → Bool) (d : Array Q4) (n : Nat) : (insertionSort lt d 0 n).size = d.size := by unfold Sort.insertionSort; exact size_insOut _ _ _ _ _ rfl
theorem SlV.shape {W : World} {v : Value} {ps : List Q4} (h : SlV W v ps) : ∃ a c, v = .slice a ps.length c := by
  rcases h.read with ⟨rfl, rfl⟩ | ⟨b, o, cap, rfl, _, _⟩
  · exact ⟨_, _, rfl⟩
  · exact ⟨_, _, rfl⟩
theorem SlV.row {W : World} {g cap : Nat} {d : Array Q4} (h : RowQ W g d) (hg : g < W.heap.size) : SlV W (.slice (some ⟨g, 0, none⟩) d.size cap) d.toList := by
  refine SlV.mk (by simp) hg fun i q hi => ?_
  have hi' : i < d.size := by have := (List.getElem?_eq_some_iff.1 hi).1; simpa using this
  have e : d[i]! = q := by
    rw [getElem!_pos d i hi']
    have := (List.getElem?_eq_some_iff.1 hi).2
    simpa using this
  rw [← e, Nat.zero_add]; exact h i hi'

set_option maxHeartbeats 2000000 in
theorem linePoints_ok (p q : Q4) (ps : List Q4) (vm : Value) (w : World) (ip : p.I64) (iq : q.I64) (hl : ps.length ≤ 12) (him : ∀ q, q ∈ ps → q.I64) (hm : SlV w vm ps) (he : opE p q ps [] = 0) :
    Calls Tryz.prog 30 #[.agg #[.int .i64 (p.a), .int .i64 (p.b), .int .i64 (p.c), .int .i64 (p.d)], .agg #[.int .i64 (q.a), .int .i64 (q.b), .int .i64 (q.c), .int .i64 (q.d)], vm] w fun e w' => ∃ v, e = .returned (.tuple #[v, .int .i64 (opE p q ps [])]) ∧ SlV w' v (ptsL p q ps) ∧ Below w.heap.size w w' := by
  have HL : Hid (ptsL p q ps = cmpct (insertionSort (ptLt (p.dx q) (p.dy q) (p.dz q)) (mets p q ps).toArray 0 (mets p q ps).length).toList) := by unfold Hid ptsL; rw [if_pos he]
  have hlm : ps.length ≤ 1000000 := by omega
  have HV := Lib.hid (opE_ok he)
  have hop := fun W h => opened_any p q ps [] vm (.slice none 0 0) W ip iq hlm len0 him nil_i64 h (SlV.nil W)
  simp only [HV.out.1, he] at hop
  rw [he]
  have HM := Lib.hid hm
  have hz12 : ¬ (1000 : Int) < (ps.length : Int) := by omega
  have hz13 : (ps.length : Int) ≤ 1000 := by omega
  obtain ⟨va, vc, hvm⟩ := hm.shape
  subst hvm
  clear hm him he
  go_enter Tryz.func30, Tryz.ntmps30
  have hE : ∀ W, Fr 2 [(0, .cells #[.int .i64 (p.a), .int .i64 (p.b), .int .i64 (p.c), .int .i64 (p.d)] 23), (1, .cells #[.int .i64 (q.a), .int .i64 (q.b), .int .i64 (q.c), .int .i64 (q.d)] 23)] [] w W → (W.cell? ⟨w.heap.size, 0, none⟩ = some (.int .i64 (p.a)) ∧ W.cell? ⟨w.heap.size, 1, none⟩ = some (.int .i64 (p.b)) ∧ W.cell? ⟨w.heap.size, 2, none⟩ = some (.int .i64 (p.c)) ∧ W.cell? ⟨w.heap.size, 3, none⟩ = some (.int .i64 (p.d)) ∧ W.cell? ⟨w.heap.size + 1, 0, none⟩ = some (.int .i64 (q.a)) ∧ W.cell? ⟨w.heap.size + 1, 1, none⟩ = some (.int .i64 (q.b)) ∧ W.cell? ⟨w.heap.size + 1, 2, none⟩ = some (.int .i64 (q.c)) ∧ W.cell? ⟨w.heap.size + 1, 3, none⟩ = some (.int .i64 (q.d))) := fun W h => by (repeat' apply And.intro) <;> first | exact h.at0 rfl | exact h.at rfl | exact (h.rms0 rfl).cell | exact (h.rms rfl).cell | exact (h.rms0 rfl).frozen | exact (h.rms rfl).frozen
  have HE := Lib.hid hE
  clear hE
  go_wp2_with fail
  (go_at_call 33; refine (hop _ (HM.out.below (Nat.le_refl _) (by repeat (first | exact Below.refl _ _ | refine Below.alloc ?_ (by first | (simp; done) | (simp; omega)) _ | refine Below.setCell ?_ (by first | (simp; done) | (simp; omega)) _ | refine Below.drew ?_)))).mono ?_; rintro e w1 ⟨rfl, hb1⟩; (try clear hq); (try clear hz); have hF : Fr 2 [(0, .cells #[.int .i64 (p.a), .int .i64 (p.b), .int .i64 (p.c), .int .i64 (p.d)] 23), (1, .cells #[.int .i64 (q.a), .int .i64 (q.b), .int .i64 (q.c), .int .i64 (q.d)] 23)] [] w w1 := Fr.call (by (repeat (first | exact hF | exact (((Fr.nil w).fixed (by simp) (.cells #[.int .i64 (p.a), .int .i64 (p.b), .int .i64 (p.c), .int .i64 (p.d)] 23)).fixed (by simp) (.cells #[.int .i64 (q.a), .int .i64 (q.b), .int .i64 (q.c), .int .i64 (q.d)] 23)) | exact And.left (by assumption) | refine Fr.set ?_ (by first | (simp; done) | (simp; omega)) (by first | (simp [List.lookup]; done) | (simp [Nat.add_assoc, List.lookup]; done)) _ | refine Fr.drew ?_ | refine Fr.alloc ?_ _))) hb1; have hq := HE.out _ hF; have hz : w.heap.size < w1.heap.size ∧ w.heap.size + 1 < w1.heap.size := by have hs := Own.size (Fr.own hF); omega)
  have HMw1 : Hid (SlV w1 (.slice va ps.length vc) ps) := HM.out.below (Nat.le_refl _) hF.own.below
  go_wp2_with (go_at_call 55; refine (meets_any p q _ _ ⟨_, _, _, rfl⟩).mono ?_; rintro e w2 ⟨rfl, hw2⟩)
  have hB0 := hF.own.below
  have hBw : Below w1.heap.size w1 ((((w1.alloc (.cells #[.int .i64 (p.dx q), .int .i64 (p.dy q), .int .i64 (p.dz q)] 66)).alloc (.cells #[.int .i64 p.a, .int .i64 p.b, .int .i64 p.c, .int .i64 p.d] 23)).alloc (.cells #[.int .i64 q.a, .int .i64 q.b, .int .i64 q.c, .int .i64 q.d] 23)).alloc (.cells #[.slice va ps.length vc] 31)) := by repeat (first | exact Below.refl _ _ | refine Below.alloc ?_ (by first | (simp; done) | (simp; omega)) _ | refine Below.setCell ?_ (by first | (simp; done) | (simp; omega)) _ | refine Below.drew ?_)
  have cd0 : ((((w1.alloc (.cells #[.int .i64 (p.dx q), .int .i64 (p.dy q), .int .i64 (p.dz q)] 66)).alloc (.cells #[.int .i64 p.a, .int .i64 p.b, .int .i64 p.c, .int .i64 p.d] 23)).alloc (.cells #[.int .i64 q.a, .int .i64 q.b, .int .i64 q.c, .int .i64 q.d] 23)).alloc (.cells #[.slice va ps.length vc] 31)).cell? ⟨w1.heap.size, 0, none⟩ = some (.int .i64 (p.dx q)) := by simp [go_sem]
  have cd1 : ((((w1.alloc (.cells #[.int .i64 (p.dx q), .int .i64 (p.dy q), .int .i64 (p.dz q)] 66)).alloc (.cells #[.int .i64 p.a, .int .i64 p.b, .int .i64 p.c, .int .i64 p.d] 23)).alloc (.cells #[.int .i64 q.a, .int .i64 q.b, .int .i64 q.c, .int .i64 q.d] 23)).alloc (.cells #[.slice va ps.length vc] 31)).cell? ⟨w1.heap.size, 1, none⟩ = some (.int .i64 (p.dy q)) := by simp [go_sem]
  have cd2 : ((((w1.alloc (.cells #[.int .i64 (p.dx q), .int .i64 (p.dy q), .int .i64 (p.dz q)] 66)).alloc (.cells #[.int .i64 p.a, .int .i64 p.b, .int .i64 p.c, .int .i64 p.d] 23)).alloc (.cells #[.int .i64 q.a, .int .i64 q.b, .int .i64 q.c, .int .i64 q.d] 23)).alloc (.cells #[.slice va ps.length vc] 31)).cell? ⟨w1.heap.size, 2, none⟩ = some (.int .i64 (p.dz q)) := by simp [go_sem]
  have cp : At4 ((((w1.alloc (.cells #[.int .i64 (p.dx q), .int .i64 (p.dy q), .int .i64 (p.dz q)] 66)).alloc (.cells #[.int .i64 p.a, .int .i64 p.b, .int .i64 p.c, .int .i64 p.d] 23)).alloc (.cells #[.int .i64 q.a, .int .i64 q.b, .int .i64 q.c, .int .i64 q.d] 23)).alloc (.cells #[.slice va ps.length vc] 31)) (w1.heap.size + 1) 0 p := by refine ⟨?_, ?_, ?_, ?_⟩ <;> simp [go_sem]
  have cq : At4 ((((w1.alloc (.cells #[.int .i64 (p.dx q), .int .i64 (p.dy q), .int .i64 (p.dz q)] 66)).alloc (.cells #[.int .i64 p.a, .int .i64 p.b, .int .i64 p.c, .int .i64 p.d] 23)).alloc (.cells #[.int .i64 q.a, .int .i64 q.b, .int .i64 q.c, .int .i64 q.d] 23)).alloc (.cells #[.slice va ps.length vc] 31)) (w1.heap.size + 1 + 1) 0 q := by refine ⟨?_, ?_, ?_, ?_⟩ <;> simp [go_sem]
  have cl : ((((w1.alloc (.cells #[.int .i64 (p.dx q), .int .i64 (p.dy q), .int .i64 (p.dz q)] 66)).alloc (.cells #[.int .i64 p.a, .int .i64 p.b, .int .i64 p.c, .int .i64 p.d] 23)).alloc (.cells #[.int .i64 q.a, .int .i64 q.b, .int .i64 q.c, .int .i64 q.d] 23)).alloc (.cells #[.slice va ps.length vc] 31)).cell? ⟨w1.heap.size + 1 + 1 + 1, 0, none⟩ = some (.slice va ps.length vc) := by simp [go_sem]
  have hs3 : ((((w1.alloc (.cells #[.int .i64 (p.dx q), .int .i64 (p.dy q), .int .i64 (p.dz q)] 66)).alloc (.cells #[.int .i64 p.a, .int .i64 p.b, .int .i64 p.c, .int .i64 p.d] 23)).alloc (.cells #[.int .i64 q.a, .int .i64 q.b, .int .i64 q.c, .int .i64 q.d] 23)).alloc (.cells #[.slice va ps.length vc] 31)).heap.size = w1.heap.size + 4 := by simp
  have cs := HMw1.out.below (Nat.le_refl _) hBw
  generalize ((((w1.alloc (.cells #[.int .i64 (p.dx q), .int .i64 (p.dy q), .int .i64 (p.dz q)] 66)).alloc (.cells #[.int .i64 p.a, .int .i64 p.b, .int .i64 p.c, .int .i64 p.d] 23)).alloc (.cells #[.int .i64 q.a, .int .i64 q.b, .int .i64 q.c, .int .i64 q.d] 23)).alloc (.cells #[.slice va ps.length vc] 31)) = W3 at hBw cd0 cd1 cd2 cp cq cl hs3 cs ⊢
  refine (collect_any (w1.heap.size + 1 + 1 + 1) (w1.heap.size + 1) (w1.heap.size + 1 + 1) p q ps (.slice va ps.length vc) W3 hlm (by omega) (by omega) (by omega) cl cp cq cs).mono ?_
  rintro e w4 ⟨u, rfl, hrow, hnil, hb4⟩
  have hd0 := (hb4.cell (p := ⟨w1.heap.size, 0, none⟩) (by simp only; omega)).trans cd0
  have hd1 := (hb4.cell (p := ⟨w1.heap.size, 1, none⟩) (by simp only; omega)).trans cd1
  have hd2 := (hb4.cell (p := ⟨w1.heap.size, 2, none⟩) (by simp only; omega)).trans cd2
  have hB4 : Hid (Below w.heap.size w w4) := (hB0.trans ((hBw.trans (hb4.mono (by omega))).mono (hB0.size)))
  have hdb : w1.heap.size < w4.heap.size := by have := hb4.size; omega
  have hwz : w.heap.size ≤ W3.heap.size := by have := hB0.size; omega
  clear cd0 cd1 cd2 cp cq cl cs hBw hF hq hz hB0 HE hb4
  by_cases hm0 : mets p q ps = []
  · have hu := hnil.2 hm0
    subst hu
    have HL2 : Hid (ptsL p q ps = []) := by
      unfold Hid; rw [HL.out, hm0]; simp only [List.length_nil]
      unfold Sort.insertionSort; rw [insOut_stop _ _ _ _ (by omega)]; rfl
    clear hrow hnil hm0
    go_wp2_with (first | (go_at_call 56; refine (sortFunc_nil _ _).mono ?_; rintro e w1 ⟨rfl, rfl⟩) | (go_at_call 58; refine (compact_nil _).mono ?_; rintro e w1 ⟨rfl, rfl⟩))
    refine bodyPost_ret (v := .tuple #[.slice none 0 0, .int .i64 0]) ?_ rfl ⟨_, rfl, by rw [HL2.out]; exact SlV.nil _, hB4.out⟩
    simp [results, Tryz.results30, go_sem]
  · obtain ⟨n, hn⟩ : ∃ n, (mets p q ps).length = n + 1 := by
      cases hh : mets p q ps with
      | nil => exact absurd hh hm0
      | cons x xs => exact ⟨xs.length, rfl⟩
    rw [hn] at hrow
    obtain ⟨g, cap, hu⟩ := ownsRow_succ hrow
    subst hu
    obtain ⟨hR, hFb, hcap, hmax, hgb, hgl⟩ := own_row hrow
    have hda : (mets p q ps).toArray.size = n + 1 := by simp [hn]
    have hlen : n + 1 ≤ 12 := by have := mets_len p q ps; omega
    have hall : AllI (mets p q ps).toArray := fun k hk => by
      rw [getElem!_pos _ k hk]; exact mets_i64 p q ps _ (by simp)
    have hso := sortFunc_any (mets p q ps).toArray g cap w1.heap.size (p.dx q) (p.dy q) (p.dz q) w4 HV.out.2 hgl hdb (by omega) (by omega) hd0 hd1 hd2 hR hFb hall
    have hsz : (insertionSort (ptLt (p.dx q) (p.dy q) (p.dz q)) (mets p q ps).toArray 0 (n + 1)).size = n + 1 := by
      rw [size_isort, hda]
    rw [hda] at hso
    have HSO := Lib.hid hso
    have hco := fun W (hg : g < W.heap.size) (hr : RowQ W g (insertionSort (ptLt (p.dx q) (p.dy q) (p.dz q)) (mets p q ps).toArray 0 (n + 1))) (hf : FreeB W g) => compact_any (insertionSort (ptLt (p.dx q) (p.dy q) (p.dz q)) (mets p q ps).toArray 0 (n + 1)) g cap W hg (by omega) (by omega) (Nat.le_trans hmax (by decide)) hr hf
    rw [hsz] at hco
    have HCO := Lib.hid hco
    have HL2 : Hid (ptsL p q ps = cmpct (insertionSort (ptLt (p.dx q) (p.dy q) (p.dz q)) (mets p q ps).toArray 0 (n + 1)).toList) := by unfold Hid; rw [HL.out, hn]
    clear hrow hnil hm0 hn hR hFb hall hso hco hsz hda hd0 hd1 hd2
    go_wp2_with (first | (go_at_call 56; refine HSO.out.mono ?_; rintro e w5 ⟨rfl, hS⟩; have hg5 : g < w5.heap.size := Nat.lt_of_lt_of_le hgl hS.grown.size; have HS := Lib.hid hS; clear hS) | (go_at_call 58; refine (HCO.out _ hg5 HS.out.row HS.out.free).mono ?_; rintro e w6 ⟨d', hd', rfl, hg6, hr6⟩))
    have h6 : Below w.heap.size w w6 := (hB4.out.grown HS.out.grown (by have := hB4.out.size; omega) (fun k e => by cases e; omega)).grown hg6 (by have := hB4.out.size; have := HS.out.grown.size; omega) (fun k e => by cases e; omega)
    refine bodyPost_ret (v := .tuple #[.slice (some ⟨g, 0, none⟩) d'.size cap, .int .i64 0]) ?_ rfl ⟨_, rfl, ?_, h6⟩
    · simp [results, Tryz.results30, go_sem]
    · rw [HL2.out, ← hd']
      exact SlV.row hr6 (Nat.lt_of_lt_of_le hg5 hg6.size)

theorem linePoints_any (p q : Q4) (ps : List Q4) (vm : Value) (w : World) (ip : p.I64) (iq : q.I64) (hl : ps.length ≤ 12) (him : ∀ q, q ∈ ps → q.I64) (hm : SlV w vm ps) :
    Calls Tryz.prog 30 #[.agg #[.int .i64 (p.a), .int .i64 (p.b), .int .i64 (p.c), .int .i64 (p.d)], .agg #[.int .i64 (q.a), .int .i64 (q.b), .int .i64 (q.c), .int .i64 (q.d)], vm] w fun e w' => ∃ v, e = .returned (.tuple #[v, .int .i64 (opE p q ps [])]) ∧ SlV w' v (ptsL p q ps) ∧ Below w.heap.size w w' := by
  by_cases he : opE p q ps [] = 0
  · exact linePoints_ok p q ps vm w ip iq hl him hm he
  · exact linePoints_bad p q ps vm w ip iq hl him hm he

end Go.Proofs.YtaoedfegakpjeabGreat
