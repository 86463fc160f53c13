/- Contracts of the functions that the statement reaches, and plain lemmas: part 2 of 25. -/
import Derived.Test.YtaoedfegakpjeabGreatJ01
import Derived.Deep.DeepCutAuto
import Derived.Deep.QuietTactic
import Derived.BigQuiet

namespace Go.Proofs.YtaoedfegakpjeabGreat
open Go.RowKit

/-- One block more, fixed, and with room. -/
theorem Fr.bothy {k : Nat} {fx : List (Nat × Obj)} {rm : List (Nat × Nat)} {w W : World} (h : Fr k fx rm w W) (hs : W.heap.size = w.heap.size + k) (c : Array Value) (t : TypeId) : Fr (k + 1) (fx ++ [(k, .cells c t)]) (rm ++ [(k, c.size)]) w (W.alloc (.cells c t)) :=
  ⟨(h.fixed hs (.cells c t)).own, (h.fixed hs (.cells c t)).fix, (h.roomy hs c t).room⟩
theorem Fr.loose {k : Nat} {fx : List (Nat × Obj)} {rm : List (Nat × Nat)} {w W : World} (h : Fr k fx rm w W) : Fr k [] rm w W := ⟨h.own, fun _ _ hh => by simp at hh, h.room⟩

/-- A block of ints; a block of one int's kind that begins with x. -/
def IntB (W : World) (b : Nat) : Prop := ∃ c f, W.heap[b]? = some (.cells c 3 f)
def Dg (W : World) (b : Nat) (x : Value) : Prop := ∃ c f, W.heap[b]? = some (.cells c 3 f) ∧ c[0]? = some x
theorem Dg.lt {W : World} {b : Nat} {x : Value} (h : Dg W b x) : b < W.heap.size := by
  obtain ⟨c, f, h, _⟩ := h; exact (Array.getElem?_eq_some_iff.1 h).1
theorem Dg.cell {W : World} {b : Nat} {x : Value} (h : Dg W b x) : W.cell? ⟨b, 0, none⟩ = some x := by
  obtain ⟨c, f, h, h0⟩ := h; simp [World.cell?, h]; simpa using h0
theorem Dg.below {W W1 : World} {b B : Nat} {x : Value} (h : Dg W b x) (hB : W.heap.size ≤ B) (hb : Below B W W1) : Dg W1 b x := by
  have hl := h.lt
  obtain ⟨c, f, h, h0⟩ := h
  exact ⟨c, f, by rw [hb.block b (by omega)]; exact h, h0⟩
theorem Dg.set {W : World} {b : Nat} {x y : Value} {p : Addr} (h : Dg W b x) (hp : ¬ IntB W p.block) : Dg (W.setCell p y) b x := by
  obtain ⟨c, f, h, h0⟩ := h
  exact ⟨c, f, by rw [Below.heap_setCell W p y b (fun e => hp ⟨c, f, by rw [← e]; exact h⟩)]; exact h, h0⟩
theorem IntB.unset {W : World} {b : Nat} {p : Addr} {y : Value} (h : IntB (W.setCell p y) b) : IntB W b := by
  obtain ⟨c, f, h⟩ := h
  by_cases hp : p.block = b
  · simp only [World.setCell, Array.getElem?_modify, hp, if_pos] at h
    cases hw : W.heap[b]? with
    | none => rw [hw] at h; simp at h
    | some o =>
      rw [hw] at h
      cases o with
      | cells c' t' f' =>
        simp only [Option.map_some, Option.some.injEq, Obj.cells.injEq] at h
        obtain ⟨_, rfl, _⟩ := h
        exact ⟨c', f', hw⟩
      | _ => simp at h
  · exact ⟨c, f, by rw [Below.heap_setCell W p y b (fun e => hp e.symm)] at h; exact h⟩
/-- A block known whole. -/
def Blk (W : World) (b : Nat) (o : Obj) : Prop := W.heap[b]? = some o
theorem Blk.lt {W : World} {b : Nat} {o : Obj} (h : Blk W b o) : b < W.heap.size := (Array.getElem?_eq_some_iff.1 h).1
theorem Blk.below {W W1 : World} {b B : Nat} {o : Obj} (h : Blk W b o) (hb : Below B W W1) (hB : b < B) : Blk W1 b o := by unfold Blk at *; rw [hb.block b hB]; exact h
theorem Blk.room {W : World} {b : Nat} {c : Array Value} {t : TypeId} (h : Blk W b (.cells c t)) : Room W b c.size := ⟨c, t, rfl, h⟩
theorem Blk.notInt {W : World} {b : Nat} {c : Array Value} {t : TypeId} {f : Nat × Nat} (h : Blk W b (.cells c t f)) (ht : t ≠ 3) : ¬ IntB W b := by
  rintro ⟨c', f', h'⟩
  unfold Blk at h
  rw [h] at h'
  simp at h'
  exact ht h'.2.1

/-- The reference's number z, of at most one digit. -/
def NumV (z : Int) (v : Value) (W : World) : Prop :=
  (z = 0 ∧ v = .agg #[.bool false, .slice none 0 0]) ∨ (z ≠ 0 ∧ ∃ b, v = .agg #[.bool (decide (z < 0)), .slice (some ⟨b, 0, none⟩) 1 1] ∧ Dg W b (.int .i64 z.natAbs))
theorem NumV.below {z : Int} {v : Value} {W W1 : World} {B : Nat} (h : NumV z v W) (hB : W.heap.size ≤ B) (hb : Below B W W1) : NumV z v W1 := by
  rcases h with h | ⟨h0, b, rfl, hc⟩
  · exact .inl h
  · exact .inr ⟨h0, b, rfl, hc.below hB hb⟩
theorem NumV.set {z : Int} {v : Value} {W : World} {p : Addr} {x : Value} (h : NumV z v W) (hp : ¬ IntB W p.block) : NumV z v (W.setCell p x) := by
  rcases h with h | ⟨h0, b, rfl, hc⟩
  · exact .inl h
  · exact .inr ⟨h0, b, rfl, hc.set hp⟩

set_option maxHeartbeats 400000 in
theorem number_nil (neg : Bool) (w : World) :
    Calls Tryz.prog 93 #[.bool neg, .slice none 0 0] w fun e w' => e = .returned (.agg #[.bool false, .slice none 0 0]) ∧ Below w.heap.size w w' := by
  go_enter Tryz.func93, Tryz.ntmps93
  go_wp2
  go_loop [5] (fun v => v = .int .i64 0) (fun _ => 0)
  case atStart => rfl
  case round =>
    subst hrel
    cases neg
    all_goals
      go_wp2
      refine bodyPost_ret (v := .agg #[.bool false, .slice none 0 0]) (by simp [results, Tryz.results93, go_sem]) rfl ⟨rfl, ?_⟩
      repeat (first | exact Below.refl _ _ | refine Below.alloc ?_ (by first | (simp; done) | (simp; omega)) _ | refine Below.setCell ?_ (by first | (simp; done) | (simp; omega)) _ | refine Below.drew ?_)

set_option maxHeartbeats 400000 in
theorem number_one (neg : Bool) (b cap : Nat) (n : Int) (w : World) (hcap : 1 ≤ cap) (hcm : cap ≤ 9223372036854775807) (hn : (n == 0) = false) (hB : b < w.heap.size) (hc : w.cell? ⟨b, 0, none⟩ = some (.int .i64 n)) :
    Calls Tryz.prog 93 #[.bool neg, .slice (some ⟨b, 0, none⟩) 1 cap] w fun e w' => e = .returned (.agg #[.bool neg, .slice (some ⟨b, 0, none⟩) 1 1]) ∧ Below w.heap.size w w' := by
  go_enter Tryz.func93, Tryz.ntmps93
  go_wp2
  go_loop [5] (fun v => v = .int .i64 1) (fun _ => 0)
  case atStart => rfl
  case round =>
    subst hrel
    cases neg
    all_goals
      go_wp2
      refine bodyPost_ret (v := .agg #[.bool _, .slice (some ⟨b, 0, none⟩) 1 1]) (by simp [results, Tryz.results93, go_sem]) rfl ⟨rfl, ?_⟩
      repeat (first | exact Below.refl _ _ | refine Below.alloc ?_ (by first | (simp; done) | (simp; omega)) _ | refine Below.setCell ?_ (by first | (simp; done) | (simp; omega)) _ | refine Below.drew ?_)

theorem info3p : (Tryz.prog.info? 3).map (fun i => (i.zero, i.size, i.bytes)) = some (some (.int .i64 0), 1, 8) := by kernel_rfl

theorem cell_set_other {W : World} {p q : Addr} {v : Value} (h : q.block ≠ p.block) : (W.setCell p v).cell? q = W.cell? q := World.cell?_of_block (Below.heap_setCell W p v q.block h)

/-- What an append to the nil slice leaves. -/
theorem own_first {W W' : World} {B n : Nat} {e : TypeId} {v' x : Value} {xs : List Value} (h : W'.ownsRow B e 1 v' n xs) (hn : n = 1) (hx : xs = [x]) (hg : W.grownBy W' none) :
    ∃ b cap, v' = .slice (some ⟨b, 0, none⟩) 1 cap ∧ 1 ≤ cap ∧ cap ≤ 9223372036854775807 ∧ B ≤ b ∧ b < W'.heap.size ∧ (∃ c f, W'.heap[b]? = some (.cells c e f) ∧ c[0]? = some x) ∧ Below W.heap.size W W' := by
  subst hn hx
  obtain ⟨_, h | ⟨g, cap, cur, rfl, hb, hgg, h1, h2, h3, h4⟩⟩ := h
  · have := h.2; omega
  · refine ⟨g, cap, rfl, h1, by unfold maxLen at h2; omega, hb, (Array.getElem?_eq_some_iff.1 hgg).1, ?_, ⟨hg.os, hg.tape, hg.output, hg.size, fun k hk => hg.block k hk (by simp)⟩⟩
    have : cur[0]? = some x := by
      have e : (cur.toList.take (1 * 1))[0]? = some x := by rw [h4]; rfl
      simpa using e
    exact ⟨cur, _, hgg, this⟩

set_option maxHeartbeats 1000000 in
theorem from_zero (w : World) :
    Calls Tryz.prog 65 #[.int .i64 0] w fun e w' => e = .returned (.agg #[.bool false, .slice none 0 0]) ∧ Below w.heap.size w w' := by
  go_enter Tryz.func65, Tryz.ntmps65
  have hE : ∀ W, Fr 1 [] [(0, 2)] w W → ((∀ o, o < 2 → W.cell? ⟨w.heap.size, o, none⟩ = some (cellOf W ⟨w.heap.size, o, none⟩)) ∧ (∀ o, o < 2 → W.frozen? ⟨w.heap.size, o, none⟩ = false)) := fun W h => by (repeat' apply And.intro) <;> first | exact h.at0 rfl | exact h.at rfl | exact (h.rms0 rfl).cell | exact (h.rms rfl).cell | exact (h.rms0 rfl).frozen | exact (h.rms rfl).frozen
  have HE := Lib.hid hE
  clear hE
  go_wp2
  go_loopw [3, 4] (fun u v wr => u = .int .u64 0 ∧ v = .slice none 0 0 ∧ Fr 1 [] [(0, 2)] w wr) (fun _ _ _ => 0)
  case atStart => exact ⟨rfl, rfl, ((Fr.nil w).roomy (by simp) #[.bool false, .slice none 0 0] 109)⟩
  case round =>
    rename_i wr
    obtain ⟨rfl, rfl, hF⟩ := hrel
    go_wp2_with (go_at_call 93; refine (number_nil _ _).mono ?_; rintro e w1 ⟨rfl, hb1⟩; (try clear hq); (try clear hz); have hF : Fr 1 [] [(0, 2)] w w1 := Fr.call (by (repeat (first | exact hF | exact ((Fr.nil w).roomy (by simp) #[.bool false, .slice none 0 0] 109) | exact And.left (by assumption) | refine Fr.set ?_ (by first | (simp; done) | (simp; omega)) (by first | (simp [List.lookup]; done) | (simp [Nat.add_assoc, List.lookup]; done)) _ | refine Fr.drew ?_ | refine Fr.alloc ?_ _))) hb1; have hq := HE.out _ hF; have hz : w.heap.size < w1.heap.size := by have hs := Own.size (Fr.own hF); omega)
    refine bodyPost_ret (v := .agg #[.bool false, .slice none 0 0]) ?_ rfl ⟨rfl, ?_⟩
    · simp [results, Tryz.results65, go_sem, hq]
    · refine Own.below (Fr.own (k := 1) (fx := []) (rm := [(0, 2)]) ?_); (repeat (first | exact hF | exact And.left (by assumption) | refine Fr.set ?_ (by first | (simp; done) | (simp; omega)) (by first | (simp [List.lookup]; done) | (simp [Nat.add_assoc, List.lookup]; done)) _ | refine Fr.drew ?_ | refine Fr.alloc ?_ _))

set_option maxHeartbeats 2000000 in
theorem from_one (z : Int) (w : World) (h0 : z ≠ 0) (h1 : -10000 < z) (h2 : z < 10000) :
    Calls Tryz.prog 65 #[.int .i64 z] w fun e w' => (∃ b, e = .returned (.agg #[.bool (decide (z < 0)), .slice (some ⟨b, 0, none⟩) 1 1]) ∧ Dg w' b (.int .i64 z.natAbs)) ∧ Below w.heap.size w w' := by
  obtain ⟨n, hn⟩ : ∃ n : Nat, n = z.natAbs := ⟨_, rfl⟩
  have hn1 : 0 < n := by omega
  have hn2 : n < 10000 := by omega
  have HN := Lib.hid hn
  have ew1 : z < 0 → IntKind.u64.wrap (-IntKind.u64.wrap z) = (n : Int) := fun h => by simp only [IntKind.wrap, IntKind.signed, IntKind.bits]; simp; omega
  have ew2 : ¬ z < 0 → IntKind.u64.wrap z = (n : Int) := fun h => by simp only [IntKind.wrap, IntKind.signed, IntKind.bits]; simp; omega
  have EW1 := Lib.hid ew1
  have EW2 := Lib.hid ew2
  clear ew1 ew2 hn h0 h1 h2
  obtain ⟨i0, hi, hz0, hz1, hz2⟩ := info_parts info3p
  have hnz : (0 : Int) < (n : Int) := by omega
  have hm1 : (n : Int) % 10000 = n := by omega
  have hm2 : (n : Int) / 10000 = 0 := by omega
  have hcn : ((n : Int) == 0) = false := by simp; omega
  by_cases hneg : z < 0
  all_goals
    have HNEG := Lib.hid hneg
    go_enter Tryz.func65, Tryz.ntmps65
    have hE : ∀ W, Fr 1 [] [(0, 2)] w W → ((∀ o, o < 2 → W.cell? ⟨w.heap.size, o, none⟩ = some (cellOf W ⟨w.heap.size, o, none⟩)) ∧ (∀ o, o < 2 → W.frozen? ⟨w.heap.size, o, none⟩ = false)) := fun W h => by (repeat' apply And.intro) <;> first | exact h.at0 rfl | exact h.at rfl | exact (h.rms0 rfl).cell | exact (h.rms rfl).cell | exact (h.rms0 rfl).frozen | exact (h.rms rfl).frozen
    have HE := Lib.hid hE
    clear hE
    go_wp2
    go_loopw [3, 4] (fun u v wr => (u = .int .u64 n ∧ v = .slice none 0 0 ∧ Fr 1 [] [(0, 2)] w wr) ∨ (u = .int .u64 0 ∧ ∃ b cap, v = .slice (some ⟨b, 0, none⟩) 1 cap ∧ 1 ≤ cap ∧ cap ≤ 9223372036854775807 ∧ w.heap.size < b ∧ b < wr.heap.size ∧ Dg wr b (.int .i64 n) ∧ Fr 1 [] [(0, 2)] w wr)) (fun u _ _ => (intOf u).toNat)
    case atStart => exact .inl ⟨by first | rw [EW1.out hneg] | rw [EW2.out hneg], rfl, ((Fr.nil w).roomy (by simp) #[.bool false, .slice none 0 0] 109)⟩
    case round =>
      rename_i wr
      rcases hrel with ⟨rfl, rfl, hF⟩ | ⟨rfl, b, cap, rfl, hc1, hc2, hb1, hb2, hc, hF⟩
      · have hnil := World.ownsRow_nil wr wr.heap.size 3 1
        have hws : w.heap.size < wr.heap.size := by have := hF.own.size; omega
        go_wp2_with (at_builtin; refine wpList_append_own _ rfl _ _ 107 rfl wr.heap.size 3 i0 (.int .i64 0) 1 8 Tryz.underlying107 hi hz0 hz1 hz2 rfl (by decide) _ _ _ rfl (hnil.alloc _) ⟨wr.heap.size, 0, none⟩ 1 1 [.int .i64 n] rfl rfl (cell_one_new _ _ _) (by simp [Value.oneCell']) (by simp [maxLen]) (by omega) (by simp) ?_; intro v' w1 hown' hgrow _; obtain ⟨b, cap, rfl, hc1, hc2, hb1, hb2, hc, hB1⟩ := own_first hown' rfl rfl hgrow; have hF1 := (hF.alloc (.cells #[.int .i64 n] 3)).call hB1; clear hown' hgrow hnil hF)
        go_roundw
        case rel => exact .inr ⟨rfl, b, cap, rfl, hc1, hc2, by omega, hb2, hc, hF1⟩
        case measure => simp [intOf]; omega
      · have hcd := hc.cell
        go_wp2_with (go_at_call 93; refine (number_one _ b cap n _ hc1 hc2 hcn hb2 hcd).mono ?_; rintro e w1 ⟨rfl, hb1⟩; (try clear hq); (try clear hz); have hF : Fr 1 [] [(0, 2)] w w1 := Fr.call (by (repeat (first | exact hF | exact ((Fr.nil w).roomy (by simp) #[.bool false, .slice none 0 0] 109) | exact And.left (by assumption) | refine Fr.set ?_ (by first | (simp; done) | (simp; omega)) (by first | (simp [List.lookup]; done) | (simp [Nat.add_assoc, List.lookup]; done)) _ | refine Fr.drew ?_ | refine Fr.alloc ?_ _))) hb1; have hq := HE.out _ hF; have hz : w.heap.size < w1.heap.size := by have hs := Own.size (Fr.own hF); omega)
        have hcc := hc.below (Nat.le_refl _) hb1
        refine bodyPost_ret (v := .agg #[.bool (decide (z < 0)), .slice (some ⟨b, 0, none⟩) 1 1]) ?_ rfl ⟨⟨b, rfl, ?_⟩, ?_⟩
        · simp [results, Tryz.results65, go_sem, hq, HNEG.out]
        · rw [← HN.out]
          obtain ⟨c, f, h1, h2⟩ := hcc
          exact ⟨c, f, by rw [Below.heap_setCell _ _ _ _ (by show b ≠ w.heap.size; omega), Below.heap_setCell _ _ _ _ (by show b ≠ w.heap.size; omega)]; exact h1, h2⟩
        · refine Own.below (Fr.own (k := 1) (fx := []) (rm := [(0, 2)]) ?_); (repeat (first | exact hF | exact And.left (by assumption) | refine Fr.set ?_ (by first | (simp; done) | (simp; omega)) (by first | (simp [List.lookup]; done) | (simp [Nat.add_assoc, List.lookup]; done)) _ | refine Fr.drew ?_ | refine Fr.alloc ?_ _))

set_option maxHeartbeats 400000 in
theorem from_any (z : Int) (w : World) (h1 : -10000 < z) (h2 : z < 10000) :
    Calls Tryz.prog 65 #[.int .i64 z] w fun e w' => (∃ v, e = .returned v ∧ NumV z v w') ∧ Below w.heap.size w w' := by
  by_cases h : z = 0
  · subst h
    exact (from_zero w).mono fun e w' hh => ⟨⟨_, hh.1, .inl ⟨rfl, rfl⟩⟩, hh.2⟩
  · exact (from_one z w h h1 h2).mono fun e w' ⟨⟨b, he, hc⟩, hh⟩ => ⟨⟨_, he, .inr ⟨h, b, rfl, hc⟩⟩, hh⟩

set_option maxHeartbeats 400000 in
theorem abs_zero (w : World) :
    Calls Tryz.prog 112 #[.agg #[.bool false, .slice none 0 0]] w fun e w' => e = .returned (.agg #[.bool false, .slice none 0 0]) ∧ Below w.heap.size w w' := by
  go_enter Tryz.func112, Tryz.ntmps112
  have hE : ∀ W, Fr 2 [(0, .cells #[.bool false, .slice none 0 0] 109)] [(1, 2)] w W → (W.cell? ⟨w.heap.size, 0, none⟩ = some (.bool false) ∧ W.cell? ⟨w.heap.size, 1, none⟩ = some (.slice none 0 0) ∧ (∀ o, o < 2 → W.cell? ⟨w.heap.size + 1, o, none⟩ = some (cellOf W ⟨w.heap.size + 1, o, none⟩)) ∧ (∀ o, o < 2 → W.frozen? ⟨w.heap.size + 1, o, none⟩ = false)) := fun W h => by (repeat' apply And.intro) <;> first | exact h.at0 rfl | exact h.at rfl | exact (h.rms0 rfl).cell | exact (h.rms rfl).cell | exact (h.rms0 rfl).frozen | exact (h.rms rfl).frozen
  have HE := Lib.hid hE
  clear hE
  go_wp2_with (go_at_call 93; refine (number_nil _ _).mono ?_; rintro e w1 ⟨rfl, hb1⟩; (try clear hq); (try clear hz); have hF : Fr 2 [(0, .cells #[.bool false, .slice none 0 0] 109)] [(1, 2)] w w1 := Fr.call (by (repeat (first | exact hF | exact (((Fr.nil w).fixed (by simp) (.cells #[.bool false, .slice none 0 0] 109)).roomy (by simp) #[.bool false, .slice none 0 0] 109) | exact And.left (by assumption) | refine Fr.set ?_ (by first | (simp; done) | (simp; omega)) (by first | (simp [List.lookup]; done) | (simp [Nat.add_assoc, List.lookup]; done)) _ | refine Fr.drew ?_ | refine Fr.alloc ?_ _))) hb1; have hq := HE.out _ hF; have hz : w.heap.size < w1.heap.size ∧ w.heap.size + 1 < w1.heap.size := by have hs := Own.size (Fr.own hF); omega)
  refine bodyPost_ret (v := .agg #[.bool false, .slice none 0 0]) ?_ rfl ⟨rfl, ?_⟩
  · simp [results, Tryz.results112, go_sem, hq]
  · refine Own.below (Fr.own (k := 2) (fx := [(0, .cells #[.bool false, .slice none 0 0] 109)]) (rm := [(1, 2)]) ?_); (repeat (first | exact hF | exact And.left (by assumption) | refine Fr.set ?_ (by first | (simp; done) | (simp; omega)) (by first | (simp [List.lookup]; done) | (simp [Nat.add_assoc, List.lookup]; done)) _ | refine Fr.drew ?_ | refine Fr.alloc ?_ _))

set_option maxHeartbeats 400000 in
theorem abs_one (neg : Bool) (b : Nat) (n : Int) (w : World) (hn : (n == 0) = false) (hB : b < w.heap.size) (hc : w.cell? ⟨b, 0, none⟩ = some (.int .i64 n)) :
    Calls Tryz.prog 112 #[.agg #[.bool neg, .slice (some ⟨b, 0, none⟩) 1 1]] w fun e w' => e = .returned (.agg #[.bool false, .slice (some ⟨b, 0, none⟩) 1 1]) ∧ Below w.heap.size w w' := by
  go_enter Tryz.func112, Tryz.ntmps112
  have hE : ∀ W, Fr 2 [(0, .cells #[.bool neg, .slice (some ⟨b, 0, none⟩) 1 1] 109)] [(1, 2)] w W → (W.cell? ⟨w.heap.size, 0, none⟩ = some (.bool neg) ∧ W.cell? ⟨w.heap.size, 1, none⟩ = some (.slice (some ⟨b, 0, none⟩) 1 1) ∧ (∀ o, o < 2 → W.cell? ⟨w.heap.size + 1, o, none⟩ = some (cellOf W ⟨w.heap.size + 1, o, none⟩)) ∧ (∀ o, o < 2 → W.frozen? ⟨w.heap.size + 1, o, none⟩ = false)) := fun W h => by (repeat' apply And.intro) <;> first | exact h.at0 rfl | exact h.at rfl | exact (h.rms0 rfl).cell | exact (h.rms rfl).cell | exact (h.rms0 rfl).frozen | exact (h.rms rfl).frozen
  have HE := Lib.hid hE
  clear hE
  have hc2 : ((w.alloc (.cells #[.bool neg, .slice (some ⟨b, 0, none⟩) 1 1] 109)).alloc (.cells #[.bool false, .slice none 0 0] 109)).cell? ⟨b, 0, none⟩ = some (.int .i64 n) := (Below.cell (B := w.heap.size) (p := ⟨b, 0, none⟩) (by repeat (first | exact Below.refl _ _ | refine Below.alloc ?_ (by first | (simp; done) | (simp; omega)) _ | refine Below.setCell ?_ (by first | (simp; done) | (simp; omega)) _ | refine Below.drew ?_)) hB).trans hc
  have hc3 := Lib.hid hc2
  clear hc2 hc
  go_wp2_with (go_at_call 93; refine (number_one false b 1 n _ (by omega) (by omega) hn (by simp; omega) hc3.out).mono ?_; rintro e w1 ⟨rfl, hb1⟩; (try clear hq); (try clear hz); have hF : Fr 2 [(0, .cells #[.bool neg, .slice (some ⟨b, 0, none⟩) 1 1] 109)] [(1, 2)] w w1 := Fr.call (by (repeat (first | exact hF | exact (((Fr.nil w).fixed (by simp) (.cells #[.bool neg, .slice (some ⟨b, 0, none⟩) 1 1] 109)).roomy (by simp) #[.bool false, .slice none 0 0] 109) | exact And.left (by assumption) | refine Fr.set ?_ (by first | (simp; done) | (simp; omega)) (by first | (simp [List.lookup]; done) | (simp [Nat.add_assoc, List.lookup]; done)) _ | refine Fr.drew ?_ | refine Fr.alloc ?_ _))) hb1; have hq := HE.out _ hF; have hz : w.heap.size < w1.heap.size ∧ w.heap.size + 1 < w1.heap.size := by have hs := Own.size (Fr.own hF); omega)
  refine bodyPost_ret (v := .agg #[.bool false, .slice (some ⟨b, 0, none⟩) 1 1]) ?_ rfl ⟨rfl, ?_⟩
  · simp [results, Tryz.results112, go_sem, hq]
  · refine Own.below (Fr.own (k := 2) (fx := [(0, .cells #[.bool neg, .slice (some ⟨b, 0, none⟩) 1 1] 109)]) (rm := [(1, 2)]) ?_); (repeat (first | exact hF | exact And.left (by assumption) | refine Fr.set ?_ (by first | (simp; done) | (simp; omega)) (by first | (simp [List.lookup]; done) | (simp [Nat.add_assoc, List.lookup]; done)) _ | refine Fr.drew ?_ | refine Fr.alloc ?_ _))

set_option maxHeartbeats 400000 in
theorem wint_zero (w : World) :
    Calls Tryz.prog 92 #[.agg #[.bool false, .slice none 0 0]] w fun e w' => e = .returned (.tuple #[.int .i64 0, .bool true]) ∧ Below w.heap.size w w' := by
  go_enter Tryz.func92, Tryz.ntmps92
  go_wp2
  go_loop [4, 5] (fun u v => u = .int .u64 0 ∧ v = .int .i64 (-1)) (fun _ _ => 0)
  case atStart => exact ⟨rfl, rfl⟩
  case round =>
    obtain ⟨rfl, rfl⟩ := hrel
    go_wp2
    go_ret2
    refine ⟨rfl, ?_⟩
    repeat (first | exact Below.refl _ _ | refine Below.alloc ?_ (by first | (simp; done) | (simp; omega)) _ | refine Below.setCell ?_ (by first | (simp; done) | (simp; omega)) _ | refine Below.drew ?_)

set_option maxRecDepth 100000 in
set_option maxHeartbeats 1000000 in
theorem wint_one (z : Int) (b : Nat) (w : World) (h0 : z ≠ 0) (h1 : -10000 < z) (h2 : z < 10000) (hB : b < w.heap.size) (hc : w.cell? ⟨b, 0, none⟩ = some (.int .i64 z.natAbs)) :
    Calls Tryz.prog 92 #[.agg #[.bool (decide (z < 0)), .slice (some ⟨b, 0, none⟩) 1 1]] w fun e w' => e = .returned (.tuple #[.int .i64 z, .bool true]) ∧ Below w.heap.size w w' := by
  obtain ⟨n, hn⟩ : ∃ n : Nat, n = z.natAbs := ⟨_, rfl⟩
  rw [← hn] at hc
  have hn1 : 0 < n := by omega
  have hn2 : n < 10000 := by omega
  have ew1 : z < 0 → wrap64 (IntKind.u64.wrap (-(n : Int))) = z := fun h => by unfold wrap64; simp only [IntKind.wrap, IntKind.signed, IntKind.bits]; simp; omega
  have EW1 := Lib.hid ew1
  have EW3 : Hid (¬ z < 0 → (n : Int) = z) := fun h => by omega
  clear ew1 hn h0 h1 h2
  have hbig : decide ((n : Int) ≤ 9223372036854775808) = true := by simp; omega
  have hbig2 : decide ((n : Int) < 9223372036854775808) = true := by simp; omega
  have hcc := (((Below.refl w.heap.size w).alloc (Nat.le_refl _) (.cells #[.bool (decide (z < 0)), .slice (some ⟨b, 0, none⟩) 1 1] 109)).cell (p := ⟨b, 0, none⟩) hB).trans hc
  by_cases hneg : z < 0
  all_goals
    go_enter Tryz.func92, Tryz.ntmps92
    go_wp2
    go_loop [4, 5] (fun u v => (u = .int .u64 0 ∧ v = .int .i64 0) ∨ (u = .int .u64 n ∧ v = .int .i64 (-1))) (fun _ v => (intOf v + 1).toNat)
    case atStart => exact .inl ⟨rfl, rfl⟩
    case round =>
      rcases hrel with ⟨rfl, rfl⟩ | ⟨rfl, rfl⟩
      · go_wp2
        go_round
        case rel => exact .inr ⟨rfl, rfl⟩
        case measure => simp [intOf]
      · go_wp2
        go_ret2
        refine ⟨?_, ?_⟩
        · first | (show Ending.returned (.tuple #[.int .i64 (wrap64 (IntKind.u64.wrap (-(n : Int)))), .bool true]) = _; rw [EW1.out hneg]) | (show Ending.returned (.tuple #[.int .i64 n, .bool true]) = _; rw [EW3.out (by omega)])
        · repeat (first | exact Below.refl _ _ | refine Below.alloc ?_ (by first | (simp; done) | (simp; omega)) _ | refine Below.setCell ?_ (by first | (simp; done) | (simp; omega)) _ | refine Below.drew ?_)

theorem abs_any (z : Int) (v : Value) (w : World) (hv : NumV z v w) :
    Calls Tryz.prog 112 #[v] w fun e w' => (∃ v', e = .returned v' ∧ NumV (z.natAbs : Int) v' w') ∧ Below w.heap.size w w' := by
  rcases hv with ⟨rfl, rfl⟩ | ⟨h0, b, rfl, hc⟩
  · exact (abs_zero w).mono fun e w' hh => ⟨⟨_, hh.1, .inl ⟨rfl, rfl⟩⟩, hh.2⟩
  · refine (abs_one (decide (z < 0)) b z.natAbs w (by simp; omega) hc.lt hc.cell).mono fun e w' hh => ⟨⟨_, hh.1, .inr ⟨by omega, b, ?_, ?_⟩⟩, hh.2⟩
    · rw [decide_eq_false (by omega)]
    · rw [show ((z.natAbs : Int)).natAbs = z.natAbs by omega]
      exact hc.below (Nat.le_refl _) hh.2

theorem wint_any (z : Int) (v : Value) (w : World) (h1 : -10000 < z) (h2 : z < 10000) (hv : NumV z v w) :
    Calls Tryz.prog 92 #[v] w fun e w' => e = .returned (.tuple #[.int .i64 z, .bool true]) ∧ Below w.heap.size w w' := by
  rcases hv with ⟨rfl, rfl⟩ | ⟨h0, b, rfl, hc⟩
  · exact wint_zero w
  · exact wint_one z b w h0 h1 h2 hc.lt hc.cell

end Go.Proofs.YtaoedfegakpjeabGreat

namespace Go.Proofs.YtaoedfegakpjeabGreat
open Go.RowKit

/-- The digits of n, of which there is one at most. -/
def Dig (n : Nat) (ad : Option Addr) (len : Nat) (W : World) : Prop :=
  (n = 0 ∧ ad = none ∧ len = 0) ∨ (n ≠ 0 ∧ len = 1 ∧ ∃ b, ad = some ⟨b, 0, none⟩ ∧ Dg W b (.int .i64 n))
theorem NumV.dig {z : Int} {v : Value} {W : World} (h : NumV z v W) : ∃ ad len, v = .agg #[.bool (decide (z < 0)), .slice ad len len] ∧ Dig z.natAbs ad len W := by
  rcases h with ⟨rfl, rfl⟩ | ⟨h0, b, rfl, hc⟩
  · exact ⟨none, 0, rfl, .inl ⟨rfl, rfl, rfl⟩⟩
  · exact ⟨_, 1, rfl, .inr ⟨by omega, rfl, b, rfl, hc⟩⟩
theorem Dig.num {n : Nat} {ad : Option Addr} {len : Nat} {W : World} (h : Dig n ad len W) : NumV (n : Int) (.agg #[.bool false, .slice ad len len]) W := by
  rcases h with ⟨rfl, rfl, rfl⟩ | ⟨h0, rfl, b, rfl, hc⟩
  · exact .inl ⟨rfl, rfl⟩
  · exact .inr ⟨by omega, b, by rw [decide_eq_false (by omega)], by simpa using hc⟩
theorem Dig.below {n : Nat} {ad : Option Addr} {len : Nat} {W W1 : World} {B : Nat} (h : Dig n ad len W) (hB : W.heap.size ≤ B) (hb : Below B W W1) : Dig n ad len W1 := by
  rcases h with h | ⟨h0, rfl, b, rfl, hc⟩
  · exact .inl h
  · exact .inr ⟨h0, rfl, b, rfl, hc.below hB hb⟩
theorem Dig.set {n : Nat} {ad : Option Addr} {len : Nat} {W : World} {p : Addr} {x : Value} (h : Dig n ad len W) (hp : ¬ IntB W p.block) : Dig n ad len (W.setCell p x) := by
  rcases h with h | ⟨h0, rfl, b, rfl, hc⟩
  · exact .inl h
  · exact .inr ⟨h0, rfl, b, rfl, hc.set hp⟩

theorem abs_dig (neg : Bool) (n : Nat) (ad : Option Addr) (len : Nat) (w : World) (hn : n = 0 → neg = false) (hd : Dig n ad len w) :
    Calls Tryz.prog 112 #[.agg #[.bool neg, .slice ad len len]] w fun e w' => e = .returned (.agg #[.bool false, .slice ad len len]) ∧ Below w.heap.size w w' := by
  rcases hd with ⟨rfl, rfl, rfl⟩ | ⟨h0, rfl, b, rfl, hc⟩
  · rw [hn rfl]; exact abs_zero w
  · exact abs_one neg b n w (by simp; omega) hc.lt hc.cell
theorem int_dig (n : Nat) (ad : Option Addr) (len : Nat) (w : World) (hn : n < 10000) (hd : Dig n ad len w) :
    Calls Tryz.prog 92 #[.agg #[.bool false, .slice ad len len]] w fun e w' => e = .returned (.tuple #[.int .i64 n, .bool true]) ∧ Below w.heap.size w w' :=
  wint_any (n : Int) _ w (by omega) (by omega) hd.num

theorem Room.hit {W : World} {b n o : Nat} {v : Value} (h : Room W b n) (ho : o < n) : (W.setCell ⟨b, o, none⟩ v).cell? ⟨b, o, none⟩ = Option.some v := by
  obtain ⟨c, t, hs, hb⟩ := h
  simp [World.cell?, World.setCell, Array.getElem?_modify, hb, hs, ho]
theorem cell_set_off {W : World} {b o o' : Nat} {v : Value} (h : o' ≠ o) : (W.setCell ⟨b, o, none⟩ v).cell? ⟨b, o', none⟩ = W.cell? ⟨b, o', none⟩ := by
  simp only [World.cell?, World.setCell, Array.getElem?_modify, if_pos]
  cases W.heap[b]? with
  | none => rfl
  | some x => cases x <;> simp [Ne.symm h]

/-- The world behind the two absolute values. -/
structure GcdAt (a b : Nat) (ada adb : Option Addr) (la lb : Nat) (w W : World) : Prop where
  below : Below w.heap.size w W
  size : w.heap.size < W.heap.size ∧ w.heap.size + 1 < W.heap.size ∧ w.heap.size + 1 + 1 < W.heap.size
  a0 : W.cell? ⟨w.heap.size, 0, none⟩ = some (.bool false)
  a1 : W.cell? ⟨w.heap.size, 1, none⟩ = some (.slice ada la la)
  b0 : W.cell? ⟨w.heap.size + 1, 0, none⟩ = some (.bool false)
  b1 : W.cell? ⟨w.heap.size + 1, 1, none⟩ = some (.slice adb lb lb)
  da : Dig a ada la W
  db : Dig b adb lb W
  res : Blk W (w.heap.size + 1 + 1) (.cells #[.bool false, .slice none 0 0] 109)

theorem GcdAt.mk' {a b : Nat} {ada adb : Option Addr} {la lb : Nat} {w W : World} (hF : Fr 3 [] [(0, 2), (1, 2), (2, 2)] w W) (hR : Blk W (w.heap.size + 1 + 1) (.cells #[.bool false, .slice none 0 0] 109)) (hA : Dig a ada la w) (hB : Dig b adb lb w) :
    GcdAt a b ada adb la lb w ((((W.setCell ⟨w.heap.size, 0, none⟩ (.bool false)).setCell ⟨w.heap.size, 1, none⟩ (.slice ada la la)).setCell ⟨w.heap.size + 1, 0, none⟩ (.bool false)).setCell ⟨w.heap.size + 1, 1, none⟩ (.slice adb lb lb)) := by
  have hb : Below w.heap.size w ((((W.setCell ⟨w.heap.size, 0, none⟩ (.bool false)).setCell ⟨w.heap.size, 1, none⟩ (.slice ada la la)).setCell ⟨w.heap.size + 1, 0, none⟩ (.bool false)).setCell ⟨w.heap.size + 1, 1, none⟩ (.slice adb lb lb)) := by
    have h := hF.own.below
    exact (((h.setCell (by simp) _).setCell (by simp) _).setCell (by simp) _).setCell (by simp) _
  have r0 := hF.rms0 (n := 2) rfl
  have r1 := hF.rms (i := 1) (n := 2) rfl
  have ne : w.heap.size ≠ w.heap.size + 1 := by omega
  refine ⟨hb, ?_, ?_, ?_, ?_, ?_, hA.below (Nat.le_refl _) hb, hB.below (Nat.le_refl _) hb, ?_⟩
  · have := hF.own.size; simp [World.setCell]; omega
  · rw [cell_set_other (by simp), cell_set_other (by simp), cell_set_off (by decide)]; exact r0.hit (by decide)
  · rw [cell_set_other (by simp), cell_set_other (by simp)]; exact (r0.set _ _).hit (by decide)
  · rw [cell_set_off (by decide)]; exact ((r1.set _ _).set _ _).hit (by decide)
  · exact (((r1.set _ _).set _ _).set _ _).hit (by decide)
  · unfold Blk at *
    rw [Below.heap_setCell _ _ _ _ (by show w.heap.size + 1 + 1 ≠ w.heap.size + 1; omega), Below.heap_setCell _ _ _ _ (by show w.heap.size + 1 + 1 ≠ w.heap.size + 1; omega), Below.heap_setCell _ _ _ _ (by show w.heap.size + 1 + 1 ≠ w.heap.size; omega), Below.heap_setCell _ _ _ _ (by show w.heap.size + 1 + 1 ≠ w.heap.size; omega)]; exact hR

set_option maxRecDepth 100000 in
set_option maxHeartbeats 2000000 in
theorem wgcd_dig (na nb : Bool) (a b : Nat) (ada adb : Option Addr) (la lb : Nat) (w : World) (ha : a < 10000) (hb : b < 10000) (hna : a = 0 → na = false) (hnb : b = 0 → nb = false) (hda : Dig a ada la w) (hdb : Dig b adb lb w) :
    Calls Tryz.prog 90 #[.agg #[.bool na, .slice ada la la], .agg #[.bool nb, .slice adb lb lb]] w fun e w' => (∃ v, e = .returned v ∧ NumV (Nat.gcd a b : Nat) v w') ∧ Below w.heap.size w w' := by
  have HNA := Lib.hid hna
  have HNB := Lib.hid hnb
  have HA := Lib.hid hda
  have HB := Lib.hid hdb
  clear hna hnb hda hdb
  go_enter Tryz.func90, Tryz.ntmps90
  have hE : ∀ W, Fr 3 [(0, .cells #[.bool na, .slice ada la la] 109), (1, .cells #[.bool nb, .slice adb lb lb] 109), (2, .cells #[.bool false, .slice none 0 0] 109)] [(0, 2), (1, 2), (2, 2)] w W → (W.cell? ⟨w.heap.size, 0, none⟩ = some (.bool na) ∧ W.cell? ⟨w.heap.size, 1, none⟩ = some (.slice ada la la) ∧ (∀ o, o < 2 → W.frozen? ⟨w.heap.size, o, none⟩ = false) ∧ W.cell? ⟨w.heap.size + 1, 0, none⟩ = some (.bool nb) ∧ W.cell? ⟨w.heap.size + 1, 1, none⟩ = some (.slice adb lb lb) ∧ (∀ o, o < 2 → W.frozen? ⟨w.heap.size + 1, o, none⟩ = false) ∧ W.cell? ⟨w.heap.size + 2, 0, none⟩ = some (.bool false) ∧ W.cell? ⟨w.heap.size + 2, 1, none⟩ = some (.slice none 0 0) ∧ (∀ o, o < 2 → W.frozen? ⟨w.heap.size + 2, o, none⟩ = false)) := fun W h => by (repeat' apply And.intro) <;> first | exact h.at0 rfl | exact h.at rfl | exact (h.rms0 rfl).cell | exact (h.rms rfl).cell | exact (h.rms0 rfl).frozen | exact (h.rms rfl).frozen
  have HE := Lib.hid hE
  clear hE
  go_wp2
  go_cut [] (fun wx => GcdAt a b ada adb la lb w wx)
  case first =>
    go_region_with (first | (go_at_call 112; refine (abs_dig na a ada la _ HNA.out (HA.out.below (Nat.le_refl _) (by (repeat (first | exact Below.refl _ _ | refine Below.alloc ?_ (by first | (simp; done) | (simp; omega)) _ | refine Below.setCell ?_ (by first | (simp; done) | (simp; omega)) _ | refine Below.drew ?_)); (try (refine Below.trans ?_ (hb1.mono (by first | (simp; done) | (simp; omega))); repeat (first | exact Below.refl _ _ | refine Below.alloc ?_ (by first | (simp; done) | (simp; omega)) _ | refine Below.setCell ?_ (by first | (simp; done) | (simp; omega)) _ | refine Below.drew ?_)))))).mono ?_; rintro e w1 ⟨rfl, hb1⟩; (try clear hq); (try clear hz); have hF : Fr 3 [(0, .cells #[.bool na, .slice ada la la] 109), (1, .cells #[.bool nb, .slice adb lb lb] 109), (2, .cells #[.bool false, .slice none 0 0] 109)] [(0, 2), (1, 2), (2, 2)] w w1 := Fr.call (by (repeat (first | exact hF | exact ((((Fr.nil w).bothy (by simp) #[.bool na, .slice ada la la] 109).bothy (by simp) #[.bool nb, .slice adb lb lb] 109).bothy (by simp) #[.bool false, .slice none 0 0] 109) | exact And.left (by assumption) | refine Fr.set ?_ (by first | (simp; done) | (simp; omega)) (by first | (simp [List.lookup]; done) | (simp [Nat.add_assoc, List.lookup]; done)) _ | refine Fr.drew ?_ | refine Fr.alloc ?_ _))) hb1; have hq := HE.out _ hF; have hz : w.heap.size < w1.heap.size ∧ w.heap.size + 1 < w1.heap.size ∧ w.heap.size + 2 < w1.heap.size := by have hs := Own.size (Fr.own hF); omega) | (go_at_call 112; refine (abs_dig nb b adb lb _ HNB.out (HB.out.below (Nat.le_refl _) (by (repeat (first | exact Below.refl _ _ | refine Below.alloc ?_ (by first | (simp; done) | (simp; omega)) _ | refine Below.setCell ?_ (by first | (simp; done) | (simp; omega)) _ | refine Below.drew ?_)); (try (refine Below.trans ?_ (hb1.mono (by first | (simp; done) | (simp; omega))); repeat (first | exact Below.refl _ _ | refine Below.alloc ?_ (by first | (simp; done) | (simp; omega)) _ | refine Below.setCell ?_ (by first | (simp; done) | (simp; omega)) _ | refine Below.drew ?_)))))).mono ?_; rintro e w1 ⟨rfl, hb1⟩; (try clear hq); (try clear hz); have hF : Fr 3 [(0, .cells #[.bool na, .slice ada la la] 109), (1, .cells #[.bool nb, .slice adb lb lb] 109), (2, .cells #[.bool false, .slice none 0 0] 109)] [(0, 2), (1, 2), (2, 2)] w w1 := Fr.call (by (repeat (first | exact hF | exact ((((Fr.nil w).bothy (by simp) #[.bool na, .slice ada la la] 109).bothy (by simp) #[.bool nb, .slice adb lb lb] 109).bothy (by simp) #[.bool false, .slice none 0 0] 109) | exact And.left (by assumption) | refine Fr.set ?_ (by first | (simp; done) | (simp; omega)) (by first | (simp [List.lookup]; done) | (simp [Nat.add_assoc, List.lookup]; done)) _ | refine Fr.drew ?_ | refine Fr.alloc ?_ _))) hb1; have hq := HE.out _ hF; have hz : w.heap.size < w1.heap.size ∧ w.heap.size + 1 < w1.heap.size ∧ w.heap.size + 2 < w1.heap.size := by have hs := Own.size (Fr.own hF); omega))
    all_goals
      go_wp2_with fail
      go_meet
      exact GcdAt.mk' hF.loose (hF.fix 2 _ rfl).2 HA.out HB.out
  case rest =>
    obtain ⟨hB, hz, a0, a1, b0, b1, hda, hdb, hr⟩ := hcut
    rename World => W
    clear HA HB HE HNA HNB
    have HDA := Lib.hid hda
    have HDB := Lib.hid hdb
    have HR := Lib.hid hr
    have rc := hr.room.cell
    have rf := hr.room.frozen
    by_cases h0 : b = 0
    · obtain rfl : lb = 0 := by rcases hdb with h | h <;> omega
      have HB0 := Lib.hid h0
      clear hda hdb hr h0
      go_wp2
      refine wp_loop_rounds 1 ?_
      rw [rounds_succ]
      go_wp2
      have hI4 := HR.out.notInt (by decide)
      refine bodyPost_ret (v := .agg #[.bool false, .slice ada la la]) ?_ rfl ⟨⟨_, rfl, ?_⟩, ?_⟩
      · simp [results, Tryz.results90, go_sem, rc]
      · rw [HB0.out, Nat.gcd_zero_right]
        exact (HDA.out.num.set hI4).set (fun h => hI4 h.unset)
      · exact (hB.setCell (by simp; omega) _).setCell (by simp; omega) _
    · obtain rfl : lb = 1 := by rcases hdb with h | h <;> omega
      obtain ⟨la', hla, hle⟩ : ∃ l, l = la ∧ l ≤ 4 := ⟨la, rfl, by rcases hda with h | h <;> omega⟩
      subst hla
      clear hda hdb hr
      go_wp2
      refine wp_loop_rounds 1 ?_
      rw [rounds_succ]
      go_wp2_with fail
      ((with_reducible refine (int_dig a ada la' _ ha HDA.out).mono ?_); rintro e w1 ⟨rfl, hb1⟩)
      obtain ⟨hc1, hf1⟩ := bcell hb1
      go_wp2_with fail
      ((with_reducible refine (int_dig b adb 1 _ hb (HDB.out.below (Nat.le_refl _) hb1)).mono ?_); rintro e w2 ⟨rfl, hb2⟩)
      obtain ⟨hc2, hf2⟩ := bcell hb2
      go_wp2
      have s1 := hb1.size
      have s2 := hb2.size
      have hW2 : Below w.heap.size w w2 := hB.trans ((hb1.mono hB.size).trans (hb2.mono (Nat.le_trans hB.size s1)))
      have hR2 := (HR.out.below hb1 (by omega)).below hb2 (by omega)
      have hz2 : w.heap.size + 1 + 1 < w2.heap.size := by omega
      clear hc1 hf1 hc2 hf2 rc rf s1 s2 hB hz a0 a1 b0 b1 hb1 hb2
      clear HDA HDB HR
      go_loopw [5, 7] (fun u v wr => ∃ x y : Nat, u = .int .i64 x ∧ v = .int .i64 y ∧ Hid (Nat.gcd x y = Nat.gcd a b) ∧ x < 10000 ∧ y < 10000 ∧ ∃ n, wr = w2.drewN n) (fun _ v _ => (intOf v).toNat)
      case atStart => exact ⟨a, b, rfl, rfl, rfl, ha, hb, 0, rfl⟩
      case round =>
        obtain ⟨x, y, rfl, rfl, HG, hx, hy1, n, rfl⟩ := hrel
        by_cases hy : y = 0
        · subst hy
          have hxg : Hid (x = Nat.gcd a b) := Lib.hid (by simpa using HG.out)
          have hW3 : Below w.heap.size w (w2.drewN n) := below_drewN hW2 n
          have hR3 : Blk (w2.drewN n) (w.heap.size + 1 + 1) (.cells #[.bool false, .slice none 0 0] 109) := by simpa [Blk] using hR2
          have hz3 : w.heap.size + 1 + 1 < (w2.drewN n).heap.size := by simpa using hz2
          clear hW2 hR2 hz2
          go_wp2_with fail
          ((with_reducible refine (from_any (x : Int) _ (by omega) (by omega)).mono ?_); rintro e w3 ⟨⟨v, rfl, hv⟩, hb3⟩)
          have hs3 := hb3.size
          have hW4 : Below w.heap.size w w3 := hW3.trans (hb3.mono hW3.size)
          have hR4 := hR3.below hb3 (by omega)
          have hI4 := Lib.hid (hR4.notInt (by decide))
          have hz4 : w.heap.size + 1 + 1 < w3.heap.size := by omega
          obtain ⟨ad, len, rfl, hdd⟩ := hv.dig
          have HV := Lib.hid hv
          have rc := hR4.room.cell
          have rf := hR4.room.frozen
          clear hv hdd hW3 hR3 hz3 hb3 hs3 hR4
          go_wp2
          refine bodyPost_ret (v := .agg #[.bool (decide ((x : Int) < 0)), .slice ad len len]) ?_ rfl ⟨⟨_, rfl, ?_⟩, ?_⟩
          · simp [results, Tryz.results90, go_sem, rc]
          · rw [← hxg.out]
            exact (HV.out.set hI4.out).set (fun h => hI4.out h.unset)
          · exact (hW4.setCell (by simp; omega) _).setCell (by simp; omega) _
        · have hy' : ((y : Int) == 0) = false := by simpa using hy
          have hy0 : (0 : Int) < (y : Int) := by omega
          go_wp2
          go_quiet (fail)
          go_wp2
          go_roundw
          case rel => exact ⟨y, x % y, rfl, rfl, by unfold Hid; rw [← HG.out, Nat.gcd_comm y (x % y), ← Nat.gcd_rec, Nat.gcd_comm], hy1, by have := Nat.mod_lt x (show 0 < y by omega); omega, n + nq, by simp⟩
          case measure =>
            have h1 : (x : Int) % (y : Int) < y := Int.emod_lt_of_pos _ hy0
            have h2 : 0 ≤ (x : Int) % (y : Int) := Int.emod_nonneg _ (by omega)
            simp [intOf]; omega

theorem wgcd_any (x y : Int) (vx vy : Value) (w : World) (h1 : -10000 < x) (h2 : x < 10000) (h3 : -10000 < y) (h4 : y < 10000) (hx : NumV x vx w) (hy : NumV y vy w) :
    Calls Tryz.prog 90 #[vx, vy] w fun e w' => (∃ v, e = .returned v ∧ NumV (Nat.gcd x.natAbs y.natAbs : Nat) v w') ∧ Below w.heap.size w w' := by
  obtain ⟨ada, la, rfl, hda⟩ := hx.dig
  obtain ⟨adb, lb, rfl, hdb⟩ := hy.dig
  exact wgcd_dig _ _ _ _ ada adb la lb w (by omega) (by omega) (fun h => by simp; omega) (fun h => by simp; omega) hda hdb

end Go.Proofs.YtaoedfegakpjeabGreat

namespace Go.Proofs.YtaoedfegakpjeabGreat
open Go.RowKit

theorem Dig.num' {x : Int} {ad : Option Addr} {len : Nat} {W : World} (h : Dig x.natAbs ad len W) : NumV x (.agg #[.bool (decide (x < 0)), .slice ad len len]) W := by
  rcases h with ⟨h0, rfl, rfl⟩ | ⟨h0, rfl, b, rfl, hc⟩
  · exact .inl ⟨by omega, by rw [decide_eq_false (by omega)]⟩
  · exact .inr ⟨by omega, b, rfl, hc⟩
theorem int_sgn (x : Int) (ad : Option Addr) (len : Nat) (w : World) (h1 : -10000 < x) (h2 : x < 10000) (hd : Dig x.natAbs ad len w) :
    Calls Tryz.prog 92 #[.agg #[.bool (decide (x < 0)), .slice ad len len]] w fun e w' => e = .returned (.tuple #[.int .i64 x, .bool true]) ∧ Below w.heap.size w w' :=
  wint_any x _ w h1 h2 hd.num'
theorem Fr.drewN {k : Nat} {fx : List (Nat × Obj)} {rm : List (Nat × Nat)} {w W : World} {n : Nat} (h : Fr k fx rm w W) : Fr k fx rm w (W.drewN n) :=
  ⟨⟨by simpa using h.own.1, below_drewN h.own.2 n⟩, by simpa using h.fix, by simpa [Room] using h.room⟩
theorem NumV.zero {v : Value} {W : World} (h : NumV 0 v W) : v = .agg #[.bool false, .slice none 0 0] := by
  rcases h with ⟨_, rfl⟩ | ⟨h0, _⟩
  · rfl
  · exact absurd rfl h0

set_option maxRecDepth 100000 in
set_option maxHeartbeats 2000000 in
theorem wdiv_dig (x y q : Int) (bx by' : Bool) (ada adb : Option Addr) (la lb : Nat) (w : World) (hbx : bx = decide (x < 0)) (hby : by' = decide (y < 0)) (h1 : -10000 < x) (h2 : x < 10000) (h3 : 0 < y) (h4 : y < 10000) (hq : x = y * q) (hq1 : -10000 < q) (hq2 : q < 10000) (hda : Dig x.natAbs ada la w) (hdb : Dig y.natAbs adb lb w) :
    Calls Tryz.prog 91 #[.agg #[.bool bx, .slice ada la la], .agg #[.bool by', .slice adb lb lb]] w fun e w' => (∃ v, e = .returned (.tuple #[v, .agg #[.bool false, .slice none 0 0]]) ∧ NumV q v w') ∧ Below w.heap.size w w' := by
  have HDA := Lib.hid hda
  have HDB := Lib.hid hdb
  have HX : Hid (∀ W, Dig x.natAbs ada la W → Calls Tryz.prog 92 #[.agg #[.bool bx, .slice ada la la]] W fun e w' => e = .returned (.tuple #[.int .i64 x, .bool true]) ∧ Below W.heap.size W w') := fun W h => by rw [hbx]; exact int_sgn x ada la W h1 h2 h
  have HY : Hid (∀ W, Dig y.natAbs adb lb W → Calls Tryz.prog 92 #[.agg #[.bool by', .slice adb lb lb]] W fun e w' => e = .returned (.tuple #[.int .i64 y, .bool true]) ∧ Below W.heap.size W w') := fun W h => by rw [hby]; exact int_sgn y adb lb W (by omega) h4 h
  have hla : la ≤ 4 := by rcases hda with h | h <;> omega
  have hlb : lb ≤ 4 := by rcases hdb with h | h <;> omega
  have hy0 : (y == 0) = false := by simp; omega
  have hm : IntKind.i64.wrap (x.tdiv y) = q := by
    rw [hq, Int.mul_tdiv_cancel_left _ (by omega)]; rw [IntKind.wrap_i64]; omega
  have hr : x.tmod y = 0 := by rw [hq]; exact Int.mul_tmod_right _ _
  have HM := Lib.hid (And.intro hm hr)
  clear hm hr hda hdb hbx hby hq
  go_enter Tryz.func91, Tryz.ntmps91
  have hE : ∀ W, Fr 4 [(0, .cells #[.bool bx, .slice ada la la] 109), (1, .cells #[.bool by', .slice adb lb lb] 109), (2, .cells #[.bool false, .slice none 0 0] 109), (3, .cells #[.bool false, .slice none 0 0] 109)] [(0, 2), (1, 2), (2, 2), (3, 2)] w W → (W.cell? ⟨w.heap.size, 0, none⟩ = some (.bool bx) ∧ W.cell? ⟨w.heap.size, 1, none⟩ = some (.slice ada la la) ∧ (∀ o, o < 2 → W.frozen? ⟨w.heap.size, o, none⟩ = false) ∧ W.cell? ⟨w.heap.size + 1, 0, none⟩ = some (.bool by') ∧ W.cell? ⟨w.heap.size + 1, 1, none⟩ = some (.slice adb lb lb) ∧ (∀ o, o < 2 → W.frozen? ⟨w.heap.size + 1, o, none⟩ = false) ∧ W.cell? ⟨w.heap.size + 2, 0, none⟩ = some (.bool false) ∧ W.cell? ⟨w.heap.size + 2, 1, none⟩ = some (.slice none 0 0) ∧ (∀ o, o < 2 → W.frozen? ⟨w.heap.size + 2, o, none⟩ = false) ∧ W.cell? ⟨w.heap.size + 3, 0, none⟩ = some (.bool false) ∧ W.cell? ⟨w.heap.size + 3, 1, none⟩ = some (.slice none 0 0) ∧ (∀ o, o < 2 → W.frozen? ⟨w.heap.size + 3, o, none⟩ = false)) := fun W h => by (repeat' apply And.intro) <;> first | exact h.at0 rfl | exact h.at rfl | exact (h.rms0 rfl).cell | exact (h.rms rfl).cell | exact (h.rms0 rfl).frozen | exact (h.rms rfl).frozen
  have HE := Lib.hid hE
  clear hE
  go_wp2_with fail
  ((with_reducible refine (HX.out _ (HDA.out.below (Nat.le_refl _) (by repeat (first | exact Below.refl _ _ | refine Below.alloc ?_ (by first | (simp; done) | (simp; omega)) _ | refine Below.setCell ?_ (by first | (simp; done) | (simp; omega)) _ | refine Below.drew ?_)))).mono ?_); rintro e w1 ⟨rfl, hb1⟩)
  have hF : Fr 4 [(0, .cells #[.bool bx, .slice ada la la] 109), (1, .cells #[.bool by', .slice adb lb lb] 109), (2, .cells #[.bool false, .slice none 0 0] 109), (3, .cells #[.bool false, .slice none 0 0] 109)] [(0, 2), (1, 2), (2, 2), (3, 2)] w w1 := Fr.call (((((Fr.nil w).bothy (by simp) #[.bool bx, .slice ada la la] 109).bothy (by simp) #[.bool by', .slice adb lb lb] 109).bothy (by simp) #[.bool false, .slice none 0 0] 109).bothy (by simp) #[.bool false, .slice none 0 0] 109) hb1
  have hq := HE.out _ hF
  have hz : w.heap.size < w1.heap.size ∧ w.heap.size + 1 < w1.heap.size ∧ w.heap.size + 2 < w1.heap.size ∧ w.heap.size + 3 < w1.heap.size := by have hs := Own.size (Fr.own hF); omega
  go_wp2_with fail
  ((with_reducible refine (HY.out _ ((HDB.out.below (Nat.le_refl _) (by repeat (first | exact Below.refl _ _ | refine Below.alloc ?_ (by first | (simp; done) | (simp; omega)) _ | refine Below.setCell ?_ (by first | (simp; done) | (simp; omega)) _ | refine Below.drew ?_))).below (Nat.le_refl _) hb1)).mono ?_); rintro e w2 ⟨rfl, hb2⟩)
  have hF2 : Fr 4 [(0, .cells #[.bool bx, .slice ada la la] 109), (1, .cells #[.bool by', .slice adb lb lb] 109), (2, .cells #[.bool false, .slice none 0 0] 109), (3, .cells #[.bool false, .slice none 0 0] 109)] [(0, 2), (1, 2), (2, 2), (3, 2)] w w2 := hF.call hb2
  clear hq hz HX HY HDA HDB
  have hq := HE.out _ hF2
  have hz : w.heap.size < w2.heap.size ∧ w.heap.size + 1 < w2.heap.size ∧ w.heap.size + 2 < w2.heap.size ∧ w.heap.size + 3 < w2.heap.size := by have hs := Own.size (Fr.own hF2); omega
  clear hF hb1 hb2
  have hm := HM.out.1
  have hr := HM.out.2
  go_wp2
  go_quiet (fail)
  go_wp2_with fail
  ((with_reducible refine (from_any q _ hq1 hq2).mono ?_); rintro e w3 ⟨⟨v, rfl, hv⟩, hb3⟩)
  have hF3 : Fr 4 [(0, .cells #[.bool bx, .slice ada la la] 109), (1, .cells #[.bool by', .slice adb lb lb] 109), (2, .cells #[.bool false, .slice none 0 0] 109), (3, .cells #[.bool false, .slice none 0 0] 109)] [(0, 2), (1, 2), (2, 2), (3, 2)] w w3 := hF2.drewN.call hb3
  clear hq hz hm hr HM
  have hq := HE.out _ hF3
  have hz : w.heap.size < w3.heap.size ∧ w.heap.size + 1 < w3.heap.size ∧ w.heap.size + 2 < w3.heap.size ∧ w.heap.size + 3 < w3.heap.size := by have hs := Own.size (Fr.own hF3); omega
  clear hF2 hb3
  go_wp2_with fail
  ((with_reducible refine (from_any 0 _ (by omega) (by omega)).mono ?_); rintro e w4 ⟨⟨v0, rfl, hv0⟩, hb4⟩)
  have hF4 : Fr 4 [(0, .cells #[.bool bx, .slice ada la la] 109), (1, .cells #[.bool by', .slice adb lb lb] 109), (2, .cells #[.bool false, .slice none 0 0] 109), (3, .cells #[.bool false, .slice none 0 0] 109)] [(0, 2), (1, 2), (2, 2), (3, 2)] w w4 := hF3.call hb4
  have hv4 := hv.below (Nat.le_refl _) hb4
  clear hq hz hv
  have hq := HE.out _ hF4
  have hz : w.heap.size < w4.heap.size ∧ w.heap.size + 1 < w4.heap.size ∧ w.heap.size + 2 < w4.heap.size ∧ w.heap.size + 3 < w4.heap.size := by have hs := Own.size (Fr.own hF4); omega
  clear hF3 hb4
  obtain rfl := hv0.zero
  obtain ⟨ad, len, rfl, hdd⟩ := hv4.dig
  have HV := Lib.hid hv4
  have hB2 := Lib.hid (hF4.fix 2 _ rfl).2
  have hB3 := Lib.hid (hF4.fix 3 _ rfl).2
  clear hv0 hdd hv4
  go_wp2
  refine bodyPost_ret (v := .tuple #[.agg #[.bool (decide (q < 0)), .slice ad len len], .agg #[.bool false, .slice none 0 0]]) ?_ rfl ⟨⟨_, rfl, ?_⟩, ?_⟩
  · simp [results, Tryz.results91, go_sem, hq]
  · have i2 : ¬ IntB w4 (w.heap.size + 2) := (show Blk w4 (w.heap.size + 2) _ from hB2.out).notInt (by decide)
    have i3 : ¬ IntB w4 (w.heap.size + 3) := (show Blk w4 (w.heap.size + 3) _ from hB3.out).notInt (by decide)
    exact (((HV.out.set i2).set (fun h => i2 h.unset)).set (fun h => i3 h.unset.unset)).set (fun h => i3 h.unset.unset.unset)
  · have h := hF4.own.below
    exact (((h.setCell (by simp; omega) _).setCell (by simp; omega) _).setCell (by simp; omega) _).setCell (by simp; omega) _

end Go.Proofs.YtaoedfegakpjeabGreat

namespace Go.Proofs.YtaoedfegakpjeabGreat
open Go.RowKit

/-- The vector product of two planes' normals, and the same divided by its greatest common divisor. -/
noncomputable def dirG (a b c x y z : Int) : Int := gcd3 (crs b z c y) (crs c x a z) (crs a y b x)
noncomputable def dirX (a b c x y z : Int) : Int := shortBy (dirG a b c x y z) (crs b z c y)
noncomputable def dirY (a b c x y z : Int) : Int := shortBy (dirG a b c x y z) (crs c x a z)
noncomputable def dirZ (a b c x y z : Int) : Int := shortBy (dirG a b c x y z) (crs a y b x)

theorem crs_i64 (b z c y : Int) : I64 (crs b z c y) := by rw [crs_eq]; exact I64.wrap _

set_option maxHeartbeats 400000 in
theorem direction_any (a b c d x y z t : Int) (w : World) :
    Calls Tryz.prog 62 #[.agg #[.int .i64 a, .int .i64 b, .int .i64 c, .int .i64 d], .agg #[.int .i64 x, .int .i64 y, .int .i64 z, .int .i64 t]] w fun e w' => e = .returned (.agg #[.int .i64 (dirX a b c x y z), .int .i64 (dirY a b c x y z), .int .i64 (dirZ a b c x y z)]) ∧ Below w.heap.size w w' := by
  go_enter Tryz.func62, Tryz.ntmps62
  go_wp2
  have hE : ∀ W, Fr 3 [(0, .cells #[.int .i64 a, .int .i64 b, .int .i64 c, .int .i64 d] 23), (1, .cells #[.int .i64 x, .int .i64 y, .int .i64 z, .int .i64 t] 23)] [(2, 3)] w W → (W.cell? ⟨w.heap.size, 0, none⟩ = some (.int .i64 a) ∧ W.cell? ⟨w.heap.size, 1, none⟩ = some (.int .i64 b) ∧ W.cell? ⟨w.heap.size, 2, none⟩ = some (.int .i64 c) ∧ W.cell? ⟨w.heap.size, 3, none⟩ = some (.int .i64 d) ∧ W.cell? ⟨w.heap.size + 1, 0, none⟩ = some (.int .i64 x) ∧ W.cell? ⟨w.heap.size + 1, 1, none⟩ = some (.int .i64 y) ∧ W.cell? ⟨w.heap.size + 1, 2, none⟩ = some (.int .i64 z) ∧ W.cell? ⟨w.heap.size + 1, 3, none⟩ = some (.int .i64 t) ∧ (∀ o, o < 3 → W.cell? ⟨w.heap.size + 2, o, none⟩ = some (cellOf W ⟨w.heap.size + 2, o, none⟩)) ∧ (∀ o, o < 3 → W.frozen? ⟨w.heap.size + 2, o, none⟩ = false)) := fun W h => by (repeat' apply And.intro) <;> first | exact h.at0 rfl | exact h.at rfl | exact (h.rms0 rfl).cell | exact (h.rms rfl).cell | exact (h.rms0 rfl).frozen | exact (h.rms rfl).frozen
  have HE := Lib.hid hE
  clear hE
  go_region_held3 (fun W => Fr 3 [(0, .cells #[.int .i64 a, .int .i64 b, .int .i64 c, .int .i64 d] 23), (1, .cells #[.int .i64 x, .int .i64 y, .int .i64 z, .int .i64 t] 23)] [(2, 3)] w W ∧ W.cell? ⟨w.heap.size, 0, none⟩ = some (.int .i64 a) ∧ W.cell? ⟨w.heap.size, 1, none⟩ = some (.int .i64 b) ∧ W.cell? ⟨w.heap.size, 2, none⟩ = some (.int .i64 c) ∧ W.cell? ⟨w.heap.size, 3, none⟩ = some (.int .i64 d) ∧ W.cell? ⟨w.heap.size + 1, 0, none⟩ = some (.int .i64 x) ∧ W.cell? ⟨w.heap.size + 1, 1, none⟩ = some (.int .i64 y) ∧ W.cell? ⟨w.heap.size + 1, 2, none⟩ = some (.int .i64 z) ∧ W.cell? ⟨w.heap.size + 1, 3, none⟩ = some (.int .i64 t) ∧ (∀ o, o < 3 → W.cell? ⟨w.heap.size + 2, o, none⟩ = some (cellOf W ⟨w.heap.size + 2, o, none⟩)) ∧ (∀ o, o < 3 → W.frozen? ⟨w.heap.size + 2, o, none⟩ = false)) ((first | exact hSK | assumption | (have hq := Fr.keep HE.out (by assumption) hb1; exact hq) | (have hq := Fr.both HE.out hF.drew; exact hq) | (have hq := Fr.both HE.out ((((Fr.nil w).fixed (by simp) (.cells #[.int .i64 a, .int .i64 b, .int .i64 c, .int .i64 d] 23)).fixed (by simp) (.cells #[.int .i64 x, .int .i64 y, .int .i64 z, .int .i64 t] 23)).roomy (by simp) #[.int .i64 0, .int .i64 0, .int .i64 0] 66).drew; exact hq) | (refine Fr.both HE.out ?_; (repeat (first | exact hF | exact And.left (by assumption) | refine Fr.set ?_ (by first | (simp; done) | (simp; omega)) (by first | (simp [List.lookup]; done) | (simp [Nat.add_assoc, List.lookup]; done)) _ | refine Fr.drew ?_ | refine Fr.alloc ?_ _))))) (first | (go_at_call 35; refine (normal_any _ _ _ _ _).mono ?_; rintro e w1 ⟨rfl, hb1⟩) | (go_at_call 36; refine (cross_any _ _ _ _ _ _ _).mono ?_; rintro e w1 ⟨rfl, hb1⟩) | (go_at_call 88; refine (short_any _ _ _ _ (crs_i64 _ _ _ _) (crs_i64 _ _ _ _) (crs_i64 _ _ _ _)).mono ?_; rintro e w1 ⟨rfl, hb1⟩))
  go_wp2
  obtain ⟨hF, -⟩ : Fr 3 _ _ w _ ∧ _ := by assumption
  have hR := (hF.rms (i := 2) rfl).back.back.back
  refine bodyPost_ret (v := .agg #[.int .i64 (dirX a b c x y z), .int .i64 (dirY a b c x y z), .int .i64 (dirZ a b c x y z)]) ?_ rfl ⟨rfl, hF.own.below⟩
  simp [results, Tryz.results62, go_sem, hR.some, dirX, dirY, dirZ, dirG]

end Go.Proofs.YtaoedfegakpjeabGreat
