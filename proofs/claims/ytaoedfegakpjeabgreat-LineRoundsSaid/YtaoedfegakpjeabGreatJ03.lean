/- Contracts of the functions that the statement reaches, and plain lemmas: part 3 of 25. -/
import Derived.Test.YtaoedfegakpjeabGreatJ02

namespace Go.Proofs.YtaoedfegakpjeabGreat
open Go.RowKit

/-- The reference's own tests of a plane. -/
noncomputable def rightB (a b c d : Int) : Bool := vlB (decide (sizeI a ≤ 1000) && (decide (sizeI b ≤ 1000) && (decide (sizeI c ≤ 1000) && (!((a == 0 && (b == 0 && c == 0)) || decide (1000000 < sizeI d)) && gcd2 (gcd2 a b) (gcd2 c d) == 1))))
theorem rightB_eq (a b c d : Int) : rightB a b c d = (decide (sizeI a ≤ 1000) && (decide (sizeI b ≤ 1000) && (decide (sizeI c ≤ 1000) && (!((a == 0 && (b == 0 && c == 0)) || decide (1000000 < sizeI d)) && gcd2 (gcd2 a b) (gcd2 c d) == 1)))) := vlB_eq _

theorem gcd2_i64 {a b : Int} (ia : I64 a) (ib : I64 b) : I64 (gcd2 a b) := by
  have h1 := sizeI_nonneg ia
  have h2 := sizeI_i64 ia
  have h3 := sizeI_nonneg ib
  have h4 := sizeI_i64 ib
  rw [gcd2_eq]; unfold I64 at *
  rcases Nat.eq_zero_or_pos (sizeI a).toNat with h | h
  · rw [h, Nat.gcd_zero_left]; omega
  · have := Nat.gcd_le_left (sizeI b).toNat h
    omega

/-- The first k sizes are within the limit. -/
def SizeTo (m a b c : Int) (k : Nat) : Prop := (0 < k → sizeI a ≤ m) ∧ (1 < k → sizeI b ≤ m) ∧ (2 < k → sizeI c ≤ m)

set_option maxHeartbeats 1000000 in
theorem right_any (a b c d : Int) (w : World) (ia : I64 a) (ib : I64 b) (ic : I64 c) (id : I64 d) :
    Calls Tryz.prog 19 #[.agg #[.int .i64 a, .int .i64 b, .int .i64 c, .int .i64 d]] w fun e w' => e = .returned (.bool (rightB a b c d)) ∧ Below w.heap.size w w' := by
  go_enter Tryz.func19, Tryz.ntmps19
  go_wp2
  go_loop [3] (fun v => ∃ k : Nat, k ≤ 3 ∧ v = .int .i64 k ∧ SizeTo 1000 a b c k) (fun v => 3 - (intOf v).toNat)
  case atStart => exact ⟨0, by omega, rfl, by omega, by omega, by omega⟩
  case round =>
    obtain ⟨k, hk, rfl, hr⟩ := hrel
    match k, hk with
    | 0, _ =>
      have HR := Lib.hid hr
      clear hr
      by_cases ha : sizeI a ≤ 1000
      · have HA := Lib.hid ha
        go_wp2_with (go_at_call 44; refine (size_any _ _).mono ?_; rintro e w1 ⟨rfl, rfl⟩)
        go_round
        case rel => exact ⟨1, by omega, by go_num, fun _ => HA.out, by omega, by omega⟩
        case measure => simp [intOf]
      · have HN : Hid (rightB a b c d = false) := by unfold Hid; rw [rightB_eq, decide_eq_false ha]; simp
        go_wp2_with (go_at_call 44; refine (size_any _ _).mono ?_; rintro e w1 ⟨rfl, rfl⟩)
        go_ret
        refine ⟨ret_bool (by rw [HN.out]), ?_⟩
        repeat (first | exact Below.refl _ _ | refine Below.alloc ?_ (by first | (simp; done) | (simp; omega)) _ | refine Below.setCell ?_ (by first | (simp; done) | (simp; omega)) _ | refine Below.drew ?_)
    | 1, _ =>
      have HR := Lib.hid hr
      clear hr
      by_cases hb : sizeI b ≤ 1000
      · have HA := Lib.hid hb
        go_wp2_with (go_at_call 44; refine (size_any _ _).mono ?_; rintro e w1 ⟨rfl, rfl⟩)
        go_round
        case rel => exact ⟨2, by omega, by go_num, fun _ => HR.out.1 (by omega), fun _ => HA.out, by omega⟩
        case measure => simp [intOf]
      · have HN : Hid (rightB a b c d = false) := by unfold Hid; rw [rightB_eq, decide_eq_false hb]; simp
        go_wp2_with (go_at_call 44; refine (size_any _ _).mono ?_; rintro e w1 ⟨rfl, rfl⟩)
        go_ret
        refine ⟨ret_bool (by rw [HN.out]), ?_⟩
        repeat (first | exact Below.refl _ _ | refine Below.alloc ?_ (by first | (simp; done) | (simp; omega)) _ | refine Below.setCell ?_ (by first | (simp; done) | (simp; omega)) _ | refine Below.drew ?_)
    | 2, _ =>
      have HR := Lib.hid hr
      clear hr
      by_cases hc : sizeI c ≤ 1000
      · have HA := Lib.hid hc
        go_wp2_with (go_at_call 44; refine (size_any _ _).mono ?_; rintro e w1 ⟨rfl, rfl⟩)
        go_round
        case rel => exact ⟨3, by omega, by go_num, fun _ => HR.out.1 (by omega), fun _ => HR.out.2.1 (by omega), fun _ => HA.out⟩
        case measure => simp [intOf]
      · have HN : Hid (rightB a b c d = false) := by unfold Hid; rw [rightB_eq, decide_eq_false hc]; simp
        go_wp2_with (go_at_call 44; refine (size_any _ _).mono ?_; rintro e w1 ⟨rfl, rfl⟩)
        go_ret
        refine ⟨ret_bool (by rw [HN.out]), ?_⟩
        repeat (first | exact Below.refl _ _ | refine Below.alloc ?_ (by first | (simp; done) | (simp; omega)) _ | refine Below.setCell ?_ (by first | (simp; done) | (simp; omega)) _ | refine Below.drew ?_)
    | 3, _ =>
      have qa := hr.1 (by omega)
      have qb := hr.2.1 (by omega)
      have qc := hr.2.2 (by omega)
      have HQ : Hid (rightB a b c d = (!((a == 0 && (b == 0 && c == 0)) || decide (1000000 < sizeI d)) && gcd2 (gcd2 a b) (gcd2 c d) == 1)) := by unfold Hid; simp [rightB_eq, qa, qb, qc]
      clear hr qa qb qc
      by_cases h : a = 0 ∧ b = 0 ∧ c = 0
      · obtain ⟨rfl, rfl, rfl⟩ := h
        go_wp2
        go_ret
        refine ⟨ret_bool (by rw [HQ.out]; simp), ?_⟩
        repeat (first | exact Below.refl _ _ | refine Below.alloc ?_ (by first | (simp; done) | (simp; omega)) _ | refine Below.setCell ?_ (by first | (simp; done) | (simp; omega)) _ | refine Below.drew ?_)
      · have h' : a ≠ 0 ∨ (a = 0 ∧ b ≠ 0) ∨ (a = 0 ∧ b = 0 ∧ c ≠ 0) := by omega
        have HZ : Hid ((a == 0 && (b == 0 && c == 0)) = false) := by unfold Hid; simp; omega
        clear h
        by_cases hd : 1000000 < sizeI d
        · have HD := Lib.hid hd
          rcases h' with h | ⟨rfl, h⟩ | ⟨rfl, rfl, h⟩
          all_goals
            have hb := beq_eq_false_iff_ne.2 h
            go_wp2_with (go_at_call 44; refine (size_any _ _).mono ?_; rintro e w1 ⟨rfl, rfl⟩)
            go_ret
            refine ⟨ret_bool (by rw [HQ.out, HZ.out, decide_eq_true HD.out]; simp), ?_⟩
            repeat (first | exact Below.refl _ _ | refine Below.alloc ?_ (by first | (simp; done) | (simp; omega)) _ | refine Below.setCell ?_ (by first | (simp; done) | (simp; omega)) _ | refine Below.drew ?_)
        · have HD : Hid (decide (1000000 < sizeI d) = false) := decide_eq_false hd
          rcases h' with h | ⟨rfl, h⟩ | ⟨rfl, rfl, h⟩
          · have hb := beq_eq_false_iff_ne.2 h
            have J1 := gcd2_i64 ia ib
            have J2 := gcd2_i64 ic id
            go_wp2_with (go_at_call 44; refine (size_any _ _).mono ?_; rintro e w1 ⟨rfl, rfl⟩)
            have hE : ∀ W, Fr 1 [(0, .cells #[.int .i64 a, .int .i64 b, .int .i64 c, .int .i64 d] 23)] [] w W → (W.cell? ⟨w.heap.size, 0, none⟩ = some (.int .i64 a) ∧ W.cell? ⟨w.heap.size, 1, none⟩ = some (.int .i64 b) ∧ W.cell? ⟨w.heap.size, 2, none⟩ = some (.int .i64 c) ∧ W.cell? ⟨w.heap.size, 3, none⟩ = some (.int .i64 d)) := fun W h => by (repeat' apply And.intro) <;> first | exact h.at0 rfl | exact h.at rfl | exact (h.rms0 rfl).cell | exact (h.rms rfl).cell | exact (h.rms0 rfl).frozen | exact (h.rms rfl).frozen
            have HE := Lib.hid hE
            clear hE
            go_region_held3 (fun W => Fr 1 [(0, .cells #[.int .i64 a, .int .i64 b, .int .i64 c, .int .i64 d] 23)] [] w W ∧ W.cell? ⟨w.heap.size, 0, none⟩ = some (.int .i64 a) ∧ W.cell? ⟨w.heap.size, 1, none⟩ = some (.int .i64 b) ∧ W.cell? ⟨w.heap.size, 2, none⟩ = some (.int .i64 c) ∧ W.cell? ⟨w.heap.size, 3, none⟩ = some (.int .i64 d)) ((first | exact hSK | assumption | (have hq := Fr.keep HE.out (by assumption) hb1; exact hq) | (have hq := Fr.both HE.out hF.drew; exact hq) | (have hq := Fr.both HE.out ((Fr.nil w).fixed (by simp) (.cells #[.int .i64 a, .int .i64 b, .int .i64 c, .int .i64 d] 23)).drew; exact hq) | (refine Fr.both HE.out ?_; (repeat (first | exact hF | exact And.left (by assumption) | refine Fr.set ?_ (by first | (simp; done) | (simp; omega)) (by first | (simp [List.lookup]; done) | (simp [Nat.add_assoc, List.lookup]; done)) _ | refine Fr.drew ?_ | refine Fr.alloc ?_ _))))) (first | (go_at_call 38; refine (pgcd_any _ _ _ (by assumption) (by assumption)).mono ?_; rintro e w1 ⟨rfl, hb1⟩))
            go_wp2
            go_ret
            obtain ⟨hF, -⟩ : Fr 1 _ _ w _ ∧ _ := by assumption
            exact ⟨ret_bool (by rw [HQ.out, HZ.out, HD.out]; simp), hF.own.below⟩
          · have hb := beq_eq_false_iff_ne.2 h
            have J1 := gcd2_i64 ia ib
            have J2 := gcd2_i64 ic id
            go_wp2_with (go_at_call 44; refine (size_any _ _).mono ?_; rintro e w1 ⟨rfl, rfl⟩)
            have hE : ∀ W, Fr 1 [(0, .cells #[.int .i64 0, .int .i64 b, .int .i64 c, .int .i64 d] 23)] [] w W → (W.cell? ⟨w.heap.size, 0, none⟩ = some (.int .i64 0) ∧ W.cell? ⟨w.heap.size, 1, none⟩ = some (.int .i64 b) ∧ W.cell? ⟨w.heap.size, 2, none⟩ = some (.int .i64 c) ∧ W.cell? ⟨w.heap.size, 3, none⟩ = some (.int .i64 d)) := fun W h => by (repeat' apply And.intro) <;> first | exact h.at0 rfl | exact h.at rfl | exact (h.rms0 rfl).cell | exact (h.rms rfl).cell | exact (h.rms0 rfl).frozen | exact (h.rms rfl).frozen
            have HE := Lib.hid hE
            clear hE
            go_region_held3 (fun W => Fr 1 [(0, .cells #[.int .i64 0, .int .i64 b, .int .i64 c, .int .i64 d] 23)] [] w W ∧ W.cell? ⟨w.heap.size, 0, none⟩ = some (.int .i64 0) ∧ W.cell? ⟨w.heap.size, 1, none⟩ = some (.int .i64 b) ∧ W.cell? ⟨w.heap.size, 2, none⟩ = some (.int .i64 c) ∧ W.cell? ⟨w.heap.size, 3, none⟩ = some (.int .i64 d)) ((first | exact hSK | assumption | (have hq := Fr.keep HE.out (by assumption) hb1; exact hq) | (have hq := Fr.both HE.out hF.drew; exact hq) | (have hq := Fr.both HE.out ((Fr.nil w).fixed (by simp) (.cells #[.int .i64 0, .int .i64 b, .int .i64 c, .int .i64 d] 23)).drew; exact hq) | (refine Fr.both HE.out ?_; (repeat (first | exact hF | exact And.left (by assumption) | refine Fr.set ?_ (by first | (simp; done) | (simp; omega)) (by first | (simp [List.lookup]; done) | (simp [Nat.add_assoc, List.lookup]; done)) _ | refine Fr.drew ?_ | refine Fr.alloc ?_ _))))) (first | (go_at_call 38; refine (pgcd_any _ _ _ (by assumption) (by assumption)).mono ?_; rintro e w1 ⟨rfl, hb1⟩))
            go_wp2
            go_ret
            obtain ⟨hF, -⟩ : Fr 1 _ _ w _ ∧ _ := by assumption
            exact ⟨ret_bool (by rw [HQ.out, HZ.out, HD.out]; simp), hF.own.below⟩
          · have hb := beq_eq_false_iff_ne.2 h
            have J1 := gcd2_i64 ia ib
            have J2 := gcd2_i64 ic id
            go_wp2_with (go_at_call 44; refine (size_any _ _).mono ?_; rintro e w1 ⟨rfl, rfl⟩)
            have hE : ∀ W, Fr 1 [(0, .cells #[.int .i64 0, .int .i64 0, .int .i64 c, .int .i64 d] 23)] [] w W → (W.cell? ⟨w.heap.size, 0, none⟩ = some (.int .i64 0) ∧ W.cell? ⟨w.heap.size, 1, none⟩ = some (.int .i64 0) ∧ W.cell? ⟨w.heap.size, 2, none⟩ = some (.int .i64 c) ∧ W.cell? ⟨w.heap.size, 3, none⟩ = some (.int .i64 d)) := fun W h => by (repeat' apply And.intro) <;> first | exact h.at0 rfl | exact h.at rfl | exact (h.rms0 rfl).cell | exact (h.rms rfl).cell | exact (h.rms0 rfl).frozen | exact (h.rms rfl).frozen
            have HE := Lib.hid hE
            clear hE
            go_region_held3 (fun W => Fr 1 [(0, .cells #[.int .i64 0, .int .i64 0, .int .i64 c, .int .i64 d] 23)] [] w W ∧ W.cell? ⟨w.heap.size, 0, none⟩ = some (.int .i64 0) ∧ W.cell? ⟨w.heap.size, 1, none⟩ = some (.int .i64 0) ∧ W.cell? ⟨w.heap.size, 2, none⟩ = some (.int .i64 c) ∧ W.cell? ⟨w.heap.size, 3, none⟩ = some (.int .i64 d)) ((first | exact hSK | assumption | (have hq := Fr.keep HE.out (by assumption) hb1; exact hq) | (have hq := Fr.both HE.out hF.drew; exact hq) | (have hq := Fr.both HE.out ((Fr.nil w).fixed (by simp) (.cells #[.int .i64 0, .int .i64 0, .int .i64 c, .int .i64 d] 23)).drew; exact hq) | (refine Fr.both HE.out ?_; (repeat (first | exact hF | exact And.left (by assumption) | refine Fr.set ?_ (by first | (simp; done) | (simp; omega)) (by first | (simp [List.lookup]; done) | (simp [Nat.add_assoc, List.lookup]; done)) _ | refine Fr.drew ?_ | refine Fr.alloc ?_ _))))) (first | (go_at_call 38; refine (pgcd_any _ _ _ (by assumption) (by assumption)).mono ?_; rintro e w1 ⟨rfl, hb1⟩))
            go_wp2
            go_ret
            obtain ⟨hF, -⟩ : Fr 1 _ _ w _ ∧ _ := by assumption
            exact ⟨ret_bool (by rw [HQ.out, HZ.out, HD.out]; simp), hF.own.below⟩

end Go.Proofs.YtaoedfegakpjeabGreat

namespace Go.Proofs.YtaoedfegakpjeabGreat
open Go.RowKit

/-- Four numbers: a plane or a point. -/
structure Q4 where
  a : Int
  b : Int
  c : Int
  d : Int
def Q4.I64 (q : Q4) : Prop := Proofs.YtaoedfegakpjeabGreat.I64 q.a ∧ Proofs.YtaoedfegakpjeabGreat.I64 q.b ∧ Proofs.YtaoedfegakpjeabGreat.I64 q.c ∧ Proofs.YtaoedfegakpjeabGreat.I64 q.d
noncomputable def Q4.plane (q : Q4) : Bool := isPlaneB q.a q.b q.c q.d
noncomputable def Q4.point (q : Q4) : Bool := isPointB q.a q.b q.c q.d

/-- The four numbers from an address on. -/
def At4 (W : World) (b o : Nat) (q : Q4) : Prop := W.cell? ⟨b, o, none⟩ = some (.int .i64 q.a) ∧ W.cell? ⟨b, o + 1, none⟩ = some (.int .i64 q.b) ∧ W.cell? ⟨b, o + 2, none⟩ = some (.int .i64 q.c) ∧ W.cell? ⟨b, o + 3, none⟩ = some (.int .i64 q.d)
/-- A row of such. -/
def Sl4 (W : World) (b o : Nat) (ps : List Q4) : Prop := ∀ i q, ps[i]? = some q → At4 W b (o + i * 4) q
theorem At4.below {W W1 : World} {b o B : Nat} {q : Q4} (h : At4 W b o q) (hb : Below B W W1) (hB : b < B) : At4 W1 b o q :=
  ⟨(hb.cell (p := ⟨b, _, none⟩) hB).trans h.1, (hb.cell (p := ⟨b, _, none⟩) hB).trans h.2.1, (hb.cell (p := ⟨b, _, none⟩) hB).trans h.2.2.1, (hb.cell (p := ⟨b, _, none⟩) hB).trans h.2.2.2⟩
theorem Sl4.below {W W1 : World} {b o B : Nat} {ps : List Q4} (h : Sl4 W b o ps) (hb : Below B W W1) (hB : b < B) : Sl4 W1 b o ps := fun i q hi => (h i q hi).below hb hB

/-- The place of the first element that is so; -1: there is none. -/
def firstI {α : Type} (p : α → Bool) (l : List α) : Int := match l.findIdx? p with | some i => (i : Int) | none => -1

theorem firstI_hit {α : Type} {p : α → Bool} {l : List α} {k : Nat} {x : α} (hk : l[k]? = some x) (hp : p x = true) (hb : ∀ i y, i < k → l[i]? = some y → p y = false) : firstI p l = k := by
  have : l.findIdx? p = some k := by
    rw [List.findIdx?_eq_some_iff_getElem]
    obtain ⟨h1, h2⟩ := List.getElem?_eq_some_iff.1 hk
    refine ⟨h1, by rw [h2]; exact hp, fun j hj => ?_⟩
    have := hb j l[j] hj (List.getElem?_eq_getElem (by omega))
    simp [this]
  unfold firstI; rw [this]
theorem firstI_miss {α : Type} {p : α → Bool} {l : List α} (hb : ∀ i y, i < l.length → l[i]? = some y → p y = false) : firstI p l = -1 := by
  have : l.findIdx? p = none := by
    rw [List.findIdx?_eq_none_iff]
    intro x hx
    obtain ⟨i, hi, rfl⟩ := List.getElem_of_mem hx
    exact hb i _ hi (List.getElem?_eq_getElem hi)
  unfold firstI; rw [this]
theorem firstI_all {α : Type} (p : α → Bool) (l : List α) : (decide (0 ≤ firstI p l)) = l.any p := by
  unfold firstI
  cases h : l.findIdx? p with
  | some i =>
    have := (List.findIdx?_eq_some_iff_getElem.1 h)
    obtain ⟨h1, h2, _⟩ := this
    have : l.any p = true := List.any_eq_true.2 ⟨_, List.getElem_mem h1, h2⟩
    rw [this]; simp
  | none =>
    have := List.findIdx?_eq_none_iff.1 h
    have : l.any p = false := by simpa using this
    rw [this]; simp

set_option maxHeartbeats 400000 in
theorem notPlane_any (a b c d : Int) (w : World) (ia : I64 a) (ib : I64 b) (ic : I64 c) (id : I64 d) :
    Calls Tryz.prog 84 #[.agg #[.int .i64 a, .int .i64 b, .int .i64 c, .int .i64 d]] w fun e w' => e = .returned (.bool (!isPlaneB a b c d)) ∧ Below w.heap.size w w' := by
  go_enter Tryz.func84, Tryz.ntmps84
  go_wp2_with (go_at_call 41; refine (isPlane_any _ _ _ _ _ ia ib ic id).mono ?_; rintro e w1 ⟨rfl, hb1⟩)
  go_ret
  refine ⟨rfl, ?_⟩
  (repeat (first | exact Below.refl _ _ | refine Below.alloc ?_ (by first | (simp; done) | (simp; omega)) _ | refine Below.setCell ?_ (by first | (simp; done) | (simp; omega)) _ | refine Below.drew ?_)); (try (refine Below.trans ?_ (hb1.mono (by first | (simp; done) | (simp; omega))); repeat (first | exact Below.refl _ _ | refine Below.alloc ?_ (by first | (simp; done) | (simp; omega)) _ | refine Below.setCell ?_ (by first | (simp; done) | (simp; omega)) _ | refine Below.drew ?_)))

set_option maxHeartbeats 400000 in
theorem indexPlanes_any (ps : List Q4) (b o cap : Nat) (w : World) (hl : ps.length ≤ 1000000) (hi : ∀ q, q ∈ ps → q.I64) (hB : b < w.heap.size) (hc : Sl4 w b o ps) :
    Calls Tryz.prog 109 #[.slice (some ⟨b, o, none⟩) ps.length cap, .func (.func 84) #[] #[]] w fun e w' => e = .returned (.int .i64 (firstI (fun q => !q.plane) ps)) ∧ Below w.heap.size w w' := by
  have HC := Lib.hid hc
  have HI := Lib.hid hi
  clear hc hi
  go_enter Tryz.func109, Tryz.ntmps109
  go_wp2
  go_loopw [8] (fun v wr => ∃ k : Nat, k ≤ ps.length ∧ v = .int .i64 k ∧ Below w.heap.size w wr ∧ Hid (∀ i y, i < k → ps[i]? = some y → (!y.plane) = false)) (fun v _ => ps.length - (intOf v).toNat)
  case atStart => exact ⟨0, Nat.zero_le _, rfl, Below.refl _ _, fun i y h => by omega⟩
  case round =>
    rename_i wr
    obtain ⟨k, hk, rfl, hw, HN⟩ := hrel
    by_cases hlt : k < ps.length
    · obtain ⟨q, hq⟩ : ∃ q, ps[k]? = some q := ⟨_, List.getElem?_eq_getElem hlt⟩
      obtain ⟨c0, c1, c2, c3⟩ := (HC.out k q hq).below hw hB
      obtain ⟨i0, i1, i2, i3⟩ := HI.out q (List.mem_of_getElem? hq)
      have HQ := Lib.hid hq
      clear hq
      cases hp : isPlaneB q.a q.b q.c q.d with
      | false =>
        have HP : Hid (q.plane = false) := hp
        go_wp2_with (go_at_call 84; refine (notPlane_any _ _ _ _ _ i0 i1 i2 i3).mono ?_; rintro e w1 ⟨rfl, hb1⟩)
        go_ret
        refine ⟨ret_int ?_, hw.trans (hb1.mono hw.size)⟩
        rw [firstI_hit HQ.out (by rw [HP.out]; rfl) HN.out]
      | true =>
        have HP : Hid (q.plane = true) := hp
        go_wp2_with (go_at_call 84; refine (notPlane_any _ _ _ _ _ i0 i1 i2 i3).mono ?_; rintro e w1 ⟨rfl, hb1⟩)
        go_roundw
        case rel =>
          refine ⟨k + 1, by omega, by go_num, hw.trans (hb1.mono hw.size), fun i y h1 h2 => ?_⟩
          rcases Nat.lt_succ_iff_lt_or_eq.1 h1 with h | h
          · exact HN.out i y h h2
          · subst h
            have e : q = y := Option.some.inj (HQ.out.symm.trans h2)
            rw [← e, HP.out]; rfl
        case measure => simp [intOf]; omega
    · have hkk : k = ps.length := by omega
      have HK := Lib.hid hkk
      clear hkk
      go_wp2
      go_ret
      refine ⟨ret_int ?_, hw⟩
      rw [firstI_miss (fun i y h1 h2 => HN.out i y (by rw [HK.out]; exact h1) h2)]

end Go.Proofs.YtaoedfegakpjeabGreat

namespace Go.Proofs.YtaoedfegakpjeabGreat
open Go.RowKit

set_option maxHeartbeats 400000 in
theorem notPoint_any (a b c d : Int) (w : World) (ia : I64 a) (ib : I64 b) (ic : I64 c) (id : I64 d) :
    Calls Tryz.prog 86 #[.agg #[.int .i64 a, .int .i64 b, .int .i64 c, .int .i64 d]] w fun e w' => e = .returned (.bool (!isPointB a b c d)) ∧ Below w.heap.size w w' := by
  go_enter Tryz.func86, Tryz.ntmps86
  go_wp2_with (go_at_call 87; refine (isPoint_any _ _ _ _ _ ia ib ic id).mono ?_; rintro e w1 ⟨rfl, hb1⟩)
  go_ret
  refine ⟨rfl, ?_⟩
  (repeat (first | exact Below.refl _ _ | refine Below.alloc ?_ (by first | (simp; done) | (simp; omega)) _ | refine Below.setCell ?_ (by first | (simp; done) | (simp; omega)) _ | refine Below.drew ?_)); (try (refine Below.trans ?_ (hb1.mono (by first | (simp; done) | (simp; omega))); repeat (first | exact Below.refl _ _ | refine Below.alloc ?_ (by first | (simp; done) | (simp; omega)) _ | refine Below.setCell ?_ (by first | (simp; done) | (simp; omega)) _ | refine Below.drew ?_)))

set_option maxHeartbeats 400000 in
theorem indexPoints_any (ps : List Q4) (b o cap : Nat) (w : World) (hl : ps.length ≤ 1000000) (hi : ∀ q, q ∈ ps → q.I64) (hB : b < w.heap.size) (hc : Sl4 w b o ps) :
    Calls Tryz.prog 110 #[.slice (some ⟨b, o, none⟩) ps.length cap, .func (.func 86) #[] #[]] w fun e w' => e = .returned (.int .i64 (firstI (fun q => !q.point) ps)) ∧ Below w.heap.size w w' := by
  have HC := Lib.hid hc
  have HI := Lib.hid hi
  clear hc hi
  go_enter Tryz.func110, Tryz.ntmps110
  go_wp2
  go_loopw [8] (fun v wr => ∃ k : Nat, k ≤ ps.length ∧ v = .int .i64 k ∧ Below w.heap.size w wr ∧ Hid (∀ i y, i < k → ps[i]? = some y → (!y.point) = false)) (fun v _ => ps.length - (intOf v).toNat)
  case atStart => exact ⟨0, Nat.zero_le _, rfl, Below.refl _ _, fun i y h => by omega⟩
  case round =>
    rename_i wr
    obtain ⟨k, hk, rfl, hw, HN⟩ := hrel
    by_cases hlt : k < ps.length
    · obtain ⟨q, hq⟩ : ∃ q, ps[k]? = some q := ⟨_, List.getElem?_eq_getElem hlt⟩
      obtain ⟨c0, c1, c2, c3⟩ := (HC.out k q hq).below hw hB
      obtain ⟨i0, i1, i2, i3⟩ := HI.out q (List.mem_of_getElem? hq)
      have HQ := Lib.hid hq
      clear hq
      cases hp : isPointB q.a q.b q.c q.d with
      | false =>
        have HP : Hid (q.point = false) := hp
        go_wp2_with (go_at_call 86; refine (notPoint_any _ _ _ _ _ i0 i1 i2 i3).mono ?_; rintro e w1 ⟨rfl, hb1⟩)
        go_ret
        refine ⟨ret_int ?_, hw.trans (hb1.mono hw.size)⟩
        rw [firstI_hit HQ.out (by rw [HP.out]; rfl) HN.out]
      | true =>
        have HP : Hid (q.point = true) := hp
        go_wp2_with (go_at_call 86; refine (notPoint_any _ _ _ _ _ i0 i1 i2 i3).mono ?_; rintro e w1 ⟨rfl, hb1⟩)
        go_roundw
        case rel =>
          refine ⟨k + 1, by omega, by go_num, hw.trans (hb1.mono hw.size), fun i y h1 h2 => ?_⟩
          rcases Nat.lt_succ_iff_lt_or_eq.1 h1 with h | h
          · exact HN.out i y h h2
          · subst h
            have e : q = y := Option.some.inj (HQ.out.symm.trans h2)
            rw [← e, HP.out]; rfl
        case measure => simp [intOf]; omega
    · have hkk : k = ps.length := by omega
      have HK := Lib.hid hkk
      clear hkk
      go_wp2
      go_ret
      refine ⟨ret_int ?_, hw⟩
      rw [firstI_miss (fun i y h1 h2 => HN.out i y (by rw [HK.out]; exact h1) h2)]


set_option maxHeartbeats 400000 in
theorem containsPlanes_any (ps : List Q4) (b o cap : Nat) (w : World) (hl : ps.length ≤ 1000000) (hi : ∀ q, q ∈ ps → q.I64) (hB : b < w.heap.size) (hc : Sl4 w b o ps) :
    Calls Tryz.prog 83 #[.slice (some ⟨b, o, none⟩) ps.length cap, .func (.func 84) #[] #[]] w fun e w' => e = .returned (.bool (ps.any fun q => !q.plane)) ∧ Below w.heap.size w w' := by
  have HC := Lib.hid hc
  have HI := Lib.hid hi
  clear hc hi
  go_enter Tryz.func83, Tryz.ntmps83
  go_wp2_with (go_at_call 109; refine (indexPlanes_any ps b o cap _ hl HI.out hB HC.out).mono ?_; rintro e w1 ⟨rfl, hb1⟩)
  go_ret
  refine ⟨ret_bool ?_, ?_⟩
  · exact firstI_all _ _
  · exact hb1

set_option maxHeartbeats 400000 in
theorem planes_any (ps : List Q4) (b o cap : Nat) (w : World) (hl : ps.length ≤ 1000000) (hi : ∀ q, q ∈ ps → q.I64) (hB : b < w.heap.size) (hc : Sl4 w b o ps) :
    Calls Tryz.prog 60 #[.slice (some ⟨b, o, none⟩) ps.length cap] w fun e w' => e = .returned (.bool (ps.all Q4.plane)) ∧ Below w.heap.size w w' := by
  have HC := Lib.hid hc
  have HI := Lib.hid hi
  clear hc hi
  go_enter Tryz.func60, Tryz.ntmps60
  go_wp2_with (go_at_call 83; refine (containsPlanes_any ps b o cap _ hl HI.out hB HC.out).mono ?_; rintro e w1 ⟨rfl, hb1⟩)
  go_ret
  refine ⟨ret_bool ?_, hb1⟩
  show (!(ps.any fun q => !q.plane)) = _
  rw [List.not_any_eq_all_not]
  simp

set_option maxHeartbeats 400000 in
theorem indexPlanes_nil (w : World) :
    Calls Tryz.prog 109 #[.slice none 0 0, .func (.func 84) #[] #[]] w fun e w' => e = .returned (.int .i64 (-1)) ∧ w = w' := by
  go_enter Tryz.func109, Tryz.ntmps109
  go_wp2
  refine wp_loop_rounds 1 ?_
  rw [rounds_succ]
  go_wp2
  go_ret
  exact ⟨rfl, rfl⟩

set_option maxHeartbeats 400000 in
theorem containsPlanes_nil (w : World) :
    Calls Tryz.prog 83 #[.slice none 0 0, .func (.func 84) #[] #[]] w fun e w' => e = .returned (.bool false) ∧ w = w' := by
  go_enter Tryz.func83, Tryz.ntmps83
  go_wp2_with (go_at_call 109; refine (indexPlanes_nil _).mono ?_; rintro e w1 ⟨rfl, rfl⟩)
  go_ret
  exact ⟨rfl, rfl⟩

set_option maxHeartbeats 400000 in
theorem planes_nil (w : World) :
    Calls Tryz.prog 60 #[.slice none 0 0] w fun e w' => e = .returned (.bool true) ∧ w = w' := by
  go_enter Tryz.func60, Tryz.ntmps60
  go_wp2_with (go_at_call 83; refine (containsPlanes_nil _).mono ?_; rintro e w1 ⟨rfl, rfl⟩)
  go_ret
  exact ⟨rfl, rfl⟩


set_option maxHeartbeats 400000 in
theorem containsPoints_any (ps : List Q4) (b o cap : Nat) (w : World) (hl : ps.length ≤ 1000000) (hi : ∀ q, q ∈ ps → q.I64) (hB : b < w.heap.size) (hc : Sl4 w b o ps) :
    Calls Tryz.prog 85 #[.slice (some ⟨b, o, none⟩) ps.length cap, .func (.func 86) #[] #[]] w fun e w' => e = .returned (.bool (ps.any fun q => !q.point)) ∧ Below w.heap.size w w' := by
  have HC := Lib.hid hc
  have HI := Lib.hid hi
  clear hc hi
  go_enter Tryz.func85, Tryz.ntmps85
  go_wp2_with (go_at_call 110; refine (indexPoints_any ps b o cap _ hl HI.out hB HC.out).mono ?_; rintro e w1 ⟨rfl, hb1⟩)
  go_ret
  refine ⟨ret_bool ?_, ?_⟩
  · exact firstI_all _ _
  · exact hb1

set_option maxHeartbeats 400000 in
theorem points_any (ps : List Q4) (b o cap : Nat) (w : World) (hl : ps.length ≤ 1000000) (hi : ∀ q, q ∈ ps → q.I64) (hB : b < w.heap.size) (hc : Sl4 w b o ps) :
    Calls Tryz.prog 61 #[.slice (some ⟨b, o, none⟩) ps.length cap] w fun e w' => e = .returned (.bool (ps.all Q4.point)) ∧ Below w.heap.size w w' := by
  have HC := Lib.hid hc
  have HI := Lib.hid hi
  clear hc hi
  go_enter Tryz.func61, Tryz.ntmps61
  go_wp2_with (go_at_call 85; refine (containsPoints_any ps b o cap _ hl HI.out hB HC.out).mono ?_; rintro e w1 ⟨rfl, hb1⟩)
  go_ret
  refine ⟨ret_bool ?_, hb1⟩
  show (!(ps.any fun q => !q.point)) = _
  rw [List.not_any_eq_all_not]
  simp

set_option maxHeartbeats 400000 in
theorem indexPoints_nil (w : World) :
    Calls Tryz.prog 110 #[.slice none 0 0, .func (.func 86) #[] #[]] w fun e w' => e = .returned (.int .i64 (-1)) ∧ w = w' := by
  go_enter Tryz.func110, Tryz.ntmps110
  go_wp2
  refine wp_loop_rounds 1 ?_
  rw [rounds_succ]
  go_wp2
  go_ret
  exact ⟨rfl, rfl⟩

set_option maxHeartbeats 400000 in
theorem containsPoints_nil (w : World) :
    Calls Tryz.prog 85 #[.slice none 0 0, .func (.func 86) #[] #[]] w fun e w' => e = .returned (.bool false) ∧ w = w' := by
  go_enter Tryz.func85, Tryz.ntmps85
  go_wp2_with (go_at_call 110; refine (indexPoints_nil _).mono ?_; rintro e w1 ⟨rfl, rfl⟩)
  go_ret
  exact ⟨rfl, rfl⟩

set_option maxHeartbeats 400000 in
theorem points_nil (w : World) :
    Calls Tryz.prog 61 #[.slice none 0 0] w fun e w' => e = .returned (.bool true) ∧ w = w' := by
  go_enter Tryz.func61, Tryz.ntmps61
  go_wp2_with (go_at_call 85; refine (containsPoints_nil _).mono ?_; rintro e w1 ⟨rfl, rfl⟩)
  go_ret
  exact ⟨rfl, rfl⟩

end Go.Proofs.YtaoedfegakpjeabGreat
