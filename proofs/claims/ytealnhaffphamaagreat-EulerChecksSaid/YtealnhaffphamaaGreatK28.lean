/- Contracts of the functions that the statement reaches, and plain lemmas: part 28 of 29. -/
import Derived.Test.YtealnhaffphamaaGreatK10
import Derived.Test.YtealnhaffphamaaGreatK11
import Derived.Test.YtealnhaffphamaaGreatK20
import Derived.Test.YtealnhaffphamaaGreatK24
import Derived.Test.YtealnhaffphamaaGreatK25
import Derived.Test.YtealnhaffphamaaGreatK26
import Derived.Test.YtealnhaffphamaaGreatK27
set_option linter.unusedVariables false
set_option linter.unusedSimpArgs false

namespace Go.Proofs.YtealnhaffphamaaGreat
open Go.RowKit Go.Shelf Go.Proofs.YtealnhaffphamaaGreatW.PrintWords
open Classical

/-- What a law's walk keeps: old memory, boxes, the faces of a model. -/
structure CK (w : World) (bs : List (Nat × Obj)) (A : Option Addr) (gs : Fs) (W : World) : Prop where
  below : Below w.heap.size w W
  blk : ∀ p ∈ bs, Blk W p.1 p.2
  rf : RF W A gs
section
variable {w W W' : World} {bs : List (Nat × Obj)} {A : Option Addr} {gs : Fs}
theorem CK.call (h : CK w bs A gs W) (hb : Below W.heap.size W W') : CK w bs A gs W' := ⟨h.below.trans (hb.mono h.below.size), fun p hp => (h.blk p hp).below hb (h.blk p hp).lt, h.rf.below hb⟩
theorem CK.alloc (h : CK w bs A gs W) (o : Obj) : CK w bs A gs (W.alloc o) := h.call ((Below.refl _ _).alloc (Nat.le_refl _) _)
theorem CK.add (h : CK w bs A gs W) (o : Obj) : CK w ((W.heap.size, o) :: bs) A gs (W.alloc o) := ⟨(h.alloc o).below, fun p hp => by
  rcases List.mem_cons.1 hp with rfl | hp
  · exact blk_new W o
  · exact (h.alloc o).blk p hp, (h.alloc o).rf⟩
theorem CK.drew (h : CK w bs A gs W) : CK w bs A gs W.drew := h.call ((Below.refl _ _).drew)
theorem CK.b0 {b : Nat} {o : Obj} (h : CK w ((b, o) :: bs) A gs W) : Blk W b o := h.blk _ List.mem_cons_self
theorem CK.b1 {b : Nat} {o : Obj} {p : Nat × Obj} (h : CK w (p :: (b, o) :: bs) A gs W) : Blk W b o := h.blk (b, o) (List.mem_cons_of_mem _ List.mem_cons_self)
theorem CK.b2 {b : Nat} {o : Obj} {p q : Nat × Obj} (h : CK w (p :: q :: (b, o) :: bs) A gs W) : Blk W b o := h.blk (b, o) (List.mem_cons_of_mem _ (List.mem_cons_of_mem _ List.mem_cons_self))
end
theorem below_drew0 (W : World) : Below W.heap.size W W.drew := (Below.refl _ _).drew
theorem MW.setR {base : Nat} {v : Value} {fs : Fs} {k : Nat} {vf : Nat → Value} {vl : Nat → Nat → Value} {W : World} {A : Option Addr} {c : Nat} (h : MW base v fs k vf vl W) (hv : v = .slice A k c) (hk : k = fs.length) {O : Nat} {cs : Array Value} (hO : Blk W O (.cells cs 28)) (x y : Value) : RF ((W.setCell ⟨O, 0, none⟩ x).setCell ⟨O, 1, none⟩ y) A fs := by
  subst hk
  have hne : ¬ MB v fs fs.length vf vl O := by
    intro hb
    obtain ⟨cells, t, hc, ht⟩ := h.typed hb
    unfold Blk at hO
    rw [hO] at hc
    injection hc with hc
    injection hc with _ hc
    subst hc
    revert ht; decide
  have h1 := h.kept (grown_set W O 0 x) (fun r e q => by cases e; exact hne q)
  have h2 := h1.kept (grown_set (W.setCell ⟨O, 0, none⟩ x) O 1 y) (fun r e q => by cases e; exact hne q)
  obtain ⟨A', c', e1, _, e3⟩ := h2.reads
  rw [hv] at e1
  injection e1 with e1
  rw [e1]; exact e3
theorem cpA_cpA (fs : Fs) {a b c a' b' c' : Nat} (ha : a ≤ a') (hb : b ≤ b') (hc : c ≤ c') : cpA (cpA fs a b c) a' b' c' = cpA fs a b c := by
  unfold cpA
  rw [List.take_of_length_le (by simp; omega), List.map_map]
  refine List.map_congr_left (fun f _ => ?_)
  show List.map _ (List.take b' (List.map _ (List.take b f))) = _
  rw [List.take_of_length_le (by simp; omega), List.map_map]
  refine List.map_congr_left (fun l _ => ?_)
  show List.take c' (List.take c l) = _
  rw [List.take_of_length_le (by simp; omega)]
theorem cpA_fine (fs : Fs) (hI : ∀ f ∈ fs, ∀ l ∈ f, ∀ z ∈ l, I64 z) : Sm (cpA fs 8 4 12) ∧ NI (cpA fs 8 4 12) ∧ (plsA (cpA fs 8 4 12)).length ≤ 100000 := by
  have hmem : ∀ l ∈ (cpA fs 8 4 12).flatten, l.length ≤ 12 ∧ ∀ z ∈ l, I64 z := by
    intro l hl
    obtain ⟨f, hf, hl⟩ := List.mem_flatten.1 hl
    unfold cpA at hf
    obtain ⟨f0, hf0, rfl⟩ := List.mem_map.1 hf
    obtain ⟨l0, hl0, rfl⟩ := List.mem_map.1 hl
    refine ⟨by simp; omega, fun z hz => hI f0 (List.mem_of_mem_take hf0) l0 (List.mem_of_mem_take hl0) z (List.mem_of_mem_take hz)⟩
  have hsm := cpA_sm fs (a := 8) (b := 4) (c := 12) (by omega) (by omega) (by omega)
  have hget : ∀ f l i, I64 ((lpA (cpA fs 8 4 12) f l).getD i 0) := by
    intro f l i
    by_cases hi : i < (lpA (cpA fs 8 4 12) f l).length
    · have hx : (lpA (cpA fs 8 4 12) f l).getD i 0 ∈ lpA (cpA fs 8 4 12) f l := by
        rw [List.getD_eq_getElem?_getD, List.getElem?_eq_getElem hi]; exact List.getElem_mem hi
      by_cases hc : f < (cpA fs 8 4 12).length ∧ l < (fcA (cpA fs 8 4 12) f).length
      · exact (hmem _ (lpA_mem hc.1 hc.2)).2 _ hx
      · rw [lpA_none hc] at hi; simp at hi
    · rw [List.getD_eq_getElem?_getD, List.getElem?_eq_none (by omega)]
      exact ⟨by decide, by decide⟩
  refine ⟨hsm, fun x hx => ?_, ?_⟩
  · obtain ⟨f, l, i, _, _, _, rfl⟩ := mem_pls.1 hx
    exact ⟨hget _ _ _, hget _ _ _⟩
  · rw [pls_len]
    have h1 : ∀ (xs : List (List Int)), (∀ l ∈ xs, l.length ≤ 12) → xs.flatten.length ≤ 12 * xs.length := by
      intro xs
      induction xs with
      | nil => simp
      | cons x xs ih =>
        intro h
        have := ih (fun l hl => h l (List.mem_cons_of_mem _ hl))
        have := h x List.mem_cons_self
        rw [List.flatten_cons, List.length_append, List.length_cons]; omega
    have h2 : ∀ (xs : Fs), (∀ f ∈ xs, f.length ≤ 4) → xs.flatten.length ≤ 4 * xs.length := by
      intro xs
      induction xs with
      | nil => simp
      | cons x xs ih =>
        intro h
        have := ih (fun l hl => h l (List.mem_cons_of_mem _ hl))
        have := h x List.mem_cons_self
        rw [List.flatten_cons, List.length_append, List.length_cons]; omega
    have h3 := h1 _ (fun l hl => (hmem l hl).1)
    have h4 := h2 (cpA fs 8 4 12) (fun f hf => by
      unfold cpA at hf
      obtain ⟨f0, _, rfl⟩ := List.mem_map.1 hf
      simp; omega)
    have h5 := cpA_len fs 8 4 12
    omega
def S1c (w : World) (A : Option Addr) (c : Nat) (N : Int) (fs : Fs) (d : Nat) (W : World) (v : Value) : Prop := match d with | 37 => v = .pointer (some ⟨w.heap.size, 0, none⟩) | 38 => v = .int .i64 N | 39 => v = .pointer (some ⟨w.heap.size, 1, none⟩) | 40 => v = .slice A fs.length c | 41 => ∃ A' c' vf vl, v = .slice A' (cpA fs 8 4 12).length c' ∧ (cpA fs 8 4 12).length ≤ c' ∧ MW w.heap.size (.slice A' (cpA fs 8 4 12).length c') (cpA fs 8 4 12) (cpA fs 8 4 12).length vf vl W | 42 => ∃ A' c' vf vl, v = .agg #[.int .i64 N, .slice A' (cpA fs 8 4 12).length c'] ∧ (cpA fs 8 4 12).length ≤ c' ∧ MW w.heap.size (.slice A' (cpA fs 8 4 12).length c') (cpA fs 8 4 12) (cpA fs 8 4 12).length vf vl W | 5 => ∃ b, v = .pointer (some ⟨b, 0, none⟩) ∧ w.heap.size + 1 ≤ b ∧ ∃ z0 z1, Blk W b (.cells #[z0, z1] 28) | _ => True
theorem S1c.below {w : World} {A : Option Addr} {c : Nat} {N : Int} {fs : Fs} {W W1 : World} (hb : Below W.heap.size W W1) : ∀ d v, S1c w A c N fs d W v → S1c w A c N fs d W1 v := by
  intro d v h
  unfold S1c at h ⊢
  split at h
  all_goals first | exact h | (obtain ⟨A', c', vf, vl, h1, h2, h3⟩ := h; exact ⟨A', c', vf, vl, h1, h2, h3.belowW hb⟩) | (obtain ⟨b, h1, h2, z0, z1, h3⟩ := h; exact ⟨b, h1, h2, z0, z1, h3.below hb h3.lt⟩)
def S10c (W0 : World) (N : Int) (A6 : Option Addr) (gs : Fs) (c6 : Nat) (d : Nat) (W : World) (v : Value) : Prop := match d with | 59 => ∃ A1 c1, v = .agg #[.int .i64 1, .slice A1 1 c1] ∧ 1 ≤ c1 ∧ RF W A1 fM | 58 => v = .agg #[.int .i64 N, .slice A6 gs.length c6] | 60 => v = .tuple #[.bool false, .int .i64 140] | 57 => v = .tuple #[.bool false, .int .i64 140] | 61 => v = .bool false | 62 => v = .int .i64 140 | 10 => v = .bool false | 11 => v = .int .i64 140 | _ => True
theorem S10c.below {W0 : World} {N : Int} {A6 : Option Addr} {gs : Fs} {c6 : Nat} {W W1 : World} (hb : Below W.heap.size W W1) : ∀ d v, S10c W0 N A6 gs c6 d W v → S10c W0 N A6 gs c6 d W1 v := by
  intro d v h
  unfold S10c at h ⊢
  split at h
  all_goals first | exact h | (obtain ⟨A1, c1, h1, h2, h3⟩ := h; exact ⟨A1, c1, h1, h2, h3.below hb⟩) | (obtain ⟨b, h1, h2, h3⟩ := h; exact ⟨b, h1, h2, h3.below hb h3.lt⟩)
def S18c (W0 : World) (N : Int) (A6 : Option Addr) (gs : Fs) (c6 : Nat) (d : Nat) (W : World) (v : Value) : Prop := match d with | 110 => ∃ A1 c1, v = .agg #[.int .i64 1, .slice A1 1 c1] ∧ 1 ≤ c1 ∧ RF W A1 fM | 111 => v = .agg #[.int .i64 N, .slice A6 gs.length c6] | 112 => v = .tuple #[.agg #[.int .i64 0, .slice none 0 0], .int .i64 140] | 109 => v = .tuple #[.agg #[.int .i64 0, .slice none 0 0], .int .i64 140] | 113 => v = .agg #[.int .i64 0, .slice none 0 0] | 26 => ∃ b, v = .pointer (some ⟨b, 0, none⟩) ∧ W0.heap.size ≤ b ∧ Blk W b (.cells #[.int .i64 0, .slice none 0 0] 31) | _ => True
theorem S18c.below {W0 : World} {N : Int} {A6 : Option Addr} {gs : Fs} {c6 : Nat} {W W1 : World} (hb : Below W.heap.size W W1) : ∀ d v, S18c W0 N A6 gs c6 d W v → S18c W0 N A6 gs c6 d W1 v := by
  intro d v h
  unfold S18c at h ⊢
  split at h
  all_goals first | exact h | (obtain ⟨A1, c1, h1, h2, h3⟩ := h; exact ⟨A1, c1, h1, h2, h3.below hb⟩) | (obtain ⟨b, h1, h2, h3⟩ := h; exact ⟨b, h1, h2, h3.below hb h3.lt⟩)
def P18c (d : Nat) (v : Value) : Prop := match d with | 109 => v = .tuple #[.agg #[.int .i64 0, .slice none 0 0], .int .i64 140] | 114 => v = .int .i64 140 | 27 => v = .int .i64 140 | _ => True
def S19c (W0 : World) (N : Int) (A6 : Option Addr) (gs : Fs) (c6 : Nat) (d : Nat) (W : World) (v : Value) : Prop := match d with | 117 => ∃ A1 c1, v = .agg #[.int .i64 1, .slice A1 1 c1] ∧ 1 ≤ c1 ∧ RF W A1 fM | 116 => v = .agg #[.int .i64 N, .slice A6 gs.length c6] | 118 => v = .tuple #[.agg #[.int .i64 0, .slice none 0 0], .int .i64 140] | 115 => v = .tuple #[.agg #[.int .i64 0, .slice none 0 0], .int .i64 140] | 119 => v = .agg #[.int .i64 0, .slice none 0 0] | 28 => ∃ b, v = .pointer (some ⟨b, 0, none⟩) ∧ W0.heap.size ≤ b ∧ Blk W b (.cells #[.int .i64 0, .slice none 0 0] 31) | _ => True
theorem S19c.below {W0 : World} {N : Int} {A6 : Option Addr} {gs : Fs} {c6 : Nat} {W W1 : World} (hb : Below W.heap.size W W1) : ∀ d v, S19c W0 N A6 gs c6 d W v → S19c W0 N A6 gs c6 d W1 v := by
  intro d v h
  unfold S19c at h ⊢
  split at h
  all_goals first | exact h | (obtain ⟨A1, c1, h1, h2, h3⟩ := h; exact ⟨A1, c1, h1, h2, h3.below hb⟩) | (obtain ⟨b, h1, h2, h3⟩ := h; exact ⟨b, h1, h2, h3.below hb h3.lt⟩)
def P19c (d : Nat) (v : Value) : Prop := match d with | 115 => v = .tuple #[.agg #[.int .i64 0, .slice none 0 0], .int .i64 140] | 120 => v = .int .i64 140 | 29 => v = .int .i64 140 | _ => True
def S22c (W0 : World) (N : Int) (A6 : Option Addr) (gs : Fs) (c6 : Nat) (d : Nat) (W : World) (v : Value) : Prop := match d with | 132 => ∃ A1 c1, v = .agg #[.int .i64 1, .slice A1 1 c1] ∧ 1 ≤ c1 ∧ RF W A1 fM | 133 => v = .agg #[.int .i64 N, .slice A6 gs.length c6] | 134 => v = .tuple #[.bool false, .int .i64 140] | 131 => v = .tuple #[.bool false, .int .i64 140] | 135 => v = .bool false | 136 => v = .int .i64 140 | 34 => v = .bool false | 35 => v = .int .i64 140 | _ => True
theorem S22c.below {W0 : World} {N : Int} {A6 : Option Addr} {gs : Fs} {c6 : Nat} {W W1 : World} (hb : Below W.heap.size W W1) : ∀ d v, S22c W0 N A6 gs c6 d W v → S22c W0 N A6 gs c6 d W1 v := by
  intro d v h
  unfold S22c at h ⊢
  split at h
  all_goals first | exact h | (obtain ⟨A1, c1, h1, h2, h3⟩ := h; exact ⟨A1, c1, h1, h2, h3.below hb⟩) | (obtain ⟨b, h1, h2, h3⟩ := h; exact ⟨b, h1, h2, h3.below hb h3.lt⟩)
def CkPost (w : World) (e : Ending) (w' : World) : Prop := e = .returned (.bool true) ∧ Below w.heap.size w w'

set_option maxRecDepth 100000 in
set_option maxHeartbeats 8000000 in
theorem checks_any (N n : Int) (A : Option Addr) (c : Nat) (fs : Fs) (w : World) (hF : RF w A fs) (hc : fs.length ≤ c) (hI : ∀ f ∈ fs, ∀ l ∈ f, ∀ z ∈ l, I64 z) :
    Calls Tryz.prog 4 #[.agg #[.int .i64 N, .slice A fs.length c], .int .i64 n] w (CkPost w) := by
  obtain ⟨W1, hW1⟩ : ∃ W1, W1 = w.alloc (.cells #[.int .i64 N, .slice A fs.length c] 28) := ⟨_, rfl⟩
  have HOB : Hid (Obs [.cells #[.int .i64 N, .slice A fs.length c] 28] w W1) := by rw [hW1]; exact Obs.one w _
  have HF := Lib.hid hF
  have HC := Lib.hid hc
  obtain ⟨gs, hgs⟩ : ∃ gs, gs = (cpA fs 8 4 12) := ⟨_, rfl⟩
  have HGS := Lib.hid hgs
  have HFI : Hid (Sm gs ∧ NI gs ∧ (plsA gs).length ≤ 100000) := by rw [hgs]; exact cpA_fine fs hI
  have HCC : Hid (cpA gs 1000 1000 5000 = gs) := by show _ = _; rw [hgs]; exact cpA_cpA fs (by omega) (by omega) (by omega)
  clear hF hc hI hgs
  go_enter Tryz.func4, Tryz.ntmps4
  go_upto_region 1 with fail
  rw [← hW1]
  clear hW1
  refine wp_region_inv' (by kernel_rfl) (by kernel_rfl) (fun listed aa wy => ∃ t : Nat → Value, aa = { tmps := #[.agg #[.int .i64 N, .slice A fs.length c], .int .i64 n, .pointer (some ⟨w.heap.size, 0, none⟩), undef, .bool false, t 5, undef, undef, undef, undef, undef, undef, undef, undef, undef, undef, undef, undef, undef, undef, undef, undef, undef, undef, undef, undef, undef, undef, undef, undef, undef, undef, undef, undef, undef, undef, undef, t 37, t 38, t 39, t 40, t 41, t 42, undef, undef, undef, undef, undef, undef, undef, undef, undef, undef, undef, undef, undef, undef, undef, undef, undef, undef, undef, undef, undef, undef, undef, undef, undef, undef, undef, undef, undef, undef, undef, undef, undef, undef, undef, undef, undef, undef, undef, undef, undef, undef, undef, undef, undef, undef, undef, undef, undef, undef, undef, undef, undef, undef, undef, undef, undef, undef, undef, undef, undef, undef, undef, undef, undef, undef, undef, undef, undef, undef, undef, undef, undef, undef, undef, undef, undef, undef, undef, undef, undef, undef, undef, undef, undef, undef, undef, undef, undef, undef, undef, undef, undef, undef, undef, undef, undef, undef, undef, undef, undef, undef, undef, undef, undef, undef, undef, undef, undef, undef, undef, undef, undef, undef, undef, undef, undef, undef, undef, undef, undef, undef, undef, undef, undef, undef, undef, undef, undef, undef, undef, undef, undef, undef, undef, undef, undef, undef, undef, undef, undef, undef, undef, undef, undef, undef, undef, undef, undef, undef, undef, undef, undef, undef, undef, undef, undef, undef, undef, undef, undef, undef, undef, undef, undef, undef, undef, undef, undef, undef, undef, undef, undef, undef, undef, undef, undef, undef, undef], defers := [] } ∧ IRE (fun wz => Obs [.cells #[.int .i64 N, .slice A fs.length c] 28] w wz) 7 (fun t wz => ∃ b A' c', t 5 = .pointer (some ⟨b, 0, none⟩) ∧ (cpA fs 8 4 12).length ≤ c' ∧ Blk wz b (.cells #[.int .i64 N, .slice A' (cpA fs 8 4 12).length c'] 28) ∧ RF wz A' (cpA fs 8 4 12) ∧ Below w.heap.size w wz) (fun _ => True) (S1c w A c N fs) [(0, 37), (1, 38), (2, 39), (3, 40), (4, 41), (5, 42), (6, 5)] listed t wy) ⟨(fun d => match d with | 5 => undef | 37 => undef | 38 => undef | 39 => undef | 40 => undef | 41 => undef | 42 => undef | _ => undef), rfl, IRE.start _ trivial (HOB.out.grown (grown_drew _)) _⟩ ?_ ?_
  rotate_left
  · rintro listed hCl ix hix aa wy ⟨t, rfl, hR⟩ hr
    match ix, hix, hr with
    | 0, _, hr =>
      as_aux_lemma =>
      refine wpOp_step rfl (fun K' hK => ?_)
      go_simp
      exact hK _ _ ⟨upd t 37 (.pointer (some ⟨w.heap.size, 0, none⟩)), rfl, hR.yields hCl hr (by decide) (by kernel_rfl) hR.fin (fun h => h) (fun _ _ h => h) (by rfl) rfl⟩
    | 1, _, hr =>
      as_aux_lemma =>
      refine wpOp_step rfl (fun K' hK => ?_)
      have e1 : t 37 = .pointer (some ⟨w.heap.size, 0, none⟩) := hR.val hCl hr (by kernel_rfl) (0, 37) (by simp) (dep_of hr 0 (by kernel_rfl))
      have f0 : wy.cell? ⟨w.heap.size, 0, none⟩ = some (.int .i64 N) := ((hR.bef hCl hr (by kernel_rfl))).cell 0 0 rfl rfl
      go_simp
      exact hK _ _ ⟨upd t 38 (.int .i64 N), by first | (simp [upd, e1]; done) | (simp [upd, e1]; rfl), hR.yields hCl hr (by decide) (by kernel_rfl) hR.fin (fun h => h) (fun _ _ h => h) (by rfl) rfl⟩
    | 2, _, hr =>
      as_aux_lemma =>
      refine wpOp_step rfl (fun K' hK => ?_)
      go_simp
      exact hK _ _ ⟨upd t 39 (.pointer (some ⟨w.heap.size, 1, none⟩)), rfl, hR.yields hCl hr (by decide) (by kernel_rfl) hR.fin (fun h => h) (fun _ _ h => h) (by rfl) rfl⟩
    | 3, _, hr =>
      as_aux_lemma =>
      refine wpOp_step rfl (fun K' hK => ?_)
      have e1 : t 39 = .pointer (some ⟨w.heap.size, 1, none⟩) := hR.val hCl hr (by kernel_rfl) (2, 39) (by simp) (dep_of hr 2 (by kernel_rfl))
      have f0 : wy.cell? ⟨w.heap.size, 1, none⟩ = some (.slice A fs.length c) := ((hR.bef hCl hr (by kernel_rfl))).cell 0 1 rfl rfl
      go_simp
      exact hK _ _ ⟨upd t 40 (.slice A fs.length c), by first | (simp [upd, e1]; done) | (simp [upd, e1]; rfl), hR.yields hCl hr (by decide) (by kernel_rfl) hR.fin (fun h => h) (fun _ _ h => h) (by rfl) rfl⟩
    | 4, _, hr =>
      as_aux_lemma =>
      refine wpOp_step rfl (fun K' hK => ?_)
      have e1 : t 40 = .slice A fs.length c := hR.val hCl hr (by kernel_rfl) (3, 40) (by simp) (dep_of hr 3 (by kernel_rfl))
      have hI2 := (hR.bef hCl hr (by kernel_rfl))
      go_simp
      refine (copy_any A c fs 8 4 12 wy (HF.out.below hI2.below) HC.out (by omega) (by omega) (by omega)).mono ?_
      rintro e W' ⟨⟨v, vf, vl, rfl, hM⟩, hbl⟩
      obtain ⟨A', c', rfl, h1, vf, vl, h2⟩ := copy_got ⟨vf, vl, hM⟩
      exact hK _ _ ⟨upd t 41 (.slice A' (cpA fs 8 4 12).length c'), by first | (simp [upd, e1]; done) | (simp [upd, e1]; rfl), hR.yields hCl hr (by decide) (by kernel_rfl) trivial (fun h => h.call hbl) (S1c.below hbl) ⟨A', c', vf, vl, rfl, h1, h2.lower hI2.below.size⟩ rfl⟩
    | 5, _, hr =>
      as_aux_lemma =>
      refine wpOp_step rfl (fun K' hK => ?_)
      have e1 : t 38 = .int .i64 N := hR.val hCl hr (by kernel_rfl) (1, 38) (by simp) (dep_of hr 1 (by kernel_rfl))
      obtain ⟨A', c', vf, vl, e9, h1, h2⟩ : ∃ A' c' vf vl, t 41 = .slice A' (cpA fs 8 4 12).length c' ∧ (cpA fs 8 4 12).length ≤ c' ∧ MW w.heap.size (.slice A' (cpA fs 8 4 12).length c') (cpA fs 8 4 12) (cpA fs 8 4 12).length vf vl wy := hR.val hCl hr (by kernel_rfl) (4, 41) (by simp) (dep_of hr 4 (by kernel_rfl))
      go_simp
      exact hK _ _ ⟨upd t 42 (.agg #[.int .i64 N, .slice A' (cpA fs 8 4 12).length c']), by simp [upd, e1, e9], hR.yields hCl hr (by decide) (by kernel_rfl) trivial (fun h => h) (fun _ _ h => h) ⟨A', c', vf, vl, rfl, h1, h2⟩ rfl⟩
    | 6, _, hr =>
      as_aux_lemma =>
      refine wpOp_step rfl (fun K' hK => ?_)
      have hI2 := (hR.bef hCl hr (by kernel_rfl))
      have hs := hI2.size
      go_simp
      have hb := (Below.refl wy.heap.size wy).alloc (Nat.le_refl _) (.cells #[.int .i64 0, .slice none 0 0] 28)
      exact hK _ _ ⟨upd t 5 (.pointer (some ⟨wy.heap.size, 0, none⟩)), rfl, hR.yields hCl hr (by decide) (by kernel_rfl) trivial (fun h => h.call hb) (S1c.below hb) ⟨wy.heap.size, rfl, by simpa using hs, _, _, blk_new wy _⟩ rfl⟩
    | 7, _, hr =>
      as_aux_lemma =>
      refine wpOp_step rfl (fun K' hK => ?_)
      obtain ⟨A', c', vf, vl, e9, h1, h2⟩ : ∃ A' c' vf vl, t 42 = .agg #[.int .i64 N, .slice A' (cpA fs 8 4 12).length c'] ∧ (cpA fs 8 4 12).length ≤ c' ∧ MW w.heap.size (.slice A' (cpA fs 8 4 12).length c') (cpA fs 8 4 12) (cpA fs 8 4 12).length vf vl wy := (hR.atEnd hr).2 (5, 42) (by simp) (dep_of hr 5 (by kernel_rfl))
      obtain ⟨b5, e8, hb5, z0, z1, hB5⟩ : ∃ b, t 5 = .pointer (some ⟨b, 0, none⟩) ∧ w.heap.size + 1 ≤ b ∧ ∃ z0 z1, Blk wy b (.cells #[z0, z1] 28) := (hR.atEnd hr).2 (6, 5) (by simp) (dep_of hr 6 (by kernel_rfl))
      have hI2 := (hR.atEnd hr).1
      have m0 := (blk_cells hB5).1 0 _ rfl
      have m1 := (blk_cells hB5).1 1 _ rfl
      have n0 := (blk_cells hB5).2 0
      have n1 := (blk_cells hB5).2 1
      have hg1 := grown_set wy b5 0 (.int .i64 N)
      have hg2 := grown_set (wy.setCell ⟨b5, 0, none⟩ (.int .i64 N)) b5 1 (.slice A' (cpA fs 8 4 12).length c')
      have hE := hR.ends hr (W1 := (wy.setCell ⟨b5, 0, none⟩ (.int .i64 N)).setCell ⟨b5, 1, none⟩ (.slice A' (cpA fs 8 4 12).length c')) trivial ⟨b5, A', c', e8, h1, blk_set2 hB5, h2.setR rfl rfl hB5 _ _, (hI2.below.setCell (p := ⟨b5, 0, none⟩) (by show w.heap.size ≤ b5; omega) _).setCell (p := ⟨b5, 1, none⟩) (by show w.heap.size ≤ b5; omega) _⟩
      clear h1 h2 hg1 hg2
      go_simp
      exact hK _ _ ⟨t, by simp [e9, e8], hE⟩
    | nx + 8, hix, _ => exact absurd (show nx + 8 < 8 from hix) (by omega)
  rintro listed a2 W2 ⟨t, rfl, hR⟩ hl
  obtain ⟨b5, A5, c5, e5, hc5, hB5, hR5, hBW⟩ := hR.new (hl 7 (by decide))
  clear hR hl
  rw [e5]
  clear e5
  generalize t 37 = u37
  generalize t 38 = u38
  generalize t 39 = u39
  generalize t 40 = u40
  generalize t 41 = u41
  generalize t 42 = u42
  rw [← HGS.out] at hc5 hB5 hR5
  have HK5 : Hid (CK w [(b5, .cells #[.int .i64 N, .slice A5 gs.length c5] 28)] A5 gs W2) := ⟨hBW, fun p hp => by rw [List.mem_singleton.1 hp]; exact hB5, hR5⟩
  clear hB5 hR5 hBW HOB
  have q0 := (blk_cells HK5.out.b0).1 0 _ rfl
  have q1 := (blk_cells HK5.out.b0).1 1 _ rfl
  have HCN := Lib.hid (given_any N A5 c5 gs W2 HK5.out.rf hc5)
  go_wp2_with fail
  ((with_reducible refine (HCN.out).mono ?_); rintro e W3 ⟨⟨v, rfl, hG⟩, hb⟩)
  rw [HCC.out] at hG
  obtain ⟨A6, c6, rfl, hc6, hR6⟩ := hG.rf
  have HK5b := Lib.hid (HK5.out.call hb)
  have HK : Hid (CK w [] A6 gs W3) := ⟨HK5b.out.below, fun p hp => by simp at hp, hR6⟩
  clear HCN q0 q1 hG hb HK5 hR6
  go_upto_region 3 with fail
  have HK6 := Lib.hid (HK.out.add (.cells #[.int .i64 N, .slice A6 gs.length c6] 31))
  have HK5 := Lib.hid (HK5b.out.alloc (.cells #[.int .i64 N, .slice A6 gs.length c6] 31))
  obtain ⟨b6, hb6⟩ : ∃ b, W3.heap.size = b := ⟨_, rfl⟩
  rw [hb6] at HK6 ⊢
  clear hb6 HK HK5b
  generalize W3.alloc (.cells #[.int .i64 N, .slice A6 gs.length c6] 31) = W4 at HK6 HK5 ⊢
  have q0 := (blk_cells HK5.out.b0).1 0 _ rfl
  have q1 := (blk_cells HK5.out.b0).1 1 _ rfl
  have HCN := Lib.hid (rright_any N A5 c5 gs W4 HK5.out.rf hc5 HFI.out.1 HFI.out.2.2)
  go_wp2_with fail
  ((with_reducible refine (HCN.out).mono ?_); rintro e W5 ⟨⟨b, rfl, hbb⟩, hb⟩)
  rw [right_iff] at hbb
  have HK := Lib.hid (HK6.out.call hb)
  have HBB := Lib.hid hbb
  clear HCN q0 q1 hbb hb HK5 HK6 hc5
  have q0 := (blk_cells HK.out.b0).1 0 _ rfl
  have q1 := (blk_cells HK.out.b0).1 1 _ rfl
  have HCN := Lib.hid (check_any N A6 c6 gs W5 HK.out.rf HFI.out.1 HFI.out.2.1 HFI.out.2.2)
  go_wp2_with fail
  ((with_reducible refine (HCN.out).mono ?_); rintro e W6 ⟨⟨b2, rfl, hbb⟩, hb⟩)
  have HK2 := Lib.hid (HK.out.call hb)
  have hE : b2 = b := Bool.eq_iff_iff.2 (hbb.trans HBB.out.symm)
  subst hE
  clear HCN q0 q1 hbb hb HK
  have HK := HK2
  clear HK2
  cases b2
  · have HNO : Hid (¬ RightP N gs) := fun h => by have := HBB.out.2 h; cases this
    clear HBB
    go_upto_region 9 with fail
    have HK8 := Lib.hid (HK.out.add (.cells #[.int .i64 0, .int .i64 0, .int .i64 0] 36))
    obtain ⟨b8, hb8⟩ : ∃ b, W6.heap.size = b := ⟨_, rfl⟩
    rw [hb8] at HK8 ⊢
    clear hb8 HK
    generalize W6.alloc (.cells #[.int .i64 0, .int .i64 0, .int .i64 0] 36) = W7 at HK8 ⊢
    have HK := HK8
    clear HK8
    go_upto_region 9 with fail
    have HCN := Lib.hid (check_any N A6 c6 gs W7 HK.out.rf HFI.out.1 HFI.out.2.1 HFI.out.2.2)
    have q0 := (blk_cells HK.out.b1).1 0 _ rfl
    have q1 := (blk_cells HK.out.b1).1 1 _ rfl
    go_cut [9] from 37 to 221 (fun s9 W9 => s9 = .int .i64 140 ∧ Hid (CK w [(b8, .cells #[.int .i64 0, .int .i64 0, .int .i64 0] 36), (b6, .cells #[.int .i64 N, .slice A6 gs.length c6] 31)] A6 gs W9))
    case first =>
      go_wp2_with ((with_reducible refine (HCN.out).mono ?_); rintro e Wc ⟨⟨b2, rfl, hbb⟩, hb⟩; obtain rfl : b2 = false := (by cases b2 with | false => rfl | true => exact absurd (hbb.1 rfl) HNO.out); clear hbb)
      go_meet
      case rel => exact ⟨rfl, HK.out.call hb⟩
    case rest =>
    clear HCN HK q0 q1
    obtain ⟨rfl, HK⟩ := hcut
    rename World => W9
    go_upto_region 10 with fail
    obtain ⟨W0, hW0⟩ : ∃ W0, W0 = W9 := ⟨_, rfl⟩
    rw [← hW0] at HK ⊢
    clear hW0
    refine wp_region_inv' (by kernel_rfl) (by kernel_rfl) (fun listed aa wy => ∃ t : Nat → Value, aa = { tmps := #[.agg #[.int .i64 N, .slice A fs.length c], .int .i64 n, .pointer (some ⟨w.heap.size, 0, none⟩), undef, .bool false, .pointer (some ⟨b5, 0, none⟩), .pointer (some ⟨b6, 0, none⟩), .bool false, .pointer (some ⟨b8, 0, none⟩), .int .i64 140, t 10, t 11, undef, undef, undef, undef, undef, undef, undef, undef, undef, undef, undef, undef, undef, undef, undef, undef, undef, undef, undef, undef, undef, undef, undef, undef, undef, u37, u38, u39, u40, u41, u42, u43, u44, u45, u46, u47, u48, u49, u50, u51, u52, u53, u54, u55, u56, t 57, t 58, t 59, t 60, t 61, t 62, u63, u64, u65, u66, u67, u68, u69, u70, u71, u72, u73, u74, u75, u76, u77, u78, u79, u80, u81, u82, u83, u84, u85, u86, u87, u88, u89, u90, u91, u92, u93, u94, u95, u96, u97, u98, u99, u100, u101, u102, u103, u104, u105, u106, u107, u108, u109, u110, u111, u112, u113, u114, u115, u116, u117, u118, u119, u120, u121, u122, u123, u124, u125, u126, u127, u128, u129, u130, u131, u132, u133, u134, u135, u136, u137, u138, u139, u140, u141, u142, u143, u144, u145, u146, u147, u148, u149, u150, u151, u152, u153, u154, u155, u156, u157, u158, u159, u160, u161, u162, u163, u164, u165, u166, u167, u168, u169, u170, u171, u172, u173, u174, u175, u176, u177, u178, u179, u180, u181, u182, u183, u184, u185, u186, u187, u188, u189, u190, u191, u192, u193, u194, u195, u196, u197, u198, u199, u200, u201, u202, u203, u204, u205, u206, u207, u208, u209, u210, u211, u212, u213, u214, u215, u216, u217, u218, u219, u220, u221], defers := [] } ∧ IR (fun wz => Below W0.heap.size W0 wz) (S10c W0 N A6 gs c6) [(0, 58), (1, 59), (2, 60), (3, 57), (4, 61), (5, 62), (6, 10), (7, 11)] listed t wy) ⟨(fun d => match d with | 10 => undef | 11 => undef | 57 => u57 | 58 => u58 | 59 => u59 | 60 => u60 | 61 => u61 | 62 => u62 | _ => undef), rfl, IR.start _ (below_drew0 W0) _⟩ ?_ ?_
    rotate_left
    · rintro listed hCl ix hix aa wy ⟨t, rfl, hR⟩ hr
      match ix, hix, hr with
      | 0, _, hr =>
        as_aux_lemma =>
        refine wpOp_step rfl (fun K' hK => ?_)
        have hI2 : Below W0.heap.size W0 wy := hR.fin
        have HKy := Lib.hid (HK.out.call hI2)
        have q0 := (blk_cells HKy.out.b1).1 0 _ rfl
        have q1 := (blk_cells HKy.out.b1).1 1 _ rfl
        go_simp
        exact hK _ _ ⟨upd t 58 (.agg #[.int .i64 N, .slice A6 gs.length c6]), rfl, hR.yields hI2 (fun _ _ h => h) (by exact rfl) rfl⟩
      | 1, _, hr =>
        as_aux_lemma =>
        refine wpOp_step rfl (fun K' hK => ?_)
        have hI2 : Below W0.heap.size W0 wy := hR.fin
        go_simp
        refine (new_any wy).mono ?_
        rintro e W' ⟨⟨A1, c1, rfl, h1, h2⟩, hb⟩
        exact hK _ _ ⟨upd t 59 (.agg #[.int .i64 1, .slice A1 1 c1]), rfl, hR.yields (hI2.trans (hb.mono hI2.size)) (S10c.below hb) ⟨A1, c1, rfl, h1, h2⟩ rfl⟩
      | 2, _, hr =>
        as_aux_lemma =>
        refine wpOp_step rfl (fun K' hK => ?_)
        have hI2 : Below W0.heap.size W0 wy := hR.fin
        have hS59 : ∃ A1 c1, t 59 = .agg #[.int .i64 1, .slice A1 1 c1] ∧ 1 ≤ c1 ∧ RF wy A1 fM := hR.val (1, 59) (by simp) (dep_of hr 1 (by kernel_rfl))
        have hS58 : t 58 = .agg #[.int .i64 N, .slice A6 gs.length c6] := hR.val (0, 58) (by simp) (dep_of hr 0 (by kernel_rfl))
        obtain ⟨A1, c1, e9, h1, h2⟩ := hS59
        have HKy := HK.out.call hI2
        go_simp
        refine (same_bad N 1 A6 A1 c6 c1 gs fM wy HKy.rf HFI.out.1 HFI.out.2.1 HFI.out.2.2 h2 (fine_of rM).1 (fine_of rM).2.1 (fine_of rM).2.2 (fun h => HNO.out h.1)).mono ?_
        rintro e W' ⟨rfl, hb⟩
        exact hK _ _ ⟨upd t 60 (.tuple #[.bool false, .int .i64 140]), by simp [upd, e9, hS58], hR.yields (hI2.trans (hb.mono hI2.size)) (S10c.below hb) (by exact rfl) rfl⟩
      | 3, _, hr =>
        as_aux_lemma =>
        refine wpOp_step rfl (fun K' hK => ?_)
        have hI2 : Below W0.heap.size W0 wy := hR.fin
        have hS60 : t 60 = .tuple #[.bool false, .int .i64 140] := hR.val (2, 60) (by simp) (dep_of hr 2 (by kernel_rfl))
        go_simp
        exact hK _ _ ⟨upd t 57 (.tuple #[.bool false, .int .i64 140]), by simp [upd, hS60], hR.yields hI2 (fun _ _ h => h) (by exact rfl) rfl⟩
      | 4, _, hr =>
        as_aux_lemma =>
        refine wpOp_step rfl (fun K' hK => ?_)
        have hI2 : Below W0.heap.size W0 wy := hR.fin
        have hS57 : t 57 = .tuple #[.bool false, .int .i64 140] := hR.val (3, 57) (by simp) (dep_of hr 3 (by kernel_rfl))
        go_simp
        exact hK _ _ ⟨upd t 61 (.bool false), by simp [upd, hS57], hR.yields hI2 (fun _ _ h => h) (by exact rfl) rfl⟩
      | 5, _, hr =>
        as_aux_lemma =>
        refine wpOp_step rfl (fun K' hK => ?_)
        have hI2 : Below W0.heap.size W0 wy := hR.fin
        have hS57 : t 57 = .tuple #[.bool false, .int .i64 140] := hR.val (3, 57) (by simp) (dep_of hr 3 (by kernel_rfl))
        go_simp
        exact hK _ _ ⟨upd t 62 (.int .i64 140), by simp [upd, hS57], hR.yields hI2 (fun _ _ h => h) (by exact rfl) rfl⟩
      | 6, _, hr =>
        as_aux_lemma =>
        refine wpOp_step rfl (fun K' hK => ?_)
        have hI2 : Below W0.heap.size W0 wy := hR.fin
        have hS61 : t 61 = .bool false := hR.val (4, 61) (by simp) (dep_of hr 4 (by kernel_rfl))
        go_simp
        exact hK _ _ ⟨upd t 10 (.bool false), by simp [upd, hS61], hR.yields hI2 (fun _ _ h => h) (by exact rfl) rfl⟩
      | 7, _, hr =>
        as_aux_lemma =>
        refine wpOp_step rfl (fun K' hK => ?_)
        have hI2 : Below W0.heap.size W0 wy := hR.fin
        have hS62 : t 62 = .int .i64 140 := hR.val (5, 62) (by simp) (dep_of hr 5 (by kernel_rfl))
        go_simp
        exact hK _ _ ⟨upd t 11 (.int .i64 140), by simp [upd, hS62], hR.yields hI2 (fun _ _ h => h) (by exact rfl) rfl⟩
      | nx + 8, hix, _ => exact absurd (show nx + 8 < 8 from hix) (by omega)
    rintro listed a2 W10 ⟨t, rfl, hR⟩ hl
    have e11 : t 11 = .int .i64 140 := hR.val (7, 11) (by simp) (hl 7 (by decide))
    have e10 : t 10 = .bool false := hR.val (6, 10) (by simp) (hl 6 (by decide))
    have HK2 := Lib.hid (HK.out.call hR.fin)
    clear hR hl HK
    rw [e11, e10]
    clear e11 e10
    generalize t 57 = u57
    generalize t 58 = u58
    generalize t 59 = u59
    generalize t 60 = u60
    generalize t 61 = u61
    generalize t 62 = u62
    have HK := HK2
    clear HK2
    go_upto_region 11 with fail
    have HCN := Lib.hid (counts_any N A6 c6 gs W10 HK.out.rf HFI.out.1 HFI.out.2.1 HFI.out.2.2)
    have q0 := (blk_cells HK.out.b1).1 0 _ rfl
    have q1 := (blk_cells HK.out.b1).1 1 _ rfl
    go_upto_region 12 with ((with_reducible refine (HCN.out).mono ?_); rintro e Wc ⟨⟨-, h⟩, hb⟩; obtain rfl := h HNO.out)
    have HK2 := Lib.hid ((HK.out.call hb).alloc (.cells #[.int .i64 0, .int .i64 0, .int .i64 0, .int .i64 0, .int .i64 0, .int .i64 0] 47))
    obtain ⟨b11, hbk⟩ : ∃ b, Wc.heap.size = b := ⟨_, rfl⟩
    rw [hbk]
    clear hbk
    clear HCN HK hb q0 q1
    generalize Wc.alloc (.cells #[.int .i64 0, .int .i64 0, .int .i64 0, .int .i64 0, .int .i64 0, .int .i64 0] 47) = W11 at HK2 ⊢
    have HK := HK2
    clear HK2
    skip -- W11
    have HCN := Lib.hid (addNode_any N A6 c6 gs n 0 0 W11 HK.out.rf hc6 HFI.out.1 HFI.out.2.1 HFI.out.2.2)
    have q0 := (blk_cells HK.out.b1).1 0 _ rfl
    have q1 := (blk_cells HK.out.b1).1 1 _ rfl
    go_upto_region 13 with ((with_reducible refine (HCN.out).mono ?_); rintro e Wc ⟨h, hb⟩; have hE : anE N gs n 0 0 = .error 140 := (by unfold anE; rw [if_pos HNO.out]); rw [hE] at h; obtain rfl := h)
    have HK2 := Lib.hid ((HK.out.call hb).add (.cells #[.int .i64 0, .slice none 0 0] 31))
    obtain ⟨b14, hb14⟩ : ∃ b, Wc.heap.size = b := ⟨_, rfl⟩
    rw [hb14] at HK2 ⊢
    clear hb14
    clear HCN HK hb q0 q1
    generalize Wc.alloc (.cells #[.int .i64 0, .slice none 0 0] 31) = W12 at HK2 ⊢
    have HK := HK2
    clear HK2
    skip -- W12
    have HCN := Lib.hid (dropNode_bad N A6 c6 gs n W12 HK.out.rf hc6 HFI.out.1 HFI.out.2.1 HFI.out.2.2 HNO.out)
    have q0 := (blk_cells HK.out.b2).1 0 _ rfl
    have q1 := (blk_cells HK.out.b2).1 1 _ rfl
    go_upto_region 14 with ((with_reducible refine (HCN.out).mono ?_); rintro e Wc ⟨rfl, hb⟩)
    have HK2 := Lib.hid ((HK.out.call hb).alloc (.cells #[.int .i64 0, .slice none 0 0] 31))
    obtain ⟨b13, hbk⟩ : ∃ b, Wc.heap.size = b := ⟨_, rfl⟩
    rw [hbk]
    clear hbk
    clear HCN HK hb q0 q1
    generalize Wc.alloc (.cells #[.int .i64 0, .slice none 0 0] 31) = W13 at HK2 ⊢
    have HK := HK2
    clear HK2
    skip -- W13
    have HCN := Lib.hid (addEdge_bad N A6 c6 gs 0 0 0 0 0 0 W13 HK.out.rf hc6 HFI.out.1 HFI.out.2.1 HFI.out.2.2 HNO.out)
    have q0 := (blk_cells HK.out.b2).1 0 _ rfl
    have q1 := (blk_cells HK.out.b2).1 1 _ rfl
    have p0 := (blk_cells HK.out.b1).1 0 _ rfl
    have p1 := (blk_cells HK.out.b1).1 1 _ rfl
    have p2 := (blk_cells HK.out.b1).1 2 _ rfl
    go_upto_region 15 with ((with_reducible refine (HCN.out).mono ?_); rintro e Wc ⟨rfl, hb⟩)
    have HK2 := Lib.hid ((HK.out.call hb).alloc (.cells #[.int .i64 0, .slice none 0 0] 31))
    obtain ⟨b140, hbk⟩ : ∃ b, Wc.heap.size = b := ⟨_, rfl⟩
    rw [hbk]
    clear hbk
    clear HCN HK hb q0 q1 p0 p1 p2
    generalize Wc.alloc (.cells #[.int .i64 0, .slice none 0 0] 31) = W14 at HK2 ⊢
    have HK := HK2
    clear HK2
    skip -- W14
    have HCN := Lib.hid (dropEdge_bad N A6 c6 gs n n W14 HK.out.rf hc6 HFI.out.1 HFI.out.2.1 HFI.out.2.2 HNO.out)
    have q0 := (blk_cells HK.out.b2).1 0 _ rfl
    have q1 := (blk_cells HK.out.b2).1 1 _ rfl
    go_upto_region 16 with ((with_reducible refine (HCN.out).mono ?_); rintro e Wc ⟨rfl, hb⟩)
    have HK2 := Lib.hid ((HK.out.call hb).alloc (.cells #[.int .i64 0, .slice none 0 0] 31))
    obtain ⟨b15, hbk⟩ : ∃ b, Wc.heap.size = b := ⟨_, rfl⟩
    rw [hbk]
    clear hbk
    clear HCN HK hb q0 q1
    generalize Wc.alloc (.cells #[.int .i64 0, .slice none 0 0] 31) = W15 at HK2 ⊢
    have HK := HK2
    clear HK2
    skip -- W15
    have HCN := Lib.hid (dropFace_any N A6 c6 gs n n W15 HK.out.rf hc6 HFI.out.1 HFI.out.2.1 HFI.out.2.2)
    have q0 := (blk_cells HK.out.b2).1 0 _ rfl
    have q1 := (blk_cells HK.out.b2).1 1 _ rfl
    go_upto_region 17 with ((with_reducible refine (HCN.out).mono ?_); rintro e Wc ⟨h, hb⟩; have hE : dfE N gs n n = .error 140 := (by unfold dfE; rw [if_pos HNO.out]); rw [hE] at h; obtain rfl := h)
    have HK2 := Lib.hid ((HK.out.call hb).alloc (.cells #[.int .i64 0, .slice none 0 0] 31))
    obtain ⟨b16, hbk⟩ : ∃ b, Wc.heap.size = b := ⟨_, rfl⟩
    rw [hbk]
    clear hbk
    clear HCN HK hb q0 q1
    generalize Wc.alloc (.cells #[.int .i64 0, .slice none 0 0] 31) = W16 at HK2 ⊢
    have HK := HK2
    clear HK2
    skip -- W16
    go_upto_region 17 with fail
    have HCN := Lib.hid (addFace_bad N A6 c6 gs n n W16 HK.out.rf hc6 HFI.out.1 HFI.out.2.1 HFI.out.2.2 HNO.out)
    have q0 := (blk_cells HK.out.b2).1 0 _ rfl
    have q1 := (blk_cells HK.out.b2).1 1 _ rfl
    go_cut [24, 25] from 37 to 221 (fun _ s25 W17 => s25 = .int .i64 140 ∧ Hid (CK w [(b14, .cells #[.int .i64 0, .slice none 0 0] 31), (b8, .cells #[.int .i64 0, .int .i64 0, .int .i64 0] 36), (b6, .cells #[.int .i64 N, .slice A6 gs.length c6] 31)] A6 gs W17))
    case first =>
      go_wp2_with ((with_reducible refine (HCN.out).mono ?_); rintro e Wc ⟨rfl, hb⟩)
      go_meet
      case rel => exact ⟨rfl, (HK.out.call hb).alloc _⟩
    case rest =>
    clear HCN HK q0 q1
    obtain ⟨rfl, HK⟩ := hcut
    rename World => W17
    go_upto_region 18 with fail
    obtain ⟨W0, hW0⟩ : ∃ W0, W0 = W17 := ⟨_, rfl⟩
    rw [← hW0] at HK ⊢
    clear hW0
    refine wp_region_inv' (by kernel_rfl) (by kernel_rfl) (fun listed aa wy => ∃ t : Nat → Value, aa = { tmps := #[.agg #[.int .i64 N, .slice A fs.length c], .int .i64 n, .pointer (some ⟨w.heap.size, 0, none⟩), undef, .bool false, .pointer (some ⟨b5, 0, none⟩), .pointer (some ⟨b6, 0, none⟩), .bool false, .pointer (some ⟨b8, 0, none⟩), .int .i64 140, .bool false, .int .i64 140, .pointer (some ⟨b11, 0, none⟩), .int .i64 140, .pointer (some ⟨b14, 0, none⟩), .int .i64 140, .pointer (some ⟨b13, 0, none⟩), .int .i64 140, .pointer (some ⟨b140, 0, none⟩), .int .i64 140, .pointer (some ⟨b15, 0, none⟩), .int .i64 140, .pointer (some ⟨b16, 0, none⟩), .int .i64 140, u24, .int .i64 140, t 26, t 27, undef, undef, undef, undef, undef, undef, undef, undef, undef, u37, u38, u39, u40, u41, u42, u43, u44, u45, u46, u47, u48, u49, u50, u51, u52, u53, u54, u55, u56, u57, u58, u59, u60, u61, u62, u63, u64, u65, u66, u67, u68, u69, u70, u71, u72, u73, u74, u75, u76, u77, u78, u79, u80, u81, u82, u83, u84, u85, u86, u87, u88, u89, u90, u91, u92, u93, u94, u95, u96, u97, u98, u99, u100, u101, u102, u103, u104, u105, u106, u107, u108, t 109, t 110, t 111, t 112, t 113, t 114, u115, u116, u117, u118, u119, u120, u121, u122, u123, u124, u125, u126, u127, u128, u129, u130, u131, u132, u133, u134, u135, u136, u137, u138, u139, u140, u141, u142, u143, u144, u145, u146, u147, u148, u149, u150, u151, u152, u153, u154, u155, u156, u157, u158, u159, u160, u161, u162, u163, u164, u165, u166, u167, u168, u169, u170, u171, u172, u173, u174, u175, u176, u177, u178, u179, u180, u181, u182, u183, u184, u185, u186, u187, u188, u189, u190, u191, u192, u193, u194, u195, u196, u197, u198, u199, u200, u201, u202, u203, u204, u205, u206, u207, u208, u209, u210, u211, u212, u213, u214, u215, u216, u217, u218, u219, u220, u221], defers := [] } ∧ IRP (fun _ => True) 7 (fun t W => ∃ b, t 26 = .pointer (some ⟨b, 0, none⟩)) (fun wz => Below W0.heap.size W0 wz) (S18c W0 N A6 gs c6) [(0, 110), (1, 111), (2, 112), (3, 109), (4, 113), (6, 26)] P18c [(3, 109), (5, 114), (8, 27)] listed t wy) ⟨(fun d => match d with | 26 => undef | 27 => undef | 109 => u109 | 110 => u110 | 111 => u111 | 112 => u112 | 113 => u113 | 114 => u114 | _ => undef), rfl, IRP.start _ (below_drew0 W0) trivial _⟩ ?_ ?_
    rotate_left
    · rintro listed hCl ix hix aa wy ⟨t, rfl, hR⟩ hr
      match ix, hix, hr with
      | 0, _, hr =>
        as_aux_lemma =>
        refine wpOp_step rfl (fun K' hK => ?_)
        have hI2 : Below W0.heap.size W0 wy := hR.ire.fin
        go_simp
        refine (new_any wy).mono ?_
        rintro e W' ⟨⟨A1, c1, rfl, h1, h2⟩, hb⟩
        exact hK _ _ ⟨upd t 110 (.agg #[.int .i64 1, .slice A1 1 c1]), rfl, hR.yields hCl hr (by decide) (by kernel_rfl) (hI2.trans (hb.mono hI2.size)) (fun h => h) (S18c.below hb) ⟨A1, c1, rfl, h1, h2⟩ rfl rfl trivial⟩
      | 1, _, hr =>
        as_aux_lemma =>
        refine wpOp_step rfl (fun K' hK => ?_)
        have hI2 : Below W0.heap.size W0 wy := hR.ire.fin
        have HKy := Lib.hid (HK.out.call hI2)
        have q0 := (blk_cells HKy.out.b2).1 0 _ rfl
        have q1 := (blk_cells HKy.out.b2).1 1 _ rfl
        go_simp
        exact hK _ _ ⟨upd t 111 (.agg #[.int .i64 N, .slice A6 gs.length c6]), rfl, hR.yields hCl hr (by decide) (by kernel_rfl) hI2 (fun h => h) (fun _ _ h => h) (by exact rfl) rfl rfl trivial⟩
      | 2, _, hr =>
        as_aux_lemma =>
        refine wpOp_step rfl (fun K' hK => ?_)
        have hI2 : Below W0.heap.size W0 wy := hR.ire.fin
        have hS110 : ∃ A1 c1, t 110 = .agg #[.int .i64 1, .slice A1 1 c1] ∧ 1 ≤ c1 ∧ RF wy A1 fM := hR.val hCl hr (by kernel_rfl) (0, 110) (by simp) (dep_of hr 0 (by kernel_rfl))
        have hS111 : t 111 = .agg #[.int .i64 N, .slice A6 gs.length c6] := hR.val hCl hr (by kernel_rfl) (1, 111) (by simp) (dep_of hr 1 (by kernel_rfl))
        obtain ⟨A1, c1, e9, h1, h2⟩ := hS110
        have HKy := HK.out.call hI2
        go_simp
        refine (both_any 1 N A1 A6 c1 c6 fM gs wy h2 (fine_of rM).1 (fine_of rM).2.1 (fine_of rM).2.2 HKy.rf HFI.out.1 HFI.out.2.1 HFI.out.2.2).mono ?_
        rintro e W' ⟨h, hb⟩
        have hE : boE 1 fM N gs = .error 140 := by unfold boE; rw [if_pos (.inr HNO.out)]
        rw [hE] at h
        obtain rfl := h
        exact hK _ _ ⟨upd t 112 (.tuple #[.agg #[.int .i64 0, .slice none 0 0], .int .i64 140]), by simp [upd, e9, hS111], hR.yields hCl hr (by decide) (by kernel_rfl) (hI2.trans (hb.mono hI2.size)) (fun h => h) (S18c.below hb) (by exact rfl) rfl rfl trivial⟩
      | 3, _, hr =>
        as_aux_lemma =>
        refine wpOp_step rfl (fun K' hK => ?_)
        have hI2 : Below W0.heap.size W0 wy := hR.ire.fin
        have hS112 : t 112 = .tuple #[.agg #[.int .i64 0, .slice none 0 0], .int .i64 140] := hR.val hCl hr (by kernel_rfl) (2, 112) (by simp) (dep_of hr 2 (by kernel_rfl))
        go_simp
        exact hK _ _ ⟨upd t 109 (.tuple #[.agg #[.int .i64 0, .slice none 0 0], .int .i64 140]), by simp [upd, hS112], hR.yields hCl hr (by decide) (by kernel_rfl) hI2 (fun h => h) (fun _ _ h => h) (by exact rfl) rfl rfl (by exact rfl)⟩
      | 4, _, hr =>
        as_aux_lemma =>
        refine wpOp_step rfl (fun K' hK => ?_)
        have hI2 : Below W0.heap.size W0 wy := hR.ire.fin
        have hS109 : t 109 = .tuple #[.agg #[.int .i64 0, .slice none 0 0], .int .i64 140] := hR.val hCl hr (by kernel_rfl) (3, 109) (by simp) (dep_of hr 3 (by kernel_rfl))
        go_simp
        exact hK _ _ ⟨upd t 113 (.agg #[.int .i64 0, .slice none 0 0]), by simp [upd, hS109], hR.yields hCl hr (by decide) (by kernel_rfl) hI2 (fun h => h) (fun _ _ h => h) (by exact rfl) rfl rfl trivial⟩
      | 5, _, hr =>
        as_aux_lemma =>
        refine wpOp_step rfl (fun K' hK => ?_)
        have hI2 : Below W0.heap.size W0 wy := hR.ire.fin
        have e9 : t 109 = .tuple #[.agg #[.int .i64 0, .slice none 0 0], .int .i64 140] := hR.pur (3, 109) (by simp) (dep_of hr 3 (by kernel_rfl))
        go_simp
        exact hK _ _ ⟨upd t 114 (.int .i64 140), by simp [upd, e9], hR.beside (by decide) (by decide) (fun h => by obtain ⟨b, h1⟩ := h; exact ⟨b, (upd_other _ _ (by decide)).trans h1⟩) rfl (by exact rfl)⟩
      | 6, _, hr =>
        as_aux_lemma =>
        refine wpOp_step rfl (fun K' hK => ?_)
        have hI2 : Below W0.heap.size W0 wy := hR.ire.fin
        go_simp
        have hb := below_new wy (.cells #[.int .i64 0, .slice none 0 0] 31)
        exact hK _ _ ⟨upd t 26 (.pointer (some ⟨wy.heap.size, 0, none⟩)), rfl, hR.yields hCl hr (by decide) (by kernel_rfl) (hI2.trans (hb.mono hI2.size)) (fun h => h) (S18c.below hb) ⟨_, rfl, hI2.size, blk_new wy _⟩ rfl rfl trivial⟩
      | 7, _, hr =>
        as_aux_lemma =>
        refine wpOp_step rfl (fun K' hK => ?_)
        have hI2 : Below W0.heap.size W0 wy := hR.ire.fin
        have hA := hR.ire.atEnd hr
        obtain ⟨b, e8, hb1, hB⟩ : ∃ b, t 26 = .pointer (some ⟨b, 0, none⟩) ∧ W0.heap.size ≤ b ∧ Blk wy b (.cells #[.int .i64 0, .slice none 0 0] 31) := hA.2 (6, 26) (by simp) (dep_of hr 6 (by kernel_rfl))
        have e9 : t 113 = .agg #[.int .i64 0, .slice none 0 0] := hA.2 (4, 113) (by simp) (dep_of hr 4 (by kernel_rfl))
        have m0 := (blk_cells hB).1 0 _ rfl
        have m1 := (blk_cells hB).1 1 _ rfl
        have n0 := (blk_cells hB).2 0
        have n1 := (blk_cells hB).2 1
        have hE := hR.ends hr (W1 := (wy.setCell ⟨b, 0, none⟩ (.int .i64 0)).setCell ⟨b, 1, none⟩ (.slice none 0 0)) ((hI2.setCell (p := ⟨b, 0, none⟩) (by show W0.heap.size ≤ b; omega) _).setCell (p := ⟨b, 1, none⟩) (by show W0.heap.size ≤ b; omega) _) ⟨b, e8⟩ (by decide)
        go_simp
        exact hK _ _ ⟨t, by simp [e8, e9], hE⟩
      | 8, _, hr =>
        as_aux_lemma =>
        refine wpOp_step rfl (fun K' hK => ?_)
        have hI2 : Below W0.heap.size W0 wy := hR.ire.fin
        have e9 : t 114 = .int .i64 140 := hR.pur (5, 114) (by simp) (dep_of hr 5 (by kernel_rfl))
        go_simp
        exact hK _ _ ⟨upd t 27 (.int .i64 140), by simp [upd, e9], hR.beside (by decide) (by decide) (fun h => by obtain ⟨b, h1⟩ := h; exact ⟨b, (upd_other _ _ (by decide)).trans h1⟩) rfl (by exact rfl)⟩
      | nx + 9, hix, _ => exact absurd (show nx + 9 < 9 from hix) (by omega)
    rintro listed a2 W18 ⟨t, rfl, hR⟩ hl
    have e27 : t 27 = .int .i64 140 := hR.pur (8, 27) (by simp) (hl 8 (by decide))
    have HK2 := Lib.hid (HK.out.call hR.ire.fin)
    clear hR hl HK
    rw [e27]
    clear e27
    generalize t 26 = u26
    generalize t 109 = u109
    generalize t 110 = u110
    generalize t 111 = u111
    generalize t 112 = u112
    generalize t 113 = u113
    generalize t 114 = u114
    have HK := HK2
    clear HK2
    go_upto_region 19 with fail
    obtain ⟨W0, hW0⟩ : ∃ W0, W0 = W18 := ⟨_, rfl⟩
    rw [← hW0] at HK ⊢
    clear hW0
    refine wp_region_inv' (by kernel_rfl) (by kernel_rfl) (fun listed aa wy => ∃ t : Nat → Value, aa = { tmps := #[.agg #[.int .i64 N, .slice A fs.length c], .int .i64 n, .pointer (some ⟨w.heap.size, 0, none⟩), undef, .bool false, .pointer (some ⟨b5, 0, none⟩), .pointer (some ⟨b6, 0, none⟩), .bool false, .pointer (some ⟨b8, 0, none⟩), .int .i64 140, .bool false, .int .i64 140, .pointer (some ⟨b11, 0, none⟩), .int .i64 140, .pointer (some ⟨b14, 0, none⟩), .int .i64 140, .pointer (some ⟨b13, 0, none⟩), .int .i64 140, .pointer (some ⟨b140, 0, none⟩), .int .i64 140, .pointer (some ⟨b15, 0, none⟩), .int .i64 140, .pointer (some ⟨b16, 0, none⟩), .int .i64 140, u24, .int .i64 140, u26, .int .i64 140, t 28, t 29, undef, undef, undef, undef, undef, undef, undef, u37, u38, u39, u40, u41, u42, u43, u44, u45, u46, u47, u48, u49, u50, u51, u52, u53, u54, u55, u56, u57, u58, u59, u60, u61, u62, u63, u64, u65, u66, u67, u68, u69, u70, u71, u72, u73, u74, u75, u76, u77, u78, u79, u80, u81, u82, u83, u84, u85, u86, u87, u88, u89, u90, u91, u92, u93, u94, u95, u96, u97, u98, u99, u100, u101, u102, u103, u104, u105, u106, u107, u108, u109, u110, u111, u112, u113, u114, t 115, t 116, t 117, t 118, t 119, t 120, u121, u122, u123, u124, u125, u126, u127, u128, u129, u130, u131, u132, u133, u134, u135, u136, u137, u138, u139, u140, u141, u142, u143, u144, u145, u146, u147, u148, u149, u150, u151, u152, u153, u154, u155, u156, u157, u158, u159, u160, u161, u162, u163, u164, u165, u166, u167, u168, u169, u170, u171, u172, u173, u174, u175, u176, u177, u178, u179, u180, u181, u182, u183, u184, u185, u186, u187, u188, u189, u190, u191, u192, u193, u194, u195, u196, u197, u198, u199, u200, u201, u202, u203, u204, u205, u206, u207, u208, u209, u210, u211, u212, u213, u214, u215, u216, u217, u218, u219, u220, u221], defers := [] } ∧ IRP (fun _ => True) 7 (fun t W => ∃ b, t 28 = .pointer (some ⟨b, 0, none⟩)) (fun wz => Below W0.heap.size W0 wz) (S19c W0 N A6 gs c6) [(0, 116), (1, 117), (2, 118), (3, 115), (4, 119), (6, 28)] P19c [(3, 115), (5, 120), (8, 29)] listed t wy) ⟨(fun d => match d with | 28 => undef | 29 => undef | 115 => u115 | 116 => u116 | 117 => u117 | 118 => u118 | 119 => u119 | 120 => u120 | _ => undef), rfl, IRP.start _ (below_drew0 W0) trivial _⟩ ?_ ?_
    rotate_left
    · rintro listed hCl ix hix aa wy ⟨t, rfl, hR⟩ hr
      match ix, hix, hr with
      | 0, _, hr =>
        as_aux_lemma =>
        refine wpOp_step rfl (fun K' hK => ?_)
        have hI2 : Below W0.heap.size W0 wy := hR.ire.fin
        have HKy := Lib.hid (HK.out.call hI2)
        have q0 := (blk_cells HKy.out.b2).1 0 _ rfl
        have q1 := (blk_cells HKy.out.b2).1 1 _ rfl
        go_simp
        exact hK _ _ ⟨upd t 116 (.agg #[.int .i64 N, .slice A6 gs.length c6]), rfl, hR.yields hCl hr (by decide) (by kernel_rfl) hI2 (fun h => h) (fun _ _ h => h) (by exact rfl) rfl rfl trivial⟩
      | 1, _, hr =>
        as_aux_lemma =>
        refine wpOp_step rfl (fun K' hK => ?_)
        have hI2 : Below W0.heap.size W0 wy := hR.ire.fin
        go_simp
        refine (new_any wy).mono ?_
        rintro e W' ⟨⟨A1, c1, rfl, h1, h2⟩, hb⟩
        exact hK _ _ ⟨upd t 117 (.agg #[.int .i64 1, .slice A1 1 c1]), rfl, hR.yields hCl hr (by decide) (by kernel_rfl) (hI2.trans (hb.mono hI2.size)) (fun h => h) (S19c.below hb) ⟨A1, c1, rfl, h1, h2⟩ rfl rfl trivial⟩
      | 2, _, hr =>
        as_aux_lemma =>
        refine wpOp_step rfl (fun K' hK => ?_)
        have hI2 : Below W0.heap.size W0 wy := hR.ire.fin
        have hS117 : ∃ A1 c1, t 117 = .agg #[.int .i64 1, .slice A1 1 c1] ∧ 1 ≤ c1 ∧ RF wy A1 fM := hR.val hCl hr (by kernel_rfl) (1, 117) (by simp) (dep_of hr 1 (by kernel_rfl))
        have hS116 : t 116 = .agg #[.int .i64 N, .slice A6 gs.length c6] := hR.val hCl hr (by kernel_rfl) (0, 116) (by simp) (dep_of hr 0 (by kernel_rfl))
        obtain ⟨A1, c1, e9, h1, h2⟩ := hS117
        have HKy := HK.out.call hI2
        go_simp
        refine (both_any N 1 A6 A1 c6 c1 gs fM wy HKy.rf HFI.out.1 HFI.out.2.1 HFI.out.2.2 h2 (fine_of rM).1 (fine_of rM).2.1 (fine_of rM).2.2).mono ?_
        rintro e W' ⟨h, hb⟩
        have hE : boE N gs 1 fM = .error 140 := by unfold boE; rw [if_pos (.inl HNO.out)]
        rw [hE] at h
        obtain rfl := h
        exact hK _ _ ⟨upd t 118 (.tuple #[.agg #[.int .i64 0, .slice none 0 0], .int .i64 140]), by simp [upd, e9, hS116], hR.yields hCl hr (by decide) (by kernel_rfl) (hI2.trans (hb.mono hI2.size)) (fun h => h) (S19c.below hb) (by exact rfl) rfl rfl trivial⟩
      | 3, _, hr =>
        as_aux_lemma =>
        refine wpOp_step rfl (fun K' hK => ?_)
        have hI2 : Below W0.heap.size W0 wy := hR.ire.fin
        have hS118 : t 118 = .tuple #[.agg #[.int .i64 0, .slice none 0 0], .int .i64 140] := hR.val hCl hr (by kernel_rfl) (2, 118) (by simp) (dep_of hr 2 (by kernel_rfl))
        go_simp
        exact hK _ _ ⟨upd t 115 (.tuple #[.agg #[.int .i64 0, .slice none 0 0], .int .i64 140]), by simp [upd, hS118], hR.yields hCl hr (by decide) (by kernel_rfl) hI2 (fun h => h) (fun _ _ h => h) (by exact rfl) rfl rfl (by exact rfl)⟩
      | 4, _, hr =>
        as_aux_lemma =>
        refine wpOp_step rfl (fun K' hK => ?_)
        have hI2 : Below W0.heap.size W0 wy := hR.ire.fin
        have hS115 : t 115 = .tuple #[.agg #[.int .i64 0, .slice none 0 0], .int .i64 140] := hR.val hCl hr (by kernel_rfl) (3, 115) (by simp) (dep_of hr 3 (by kernel_rfl))
        go_simp
        exact hK _ _ ⟨upd t 119 (.agg #[.int .i64 0, .slice none 0 0]), by simp [upd, hS115], hR.yields hCl hr (by decide) (by kernel_rfl) hI2 (fun h => h) (fun _ _ h => h) (by exact rfl) rfl rfl trivial⟩
      | 5, _, hr =>
        as_aux_lemma =>
        refine wpOp_step rfl (fun K' hK => ?_)
        have hI2 : Below W0.heap.size W0 wy := hR.ire.fin
        have e9 : t 115 = .tuple #[.agg #[.int .i64 0, .slice none 0 0], .int .i64 140] := hR.pur (3, 115) (by simp) (dep_of hr 3 (by kernel_rfl))
        go_simp
        exact hK _ _ ⟨upd t 120 (.int .i64 140), by simp [upd, e9], hR.beside (by decide) (by decide) (fun h => by obtain ⟨b, h1⟩ := h; exact ⟨b, (upd_other _ _ (by decide)).trans h1⟩) rfl (by exact rfl)⟩
      | 6, _, hr =>
        as_aux_lemma =>
        refine wpOp_step rfl (fun K' hK => ?_)
        have hI2 : Below W0.heap.size W0 wy := hR.ire.fin
        go_simp
        have hb := below_new wy (.cells #[.int .i64 0, .slice none 0 0] 31)
        exact hK _ _ ⟨upd t 28 (.pointer (some ⟨wy.heap.size, 0, none⟩)), rfl, hR.yields hCl hr (by decide) (by kernel_rfl) (hI2.trans (hb.mono hI2.size)) (fun h => h) (S19c.below hb) ⟨_, rfl, hI2.size, blk_new wy _⟩ rfl rfl trivial⟩
      | 7, _, hr =>
        as_aux_lemma =>
        refine wpOp_step rfl (fun K' hK => ?_)
        have hI2 : Below W0.heap.size W0 wy := hR.ire.fin
        have hA := hR.ire.atEnd hr
        obtain ⟨b, e8, hb1, hB⟩ : ∃ b, t 28 = .pointer (some ⟨b, 0, none⟩) ∧ W0.heap.size ≤ b ∧ Blk wy b (.cells #[.int .i64 0, .slice none 0 0] 31) := hA.2 (6, 28) (by simp) (dep_of hr 6 (by kernel_rfl))
        have e9 : t 119 = .agg #[.int .i64 0, .slice none 0 0] := hA.2 (4, 119) (by simp) (dep_of hr 4 (by kernel_rfl))
        have m0 := (blk_cells hB).1 0 _ rfl
        have m1 := (blk_cells hB).1 1 _ rfl
        have n0 := (blk_cells hB).2 0
        have n1 := (blk_cells hB).2 1
        have hE := hR.ends hr (W1 := (wy.setCell ⟨b, 0, none⟩ (.int .i64 0)).setCell ⟨b, 1, none⟩ (.slice none 0 0)) ((hI2.setCell (p := ⟨b, 0, none⟩) (by show W0.heap.size ≤ b; omega) _).setCell (p := ⟨b, 1, none⟩) (by show W0.heap.size ≤ b; omega) _) ⟨b, e8⟩ (by decide)
        go_simp
        exact hK _ _ ⟨t, by simp [e8, e9], hE⟩
      | 8, _, hr =>
        as_aux_lemma =>
        refine wpOp_step rfl (fun K' hK => ?_)
        have hI2 : Below W0.heap.size W0 wy := hR.ire.fin
        have e9 : t 120 = .int .i64 140 := hR.pur (5, 120) (by simp) (dep_of hr 5 (by kernel_rfl))
        go_simp
        exact hK _ _ ⟨upd t 29 (.int .i64 140), by simp [upd, e9], hR.beside (by decide) (by decide) (fun h => by obtain ⟨b, h1⟩ := h; exact ⟨b, (upd_other _ _ (by decide)).trans h1⟩) rfl (by exact rfl)⟩
      | nx + 9, hix, _ => exact absurd (show nx + 9 < 9 from hix) (by omega)
    rintro listed a2 W19 ⟨t, rfl, hR⟩ hl
    have e29 : t 29 = .int .i64 140 := hR.pur (8, 29) (by simp) (hl 8 (by decide))
    have HK2 := Lib.hid (HK.out.call hR.ire.fin)
    clear hR hl HK
    rw [e29]
    clear e29
    generalize t 28 = u28
    generalize t 115 = u115
    generalize t 116 = u116
    generalize t 117 = u117
    generalize t 118 = u118
    generalize t 119 = u119
    generalize t 120 = u120
    have HK := HK2
    clear HK2
    go_upto_region 20 with fail
    have HCN := Lib.hid (shells_bad N A6 c6 gs W19 HK.out.rf HFI.out.1 HFI.out.2.1 HFI.out.2.2 HNO.out)
    have q0 := (blk_cells HK.out.b2).1 0 _ rfl
    have q1 := (blk_cells HK.out.b2).1 1 _ rfl
    go_upto_region 21 with ((with_reducible refine (HCN.out).mono ?_); rintro e Wc ⟨rfl, hb⟩)
    have HK2 := Lib.hid (HK.out.call hb)
    clear HCN HK hb q0 q1
    obtain ⟨W20, hW⟩ : ∃ W, W = Wc := ⟨_, rfl⟩
    rw [← hW] at HK2 ⊢
    clear hW
    have HK := HK2
    clear HK2
    skip -- W20
    go_upto_region 21 with fail
    have HCN := Lib.hid (turned_bad N A6 c6 gs W20 HK.out.rf hc6 HFI.out.1 HFI.out.2.1 HFI.out.2.2 HNO.out)
    have q0 := (blk_cells HK.out.b2).1 0 _ rfl
    have q1 := (blk_cells HK.out.b2).1 1 _ rfl
    go_cut [32, 33] from 37 to 221 (fun _ s33 W21 => s33 = .int .i64 140 ∧ Hid (CK w [(b14, .cells #[.int .i64 0, .slice none 0 0] 31), (b8, .cells #[.int .i64 0, .int .i64 0, .int .i64 0] 36), (b6, .cells #[.int .i64 N, .slice A6 gs.length c6] 31)] A6 gs W21))
    case first =>
      go_wp2_with ((with_reducible refine (HCN.out).mono ?_); rintro e Wc ⟨rfl, hb⟩)
      go_meet
      case rel => exact ⟨rfl, (HK.out.call hb).alloc _⟩
    case rest =>
    clear HCN HK q0 q1
    obtain ⟨rfl, HK⟩ := hcut
    rename World => W21
    go_upto_region 22 with fail
    obtain ⟨W0, hW0⟩ : ∃ W0, W0 = W21 := ⟨_, rfl⟩
    rw [← hW0] at HK ⊢
    clear hW0
    refine wp_region_inv' (by kernel_rfl) (by kernel_rfl) (fun listed aa wy => ∃ t : Nat → Value, aa = { tmps := #[.agg #[.int .i64 N, .slice A fs.length c], .int .i64 n, .pointer (some ⟨w.heap.size, 0, none⟩), undef, .bool false, .pointer (some ⟨b5, 0, none⟩), .pointer (some ⟨b6, 0, none⟩), .bool false, .pointer (some ⟨b8, 0, none⟩), .int .i64 140, .bool false, .int .i64 140, .pointer (some ⟨b11, 0, none⟩), .int .i64 140, .pointer (some ⟨b14, 0, none⟩), .int .i64 140, .pointer (some ⟨b13, 0, none⟩), .int .i64 140, .pointer (some ⟨b140, 0, none⟩), .int .i64 140, .pointer (some ⟨b15, 0, none⟩), .int .i64 140, .pointer (some ⟨b16, 0, none⟩), .int .i64 140, u24, .int .i64 140, u26, .int .i64 140, u28, .int .i64 140, .slice none 0 0, .int .i64 140, u32, .int .i64 140, t 34, t 35, undef, u37, u38, u39, u40, u41, u42, u43, u44, u45, u46, u47, u48, u49, u50, u51, u52, u53, u54, u55, u56, u57, u58, u59, u60, u61, u62, u63, u64, u65, u66, u67, u68, u69, u70, u71, u72, u73, u74, u75, u76, u77, u78, u79, u80, u81, u82, u83, u84, u85, u86, u87, u88, u89, u90, u91, u92, u93, u94, u95, u96, u97, u98, u99, u100, u101, u102, u103, u104, u105, u106, u107, u108, u109, u110, u111, u112, u113, u114, u115, u116, u117, u118, u119, u120, u121, u122, u123, u124, u125, u126, u127, u128, u129, u130, t 131, t 132, t 133, t 134, t 135, t 136, u137, u138, u139, u140, u141, u142, u143, u144, u145, u146, u147, u148, u149, u150, u151, u152, u153, u154, u155, u156, u157, u158, u159, u160, u161, u162, u163, u164, u165, u166, u167, u168, u169, u170, u171, u172, u173, u174, u175, u176, u177, u178, u179, u180, u181, u182, u183, u184, u185, u186, u187, u188, u189, u190, u191, u192, u193, u194, u195, u196, u197, u198, u199, u200, u201, u202, u203, u204, u205, u206, u207, u208, u209, u210, u211, u212, u213, u214, u215, u216, u217, u218, u219, u220, u221], defers := [] } ∧ IR (fun wz => Below W0.heap.size W0 wz) (S22c W0 N A6 gs c6) [(0, 132), (1, 133), (2, 134), (3, 131), (4, 135), (5, 136), (6, 34), (7, 35)] listed t wy) ⟨(fun d => match d with | 34 => undef | 35 => undef | 131 => u131 | 132 => u132 | 133 => u133 | 134 => u134 | 135 => u135 | 136 => u136 | _ => undef), rfl, IR.start _ (below_drew0 W0) _⟩ ?_ ?_
    rotate_left
    · rintro listed hCl ix hix aa wy ⟨t, rfl, hR⟩ hr
      match ix, hix, hr with
      | 0, _, hr =>
        as_aux_lemma =>
        refine wpOp_step rfl (fun K' hK => ?_)
        have hI2 : Below W0.heap.size W0 wy := hR.fin
        go_simp
        refine (new_any wy).mono ?_
        rintro e W' ⟨⟨A1, c1, rfl, h1, h2⟩, hb⟩
        exact hK _ _ ⟨upd t 132 (.agg #[.int .i64 1, .slice A1 1 c1]), rfl, hR.yields (hI2.trans (hb.mono hI2.size)) (S22c.below hb) ⟨A1, c1, rfl, h1, h2⟩ rfl⟩
      | 1, _, hr =>
        as_aux_lemma =>
        refine wpOp_step rfl (fun K' hK => ?_)
        have hI2 : Below W0.heap.size W0 wy := hR.fin
        have HKy := Lib.hid (HK.out.call hI2)
        have q0 := (blk_cells HKy.out.b2).1 0 _ rfl
        have q1 := (blk_cells HKy.out.b2).1 1 _ rfl
        go_simp
        exact hK _ _ ⟨upd t 133 (.agg #[.int .i64 N, .slice A6 gs.length c6]), rfl, hR.yields hI2 (fun _ _ h => h) (by exact rfl) rfl⟩
      | 2, _, hr =>
        as_aux_lemma =>
        refine wpOp_step rfl (fun K' hK => ?_)
        have hI2 : Below W0.heap.size W0 wy := hR.fin
        have hS132 : ∃ A1 c1, t 132 = .agg #[.int .i64 1, .slice A1 1 c1] ∧ 1 ≤ c1 ∧ RF wy A1 fM := hR.val (0, 132) (by simp) (dep_of hr 0 (by kernel_rfl))
        have hS133 : t 133 = .agg #[.int .i64 N, .slice A6 gs.length c6] := hR.val (1, 133) (by simp) (dep_of hr 1 (by kernel_rfl))
        obtain ⟨A1, c1, e9, h1, h2⟩ := hS132
        have HKy := HK.out.call hI2
        go_simp
        refine (same_bad 1 N A1 A6 c1 c6 fM gs wy h2 (fine_of rM).1 (fine_of rM).2.1 (fine_of rM).2.2 HKy.rf HFI.out.1 HFI.out.2.1 HFI.out.2.2 (fun h => HNO.out h.2)).mono ?_
        rintro e W' ⟨rfl, hb⟩
        exact hK _ _ ⟨upd t 134 (.tuple #[.bool false, .int .i64 140]), by simp [upd, e9, hS133], hR.yields (hI2.trans (hb.mono hI2.size)) (S22c.below hb) (by exact rfl) rfl⟩
      | 3, _, hr =>
        as_aux_lemma =>
        refine wpOp_step rfl (fun K' hK => ?_)
        have hI2 : Below W0.heap.size W0 wy := hR.fin
        have hS134 : t 134 = .tuple #[.bool false, .int .i64 140] := hR.val (2, 134) (by simp) (dep_of hr 2 (by kernel_rfl))
        go_simp
        exact hK _ _ ⟨upd t 131 (.tuple #[.bool false, .int .i64 140]), by simp [upd, hS134], hR.yields hI2 (fun _ _ h => h) (by exact rfl) rfl⟩
      | 4, _, hr =>
        as_aux_lemma =>
        refine wpOp_step rfl (fun K' hK => ?_)
        have hI2 : Below W0.heap.size W0 wy := hR.fin
        have hS131 : t 131 = .tuple #[.bool false, .int .i64 140] := hR.val (3, 131) (by simp) (dep_of hr 3 (by kernel_rfl))
        go_simp
        exact hK _ _ ⟨upd t 135 (.bool false), by simp [upd, hS131], hR.yields hI2 (fun _ _ h => h) (by exact rfl) rfl⟩
      | 5, _, hr =>
        as_aux_lemma =>
        refine wpOp_step rfl (fun K' hK => ?_)
        have hI2 : Below W0.heap.size W0 wy := hR.fin
        have hS131 : t 131 = .tuple #[.bool false, .int .i64 140] := hR.val (3, 131) (by simp) (dep_of hr 3 (by kernel_rfl))
        go_simp
        exact hK _ _ ⟨upd t 136 (.int .i64 140), by simp [upd, hS131], hR.yields hI2 (fun _ _ h => h) (by exact rfl) rfl⟩
      | 6, _, hr =>
        as_aux_lemma =>
        refine wpOp_step rfl (fun K' hK => ?_)
        have hI2 : Below W0.heap.size W0 wy := hR.fin
        have hS135 : t 135 = .bool false := hR.val (4, 135) (by simp) (dep_of hr 4 (by kernel_rfl))
        go_simp
        exact hK _ _ ⟨upd t 34 (.bool false), by simp [upd, hS135], hR.yields hI2 (fun _ _ h => h) (by exact rfl) rfl⟩
      | 7, _, hr =>
        as_aux_lemma =>
        refine wpOp_step rfl (fun K' hK => ?_)
        have hI2 : Below W0.heap.size W0 wy := hR.fin
        have hS136 : t 136 = .int .i64 140 := hR.val (5, 136) (by simp) (dep_of hr 5 (by kernel_rfl))
        go_simp
        exact hK _ _ ⟨upd t 35 (.int .i64 140), by simp [upd, hS136], hR.yields hI2 (fun _ _ h => h) (by exact rfl) rfl⟩
      | nx + 8, hix, _ => exact absurd (show nx + 8 < 8 from hix) (by omega)
    rintro listed a2 W22 ⟨t, rfl, hR⟩ hl
    have e35 : t 35 = .int .i64 140 := hR.val (7, 35) (by simp) (hl 7 (by decide))
    have e34 : t 34 = .bool false := hR.val (6, 34) (by simp) (hl 6 (by decide))
    have HK2 := Lib.hid (HK.out.call hR.fin)
    clear hR hl HK
    rw [e35, e34]
    clear e35 e34
    generalize t 131 = u131
    generalize t 132 = u132
    generalize t 133 = u133
    generalize t 134 = u134
    generalize t 135 = u135
    generalize t 136 = u136
    have HK := HK2
    clear HK2
    go_upto_region 24 with fail
    simp only [List.append_eq, List.cons_append, List.nil_append]
    have q0 := (blk_cells HK.out.b0).1 0 _ rfl
    have q1 := (blk_cells HK.out.b0).1 1 _ rfl
    have HCN := Lib.hid (awake_any W22)
    go_wp2_with fail
    ((with_reducible refine (HCN.out).mono ?_); rintro e W25 ⟨rfl, hb⟩)
    go_wp2
    go_ret
    exact ⟨rfl, (HK.out.call hb).below⟩
  · have HCN := Lib.hid (awake_any W6)
    go_wp2_with fail
    ((with_reducible refine (HCN.out).mono ?_); rintro e W7 ⟨rfl, hb⟩)
    go_wp2
    go_ret
    exact ⟨rfl, (HK.out.call hb).below⟩

end Go.Proofs.YtealnhaffphamaaGreat
