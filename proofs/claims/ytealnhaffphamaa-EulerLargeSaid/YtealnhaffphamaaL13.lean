/- Contracts of the functions that the statement reaches, and plain lemmas: part 13 of 24. -/
import Derived.Test.YtealnhaffphamaaL12
set_option linter.unusedVariables false
set_option linter.unusedSimpArgs false

namespace Go.Proofs.Ytealnhaffphamaa
open Go.RowKit Go.Shelf Go.Proofs.YtealnhaffphamaaW.PrintWords

/-- A model copied, in new memory. -/
def Got (B : Nat) (N : Int) (fs : Fs) (v : Value) (W : World) : Prop := ∃ A c vf vl, v = .agg #[.int .i64 N, .slice A fs.length c] ∧ fs.length ≤ c ∧ MW B (.slice A fs.length c) fs fs.length vf vl W
theorem Got.rf {B : Nat} {N : Int} {fs : Fs} {v : Value} {W : World} (h : Got B N fs v W) : ∃ A c, v = .agg #[.int .i64 N, .slice A fs.length c] ∧ fs.length ≤ c ∧ RF W A fs := by
  obtain ⟨A, c, vf, vl, h1, h2, h3⟩ := h
  obtain ⟨A', c', e1, e2, e3⟩ := h3.reads
  injection e1 with ea en ec
  subst ea ec
  exact ⟨A, c, h1, h2, e3⟩
theorem copy_got {w w' : World} {v : Value} {fs : Fs} (h : ∃ vf vl, MW w.heap.size v fs fs.length vf vl w') : ∃ A c, v = .slice A fs.length c ∧ fs.length ≤ c ∧ ∃ vf vl, MW w.heap.size (.slice A fs.length c) fs fs.length vf vl w' := by
  obtain ⟨vf, vl, h⟩ := h
  obtain ⟨A, c, e1, e2, e3⟩ := h.reads
  subst e1
  exact ⟨A, c, rfl, e2, vf, vl, h⟩
def Sgiven (w : World) (A : Option Addr) (c : Nat) (N : Int) (fs : Fs) (d : Nat) (W : World) (v : Value) : Prop := match d with | 3 => v = .pointer (some ⟨w.heap.size, 0, none⟩) | 4 => v = .int .i64 N | 5 => v = .pointer (some ⟨w.heap.size, 1, none⟩) | 6 => v = .slice A fs.length c | 7 => ∃ A' c' vf vl, v = .slice A' (cpA fs 1000 1000 5000).length c' ∧ (cpA fs 1000 1000 5000).length ≤ c' ∧ MW (w.heap.size + 2) (.slice A' (cpA fs 1000 1000 5000).length c') (cpA fs 1000 1000 5000) (cpA fs 1000 1000 5000).length vf vl W | 8 => ∃ A' c' vf vl, v = .agg #[.int .i64 N, .slice A' (cpA fs 1000 1000 5000).length c'] ∧ (cpA fs 1000 1000 5000).length ≤ c' ∧ MW (w.heap.size + 2) (.slice A' (cpA fs 1000 1000 5000).length c') (cpA fs 1000 1000 5000) (cpA fs 1000 1000 5000).length vf vl W | _ => True
theorem Sgiven.below {w : World} {A : Option Addr} {c : Nat} {N : Int} {fs : Fs} {W W1 : World} (hb : Below W.heap.size W W1) : ∀ d v, Sgiven w A c N fs d W v → Sgiven w A c N fs d W1 v := by
  intro d v h
  unfold Sgiven at h ⊢
  split at h
  all_goals first | exact h | (obtain ⟨A', c', vf, vl, h1, h2, h3⟩ := h; exact ⟨A', c', vf, vl, h1, h2, h3.belowW hb⟩)
set_option maxRecDepth 100000 in
set_option maxHeartbeats 2000000 in
theorem given_any (N : Int) (A : Option Addr) (c : Nat) (fs : Fs) (w : World) (hF : RF w A fs) (hc : fs.length ≤ c) :
    Calls Try.prog 11 #[.agg #[.int .i64 N, .slice A fs.length c]] w fun e w' => (∃ v, e = .returned v ∧ Got w.heap.size N (cpA fs 1000 1000 5000) v w') ∧ Below w.heap.size w w' := by
  obtain ⟨W1, hW1⟩ : ∃ W1, W1 = (w.alloc (.cells #[.int .i64 N, .slice A fs.length c] 26)).alloc (.cells #[.int .i64 0, .slice none 0 0] 30) := ⟨_, rfl⟩
  have HOB : Hid (Obs [.cells #[.int .i64 N, .slice A fs.length c] 26, .cells #[.int .i64 0, .slice none 0 0] 30] w W1) := by rw [hW1]; exact Obs.two w _ _
  have HF := Lib.hid hF
  have HC := Lib.hid hc
  clear hF hc
  go_enter Try.func11, Try.ntmps11
  go_upto_region 1 with fail
  rw [← hW1]
  clear hW1
  refine wp_region_inv' (by kernel_rfl) (by kernel_rfl) (fun listed aa wy => ∃ t : Nat → Value, aa = { tmps := #[.agg #[.int .i64 N, .slice A fs.length c], .pointer (some ⟨w.heap.size, 0, none⟩), .pointer (some ⟨w.heap.size + 1, 0, none⟩), t 3, t 4, t 5, t 6, t 7, t 8], defers := [] } ∧ IRE (fun wz => Obs [.cells #[.int .i64 N, .slice A fs.length c] 26, .cells #[.int .i64 0, .slice none 0 0] 30] w wz) 6 (fun _ wz => ∃ A' c' vf vl, Blk wz (w.heap.size + 1) (.cells #[.int .i64 N, .slice A' (cpA fs 1000 1000 5000).length c'] 30) ∧ (cpA fs 1000 1000 5000).length ≤ c' ∧ MW (w.heap.size + 2) (.slice A' (cpA fs 1000 1000 5000).length c') (cpA fs 1000 1000 5000) (cpA fs 1000 1000 5000).length vf vl wz ∧ Below w.heap.size w wz) (fun _ => True) (Sgiven w A c N fs) [(0, 3), (1, 4), (2, 5), (3, 6), (4, 7), (5, 8)] listed t wy) ⟨(fun d => match d with | 3 => undef | 4 => undef | 5 => undef | 6 => undef | 7 => undef | 8 => undef | _ => undef), rfl, IRE.start _ trivial (HOB.out.grown (grown_drew _)) _⟩ ?_ ?_
  rotate_left
  · rintro listed hCl ix hix aa wy ⟨t, rfl, hR⟩ hr
    match ix, hix, hr with
    | 0, _, hr =>
      as_aux_lemma =>
      refine wpOp_step rfl (fun K' hK => ?_)
      go_simp
      exact hK _ _ ⟨upd t 3 (.pointer (some ⟨w.heap.size, 0, none⟩)), rfl, hR.yields hCl hr (by decide) (by kernel_rfl) hR.fin (fun h => h) (fun _ _ h => h) (by rfl) rfl⟩
    | 1, _, hr =>
      as_aux_lemma =>
      refine wpOp_step rfl (fun K' hK => ?_)
      have e1 : t 3 = .pointer (some ⟨w.heap.size, 0, none⟩) := hR.val hCl hr (by kernel_rfl) (0, 3) (by simp) (dep_of hr 0 (by kernel_rfl))
      have f0 : wy.cell? ⟨w.heap.size, 0, none⟩ = some (.int .i64 N) := ((hR.bef hCl hr (by kernel_rfl))).cell 0 0 rfl rfl
      go_simp
      exact hK _ _ ⟨upd t 4 (.int .i64 N), by simp [upd, e1], hR.yields hCl hr (by decide) (by kernel_rfl) hR.fin (fun h => h) (fun _ _ h => h) (by rfl) rfl⟩
    | 2, _, hr =>
      as_aux_lemma =>
      refine wpOp_step rfl (fun K' hK => ?_)
      go_simp
      exact hK _ _ ⟨upd t 5 (.pointer (some ⟨w.heap.size, 1, none⟩)), rfl, hR.yields hCl hr (by decide) (by kernel_rfl) hR.fin (fun h => h) (fun _ _ h => h) (by rfl) rfl⟩
    | 3, _, hr =>
      as_aux_lemma =>
      refine wpOp_step rfl (fun K' hK => ?_)
      have e1 : t 5 = .pointer (some ⟨w.heap.size, 1, none⟩) := hR.val hCl hr (by kernel_rfl) (2, 5) (by simp) (dep_of hr 2 (by kernel_rfl))
      have f0 : wy.cell? ⟨w.heap.size, 1, none⟩ = some (.slice A fs.length c) := ((hR.bef hCl hr (by kernel_rfl))).cell 0 1 rfl rfl
      go_simp
      exact hK _ _ ⟨upd t 6 (.slice A fs.length c), by simp [upd, e1], hR.yields hCl hr (by decide) (by kernel_rfl) hR.fin (fun h => h) (fun _ _ h => h) (by rfl) rfl⟩
    | 4, _, hr =>
      as_aux_lemma =>
      refine wpOp_step rfl (fun K' hK => ?_)
      have e1 : t 6 = .slice A fs.length c := hR.val hCl hr (by kernel_rfl) (3, 6) (by simp) (dep_of hr 3 (by kernel_rfl))
      have hI2 := (hR.bef hCl hr (by kernel_rfl))
      go_simp
      refine (copy_any A c fs 1000 1000 5000 wy (HF.out.below hI2.below) HC.out (by omega) (by omega) (by omega)).mono ?_
      rintro e W' ⟨⟨v, vf, vl, rfl, hM⟩, hbl⟩
      obtain ⟨A', c', rfl, h1, vf, vl, h2⟩ := copy_got ⟨vf, vl, hM⟩
      exact hK _ _ ⟨upd t 7 (.slice A' (cpA fs 1000 1000 5000).length c'), by simp [upd, e1], hR.yields hCl hr (by decide) (by kernel_rfl) trivial (fun h => h.call hbl) (Sgiven.below hbl) ⟨A', c', vf, vl, rfl, h1, h2.lower (by have := hI2.size; simpa using this)⟩ rfl⟩
    | 5, _, hr =>
      as_aux_lemma =>
      refine wpOp_step rfl (fun K' hK => ?_)
      have e1 : t 4 = .int .i64 N := hR.val hCl hr (by kernel_rfl) (1, 4) (by simp) (dep_of hr 1 (by kernel_rfl))
      obtain ⟨A', c', vf, vl, e9, h1, h2⟩ : ∃ A' c' vf vl, t 7 = .slice A' (cpA fs 1000 1000 5000).length c' ∧ (cpA fs 1000 1000 5000).length ≤ c' ∧ MW (w.heap.size + 2) (.slice A' (cpA fs 1000 1000 5000).length c') (cpA fs 1000 1000 5000) (cpA fs 1000 1000 5000).length vf vl wy := hR.val hCl hr (by kernel_rfl) (4, 7) (by simp) (dep_of hr 4 (by kernel_rfl))
      go_simp
      exact hK _ _ ⟨upd t 8 (.agg #[.int .i64 N, .slice A' (cpA fs 1000 1000 5000).length c']), by simp [upd, e1, e9], hR.yields hCl hr (by decide) (by kernel_rfl) trivial (fun h => h) (fun _ _ h => h) ⟨A', c', vf, vl, rfl, h1, h2⟩ rfl⟩
    | 6, _, hr =>
      as_aux_lemma =>
      refine wpOp_step rfl (fun K' hK => ?_)
      obtain ⟨A', c', vf, vl, e9, h1, h2⟩ : ∃ A' c' vf vl, t 8 = .agg #[.int .i64 N, .slice A' (cpA fs 1000 1000 5000).length c'] ∧ (cpA fs 1000 1000 5000).length ≤ c' ∧ MW (w.heap.size + 2) (.slice A' (cpA fs 1000 1000 5000).length c') (cpA fs 1000 1000 5000) (cpA fs 1000 1000 5000).length vf vl wy := (hR.atEnd hr).2 (5, 8) (by simp) (dep_of hr 5 (by kernel_rfl))
      have hI2 := (hR.atEnd hr).1
      have m10 : wy.cell? ⟨w.heap.size + 1, 0, none⟩ = some (.int .i64 0) := hI2.cell 1 0 rfl rfl
      have z10 : wy.frozen? ⟨w.heap.size + 1, 0, none⟩ = false := hI2.frz 1 0 rfl
      have m11 : wy.cell? ⟨w.heap.size + 1, 1, none⟩ = some (.slice none 0 0) := hI2.cell 1 1 rfl rfl
      have z11 : wy.frozen? ⟨w.heap.size + 1, 1, none⟩ = false := hI2.frz 1 1 rfl
      have hE := hR.ends hr (W1 := (wy.setCell ⟨w.heap.size + 1, 0, none⟩ (.int .i64 N)).setCell ⟨w.heap.size + 1, 1, none⟩ (.slice A' (cpA fs 1000 1000 5000).length c')) trivial ⟨A', c', vf, vl, (hI2.ret 1 (.int .i64 N) (.slice A' (cpA fs 1000 1000 5000).length c') rfl).1, h1, h2.back (r := w.heap.size + 1) (by omega) _ _, (hI2.ret 1 (.int .i64 N) (.slice A' (cpA fs 1000 1000 5000).length c') rfl).2⟩
      clear h1 h2
      go_simp
      exact hK _ _ ⟨t, by simp [e9], hE⟩
    | nx + 7, hix, _ => exact absurd (show nx + 7 < 7 from hix) (by omega)
  rintro listed a2 W2 ⟨t, rfl, hR⟩ hl
  obtain ⟨A', c', vf, vl, hBl, h1, h2, h3⟩ := hR.new (hl 6 (by decide))
  clear hR hl
  generalize t 3 = u3
  generalize t 4 = u4
  generalize t 5 = u5
  generalize t 6 = u6
  generalize t 7 = u7
  generalize t 8 = u8
  have e00 := (blk_cells hBl).1 0 _ rfl
  have e01 := (blk_cells hBl).1 1 _ rfl
  clear hBl
  go_wp2
  refine bodyPost_ret (v := .agg #[.int .i64 N, .slice A' (cpA fs 1000 1000 5000).length c']) (by simp [results, Try.f11, go_sem, e00, e01]) rfl ?_
  exact ⟨⟨_, rfl, A', c', vf, vl, rfl, h1, h2.lower (by omega)⟩, h3⟩
def Slown (w : World) (A : Option Addr) (c : Nat) (N : Int) (fs : Fs) (d : Nat) (W : World) (v : Value) : Prop := match d with | 3 => v = .pointer (some ⟨w.heap.size, 0, none⟩) | 4 => v = .int .i64 N | 5 => v = .pointer (some ⟨w.heap.size, 1, none⟩) | 6 => v = .slice A fs.length c | 7 => ∃ A' c' vf vl, v = .slice A' (cpA fs 1000 1000 5000).length c' ∧ (cpA fs 1000 1000 5000).length ≤ c' ∧ MW (w.heap.size + 2) (.slice A' (cpA fs 1000 1000 5000).length c') (cpA fs 1000 1000 5000) (cpA fs 1000 1000 5000).length vf vl W | 8 => ∃ A' c' vf vl, v = .agg #[.int .i64 N, .slice A' (cpA fs 1000 1000 5000).length c'] ∧ (cpA fs 1000 1000 5000).length ≤ c' ∧ MW (w.heap.size + 2) (.slice A' (cpA fs 1000 1000 5000).length c') (cpA fs 1000 1000 5000) (cpA fs 1000 1000 5000).length vf vl W | _ => True
theorem Slown.below {w : World} {A : Option Addr} {c : Nat} {N : Int} {fs : Fs} {W W1 : World} (hb : Below W.heap.size W W1) : ∀ d v, Slown w A c N fs d W v → Slown w A c N fs d W1 v := by
  intro d v h
  unfold Slown at h ⊢
  split at h
  all_goals first | exact h | (obtain ⟨A', c', vf, vl, h1, h2, h3⟩ := h; exact ⟨A', c', vf, vl, h1, h2, h3.belowW hb⟩)
set_option maxRecDepth 100000 in
set_option maxHeartbeats 2000000 in
theorem lown_any (N : Int) (A : Option Addr) (c : Nat) (fs : Fs) (w : World) (hF : RF w A fs) (hc : fs.length ≤ c) :
    Calls Try.prog 22 #[.agg #[.int .i64 N, .slice A fs.length c]] w fun e w' => (∃ v, e = .returned v ∧ Got w.heap.size N (cpA fs 1000 1000 5000) v w') ∧ Below w.heap.size w w' := by
  obtain ⟨W1, hW1⟩ : ∃ W1, W1 = (w.alloc (.cells #[.int .i64 N, .slice A fs.length c] 30)).alloc (.cells #[.int .i64 0, .slice none 0 0] 26) := ⟨_, rfl⟩
  have HOB : Hid (Obs [.cells #[.int .i64 N, .slice A fs.length c] 30, .cells #[.int .i64 0, .slice none 0 0] 26] w W1) := by rw [hW1]; exact Obs.two w _ _
  have HF := Lib.hid hF
  have HC := Lib.hid hc
  clear hF hc
  go_enter Try.func22, Try.ntmps22
  go_upto_region 1 with fail
  rw [← hW1]
  clear hW1
  refine wp_region_inv' (by kernel_rfl) (by kernel_rfl) (fun listed aa wy => ∃ t : Nat → Value, aa = { tmps := #[.agg #[.int .i64 N, .slice A fs.length c], .pointer (some ⟨w.heap.size, 0, none⟩), .pointer (some ⟨w.heap.size + 1, 0, none⟩), t 3, t 4, t 5, t 6, t 7, t 8], defers := [] } ∧ IRE (fun wz => Obs [.cells #[.int .i64 N, .slice A fs.length c] 30, .cells #[.int .i64 0, .slice none 0 0] 26] w wz) 6 (fun _ wz => ∃ A' c' vf vl, Blk wz (w.heap.size + 1) (.cells #[.int .i64 N, .slice A' (cpA fs 1000 1000 5000).length c'] 26) ∧ (cpA fs 1000 1000 5000).length ≤ c' ∧ MW (w.heap.size + 2) (.slice A' (cpA fs 1000 1000 5000).length c') (cpA fs 1000 1000 5000) (cpA fs 1000 1000 5000).length vf vl wz ∧ Below w.heap.size w wz) (fun _ => True) (Slown w A c N fs) [(0, 3), (1, 4), (2, 5), (3, 6), (4, 7), (5, 8)] listed t wy) ⟨(fun d => match d with | 3 => undef | 4 => undef | 5 => undef | 6 => undef | 7 => undef | 8 => undef | _ => undef), rfl, IRE.start _ trivial (HOB.out.grown (grown_drew _)) _⟩ ?_ ?_
  rotate_left
  · rintro listed hCl ix hix aa wy ⟨t, rfl, hR⟩ hr
    match ix, hix, hr with
    | 0, _, hr =>
      as_aux_lemma =>
      refine wpOp_step rfl (fun K' hK => ?_)
      go_simp
      exact hK _ _ ⟨upd t 3 (.pointer (some ⟨w.heap.size, 0, none⟩)), rfl, hR.yields hCl hr (by decide) (by kernel_rfl) hR.fin (fun h => h) (fun _ _ h => h) (by rfl) rfl⟩
    | 1, _, hr =>
      as_aux_lemma =>
      refine wpOp_step rfl (fun K' hK => ?_)
      have e1 : t 3 = .pointer (some ⟨w.heap.size, 0, none⟩) := hR.val hCl hr (by kernel_rfl) (0, 3) (by simp) (dep_of hr 0 (by kernel_rfl))
      have f0 : wy.cell? ⟨w.heap.size, 0, none⟩ = some (.int .i64 N) := ((hR.bef hCl hr (by kernel_rfl))).cell 0 0 rfl rfl
      go_simp
      exact hK _ _ ⟨upd t 4 (.int .i64 N), by simp [upd, e1], hR.yields hCl hr (by decide) (by kernel_rfl) hR.fin (fun h => h) (fun _ _ h => h) (by rfl) rfl⟩
    | 2, _, hr =>
      as_aux_lemma =>
      refine wpOp_step rfl (fun K' hK => ?_)
      go_simp
      exact hK _ _ ⟨upd t 5 (.pointer (some ⟨w.heap.size, 1, none⟩)), rfl, hR.yields hCl hr (by decide) (by kernel_rfl) hR.fin (fun h => h) (fun _ _ h => h) (by rfl) rfl⟩
    | 3, _, hr =>
      as_aux_lemma =>
      refine wpOp_step rfl (fun K' hK => ?_)
      have e1 : t 5 = .pointer (some ⟨w.heap.size, 1, none⟩) := hR.val hCl hr (by kernel_rfl) (2, 5) (by simp) (dep_of hr 2 (by kernel_rfl))
      have f0 : wy.cell? ⟨w.heap.size, 1, none⟩ = some (.slice A fs.length c) := ((hR.bef hCl hr (by kernel_rfl))).cell 0 1 rfl rfl
      go_simp
      exact hK _ _ ⟨upd t 6 (.slice A fs.length c), by simp [upd, e1], hR.yields hCl hr (by decide) (by kernel_rfl) hR.fin (fun h => h) (fun _ _ h => h) (by rfl) rfl⟩
    | 4, _, hr =>
      as_aux_lemma =>
      refine wpOp_step rfl (fun K' hK => ?_)
      have e1 : t 6 = .slice A fs.length c := hR.val hCl hr (by kernel_rfl) (3, 6) (by simp) (dep_of hr 3 (by kernel_rfl))
      have hI2 := (hR.bef hCl hr (by kernel_rfl))
      go_simp
      refine (copy_any A c fs 1000 1000 5000 wy (HF.out.below hI2.below) HC.out (by omega) (by omega) (by omega)).mono ?_
      rintro e W' ⟨⟨v, vf, vl, rfl, hM⟩, hbl⟩
      obtain ⟨A', c', rfl, h1, vf, vl, h2⟩ := copy_got ⟨vf, vl, hM⟩
      exact hK _ _ ⟨upd t 7 (.slice A' (cpA fs 1000 1000 5000).length c'), by simp [upd, e1], hR.yields hCl hr (by decide) (by kernel_rfl) trivial (fun h => h.call hbl) (Slown.below hbl) ⟨A', c', vf, vl, rfl, h1, h2.lower (by have := hI2.size; simpa using this)⟩ rfl⟩
    | 5, _, hr =>
      as_aux_lemma =>
      refine wpOp_step rfl (fun K' hK => ?_)
      have e1 : t 4 = .int .i64 N := hR.val hCl hr (by kernel_rfl) (1, 4) (by simp) (dep_of hr 1 (by kernel_rfl))
      obtain ⟨A', c', vf, vl, e9, h1, h2⟩ : ∃ A' c' vf vl, t 7 = .slice A' (cpA fs 1000 1000 5000).length c' ∧ (cpA fs 1000 1000 5000).length ≤ c' ∧ MW (w.heap.size + 2) (.slice A' (cpA fs 1000 1000 5000).length c') (cpA fs 1000 1000 5000) (cpA fs 1000 1000 5000).length vf vl wy := hR.val hCl hr (by kernel_rfl) (4, 7) (by simp) (dep_of hr 4 (by kernel_rfl))
      go_simp
      exact hK _ _ ⟨upd t 8 (.agg #[.int .i64 N, .slice A' (cpA fs 1000 1000 5000).length c']), by simp [upd, e1, e9], hR.yields hCl hr (by decide) (by kernel_rfl) trivial (fun h => h) (fun _ _ h => h) ⟨A', c', vf, vl, rfl, h1, h2⟩ rfl⟩
    | 6, _, hr =>
      as_aux_lemma =>
      refine wpOp_step rfl (fun K' hK => ?_)
      obtain ⟨A', c', vf, vl, e9, h1, h2⟩ : ∃ A' c' vf vl, t 8 = .agg #[.int .i64 N, .slice A' (cpA fs 1000 1000 5000).length c'] ∧ (cpA fs 1000 1000 5000).length ≤ c' ∧ MW (w.heap.size + 2) (.slice A' (cpA fs 1000 1000 5000).length c') (cpA fs 1000 1000 5000) (cpA fs 1000 1000 5000).length vf vl wy := (hR.atEnd hr).2 (5, 8) (by simp) (dep_of hr 5 (by kernel_rfl))
      have hI2 := (hR.atEnd hr).1
      have m10 : wy.cell? ⟨w.heap.size + 1, 0, none⟩ = some (.int .i64 0) := hI2.cell 1 0 rfl rfl
      have z10 : wy.frozen? ⟨w.heap.size + 1, 0, none⟩ = false := hI2.frz 1 0 rfl
      have m11 : wy.cell? ⟨w.heap.size + 1, 1, none⟩ = some (.slice none 0 0) := hI2.cell 1 1 rfl rfl
      have z11 : wy.frozen? ⟨w.heap.size + 1, 1, none⟩ = false := hI2.frz 1 1 rfl
      have hE := hR.ends hr (W1 := (wy.setCell ⟨w.heap.size + 1, 0, none⟩ (.int .i64 N)).setCell ⟨w.heap.size + 1, 1, none⟩ (.slice A' (cpA fs 1000 1000 5000).length c')) trivial ⟨A', c', vf, vl, (hI2.ret 1 (.int .i64 N) (.slice A' (cpA fs 1000 1000 5000).length c') rfl).1, h1, h2.back (r := w.heap.size + 1) (by omega) _ _, (hI2.ret 1 (.int .i64 N) (.slice A' (cpA fs 1000 1000 5000).length c') rfl).2⟩
      clear h1 h2
      go_simp
      exact hK _ _ ⟨t, by simp [e9], hE⟩
    | nx + 7, hix, _ => exact absurd (show nx + 7 < 7 from hix) (by omega)
  rintro listed a2 W2 ⟨t, rfl, hR⟩ hl
  obtain ⟨A', c', vf, vl, hBl, h1, h2, h3⟩ := hR.new (hl 6 (by decide))
  clear hR hl
  generalize t 3 = u3
  generalize t 4 = u4
  generalize t 5 = u5
  generalize t 6 = u6
  generalize t 7 = u7
  generalize t 8 = u8
  have e00 := (blk_cells hBl).1 0 _ rfl
  have e01 := (blk_cells hBl).1 1 _ rfl
  clear hBl
  go_wp2
  refine bodyPost_ret (v := .agg #[.int .i64 N, .slice A' (cpA fs 1000 1000 5000).length c']) (by simp [results, Try.f22, go_sem, e00, e01]) rfl ?_
  exact ⟨⟨_, rfl, A', c', vf, vl, rfl, h1, h2.lower (by omega)⟩, h3⟩
def Srown (w : World) (A : Option Addr) (c : Nat) (N : Int) (fs : Fs) (d : Nat) (W : World) (v : Value) : Prop := match d with | 3 => v = .pointer (some ⟨w.heap.size, 0, none⟩) | 4 => v = .int .i64 N | 5 => v = .pointer (some ⟨w.heap.size, 1, none⟩) | 6 => v = .slice A fs.length c | 7 => v = .pointer (some ⟨w.heap.size, 1, none⟩) | 8 => v = .slice A fs.length c | 9 => v = .int .i64 fs.length | 10 => ∃ A' c' vf vl, v = .slice A' (cpA fs fs.length 401 2001).length c' ∧ (cpA fs fs.length 401 2001).length ≤ c' ∧ MW (w.heap.size + 2) (.slice A' (cpA fs fs.length 401 2001).length c') (cpA fs fs.length 401 2001) (cpA fs fs.length 401 2001).length vf vl W | 11 => ∃ A' c' vf vl, v = .agg #[.int .i64 N, .slice A' (cpA fs fs.length 401 2001).length c'] ∧ (cpA fs fs.length 401 2001).length ≤ c' ∧ MW (w.heap.size + 2) (.slice A' (cpA fs fs.length 401 2001).length c') (cpA fs fs.length 401 2001) (cpA fs fs.length 401 2001).length vf vl W | _ => True
theorem Srown.below {w : World} {A : Option Addr} {c : Nat} {N : Int} {fs : Fs} {W W1 : World} (hb : Below W.heap.size W W1) : ∀ d v, Srown w A c N fs d W v → Srown w A c N fs d W1 v := by
  intro d v h
  unfold Srown at h ⊢
  split at h
  all_goals first | exact h | (obtain ⟨A', c', vf, vl, h1, h2, h3⟩ := h; exact ⟨A', c', vf, vl, h1, h2, h3.belowW hb⟩)

end Go.Proofs.Ytealnhaffphamaa

namespace Go.Proofs.Ytealnhaffphamaa
open Go.RowKit Go.Shelf Go.Proofs.YtealnhaffphamaaW.PrintWords

/-- Whether an error and a model are right. -/
def FitP (N : Int) (fs : Fs) (e want : Int) (M : Int) (gs : Fs) : Prop := if want = 0 then e = 0 ∧ LikeP N M (cpA fs 1000 1000 5000) gs else e = want ∧ N = 0 ∧ fs.length = 0
theorem cpA_sm (fs : Fs) {a b c : Nat} (ha : a ≤ 1000000) (hb : b ≤ 1000000) (hc : c ≤ 1000000) : Sm (cpA fs a b c) := by
  refine ⟨by rw [cpA_len]; omega, fun f => ?_, fun f l => ?_⟩
  · by_cases h : f < a
    · rw [fcA_cpA_len fs h]; omega
    · have : fcA (cpA fs a b c) f = [] := by unfold fcA; rw [List.getD_eq_getElem?_getD, List.getElem?_eq_none (by rw [cpA_len]; omega)]; rfl
      rw [this]; simp
  · by_cases h : f < a
    · by_cases h2 : l < b
      · rw [lpA_cpA fs h h2, List.length_take]; omega
      · rw [lpA_none (by rw [fcA_cpA_len fs h]; omega)]; simp
    · rw [lpA_none (by rw [cpA_len]; omega)]; simp
def S3 (w : World) (A A2 : Option Addr) (c c2 : Nat) (N M : Int) (fs gs : Fs) (e : Int) (d : Nat) (W : World) (v : Value) : Prop := match d with | 25 => v = .int .i64 e | 26 => v = .bool true | 27 => v = .bool true | 28 => v = .agg #[.int .i64 N, .slice A fs.length c] | 30 => v = .agg #[.int .i64 M, .slice A2 gs.length c2] | 29 => Got w.heap.size N (cpA fs 1000 1000 5000) v W | 31 => ∃ b : Bool, v = .bool b ∧ (b = true ↔ LikeP N M (cpA fs 1000 1000 5000) gs) | 32 => ∃ b : Bool, v = .bool b ∧ (b = true ↔ LikeP N M (cpA fs 1000 1000 5000) gs) | 8 => ∃ b : Bool, v = .bool b ∧ (b = true ↔ LikeP N M (cpA fs 1000 1000 5000) gs) | _ => True
theorem Got.below {B : Nat} {N : Int} {fs : Fs} {v : Value} {W W1 : World} (h : Got B N fs v W) (hb : Below W.heap.size W W1) : Got B N fs v W1 := by
  obtain ⟨A, c, vf, vl, h1, h2, h3⟩ := h
  exact ⟨A, c, vf, vl, h1, h2, h3.belowW hb⟩
theorem S3.below {w : World} {A A2 : Option Addr} {c c2 : Nat} {N M : Int} {fs gs : Fs} {e : Int} {W W1 : World} (hb : Below W.heap.size W W1) : ∀ d v, S3 w A A2 c c2 N M fs gs e d W v → S3 w A A2 c c2 N M fs gs e d W1 v := by
  intro d v h
  unfold S3 at h ⊢
  split at h
  all_goals first | exact h | exact Got.below h hb
set_option maxRecDepth 100000 in
set_option maxHeartbeats 4000000 in
theorem fitL_any (N M : Int) (A A2 : Option Addr) (c c2 : Nat) (fs gs : Fs) (e want : Int) (w : World) (hF : RF w A fs) (hc : fs.length ≤ c) (hG : RF w A2 gs) (hc2 : gs.length ≤ c2) (hS2 : Sm gs) :
    Calls Try.prog 18 #[.agg #[.int .i64 N, .slice A fs.length c], .int .i64 e, .int .i64 want, .agg #[.int .i64 M, .slice A2 gs.length c2]] w fun r w' => (∃ b : Bool, r = .returned (.bool b) ∧ (b = true ↔ FitP N fs e want M gs)) ∧ Below w.heap.size w w' := by
  obtain ⟨W1, hW1⟩ : ∃ W1, W1 = (w.alloc (.cells #[.int .i64 N, .slice A fs.length c] 30)).alloc (.cells #[.int .i64 M, .slice A2 gs.length c2] 26) := ⟨_, rfl⟩
  have HOB : Hid (Obs [.cells #[.int .i64 N, .slice A fs.length c] 30, .cells #[.int .i64 M, .slice A2 gs.length c2] 26] w W1) := by rw [hW1]; exact Obs.two w _ _
  have HF := Lib.hid hF
  have HG := Lib.hid hG
  have HC := Lib.hid hc
  have HC2 := Lib.hid hc2
  have HS2 := Lib.hid hS2
  clear hF hG hc hc2 hS2
  go_enter Try.func18, Try.ntmps18
  go_upto_region 1 with fail
  rw [← hW1]
  clear hW1
  have m00 : W1.cell? ⟨w.heap.size, 0, none⟩ = some (.int .i64 N) := HOB.out.cell 0 0 rfl rfl
  have m01 : W1.cell? ⟨w.heap.size, 1, none⟩ = some (.slice A fs.length c) := HOB.out.cell 0 1 rfl rfl
  have m10 : W1.cell? ⟨w.heap.size + 1, 0, none⟩ = some (.int .i64 M) := HOB.out.cell 1 0 rfl rfl
  have m11 : W1.cell? ⟨w.heap.size + 1, 1, none⟩ = some (.slice A2 gs.length c2) := HOB.out.cell 1 1 rfl rfl
  by_cases hw : want = 0
  · subst hw
    go_upto_region 3 with fail
    clear m00 m01 m10 m11
    by_cases he : e = 0
    · subst he
      refine wp_region_inv' (by kernel_rfl) (by kernel_rfl) (fun listed aa wy => ∃ t : Nat → Value, aa = { tmps := #[.agg #[.int .i64 N, .slice A fs.length c], .int .i64 0, .int .i64 0, .agg #[.int .i64 M, .slice A2 gs.length c2], .pointer (some ⟨w.heap.size, 0, none⟩), undef, undef, .pointer (some ⟨w.heap.size + 1, 0, none⟩), t 8, .int .i64 0, .bool false, undef, undef, undef, undef, undef, undef, undef, undef, undef, undef, undef, undef, undef, undef, t 25, t 26, t 27, t 28, t 29, t 30, t 31, t 32], defers := [] } ∧ IR (fun wz => Obs [.cells #[.int .i64 N, .slice A fs.length c] 30, .cells #[.int .i64 M, .slice A2 gs.length c2] 26] w wz) (S3 w A A2 c c2 N M fs gs 0) [(0, 25), (1, 26), (2, 27), (3, 28), (4, 29), (5, 30), (6, 31), (7, 32), (8, 8)] listed t wy) ⟨(fun d => match d with | 8 => .bool false | 25 => undef | 26 => undef | 27 => undef | 28 => undef | 29 => undef | 30 => undef | 31 => undef | 32 => undef | _ => undef), rfl, IR.start _ (HOB.out.grown (grown_drew _)) _⟩ ?_ ?_
      rotate_left
      · rintro listed hCl ix hix aa wy ⟨t, rfl, hR⟩ hr
        match ix, hix, hr with
        | 0, _, hr =>
          as_aux_lemma =>
          refine wpOp_step rfl (fun K' hK => ?_)
          go_simp
          exact hK _ _ ⟨upd t 25 (.int .i64 0), rfl, hR.yields hR.fin (fun _ _ h => h) (by rfl) rfl⟩
        | 1, _, hr =>
          as_aux_lemma =>
          refine wpOp_step rfl (fun K' hK => ?_)
          have e1 : t 25 = .int .i64 0 := hR.val (0, 25) (by simp) (dep_of hr 0 (by kernel_rfl))
          go_simp
          exact hK _ _ ⟨upd t 26 (.bool true), by simp [upd, e1], hR.yields hR.fin (fun _ _ h => h) (by rfl) rfl⟩
        | 2, _, hr =>
          as_aux_lemma =>
          refine wpOp_step rfl (fun K' hK => ?_)
          have e1 : t 26 = .bool true := hR.val (1, 26) (by simp) (dep_of hr 1 (by kernel_rfl))
          go_simp
          exact hK _ _ ⟨upd t 27 (.bool true), by simp [upd, e1], hR.yields hR.fin (fun _ _ h => h) (by rfl) rfl⟩
        | 3, _, hr =>
          as_aux_lemma =>
          refine wpOp_step rfl (fun K' hK => ?_)
          have e1 : t 27 = .bool true := hR.val (2, 27) (by simp) (dep_of hr 2 (by kernel_rfl))
          have f0 : wy.cell? ⟨w.heap.size, 0, none⟩ = some (.int .i64 N) := (hR.fin).cell 0 0 rfl rfl
          have f1 : wy.cell? ⟨w.heap.size, 1, none⟩ = some (.slice A fs.length c) := (hR.fin).cell 0 1 rfl rfl
          go_simp
          exact hK _ _ ⟨upd t 28 (.agg #[.int .i64 N, .slice A fs.length c]), by simp [upd, e1], hR.yields hR.fin (fun _ _ h => h) (by rfl) rfl⟩
        | 4, _, hr =>
          as_aux_lemma =>
          refine wpOp_step rfl (fun K' hK => ?_)
          have e1 : t 28 = .agg #[.int .i64 N, .slice A fs.length c] := hR.val (3, 28) (by simp) (dep_of hr 3 (by kernel_rfl))
          have e2 : t 27 = .bool true := hR.val (2, 27) (by simp) (dep_of hr 2 (by kernel_rfl))
          have hI2 := hR.fin
          go_simp
          refine (lown_any N A c fs wy (HF.out.below hI2.below) HC.out).mono ?_
          rintro e' W' ⟨⟨v, rfl, hG⟩, hbl⟩
          obtain ⟨A', c', vf, vl, rfl, h1, h2⟩ := hG
          exact hK _ _ ⟨upd t 29 (.agg #[.int .i64 N, .slice A' (cpA fs 1000 1000 5000).length c']), by simp [upd, e1, e2], hR.yields (hI2.call hbl) (S3.below hbl) ⟨A', c', vf, vl, rfl, h1, h2.lower (by have := hI2.below.size; omega)⟩ rfl⟩
        | 5, _, hr =>
          as_aux_lemma =>
          refine wpOp_step rfl (fun K' hK => ?_)
          have e1 : t 27 = .bool true := hR.val (2, 27) (by simp) (dep_of hr 2 (by kernel_rfl))
          have f0 : wy.cell? ⟨w.heap.size + 1, 0, none⟩ = some (.int .i64 M) := (hR.fin).cell 1 0 rfl rfl
          have f1 : wy.cell? ⟨w.heap.size + 1, 1, none⟩ = some (.slice A2 gs.length c2) := (hR.fin).cell 1 1 rfl rfl
          go_simp
          exact hK _ _ ⟨upd t 30 (.agg #[.int .i64 M, .slice A2 gs.length c2]), by simp [upd, e1], hR.yields hR.fin (fun _ _ h => h) (by rfl) rfl⟩
        | 6, _, hr =>
          as_aux_lemma =>
          refine wpOp_step rfl (fun K' hK => ?_)
          have e1 : t 30 = .agg #[.int .i64 M, .slice A2 gs.length c2] := hR.val (5, 30) (by simp) (dep_of hr 5 (by kernel_rfl))
          have e2 : t 27 = .bool true := hR.val (2, 27) (by simp) (dep_of hr 2 (by kernel_rfl))
          have hI2 := hR.fin
          have hgt : Got w.heap.size N (cpA fs 1000 1000 5000) (t 29) wy := hR.val (4, 29) (by simp) (dep_of hr 4 (by kernel_rfl))
          obtain ⟨A', c', e9, h1, h2⟩ := hgt.rf
          go_simp
          refine (like_any N M A' A2 c' c2 (cpA fs 1000 1000 5000) gs wy h2 h1 (HG.out.below hI2.below) HC2.out (cpA_sm fs (by omega) (by omega) (by omega)) HS2.out).mono ?_
          rintro e' W' ⟨⟨b, rfl, hb⟩, hbl⟩
          exact hK _ _ ⟨upd t 31 (.bool b), by simp [upd, e1, e2, e9], hR.yields (hI2.call hbl) (S3.below hbl) ⟨b, rfl, hb⟩ rfl⟩
        | 7, _, hr =>
          as_aux_lemma =>
          refine wpOp_step rfl (fun K' hK => ?_)
          have e1 : t 27 = .bool true := hR.val (2, 27) (by simp) (dep_of hr 2 (by kernel_rfl))
          obtain ⟨b, e9, hb⟩ : ∃ b : Bool, t 31 = .bool b ∧ (b = true ↔ LikeP N M (cpA fs 1000 1000 5000) gs) := hR.val (6, 31) (by simp) (dep_of hr 6 (by kernel_rfl))
          go_simp
          exact hK _ _ ⟨upd t 32 (.bool b), by simp [upd, e1, e9], hR.yields hR.fin (fun _ _ h => h) ⟨b, rfl, hb⟩ rfl⟩
        | 8, _, hr =>
          as_aux_lemma =>
          refine wpOp_step rfl (fun K' hK => ?_)
          obtain ⟨b, e9, hb⟩ : ∃ b : Bool, t 32 = .bool b ∧ (b = true ↔ LikeP N M (cpA fs 1000 1000 5000) gs) := hR.val (7, 32) (by simp) (dep_of hr 7 (by kernel_rfl))
          go_simp
          exact hK _ _ ⟨upd t 8 (.bool b), by simp [upd, e9], hR.yields hR.fin (fun _ _ h => h) ⟨b, rfl, hb⟩ rfl⟩
        | nx + 9, hix, _ => exact absurd (show nx + 9 < 9 from hix) (by omega)
      rintro listed a2 W3 ⟨t, rfl, hR⟩ hl
      have hO3 := hR.fin
      obtain ⟨b, e8, hb⟩ : ∃ b : Bool, t 8 = .bool b ∧ (b = true ↔ LikeP N M (cpA fs 1000 1000 5000) gs) := hR.val (8, 8) (by simp) (hl 8 (by decide))
      clear hR hl
      rw [e8]
      clear e8
      generalize t 25 = u25
      generalize t 26 = u26
      generalize t 27 = u27
      generalize t 28 = u28
      generalize t 29 = u29
      generalize t 30 = u30
      generalize t 31 = u31
      generalize t 32 = u32
      go_wp2
      go_ret
      exact ⟨⟨b, rfl, by unfold FitP; rw [if_pos rfl]; simpa using hb⟩, hO3.below⟩
    · have HE := Lib.hid he
      have he2 : ¬ e = 0 := he
      refine wp_region_inv' (by kernel_rfl) (by kernel_rfl) (fun listed aa wy => ∃ t : Nat → Value, aa = { tmps := #[.agg #[.int .i64 N, .slice A fs.length c], .int .i64 e, .int .i64 0, .agg #[.int .i64 M, .slice A2 gs.length c2], .pointer (some ⟨w.heap.size, 0, none⟩), undef, undef, .pointer (some ⟨w.heap.size + 1, 0, none⟩), t 8, .int .i64 0, .bool false, undef, undef, undef, undef, undef, undef, undef, undef, undef, undef, undef, undef, undef, undef, t 25, t 26, t 27, t 28, t 29, t 30, t 31, t 32], defers := [] } ∧ IR (fun wz => Obs [.cells #[.int .i64 N, .slice A fs.length c] 30, .cells #[.int .i64 M, .slice A2 gs.length c2] 26] w wz) (fun d (_ : World) v => match d with | 25 => v = .int .i64 e | 26 => v = .bool false | 27 => v = .bool false | 28 => v = undef | 29 => v = undef | 30 => v = undef | 31 => v = undef | 32 => v = .bool false | 8 => v = .bool false | _ => True) [(0, 25), (1, 26), (2, 27), (3, 28), (4, 29), (5, 30), (6, 31), (7, 32), (8, 8)] listed t wy) ⟨(fun d => match d with | 8 => .bool false | 25 => undef | 26 => undef | 27 => undef | 28 => undef | 29 => undef | 30 => undef | 31 => undef | 32 => undef | _ => undef), rfl, IR.start _ (HOB.out.grown (grown_drew _)) _⟩ ?_ ?_
      rotate_left
      · rintro listed hCl ix hix aa wy ⟨t, rfl, hR⟩ hr
        match ix, hix, hr with
        | 0, _, hr =>
          as_aux_lemma =>
          refine wpOp_step rfl (fun K' hK => ?_)
          go_simp
          exact hK _ _ ⟨upd t 25 (.int .i64 e), rfl, hR.yields hR.fin (fun _ _ h => h) (by rfl) rfl⟩
        | 1, _, hr =>
          as_aux_lemma =>
          refine wpOp_step rfl (fun K' hK => ?_)
          have e1 : t 25 = .int .i64 e := hR.val (0, 25) (by simp) (dep_of hr 0 (by kernel_rfl))
          go_simp
          exact hK _ _ ⟨upd t 26 (.bool false), by have h := HE.out; simp [upd, e1, h], hR.yields hR.fin (fun _ _ h => h) (by rfl) rfl⟩
        | 2, _, hr =>
          as_aux_lemma =>
          refine wpOp_step rfl (fun K' hK => ?_)
          have e1 : t 26 = .bool false := hR.val (1, 26) (by simp) (dep_of hr 1 (by kernel_rfl))
          go_simp
          exact hK _ _ ⟨upd t 27 (.bool false), by simp [upd, e1], hR.yields hR.fin (fun _ _ h => h) (by rfl) rfl⟩
        | 3, _, hr =>
          as_aux_lemma =>
          refine wpOp_step rfl (fun K' hK => ?_)
          have e1 : t 27 = .bool false := hR.val (2, 27) (by simp) (dep_of hr 2 (by kernel_rfl))
          go_simp
          exact hK _ _ ⟨upd t 28 (undef), by simp [upd, e1], hR.yields hR.fin (fun _ _ h => h) (by rfl) rfl⟩
        | 4, _, hr =>
          as_aux_lemma =>
          refine wpOp_step rfl (fun K' hK => ?_)
          have e1 : t 28 = undef := hR.val (3, 28) (by simp) (dep_of hr 3 (by kernel_rfl))
          have e2 : t 27 = .bool false := hR.val (2, 27) (by simp) (dep_of hr 2 (by kernel_rfl))
          go_simp
          exact hK _ _ ⟨upd t 29 (undef), by simp [upd, e1, e2], hR.yields hR.fin (fun _ _ h => h) (by rfl) rfl⟩
        | 5, _, hr =>
          as_aux_lemma =>
          refine wpOp_step rfl (fun K' hK => ?_)
          have e1 : t 27 = .bool false := hR.val (2, 27) (by simp) (dep_of hr 2 (by kernel_rfl))
          go_simp
          exact hK _ _ ⟨upd t 30 (undef), by simp [upd, e1], hR.yields hR.fin (fun _ _ h => h) (by rfl) rfl⟩
        | 6, _, hr =>
          as_aux_lemma =>
          refine wpOp_step rfl (fun K' hK => ?_)
          have e1 : t 29 = undef := hR.val (4, 29) (by simp) (dep_of hr 4 (by kernel_rfl))
          have e2 : t 30 = undef := hR.val (5, 30) (by simp) (dep_of hr 5 (by kernel_rfl))
          have e3 : t 27 = .bool false := hR.val (2, 27) (by simp) (dep_of hr 2 (by kernel_rfl))
          go_simp
          exact hK _ _ ⟨upd t 31 (undef), by simp [upd, e1, e2, e3], hR.yields hR.fin (fun _ _ h => h) (by rfl) rfl⟩
        | 7, _, hr =>
          as_aux_lemma =>
          refine wpOp_step rfl (fun K' hK => ?_)
          have e1 : t 27 = .bool false := hR.val (2, 27) (by simp) (dep_of hr 2 (by kernel_rfl))
          have e2 : t 31 = undef := hR.val (6, 31) (by simp) (dep_of hr 6 (by kernel_rfl))
          go_simp
          exact hK _ _ ⟨upd t 32 (.bool false), by simp [upd, e1, e2], hR.yields hR.fin (fun _ _ h => h) (by rfl) rfl⟩
        | 8, _, hr =>
          as_aux_lemma =>
          refine wpOp_step rfl (fun K' hK => ?_)
          have e1 : t 32 = .bool false := hR.val (7, 32) (by simp) (dep_of hr 7 (by kernel_rfl))
          go_simp
          exact hK _ _ ⟨upd t 8 (.bool false), by simp [upd, e1], hR.yields hR.fin (fun _ _ h => h) (by rfl) rfl⟩
        | nx + 9, hix, _ => exact absurd (show nx + 9 < 9 from hix) (by omega)
      rintro listed a2 W3 ⟨t, rfl, hR⟩ hl
      have hO3 := hR.fin
      have e8 : t 8 = .bool false := hR.val (8, 8) (by simp) (hl 8 (by decide))
      clear hR hl
      rw [e8]
      clear e8
      generalize t 25 = u25
      generalize t 26 = u26
      generalize t 27 = u27
      generalize t 28 = u28
      generalize t 29 = u29
      generalize t 30 = u30
      generalize t 31 = u31
      generalize t 32 = u32
      go_wp2
      go_ret
      exact ⟨⟨false, rfl, by unfold FitP; rw [if_pos rfl]; simp; exact fun h => absurd h HE.out⟩, hO3.below⟩
  · have HW := Lib.hid hw
    have hw2 : ¬ want = 0 := hw
    by_cases h1 : e = want
    · have HE := Lib.hid h1
      by_cases h2 : N = 0
      · have HN := Lib.hid h2
        go_wp2
        go_ret
        exact ⟨⟨_, rfl, by unfold FitP; rw [if_neg HW.out]; have h1 := HE.out; have h2 := HN.out; simp [h1, h2]⟩, HOB.out.below⟩
      · have HN := Lib.hid h2
        go_wp2
        go_ret
        exact ⟨⟨false, rfl, by unfold FitP; rw [if_neg HW.out]; simp; exact fun _ h => absurd h HN.out⟩, HOB.out.below⟩
    · have HE := Lib.hid h1
      go_wp2
      go_ret
      exact ⟨⟨false, rfl, by unfold FitP; rw [if_neg HW.out]; simp; exact fun h => absurd h HE.out⟩, HOB.out.below⟩

end Go.Proofs.Ytealnhaffphamaa

namespace Go.Proofs.Ytealnhaffphamaa

/-- m with one more. -/
def mark (m : Nat → Bool) (f : Nat) : Nat → Bool := fun g => if g = f then true else m g
/-- What a search from f finds that m has not met, and what has been met behind it. -/
def growF (nr : Nat → List Nat) : Nat → Nat → (Nat → Bool) → List Nat × (Nat → Bool)
  | 0, _, m => ([], m)
  | k + 1, f, m => if m f then ([], m) else
      (nr f).foldl (fun (acc : List Nat × (Nat → Bool)) g => (acc.1 ++ (growF nr k g acc.2).1, (growF nr k g acc.2).2)) ([f], mark m f)
def growL (nr : Nat → List Nat) (k : Nat) (l : List Nat) (acc : List Nat × (Nat → Bool)) : List Nat × (Nat → Bool) :=
  l.foldl (fun (acc : List Nat × (Nat → Bool)) g => (acc.1 ++ (growF nr k g acc.2).1, (growF nr k g acc.2).2)) acc
theorem growL_cons (nr : Nat → List Nat) (k g : Nat) (l : List Nat) (acc : List Nat × (Nat → Bool)) : growL nr k (g :: l) acc = growL nr k l (acc.1 ++ (growF nr k g acc.2).1, (growF nr k g acc.2).2) := rfl
theorem growL_snoc (nr : Nat → List Nat) (k g : Nat) (l : List Nat) (acc : List Nat × (Nat → Bool)) : growL nr k (l ++ [g]) acc = ((growL nr k l acc).1 ++ (growF nr k g (growL nr k l acc).2).1, (growF nr k g (growL nr k l acc).2).2) := by
  unfold growL; rw [List.foldl_append]; rfl
theorem growF_met {nr : Nat → List Nat} {k f : Nat} {m : Nat → Bool} (h : m f = true) : growF nr k f m = ([], m) := by
  cases k with
  | zero => rfl
  | succ k => simp [growF, h]
theorem growF_new {nr : Nat → List Nat} {k f : Nat} {m : Nat → Bool} (h : m f = false) : growF nr (k + 1) f m = growL nr k (nr f) ([f], mark m f) := by
  simp [growF, h, growL]
/-- How many are not met. -/
def unmet (F : Nat) (m : Nat → Bool) : Nat := ((List.range F).filter fun f => !m f).length
theorem unmet_mark {F f : Nat} {m : Nat → Bool} (hf : f < F) (h : m f = false) : unmet F (mark m f) + 1 = unmet F m := by
  unfold unmet
  induction F with
  | zero => omega
  | succ F ih =>
    rw [List.range_succ, List.filter_append, List.filter_append, List.length_append, List.length_append]
    by_cases e : f = F
    · subst e
      have e1 : List.filter (fun g => !mark m f g) (List.range f) = List.filter (fun g => !m g) (List.range f) := by
        refine List.filter_congr (fun g hg => ?_)
        have := List.mem_range.1 hg
        simp [mark, show g ≠ f by omega]
      rw [e1]
      simp [mark, h]
    · have := ih (by omega)
      have e2 : mark m f F = m F := by simp [mark, show ¬ F = f by omega]
      have e3 : List.filter (fun g => !mark m f g) [F] = List.filter (fun g => !m g) [F] := by simp [List.filter_cons, e2]
      rw [e3]
      omega
theorem unmet_pos {F f : Nat} {m : Nat → Bool} (hf : f < F) (h : m f = false) : 0 < unmet F m := by have := unmet_mark hf h; omega
theorem unmet_le {F : Nat} {m m' : Nat → Bool} (h : ∀ g, m g = true → m' g = true) : unmet F m' ≤ unmet F m := by
  unfold unmet
  induction F with
  | zero => simp
  | succ F ih =>
    rw [List.range_succ, List.filter_append, List.filter_append, List.length_append, List.length_append]
    have : (List.filter (fun g => !m' g) [F]).length ≤ (List.filter (fun g => !m g) [F]).length := by
      simp only [List.filter_cons, List.filter_nil]
      cases hm : m F with
      | true => simp [h F hm]
      | false => simp; split <;> simp
    omega
theorem unmet_top (F : Nat) (m : Nat → Bool) : unmet F m ≤ F := by
  unfold unmet
  have := List.length_filter_le (fun f => !m f) (List.range F)
  simpa using this
/-- What a search does, whatever the order: what it finds has not been met, each once; the rest is as it was; the number. -/
structure GrowOk (F : Nat) (m : Nat → Bool) (out : List Nat) (m' : Nat → Bool) : Prop where
  met : ∀ g, m' g = (m g || out.contains g)
  new : ∀ g ∈ out, g < F ∧ m g = false
  nodup : out.Nodup
  count : out.length + unmet F m' = unmet F m
theorem GrowOk.nil (F : Nat) (m : Nat → Bool) : GrowOk F m [] m := ⟨fun g => by simp, fun g h => by simp at h, List.nodup_nil, by simp⟩
theorem GrowOk.one {F f : Nat} {m : Nat → Bool} (hf : f < F) (h : m f = false) : GrowOk F m [f] (mark m f) :=
  ⟨fun g => by
    unfold mark
    by_cases e : g = f
    · simp [e]
    · simp [e], fun g hg => by rw [List.mem_singleton.1 hg]; exact ⟨hf, h⟩, by simp, by have := unmet_mark hf h; simp; omega⟩
theorem GrowOk.app {F : Nat} {m m1 m2 : Nat → Bool} {a b : List Nat} (h1 : GrowOk F m a m1) (h2 : GrowOk F m1 b m2) : GrowOk F m (a ++ b) m2 := by
  refine ⟨fun g => ?_, fun g hg => ?_, ?_, ?_⟩
  · rw [h2.met, h1.met]
    simp [Bool.or_assoc]
  · rcases List.mem_append.1 hg with hg | hg
    · exact h1.new g hg
    · obtain ⟨a1, a2⟩ := h2.new g hg
      rw [h1.met] at a2
      simp at a2
      exact ⟨a1, a2.1⟩
  · rw [List.nodup_append]
    refine ⟨h1.nodup, h2.nodup, fun x hx y hy e => ?_⟩
    subst e
    have := (h2.new x hy).2
    rw [h1.met] at this
    simp [hx] at this
  · have e1 := h1.count; have e2 := h2.count
    rw [List.length_append]; omega
theorem grow_ok (F : Nat) (nr : Nat → List Nat) (hnr : ∀ f, ∀ g ∈ nr f, g < F) : ∀ (k f : Nat) (m : Nat → Bool), f < F → GrowOk F m (growF nr k f m).1 (growF nr k f m).2 := by
  intro k
  induction k with
  | zero => intro f m _; exact GrowOk.nil F m
  | succ k ih =>
    intro f m hf
    cases hm : m f with
    | true => rw [growF_met hm]; exact GrowOk.nil F m
    | false =>
      rw [growF_new hm]
      have hl : ∀ (l : List Nat) (acc : List Nat × (Nat → Bool)), (∀ g ∈ l, g < F) → GrowOk F m acc.1 acc.2 → GrowOk F m (growL nr k l acc).1 (growL nr k l acc).2 := by
        intro l
        induction l with
        | nil => intro acc _ h; exact h
        | cons g l ihl =>
          intro acc hl h
          rw [growL_cons]
          exact ihl _ (fun g' hg' => hl g' (by simp [hg'])) (h.app (ih g acc.2 (hl g (by simp))))
      exact hl (nr f) _ (hnr f) (GrowOk.one hf hm)
theorem growL_ok (F : Nat) (nr : Nat → List Nat) (hnr : ∀ f, ∀ g ∈ nr f, g < F) (k : Nat) (m : Nat → Bool) : ∀ (l : List Nat) (acc : List Nat × (Nat → Bool)), (∀ g ∈ l, g < F) → GrowOk F m acc.1 acc.2 → GrowOk F m (growL nr k l acc).1 (growL nr k l acc).2 := by
  intro l
  induction l with
  | nil => intro acc _ h; exact h
  | cons g l ihl =>
    intro acc hl h
    rw [growL_cons]
    exact ihl _ (fun g' hg' => hl g' (by simp [hg'])) (h.app (grow_ok F nr hnr k g acc.2 (hl g (by simp))))
/-- With rounds enough, what is found is closed. -/
theorem grow_closed (F : Nat) (nr : Nat → List Nat) (hnr : ∀ f, ∀ g ∈ nr f, g < F) : ∀ (k f : Nat) (m : Nat → Bool), f < F → unmet F m ≤ k → (growF nr k f m).2 f = true ∧ ∀ x ∈ (growF nr k f m).1, ∀ y ∈ nr x, (growF nr k f m).2 y = true := by
  intro k
  induction k with
  | zero =>
    intro f m hf hk
    have : m f = true := by
      cases hm : m f with
      | true => rfl
      | false => have := unmet_pos hf hm; omega
    rw [growF_met this]
    exact ⟨this, fun x hx => by simp at hx⟩
  | succ k ih =>
    intro f m hf hk
    cases hm : m f with
    | true => rw [growF_met hm]; exact ⟨hm, fun x hx => by simp at hx⟩
    | false =>
      rw [growF_new hm]
      have hmk := unmet_mark hf hm
      -- P: closed but for f's own neighbours
      have hl : ∀ (l : List Nat) (acc : List Nat × (Nat → Bool)), (∀ g ∈ l, g < F) → GrowOk F m acc.1 acc.2 → unmet F acc.2 ≤ k → (∀ x ∈ acc.1, x ≠ f → ∀ y ∈ nr x, acc.2 y = true) →
          (∀ g, acc.2 g = true → (growL nr k l acc).2 g = true) ∧ (∀ g ∈ l, (growL nr k l acc).2 g = true) ∧ (∀ x ∈ (growL nr k l acc).1, x ≠ f → ∀ y ∈ nr x, (growL nr k l acc).2 y = true) := by
        intro l
        induction l with
        | nil => intro acc _ _ _ h; exact ⟨fun g hg => hg, fun g hg => by simp at hg, h⟩
        | cons g l ihl =>
          intro acc hlt hok hu hc
          rw [growL_cons]
          have hg := grow_ok F nr hnr k g acc.2 (hlt g (by simp))
          obtain ⟨c1, c2⟩ := ih g acc.2 (hlt g (by simp)) hu
          have hmono : ∀ z, acc.2 z = true → (growF nr k g acc.2).2 z = true := fun z hz => by rw [hg.met, hz]; rfl
          obtain ⟨d1, d2, d3⟩ := ihl (acc.1 ++ (growF nr k g acc.2).1, (growF nr k g acc.2).2) (fun g' hg' => hlt g' (by simp [hg'])) (hok.app hg) (Nat.le_trans (unmet_le hmono) hu) (fun x hx hxf y hy => by
            rcases List.mem_append.1 hx with hx | hx
            · exact hmono y (hc x hx hxf y hy)
            · exact c2 x hx y hy)
          refine ⟨fun z hz => d1 z (hmono z hz), fun z hz => ?_, d3⟩
          rcases List.mem_cons.1 hz with rfl | hz
          · exact d1 _ c1
          · exact d2 z hz
      obtain ⟨d1, d2, d3⟩ := hl (nr f) ([f], mark m f) (hnr f) (GrowOk.one hf hm) (by show unmet F (mark m f) ≤ k; omega) (fun x hx hxf => absurd (by simpa using hx) hxf)
      refine ⟨d1 f (by simp [mark]), fun x hx y hy => ?_⟩
      by_cases e : x = f
      · subst e; exact d2 y hy
      · exact d3 x hx e y hy
/-- All that is found hangs together with f. -/
inductive Reach (nr : Nat → List Nat) : Nat → Nat → Prop
  | refl (f : Nat) : Reach nr f f
  | step {f g h : Nat} (hg : g ∈ nr f) (hh : Reach nr g h) : Reach nr f h
theorem Reach.trans {nr : Nat → List Nat} {a b c : Nat} (h1 : Reach nr a b) (h2 : Reach nr b c) : Reach nr a c := by
  induction h1 with
  | refl => exact h2
  | step hg _ ih => exact .step hg (ih h2)
theorem grow_reach (nr : Nat → List Nat) : ∀ (k f : Nat) (m : Nat → Bool), ∀ x ∈ (growF nr k f m).1, Reach nr f x := by
  intro k
  induction k with
  | zero => intro f m x hx; simp [growF] at hx
  | succ k ih =>
    intro f m x hx
    cases hm : m f with
    | true => rw [growF_met hm] at hx; simp at hx
    | false =>
      rw [growF_new hm] at hx
      have hl : ∀ (l : List Nat) (acc : List Nat × (Nat → Bool)), (∀ g ∈ l, g ∈ nr f) → (∀ z ∈ acc.1, Reach nr f z) → ∀ z ∈ (growL nr k l acc).1, Reach nr f z := by
        intro l
        induction l with
        | nil => intro acc _ h; exact h
        | cons g l ihl =>
          intro acc hl h
          rw [growL_cons]
          refine ihl _ (fun g' hg' => hl g' (by simp [hg'])) (fun z hz => ?_)
          rcases List.mem_append.1 hz with hz | hz
          · exact h z hz
          · exact .step (hl g (by simp)) (ih g acc.2 z hz)
      exact hl (nr f) _ (fun g hg => hg) (fun z hz => by rw [List.mem_singleton.1 hz]; exact .refl f) x hx

end Go.Proofs.Ytealnhaffphamaa
