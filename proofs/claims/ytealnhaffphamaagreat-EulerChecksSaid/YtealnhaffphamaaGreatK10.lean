/- Contracts of the functions that the statement reaches, and plain lemmas: part 10 of 29. -/
import Derived.Test.YtealnhaffphamaaGreatK08
import Derived.Test.YtealnhaffphamaaGreatK09
import Derived.Sort.OwnSorted
import Derived.Test.YtealnhaffphamaaGreatK01
set_option linter.unusedVariables false
set_option linter.unusedSimpArgs false

namespace Go.Proofs.YtealnhaffphamaaGreat
open Go.RowKit Go.Proofs.YtealnhaffphamaaGreatW.PrintWords

def setL (fs : Fs) (f l : Nat) (x : List Int) : Fs := fs.set f ((fcA fs f).set l x)
theorem setL_len (fs : Fs) (f l : Nat) (x : List Int) : (setL fs f l x).length = fs.length := by simp [setL]
theorem fcA_setL {fs : Fs} {f : Nat} (hf : f < fs.length) (l : Nat) (x : List Int) (f' : Nat) : fcA (setL fs f l x) f' = if f' = f then (fcA fs f).set l x else fcA fs f' := by
  unfold setL
  show (fs.set f _).getD f' [] = _
  rw [List.getD_eq_getElem?_getD, List.getElem?_set]
  by_cases e : f' = f
  · rw [if_pos e.symm, if_pos e, if_pos (by omega)]; rfl
  · rw [if_neg (fun q => e q.symm), if_neg e]; simp [fcA, List.getD_eq_getElem?_getD]
theorem lA_set {ls : List (List Int)} {l : Nat} (hl : l < ls.length) (x : List Int) (l' : Nat) : lA (ls.set l x) l' = if l' = l then x else lA ls l' := by
  show (ls.set l _).getD l' [] = _
  rw [List.getD_eq_getElem?_getD, List.getElem?_set]
  by_cases e : l' = l
  · rw [if_pos e.symm, if_pos e, if_pos (by omega)]; rfl
  · rw [if_neg (fun q => e q.symm), if_neg e]; simp [lA, List.getD_eq_getElem?_getD]
theorem map_range_set (k l : Nat) (lv : Nat → Value) (u : Value) : ((List.range k).map lv).set l u = (List.range k).map (fun j => if j = l then u else lv j) := by
  refine List.ext_getElem (by simp) (fun j h1 h2 => ?_)
  rw [List.getElem_set]
  simp only [List.getElem_map, List.getElem_range]
  by_cases e : l = j
  · rw [if_pos e, if_pos e.symm]
  · rw [if_neg e, if_neg (fun q => e q.symm)]
section
variable {base b cap : Nat} {fv v u : Value} {ls : List (List Int)} {fs : Fs} {lv vf : Nat → Value} {vl : Nat → Nat → Value} {W : World}
theorem FW.put (h : FW base fv ls ls.length lv W) {l : Nat} (hl : l < ls.length) {x : List Int} (hu : W.ownsRow base 3 1 u x.length (intsV x)) (hv : fv = .slice (some ⟨b, 0, none⟩) ls.length cap) :
    FW base fv (ls.set l x) (ls.set l x).length (fun j => if j = l then u else lv j) (W.setCell ⟨b, l, none⟩ u) := by
  subst hv
  have hb : (Value.slice (some ⟨b, 0, none⟩) ls.length cap).ownBlock = some b := rfl
  refine ⟨?_, fun j hj => ?_⟩
  · rw [List.length_set, ← map_range_set]
    exact (World.ownsRow.stored h.own l u).1
  · rw [List.length_set] at hj
    rw [lA_set hl]
    by_cases e : j = l
    · rw [if_pos e, if_pos e]
      exact own_keptB hu (grown_set _ _ _ _) (fun r q => by cases q; exact own_other_types h.own hu (by decide) hb)
    · rw [if_neg e, if_neg e]
      exact own_keptB (h.ownL j hj) (grown_set _ _ _ _) (fun r q => by cases q; exact own_other_types h.own (h.ownL j hj) (by decide) hb)
theorem MW.put (h : MW base v fs fs.length vf vl W) {f l : Nat} (hf : f < fs.length) (hl : l < (fcA fs f).length) {x : List Int} (hu : W.ownsRow base 3 1 u x.length (intsV x)) (hv : vf f = .slice (some ⟨b, 0, none⟩) (fcA fs f).length cap) :
    MW base v (setL fs f l x) (setL fs f l x).length vf (fun f' => if f' = f then (fun j => if j = l then u else vl f j) else vl f') (W.setCell ⟨b, l, none⟩ u) := by
  have hb : (vf f).ownBlock = some b := by rw [hv]; rfl
  refine ⟨?_, fun f' hf' => ?_, ?_⟩
  · rw [setL_len]
    exact own_keptB h.own (grown_set _ _ _ _) (fun r q => by cases q; exact own_other_types (h.face f hf).own h.own (by decide) hb)
  · rw [setL_len] at hf'
    rw [fcA_setL hf]
    by_cases e : f' = f
    · subst e
      rw [if_pos rfl, if_pos rfl]
      exact (h.face f' hf).put hl hu hv
    · rw [if_neg e, if_neg e]
      refine (h.face f' hf').kept (grown_set _ _ _ _) (fun r q hFB => ?_)
      cases q
      rcases hFB with hFB | ⟨j, hj, hFB⟩
      · rcases h.dis f' hf' f hf e with q | q
        · rw [q] at hFB; cases hFB
        · exact q (hFB.trans hb.symm)
      · exact own_other_types (h.face f hf).own ((h.face f' hf').ownL j hj) (by decide) hb hFB
  · rw [setL_len]; exact h.dis
end
/-- Whether a place is one. -/
def HasP (fs : Fs) (f l i : Int) : Prop := 0 ≤ f ∧ f < fs.length ∧ 0 ≤ l ∧ l < (fcA fs f.toNat).length ∧ 0 ≤ i ∧ i < (lpA fs f.toNat l.toNat).length
theorem has_f (N : Int) (fs : Fs) (f l i : Int) : ∃ r, PHas.euler_Model_has.f N fs f l i = some r ∧ (r = true ↔ HasP fs f l i) := by
  unfold PHas.euler_Model_has.f HasP
  have e1 : PHas.rd_L2 fs f = fcA fs f.toNat := rfl
  have e2 : PHas.rd_L1 (fcA fs f.toNat) l = lpA fs f.toNat l.toNat := rfl
  simp only [e1, e2, ge_iff_le]
  by_cases h1 : 0 ≤ f
  · by_cases h2 : f < fs.length
    · by_cases h3 : 0 ≤ l
      · by_cases h4 : l < (fcA fs f.toNat).length
        · by_cases h5 : 0 ≤ i
          · exact ⟨decide (i < ((lpA fs f.toNat l.toNat).length : Int)), by simp only [if_pos h1, if_pos h2, if_pos h3, if_pos h4, if_pos h5], by simp [h1, h2, h3, h4, h5]⟩
          · exact ⟨false, by simp only [if_pos h1, if_pos h2, if_pos h3, if_pos h4, if_neg h5], by simp [h5]⟩
        · exact ⟨false, by simp only [if_pos h1, if_pos h2, if_pos h3, if_neg h4], by simp [h4]⟩
      · exact ⟨false, by simp only [if_pos h1, if_pos h2, if_neg h3], by simp [h3]⟩
    · exact ⟨false, by simp only [if_pos h1, if_neg h2], by simp [h2]⟩
  · exact ⟨false, by simp only [if_neg h1], by simp [h1]⟩
theorem has_any (N : Int) (A : Option Addr) (c : Nat) (fs : Fs) (f l i : Int) (w : World) (hF : RF w A fs) (hc : fs.length ≤ c) :
    Calls Tryz.prog 33 #[.agg #[.int .i64 N, .slice A fs.length c], .agg #[.int .i64 f, .int .i64 l, .int .i64 i]] w fun e w' => (∃ b, e = .returned (.bool b) ∧ (b = true ↔ HasP fs f l i)) ∧ Below w.heap.size w w' := by
  obtain ⟨r, h1, h2⟩ := has_f N fs f l i
  exact (PHas.euler_Model_has.calls N A c fs f l i r w hF hc h1).mono (fun e w' h => ⟨⟨r, h.1, h2⟩, h.2⟩)

end Go.Proofs.YtealnhaffphamaaGreat

namespace Go.Proofs.YtealnhaffphamaaGreat

theorem range_map_getD {α : Type} (xs : List α) (d : α) : (List.range xs.length).map (fun i => xs.getD i d) = xs := by
  refine List.ext_getElem (by simp) (fun j h1 h2 => ?_)
  simp [List.getD_eq_getElem?_getD, List.getElem?_eq_getElem h2]
theorem rowA_v (fs : Fs) (f l : Nat) : (rowA fs f l (lpA fs f l).length).map (·.v) = lpA fs f l := by
  unfold rowA
  rw [List.map_map]
  exact range_map_getD (lpA fs f l) 0
theorem flatMap_range {α β : Type} (xs : List α) (d : α) (g : α → List β) : (List.range xs.length).flatMap (fun i => g (xs.getD i d)) = xs.flatMap g := by
  conv => rhs; rw [← range_map_getD xs d]
  rw [List.flatMap_map]
theorem pls_v (fs : Fs) : (plsA fs).map (·.v) = fs.flatten.flatten := by
  unfold plsA upA faceA
  rw [List.map_flatMap]
  have h : ∀ f, List.map (fun x => x.v) ((List.range (fcA fs f).length).flatMap fun l => rowA fs f l (lpA fs f l).length) = (fcA fs f).flatten := by
    intro f
    rw [List.map_flatMap]
    simp only [rowA_v]
    unfold lpA lA
    exact (flatMap_range (fcA fs f) [] id).trans (by simp)
  simp only [h]
  unfold fcA
  rw [flatMap_range fs [] List.flatten]
  simp [List.flatten_flatten, List.flatMap_def]
theorem pls_len (fs : Fs) : (plsA fs).length = fs.flatten.flatten.length := by rw [← pls_v, List.length_map]
theorem fcA_mem {fs : Fs} {f : Nat} (h : f < fs.length) : fcA fs f ∈ fs := by
  unfold fcA
  rw [List.getD_eq_getElem?_getD, List.getElem?_eq_getElem h]
  exact List.getElem_mem h
theorem lA_mem {ls : List (List Int)} {l : Nat} (h : l < ls.length) : lA ls l ∈ ls := by
  unfold lA
  rw [List.getD_eq_getElem?_getD, List.getElem?_eq_getElem h]
  exact List.getElem_mem h
theorem len_flatten_of_mem {α : Type} {x : List α} {xs : List (List α)} (h : x ∈ xs) : x.length ≤ xs.flatten.length := by
  induction xs with
  | nil => simp at h
  | cons y ys ih =>
    rw [List.flatten_cons, List.length_append]
    rcases List.mem_cons.1 h with rfl | h
    · omega
    · have := ih h; omega
/-- No more than k of anything, and no great numbers. -/
structure Fine (k : Nat) (fs : Fs) : Prop where
  faces : fs.length ≤ k
  loops : fs.flatten.length ≤ k
  nodes : fs.flatten.flatten.length ≤ k
  nums : ∀ v ∈ fs.flatten.flatten, -1000000 ≤ v ∧ v ≤ 1000000
theorem Fine.mono {k m : Nat} {fs : Fs} (h : Fine k fs) (hk : k ≤ m) : Fine m fs := ⟨Nat.le_trans h.faces hk, Nat.le_trans h.loops hk, Nat.le_trans h.nodes hk, h.nums⟩
theorem fcA_len_le (fs : Fs) (f : Nat) : (fcA fs f).length ≤ fs.flatten.length := by
  by_cases h : f < fs.length
  · exact len_flatten_of_mem (fcA_mem h)
  · unfold fcA
    rw [List.getD_eq_getElem?_getD, List.getElem?_eq_none (by omega)]; simp
theorem lpA_mem {fs : Fs} {f l : Nat} (hf : f < fs.length) (hl : l < (fcA fs f).length) : lpA fs f l ∈ fs.flatten := by
  rw [List.mem_flatten]
  exact ⟨_, fcA_mem hf, lA_mem hl⟩
theorem lpA_none {fs : Fs} {f l : Nat} (h : ¬ (f < fs.length ∧ l < (fcA fs f).length)) : lpA fs f l = [] := by
  unfold lpA lA
  by_cases hf : f < fs.length
  · rw [List.getD_eq_getElem?_getD, List.getElem?_eq_none (by have := fun h2 => h ⟨hf, h2⟩; omega)]; rfl
  · have : fcA fs f = [] := by unfold fcA; rw [List.getD_eq_getElem?_getD, List.getElem?_eq_none (by omega)]; rfl
    rw [this]; rfl
theorem lpA_len_le (fs : Fs) (f l : Nat) : (lpA fs f l).length ≤ fs.flatten.flatten.length := by
  by_cases h : f < fs.length ∧ l < (fcA fs f).length
  · exact len_flatten_of_mem (lpA_mem h.1 h.2)
  · rw [lpA_none h]; simp
theorem Fine.sm {k : Nat} {fs : Fs} (h : Fine k fs) (hk : k ≤ 1000000) : Sm fs :=
  ⟨Nat.le_trans h.faces hk, fun f => Nat.le_trans (fcA_len_le fs f) (Nat.le_trans h.loops hk), fun f l => Nat.le_trans (lpA_len_le fs f l) (Nat.le_trans h.nodes hk)⟩
theorem lpA_num {k : Nat} {fs : Fs} (h : Fine k fs) (f l i : Nat) : -1000000 ≤ (lpA fs f l).getD i 0 ∧ (lpA fs f l).getD i 0 ≤ 1000000 := by
  by_cases hi : i < (lpA fs f l).length
  · have hx : (lpA fs f l).getD i 0 ∈ lpA fs f l := by
      rw [List.getD_eq_getElem?_getD, List.getElem?_eq_getElem hi]; exact List.getElem_mem hi
    by_cases hc : f < fs.length ∧ l < (fcA fs f).length
    · exact h.nums _ (List.mem_flatten.2 ⟨_, lpA_mem hc.1 hc.2, hx⟩)
    · rw [lpA_none hc] at hi; simp at hi
  · rw [List.getD_eq_getElem?_getD, List.getElem?_eq_none (by omega)]; simp
theorem Fine.ni {k : Nat} {fs : Fs} (h : Fine k fs) : NI fs := by
  intro x hx
  obtain ⟨f, l, i, _, _, _, rfl⟩ := mem_pls.1 hx
  have h1 := lpA_num h f l i
  have h2 := lpA_num h f l ((i + 1) % (lpA fs f l).length)
  refine ⟨?_, ?_⟩
  · show -9223372036854775808 ≤ (lpA fs f l).getD i 0 ∧ (lpA fs f l).getD i 0 ≤ 9223372036854775807
    omega
  · show -9223372036854775808 ≤ (lpA fs f l).getD ((i + 1) % (lpA fs f l).length) 0 ∧ (lpA fs f l).getD ((i + 1) % (lpA fs f l).length) 0 ≤ 9223372036854775807
    omega
theorem Fine.cap {k : Nat} {fs : Fs} (h : Fine k fs) (hk : k ≤ 100000) : (plsA fs).length ≤ 100000 := by rw [pls_len]; exact Nat.le_trans h.nodes hk

theorem nlA_eq (fs : Fs) : nlA fs fs.length = fs.flatten.length := by
  have h : ∀ k, k ≤ fs.length → nlA fs k = (fs.take k).flatten.length := by
    intro k
    induction k with
    | zero => intro _; simp [nlA]
    | succ k ih =>
      intro hk
      have e : fs.take (k + 1) = fs.take k ++ [fcA fs k] := by
        rw [List.take_succ_eq_append_getElem (by omega)]
        unfold fcA
        rw [List.getD_eq_getElem?_getD, List.getElem?_eq_getElem (by omega)]; rfl
      rw [e, List.flatten_append, List.length_append, nlA, ih (by omega)]
      simp
  have := h fs.length (Nat.le_refl _)
  rwa [List.take_length] at this
theorem npL_eq (fs : Fs) (f : Nat) : npL fs f (fcA fs f).length = (fcA fs f).flatten.length := by
  have h : ∀ k, k ≤ (fcA fs f).length → npL fs f k = ((fcA fs f).take k).flatten.length := by
    intro k
    induction k with
    | zero => intro _; simp [npL]
    | succ k ih =>
      intro hk
      have e : (fcA fs f).take (k + 1) = (fcA fs f).take k ++ [lpA fs f k] := by
        rw [List.take_succ_eq_append_getElem (by omega)]
        unfold lpA lA
        rw [List.getD_eq_getElem?_getD, List.getElem?_eq_getElem (by omega)]; rfl
      rw [e, List.flatten_append, List.length_append, npL, ih (by omega)]
      simp
  have := h _ (Nat.le_refl _)
  rwa [List.take_length] at this
theorem npA_eq (fs : Fs) : npA fs fs.length = fs.flatten.flatten.length := by
  have h : ∀ k, k ≤ fs.length → npA fs k = (fs.take k).flatten.flatten.length := by
    intro k
    induction k with
    | zero => intro _; simp [npA]
    | succ k ih =>
      intro hk
      have e : fs.take (k + 1) = fs.take k ++ [fcA fs k] := by
        rw [List.take_succ_eq_append_getElem (by omega)]
        unfold fcA
        rw [List.getD_eq_getElem?_getD, List.getElem?_eq_getElem (by omega)]; rfl
      rw [e, List.flatten_append, List.flatten_append, List.length_append, npA, ih (by omega), npL_eq]
      simp
  have := h fs.length (Nat.le_refl _)
  rwa [List.take_length] at this
/-- Whole, by the lists alone. -/
theorem whole_iff (N : Int) (fs : Fs) : Whole N fs ↔ 1 ≤ N ∧ N ≤ 200 ∧ 1 ≤ fs.length ∧ fs.length ≤ 400 ∧ fs.flatten.length ≤ 400 ∧ fs.flatten.flatten.length ≤ 2000 ∧ (∀ face ∈ fs, face ≠ []) ∧ ∀ l ∈ fs.flatten, l ≠ [] := by
  unfold Whole
  rw [nlA_eq, npA_eq]
  constructor
  · rintro ⟨h1, h2, h3, h4, h5, h6, h7⟩
    refine ⟨h1, h2, h3, h4, h5, h6, fun face hf => ?_, fun l hl => ?_⟩
    · obtain ⟨i, hi, rfl⟩ := List.getElem_of_mem hf
      have h8 := (h7 i hi).1
      unfold fcA at h8
      rw [List.getD_eq_getElem?_getD, List.getElem?_eq_getElem hi] at h8
      intro e
      simp [e] at h8
    · obtain ⟨face, hf, hl⟩ := List.mem_flatten.1 hl
      obtain ⟨i, hi, rfl⟩ := List.getElem_of_mem hf
      obtain ⟨j, hj, rfl⟩ := List.getElem_of_mem hl
      have e1 : fcA fs i = fs[i] := by unfold fcA; rw [List.getD_eq_getElem?_getD, List.getElem?_eq_getElem hi]; rfl
      have h8 := (h7 i hi).2 j (by rw [e1]; exact hj)
      have e2 : lpA fs i j = fs[i][j] := by unfold lpA lA; rw [e1, List.getD_eq_getElem?_getD, List.getElem?_eq_getElem hj]; rfl
      rw [e2] at h8
      intro e
      simp [e] at h8
  · rintro ⟨h1, h2, h3, h4, h5, h6, h7, h8⟩
    refine ⟨h1, h2, h3, h4, h5, h6, fun f hf => ⟨?_, fun l hl => ?_⟩⟩
    · have := h7 _ (fcA_mem hf)
      exact List.length_pos_iff.2 this
    · exact List.length_pos_iff.2 (h8 _ (lpA_mem hf hl))
theorem RightP.fine {N : Int} {fs : Fs} (h : RightP N fs) : Fine 2000 fs := by
  obtain ⟨h1, h2, h3, h4, h5, h6, -⟩ := (whole_iff N fs).1 h.1
  refine ⟨by omega, by omega, h6, fun v hv => ?_⟩
  rw [← pls_v] at hv
  obtain ⟨x, hx, rfl⟩ := List.mem_map.1 hv
  have := h.2.1 x hx
  omega
/-- One face in place of another. -/
theorem flatten_set {α : Type} (xs : List (List α)) (i : Nat) (y : List α) : (xs.set i y).flatten.length ≤ xs.flatten.length + y.length := by
  induction xs generalizing i with
  | nil => simp
  | cons x xs ih =>
    cases i with
    | zero => rw [List.set_cons_zero, List.flatten_cons, List.flatten_cons, List.length_append, List.length_append]; omega
    | succ i => have := ih i; rw [List.set_cons_succ, List.flatten_cons, List.flatten_cons, List.length_append, List.length_append]; omega
theorem mem_flatten_set {α : Type} {xs : List (List α)} {i : Nat} {y : List α} {a : α} (h : a ∈ (xs.set i y).flatten) : a ∈ xs.flatten ∨ a ∈ y := by
  obtain ⟨l, hl, ha⟩ := List.mem_flatten.1 h
  rcases List.mem_or_eq_of_mem_set hl with hl | rfl
  · exact .inl (List.mem_flatten.2 ⟨l, hl, ha⟩)
  · exact .inr ha
theorem flatten2_mono {α : Type} {x : List (List α)} {xs : List (List (List α))} (h : x ∈ xs) : x.flatten.length ≤ xs.flatten.flatten.length := by
  induction xs with
  | nil => simp at h
  | cons y ys ih =>
    rw [List.flatten_cons, List.flatten_append, List.length_append]
    rcases List.mem_cons.1 h with rfl | h
    · omega
    · have := ih h; omega
theorem flatten2_set (xs : Fs) (i : Nat) (y : List (List Int)) : (xs.set i y).flatten.flatten.length ≤ xs.flatten.flatten.length + y.flatten.length := by
  induction xs generalizing i with
  | nil => simp
  | cons x xs ih =>
    cases i with
    | zero => rw [List.set_cons_zero, List.flatten_cons, List.flatten_cons, List.flatten_append, List.flatten_append, List.length_append, List.length_append]; omega
    | succ i => have := ih i; rw [List.set_cons_succ, List.flatten_cons, List.flatten_cons, List.flatten_append, List.flatten_append, List.length_append, List.length_append]; omega
theorem Fine.face {k : Nat} {fs : Fs} (h : Fine k fs) {f : Nat} : (fcA fs f).length ≤ k ∧ (fcA fs f).flatten.length ≤ k ∧ ∀ v ∈ (fcA fs f).flatten, -1000000 ≤ v ∧ v ≤ 1000000 := by
  by_cases hf : f < fs.length
  · refine ⟨Nat.le_trans (fcA_len_le fs f) h.loops, Nat.le_trans (flatten2_mono (fcA_mem hf)) h.nodes, fun v hv => h.nums v ?_⟩
    obtain ⟨l, hl, hv⟩ := List.mem_flatten.1 hv
    exact List.mem_flatten.2 ⟨l, List.mem_flatten.2 ⟨_, fcA_mem hf, hl⟩, hv⟩
  · have e : fcA fs f = [] := by unfold fcA; rw [List.getD_eq_getElem?_getD, List.getElem?_eq_none (by omega)]; rfl
    rw [e]; exact ⟨by simp, by simp, by simp⟩
theorem Fine.setF {k m : Nat} {fs : Fs} (h : Fine k fs) (f : Nat) {y : List (List Int)} (h1 : y.length ≤ m) (h2 : y.flatten.length ≤ m) (h3 : ∀ v ∈ y.flatten, -1000000 ≤ v ∧ v ≤ 1000000) : Fine (k + m) (fs.set f y) := by
  refine ⟨by rw [List.length_set]; have := h.faces; omega, ?_, ?_, fun v hv => ?_⟩
  · have h4 := flatten_set fs f y; have := h.loops; omega
  · have h4 := flatten2_set fs f y; have := h.nodes; omega
  · obtain ⟨l, hl, hv⟩ := List.mem_flatten.1 hv
    rcases mem_flatten_set hl with hl | hl
    · exact h.nums v (List.mem_flatten.2 ⟨l, hl, hv⟩)
    · exact h3 v (List.mem_flatten.2 ⟨l, hl, hv⟩)
theorem Fine.setL {k m : Nat} {fs : Fs} (h : Fine k fs) (f l : Nat) {x : List Int} (h1 : x.length ≤ m) (h3 : ∀ v ∈ x, -1000000 ≤ v ∧ v ≤ 1000000) : Fine (k + (k + m)) (fs.set f ((fcA fs f).set l x)) := by
  obtain ⟨a, b, c⟩ := h.face (f := f)
  refine h.setF f (by rw [List.length_set]; omega) (by have := flatten_set (fcA fs f) l x; omega) (fun v hv => ?_)
  rcases mem_flatten_set hv with hv | hv
  · exact c v hv
  · exact h3 v hv
theorem Fine.app {k m : Nat} {fs gs : Fs} (h : Fine k fs) (h2 : Fine m gs) : Fine (k + m) (fs ++ gs) := by
  refine ⟨?_, ?_, ?_, fun v hv => ?_⟩
  · rw [List.length_append]; have := h.faces; have := h2.faces; omega
  · rw [List.flatten_append, List.length_append]; have := h.loops; have := h2.loops; omega
  · rw [List.flatten_append, List.flatten_append, List.length_append]; have := h.nodes; have := h2.nodes; omega
  · rw [List.flatten_append, List.flatten_append, List.mem_append] at hv
    exact hv.elim (h.nums v) (h2.nums v)
theorem sub_flatten {α : Type} {xs ys : List (List α)} (h : List.Sublist xs ys) : List.Sublist xs.flatten ys.flatten := by
  induction h with
  | slnil => exact List.Sublist.refl _
  | cons a _ ih => rw [List.flatten_cons]; exact ih.trans (List.sublist_append_right _ _)
  | cons_cons a _ ih => rw [List.flatten_cons, List.flatten_cons]; exact (List.Sublist.refl _).append ih
theorem Fine.sub {k : Nat} {fs gs : Fs} (h : Fine k fs) (hs : List.Sublist gs fs) : Fine k gs :=
  ⟨Nat.le_trans hs.length_le h.faces, Nat.le_trans (sub_flatten hs).length_le h.loops, Nat.le_trans (sub_flatten (sub_flatten hs)).length_le h.nodes, fun v hv => h.nums v ((sub_flatten (sub_flatten hs)).subset hv)⟩
theorem Fine.one {m : Nat} {y : List (List Int)} (h0 : 1 ≤ m) (h1 : y.length ≤ m) (h2 : y.flatten.length ≤ m) (h3 : ∀ v ∈ y.flatten, -1000000 ≤ v ∧ v ≤ 1000000) : Fine m [y] := ⟨by simpa using h0, by simpa using h1, by simpa using h2, by simpa using h3⟩
theorem Fine.loop {k : Nat} {fs : Fs} (h : Fine k fs) (f l : Nat) : (lpA fs f l).length ≤ k ∧ ∀ v ∈ lpA fs f l, -1000000 ≤ v ∧ v ≤ 1000000 := by
  refine ⟨Nat.le_trans (lpA_len_le fs f l) h.nodes, fun v hv => ?_⟩
  by_cases hc : f < fs.length ∧ l < (fcA fs f).length
  · exact h.nums v (List.mem_flatten.2 ⟨_, lpA_mem hc.1 hc.2, hv⟩)
  · rw [lpA_none hc] at hv; simp at hv

end Go.Proofs.YtealnhaffphamaaGreat

namespace Go.Proofs.YtealnhaffphamaaGreat
open Go.RowKit Go.Shelf Go.Proofs.YtealnhaffphamaaGreatW.PrintWords
open Classical

/-- What an operator answers: an error, or a model. -/
def OpOut (r : Except Int (Int × Fs)) (e : Ending) (w : World) : Prop := match r with
  | .error z => e = .returned (.tuple #[.agg #[.int .i64 0, .slice none 0 0], .int .i64 z])
  | .ok (N, fs) => ∃ A c, e = .returned (.tuple #[.agg #[.int .i64 N, .slice A fs.length c], .int .i64 0]) ∧ fs.length ≤ c ∧ RF w A fs
noncomputable def fitE (N : Int) (fs : Fs) : Except Int (Int × Fs) := if RightP N fs then .ok (N, fs) else .error 2
section
variable {base : Nat} {v : Value} {fs : Fs} {vf : Nat → Value} {vl : Nat → Nat → Value} {W W' : World} {k : Nat}
theorem MW.typed (h : MW base v fs k vf vl W) {b : Nat} (hb : MB v fs k vf vl b) : ∃ cells t, W.heap[b]? = some (.cells cells t (0, 0)) ∧ (t = 42 ∨ t = 43 ∨ t = 3) := by
  rcases hb with hb | ⟨f, hf, hb | ⟨l, hl, hb⟩⟩
  · obtain ⟨cells, hc⟩ := own_typed h.own b hb
    exact ⟨cells, _, hc, .inl rfl⟩
  · obtain ⟨cells, hc⟩ := own_typed (h.face f hf).own b hb
    exact ⟨cells, _, hc, .inr (.inl rfl)⟩
  · obtain ⟨cells, hc⟩ := own_typed ((h.face f hf).ownL l hl) b hb
    exact ⟨cells, _, hc, .inr (.inr rfl)⟩
theorem MW.not_model (h : MW base v fs k vf vl W) {O : Nat} {cs : Array Value} (hO : Blk W O (.cells cs 31)) : ¬ MB v fs k vf vl O := by
  intro hb
  obtain ⟨cells, t, hc, ht⟩ := h.typed hb
  unfold Blk at hO
  rw [hO] at hc
  injection hc with hc
  injection hc with _ hc
  subst hc
  revert ht; decide
theorem MW.setO (h : MW base v fs k vf vl W) {O : Nat} {cs : Array Value} (hO : Blk W O (.cells cs 31)) (o : Nat) (x : Value) : MW base v fs k vf vl (W.setCell ⟨O, o, none⟩ x) :=
  h.kept (grown_set _ _ _ _) (fun r e q => by cases e; exact h.not_model hO q)
theorem MW.back (h : MW base v fs k vf vl W) {r : Nat} (hr : r < base) (x y : Value) : MW base v fs k vf vl ((W.setCell ⟨r, 0, none⟩ x).setCell ⟨r, 1, none⟩ y) := by
  have h1 := h.kept (grown_set W r 0 x) (fun b e q => by cases e; have := (h.lt q).1; omega)
  exact h1.kept (grown_set _ r 1 y) (fun b e q => by cases e; have := (h1.lt q).1; omega)
theorem MW.belowW (h : MW base v fs k vf vl W) (hb : Below W.heap.size W W') : MW base v fs k vf vl W' := h.kept (grown_of_below hb none) (fun r e => by cases e)
/-- fit of a model of one's own. -/
theorem fit_own (N : Int) {A : Option Addr} {n c : Nat} (h : MW base (.slice A n c) fs fs.length vf vl W) (hf : Fine 100000 fs) : Calls Tryz.prog 36 #[.agg #[.int .i64 N, .slice A n c]] W fun e w' => (∃ b : Bool, e = .returned (if b then .tuple #[.agg #[.int .i64 N, .slice A n c], .int .i64 0] else .tuple #[.agg #[.int .i64 0, .slice none 0 0], .int .i64 2]) ∧ (b = true ↔ RightP N fs)) ∧ Below W.heap.size W w' := by
  obtain ⟨A', c', e1, e2, e3⟩ := h.reads
  injection e1 with ea en ec
  subst ea en ec
  exact fit_any N A c fs W e3 (hf.sm (by omega)) hf.ni (hf.cap (by omega))
theorem opOut_fit {N : Int} {A : Option Addr} {n c : Nat} {b : Bool} {e : Ending} {r : Except Int (Int × Fs)} (hr : r = fitE N fs) (hb : b = true ↔ RightP N fs) (h : MW base (.slice A n c) fs fs.length vf vl W)
    (he : e = .returned (if b then .tuple #[.agg #[.int .i64 N, .slice A n c], .int .i64 0] else .tuple #[.agg #[.int .i64 0, .slice none 0 0], .int .i64 2])) : OpOut r e W := by
  subst hr
  obtain ⟨A', c', e1, e2, e3⟩ := h.reads
  injection e1 with ea en ec
  subst ea en ec
  unfold fitE
  cases b with
  | true =>
    rw [if_pos (hb.1 rfl)]
    exact ⟨A, c, he, e2, e3⟩
  | false =>
    rw [if_neg (fun h => by have := hb.2 h; cases this)]
    exact he
end

end Go.Proofs.YtealnhaffphamaaGreat

namespace Go.Proofs.YtealnhaffphamaaGreat
open Go.RowKit Go.Shelf Go.Sort Go.Proofs.YtealnhaffphamaaGreatW.PrintWords

/-! ### any row of cells, the library's words -/
theorem holdsV {α : Type} [Inhabited α] (enc : α → Value) {w : World} {g : Nat} {cur : Array Value} {e : TypeId} {ss : List α} (hb : w.heap[g]? = some (.cells cur e (0, 0))) (ht : cur.toList.take ss.length = ss.map enc) : Holds enc w g 0 ss.toArray := by
  intro j hj
  have hj' : j < ss.length := by simpa using hj
  refine ⟨?_, by simp [World.frozen?, hb]⟩
  have h1 : (cur.toList.take ss.length)[j]? = (ss.map enc)[j]? := by rw [ht]
  rw [List.getElem?_take_of_lt hj'] at h1
  simp only [World.cell?, hb, Nat.zero_add]
  simp only [Option.isSome_none, Bool.false_eq_true, if_false]
  rw [← Array.getElem?_toList, h1]
  simp [hj']
theorem heapV {α : Type} [Inhabited α] (enc : α → Value) {w : World} {g n : Nat} {os : Array Obj} {cur : Array Value} {e : TypeId} {fr : Nat × Nat} (d : Array α) (hb : w.heap[g]? = some (.cells cur e fr)) :
    (grow (putRow enc (Sort.ahead w n) g 0 d) os).heap[g]? = some (.cells (putCells enc 0 d cur) e fr) := by
  have hg : g < w.heap.size := (Array.getElem?_eq_some_iff.1 hb).1
  rw [heap_grow_old _ _ (by simpa using hg)]
  simp [putRow, mapBlock, Sort.ahead, Array.getElem?_modify, hb, onCells]
theorem grownV {α : Type} [Inhabited α] (enc : α → Value) {w : World} {g n : Nat} {os : Array Obj} (d : Array α) : w.grownBy (grow (putRow enc (Sort.ahead w n) g 0 d) os) (some g) := by
  refine ⟨rfl, rfl, rfl, by simp, fun k hk hne => ?_⟩
  rw [heap_grow_old _ _ (by simpa using hk)]
  have : g ≠ k := fun e => hne (by rw [e])
  simp [putRow, mapBlock, Sort.ahead, Array.getElem?_modify, this]
theorem takeV {α : Type} [Inhabited α] (enc : α → Value) (cur : Array Value) (ts : List α) (h : ts.length ≤ cur.size) : (putCells enc 0 ts.toArray cur).toList.take ts.length = ts.map enc := by
  apply List.ext_getElem?
  intro j
  by_cases hj : j < ts.length
  · rw [List.getElem?_take_of_lt hj, Array.getElem?_toList]
    simp [putCells, hj, show j < cur.size by omega]
  · rw [List.getElem?_take_eq_none (by omega), List.getElem?_eq_none (by simp; omega)]
theorem World.grow_none (w : World) : grow w #[] = w := by simp
/-- A row behind a contract of the library: its first m cells are ts's. -/
theorem ownV {α : Type} [Inhabited α] (enc : α → Value) {w : World} {base g cap n m q : Nat} {e : TypeId} {os : Array Obj} {xs : List Value} {ts : List α} (h : w.ownsRow base e 1 (.slice (some ⟨g, 0, none⟩) n cap) n xs) (hl : ts.length = n) (hm : m ≤ n) :
    (grow (putRow enc (Sort.ahead w q) g 0 ts.toArray) os).ownsRow base e 1 (.slice (some ⟨g, 0, none⟩) m cap) m ((ts.take m).map enc) := by
  rcases h.2 with ⟨h0, _⟩ | ⟨g', cap', cur, he, hbase, hb, h1, h2, h3, h4⟩
  · cases h0
  · cases he
    refine ⟨by simp; omega, .inr ⟨g, cap, _, rfl, hbase, heapV enc _ hb, by omega, h2, by simp [putCells, h3], ?_⟩⟩
    have h5 := takeV enc cur ts (by rw [h3]; omega)
    rw [Nat.mul_one, List.map_take, ← h5, List.take_take, Nat.min_eq_left (by omega)]

abbrev SlV := Option Addr × Nat × Nat
def encS (x : SlV) : Value := .slice x.1 x.2.1 x.2.2
theorem encS_one (x : SlV) : (encS x).oneCell' = true := rfl
/-- slices.Delete of one element from a row of one's own. -/
theorem delete_core {fnum : Nat} {ety : TypeId} (hD : ∀ (blk off cap i j : Nat) (d : Array SlV) (w : World), Holds encS w blk off d → d.size ≤ cap → cap ≤ 9223372036854775807 → i ≤ j → j ≤ d.size →
      Calls Tryz.prog fnum #[.slice (some ⟨blk, off, none⟩) d.size cap, .int .i64 i, .int .i64 j] w fun e w' => e = .returned (.slice (some ⟨blk, off, none⟩) (d.size - (j - i)) cap) ∧ ∃ q, w' = putRow encS (Sort.ahead w q) blk off (d.toList.take i ++ d.toList.drop j ++ List.replicate (j - i) (none, 0, 0)).toArray)
    {base g n cap i : Nat} {xs : List SlV} {w : World} (h : w.ownsRow base ety 1 (.slice (some ⟨g, 0, none⟩) n cap) n (xs.map encS)) (hi : i < n) :
    Calls Tryz.prog fnum #[.slice (some ⟨g, 0, none⟩) n cap, .int .i64 i, .int .i64 (i + 1 : Nat)] w fun e w' => e = .returned (.slice (some ⟨g, 0, none⟩) (n - 1) cap) ∧ w'.ownsRow base ety 1 (.slice (some ⟨g, 0, none⟩) (n - 1) cap) (n - 1) ((xs.eraseIdx i).map encS) ∧ w.grownBy w' (some g) := by
  have hn : xs.length = n := by have := h.1; simpa using this
  rcases h.2 with ⟨h0, _⟩ | ⟨g', cap', cur, he, hbase, hb, h1, h2, h3, h4⟩
  · cases h0
  · cases he
    have hH : Holds encS w g 0 xs.toArray := holdsV encS hb (by rw [hn]; simpa using h4)
    have hc := hD g 0 cap i (i + 1) xs.toArray w hH (by simp; omega) (by simp only [maxLen] at h2; omega) (by omega) (by simp; omega)
    simp only [List.size_toArray, hn] at hc
    refine hc.mono ?_
    rintro e w' ⟨rfl, q, rfl⟩
    rw [show i + 1 - i = 1 by omega]
    have hl : (xs.take i ++ xs.drop (i + 1) ++ List.replicate 1 ((none, 0, 0) : SlV)).length = n := by simp; omega
    refine ⟨rfl, ?_, ?_⟩
    · have h5 := ownV (m := n - 1) (q := q) (os := #[]) encS h hl (by omega)
      rw [World.grow_none] at h5
      have e6 : (xs.take i ++ xs.drop (i + 1) ++ List.replicate 1 ((none, 0, 0) : SlV)).take (n - 1) = xs.eraseIdx i := by
        rw [List.take_append_of_le_length (by simp; omega), List.take_of_length_le (by simp; omega), List.eraseIdx_eq_take_drop_succ]
      rw [e6] at h5
      exact h5
    · have h5 := grownV (w := w) (g := g) (n := q) (os := #[]) encS (xs.take i ++ xs.drop (i + 1) ++ List.replicate 1 ((none, 0, 0) : SlV)).toArray
      rw [World.grow_none] at h5
      exact h5
theorem zeroF (w : World) : (zeroValue 42).run Tryz.prog w = .ok (.slice none 0 0) w := by kernel_rfl
theorem infoF1 : ∃ i0, Tryz.prog.info? 42 = some i0 ∧ i0.size = 1 := by obtain ⟨i, h1, h2, h3, h4⟩ := info_parts infoF; exact ⟨i, h1, h3⟩
theorem deleteF_any {base g n cap i : Nat} {xs : List SlV} {w : World} (h : w.ownsRow base 42 1 (.slice (some ⟨g, 0, none⟩) n cap) n (xs.map encS)) (hi : i < n) :
    Calls Tryz.prog 80 #[.slice (some ⟨g, 0, none⟩) n cap, .int .i64 i, .int .i64 (i + 1 : Nat)] w fun e w' => e = .returned (.slice (some ⟨g, 0, none⟩) (n - 1) cap) ∧ w'.ownsRow base 42 1 (.slice (some ⟨g, 0, none⟩) (n - 1) cap) (n - 1) ((xs.eraseIdx i).map encS) ∧ w.grownBy w' (some g) := by
  obtain ⟨i0, h0, h1⟩ := infoF1
  exact delete_core (fun blk off cap i j d w hH hc hm hij hj => Tryz.slices_Delete_f80 encS encS_one (none, 0, 0) zeroF i0 h0 h1 blk off cap i j d w hH hc hm hij hj) h hi

/-! ### without -/
set_option maxRecDepth 100000 in
set_option maxHeartbeats 1000000 in
theorem withoutF_any {base g n cap i : Nat} {xs : List SlV} {w : World} (h : w.ownsRow base 42 1 (.slice (some ⟨g, 0, none⟩) n cap) n (xs.map encS)) (hi : i < n) (hn : n ≤ 1000000) :
    Calls Tryz.prog 49 #[.slice (some ⟨g, 0, none⟩) n cap, .int .i64 i] w fun e w' => e = .returned (.slice (some ⟨g, 0, none⟩) (n - 1) cap) ∧ w'.ownsRow base 42 1 (.slice (some ⟨g, 0, none⟩) (n - 1) cap) (n - 1) ((xs.eraseIdx i).map encS) ∧ w.grownBy w' (some g) := by
  have HD := Lib.hid (deleteF_any h hi)
  have hwr : IntKind.i64.wrap ((i : Int) + 1) = (i : Int) + 1 := by rw [IntKind.wrap_i64]; omega
  clear h
  go_enter Tryz.func49, Tryz.ntmps49
  go_wp2_with fail
  rw [show ((i : Int) + 1) = ((i + 1 : Nat) : Int) from rfl]
  ((with_reducible refine (HD.out).mono ?_); rintro e w' ⟨rfl, h1, h2⟩)
  go_wp2
  go_ret
  exact ⟨rfl, h1, h2⟩

/-! ### values of rows, as the library wants them -/
theorem slice_of_own {W : World} {base e size n : Nat} {v : Value} {xs : List Value} (h : W.ownsRow base e size v n xs) : ∃ x : SlV, v = encS x := by
  rcases h.2 with ⟨h0, _⟩ | ⟨g', cap', cur, he, _⟩
  · exact ⟨(none, 0, 0), h0⟩
  · exact ⟨(some ⟨g', 0, none⟩, n, cap'), he⟩
theorem slices_of {k : Nat} {lv : Nat → Value} (h : ∀ l, l < k → ∃ x : SlV, lv l = encS x) : ∃ xs : List SlV, (List.range k).map lv = xs.map encS := by
  induction k with
  | zero => exact ⟨[], rfl⟩
  | succ k ih =>
    obtain ⟨xs, hx⟩ := ih (fun l hl => h l (by omega))
    obtain ⟨x, hy⟩ := h k (by omega)
    exact ⟨xs ++ [x], by rw [List.range_succ, List.map_append, hx]; simp [hy]⟩
theorem map_eraseIdx {α β : Type} (g : α → β) (xs : List α) (i : Nat) : (xs.map g).eraseIdx i = (xs.eraseIdx i).map g := by
  induction xs generalizing i with
  | nil => rfl
  | cons x xs ih =>
    cases i with
    | zero => rfl
    | succ i => simp [ih]
/-- Past the i-th. -/
def skip (i j : Nat) : Nat := if j < i then j else j + 1
theorem skip_inj {i a b : Nat} (h : skip i a = skip i b) : a = b := by unfold skip at h; split at h <;> split at h <;> omega
theorem skip_lt {i j n : Nat} (h : j < n - 1) : skip i j < n := by unfold skip; split <;> omega
theorem map_range_erase (k i : Nat) (hi : i < k) (lv : Nat → Value) : ((List.range k).map lv).eraseIdx i = (List.range (k - 1)).map (fun j => lv (skip i j)) := by
  refine List.ext_getElem (by rw [List.length_eraseIdx]; simp [hi]) (fun j h1 h2 => ?_)
  rw [List.getElem_eraseIdx]
  simp only [List.getElem_map, List.getElem_range, skip]
  split <;> rfl
theorem getD_erase {α : Type} (xs : List α) (i j : Nat) (d : α) : (xs.eraseIdx i).getD j d = xs.getD (skip i j) d := by
  rw [List.getD_eq_getElem?_getD, List.getD_eq_getElem?_getD, List.getElem?_eraseIdx]
  unfold skip
  split <;> rfl

/-! ### faces -/
section
variable {base g cap n : Nat} {fv v u : Value} {ls : List (List Int)} {fs : Fs} {k : Nat} {lv vf : Nat → Value} {vl : Nat → Nat → Value} {W W' : World} {row : Option Nat}
theorem FW.congr {ls' : List (List Int)} (h : FW base fv ls k lv W) (e : ∀ l, l < k → lA ls' l = lA ls l) : FW base fv ls' k lv W := ⟨h.own, fun l hl => by rw [e l hl]; exact h.ownL l hl⟩
/-- A loop appended to a face. -/
theorem FW.append (h : FW base fv ls ls.length lv W) {x : List Int} (hu : W.ownsRow base 3 1 u x.length (intsV x)) {fv' : Value} (ho : W'.ownsRow base 43 1 fv' (ls.length + 1) ((List.range ls.length).map lv ++ [u])) (hg : W.grownBy W' fv.ownBlock) :
    FW base fv' (ls ++ [x]) (ls ++ [x]).length (fun l => if l = ls.length then u else lv l) W' := by
  have e1 : lA (ls ++ [x]) ls.length = x := by simp [lA, List.getD_eq_getElem?_getD]
  have h1 : FW base fv (ls ++ [x]) ls.length lv W := h.congr (fun l hl => by simp [lA, List.getD_eq_getElem?_getD, List.getElem?_append_left hl])
  rw [List.length_append, List.length_singleton]
  exact h1.snoc (by rw [e1]; exact hu) ho hg
/-- A loop dropped from a face. -/
theorem FW.drop (h : FW base fv ls ls.length lv W) {i : Nat} (hi : i < ls.length) (hb : fv.ownBlock = some g) {fv' : Value} (ho : W'.ownsRow base 43 1 fv' (ls.length - 1) (((List.range ls.length).map lv).eraseIdx i)) (hg : W.grownBy W' (some g)) :
    FW base fv' (ls.eraseIdx i) (ls.eraseIdx i).length (fun l => lv (skip i l)) W' := by
  have e1 : (ls.eraseIdx i).length = ls.length - 1 := by rw [List.length_eraseIdx, if_pos hi]
  rw [e1]
  refine ⟨by rw [← map_range_erase _ _ hi]; exact ho, fun l hl => ?_⟩
  have e2 : lA (ls.eraseIdx i) l = lA ls (skip i l) := getD_erase ls i l []
  rw [e2]
  exact own_keptB (h.ownL _ (skip_lt hl)) hg (fun b q => by cases q; exact own_other_types h.own (h.ownL _ (skip_lt hl)) (by decide) hb)
/-- All faces but the f-th as they were; the f-th anew, in u. -/
structure MQ (base : Nat) (v : Value) (fs : Fs) (vf : Nat → Value) (vl : Nat → Nat → Value) (f : Nat) (u : Value) (ls : List (List Int)) (lv : Nat → Value) (W : World) : Prop where
  own : W.ownsRow base 42 1 v fs.length ((List.range fs.length).map vf)
  face : ∀ j, j < fs.length → j ≠ f → FW base (vf j) (fcA fs j) (fcA fs j).length (vl j) W
  new : FW base u ls ls.length lv W
  dis : ∀ i, i < fs.length → i ≠ f → ∀ j, j < fs.length → j ≠ f → i ≠ j → Ap (vf i) (vf j)
  disN : ∀ i, i < fs.length → i ≠ f → Ap (vf i) u
variable {f : Nat}
theorem MQ.grown (h : MQ base v fs vf vl f u ls lv W) (hg : W.grownBy W' none) : MQ base v fs vf vl f u ls lv W' :=
  ⟨own_keptB h.own hg (fun b e => by cases e), fun j hj hn => (h.face j hj hn).kept hg (fun b e => by cases e), h.new.kept hg (fun b e => by cases e), h.dis, h.disN⟩
/-- .. stored. -/
theorem MQ.store (h : MQ base v fs vf vl f u ls lv W) (hv : v = .slice (some ⟨g, 0, none⟩) fs.length cap) :
    MW base v (fs.set f ls) (fs.set f ls).length (fun j => if j = f then u else vf j) (fun j => if j = f then lv else vl j) (W.setCell ⟨g, f, none⟩ u) := by
  have hb : v.ownBlock = some g := by rw [hv]; rfl
  refine ⟨?_, fun j hj => ?_, fun i hi j hj hij => ?_⟩
  · rw [List.length_set, ← map_range_set]
    have h1 := h.own
    rw [hv] at h1 ⊢
    exact (World.ownsRow.stored h1 f u).1
  · rw [List.length_set] at hj
    by_cases e : j = f
    · subst e
      have e1 : fcA (fs.set j ls) j = ls := by unfold fcA; rw [List.getD_eq_getElem?_getD, List.getElem?_set_self hj]; rfl
      simp only [if_pos]
      rw [e1]
      exact h.new.kept (grown_set _ _ _ _) (fun r q hF => by cases q; exact h.new.apart h.own hb hF)
    · have e1 : fcA (fs.set f ls) j = fcA fs j := by unfold fcA; rw [List.getD_eq_getElem?_getD, List.getElem?_set_ne (fun q => e q.symm), ← List.getD_eq_getElem?_getD]
      simp only [if_neg e]
      rw [e1]
      exact (h.face j hj e).kept (grown_set _ _ _ _) (fun r q hF => by cases q; exact (h.face j hj e).apart h.own hb hF)
  · rw [List.length_set] at hi hj
    show Ap (if i = f then u else vf i) (if j = f then u else vf j)
    by_cases e : i = f
    · rw [if_pos e, if_neg (fun q => hij (e.trans q.symm))]
      exact (h.disN j hj (fun q => hij (e.trans q.symm))).symm
    · rw [if_neg e]
      by_cases e2 : j = f
      · rw [if_pos e2]; exact h.disN i hi e
      · rw [if_neg e2]; exact h.dis i hi e j hj e2 hij
/-- A face of a model, its row grown or written (a loop appended, or dropped), before it is stored. -/
theorem MW.pend (h : MW base v fs fs.length vf vl W) {f : Nat} (hf : f < fs.length) (hg : W.grownBy W' (vf f).ownBlock) (hu : FW base u ls ls.length lv W') (hat : u.ownBlock = (vf f).ownBlock ∨ u.ownBlock = some W.heap.size ∨ u.ownBlock = none) : MQ base v fs vf vl f u ls lv W' := by
  refine ⟨?_, fun j hj hne => ?_, hu, fun i hi hni j hj hnj hij => h.dis i hi j hj hij, fun i hi hne => ?_⟩
  · exact own_keptB h.own hg (fun r q => own_other_types (h.face f hf).own h.own (by decide) q)
  · refine (h.face j hj).kept hg (fun r q hF => ?_)
    rcases hF with hF | ⟨l, hl, hF⟩
    · rcases h.dis j hj f hf hne with z | z
      · rw [z] at hF; cases hF
      · exact z (hF.trans q.symm)
    · exact own_other_types (h.face f hf).own ((h.face j hj).ownL l hl) (by decide) q hF
  · rcases hat with e | e | e
    · unfold Ap; rw [e]; exact h.dis i hi f hf hne
    · exact Ap.of_lt (B := W.heap.size) (fun r q => ((h.face i hi).lt (.inl q)).2) (fun r q => by rw [e] at q; cases q; exact Nat.le_refl _)
    · exact Ap.symm (.inl e)
/-- A face dropped from a model. -/
theorem MW.dropF (h : MW base v fs fs.length vf vl W) {i : Nat} (hi : i < fs.length) (hb : v.ownBlock = some g) {v' : Value} (ho : W'.ownsRow base 42 1 v' (fs.length - 1) (((List.range fs.length).map vf).eraseIdx i)) (hg : W.grownBy W' (some g)) :
    MW base v' (fs.eraseIdx i) (fs.eraseIdx i).length (fun j => vf (skip i j)) (fun j => vl (skip i j)) W' := by
  have e1 : (fs.eraseIdx i).length = fs.length - 1 := by rw [List.length_eraseIdx, if_pos hi]
  rw [e1]
  refine ⟨by rw [← map_range_erase _ _ hi]; exact ho, fun j hj => ?_, fun a ha b hb2 hne => h.dis _ (skip_lt ha) _ (skip_lt hb2) (fun q => hne (skip_inj q))⟩
  have e2 : fcA (fs.eraseIdx i) j = fcA fs (skip i j) := getD_erase fs i j []
  rw [e2]
  exact (h.face _ (skip_lt hj)).kept hg (fun r q => by cases q; exact (h.face _ (skip_lt hj)).apart h.own hb)
end
/-- An append of one slice to a row of the call's own, in a region. -/
theorem step_append {P : Program} {ops : Array Oper} {o : Oper} {a : Act} {w : World} {K : Act → World → Prop} {Q : Exit → Act → World → Prop} {E : Prop} (hgd : o.guard = none) (s x : Operand) (t : TypeId)
    (ho : o.op = .call { callee := .builtin .append, args := #[s, x], argTypes := #[t, t] })
    (base : Nat) (e : TypeId) (ht : P.underlying t = some (.slice e)) (hi : (P.info? e).map (fun i => (i.zero, i.size, i.bytes)) = some (some (.slice none 0 0), 1, 24))
    (v : Value) (n : Nat) (xs : List Value) (hs : a.eval s = v) (hown : w.ownsRow base e 1 v n xs) (u : Value) (hu : u.oneCell' = true)
    (m : Nat) (hx : a.eval x = .slice (some ⟨m, 0, none⟩) 1 1) (hm : Blk w m (.cells #[u] e)) (hn : n ≤ 1000000) (hbase : base ≤ w.heap.size)
    (h : ∀ g cap w', w'.ownsRow base e 1 (.slice (some ⟨g, 0, none⟩) (n + 1) cap) (n + 1) (xs ++ [u]) → w.grownBy w' v.ownBlock → (v.ownBlock = some g ∨ g = w.heap.size) → g < w'.heap.size → K (a.put o.dst (.slice (some ⟨g, 0, none⟩) (n + 1) cap)) w') :
    if Region.wanted o (yielded ops a.tmps) = true then Oper.wp P o a w K Q else E := by
  have hw : Region.wanted o (yielded ops a.tmps) = true := by simp [Region.wanted, hgd]
  rw [if_pos hw]
  obtain ⟨i, hi0, hz, hsz, hby⟩ := info_parts hi
  obtain ⟨g, cap, w', hr, h2, h3, h4, h5⟩ := run_append_lies (P := P) w t o.type base e i (.slice none 0 0) 1 24 ht hi0 hz hsz hby rfl (by decide) v n xs hown ⟨m, 0, none⟩ 1 1 [u] rfl (fun j x hj => by
    match j, hj with
    | 0, hj => cases hj; exact (blk_cells hm).1 0 _ rfl) (by simpa using hu) (by decide) (by simp only [maxLen]; omega) (by omega) hbase _ rfl
  unfold Oper.wp execOp
  simp only [ho, resolve, invoke, builtin, Sem.run_bind, Sem.run_pure, Result.andThen_ok, List.map_toArray, List.map_cons, List.map_nil, hs, hx, hr]
  exact h g cap w' h2 h3 h4 h5

end Go.Proofs.YtealnhaffphamaaGreat

namespace Go.Proofs.YtealnhaffphamaaGreat
open Go.RowKit Go.Shelf Go.Proofs.YtealnhaffphamaaGreatW.PrintWords

/-- The boxes that a call has laid first. -/
structure Obs (os : List Obj) (w W : World) : Prop where
  blk : ∀ i o, os[i]? = some o → Blk W (w.heap.size + i) o
  below : Below w.heap.size w W
  size : w.heap.size + os.length ≤ W.heap.size
section
variable {os : List Obj} {w W W' : World} {row : Option Nat} {cs : Array Value} {t : TypeId}
theorem Obs.cell (h : Obs os w W) (i j : Nat) (ho : os[i]? = some (.cells cs t)) {x : Value} (hx : cs[j]? = some x) : W.cell? ⟨w.heap.size + i, j, none⟩ = some x := (blk_cells (h.blk i _ ho)).1 j x hx
theorem Obs.frz (h : Obs os w W) (i j : Nat) (ho : os[i]? = some (.cells cs t)) : W.frozen? ⟨w.heap.size + i, j, none⟩ = false := (blk_cells (h.blk i _ ho)).2 j
theorem Obs.kept (h : Obs os w W) (hg : W.grownBy W' row) (hr : ∀ k, row = some k → w.heap.size + os.length ≤ k) : Obs os w W' :=
  ⟨fun i o ho => (h.blk i o ho).kept hg (fun e => by have := hr _ e.symm; have := (List.getElem?_eq_some_iff.1 ho).1; omega), h.below.grown hg (by have := h.size; omega) (fun k e => by have := hr k e; omega), Nat.le_trans h.size hg.size⟩
theorem Obs.call (h : Obs os w W) (hb : Below W.heap.size W W') : Obs os w W' := h.kept (row := none) (grown_of_below hb none) (fun k e => by cases e)
theorem Obs.grown (h : Obs os w W) (hg : W.grownBy W' none) : Obs os w W' := h.kept hg (fun k e => by cases e)
theorem Obs.alloc (h : Obs os w W) (hs : W.heap.size = w.heap.size + os.length) (o : Obj) : Obs (os ++ [o]) w (W.alloc o) := by
  refine ⟨fun i x hx => ?_, h.below.alloc (by omega) _, by rw [World.size_alloc, List.length_append, List.length_singleton]; omega⟩
  rcases Nat.lt_or_ge i os.length with hi | hi
  · rw [List.getElem?_append_left hi] at hx
    exact (h.blk i x hx).alloc
  · rw [List.getElem?_append_right hi] at hx
    have : i - os.length = 0 := by
      rcases Nat.eq_zero_or_pos (i - os.length) with q | q
      · exact q
      · rw [List.getElem?_eq_none (by simp; omega)] at hx; cases hx
    rw [this] at hx
    cases hx
    have e : w.heap.size + i = W.heap.size := by omega
    rw [e]
    exact blk_new W _
theorem Obs.nil (w : World) : Obs [] w w := ⟨fun i o h => by simp at h, Below.refl _ _, by simp⟩
theorem Obs.one (w : World) (o : Obj) : Obs [o] w (w.alloc o) := (Obs.nil w).alloc rfl o
theorem Obs.two (w : World) (o1 o2 : Obj) : Obs [o1, o2] w ((w.alloc o1).alloc o2) := (Obs.one w o1).alloc (by simp) o2
theorem Obs.three (w : World) (o1 o2 o3 : Obj) : Obs [o1, o2, o3] w (((w.alloc o1).alloc o2).alloc o3) := (Obs.two w o1 o2).alloc (by simp) o3
theorem Obs.four (w : World) (o1 o2 o3 o4 : Obj) : Obs [o1, o2, o3, o4] w ((((w.alloc o1).alloc o2).alloc o3).alloc o4) := (Obs.three w o1 o2 o3).alloc (by simp) o4
theorem Obs.set (h : Obs os w W) (i j : Nat) (x : Value) (ho : os[i]? = some (.cells cs t)) : Obs (os.set i (.cells (cs.setIfInBounds j x) t)) w (W.setCell ⟨w.heap.size + i, j, none⟩ x) := by
  refine ⟨fun k o hk => ?_, h.below.setCell (p := ⟨_, j, none⟩) (by show w.heap.size ≤ w.heap.size + i; omega) _, by rw [List.length_set]; simp; exact h.size⟩
  rw [List.getElem?_set] at hk
  by_cases e : i = k
  · subst e
    have hi := (List.getElem?_eq_some_iff.1 ho).1
    rw [if_pos rfl, if_pos hi] at hk
    cases hk
    exact blk_set (h.blk i _ ho)
  · rw [if_neg e] at hk
    exact blk_other (h.blk k o hk) (by omega)
/-- The result's box, written. -/
theorem Obs.ret (h : Obs os w W) (i : Nat) (x y : Value) {u v : Value} (ho : os[i]? = some (.cells #[u, v] t)) : Blk ((W.setCell ⟨w.heap.size + i, 0, none⟩ x).setCell ⟨w.heap.size + i, 1, none⟩ y) (w.heap.size + i) (.cells #[x, y] t) ∧ Below w.heap.size w ((W.setCell ⟨w.heap.size + i, 0, none⟩ x).setCell ⟨w.heap.size + i, 1, none⟩ y) :=
  ⟨blk_set2 (h.blk i _ ho), (h.below.setCell (p := ⟨_, 0, none⟩) (by show w.heap.size ≤ w.heap.size + i; omega) _).setCell (p := ⟨_, 1, none⟩) (by show w.heap.size ≤ w.heap.size + i; omega) _⟩
end

end Go.Proofs.YtealnhaffphamaaGreat

namespace Go.Proofs.YtealnhaffphamaaGreat
open Go.RowKit

/-- A region that one operation, e, ends: J and the temporaries' facts till e is drawn, C behind it; I always. -/
structure IRE (J : World → Prop) (e : Nat) (C : (Nat → Value) → World → Prop) (I : World → Prop) (S : Nat → World → Value → Prop) (vals : List (Nat × Nat)) (listed : Array Bool) (t : Nat → Value) (W : World) : Prop where
  fin : I W
  old : listed.getD e false = false → J W ∧ ∀ x ∈ vals, listed.getD x.1 false = true → S x.2 W (t x.2)
  new : listed.getD e false = true → C t W
section
variable {J I : World → Prop} {C : (Nat → Value) → World → Prop} {e : Nat} {S : Nat → World → Value → Prop} {vals : List (Nat × Nat)} {listed : Array Bool} {t : Nat → Value} {W W1 : World} {ops : Array Oper}
theorem IRE.start (n : Nat) (hI : I W) (h : J W) (t : Nat → Value) : IRE J e C I S vals (Array.replicate n false) t W := ⟨hI, fun _ => ⟨h, fun _ _ h => (none_listed h).elim⟩, fun h => (none_listed h).elim⟩
theorem IRE.val {i : Nat} (h : IRE J e C I S vals listed t W) (hC : Cl ops listed) (hr : i ∈ Region.ready .any ops listed) (hre : reachB ops 9 e i = true) (x : Nat × Nat) (hx : x ∈ vals) (hl : listed.getD x.1 false = true) : S x.2 W (t x.2) := (h.old (hC.not hr 9 hre)).2 x hx hl
theorem IRE.bef {i : Nat} (h : IRE J e C I S vals listed t W) (hC : Cl ops listed) (hr : i ∈ Region.ready .any ops listed) (hre : reachB ops 9 e i = true) : J W := (h.old (hC.not hr 9 hre)).1
theorem IRE.yields {i d : Nat} {v : Value} (h : IRE J e C I S vals listed t W) (hC : Cl ops listed) (hr : i ∈ Region.ready .any ops listed) (he : i ≠ e) (hre : reachB ops 9 e i = true) (hI : I W1) (hJ : J W → J W1) (hm : ∀ d v, S d W v → S d W1 v) (hv : S d W1 v) (h1 : clashV vals i d = true) : IRE J e C I S vals (listed.setIfInBounds i true) (upd t d v) W1 :=
  ⟨hI, fun _ => ⟨hJ (h.bef hC hr hre), fun x hx hlx => by
    have hc := List.all_eq_true.1 h1 x hx
    by_cases q : x.1 = i
    · rw [if_pos q] at hc
      have : x.2 = d := by simpa using hc
      rw [this, upd_same]; exact hv
    · rw [if_neg q] at hc
      have hne : x.2 ≠ d := by simpa using hc
      rw [upd_other _ _ hne]
      exact hm _ _ (h.val hC hr hre x hx ((listed_set hlx).resolve_left q))⟩, fun hl => by rw [getD_set_ne he, hC.not hr 9 hre] at hl; simp at hl⟩
theorem IRE.ends (h : IRE J e C I S vals listed t W) (hr : e ∈ Region.ready .any ops listed) (hI : I W1) (hC : C t W1) : IRE J e C I S vals (listed.setIfInBounds e true) t W1 :=
  ⟨hI, fun h0 => by rw [getD_set_eq (ready_spec.1 hr).2.1] at h0; simp at h0, fun _ => hC⟩
theorem IRE.atEnd (h : IRE J e C I S vals listed t W) (hr : e ∈ Region.ready .any ops listed) : J W ∧ ∀ x ∈ vals, listed.getD x.1 false = true → S x.2 W (t x.2) := h.old (getD_tf (ready_spec.1 hr).2.1).1
end

/-- .. and one whose operation e assigns a variable, slot s, that is read ahead of it: v0 till then. -/
structure IRX (e s : Nat) (v0 : Value) (I : World → Prop) (S : Nat → World → Value → Prop) (vals : List (Nat × Nat)) (listed : Array Bool) (t : Nat → Value) (W : World) : Prop where
  ir : IR I S vals listed t W
  ini : listed.getD e false = false → t s = v0
section
variable {e s : Nat} {v0 : Value} {I : World → Prop} {S : Nat → World → Value → Prop} {vals : List (Nat × Nat)} {listed : Array Bool} {t : Nat → Value} {W W1 : World} {ops : Array Oper}
theorem IRX.start (n : Nat) (hI : I W) (t : Nat → Value) (h0 : t s = v0) : IRX e s v0 I S vals (Array.replicate n false) t W := ⟨IR.start n hI t, fun _ => h0⟩
theorem IRX.yields {i d : Nat} {v : Value} (h : IRX e s v0 I S vals listed t W) (he : i ≠ e) (hs : d ≠ s) (hI : I W1) (hm : ∀ d v, S d W v → S d W1 v) (hv : S d W1 v) (h1 : clashV vals i d = true) : IRX e s v0 I S vals (listed.setIfInBounds i true) (upd t d v) W1 :=
  ⟨h.ir.yields hI hm hv h1, fun hl => by rw [upd_other _ _ (fun q => hs q.symm)]; exact h.ini (by rwa [getD_set_ne he] at hl)⟩
theorem IRX.ends {d : Nat} {v : Value} (h : IRX e s v0 I S vals listed t W) (hr : e ∈ Region.ready .any ops listed) (hI : I W1) (hm : ∀ d v, S d W v → S d W1 v) (hv : S d W1 v) (h1 : clashV vals e d = true) : IRX e s v0 I S vals (listed.setIfInBounds e true) (upd t d v) W1 :=
  ⟨h.ir.yields hI hm hv h1, fun hl => by rw [getD_set_eq (ready_spec.1 hr).2.1] at hl; simp at hl⟩
end

end Go.Proofs.YtealnhaffphamaaGreat

namespace Go.Proofs.YtealnhaffphamaaGreat
open Go.RowKit Go.Shelf Go.Proofs.YtealnhaffphamaaGreatW.PrintWords
open Classical

def SameBad (w : World) (e : Ending) (w' : World) : Prop := e = .returned (.tuple #[.bool false, .int .i64 140]) ∧ Below w.heap.size w w'
set_option maxRecDepth 100000 in
set_option maxHeartbeats 4000000 in
theorem same_bad (N M : Int) (A A2 : Option Addr) (c c2 : Nat) (fs gs : Fs) (w : World) (hF : RF w A fs) (hSm : Sm fs) (hI : NI fs) (hcap : (plsA fs).length ≤ 100000) (hG : RF w A2 gs) (hSm2 : Sm gs) (hI2 : NI gs) (hcap2 : (plsA gs).length ≤ 100000) (hno : ¬ (RightP N fs ∧ RightP M gs)) :
    Calls Tryz.prog 12 #[.agg #[.int .i64 N, .slice A fs.length c], .agg #[.int .i64 M, .slice A2 gs.length c2]] w (SameBad w) := by
  obtain ⟨W1, hW1⟩ : ∃ W1, W1 = (w.alloc (.cells #[.int .i64 N, .slice A fs.length c] 31)).alloc (.cells #[.int .i64 M, .slice A2 gs.length c2] 31) := ⟨_, rfl⟩
  have HOB : Hid (Obs [.cells #[.int .i64 N, .slice A fs.length c] 31, .cells #[.int .i64 M, .slice A2 gs.length c2] 31] w W1) := by rw [hW1]; exact Obs.two w _ _
  have HR := Lib.hid (right_at (N := N) (c := c) hF HOB.out.below hSm hI hcap)
  have HR2 : Hid (∀ W, Below w.heap.size w W → Calls Tryz.prog 32 #[.agg #[.int .i64 M, .slice A2 gs.length c2]] W fun e w' => (∃ b, e = .returned (.bool b) ∧ (b = true ↔ RightP M gs)) ∧ Below w.heap.size w w' ∧ Below W.heap.size W w') := fun W hb => right_at (N := M) (c := c2) hG hb hSm2 hI2 hcap2
  have HNO := Lib.hid hno
  clear hF hSm hI hcap hG hSm2 hI2 hcap2 hno
  go_enter Tryz.func12, Tryz.ntmps12
  go_upto_region 1 with fail
  rw [← hW1]
  clear hW1
  have m00 : W1.cell? ⟨w.heap.size, 0, none⟩ = some (.int .i64 N) := HOB.out.cell 0 0 rfl rfl
  have m01 : W1.cell? ⟨w.heap.size, 1, none⟩ = some (.slice A fs.length c) := HOB.out.cell 0 1 rfl rfl
  go_wp2_with fail
  ((with_reducible refine (HR.out).mono ?_); rintro e W2 ⟨⟨b, rfl, hb⟩, -, hbl⟩)
  have HOB2 := Lib.hid (HOB.out.call hbl)
  have HBI := Lib.hid hb
  clear HR hb hbl HOB m00 m01
  have m10 : W2.cell? ⟨w.heap.size + 1, 0, none⟩ = some (.int .i64 M) := HOB2.out.cell 1 0 rfl rfl
  have m11 : W2.cell? ⟨w.heap.size + 1, 1, none⟩ = some (.slice A2 gs.length c2) := HOB2.out.cell 1 1 rfl rfl
  cases b
  · go_wp2
    go_ret2
    exact ⟨rfl, HOB2.out.below⟩
  · go_wp2_with fail
    ((with_reducible refine (HR2.out _ HOB2.out.below).mono ?_); rintro e W3 ⟨⟨b, rfl, hb⟩, -, hbl⟩)
    have HOB3 := Lib.hid (HOB2.out.call hbl)
    have HBJ := Lib.hid hb
    clear hb hbl m10 m11
    cases b
    · go_wp2
      go_ret2
      exact ⟨rfl, HOB3.out.below⟩
    · exact absurd ⟨HBI.out.1 (by simp), HBJ.out.1 rfl⟩ HNO.out
def ShellsBad (w : World) (e : Ending) (w' : World) : Prop := e = .returned (.tuple #[.slice none 0 0, .int .i64 140]) ∧ Below w.heap.size w w'
set_option maxRecDepth 100000 in
set_option maxHeartbeats 4000000 in
theorem shells_bad (N : Int) (A : Option Addr) (c : Nat) (fs : Fs) (w : World) (hF : RF w A fs) (hSm : Sm fs) (hI : NI fs) (hcap : (plsA fs).length ≤ 100000) (hno : ¬ RightP N fs) :
    Calls Tryz.prog 26 #[.agg #[.int .i64 N, .slice A fs.length c]] w (ShellsBad w) := by
  obtain ⟨W1, hW1⟩ : ∃ W1, W1 = w.alloc (.cells #[.int .i64 N, .slice A fs.length c] 31) := ⟨_, rfl⟩
  have HOB : Hid (Obs [.cells #[.int .i64 N, .slice A fs.length c] 31] w W1) := by rw [hW1]; exact Obs.one w _
  have HR := Lib.hid (right_at (N := N) (c := c) hF HOB.out.below hSm hI hcap)
  have HNO := Lib.hid hno
  clear hF hSm hI hcap hno
  go_enter Tryz.func26, Tryz.ntmps26
  go_upto_region 1 with fail
  rw [← hW1]
  clear hW1
  have m00 : W1.cell? ⟨w.heap.size, 0, none⟩ = some (.int .i64 N) := HOB.out.cell 0 0 rfl rfl
  have m01 : W1.cell? ⟨w.heap.size, 1, none⟩ = some (.slice A fs.length c) := HOB.out.cell 0 1 rfl rfl
  go_wp2_with fail
  ((with_reducible refine (HR.out).mono ?_); rintro e W2 ⟨⟨b, rfl, hb⟩, -, hbl⟩)
  have HOB2 := Lib.hid (HOB.out.call hbl)
  have HBI := Lib.hid hb
  clear HR hb hbl HOB m00 m01
  cases b
  · go_wp2
    go_ret2
    exact ⟨rfl, HOB2.out.below⟩
  · exact absurd (HBI.out.1 rfl) HNO.out

end Go.Proofs.YtealnhaffphamaaGreat
