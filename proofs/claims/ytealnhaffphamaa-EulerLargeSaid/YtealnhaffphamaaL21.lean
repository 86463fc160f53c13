/- Contracts of the functions that the statement reaches, and plain lemmas: part 21 of 24. -/
import Derived.Test.YtealnhaffphamaaL10
set_option linter.unusedVariables false
set_option linter.unusedSimpArgs false

namespace Go.Proofs.Ytealnhaffphamaa
open Go.RowKit Go.Shelf Go.Proofs.YtealnhaffphamaaW.PrintWords
open Classical

/-- A region's facts, each from some operations on. -/
structure IRT (I : World → Prop) (L : List (List Nat × (World → (Nat → Value) → Prop))) (listed : Array Bool) (t : Nat → Value) (W : World) : Prop where
  fin : I W
  fact : ∀ x ∈ L, (∀ i ∈ x.1, listed.getD i false = true) → x.2 W t
section
variable {I : World → Prop} {L : List (List Nat × (World → (Nat → Value) → Prop))} {listed : Array Bool} {t t' : Nat → Value} {W W1 : World}
theorem IRT.start (n : Nat) (hI : I W) (hL : L.all (fun x => !x.1.isEmpty) = true) (t : Nat → Value) : IRT I L (Array.replicate n false) t W :=
  ⟨hI, fun x hx h => by
    have h2 := List.all_eq_true.1 hL x hx
    cases hq : x.1 with
    | nil => rw [hq] at h2; simp at h2
    | cons i r => exact (none_listed (h i (by rw [hq]; simp))).elim⟩
theorem IRT.step {i : Nat} (h : IRT I L listed t W) (hI : I W1) (hs : ∀ x ∈ L, i ∉ x.1 → (∀ j ∈ x.1, listed.getD j false = true) → x.2 W t → x.2 W1 t') (hn : ∀ x ∈ L, i ∈ x.1 → (∀ j ∈ x.1, j ≠ i → listed.getD j false = true) → x.2 W1 t') : IRT I L (listed.setIfInBounds i true) t' W1 := by
  refine ⟨hI, fun x hx hl => ?_⟩
  by_cases q : i ∈ x.1
  · exact hn x hx q (fun j hj hne => (listed_set (hl j hj)).resolve_left hne)
  · have h2 : ∀ j ∈ x.1, listed.getD j false = true := fun j hj => (listed_set (hl j hj)).resolve_left (fun e => q (e ▸ hj))
    exact hs x hx q h2 (h.fact x hx h2)
end

section
variable {base : Nat} {v : Value} {fs : Fs} {vf : Nat → Value} {vl : Nat → Nat → Value} {W W' : World}
theorem lpA_setL {fs : Fs} {f l : Nat} (hf : f < fs.length) (hl : l < (fcA fs f).length) (x : List Int) (f' l' : Nat) : lpA (setL fs f l x) f' l' = if f' = f ∧ l' = l then x else lpA fs f' l' := by
  unfold lpA
  rw [fcA_setL hf]
  by_cases e : f' = f
  · subst e
    rw [if_pos rfl, lA_set hl]
    by_cases e2 : l' = l
    · rw [if_pos e2, if_pos ⟨rfl, e2⟩]
    · rw [if_neg e2, if_neg (fun q => e2 q.2)]
  · rw [if_neg e, if_neg (fun q => e q.1)]
theorem fcA_setL_len {fs : Fs} {f l : Nat} (hf : f < fs.length) (x : List Int) (f' : Nat) : (fcA (setL fs f l x) f').length = (fcA fs f').length := by
  rw [fcA_setL hf]
  split
  · rename_i e; subst e; simp
  · rfl
/-- A number of a loop, written in place. -/
theorem MW.putAt {b n c f l i : Nat} (h : MW base v fs fs.length vf vl W) (hd : MD fs fs.length vl) (hf : f < fs.length) (hl : l < (fcA fs f).length) (hv : vl f l = .slice (some ⟨b, 0, none⟩) n c) (x : Int) :
    MW base v (setL fs f l ((lpA fs f l).set i x)) (setL fs f l ((lpA fs f l).set i x)).length vf vl (W.setCell ⟨b, i, none⟩ (.int .i64 x)) := by
  have hb : (vl f l).ownBlock = some b := by rw [hv]; rfl
  have hL := (h.face f hf).ownL l hl
  refine ⟨?_, fun f' hf' => ?_, ?_⟩
  · rw [setL_len]
    exact own_keptB h.own (grown_set _ _ _ _) (fun r q q2 => by cases q; exact own_other_types hL h.own (by decide) hb q2)
  · rw [setL_len] at hf'
    rw [fcA_setL_len hf]
    refine ⟨own_keptB (h.face f' hf').own (grown_set _ _ _ _) (fun r q q2 => by cases q; exact own_other_types hL (h.face f' hf').own (by decide) hb q2), fun l' hl' => ?_⟩
    show (W.setCell ⟨b, i, none⟩ (.int .i64 x)).ownsRow base 3 1 (vl f' l') (lpA (setL fs f l ((lpA fs f l).set i x)) f' l').length (intsV (lpA (setL fs f l ((lpA fs f l).set i x)) f' l'))
    rw [lpA_setL hf hl]
    by_cases e : f' = f ∧ l' = l
    · obtain ⟨rfl, rfl⟩ := e
      rw [if_pos ⟨rfl, rfl⟩, List.length_set]
      have hL2 : W.ownsRow base 3 1 (vl f' l') (lpA fs f' l').length (intsV (lpA fs f' l')) := hL
      have en : n = (lpA fs f' l').length := by
        rcases hL2.2 with ⟨h0, hz⟩ | ⟨g, cap, cur, he, _⟩
        · rw [hv] at h0; cases h0
        · rw [hv] at he; cases he; rfl
      rw [hv, en] at hL2 ⊢
      have := (World.ownsRow.stored hL2 i (.int .i64 x)).1
      rwa [show (intsV (lpA fs f' l')).set i (.int .i64 x) = intsV ((lpA fs f' l').set i x) by unfold intsV; rw [List.map_set]] at this
    · rw [if_neg e]
      refine own_keptB ((h.face f' hf').ownL l' hl') (grown_set _ _ _ _) (fun r q q2 => ?_)
      cases q
      have hap : Ap (vl f' l') (vl f l) := by
        by_cases e1 : f' = f
        · subst e1
          exact hd.1 f' hf l' hl' l hl (fun q => e ⟨rfl, q⟩)
        · exact hd.2 f' hf' f hf e1 l' hl' l hl
      rcases hap with z | z
      · rw [z] at q2; cases q2
      · exact z (q2.trans hb.symm)
  · rw [setL_len]; exact h.dis
theorem MD.setL {f l : Nat} (hd : MD fs fs.length vl) (hf : f < fs.length) (x : List Int) : MD (setL fs f l x) (setL fs f l x).length vl := by
  rw [setL_len]
  exact ⟨fun f' hf' => by rw [fcA_setL_len hf]; exact hd.1 f' hf', fun f' hf' f'' hf'' hne i hi j hj => by rw [fcA_setL_len hf] at hi hj; exact hd.2 f' hf' f'' hf'' hne i hi j hj⟩
variable {v2 : Value} {gs : Fs} {wf : Nat → Value} {wl : Nat → Nat → Value}
theorem map_range_app (n m : Nat) (a b : Nat → Value) : (List.range n).map a ++ (List.range m).map b = (List.range (n + m)).map (fun j => if j < n then a j else b (j - n)) := by
  refine List.ext_getElem (by simp) (fun j h1 h2 => ?_)
  rw [List.getElem_append]
  simp only [List.getElem_map, List.getElem_range, List.length_map, List.length_range]
  split <;> rfl
/-- Models joined. -/
theorem MW.join (h : MW base v fs fs.length vf vl W) (k : MW base v2 gs gs.length wf wl W) (hd : ∀ i, i < fs.length → ∀ j, j < gs.length → Ap (vf i) (wf j)) (hdv : ∀ b, v.ownBlock = some b → ¬ MB v2 gs gs.length wf wl b) {v' : Value}
    (ho : W'.ownsRow base 37 1 v' (fs.length + gs.length) ((List.range fs.length).map vf ++ (List.range gs.length).map wf)) (hg : W.grownBy W' v.ownBlock) :
    MW base v' (fs ++ gs) (fs ++ gs).length (fun j => if j < fs.length then vf j else wf (j - fs.length)) (fun j => if j < fs.length then vl j else wl (j - fs.length)) W' := by
  rw [List.length_append]
  refine ⟨by rw [← map_range_app]; exact ho, fun f hf => ?_, fun i hi j hj hij => ?_⟩
  · by_cases e : f < fs.length
    · have e1 : fcA (fs ++ gs) f = fcA fs f := by simp [fcA, List.getD_eq_getElem?_getD, List.getElem?_append_left e]
      simp only [if_pos e]
      rw [e1]
      exact (h.face f e).kept hg (fun b q => (h.face f e).apart h.own q)
    · have e1 : fcA (fs ++ gs) f = fcA gs (f - fs.length) := by simp [fcA, List.getD_eq_getElem?_getD, List.getElem?_append_right (Nat.le_of_not_lt e)]
      simp only [if_neg e]
      rw [e1]
      exact (k.face _ (by omega)).kept hg (fun b q hb => hdv b q (.inr ⟨_, by omega, hb⟩))
  · show Ap (if i < fs.length then vf i else wf (i - fs.length)) (if j < fs.length then vf j else wf (j - fs.length))
    by_cases e : i < fs.length
    · rw [if_pos e]
      by_cases e2 : j < fs.length
      · rw [if_pos e2]; exact h.dis i e j e2 hij
      · rw [if_neg e2]; exact hd i e _ (by omega)
    · rw [if_neg e]
      by_cases e2 : j < fs.length
      · rw [if_pos e2]; exact (hd j e2 _ (by omega)).symm
      · rw [if_neg e2]; exact k.dis _ (by omega) _ (by omega) (by omega)
end

/-- Numbers greater by N, so far. -/
structure ShI (N : Int) (gs hs : Fs) (P : Nat → Nat → Nat → Prop) : Prop where
  len : hs.length = gs.length
  flen : ∀ f, (fcA hs f).length = (fcA gs f).length
  llen : ∀ f l, (lpA hs f l).length = (lpA gs f l).length
  val : ∀ f l i, f < gs.length → l < (fcA gs f).length → i < (lpA gs f l).length → (lpA hs f l).getD i 0 = if P f l i then (lpA gs f l).getD i 0 + N else (lpA gs f l).getD i 0
theorem ShI.start (N : Int) (gs : Fs) : ShI N gs gs (fun _ _ _ => False) := ⟨rfl, fun _ => rfl, fun _ _ => rfl, fun _ _ _ _ _ _ => by simp⟩
theorem ShI.congr {N : Int} {gs hs : Fs} {P Q : Nat → Nat → Nat → Prop} (h : ShI N gs hs P) (e : ∀ f l i, f < gs.length → l < (fcA gs f).length → i < (lpA gs f l).length → (P f l i ↔ Q f l i)) : ShI N gs hs Q :=
  ⟨h.len, h.flen, h.llen, fun f l i hf hl hi => by
    rw [h.val f l i hf hl hi]
    have : P f l i ↔ Q f l i := e f l i hf hl hi
    simp only [this]⟩
theorem ShI.put {N : Int} {gs hs : Fs} {P : Nat → Nat → Nat → Prop} (h : ShI N gs hs P) {f l i : Nat} (hf : f < gs.length) (hl : l < (fcA gs f).length) (hi : i < (lpA gs f l).length) (hP : ¬ P f l i) :
    ShI N gs (setL hs f l ((lpA hs f l).set i ((lpA gs f l).getD i 0 + N))) (fun f' l' i' => P f' l' i' ∨ (f' = f ∧ l' = l ∧ i' = i)) := by
  have hf2 : f < hs.length := by rw [h.len]; exact hf
  have hl2 : l < (fcA hs f).length := by rw [h.flen]; exact hl
  refine ⟨by rw [setL_len]; exact h.len, fun f' => by rw [fcA_setL_len hf2]; exact h.flen f', fun f' l' => ?_, fun f' l' i' hf' hl' hi' => ?_⟩
  · rw [lpA_setL hf2 hl2]
    split
    · rename_i e; obtain ⟨rfl, rfl⟩ := e; rw [List.length_set]; exact h.llen _ _
    · exact h.llen _ _
  · rw [lpA_setL hf2 hl2]
    by_cases e : f' = f ∧ l' = l
    · obtain ⟨rfl, rfl⟩ := e
      rw [if_pos ⟨rfl, rfl⟩]
      by_cases e2 : i' = i
      · subst e2
        rw [if_pos (.inr ⟨rfl, rfl, rfl⟩)]
        rw [List.getD_eq_getElem?_getD, List.getElem?_set_self (by rw [h.llen]; exact hi)]; rfl
      · rw [List.getD_eq_getElem?_getD, List.getElem?_set_ne (fun q => e2 q.symm), ← List.getD_eq_getElem?_getD, h.val _ _ _ hf' hl' hi']
        by_cases q : P f' l' i'
        · rw [if_pos q, if_pos (.inl q)]
        · rw [if_neg q, if_neg (fun z => z.elim q (fun z => e2 z.2.2))]
    · rw [if_neg e, h.val _ _ _ hf' hl' hi']
      by_cases q : P f' l' i'
      · rw [if_pos q, if_pos (.inl q)]
      · rw [if_neg q, if_neg (fun z => z.elim q (fun z => e ⟨z.1, z.2.1⟩))]
/-- All numbers greater by N. -/
def shAll (N : Int) (gs : Fs) : Fs := gs.map fun f => f.map fun l => l.map fun x => x + N
theorem fs_ext {fs gs : Fs} (h1 : fs.length = gs.length) (h2 : ∀ f, (fcA fs f).length = (fcA gs f).length) (h3 : ∀ f l, (lpA fs f l).length = (lpA gs f l).length) (h4 : ∀ f l i, f < fs.length → l < (fcA fs f).length → i < (lpA fs f l).length → (lpA fs f l).getD i 0 = (lpA gs f l).getD i 0) : fs = gs := by
  refine List.ext_getElem h1 (fun f a b => ?_)
  have e1 : fcA fs f = fs[f] := by simp [fcA, List.getD_eq_getElem?_getD, a]
  have e2 : fcA gs f = gs[f] := by simp [fcA, List.getD_eq_getElem?_getD, b]
  rw [← e1, ← e2]
  refine List.ext_getElem (h2 f) (fun l c d => ?_)
  have e3 : lpA fs f l = (fcA fs f)[l] := by simp [lpA, lA, List.getD_eq_getElem?_getD, c]
  have e4 : lpA gs f l = (fcA gs f)[l] := by simp [lpA, lA, List.getD_eq_getElem?_getD, d]
  rw [← e3, ← e4]
  refine List.ext_getElem (h3 f l) (fun i p q => ?_)
  have := h4 f l i a c p
  simpa [List.getD_eq_getElem?_getD, p, q] using this
theorem fcA_shAll (N : Int) (gs : Fs) (f : Nat) : fcA (shAll N gs) f = (fcA gs f).map fun l => l.map fun x => x + N := by
  unfold fcA shAll
  rw [List.getD_eq_getElem?_getD, List.getD_eq_getElem?_getD, List.getElem?_map]
  cases gs[f]? <;> simp
theorem lpA_shAll (N : Int) (gs : Fs) (f l : Nat) : lpA (shAll N gs) f l = (lpA gs f l).map fun x => x + N := by
  unfold lpA lA
  rw [fcA_shAll, List.getD_eq_getElem?_getD, List.getD_eq_getElem?_getD, List.getElem?_map]
  cases (fcA gs f)[l]? <;> simp
theorem ShI.done {N : Int} {gs hs : Fs} {P : Nat → Nat → Nat → Prop} (h : ShI N gs hs P) (hP : ∀ f l i, f < gs.length → l < (fcA gs f).length → i < (lpA gs f l).length → P f l i) : hs = shAll N gs := by
  refine fs_ext (by rw [h.len]; simp [shAll]) (fun f => by rw [h.flen, fcA_shAll]; simp) (fun f l => by rw [h.llen, lpA_shAll]; simp) (fun f l i hf hl hi => ?_)
  rw [h.len] at hf
  rw [h.flen] at hl
  rw [h.llen] at hi
  rw [h.val f l i hf hl hi, if_pos (hP f l i hf hl hi), lpA_shAll]
  simp [List.getD_eq_getElem?_getD, hi]
theorem ShI.fine {N : Int} {gs hs : Fs} {P : Nat → Nat → Nat → Prop} {k : Nat} (h : ShI N gs hs P) (hF : Fine k gs) (hN : 0 ≤ N ∧ N ≤ 1000) (hv : ∀ v ∈ gs.flatten.flatten, -1000 ≤ v ∧ v ≤ 1000) : Fine k hs := by
  have e1 : nlA hs hs.length = nlA gs gs.length := by
    rw [h.len]
    have : ∀ k, nlA hs k = nlA gs k := by
      intro k; induction k with
      | zero => rfl
      | succ k ih => simp only [nlA]; rw [ih, h.flen]
    exact this _
  have e2 : npA hs hs.length = npA gs gs.length := by
    rw [h.len]
    have hL : ∀ f k, npL hs f k = npL gs f k := by
      intro f k; induction k with
      | zero => rfl
      | succ k ih => simp only [npL]; rw [ih, h.llen]
    have : ∀ k, npA hs k = npA gs k := by
      intro k; induction k with
      | zero => rfl
      | succ k ih => simp only [npA]; rw [ih, h.flen, hL]
    exact this _
  rw [nlA_eq, nlA_eq] at e1
  rw [npA_eq, npA_eq] at e2
  refine ⟨by rw [h.len]; exact hF.faces, by rw [e1]; exact hF.loops, by rw [e2]; exact hF.nodes, fun v hvm => ?_⟩
  rw [← pls_v] at hvm
  obtain ⟨x, hx, rfl⟩ := List.mem_map.1 hvm
  obtain ⟨f, l, i, hf, hl, hi, rfl⟩ := mem_pls.1 hx
  show -1000000 ≤ (lpA hs f l).getD i 0 ∧ (lpA hs f l).getD i 0 ≤ 1000000
  rw [h.len] at hf
  rw [h.flen] at hl
  rw [h.llen] at hi
  rw [h.val f l i hf hl hi]
  have hm : (lpA gs f l).getD i 0 ∈ gs.flatten.flatten := by
    rw [← pls_v]
    exact List.mem_map.2 ⟨pvA gs f l i, mem_pls.2 ⟨f, l, i, hf, hl, hi, rfl⟩, rfl⟩
  have := hv _ hm
  split <;> omega

end Go.Proofs.Ytealnhaffphamaa
