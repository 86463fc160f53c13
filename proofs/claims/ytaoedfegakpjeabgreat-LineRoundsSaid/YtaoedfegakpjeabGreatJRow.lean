/- For every input the law LineRounds returns true, and each argument reads behind the call as it read before. No condition. -/
import Derived.Test.YtaoedfegakpjeabGreatJ14
import Derived.OpenShut
import Derived.Test.YtaoedfegakpjeabGreatJ25
namespace Go.Proofs.YtaoedfegakpjeabGreat
open Go.ChangeShapes Go.WideShapes Go.ChangeAt Go.RowKit

theorem Tryz.c47 : Tryz.prog.cellsOf 57 = 8 := by kernel_rfl
theorem Tryz.u47 : Tryz.prog.underlying 57 = some (.array 2 22) := by kernel_rfl
theorem list8 {α : Type} (l : List α) (h : (⟨l⟩ : Array α).size = 8) : ∃ a b c d e f g k, l = [a, b, c, d, e, f, g, k] := by
  match l, h with
  | [a, b, c, d, e, f, g, k], _ => exact ⟨a, b, c, d, e, f, g, k, rfl⟩
section
variable {H : Type} {enc : TypeId × Value → H} {w : World} {base : Nat} {spare : Nat → Bool} {held : Bool}
set_option maxRecDepth 100000 in
theorem four_ints {t : TypeId} (ht : Tryz.prog.underlying t = some (.array 4 2)) {m : Nat} {c0 c1 c2 c3 : Value} {x : DataW H × List MemPlace} (h : DataW.trod enc Tryz.prog w base spare held m t [c0, c1, c2, c3] = some x) : ∃ q : Q4, q.I64 ∧ c0 = .int .i64 q.a ∧ c1 = .int .i64 q.b ∧ c2 = .int .i64 q.c ∧ c3 = .int .i64 q.d := by
  obtain ⟨y0, y1, y2, y3, n, _, hy0, hy1, hy2, hy3⟩ := trod_array4 ht Tryz.cells2 h
  obtain ⟨x0, e0, _, w0⟩ := DataW.trod_int Tryz.u2 hy0
  obtain ⟨x1, e1, _, w1⟩ := DataW.trod_int Tryz.u2 hy1
  obtain ⟨x2, e2, _, w2⟩ := DataW.trod_int Tryz.u2 hy2
  obtain ⟨x3, e3, _, w3⟩ := DataW.trod_int Tryz.u2 hy3
  simp at e0 e1 e2 e3
  exact ⟨⟨x0, x1, x2, x3⟩, ⟨i64_wf w0, i64_wf w1, i64_wf w2, i64_wf w3⟩, e0, e1, e2, e3⟩
set_option maxRecDepth 100000 in
/-- Two planes in one array, opened. -/
theorem open8 {b0 : Nat} {v : Value} {d : DataW H} {p : List MemPlace} (hv : Value.okWide Tryz.prog w .any b0 57 v) (h : DataW.Trod enc Tryz.prog w base spare held 57 v d p) :
    ∃ p q : Q4, v = .agg #[.int .i64 (p.a), .int .i64 (p.b), .int .i64 (p.c), .int .i64 (p.d), .int .i64 (q.a), .int .i64 (q.b), .int .i64 (q.c), .int .i64 (q.d)] ∧ p.I64 ∧ q.I64 := by
  obtain ⟨cs, rfl, hsz, _⟩ : ∃ cs, v = .agg cs ∧ cs.size = Tryz.prog.cellsOf 57 ∧ Row.okWide Tryz.prog w .any b0 57 cs := by
    simpa [Value.okWide, Tryz.u47] using hv
  rw [Tryz.c47] at hsz
  obtain ⟨l⟩ := cs
  obtain ⟨c0, c1, c2, c3, c4, c5, c6, c7, rfl⟩ := list8 l hsz
  obtain ⟨fuel, hf⟩ := h
  obtain ⟨xs, m, _, _, _, hlen, hx⟩ := DataW.trod_array Tryz.u47 hf
  have h0 := hx 0 (by omega)
  have h1 := hx 1 (by omega)
  rw [Tryz.c22] at h0 h1
  rw [List.getElem?_eq_getElem (by omega)] at h0 h1
  obtain ⟨p, ip, e0, e1, e2, e3⟩ := four_ints Tryz.u22 (show DataW.trod enc Tryz.prog w base spare held m 22 [c0, c1, c2, c3] = some _ from by simpa [Value.cells] using h0)
  obtain ⟨q, iq, e4, e5, e6, e7⟩ := four_ints Tryz.u22 (show DataW.trod enc Tryz.prog w base spare held m 22 [c4, c5, c6, c7] = some _ from by simpa [Value.cells] using h1)
  exact ⟨p, q, by rw [e0, e1, e2, e3, e4, e5, e6, e7], ip, iq⟩
end

section
variable {H : Type} {enc : TypeId × Value → H} {w : World} {base : Nat} {spare : Nat → Bool} {held : Bool}
set_option maxRecDepth 100000 in
/-- A slice of planes. -/
theorem open_planes {t : TypeId} {b0 : Nat} {v : Value} {d : DataW H} {p : List MemPlace} (ht : Tryz.prog.underlying t = some (.slice 23))
    (hv : Value.okWide Tryz.prog w .any b0 t v) (h : DataW.Trod enc Tryz.prog w base spare held t v d p) :
    ∃ l : List Q4, (∀ x, x ∈ l → x.I64) ∧ InP w v l := by
  obtain ⟨a, len, cap, rfl⟩ := okWide_slice ht hv
  obtain ⟨fuel, hf⟩ := h
  rcases Deep.open_slice ht hf with ⟨hcs, -⟩ | ⟨a', len', cap', m, n, D, Pl, hcs, hb, hl, hm, hmm, -, hx⟩
  · simp [Value.cells] at hcs
    obtain ⟨rfl, rfl, rfl⟩ := hcs
    exact ⟨[], fun x hx => by simp at hx, .inl ⟨rfl, rfl⟩⟩
  · simp [Value.cells] at hcs
    obtain ⟨rfl, rfl, rfl⟩ := hcs
    have hlm : len ≤ m := by rw [hmm]; split <;> omega
    obtain ⟨l, h1, h2⟩ := choose_list (p := fun i (q : Q4) => q.I64 ∧ w.cell? (a'.add (i * 4)) = some (.int .i64 q.a) ∧ w.cell? (a'.add (i * 4 + 1)) = some (.int .i64 q.b) ∧ w.cell? (a'.add (i * 4 + 2)) = some (.int .i64 q.c) ∧ w.cell? (a'.add (i * 4 + 3)) = some (.int .i64 q.d)) len (fun i hi => by
      obtain ⟨cs, e1, e2⟩ := hx i (by omega)
      rw [Tryz.c23] at e1
      obtain ⟨_, hlen, hc⟩ := World.cells?_some e1
      match cs, hlen with
      | [c0, c1, c2, c3], _ =>
        obtain ⟨q, hq, rfl, rfl, rfl, rfl⟩ := four_ints Tryz.u23 e2
        have r0 := hc 0 (by omega)
        have r1 := hc 1 (by omega)
        have r2 := hc 2 (by omega)
        have r3 := hc 3 (by omega)
        rw [addr_two] at r0 r1 r2 r3
        exact ⟨q, hq, by simpa using r0, by simpa using r1, by simpa using r2, by simpa using r3⟩)
    refine ⟨l, fun x hx => ?_, .inr ⟨len, a', cap, h1.symm, rfl, fun j u hj => ?_, hl, hm⟩⟩
    · obtain ⟨i, hi, rfl⟩ := List.getElem_of_mem hx
      exact (h2 i _ (List.getElem?_eq_getElem hi)).1
    · have hj1 := (List.getElem?_eq_some_iff.1 hj).1
      rw [flat4_len] at hj1
      obtain ⟨q, e⟩ : ∃ q, l[j / 4]? = some q := ⟨_, List.getElem?_eq_getElem (by omega)⟩
      have hg := flat4_get _ _ _ e (j % 4) (by omega)
      obtain ⟨_, c0, c1, c2, c3⟩ := h2 _ _ e
      rw [show j / 4 * 4 + j % 4 = j by omega, hj] at hg
      have ej : j = j / 4 * 4 + j % 4 := by omega
      rw [ej]
      have h3 : j % 4 < 4 := by omega
      generalize j % 4 = r at hg h3 ⊢
      match r, h3 with
      | 0, _ =>
        have hu : u = .int .i64 q.a := by simpa [cells4] using hg
        rw [hu]; exact c0
      | 1, _ =>
        have hu : u = .int .i64 q.b := by simpa [cells4] using hg
        rw [hu]; exact c1
      | 2, _ =>
        have hu : u = .int .i64 q.c := by simpa [cells4] using hg
        rw [hu]; exact c2
      | 3, _ =>
        have hu : u = .int .i64 q.d := by simpa [cells4] using hg
        rw [hu]; exact c3
end

set_option maxHeartbeats 400000 in
set_option maxRecDepth 100000 in
theorem lineRounds_lifted (os : Os) (started : os.Started) (H : Type) (enc : TypeId × Value → H) :
    ReturnsInHanded {} Tryz.checked os 6 .any (Rows.lineRoundsSpec.pre6 enc Tryz.prog Tryz.f6 Rows.lineRoundsRow.domain false) (Rows.lineRoundsSpec.post enc Tryz.prog Tryz.f6 false true false false) := by
  refine returnsInHanded_of_change (C := Tryz.checked) Tryz.own started (by kernel_rfl) Tryz.func6
    (ChangeSpec.witness6 (enc := enc) (C := Tryz.checked) false ⟨#[], #[.agg #[.int .i64 0, .int .i64 0, .int .i64 0, .int .i64 0, .int .i64 0, .int .i64 0, .int .i64 0, .int .i64 0], .slice none 0 0, .slice none 0 0], []⟩ 8 (by kernel_rfl) (by kernel_rfl) (by kernel_rfl) (by kernel_rfl)) ?_
  intro W base args ds gs before hval0 hW _ _
  have hval : ∀ (j : Nat) t v, Tryz.f6.params[j]? = some t → args[j]? = some v → Value.okWide Tryz.prog W .any base t v := hval0
  have hW' := hW
  obtain ⟨p, q, hA0, hV, rfl, _, _⟩ := hW
  have hA : DataW.TrodAll enc Tryz.prog W 0 (fun _ => true) true Tryz.f6.params.toList args.toList ds p := hA0
  rw [Tryz.params6] at hA hval
  obtain ⟨v0, v1, v2, d0, d1, d2, p0, p1, p2, rfl, rfl, rfl, h0, h1, h2⟩ := trodAll_three hA
  obtain ⟨rfl, rfl⟩ := trodVars_none hV
  obtain ⟨x, y, rfl, ix, iy⟩ := open8 (hval 0 57 v0 rfl rfl) h0
  obtain ⟨l1, il1, hl1⟩ := open_planes Tryz.underlying31 (hval 1 31 v1 rfl rfl) h1
  obtain ⟨l2, il2, hl2⟩ := open_vecs Tryz.underlying40 (hval 2 40 v2 rfl rfl) h2
  clear hA0 hval0
  have hlt : ∀ z ∈ p0 ++ (p1 ++ p2), z.block < W.heap.size := fun z hz => hW'.lt z (by simpa using hz)
  refine (rounds_any x y l1 l2 v1 v2 W il1 hl1 hl2).mono fun e W' ⟨he, hb⟩ => ?_
  subst he
  exact ⟨_, rfl, post_below (pa := p0 ++ (p1 ++ p2)) (pv := []) hW' (fun _ _ _ => trodAll_mk1 (shut_bool Tryz.underlying4 _))
    (fun sp hs => trodAll_mk3 (arg_again (by kernel_rfl) (of_decide_eq_true (by kernel_rfl)) h0 hb (fun z hz => hlt z (by simp [hz])) (fun z hz => hs z (by simp [hz])))
      (arg_again (by kernel_rfl) (of_decide_eq_true (by kernel_rfl)) h1 hb (fun z hz => hlt z (by simp [hz])) (fun z hz => hs z (by simp [hz])))
      (arg_again (by kernel_rfl) (of_decide_eq_true (by kernel_rfl)) h2 hb (fun z hz => hlt z (by simp [hz])) (fun z hz => hs z (by simp [hz])))) (fun _ _ => rfl) (by simp)
    hb (ok_one (by kernel_rfl) rfl (okWide_bool_mk Tryz.underlying4 _))⟩

theorem lineRounds_holds : Rows.LineRoundsSaid :=
  OpenClaim.holds_of_wide 6 Tryz.f6 rfl rfl rfl rfl rfl rfl rfl ⟨rfl, rfl, rfl, rfl, rfl⟩ rfl rfl rfl rfl rfl (by kernel_rfl) Tryz.func6 (by kernel_rfl)
    (of_decide_eq_true (by kernel_rfl)) (by unfold Func.isWrapper; first | (rw [if_pos (by decide +kernel)]; kernel_rfl) | (rw [if_neg (by decide +kernel)]; exact ⟨rfl, rfl⟩))
    (fun os started H enc _ => lineRounds_lifted os started H enc)
#print axioms lineRounds_holds

end Go.Proofs.YtaoedfegakpjeabGreat
