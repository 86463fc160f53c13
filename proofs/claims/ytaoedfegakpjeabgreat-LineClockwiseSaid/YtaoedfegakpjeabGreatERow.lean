/- For every input the law LineClockwise returns true, and each argument reads behind the call as it read before. No condition. -/
import Derived.Test.YtaoedfegakpjeabGreatE14
import Derived.Test.YtaoedfegakpjeabGreatE18
namespace Go.Proofs.YtaoedfegakpjeabGreat
open Go.ChangeShapes Go.WideShapes Go.ChangeAt Go.RowKit

set_option maxHeartbeats 400000 in
set_option maxRecDepth 100000 in
theorem lineClockwise_lifted (os : Os) (started : os.Started) (H : Type) (enc : TypeId × Value → H) :
    ReturnsInHanded {} Tryz.checked os 4 .any (Rows.lineClockwiseSpec.pre6 enc Tryz.prog Tryz.f4 Rows.lineClockwiseRow.domain false) (Rows.lineClockwiseSpec.post enc Tryz.prog Tryz.f4 false true false false) := by
  refine returnsInHanded_of_change (C := Tryz.checked) Tryz.own started (by kernel_rfl) Tryz.func4
    (ChangeSpec.witness6 (enc := enc) (C := Tryz.checked) false ⟨#[], #[.agg #[.int .i64 0, .int .i64 0, .int .i64 0, .int .i64 0], .agg #[.int .i64 0, .int .i64 0, .int .i64 0], .slice none 0 0], []⟩ 8 (by kernel_rfl) (by kernel_rfl) (by kernel_rfl) (by kernel_rfl)) ?_
  intro W base args ds gs before hval0 hW _ _
  have hval : ∀ (j : Nat) t v, Tryz.f4.params[j]? = some t → args[j]? = some v → Value.okWide Tryz.prog W .any base t v := hval0
  have hW' := hW
  obtain ⟨p, q, hA0, hV, rfl, _, _⟩ := hW
  have hA : DataW.TrodAll enc Tryz.prog W 0 (fun _ => true) true Tryz.f4.params.toList args.toList ds p := hA0
  rw [Tryz.params4] at hA hval
  obtain ⟨v0, v1, v2, d0, d1, d2, p0, p1, p2, rfl, rfl, rfl, h0, h1, h2⟩ := trodAll_three hA
  obtain ⟨rfl, rfl⟩ := trodVars_none hV
  obtain ⟨x, rfl, rfl, rfl, ix⟩ := open4 Tryz.u23 Tryz.c23 (hval 0 23 v0 rfl rfl) h0
  obtain ⟨y, rfl, rfl, rfl, iy⟩ := open3 Tryz.u24 Tryz.c24 (hval 1 24 v1 rfl rfl) h1
  obtain ⟨l, il, hl⟩ := open_vecs Tryz.underlying40 (hval 2 40 v2 rfl rfl) h2
  clear hA0 hval0
  simp only [List.append_nil, List.nil_append] at hW'
  have hlt : ∀ z ∈ p2, z.block < W.heap.size := fun z hz => hW'.lt z hz
  refine (clw_any x y l v2 W ix iy il hl).mono fun e W' ⟨he, hb⟩ => ?_
  subst he
  exact ⟨_, rfl, post_below (pa := p2) (pv := []) hW' (fun _ _ _ => trodAll_mk1 (shut_bool Tryz.underlying4 _))
    (fun sp hs => trodAll_mk3 (shut4 Tryz.u23 Tryz.c23 ix) (shut3 Tryz.u24 Tryz.c24 iy) (arg_again (by kernel_rfl) (of_decide_eq_true (by kernel_rfl)) h2 hb hlt hs)) (fun _ _ => rfl) (by simp)
    hb (ok_one (by kernel_rfl) rfl (okWide_bool_mk Tryz.underlying4 _))⟩

theorem lineClockwise_holds : Rows.LineClockwiseSaid :=
  OpenClaim.holds_of_wide 4 Tryz.f4 rfl rfl rfl rfl rfl rfl rfl ⟨rfl, rfl, rfl, rfl, rfl⟩ rfl rfl rfl rfl rfl (by kernel_rfl) Tryz.func4 (by kernel_rfl)
    (of_decide_eq_true (by kernel_rfl)) (by unfold Func.isWrapper; first | (rw [if_pos (by decide +kernel)]; kernel_rfl) | (rw [if_neg (by decide +kernel)]; exact ⟨rfl, rfl⟩))
    (fun os started H enc _ => lineClockwise_lifted os started H enc)
#print axioms lineClockwise_holds

end Go.Proofs.YtaoedfegakpjeabGreat
