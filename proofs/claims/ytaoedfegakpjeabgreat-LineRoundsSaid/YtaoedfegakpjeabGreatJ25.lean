/- Contracts of the functions that the statement reaches, and plain lemmas: part 25 of 25. -/
import Derived.Test.YtaoedfegakpjeabGreatJ24
import Derived.Test.YtaoedfegakpjeabGreatJ13
import Derived.Deep.CutRange
import Derived.Deep.DeepCutAuto
import Derived.Deep.CutBlock

namespace Go.Proofs.YtaoedfegakpjeabGreat
open Go.RowKit

def B8' (p q : Q4) : Obj := .cells #[.int .i64 p.a, .int .i64 p.b, .int .i64 p.c, .int .i64 p.d, .int .i64 q.a, .int .i64 q.b, .int .i64 q.c, .int .i64 q.d] 57
theorem blk_eight' {W : World} {b : Nat} {p q : Q4} (h : Blk W b (B8' p q)) : (W.cell? ⟨b, 0, none⟩ = some (.int .i64 p.a) ∧ W.cell? ⟨b, 1, none⟩ = some (.int .i64 p.b) ∧ W.cell? ⟨b, 2, none⟩ = some (.int .i64 p.c) ∧ W.cell? ⟨b, 3, none⟩ = some (.int .i64 p.d)) ∧ (W.cell? ⟨b, 4, none⟩ = some (.int .i64 q.a) ∧ W.cell? ⟨b, 5, none⟩ = some (.int .i64 q.b) ∧ W.cell? ⟨b, 6, none⟩ = some (.int .i64 q.c) ∧ W.cell? ⟨b, 7, none⟩ = some (.int .i64 q.d)) :=
  ⟨⟨(blk_cells h).1 _ _ rfl, (blk_cells h).1 _ _ rfl, (blk_cells h).1 _ _ rfl, (blk_cells h).1 _ _ rfl⟩, (blk_cells h).1 _ _ rfl, (blk_cells h).1 _ _ rfl, (blk_cells h).1 _ _ rfl, (blk_cells h).1 _ _ rfl⟩
theorem pb_four {W : World} {b : Nat} {c : Array Value} (h : PB W b c) (hq : VP.pl.holds (.agg c)) : ∃ q : Q4, q.plane = true ∧ q.I64 ∧ PB4 W b q := by
  obtain ⟨q, h1, h2, h3⟩ := hq
  have e : c = #[.int .i64 q.a, .int .i64 q.b, .int .i64 q.c, .int .i64 q.d] := by simpa using h3
  refine ⟨q, by rw [← right_plane h2]; exact h1, h2, 23, ?_⟩
  rw [← e]; exact h.2
theorem InP.below {w W : World} {v : Value} {l : List Q4} (h : InP w v l) (hb : Below w.heap.size w W) : InP W v l := by
  rcases h with h | ⟨n, ad, cap, h1, h2, h3, h4⟩
  · exact .inl h
  · exact .inr ⟨n, ad, cap, h1, h2, fun j u hj => (hb.cell (World.block_lt_of_cell? w _ (h3 j u hj))).trans (h3 j u hj), h4⟩

theorem infoT3 : (Tryz.prog.info? 24).map (fun i => (i.zero, i.size, i.bytes)) = some (some (.agg #[.int .i64 0, .int .i64 0, .int .i64 0]), 3, 24) := by kernel_rfl
theorem SlV.at {W : World} {g o n c : Nat} {L : List Q4} (h : SlV W (.slice (some ⟨g, o, none⟩) n c) L) {i : Nat} {x : Q4} (hi : L[i]? = some x) : At4 W g (o + i * 4) x := by
  rcases h with ⟨hv, _⟩ | ⟨b, o', cap, hv, _, hs⟩
  · simp at hv
  · simp only [Value.slice.injEq, Option.some.injEq, Addr.mk.injEq, and_true] at hv
    obtain ⟨⟨rfl, rfl⟩, -, -⟩ := hv
    exact hs i x hi
theorem SlV.addr {W : World} {a : Option Addr} {n c : Nat} {L : List Q4} (h : SlV W (.slice a n c) L) (h0 : 0 < L.length) : ∃ g o, a = some ⟨g, o, none⟩ := by
  rcases h with ⟨_, hl⟩ | ⟨b, o, cap, hv, _, _⟩
  · rw [hl] at h0; simp at h0
  · simp only [Value.slice.injEq] at hv; exact ⟨b, o, hv.1⟩
def roS9 (p q x : Q4) (V : Value) (g o i : Nat) (d : Nat) (_ : World) (v : Value) : Prop := match d with
  | 58 => v = V
  | 59 => v = .int .i64 i
  | 60 => v = .pointer (some ⟨g, o + i * 4, none⟩)
  | 61 => v = .agg #[.int .i64 (x.a), .int .i64 (x.b), .int .i64 (x.c), .int .i64 (x.d)]
  | 62 => v = .bool true
  | 65 => v = .agg #[.int .i64 (p.a), .int .i64 (p.b), .int .i64 (p.c), .int .i64 (p.d)]
  | 66 => v = V
  | 67 => v = .int .i64 i
  | 68 => v = .pointer (some ⟨g, o + i * 4, none⟩)
  | 69 => v = .agg #[.int .i64 (x.a), .int .i64 (x.b), .int .i64 (x.c), .int .i64 (x.d)]
  | 70 => v = .int .i64 0
  | 74 => v = .agg #[.int .i64 (q.a), .int .i64 (q.b), .int .i64 (q.c), .int .i64 (q.d)]
  | 75 => v = V
  | 76 => v = .int .i64 i
  | 77 => v = .pointer (some ⟨g, o + i * 4, none⟩)
  | 78 => v = .agg #[.int .i64 (x.a), .int .i64 (x.b), .int .i64 (x.c), .int .i64 (x.d)]
  | 79 => v = .int .i64 0
  | _ => v = .bool false
def roS12 (p q x y : Q4) (V : Value) (g o i j : Nat) (d : Nat) (_ : World) (v : Value) : Prop := match d with
  | 85 => v = .agg #[.int .i64 (p.a), .int .i64 (p.b), .int .i64 (p.c), .int .i64 (p.d)]
  | 86 => v = .agg #[.int .i64 (q.a), .int .i64 (q.b), .int .i64 (q.c), .int .i64 (q.d)]
  | 87 => v = V
  | 88 => v = .int .i64 i
  | 89 => v = .int .i64 j
  | 90 => v = .pointer (some ⟨g, o + j * 4, none⟩)
  | 91 => v = .agg #[.int .i64 (y.a), .int .i64 (y.b), .int .i64 (y.c), .int .i64 (y.d)]
  | 92 => v = V
  | 93 => v = .int .i64 i
  | 94 => v = .pointer (some ⟨g, o + i * 4, none⟩)
  | 95 => v = .agg #[.int .i64 (x.a), .int .i64 (x.b), .int .i64 (x.c), .int .i64 (x.d)]
  | 96 => v = .tuple #[.int .i64 (-1), .int .i64 0]
  | 84 => v = .tuple #[.int .i64 (-1), .int .i64 0]
  | 97 => v = .int .i64 (-1)
  | 98 => v = .int .i64 0
  | 13 => v = .int .i64 (-1)
  | _ => v = .int .i64 0
def roS19 (p : Q4) (y : T3) (V V2 : Value) (ad : Addr) (B k n n0 : Nat) (d : Nat) (W : World) (v : Value) : Prop := match d with
  | 115 => v = V
  | 116 => v = .agg #[.int .i64 (p.a), .int .i64 (p.b), .int .i64 (p.c), .int .i64 (p.d)]
  | 117 => v = V2
  | 118 => v = .int .i64 k
  | 119 => v = .pointer (some (ad.add (k * 3)))
  | 120 => v = .agg #[.int .i64 (y.x), .int .i64 (y.y), .int .i64 (y.z)]
  | 121 => ∃ z : T3, WayOK p z ∧ v = .agg #[.int .i64 (z.x), .int .i64 (z.y), .int .i64 (z.z)]
  | 122 => ∃ z : T3, ∃ b, WayOK p z ∧ v = .slice (some ⟨b, 0, none⟩) 1 1 ∧ (n0 ≤ b ∧ b < W.heap.size) ∧ At3 W b 0 z
  | 123 => ∃ L : List T3, L.length = n + 1 ∧ (∀ z, z ∈ L → WayOK p z) ∧ RowT B v L W
  | 15 => ∃ L : List T3, L.length = n + 1 ∧ (∀ z, z ∈ L → WayOK p z) ∧ RowT B v L W
  | _ => True
theorem roS19.mono {p : Q4} {y : T3} {V V2 : Value} {ad : Addr} {B k n n0 : Nat} {W W1 : World} (hb : Below W.heap.size W W1) : ∀ d v, roS19 p y V V2 ad B k n n0 d W v → roS19 p y V V2 ad B k n n0 d W1 v := by
  intro d v h
  unfold roS19 at h ⊢
  split at h
  all_goals first
    | exact h
    | (obtain ⟨z, b, h1, h2, h3, h4⟩ := h; exact ⟨z, b, h1, h2, ⟨h3.1, Nat.lt_of_lt_of_le h3.2 hb.size⟩, h4.below hb h3.2⟩)
    | (obtain ⟨L, h1, h2, h3⟩ := h; exact ⟨L, h1, h2, h3.call hb⟩)
theorem roS19.grown {p : Q4} {y : T3} {V V2 : Value} {ad : Addr} {B k n n0 : Nat} {W W1 : World} {row : Option Nat} (hg : W.grownBy W1 row) (hr : ∀ c, row = some c → c < n0) : ∀ d v, d ≠ 123 → d ≠ 15 → roS19 p y V V2 ad B k n n0 d W v → roS19 p y V V2 ad B k n n0 d W1 v := by
  intro d v hd hd2 h
  unfold roS19 at h ⊢
  split at h
  all_goals first
    | exact h
    | (obtain ⟨z, b, h1, h2, h3, h4⟩ := h
       have k : ∀ o, W1.cell? ⟨b, o, none⟩ = W.cell? ⟨b, o, none⟩ := fun o => hg.cell_far _ h3.2 (fun e => by have := hr b e.symm; have := h3.1; omega)
       exact ⟨z, b, h1, h2, ⟨h3.1, Nat.lt_of_lt_of_le h3.2 hg.size⟩, (k _).trans h4.1, (k _).trans h4.2.1, (k _).trans h4.2.2⟩)
    | exact absurd rfl hd
    | exact absurd rfl hd2

def roS31 (p : Q4) (f x z : T3) (g N cap3 j c : Nat) (U1 U2 U3 : Int) (d : Nat) (_ : World) (v : Value) : Prop := match d with
  | 160 => v = .agg #[.int .i64 (p.a), .int .i64 (p.b), .int .i64 (p.c), .int .i64 (p.d)]
  | 161 => v = .agg #[.int .i64 (f.x), .int .i64 (f.y), .int .i64 (f.z)]
  | 162 => v = .slice (some ⟨g, 3, none⟩) N (cap3 - 1)
  | 163 => v = .int .i64 j
  | 164 => v = .pointer (some ⟨g, 3 + j * 3, none⟩)
  | 165 => v = .agg #[.int .i64 (x.x), .int .i64 (x.y), .int .i64 (x.z)]
  | 166 => v = .tuple #[.int .i64 U1, .int .i64 0]
  | 159 => v = .tuple #[.int .i64 U1, .int .i64 0]
  | 167 => v = .int .i64 U1
  | 168 => v = .int .i64 0
  | 23 => v = .int .i64 U1
  | 24 => v = .int .i64 0
  | _ => True
def roS32 (p : Q4) (f x z : T3) (g N cap3 j c : Nat) (U1 U2 U3 : Int) (d : Nat) (_ : World) (v : Value) : Prop := match d with
  | 170 => v = .agg #[.int .i64 (p.a), .int .i64 (p.b), .int .i64 (p.c), .int .i64 (p.d)]
  | 171 => v = .slice (some ⟨g, 3, none⟩) N (cap3 - 1)
  | 172 => v = .int .i64 j
  | 173 => v = .pointer (some ⟨g, 3 + j * 3, none⟩)
  | 174 => v = .agg #[.int .i64 (x.x), .int .i64 (x.y), .int .i64 (x.z)]
  | 175 => v = .agg #[.int .i64 (f.x), .int .i64 (f.y), .int .i64 (f.z)]
  | 176 => v = .tuple #[.int .i64 U2, .int .i64 0]
  | 169 => v = .tuple #[.int .i64 U2, .int .i64 0]
  | 177 => v = .int .i64 U2
  | 178 => v = .int .i64 0
  | 25 => v = .int .i64 U2
  | 26 => v = .int .i64 0
  | _ => True
def roS33 (p : Q4) (f x z : T3) (g N cap3 j c : Nat) (U1 U2 U3 : Int) (d : Nat) (_ : World) (v : Value) : Prop := match d with
  | 180 => v = .agg #[.int .i64 (p.a), .int .i64 (p.b), .int .i64 (p.c), .int .i64 (p.d)]
  | 181 => v = .agg #[.int .i64 (f.x), .int .i64 (f.y), .int .i64 (f.z)]
  | 182 => v = .slice (some ⟨g, 3, none⟩) N (cap3 - 1)
  | 183 => v = .int .i64 c
  | 184 => v = .pointer (some ⟨g, 3 + c * 3, none⟩)
  | 185 => v = .agg #[.int .i64 (z.x), .int .i64 (z.y), .int .i64 (z.z)]
  | 186 => v = .tuple #[.int .i64 U3, .int .i64 0]
  | 179 => v = .tuple #[.int .i64 U3, .int .i64 0]
  | 187 => v = .int .i64 U3
  | 188 => v = .int .i64 0
  | 27 => v = .int .i64 U3
  | 28 => v = .int .i64 0
  | _ => True
def roS37 (O u1 u3 : Nat) (d : Nat) (_ : World) (v : Value) : Prop := match d with
  | 223 => v = .int .i64 u1
  | 224 => v = .pointer (some ⟨O, u1, none⟩)
  | 225 => v = .int .i64 (3 - (u1 : Int))
  | 226 => v = .int .i64 u3
  | 227 => v = .pointer (some ⟨O, u3, none⟩)
  | 228 => v = .int .i64 (3 - (u3 : Int))
  | 229 => v = .bool false
  | _ => True

set_option maxRecDepth 100000 in
set_option maxHeartbeats 4000000 in
theorem rounds_any (p0 q0 : Q4) (l1 : List Q4) (l2 : List T3) (v1 v2 : Value) (w : World) (il1 : ∀ x, x ∈ l1 → x.I64) (hv1 : InP w v1 l1) (hv2 : InV w v2 l2) :
    Calls Tryz.prog 6 #[.agg #[.int .i64 (p0.a), .int .i64 (p0.b), .int .i64 (p0.c), .int .i64 (p0.d), .int .i64 (q0.a), .int .i64 (q0.b), .int .i64 (q0.c), .int .i64 (q0.d)], v1, v2] w fun e w' => e = .returned (.bool true) ∧ Below w.heap.size w w' := by
  have HTL : Hid (∀ W, Below w.heap.size w W → Calls Tryz.prog 29 #[v1] W fun e w' => (∃ v L, e = .returned v ∧ (List.length L ≤ 12 ∧ ∀ x, x ∈ L → Q4.I64 x) ∧ L.all Q4.plane = true ∧ RowP W.heap.size v L w') ∧ Below W.heap.size W w') := fun W hb => tameL_any l1 v1 W il1 (hv1.below hb)
  obtain ⟨A, cap2, rfl, hN, hv⟩ := hv2.shape
  have HV2 := Lib.hid hv
  clear il1 hv1 hv2 hv
  go_enter Tryz.func6, Tryz.ntmps6
  go_upto_region 1 with fail
  go_cut [7, 8] from 30 to 35 (fun s7 s8 wx => ∃ P, s7 = .pointer (some ⟨P, 0, none⟩) ∧ ∃ Q, s8 = .pointer (some ⟨Q, 0, none⟩) ∧ ∃ p q : Q4, Hid ((p.plane = true ∧ q.plane = true) ∧ p.I64 ∧ q.I64) ∧ Hid (LR p q P Q w wx))
  case first =>
    have HS : Hid (Below w.heap.size w (w.alloc (.cells #[.int .i64 p0.a, .int .i64 p0.b, .int .i64 p0.c, .int .i64 p0.d, .int .i64 q0.a, .int .i64 q0.b, .int .i64 q0.c, .int .i64 q0.d] 57)) ∧ Blk (w.alloc (.cells #[.int .i64 p0.a, .int .i64 p0.b, .int .i64 p0.c, .int .i64 p0.d, .int .i64 q0.a, .int .i64 q0.b, .int .i64 q0.c, .int .i64 q0.d] 57)) w.heap.size (B8' p0 q0)) := ⟨(Below.refl _ _).alloc (Nat.le_refl _) _, blk_new w (B8' p0 q0)⟩
    generalize w.alloc (.cells #[.int .i64 p0.a, .int .i64 p0.b, .int .i64 p0.c, .int .i64 p0.d, .int .i64 q0.a, .int .i64 q0.b, .int .i64 q0.c, .int .i64 q0.d] 57) = W0 at HS ⊢
    have HB8 : Hid (∀ W, Below W0.drew.heap.size W0.drew W → Blk W w.heap.size (B8' p0 q0)) := fun W hb => HS.out.2.below (W := W0) ((Below.refl W0.heap.size W0).drew.trans hb) HS.out.2.lt
    refine wp_region_inv (by kernel_rfl) (by kernel_rfl) (fun listed aa wy => ∃ u : Nat → Value, aa = { tmps := #[.agg #[.int .i64 (p0.a), .int .i64 (p0.b), .int .i64 (p0.c), .int .i64 (p0.d), .int .i64 (q0.a), .int .i64 (q0.b), .int .i64 (q0.c), .int .i64 (q0.d)], v1, .slice A l2.length cap2, .pointer (some ⟨w.heap.size, 0, none⟩), undef, undef, .bool false, u 7, u 8, undef, undef, undef, undef, undef, undef, undef, undef, undef, undef, undef, undef, undef, undef, undef, undef, undef, undef, undef, undef, undef, u 30, u 31, u 32, u 33, u 34, u 35, undef, undef, undef, undef, undef, undef, undef, undef, undef, undef, undef, undef, undef, undef, undef, undef, undef, undef, undef, undef, undef, undef, undef, undef, undef, undef, undef, undef, undef, undef, undef, undef, undef, undef, undef, undef, undef, undef, undef, undef, undef, undef, undef, undef, undef, undef, undef, undef, undef, undef, undef, undef, undef, undef, undef, undef, undef, undef, undef, undef, undef, undef, undef, undef, undef, undef, undef, undef, undef, undef, undef, undef, undef, undef, undef, undef, undef, undef, undef, undef, undef, undef, undef, undef, undef, undef, undef, undef, undef, undef, undef, undef, undef, undef, undef, undef, undef, undef, undef, undef, undef, undef, undef, undef, undef, undef, undef, undef, undef, undef, undef, undef, undef, undef, undef, undef, undef, undef, undef, undef, undef, undef, undef, undef, undef, undef, undef, undef, undef, undef, undef, undef, undef, undef, undef, undef, undef, undef, undef, undef, undef, undef, undef, undef, undef, undef, undef, undef, undef, undef, undef, undef, undef, undef, undef, undef, undef, undef, undef, undef, undef, undef, undef, undef, undef, undef, undef, undef, undef, undef, undef, undef, undef, undef, undef, undef, undef, undef, undef, undef, undef, undef, undef, undef, undef, undef, undef, undef, undef, undef, undef, undef, undef, undef, undef], defers := [] } ∧ RgQ W0.drew (fun d => match d with | 30 => .eq (.pointer (some ⟨w.heap.size, 0, none⟩)) | 31 => .eq (.agg #[.int .i64 (p0.a), .int .i64 (p0.b), .int .i64 (p0.c), .int .i64 (p0.d)]) | 33 => .eq (.pointer (some ⟨w.heap.size, 4, none⟩)) | 34 => .eq (.agg #[.int .i64 (q0.a), .int .i64 (q0.b), .int .i64 (q0.c), .int .i64 (q0.d)]) | _ => .pl) (fun _ => .pl) [(0, 30), (1, 31), (2, 32), (3, 33), (4, 34), (5, 35)] [(6, 7, 8), (7, 8, 9)] listed u wy) ⟨fun _ => undef, rfl, RgQ.start _ _⟩ ?_ ?_
    rotate_left
    · rintro listed hs i hi aa wy ⟨u, rfl, hR⟩ hr
      match i, hi, hr with
      | 0, _, hr =>
        as_aux_lemma =>
        refine wpOp_step rfl (fun K' hK => ?_)
        go_simp
        exact hK _ _ ⟨upd u 30 _, rfl, hR.yields (Below.refl _ _) rfl rfl rfl⟩
      | 1, _, hr =>
        as_aux_lemma =>
        refine wpOp_step rfl (fun K' hK => ?_)
        have e1 : u 30 = .pointer (some ⟨w.heap.size, 0, none⟩) := hR.val (0, 30) (by simp) (dep_of hr 0 (by kernel_rfl))
        obtain ⟨⟨c0, c1, c2, c3⟩, c4, c5, c6, c7⟩ := blk_eight' (HB8.out _ hR.below)
        go_simp
        exact hK _ _ ⟨upd u 31 _, by simp [upd, e1], hR.yields (Below.refl _ _) rfl rfl rfl⟩
      | 2, _, hr =>
        as_aux_lemma =>
        refine wpOp_step rfl (fun K' hK => ?_)
        have e0 : u 31 = .agg #[.int .i64 (p0.a), .int .i64 (p0.b), .int .i64 (p0.c), .int .i64 (p0.d)] := hR.val (1, 31) (by simp) (dep_of hr 1 (by kernel_rfl))
        go_simp
        refine (tame_any p0.a p0.b p0.c p0.d 3 wy (by decide) (by decide)).mono ?_
        rintro e w1 ⟨⟨q, hq1, hq2, rfl⟩, hb1⟩
        exact hK _ _ ⟨upd u 32 _, by simp [upd, e0], hR.yields hb1 ⟨q, hq1, hq2, rfl⟩ rfl rfl⟩
      | 3, _, hr =>
        as_aux_lemma =>
        refine wpOp_step rfl (fun K' hK => ?_)
        go_simp
        exact hK _ _ ⟨upd u 33 _, rfl, hR.yields (Below.refl _ _) rfl rfl rfl⟩
      | 4, _, hr =>
        as_aux_lemma =>
        refine wpOp_step rfl (fun K' hK => ?_)
        have e1 : u 33 = .pointer (some ⟨w.heap.size, 4, none⟩) := hR.val (3, 33) (by simp) (dep_of hr 3 (by kernel_rfl))
        obtain ⟨⟨c0, c1, c2, c3⟩, c4, c5, c6, c7⟩ := blk_eight' (HB8.out _ hR.below)
        go_simp
        exact hK _ _ ⟨upd u 34 _, by simp [upd, e1], hR.yields (Below.refl _ _) rfl rfl rfl⟩
      | 5, _, hr =>
        as_aux_lemma =>
        refine wpOp_step rfl (fun K' hK => ?_)
        have e0 : u 34 = .agg #[.int .i64 (q0.a), .int .i64 (q0.b), .int .i64 (q0.c), .int .i64 (q0.d)] := hR.val (4, 34) (by simp) (dep_of hr 4 (by kernel_rfl))
        go_simp
        refine (tame_any q0.a q0.b q0.c q0.d 3 wy (by decide) (by decide)).mono ?_
        rintro e w1 ⟨⟨q, hq1, hq2, rfl⟩, hb1⟩
        exact hK _ _ ⟨upd u 35 _, by simp [upd, e0], hR.yields hb1 ⟨q, hq1, hq2, rfl⟩ rfl rfl⟩
      | 6, _, hr =>
        as_aux_lemma =>
        refine wpOp_step rfl (fun K' hK => ?_)
        go_simp
        exact hK _ _ ⟨upd u 7 _, rfl, hR.makes rfl (ready_spec.1 hr).2.1 rfl rfl⟩
      | 7, _, hr =>
        as_aux_lemma =>
        refine wpOp_step rfl (fun K' hK => ?_)
        go_simp
        exact hK _ _ ⟨upd u 8 _, rfl, hR.makes rfl (ready_spec.1 hr).2.1 rfl rfl⟩
      | 8, _, hr =>
        as_aux_lemma =>
        refine wpOp_step rfl (fun K' hK => ?_)
        have hl := dep_of hr 6 (by kernel_rfl)
        obtain ⟨b, c, eb, _, hn, _⟩ := hR.ali (6, 7, 8) (by simp) hl
        obtain ⟨q, hq1, hq2, ev⟩ : ∃ q : Q4, rightB q.a q.b q.c q.d = true ∧ q.I64 ∧ u 32 = .agg #[.int .i64 (q.a), .int .i64 (q.b), .int .i64 (q.c), .int .i64 (q.d)] := hR.val (2, 32) (by simp) (dep_of hr 2 (by kernel_rfl))
        have hrm : Room wy b 4 := ⟨c, _, hn.1, hn.2⟩
        have HQ := Lib.hid (And.intro hq1 hq2)
        clear hn hq1 hq2
        have rc := hrm.cell
        have rf := hrm.frozen
        go_simp
        exact hK _ _ ⟨u, by simp [ev, eb], hR.stores (k := 6) (d := 7) hl eb ⟨q, HQ.out.1, HQ.out.2, rfl⟩ rfl⟩
      | 9, _, hr =>
        as_aux_lemma =>
        refine wpOp_step rfl (fun K' hK => ?_)
        have hl := dep_of hr 7 (by kernel_rfl)
        obtain ⟨b, c, eb, _, hn, _⟩ := hR.ali (7, 8, 9) (by simp) hl
        obtain ⟨q, hq1, hq2, ev⟩ : ∃ q : Q4, rightB q.a q.b q.c q.d = true ∧ q.I64 ∧ u 35 = .agg #[.int .i64 (q.a), .int .i64 (q.b), .int .i64 (q.c), .int .i64 (q.d)] := hR.val (5, 35) (by simp) (dep_of hr 5 (by kernel_rfl))
        have hrm : Room wy b 4 := ⟨c, _, hn.1, hn.2⟩
        have HQ := Lib.hid (And.intro hq1 hq2)
        clear hn hq1 hq2
        have rc := hrm.cell
        have rf := hrm.frozen
        go_simp
        exact hK _ _ ⟨u, by simp [ev, eb], hR.stores (k := 7) (d := 8) hl eb ⟨q, HQ.out.1, HQ.out.2, rfl⟩ rfl⟩
    rintro listed a2 W2 ⟨u, rfl, hR⟩ hl
    obtain ⟨b0, c0, e0, lo0, h0, t0⟩ := hR.ali (6, 7, 8) (by simp) (hl 6 (by decide))
    obtain ⟨x0, px0, ix0, hx0⟩ := pb_four h0 (t0 (hl 8 (by decide)))
    obtain ⟨b1, c1, e1, lo1, h1, t1⟩ := hR.ali (7, 8, 9) (by simp) (hl 7 (by decide))
    obtain ⟨x1, px1, ix1, hx1⟩ := pb_four h1 (t1 (hl 9 (by decide)))
    have hbW : Below W0.heap.size W0 W2 := (Below.refl W0.heap.size W0).drew.trans hR.below
    obtain ⟨t3, t4⟩ := HS.out
    have l0 := t4.lt
    have HL : Hid (LR x0 x1 b0 b1 w W2) := ⟨t3.trans (hbW.mono t3.size), ⟨by have : W0.heap.size ≤ b0 := lo0; omega, by have : W0.heap.size ≤ b1 := lo1; omega⟩, hx0, hx1⟩
    have HII : Hid ((x0.plane = true ∧ x1.plane = true) ∧ x0.I64 ∧ x1.I64) := ⟨⟨px0, px1⟩, ix0, ix1⟩
    have HE0 := Lib.hid e0
    have HE1 := Lib.hid e1
    clear hR hl e0 e1 t0 t1 h0 h1 hx0 hx1 lo0 lo1 hbW t3 t4 px0 px1 ix0 ix1
    go_wp2_with fail
    go_meet
    exact ⟨b0, HE0.out, b1, HE1.out, x0, x1, HII, HL⟩
  case rest =>
    obtain ⟨P, rfl, Q, rfl, p, q, HI, HL⟩ := hcut
    rename World => wx
    go_wp2_with fail
    ((with_reducible refine (HTL.out _ HL.out.below).mono ?_); rintro e w1 ⟨⟨v, L, rfl, ⟨hL12, hLI⟩, hall, hrow⟩, hb⟩)
    have HL1 := Lib.hid (HL.out.call hb)
    have HPT : Hid (∀ W, SlV W v L → Calls Tryz.prog 30 #[.agg #[.int .i64 (p.a), .int .i64 (p.b), .int .i64 (p.c), .int .i64 (p.d)], .agg #[.int .i64 (q.a), .int .i64 (q.b), .int .i64 (q.c), .int .i64 (q.d)], v] W fun e w' => ∃ v', e = .returned (.tuple #[v', .int .i64 (opE p q L [])]) ∧ SlV w' v' (ptsL p q L) ∧ Below W.heap.size W w') := fun W h => linePoints_any p q L v W HI.out.2.1 HI.out.2.2 hL12 hLI h
    have HSL := Lib.hid (RowP.slv hrow)
    have hE : opE p q L [] = if p.dx q = 0 ∧ p.dy q = 0 ∧ p.dz q = 0 then 4 else 0 := opE_planes HI.out.1.1 HI.out.1.2 hall
    have HALL := Lib.hid hall
    have HL12 := Lib.hid hL12
    clear hL12 hLI hall hrow hb HL HTL
    obtain ⟨a0, a1, a2, a3⟩ := HL1.out.bp.four
    obtain ⟨b0, b1, b2, b3⟩ := HL1.out.bq.four
    have HA : Hid (∀ W, Calls Tryz.prog 17 #[] W fun e w' => e = .returned (.bool true) ∧ Below W.heap.size W w') := fun W => awake_any W
    by_cases hn : p.dx q = 0 ∧ p.dy q = 0 ∧ p.dz q = 0
    · rw [if_pos hn] at hE
      rw [hE] at HPT
      clear hE hn
      go_wp2_with fail
      ((with_reducible refine (HPT.out _ HSL.out).mono ?_); rintro e w2 ⟨v', rfl, -, hb⟩)
      have HL2 := Lib.hid (HL1.out.call hb)
      clear HL1 hb a0 a1 a2 a3 b0 b1 b2 b3
      go_wp2_with fail
      ((with_reducible refine (HA.out _).mono ?_); rintro e w3 ⟨rfl, hb⟩)
      have HL3 := Lib.hid (HL2.out.call hb)
      go_wp2
      go_ret
      exact ⟨rfl, HL3.out.below⟩
    · rw [if_neg hn] at hE
      rw [hE] at HPT
      have HN := Lib.hid hn
      clear hE hn
      have HSP := Lib.hid (pts_spec HI.out.1.1 HI.out.1.2 HALL.out HN.out)
      have hM12 : (ptsL p q L).length ≤ 12 := Nat.le_trans (pts_len p q L) HL12.out
      generalize ptsL p q L = M at HPT HSP hM12
      go_upto_region 3 with fail
      go_cut [10, 11] from 36 to 51 (fun s10 s11 wx => (∃ a cap, s10 = .slice a M.length cap ∧ Hid (SlV wx (.slice a M.length cap) M)) ∧ s11 = .int .i64 0 ∧ Hid (LR p q P Q w wx))
      case first =>
        go_wp2_with fail
        ((with_reducible refine (HPT.out _ HSL.out).mono ?_); rintro e w2 ⟨v', rfl, hsl, hb⟩)
        have HL2 := Lib.hid (HL1.out.call hb)
        obtain ⟨a, cap, rfl⟩ := hsl.shape
        have HSL2 := Lib.hid hsl
        clear HL1 hb a0 a1 a2 a3 b0 b1 b2 b3 hsl HSL HPT
        go_wp2
        go_meet
        exact ⟨⟨a, cap, rfl, HSL2⟩, rfl, HL2⟩
      case rest =>
        obtain ⟨⟨a, cap, rfl, HSL2⟩, rfl, HL2⟩ := hcut
        clear HL1 a0 a1 a2 a3 b0 b1 b2 b3 HSL HPT
        clear wx w1
        rename World => wx
        have HQR : Hid (∀ x, OnL p q x → ∀ W, Calls Tryz.prog 24 #[.agg #[.int .i64 (x.a), .int .i64 (x.b), .int .i64 (x.c), .int .i64 (x.d)]] W fun e w' => e = .returned (.bool true) ∧ Below W.heap.size W w') := fun x hx W => by
          have ix : x.I64 := (Q4.sm64 (Pt.sm (point_iff.1 hx.1).1))
          have h := qright_any x.a x.b x.c x.d W ix.1 ix.2.1 ix.2.2.1 ix.2.2.2
          rw [sound_point ix, hx.1] at h; exact h
        have HSD : Hid (∀ x, OnL p q x → (∀ W, Calls Tryz.prog 31 #[.agg #[.int .i64 (p.a), .int .i64 (p.b), .int .i64 (p.c), .int .i64 (p.d)], .agg #[.int .i64 (x.a), .int .i64 (x.b), .int .i64 (x.c), .int .i64 (x.d)]] W fun e w' => e = .returned (.int .i64 0) ∧ Below W.heap.size W w') ∧ ∀ W, Calls Tryz.prog 31 #[.agg #[.int .i64 (q.a), .int .i64 (q.b), .int .i64 (q.c), .int .i64 (q.d)], .agg #[.int .i64 (x.a), .int .i64 (x.b), .int .i64 (x.c), .int .i64 (x.d)]] W fun e w' => e = .returned (.int .i64 0) ∧ Below W.heap.size W w') := fun x hx => by
          have h := hx.2
          rw [onB_eq] at h
          simp only [Bool.and_eq_true, beq_iff_eq] at h
          refine ⟨fun W => ?_, fun W => ?_⟩
          · have k := pside_any p x W; rw [h.1] at k; exact k
          · have k := pside_any q x W; rw [h.2] at k; exact k
        have HAL : Hid (∀ x y, OnL p q x → OnL p q y → alongI (p.dx q) (p.dy q) (p.dz q) x y = -1 → ∀ W, Calls Tryz.prog 23 #[.agg #[.int .i64 (p.a), .int .i64 (p.b), .int .i64 (p.c), .int .i64 (p.d)], .agg #[.int .i64 (q.a), .int .i64 (q.b), .int .i64 (q.c), .int .i64 (q.d)], .agg #[.int .i64 (x.a), .int .i64 (x.b), .int .i64 (x.c), .int .i64 (x.d)], .agg #[.int .i64 (y.a), .int .i64 (y.b), .int .i64 (y.c), .int .i64 (y.d)]] W fun e w' => e = .returned (.tuple #[.int .i64 (-1), .int .i64 0]) ∧ Below W.heap.size W w') := fun x y hx hy h W => by
          have k := lineAlong_any p q x y W HI.out.2.1 HI.out.2.2 (Q4.sm64 (Pt.sm (point_iff.1 hx.1).1)) (Q4.sm64 (Pt.sm (point_iff.1 hy.1).1))
          obtain ⟨k1, k2⟩ := pts_along HI.out.1.1 HI.out.1.2 HN.out hx hy h
          rw [k1, k2] at k; exact k
        clear HALL HN
        go_wp2
        go_loopw [12] (fun s12 wr => ∃ r : Nat, r ≤ M.length ∧ s12 = .int .i64 r ∧ Hid (SlV wr (.slice a M.length cap) M) ∧ Hid (LR p q P Q w wr)) (fun v _ => M.length - (intOf v).toNat)
        case atStart => exact ⟨0, by omega, rfl, HSL2, HL2⟩
        case round =>
          rename World => wr
          obtain ⟨r, hi, rfl, HSL, HL⟩ := hrel
          clear HSL2 HL2
          by_cases hiM : r < M.length
          · have hlz : (r : Int) < (M.length : Int) := by omega
            obtain ⟨g, o, rfl⟩ := HSL.out.addr (by omega)
            obtain ⟨x, hx⟩ : ∃ x, M[r]? = some x := ⟨_, List.getElem?_eq_getElem hiM⟩
            have HXI := Lib.hid hx
            have hox := HSP.out.1 x (List.mem_of_getElem? hx)
            have HQX := Lib.hid (HQR.out x hox)
            have HSX := Lib.hid (HSD.out x hox)
            have HOX := Lib.hid hox
            clear hx hox
            go_upto_region 9 with fail
            go_cut [81] from 52 to 104 (fun s81 wx => s81 = .bool false ∧ Hid (SlV wx (.slice (some ⟨g, o, none⟩) M.length cap) M) ∧ Hid (LR p q P Q w wx))
            case first =>
              refine wp_region_inv (by kernel_rfl) (by kernel_rfl) (fun listed aa wy => ∃ t : Nat → Value, aa = { tmps := #[.agg #[.int .i64 (p0.a), .int .i64 (p0.b), .int .i64 (p0.c), .int .i64 (p0.d), .int .i64 (q0.a), .int .i64 (q0.b), .int .i64 (q0.c), .int .i64 (q0.d)], v1, .slice A l2.length cap2, .pointer (some ⟨w.heap.size, 0, none⟩), undef, undef, u6, .pointer (some ⟨P, 0, none⟩), .pointer (some ⟨Q, 0, none⟩), v, .slice (some ⟨g, o, none⟩) M.length cap, .int .i64 0, .int .i64 r, u13, u14, undef, undef, undef, undef, undef, undef, undef, undef, undef, undef, undef, undef, undef, undef, undef, u30, u31, u32, u33, u34, u35, u36, u37, u38, u39, u40, u41, u42, u43, u44, .int .i64 0, .bool false, u47, u48, u49, u50, u51, .int .i64 r, .slice (some ⟨g, o, none⟩) M.length cap, .int .i64 M.length, .bool true, u56, u57, t 58, t 59, t 60, t 61, t 62, t 63, t 64, t 65, t 66, t 67, t 68, t 69, t 70, t 71, t 72, t 73, t 74, t 75, t 76, t 77, t 78, t 79, t 80, t 81, u82, u83, u84, u85, u86, u87, u88, u89, u90, u91, u92, u93, u94, u95, u96, u97, u98, u99, u100, u101, u102, u103, u104, undef, undef, undef, undef, undef, undef, undef, undef, undef, undef, undef, undef, undef, undef, undef, undef, undef, undef, undef, undef, undef, undef, undef, undef, undef, undef, undef, undef, undef, undef, undef, undef, undef, undef, undef, undef, undef, undef, undef, undef, undef, undef, undef, undef, undef, undef, undef, undef, undef, undef, undef, undef, undef, undef, undef, undef, undef, undef, undef, undef, undef, undef, undef, undef, undef, undef, undef, undef, undef, undef, undef, undef, undef, undef, undef, undef, undef, undef, undef, undef, undef, undef, undef, undef, undef, undef, undef, undef, undef, undef, undef, undef, undef, undef, undef, undef, undef, undef, undef, undef, undef, undef, undef, undef, undef, undef, undef, undef, undef, undef, undef, undef, undef, undef, undef, undef, undef, undef, undef, undef, undef, undef, undef, undef, undef, undef], defers := [] } ∧ IR (fun W => SlV W (.slice (some ⟨g, o, none⟩) M.length cap) M ∧ LR p q P Q w W) (roS9 p q x (.slice (some ⟨g, o, none⟩) M.length cap) g o r) [(0, 58), (1, 59), (2, 60), (3, 61), (4, 62), (5, 63), (6, 64), (7, 65), (8, 66), (9, 67), (10, 68), (11, 69), (12, 70), (13, 71), (14, 72), (15, 73), (16, 74), (17, 75), (18, 76), (19, 77), (20, 78), (21, 79), (22, 80), (23, 81)] listed t wy) ⟨(fun d => match d with | 58 => u58 | 59 => u59 | 60 => u60 | 61 => u61 | 62 => u62 | 63 => u63 | 64 => u64 | 65 => u65 | 66 => u66 | 67 => u67 | 68 => u68 | 69 => u69 | 70 => u70 | 71 => u71 | 72 => u72 | 73 => u73 | 74 => u74 | 75 => u75 | 76 => u76 | 77 => u77 | 78 => u78 | 79 => u79 | 80 => u80 | 81 => u81 | _ => undef), rfl, IR.start _ ⟨HSL.out.below (Nat.le_refl _) (Below.refl _ _).drew, HL.out.drew⟩ _⟩ ?_ ?_
              rotate_left
              · rintro listed hs i hi aa wy ⟨t, rfl, hR⟩ hr
                match i, hi, hr with
                | 0, _, hr =>
                  as_aux_lemma =>
                  refine wpOp_step rfl (fun K' hK => ?_)
                  go_simp
                  exact hK _ _ ⟨upd t 58 (.slice (some ⟨g, o, none⟩) M.length cap), rfl, hR.yields hR.fin (fun _ _ h => h) rfl rfl⟩
                | 1, _, hr =>
                  as_aux_lemma =>
                  refine wpOp_step rfl (fun K' hK => ?_)
                  go_simp
                  exact hK _ _ ⟨upd t 59 (.int .i64 r), rfl, hR.yields hR.fin (fun _ _ h => h) rfl rfl⟩
                | 2, _, hr =>
                  as_aux_lemma =>
                  refine wpOp_step rfl (fun K' hK => ?_)
                  have e1 : t 58 = .slice (some ⟨g, o, none⟩) M.length cap := hR.val (0, 58) (by simp) (dep_of hr 0 (by kernel_rfl))
                  have e2 : t 59 = .int .i64 r := hR.val (1, 59) (by simp) (dep_of hr 1 (by kernel_rfl))
                  go_simp
                  exact hK _ _ ⟨upd t 60 (.pointer (some ⟨g, o + r * 4, none⟩)), by simp [upd, e1, e2], hR.yields hR.fin (fun _ _ h => h) rfl rfl⟩
                | 3, _, hr =>
                  as_aux_lemma =>
                  refine wpOp_step rfl (fun K' hK => ?_)
                  have e1 : t 60 = .pointer (some ⟨g, o + r * 4, none⟩) := hR.val (2, 60) (by simp) (dep_of hr 2 (by kernel_rfl))
                  obtain ⟨c0, c1, c2, c3⟩ := hR.fin.1.at HXI.out
                  go_simp
                  exact hK _ _ ⟨upd t 61 (.agg #[.int .i64 (x.a), .int .i64 (x.b), .int .i64 (x.c), .int .i64 (x.d)]), by simp [upd, e1], hR.yields hR.fin (fun _ _ h => h) rfl rfl⟩
                | 4, _, hr =>
                  as_aux_lemma =>
                  refine wpOp_step rfl (fun K' hK => ?_)
                  have e1 : t 61 = .agg #[.int .i64 (x.a), .int .i64 (x.b), .int .i64 (x.c), .int .i64 (x.d)] := hR.val (3, 61) (by simp) (dep_of hr 3 (by kernel_rfl))
                  have HR := Lib.hid hR.fin
                  go_simp
                  refine (HQX.out _).mono ?_
                  rintro e w1 ⟨rfl, hb⟩
                  exact hK _ _ ⟨upd t 62 (.bool true), by simp [upd, e1], hR.yields ⟨HR.out.1.below (Nat.le_refl _) hb, HR.out.2.call hb⟩ (fun _ _ h => h) rfl rfl⟩
                | 5, _, hr =>
                  as_aux_lemma =>
                  refine wpOp_step rfl (fun K' hK => ?_)
                  have e1 : t 62 = .bool true := hR.val (4, 62) (by simp) (dep_of hr 4 (by kernel_rfl))
                  go_simp
                  exact hK _ _ ⟨upd t 63 (.bool false), by simp [upd, e1], hR.yields hR.fin (fun _ _ h => h) rfl rfl⟩
                | 6, _, hr =>
                  as_aux_lemma =>
                  refine wpOp_step rfl (fun K' hK => ?_)
                  have e1 : t 63 = .bool false := hR.val (5, 63) (by simp) (dep_of hr 5 (by kernel_rfl))
                  go_simp
                  exact hK _ _ ⟨upd t 64 (.bool false), by simp [upd, e1], hR.yields hR.fin (fun _ _ h => h) rfl rfl⟩
                | 7, _, hr =>
                  as_aux_lemma =>
                  refine wpOp_step rfl (fun K' hK => ?_)
                  have e9 : t 64 = .bool false := hR.val (6, 64) (by simp) (dep_of hr 6 (by kernel_rfl))
                  refine lr_yes ?_ ?_
                  · simp [Region.wanted, yielded, e9]
                  obtain ⟨c0, c1, c2, c3⟩ := hR.fin.2.bp.four
                  go_simp
                  exact hK _ _ ⟨upd t 65 (.agg #[.int .i64 (p.a), .int .i64 (p.b), .int .i64 (p.c), .int .i64 (p.d)]), by simp [upd, e9], hR.yields hR.fin (fun _ _ h => h) rfl rfl⟩
                | 8, _, hr =>
                  as_aux_lemma =>
                  refine wpOp_step rfl (fun K' hK => ?_)
                  have e9 : t 64 = .bool false := hR.val (6, 64) (by simp) (dep_of hr 6 (by kernel_rfl))
                  refine lr_yes ?_ ?_
                  · simp [Region.wanted, yielded, e9]
                  go_simp
                  exact hK _ _ ⟨upd t 66 (.slice (some ⟨g, o, none⟩) M.length cap), by simp [upd, e9], hR.yields hR.fin (fun _ _ h => h) rfl rfl⟩
                | 9, _, hr =>
                  as_aux_lemma =>
                  refine wpOp_step rfl (fun K' hK => ?_)
                  have e9 : t 64 = .bool false := hR.val (6, 64) (by simp) (dep_of hr 6 (by kernel_rfl))
                  refine lr_yes ?_ ?_
                  · simp [Region.wanted, yielded, e9]
                  go_simp
                  exact hK _ _ ⟨upd t 67 (.int .i64 r), by simp [upd, e9], hR.yields hR.fin (fun _ _ h => h) rfl rfl⟩
                | 10, _, hr =>
                  as_aux_lemma =>
                  refine wpOp_step rfl (fun K' hK => ?_)
                  have e1 : t 66 = .slice (some ⟨g, o, none⟩) M.length cap := hR.val (8, 66) (by simp) (dep_of hr 8 (by kernel_rfl))
                  have e2 : t 67 = .int .i64 r := hR.val (9, 67) (by simp) (dep_of hr 9 (by kernel_rfl))
                  have e9 : t 64 = .bool false := hR.val (6, 64) (by simp) (dep_of hr 6 (by kernel_rfl))
                  refine lr_yes ?_ ?_
                  · simp [Region.wanted, yielded, e9]
                  go_simp
                  exact hK _ _ ⟨upd t 68 (.pointer (some ⟨g, o + r * 4, none⟩)), by simp [upd, e1, e2, e9], hR.yields hR.fin (fun _ _ h => h) rfl rfl⟩
                | 11, _, hr =>
                  as_aux_lemma =>
                  refine wpOp_step rfl (fun K' hK => ?_)
                  have e1 : t 68 = .pointer (some ⟨g, o + r * 4, none⟩) := hR.val (10, 68) (by simp) (dep_of hr 10 (by kernel_rfl))
                  have e9 : t 64 = .bool false := hR.val (6, 64) (by simp) (dep_of hr 6 (by kernel_rfl))
                  refine lr_yes ?_ ?_
                  · simp [Region.wanted, yielded, e9]
                  obtain ⟨c0, c1, c2, c3⟩ := hR.fin.1.at HXI.out
                  go_simp
                  exact hK _ _ ⟨upd t 69 (.agg #[.int .i64 (x.a), .int .i64 (x.b), .int .i64 (x.c), .int .i64 (x.d)]), by simp [upd, e1, e9], hR.yields hR.fin (fun _ _ h => h) rfl rfl⟩
                | 12, _, hr =>
                  as_aux_lemma =>
                  refine wpOp_step rfl (fun K' hK => ?_)
                  have e1 : t 65 = .agg #[.int .i64 (p.a), .int .i64 (p.b), .int .i64 (p.c), .int .i64 (p.d)] := hR.val (7, 65) (by simp) (dep_of hr 7 (by kernel_rfl))
                  have e2 : t 69 = .agg #[.int .i64 (x.a), .int .i64 (x.b), .int .i64 (x.c), .int .i64 (x.d)] := hR.val (11, 69) (by simp) (dep_of hr 11 (by kernel_rfl))
                  have e9 : t 64 = .bool false := hR.val (6, 64) (by simp) (dep_of hr 6 (by kernel_rfl))
                  refine lr_yes ?_ ?_
                  · simp [Region.wanted, yielded, e9]
                  have HR := Lib.hid hR.fin
                  go_simp
                  refine (HSX.out.1 _).mono ?_
                  rintro e w1 ⟨rfl, hb⟩
                  exact hK _ _ ⟨upd t 70 (.int .i64 0), by simp [upd, e1, e2, e9], hR.yields ⟨HR.out.1.below (Nat.le_refl _) hb, HR.out.2.call hb⟩ (fun _ _ h => h) rfl rfl⟩
                | 13, _, hr =>
                  as_aux_lemma =>
                  refine wpOp_step rfl (fun K' hK => ?_)
                  have e1 : t 70 = .int .i64 0 := hR.val (12, 70) (by simp) (dep_of hr 12 (by kernel_rfl))
                  have e9 : t 64 = .bool false := hR.val (6, 64) (by simp) (dep_of hr 6 (by kernel_rfl))
                  refine lr_yes ?_ ?_
                  · simp [Region.wanted, yielded, e9]
                  go_simp
                  exact hK _ _ ⟨upd t 71 (.bool false), by simp [upd, e1, e9], hR.yields hR.fin (fun _ _ h => h) rfl rfl⟩
                | 14, _, hr =>
                  as_aux_lemma =>
                  refine wpOp_step rfl (fun K' hK => ?_)
                  have e1 : t 64 = .bool false := hR.val (6, 64) (by simp) (dep_of hr 6 (by kernel_rfl))
                  have e2 : t 71 = .bool false := hR.val (13, 71) (by simp) (dep_of hr 13 (by kernel_rfl))
                  go_simp
                  exact hK _ _ ⟨upd t 72 (.bool false), by simp [upd, e1, e2], hR.yields hR.fin (fun _ _ h => h) rfl rfl⟩
                | 15, _, hr =>
                  as_aux_lemma =>
                  refine wpOp_step rfl (fun K' hK => ?_)
                  have e1 : t 72 = .bool false := hR.val (14, 72) (by simp) (dep_of hr 14 (by kernel_rfl))
                  go_simp
                  exact hK _ _ ⟨upd t 73 (.bool false), by simp [upd, e1], hR.yields hR.fin (fun _ _ h => h) rfl rfl⟩
                | 16, _, hr =>
                  as_aux_lemma =>
                  refine wpOp_step rfl (fun K' hK => ?_)
                  have e9 : t 73 = .bool false := hR.val (15, 73) (by simp) (dep_of hr 15 (by kernel_rfl))
                  refine lr_yes ?_ ?_
                  · simp [Region.wanted, yielded, e9]
                  obtain ⟨c0, c1, c2, c3⟩ := hR.fin.2.bq.four
                  go_simp
                  exact hK _ _ ⟨upd t 74 (.agg #[.int .i64 (q.a), .int .i64 (q.b), .int .i64 (q.c), .int .i64 (q.d)]), by simp [upd, e9], hR.yields hR.fin (fun _ _ h => h) rfl rfl⟩
                | 17, _, hr =>
                  as_aux_lemma =>
                  refine wpOp_step rfl (fun K' hK => ?_)
                  have e9 : t 73 = .bool false := hR.val (15, 73) (by simp) (dep_of hr 15 (by kernel_rfl))
                  refine lr_yes ?_ ?_
                  · simp [Region.wanted, yielded, e9]
                  go_simp
                  exact hK _ _ ⟨upd t 75 (.slice (some ⟨g, o, none⟩) M.length cap), by simp [upd, e9], hR.yields hR.fin (fun _ _ h => h) rfl rfl⟩
                | 18, _, hr =>
                  as_aux_lemma =>
                  refine wpOp_step rfl (fun K' hK => ?_)
                  have e9 : t 73 = .bool false := hR.val (15, 73) (by simp) (dep_of hr 15 (by kernel_rfl))
                  refine lr_yes ?_ ?_
                  · simp [Region.wanted, yielded, e9]
                  go_simp
                  exact hK _ _ ⟨upd t 76 (.int .i64 r), by simp [upd, e9], hR.yields hR.fin (fun _ _ h => h) rfl rfl⟩
                | 19, _, hr =>
                  as_aux_lemma =>
                  refine wpOp_step rfl (fun K' hK => ?_)
                  have e1 : t 75 = .slice (some ⟨g, o, none⟩) M.length cap := hR.val (17, 75) (by simp) (dep_of hr 17 (by kernel_rfl))
                  have e2 : t 76 = .int .i64 r := hR.val (18, 76) (by simp) (dep_of hr 18 (by kernel_rfl))
                  have e9 : t 73 = .bool false := hR.val (15, 73) (by simp) (dep_of hr 15 (by kernel_rfl))
                  refine lr_yes ?_ ?_
                  · simp [Region.wanted, yielded, e9]
                  go_simp
                  exact hK _ _ ⟨upd t 77 (.pointer (some ⟨g, o + r * 4, none⟩)), by simp [upd, e1, e2, e9], hR.yields hR.fin (fun _ _ h => h) rfl rfl⟩
                | 20, _, hr =>
                  as_aux_lemma =>
                  refine wpOp_step rfl (fun K' hK => ?_)
                  have e1 : t 77 = .pointer (some ⟨g, o + r * 4, none⟩) := hR.val (19, 77) (by simp) (dep_of hr 19 (by kernel_rfl))
                  have e9 : t 73 = .bool false := hR.val (15, 73) (by simp) (dep_of hr 15 (by kernel_rfl))
                  refine lr_yes ?_ ?_
                  · simp [Region.wanted, yielded, e9]
                  obtain ⟨c0, c1, c2, c3⟩ := hR.fin.1.at HXI.out
                  go_simp
                  exact hK _ _ ⟨upd t 78 (.agg #[.int .i64 (x.a), .int .i64 (x.b), .int .i64 (x.c), .int .i64 (x.d)]), by simp [upd, e1, e9], hR.yields hR.fin (fun _ _ h => h) rfl rfl⟩
                | 21, _, hr =>
                  as_aux_lemma =>
                  refine wpOp_step rfl (fun K' hK => ?_)
                  have e1 : t 74 = .agg #[.int .i64 (q.a), .int .i64 (q.b), .int .i64 (q.c), .int .i64 (q.d)] := hR.val (16, 74) (by simp) (dep_of hr 16 (by kernel_rfl))
                  have e2 : t 78 = .agg #[.int .i64 (x.a), .int .i64 (x.b), .int .i64 (x.c), .int .i64 (x.d)] := hR.val (20, 78) (by simp) (dep_of hr 20 (by kernel_rfl))
                  have e9 : t 73 = .bool false := hR.val (15, 73) (by simp) (dep_of hr 15 (by kernel_rfl))
                  refine lr_yes ?_ ?_
                  · simp [Region.wanted, yielded, e9]
                  have HR := Lib.hid hR.fin
                  go_simp
                  refine (HSX.out.2 _).mono ?_
                  rintro e w1 ⟨rfl, hb⟩
                  exact hK _ _ ⟨upd t 79 (.int .i64 0), by simp [upd, e1, e2, e9], hR.yields ⟨HR.out.1.below (Nat.le_refl _) hb, HR.out.2.call hb⟩ (fun _ _ h => h) rfl rfl⟩
                | 22, _, hr =>
                  as_aux_lemma =>
                  refine wpOp_step rfl (fun K' hK => ?_)
                  have e1 : t 79 = .int .i64 0 := hR.val (21, 79) (by simp) (dep_of hr 21 (by kernel_rfl))
                  have e9 : t 73 = .bool false := hR.val (15, 73) (by simp) (dep_of hr 15 (by kernel_rfl))
                  refine lr_yes ?_ ?_
                  · simp [Region.wanted, yielded, e9]
                  go_simp
                  exact hK _ _ ⟨upd t 80 (.bool false), by simp [upd, e1, e9], hR.yields hR.fin (fun _ _ h => h) rfl rfl⟩
                | 23, _, hr =>
                  as_aux_lemma =>
                  refine wpOp_step rfl (fun K' hK => ?_)
                  have e1 : t 73 = .bool false := hR.val (15, 73) (by simp) (dep_of hr 15 (by kernel_rfl))
                  have e2 : t 80 = .bool false := hR.val (22, 80) (by simp) (dep_of hr 22 (by kernel_rfl))
                  go_simp
                  exact hK _ _ ⟨upd t 81 (.bool false), by simp [upd, e1, e2], hR.yields hR.fin (fun _ _ h => h) rfl rfl⟩
                | n + 24, hi, _ => exact absurd (show n + 24 < 24 from hi) (by omega)
              rintro listed a2 W2 ⟨t, rfl, hR⟩ hl
              have e1 : t 81 = .bool false := hR.val (23, 81) (by simp) (hl 23 (by decide))
              have HX1 := Lib.hid hR.fin.1
              have HX2 := Lib.hid hR.fin.2
              clear hR hl
              go_wp2_with fail
              go_meet
              exact ⟨e1, HX1, HX2⟩
            case rest =>
              obtain ⟨rfl, HSL2, HL2⟩ := hcut
              clear HSL HL HQX HSX
              by_cases hi0 : r = 0
              · subst hi0
                go_wp2
                go_roundw
                case rel => exact ⟨1, by omega, by go_num, HSL2, HL2⟩
                case measure => simp [intOf]; omega
              · have hgt : (0 : Int) < (r : Int) := by omega
                obtain ⟨j, hj⟩ : ∃ j, j = r - 1 := ⟨_, rfl⟩
                have hji : r = j + 1 := by omega
                obtain ⟨y, hy⟩ : ∃ y, M[j]? = some y := ⟨_, List.getElem?_eq_getElem (by omega)⟩
                have HYI := Lib.hid hy
                have HAXY := Lib.hid (HAL.out y x (HSP.out.1 y (List.mem_of_getElem? hy)) HOX.out (HSP.out.2 j y x hy (by rw [← hji]; exact HXI.out)))
                have hjw : IntKind.i64.wrap ((r : Int) - 1) = (j : Int) := by rw [IntKind.wrap_i64]; omega
                have hjl : (j : Int) < (M.length : Int) := by omega
                clear hy hj hji
                go_upto_region 12 with fail
                go_cut [13, 14] from 52 to 104 (fun s13 s14 wx => s13 = .int .i64 (-1) ∧ s14 = .int .i64 0 ∧ Hid (SlV wx (.slice (some ⟨g, o, none⟩) M.length cap) M) ∧ Hid (LR p q P Q w wx))
                case first =>
                  rw [show decide (0 < r) = true from decide_eq_true (by omega)]
                  refine wp_region_inv (by kernel_rfl) (by kernel_rfl) (fun listed aa wy => ∃ t : Nat → Value, aa = { tmps := #[.agg #[.int .i64 (p0.a), .int .i64 (p0.b), .int .i64 (p0.c), .int .i64 (p0.d), .int .i64 (q0.a), .int .i64 (q0.b), .int .i64 (q0.c), .int .i64 (q0.d)], v1, .slice A l2.length cap2, .pointer (some ⟨w.heap.size, 0, none⟩), undef, undef, u6, .pointer (some ⟨P, 0, none⟩), .pointer (some ⟨Q, 0, none⟩), v, .slice (some ⟨g, o, none⟩) M.length cap, .int .i64 0, .int .i64 r, t 13, t 14, undef, undef, undef, undef, undef, undef, undef, undef, undef, undef, undef, undef, undef, undef, undef, u30, u31, u32, u33, u34, u35, u36, u37, u38, u39, u40, u41, u42, u43, u44, .int .i64 0, .bool false, u47, u48, u49, u50, u51, u52, u53, u54, u55, u56, u57, u58, u59, u60, u61, u62, u63, u64, u65, u66, u67, u68, u69, u70, u71, u72, u73, u74, u75, u76, u77, u78, u79, u80, .bool false, .int .i64 r, .bool true, t 84, t 85, t 86, t 87, t 88, t 89, t 90, t 91, t 92, t 93, t 94, t 95, t 96, t 97, t 98, u99, u100, u101, u102, u103, u104, undef, undef, undef, undef, undef, undef, undef, undef, undef, undef, undef, undef, undef, undef, undef, undef, undef, undef, undef, undef, undef, undef, undef, undef, undef, undef, undef, undef, undef, undef, undef, undef, undef, undef, undef, undef, undef, undef, undef, undef, undef, undef, undef, undef, undef, undef, undef, undef, undef, undef, undef, undef, undef, undef, undef, undef, undef, undef, undef, undef, undef, undef, undef, undef, undef, undef, undef, undef, undef, undef, undef, undef, undef, undef, undef, undef, undef, undef, undef, undef, undef, undef, undef, undef, undef, undef, undef, undef, undef, undef, undef, undef, undef, undef, undef, undef, undef, undef, undef, undef, undef, undef, undef, undef, undef, undef, undef, undef, undef, undef, undef, undef, undef, undef, undef, undef, undef, undef, undef, undef, undef, undef, undef, undef, undef, undef], defers := [] } ∧ IR (fun W => SlV W (.slice (some ⟨g, o, none⟩) M.length cap) M ∧ LR p q P Q w W) (roS12 p q x y (.slice (some ⟨g, o, none⟩) M.length cap) g o r j) [(0, 85), (1, 86), (2, 87), (3, 88), (4, 89), (5, 90), (6, 91), (7, 92), (8, 93), (9, 94), (10, 95), (11, 96), (12, 84), (13, 97), (14, 98), (15, 13), (16, 14)] listed t wy) ⟨(fun d => match d with | 85 => u85 | 86 => u86 | 87 => u87 | 88 => u88 | 89 => u89 | 90 => u90 | 91 => u91 | 92 => u92 | 93 => u93 | 94 => u94 | 95 => u95 | 96 => u96 | 84 => u84 | 97 => u97 | 98 => u98 | 13 => u13 | 14 => u14 | _ => undef), rfl, IR.start _ ⟨HSL2.out.below (Nat.le_refl _) (Below.refl _ _).drew, HL2.out.drew⟩ _⟩ ?_ ?_
                  rotate_left
                  · rintro listed hs i hi aa wy ⟨t, rfl, hR⟩ hr
                    match i, hi, hr with
                    | 0, _, hr =>
                      as_aux_lemma =>
                      refine wpOp_step rfl (fun K' hK => ?_)
                      obtain ⟨c0, c1, c2, c3⟩ := hR.fin.2.bp.four
                      go_simp
                      exact hK _ _ ⟨upd t 85 (.agg #[.int .i64 (p.a), .int .i64 (p.b), .int .i64 (p.c), .int .i64 (p.d)]), rfl, hR.yields hR.fin (fun _ _ h => h) rfl rfl⟩
                    | 1, _, hr =>
                      as_aux_lemma =>
                      refine wpOp_step rfl (fun K' hK => ?_)
                      obtain ⟨c0, c1, c2, c3⟩ := hR.fin.2.bq.four
                      go_simp
                      exact hK _ _ ⟨upd t 86 (.agg #[.int .i64 (q.a), .int .i64 (q.b), .int .i64 (q.c), .int .i64 (q.d)]), rfl, hR.yields hR.fin (fun _ _ h => h) rfl rfl⟩
                    | 2, _, hr =>
                      as_aux_lemma =>
                      refine wpOp_step rfl (fun K' hK => ?_)
                      go_simp
                      exact hK _ _ ⟨upd t 87 (.slice (some ⟨g, o, none⟩) M.length cap), rfl, hR.yields hR.fin (fun _ _ h => h) rfl rfl⟩
                    | 3, _, hr =>
                      as_aux_lemma =>
                      refine wpOp_step rfl (fun K' hK => ?_)
                      go_simp
                      exact hK _ _ ⟨upd t 88 (.int .i64 r), rfl, hR.yields hR.fin (fun _ _ h => h) rfl rfl⟩
                    | 4, _, hr =>
                      as_aux_lemma =>
                      refine wpOp_step rfl (fun K' hK => ?_)
                      have e1 : t 88 = .int .i64 r := hR.val (3, 88) (by simp) (dep_of hr 3 (by kernel_rfl))
                      go_simp
                      exact hK _ _ ⟨upd t 89 (.int .i64 j), by simp [upd, e1], hR.yields hR.fin (fun _ _ h => h) rfl rfl⟩
                    | 5, _, hr =>
                      as_aux_lemma =>
                      refine wpOp_step rfl (fun K' hK => ?_)
                      have e1 : t 87 = .slice (some ⟨g, o, none⟩) M.length cap := hR.val (2, 87) (by simp) (dep_of hr 2 (by kernel_rfl))
                      have e2 : t 89 = .int .i64 j := hR.val (4, 89) (by simp) (dep_of hr 4 (by kernel_rfl))
                      go_simp
                      exact hK _ _ ⟨upd t 90 (.pointer (some ⟨g, o + j * 4, none⟩)), by simp [upd, e1, e2], hR.yields hR.fin (fun _ _ h => h) rfl rfl⟩
                    | 6, _, hr =>
                      as_aux_lemma =>
                      refine wpOp_step rfl (fun K' hK => ?_)
                      have e1 : t 90 = .pointer (some ⟨g, o + j * 4, none⟩) := hR.val (5, 90) (by simp) (dep_of hr 5 (by kernel_rfl))
                      obtain ⟨c0, c1, c2, c3⟩ := hR.fin.1.at HYI.out
                      go_simp
                      exact hK _ _ ⟨upd t 91 (.agg #[.int .i64 (y.a), .int .i64 (y.b), .int .i64 (y.c), .int .i64 (y.d)]), by simp [upd, e1], hR.yields hR.fin (fun _ _ h => h) rfl rfl⟩
                    | 7, _, hr =>
                      as_aux_lemma =>
                      refine wpOp_step rfl (fun K' hK => ?_)
                      go_simp
                      exact hK _ _ ⟨upd t 92 (.slice (some ⟨g, o, none⟩) M.length cap), rfl, hR.yields hR.fin (fun _ _ h => h) rfl rfl⟩
                    | 8, _, hr =>
                      as_aux_lemma =>
                      refine wpOp_step rfl (fun K' hK => ?_)
                      go_simp
                      exact hK _ _ ⟨upd t 93 (.int .i64 r), rfl, hR.yields hR.fin (fun _ _ h => h) rfl rfl⟩
                    | 9, _, hr =>
                      as_aux_lemma =>
                      refine wpOp_step rfl (fun K' hK => ?_)
                      have e1 : t 92 = .slice (some ⟨g, o, none⟩) M.length cap := hR.val (7, 92) (by simp) (dep_of hr 7 (by kernel_rfl))
                      have e2 : t 93 = .int .i64 r := hR.val (8, 93) (by simp) (dep_of hr 8 (by kernel_rfl))
                      go_simp
                      exact hK _ _ ⟨upd t 94 (.pointer (some ⟨g, o + r * 4, none⟩)), by simp [upd, e1, e2], hR.yields hR.fin (fun _ _ h => h) rfl rfl⟩
                    | 10, _, hr =>
                      as_aux_lemma =>
                      refine wpOp_step rfl (fun K' hK => ?_)
                      have e1 : t 94 = .pointer (some ⟨g, o + r * 4, none⟩) := hR.val (9, 94) (by simp) (dep_of hr 9 (by kernel_rfl))
                      obtain ⟨c0, c1, c2, c3⟩ := hR.fin.1.at HXI.out
                      go_simp
                      exact hK _ _ ⟨upd t 95 (.agg #[.int .i64 (x.a), .int .i64 (x.b), .int .i64 (x.c), .int .i64 (x.d)]), by simp [upd, e1], hR.yields hR.fin (fun _ _ h => h) rfl rfl⟩
                    | 11, _, hr =>
                      as_aux_lemma =>
                      refine wpOp_step rfl (fun K' hK => ?_)
                      have e1 : t 85 = .agg #[.int .i64 (p.a), .int .i64 (p.b), .int .i64 (p.c), .int .i64 (p.d)] := hR.val (0, 85) (by simp) (dep_of hr 0 (by kernel_rfl))
                      have e2 : t 86 = .agg #[.int .i64 (q.a), .int .i64 (q.b), .int .i64 (q.c), .int .i64 (q.d)] := hR.val (1, 86) (by simp) (dep_of hr 1 (by kernel_rfl))
                      have e3 : t 91 = .agg #[.int .i64 (y.a), .int .i64 (y.b), .int .i64 (y.c), .int .i64 (y.d)] := hR.val (6, 91) (by simp) (dep_of hr 6 (by kernel_rfl))
                      have e4 : t 95 = .agg #[.int .i64 (x.a), .int .i64 (x.b), .int .i64 (x.c), .int .i64 (x.d)] := hR.val (10, 95) (by simp) (dep_of hr 10 (by kernel_rfl))
                      have HR := Lib.hid hR.fin
                      go_simp
                      refine (HAXY.out _).mono ?_
                      rintro e w1 ⟨rfl, hb⟩
                      exact hK _ _ ⟨upd t 96 (.tuple #[.int .i64 (-1), .int .i64 0]), by simp [upd, e1, e2, e3, e4], hR.yields ⟨HR.out.1.below (Nat.le_refl _) hb, HR.out.2.call hb⟩ (fun _ _ h => h) rfl rfl⟩
                    | 12, _, hr =>
                      as_aux_lemma =>
                      refine wpOp_step rfl (fun K' hK => ?_)
                      have e1 : t 96 = .tuple #[.int .i64 (-1), .int .i64 0] := hR.val (11, 96) (by simp) (dep_of hr 11 (by kernel_rfl))
                      go_simp
                      exact hK _ _ ⟨upd t 84 (.tuple #[.int .i64 (-1), .int .i64 0]), by simp [upd, e1], hR.yields hR.fin (fun _ _ h => h) rfl rfl⟩
                    | 13, _, hr =>
                      as_aux_lemma =>
                      refine wpOp_step rfl (fun K' hK => ?_)
                      have e1 : t 84 = .tuple #[.int .i64 (-1), .int .i64 0] := hR.val (12, 84) (by simp) (dep_of hr 12 (by kernel_rfl))
                      go_simp
                      exact hK _ _ ⟨upd t 97 (.int .i64 (-1)), by simp [upd, e1], hR.yields hR.fin (fun _ _ h => h) rfl rfl⟩
                    | 14, _, hr =>
                      as_aux_lemma =>
                      refine wpOp_step rfl (fun K' hK => ?_)
                      have e1 : t 84 = .tuple #[.int .i64 (-1), .int .i64 0] := hR.val (12, 84) (by simp) (dep_of hr 12 (by kernel_rfl))
                      go_simp
                      exact hK _ _ ⟨upd t 98 (.int .i64 0), by simp [upd, e1], hR.yields hR.fin (fun _ _ h => h) rfl rfl⟩
                    | 15, _, hr =>
                      as_aux_lemma =>
                      refine wpOp_step rfl (fun K' hK => ?_)
                      have e1 : t 97 = .int .i64 (-1) := hR.val (13, 97) (by simp) (dep_of hr 13 (by kernel_rfl))
                      go_simp
                      exact hK _ _ ⟨upd t 13 (.int .i64 (-1)), by simp [upd, e1], hR.yields hR.fin (fun _ _ h => h) rfl rfl⟩
                    | 16, _, hr =>
                      as_aux_lemma =>
                      refine wpOp_step rfl (fun K' hK => ?_)
                      have e1 : t 98 = .int .i64 0 := hR.val (14, 98) (by simp) (dep_of hr 14 (by kernel_rfl))
                      go_simp
                      exact hK _ _ ⟨upd t 14 (.int .i64 0), by simp [upd, e1], hR.yields hR.fin (fun _ _ h => h) rfl rfl⟩
                    | n + 17, hi, _ => exact absurd (show n + 17 < 17 from hi) (by omega)
                  rintro listed a2 W2 ⟨t, rfl, hR⟩ hl
                  have e1 : t 13 = .int .i64 (-1) := hR.val (15, 13) (by simp) (hl 15 (by decide))
                  have e2 : t 14 = .int .i64 0 := hR.val (16, 14) (by simp) (hl 16 (by decide))
                  have HX1 := Lib.hid hR.fin.1
                  have HX2 := Lib.hid hR.fin.2
                  clear hR hl
                  go_wp2_with fail
                  go_meet
                  exact ⟨e1, e2, HX1, HX2⟩
                case rest =>
                  obtain ⟨rfl, rfl, HSL3, HL3⟩ := hcut
                  go_wp2
                  go_roundw
                  case rel => exact ⟨r + 1, by omega, by go_num, HSL3, HL3⟩
                  case measure => simp [intOf]; omega
          · have hlz : ¬ (r : Int) < (M.length : Int) := by omega
            clear HQR HSD HAL HSP hi hiM
            go_upto_region 15 with fail
            go_cut [9, 10, 11, 12, 13, 14, 15] from 52 to 104 (fun s9 s10 s11 s12 s13 s14 s15 wx => s15 = .slice none 0 0 ∧ Hid (LR p q P Q w wx))
            case first =>
              go_wp2_with fail
              go_meet
              exact ⟨rfl, HL⟩
            case rest =>
              obtain ⟨rfl, HL2⟩ := hcut
              clear HL HSL hlz wx
              rename World => wx
              obtain ⟨i0, hi0, hz0, hz1, hz2⟩ := info_parts infoT3
              have HB := Lib.hid HL2.out.bound
              obtain ⟨B, hB⟩ : ∃ B, B = wx.heap.size := ⟨_, rfl⟩
              rw [← hB] at HB
              clear hB HL2
              go_wp2
              go_loopw [15, 16] (fun s15 s16 wr => ∃ k : Nat, ∃ L : List T3, L.length = k ∧ k ≤ l2.length ∧ k ≤ 8 ∧ s16 = .int .i64 k ∧ Hid ((∀ d, d ∈ L → WayOK p d) ∧ RowT B s15 L wr) ∧ Hid (LB p q P Q B w wr)) (fun _ v _ => 8 - (intOf v).toNat)
              case atStart => exact ⟨0, [], rfl, by omega, by omega, rfl, ⟨fun d h => by simp at h, World.ownsRow_nil _ _ _ _⟩, HB⟩
              case round =>
                rename World => wr
                obtain ⟨k, L, hLk, hkN, hk8, rfl, HR, HL⟩ := hrel
                clear HB
                by_cases hk : k < l2.length ∧ k < 8
                · have hlz : (k : Int) < (l2.length : Int) := by omega
                  have hl8 : (k : Int) < 8 := by omega
                  obtain ⟨y, hy⟩ : ∃ y, l2[k]? = some y := ⟨_, List.getElem?_eq_getElem hk.1⟩
                  obtain ⟨ad, rfl, hc⟩ := HV2.out k y hy
                  have HC := Lib.hid hc
                  clear hc hy
                  have HPL := Lib.hid ((plane_iff.1 HI.out.1.1).1)
                  have HO : Hid (∀ c, u15.ownBlock = some c → B ≤ c ∧ c < wr.heap.size) := fun c hc => HR.out.2.lt c hc
                  have HWL : Hid (∀ z, WayOK p z → ∀ x, x ∈ L ++ [z] → WayOK p x) := fun z hz x hx => by
                    rcases List.mem_append.1 hx with h | h
                    · exact HR.out.1 x h
                    · rw [List.mem_singleton.1 h]; exact hz
                  go_upto_region 19 with fail
                  refine wp_region_inv (by kernel_rfl) (by kernel_rfl) (fun listed aa wy => ∃ t : Nat → Value, aa = { tmps := #[.agg #[.int .i64 (p0.a), .int .i64 (p0.b), .int .i64 (p0.c), .int .i64 (p0.d), .int .i64 (q0.a), .int .i64 (q0.b), .int .i64 (q0.c), .int .i64 (q0.d)], v1, .slice (some ad) l2.length cap2, .pointer (some ⟨w.heap.size, 0, none⟩), undef, undef, u6, .pointer (some ⟨P, 0, none⟩), .pointer (some ⟨Q, 0, none⟩), u9, u10, u11, u12, u13, u14, t 15, .int .i64 k, undef, undef, undef, undef, undef, undef, undef, undef, undef, undef, undef, undef, undef, u30, u31, u32, u33, u34, u35, u36, u37, u38, u39, u40, u41, u42, u43, u44, .int .i64 0, .bool false, u47, u48, u49, u50, u51, u52, u53, u54, u55, u56, u57, u58, u59, u60, u61, u62, u63, u64, u65, u66, u67, u68, u69, u70, u71, u72, u73, u74, u75, u76, u77, u78, u79, u80, u81, u82, u83, u84, u85, u86, u87, u88, u89, u90, u91, u92, u93, u94, u95, u96, u97, u98, u99, u100, u101, u102, u103, u104, .int .i64 k, .slice (some ad) l2.length cap2, .int .i64 l2.length, .bool true, .bool true, .int .i64 k, .bool true, .bool true, u113, u114, t 115, t 116, t 117, t 118, t 119, t 120, t 121, t 122, t 123, undef, undef, undef, undef, undef, undef, undef, undef, undef, undef, undef, undef, undef, undef, undef, undef, undef, undef, undef, undef, undef, undef, undef, undef, undef, undef, undef, undef, undef, undef, undef, undef, undef, undef, undef, undef, undef, undef, undef, undef, undef, undef, undef, undef, undef, undef, undef, undef, undef, undef, undef, undef, undef, undef, undef, undef, undef, undef, undef, undef, undef, undef, undef, undef, undef, undef, undef, undef, undef, undef, undef, undef, undef, undef, undef, undef, undef, undef, undef, undef, undef, undef, undef, undef, undef, undef, undef, undef, undef, undef, undef, undef, undef, undef, undef, undef, undef, undef, undef, undef, undef, undef, undef, undef, undef, undef, undef], defers := [] } ∧ IRJ (RowT B u15 L) 8 9 15 u15 0 (fun W => LB p q P Q B w W ∧ wr.heap.size ≤ W.heap.size) (roS19 p y u15 (.slice (some ad) l2.length cap2) ad B k L.length wr.heap.size) [(0, 115), (1, 116), (2, 117), (3, 118), (4, 119), (5, 120), (6, 121), (7, 122), (8, 123), (9, 15)] listed t wy) ⟨(fun d => match d with | 115 => u115 | 116 => u116 | 117 => u117 | 118 => u118 | 119 => u119 | 120 => u120 | 121 => u121 | 122 => u122 | 123 => u123 | 15 => u15 | _ => undef), rfl, ⟨IR.start _ ⟨HL.out.drew, Nat.le_refl _⟩ _, fun _ => HR.out.2.call (Below.refl _ _).drew, fun _ => rfl, fun h => absurd h (by decide)⟩⟩ ?_ ?_
                  rotate_left
                  · rintro listed hs i hi aa wy ⟨t, rfl, hR⟩ hr
                    match i, hi, hr with
                    | 0, _, hr =>
                      as_aux_lemma =>
                      refine wpOp_step rfl (fun K' hK => ?_)
                      have e0 := hR.first (getD_tf (ready_spec.1 hr).2.1).1
                      go_simp
                      exact hK _ _ ⟨upd t 115 u15, by simp [upd, e0], hR.yields hR.ir.fin (fun _ _ h => h) rfl rfl (fun hl => hR.old (by rwa [getD_set_ne (by decide)] at hl)) (fun _ => ⟨by decide, (getD_tf (ready_spec.1 hr).2.1).1⟩) (fun h => by rw [getD_set_ne (by decide)] at h ⊢; exact hR.ord h)⟩
                    | 1, _, hr =>
                      as_aux_lemma =>
                      refine wpOp_step rfl (fun K' hK => ?_)
                      obtain ⟨c0, c1, c2, c3⟩ := hR.ir.fin.1.lr.bp.four
                      go_simp
                      exact hK _ _ ⟨upd t 116 _, rfl, hR.yields hR.ir.fin (fun _ _ h => h) rfl rfl (fun hl => hR.old (by rwa [getD_set_ne (by decide)] at hl)) (fun hl => ⟨by decide, by rwa [getD_set_ne (by decide)] at hl⟩) (fun h => by rw [getD_set_ne (by decide)] at h ⊢; exact hR.ord h)⟩
                    | 2, _, hr =>
                      as_aux_lemma =>
                      refine wpOp_step rfl (fun K' hK => ?_)
                      go_simp
                      exact hK _ _ ⟨upd t 117 _, rfl, hR.yields hR.ir.fin (fun _ _ h => h) rfl rfl (fun hl => hR.old (by rwa [getD_set_ne (by decide)] at hl)) (fun hl => ⟨by decide, by rwa [getD_set_ne (by decide)] at hl⟩) (fun h => by rw [getD_set_ne (by decide)] at h ⊢; exact hR.ord h)⟩
                    | 3, _, hr =>
                      as_aux_lemma =>
                      refine wpOp_step rfl (fun K' hK => ?_)
                      go_simp
                      exact hK _ _ ⟨upd t 118 _, rfl, hR.yields hR.ir.fin (fun _ _ h => h) rfl rfl (fun hl => hR.old (by rwa [getD_set_ne (by decide)] at hl)) (fun hl => ⟨by decide, by rwa [getD_set_ne (by decide)] at hl⟩) (fun h => by rw [getD_set_ne (by decide)] at h ⊢; exact hR.ord h)⟩
                    | 4, _, hr =>
                      as_aux_lemma =>
                      refine wpOp_step rfl (fun K' hK => ?_)
                      have e1 : t 117 = .slice (some ad) l2.length cap2 := hR.ir.val (2, 117) (by simp) (dep_of hr 2 (by kernel_rfl))
                      have e2 : t 118 = .int .i64 k := hR.ir.val (3, 118) (by simp) (dep_of hr 3 (by kernel_rfl))
                      go_simp
                      exact hK _ _ ⟨upd t 119 (.pointer (some (ad.add (k * 3)))), by simp [upd, e1, e2], hR.yields hR.ir.fin (fun _ _ h => h) rfl rfl (fun hl => hR.old (by rwa [getD_set_ne (by decide)] at hl)) (fun hl => ⟨by decide, by rwa [getD_set_ne (by decide)] at hl⟩) (fun h => by rw [getD_set_ne (by decide)] at h ⊢; exact hR.ord h)⟩
                    | 5, _, hr =>
                      as_aux_lemma =>
                      refine wpOp_step rfl (fun K' hK => ?_)
                      have e1 : t 119 = .pointer (some (ad.add (k * 3))) := hR.ir.val (4, 119) (by simp) (dep_of hr 4 (by kernel_rfl))
                      obtain ⟨c0, c1, c2⟩ := HC.out _ hR.ir.fin.1.lr.below
                      go_simp
                      exact hK _ _ ⟨upd t 120 (.agg #[.int .i64 (y.x), .int .i64 (y.y), .int .i64 (y.z)]), by simp [upd, e1], hR.yields hR.ir.fin (fun _ _ h => h) rfl rfl (fun hl => hR.old (by rwa [getD_set_ne (by decide)] at hl)) (fun hl => ⟨by decide, by rwa [getD_set_ne (by decide)] at hl⟩) (fun h => by rw [getD_set_ne (by decide)] at h ⊢; exact hR.ord h)⟩
                    | 6, _, hr =>
                      as_aux_lemma =>
                      refine wpOp_step rfl (fun K' hK => ?_)
                      have e1 : t 116 = .agg #[.int .i64 (p.a), .int .i64 (p.b), .int .i64 (p.c), .int .i64 (p.d)] := hR.ir.val (1, 116) (by simp) (dep_of hr 1 (by kernel_rfl))
                      have e2 : t 120 = .agg #[.int .i64 (y.x), .int .i64 (y.y), .int .i64 (y.z)] := hR.ir.val (5, 120) (by simp) (dep_of hr 5 (by kernel_rfl))
                      go_simp
                      refine (wy_any p y wy).mono ?_
                      rintro e w1 ⟨⟨z, hz, _, _, _, rfl⟩, hb⟩
                      exact hK _ _ ⟨upd t 121 (.agg #[.int .i64 (z.x), .int .i64 (z.y), .int .i64 (z.z)]), by simp [upd, e1, e2], hR.yields ⟨hR.ir.fin.1.call hb, Nat.le_trans hR.ir.fin.2 hb.size⟩ (roS19.mono hb) ⟨z, hz HPL.out, rfl⟩ rfl (fun hl => (hR.old (by rwa [getD_set_ne (by decide)] at hl)).call hb) (fun hl => ⟨by decide, by rwa [getD_set_ne (by decide)] at hl⟩) (fun h => by rw [getD_set_ne (by decide)] at h ⊢; exact hR.ord h)⟩
                    | 7, _, hr =>
                      as_aux_lemma =>
                      refine wpOp_step rfl (fun K' hK => ?_)
                      obtain ⟨z, hz, e1⟩ : ∃ z : T3, WayOK p z ∧ t 121 = .agg #[.int .i64 (z.x), .int .i64 (z.y), .int .i64 (z.z)] := hR.ir.val (6, 121) (by simp) (dep_of hr 6 (by kernel_rfl))
                      have HZ := Lib.hid hz
                      have hb := (Below.refl wy.heap.size wy).alloc (Nat.le_refl _) (.cells #[.int .i64 z.x, .int .i64 z.y, .int .i64 z.z] 24)
                      clear hz
                      go_simp
                      exact hK _ _ ⟨upd t 122 (.slice (some ⟨wy.heap.size, 0, none⟩) 1 1), by simp [upd, e1], hR.yields ⟨hR.ir.fin.1.call hb, Nat.le_trans hR.ir.fin.2 hb.size⟩ (roS19.mono hb) ⟨z, _, HZ.out, rfl, ⟨hR.ir.fin.2, by simp⟩, at3_new wy z _⟩ rfl (fun hl => (hR.old (by rwa [getD_set_ne (by decide)] at hl)).call hb) (fun hl => ⟨by decide, by rwa [getD_set_ne (by decide)] at hl⟩) (fun h => by rw [getD_set_ne (by decide)] at h ⊢; exact hR.ord h)⟩
                    | 8, _, hr =>
                      as_aux_lemma =>
                      refine wpOp_step rfl (fun K' hK => ?_)
                      obtain ⟨z, b, hz, e1, hlt, hz3⟩ : ∃ z : T3, ∃ b, WayOK p z ∧ t 122 = .slice (some ⟨b, 0, none⟩) 1 1 ∧ (wr.heap.size ≤ b ∧ b < wy.heap.size) ∧ At3 wy b 0 z := hR.ir.val (7, 122) (by simp) (dep_of hr 7 (by kernel_rfl))
                      have e0 : t 115 = u15 := hR.ir.val (0, 115) (by simp) (dep_of hr 0 (by kernel_rfl))
                      obtain ⟨q1, q2⟩ := getD_tf (ready_spec.1 hr).2.1
                      have hown := hR.old q1
                      refine step_append_lies _ rfl (.tmp 115) (.tmp 122) _ rfl B 24 i0 (.agg #[.int .i64 0, .int .i64 0, .int .i64 0]) 3 24 Tryz.underlying40 hi0 hz0 hz1 hz2 rfl (by decide) u15 L.length (flat3 L) e0 hown ⟨b, 0, none⟩ 1 1 (flat3 [z]) e1 rfl (news_three hz3) (flat3_cells _) (by omega) (by simp only [maxLen]; omega) (by omega) hR.ir.fin.1.hi _ rfl ?_
                      intro g1 cap1 w1 hown1 hgrow _ _
                      have hrow : RowT B (.slice (some ⟨g1, 0, none⟩) (L.length + 1) cap1) (L ++ [z]) w1 := by unfold RowT; rw [List.length_append, flat3_app]; exact hown1
                      exact hK _ _ ⟨upd t 123 (.slice (some ⟨g1, 0, none⟩) (L.length + 1) cap1), rfl, hR.appended ⟨hR.ir.fin.1.grown hgrow (fun c hc => (HO.out c hc).1), Nat.le_trans hR.ir.fin.2 hgrow.size⟩ (roS19.grown hgrow (fun c hc => (HO.out c hc).2)) ⟨L ++ [z], by simp, HWL.out z hz, hrow⟩ rfl rfl q1 q2 (by decide) (by decide)⟩
                    | 9, _, hr =>
                      as_aux_lemma =>
                      refine wpOp_step rfl (fun K' hK => ?_)
                      have e1 : ∃ L1 : List T3, L1.length = L.length + 1 ∧ (∀ z, z ∈ L1 → WayOK p z) ∧ RowT B (t 123) L1 wy := hR.ir.val (8, 123) (by simp) (dep_of hr 8 (by kernel_rfl))
                      go_simp
                      exact hK _ _ ⟨upd t 15 (t 123), rfl, hR.yields hR.ir.fin (fun _ _ h => h) e1 rfl (fun hl => absurd (dep_of hr 8 (by kernel_rfl)) (by rw [getD_set_ne (by decide)] at hl; simp [hl])) (fun hl => absurd (dep_of hr 0 (by kernel_rfl)) (by rw [getD_set_ne (by decide)] at hl; simp [hl])) (fun _ => by rw [getD_set_ne (by decide)]; exact dep_of hr 8 (by kernel_rfl))⟩
                  rintro listed a2 W2 ⟨t, rfl, hR⟩ hl
                  obtain ⟨L1, h1, h2, h3⟩ : ∃ L1 : List T3, L1.length = L.length + 1 ∧ (∀ z, z ∈ L1 → WayOK p z) ∧ RowT B (t 15) L1 W2 := hR.ir.val (9, 15) (by simp) (hl 9 (by decide))
                  have HL1 := Lib.hid hR.ir.fin.1
                  have HR1 := Lib.hid (And.intro h2 h3)
                  clear h2 h3 hR hl
                  go_wp2_with fail
                  refine ⟨⟨k + 1, L1, by omega, by omega, by omega, by go_num, HR1, HL1⟩, ?_⟩
                  simp [intOf]; omega
                · go_upto_region 17 with fail
                  go_cut [112] from 105 to 123 (fun s112 wx => s112 = .bool false ∧ Hid ((∀ d, d ∈ L → WayOK p d) ∧ RowT B u15 L wx) ∧ Hid (LB p q P Q B w wx))
                  case first =>
                    by_cases hkN : k < l2.length
                    · have hlz : (k : Int) < (l2.length : Int) := by omega
                      have hl8 : ¬ (k : Int) < 8 := by omega
                      go_wp2
                      go_meet
                      exact ⟨rfl, HR, HL⟩
                    · have hlz : ¬ (k : Int) < (l2.length : Int) := by omega
                      go_wp2
                      go_meet
                      exact ⟨rfl, HR, HL⟩
                  case rest =>
                    obtain ⟨rfl, HR2, HL2⟩ := hcut
                    clear HR HL wr hk hkN
                    rename World => wr
                    by_cases h2 : k < 2
                    · obtain ⟨a4, cap3, rfl⟩ := HR2.out.2.shape
                      rw [hLk]
                      have hk2 : (k : Int) < 2 := by omega
                      clear hLk h2
                      go_wp2_with fail
                      ((with_reducible refine (HA.out _).mono ?_); rintro e w3 ⟨rfl, hb⟩)
                      have HL3 := Lib.hid (HL2.out.call hb)
                      go_wp2
                      go_ret
                      exact ⟨rfl, HL3.out.lr.below⟩
                    · obtain ⟨g, cap3, hu, hcap, hg, hsl⟩ := HR2.out.2.sl (by omega)
                      rw [hLk] at hu hcap
                      subst hu
                      obtain ⟨f, rest, rfl⟩ : ∃ f rest, L = f :: rest := by
                        cases L with
                        | nil => simp at hLk; omega
                        | cons f r => exact ⟨f, r, rfl⟩
                      have HSL := Lib.hid hsl
                      have HG := Lib.hid hg
                      obtain ⟨N, rfl⟩ : ∃ N, k = N + 1 := ⟨k - 1, by omega⟩
                      have HN : Hid (rest.length = N) := by have h : rest.length + 1 = N + 1 := hLk; exact Nat.succ.inj h
                      have HW : Hid (WayOK p f ∧ ∀ z, z ∈ rest → WayOK p z) := ⟨HR2.out.1 f (by simp), fun z hz => HR2.out.1 z (List.mem_cons_of_mem _ hz)⟩
                      have hN1 : 1 ≤ N := by omega
                      have hN8 : N ≤ 7 := by omega
                      have h1c : N + 1 ≤ cap3 := hcap
                      have c0 : wr.cell? ⟨g, 0, none⟩ = some (.int .i64 f.x) := (hsl 0 f rfl).1
                      have c1 : wr.cell? ⟨g, 1, none⟩ = some (.int .i64 f.y) := (hsl 0 f rfl).2.1
                      have c2 : wr.cell? ⟨g, 2, none⟩ = some (.int .i64 f.z) := (hsl 0 f rfl).2.2
                      have hn2 : ¬ ((N : Int) + 1) < 2 := by omega
                      clear hLk h2 hsl hg hcap HR2 hk8
                      go_upto_region 24 with fail
                      have HP := Lib.hid HI.out.1.1
                      have HPI := Lib.hid HI.out.2.1
                      obtain ⟨c, hc⟩ : ∃ c, c = rcwN p f rest N := ⟨_, rfl⟩
                      have hcN : c < N := by have := rcwN_le p f rest N; omega
                      have HCK : Hid (∀ W F, LF p P f F g rest w W → Calls Tryz.prog 18 #[.agg #[.int .i64 (p.a), .int .i64 (p.b), .int .i64 (p.c), .int .i64 (p.d)], .agg #[.int .i64 (f.x), .int .i64 (f.y), .int .i64 (f.z)], .slice (some ⟨g, 3, none⟩) N (cap3 - 1)] W fun e w' => e = .returned (.tuple #[.int .i64 c, .int .i64 0]) ∧ Below W.heap.size W w') := fun W F h => by
                        have k := lineClockwise_sl p f rest g 3 (cap3 - 1) W HPI.out (by rw [HN.out]; omega) h.sl.1 h.sl.2
                        obtain ⟨k1, k2⟩ := ways_clk HP.out HW.out.1 HW.out.2 (by rw [HN.out]; omega) (by rw [HN.out]; omega)
                        rw [k1, k2, HN.out, ← hc] at k
                        exact k
                      have HAN : Hid (∀ a b, WayOK p a → WayOK p b → ∀ W, Calls Tryz.prog 32 #[.agg #[.int .i64 (p.a), .int .i64 (p.b), .int .i64 (p.c), .int .i64 (p.d)], .agg #[.int .i64 (a.x), .int .i64 (a.y), .int .i64 (a.z)], .agg #[.int .i64 (b.x), .int .i64 (b.y), .int .i64 (b.z)]] W fun e w' => e = .returned (.tuple #[.int .i64 (rangI p a b), .int .i64 0]) ∧ Below W.heap.size W w') := fun a b ha hb W => by
                        have k := lineAngle_any p a b W HPI.out
                        obtain ⟨k1, k2⟩ := ways_ang HP.out ha hb
                        rw [k1, k2] at k
                        exact k
                      have HBEST : Hid (∀ j x z, rest[j]? = some x → rest[c]? = some z → rangI p f x ≤ rangI p f z) := fun j x z hj hz => by
                        have k := rcw_best p f rest N j (by have := (List.getElem?_eq_some_iff.1 hj).1; rw [HN.out] at this; exact this)
                        rw [← hc] at k
                        have e1 : rest[j]! = x := by simp [List.getElem!_eq_getElem?_getD, hj]
                        have e2 : rest[c]! = z := by simp [List.getElem!_eq_getElem?_getD, hz]
                        rw [e1, e2] at k; exact k
                      have HTURN : Hid (∀ x, WayOK p x → rangI p x f = (4 - rangI p f x) % 4) := fun x hx => rang_turn (plane_iff.1 HP.out).1 HW.out.1 hx
                      have HF := Lib.hid (LF.new HL2.out HG.out HSL.out 24)
                      clear hc c0 c1 c2 HSL HG HP HPI HI
                      generalize wr.alloc (.cells #[.int .i64 f.x, .int .i64 f.y, .int .i64 f.z] 24) = W0 at HF ⊢
                      generalize wr.heap.size = F at HF ⊢
                      clear HL2 wr
                      go_cut [15, 16, 17, 19, 20] from 124 to 151 (fun s15 s16 s17 s19 s20 wx => s17 = .pointer (some ⟨F, 0, none⟩) ∧ s19 = .int .i64 c ∧ s20 = .int .i64 0 ∧ Hid (LF p P f F g rest w wx))
                      case first =>
                        obtain ⟨a0, a1, a2, a3⟩ := HF.out.bp.four
                        obtain ⟨b0, b1, b2⟩ := HF.out.fc
                        go_wp2_with fail
                        ((with_reducible refine (HCK.out _ _ HF.out).mono ?_); rintro e w1 ⟨rfl, hb⟩)
                        have HF1 := Lib.hid (HF.out.call hb)
                        clear HF hb a0 a1 a2 a3 b0 b1 b2
                        go_wp2
                        go_meet
                        exact ⟨rfl, rfl, rfl, HF1⟩
                      case rest =>
                        obtain ⟨rfl, rfl, rfl, HF1⟩ := hcut
                        clear HF HCK W0
                        rename World => wx
                        have hcN' : (c : Int) < (N : Int) := by omega
                        have hc0 : ¬ (c : Int) < 0 := by omega
                        go_upto_region 28 with fail
                        go_cut [21, 22] from 105 to 152 (fun s21 s22 wx => ∃ T, s21 = .pointer (some ⟨T, 0, none⟩) ∧ s22 = .int .i64 0 ∧ Hid (LF p P f F g rest w wx ∧ Tab wx T))
                        case first =>
                          have hb := (Below.refl wx.heap.size wx).alloc (Nat.le_refl _) (.cells #[.int .i64 0, .int .i64 3, .int .i64 2, .int .i64 1] 63)
                          have HN1 : Hid (LF p P f F g rest w (wx.alloc (.cells #[.int .i64 0, .int .i64 3, .int .i64 2, .int .i64 1] 63)) ∧ Tab (wx.alloc (.cells #[.int .i64 0, .int .i64 3, .int .i64 2, .int .i64 1] 63)) wx.heap.size) := ⟨HF1.out.call hb, _, blk_new wx _⟩
                          clear hb
                          go_wp2_with fail
                          go_meet
                          exact ⟨_, rfl, rfl, HN1⟩
                        case rest =>
                          obtain ⟨T, rfl, rfl, HF2⟩ := hcut
                          clear HF1 wx
                          rename World => wx
                          go_wp2
                          go_loopw [22] (fun s22 wr => ∃ j : Nat, j ≤ N ∧ s22 = .int .i64 j ∧ Hid (LF p P f F g rest w wr ∧ Tab wr T)) (fun v _ => N - (intOf v).toNat)
                          case atStart => exact ⟨0, by omega, rfl, HF2⟩
                          case round =>
                            rename World => wr
                            obtain ⟨j, hj, rfl, HF3⟩ := hrel
                            clear HF2
                            by_cases hjN : j < N
                            · have hlz : (j : Int) < (N : Int) := by omega
                              obtain ⟨x, hx⟩ : ∃ x, rest[j]? = some x := ⟨_, List.getElem?_eq_getElem (by rw [HN.out]; exact hjN)⟩
                              obtain ⟨z, hz⟩ : ∃ z, rest[c]? = some z := ⟨_, List.getElem?_eq_getElem (by rw [HN.out]; exact hcN)⟩
                              have HX := Lib.hid hx
                              have HZ := Lib.hid hz
                              have HBX := Lib.hid (HBEST.out j x z hx hz)
                              have hwx := HW.out.2 x (List.mem_of_getElem? hx)
                              have HTX := Lib.hid (HTURN.out x hwx)
                              have H1 := Lib.hid (HAN.out f x HW.out.1 hwx)
                              have H2 := Lib.hid (HAN.out x f hwx HW.out.1)
                              have H3 := Lib.hid (HAN.out f z HW.out.1 (HW.out.2 z (List.mem_of_getElem? hz)))
                              have HU := Lib.hid (And.intro (rangI_range p f x) (rangI_range p f z))
                              clear hx hz hwx
                              obtain ⟨U1, hU1⟩ : ∃ U1, U1 = rangI p f x := ⟨_, rfl⟩
                              obtain ⟨U2, hU2⟩ : ∃ U2, U2 = rangI p x f := ⟨_, rfl⟩
                              obtain ⟨U3, hU3⟩ : ∃ U3, U3 = rangI p f z := ⟨_, rfl⟩
                              rw [← hU1] at H1 HU HBX
                              rw [← hU1, ← hU2] at HTX
                              rw [← hU2] at H2
                              rw [← hU3] at H3 HU HBX
                              clear hU1 hU2 hU3
                              go_upto_region 31 with fail
                              go_cut [23, 24] from 153 to 229 (fun s23 s24 wx => s23 = .int .i64 U1 ∧ s24 = .int .i64 0 ∧ Hid (LF p P f F g rest w wx ∧ Tab wx T))
                              case first =>
                                refine wp_region_inv (by kernel_rfl) (by kernel_rfl) (fun listed aa wy => ∃ t : Nat → Value, aa = { tmps := #[.agg #[.int .i64 (p0.a), .int .i64 (p0.b), .int .i64 (p0.c), .int .i64 (p0.d), .int .i64 (q0.a), .int .i64 (q0.b), .int .i64 (q0.c), .int .i64 (q0.d)], v1, .slice A l2.length cap2, .pointer (some ⟨w.heap.size, 0, none⟩), undef, undef, u6, .pointer (some ⟨P, 0, none⟩), .pointer (some ⟨Q, 0, none⟩), u9, u10, u11, u12, u13, u14, u15, u16, .pointer (some ⟨F, 0, none⟩), .slice (some ⟨g, 3, none⟩) N (cap3 - 1), .int .i64 c, .int .i64 0, .pointer (some ⟨T, 0, none⟩), .int .i64 j, t 23, t 24, u25, u26, u27, u28, u29, u30, u31, u32, u33, u34, u35, u36, u37, u38, u39, u40, u41, u42, u43, u44, .int .i64 0, .bool false, u47, u48, u49, u50, u51, u52, u53, u54, u55, u56, u57, u58, u59, u60, u61, u62, u63, u64, u65, u66, u67, u68, u69, u70, u71, u72, u73, u74, u75, u76, u77, u78, u79, u80, u81, u82, u83, u84, u85, u86, u87, u88, u89, u90, u91, u92, u93, u94, u95, u96, u97, u98, u99, u100, u101, u102, u103, u104, u105, u106, u107, u108, u109, u110, u111, u112, u113, u114, u115, u116, u117, u118, u119, u120, u121, u122, u123, u124, u125, u126, u127, u128, u129, u130, u131, u132, u133, u134, u135, u136, u137, u138, u139, u140, u141, u142, u143, u144, u145, u146, u147, u148, u149, u150, u151, u152, .int .i64 j, .slice (some ⟨g, 3, none⟩) N (cap3 - 1), .int .i64 N, .bool true, u157, u158, t 159, t 160, t 161, t 162, t 163, t 164, t 165, t 166, t 167, t 168, u169, u170, u171, u172, u173, u174, u175, u176, u177, u178, u179, u180, u181, u182, u183, u184, u185, u186, u187, u188, u189, u190, u191, u192, u193, u194, u195, u196, u197, u198, u199, u200, u201, u202, u203, u204, u205, u206, u207, u208, u209, u210, u211, u212, u213, u214, u215, u216, u217, u218, u219, u220, u221, u222, u223, u224, u225, u226, u227, u228, u229, undef], defers := [] } ∧ IR (fun W => LF p P f F g rest w W ∧ Tab W T) (roS31 p f x z g N cap3 j c U1 U2 U3) [(0, 160), (1, 161), (2, 162), (3, 163), (4, 164), (5, 165), (6, 166), (7, 159), (8, 167), (9, 168), (10, 23), (11, 24)] listed t wy) ⟨(fun d => match d with | 160 => u160 | 161 => u161 | 162 => u162 | 163 => u163 | 164 => u164 | 165 => u165 | 166 => u166 | 159 => u159 | 167 => u167 | 168 => u168 | 23 => u23 | 24 => u24 | _ => undef), rfl, IR.start _ ⟨HF3.out.1.call (Below.refl _ _).drew, HF3.out.2.call (Below.refl _ _).drew⟩ _⟩ ?_ ?_
                                rotate_left
                                · rintro listed hs i hi aa wy ⟨t, rfl, hR⟩ hr
                                  match i, hi, hr with
                                  | 0, _, hr =>
                                    as_aux_lemma =>
                                    refine wpOp_step rfl (fun K' hK => ?_)
                                    obtain ⟨c0, c1, c2, c3⟩ := hR.fin.1.bp.four
                                    go_simp
                                    exact hK _ _ ⟨upd t 160 (.agg #[.int .i64 (p.a), .int .i64 (p.b), .int .i64 (p.c), .int .i64 (p.d)]), rfl, hR.yields hR.fin (fun _ _ h => h) rfl rfl⟩
                                  | 1, _, hr =>
                                    as_aux_lemma =>
                                    refine wpOp_step rfl (fun K' hK => ?_)
                                    obtain ⟨c0, c1, c2⟩ := hR.fin.1.fc
                                    go_simp
                                    exact hK _ _ ⟨upd t 161 (.agg #[.int .i64 (f.x), .int .i64 (f.y), .int .i64 (f.z)]), rfl, hR.yields hR.fin (fun _ _ h => h) rfl rfl⟩
                                  | 2, _, hr =>
                                    as_aux_lemma =>
                                    refine wpOp_step rfl (fun K' hK => ?_)
                                    go_simp
                                    exact hK _ _ ⟨upd t 162 (.slice (some ⟨g, 3, none⟩) N (cap3 - 1)), rfl, hR.yields hR.fin (fun _ _ h => h) rfl rfl⟩
                                  | 3, _, hr =>
                                    as_aux_lemma =>
                                    refine wpOp_step rfl (fun K' hK => ?_)
                                    go_simp
                                    exact hK _ _ ⟨upd t 163 (.int .i64 j), rfl, hR.yields hR.fin (fun _ _ h => h) rfl rfl⟩
                                  | 4, _, hr =>
                                    as_aux_lemma =>
                                    refine wpOp_step rfl (fun K' hK => ?_)
                                    have e1 : t 162 = .slice (some ⟨g, 3, none⟩) N (cap3 - 1) := hR.val (2, 162) (by simp) (dep_of hr 2 (by kernel_rfl))
                                    have e2 : t 163 = .int .i64 j := hR.val (3, 163) (by simp) (dep_of hr 3 (by kernel_rfl))
                                    go_simp
                                    exact hK _ _ ⟨upd t 164 (.pointer (some ⟨g, 3 + j * 3, none⟩)), by simp [upd, e1, e2], hR.yields hR.fin (fun _ _ h => h) rfl rfl⟩
                                  | 5, _, hr =>
                                    as_aux_lemma =>
                                    refine wpOp_step rfl (fun K' hK => ?_)
                                    have e1 : t 164 = .pointer (some ⟨g, 3 + j * 3, none⟩) := hR.val (4, 164) (by simp) (dep_of hr 4 (by kernel_rfl))
                                    obtain ⟨c0, c1, c2⟩ := hR.fin.1.sl.2 j x HX.out
                                    go_simp
                                    exact hK _ _ ⟨upd t 165 (.agg #[.int .i64 (x.x), .int .i64 (x.y), .int .i64 (x.z)]), by simp [upd, e1], hR.yields hR.fin (fun _ _ h => h) rfl rfl⟩
                                  | 6, _, hr =>
                                    as_aux_lemma =>
                                    refine wpOp_step rfl (fun K' hK => ?_)
                                    have e1 : t 160 = .agg #[.int .i64 (p.a), .int .i64 (p.b), .int .i64 (p.c), .int .i64 (p.d)] := hR.val (0, 160) (by simp) (dep_of hr 0 (by kernel_rfl))
                                    have e2 : t 161 = .agg #[.int .i64 (f.x), .int .i64 (f.y), .int .i64 (f.z)] := hR.val (1, 161) (by simp) (dep_of hr 1 (by kernel_rfl))
                                    have e3 : t 165 = .agg #[.int .i64 (x.x), .int .i64 (x.y), .int .i64 (x.z)] := hR.val (5, 165) (by simp) (dep_of hr 5 (by kernel_rfl))
                                    have HR := Lib.hid hR.fin
                                    go_simp
                                    refine (H1.out _).mono ?_
                                    rintro e w1 ⟨rfl, hb⟩
                                    exact hK _ _ ⟨upd t 166 (.tuple #[.int .i64 U1, .int .i64 0]), by simp [upd, e1, e2, e3], hR.yields ⟨HR.out.1.call hb, HR.out.2.call hb⟩ (fun _ _ h => h) rfl rfl⟩
                                  | 7, _, hr =>
                                    as_aux_lemma =>
                                    refine wpOp_step rfl (fun K' hK => ?_)
                                    have e1 : t 166 = .tuple #[.int .i64 U1, .int .i64 0] := hR.val (6, 166) (by simp) (dep_of hr 6 (by kernel_rfl))
                                    go_simp
                                    exact hK _ _ ⟨upd t 159 (.tuple #[.int .i64 U1, .int .i64 0]), by simp [upd, e1], hR.yields hR.fin (fun _ _ h => h) rfl rfl⟩
                                  | 8, _, hr =>
                                    as_aux_lemma =>
                                    refine wpOp_step rfl (fun K' hK => ?_)
                                    have e1 : t 159 = .tuple #[.int .i64 U1, .int .i64 0] := hR.val (7, 159) (by simp) (dep_of hr 7 (by kernel_rfl))
                                    go_simp
                                    exact hK _ _ ⟨upd t 167 (.int .i64 U1), by simp [upd, e1], hR.yields hR.fin (fun _ _ h => h) rfl rfl⟩
                                  | 9, _, hr =>
                                    as_aux_lemma =>
                                    refine wpOp_step rfl (fun K' hK => ?_)
                                    have e1 : t 159 = .tuple #[.int .i64 U1, .int .i64 0] := hR.val (7, 159) (by simp) (dep_of hr 7 (by kernel_rfl))
                                    go_simp
                                    exact hK _ _ ⟨upd t 168 (.int .i64 0), by simp [upd, e1], hR.yields hR.fin (fun _ _ h => h) rfl rfl⟩
                                  | 10, _, hr =>
                                    as_aux_lemma =>
                                    refine wpOp_step rfl (fun K' hK => ?_)
                                    have e1 : t 167 = .int .i64 U1 := hR.val (8, 167) (by simp) (dep_of hr 8 (by kernel_rfl))
                                    go_simp
                                    exact hK _ _ ⟨upd t 23 (.int .i64 U1), by simp [upd, e1], hR.yields hR.fin (fun _ _ h => h) rfl rfl⟩
                                  | 11, _, hr =>
                                    as_aux_lemma =>
                                    refine wpOp_step rfl (fun K' hK => ?_)
                                    have e1 : t 168 = .int .i64 0 := hR.val (9, 168) (by simp) (dep_of hr 9 (by kernel_rfl))
                                    go_simp
                                    exact hK _ _ ⟨upd t 24 (.int .i64 0), by simp [upd, e1], hR.yields hR.fin (fun _ _ h => h) rfl rfl⟩
                                rintro listed a2 W2 ⟨t, rfl, hR⟩ hl
                                have e1 : t 23 = .int .i64 U1 := hR.val (10, 23) (by simp) (hl 10 (by decide))
                                have e2 : t 24 = .int .i64 0 := hR.val (11, 24) (by simp) (hl 11 (by decide))
                                have HX1 := Lib.hid hR.fin
                                clear hR hl
                                go_wp2_with fail
                                go_meet
                                exact ⟨e1, e2, HX1⟩
                              case rest =>
                                obtain ⟨rfl, rfl, HF4⟩ := hcut
                                clear HF3 H1 wr
                                rename World => wr
                                go_upto_region 32 with fail
                                go_cut [25, 26] from 153 to 229 (fun s25 s26 wx => s25 = .int .i64 U2 ∧ s26 = .int .i64 0 ∧ Hid (LF p P f F g rest w wx ∧ Tab wx T))
                                case first =>
                                  refine wp_region_inv (by kernel_rfl) (by kernel_rfl) (fun listed aa wy => ∃ t : Nat → Value, aa = { tmps := #[.agg #[.int .i64 (p0.a), .int .i64 (p0.b), .int .i64 (p0.c), .int .i64 (p0.d), .int .i64 (q0.a), .int .i64 (q0.b), .int .i64 (q0.c), .int .i64 (q0.d)], v1, .slice A l2.length cap2, .pointer (some ⟨w.heap.size, 0, none⟩), undef, undef, u6, .pointer (some ⟨P, 0, none⟩), .pointer (some ⟨Q, 0, none⟩), u9, u10, u11, u12, u13, u14, u15, u16, .pointer (some ⟨F, 0, none⟩), .slice (some ⟨g, 3, none⟩) N (cap3 - 1), .int .i64 c, .int .i64 0, .pointer (some ⟨T, 0, none⟩), .int .i64 j, .int .i64 U1, .int .i64 0, t 25, t 26, u27, u28, u29, u30, u31, u32, u33, u34, u35, u36, u37, u38, u39, u40, u41, u42, u43, u44, .int .i64 0, .bool false, u47, u48, u49, u50, u51, u52, u53, u54, u55, u56, u57, u58, u59, u60, u61, u62, u63, u64, u65, u66, u67, u68, u69, u70, u71, u72, u73, u74, u75, u76, u77, u78, u79, u80, u81, u82, u83, u84, u85, u86, u87, u88, u89, u90, u91, u92, u93, u94, u95, u96, u97, u98, u99, u100, u101, u102, u103, u104, u105, u106, u107, u108, u109, u110, u111, u112, u113, u114, u115, u116, u117, u118, u119, u120, u121, u122, u123, u124, u125, u126, u127, u128, u129, u130, u131, u132, u133, u134, u135, u136, u137, u138, u139, u140, u141, u142, u143, u144, u145, u146, u147, u148, u149, u150, u151, u152, u153, u154, u155, u156, u157, u158, u159, u160, u161, u162, u163, u164, u165, u166, u167, u168, t 169, t 170, t 171, t 172, t 173, t 174, t 175, t 176, t 177, t 178, u179, u180, u181, u182, u183, u184, u185, u186, u187, u188, u189, u190, u191, u192, u193, u194, u195, u196, u197, u198, u199, u200, u201, u202, u203, u204, u205, u206, u207, u208, u209, u210, u211, u212, u213, u214, u215, u216, u217, u218, u219, u220, u221, u222, u223, u224, u225, u226, u227, u228, u229, undef], defers := [] } ∧ IR (fun W => LF p P f F g rest w W ∧ Tab W T) (roS32 p f x z g N cap3 j c U1 U2 U3) [(0, 170), (1, 171), (2, 172), (3, 173), (4, 174), (5, 175), (6, 176), (7, 169), (8, 177), (9, 178), (10, 25), (11, 26)] listed t wy) ⟨(fun d => match d with | 170 => u170 | 171 => u171 | 172 => u172 | 173 => u173 | 174 => u174 | 175 => u175 | 176 => u176 | 169 => u169 | 177 => u177 | 178 => u178 | 25 => u25 | 26 => u26 | _ => undef), rfl, IR.start _ ⟨HF4.out.1.call (Below.refl _ _).drew, HF4.out.2.call (Below.refl _ _).drew⟩ _⟩ ?_ ?_
                                  rotate_left
                                  · rintro listed hs i hi aa wy ⟨t, rfl, hR⟩ hr
                                    match i, hi, hr with
                                    | 0, _, hr =>
                                      as_aux_lemma =>
                                      refine wpOp_step rfl (fun K' hK => ?_)
                                      obtain ⟨c0, c1, c2, c3⟩ := hR.fin.1.bp.four
                                      go_simp
                                      exact hK _ _ ⟨upd t 170 (.agg #[.int .i64 (p.a), .int .i64 (p.b), .int .i64 (p.c), .int .i64 (p.d)]), rfl, hR.yields hR.fin (fun _ _ h => h) rfl rfl⟩
                                    | 1, _, hr =>
                                      as_aux_lemma =>
                                      refine wpOp_step rfl (fun K' hK => ?_)
                                      go_simp
                                      exact hK _ _ ⟨upd t 171 (.slice (some ⟨g, 3, none⟩) N (cap3 - 1)), rfl, hR.yields hR.fin (fun _ _ h => h) rfl rfl⟩
                                    | 2, _, hr =>
                                      as_aux_lemma =>
                                      refine wpOp_step rfl (fun K' hK => ?_)
                                      go_simp
                                      exact hK _ _ ⟨upd t 172 (.int .i64 j), rfl, hR.yields hR.fin (fun _ _ h => h) rfl rfl⟩
                                    | 3, _, hr =>
                                      as_aux_lemma =>
                                      refine wpOp_step rfl (fun K' hK => ?_)
                                      have e1 : t 171 = .slice (some ⟨g, 3, none⟩) N (cap3 - 1) := hR.val (1, 171) (by simp) (dep_of hr 1 (by kernel_rfl))
                                      have e2 : t 172 = .int .i64 j := hR.val (2, 172) (by simp) (dep_of hr 2 (by kernel_rfl))
                                      go_simp
                                      exact hK _ _ ⟨upd t 173 (.pointer (some ⟨g, 3 + j * 3, none⟩)), by simp [upd, e1, e2], hR.yields hR.fin (fun _ _ h => h) rfl rfl⟩
                                    | 4, _, hr =>
                                      as_aux_lemma =>
                                      refine wpOp_step rfl (fun K' hK => ?_)
                                      have e1 : t 173 = .pointer (some ⟨g, 3 + j * 3, none⟩) := hR.val (3, 173) (by simp) (dep_of hr 3 (by kernel_rfl))
                                      obtain ⟨c0, c1, c2⟩ := hR.fin.1.sl.2 j x HX.out
                                      go_simp
                                      exact hK _ _ ⟨upd t 174 (.agg #[.int .i64 (x.x), .int .i64 (x.y), .int .i64 (x.z)]), by simp [upd, e1], hR.yields hR.fin (fun _ _ h => h) rfl rfl⟩
                                    | 5, _, hr =>
                                      as_aux_lemma =>
                                      refine wpOp_step rfl (fun K' hK => ?_)
                                      obtain ⟨c0, c1, c2⟩ := hR.fin.1.fc
                                      go_simp
                                      exact hK _ _ ⟨upd t 175 (.agg #[.int .i64 (f.x), .int .i64 (f.y), .int .i64 (f.z)]), rfl, hR.yields hR.fin (fun _ _ h => h) rfl rfl⟩
                                    | 6, _, hr =>
                                      as_aux_lemma =>
                                      refine wpOp_step rfl (fun K' hK => ?_)
                                      have e1 : t 170 = .agg #[.int .i64 (p.a), .int .i64 (p.b), .int .i64 (p.c), .int .i64 (p.d)] := hR.val (0, 170) (by simp) (dep_of hr 0 (by kernel_rfl))
                                      have e2 : t 174 = .agg #[.int .i64 (x.x), .int .i64 (x.y), .int .i64 (x.z)] := hR.val (4, 174) (by simp) (dep_of hr 4 (by kernel_rfl))
                                      have e3 : t 175 = .agg #[.int .i64 (f.x), .int .i64 (f.y), .int .i64 (f.z)] := hR.val (5, 175) (by simp) (dep_of hr 5 (by kernel_rfl))
                                      have HR := Lib.hid hR.fin
                                      go_simp
                                      refine (H2.out _).mono ?_
                                      rintro e w1 ⟨rfl, hb⟩
                                      exact hK _ _ ⟨upd t 176 (.tuple #[.int .i64 U2, .int .i64 0]), by simp [upd, e1, e2, e3], hR.yields ⟨HR.out.1.call hb, HR.out.2.call hb⟩ (fun _ _ h => h) rfl rfl⟩
                                    | 7, _, hr =>
                                      as_aux_lemma =>
                                      refine wpOp_step rfl (fun K' hK => ?_)
                                      have e1 : t 176 = .tuple #[.int .i64 U2, .int .i64 0] := hR.val (6, 176) (by simp) (dep_of hr 6 (by kernel_rfl))
                                      go_simp
                                      exact hK _ _ ⟨upd t 169 (.tuple #[.int .i64 U2, .int .i64 0]), by simp [upd, e1], hR.yields hR.fin (fun _ _ h => h) rfl rfl⟩
                                    | 8, _, hr =>
                                      as_aux_lemma =>
                                      refine wpOp_step rfl (fun K' hK => ?_)
                                      have e1 : t 169 = .tuple #[.int .i64 U2, .int .i64 0] := hR.val (7, 169) (by simp) (dep_of hr 7 (by kernel_rfl))
                                      go_simp
                                      exact hK _ _ ⟨upd t 177 (.int .i64 U2), by simp [upd, e1], hR.yields hR.fin (fun _ _ h => h) rfl rfl⟩
                                    | 9, _, hr =>
                                      as_aux_lemma =>
                                      refine wpOp_step rfl (fun K' hK => ?_)
                                      have e1 : t 169 = .tuple #[.int .i64 U2, .int .i64 0] := hR.val (7, 169) (by simp) (dep_of hr 7 (by kernel_rfl))
                                      go_simp
                                      exact hK _ _ ⟨upd t 178 (.int .i64 0), by simp [upd, e1], hR.yields hR.fin (fun _ _ h => h) rfl rfl⟩
                                    | 10, _, hr =>
                                      as_aux_lemma =>
                                      refine wpOp_step rfl (fun K' hK => ?_)
                                      have e1 : t 177 = .int .i64 U2 := hR.val (8, 177) (by simp) (dep_of hr 8 (by kernel_rfl))
                                      go_simp
                                      exact hK _ _ ⟨upd t 25 (.int .i64 U2), by simp [upd, e1], hR.yields hR.fin (fun _ _ h => h) rfl rfl⟩
                                    | 11, _, hr =>
                                      as_aux_lemma =>
                                      refine wpOp_step rfl (fun K' hK => ?_)
                                      have e1 : t 178 = .int .i64 0 := hR.val (9, 178) (by simp) (dep_of hr 9 (by kernel_rfl))
                                      go_simp
                                      exact hK _ _ ⟨upd t 26 (.int .i64 0), by simp [upd, e1], hR.yields hR.fin (fun _ _ h => h) rfl rfl⟩
                                  rintro listed a2 W2 ⟨t, rfl, hR⟩ hl
                                  have e1 : t 25 = .int .i64 U2 := hR.val (10, 25) (by simp) (hl 10 (by decide))
                                  have e2 : t 26 = .int .i64 0 := hR.val (11, 26) (by simp) (hl 11 (by decide))
                                  have HX1 := Lib.hid hR.fin
                                  clear hR hl
                                  go_wp2_with fail
                                  go_meet
                                  exact ⟨e1, e2, HX1⟩
                                case rest =>
                                  obtain ⟨rfl, rfl, HF3⟩ := hcut
                                  clear HF4 H2 wr
                                  rename World => wr
                                  go_upto_region 33 with fail
                                  go_cut [27, 28] from 153 to 229 (fun s27 s28 wx => s27 = .int .i64 U3 ∧ s28 = .int .i64 0 ∧ Hid (LF p P f F g rest w wx ∧ Tab wx T))
                                  case first =>
                                    refine wp_region_inv (by kernel_rfl) (by kernel_rfl) (fun listed aa wy => ∃ t : Nat → Value, aa = { tmps := #[.agg #[.int .i64 (p0.a), .int .i64 (p0.b), .int .i64 (p0.c), .int .i64 (p0.d), .int .i64 (q0.a), .int .i64 (q0.b), .int .i64 (q0.c), .int .i64 (q0.d)], v1, .slice A l2.length cap2, .pointer (some ⟨w.heap.size, 0, none⟩), undef, undef, u6, .pointer (some ⟨P, 0, none⟩), .pointer (some ⟨Q, 0, none⟩), u9, u10, u11, u12, u13, u14, u15, u16, .pointer (some ⟨F, 0, none⟩), .slice (some ⟨g, 3, none⟩) N (cap3 - 1), .int .i64 c, .int .i64 0, .pointer (some ⟨T, 0, none⟩), .int .i64 j, .int .i64 U1, .int .i64 0, .int .i64 U2, .int .i64 0, t 27, t 28, u29, u30, u31, u32, u33, u34, u35, u36, u37, u38, u39, u40, u41, u42, u43, u44, .int .i64 0, .bool false, u47, u48, u49, u50, u51, u52, u53, u54, u55, u56, u57, u58, u59, u60, u61, u62, u63, u64, u65, u66, u67, u68, u69, u70, u71, u72, u73, u74, u75, u76, u77, u78, u79, u80, u81, u82, u83, u84, u85, u86, u87, u88, u89, u90, u91, u92, u93, u94, u95, u96, u97, u98, u99, u100, u101, u102, u103, u104, u105, u106, u107, u108, u109, u110, u111, u112, u113, u114, u115, u116, u117, u118, u119, u120, u121, u122, u123, u124, u125, u126, u127, u128, u129, u130, u131, u132, u133, u134, u135, u136, u137, u138, u139, u140, u141, u142, u143, u144, u145, u146, u147, u148, u149, u150, u151, u152, u153, u154, u155, u156, u157, u158, u159, u160, u161, u162, u163, u164, u165, u166, u167, u168, u169, u170, u171, u172, u173, u174, u175, u176, u177, u178, t 179, t 180, t 181, t 182, t 183, t 184, t 185, t 186, t 187, t 188, u189, u190, u191, u192, u193, u194, u195, u196, u197, u198, u199, u200, u201, u202, u203, u204, u205, u206, u207, u208, u209, u210, u211, u212, u213, u214, u215, u216, u217, u218, u219, u220, u221, u222, u223, u224, u225, u226, u227, u228, u229, undef], defers := [] } ∧ IR (fun W => LF p P f F g rest w W ∧ Tab W T) (roS33 p f x z g N cap3 j c U1 U2 U3) [(0, 180), (1, 181), (2, 182), (3, 183), (4, 184), (5, 185), (6, 186), (7, 179), (8, 187), (9, 188), (10, 27), (11, 28)] listed t wy) ⟨(fun d => match d with | 180 => u180 | 181 => u181 | 182 => u182 | 183 => u183 | 184 => u184 | 185 => u185 | 186 => u186 | 179 => u179 | 187 => u187 | 188 => u188 | 27 => u27 | 28 => u28 | _ => undef), rfl, IR.start _ ⟨HF3.out.1.call (Below.refl _ _).drew, HF3.out.2.call (Below.refl _ _).drew⟩ _⟩ ?_ ?_
                                    rotate_left
                                    · rintro listed hs i hi aa wy ⟨t, rfl, hR⟩ hr
                                      match i, hi, hr with
                                      | 0, _, hr =>
                                        as_aux_lemma =>
                                        refine wpOp_step rfl (fun K' hK => ?_)
                                        obtain ⟨c0, c1, c2, c3⟩ := hR.fin.1.bp.four
                                        go_simp
                                        exact hK _ _ ⟨upd t 180 (.agg #[.int .i64 (p.a), .int .i64 (p.b), .int .i64 (p.c), .int .i64 (p.d)]), rfl, hR.yields hR.fin (fun _ _ h => h) rfl rfl⟩
                                      | 1, _, hr =>
                                        as_aux_lemma =>
                                        refine wpOp_step rfl (fun K' hK => ?_)
                                        obtain ⟨c0, c1, c2⟩ := hR.fin.1.fc
                                        go_simp
                                        exact hK _ _ ⟨upd t 181 (.agg #[.int .i64 (f.x), .int .i64 (f.y), .int .i64 (f.z)]), rfl, hR.yields hR.fin (fun _ _ h => h) rfl rfl⟩
                                      | 2, _, hr =>
                                        as_aux_lemma =>
                                        refine wpOp_step rfl (fun K' hK => ?_)
                                        go_simp
                                        exact hK _ _ ⟨upd t 182 (.slice (some ⟨g, 3, none⟩) N (cap3 - 1)), rfl, hR.yields hR.fin (fun _ _ h => h) rfl rfl⟩
                                      | 3, _, hr =>
                                        as_aux_lemma =>
                                        refine wpOp_step rfl (fun K' hK => ?_)
                                        go_simp
                                        exact hK _ _ ⟨upd t 183 (.int .i64 c), rfl, hR.yields hR.fin (fun _ _ h => h) rfl rfl⟩
                                      | 4, _, hr =>
                                        as_aux_lemma =>
                                        refine wpOp_step rfl (fun K' hK => ?_)
                                        have e1 : t 182 = .slice (some ⟨g, 3, none⟩) N (cap3 - 1) := hR.val (2, 182) (by simp) (dep_of hr 2 (by kernel_rfl))
                                        have e2 : t 183 = .int .i64 c := hR.val (3, 183) (by simp) (dep_of hr 3 (by kernel_rfl))
                                        go_simp
                                        exact hK _ _ ⟨upd t 184 (.pointer (some ⟨g, 3 + c * 3, none⟩)), by simp [upd, e1, e2], hR.yields hR.fin (fun _ _ h => h) rfl rfl⟩
                                      | 5, _, hr =>
                                        as_aux_lemma =>
                                        refine wpOp_step rfl (fun K' hK => ?_)
                                        have e1 : t 184 = .pointer (some ⟨g, 3 + c * 3, none⟩) := hR.val (4, 184) (by simp) (dep_of hr 4 (by kernel_rfl))
                                        obtain ⟨c0, c1, c2⟩ := hR.fin.1.sl.2 c z HZ.out
                                        go_simp
                                        exact hK _ _ ⟨upd t 185 (.agg #[.int .i64 (z.x), .int .i64 (z.y), .int .i64 (z.z)]), by simp [upd, e1], hR.yields hR.fin (fun _ _ h => h) rfl rfl⟩
                                      | 6, _, hr =>
                                        as_aux_lemma =>
                                        refine wpOp_step rfl (fun K' hK => ?_)
                                        have e1 : t 180 = .agg #[.int .i64 (p.a), .int .i64 (p.b), .int .i64 (p.c), .int .i64 (p.d)] := hR.val (0, 180) (by simp) (dep_of hr 0 (by kernel_rfl))
                                        have e2 : t 181 = .agg #[.int .i64 (f.x), .int .i64 (f.y), .int .i64 (f.z)] := hR.val (1, 181) (by simp) (dep_of hr 1 (by kernel_rfl))
                                        have e3 : t 185 = .agg #[.int .i64 (z.x), .int .i64 (z.y), .int .i64 (z.z)] := hR.val (5, 185) (by simp) (dep_of hr 5 (by kernel_rfl))
                                        have HR := Lib.hid hR.fin
                                        go_simp
                                        refine (H3.out _).mono ?_
                                        rintro e w1 ⟨rfl, hb⟩
                                        exact hK _ _ ⟨upd t 186 (.tuple #[.int .i64 U3, .int .i64 0]), by simp [upd, e1, e2, e3], hR.yields ⟨HR.out.1.call hb, HR.out.2.call hb⟩ (fun _ _ h => h) rfl rfl⟩
                                      | 7, _, hr =>
                                        as_aux_lemma =>
                                        refine wpOp_step rfl (fun K' hK => ?_)
                                        have e1 : t 186 = .tuple #[.int .i64 U3, .int .i64 0] := hR.val (6, 186) (by simp) (dep_of hr 6 (by kernel_rfl))
                                        go_simp
                                        exact hK _ _ ⟨upd t 179 (.tuple #[.int .i64 U3, .int .i64 0]), by simp [upd, e1], hR.yields hR.fin (fun _ _ h => h) rfl rfl⟩
                                      | 8, _, hr =>
                                        as_aux_lemma =>
                                        refine wpOp_step rfl (fun K' hK => ?_)
                                        have e1 : t 179 = .tuple #[.int .i64 U3, .int .i64 0] := hR.val (7, 179) (by simp) (dep_of hr 7 (by kernel_rfl))
                                        go_simp
                                        exact hK _ _ ⟨upd t 187 (.int .i64 U3), by simp [upd, e1], hR.yields hR.fin (fun _ _ h => h) rfl rfl⟩
                                      | 9, _, hr =>
                                        as_aux_lemma =>
                                        refine wpOp_step rfl (fun K' hK => ?_)
                                        have e1 : t 179 = .tuple #[.int .i64 U3, .int .i64 0] := hR.val (7, 179) (by simp) (dep_of hr 7 (by kernel_rfl))
                                        go_simp
                                        exact hK _ _ ⟨upd t 188 (.int .i64 0), by simp [upd, e1], hR.yields hR.fin (fun _ _ h => h) rfl rfl⟩
                                      | 10, _, hr =>
                                        as_aux_lemma =>
                                        refine wpOp_step rfl (fun K' hK => ?_)
                                        have e1 : t 187 = .int .i64 U3 := hR.val (8, 187) (by simp) (dep_of hr 8 (by kernel_rfl))
                                        go_simp
                                        exact hK _ _ ⟨upd t 27 (.int .i64 U3), by simp [upd, e1], hR.yields hR.fin (fun _ _ h => h) rfl rfl⟩
                                      | 11, _, hr =>
                                        as_aux_lemma =>
                                        refine wpOp_step rfl (fun K' hK => ?_)
                                        have e1 : t 188 = .int .i64 0 := hR.val (9, 188) (by simp) (dep_of hr 9 (by kernel_rfl))
                                        go_simp
                                        exact hK _ _ ⟨upd t 28 (.int .i64 0), by simp [upd, e1], hR.yields hR.fin (fun _ _ h => h) rfl rfl⟩
                                    rintro listed a2 W2 ⟨t, rfl, hR⟩ hl
                                    have e1 : t 27 = .int .i64 U3 := hR.val (10, 27) (by simp) (hl 10 (by decide))
                                    have e2 : t 28 = .int .i64 0 := hR.val (11, 28) (by simp) (hl 11 (by decide))
                                    have HX1 := Lib.hid hR.fin
                                    clear hR hl
                                    go_wp2_with fail
                                    go_meet
                                    exact ⟨e1, e2, HX1⟩
                                  case rest =>
                                    obtain ⟨rfl, rfl, HF4⟩ := hcut
                                    clear HF3 H3 wr
                                    rename World => wr
                                    have hr := HU.out
                                    have hbx := HBX.out
                                    have htx := HTX.out
                                    obtain ⟨u1, rfl⟩ : ∃ u1 : Nat, U1 = u1 := ⟨U1.toNat, by omega⟩
                                    obtain ⟨u3, rfl⟩ : ∃ u3 : Nat, U3 = u3 := ⟨U3.toNat, by omega⟩
                                    have hu1 : u1 < 4 := by omega
                                    have hu3 : u3 < 4 := by omega
                                    have hle : ¬ (3 - (u1 : Int) < 3 - (u3 : Int)) := by omega
                                    have n1 : ¬ (u3 : Int) < 0 := by omega
                                    have n2 : ¬ 3 < (u3 : Int) := by omega
                                    clear hr hbx HU HBX HTX
                                    go_upto_region 34 with fail
                                    go_cut [221] from 153 to 229 (fun s221 wx => s221 = .bool false ∧ Hid (LF p P f F g rest w wx ∧ Tab wx T))
                                    case first =>
                                      obtain ⟨t0, t1, t2, t3⟩ := HF4.out.2.cells
                                      match u1, hu1 with
                                      | 0, _ =>
                                        obtain rfl : U2 = 0 := by omega
                                        clear htx
                                        go_wp2
                                        go_meet
                                        exact ⟨rfl, HF4⟩
                                      | 1, _ =>
                                        obtain rfl : U2 = 3 := by omega
                                        clear htx
                                        go_wp2
                                        go_meet
                                        exact ⟨rfl, HF4⟩
                                      | 2, _ =>
                                        obtain rfl : U2 = 2 := by omega
                                        clear htx
                                        go_wp2
                                        go_meet
                                        exact ⟨rfl, HF4⟩
                                      | 3, _ =>
                                        obtain rfl : U2 = 1 := by omega
                                        clear htx
                                        go_wp2
                                        go_meet
                                        exact ⟨rfl, HF4⟩
                                    case rest =>
                                      obtain ⟨rfl, HF5⟩ := hcut
                                      clear HF4 wr htx n1 n2
                                      rename World => wr
                                      have hb := (Below.refl wr.heap.size wr).alloc (Nat.le_refl _) (.cells #[.int .i64 3, .int .i64 2, .int .i64 1, .int .i64 0] 63)
                                      have HO : Hid (LF p P f F g rest w (wr.alloc (.cells #[.int .i64 3, .int .i64 2, .int .i64 1, .int .i64 0] 63)) ∧ Tab (wr.alloc (.cells #[.int .i64 3, .int .i64 2, .int .i64 1, .int .i64 0] 63)) T ∧ Ord4 (wr.alloc (.cells #[.int .i64 3, .int .i64 2, .int .i64 1, .int .i64 0] 63)) wr.heap.size) := ⟨HF5.out.1.call hb, HF5.out.2.call hb, _, blk_new wr _⟩
                                      clear hb HF5
                                      have hz1 : (u1 : Int) < 4 := by omega
                                      have hz3 : (u3 : Int) < 4 := by omega
                                      go_upto_region 37 with fail
                                      generalize wr.alloc (.cells #[.int .i64 3, .int .i64 2, .int .i64 1, .int .i64 0] 63) = W0 at HO ⊢
                                      generalize wr.heap.size = O at HO ⊢
                                      clear wr
                                      go_cut [229] from 153 to 229 (fun s229 wx => s229 = .bool false ∧ Hid (LF p P f F g rest w wx ∧ Tab wx T))
                                      case first =>
                                        refine wp_region_inv (by kernel_rfl) (by kernel_rfl) (fun listed aa wy => ∃ t : Nat → Value, aa = { tmps := #[.agg #[.int .i64 (p0.a), .int .i64 (p0.b), .int .i64 (p0.c), .int .i64 (p0.d), .int .i64 (q0.a), .int .i64 (q0.b), .int .i64 (q0.c), .int .i64 (q0.d)], v1, .slice A l2.length cap2, .pointer (some ⟨w.heap.size, 0, none⟩), undef, undef, u6, .pointer (some ⟨P, 0, none⟩), .pointer (some ⟨Q, 0, none⟩), u9, u10, u11, u12, u13, u14, u15, u16, .pointer (some ⟨F, 0, none⟩), .slice (some ⟨g, 3, none⟩) N (cap3 - 1), .int .i64 c, .int .i64 0, .pointer (some ⟨T, 0, none⟩), .int .i64 j, .int .i64 u1, .int .i64 0, .int .i64 U2, .int .i64 0, .int .i64 u3, .int .i64 0, .pointer (some ⟨O, 0, none⟩), u30, u31, u32, u33, u34, u35, u36, u37, u38, u39, u40, u41, u42, u43, u44, .int .i64 0, .bool false, u47, u48, u49, u50, u51, u52, u53, u54, u55, u56, u57, u58, u59, u60, u61, u62, u63, u64, u65, u66, u67, u68, u69, u70, u71, u72, u73, u74, u75, u76, u77, u78, u79, u80, u81, u82, u83, u84, u85, u86, u87, u88, u89, u90, u91, u92, u93, u94, u95, u96, u97, u98, u99, u100, u101, u102, u103, u104, u105, u106, u107, u108, u109, u110, u111, u112, u113, u114, u115, u116, u117, u118, u119, u120, u121, u122, u123, u124, u125, u126, u127, u128, u129, u130, u131, u132, u133, u134, u135, u136, u137, u138, u139, u140, u141, u142, u143, u144, u145, u146, u147, u148, u149, u150, u151, u152, u153, u154, u155, u156, u157, u158, u159, u160, u161, u162, u163, u164, u165, u166, u167, u168, u169, u170, u171, u172, u173, u174, u175, u176, u177, u178, u179, u180, u181, u182, u183, u184, u185, u186, u187, u188, u189, u190, u191, u192, u193, u194, u195, u196, u197, u198, u199, u200, u201, u202, u203, u204, u205, u206, u207, u208, u209, u210, u211, u212, u213, u214, u215, u216, u217, u218, u219, u220, .bool false, .agg #[.int .i64 3, .int .i64 2, .int .i64 1, .int .i64 0], t 223, t 224, t 225, t 226, t 227, t 228, t 229, undef], defers := [] } ∧ IR (fun W => LF p P f F g rest w W ∧ Tab W T ∧ Ord4 W O) (roS37 O u1 u3) [(0, 223), (1, 224), (2, 225), (3, 226), (4, 227), (5, 228), (6, 229)] listed t wy) ⟨(fun d => match d with | 223 => u223 | 224 => u224 | 225 => u225 | 226 => u226 | 227 => u227 | 228 => u228 | 229 => u229 | _ => undef), rfl, IR.start _ ⟨HO.out.1.call (Below.refl _ _).drew, HO.out.2.1.call (Below.refl _ _).drew, HO.out.2.2.call (Below.refl _ _).drew⟩ _⟩ ?_ ?_
                                        rotate_left
                                        · rintro listed hs i hi aa wy ⟨t, rfl, hR⟩ hr
                                          match i, hi, hr with
                                          | 0, _, hr =>
                                            as_aux_lemma =>
                                            refine wpOp_step rfl (fun K' hK => ?_)
                                            go_simp
                                            exact hK _ _ ⟨upd t 223 (.int .i64 u1), rfl, hR.yields hR.fin (fun _ _ h => h) rfl rfl⟩
                                          | 1, _, hr =>
                                            as_aux_lemma =>
                                            refine wpOp_step rfl (fun K' hK => ?_)
                                            have e1 : t 223 = .int .i64 u1 := hR.val (0, 223) (by simp) (dep_of hr 0 (by kernel_rfl))
                                            go_simp
                                            exact hK _ _ ⟨upd t 224 (.pointer (some ⟨O, u1, none⟩)), by simp [upd, e1], hR.yields hR.fin (fun _ _ h => h) rfl rfl⟩
                                          | 2, _, hr =>
                                            as_aux_lemma =>
                                            refine wpOp_step rfl (fun K' hK => ?_)
                                            have e1 : t 224 = .pointer (some ⟨O, u1, none⟩) := hR.val (1, 224) (by simp) (dep_of hr 1 (by kernel_rfl))
                                            have c0 := hR.fin.2.2.at hu1
                                            go_simp
                                            exact hK _ _ ⟨upd t 225 (.int .i64 (3 - (u1 : Int))), by simp [upd, e1], hR.yields hR.fin (fun _ _ h => h) rfl rfl⟩
                                          | 3, _, hr =>
                                            as_aux_lemma =>
                                            refine wpOp_step rfl (fun K' hK => ?_)
                                            go_simp
                                            exact hK _ _ ⟨upd t 226 (.int .i64 u3), rfl, hR.yields hR.fin (fun _ _ h => h) rfl rfl⟩
                                          | 4, _, hr =>
                                            as_aux_lemma =>
                                            refine wpOp_step rfl (fun K' hK => ?_)
                                            have e1 : t 226 = .int .i64 u3 := hR.val (3, 226) (by simp) (dep_of hr 3 (by kernel_rfl))
                                            go_simp
                                            exact hK _ _ ⟨upd t 227 (.pointer (some ⟨O, u3, none⟩)), by simp [upd, e1], hR.yields hR.fin (fun _ _ h => h) rfl rfl⟩
                                          | 5, _, hr =>
                                            as_aux_lemma =>
                                            refine wpOp_step rfl (fun K' hK => ?_)
                                            have e1 : t 227 = .pointer (some ⟨O, u3, none⟩) := hR.val (4, 227) (by simp) (dep_of hr 4 (by kernel_rfl))
                                            have c0 := hR.fin.2.2.at hu3
                                            go_simp
                                            exact hK _ _ ⟨upd t 228 (.int .i64 (3 - (u3 : Int))), by simp [upd, e1], hR.yields hR.fin (fun _ _ h => h) rfl rfl⟩
                                          | 6, _, hr =>
                                            as_aux_lemma =>
                                            refine wpOp_step rfl (fun K' hK => ?_)
                                            have e1 : t 225 = .int .i64 (3 - (u1 : Int)) := hR.val (2, 225) (by simp) (dep_of hr 2 (by kernel_rfl))
                                            have e2 : t 228 = .int .i64 (3 - (u3 : Int)) := hR.val (5, 228) (by simp) (dep_of hr 5 (by kernel_rfl))
                                            go_simp
                                            exact hK _ _ ⟨upd t 229 (.bool false), by simp [upd, e1, e2], hR.yields hR.fin (fun _ _ h => h) rfl rfl⟩
                                        rintro listed a2 W2 ⟨t, rfl, hR⟩ hl
                                        have e1 : t 229 = .bool false := hR.val (6, 229) (by simp) (hl 6 (by decide))
                                        have HX1 := Lib.hid (And.intro hR.fin.1 hR.fin.2.1)
                                        clear hR hl
                                        go_wp2_with fail
                                        go_meet
                                        exact ⟨by first | exact e1 | rfl, HX1⟩
                                      case rest =>
                                        obtain ⟨rfl, HF3⟩ := hcut
                                        clear HO W0
                                        go_wp2
                                        go_roundw
                                        case rel => exact ⟨j + 1, by omega, by go_num, HF3⟩
                                        case measure => simp [intOf]; omega
                            · have hlz : ¬ (j : Int) < (N : Int) := by omega
                              clear HBEST HAN HTURN
                              go_wp2_with fail
                              ((with_reducible refine (HA.out _).mono ?_); rintro e w4 ⟨rfl, hb⟩)
                              have HF5 := Lib.hid (HF3.out.1.call hb)
                              go_wp2
                              go_ret
                              exact ⟨rfl, HF5.out.below⟩

end Go.Proofs.YtaoedfegakpjeabGreat
