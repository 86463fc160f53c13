/- Contracts of the functions that the statement reaches, and plain lemmas: part 16 of 25. -/
import Derived.Test.YtaoedfegakpjeabGreatJ15
import Derived.Test.YtaoedfegakpjeabGreatJ13
import Derived.Test.YtaoedfegakpjeabGreatJ14
import Derived.Laws.OwnMore

namespace Go.Proofs.YtaoedfegakpjeabGreat
open Go.RowKit

/-- The product of a plane's normal with two directions. -/
def triI (p : Q4) (u v : T3) : Int := p.a * (u.y * v.z - u.z * v.y) + p.b * (u.z * v.x - u.x * v.z) + p.c * (u.x * v.y - u.y * v.x)
theorem rangI_tri {p : Q4} (hp : Pl p) {u v : T3} (hu : WayOK' p u) (hv : WayOK' p v) : (rangI p u v = 1 ↔ 0 < triI p u v) ∧ (rangI p u v = 3 ↔ triI p u v < 0) := by
  obtain ⟨nu, u1, u2, u3, pu⟩ := hu
  obtain ⟨nv, v1, v2, v3, pv⟩ := hv
  have x := crs_id u2 v3 u3 v2 (by omega)
  have y := crs_id u3 v1 u1 v3 (by omega)
  have z := crs_id u1 v2 u2 v1 (by omega)
  have c2 : dot p.a p.b p.c (crs u.y v.z u.z v.y) (crs u.z v.x u.x v.z) (crs u.x v.y u.y v.x) = triI p u v := by
    rw [x.1, y.1, z.1, dot_id hp.a hp.b hp.c x.2 y.2 z.2 (by omega)]; rfl
  rw [rangI_eq, c2]
  generalize triI p u v = C
  constructor <;> ((repeat' split) <;> omega)
theorem triI_flip (p : Q4) (u v : T3) : triI p v u = -triI p u v := by unfold triI; grind
theorem rang_flip {p : Q4} (hp : Pl p) {u v : T3} (hu : WayOK' p u) (hv : WayOK' p v) : rangI p u v = 3 ↔ rangI p v u = 1 := by
  rw [(rangI_tri hp hu hv).2, (rangI_tri hp hv hu).1, triI_flip p u v]; omega
theorem angS_rang {p : Q4} (hp : Pl p) {u v : T3} (hu : WayOK' p u) (hv : WayOK' p v) : angS ⟨p.a, p.b, p.c⟩ u v = rangI p u v := by
  have h := ang_same hp hu hv
  rw [angT_eq] at h
  rw [angS_eq]; exact h
theorem ordI_rang {p : Q4} (hp : Pl p) {f v : T3} (hf : WayOK' p f) (hv : WayOK' p v) : ordI ⟨p.a, p.b, p.c⟩ f v = 3 - rangI p f v := by
  have h := rangI_range p f v
  rw [ordI_eq, rankI_eq, angS_rang hp hf hv]; omega
theorem soon_same {p : Q4} (hp : Pl p) {f x y : T3} (hf : WayOK' p f) (hx : WayOK' p x) (hy : WayOK' p y) : soonB ⟨p.a, p.b, p.c⟩ f x y = rsoonB p f x y := by
  rw [soonB_eq, rsoonB_eq, ordI_rang hp hf hx, ordI_rang hp hf hy, angS_rang hp hy hx]
  have h := rang_flip hp hx hy
  by_cases e : rangI p f x = rangI p f y
  · rw [if_pos e, e]
    by_cases k : rangI p x y = 3
    · simp [k, h.1 k]
    · have k2 : ¬ rangI p y x = 1 := fun q => k (h.2 q)
      simp [k, k2]
  · rw [if_neg e]
    rw [Bool.eq_iff_iff]
    simp only [Bool.or_eq_true, Bool.and_eq_true, decide_eq_true_eq]
    omega
theorem cw_same {p : Q4} (hp : Pl p) {f : T3} {l : List T3} (hf : WayOK' p f) (hl : ∀ v, v ∈ l → WayOK' p v) : ∀ k, k ≤ l.length → cwN ⟨p.a, p.b, p.c⟩ f l k = rcwN p f l k
  | 0, _ => rfl
  | k + 1, hk => by
    have ih := cw_same hp hf hl k (by omega)
    have hle := rcwN_le p f l k
    have hg : ∀ i, i < l.length → WayOK' p l[i]! := fun i hi => by
      have e : l[i]! = l[i] := by simp [hi]
      rw [e]; exact hl _ (List.getElem_mem hi)
    rw [cwN, rcwN, ih, soon_same hp hf (hg k (by omega)) (hg _ (by omega))]

/-- What the statement asks for: the error. -/
noncomputable def rclkE (p : Q4) (f : T3) (l : List T3) : Int := vl (if p.plane = false then 30 else if (wayB p f && (decide (0 < l.length) && l.all (wayB p))) = false then 1 else 0)
theorem rclkE_eq (p : Q4) (f : T3) (l : List T3) : rclkE p f l = (if p.plane = false then 30 else if (wayB p f && (decide (0 < l.length) && l.all (wayB p))) = false then 1 else 0) := vl_eq _
theorem areB_all (p : Q4) {l : List T3} (h : ∀ v, v ∈ l → v.I64') : areB p l = l.all (wayB p) := by
  rw [areB_eq, Bool.eq_iff_iff]
  simp only [Bool.not_eq_true', List.any_eq_false, List.all_eq_true]
  constructor
  · intro k v hv
    rw [way_bad p (h v hv)]; simpa using k v hv
  · intro k v hv
    have := k v hv
    rw [way_bad p (h v hv)] at this; simpa using this
theorem clkE_same (p : Q4) {f : T3} {l : List T3} (hf : f.I64') (h : ∀ v, v ∈ l → v.I64') (hl : l.length ≤ 1000) : clkE p f l = rclkE p f l := by
  have e2 : areB p [f] = wayB p f := by
    rw [areB_all p (l := [f]) (fun v hv => by simp at hv; rw [hv]; exact hf)]; simp
  rw [clkE_eq, rclkE_eq, areB_all p h, e2]
  cases p.plane
  · simp
  · cases wayB p f <;> cases l.all (wayB p) <;> (by_cases h0 : l.length = 0) <;> first | (simp [h0, show ¬ 1000 < l.length by omega]; done) | (simp [h0, show ¬ 1000 < l.length by omega, show 0 < l.length by omega]; done)
theorem clkV_same (p : Q4) {f : T3} {l : List T3} (hf : f.I64') (h : ∀ v, v ∈ l → v.I64') (hl : l.length ≤ 1000) : (rclkE p f l ≠ 0 → clkV p f l = 0) ∧ (rclkE p f l = 0 → 0 < l.length ∧ clkV p f l = (rcwN p f l l.length : Nat)) := by
  have e1 := areB_all p h
  have e2 : areB p [f] = wayB p f := by
    rw [areB_all p (l := [f]) (fun v hv => by simp at hv; rw [hv]; exact hf)]; simp
  rw [clkV_eq, rclkE_eq, e1, e2]
  cases hp : p.plane
  · simp
  · cases hw : wayB p f
    · simp
    · cases ha : l.all (wayB p)
      · simp
      · by_cases h0 : l.length = 0
        · simp [h0]
        · have hpp := (plane_iff.1 hp).1
          have hk := cw_same hpp (wayB_ok hpp hf hw) (fun v hv => wayB_ok hpp (h v hv) (List.all_eq_true.1 ha v hv)) l.length (Nat.le_refl _)
          simp [h0, show ¬ 1000 < l.length by omega, show 0 < l.length by omega, hk]

end Go.Proofs.YtaoedfegakpjeabGreat

namespace Go.Proofs.YtaoedfegakpjeabGreat
open Go.RowKit

structure LD (p q r : Q4) (w W : World) : Prop where
  below : Below w.heap.size w W
  size : w.heap.size + 2 < W.heap.size
  bp : Blk W w.heap.size (PV p)
  bq : Blk W (w.heap.size + 1) (PV q)
  br : Blk W (w.heap.size + 1 + 1) (PV r)
/-- .. and the vector. -/
structure LE (p q r : Q4) (d : T3) (b : Nat) (w W : World) : Prop where
  ld : LD p q r w W
  lo : w.heap.size + 2 < b
  bd : Blk W b (VV d)
section
variable {p q r : Q4} {d : T3} {b : Nat} {w W W1 : World}
theorem LD.call (h : LD p q r w W) (hb : Below W.heap.size W W1) : LD p q r w W1 := by
  have hs := h.size
  exact ⟨h.below.trans (hb.mono (by omega)), Nat.lt_of_lt_of_le hs hb.size, h.bp.below hb (by omega), h.bq.below hb (by omega), h.br.below hb (by omega)⟩
theorem LD.drew (h : LD p q r w W) : LD p q r w W.drew := h.call (Below.refl _ _).drew
theorem LE.call (h : LE p q r d b w W) (hb : Below W.heap.size W W1) : LE p q r d b w W1 := ⟨h.ld.call hb, h.lo, h.bd.below hb h.bd.lt⟩
theorem LE.drew (h : LE p q r d b w W) : LE p q r d b w W.drew := h.call (Below.refl _ _).drew
theorem blk_four {W : World} {b : Nat} {p : Q4} (h : Blk W b (PV p)) : W.cell? ⟨b, 0, none⟩ = some (.int .i64 p.a) ∧ W.cell? ⟨b, 1, none⟩ = some (.int .i64 p.b) ∧ W.cell? ⟨b, 2, none⟩ = some (.int .i64 p.c) ∧ W.cell? ⟨b, 3, none⟩ = some (.int .i64 p.d) :=
  ⟨(blk_cells h).1 _ _ rfl, (blk_cells h).1 _ _ rfl, (blk_cells h).1 _ _ rfl, (blk_cells h).1 _ _ rfl⟩
theorem blk_three {W : World} {b : Nat} {v : T3} (h : Blk W b (VV v)) : W.cell? ⟨b, 0, none⟩ = some (.int .i64 v.x) ∧ W.cell? ⟨b, 1, none⟩ = some (.int .i64 v.y) ∧ W.cell? ⟨b, 2, none⟩ = some (.int .i64 v.z) :=
  ⟨(blk_cells h).1 _ _ rfl, (blk_cells h).1 _ _ rfl, (blk_cells h).1 _ _ rfl⟩
theorem LD.pc (h : LD p q r w W) : W.cell? ⟨w.heap.size, 0, none⟩ = some (.int .i64 p.a) ∧ W.cell? ⟨w.heap.size, 1, none⟩ = some (.int .i64 p.b) ∧ W.cell? ⟨w.heap.size, 2, none⟩ = some (.int .i64 p.c) ∧ W.cell? ⟨w.heap.size, 3, none⟩ = some (.int .i64 p.d) := blk_four h.bp
theorem LD.qc (h : LD p q r w W) : W.cell? ⟨w.heap.size + 1, 0, none⟩ = some (.int .i64 q.a) ∧ W.cell? ⟨w.heap.size + 1, 1, none⟩ = some (.int .i64 q.b) ∧ W.cell? ⟨w.heap.size + 1, 2, none⟩ = some (.int .i64 q.c) ∧ W.cell? ⟨w.heap.size + 1, 3, none⟩ = some (.int .i64 q.d) := blk_four h.bq
theorem LD.rc (h : LD p q r w W) : W.cell? ⟨w.heap.size + 1 + 1, 0, none⟩ = some (.int .i64 r.a) ∧ W.cell? ⟨w.heap.size + 1 + 1, 1, none⟩ = some (.int .i64 r.b) ∧ W.cell? ⟨w.heap.size + 1 + 1, 2, none⟩ = some (.int .i64 r.c) ∧ W.cell? ⟨w.heap.size + 1 + 1, 3, none⟩ = some (.int .i64 r.d) := blk_four h.br
theorem LE.dc (h : LE p q r d b w W) : W.cell? ⟨b, 0, none⟩ = some (.int .i64 d.x) ∧ W.cell? ⟨b, 1, none⟩ = some (.int .i64 d.y) ∧ W.cell? ⟨b, 2, none⟩ = some (.int .i64 d.z) := blk_three h.bd
theorem LD.setP (h : LD p q r w W) (x : Q4) : LD x q r w ((((W.setCell ⟨w.heap.size, 0, none⟩ (.int .i64 x.a)).setCell ⟨w.heap.size, 1, none⟩ (.int .i64 x.b)).setCell ⟨w.heap.size, 2, none⟩ (.int .i64 x.c)).setCell ⟨w.heap.size, 3, none⟩ (.int .i64 x.d)) :=
  ⟨(((h.below.setCell (by simp) _).setCell (by simp) _).setCell (by simp) _).setCell (by simp) _, by simpa [World.setCell] using h.size,
    blk_set (blk_set (blk_set (blk_set h.bp))), blk_other (blk_other (blk_other (blk_other h.bq (by omega)) (by omega)) (by omega)) (by omega), blk_other (blk_other (blk_other (blk_other h.br (by omega)) (by omega)) (by omega)) (by omega)⟩
theorem LD.setQ (h : LD p q r w W) (x : Q4) : LD p x r w ((((W.setCell ⟨w.heap.size + 1, 0, none⟩ (.int .i64 x.a)).setCell ⟨w.heap.size + 1, 1, none⟩ (.int .i64 x.b)).setCell ⟨w.heap.size + 1, 2, none⟩ (.int .i64 x.c)).setCell ⟨w.heap.size + 1, 3, none⟩ (.int .i64 x.d)) :=
  ⟨(((h.below.setCell (by simp) _).setCell (by simp) _).setCell (by simp) _).setCell (by simp) _, by simpa [World.setCell] using h.size,
    blk_other (blk_other (blk_other (blk_other h.bp (by omega)) (by omega)) (by omega)) (by omega), blk_set (blk_set (blk_set (blk_set h.bq))), blk_other (blk_other (blk_other (blk_other h.br (by omega)) (by omega)) (by omega)) (by omega)⟩
theorem LD.setR (h : LD p q r w W) (x : Q4) : LD p q x w ((((W.setCell ⟨w.heap.size + 1 + 1, 0, none⟩ (.int .i64 x.a)).setCell ⟨w.heap.size + 1 + 1, 1, none⟩ (.int .i64 x.b)).setCell ⟨w.heap.size + 1 + 1, 2, none⟩ (.int .i64 x.c)).setCell ⟨w.heap.size + 1 + 1, 3, none⟩ (.int .i64 x.d)) :=
  ⟨(((h.below.setCell (by simp; omega) _).setCell (by simp; omega) _).setCell (by simp; omega) _).setCell (by simp; omega) _, by simpa [World.setCell] using h.size,
    blk_other (blk_other (blk_other (blk_other h.bp (by omega)) (by omega)) (by omega)) (by omega), blk_other (blk_other (blk_other (blk_other h.bq (by omega)) (by omega)) (by omega)) (by omega), blk_set (blk_set (blk_set (blk_set h.br)))⟩
theorem LD.vec (h : LD p q r w W) (d : T3) : LE p q r d W.heap.size w (W.alloc (VV d)) :=
  ⟨h.call ((Below.refl _ _).alloc (Nat.le_refl _) _), h.size, blk_new W (VV d)⟩
theorem LD.start (p q r : Q4) (w : World) : LD p q r w (((w.alloc (PV p)).alloc (PV q)).alloc (PV r)) :=
  ⟨(((Below.refl _ _).alloc (Nat.le_refl _) _).alloc (by simp) _).alloc (by simp; omega) _, by simp, (blk_new w (PV p)).alloc.alloc, by simpa using (blk_new (w.alloc (PV p)) (PV q)).alloc, by simpa using blk_new ((w.alloc (PV p)).alloc (PV q)) (PV r)⟩
end

end Go.Proofs.YtaoedfegakpjeabGreat

namespace Go.Proofs.YtaoedfegakpjeabGreat
open Go.RowKit

structure LC (p : Q4) (f : T3) (l : List T3) (v : Value) (w W : World) : Prop where
  below : Below w.heap.size w W
  size : w.heap.size + 1 < W.heap.size
  bp : Blk W w.heap.size (PV p)
  bf : Blk W (w.heap.size + 1) (VV f)
  row : W.ownsRow (w.heap.size + 2) 24 3 v l.length (flat3 l)
section
variable {p : Q4} {f : T3} {l : List T3} {v : Value} {w W W1 : World}
theorem grown_set (W : World) (b o : Nat) (x : Value) : W.grownBy (W.setCell ⟨b, o, none⟩ x) (some b) :=
  ⟨rfl, rfl, rfl, by simp [World.setCell], fun k _ hne => Below.heap_setCell _ _ _ _ (fun h => hne (by rw [h]))⟩
theorem own_blk_ne {B : Nat} {e : TypeId} {s n : Nat} {xs : List Value} (h : W.ownsRow B e s v n xs) {b : Nat} (hb : b < B) : v.ownBlock = none ∨ v.ownBlock ≠ some b := by
  cases hv : v.ownBlock with
  | none => exact .inl rfl
  | some k => right; intro h2; have := (h.lt k hv).1; simp at h2; omega
theorem own_below {B : Nat} {e : TypeId} {s n : Nat} {xs : List Value} (h : W.ownsRow B e s v n xs) (hb : Below W.heap.size W W1) : W1.ownsRow B e s v n xs :=
  h.kept (grown_of_below hb) (by cases hv : v.ownBlock <;> simp)
theorem own_put {B : Nat} {e : TypeId} {s n : Nat} {xs : List Value} (h : W.ownsRow B e s v n xs) {b : Nat} (hb : b < B) (o : Nat) (x : Value) : (W.setCell ⟨b, o, none⟩ x).ownsRow B e s v n xs :=
  h.kept (grown_set W b o x) (own_blk_ne h hb)
theorem LC.call (h : LC p f l v w W) (hb : Below W.heap.size W W1) : LC p f l v w W1 := by
  have hs := h.size
  exact ⟨h.below.trans (hb.mono (by omega)), Nat.lt_of_lt_of_le hs hb.size, h.bp.below hb (by omega), h.bf.below hb (by omega), own_below h.row hb⟩
theorem LC.drew (h : LC p f l v w W) : LC p f l v w W.drew := h.call (Below.refl _ _).drew
theorem LC.pc (h : LC p f l v w W) : W.cell? ⟨w.heap.size, 0, none⟩ = some (.int .i64 p.a) ∧ W.cell? ⟨w.heap.size, 1, none⟩ = some (.int .i64 p.b) ∧ W.cell? ⟨w.heap.size, 2, none⟩ = some (.int .i64 p.c) ∧ W.cell? ⟨w.heap.size, 3, none⟩ = some (.int .i64 p.d) := blk_four h.bp
theorem LC.fc (h : LC p f l v w W) : W.cell? ⟨w.heap.size + 1, 0, none⟩ = some (.int .i64 f.x) ∧ W.cell? ⟨w.heap.size + 1, 1, none⟩ = some (.int .i64 f.y) ∧ W.cell? ⟨w.heap.size + 1, 2, none⟩ = some (.int .i64 f.z) := blk_three h.bf
theorem LC.setP (h : LC p f l v w W) (x : Q4) : LC x f l v w ((((W.setCell ⟨w.heap.size, 0, none⟩ (.int .i64 x.a)).setCell ⟨w.heap.size, 1, none⟩ (.int .i64 x.b)).setCell ⟨w.heap.size, 2, none⟩ (.int .i64 x.c)).setCell ⟨w.heap.size, 3, none⟩ (.int .i64 x.d)) :=
  ⟨(((h.below.setCell (by simp) _).setCell (by simp) _).setCell (by simp) _).setCell (by simp) _, by simpa [World.setCell] using h.size,
    blk_set (blk_set (blk_set (blk_set h.bp))), blk_other (blk_other (blk_other (blk_other h.bf (by omega)) (by omega)) (by omega)) (by omega),
    own_put (own_put (own_put (own_put h.row (by omega) _ _) (by omega) _ _) (by omega) _ _) (by omega) _ _⟩
theorem LC.setF (h : LC p f l v w W) (x : T3) : LC p x l v w (((W.setCell ⟨w.heap.size + 1, 0, none⟩ (.int .i64 x.x)).setCell ⟨w.heap.size + 1, 1, none⟩ (.int .i64 x.y)).setCell ⟨w.heap.size + 1, 2, none⟩ (.int .i64 x.z)) :=
  ⟨((h.below.setCell (by simp) _).setCell (by simp) _).setCell (by simp) _, by simpa [World.setCell] using h.size,
    blk_other (blk_other (blk_other h.bp (by omega)) (by omega)) (by omega), blk_set (blk_set (blk_set h.bf)),
    own_put (own_put (own_put h.row (by omega) _ _) (by omega) _ _) (by omega) _ _⟩
theorem flat3_set (l : List T3) : ∀ (i : Nat) (x : T3), i < l.length → (((flat3 l).set (i * 3) (.int .i64 x.x)).set (i * 3 + 1) (.int .i64 x.y)).set (i * 3 + 2) (.int .i64 x.z) = flat3 (l.set i x) := by
  induction l with
  | nil => intro i x h; simp at h
  | cons q qs ih =>
    intro i x h
    have e : flat3 (q :: qs) = [.int .i64 q.x, .int .i64 q.y, .int .i64 q.z] ++ flat3 qs := by simp [flat3]
    cases i with
    | zero => simp [flat3]
    | succ i =>
      have h2 := ih i x (by simpa using h)
      rw [List.set_cons_succ, show flat3 (q :: qs.set i x) = [.int .i64 q.x, .int .i64 q.y, .int .i64 q.z] ++ flat3 (qs.set i x) by simp [flat3], ← h2, e]
      rw [show (i + 1) * 3 = i * 3 + 3 by omega]
      simp only [List.cons_append, List.nil_append]
      rw [show i * 3 + 3 + 2 = i * 3 + 2 + 3 by omega, show i * 3 + 3 + 1 = i * 3 + 1 + 3 by omega]
      simp only [List.set_cons_succ]
theorem LC.setL {g cap : Nat} (h : LC p f l (.slice (some ⟨g, 0, none⟩) l.length cap) w W) (i : Nat) (hi : i < l.length) (x : T3) : LC p f (l.set i x) (.slice (some ⟨g, 0, none⟩) l.length cap) w (((W.setCell ⟨g, i * 3, none⟩ (.int .i64 x.x)).setCell ⟨g, i * 3 + 1, none⟩ (.int .i64 x.y)).setCell ⟨g, i * 3 + 2, none⟩ (.int .i64 x.z)) := by
  have hg := (h.row.lt g rfl).1
  obtain ⟨r1, _⟩ := h.row.stored (i * 3) (.int .i64 x.x)
  obtain ⟨r2, _⟩ := r1.stored (i * 3 + 1) (.int .i64 x.y)
  obtain ⟨r3, _⟩ := r2.stored (i * 3 + 2) (.int .i64 x.z)
  rw [flat3_set l i x hi] at r3
  refine ⟨((h.below.setCell (by simp; omega) _).setCell (by simp; omega) _).setCell (by simp; omega) _, by simpa [World.setCell] using h.size,
    blk_other (blk_other (blk_other h.bp (by omega)) (by omega)) (by omega), blk_other (blk_other (blk_other h.bf (by omega)) (by omega)) (by omega), ?_⟩
  rw [List.length_set]; exact r3
theorem LC.start (p : Q4) (f : T3) {l : List T3} {v : Value} {w W1 : World} (hg : ((w.alloc (PV p)).alloc (VV f)).grownBy W1 none) (hr : W1.ownsRow (w.heap.size + 2) 24 3 v l.length (flat3 l)) : LC p f l v w W1 := by
  have hb : Below (w.heap.size + 2) ((w.alloc (PV p)).alloc (VV f)) W1 := ⟨hg.os, hg.tape, hg.output, hg.size, fun k hk => hg.block k (by simpa using hk) (by simp)⟩
  refine ⟨(((Below.refl _ _).alloc (Nat.le_refl _) _).alloc (by simp) _).trans (hb.mono (by omega)), ?_, ?_, ?_, hr⟩
  · have := hb.size; simp at this; omega
  · exact (blk_new w (PV p)).alloc.below hb (by omega)
  · have h : Blk ((w.alloc (PV p)).alloc (VV f)) (w.heap.size + 1) (VV f) := by simpa using blk_new (w.alloc (PV p)) (VV f)
    exact h.below hb (by omega)
/-- The row as a slice. -/
theorem LC.slice (h : LC p f l v w W) : ∃ a cap, v = .slice a l.length cap ∧ (0 < l.length → ∃ g, a = some ⟨g, 0, none⟩) := by
  rcases h.row.2 with ⟨hv, h0⟩ | ⟨g, cap, cur, hv, _⟩
  · exact ⟨none, 0, by rw [h0]; exact hv, fun h => by omega⟩
  · exact ⟨_, cap, hv, fun _ => ⟨g, rfl⟩⟩
theorem LC.sl {g cap : Nat} (h : LC p f l (.slice (some ⟨g, 0, none⟩) l.length cap) w W) : g < W.heap.size ∧ Sl3 W g 0 l ∧ ∀ o, W.frozen? ⟨g, o, none⟩ = false := by
  refine ⟨(h.row.lt g rfl).2, fun i q hi => ?_, fun o => h.row.frozenAt o⟩
  obtain ⟨hl, _⟩ := List.getElem?_eq_some_iff.1 hi
  have c : ∀ j, j < 3 → W.cell? ⟨g, i * 3 + j, none⟩ = [Value.int .i64 q.x, .int .i64 q.y, .int .i64 q.z][j]? := fun j hj => by
    rw [h.row.cellAt (i * 3 + j) (by omega), flat3_get l i q hi j hj]
  exact ⟨by simpa using c 0 (by omega), by simpa using c 1 (by omega), by simpa using c 2 (by omega)⟩
end

theorem lineClockwise_row {p : Q4} {f : T3} {l : List T3} {a : Option Addr} {cap : Nat} {w W : World} (h : LC p f l (.slice a l.length cap) w W) (ip : p.I64) (hl : l.length ≤ 1000) :
    Calls Tryz.prog 18 #[.agg #[.int .i64 (p.a), .int .i64 (p.b), .int .i64 (p.c), .int .i64 (p.d)], .agg #[.int .i64 (f.x), .int .i64 (f.y), .int .i64 (f.z)], .slice a l.length cap] W fun e w' => e = .returned (.tuple #[.int .i64 (clkV p f l), .int .i64 (clkE p f l)]) ∧ Below W.heap.size W w' := by
  by_cases h0 : l.length = 0
  · cases hp : p.plane with
    | false => exact clk_bad1 p f l _ W ip hp
    | true => exact clk_bad2 p f l a cap W ip hp (.inl h0) (by omega)
  · obtain ⟨a', cap', hv, hs⟩ := h.slice
    obtain ⟨g, rfl⟩ := hs (by omega)
    obtain ⟨rfl, -, -⟩ : a = some ⟨g, 0, none⟩ ∧ l.length = l.length ∧ cap = cap' := by simpa using hv
    exact lineClockwise_sl p f l g 0 cap W ip (by omega) h.sl.1 h.sl.2.1

end Go.Proofs.YtaoedfegakpjeabGreat

namespace Go.Proofs.YtaoedfegakpjeabGreat
open Go.RowKit

set_option maxHeartbeats 400000 in
theorem psign_any (a : Int) (w : World) :
    Calls Tryz.prog 12 #[.int .i64 a] w fun e w' => e = .returned (.int .i64 (sgn a)) ∧ w = w' := by
  go_enter Tryz.func12, Tryz.ntmps12
  go_wp2
  all_goals (go_ret; exact ⟨ret_int (by unfold sgn cmp3; (repeat' split) <;> omega), rfl⟩)

/-- What is known behind the vector product. -/
structure DrAt (x y z : Int) (b : Nat) (w W : World) : Prop where
  below : Below w.heap.size w W
  lo : w.heap.size + 2 < b
  lt : b < W.heap.size
  room : Room W (w.heap.size + 2) 3
  c0 : W.cell? ⟨b, 0, none⟩ = some (.int .i64 x)
  c1 : W.cell? ⟨b, 1, none⟩ = some (.int .i64 y)
  c2 : W.cell? ⟨b, 2, none⟩ = some (.int .i64 z)

set_option maxRecDepth 100000 in
set_option maxHeartbeats 2000000 in
theorem rdirection_gen (p q : Q4) (x y z : Int) (w : World) (hX : ∀ W, Calls Tryz.prog 37 #[.agg #[.int .i64 (p.a), .int .i64 (p.b), .int .i64 (p.c)], .agg #[.int .i64 (q.a), .int .i64 (q.b), .int .i64 (q.c)]] W fun e w' => e = .returned (.agg #[.int .i64 x, .int .i64 y, .int .i64 z]) ∧ Below W.heap.size W w') (J2 : I64 x) (J3 : I64 y) (J4 : I64 z) (hg1 : ¬ gcd2 (gcd2 x y) z = 0) :
    Calls Tryz.prog 11 #[.agg #[.int .i64 (p.a), .int .i64 (p.b), .int .i64 (p.c), .int .i64 (p.d)], .agg #[.int .i64 (q.a), .int .i64 (q.b), .int .i64 (q.c), .int .i64 (q.d)]] w fun e w' => e = .returned (.agg #[.int .i64 (wrap64 (x.tdiv (gcd2 (gcd2 x y) z))), .int .i64 (wrap64 (y.tdiv (gcd2 (gcd2 x y) z))), .int .i64 (wrap64 (z.tdiv (gcd2 (gcd2 x y) z)))]) ∧ Below w.heap.size w w' := by
  have J1 := gcd2_i64 J2 J3
  have HX := Lib.hid hX
  clear hX
  go_enter Tryz.func11, Tryz.ntmps11
  go_wp2
  have hE : ∀ W, Fr 3 [(0, .cells #[.int .i64 (p.a), .int .i64 (p.b), .int .i64 (p.c), .int .i64 (p.d)] 23), (1, .cells #[.int .i64 (q.a), .int .i64 (q.b), .int .i64 (q.c), .int .i64 (q.d)] 23)] [(2, 3)] w W → (W.cell? ⟨w.heap.size, 0, none⟩ = some (.int .i64 (p.a)) ∧ W.cell? ⟨w.heap.size, 1, none⟩ = some (.int .i64 (p.b)) ∧ W.cell? ⟨w.heap.size, 2, none⟩ = some (.int .i64 (p.c)) ∧ W.cell? ⟨w.heap.size, 3, none⟩ = some (.int .i64 (p.d)) ∧ W.cell? ⟨w.heap.size + 1, 0, none⟩ = some (.int .i64 (q.a)) ∧ W.cell? ⟨w.heap.size + 1, 1, none⟩ = some (.int .i64 (q.b)) ∧ W.cell? ⟨w.heap.size + 1, 2, none⟩ = some (.int .i64 (q.c)) ∧ W.cell? ⟨w.heap.size + 1, 3, none⟩ = some (.int .i64 (q.d)) ∧ (∀ o, o < 3 → W.cell? ⟨w.heap.size + 2, o, none⟩ = some (cellOf W ⟨w.heap.size + 2, o, none⟩)) ∧ (∀ o, o < 3 → W.frozen? ⟨w.heap.size + 2, o, none⟩ = false)) := fun W h => by (repeat' apply And.intro) <;> first | exact h.at0 rfl | exact h.at rfl | exact (h.rms0 rfl).cell | exact (h.rms rfl).cell | exact (h.rms0 rfl).frozen | exact (h.rms rfl).frozen
  have HE := Lib.hid hE
  clear hE
  have hF0 : Fr 3 [(0, .cells #[.int .i64 (p.a), .int .i64 (p.b), .int .i64 (p.c), .int .i64 (p.d)] 23), (1, .cells #[.int .i64 (q.a), .int .i64 (q.b), .int .i64 (q.c), .int .i64 (q.d)] 23)] [(2, 3)] w _ := ((((Fr.nil w).fixed (by simp) (.cells #[.int .i64 (p.a), .int .i64 (p.b), .int .i64 (p.c), .int .i64 (p.d)] 23)).fixed (by simp) (.cells #[.int .i64 (q.a), .int .i64 (q.b), .int .i64 (q.c), .int .i64 (q.d)] 23)).roomy (by simp) #[.int .i64 0, .int .i64 0, .int .i64 0] 24)
  go_cut [5] (fun s5 wx => ∃ b, s5 = .pointer (some ⟨b, 0, none⟩) ∧ DrAt x y z b w wx)
  case first =>
    have hb0 := hF0.own.below
    have hsz := hF0.own.size
    have hrm0 := hF0.rms (i := 2) (n := 3) rfl
    generalize hW0 : World.alloc _ _ = W0 at hF0 hb0 hsz hrm0 ⊢
    clear hW0
    refine wp_region_inv (by kernel_rfl) (by kernel_rfl) (fun listed a wy => ∃ u : Nat → Value, a = { tmps := #[.agg #[.int .i64 (p.a), .int .i64 (p.b), .int .i64 (p.c), .int .i64 (p.d)], .agg #[.int .i64 (q.a), .int .i64 (q.b), .int .i64 (q.c), .int .i64 (q.d)], .pointer (some ⟨w.heap.size, 0, none⟩), .pointer (some ⟨w.heap.size + 1, 0, none⟩), .pointer (some ⟨w.heap.size + 1 + 1, 0, none⟩), u 5, undef, u 7, u 8, u 9, u 10, u 11, undef, undef, undef, undef, undef, undef, undef, undef, undef, undef, undef, undef, undef, undef, undef, undef, undef, undef, undef, undef, undef], defers := [] } ∧ Rg W0.drew (fun d => match d with | 7 => .agg #[.int .i64 (p.a), .int .i64 (p.b), .int .i64 (p.c), .int .i64 (p.d)] | 8 => .agg #[.int .i64 (p.a), .int .i64 (p.b), .int .i64 (p.c)] | 9 => .agg #[.int .i64 (q.a), .int .i64 (q.b), .int .i64 (q.c), .int .i64 (q.d)] | 10 => .agg #[.int .i64 (q.a), .int .i64 (q.b), .int .i64 (q.c)] | _ => .agg #[.int .i64 x, .int .i64 y, .int .i64 z]) (fun _ => [.int .i64 x, .int .i64 y, .int .i64 z]) [(0, 7), (1, 8), (2, 9), (3, 10), (4, 11)] [(5, 5, 3)] [(6, 5)] listed u wy) ⟨fun _ => undef, rfl, Rg.start _ _⟩ ?_ ?_
    rotate_left
    · rintro listed hs i hi a wy ⟨u, rfl, hR⟩ hr
      match i, hi, hr with
      | 0, _, hr =>
        as_aux_lemma =>
        refine wpOp_step rfl (fun K' hK => ?_)
        have hqr := HE.out _ (hF0.drew.call hR.below)
        go_simp
        exact hK _ _ ⟨upd u 7 _, rfl, hR.yields (Below.refl _ _) rfl rfl rfl rfl⟩
      | 1, _, hr =>
        as_aux_lemma =>
        refine wpOp_step rfl (fun K' hK => ?_)
        have e0 : u 7 = .agg #[.int .i64 (p.a), .int .i64 (p.b), .int .i64 (p.c), .int .i64 (p.d)] := hR.val (0, 7) (by simp) (dep_of hr 0 (by kernel_rfl))
        go_simp
        refine (pnormal_any _ _ _ _ _).mono ?_
        rintro e w1 ⟨rfl, hb1⟩
        exact hK _ _ ⟨upd u 8 _, by simp [upd, e0], hR.yields hb1 rfl rfl rfl rfl⟩
      | 2, _, hr =>
        as_aux_lemma =>
        refine wpOp_step rfl (fun K' hK => ?_)
        have hqr := HE.out _ (hF0.drew.call hR.below)
        go_simp
        exact hK _ _ ⟨upd u 9 _, rfl, hR.yields (Below.refl _ _) rfl rfl rfl rfl⟩
      | 3, _, hr =>
        as_aux_lemma =>
        refine wpOp_step rfl (fun K' hK => ?_)
        have e0 : u 9 = .agg #[.int .i64 (q.a), .int .i64 (q.b), .int .i64 (q.c), .int .i64 (q.d)] := hR.val (2, 9) (by simp) (dep_of hr 2 (by kernel_rfl))
        go_simp
        refine (pnormal_any _ _ _ _ _).mono ?_
        rintro e w1 ⟨rfl, hb1⟩
        exact hK _ _ ⟨upd u 10 _, by simp [upd, e0], hR.yields hb1 rfl rfl rfl rfl⟩
      | 4, _, hr =>
        as_aux_lemma =>
        refine wpOp_step rfl (fun K' hK => ?_)
        have e1 : u 8 = .agg #[.int .i64 (p.a), .int .i64 (p.b), .int .i64 (p.c)] := hR.val (1, 8) (by simp) (dep_of hr 1 (by kernel_rfl))
        have e2 : u 10 = .agg #[.int .i64 (q.a), .int .i64 (q.b), .int .i64 (q.c)] := hR.val (3, 10) (by simp) (dep_of hr 3 (by kernel_rfl))
        go_simp
        refine (HX.out _).mono ?_
        rintro e w1 ⟨rfl, hb1⟩
        exact hK _ _ ⟨upd u 11 _, by simp [upd, e1, e2], hR.yields hb1 rfl rfl rfl rfl⟩
      | 5, _, hr =>
        as_aux_lemma =>
        refine wpOp_step rfl (fun K' hK => ?_)
        go_simp
        exact hK _ _ ⟨upd u 5 _, rfl, hR.makes (n := 3) rfl (ready_spec.1 hr).2.1 rfl rfl rfl⟩
      | 6, _, hr =>
        as_aux_lemma =>
        refine wpOp_step rfl (fun K' hK => ?_)
        have e1 : u 11 = .agg #[.int .i64 x, .int .i64 y, .int .i64 z] := hR.val (4, 11) (by simp) (dep_of hr 4 (by kernel_rfl))
        have hl := dep_of hr 5 (by kernel_rfl)
        obtain ⟨b, eb, _, _, hrm⟩ := hR.ali (5, 5, 3) (by simp) hl
        have rc := hrm.cell
        have rf := hrm.frozen
        go_simp
        refine hK _ _ ⟨u, by simp [e1, eb], hR.stores (k := 5) (s := 5) (n := 3) hl eb ((OnlyAt.set _ _ _ _).trans ((OnlyAt.set _ _ _ _).trans (OnlyAt.set _ _ _ _))) ?_ rfl⟩
        intro j v hj
        match j, hj with
        | 0, hj => simp at hj; subst hj; simp [go_sem, hrm.some]
        | 1, hj => simp at hj; subst hj; simp [go_sem, hrm.some]
        | 2, hj => simp at hj; subst hj; simp [go_sem, hrm.some]
    rintro listed a W2 ⟨u, rfl, hR⟩ hl
    obtain ⟨b, eb, hlo, _, hrm⟩ := hR.ali (5, 5, 3) (by simp) (hl 5 (by decide))
    obtain ⟨b', eb', _, hk, _⟩ := hR.sto (6, 5) (by simp) (hl 6 (by decide))
    have ebb : b' = b := by have := eb'.symm.trans eb; simpa using this
    subst ebb
    have hbW : Below W0.heap.size W0 W2 := (Below.refl W0.heap.size W0).drew.trans hR.below
    have HAT : Hid (DrAt x y z b' w W2) := ⟨hb0.trans (hbW.mono (by omega)), by have : W0.heap.size ≤ b' := hlo; omega, hrm.lt, hrm0.below hbW, hk 0 _ rfl, hk 1 _ rfl, hk 2 _ rfl⟩
    have HEB := Lib.hid eb
    clear hR hl eb eb' hlo hrm hk hbW
    go_wp2_with fail
    go_meet
    exact ⟨b', HEB.out, HAT.out⟩
  case rest =>
    obtain ⟨b, rfl, hat⟩ := hcut
    clear HE hF0
    rename World => wx
    have HBW := Lib.hid hat.below
    have HRM := Lib.hid hat.room
    have hlt := hat.lt
    have hlo := hat.lo
    have c0 := hat.c0
    have c1 := hat.c1
    have c2 := hat.c2
    clear hat
    have hE : ∀ W, Fr 0 [] [] wx W → (W.cell? ⟨b, 0, none⟩ = some (.int .i64 x) ∧ W.cell? ⟨b, 1, none⟩ = some (.int .i64 y) ∧ W.cell? ⟨b, 2, none⟩ = some (.int .i64 z)) := fun W h => by (repeat' apply And.intro) <;> first | exact h.at0 rfl | exact h.at rfl | exact (h.rms0 rfl).cell | exact (h.rms rfl).cell | exact (h.rms0 rfl).frozen | exact (h.rms rfl).frozen | exact (h.own.below.cell (p := ⟨b, _, none⟩) hlt).trans (by assumption)
    have HE := Lib.hid hE
    clear hE
    have hF : Fr 0 [] [] wx wx := Fr.nil _
    go_wp2
    go_region_held3 (fun W => Fr 0 [] [] wx W ∧ W.cell? ⟨b, 0, none⟩ = some (.int .i64 x) ∧ W.cell? ⟨b, 1, none⟩ = some (.int .i64 y) ∧ W.cell? ⟨b, 2, none⟩ = some (.int .i64 z)) ((first | exact hSK | assumption | (have hq := Fr.keep HE.out (by assumption) hb1; exact hq) | (have hq := Fr.both HE.out hF.drew; exact hq) | (have hq := Fr.both HE.out (Fr.nil wx).drew; exact hq) | (refine Fr.both HE.out ?_; (repeat (first | exact hF | exact And.left (by assumption) | refine Fr.set ?_ (by first | (simp; done) | (simp; omega)) (by first | (simp [List.lookup]; done) | (simp [Nat.add_assoc, List.lookup]; done)) _ | refine Fr.drew ?_ | refine Fr.alloc ?_ _))))) ((go_at_call 38; refine (pgcd_any _ _ _ (by assumption) (by assumption)).mono ?_; rintro e w1 ⟨rfl, hb1⟩))
    obtain ⟨hG, k0, k1, k2⟩ : Fr 0 [] [] wx _ ∧ _ := by assumption
    rename World => W3
    have hr : Room W3 (w.heap.size + 1 + 1) 3 := HRM.out.below hG.own.below
    have rc := hr.cell
    have rf := hr.frozen
    have HRR := Lib.hid hr
    have HBB : Hid (Below w.heap.size w W3) := HBW.out.trans (hG.own.below.mono (by omega))
    clear hr hG hF HE HRM HBW
    go_wp2
    go_region
    go_wp2
    refine bodyPost_ret (v := .agg #[.int .i64 (wrap64 (x.tdiv (gcd2 (gcd2 x y) z))), .int .i64 (wrap64 (y.tdiv (gcd2 (gcd2 x y) z))), .int .i64 (wrap64 (z.tdiv (gcd2 (gcd2 x y) z)))]) ?_ rfl ⟨rfl, ?_⟩
    · simp [results, Tryz.results11, go_sem, HRR.out.some]
    · exact (((HBB.out.setCell (by simp; omega) _).setCell (by simp; omega) _).setCell (by simp; omega) _).drew

/-- Of two right planes that are not parallel the reference's direction is the code's own. -/
theorem rdirection_any (p q : Q4) (w : World) (hp : Pl p) (hq : Pl q) (hn : ¬ (p.dx q = 0 ∧ p.dy q = 0 ∧ p.dz q = 0)) :
    Calls Tryz.prog 11 #[.agg #[.int .i64 (p.a), .int .i64 (p.b), .int .i64 (p.c), .int .i64 (p.d)], .agg #[.int .i64 (q.a), .int .i64 (q.b), .int .i64 (q.c), .int .i64 (q.d)]] w fun e w' => e = .returned (.agg #[.int .i64 (p.dx q), .int .i64 (p.dy q), .int .i64 (p.dz q)]) ∧ Below w.heap.size w w' := by
  obtain ⟨x, y, z, bx, by', bz⟩ := cross_id hp hq
  have hc : ¬ (p.cx q = 0 ∧ p.cy q = 0 ∧ p.cz q = 0) := fun h => hn ((dir_zero hp hq).2 h)
  have k1 : gcd2 (p.cx q) (p.cy q) = (Nat.gcd (p.cx q).natAbs (p.cy q).natAbs : Nat) := gcd2_small (by omega) (by omega) (by omega) (by omega)
  have k0 : Nat.gcd (p.cx q).natAbs (p.cy q).natAbs < 2000001 := gcd_lt (by omega) (by omega)
  have k2 : gcd2 (gcd2 (p.cx q) (p.cy q)) (p.cz q) = (Nat.gcd (Nat.gcd (p.cx q).natAbs (p.cy q).natAbs) (p.cz q).natAbs : Nat) := by
    rw [k1, gcd2_small (by omega) (by omega) (by omega) (by omega)]; simp
  have k3 : Nat.gcd (Nat.gcd (p.cx q).natAbs (p.cy q).natAbs) (p.cz q).natAbs < 2000001 := gcd_lt k0 (by omega)
  have k4 : Nat.gcd (Nat.gcd (p.cx q).natAbs (p.cy q).natAbs) (p.cz q).natAbs ≠ 0 := fun h => by
    have h1 := Nat.gcd_eq_zero_iff.1 h
    have h2 := Nat.gcd_eq_zero_iff.1 h1.1
    exact hc ⟨by omega, by omega, by omega⟩
  have eg : dirG p.a p.b p.c q.a q.b q.c = gcd2 (gcd2 (p.cx q) (p.cy q)) (p.cz q) := by
    unfold dirG
    rw [x, y, z, gcd3_eq, k2]
    have e : gcdN [p.cx q, p.cy q, p.cz q] = Nat.gcd (Nat.gcd (p.cx q).natAbs (p.cy q).natAbs) (p.cz q).natAbs := by simp [gcdN]
    rw [e]
    exact wrap_id (by omega)
  have hne : ¬ gcd2 (gcd2 (p.cx q) (p.cy q)) (p.cz q) = 0 := by rw [k2]; omega
  have d1 : p.dx q = wrap64 ((p.cx q).tdiv (gcd2 (gcd2 (p.cx q) (p.cy q)) (p.cz q))) := by unfold Q4.dx dirX; rw [eg, x, shortBy, if_neg hne]
  have d2 : p.dy q = wrap64 ((p.cy q).tdiv (gcd2 (gcd2 (p.cx q) (p.cy q)) (p.cz q))) := by unfold Q4.dy dirY; rw [eg, y, shortBy, if_neg hne]
  have d3 : p.dz q = wrap64 ((p.cz q).tdiv (gcd2 (gcd2 (p.cx q) (p.cy q)) (p.cz q))) := by unfold Q4.dz dirZ; rw [eg, z, shortBy, if_neg hne]
  have h := rdirection_gen p q (p.cx q) (p.cy q) (p.cz q) w (fun W => by have h := pcross_any p.a p.b p.c q.a q.b q.c W; rw [x, y, z] at h; exact h) ⟨by omega, by omega⟩ ⟨by omega, by omega⟩ ⟨by omega, by omega⟩ hne
  rw [← d1, ← d2, ← d3] at h
  exact h

set_option maxHeartbeats 1000000 in
theorem rleft_gen (p q r : Q4) (x y z : Int) (w : World) (hD : ∀ W, Calls Tryz.prog 11 #[.agg #[.int .i64 (p.a), .int .i64 (p.b), .int .i64 (p.c), .int .i64 (p.d)], .agg #[.int .i64 (q.a), .int .i64 (q.b), .int .i64 (q.c), .int .i64 (q.d)]] W fun e w' => e = .returned (.agg #[.int .i64 x, .int .i64 y, .int .i64 z]) ∧ Below W.heap.size W w') :
    Calls Tryz.prog 15 #[.agg #[.int .i64 (p.a), .int .i64 (p.b), .int .i64 (p.c), .int .i64 (p.d)], .agg #[.int .i64 (q.a), .int .i64 (q.b), .int .i64 (q.c), .int .i64 (q.d)], .agg #[.int .i64 (r.a), .int .i64 (r.b), .int .i64 (r.c), .int .i64 (r.d)]] w fun e w' => e = .returned (.int .i64 (sgn (dot r.a r.b r.c (crs p.b z p.c y) (crs p.c x p.a z) (crs p.a y p.b x)))) ∧ Below w.heap.size w w' := by
  have HD := Lib.hid hD
  clear hD
  go_enter Tryz.func15, Tryz.ntmps15
  go_wp2
  have hE : ∀ W, Fr 3 [(0, .cells #[.int .i64 (p.a), .int .i64 (p.b), .int .i64 (p.c), .int .i64 (p.d)] 23), (1, .cells #[.int .i64 (q.a), .int .i64 (q.b), .int .i64 (q.c), .int .i64 (q.d)] 23), (2, .cells #[.int .i64 (r.a), .int .i64 (r.b), .int .i64 (r.c), .int .i64 (r.d)] 23)] [] w W → (W.cell? ⟨w.heap.size, 0, none⟩ = some (.int .i64 (p.a)) ∧ W.cell? ⟨w.heap.size, 1, none⟩ = some (.int .i64 (p.b)) ∧ W.cell? ⟨w.heap.size, 2, none⟩ = some (.int .i64 (p.c)) ∧ W.cell? ⟨w.heap.size, 3, none⟩ = some (.int .i64 (p.d)) ∧ W.cell? ⟨w.heap.size + 1, 0, none⟩ = some (.int .i64 (q.a)) ∧ W.cell? ⟨w.heap.size + 1, 1, none⟩ = some (.int .i64 (q.b)) ∧ W.cell? ⟨w.heap.size + 1, 2, none⟩ = some (.int .i64 (q.c)) ∧ W.cell? ⟨w.heap.size + 1, 3, none⟩ = some (.int .i64 (q.d)) ∧ W.cell? ⟨w.heap.size + 2, 0, none⟩ = some (.int .i64 (r.a)) ∧ W.cell? ⟨w.heap.size + 2, 1, none⟩ = some (.int .i64 (r.b)) ∧ W.cell? ⟨w.heap.size + 2, 2, none⟩ = some (.int .i64 (r.c)) ∧ W.cell? ⟨w.heap.size + 2, 3, none⟩ = some (.int .i64 (r.d))) := fun W h => by (repeat' apply And.intro) <;> first | exact h.at0 rfl | exact h.at rfl | exact (h.rms0 rfl).cell | exact (h.rms rfl).cell | exact (h.rms0 rfl).frozen | exact (h.rms rfl).frozen
  have HE := Lib.hid hE
  clear hE
  go_region_held3 (fun W => Fr 3 [(0, .cells #[.int .i64 (p.a), .int .i64 (p.b), .int .i64 (p.c), .int .i64 (p.d)] 23), (1, .cells #[.int .i64 (q.a), .int .i64 (q.b), .int .i64 (q.c), .int .i64 (q.d)] 23), (2, .cells #[.int .i64 (r.a), .int .i64 (r.b), .int .i64 (r.c), .int .i64 (r.d)] 23)] [] w W ∧ W.cell? ⟨w.heap.size, 0, none⟩ = some (.int .i64 (p.a)) ∧ W.cell? ⟨w.heap.size, 1, none⟩ = some (.int .i64 (p.b)) ∧ W.cell? ⟨w.heap.size, 2, none⟩ = some (.int .i64 (p.c)) ∧ W.cell? ⟨w.heap.size, 3, none⟩ = some (.int .i64 (p.d)) ∧ W.cell? ⟨w.heap.size + 1, 0, none⟩ = some (.int .i64 (q.a)) ∧ W.cell? ⟨w.heap.size + 1, 1, none⟩ = some (.int .i64 (q.b)) ∧ W.cell? ⟨w.heap.size + 1, 2, none⟩ = some (.int .i64 (q.c)) ∧ W.cell? ⟨w.heap.size + 1, 3, none⟩ = some (.int .i64 (q.d)) ∧ W.cell? ⟨w.heap.size + 2, 0, none⟩ = some (.int .i64 (r.a)) ∧ W.cell? ⟨w.heap.size + 2, 1, none⟩ = some (.int .i64 (r.b)) ∧ W.cell? ⟨w.heap.size + 2, 2, none⟩ = some (.int .i64 (r.c)) ∧ W.cell? ⟨w.heap.size + 2, 3, none⟩ = some (.int .i64 (r.d))) ((first | exact hSK | assumption | (have hq := Fr.keep HE.out (by assumption) hb1; exact hq) | (have hq := Fr.both HE.out hF.drew; exact hq) | (have hq := Fr.both HE.out ((((Fr.nil w).fixed (by simp) (.cells #[.int .i64 (p.a), .int .i64 (p.b), .int .i64 (p.c), .int .i64 (p.d)] 23)).fixed (by simp) (.cells #[.int .i64 (q.a), .int .i64 (q.b), .int .i64 (q.c), .int .i64 (q.d)] 23)).fixed (by simp) (.cells #[.int .i64 (r.a), .int .i64 (r.b), .int .i64 (r.c), .int .i64 (r.d)] 23)).drew; exact hq) | (refine Fr.both HE.out ?_; (repeat (first | exact hF | exact And.left (by assumption) | refine Fr.set ?_ (by first | (simp; done) | (simp; omega)) (by first | (simp [List.lookup]; done) | (simp [Nat.add_assoc, List.lookup]; done)) _ | refine Fr.drew ?_ | refine Fr.alloc ?_ _))))) (first | (go_at_call 14; refine (pnormal_any _ _ _ _ _).mono ?_; rintro e w1 ⟨rfl, hb1⟩) | (go_at_call 11; refine (HD.out _).mono ?_; rintro e w1 ⟨rfl, hb1⟩) | (go_at_call 37; refine (pcross_any _ _ _ _ _ _ _).mono ?_; rintro e w1 ⟨rfl, hb1⟩) | (go_at_call 13; refine (pdot_any _ _ _ _ _ _ _).mono ?_; rintro e w1 ⟨rfl, hb1⟩) | (go_at_call 12; refine (psign_any _ _).mono ?_; rintro e w1 ⟨rfl, rfl⟩))
  go_wp2
  go_ret
  obtain ⟨hF, -⟩ : Fr 3 _ _ w _ ∧ _ := by assumption
  exact ⟨rfl, hF.own.below⟩

end Go.Proofs.YtaoedfegakpjeabGreat

namespace Go.Proofs.YtaoedfegakpjeabGreat
open Go.RowKit

section
variable {p q r : Q4} {l : List Q4}
theorem opE_zero (h : opE p q l [] = 0) : p.plane = true ∧ q.plane = true ∧ l.all Q4.plane = true ∧ ¬ (p.dx q = 0 ∧ p.dy q = 0 ∧ p.dz q = 0) := by
  rw [opE_eq, allPl_eq, allPl_eq, allPt_eq] at h
  cases hp : p.plane <;> cases hq : q.plane <;> cases hl : l.all Q4.plane <;> simp [hp, hq, hl] at h ⊢
  intro a b c
  simp [eq3B, a, b, c] at h
theorem par_dir (hp : Pl p) (hq : Pl q) : eq3B (crs p.b q.c p.c q.b) (crs p.c q.a p.a q.c) (crs p.a q.b p.b q.a) 0 0 0 = eq3B (p.dx q) (p.dy q) (p.dz q) 0 0 0 := by
  obtain ⟨x, y, z, -⟩ := cross_id hp hq
  rw [x, y, z]
  have h := dir_zero hp hq
  simp only [eq3B]
  rw [Bool.eq_iff_iff]
  simp only [Bool.and_eq_true, beq_iff_eq]
  exact h.symm
theorem opE_range : opE p q l [] = 0 ∨ opE p q l [] = 4 ∨ opE p q l [] = 30 := by
  have h : allPt [] = true := by rw [allPt_eq]; rfl
  rw [opE_eq, h]
  (repeat' split) <;> simp_all
theorem opV_bad (h : ¬ opE p q [] [] = 0) : opV p q [] [] (p.dx q) = 0 ∧ opV p q [] [] (p.dy q) = 0 ∧ opV p q [] [] (p.dz q) = 0 := by
  rw [opE_eq, allPl_eq, allPl_eq, allPt_eq] at h
  rw [opV_eq, opV_eq, opV_eq, allPl_eq, allPl_eq, allPt_eq]
  cases hp : [p, q].all Q4.plane
  · simp
  · simp [hp] at h ⊢
    simp only [eq3B, Bool.and_eq_true, beq_iff_eq] at h
    exact h
theorem opE_less (h : opE p q [r] [] = 0) : opE p q [] [] = 0 := by
  obtain ⟨hp, hq, _, hn⟩ := opE_zero h
  rw [opE_planes hp hq (by simp), if_neg hn]
theorem opV_zero (h : opE p q l [] = 0) (x : Int) : opV p q l [] x = x := by
  obtain ⟨hp, hq, hl, _⟩ := opE_zero h
  rw [opV_eq, allPl_eq, allPl_eq, allPt_eq]
  simp [hp, hq, hl]
theorem cross_dir (h : opE p q [r] [] = 0) : crossV p q r = sgn (dot (p.dx q) (p.dy q) (p.dz q) r.a r.b r.c) := by
  rw [crossV_eq, if_pos h, opV_zero h, opV_zero h, opV_zero h]
theorem left_dir (h : opE p q [r] [] = 0) : leftV p q r = sgn (dot r.a r.b r.c (crs p.b (p.dz q) p.c (p.dy q)) (crs p.c (p.dx q) p.a (p.dz q)) (crs p.a (p.dy q) p.b (p.dx q))) := by
  rw [leftV_eq, if_pos h, opV_zero h, opV_zero h, opV_zero h]
theorem cross_none (h : ¬ opE p q [r] [] = 0) : crossV p q r = 0 := by rw [crossV_eq, if_neg h]
theorem left_none' (h : ¬ opE p q [r] [] = 0) : leftV p q r = 0 := by rw [leftV_eq, if_neg h]
end

end Go.Proofs.YtaoedfegakpjeabGreat
