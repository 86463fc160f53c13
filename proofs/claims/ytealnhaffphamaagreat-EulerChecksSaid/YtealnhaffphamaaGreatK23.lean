/- Contracts of the functions that the statement reaches, and plain lemmas: part 23 of 29. -/
import Derived.Test.YtealnhaffphamaaGreatK21
import Derived.Test.YtealnhaffphamaaGreatK22
import Derived.Deep.QuietTactic
import Derived.BigQuiet
import Derived.Maps.OwnSet
set_option linter.unusedVariables false
set_option linter.unusedSimpArgs false

namespace Go.Proofs.YtealnhaffphamaaGreat
open Go.RowKit Go.Proofs.YtealnhaffphamaaGreatW.PrintWords

abbrev ES := PEf.S103
abbrev KE : Kd ES := PEf.k103
def edS (x : PV) : ES := ⟨x.v, x.a, ⟨x.f, x.l, x.i⟩⟩
/-- The edges of places. -/
def edL (ds : List PV) : List ES := ds.map edS
theorem edL_snoc (ds : List PV) (x : PV) : edL (ds ++ [x]) = edL ds ++ [edS x] := by simp [edL]
theorem wrap_nat (i : Nat) (h : i ≤ 1000000) : wrap64 ((i : Int) + 1) = ((i + 1 : Nat) : Int) := by unfold wrap64; omega
section
variable {N : Int} {fs : Fs} {R : List ES}
theorem ed2 (hS : Sm fs) (hcap : (plsA fs).length ≤ 100000) {f l : Nat} (hf : f < fs.length) (hl : l < (fcA fs f).length)
    (hR : Ev (fun k => PEf.spokeshaveref14_Edges.l1 k (edL (dartsA fs (preA fs f (l + 1) 0))) f ((l + 1 : Nat) : Int) N fs) R) :
    ∀ d i, i + d = (lpA fs f l).length → Ev (fun k => PEf.spokeshaveref14_Edges.l2 k (edL (dartsA fs (preA fs f l i))) f l (lpA fs f l) i N fs) R := by
  have hll := hS.2.1 f
  have hil := hS.2.2 f l
  have hw : wrap64 ((l : Int) + 1) = ((l + 1 : Nat) : Int) := wrap_nat l (by omega)
  have hz0 : (lpA fs f l).length = 0 → preA fs f (l + 1) 0 = preA fs f l 0 := fun h => by rw [preA_l, h]
  intro d
  induction d with
  | zero =>
    intro i hi
    refine Ev.step (f := fun k => PEf.spokeshaveref14_Edges.l1 k (edL (dartsA fs (preA fs f l i))) f (wrap64 ((l : Int) + 1)) N fs) (fun k => by simp only [PEf.spokeshaveref14_Edges.l2]; rw [if_neg (by omega)]) ?_
    rw [hw, show i = (lpA fs f l).length by omega, ← preA_l]
    exact hR
  | succ d ih =>
    intro i hi
    have hp := preA_prefix fs hf hl (show i ≤ _ by omega)
    have hpl := hp.length_le
    have hdl : (dartsA fs (preA fs f l i)).length ≤ (preA fs f l i).length := List.length_filter_le _ _
    by_cases h1 : (lpA fs f l).length = 1
    · refine Ev.step (f := fun k => PEf.spokeshaveref14_Edges.l1 k (edL (dartsA fs (preA fs f l i))) f (wrap64 ((l : Int) + 1)) N fs) (fun k => by simp only [PEf.spokeshaveref14_Edges.l2]; rw [if_pos (by omega), if_neg (by omega)]) ?_
      obtain rfl : i = 0 := by omega
      rw [hw]
      have e : dartsA fs (preA fs f (l + 1) 0) = dartsA fs (preA fs f l 0) := by
        rw [preA_l, h1, preA_i, dartsA_snoc, if_neg (by show ¬ ((lpA fs f l).length != 1) = true; simp [h1]), List.append_nil]
      rw [← e]
      exact hR
    · have h := ih (i + 1) (by omega)
      have e : dartsA fs (preA fs f l (i + 1)) = dartsA fs (preA fs f l i) ++ [pvA fs f l i] := by
        rw [preA_i, dartsA_snoc, if_pos (by show ((lpA fs f l).length != 1) = true; simpa using h1)]
      rw [e, edL_snoc] at h
      have hn : ((((i + 1 : Nat) : Int)).tmod ((lpA fs f l).length : Int)) = (((i + 1) % (lpA fs f l).length : Nat) : Int) := rfl
      have hlt : (i + 1) % (lpA fs f l).length < (lpA fs f l).length := Nat.mod_lt _ (by omega)
      refine Ev.step (fun k => ?_) h
      simp only [PEf.spokeshaveref14_Edges.l2]
      rw [if_pos (by omega), if_pos (by omega), if_pos (by omega)]
      unfold PEf.spokeshaveref14_next.f
      rw [if_neg (by omega), wrap_nat i (by omega), hn]
      simp only [Option.bind_some]
      rw [if_pos (by omega), if_pos (by omega), if_pos (by show ((edL _).length : Nat) < _; rw [edL, List.length_map]; omega)]
      rfl
theorem ed1 (hS : Sm fs) (hcap : (plsA fs).length ≤ 100000) {f : Nat} (hf : f < fs.length)
    (hR : Ev (fun k => PEf.spokeshaveref14_Edges.l0 k (edL (dartsA fs (preA fs (f + 1) 0 0))) ((f + 1 : Nat) : Int) N fs) R) :
    ∀ d l, l + d = (fcA fs f).length → Ev (fun k => PEf.spokeshaveref14_Edges.l1 k (edL (dartsA fs (preA fs f l 0))) f l N fs) R := by
  have hll := hS.2.1 f
  have hff := hS.1
  have e2 : PEf.rd_L2 fs (f : Int) = fcA fs f := by simp [PEf.rd_L2, fcA]
  intro d
  induction d with
  | zero =>
    intro l hl
    refine Ev.step (f := fun k => PEf.spokeshaveref14_Edges.l0 k (edL (dartsA fs (preA fs f l 0))) (wrap64 ((f : Int) + 1)) N fs) (fun k => by simp only [PEf.spokeshaveref14_Edges.l1]; rw [if_pos (by omega), if_pos (by omega), e2, if_neg (by omega)]) ?_
    rw [wrap_nat f (by omega), show l = (fcA fs f).length by omega, ← preA_f]
    exact hR
  | succ d ih =>
    intro l hl
    have e1 : PEf.rd_L1 (fcA fs f) (l : Int) = lpA fs f l := by simp [PEf.rd_L1, lpA, lA]
    refine Ev.step (fun k => ?_) (ed2 hS hcap hf (show l < _ by omega) (ih (l + 1) (by omega)) _ 0 (Nat.zero_add _))
    simp only [PEf.spokeshaveref14_Edges.l1]
    rw [if_pos (by omega), if_pos (by omega), e2, if_pos (by omega), if_pos (by omega), e1]
    rfl
theorem ed0 (hS : Sm fs) (hcap : (plsA fs).length ≤ 100000) : ∀ d f, f + d = fs.length → Ev (fun k => PEf.spokeshaveref14_Edges.l0 k (edL (dartsA fs (preA fs f 0 0))) f N fs) (edL (dartsA fs (plsA fs))) := by
  intro d
  induction d with
  | zero =>
    intro f hf
    obtain rfl : f = fs.length := by omega
    refine Ev.step (fun k => ?_) (Ev.now _)
    simp only [PEf.spokeshaveref14_Edges.l0]
    rw [if_neg (by omega), preA_end]
  | succ d ih =>
    intro f hf
    refine Ev.step (fun k => ?_) (ed1 hS hcap (show f < _ by omega) (ih (f + 1) (by omega)) _ 0 (Nat.zero_add _))
    simp only [PEf.spokeshaveref14_Edges.l0]
    rw [if_pos (by omega)]
    rfl
end
/-- Edges that are read. -/
def RE (W : World) (v : Value) (ds : List PV) : Prop := ∃ A c, v = .slice A ds.length c ∧ ds.length ≤ c ∧ KE.C W A (edL ds).length (edL ds)
theorem RE.below {w W : World} {v : Value} {ds : List PV} (h : RE w v ds) (hb : Below w.heap.size w W) : RE W v ds := by
  obtain ⟨A, c, h1, h2, h3⟩ := h
  exact ⟨A, c, h1, h2, Kd.C_below h3 hb⟩
theorem edgesR_any (N : Int) (A : Option Addr) (c : Nat) (fs : Fs) (w : World) (hF : RF w A fs) (hc : fs.length ≤ c) (hS : Sm fs) (hcap : (plsA fs).length ≤ 100000) :
    Calls Tryz.prog 56 #[.agg #[.int .i64 N, .slice A fs.length c]] w fun e w' => ∃ v, e = .returned v ∧ Kd.R KE 103 w' w.heap.size (fun _ => True) v (edL (dartsA fs (plsA fs))) ∧ RE w' v (dartsA fs (plsA fs)) ∧ Below w.heap.size w w' := by
  obtain ⟨k, hk⟩ := (ed0 (N := N) hS hcap fs.length 0 (Nat.zero_add _)).rounds
  refine (PEf.spokeshaveref14_Edges.calls k N A c fs (edL (dartsA fs (plsA fs))) w hF hc hk).mono ?_
  rintro e w' ⟨v, rfl, h1, h2⟩
  refine ⟨v, rfl, h1, ?_, h2⟩
  obtain ⟨A', n', c', rfl⟩ : ∃ A' n' c', v = .slice A' n' c' := by
    obtain ⟨A', c', h⟩ := Kd.R_slice h1
    exact ⟨A', _, c', h⟩
  obtain ⟨e1, e2, e3⟩ := Kd.R_reads' h1
  rw [edL, List.length_map] at e1
  subst e1
  exact ⟨A', c', rfl, e2, e3⟩
/-- The first edge from v to w; -1: none. -/
def FindP (ds : List PV) (v w r : Int) : Prop := (r = -1 ∧ ∀ x ∈ ds, ¬ (x.v = v ∧ x.a = w)) ∨ ∃ i x, r = (i : Nat) ∧ ds[i]? = some x ∧ x.v = v ∧ x.a = w ∧ ∀ j y, j < i → ds[j]? = some y → ¬ (y.v = v ∧ y.a = w)
theorem find_ev (ds : List PV) (hl : ds.length ≤ 1000000) (v w : Int) : ∀ d i, i + d = ds.length → (∀ j y, j < i → ds[j]? = some y → ¬ (y.v = v ∧ y.a = w)) → ∃ r, FindP ds v w r ∧ Ev (fun k => PEf.spokeshaveref14_find.l0 k (edL ds) v w i) r := by
  intro d
  induction d with
  | zero =>
    intro i hi hno
    refine ⟨-1, .inl ⟨rfl, fun x hx => ?_⟩, ?_⟩
    · obtain ⟨j, hj, rfl⟩ := List.getElem_of_mem hx
      exact hno j _ (by omega) (List.getElem?_eq_getElem hj)
    · refine Ev.step (fun k => ?_) (Ev.now _)
      simp only [PEf.spokeshaveref14_find.l0]
      rw [if_neg (by show ¬ (i : Int) < ((edL ds).length : Int); rw [edL, List.length_map]; omega)]
  | succ d ih =>
    intro i hi hno
    have hlt : i < ds.length := by omega
    have e1 : PEf.rd_T103 (edL ds) (i : Int) = edS ds[i] := by
      unfold PEf.rd_T103
      rw [List.getD_eq_getElem?_getD, Int.toNat_natCast]
      unfold edL
      rw [List.getElem?_map, List.getElem?_eq_getElem hlt]
      rfl
    have hln : (i : Int) < ((edL ds).length : Int) := by rw [edL, List.length_map]; omega
    by_cases h : ds[i].v = v ∧ ds[i].a = w
    · refine ⟨i, .inr ⟨i, ds[i], rfl, List.getElem?_eq_getElem hlt, h.1, h.2, hno⟩, ?_⟩
      refine Ev.step (fun k => ?_) (Ev.now _)
      simp only [PEf.spokeshaveref14_find.l0]
      rw [if_pos hln, if_pos (by omega), e1]
      rw [if_pos (show (edS ds[i]).f0 = v from h.1), if_pos (show (edS ds[i]).f1 = w from h.2)]
    · obtain ⟨r, h1, h2⟩ := ih (i + 1) (by omega) (fun j y hj hy => by
        by_cases e : j = i
        · subst e
          rw [List.getElem?_eq_getElem hlt] at hy
          cases hy
          exact h
        · exact hno j y (by omega) hy)
      refine ⟨r, h1, Ev.step (fun k => ?_) h2⟩
      simp only [PEf.spokeshaveref14_find.l0]
      rw [if_pos hln, if_pos (by omega), e1, wrap_nat i (by omega)]
      by_cases e : ds[i].v = v
      · rw [if_pos (show (edS ds[i]).f0 = v from e), if_neg (show ¬ (edS ds[i]).f1 = w from fun q => h ⟨e, q⟩)]
      · rw [if_neg (show ¬ (edS ds[i]).f0 = v from e)]
theorem findR_any (ds : List PV) (hl : ds.length ≤ 1000000) (v w : Int) (u : Value) (W : World) (hR : RE W u ds) :
    Calls Tryz.prog 58 #[u, .int .i64 v, .int .i64 w] W fun e w' => (∃ r, e = .returned (.int .i64 r) ∧ FindP ds v w r) ∧ ∃ n, w' = W.drewN n := by
  obtain ⟨A, c, rfl, hc, hK⟩ := hR
  obtain ⟨r, h1, h2⟩ := find_ev ds hl v w ds.length 0 (Nat.zero_add _) (fun j y hj => by omega)
  obtain ⟨k, hk⟩ := h2.rounds
  have e1 : (edL ds).length = ds.length := by rw [edL, List.length_map]
  rw [← e1] at hc ⊢
  refine (PEf.spokeshaveref14_find.calls k A c (edL ds) v w r W hK hc hk).mono ?_
  rintro e w' ⟨rfl, ⟨n, rfl⟩⟩
  exact ⟨⟨r, rfl, h1⟩, n, rfl⟩
theorem next_any (A : Option Addr) (c : Nat) (xs : List Int) (i : Nat) (W : World) (hR : RI W A xs) (hc : xs.length ≤ c) (hi : i < xs.length) (hl : xs.length ≤ 1000000) :
    Calls Tryz.prog 57 #[.slice A xs.length c, .int .i64 i] W fun e w' => e = .returned (.int .i64 (((i + 1) % xs.length : Nat) : Int)) ∧ ∃ n, w' = W.drewN n := by
  refine (PEf.spokeshaveref14_next.calls A c xs i (((i + 1) % xs.length : Nat) : Int) W hR hc ?_).mono ?_
  · unfold PEf.spokeshaveref14_next.f
    rw [if_neg (by omega), wrap_nat i (by omega)]
    rfl
  · rintro e w' ⟨rfl, ⟨n, rfl⟩⟩
    exact ⟨rfl, n, rfl⟩

end Go.Proofs.YtealnhaffphamaaGreat

namespace Go.Proofs.YtealnhaffphamaaGreat
open Go.RowKit Go.Shelf Go.Proofs.YtealnhaffphamaaGreatW.PrintWords

def subV (a b z : Int) : Int := if z = a then b else z
/-- Of the first i, those that are a are b. -/
def mrgU (a b : Int) (i : Nat) (g : List Int) : List Int := (g.take i).map (subV a b) ++ g.drop i
def mrgL (g : List Int) (x y : Nat) : List Int := g.map (subV (g.getD x 0) (g.getD y 0))
theorem mrgU_zero (a b : Int) (g : List Int) : mrgU a b 0 g = g := by simp [mrgU]
theorem mrgU_len (a b : Int) (i : Nat) (g : List Int) : (mrgU a b i g).length = g.length := by unfold mrgU; simp only [List.length_append, List.length_map, List.length_take, List.length_drop]; omega
theorem mrgU_all (a b : Int) (g : List Int) : mrgU a b g.length g = g.map (subV a b) := by simp [mrgU]
theorem mrgU_at {a b : Int} {i : Nat} {g : List Int} (h : i < g.length) : (mrgU a b i g)[i]? = g[i]? := by
  unfold mrgU
  rw [List.getElem?_append_right (by simp; omega)]
  simp only [List.length_map, List.length_take, List.getElem?_drop]
  congr 1; omega
theorem mrgU_succ {a b : Int} {i : Nat} {g : List Int} (h : i < g.length) : mrgU a b (i + 1) g = (mrgU a b i g).set i (subV a b (g.getD i 0)) := by
  refine List.ext_getElem? (fun j => ?_)
  rw [List.getElem?_set, mrgU_len]
  have hd : g.getD i 0 = g[i] := by rw [List.getD_eq_getElem?_getD, List.getElem?_eq_getElem h]; rfl
  unfold mrgU
  by_cases e : i = j
  · subst e
    rw [if_pos rfl, if_pos h, List.getElem?_append_left (by simp; omega), List.getElem?_map, List.getElem?_take, if_pos (by omega), List.getElem?_eq_getElem h, hd]; rfl
  · rw [if_neg e]
    rcases Nat.lt_or_ge j i with q | q
    · rw [List.getElem?_append_left (by simp; omega), List.getElem?_append_left (by simp; omega), List.getElem?_map, List.getElem?_map, List.getElem?_take, List.getElem?_take, if_pos (by omega), if_pos q]
    · rw [List.getElem?_append_right (by simp; omega), List.getElem?_append_right (by simp; omega)]
      simp only [List.length_map, List.length_take, List.getElem?_drop]
      congr 1; omega
/-- A row of ints known whole. -/
def Ib (W : World) (G : Nat) (g : List Int) : Prop := Blk W G (.cells (intsV g).toArray 3)
theorem Ib.cell {W : World} {G : Nat} {g : List Int} (h : Ib W G g) {i : Nat} {x : Int} (hx : g[i]? = some x) : W.cell? ⟨G, i, none⟩ = some (.int .i64 x) ∧ W.frozen? ⟨G, i, none⟩ = false :=
  ⟨(blk_cells h).1 i _ (by simp [intsV, hx]), (blk_cells h).2 i⟩
theorem Ib.set {W : World} {G : Nat} {g : List Int} (h : Ib W G g) (i : Nat) (x : Int) : Ib (W.setCell ⟨G, i, none⟩ (.int .i64 x)) G (g.set i x) := by
  have h1 := blk_set (o := i) (x := .int .i64 x) h
  unfold Ib
  have e : (intsV g).toArray.setIfInBounds i (.int .i64 x) = (intsV (g.set i x)).toArray := by
    simp [intsV, List.map_set]
  rw [e] at h1
  exact h1
def MrgP (G : Nat) (g : List Int) (x y : Nat) (w : World) (e : Ending) (w' : World) : Prop := e = .returned (.tuple #[]) ∧ Ib w' G (mrgL g x y) ∧ w.grownBy w' (some G)

set_option maxHeartbeats 1000000 in
theorem merge_any (G : Nat) (g : List Int) (c x y : Nat) (w : World) (hG : Ib w G g) (hx : x < g.length) (hy : y < g.length) (hl : g.length ≤ 1000000) :
    Calls Tryz.prog 59 #[.slice (some ⟨G, 0, none⟩) g.length c, .int .i64 x, .int .i64 y] w (MrgP G g x y w) := by
  obtain ⟨a, ha⟩ : ∃ a, g[x]? = some a := ⟨_, List.getElem?_eq_getElem hx⟩
  obtain ⟨b, hb⟩ : ∃ b, g[y]? = some b := ⟨_, List.getElem?_eq_getElem hy⟩
  have c0 := (hG.cell ha).1
  have c1 := (hG.cell hb).1
  have hxz : (x : Int) < (g.length : Int) := by omega
  have hyz : (y : Int) < (g.length : Int) := by omega
  have HG := Lib.hid hG
  have HA : Hid (g.getD x 0 = a ∧ g.getD y 0 = b) := ⟨by rw [List.getD_eq_getElem?_getD, ha]; rfl, by rw [List.getD_eq_getElem?_getD, hb]; rfl⟩
  clear hG ha hb
  go_enter Tryz.func59, Tryz.ntmps59
  go_wp2_with fail
  go_quiet (fail)
  rename_i nq
  have HG1 : Hid (Ib (w.drewN nq) G g ∧ w.grownBy (w.drewN nq) (some G)) := ⟨HG.out.kept (grown_of_below (Drawn0.below ⟨⟨nq, rfl⟩⟩) none) (by simp), grown_of_below (Drawn0.below ⟨⟨nq, rfl⟩⟩) _⟩
  clear HG c0 c1
  generalize w.drewN nq = w1 at HG1 ⊢
  go_wp2
  go_loopw [8] (fun s8 wr => ∃ i : Nat, i ≤ g.length ∧ s8 = .int .i64 i ∧ Hid (Ib wr G (mrgU a b i g) ∧ w.grownBy wr (some G))) (fun v _ => g.length - (intOf v).toNat)
  case atStart => exact ⟨0, by omega, rfl, by rw [mrgU_zero]; exact HG1⟩
  case round =>
    clear HG1
    rename World => wr
    obtain ⟨i, hi, rfl, HI⟩ := hrel
    by_cases hlt : i < g.length
    · have hlz : (i : Int) < (g.length : Int) := by omega
      obtain ⟨z, hz⟩ : ∃ z, g[i]? = some z := ⟨_, List.getElem?_eq_getElem hlt⟩
      obtain ⟨c0, c1⟩ := HI.out.1.cell ((mrgU_at hlt).trans hz)
      have HZ : Hid (mrgU a b (i + 1) g = (mrgU a b i g).set i (subV a b z)) := by show _ = _; rw [mrgU_succ hlt, List.getD_eq_getElem?_getD, hz]; rfl
      have HZ2 : Hid ((mrgU a b i g)[i]? = some z) := (mrgU_at hlt).trans hz
      clear hz
      by_cases hza : z = a
      · have HZA := Lib.hid hza
        rw [hza] at c0
        clear hza
        go_wp2
        go_roundw
        case rel =>
          refine ⟨i + 1, by omega, by go_num, ?_, HI.out.2.trans (grown_set _ _ _ _)⟩
          rw [HZ.out, HZA.out]
          unfold subV
          rw [if_pos rfl]
          exact HI.out.1.set i b
        case measure => simp [intOf]; omega
      · have HZA := Lib.hid hza
        go_wp2
        go_roundw
        case rel =>
          refine ⟨i + 1, by omega, by go_num, ?_, HI.out.2⟩
          have e : (mrgU a b i g).set i z = mrgU a b i g := by
            refine List.ext_getElem? (fun j => ?_)
            rw [List.getElem?_set]
            by_cases q : i = j
            · subst q; rw [if_pos rfl, if_pos (by rw [mrgU_len]; exact hlt), HZ2.out]
            · rw [if_neg q]
          rw [HZ.out]
          unfold subV
          rw [if_neg HZA.out, e]
          exact HI.out.1
        case measure => simp [intOf]; omega
    · obtain rfl : i = g.length := by omega
      have HE : Hid (mrgU a b g.length g = mrgL g x y) := by show _ = _; rw [mrgU_all, mrgL, HA.out.1, HA.out.2]
      go_wp2
      go_end0
      exact ⟨rfl, by rw [← HE.out]; exact HI.out.1, HI.out.2⟩

end Go.Proofs.YtealnhaffphamaaGreat

namespace Go.Proofs.YtealnhaffphamaaGreat
open Go.RowKit Go.Shelf Go.Proofs.YtealnhaffphamaaGreatW.PrintWords
open Go.Maps (Keyed)

theorem Tryz.uIm : Tryz.prog.underlying 100 = some (.map 3 103) := by kernel_rfl
theorem lawI : Keyed Tryz.prog 3 := Go.Maps.int_keyed Tryz.u3
theorem keyOf_i {a : Int} (ha : I64 a) : keyOf Tryz.prog 3 (.int .i64 a) = some (.int .i64 a) := Go.Maps.keyOf_int_mk Tryz.u3 (wf_i64 ha)
def edV (a b : Int) : Value := .agg #[.int .i64 a, .int .i64 b, .int .i64 0, .int .i64 0, .int .i64 0]
def datE (a b c d e : Int) : DataW Unit := .agg [.lit (.int .i64 a), .lit (.int .i64 b), .lit (.int .i64 c), .lit (.int .i64 d), .lit (.int .i64 e)]
def readEg (v : Value) : Option (DataW Unit × List MemPlace) :=
  match v with
  | .agg cs => match cs.toList with
    | [.int .i64 a, .int .i64 b, .int .i64 c, .int .i64 d, .int .i64 e] => some (datE a b c d e, [])
    | _ => none
  | _ => none
theorem readEg_inv {v : Value} {y : DataW Unit × List MemPlace} (h : readEg v = some y) : ∃ a b c d e : Int, v = .agg #[.int .i64 a, .int .i64 b, .int .i64 c, .int .i64 d, .int .i64 e] ∧ y = (datE a b c d e, []) := by
  unfold readEg at h
  split at h
  · rename_i cs
    split at h
    · rename_i a b c d e hl
      obtain ⟨cs⟩ := cs
      simp at hl
      subst hl
      exact ⟨a, b, c, d, e, rfl, by simpa using h.symm⟩
    · simp at h
  · simp at h
theorem datE_inj {a b c d e a' b' c' d' e' : Int} (h : datE a b c d e = datE a' b' c' d' e') : a = a' ∧ b = b' ∧ c = c' ∧ d = d' ∧ e = e' := by simpa [datE] using h
theorem zeroEg (w : World) : (zeroValue 103).run Tryz.prog w = .ok (.agg #[.int .i64 0, .int .i64 0, .int .i64 0, .int .i64 0, .int .i64 0]) w := by kernel_rfl
/-- Block b is a map of the numbers below vs.length to these edges. -/
def IM (W : World) (b : Nat) (vs : List (Int × Int)) : Prop := ∃ D : DataW Unit, W.ownsMap Tryz.prog 3 readEg b vs.length D ∧ (∀ i : Nat, i < 1000000 → Maps.has D (.int .i64 i) = decide (i < vs.length)) ∧
  ∀ (i : Nat) (x : Int × Int), vs[i]? = some x → ∀ z, D.atKey (.int .i64 i) z = datE x.1 x.2 0 0 0
theorem IM.lt {W : World} {b : Nat} {vs : List (Int × Int)} (h : IM W b vs) : b < W.heap.size := by
  obtain ⟨D, ⟨es, clock, hb, _⟩, _⟩ := h
  exact (Array.getElem?_eq_some_iff.1 hb).1
theorem IM.made (W : World) : IM (W.alloc (.map #[] 0)) W.heap.size [] := ⟨_, World.ownsMap_made _ _ _ _, fun i _ => by simp [Maps.has], fun i x h => by simp at h⟩
theorem IM.kept {W W' : World} {b : Nat} {vs : List (Int × Int)} (h : IM W b vs) {row : Option Nat} (hg : W.grownBy W' row) (hb : some b ≠ row) : IM W' b vs := by
  obtain ⟨D, h1, h2⟩ := h
  exact ⟨D, h1.kept hg hb, h2⟩
theorem key_i (i : Nat) (h : i < 1000000) : WideAt.IsKeyLit (.int .i64 (i : Int)) := lawI.key (keyOf_i ⟨by omega, by omega⟩)
theorem wpList_upd_im {ops : Array Oper} {rest : List Oper} {o : Oper} {a : Act} {Q : Exit → Act → World → Prop} (w : World) (hg : o.guard = none) (m x v : Operand) (hop : o.op = Op.mapUpdate 100 m x v) (b : Nat) (vs : List (Int × Int)) (hm : a.eval m = .map (some b)) (h : IM w b vs) (hl : vs.length < 1000000) (y : Int × Int)
    (hx : a.eval x = .int .i64 vs.length) (hv : a.eval v = .agg #[.int .i64 y.1, .int .i64 y.2, .int .i64 0, .int .i64 0, .int .i64 0])
    (hK : ∀ w', IM w' b (vs ++ [y]) → w.grownBy w' (some b) → wpList Tryz.prog ops Q rest (a.put o.dst undef) w') : wpList Tryz.prog ops Q (o :: rest) a w := by
  obtain ⟨D, h1, h3, h4⟩ := h
  have hk := key_i vs.length hl
  refine wpList_mapUpdate_own w hg m x v _ hop 3 103 lawI Tryz.uIm readEg b _ D hm h1 (by unfold maxLen; omega) (.int .i64 vs.length) _ (.int .i64 vs.length) hx hv (keyOf_i ⟨by omega, by omega⟩) (datE y.1 y.2 0 0 0) [] rfl ?_
  intro w' hown hgrow
  have hT := h1.tidy lawI
  refine hK w' ⟨_, by rw [List.length_append, List.length_singleton]; exact hown, fun i hi => ?_, fun i x hix z => ?_⟩ hgrow
  · by_cases e : i = vs.length
    · subst e
      rw [Maps.has_put_same hT.isMap hk]; simp
    · rw [Maps.has_put_other (fun q => e (by injection q with _ q; omega)), h3 i hi]
      simp only [List.length_append, List.length_singleton, decide_eq_decide]
      omega
  · by_cases e : i = vs.length
    · subst e
      rw [List.getElem?_append_right (Nat.le_refl _), Nat.sub_self] at hix
      cases hix
      rw [Maps.atKey_put_same hT.isMap hk]
    · rw [Maps.atKey_put_other (fun q => e (by injection q with _ q; omega))]
      refine h4 i x ?_ z
      have := (List.getElem?_eq_some_iff.1 hix).1
      rw [List.length_append, List.length_singleton] at this
      rwa [List.getElem?_append_left (by omega)] at hix
theorem IM.get {W : World} {b : Nat} {vs : List (Int × Int)} (h : IM W b vs) {i : Nat} {x : Int × Int} (hx : vs[i]? = some x) (hi : i < 1000000) : (Instr.lookup 100 (.map (some b)) (.int .i64 i) false).run Tryz.prog W = .ok (.agg #[.int .i64 x.1, .int .i64 x.2, .int .i64 0, .int .i64 0, .int .i64 0]) W := by
  obtain ⟨D, ⟨es, clock, hb, F, hs, rfl⟩, h3, h4⟩ := h
  have hlt := (List.getElem?_eq_some_iff.1 hx).1
  rcases Maps.fit_look false lawI Tryz.uIm (zeroEg W) hb F (keyOf_i (a := (i : Int)) ⟨by omega, by omega⟩) with ⟨_, _, hat⟩ | ⟨e0, y, _, _, hrun, hR, hat, _⟩
  · exfalso
    have h6 := h3 i hi
    rw [Maps.has_false_of_atKey hat] at h6
    simp [hlt] at h6
  · have h6 := h4 i x hx (datE 0 0 0 0 0)
    rw [hat] at h6
    obtain ⟨a, b', c, d, e, hv, hy⟩ := readEg_inv hR
    rw [hy] at h6
    obtain ⟨rfl, rfl, rfl, rfl, rfl⟩ := datE_inj h6
    rw [hv] at hrun
    exact hrun

end Go.Proofs.YtealnhaffphamaaGreat

namespace Go.Proofs.YtealnhaffphamaaGreat
open Go.RowKit Go.Shelf Go.Proofs.YtealnhaffphamaaGreatW.PrintWords

/-- The numbers of the places at v. -/
def idxA (pre : List PV) (v : Int) : List Nat := (List.range pre.length).filter fun j => match pre[j]? with | some x => x.v == v | none => false
theorem idxA_snoc (pre : List PV) (x : PV) (v : Int) : idxA (pre ++ [x]) v = idxA pre v ++ if x.v = v then [pre.length] else [] := by
  unfold idxA
  rw [List.length_append, List.length_singleton, List.range_succ, List.filter_append]
  congr 1
  · refine List.filter_congr (fun j hj => ?_)
    rw [List.getElem?_append_left (List.mem_range.1 hj)]
  · rw [List.filter_cons, List.filter_nil]
    simp
theorem idxA_mem {pre : List PV} {v : Int} {j : Nat} : j ∈ idxA pre v ↔ ∃ x, pre[j]? = some x ∧ x.v = v := by
  unfold idxA
  rw [List.mem_filter, List.mem_range]
  constructor
  · rintro ⟨hj, h⟩
    rw [List.getElem?_eq_getElem hj] at h
    exact ⟨_, List.getElem?_eq_getElem hj, by simpa using h⟩
  · rintro ⟨x, hx, h⟩
    exact ⟨(List.getElem?_eq_some_iff.1 hx).1, by rw [hx]; simpa using h⟩
theorem idxA_len (pre : List PV) (v : Int) : (idxA pre v).length ≤ pre.length := by
  unfold idxA
  have := List.length_filter_le (fun j => match pre[j]? with | some x => x.v == v | none => false) (List.range pre.length)
  simpa using this
theorem snocInd {α : Type} {P : List α → Prop} (h0 : P []) (h1 : ∀ l x, P l → P (l ++ [x])) (l : List α) : P l := by
  have h : ∀ m : List α, P m.reverse := by
    intro m
    induction m with
    | nil => exact h0
    | cons x m ih => rw [List.reverse_cons]; exact h1 _ _ ih
  have := h l.reverse
  rwa [List.reverse_reverse] at this
/-- The places with these numbers are those at v. -/
theorem idxA_rows (pre : List PV) (v : Nat) : (idxA pre v).filterMap (fun j => pre[j]?) = rowsA pre v := by
  refine snocInd (P := fun pre => (idxA pre v).filterMap (fun j => pre[j]?) = rowsA pre v) (by simp [idxA, rowsA]) (fun pre x ih => ?_) pre
  · show _ = _
    rw [idxA_snoc, rowsA_snoc, List.filterMap_append]
    congr 1
    · rw [← ih]
      have hq : ∀ l : List Nat, (∀ j ∈ l, j < pre.length) → l.filterMap (fun j => (pre ++ [x])[j]?) = l.filterMap (fun j => pre[j]?) := by
        intro l
        induction l with
        | nil => intro _; rfl
        | cons j l ih =>
          intro h
          rw [List.filterMap_cons, List.filterMap_cons, ih (fun k hk => h k (List.mem_cons_of_mem _ hk)), List.getElem?_append_left (h j List.mem_cons_self)]
      refine hq _ (fun j hj => ?_)
      obtain ⟨y, hy, _⟩ := idxA_mem.1 hj
      exact (List.getElem?_eq_some_iff.1 hy).1
    · split
      · simp
      · rfl
def atL (pre : List PV) (n : Nat) : List (List Int) := (List.range n).map fun (v : Nat) => natsI (idxA pre v)
theorem atL_at {pre : List PV} {n v : Nat} (h : v < n) : lA (atL pre n) v = natsI (idxA pre v) := by
  unfold lA atL
  rw [List.getD_eq_getElem?_getD, List.getElem?_map, List.getElem?_range h]; rfl
theorem atL_len (pre : List PV) (n : Nat) : (atL pre n).length = n := by simp [atL]
theorem atL_nil (n : Nat) : atL [] n = List.replicate n [] := by
  unfold atL idxA natsI
  refine List.ext_getElem (by simp) (fun j h1 h2 => by simp)
theorem atL_snoc {pre : List PV} {n v : Nat} {x : PV} (hx : x.v = v) (h : v < n) : (atL pre n).set v (natsI (idxA pre v) ++ [(pre.length : Int)]) = atL (pre ++ [x]) n := by
  refine List.ext_getElem (by simp [atL]) (fun j h1 h2 => ?_)
  have hj : j < n := by simpa [atL] using h2
  rw [List.getElem_set]
  unfold atL
  simp only [List.getElem_map, List.getElem_range, idxA_snoc, hx]
  by_cases e : v = j
  · subst e; simp [natsI]
  · rw [if_neg e, if_neg (by omega), List.append_nil]
/-- Is a node in a loop of one node? -/
def lonV (fs : Fs) (pre : List PV) (v : Nat) : Bool := pre.any fun x => x.v == (v : Int) && (lpA fs x.f x.l).length == 1
theorem lonV_one {fs : Fs} {pre : List PV} {x : PV} {v : Nat} (hx : x.v = v) (h : (lpA fs x.f x.l).length = 1) : lonV fs (pre ++ [x]) = mark (lonV fs pre) v := by
  funext g
  unfold lonV mark
  rw [List.any_append]
  simp only [List.any_cons, List.any_nil, Bool.or_false, hx, h]
  by_cases e : g = v
  · subst e; simp
  · rw [if_neg e, show ((v : Int) == (g : Int)) = false by simp; omega]; simp
theorem lonV_more {fs : Fs} {pre : List PV} {x : PV} (h : (lpA fs x.f x.l).length ≠ 1) : lonV fs (pre ++ [x]) = lonV fs pre := by
  funext g
  unfold lonV
  rw [List.any_append]
  simp [h]
theorem lonV_same {fs : Fs} {pre : List PV} {x : PV} {v : Nat} (hx : x.v = v) (h : lonV fs pre v = true) : lonV fs (pre ++ [x]) = lonV fs pre := by
  funext g
  unfold lonV at h ⊢
  rw [List.any_append]
  simp only [List.any_cons, List.any_nil, Bool.or_false, hx]
  by_cases e : g = v
  · subst e; rw [h]; simp
  · rw [show ((v : Int) == (g : Int)) = false by simp; omega]; simp
def leaL (pre : List PV) : List (Int × Int) := pre.map fun x => (x.v, x.a)
def comL (pre : List PV) : List (Int × Int) := pre.map fun x => (x.b, x.v)
section
variable {ops : Array Oper} {rest : List Oper} {o : Oper} {a : Act} {Q : Exit → Act → World → Prop} {w : World}
theorem wpList_append_int (hgd : o.guard = none) (s x : Operand) (ho : o.op = .call { callee := .builtin .append, args := #[s, x], argTypes := #[43, 43] })
    (base : Nat) (v : Value) (xs : List Int) (z : Int) (hs : a.eval s = v) (hown : w.ownsRow base 3 1 v xs.length (intsV xs))
    (m : Nat) (hx : a.eval x = .slice (some ⟨m, 0, none⟩) 1 1) (hm : Blk w m (.cells #[.int .i64 z] 3)) (hn : xs.length ≤ 1000000) (hbase : base ≤ w.heap.size)
    (h : ∀ v1 w1, w1.ownsRow base 3 1 v1 (xs ++ [z]).length (intsV (xs ++ [z])) → w.grownBy w1 v.ownBlock → (v1.ownBlock = v.ownBlock ∨ v1.ownBlock = some w.heap.size) → wpList Tryz.prog ops Q rest (a.put o.dst v1) w1) :
    wpList Tryz.prog ops Q (o :: rest) a w := by
  refine wpList_plain hgd fun K' hK' => ?_
  have h1 := step_append_int (ops := ops) (Q := Q) (K := K') (E := True) hgd s x ho base v xs z hs hown m hx hm hn hbase (fun v1 w1 a1 a2 a3 => hK' _ _ (h v1 w1 a1 a2 a3))
  rwa [if_pos (by simp [Region.wanted, hgd])] at h1
end
theorem own_ne_im {W : World} {base e size n k : Nat} {v : Value} {xs : List Value} {vs : List (Int × Int)} (ho : W.ownsRow base e size v n xs) (h : IM W k vs) : v.ownBlock ≠ some k := by
  intro q
  obtain ⟨c, hc⟩ := own_typed ho k q
  obtain ⟨D, ⟨es, clock, hb, _⟩, _⟩ := h
  rw [hb] at hc
  cases hc
theorem blk_ne_im {W : World} {k b : Nat} {cs : Array Value} {t : TypeId} {vs : List (Int × Int)} (ho : Blk W b (.cells cs t)) (h : IM W k vs) : b ≠ k := by
  rintro rfl
  obtain ⟨D, ⟨es, clock, hb, _⟩, _⟩ := h
  unfold Blk at ho
  rw [hb] at ho
  cases ho

/-- What Right knows when it has come past the places pre. -/
structure FI (os : List Obj) (w W2 : World) (B : Nat) (fs : Fs) (n NB M k1 k2 : Nat) (pre : List PV) (lv : Nat → Value) (W : World) : Prop where
  obs : Obs os w W
  bel : Below W2.heap.size W2 W
  row : FW B (.slice (some ⟨NB, 0, none⟩) n n) (atL pre n) n lv W
  dis : FD n lv
  lon : Blk W M (.cells (mb n (lonV fs pre)) 4)
  lea : IM W k1 (leaL pre)
  com : IM W k2 (comL pre)
  ne : k1 ≠ k2
  low : w.heap.size + os.length ≤ B ∧ W2.heap.size = B ∧ B ≤ M ∧ B ≤ k1 ∧ B ≤ k2
section
variable {os : List Obj} {w W2 W W' : World} {B : Nat} {fs : Fs} {n NB M k1 k2 : Nat} {pre : List PV} {lv : Nat → Value} {v ph : Nat} {u : Value} {x : PV}
theorem FI.grown (h : FI os w W2 B fs n NB M k1 k2 pre lv W) (hg : W.grownBy W' none) : FI os w W2 B fs n NB M k1 k2 pre lv W' :=
  ⟨h.obs.grown hg, h.bel.grown hg h.bel.size (fun k e => by cases e), h.row.kept hg (fun r e => by cases e), h.dis, h.lon.kept hg (by simp), h.lea.kept hg (by simp), h.com.kept hg (by simp), h.ne, h.low⟩
theorem FI.sz (h : FI os w W2 B fs n NB M k1 k2 pre lv W) : B ≤ W.heap.size := by rw [← h.low.2.1]; exact h.bel.size
theorem FI.nb (h : FI os w W2 B fs n NB M k1 k2 pre lv W) : B ≤ NB := (h.row.lt (.inl rfl)).1
theorem FI.cell (h : FI os w W2 B fs n NB M k1 k2 pre lv W) {v : Nat} (hv : v < n) : W.cell? ⟨NB, v, none⟩ = some (lv v) := by
  have q0 := World.ownsRow.cellAt h.row.own v (by omega)
  rw [List.getElem?_map, List.getElem?_range hv] at q0
  exact q0
/-- A row grows: the store is still to come. -/
structure FJ (os : List Obj) (w W2 : World) (B : Nat) (fs : Fs) (n NB M k1 k2 : Nat) (pre : List PV) (lv : Nat → Value) (v : Nat) (u : Value) (xs : List Int) (W : World) : Prop where
  obs : Obs os w W
  bel : Below W2.heap.size W2 W
  fq : FQ B (.slice (some ⟨NB, 0, none⟩) n n) (atL pre n) n lv v u xs W
  lon : Blk W M (.cells (mb n (lonV fs pre)) 4)
  lea : IM W k1 (leaL pre)
  com : IM W k2 (comL pre)
  ne : k1 ≠ k2
  low : w.heap.size + os.length ≤ B ∧ W2.heap.size = B ∧ B ≤ M ∧ B ≤ k1 ∧ B ≤ k2
theorem FI.pend (h : FI os w W2 B fs n NB M k1 k2 pre lv W) {v : Nat} {u : Value} {xs : List Int} (hv : v < n) (hg : W.grownBy W' (lv v).ownBlock) (hu : W'.ownsRow B 3 1 u xs.length (intsV xs)) (hat : u.ownBlock = (lv v).ownBlock ∨ u.ownBlock = some W.heap.size) :
    FJ os w W2 B fs n NB M k1 k2 pre lv v u xs W' := by
  have ho := h.row.ownL v hv
  have hlt := fun r e => World.ownsRow.lt ho r e
  exact ⟨h.obs.kept hg (fun k e => by have := (hlt k e).1; have := h.low.1; omega), h.bel.grown hg h.bel.size (fun k e => by have := (hlt k e).1; rw [h.low.2.1]; exact this), h.row.pendL h.dis hv hg hu hat,
    h.lon.kept hg (fun e => own_ne_blk ho h.lon (by decide) e.symm), h.lea.kept hg (fun e => own_ne_im ho h.lea e.symm), h.com.kept hg (fun e => own_ne_im ho h.com e.symm), h.ne, h.low⟩
/-- .. and comes; what goes on behind is the rest of a round. -/
structure FK (os : List Obj) (w W2 : World) (B : Nat) (fs : Fs) (n NB M k1 k2 : Nat) (pre : List PV) (x : PV) (ph : Nat) (lv : Nat → Value) (W : World) : Prop where
  obs : Obs os w W
  bel : Below W2.heap.size W2 W
  row : FW B (.slice (some ⟨NB, 0, none⟩) n n) (atL (pre ++ [x]) n) n lv W
  dis : FD n lv
  lon : Blk W M (.cells (mb n (lonV fs (if 0 < ph then pre ++ [x] else pre))) 4)
  lea : IM W k1 (leaL (if 1 < ph then pre ++ [x] else pre))
  com : IM W k2 (comL (if 2 < ph then pre ++ [x] else pre))
  ne : k1 ≠ k2
  low : w.heap.size + os.length ≤ B ∧ W2.heap.size = B ∧ B ≤ M ∧ B ≤ k1 ∧ B ≤ k2
theorem FJ.store (h : FJ os w W2 B fs n NB M k1 k2 pre lv v u (natsI (idxA pre v) ++ [(pre.length : Int)]) W) {x : PV} (hx : x.v = v) (hv : v < n) :
    ∃ lv', FK os w W2 B fs n NB M k1 k2 pre x 0 lv' (W.setCell ⟨NB, v, none⟩ u) := by
  obtain ⟨h1, h2⟩ := h.fq.store (atL_len pre n).symm hv rfl
  rw [atL_snoc hx hv] at h1
  have hg := grown_set W NB v u
  have hnb : B ≤ NB := (World.ownsRow.lt h.fq.own NB rfl).1
  exact ⟨_, h.obs.kept hg (fun k e => by cases e; have := h.low.1; omega), h.bel.grown hg h.bel.size (fun k e => by cases e; rw [h.low.2.1]; exact hnb), h1, h2,
    h.lon.kept hg (fun e => own_ne_blk h.fq.own h.lon (by decide) e.symm), h.lea.kept hg (fun e => own_ne_im h.fq.own h.lea e.symm), h.com.kept hg (fun e => own_ne_im h.fq.own h.com e.symm), h.ne, h.low⟩
theorem FK.done (h : FK os w W2 B fs n NB M k1 k2 pre x 3 lv W) : FI os w W2 B fs n NB M k1 k2 (pre ++ [x]) lv W := ⟨h.obs, h.bel, h.row, h.dis, h.lon, h.lea, h.com, h.ne, h.low⟩
theorem FK.sz (h : FK os w W2 B fs n NB M k1 k2 pre x ph lv W) : B ≤ W.heap.size := by rw [← h.low.2.1]; exact h.bel.size
theorem FK.drawn (h : FK os w W2 B fs n NB M k1 k2 pre x ph lv W) (hg : W.grownBy W' none) : FK os w W2 B fs n NB M k1 k2 pre x ph lv W' :=
  ⟨h.obs.grown hg, h.bel.grown hg h.bel.size (fun k e => by cases e), h.row.kept hg (fun r e => by cases e), h.dis, h.lon.kept hg (by simp), h.lea.kept hg (by simp), h.com.kept hg (by simp), h.ne, h.low⟩
theorem FK.lon1 (h : FK os w W2 B fs n NB M k1 k2 pre x 0 lv W) {v : Nat} {b : Bool} (hx : x.v = v) (hb : b = (lonV fs pre v || decide ((lpA fs x.f x.l).length = 1))) :
    FK os w W2 B fs n NB M k1 k2 pre x 1 lv (W.setCell ⟨M, v, none⟩ (.bool b)) := by
  have hg := grown_set W M v (.bool b)
  have h1 := blk_set (o := v) (x := .bool b) h.lon
  have hne : ∀ r, some M = some r → ¬ FB (.slice (some ⟨NB, 0, none⟩) n n) n lv r := fun r e q => by
    cases e
    rcases q with q | ⟨l, hl, q⟩
    · exact own_ne_blk h.row.own h.lon (by decide) q
    · exact own_ne_blk (h.row.ownL l hl) h.lon (by decide) q
  refine ⟨h.obs.kept hg (fun k e => by cases e; have := h.low.1; have := h.low.2.2.1; omega), h.bel.grown hg h.bel.size (fun k e => by cases e; rw [h.low.2.1]; exact h.low.2.2.1), h.row.kept hg hne, h.dis, ?_,
    h.lea.kept hg (fun e => blk_ne_im h.lon h.lea (by injection e with e; exact e.symm)), h.com.kept hg (fun e => blk_ne_im h.lon h.com (by injection e with e; exact e.symm)), h.ne, h.low⟩
  rw [if_neg (by omega)] at h1
  rw [if_pos (by omega)]
  have e : (mb n (lonV fs pre)).setIfInBounds v (.bool b) = mb n (lonV fs (pre ++ [x])) := by
    by_cases hm : lonV fs pre v = true
    · rw [lonV_same hx hm]
      rw [hm, Bool.true_or] at hb
      rw [hb, mb_mark]
      congr 1
      funext g
      unfold mark
      split
      · rename_i e; rw [e, hm]
      · rfl
    · rw [Bool.not_eq_true] at hm
      rw [hm, Bool.false_or] at hb
      by_cases h2 : (lpA fs x.f x.l).length = 1
      · rw [lonV_one hx h2, hb, decide_eq_true h2, mb_mark]
      · rw [lonV_more h2, hb, decide_eq_false h2]
        refine Array.ext_getElem? (fun j => ?_)
        rw [Array.getElem?_setIfInBounds]
        split
        · rename_i e
          subst e
          split
          · rename_i hj
            have : v < n := by simpa [mb] using hj
            rw [mb_get _ this, hm]
          · rename_i hj
            rw [Array.getElem?_eq_none (by omega)]
        · rfl
  rw [← e]
  exact h1
theorem FK.lea2 (h : FK os w W2 B fs n NB M k1 k2 pre x 1 lv W) (hg : W.grownBy W' (some k1)) (hi : IM W' k1 (leaL pre ++ [(x.v, x.a)])) : FK os w W2 B fs n NB M k1 k2 pre x 2 lv W' := by
  have hne : ∀ r, some k1 = some r → ¬ FB (.slice (some ⟨NB, 0, none⟩) n n) n lv r := fun r e q => by
    cases e
    rcases q with q | ⟨l, hl, q⟩
    · exact own_ne_im h.row.own h.lea q
    · exact own_ne_im (h.row.ownL l hl) h.lea q
  have hl := h.low
  refine ⟨h.obs.kept hg (fun k e => by cases e; omega), h.bel.grown hg h.bel.size (fun k e => by cases e; omega), h.row.kept hg hne, h.dis, h.lon.kept hg (fun e => blk_ne_im h.lon h.lea (by injection e)), ?_, h.com.kept hg (fun e => h.ne (by injection e with e; exact e.symm)), h.ne, h.low⟩
  rw [if_pos (by omega)]
  simpa [leaL] using hi
theorem FK.com3 (h : FK os w W2 B fs n NB M k1 k2 pre x 2 lv W) (hg : W.grownBy W' (some k2)) (hi : IM W' k2 (comL pre ++ [(x.b, x.v)])) : FK os w W2 B fs n NB M k1 k2 pre x 3 lv W' := by
  have hne : ∀ r, some k2 = some r → ¬ FB (.slice (some ⟨NB, 0, none⟩) n n) n lv r := fun r e q => by
    cases e
    rcases q with q | ⟨l, hl, q⟩
    · exact own_ne_im h.row.own h.com q
    · exact own_ne_im (h.row.ownL l hl) h.com q
  have hl := h.low
  refine ⟨h.obs.kept hg (fun k e => by cases e; omega), h.bel.grown hg h.bel.size (fun k e => by cases e; omega), h.row.kept hg hne, h.dis, h.lon.kept hg (fun e => blk_ne_im h.lon h.com (by injection e)), h.lea.kept hg (fun e => h.ne (by injection e)), ?_, h.ne, h.low⟩
  rw [if_pos (by omega)]
  simpa [comL] using hi
end

end Go.Proofs.YtealnhaffphamaaGreat

namespace Go.Proofs.YtealnhaffphamaaGreat
open Go.RowKit Go.Shelf Go.Proofs.YtealnhaffphamaaGreatW.PrintWords

theorem filterMap_at {α β : Type} (f : α → Option β) : ∀ (l : List α), (∀ j ∈ l, ∃ x, f j = some x) → (l.filterMap f).length = l.length ∧ ∀ i : Nat, (l.filterMap f)[i]? = l[i]?.bind f := by
  intro l
  induction l with
  | nil => intro _; exact ⟨rfl, fun i => by simp⟩
  | cons j l ih =>
    intro h
    obtain ⟨x, hx⟩ := h j List.mem_cons_self
    obtain ⟨h1, h2⟩ := ih (fun k hk => h k (List.mem_cons_of_mem _ hk))
    rw [List.filterMap_cons_some hx]
    refine ⟨by simp [h1], fun i => ?_⟩
    cases i with
    | zero => simp [hx]
    | succ i => simpa using h2 i
/-- The places at v, by their numbers. -/
theorem rows_idx (pre : List PV) (v : Nat) : (rowsA pre v).length = (idxA pre v).length ∧ ∀ i, i < (idxA pre v).length → ∃ j x, (idxA pre v)[i]? = some j ∧ pre[j]? = some x ∧ (rowsA pre v)[i]? = some x := by
  obtain ⟨h1, h2⟩ := filterMap_at (fun j => pre[j]?) (idxA pre v) (fun j hj => by obtain ⟨x, hx, _⟩ := idxA_mem.1 hj; exact ⟨x, hx⟩)
  rw [idxA_rows] at h1 h2
  refine ⟨h1, fun i hi => ?_⟩
  have h3 := h2 i
  rw [List.getElem?_eq_getElem hi] at h3
  obtain ⟨x, hx, _⟩ := idxA_mem.1 (List.getElem_mem hi)
  exact ⟨_, x, List.getElem?_eq_getElem hi, hx, by rw [h3]; exact hx⟩
/-- One leaves for where the other comes from. -/
def LinkP (xs : List PV) (i k : Nat) : Prop := ∃ x y, xs[i]? = some x ∧ xs[k]? = some y ∧ x.a = y.b
/-- They hang together. -/
def ConnP (L : Nat → Nat → Prop) (i j : Nat) : Prop := ∀ E : Nat → Nat → Prop, (∀ a, E a a) → (∀ a b, E a b → E b a) → (∀ a b c, E a b → E b c → E a c) → (∀ a b, L a b → E a b) → E i j
theorem ConnP.refl (L : Nat → Nat → Prop) (i : Nat) : ConnP L i i := fun _ h _ _ _ => h i
theorem ConnP.symm {L : Nat → Nat → Prop} {i j : Nat} (h : ConnP L i j) : ConnP L j i := fun E a b c d => b _ _ (h E a b c d)
theorem ConnP.trans {L : Nat → Nat → Prop} {i j k : Nat} (h : ConnP L i j) (h2 : ConnP L j k) : ConnP L i k := fun E a b c d => c _ _ _ (h E a b c d) (h2 E a b c d)
theorem ConnP.one {L : Nat → Nat → Prop} {i j : Nat} (h : L i j) : ConnP L i j := fun _ _ _ _ d => d _ _ h
/-- Groups so far: those of one group hang together; of the pairs looked at, linked ones are of one group. -/
structure GInv (L : Nat → Nat → Prop) (q : Nat) (P : Nat → Nat → Prop) (g : List Int) : Prop where
  len : g.length = q
  sound : ∀ i j, i < q → j < q → g.getD i 0 = g.getD j 0 → ConnP L i j
  full : ∀ i k, i < q → k < q → P i k → L i k → g.getD i 0 = g.getD k 0
section
variable {L : Nat → Nat → Prop} {q : Nat} {P P' : Nat → Nat → Prop} {g : List Int}
theorem natsI_at {q i : Nat} (h : i < q) : (natsI (List.range q)).getD i 0 = i := by
  unfold natsI
  rw [List.getD_eq_getElem?_getD, List.getElem?_map, List.getElem?_range h]; rfl
theorem GInv.start (L : Nat → Nat → Prop) (q : Nat) (hP : ∀ i k, ¬ P i k) : GInv L q P (natsI (List.range q)) := by
  refine ⟨by simp [natsI], fun i j hi hj h => ?_, fun i k _ _ h _ => absurd h (hP i k)⟩
  rw [natsI_at hi, natsI_at hj] at h
  obtain rfl : i = j := by omega
  exact ConnP.refl _ _
theorem GInv.skip (h : GInv L q P g) {x y : Nat} (hP : ∀ i k, P' i k → P i k ∨ (i = x ∧ k = y)) (hn : ¬ L x y) : GInv L q P' g := by
  refine ⟨h.len, h.sound, fun i k hi hk hp hl => ?_⟩
  rcases hP i k hp with hp | ⟨rfl, rfl⟩
  · exact h.full i k hi hk hp hl
  · exact absurd hl hn
theorem GInv.weaken (h : GInv L q P g) (hP : ∀ i k, i < q → k < q → P' i k → P i k) : GInv L q P' g := ⟨h.len, h.sound, fun i k hi hk hp hl => h.full i k hi hk (hP i k hi hk hp) hl⟩
theorem mrgL_at {x y i : Nat} (hi : i < g.length) : (mrgL g x y).getD i 0 = subV (g.getD x 0) (g.getD y 0) (g.getD i 0) := by
  unfold mrgL
  rw [List.getD_eq_getElem?_getD, List.getElem?_map, List.getElem?_eq_getElem hi, show g.getD i 0 = g[i] by rw [List.getD_eq_getElem?_getD, List.getElem?_eq_getElem hi]; rfl]; rfl
theorem GInv.merge (h : GInv L q P g) {x y : Nat} (hx : x < q) (hy : y < q) (hP : ∀ i k, P' i k → P i k ∨ (i = x ∧ k = y)) (hl : L x y) : GInv L q P' (mrgL g x y) := by
  have hm : ∀ i, i < q → (mrgL g x y).getD i 0 = subV (g.getD x 0) (g.getD y 0) (g.getD i 0) := fun i hi => mrgL_at (by rw [h.len]; exact hi)
  refine ⟨by rw [mrgL, List.length_map]; exact h.len, fun i j hi hj hij => ?_, fun i k hi hk hp hl2 => ?_⟩
  · rw [hm i hi, hm j hj] at hij
    unfold subV at hij
    have cxy := ConnP.one hl
    split at hij <;> split at hij
    · rename_i a b
      exact h.sound i j hi hj (a.trans b.symm)
    · rename_i a b
      exact (h.sound i x hi hx a).trans (cxy.trans (h.sound y j hy hj hij))
    · rename_i a b
      exact (h.sound i y hi hy hij).trans (cxy.symm.trans (h.sound x j hx hj b.symm))
    · exact h.sound i j hi hj hij
  · rw [hm i hi, hm k hk]
    rcases hP i k hp with hp | ⟨rfl, rfl⟩
    · rw [h.full i k hi hk hp hl2]
    · unfold subV
      rw [if_pos rfl]
      split <;> rfl
/-- All pairs looked at: one group just if all hang together. -/
theorem GInv.done (h : GInv L q P g) (hP : ∀ i k, i < q → k < q → P i k) (hL : ∀ i k, L i k → i < q ∧ k < q) {i : Nat} (hi : i < q) (h0 : 0 < q) : g.getD i 0 = g.getD 0 0 ↔ ConnP L i 0 := by
  refine ⟨h.sound i 0 hi h0, fun hc => ?_⟩
  have h1 := hc (fun a b => a = b ∨ (a < q ∧ b < q ∧ g.getD a 0 = g.getD b 0)) (fun a => .inl rfl) (fun a b hab => by
    rcases hab with rfl | ⟨a1, a2, a3⟩
    · exact .inl rfl
    · exact .inr ⟨a2, a1, a3.symm⟩) (fun a b c hab hbc => by
    rcases hab with rfl | ⟨a1, a2, a3⟩
    · exact hbc
    · rcases hbc with rfl | ⟨b1, b2, b3⟩
      · exact .inr ⟨a1, a2, a3⟩
      · exact .inr ⟨a1, b2, a3.trans b3⟩) (fun a b hab => by
    obtain ⟨a1, a2⟩ := hL a b hab
    exact .inr ⟨a1, a2, h.full a b a1 a2 (hP a b a1 a2) hab⟩)
  rcases h1 with rfl | ⟨_, _, h1⟩
  · rfl
  · exact h1
end
/-- i, and zeros. -/
def fillI (q i : Nat) : List Int := natsI (List.range i) ++ List.replicate (q - i) 0
theorem fillI_zero (q : Nat) : fillI q 0 = List.replicate q 0 := by simp [fillI, natsI]
theorem fillI_all (q : Nat) : fillI q q = natsI (List.range q) := by simp [fillI]
theorem fillI_len {q i : Nat} (h : i ≤ q) : (fillI q i).length = q := by unfold fillI natsI; simp; omega
theorem fillI_set {q i : Nat} (h : i < q) : (fillI q i).set i (i : Int) = fillI q (i + 1) := by
  refine List.ext_getElem? (fun j => ?_)
  rw [List.getElem?_set, fillI_len (by omega)]
  unfold fillI natsI
  by_cases e : i = j
  · subst e
    rw [if_pos rfl, if_pos h, List.getElem?_append_left (by simp)]
    simp
  · rw [if_neg e]
    rcases Nat.lt_or_ge j i with a | a
    · rw [List.getElem?_append_left (by simp; omega), List.getElem?_append_left (by simp; omega)]
      simp [List.getElem?_range, a, show j < i + 1 by omega]
    · rw [List.getElem?_append_right (by simp; omega), List.getElem?_append_right (by simp; omega)]
      simp only [List.length_map, List.length_range, List.getElem?_replicate]
      by_cases b : j - i < q - i
      · rw [if_pos b, if_pos (by omega)]
      · rw [if_neg b, if_neg (by omega)]
def NodeR (fs : Fs) (v : Nat) : Prop := (lonV fs (plsA fs) v = true → (rowsA (plsA fs) v).length ≤ 1) ∧ (lonV fs (plsA fs) v = false → ∀ i, i < (rowsA (plsA fs) v).length → ConnP (LinkP (rowsA (plsA fs) v)) i 0)
def RtP (N : Int) (fs : Fs) : Prop := SizR N fs ∧ EdOk fs ∧ ∀ v : Nat, (v : Int) < N → NodeR fs v

end Go.Proofs.YtealnhaffphamaaGreat
