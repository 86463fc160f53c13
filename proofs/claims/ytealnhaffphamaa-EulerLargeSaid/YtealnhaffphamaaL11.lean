/- Contracts of the functions that the statement reaches, and plain lemmas: part 11 of 24. -/
import Derived.Test.YtealnhaffphamaaL10
import Derived.Deep.CutRange
import Derived.Test.YtealnhaffphamaaProg
import Derived.Below
import Derived.Deep.Draws
import Derived.Deep.AppendLies
import Derived.Maps.AppendAt
import Derived.OwnWalk
import Derived.Laws.BytesArg
import Derived.Laws.MakeOwn
import Derived.Laws.OwnMore
import Derived.Deep.OwnRows
import Derived.Tactics
import Derived.Lib.ConvBytes
import Derived.Laws.Slices
import Derived.WalkKit
import Derived.KernelRfl
import Derived.RowKit3
import Derived.Deep.LoopGhost
import Derived.Deep.QuietTactic
import Derived.BigQuiet
import Derived.WideLaws
import Derived.Deep.DeepCutAuto
import Derived.Deep.CutBlock
import Derived.Deep.RegionHeld3
import Derived.Laws.Rows
import Derived.Lib.AppendStr
import Derived.ArgAppend
import Derived.Laws.IdiomCopy
import Derived.OrdersHeld
import Derived.Laws.BitsLemmas
import Derived.RowKit
import Derived.Test.YtealnhaffphamaaL02
import Derived.Test.YtealnhaffphamaaL03
import Derived.Test.YtealnhaffphamaaL04
set_option linter.unusedVariables false
set_option linter.unusedSimpArgs false

namespace Go.Proofs.Ytealnhaffphamaa
open Go.RowKit Go.Shelf Go.Proofs.YtealnhaffphamaaW.PrintWords

/-- append of a slice of integers that is read, to a row of one's own. -/
theorem run_append_ints (W : World) (base : Nat) (ty : TypeId) (v : Value) (xs ys : List Int) (A : Option Addr) (c : Nat) (HO : W.ownsRow base 3 1 v xs.length (intsV xs)) (HR : RI W A ys) (hbase : base ≤ W.heap.size) (hl : xs.length + ys.length ≤ 100000000) :
    ∃ v1 w1, (Builtin.append_ #[36, 36] ty #[v, .slice A ys.length c]).run Try.prog W = .ok v1 w1 ∧ w1.ownsRow base 3 1 v1 (xs ++ ys).length (intsV (xs ++ ys)) ∧ W.grownBy w1 v.ownBlock ∧ (v1.ownBlock = v.ownBlock ∨ v1.ownBlock = some W.heap.size) := by
  obtain ⟨i0, hi, hz0, hz1, hz2⟩ := info_parts infoI
  rcases A with _ | ad
  · have h0 : ys.length = 0 := by
      rcases Nat.eq_zero_or_pos ys.length with h0 | h0
      · exact h0
      · obtain ⟨ad, h, _⟩ := RI.at HR h0
        cases h
    obtain rfl : ys = [] := List.eq_nil_of_length_eq_zero h0
    refine ⟨v, W, ?_, by simpa using HO, World.grownBy.refl W _, .inl rfl⟩
    rcases HO.2 with ⟨rfl, hn⟩ | ⟨g, cap, cur, rfl, _, _, hnc, _⟩
    · simp [Builtin.append_, run_underlying Try.underlying36, sizeOf, typeInfo, hi, Builtin.lenOf, Builtin.firstCells]
    · simp [Builtin.append_, run_underlying Try.underlying36, sizeOf, typeInfo, hi, Builtin.lenOf, Builtin.firstCells, hnc, storeCells]
  · obtain ⟨v1, w1, hr, h2, h3, _, h5⟩ := run_append_own_at (P := Try.prog) W base 36 ty 3 i0 (.int .i64 0) 1 8 Try.underlying36 hi hz0 hz1 hz2 rfl (by omega) v xs.length (intsV xs) HO ad ys.length c (intsV ys) (by simp [intsV]) (fun j u hu => by
      have hj : j < ys.length := by have := (List.getElem?_eq_some_iff.1 hu).1; rwa [intsV_len] at this
      obtain ⟨ad', h', hc⟩ := RI.at HR hj
      cases h'
      rw [hc, ← hu]
      simp [intsV, List.getD_eq_getElem?_getD, hj])
      (intsV_one ys) (by simp only [maxLen]; omega) (by omega) hbase
    exact ⟨v1, w1, hr, by rw [intsV_app, List.length_append]; exact h2, h3, h5⟩
theorem step_append_ints {ops : Array Oper} {o : Oper} {a : Act} {W : World} {K : Act → World → Prop} {Q : Exit → Act → World → Prop} {E : Prop} (hgd : o.guard = none) (s x : Operand)
    (ho : o.op = .call { callee := .builtin .append, args := #[s, x], argTypes := #[36, 36] })
    (base : Nat) (v : Value) (xs ys : List Int) (A : Option Addr) (m c : Nat) (hm : m = ys.length) (hs : a.eval s = v) (hx : a.eval x = .slice A m c) (HO : W.ownsRow base 3 1 v xs.length (intsV xs)) (HR : RI W A ys) (hbase : base ≤ W.heap.size) (hl : xs.length + ys.length ≤ 100000000)
    (h : ∀ v1 w1, w1.ownsRow base 3 1 v1 (xs ++ ys).length (intsV (xs ++ ys)) → W.grownBy w1 v.ownBlock → (v1.ownBlock = v.ownBlock ∨ v1.ownBlock = some W.heap.size) → K (a.put o.dst v1) w1) :
    if Region.wanted o (yielded ops a.tmps) = true then Oper.wp Try.prog o a W K Q else E := by
  have hw : Region.wanted o (yielded ops a.tmps) = true := by simp [Region.wanted, hgd]
  rw [if_pos hw]
  subst hm
  obtain ⟨v1, w1, hr, h2, h3, h4⟩ := run_append_ints W base o.type v xs ys A c HO HR hbase hl
  unfold Oper.wp execOp
  simp only [ho, resolve, invoke, builtin, Sem.run_bind, Sem.run_pure, Result.andThen_ok, List.map_toArray, List.map_cons, List.map_nil, hs, hx, hr]
  exact h v1 w1 h2 h3 h4
theorem wpList_append_ints {ops : Array Oper} {rest : List Oper} {o : Oper} {a : Act} {W : World} {Q : Exit → Act → World → Prop} (hgd : o.guard = none) (s x : Operand)
    (ho : o.op = .call { callee := .builtin .append, args := #[s, x], argTypes := #[36, 36] })
    (base : Nat) (v : Value) (xs ys : List Int) (A : Option Addr) (m c : Nat) (hm : m = ys.length) (hs : a.eval s = v) (hx : a.eval x = .slice A m c) (HO : W.ownsRow base 3 1 v xs.length (intsV xs)) (HR : RI W A ys) (hbase : base ≤ W.heap.size) (hl : xs.length + ys.length ≤ 100000000)
    (h : ∀ v1 w1, w1.ownsRow base 3 1 v1 (xs ++ ys).length (intsV (xs ++ ys)) → W.grownBy w1 v.ownBlock → (v1.ownBlock = v.ownBlock ∨ v1.ownBlock = some W.heap.size) → wpList Try.prog ops Q rest (a.put o.dst v1) w1) : wpList Try.prog ops Q (o :: rest) a W := by
  refine wpList_plain hgd fun K hK => ?_
  subst hm
  obtain ⟨v1, w1, hr, h2, h3, h4⟩ := run_append_ints W base o.type v xs ys A c HO HR hbase hl
  unfold Oper.wp execOp
  simp only [ho, resolve, invoke, builtin, Sem.run_bind, Sem.run_pure, Result.andThen_ok, List.map_toArray, List.map_cons, List.map_nil, hs, hx, hr]
  exact hK _ _ (h v1 w1 h2 h3 h4)

/-- A copy, with limits. -/
def cpA (fs : Fs) (many loops nodes : Nat) : Fs := (fs.take many).map fun f => (f.take loops).map fun l => l.take nodes
theorem getD_map_nil {α β : Type} (g : List α → List β) (h0 : g [] = []) (xs : List (List α)) (i : Nat) : (xs.map g).getD i [] = g (xs.getD i []) := by
  rw [List.getD_eq_getElem?_getD, List.getD_eq_getElem?_getD, List.getElem?_map]
  cases xs[i]? with
  | none => simp [h0]
  | some x => rfl
theorem getD_take {α : Type} (xs : List (List α)) {k i : Nat} (h : i < k) : (xs.take k).getD i [] = xs.getD i [] := by
  rw [List.getD_eq_getElem?_getD, List.getD_eq_getElem?_getD, List.getElem?_take_of_lt h]
theorem fcA_cpA (fs : Fs) {many loops nodes f : Nat} (h : f < many) : fcA (cpA fs many loops nodes) f = ((fcA fs f).take loops).map fun l => l.take nodes := by
  unfold fcA cpA
  exact (getD_map_nil (α := List Int) (β := List Int) (fun f => (f.take loops).map fun l => l.take nodes) (by simp) _ _).trans (by rw [getD_take fs h])
theorem lpA_cpA (fs : Fs) {many loops nodes f l : Nat} (h : f < many) (hl : l < loops) : lpA (cpA fs many loops nodes) f l = (lpA fs f l).take nodes := by
  unfold lpA lA
  rw [fcA_cpA fs h]
  exact (getD_map_nil (α := Int) (β := Int) (fun l => List.take nodes l) (by simp) _ _).trans (by rw [getD_take _ hl])
theorem cpA_len (fs : Fs) (many loops nodes : Nat) : (cpA fs many loops nodes).length = min many fs.length := by simp [cpA]
theorem fcA_cpA_len (fs : Fs) {many loops nodes f : Nat} (h : f < many) : (fcA (cpA fs many loops nodes) f).length = min loops (fcA fs f).length := by rw [fcA_cpA fs h]; simp
def SCy (B : Nat) (fs : Fs) (ad ad1 : Addr) (A2 : Option Addr) (c c0 c2 k l n m nodes : Nat) (d : Nat) (W : World) (v : Value) : Prop := match d with | 39 => v = .slice none 0 0 | 40 => v = .slice (some ad) fs.length c | 41 => v = .int .i64 k | 42 => v = .pointer (some (ad.add k)) | 43 => v = .slice (some ad1) (fcA fs k).length c0 | 44 => v = .int .i64 l | 45 => v = .pointer (some (ad1.add l)) | 46 => v = .slice A2 n c2 | 47 => v = .slice (some ad) fs.length c | 48 => v = .int .i64 k | 49 => v = .pointer (some (ad.add k)) | 50 => v = .slice (some ad1) (fcA fs k).length c0 | 51 => v = .int .i64 l | 52 => v = .pointer (some (ad1.add l)) | 53 => v = .slice A2 n c2 | 54 => v = .int .i64 n | 55 => v = .int .i64 nodes | 56 => v = .int .i64 m | 57 => v = .slice A2 m c2 | 58 => W.ownsRow B 3 1 v m (intsV ((lpA fs k l).take nodes)) | 13 => W.ownsRow B 3 1 v m (intsV ((lpA fs k l).take nodes)) | _ => True
theorem SCy.grown {B : Nat} {fs : Fs} {ad ad1 : Addr} {A2 : Option Addr} {c c0 c2 k l n m nodes : Nat} {W W1 : World} (hg : W.grownBy W1 none) : ∀ d v, SCy B fs ad ad1 A2 c c0 c2 k l n m nodes d W v → SCy B fs ad ad1 A2 c c0 c2 k l n m nodes d W1 v := by
  intro d v h
  unfold SCy at h ⊢
  split at h
  all_goals first | exact h | exact own_keptB h hg (fun b e => by cases e)

set_option maxRecDepth 100000 in
set_option maxHeartbeats 4000000 in
theorem copy_any (A : Option Addr) (c : Nat) (fs : Fs) (many loops nodes : Nat) (w : World) (hF : RF w A fs) (hc : fs.length ≤ c) (hm : many ≤ 100000) (hl : loops ≤ 100000) (hn : nodes ≤ 100000) :
    Calls Try.prog 12 #[.slice A fs.length c, .int .i64 many, .int .i64 loops, .int .i64 nodes] w fun e w' => (∃ v vf vl, e = .returned v ∧ MW w.heap.size v (cpA fs many loops nodes) (cpA fs many loops nodes).length vf vl w') ∧ Below w.heap.size w w' := by
  have HF := Lib.hid hF
  have HMA := Lib.hid hm
  have HLO := Lib.hid hl
  have HNO := Lib.hid hn
  have hN := hF.len
  clear hF hc hm hl hn
  go_enter Try.func12, Try.ntmps12
  go_wp2
  obtain ⟨G, hG⟩ : ∃ G, G = cpA fs many loops nodes := ⟨_, rfl⟩
  have HGG := Lib.hid hG
  clear hG
  have HB0 : Hid (Below w.heap.size w w) := Below.refl _ _
  go_loopw [9, 10] (fun s9 s10 wr => ∃ (k : Nat) (vf : Nat → Value) (vl : Nat → Nat → Value), k ≤ fs.length ∧ k ≤ many ∧ s10 = .int .i64 k ∧ Hid (Below w.heap.size w wr) ∧ Hid (MW w.heap.size s9 G k vf vl wr)) (fun _ v _ => fs.length - (intOf v).toNat)
  case atStart => exact ⟨0, fun _ => undef, fun _ _ => undef, by omega, by omega, rfl, HB0, MW.nil _ _ _⟩
  case round =>
    clear HB0
    rename World => wr
    obtain ⟨k, vf, vl, hk, hkm, rfl, HB, HM⟩ := hrel
    by_cases hlt : k < fs.length ∧ k < many
    · obtain ⟨hlt, hltm⟩ := hlt
      have hkz : (k : Int) < (fs.length : Int) := by omega
      have hkmz : (k : Int) < (many : Int) := by omega
      obtain ⟨ad, A0, c0, rfl, hc0, hl0, hr0⟩ := HF.out.at hlt
      have HCK := Lib.hid hc0
      have hc0 := pw_cell_below HB.out hc0
      have HR0 := Lib.hid hr0
      have hn0 := hr0.len
      obtain ⟨B', hB'⟩ : ∃ B', wr.heap.size = B' := ⟨_, rfl⟩
      have HOLD : Hid (∀ b, MB u9 G k vf vl b → b < B') := fun b hb => by rw [← hB']; exact (HM.out.lt hb).2
      have HBB : Hid (w.heap.size ≤ B') := by rw [← hB']; exact HB.out.size
      have HFCK : Hid (fcA G k = ((fcA fs k).take loops).map fun l => l.take nodes) := by rw [HGG.out]; exact fcA_cpA fs hltm
      clear hr0
      go_upto_region 5 with fail
      go_cut [11] from 14 to 66 (fun s11 wc => s11 = .slice none 0 0 ∧ wr = wc)
      case first =>
        go_wp2
        go_meet
        case rel => exact ⟨rfl, rfl⟩
      case rest =>
      obtain ⟨rfl, rfl⟩ := hcut
      go_wp2
      go_loopw [11, 12] (fun s11 s12 wi => ∃ (l : Nat) (lv : Nat → Value), l ≤ (fcA fs k).length ∧ l ≤ loops ∧ s12 = .int .i64 l ∧ Hid (Below w.heap.size w wi) ∧ Hid (MW w.heap.size u9 G k vf vl wi) ∧ Hid (FW B' s11 (fcA G k) l lv wi) ∧ Hid (B' ≤ wi.heap.size)) (fun _ v _ => (fcA fs k).length - (intOf v).toNat)
      case atStart => exact ⟨0, fun _ => undef, by omega, by omega, rfl, HB, HM, FW.nil _ _, Nat.le_of_eq hB'.symm⟩
      case round =>
        clear HB HM hc0 hB'
        rename World => wi
        obtain ⟨l, lv, hl, hlm, rfl, HBI, HM, HFW, HSZ⟩ := hrel
        have hc0 := pw_cell_below HBI.out (show w.cell? (ad.add k) = some (.slice A0 (fcA fs k).length c0) from HCK.out)
        by_cases hlt2 : l < (fcA fs k).length ∧ l < loops
        · obtain ⟨hlt2, hltm2⟩ := hlt2
          have hlz : (l : Int) < ((fcA fs k).length : Int) := by omega
          have hlmz : (l : Int) < (loops : Int) := by omega
          obtain ⟨ad1, A2, c2, rfl, hc1, hl1, hr1⟩ := HR0.out.atP hlt2
          have HR1 := Lib.hid hr1
          have HC1 : Hid (∀ W, Below w.heap.size w W → W.cell? (ad1.add l) = some (.slice A2 (lpA fs k l).length c2)) := fun W h => pw_cell_below h hc1
          have HC0 : Hid (∀ W, Below w.heap.size w W → W.cell? (ad.add k) = some (.slice (some ad1) (fcA fs k).length c0)) := fun W h => pw_cell_below h HCK.out
          obtain ⟨n, hn⟩ : ∃ n, n = (lpA fs k l).length := ⟨_, rfl⟩
          have hn1 := hr1.len
          rw [← hn] at hl1 hn1
          obtain ⟨m, hm⟩ : ∃ m, m = min n nodes := ⟨_, rfl⟩
          have HN := Lib.hid hn
          rw [← hn] at HC1
          have hmz : min (n : Int) (nodes : Int) = (m : Int) := by omega
          have HM0 := Lib.hid hm
          clear hr1 hc1 hn hm
          go_upto_region 9 with fail
          go_cut [13] from 25 to 62 (fun s13 wc => s13 = .slice none 0 0 ∧ wi = wc)
          case first =>
            go_wp2
            go_meet
            case rel => exact ⟨rfl, rfl⟩
          case rest =>
            obtain ⟨rfl, rfl⟩ := hcut
            clear hc0
            go_upto_region 10 with fail
            obtain ⟨iI, hiI, hiI0, hiI1, hiI2⟩ := info_parts infoI
            refine wp_region_inv' (by kernel_rfl) (by kernel_rfl) (fun listed aa wy => ∃ t : Nat → Value, aa = { tmps := #[.slice (some ad) fs.length c, .int .i64 many, .int .i64 loops, .int .i64 nodes, undef, undef, undef, undef, .slice none 0 0, u9, .int .i64 k, u11, .int .i64 l, t 13, u14, u15, u16, u17, u18, u19, u20, u21, u22, u23, u24, u25, u26, u27, u28, u29, u30, u31, u32, u33, u34, u35, u36, u37, u38, t 39, t 40, t 41, t 42, t 43, t 44, t 45, t 46, t 47, t 48, t 49, t 50, t 51, t 52, t 53, t 54, t 55, t 56, t 57, t 58, u59, u60, u61, u62, u63, u64, u65, u66, undef], defers := [] } ∧ IRX 20 13 (.slice none 0 0) (fun wz => Below w.heap.size w wz ∧ MW w.heap.size u9 G k vf vl wz ∧ FW B' u11 (fcA G k) l lv wz ∧ B' ≤ wz.heap.size) (SCy B' fs ad ad1 A2 c c0 c2 k l n m nodes) [(0, 39), (1, 40), (2, 41), (3, 42), (4, 43), (5, 44), (6, 45), (7, 46), (8, 47), (9, 48), (10, 49), (11, 50), (12, 51), (13, 52), (14, 53), (15, 54), (16, 55), (17, 56), (18, 57), (19, 58), (20, 13)] listed t wy) ⟨(fun d => match d with | 13 => .slice none 0 0 | 39 => u39 | 40 => u40 | 41 => u41 | 42 => u42 | 43 => u43 | 44 => u44 | 45 => u45 | 46 => u46 | 47 => u47 | 48 => u48 | 49 => u49 | 50 => u50 | 51 => u51 | 52 => u52 | 53 => u53 | 54 => u54 | 55 => u55 | 56 => u56 | 57 => u57 | 58 => u58 | _ => undef), rfl, IRX.start _ ⟨HBI.out.grown (grown_drew _) HBI.out.size (fun k e => by cases e), HM.out.kept (grown_drew _) (fun r e => by cases e), HFW.out.kept (grown_drew _) (fun r e => by cases e), HSZ.out⟩ _ rfl⟩ ?_ ?_
            rotate_left
            · rintro listed hCl ix hix aa wy ⟨t, rfl, hR⟩ hr
              match ix, hix, hr with
              | 0, _, hr =>
                as_aux_lemma =>
                refine wpOp_step rfl (fun K' hK => ?_)
                have e0 : t 13 = .slice none 0 0 := hR.ini (hCl.not hr 9 (by kernel_rfl))
                go_simp
                exact hK _ _ ⟨upd t 39 (.slice none 0 0), by first | (simp [upd, e0]; done) | (simp [upd, e0]; rfl), hR.yields (by decide) (by decide) hR.ir.fin (fun _ _ h => h) (by rfl) rfl⟩
              | 1, _, hr =>
                as_aux_lemma =>
                refine wpOp_step rfl (fun K' hK => ?_)
                go_simp
                exact hK _ _ ⟨upd t 40 (.slice (some ad) fs.length c), rfl, hR.yields (by decide) (by decide) hR.ir.fin (fun _ _ h => h) (by rfl) rfl⟩
              | 2, _, hr =>
                as_aux_lemma =>
                refine wpOp_step rfl (fun K' hK => ?_)
                go_simp
                exact hK _ _ ⟨upd t 41 (.int .i64 k), rfl, hR.yields (by decide) (by decide) hR.ir.fin (fun _ _ h => h) (by rfl) rfl⟩
              | 3, _, hr =>
                as_aux_lemma =>
                refine wpOp_step rfl (fun K' hK => ?_)
                have e1 : t 40 = .slice (some ad) fs.length c := hR.ir.val (1, 40) (by simp) (dep_of hr 1 (by kernel_rfl))
                have e2 : t 41 = .int .i64 k := hR.ir.val (2, 41) (by simp) (dep_of hr 2 (by kernel_rfl))
                go_simp
                exact hK _ _ ⟨upd t 42 (.pointer (some (ad.add k))), by first | (simp [upd, e1, e2]; done) | (simp [upd, e1, e2]; rfl), hR.yields (by decide) (by decide) hR.ir.fin (fun _ _ h => h) (by rfl) rfl⟩
              | 4, _, hr =>
                as_aux_lemma =>
                refine wpOp_step rfl (fun K' hK => ?_)
                have e1 : t 42 = .pointer (some (ad.add k)) := hR.ir.val (3, 42) (by simp) (dep_of hr 3 (by kernel_rfl))
                have f0 := HC0.out _ hR.ir.fin.1
                go_simp
                exact hK _ _ ⟨upd t 43 (.slice (some ad1) (fcA fs k).length c0), by first | (simp [upd, e1]; done) | (simp [upd, e1]; rfl), hR.yields (by decide) (by decide) hR.ir.fin (fun _ _ h => h) (by rfl) rfl⟩
              | 5, _, hr =>
                as_aux_lemma =>
                refine wpOp_step rfl (fun K' hK => ?_)
                go_simp
                exact hK _ _ ⟨upd t 44 (.int .i64 l), rfl, hR.yields (by decide) (by decide) hR.ir.fin (fun _ _ h => h) (by rfl) rfl⟩
              | 6, _, hr =>
                as_aux_lemma =>
                refine wpOp_step rfl (fun K' hK => ?_)
                have e1 : t 43 = .slice (some ad1) (fcA fs k).length c0 := hR.ir.val (4, 43) (by simp) (dep_of hr 4 (by kernel_rfl))
                have e2 : t 44 = .int .i64 l := hR.ir.val (5, 44) (by simp) (dep_of hr 5 (by kernel_rfl))
                go_simp
                exact hK _ _ ⟨upd t 45 (.pointer (some (ad1.add l))), by first | (simp [upd, e1, e2]; done) | (simp [upd, e1, e2]; rfl), hR.yields (by decide) (by decide) hR.ir.fin (fun _ _ h => h) (by rfl) rfl⟩
              | 7, _, hr =>
                as_aux_lemma =>
                refine wpOp_step rfl (fun K' hK => ?_)
                have e1 : t 45 = .pointer (some (ad1.add l)) := hR.ir.val (6, 45) (by simp) (dep_of hr 6 (by kernel_rfl))
                have f0 := HC1.out _ hR.ir.fin.1
                go_simp
                exact hK _ _ ⟨upd t 46 (.slice A2 n c2), by first | (simp [upd, e1]; done) | (simp [upd, e1]; rfl), hR.yields (by decide) (by decide) hR.ir.fin (fun _ _ h => h) (by rfl) rfl⟩
              | 8, _, hr =>
                as_aux_lemma =>
                refine wpOp_step rfl (fun K' hK => ?_)
                go_simp
                exact hK _ _ ⟨upd t 47 (.slice (some ad) fs.length c), rfl, hR.yields (by decide) (by decide) hR.ir.fin (fun _ _ h => h) (by rfl) rfl⟩
              | 9, _, hr =>
                as_aux_lemma =>
                refine wpOp_step rfl (fun K' hK => ?_)
                go_simp
                exact hK _ _ ⟨upd t 48 (.int .i64 k), rfl, hR.yields (by decide) (by decide) hR.ir.fin (fun _ _ h => h) (by rfl) rfl⟩
              | 10, _, hr =>
                as_aux_lemma =>
                refine wpOp_step rfl (fun K' hK => ?_)
                have e1 : t 47 = .slice (some ad) fs.length c := hR.ir.val (8, 47) (by simp) (dep_of hr 8 (by kernel_rfl))
                have e2 : t 48 = .int .i64 k := hR.ir.val (9, 48) (by simp) (dep_of hr 9 (by kernel_rfl))
                go_simp
                exact hK _ _ ⟨upd t 49 (.pointer (some (ad.add k))), by first | (simp [upd, e1, e2]; done) | (simp [upd, e1, e2]; rfl), hR.yields (by decide) (by decide) hR.ir.fin (fun _ _ h => h) (by rfl) rfl⟩
              | 11, _, hr =>
                as_aux_lemma =>
                refine wpOp_step rfl (fun K' hK => ?_)
                have e1 : t 49 = .pointer (some (ad.add k)) := hR.ir.val (10, 49) (by simp) (dep_of hr 10 (by kernel_rfl))
                have f0 := HC0.out _ hR.ir.fin.1
                go_simp
                exact hK _ _ ⟨upd t 50 (.slice (some ad1) (fcA fs k).length c0), by first | (simp [upd, e1]; done) | (simp [upd, e1]; rfl), hR.yields (by decide) (by decide) hR.ir.fin (fun _ _ h => h) (by rfl) rfl⟩
              | 12, _, hr =>
                as_aux_lemma =>
                refine wpOp_step rfl (fun K' hK => ?_)
                go_simp
                exact hK _ _ ⟨upd t 51 (.int .i64 l), rfl, hR.yields (by decide) (by decide) hR.ir.fin (fun _ _ h => h) (by rfl) rfl⟩
              | 13, _, hr =>
                as_aux_lemma =>
                refine wpOp_step rfl (fun K' hK => ?_)
                have e1 : t 50 = .slice (some ad1) (fcA fs k).length c0 := hR.ir.val (11, 50) (by simp) (dep_of hr 11 (by kernel_rfl))
                have e2 : t 51 = .int .i64 l := hR.ir.val (12, 51) (by simp) (dep_of hr 12 (by kernel_rfl))
                go_simp
                exact hK _ _ ⟨upd t 52 (.pointer (some (ad1.add l))), by first | (simp [upd, e1, e2]; done) | (simp [upd, e1, e2]; rfl), hR.yields (by decide) (by decide) hR.ir.fin (fun _ _ h => h) (by rfl) rfl⟩
              | 14, _, hr =>
                as_aux_lemma =>
                refine wpOp_step rfl (fun K' hK => ?_)
                have e1 : t 52 = .pointer (some (ad1.add l)) := hR.ir.val (13, 52) (by simp) (dep_of hr 13 (by kernel_rfl))
                have f0 := HC1.out _ hR.ir.fin.1
                go_simp
                exact hK _ _ ⟨upd t 53 (.slice A2 n c2), by first | (simp [upd, e1]; done) | (simp [upd, e1]; rfl), hR.yields (by decide) (by decide) hR.ir.fin (fun _ _ h => h) (by rfl) rfl⟩
              | 15, _, hr =>
                as_aux_lemma =>
                refine wpOp_step rfl (fun K' hK => ?_)
                have e1 : t 53 = .slice A2 n c2 := hR.ir.val (14, 53) (by simp) (dep_of hr 14 (by kernel_rfl))
                go_simp
                exact hK _ _ ⟨upd t 54 (.int .i64 n), by first | (simp [upd, e1]; done) | (simp [upd, e1]; rfl), hR.yields (by decide) (by decide) hR.ir.fin (fun _ _ h => h) (by rfl) rfl⟩
              | 16, _, hr =>
                as_aux_lemma =>
                refine wpOp_step rfl (fun K' hK => ?_)
                go_simp
                exact hK _ _ ⟨upd t 55 (.int .i64 nodes), rfl, hR.yields (by decide) (by decide) hR.ir.fin (fun _ _ h => h) (by rfl) rfl⟩
              | 17, _, hr =>
                as_aux_lemma =>
                refine wpOp_step rfl (fun K' hK => ?_)
                have e1 : t 54 = .int .i64 n := hR.ir.val (15, 54) (by simp) (dep_of hr 15 (by kernel_rfl))
                have e2 : t 55 = .int .i64 nodes := hR.ir.val (16, 55) (by simp) (dep_of hr 16 (by kernel_rfl))
                go_simp
                exact hK _ _ ⟨upd t 56 (.int .i64 m), by first | (simp [upd, e1, e2]; done) | (simp [upd, e1, e2]; rfl), hR.yields (by decide) (by decide) hR.ir.fin (fun _ _ h => h) (by rfl) rfl⟩
              | 18, _, hr =>
                as_aux_lemma =>
                refine wpOp_step rfl (fun K' hK => ?_)
                have e1 : t 46 = .slice A2 n c2 := hR.ir.val (7, 46) (by simp) (dep_of hr 7 (by kernel_rfl))
                have e2 : t 56 = .int .i64 m := hR.ir.val (17, 56) (by simp) (dep_of hr 17 (by kernel_rfl))
                have hct := cut_to (P := Try.prog) 36 3 .i64 Try.underlying36 hiI A2 n c2 (m : Int) (by omega) (by have := HM0.out; omega) hl1 wy
                rw [Int.toNat_natCast] at hct
                go_simp
                exact hK _ _ ⟨upd t 57 (.slice A2 m c2), by first | (simp [upd, e1, e2]; done) | (simp [upd, e1, e2]; rfl), hR.yields (by decide) (by decide) hR.ir.fin (fun _ _ h => h) (by rfl) rfl⟩
              | 19, _, hr =>
                as_aux_lemma =>
                refine wpOp_step rfl (fun K' hK => ?_)
                have e1 : t 39 = .slice none 0 0 := hR.ir.val (0, 39) (by simp) (dep_of hr 0 (by kernel_rfl))
                have e2 : t 57 = .slice A2 m c2 := hR.ir.val (18, 57) (by simp) (dep_of hr 18 (by kernel_rfl))
                have hI2 := hR.ir.fin
                have hr2 := RI.below HR1.out hI2.1
                have hr3 : RI wy A2 ((lpA fs k l).take nodes) := by have h := Kd.C_take (m := m) hr2 (by have h1 := HM0.out; have h2 := HN.out; omega); rwa [show (lpA fs k l).take m = (lpA fs k l).take nodes by have h1 := HM0.out; have h2 := HN.out; rw [List.take_eq_take_iff]; omega] at h
                refine step_append_ints rfl (.tmp 39) (.tmp 57) rfl B' (.slice none 0 0) [] ((lpA fs k l).take nodes) A2 m c2 (by have h1 := HM0.out; have h2 := HN.out; rw [List.length_take]; omega) e1 e2 (World.ownsRow_nil _ _ _ _) hr3 hI2.2.2.2 (by have h1 := HNO.out; rw [List.length_take]; simp; omega) ?_
                intro v1 w1 hown hg hat
                have hg : wy.grownBy w1 none := hg
                refine hK _ _ ⟨upd t 58 v1, rfl, hR.yields (by decide) (by decide) ⟨hI2.1.grown hg hI2.1.size (fun k e => by cases e), hI2.2.1.kept hg (fun r e => by cases e), hI2.2.2.1.kept hg (fun r e => by cases e), Nat.le_trans hI2.2.2.2 hg.size⟩ (SCy.grown hg) ?_ rfl⟩
                have hl3 : ([] ++ (lpA fs k l).take nodes).length = m := by have h1 := HM0.out; have h2 := HN.out; simp; omega
                rw [hl3] at hown
                exact hown
              | 20, _, hr =>
                as_aux_lemma =>
                refine wpOp_step rfl (fun K' hK => ?_)
                have h58 : wy.ownsRow B' 3 1 (t 58) m (intsV ((lpA fs k l).take nodes)) := hR.ir.val (19, 58) (by simp) (dep_of hr 19 (by kernel_rfl))
                go_simp
                exact hK _ _ ⟨upd t 13 (t 58), rfl, hR.ends hr hR.ir.fin (fun _ _ h => h) h58 rfl⟩
              | nx + 21, hix, _ => exact absurd (show nx + 21 < 21 from hix) (by omega)
            rintro listed a2 W10 ⟨t, rfl, hR⟩ hl
            have hrow : W10.ownsRow B' 3 1 (t 13) m (intsV ((lpA fs k l).take nodes)) := hR.ir.val (20, 13) (by simp) (hl 20 (by decide))
            obtain ⟨hB10, hM10, hF10, hS10⟩ := hR.ir.fin
            clear hR hl
            generalize t 13 = u13 at hrow ⊢
            generalize t 39 = u39
            generalize t 40 = u40
            generalize t 41 = u41
            generalize t 42 = u42
            generalize t 43 = u43
            generalize t 44 = u44
            generalize t 45 = u45
            generalize t 46 = u46
            generalize t 47 = u47
            generalize t 48 = u48
            generalize t 49 = u49
            generalize t 50 = u50
            generalize t 51 = u51
            generalize t 52 = u52
            generalize t 53 = u53
            generalize t 54 = u54
            generalize t 55 = u55
            generalize t 56 = u56
            generalize t 57 = u57
            generalize t 58 = u58
            obtain ⟨⟨A13, n13, c13⟩, h13⟩ := slice_of_own hrow
            simp only [encS] at h13
            subst h13
            obtain ⟨iL, hiL, hiL0, hiL1, hiL2⟩ := info_parts infoL
            have hg3 : W10.grownBy (W10.alloc (.cells #[.slice A13 n13 c13] 36)) none := World.grownBy_alloc _ _ _
            have HBX3 := Lib.hid (hB10.grown hg3 hB10.size (fun k e => by cases e))
            have HM3 := Lib.hid (hM10.kept hg3 (fun r e => by cases e))
            have HFW3 := Lib.hid (hF10.kept hg3 (fun r e => by cases e))
            have HOW3 := Lib.hid (own_keptB hrow hg3 (fun r e => by cases e))
            have HS3 : Hid (B' ≤ (W10.alloc (.cells #[.slice A13 n13 c13] 36)).heap.size) := Nat.le_trans hS10 hg3.size
            have hs0l : l + 1 ≤ 1000001 := by have := HLO.out; omega
            clear hg3 hB10 hM10 hF10 hS10 hrow HBI HM HFW HSZ
            go_wp2_with (at_builtin; refine wpList_append_own _ rfl _ _ 37 rfl B' 36 iL (.slice none 0 0) 1 24 Try.underlying37 hiL hiL0 hiL1 hiL2 rfl (by decide) _ _ _ rfl HFW3.out.own ⟨W10.heap.size, 0, none⟩ 1 1 [.slice A13 n13 c13] rfl rfl (cell_one_new _ _ _) (by simp [Value.oneCell']) (by simp only [maxLen]; omega) (by omega) HS3.out ?_; intro v' w4 hown4 hg4 _)
            go_roundw
            case rel =>
              have hB4 : ∀ r, u11.ownBlock = some r → B' ≤ r := fun r e => (HFW3.out.lt (.inl e)).1
              have hll : lA (fcA G k) l = (lpA fs k l).take nodes := by rw [HGG.out]; exact lpA_cpA fs hltm hltm2
              refine ⟨l + 1, fun j => if j = l then .slice A13 n13 c13 else lv j, by omega, by omega, by go_num, HBX3.out.grown hg4 HBX3.out.size (fun r e => by have := hB4 r e; have := HBB.out; omega), HM3.out.kept hg4 (fun r e q => by have := hB4 r e; have := HOLD.out _ q; omega), FW.snoc HFW3.out ?_ hown4 hg4, Nat.le_trans HS3.out hg4.size⟩
              rw [hll, show ((lpA fs k l).take nodes).length = m by have h1 := HM0.out; have h2 := HN.out; rw [List.length_take]; omega]
              exact HOW3.out
            case measure => simp [intOf]; omega
        · have HLEN : Hid (l = (fcA G k).length) := by
            show l = _
            rw [HGG.out, fcA_cpA_len fs hltm]; omega
          obtain ⟨AF, cF, hu11⟩ := own_slice HFW.out.own
          subst hu11
          obtain ⟨iF, hiF, hiF0, hiF1, hiF2⟩ := info_parts infoF
          have hg3 : wi.grownBy (wi.alloc (.cells #[.slice AF l cF] 37)) none := World.grownBy_alloc _ _ _
          have HBX3 := Lib.hid (HBI.out.grown hg3 HBI.out.size (fun k e => by cases e))
          have HM3 := Lib.hid (HM.out.kept hg3 (fun r e => by cases e))
          have HFW3 := Lib.hid (HFW.out.kept hg3 (fun r e => by cases e))
          have HS3 : Hid (w.heap.size ≤ (wi.alloc (.cells #[.slice AF l cF] 37)).heap.size) := Nat.le_trans HBI.out.size hg3.size
          have hkb : k + 1 ≤ 100000 := by have := HMA.out; omega
          clear hg3 HBI HM HFW
          by_cases hq : (l : Int) < ((fcA fs k).length : Int)
          · have hq2 : ¬ (l : Int) < (loops : Int) := by omega
            go_wp2_with (at_builtin; refine wpList_append_own _ rfl _ _ 24 rfl w.heap.size 37 iF (.slice none 0 0) 1 24 Try.underlying24 hiF hiF0 hiF1 hiF2 rfl (by decide) _ _ _ rfl HM3.out.own ⟨wi.heap.size, 0, none⟩ 1 1 [.slice AF l cF] rfl rfl (cell_one_new _ _ _) (by simp [Value.oneCell']) (by simp only [maxLen]; omega) (by omega) HS3.out ?_; intro v' w4 hown4 hg4 _)
            go_roundw
            case rel =>
              have hm5 := MW.snoc HM3.out (by rw [← HLEN.out]; exact HFW3.out.lower HBB.out) (fun f hf => by
                cases hb : (vf f).ownBlock with
                | none => exact .inl rfl
                | some r => exact .inr (fun e => by
                    have h1 := HOLD.out r (.inr ⟨f, hf, .inl hb⟩)
                    have h2 := (HFW3.out.lt (.inl e.symm)).1
                    omega)) hown4 hg4
              exact ⟨k + 1, _, _, by omega, by omega, by go_num, HBX3.out.grown hg4 HBX3.out.size (fun r e => (HM3.out.lt (.inl e)).1), hm5⟩
            case measure => simp [intOf]; omega
          · go_wp2_with (at_builtin; refine wpList_append_own _ rfl _ _ 24 rfl w.heap.size 37 iF (.slice none 0 0) 1 24 Try.underlying24 hiF hiF0 hiF1 hiF2 rfl (by decide) _ _ _ rfl HM3.out.own ⟨wi.heap.size, 0, none⟩ 1 1 [.slice AF l cF] rfl rfl (cell_one_new _ _ _) (by simp [Value.oneCell']) (by simp only [maxLen]; omega) (by omega) HS3.out ?_; intro v' w4 hown4 hg4 _)
            go_roundw
            case rel =>
              have hm5 := MW.snoc HM3.out (by rw [← HLEN.out]; exact HFW3.out.lower HBB.out) (fun f hf => by
                cases hb : (vf f).ownBlock with
                | none => exact .inl rfl
                | some r => exact .inr (fun e => by
                    have h1 := HOLD.out r (.inr ⟨f, hf, .inl hb⟩)
                    have h2 := (HFW3.out.lt (.inl e.symm)).1
                    omega)) hown4 hg4
              exact ⟨k + 1, _, _, by omega, by omega, by go_num, HBX3.out.grown hg4 HBX3.out.size (fun r e => (HM3.out.lt (.inl e)).1), hm5⟩
            case measure => simp [intOf]; omega
    · have HLEN : Hid (k = G.length) := by
        show k = _
        rw [HGG.out, cpA_len]; omega
      obtain ⟨AV, cV, hu9⟩ := own_slice HM.out.own
      subst hu9
      by_cases hq : (k : Int) < (fs.length : Int)
      · have hq2 : ¬ (k : Int) < (many : Int) := by omega
        go_wp2
        go_ret
        exact ⟨⟨_, rfl, vf, vl, by rw [← HGG.out, ← HLEN.out]; exact HM.out⟩, HB.out⟩
      · go_wp2
        go_ret
        exact ⟨⟨_, rfl, vf, vl, by rw [← HGG.out, ← HLEN.out]; exact HM.out⟩, HB.out⟩

end Go.Proofs.Ytealnhaffphamaa

-- PRINTED BY print.sh 35421559b90ae4d0a3588c463048766b98c2df88dd9212a6774a882060cdf62d: not written by this session
namespace Go.Proofs.Ytealnhaffphamaa.PCmp
open Go.RowKit Go.Proofs.YtealnhaffphamaaW.PrintWords Go.Proofs.YtealnhaffphamaaW.PrintLast Go.Proofs.YtealnhaffphamaaW.PrintMore
attribute [local go_sem] max2_int min2_int max_two min_two max_three min_three max_four min_four   -- for this text's walks alone
set_option linter.unusedVariables false
set_option linter.unusedSimpArgs false



def errW : Option Int → Value
  | none => .nilIface
  | some c => .iface 0 (.int .i64 c)
theorem errW_none : errW none = .nilIface := rfl
theorem errW_some (c : Int) : errW (some c) = .iface 0 (.int .i64 c) := rfl

-- the values' own types

end Go.Proofs.Ytealnhaffphamaa.PCmp

-- PRINTED BY print.sh 35421559b90ae4d0a3588c463048766b98c2df88dd9212a6774a882060cdf62d: not written by this session
namespace Go.Proofs.Ytealnhaffphamaa.PCmp
open Go.RowKit Go.Proofs.YtealnhaffphamaaW.PrintWords Go.Proofs.YtealnhaffphamaaW.PrintLast Go.Proofs.YtealnhaffphamaaW.PrintMore
attribute [local go_sem] max2_int min2_int max_two min_two max_three min_three max_four min_four   -- for this text's walks alone
set_option linter.unusedVariables false
set_option linter.unusedSimpArgs false

/-! ### spokeshaveref14_cmp: function 76 -/
mutual
def spokeshaveref14_cmp.l0 : Nat → List Int → List Int → Int → Option (Int)
  | 0, _, _, _ => none
  | k + 1, x0, x1, x5 => if x5 < (x0.length : Int) then (spokeshaveref14_cmp.j1 k x0 x1 x5 (decide (x5 < (x1.length : Int)))) else (spokeshaveref14_cmp.j1 k x0 x1 x5 false)
def spokeshaveref14_cmp.j1 : Nat → List Int → List Int → Int → Bool → Option (Int)
  | 0, _, _, _, _ => none
  | k + 1, x0, x1, x5, x15 => if x15 = true then (if 0 ≤ x5 then (if x5 < (x0.length : Int) then (if x5 < (x1.length : Int) then (if (rd x0 x5) = (rd x1 x5) then (spokeshaveref14_cmp.l0 k x0 x1 (wrap64 (x5 + 1))) else (if (rd x0 x5) < (rd x1 x5) then (some (-1)) else (some 1))) else (none)) else (none)) else (none)) else (if (x0.length : Int) < (x1.length : Int) then (some (-1)) else (if (x0.length : Int) > (x1.length : Int) then (some 1) else (some 0)))
end
def spokeshaveref14_cmp.f (k : Nat) (l0 : List Int) (l1 : List Int) : Option (Int) := spokeshaveref14_cmp.l0 k l0 l1 0
theorem spokeshaveref14_cmp.mono_l : ∀ k, (∀ y0 y1 y2, LeO (spokeshaveref14_cmp.l0 k y0 y1 y2) (spokeshaveref14_cmp.l0 (k + 1) y0 y1 y2)) ∧ (∀ y0 y1 y2 y3, LeO (spokeshaveref14_cmp.j1 k y0 y1 y2 y3) (spokeshaveref14_cmp.j1 (k + 1) y0 y1 y2 y3))
  | 0 => ⟨fun _ _ _ r h => by simp [spokeshaveref14_cmp.l0] at h, fun _ _ _ _ r h => by simp [spokeshaveref14_cmp.j1] at h⟩
  | k + 1 => by
    obtain ⟨ih0, ih1⟩ := spokeshaveref14_cmp.mono_l k
    refine ⟨?_, ?_⟩
    · intro y0 y1 y2
      unfold spokeshaveref14_cmp.l0
      repeat' first
      | (with_reducible exact ih0 _ _ _)
      | (with_reducible exact ih1 _ _ _ _)
      | (with_reducible exact LeO.refl _)
      | (with_reducible exact LeO.none _)
      | (with_reducible refine LeO.ite ?_ ?_)
      | (with_reducible refine LeO.bind ?_ (fun _ => ?_))
      | exact ih0 _ _ _
      | exact ih1 _ _ _ _
      | exact LeO.none _
      | refine LeO.ite ?_ ?_
      | refine LeO.bind ?_ (fun _ => ?_)
    · intro y0 y1 y2 y3
      unfold spokeshaveref14_cmp.j1
      repeat' first
      | (with_reducible exact ih0 _ _ _)
      | (with_reducible exact ih1 _ _ _ _)
      | (with_reducible exact LeO.refl _)
      | (with_reducible exact LeO.none _)
      | (with_reducible refine LeO.ite ?_ ?_)
      | (with_reducible refine LeO.bind ?_ (fun _ => ?_))
      | exact ih0 _ _ _
      | exact ih1 _ _ _ _
      | exact LeO.none _
      | refine LeO.ite ?_ ?_
      | refine LeO.bind ?_ (fun _ => ?_)
theorem spokeshaveref14_cmp.mono : ∀ a0 a1 k, LeO (spokeshaveref14_cmp.f k a0 a1) (spokeshaveref14_cmp.f (k + 1) a0 a1) := by
  intro a0 a1 k
  obtain ⟨ih0, ih1⟩ := spokeshaveref14_cmp.mono_l k
  unfold spokeshaveref14_cmp.f
  repeat' first
      | (with_reducible exact ih0 _ _ _)
      | (with_reducible exact ih1 _ _ _ _)
      | (with_reducible exact LeO.refl _)
      | (with_reducible exact LeO.none _)
      | (with_reducible refine LeO.ite ?_ ?_)
      | (with_reducible refine LeO.bind ?_ (fun _ => ?_))
      | exact ih0 _ _ _
      | exact ih1 _ _ _ _
      | exact LeO.none _
      | refine LeO.ite ?_ ?_
      | refine LeO.bind ?_ (fun _ => ?_)
set_option maxHeartbeats 8000000 in
set_option maxRecDepth 100000 in
theorem spokeshaveref14_cmp.calls (k : Nat) (A0 : Option Addr) (c0 : Nat) (l0 : List Int) (A1 : Option Addr) (c1 : Nat) (l1 : List Int) (r : Int) (w : World) (hr0 : Kd.C (Kd.int .i64) w A0 l0.length l0) (hc0 : l0.length ≤ c0) (hr1 : Kd.C (Kd.int .i64) w A1 l1.length l1) (hc1 : l1.length ≤ c1) (h : spokeshaveref14_cmp.f k l0 l1 = some r) :
    Calls Try.prog 76 #[.slice A0 l0.length c0, .slice A1 l1.length c1] w fun e w' => e = .returned (.int .i64 r) ∧ Drawn0 w w' := by
  have HR0 := Aside0.mk hr0
  have HC0 := Aside0.mk hc0
  clear hr0 hc0
  have HR1 := Aside0.mk hr1
  have HC1 := Aside0.mk hc1
  clear hr1 hc1
  have H : (spokeshaveref14_cmp.l0 k l0 l1 0) = some r := h
  clear h
  have H' := Aside0.mk H
  clear H
  go_enter Try.func76, Try.ntmps76
  go_wp2
  repeat (go_quiet (fail); try go_wp2)
  go_loopg [5] k (fun kq v5 w' => ∃ (x5_1 : Int), v5 = .int .i64 x5_1 ∧ Aside0 (spokeshaveref14_cmp.l0 kq l0 l1 x5_1 = some r) ∧ Aside0 (kq ≤ k) ∧ Drawn0 w w')
  case atStart => exact ⟨(0), (by first | rfl | (simp; done) | (simp [*]; done)), H', ⟨Nat.le_refl _⟩, by repeat (first | exact Drawn0.refl _ | apply Drawn0.step)⟩
  case round =>
    clear H'
    try clear c1
    try clear p2
    obtain ⟨x5_1, rfl, HA, HK1, ⟨m1, rfl⟩⟩ := hrel
    cases gk with
    | zero => exact absurd HA.out (by simp [spokeshaveref14_cmp.l0])
    | succ k1 =>
      have H := HA.out
      clear HA
      simp only [spokeshaveref14_cmp.l0] at H
      have HC3 := Aside0.mk H
      clear H
      go_upto_region 2 with (fail)
      repeat (go_quiet (fail); go_upto_region 2 with (fail))
      go_cut [15] (fun v15 wc => ∃ (kq : Nat) (x15_2 : Bool), v15 = .bool x15_2 ∧ Aside0 (spokeshaveref14_cmp.j1 kq l0 l1 x5_1 x15_2 = some r) ∧ Aside0 (kq ≤ k1) ∧ Drawn0 w wc)
      case first =>
        have H := HC3.out
        clear HC3
        by_cases c4 : x5_1 < (l0.length : Int)
        · rw [if_pos c4] at H
          have c4b0 : decide (x5_1 < (l0.length : Int)) = true := decide_eq_true c4
          clear c4
          (first | rw [c4b0] | (simp only [i64_w, i32_w]; rw [c4b0]) | skip)
          have H' := Aside0.mk H
          clear H
          go_wp2
          repeat (go_quiet (fail); try go_wp2)
          go_meet
          case rel => exact ⟨_, (decide (x5_1 < (l1.length : Int))), (by first | rfl | (simp; done) | (simp [*]; done)), H', ⟨by have := HK1.out; first | omega | exact Nat.le_refl _⟩, by repeat (first | exact Drawn0.refl _ | apply Drawn0.step)⟩
        · rw [if_neg c4] at H
          have c4b0 : decide (x5_1 < (l0.length : Int)) = false := decide_eq_false c4
          clear c4
          (first | rw [c4b0] | (simp only [i64_w, i32_w]; rw [c4b0]) | skip)
          have H' := Aside0.mk H
          clear H
          go_wp2
          repeat (go_quiet (fail); try go_wp2)
          go_meet
          case rel => exact ⟨_, (false), (by first | rfl | (simp; done) | (simp [*]; done)), H', ⟨by have := HK1.out; first | omega | exact Nat.le_refl _⟩, by repeat (first | exact Drawn0.refl _ | apply Drawn0.step)⟩
      case rest =>
        clear HC3
        try clear c1
        try clear p2
        try clear c4
        try clear c4b0
        try clear p2
        obtain ⟨kq, x15_2, rfl, HA, HJ2, ⟨mc2, rfl⟩⟩ := hcut
        cases kq with
        | zero => exact absurd HA.out (by simp [spokeshaveref14_cmp.j1])
        | succ kj2 =>
          have H := HA.out
          clear HA
          simp only [spokeshaveref14_cmp.j1] at H
          by_cases c5 : x15_2 = true
          · subst c5
            have H1 : (if 0 ≤ x5_1 then (if x5_1 < (l0.length : Int) then (if x5_1 < (l1.length : Int) then (if (rd l0 x5_1) = (rd l1 x5_1) then (spokeshaveref14_cmp.l0 kj2 l0 l1 (wrap64 (x5_1 + 1))) else (if (rd l0 x5_1) < (rd l1 x5_1) then (some (-1)) else (some 1))) else (none)) else (none)) else (none)) = some r := by rw [if_pos rfl] at H; exact H
            clear H
            have H := H1
            clear H1
            by_cases c6 : 0 ≤ x5_1
            · rw [if_pos c6] at H
              have c6b0 : decide (0 ≤ x5_1) = true := decide_eq_true c6
              clear c6
              by_cases c7 : x5_1 < (l0.length : Int)
              · rw [if_pos c7] at H
                have c7b0 : decide (x5_1 < (l0.length : Int)) = true := decide_eq_true c7
                clear c7
                by_cases c8 : x5_1 < (l1.length : Int)
                · rw [if_pos c8] at H
                  have c8b0 : decide (x5_1 < (l1.length : Int)) = true := decide_eq_true c8
                  clear c8
                  by_cases c9 : (rd l0 x5_1) = (rd l1 x5_1)
                  · rw [if_pos c9] at H
                    have c9b0 : ((rd l0 x5_1) == (rd l1 x5_1)) = true := beq_iff_eq.mpr c9
                    have c9b1 : ((rd l0 x5_1) != (rd l1 x5_1)) = false := bne_eq_false_iff_eq.mpr c9
                    clear c9
                    have H' := Aside0.mk H
                    clear H
                    have p101 : 0 ≤ (x5_1 : Int) := of_decide_eq_true (by first | (with_reducible assumption) | assumption)
                    have q101 : x5_1 < (l0.length : Int) := of_decide_eq_true (by first | (with_reducible assumption) | assumption)
                    obtain ⟨ad101, e101, hx101_0⟩ := Kd.at_int HR0.out x5_1 p101 q101
                    cases e101
                    replace p101 := eq_true p101
                    replace q101 := eq_true q101
                    have p102 : 0 ≤ (x5_1 : Int) := of_decide_eq_true (by first | (with_reducible assumption) | assumption)
                    have q102 : x5_1 < (l1.length : Int) := of_decide_eq_true (by first | (with_reducible assumption) | assumption)
                    obtain ⟨ad102, e102, hx102_0⟩ := Kd.at_int HR1.out x5_1 p102 q102
                    cases e102
                    replace p102 := eq_true p102
                    replace q102 := eq_true q102
                    go_wp2
                    repeat (go_quiet (fail); try go_wp2)
                    go_roundg kj2
                    case measure => have := HK1.out; have := HJ2.out; omega
                    case rel => exact ⟨(wrap64 (x5_1 + 1)), (by first | rfl | (simp; done) | (simp [*]; done)), H', ⟨by have := HK1.out; have := HJ2.out; omega⟩, by repeat (first | exact Drawn0.refl _ | apply Drawn0.step)⟩
                  · rw [if_neg c9] at H
                    have c9b0 : ((rd l0 x5_1) == (rd l1 x5_1)) = false := beq_eq_false_iff_ne.mpr c9
                    have c9b1 : ((rd l0 x5_1) != (rd l1 x5_1)) = true := bne_iff_ne.mpr c9
                    by_cases c10 : (rd l0 x5_1) < (rd l1 x5_1)
                    · rw [if_pos c10] at H
                      have c10b0 : decide ((rd l0 x5_1) < (rd l1 x5_1)) = true := decide_eq_true c10
                      clear c10
                      obtain rfl := Option.some.inj H
                      have p101 : 0 ≤ (x5_1 : Int) := of_decide_eq_true (by first | (with_reducible assumption) | assumption)
                      have q101 : x5_1 < (l0.length : Int) := of_decide_eq_true (by first | (with_reducible assumption) | assumption)
                      obtain ⟨ad101, e101, hx101_0⟩ := Kd.at_int HR0.out x5_1 p101 q101
                      cases e101
                      replace p101 := eq_true p101
                      replace q101 := eq_true q101
                      have p102 : 0 ≤ (x5_1 : Int) := of_decide_eq_true (by first | (with_reducible assumption) | assumption)
                      have q102 : x5_1 < (l1.length : Int) := of_decide_eq_true (by first | (with_reducible assumption) | assumption)
                      obtain ⟨ad102, e102, hx102_0⟩ := Kd.at_int HR1.out x5_1 p102 q102
                      cases e102
                      replace p102 := eq_true p102
                      replace q102 := eq_true q102
                      have p103 : 0 ≤ (x5_1 : Int) := of_decide_eq_true (by first | (with_reducible assumption) | assumption)
                      have q103 : x5_1 < (l0.length : Int) := of_decide_eq_true (by first | (with_reducible assumption) | assumption)
                      obtain ⟨ad103, e103, hx103_0⟩ := Kd.at_int HR0.out x5_1 p103 q103
                      obtain rfl : ad101 = ad103 := (by injection e103)
                      replace p103 := eq_true p103
                      replace q103 := eq_true q103
                      have p104 : 0 ≤ (x5_1 : Int) := of_decide_eq_true (by first | (with_reducible assumption) | assumption)
                      have q104 : x5_1 < (l1.length : Int) := of_decide_eq_true (by first | (with_reducible assumption) | assumption)
                      obtain ⟨ad104, e104, hx104_0⟩ := Kd.at_int HR1.out x5_1 p104 q104
                      obtain rfl : ad102 = ad104 := (by injection e104)
                      replace p104 := eq_true p104
                      replace q104 := eq_true q104
                      go_wp2
                      repeat (go_quiet (fail); try go_wp2)
                      go_ret
                      exact ⟨by first | rfl | (simp; done) | (simp [*]; done), by repeat (first | exact Drawn0.refl _ | apply Drawn0.step)⟩
                    · rw [if_neg c10] at H
                      have c10b0 : decide ((rd l0 x5_1) < (rd l1 x5_1)) = false := decide_eq_false c10
                      clear c10
                      obtain rfl := Option.some.inj H
                      have p101 : 0 ≤ (x5_1 : Int) := of_decide_eq_true (by first | (with_reducible assumption) | assumption)
                      have q101 : x5_1 < (l0.length : Int) := of_decide_eq_true (by first | (with_reducible assumption) | assumption)
                      obtain ⟨ad101, e101, hx101_0⟩ := Kd.at_int HR0.out x5_1 p101 q101
                      cases e101
                      replace p101 := eq_true p101
                      replace q101 := eq_true q101
                      have p102 : 0 ≤ (x5_1 : Int) := of_decide_eq_true (by first | (with_reducible assumption) | assumption)
                      have q102 : x5_1 < (l1.length : Int) := of_decide_eq_true (by first | (with_reducible assumption) | assumption)
                      obtain ⟨ad102, e102, hx102_0⟩ := Kd.at_int HR1.out x5_1 p102 q102
                      cases e102
                      replace p102 := eq_true p102
                      replace q102 := eq_true q102
                      have p103 : 0 ≤ (x5_1 : Int) := of_decide_eq_true (by first | (with_reducible assumption) | assumption)
                      have q103 : x5_1 < (l0.length : Int) := of_decide_eq_true (by first | (with_reducible assumption) | assumption)
                      obtain ⟨ad103, e103, hx103_0⟩ := Kd.at_int HR0.out x5_1 p103 q103
                      obtain rfl : ad101 = ad103 := (by injection e103)
                      replace p103 := eq_true p103
                      replace q103 := eq_true q103
                      have p104 : 0 ≤ (x5_1 : Int) := of_decide_eq_true (by first | (with_reducible assumption) | assumption)
                      have q104 : x5_1 < (l1.length : Int) := of_decide_eq_true (by first | (with_reducible assumption) | assumption)
                      obtain ⟨ad104, e104, hx104_0⟩ := Kd.at_int HR1.out x5_1 p104 q104
                      obtain rfl : ad102 = ad104 := (by injection e104)
                      replace p104 := eq_true p104
                      replace q104 := eq_true q104
                      go_wp2
                      repeat (go_quiet (fail); try go_wp2)
                      go_ret
                      exact ⟨by first | rfl | (simp; done) | (simp [*]; done), by repeat (first | exact Drawn0.refl _ | apply Drawn0.step)⟩
                · rw [if_neg c8] at H
                  exact absurd H (by simp)
              · rw [if_neg c7] at H
                exact absurd H (by simp)
            · rw [if_neg c6] at H
              exact absurd H (by simp)
          · replace c5 := Bool.eq_false_iff.mpr c5
            subst c5
            have H1 : (if (l0.length : Int) < (l1.length : Int) then (some (-1)) else (if (l0.length : Int) > (l1.length : Int) then (some 1) else (some 0))) = some r := by rw [if_neg (show ¬ (false = true) by decide)] at H; exact H
            clear H
            have H := H1
            clear H1
            by_cases c11 : (l0.length : Int) < (l1.length : Int)
            · rw [if_pos c11] at H
              have c11b0 : decide ((l0.length : Int) < (l1.length : Int)) = true := decide_eq_true c11
              have c11b1 : decide (l0.length < l1.length) = true := decide_eq_true (Int.ofNat_lt.mp c11)
              clear c11
              obtain rfl := Option.some.inj H
              go_wp2
              repeat (go_quiet (fail); try go_wp2)
              go_ret
              exact ⟨by first | rfl | (simp; done) | (simp [*]; done), by repeat (first | exact Drawn0.refl _ | apply Drawn0.step)⟩
            · rw [if_neg c11] at H
              have c11b0 : decide ((l0.length : Int) < (l1.length : Int)) = false := decide_eq_false c11
              have c11b1 : decide (l0.length < l1.length) = false := decide_eq_false (fun h => c11 (Int.ofNat_lt.mpr h))
              clear c11
              by_cases c12 : (l0.length : Int) > (l1.length : Int)
              · rw [if_pos c12] at H
                have c12b0 : decide ((l1.length : Int) < (l0.length : Int)) = true := decide_eq_true c12
                have c12b1 : decide (l1.length < l0.length) = true := decide_eq_true (Int.ofNat_lt.mp c12)
                clear c12
                obtain rfl := Option.some.inj H
                go_wp2
                repeat (go_quiet (fail); try go_wp2)
                go_ret
                exact ⟨by first | rfl | (simp; done) | (simp [*]; done), by repeat (first | exact Drawn0.refl _ | apply Drawn0.step)⟩
              · rw [if_neg c12] at H
                have c12b0 : decide ((l1.length : Int) < (l0.length : Int)) = false := decide_eq_false c12
                have c12b1 : decide (l1.length < l0.length) = false := decide_eq_false (fun h => c12 (Int.ofNat_lt.mpr h))
                clear c12
                obtain rfl := Option.some.inj H
                go_wp2
                repeat (go_quiet (fail); try go_wp2)
                go_ret
                exact ⟨by first | rfl | (simp; done) | (simp [*]; done), by repeat (first | exact Drawn0.refl _ | apply Drawn0.step)⟩

end Go.Proofs.Ytealnhaffphamaa.PCmp

namespace Go.Proofs.Ytealnhaffphamaa
open Go.RowKit Go.Shelf Go.Proofs.YtealnhaffphamaaW.PrintWords

/-- A loop that begins at a position. -/
def rotA (l : List Int) (i : Nat) : List Int := l.drop i ++ l.take i
theorem rotA_len (l : List Int) (i : Nat) : (rotA l i).length = l.length := by simp [rotA]; omega
/-- Lists compared, number by number. -/
def cmpA : List Int → List Int → Int
  | [], [] => 0
  | [], _ :: _ => -1
  | _ :: _, [] => 1
  | a :: r, b :: s => if a = b then cmpA r s else if a < b then -1 else 1
theorem cmpA_eq {a b : List Int} : cmpA a b = 0 ↔ a = b := by
  induction a generalizing b with
  | nil => cases b <;> simp [cmpA]
  | cons x a ih =>
    cases b with
    | nil => simp [cmpA]
    | cons y b =>
      simp only [cmpA]
      split
      · rename_i e; rw [ih]; simp [e]
      · rename_i e
        split <;> simp [e]

/-! ### cmp -/
theorem rd_getD (x : List Int) (i : Nat) : rd x (i : Int) = x.getD i 0 := by simp [rd]

theorem wrap_small {i : Nat} (h : i ≤ 1000000000) : wrap64 ((i : Int) + 1) = ((i + 1 : Nat) : Int) := by
  unfold wrap64
  omega
theorem cmp_l0 : ∀ (n k i : Nat) (a b : List Int), a.length - i ≤ n → i ≤ a.length → i ≤ b.length → 2 * n + 2 ≤ k → a.length ≤ 1000000000 → PCmp.spokeshaveref14_cmp.l0 k a b i = some (cmpA (a.drop i) (b.drop i)) := by
  intro n
  induction n with
  | zero =>
    intro k i a b hn hi hib hk hl
    obtain ⟨k, rfl⟩ : ∃ m, k = m + 2 := ⟨k - 2, by omega⟩
    have e : i = a.length := by omega
    simp only [PCmp.spokeshaveref14_cmp.l0, PCmp.spokeshaveref14_cmp.j1]
    rw [if_neg (by omega), if_neg (by simp)]
    rw [List.drop_eq_nil_of_le (show a.length ≤ i by omega)]
    by_cases h : (a.length : Int) < b.length
    · rw [if_pos h]
      have : 0 < (b.drop i).length := by simp; omega
      cases hb : b.drop i with
      | nil => rw [hb] at this; simp at this
      | cons y ys => rfl
    · rw [if_neg h, if_neg (by omega)]
      rw [List.drop_eq_nil_of_le (show b.length ≤ i by omega)]; rfl
  | succ n ih =>
    intro k i a b hn hi hib hk hl
    obtain ⟨k, rfl⟩ : ∃ m, k = m + 2 := ⟨k - 2, by omega⟩
    simp only [PCmp.spokeshaveref14_cmp.l0, PCmp.spokeshaveref14_cmp.j1]
    by_cases h1 : i < a.length
    · rw [if_pos (by omega)]
      rw [List.drop_eq_getElem_cons h1]
      by_cases h2 : i < b.length
      · rw [if_pos (by simpa using h2), if_pos (by omega), if_pos (by omega), if_pos (by omega), rd_getD, rd_getD]
        rw [List.drop_eq_getElem_cons h2]
        simp only [cmpA]
        have e1 : a.getD i 0 = a[i] := by simp [List.getD_eq_getElem?_getD, h1]
        have e2 : b.getD i 0 = b[i] := by simp [List.getD_eq_getElem?_getD, h2]
        rw [e1, e2]
        by_cases h3 : a[i] = b[i]
        · rw [if_pos h3, if_pos h3]
          rw [wrap_small (show i ≤ 1000000000 by omega)]
          exact ih k (i + 1) a b (by omega) (by omega) (by omega) (by omega) hl
        · rw [if_neg h3, if_neg h3]
          by_cases h4 : a[i] < b[i]
          · rw [if_pos h4, if_pos h4]
          · rw [if_neg h4, if_neg h4]
      · rw [if_neg (by simpa using h2), if_neg (by omega), if_pos (by omega)]
        rw [List.drop_eq_nil_of_le (show b.length ≤ i by omega)]; rfl
    · rw [if_neg (by omega), if_neg (by simp)]
      rw [List.drop_eq_nil_of_le (show a.length ≤ i by omega)]
      by_cases h : (a.length : Int) < b.length
      · rw [if_pos h]
        have : 0 < (b.drop i).length := by simp; omega
        cases hb : b.drop i with
        | nil => rw [hb] at this; simp at this
        | cons y ys => rfl
      · rw [if_neg h, if_neg (by omega)]
        rw [List.drop_eq_nil_of_le (show b.length ≤ i by omega)]; rfl
theorem cmp_any (A1 A2 : Option Addr) (n1 c1 n2 c2 : Nat) (a b : List Int) (w : World) (hn1 : n1 = a.length) (hn2 : n2 = b.length) (h1 : RI w A1 a) (hc1 : n1 ≤ c1) (h2 : RI w A2 b) (hc2 : n2 ≤ c2) (hl : a.length ≤ 1000000000) :
    Calls Try.prog 76 #[.slice A1 n1 c1, .slice A2 n2 c2] w fun e w' => e = .returned (.int .i64 (cmpA a b)) ∧ Below w.heap.size w w' := by
  subst hn1 hn2
  have h := PCmp.spokeshaveref14_cmp.calls (2 * a.length + 2) A1 c1 a A2 c2 b (cmpA a b) w h1 hc1 h2 hc2 (cmp_l0 a.length _ 0 a b (by omega) (by omega) (by omega) (by omega) hl)
  exact h.mono (fun e w' h => ⟨h.1, h.2.below⟩)

/-! ### turned -/
theorem ints_ri {W : World} {base n : Nat} {v : Value} {xs : List Int} (hn : n = xs.length) (h : W.ownsRow base 3 1 v n (intsV xs)) : ∃ A c, v = .slice A n c ∧ n ≤ c ∧ RI W A xs := by
  obtain ⟨A, c, h1, h2, h3⟩ := ints_reads hn h
  subst hn
  exact ⟨A, c, h1, h2, h3⟩
set_option maxRecDepth 100000 in
set_option maxHeartbeats 1000000 in
theorem rturned_any (A : Option Addr) (n c i : Nat) (l : List Int) (w : World) (hn : n = l.length) (h : RI w A l) (hc : n ≤ c) (hi : i ≤ n) (hl : n ≤ 10000000) :
    Calls Try.prog 68 #[.slice A n c, .int .i64 i] w fun e w' => (∃ v, e = .returned v ∧ w'.ownsRow w.heap.size 3 1 v (rotA l i).length (intsV (rotA l i))) ∧ Below w.heap.size w w' := by
  subst hn
  have HR := Lib.hid h
  obtain ⟨iI, hiI, hiI0, hiI1, hiI2⟩ := info_parts infoI
  have hcf := cut_from (P := Try.prog) 36 3 .i64 Try.underlying36 hiI 1 hiI1 A l.length c (i : Int) (by omega) (by omega)
  have hct := cut_to (P := Try.prog) 36 3 .i64 Try.underlying36 hiI A l.length c (i : Int) (by omega) (by omega) hc
  rw [Int.toNat_natCast] at hcf hct
  obtain ⟨A', hA'⟩ : ∃ A', A' = (if c = i then A else A.map (·.add (i * 1))) := ⟨_, rfl⟩
  have hd : RI w A' (l.drop i) := by rw [hA']; exact Kd.C_drop h hi hc
  have ht : RI w A (l.take i) := Kd.C_take h hi
  rw [← hA'] at hcf
  have HD := Lib.hid hd
  have HT := Lib.hid ht
  clear hd ht h hA'
  go_enter Try.func68, Try.ntmps68
  go_upto_region 3 with (at_builtin; refine wpList_append_ints rfl _ _ rfl w.heap.size (.slice none 0 0) [] (l.drop i) A' (l.length - i) (c - i) (by simp) rfl rfl (World.ownsRow_nil _ _ _ _) HD.out (Nat.le_refl _) (by simp; omega) ?_; intro v1 w1 hown1 hg1 _)
  have hg1 : w.grownBy w1 none := hg1
  have HB1 : Hid (Below w.heap.size w w1) := (Below.refl _ w).grown hg1 (Nat.le_refl _) (fun k e => by cases e)
  have HOW1 := Lib.hid hown1
  clear hown1 hg1
  go_wp2_with (at_builtin; refine wpList_append_ints rfl _ _ rfl w.heap.size v1 ([] ++ l.drop i) (l.take i) A i c (by simp; omega) rfl rfl HOW1.out (RI.below HT.out HB1.out) HB1.out.size (by simp; omega) ?_; intro v2 w2 hown2 hg2 _)
  go_ret
  exact ⟨⟨v2, rfl, hown2⟩, HB1.out.grown hg2 HB1.out.size (fun k e => own_base HOW1.out k e)⟩

end Go.Proofs.Ytealnhaffphamaa
