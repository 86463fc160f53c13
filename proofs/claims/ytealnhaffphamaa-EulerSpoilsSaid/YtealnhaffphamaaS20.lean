/- Contracts of the functions that the statement reaches, and plain lemmas: part 20 of 31. -/
import Derived.Test.YtealnhaffphamaaS06
import Derived.Test.YtealnhaffphamaaS14
import Derived.Test.YtealnhaffphamaaS15
set_option linter.unusedVariables false
set_option linter.unusedSimpArgs false

namespace Go.Proofs.Ytealnhaffphamaa
open Go.RowKit Go.Shelf Go.Proofs.YtealnhaffphamaaW.PrintWords
open Classical
def anL (N:Int) (ls:List Int) (i:Nat):List Int:=ls.take (i+1) ++ (if ls.length=1 then[N] else[N,ls.getD i 0]) ++ ls.drop (i+1)
noncomputable def anE (N:Int) (fs:Fs) (f l i:Int):Except Int (Int × Fs):=
 if ¬ RightP N fs then .error 140 else if ¬ HasP fs f l i then .error 1 else fitE (N+1) (setL fs f.toNat l.toNat (anL N (lpA fs f.toNat l.toNat) i.toNat))
theorem anL_fine {N:Int} {fs:Fs} (h:RightP N fs) (f l i:Nat):Fine 100000 (setL fs f l (anL N (lpA fs f l) i)):=by
 have hF:=h.fine
 obtain⟨h1,h2⟩:=hF.loop f l
 have hN:=h.1.2.1
 have hN0:=h.1.1
 have hg:=lpA_num hF f l i
 have h3:=hF.setL f l (m:=3000) (x:=anL N (lpA fs f l) i) (by
  unfold anL
  simp only[List.length_append,List.length_take,List.length_drop]
  have:(if (lpA fs f l).length=1 then[N] else[N,(lpA fs f l).getD i 0]).length≤2:=by split <;> simp
  omega) (fun v hv=>by
  unfold anL at hv
  rcases List.mem_append.1 hv with hv | hv
  ·rcases List.mem_append.1 hv with hv | hv
   ·exact h2 v (List.mem_of_mem_take hv)
   ·split at hv
    ·simp at hv;omega
    ·simp only[List.mem_cons,List.not_mem_nil,or_false] at hv
     rcases hv with rfl | rfl
     ·omega
     ·exact hg
  ·exact h2 v (List.mem_of_mem_drop hv))
 exact h3.mono (by omega)
theorem anE_ok {N:Int} {fs:Fs} {f l i:Nat} (h:RightP N fs) (hh:HasP fs f l i):anE N fs f l i=fitE (N+1) (setL fs f l (anL N (lpA fs f l) i)):=by
 unfold anE
 rw[if_neg (fun q=>q h),if_neg (fun q=>q hh)]
 simp only[Int.toNat_natCast]
end Go.Proofs.Ytealnhaffphamaa

namespace Go.Proofs.Ytealnhaffphamaa
open Go.RowKit Go.Shelf Go.Proofs.YtealnhaffphamaaW.PrintWords
open Classical
noncomputable def ranE (N:Int) (fs:Fs) (f l i:Int):Except Int (Int × Fs):=
 if ¬ HasP fs f l i then .error 1 else doneE (N+1) (setL fs f.toNat l.toNat (anL N (lpA fs f.toNat l.toNat) i.toNat))
set_option maxRecDepth 100000 in
set_option maxHeartbeats 4000000 in
theorem raddNode_any (N:Int) (A:Option Addr) (c:Nat) (fs:Fs) (f l i:Int) (w:World) (hF:RF w A fs) (hc:fs.length≤c) (hR:RightP N fs) :
  Calls Try.prog 34 #[.agg #[.int .i64 N,.slice A fs.length c],.agg #[.int .i64 f,.int .i64 l,.int .i64 i]] w fun e w'=>OpT (ranE N fs f l i) e w'∧Below w.heap.size w w':=by
 obtain⟨W1,hW1⟩:∃W1,W1=((w.alloc (.cells #[.int .i64 N,.slice A fs.length c] 26)).alloc (.cells #[.int .i64 f,.int .i64 l,.int .i64 i] 34)).alloc (.cells #[.int .i64 0,.slice none 0 0] 26):=⟨_,rfl⟩
 have HOB:Hid (Obs [.cells #[.int .i64 N,.slice A fs.length c] 26,.cells #[.int .i64 f,.int .i64 l,.int .i64 i] 34,.cells #[.int .i64 0,.slice none 0 0] 26] w W1):=by rw[hW1];exact Obs.three w _ _ _
 have HIN:=Lib.hid (in_o N A c fs f l i W1 (hF.below HOB.out.below))
 have HF:=Lib.hid hF
 have HR:=Lib.hid hR
 have HC:=Lib.hid hc
 clear hF hR hc
 go_enter Try.func34,Try.ntmps34
 go_upto_region 1 with fail
 rw[←hW1]
 clear hW1
 have m00:W1.cell? ⟨w.heap.size,0,none⟩=some (.int .i64 N):=HOB.out.cell 0 0 rfl rfl
 have m01:W1.cell? ⟨w.heap.size,1,none⟩=some (.slice A fs.length c):=HOB.out.cell 0 1 rfl rfl
 have m10:W1.cell? ⟨w.heap.size+1,0,none⟩=some (.int .i64 f):=HOB.out.cell 1 0 rfl rfl
 have m11:W1.cell? ⟨w.heap.size+1,1,none⟩=some (.int .i64 l):=HOB.out.cell 1 1 rfl rfl
 have m12:W1.cell? ⟨w.heap.size+1,2,none⟩=some (.int .i64 i):=HOB.out.cell 1 2 rfl rfl
 go_wp2_with fail
 ((with_reducible refine(HIN.out).mono ?_);rintro e W2 ⟨⟨b,rfl,hb⟩,hbl⟩)
 have HOB2:=Lib.hid (HOB.out.call hbl)
 have HBI:=Lib.hid hb
 clear m00 m01 m10 m11 m12
 clear HIN hb hbl HOB
 cases b
 ·have m20:W2.cell? ⟨w.heap.size+1+1,0,none⟩=some (.int .i64 0):=HOB2.out.cell 2 0 rfl rfl
  have z20:W2.frozen? ⟨w.heap.size+1+1,0,none⟩=false:=HOB2.out.frz 2 0 rfl
  have m21:W2.cell? ⟨w.heap.size+1+1,1,none⟩=some (.slice none 0 0):=HOB2.out.cell 2 1 rfl rfl
  have z21:W2.frozen? ⟨w.heap.size+1+1,1,none⟩=false:=HOB2.out.frz 2 1 rfl
  have HE:Hid (ranE N fs f l i=.error 1):=by
   show _=_
   unfold ranE
   rw[if_pos (fun h=>by simpa using HBI.out.2 h)]
  go_wp2
  obtain⟨hx,hxB⟩:=HOB2.out.ret 2 (.int .i64 0) (.slice none 0 0) rfl
  have e00:=(blk_cells hx).1 0 _ rfl
  have e01:=(blk_cells hx).1 1 _ rfl
  refine bodyPost_ret (v:=.tuple #[.agg #[.int .i64 0,.slice none 0 0],.int .i64 1]) (by simp[results,Try.f34,go_sem,e00,e01]) rfl ?_
  exact⟨by rw[HE.out];rfl,hxB⟩
 ·have hP:HasP fs f l i:=HBI.out.1 rfl
  clear HBI
  obtain⟨q1,q2,q3,q4,q5,q6⟩:=hP
  obtain⟨fn,rfl⟩:=Int.eq_ofNat_of_zero_le q1
  obtain⟨ln,rfl⟩:=Int.eq_ofNat_of_zero_le q3
  obtain⟨pn,rfl⟩:=Int.eq_ofNat_of_zero_le q5
  simp only[Int.toNat_natCast] at q4 q6
  have hfn:fn<fs.length:=by omega
  have hln:ln<(fcA fs fn).length:=by omega
  have hpn:pn<(lpA fs fn ln).length:=by omega
  clear q1 q2 q3 q4 q5 q6
  have HX:Hid (fn<fs.length∧ln<(fcA fs fn).length∧pn<(lpA fs fn ln).length∧(lpA fs fn ln).length≤2000):=⟨hfn,hln,hpn,(HR.out.fine.loop fn ln).1⟩
  have HOW:=Lib.hid (rown_right N A c fs W2 (HF.out.below HOB2.out.below) HC.out HR.out)
  have m00:W2.cell? ⟨w.heap.size,0,none⟩=some (.int .i64 N):=HOB2.out.cell 0 0 rfl rfl
  have m01:W2.cell? ⟨w.heap.size,1,none⟩=some (.slice A fs.length c):=HOB2.out.cell 0 1 rfl rfl
  go_upto_region 4 with((with_reducible refine(HOW.out).mono ?_);rintro e W4 ⟨⟨g,cV,vf,vl,rfl,hM,-⟩,hbl⟩)
  clear m00 m01 HOW
  have HRW:Hid (RW [.cells #[.int .i64 N,.slice A fs.length c] 26,.cells #[.int .i64 fn,.int .i64 ln,.int .i64 pn] 34,.cells #[.int .i64 0,.slice none 0 0] 26] w W2.heap.size W4.heap.size g cV N fs vf vl (W4.alloc (.cells #[.int .i64 N,.slice (some ⟨g,0,none⟩) fs.length cV] 26))):=by
   have hg3:W4.grownBy (W4.alloc (.cells #[.int .i64 N,.slice (some ⟨g,0,none⟩) fs.length cV] 26)) none:=World.grownBy_alloc _ _ _
   exact⟨(HOB2.out.call hbl).grown hg3,blk_new W4 _,hM.kept hg3 (fun r e=>by cases e),⟨HOB2.out.size,hbl.size⟩,fun r hr=>(hM.lt hr).2⟩
  clear hM hbl HOB2
  generalize W4.heap.size=O at HRW ⊢
  generalize W2.heap.size=B at HRW
  generalize W4.alloc (.cells #[.int .i64 N,.slice (some ⟨g,0,none⟩) fs.length cV] 26)=W5 at HRW ⊢
  have m00:W5.cell? ⟨w.heap.size,0,none⟩=some (.int .i64 N):=HRW.out.obs.cell 0 0 rfl rfl
  have m01:W5.cell? ⟨w.heap.size,1,none⟩=some (.slice A fs.length c):=HRW.out.obs.cell 0 1 rfl rfl
  have m10:W5.cell? ⟨w.heap.size+1,0,none⟩=some (.int .i64 fn):=HRW.out.obs.cell 1 0 rfl rfl
  have m11:W5.cell? ⟨w.heap.size+1,1,none⟩=some (.int .i64 ln):=HRW.out.obs.cell 1 1 rfl rfl
  have m12:W5.cell? ⟨w.heap.size+1,2,none⟩=some (.int .i64 pn):=HRW.out.obs.cell 1 2 rfl rfl
  obtain⟨ad0,A0,c0,rfl,hc0,hl0,hr0⟩:=HF.out.at hfn
  obtain⟨ad1,A1,c1,rfl,hc1,hl1,hr1⟩:=hr0.atP hln
  have k0:=pw_cell_below HRW.out.obs.below hc0
  have k1:=pw_cell_below HRW.out.obs.below hc1
  obtain⟨ad2,rfl,hc2⟩:=hr1.at hpn
  have HRL:Hid (RI w (some ad2) (lpA fs fn ln)∧(lpA fs fn ln).length≤c1):=⟨hr1,hl1⟩
  have HC2:=Lib.hid hc2
  have z0:(fn:Int)<(fs.length:Int):=by omega
  have z1:(ln:Int)<((fcA fs fn).length:Int):=by omega
  clear hc0 hl0 hr0 hc1 hl1 hr1 hc2
  go_quiet (fail)
  rename_i nq
  have HRW6:=Lib.hid (HRW.out.call (Drawn0.below ⟨⟨nq,rfl⟩⟩))
  clear k0 k1 HRW
  clear m00 m01 m10 m11 m12
  generalize W5.drewN nq=W6 at HRW6 ⊢
  clear W5 W4 W2
  obtain⟨iI,hiI,hiI0,hiI1,hiI2⟩:=info_parts infoI
  obtain⟨ll,hll⟩:∃ll,ll=(lpA fs fn ln).length:=⟨_,rfl⟩
  obtain⟨q,hq⟩:∃q:Nat,q=pn+1:=⟨_,rfl⟩
  have hw:IntKind.i64.wrap ((pn:Int)+1)=(q:Int):=by rw[IntKind.wrap_i64];have:=HX.out;omega
  have hct:=cut_to (P:=Try.prog) 36 3 .i64 Try.underlying36 hiI (some ad2) ll c1 (q:Int) (by omega) (by omega) (by have:=HRL.out.2;omega)
  have hcf:=cut_from (P:=Try.prog) 36 3 .i64 Try.underlying36 hiI 1 hiI1 (some ad2) ll c1 (q:Int) (by omega) (by omega)
  rw[Int.toNat_natCast] at hct hcf
  obtain⟨A3,hA3⟩:∃A3,A3=(if c1=q then some ad2 else(some ad2).map (·.add (q * 1))):=⟨_,rfl⟩
  rw[←hA3] at hcf
  have HRD:Hid (RI w A3 ((lpA fs fn ln).drop q)∧RI w (some ad2) ((lpA fs fn ln).take q)):=⟨by rw[hA3];exact Kd.C_drop HRL.out.1 (by omega) HRL.out.2,Kd.C_take HRL.out.1 (by omega)⟩
  have HLL:Hid (ll=(lpA fs fn ln).length∧q=pn+1∧q≤ll∧ll≤2000):=⟨hll,hq,by omega,by have:=HX.out;omega⟩
  rw[←hll]
  clear hA3 hq hll
  have m00:W6.cell? ⟨w.heap.size,0,none⟩=some (.int .i64 N):=HRW6.out.obs.cell 0 0 rfl rfl
  have m01:W6.cell? ⟨w.heap.size,1,none⟩=some (.slice (some ad0) fs.length c):=HRW6.out.obs.cell 0 1 rfl rfl
  have m10:W6.cell? ⟨w.heap.size+1,0,none⟩=some (.int .i64 fn):=HRW6.out.obs.cell 1 0 rfl rfl
  have m11:W6.cell? ⟨w.heap.size+1,1,none⟩=some (.int .i64 ln):=HRW6.out.obs.cell 1 1 rfl rfl
  have m12:W6.cell? ⟨w.heap.size+1,2,none⟩=some (.int .i64 pn):=HRW6.out.obs.cell 1 2 rfl rfl
  go_upto_region 7 with(at_builtin;refine wpList_append_ints rfl _ _ rfl W6.heap.size (.slice none 0 0) [] ((lpA fs fn ln).take q) (some ad2) q c1 (by have:=HLL.out;simp;omega) rfl rfl (World.ownsRow_nil _ _ _ _) (RI.below HRD.out.2 HRW6.out.obs.below) (Nat.le_refl _) (by have:=HLL.out;simp;omega) ?_;intro v7 W7 hown7 hg7 _)
  clear m00 m01 m10 m11 m12
  have hg7:W6.grownBy W7 none:=hg7
  have HRW7:=Lib.hid (HRW6.out.grown hg7)
  obtain⟨BB,hBB⟩:∃BB,BB=W6.heap.size:=⟨_,rfl⟩
  have HBB:Hid (O<BB∧BB≤W7.heap.size):=⟨by rw[hBB];exact HRW6.out.size,by rw[hBB];exact hg7.size⟩
  rw[←hBB] at hown7
  have HO7:=Lib.hid hown7
  clear hown7 hg7 hBB HRW6
  have m00:W7.cell? ⟨w.heap.size,0,none⟩=some (.int .i64 N):=HRW7.out.obs.cell 0 0 rfl rfl
  have m01:W7.cell? ⟨w.heap.size,1,none⟩=some (.slice (some ad0) fs.length c):=HRW7.out.obs.cell 0 1 rfl rfl
  have m10:W7.cell? ⟨w.heap.size+1,0,none⟩=some (.int .i64 fn):=HRW7.out.obs.cell 1 0 rfl rfl
  have m11:W7.cell? ⟨w.heap.size+1,1,none⟩=some (.int .i64 ln):=HRW7.out.obs.cell 1 1 rfl rfl
  have m12:W7.cell? ⟨w.heap.size+1,2,none⟩=some (.int .i64 pn):=HRW7.out.obs.cell 1 2 rfl rfl
  go_upto_if 40 with(at_builtin;refine wpList_append_ints rfl _ _ rfl BB v7 ([] ++ (lpA fs fn ln).take q) [N] (some ⟨W7.heap.size,0,none⟩) 1 1 rfl rfl rfl (own_keptB HO7.out (World.grownBy_alloc W7 _ none) (fun b e=>by cases e)) (ri_one (blk_new W7 _)) (by simp;have:=HBB.out.2;omega) (by have:=HLL.out;simp;omega) ?_;intro v8 W8 hown8 hg8 _)
  clear m00 m01 m10 m11 m12
  have HRW8:Hid (RW [.cells #[.int .i64 N,.slice (some ad0) fs.length c] 26,.cells #[.int .i64 fn,.int .i64 ln,.int .i64 pn] 34,.cells #[.int .i64 0,.slice none 0 0] 26] w B O g cV N fs vf vl W8):=(HRW7.out.grown (World.grownBy_alloc W7 _ none)).kept hg8 (fun b e=>by have:=own_base HO7.out b e;have:=HBB.out.1;omega)
  have HSZ8:Hid (BB≤W8.heap.size):=Nat.le_trans HBB.out.2 (Nat.le_trans (by simp) hg8.size)
  have HO8:=Lib.hid hown8
  clear hown8 hg8 HO7 HRW7
  obtain⟨z,hz⟩:∃z,z=(lpA fs fn ln).getD pn 0:=⟨_,rfl⟩
  have HZ:=Lib.hid hz
  rw[←hz] at HC2
  clear hz
  obtain⟨ys,hys⟩:∃ys,ys=(if ll=1 then[N] else[N,z]):=⟨_,rfl⟩
  have HYS:Hid (ys=(if ll=1 then[N] else[N,z])∧ys.length≤2):=⟨hys,by rw[hys];split <;> simp⟩
  clear hys
  go_cut [8] from 9 (fun s8 W9=>∃A9 n9 c9,s8=.slice A9 n9 c9∧Hid (RW [.cells #[.int .i64 N,.slice (some ad0) fs.length c] 26,.cells #[.int .i64 fn,.int .i64 ln,.int .i64 pn] 34,.cells #[.int .i64 0,.slice none 0 0] 26] w B O g cV N fs vf vl W9)∧Hid (BB≤W9.heap.size)∧Hid (W9.ownsRow BB 3 1 (.slice A9 n9 c9) ((lpA fs fn ln).take q ++ ys).length (intsV ((lpA fs fn ln).take q ++ ys))))
  case first=>
   by_cases h1:ll=1
   ·have h2:¬ (ll:Int) > 1:=by omega
    have HE1:Hid (ys=[N]):=by rw[HYS.out.1];exact if_pos h1
    clear h1
    go_wp2
    go_meet
    case rel=>
     obtain⟨A9,c9,rfl⟩:=own_slice HO8.out
     exact⟨A9,_,c9,rfl,HRW8,HSZ8,by rw[HE1.out];exact HO8.out⟩
   ·have h2:(ll:Int) > 1:=by have:=HLL.out;omega
    have HE1:Hid (ys=[N] ++ [z]):=by rw[HYS.out.1];exact if_neg h1
    have z2:(pn:Int)<(ll:Int):=by have:=HLL.out;have:=HX.out;omega
    clear h1
    have m00:W8.cell? ⟨w.heap.size,0,none⟩=some (.int .i64 N):=HRW8.out.obs.cell 0 0 rfl rfl
    have m01:W8.cell? ⟨w.heap.size,1,none⟩=some (.slice (some ad0) fs.length c):=HRW8.out.obs.cell 0 1 rfl rfl
    have m10:W8.cell? ⟨w.heap.size+1,0,none⟩=some (.int .i64 fn):=HRW8.out.obs.cell 1 0 rfl rfl
    have m11:W8.cell? ⟨w.heap.size+1,1,none⟩=some (.int .i64 ln):=HRW8.out.obs.cell 1 1 rfl rfl
    have m12:W8.cell? ⟨w.heap.size+1,2,none⟩=some (.int .i64 pn):=HRW8.out.obs.cell 1 2 rfl rfl
    have hc2:=pw_cell_below HRW8.out.obs.below HC2.out
    go_wp2_with (at_builtin;go_loud (refine wpList_append_ints rfl _ _ rfl BB v8 ([] ++ (lpA fs fn ln).take q ++ [N]) [z] (some ⟨W8.heap.size,0,none⟩) 1 1 rfl rfl rfl (own_keptB HO8.out (World.grownBy_alloc W8 _ none) (fun b e=>by cases e)) (ri_one (blk_new W8 _)) (by simp;have:=HSZ8.out;omega) (by have:=HLL.out;simp;omega) ?_);intro v9 W9 hown9 hg9 _)
    go_meet
    case rel=>
     obtain⟨A9,c9,rfl⟩:=own_slice hown9
     refine⟨A9,_,c9,rfl,(HRW8.out.grown (World.grownBy_alloc W8 _ none)).kept hg9 (fun b e=>by have:=own_base HO8.out b e;have:=HBB.out.1;omega),Nat.le_trans HSZ8.out (Nat.le_trans (by simp) hg9.size),?_⟩
     rw[HE1.out]
     show W9.ownsRow _ _ _ _ _ _
     simpa using hown9
  case rest=>
   obtain⟨A9,n9,c9,rfl,HRW9,HSZ9,HO9⟩:=hcut
   rename World=>W9
   clear HRW8 HSZ8 HO8 HC2
   obtain⟨g1,c1f,hvf,hc1f⟩:=HRW9.out.form hfn (by omega)
   have HVF:=Lib.hid hvf
   have hg1:g1<O:=HRW9.out.top _ (.inr ⟨fn,hfn,.inl (by rw[hvf];rfl)⟩:MB _ _ _ _ _ g1)
   have hg0:g≠g1:=fun e=>own_other_types HRW9.out.mw.own (HRW9.out.mw.face fn hfn).own (by decide) (show _=some g from rfl) (by rw[hvf,e];rfl)
   have hB1:B≤g1:=((HRW9.out.mw.face fn hfn).lt (b:=g1) (.inl (by rw[hvf];rfl))).1
   have hB2:=HRW9.out.low.1
   have HNB:Hid (∀b,(Value.slice A9 n9 c9).ownBlock=some b→O<b):=fun b e=>by have:=own_base HO9.out b e;have:=HBB.out.1;omega
   have HE:Hid (∀W,RW [.cells #[.int .i64 N,.slice (some ad0) fs.length c] 26,.cells #[.int .i64 fn,.int .i64 ln,.int .i64 pn] 34,.cells #[.int .i64 0,.slice none 0 0] 26] w B O g cV N fs vf vl W→(W.cell? ⟨O,1,none⟩=some (.slice (some ⟨g,0,none⟩) fs.length cV)∧W.cell? ⟨w.heap.size+1,0,none⟩=some (.int .i64 fn)∧W.cell? ⟨w.heap.size+1,1,none⟩=some (.int .i64 ln)∧W.cell? ⟨w.heap.size+1,2,none⟩=some (.int .i64 pn)∧W.cell? ⟨g,fn,none⟩=some (.slice (some ⟨g1,0,none⟩) ((fcA fs fn).length) c1f)∧W.frozen? ⟨g1,ln,none⟩=false∧W.cell? ⟨g1,ln,none⟩=some (clO W ⟨g1,ln,none⟩))):=fun W h=>⟨h.o1,h.obs.cell 1 0 rfl rfl,h.obs.cell 1 1 rfl rfl,h.obs.cell 1 2 rfl rfl,by rw[h.face HX.out.1,HVF.out],(by have h1:=(h.mw.face fn HX.out.1).own;rw[HVF.out] at h1;exact World.ownsRow.frozenAt h1 ln),clO_of (h.loop HX.out.1 HX.out.2.1 HVF.out)⟩
   have HKS:Hid (∀W v,(W.cell? ⟨O,1,none⟩=some (.slice (some ⟨g,0,none⟩) fs.length cV)∧W.cell? ⟨w.heap.size+1,0,none⟩=some (.int .i64 fn)∧W.cell? ⟨w.heap.size+1,1,none⟩=some (.int .i64 ln)∧W.cell? ⟨w.heap.size+1,2,none⟩=some (.int .i64 pn)∧W.cell? ⟨g,fn,none⟩=some (.slice (some ⟨g1,0,none⟩) ((fcA fs fn).length) c1f)∧W.frozen? ⟨g1,ln,none⟩=false∧W.cell? ⟨g1,ln,none⟩=some (clO W ⟨g1,ln,none⟩))→((W.setCell ⟨g1,ln,none⟩ v).cell? ⟨O,1,none⟩=some (.slice (some ⟨g,0,none⟩) fs.length cV)∧(W.setCell ⟨g1,ln,none⟩ v).cell? ⟨w.heap.size+1,0,none⟩=some (.int .i64 fn)∧(W.setCell ⟨g1,ln,none⟩ v).cell? ⟨w.heap.size+1,1,none⟩=some (.int .i64 ln)∧(W.setCell ⟨g1,ln,none⟩ v).cell? ⟨w.heap.size+1,2,none⟩=some (.int .i64 pn)∧(W.setCell ⟨g1,ln,none⟩ v).cell? ⟨g,fn,none⟩=some (.slice (some ⟨g1,0,none⟩) ((fcA fs fn).length) c1f)∧(W.setCell ⟨g1,ln,none⟩ v).frozen? ⟨g1,ln,none⟩=false∧(W.setCell ⟨g1,ln,none⟩ v).cell? ⟨g1,ln,none⟩=some (clO (W.setCell ⟨g1,ln,none⟩ v) ⟨g1,ln,none⟩))):=fun W v h=>⟨set_far (by show g1≠O;omega) h.1,set_far (by show g1≠w.heap.size+1;simp at hB2;omega) h.2.1,set_far (by show g1≠w.heap.size+1;simp at hB2;omega) h.2.2.1,set_far (by show g1≠w.heap.size+1;simp at hB2;omega) h.2.2.2.1,set_far (Ne.symm hg0) h.2.2.2.2.1,set_frz h.2.2.2.2.2.1,set_here h.2.2.2.2.2.2⟩
   clear hvf hg1 hg0 hB1 hB2
   go_upto_region 10 with fail
   go_region_held3 (fun W=>(W.cell? ⟨O,1,none⟩=some (.slice (some ⟨g,0,none⟩) fs.length cV)∧W.cell? ⟨w.heap.size+1,0,none⟩=some (.int .i64 fn)∧W.cell? ⟨w.heap.size+1,1,none⟩=some (.int .i64 ln)∧W.cell? ⟨w.heap.size+1,2,none⟩=some (.int .i64 pn)∧W.cell? ⟨g,fn,none⟩=some (.slice (some ⟨g1,0,none⟩) ((fcA fs fn).length) c1f)∧W.frozen? ⟨g1,ln,none⟩=false∧W.cell? ⟨g1,ln,none⟩=some (clO W ⟨g1,ln,none⟩))) ((first | (with_reducible exact HKS.out _ _ (by assumption)) | (with_reducible exact HE.out _ ((HRW9.out.grown (grown_drew _)).kept hgrow HNB.out)) | (with_reducible exact HE.out _ (HRW9.out.grown (grown_drew _))))) ((refine step_append_ints (by rfl) _ _ (by rfl) BB (.slice A9 n9 c9) ((lpA fs fn ln).take q ++ ys) ((lpA fs fn ln).drop q) A3 (ll - q) (c1 - q) (by have:=HLL.out;simp;omega) (by rfl) (by rfl) (HO9.out.drew) (RI.below HRD.out.1 (HRW9.out.obs.below.trans ((Drawn0.below ⟨⟨1,rfl⟩⟩).mono HRW9.out.obs.below.size))) (by simp;have:=HSZ9.out;omega) (by have:=HLL.out;have:=HYS.out.2;simp;omega) ?_;intro v10 W10 hown10 hgrow hat;obtain⟨A10,n10,c10,rfl⟩:=own_slice3 hown10))
   have HRW10:=(HRW9.out.grown (grown_drew _)).kept hgrow HNB.out
   have hRO:=HRW10.put HX.out.1 HX.out.2.1 HVF.out (LR.of_own hown10)
   have HGE:Hid ((lpA fs fn ln).take q ++ ys ++ (lpA fs fn ln).drop q=anL N (lpA fs fn ln) pn):=by
    show _=_
    unfold anL
    rw[HYS.out.1,HLL.out.1,HLL.out.2.1,HZ.out]
   rw[HGE.out] at hRO
   clear HE HKS HRW10 hown10 hgrow hat HRW9 HO9
   generalize W10.setCell _ _=W11 at hRO ⊢
   have HRO:=Lib.hid hRO
   clear hRO
   have n0:=(blk_cells HRO.out.out).1 0 _ rfl
   have n1:=(blk_cells HRO.out.out).2 0
   have hNw:IntKind.i64.wrap (N+1)=N+1:=by rw[IntKind.wrap_i64];have h1:=HR.out.1.1;have h2:=HR.out.1.2.1;omega
   go_upto_region 12 with fail
   have HRO2:=Lib.hid (HRO.out.setN (N+1))
   clear n0 n1 HRO
   generalize W11.setCell _ _=W12 at HRO2 ⊢
   have HDN:=Lib.hid (HRO2.out.calls ((anL_fine HR.out fn ln pn).sm (by omega)))
   have n0:=(blk_cells HRO2.out.out).1 0 _ rfl
   have n1:=(blk_cells HRO2.out.out).1 1 _ rfl
   go_wp2_with fail
   ((with_reducible refine(HDN.out).mono ?_);rintro e W20 ⟨⟨bb,rfl,hbb⟩,hbl⟩)
   have HBB2:=Lib.hid hbb
   have HRO20:=Lib.hid (HRO2.out.call hbl)
   have HOB20:=Lib.hid HRO20.out.obs
   clear HDN hbb hbl HRO2 n0 n1
   have m20:W20.cell? ⟨w.heap.size+1+1,0,none⟩=some (.int .i64 0):=HOB20.out.cell 2 0 rfl rfl
   have z20:W20.frozen? ⟨w.heap.size+1+1,0,none⟩=false:=HOB20.out.frz 2 0 rfl
   have m21:W20.cell? ⟨w.heap.size+1+1,1,none⟩=some (.slice none 0 0):=HOB20.out.cell 2 1 rfl rfl
   have z21:W20.frozen? ⟨w.heap.size+1+1,1,none⟩=false:=HOB20.out.frz 2 1 rfl
   have HE:Hid (ranE N fs fn ln pn=doneE (N+1) (setL fs fn ln (anL N (lpA fs fn ln) pn))):=by show _=_;unfold ranE;rw[if_neg (fun h=>h ⟨by have:=HX.out;omega,by have:=HX.out;omega,by have:=HX.out;omega,by have:=HX.out;simp only[Int.toNat_natCast];omega,by omega,by have:=HX.out;simp only[Int.toNat_natCast];omega⟩)];simp only[Int.toNat_natCast]
   cases bb
   ·go_wp2
    obtain⟨hx,hxB⟩:=HOB20.out.ret 2 (.int .i64 0) (.slice none 0 0) rfl
    have e00:=(blk_cells hx).1 0 _ rfl
    have e01:=(blk_cells hx).1 1 _ rfl
    refine bodyPost_ret (v:=.tuple #[.agg #[.int .i64 0,.slice none 0 0],.int .i64 2]) (by simp[results,Try.f34,go_sem,e00,e01]) rfl ?_
    exact⟨HRO20.out.done (b:=false) 2 rfl (.int .i64 0) (.slice none 0 0) HE.out (by simpa using HBB2.out) rfl,hxB⟩
   ·go_wp2
    obtain⟨hx,hxB⟩:=HOB20.out.ret 2 (.int .i64 (N+1)) (.slice (some ⟨g,0,none⟩) fs.length cV) rfl
    have e00:=(blk_cells hx).1 0 _ rfl
    have e01:=(blk_cells hx).1 1 _ rfl
    refine bodyPost_ret (v:=.tuple #[.agg #[.int .i64 (N+1),.slice (some ⟨g,0,none⟩) fs.length cV],.int .i64 0]) (by simp[results,Try.f34,go_sem,e00,e01]) rfl ?_
    exact⟨HRO20.out.done (b:=true) 2 rfl (.int .i64 (N+1)) (.slice (some ⟨g,0,none⟩) fs.length cV) HE.out (by simpa using HBB2.out) rfl,hxB⟩
end Go.Proofs.Ytealnhaffphamaa

namespace Go.Proofs.Ytealnhaffphamaa
open Go.RowKit Go.Shelf Go.Proofs.YtealnhaffphamaaW.PrintWords
open Classical
noncomputable def dfE (N:Int) (fs:Fs) (f g:Int):Except Int (Int × Fs):=
 if ¬ RightP N fs then .error 140 else if ¬ (0≤f∧0≤g∧f<fs.length∧g<fs.length) then .error 1 else if f=g∨1<(fcA fs g.toNat).length then .error 7 else fitE N ((fs.set f.toNat (fcA fs f.toNat ++ [lpA fs g.toNat 0])).eraseIdx g.toNat)
theorem df_fine {N:Int} {fs:Fs} (h:RightP N fs) (f g:Nat):Fine 100000 ((fs.set f (fcA fs f ++ [lpA fs g 0])).eraseIdx g):=by
 have hF:=h.fine
 obtain⟨h1,h2⟩:=hF.loop g 0
 obtain⟨a,b,d⟩:=hF.face (f:=f)
 have h3:=hF.setF f (m:=4001) (y:=fcA fs f ++ [lpA fs g 0]) (by simp;omega) (by simp only[List.flatten_append,List.length_append,List.flatten_cons,List.flatten_nil,List.length_nil];omega) (fun v hv=>by
  rw[List.flatten_append,List.mem_append] at hv
  rcases hv with hv | hv
  ·exact d v hv
  ·exact h2 v (by simpa using hv))
 exact(h3.sub (List.eraseIdx_sublist _ _)).mono (by omega)
theorem df_ok {N:Int} {fs:Fs} {f g:Nat} (h:RightP N fs) (hf:f<fs.length) (hg:g<fs.length) (hne:f≠g) (h1:¬ 1<(fcA fs g).length):dfE N fs f g=fitE N ((fs.set f (fcA fs f ++ [lpA fs g 0])).eraseIdx g):=by
 unfold dfE
 rw[if_neg (fun q=>q h),if_neg (fun q=>q ⟨by omega,by omega,by omega,by omega⟩),if_neg (by rintro(q | q);exact hne (by omega);exact h1 (by simpa using q))]
 simp only[Int.toNat_natCast]
end Go.Proofs.Ytealnhaffphamaa

namespace Go.Proofs.Ytealnhaffphamaa
open Go.RowKit Go.Shelf Go.Proofs.YtealnhaffphamaaW.PrintWords
open Classical
noncomputable def rdfE (N:Int) (fs:Fs) (f g:Int):Except Int (Int × Fs):=
 if ¬ (0≤f∧0≤g∧f<fs.length∧g<fs.length) then .error 1 else if f=g∨1<(fcA fs g.toNat).length then .error 7 else doneE N ((fs.set f.toNat (fcA fs f.toNat ++ [lpA fs g.toNat 0])).eraseIdx g.toNat)
set_option maxRecDepth 100000 in
set_option maxHeartbeats 4000000 in
theorem rdropFace_any (N:Int) (A:Option Addr) (c:Nat) (fs:Fs) (f g:Int) (w:World) (hF:RF w A fs) (hc:fs.length≤c) (hR:RightP N fs) :
  Calls Try.prog 27 #[.agg #[.int .i64 N,.slice A fs.length c],.int .i64 f,.int .i64 g] w fun e w'=>OpT (rdfE N fs f g) e w'∧Below w.heap.size w w':=by
 obtain⟨W1,hW1⟩:∃W1,W1=(w.alloc (.cells #[.int .i64 N,.slice A fs.length c] 26)).alloc (.cells #[.int .i64 0,.slice none 0 0] 26):=⟨_,rfl⟩
 have HOB:Hid (Obs [.cells #[.int .i64 N,.slice A fs.length c] 26,.cells #[.int .i64 0,.slice none 0 0] 26] w W1):=by rw[hW1];exact Obs.two w _ _
 have HF:=Lib.hid hF
 have HR:=Lib.hid hR
 have HC:=Lib.hid hc
 clear hF hR hc
 go_enter Try.func27,Try.ntmps27
 go_upto_region 1 with fail
 rw[←hW1]
 clear hW1
 have m00:W1.cell? ⟨w.heap.size,0,none⟩=some (.int .i64 N):=HOB.out.cell 0 0 rfl rfl
 have m01:W1.cell? ⟨w.heap.size,1,none⟩=some (.slice A fs.length c):=HOB.out.cell 0 1 rfl rfl
 by_cases h0:0≤f∧0≤g∧f<fs.length∧g<fs.length
 ·obtain⟨fn,rfl⟩:=Int.eq_ofNat_of_zero_le h0.1
  obtain⟨gn,rfl⟩:=Int.eq_ofNat_of_zero_le h0.2.1
  have hfn:fn<fs.length:=by omega
  have hgn:gn<fs.length:=by omega
  clear h0
  have z1:¬ (fn:Int)≥(fs.length:Int):=by omega
  have z2:¬ (gn:Int)≥(fs.length:Int):=by omega
  have z3:(gn:Int)<(fs.length:Int):=by omega
  have z4:(fn:Int)<(fs.length:Int):=by omega
  obtain⟨ad0,AG,cG0,rfl,hcG,hcG2,-⟩:=HF.out.at hgn
  have hcG:=pw_cell_below HOB.out.below hcG
  by_cases h7:fn=gn∨1<(fcA fs gn).length
  ·have HE:Hid (rdfE N fs fn gn=.error 7):=by
    show _=_
    unfold rdfE
    rw[if_neg (fun h=>h ⟨by omega,by omega,by omega,by omega⟩),if_pos (by rcases h7 with h7 | h7;exact .inl (by rw[h7]);exact .inr (by simpa using h7))]
   have m10:W1.cell? ⟨w.heap.size+1,0,none⟩=some (.int .i64 0):=HOB.out.cell 1 0 rfl rfl
   have z10:W1.frozen? ⟨w.heap.size+1,0,none⟩=false:=HOB.out.frz 1 0 rfl
   have m11:W1.cell? ⟨w.heap.size+1,1,none⟩=some (.slice none 0 0):=HOB.out.cell 1 1 rfl rfl
   have z11:W1.frozen? ⟨w.heap.size+1,1,none⟩=false:=HOB.out.frz 1 1 rfl
   by_cases h8:(fn:Int)=(gn:Int)
   ·obtain rfl:fn=gn:=by omega
    clear h7
    go_wp2
    obtain⟨hx,hxB⟩:=HOB.out.ret 1 (.int .i64 0) (.slice none 0 0) rfl
    have e00:=(blk_cells hx).1 0 _ rfl
    have e01:=(blk_cells hx).1 1 _ rfl
    refine bodyPost_ret (v:=.tuple #[.agg #[.int .i64 0,.slice none 0 0],.int .i64 7]) (by simp[results,Try.f27,go_sem,e00,e01]) rfl ?_
    exact⟨by rw[HE.out];rfl,hxB⟩
   ·have h9:((fcA fs gn).length:Int) > 1:=by omega
    clear h7
    go_wp2
    obtain⟨hx,hxB⟩:=HOB.out.ret 1 (.int .i64 0) (.slice none 0 0) rfl
    have e00:=(blk_cells hx).1 0 _ rfl
    have e01:=(blk_cells hx).1 1 _ rfl
    refine bodyPost_ret (v:=.tuple #[.agg #[.int .i64 0,.slice none 0 0],.int .i64 7]) (by simp[results,Try.f27,go_sem,e00,e01]) rfl ?_
    exact⟨by rw[HE.out];rfl,hxB⟩
  ·have h8:¬ (fn:Int)=(gn:Int):=by omega
   have h9:¬ ((fcA fs gn).length:Int) > 1:=by omega
   have HX:Hid (fn<fs.length∧gn<fs.length∧fn≠gn∧(fcA fs gn).length=1):=⟨hfn,hgn,by omega,by have:=(HR.out.1.2.2.2.2.2.2 gn hgn).1;omega⟩
   clear h7
   go_upto_region 5 with fail
   clear hcG hcG2 h8 h9 z1 z2 z3 z4
   clear m00 m01
   have HOW:=Lib.hid (rown_right N (some ad0) c fs W1 (HF.out.below HOB.out.below) HC.out HR.out)
   have m00:W1.cell? ⟨w.heap.size,0,none⟩=some (.int .i64 N):=HOB.out.cell 0 0 rfl rfl
   have m01:W1.cell? ⟨w.heap.size,1,none⟩=some (.slice (some ad0) fs.length c):=HOB.out.cell 0 1 rfl rfl
   go_upto_region 6 with((with_reducible refine(HOW.out).mono ?_);rintro e W4 ⟨⟨g,cV,vf,vl,rfl,hM,hMD⟩,hbl⟩)
   clear m00 m01 HOW
   clear hMD
   have HRW:Hid (RW [.cells #[.int .i64 N,.slice (some ad0) fs.length c] 26,.cells #[.int .i64 0,.slice none 0 0] 26] w W1.heap.size W4.heap.size g cV N fs vf vl (W4.alloc (.cells #[.int .i64 N,.slice (some ⟨g,0,none⟩) fs.length cV] 26))):=by
    have hg3:W4.grownBy (W4.alloc (.cells #[.int .i64 N,.slice (some ⟨g,0,none⟩) fs.length cV] 26)) none:=World.grownBy_alloc _ _ _
    exact⟨(HOB.out.call hbl).grown hg3,blk_new W4 _,hM.kept hg3 (fun r e=>by cases e),⟨HOB.out.size,hbl.size⟩,fun r hr=>(hM.lt hr).2⟩
   clear hM hbl HOB
   generalize W4.heap.size=O at HRW ⊢
   generalize W1.heap.size=B at HRW
   generalize W4.alloc (.cells #[.int .i64 N,.slice (some ⟨g,0,none⟩) fs.length cV] 26)=W5 at HRW ⊢
   obtain⟨g1,cF,hvf,hcF⟩:=HRW.out.form HX.out.1 (by have:=(HR.out.1.2.2.2.2.2.2 fn HX.out.1).1;omega)
   obtain⟨g2,cG,hvg,hcG⟩:=HRW.out.form HX.out.2.1 (by have:=HX.out.2.2.2;omega)
   obtain⟨⟨AU,nU,cU⟩,huL⟩:=slice_of_own ((HRW.out.mw.face gn HX.out.2.1).ownL 0 (by have:=HX.out.2.2.2;omega))
   have HUL:Hid (vl gn 0=.slice AU nU cU):=huL
   clear huL
   rw[HX.out.2.2.2] at hvg hcG
   have HVF:=Lib.hid hvf
   have HVG:=Lib.hid hvg
   have HGG:Hid (g1<O∧g<O∧g≠g1∧g2≠g1∧g2≠g∧B≤g1∧B≤g):=by
    have a1:=HRW.out.top g1 (.inr ⟨fn,HX.out.1,.inl (by rw[hvf];rfl)⟩)
    have a2:=HRW.out.top g (.inl rfl)
    have a3:g≠g1:=fun e=>own_other_types HRW.out.mw.own (HRW.out.mw.face fn HX.out.1).own (by decide) (show _=some g from rfl) (by rw[hvf,e];rfl)
    have a4:g≠g2:=fun e=>own_other_types HRW.out.mw.own (HRW.out.mw.face gn HX.out.2.1).own (by decide) (show _=some g from rfl) (by rw[hvg,e];rfl)
    have a5:g2≠g1:=fun e=>by
     rcases HRW.out.mw.dis fn HX.out.1 gn HX.out.2.1 HX.out.2.2.1 with z | z
     ·rw[hvf] at z;cases z
     ·rw[hvf,hvg] at z;exact z (by rw[e];rfl)
    have a6:B≤g1:=(HRW.out.mw.lt (b:=g1) (.inr ⟨fn,HX.out.1,.inl (by rw[hvf];rfl)⟩)).1
    have a7:B≤g:=(HRW.out.mw.lt (b:=g) (.inl rfl)).1
    exact⟨a1,a2,a3,a5,fun e=>a4 e.symm,a6,a7⟩
   clear hvf hvg
   have n1:=HRW.out.o1
   have n2:W5.cell? ⟨g,fn,none⟩=some (.slice (some ⟨g1,0,none⟩) ((fcA fs fn).length) cF):=by rw[HRW.out.face HX.out.1,HVF.out]
   have z4:(fn:Int)<(fs.length:Int):=by have:=HX.out;omega
   have z3:(gn:Int)<(fs.length:Int):=by have:=HX.out;omega
   go_upto_region 7 with fail
   clear n1 n2
   have HE:Hid (∀W,RW [.cells #[.int .i64 N,.slice (some ad0) fs.length c] 26,.cells #[.int .i64 0,.slice none 0 0] 26] w B O g cV N fs vf vl W→(W.cell? ⟨O,1,none⟩=some (.slice (some ⟨g,0,none⟩) fs.length cV)∧W.cell? ⟨g,gn,none⟩=some (.slice (some ⟨g2,0,none⟩) 1 cG)∧W.cell? ⟨g2,0,none⟩=some (.slice AU nU cU)∧W.frozen? ⟨g,fn,none⟩=false∧W.cell? ⟨g,fn,none⟩=some (clO W ⟨g,fn,none⟩))):=fun W h=>⟨h.o1,by rw[h.face HX.out.2.1,HVG.out],(h.loop HX.out.2.1 (by have:=HX.out.2.2.2;omega) (by rw[HVG.out,HX.out.2.2.2])).trans (by rw[HUL.out]),World.ownsRow.frozenAt h.mw.own fn,clO_of (h.face HX.out.1)⟩
   have HKG:Hid (∀W W1,(W.cell? ⟨O,1,none⟩=some (.slice (some ⟨g,0,none⟩) fs.length cV)∧W.cell? ⟨g,gn,none⟩=some (.slice (some ⟨g2,0,none⟩) 1 cG)∧W.cell? ⟨g2,0,none⟩=some (.slice AU nU cU)∧W.frozen? ⟨g,fn,none⟩=false∧W.cell? ⟨g,fn,none⟩=some (clO W ⟨g,fn,none⟩))→W.grownBy W1 (some g1)→(W1.cell? ⟨O,1,none⟩=some (.slice (some ⟨g,0,none⟩) fs.length cV)∧W1.cell? ⟨g,gn,none⟩=some (.slice (some ⟨g2,0,none⟩) 1 cG)∧W1.cell? ⟨g2,0,none⟩=some (.slice AU nU cU)∧W1.frozen? ⟨g,fn,none⟩=false∧W1.cell? ⟨g,fn,none⟩=some (clO W1 ⟨g,fn,none⟩))):=fun W W1 h hg=>⟨far_cell hg (by simp;have:=HGG.out;omega) (h.1),far_cell hg (by simp;have:=HGG.out;omega) (h.2.1),far_cell hg (by simp;have:=HGG.out;omega) (h.2.2.1),far_frz hg (by simp;have:=HGG.out;omega) (h.2.2.2.2) (h.2.2.2.1),far_here hg (by simp;have:=HGG.out;omega) (h.2.2.2.2)⟩
   have HKS:Hid (∀W v,(W.cell? ⟨O,1,none⟩=some (.slice (some ⟨g,0,none⟩) fs.length cV)∧W.cell? ⟨g,gn,none⟩=some (.slice (some ⟨g2,0,none⟩) 1 cG)∧W.cell? ⟨g2,0,none⟩=some (.slice AU nU cU)∧W.frozen? ⟨g,fn,none⟩=false∧W.cell? ⟨g,fn,none⟩=some (clO W ⟨g,fn,none⟩))→((W.setCell ⟨g,fn,none⟩ v).cell? ⟨O,1,none⟩=some (.slice (some ⟨g,0,none⟩) fs.length cV)∧(W.setCell ⟨g,fn,none⟩ v).cell? ⟨g,gn,none⟩=some (.slice (some ⟨g2,0,none⟩) 1 cG)∧(W.setCell ⟨g,fn,none⟩ v).cell? ⟨g2,0,none⟩=some (.slice AU nU cU)∧(W.setCell ⟨g,fn,none⟩ v).frozen? ⟨g,fn,none⟩=false∧(W.setCell ⟨g,fn,none⟩ v).cell? ⟨g,fn,none⟩=some (clO (W.setCell ⟨g,fn,none⟩ v) ⟨g,fn,none⟩))):=fun W v h=>⟨set_far (by show g≠O;have:=HGG.out;omega) h.1,set_oth HX.out.2.2.1 h.2.1,set_far (by show g≠g2;have:=HGG.out;omega) h.2.2.1,set_frz h.2.2.2.1,set_here h.2.2.2.2⟩
   have HOF:Hid (∀W,RW [.cells #[.int .i64 N,.slice (some ad0) fs.length c] 26,.cells #[.int .i64 0,.slice none 0 0] 26] w B O g cV N fs vf vl W→W.ownsRow B 36 1 (.slice (some ⟨g1,0,none⟩) ((fcA fs fn).length) cF) (fcA fs fn).length ((List.range (fcA fs fn).length).map (vl fn))):=fun W h=>by have h1:=(h.mw.face fn HX.out.1).own;rwa [HVF.out] at h1
   go_region_held3 (fun W=>(W.cell? ⟨O,1,none⟩=some (.slice (some ⟨g,0,none⟩) fs.length cV)∧W.cell? ⟨g,gn,none⟩=some (.slice (some ⟨g2,0,none⟩) 1 cG)∧W.cell? ⟨g2,0,none⟩=some (.slice AU nU cU)∧W.frozen? ⟨g,fn,none⟩=false∧W.cell? ⟨g,fn,none⟩=some (clO W ⟨g,fn,none⟩))) ((first | (with_reducible exact HKS.out _ _ (by assumption)) | (with_reducible exact HKG.out _ _ (by assumption) hgrow) | (with_reducible exact HE.out _ ((HRW.out.grown (grown_drew _)).grown (World.grownBy_alloc _ _ none))) | (with_reducible exact HE.out _ (HRW.out.grown (grown_drew _))))) ((refine step_keep1 (by rfl) _ _ _ (by rfl) B 36 Try.underlying37 infoL g1 cF (fcA fs fn).length _ (by rfl) (HOF.out _ ((HRW.out.grown (grown_drew _)).grown (World.grownBy_alloc _ _ none))) (.slice AU nU cU) rfl W5.heap.size (by rfl) (blk_new W5.drew _) (by have:=HR.out.fine.face (f:=fn);omega) (by have:=HRW.out.low;have:=HRW.out.size;simp;omega) ?_;intro q10 cap10 W10 hown10 hgrow hat))
   have hLR:LR W5 (.slice AU nU cU) (lpA fs gn 0):=by rw[show Value.slice AU nU cU=vl gn 0 from HUL.out.symm];exact LR.of_own ((HRW.out.mw.face gn HX.out.2.1).ownL 0 (by have:=HX.out.2.2.2;omega))
   have hRO:=((HRW.out.grown (grown_drew _)).grown (World.grownBy_alloc _ _ none)).faceApp HX.out.1 HVF.out ((hLR.kept (grown_drew _) (NoI.none _)).kept (World.grownBy_alloc _ _ none) (NoI.none _)) hown10 hgrow hat
   clear HE HKG HKS HOF hLR hown10 hgrow hat HRW z3 z4
   generalize W10.setCell _ _=W11 at hRO ⊢
   have HRO:=Lib.hid hRO
   clear hRO
   have HLL:Hid ((fs.set fn (fcA fs fn ++ [lpA fs gn 0])).length=fs.length):=List.length_set
   have HLS:=Lib.hid (HRO.out.less HLL.out.symm HX.out.2.1 (by have:=HR.out.fine.faces;omega))
   have n0:=(blk_cells HRO.out.out).1 1 _ rfl
   go_wp2_with fail
   ((with_reducible refine(HLS.out).mono ?_);rintro e W12 ⟨⟨A12,m12,c12,rfl,hM12⟩,hg12⟩)
   have HRO2:=Lib.hid (HRO.out.grown hg12)
   have HM12:=Lib.hid hM12
   clear n0 HRO HLS hg12 hM12
   have n0:=(blk_cells HRO2.out.out).1 1 _ rfl
   have n1:=(blk_cells HRO2.out.out).2 1
   go_upto_region 9 with fail
   have HRO3:=Lib.hid (HRO2.out.setF HM12.out)
   clear n0 n1 HRO2 HM12
   generalize W12.setCell _ _=W13 at HRO3 ⊢
   have HDN:=Lib.hid (HRO3.out.calls ((df_fine HR.out fn gn).sm (by omega)))
   have n0:=(blk_cells HRO3.out.out).1 0 _ rfl
   have n1:=(blk_cells HRO3.out.out).1 1 _ rfl
   go_wp2_with fail
   ((with_reducible refine(HDN.out).mono ?_);rintro e W20 ⟨⟨bb,rfl,hbb⟩,hbl⟩)
   have HBB2:=Lib.hid hbb
   have HRO20:=Lib.hid (HRO3.out.call hbl)
   have HOB20:=Lib.hid HRO20.out.obs
   clear HDN hbb hbl HRO3 n0 n1
   have m10:W20.cell? ⟨w.heap.size+1,0,none⟩=some (.int .i64 0):=HOB20.out.cell 1 0 rfl rfl
   have z10:W20.frozen? ⟨w.heap.size+1,0,none⟩=false:=HOB20.out.frz 1 0 rfl
   have m11:W20.cell? ⟨w.heap.size+1,1,none⟩=some (.slice none 0 0):=HOB20.out.cell 1 1 rfl rfl
   have z11:W20.frozen? ⟨w.heap.size+1,1,none⟩=false:=HOB20.out.frz 1 1 rfl
   have HE:Hid (rdfE N fs fn gn=doneE N ((fs.set fn (fcA fs fn ++ [lpA fs gn 0])).eraseIdx gn)):=by show _=_;unfold rdfE;rw[if_neg (fun q=>q ⟨by omega,by omega,by have:=HX.out;omega,by have:=HX.out;omega⟩),if_neg (by have h:=HX.out;rintro(q | q);exact h.2.2.1 (by omega);simp only[Int.toNat_natCast] at q;omega)];simp only[Int.toNat_natCast]
   cases bb
   ·go_wp2
    obtain⟨hx,hxB⟩:=HOB20.out.ret 1 (.int .i64 0) (.slice none 0 0) rfl
    have e00:=(blk_cells hx).1 0 _ rfl
    have e01:=(blk_cells hx).1 1 _ rfl
    refine bodyPost_ret (v:=.tuple #[.agg #[.int .i64 0,.slice none 0 0],.int .i64 2]) (by simp[results,Try.f27,go_sem,e00,e01]) rfl ?_
    exact⟨HRO20.out.done (b:=false) 1 rfl (.int .i64 0) (.slice none 0 0) HE.out (by simpa using HBB2.out) rfl,hxB⟩
   ·go_wp2
    obtain⟨hx,hxB⟩:=HOB20.out.ret 1 (.int .i64 N) (.slice A12 m12 c12) rfl
    have e00:=(blk_cells hx).1 0 _ rfl
    have e01:=(blk_cells hx).1 1 _ rfl
    refine bodyPost_ret (v:=.tuple #[.agg #[.int .i64 N,.slice A12 m12 c12],.int .i64 0]) (by simp[results,Try.f27,go_sem,e00,e01]) rfl ?_
    exact⟨HRO20.out.done (b:=true) 1 rfl (.int .i64 N) (.slice A12 m12 c12) HE.out (by simpa using HBB2.out) rfl,hxB⟩
 ·have HE:Hid (rdfE N fs f g=.error 1):=by
   show _=_
   unfold rdfE
   rw[if_pos h0]
  have m10:W1.cell? ⟨w.heap.size+1,0,none⟩=some (.int .i64 0):=HOB.out.cell 1 0 rfl rfl
  have z10:W1.frozen? ⟨w.heap.size+1,0,none⟩=false:=HOB.out.frz 1 0 rfl
  have m11:W1.cell? ⟨w.heap.size+1,1,none⟩=some (.slice none 0 0):=HOB.out.cell 1 1 rfl rfl
  have z11:W1.frozen? ⟨w.heap.size+1,1,none⟩=false:=HOB.out.frz 1 1 rfl
  rcases(show f<0∨(¬ f<0∧f≥fs.length)∨(¬ f<0∧¬ f≥fs.length∧g<0)∨(¬ f<0∧¬ f≥fs.length∧¬ g<0∧g≥fs.length) by omega) with h | ⟨h,h1⟩ | ⟨h,h1,h2⟩ | ⟨h,h1,h2,h3⟩
  all_goals
   clear h0
   go_wp2
   obtain⟨hx,hxB⟩:=HOB.out.ret 1 (.int .i64 0) (.slice none 0 0) rfl
   have e00:=(blk_cells hx).1 0 _ rfl
   have e01:=(blk_cells hx).1 1 _ rfl
   refine bodyPost_ret (v:=.tuple #[.agg #[.int .i64 0,.slice none 0 0],.int .i64 1]) (by simp[results,Try.f27,go_sem,e00,e01]) rfl ?_
   exact⟨by rw[HE.out];rfl,hxB⟩
end Go.Proofs.Ytealnhaffphamaa

namespace Go.Proofs.Ytealnhaffphamaa
open Go.RowKit Go.Shelf Go.Proofs.YtealnhaffphamaaW.PrintWords
open Classical
noncomputable def rafE (N:Int) (fs:Fs) (f l:Int):Except Int (Int × Fs):=
 if ¬ (0≤f∧f<fs.length∧0≤l∧l<(fcA fs f.toNat).length) then .error 1 else if (fcA fs f.toNat).length=1 then .error 7 else doneE N (fs.set f.toNat ((fcA fs f.toNat).eraseIdx l.toNat) ++ [[lpA fs f.toNat l.toNat]])
theorem af_fine {N:Int} {fs:Fs} (h:RightP N fs) (f l:Nat):Fine 100000 (fs.set f ((fcA fs f).eraseIdx l) ++ [[lpA fs f l]]):=by
 have hF:=h.fine
 obtain⟨h1,h2⟩:=hF.loop f l
 obtain⟨a,b,d⟩:=hF.face (f:=f)
 have hs:=List.eraseIdx_sublist (fcA fs f) l
 have h3:=hF.setF f (m:=2000) (y:=(fcA fs f).eraseIdx l) (Nat.le_trans hs.length_le a) (Nat.le_trans (sub_flatten hs).length_le b) (fun v hv=>d v ((sub_flatten hs).subset hv))
 exact(h3.app (Fine.one (m:=2000) (y:=[lpA fs f l]) (by omega) (by simp) (by simpa using h1) (fun v hv=>h2 v (by simpa using hv)))).mono (by omega)
set_option maxRecDepth 100000 in
set_option maxHeartbeats 4000000 in
theorem raddFace_any (N:Int) (A:Option Addr) (c:Nat) (fs:Fs) (f l:Int) (w:World) (hF:RF w A fs) (hc:fs.length≤c) (hR:RightP N fs) :
  Calls Try.prog 29 #[.agg #[.int .i64 N,.slice A fs.length c],.int .i64 f,.int .i64 l] w fun e w'=>OpT (rafE N fs f l) e w'∧Below w.heap.size w w':=by
 obtain⟨W1,hW1⟩:∃W1,W1=(w.alloc (.cells #[.int .i64 N,.slice A fs.length c] 26)).alloc (.cells #[.int .i64 0,.slice none 0 0] 26):=⟨_,rfl⟩
 have HOB:Hid (Obs [.cells #[.int .i64 N,.slice A fs.length c] 26,.cells #[.int .i64 0,.slice none 0 0] 26] w W1):=by rw[hW1];exact Obs.two w _ _
 have HF:=Lib.hid hF
 have HR:=Lib.hid hR
 have HC:=Lib.hid hc
 clear hF hR hc
 go_enter Try.func29,Try.ntmps29
 go_upto_region 1 with fail
 rw[←hW1]
 clear hW1
 have m00:W1.cell? ⟨w.heap.size,0,none⟩=some (.int .i64 N):=HOB.out.cell 0 0 rfl rfl
 have m01:W1.cell? ⟨w.heap.size,1,none⟩=some (.slice A fs.length c):=HOB.out.cell 0 1 rfl rfl
 by_cases h0:0≤f∧f<fs.length
 ·obtain⟨fn,rfl⟩:=Int.eq_ofNat_of_zero_le h0.1
  have hfn:fn<fs.length:=by omega
  clear h0
  have z1:¬ (fn:Int)≥(fs.length:Int):=by omega
  have z4:(fn:Int)<(fs.length:Int):=by omega
  obtain⟨ad0,AG,cG0,rfl,hcG,hcG2,-⟩:=HF.out.at hfn
  have hcG:=pw_cell_below HOB.out.below hcG
  by_cases h0:0≤l∧l<(fcA fs fn).length
  ·obtain⟨ln,rfl⟩:=Int.eq_ofNat_of_zero_le h0.1
   have hln:ln<(fcA fs fn).length:=by omega
   clear h0
   have z2:¬ (ln:Int)≥((fcA fs fn).length:Int):=by omega
   by_cases h7:(fcA fs fn).length=1
   ·have HE:Hid (rafE N fs fn ln=.error 7):=by
     show _=_
     unfold rafE
     rw[if_neg (fun h=>h ⟨by omega,by omega,by omega,by simp only[Int.toNat_natCast];omega⟩),if_pos (by simpa using h7)]
    have m10:W1.cell? ⟨w.heap.size+1,0,none⟩=some (.int .i64 0):=HOB.out.cell 1 0 rfl rfl
    have z10:W1.frozen? ⟨w.heap.size+1,0,none⟩=false:=HOB.out.frz 1 0 rfl
    have m11:W1.cell? ⟨w.heap.size+1,1,none⟩=some (.slice none 0 0):=HOB.out.cell 1 1 rfl rfl
    have z11:W1.frozen? ⟨w.heap.size+1,1,none⟩=false:=HOB.out.frz 1 1 rfl
    have h9:((fcA fs fn).length:Int)=1:=by omega
    clear h7
    go_wp2
    obtain⟨hx,hxB⟩:=HOB.out.ret 1 (.int .i64 0) (.slice none 0 0) rfl
    have e00:=(blk_cells hx).1 0 _ rfl
    have e01:=(blk_cells hx).1 1 _ rfl
    refine bodyPost_ret (v:=.tuple #[.agg #[.int .i64 0,.slice none 0 0],.int .i64 7]) (by simp[results,Try.f29,go_sem,e00,e01]) rfl ?_
    exact⟨by rw[HE.out];rfl,hxB⟩
   ·have h9:¬ ((fcA fs fn).length:Int)=1:=by omega
    have HX:Hid (fn<fs.length∧ln<(fcA fs fn).length∧(fcA fs fn).length≠1):=⟨hfn,hln,h7⟩
    go_upto_region 5 with fail
    clear hcG hcG2 h9 h7 z1 z4 z2
    clear m00 m01
    have HOW:=Lib.hid (rown_right N (some ad0) c fs W1 (HF.out.below HOB.out.below) HC.out HR.out)
    have m00:W1.cell? ⟨w.heap.size,0,none⟩=some (.int .i64 N):=HOB.out.cell 0 0 rfl rfl
    have m01:W1.cell? ⟨w.heap.size,1,none⟩=some (.slice (some ad0) fs.length c):=HOB.out.cell 0 1 rfl rfl
    go_upto_region 6 with((with_reducible refine(HOW.out).mono ?_);rintro e W4 ⟨⟨g,cV,vf,vl,rfl,hM,hMD⟩,hbl⟩)
    clear m00 m01 HOW
    clear hMD
    have HRW:Hid (RW [.cells #[.int .i64 N,.slice (some ad0) fs.length c] 26,.cells #[.int .i64 0,.slice none 0 0] 26] w W1.heap.size W4.heap.size g cV N fs vf vl (W4.alloc (.cells #[.int .i64 N,.slice (some ⟨g,0,none⟩) fs.length cV] 26))):=by
     have hg3:W4.grownBy (W4.alloc (.cells #[.int .i64 N,.slice (some ⟨g,0,none⟩) fs.length cV] 26)) none:=World.grownBy_alloc _ _ _
     exact⟨(HOB.out.call hbl).grown hg3,blk_new W4 _,hM.kept hg3 (fun r e=>by cases e),⟨HOB.out.size,hbl.size⟩,fun r hr=>(hM.lt hr).2⟩
    clear hM hbl HOB
    generalize W4.heap.size=O at HRW ⊢
    generalize W1.heap.size=B at HRW
    generalize W4.alloc (.cells #[.int .i64 N,.slice (some ⟨g,0,none⟩) fs.length cV] 26)=W5 at HRW ⊢
    obtain⟨g1,cF,hvf,hcF⟩:=HRW.out.form HX.out.1 (by have:=HX.out;omega)
    obtain⟨⟨AU,nU,cU⟩,huL⟩:=slice_of_own ((HRW.out.mw.face fn HX.out.1).ownL ln HX.out.2.1)
    have HUL:Hid (vl fn ln=.slice AU nU cU):=huL
    clear huL
    have HVF:=Lib.hid hvf
    have HGG:Hid (g1<O∧g<O∧B≤g1∧B≤g):=⟨HRW.out.top g1 (.inr ⟨fn,HX.out.1,.inl (by rw[hvf];rfl)⟩),HRW.out.top g (.inl rfl),(HRW.out.mw.lt (b:=g1) (.inr ⟨fn,HX.out.1,.inl (by rw[hvf];rfl)⟩)).1,(HRW.out.mw.lt (b:=g) (.inl rfl)).1⟩
    have n1:=HRW.out.o1
    have n2:W5.cell? ⟨g,fn,none⟩=some (.slice (some ⟨g1,0,none⟩) ((fcA fs fn).length) cF):=by rw[HRW.out.face HX.out.1,HVF.out]
    have n3:W5.cell? ⟨g1,ln,none⟩=some (.slice AU nU cU):=(HRW.out.loop HX.out.1 HX.out.2.1 HVF.out).trans (by rw[HUL.out])
    have z4:(fn:Int)<(fs.length:Int):=by have:=HX.out;omega
    have z3:(ln:Int)<((fcA fs fn).length:Int):=by have:=HX.out;omega
    clear hvf
    go_upto_region 8 with(at_builtin;refine wpList_keep1 rfl _ _ _ rfl B 37 Try.underlying24 infoF g cV fs.length _ rfl (((HRW.out.grown (World.grownBy_alloc _ _ none)).grown (World.grownBy_alloc _ _ none)).mw.own) (.slice (some ⟨W5.heap.size,0,none⟩) 1 1) rfl (W5.heap.size+1) rfl (by have h:=blk_new (W5.alloc (.cells #[.slice AU nU cU] 36)) (.cells #[.slice (some ⟨W5.heap.size,0,none⟩) 1 1] 37);simpa using h) (by have:=HR.out.fine.faces;omega) (by have:=HRW.out.low;have:=HRW.out.size;simp;omega) ?_;intro g7 cap7 W7 hown7 hg7 hat7)
    clear n1 n2 n3
    have hA:=(HRW.out.grown (World.grownBy_alloc W5 (.cells #[.slice AU nU cU] 36) none)).grown (World.grownBy_alloc _ (.cells #[.slice (some ⟨W5.heap.size,0,none⟩) 1 1] 37) none)
    have hLR:LR W5 (.slice AU nU cU) (lpA fs fn ln):=by rw[show Value.slice AU nU cU=vl fn ln from HUL.out.symm];exact LR.of_own ((HRW.out.mw.face fn HX.out.1).ownL ln HX.out.2.1)
    have hB5:B≤W5.heap.size:=by have:=HRW.out.low;have:=HRW.out.size;omega
    have hFR:=fr_one (base:=B) ((blk_new W5 (.cells #[.slice AU nU cU] 36)).alloc (o':=.cells #[.slice (some ⟨W5.heap.size,0,none⟩) 1 1] 37)) hB5 ((hLR.kept (World.grownBy_alloc _ _ none) (NoI.none _)).kept (World.grownBy_alloc _ _ none) (NoI.none _))
    have hM7:=(MR.of hA.mw).appF hFR (fun j hj=>Ap.of_lt (B:=W5.heap.size) (fun r q=>((HRW.out.mw.lt (b:=r) (.inr ⟨j,hj,.inl q⟩))).2) (fun r q=>by cases q;exact Nat.le_refl _)) hown7 hg7
    have hob7:=hA.obs.kept hg7 (fun k e=>by cases e;have:=HGG.out;have:=HRW.out.low;omega)
    have hout7:=hA.out.kept hg7 (fun e=>by injection e with e;have:=HGG.out;omega)
    have hc7:W7.cell? ⟨g,fn,none⟩=some (.slice (some ⟨g1,0,none⟩) ((fcA fs fn).length) cF):=by
     have ho7:=hM7.own
     rw[show(fs ++ [[lpA fs fn ln]]).length=fs.length+1 by simp] at ho7
     rcases hat7 with e | ⟨_,hgn⟩
     ·have q0:=World.ownsRow.cellAt ho7 fn (by have:=HX.out;omega)
      rw[List.getElem?_map,List.getElem?_range (by have:=HX.out;omega)] at q0
      simp only[Option.map_some,if_neg (Nat.ne_of_lt HX.out.1),HVF.out] at q0
      rw[←e];exact q0
     ·exact far_cell hgn (by simp) (by rw[hA.face HX.out.1,HVF.out])
    have HG7:Hid (B≤g7∧g7≠O):=by
     rcases hat7 with e | ⟨e,_⟩
     ·have:=HGG.out;exact⟨by omega,by omega⟩
     ·simp at e;have:=HRW.out.size;exact⟨by omega,by omega⟩
    have HM7:=Lib.hid hM7
    have HOB7:=Lib.hid hob7
    have HOUT7:=Lib.hid hout7
    have HC7:=Lib.hid hc7
    have HLOW:=Lib.hid HRW.out.low
    have HSZ:Hid (B≤W7.heap.size):=by have h:=hg7.size;simp at h;show B≤W7.heap.size;omega
    clear hA hLR hFR hM7 hob7 hout7 hc7 hown7 hg7 hat7 HRW hB5
    have hF7:=HM7.out.face fn (by have:=HX.out;simp;omega)
    have e7:fcA (fs ++ [[lpA fs fn ln]]) fn=fcA fs fn:=by unfold fcA;rw[List.getD_eq_getElem?_getD,List.getD_eq_getElem?_getD,List.getElem?_append_left HX.out.1]
    simp only[if_neg (Nat.ne_of_lt HX.out.1),e7,HVF.out] at hF7
    have HWT:=Lib.hid (hF7.without rfl HX.out.2.1 (by have:=HR.out.fine.face (f:=fn);omega))
    clear hF7
    have n1:=(blk_cells HOUT7.out).1 1 _ rfl
    have n2:=HC7.out
    go_wp2_with fail
    ((with_reducible refine(HWT.out).mono ?_);rintro e W8 ⟨⟨A8,m8,c8,lv8,rfl,hF8⟩,hg8⟩)
    clear n1 n2 HWT
    have hM8:=HM7.out.face_new (f:=fn) (by have:=HX.out;simp;omega) (show _=Value.slice (some ⟨g7,0,none⟩) (fs ++ [[lpA fs fn ln]]).length cap7 by simp) hg8 (.inl rfl) (hF8.lower HSZ.out) (.inr (fun b q=>(World.ownsRow.lt hF8.own b q).1))
    have hM8':=HM7.out.grown hg8
    have ho8:=hM8'.own
    rw[show(fs ++ [[lpA fs fn ln]]).length=fs.length+1 by simp] at ho8
    have n3:=World.ownsRow.frozenAt ho8 fn
    have n4:=clO_of (World.ownsRow.cellAt ho8 fn (by have:=HX.out;omega) |>.trans (List.getElem?_eq_getElem (by have:=HX.out;simp;omega)))
    have z5:(fn:Int)<(fs.length:Int)+1:=by omega
    have HOB8:=Lib.hid (HOB7.out.grown hg8)
    have HOUT8:=Lib.hid (HOUT7.out.kept hg8 (by simp))
    have HM8:=Lib.hid hM8
    clear hM8 hM8' hg8 hF8 ho8
    go_upto_region 9 with fail
    clear n3 n4
    have hg9:=grown_set W8 g7 fn (.slice A8 m8 c8)
    have HOB9:=Lib.hid (HOB8.out.kept hg9 (fun k e=>by cases e;have:=HG7.out;have:=HLOW.out;omega))
    have HOUT9:=Lib.hid (HOUT8.out.kept hg9 (fun e=>by injection e with e;exact HG7.out.2 e.symm))
    clear hg9 HOB8 HOUT8 HOB7 HOUT7 HM7 HC7
    have HFS:Hid ((fs ++ [[lpA fs fn ln]]).set fn ((fcA fs fn).eraseIdx ln)=(fs.set fn ((fcA fs fn).eraseIdx ln) ++ [[lpA fs fn ln]])):=by show _=_;rw[List.set_append_left _ _ HX.out.1]
    have hM9:=HM8.out
    rw[HFS.out] at hM9
    have HM9:=Lib.hid hM9
    clear HM8 hM9
    generalize W8.setCell _ _=W9 at HOB9 HOUT9 HM9 ⊢
    have n1:=(blk_cells HOUT9.out).2 1
    have n3:=(blk_cells HOUT9.out).1 1 _ rfl
    go_upto_region 10 with fail
    have HRO:=Lib.hid (ro_new HOB9.out HOUT9.out HM9.out HLOW.out)
    clear n1 n3 HOB9 HOUT9 HM9
    generalize W9.setCell _ _=W13 at HRO ⊢
    have HDN:=Lib.hid (HRO.out.calls ((af_fine HR.out fn ln).sm (by omega)))
    have n0:=(blk_cells HRO.out.out).1 0 _ rfl
    have n1:=(blk_cells HRO.out.out).1 1 _ rfl
    go_wp2_with fail
    ((with_reducible refine(HDN.out).mono ?_);rintro e W20 ⟨⟨bb,rfl,hbb⟩,hbl⟩)
    have HBB2:=Lib.hid hbb
    have HRO20:=Lib.hid (HRO.out.call hbl)
    have HOB20:=Lib.hid HRO20.out.obs
    clear HDN hbb hbl HRO n0 n1
    have m10:W20.cell? ⟨w.heap.size+1,0,none⟩=some (.int .i64 0):=HOB20.out.cell 1 0 rfl rfl
    have z10:W20.frozen? ⟨w.heap.size+1,0,none⟩=false:=HOB20.out.frz 1 0 rfl
    have m11:W20.cell? ⟨w.heap.size+1,1,none⟩=some (.slice none 0 0):=HOB20.out.cell 1 1 rfl rfl
    have z11:W20.frozen? ⟨w.heap.size+1,1,none⟩=false:=HOB20.out.frz 1 1 rfl
    have HE:Hid (rafE N fs fn ln=doneE N (fs.set fn ((fcA fs fn).eraseIdx ln) ++ [[lpA fs fn ln]])):=by show _=_;unfold rafE;rw[if_neg (fun q=>q ⟨by omega,by have:=HX.out;omega,by omega,by have:=HX.out;simp only[Int.toNat_natCast];omega⟩),if_neg (by have h:=HX.out;simp only[Int.toNat_natCast];omega)];simp only[Int.toNat_natCast]
    cases bb
    ·go_wp2
     obtain⟨hx,hxB⟩:=HOB20.out.ret 1 (.int .i64 0) (.slice none 0 0) rfl
     have e00:=(blk_cells hx).1 0 _ rfl
     have e01:=(blk_cells hx).1 1 _ rfl
     refine bodyPost_ret (v:=.tuple #[.agg #[.int .i64 0,.slice none 0 0],.int .i64 2]) (by simp[results,Try.f29,go_sem,e00,e01]) rfl ?_
     exact⟨HRO20.out.done (b:=false) 1 rfl (.int .i64 0) (.slice none 0 0) HE.out (by simpa using HBB2.out) rfl,hxB⟩
    ·go_wp2
     obtain⟨hx,hxB⟩:=HOB20.out.ret 1 (.int .i64 N) (.slice (some ⟨g7,0,none⟩) ((fs.length+1)) cap7) rfl
     have e00:=(blk_cells hx).1 0 _ rfl
     have e01:=(blk_cells hx).1 1 _ rfl
     refine bodyPost_ret (v:=.tuple #[.agg #[.int .i64 N,.slice (some ⟨g7,0,none⟩) ((fs.length+1)) cap7],.int .i64 0]) (by simp[results,Try.f29,go_sem,e00,e01]) rfl ?_
     exact⟨HRO20.out.done (b:=true) 1 rfl (.int .i64 N) (.slice (some ⟨g7,0,none⟩) ((fs.length+1)) cap7) HE.out (by simpa using HBB2.out) rfl,hxB⟩
  ·have HE:Hid (rafE N fs fn l=.error 1):=by
    show _=_
    unfold rafE
    rw[if_pos (fun h=>h0 ⟨h.2.2.1,by simpa using h.2.2.2⟩)]
   have m10:W1.cell? ⟨w.heap.size+1,0,none⟩=some (.int .i64 0):=HOB.out.cell 1 0 rfl rfl
   have z10:W1.frozen? ⟨w.heap.size+1,0,none⟩=false:=HOB.out.frz 1 0 rfl
   have m11:W1.cell? ⟨w.heap.size+1,1,none⟩=some (.slice none 0 0):=HOB.out.cell 1 1 rfl rfl
   have z11:W1.frozen? ⟨w.heap.size+1,1,none⟩=false:=HOB.out.frz 1 1 rfl
   rcases(show l<0∨(¬ l<0∧l≥(fcA fs fn).length) by omega) with h | ⟨h,h1⟩
   all_goals
    clear h0
    go_wp2
    obtain⟨hx,hxB⟩:=HOB.out.ret 1 (.int .i64 0) (.slice none 0 0) rfl
    have e00:=(blk_cells hx).1 0 _ rfl
    have e01:=(blk_cells hx).1 1 _ rfl
    refine bodyPost_ret (v:=.tuple #[.agg #[.int .i64 0,.slice none 0 0],.int .i64 1]) (by simp[results,Try.f29,go_sem,e00,e01]) rfl ?_
    exact⟨by rw[HE.out];rfl,hxB⟩
 ·have HE:Hid (rafE N fs f l=.error 1):=by
   show _=_
   unfold rafE
   rw[if_pos (fun h=>h0 ⟨h.1,h.2.1⟩)]
  have m10:W1.cell? ⟨w.heap.size+1,0,none⟩=some (.int .i64 0):=HOB.out.cell 1 0 rfl rfl
  have z10:W1.frozen? ⟨w.heap.size+1,0,none⟩=false:=HOB.out.frz 1 0 rfl
  have m11:W1.cell? ⟨w.heap.size+1,1,none⟩=some (.slice none 0 0):=HOB.out.cell 1 1 rfl rfl
  have z11:W1.frozen? ⟨w.heap.size+1,1,none⟩=false:=HOB.out.frz 1 1 rfl
  rcases(show f<0∨(¬ f<0∧f≥fs.length) by omega) with h | ⟨h,h1⟩
  all_goals
   clear h0
   go_wp2
   obtain⟨hx,hxB⟩:=HOB.out.ret 1 (.int .i64 0) (.slice none 0 0) rfl
   have e00:=(blk_cells hx).1 0 _ rfl
   have e01:=(blk_cells hx).1 1 _ rfl
   refine bodyPost_ret (v:=.tuple #[.agg #[.int .i64 0,.slice none 0 0],.int .i64 1]) (by simp[results,Try.f29,go_sem,e00,e01]) rfl ?_
   exact⟨by rw[HE.out];rfl,hxB⟩
end Go.Proofs.Ytealnhaffphamaa
