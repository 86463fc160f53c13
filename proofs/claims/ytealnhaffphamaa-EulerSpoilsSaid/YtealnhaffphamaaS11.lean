/- Contracts of the functions that the statement reaches, and plain lemmas: part 11 of 31. -/
import Derived.Test.YtealnhaffphamaaS10
set_option linter.unusedVariables false
set_option linter.unusedSimpArgs false

namespace Go.Proofs.Ytealnhaffphamaa
open Go.RowKit Go.Shelf Go.Proofs.YtealnhaffphamaaW.PrintWords
theorem cmpA_ne (a b:List Int):(cmpA a b != 0) = !decide (a=b):=by
 by_cases h:a=b
 ·subst h;simp[cmpA_eq.2 rfl]
 ·have:¬ cmpA a b=0:=fun q=>h (cmpA_eq.1 q)
  simp[h,this]
def FaceLike (fs gs:Fs) (f:Nat):Prop:=(fcA fs f).length=(fcA gs f).length∧∀l,l<(fcA fs f).length→leastA (lpA fs f l)=leastA (lpA gs f l)
def LikeP (N M:Int) (fs gs:Fs):Prop:=N=M∧fs.length=gs.length∧∀f,f<fs.length→FaceLike fs gs f
def S11 (w:World) (fs gs:Fs) (ad ad2 ad1 ad12:Addr) (A1 A12:Option Addr) (c c2 c0 c02 c1 c12 k l n n2:Nat) (d:Nat) (W:World) (v:Value):Prop:=match d with | 51=>v=.pointer (some ⟨w.heap.size,1,none⟩) | 52=>v=.slice (some ad) fs.length c | 53=>v=.int .i64 k | 54=>v=.pointer (some (ad.add k)) | 55=>v=.slice (some ad1) (fcA fs k).length c0 | 56=>v=.int .i64 l | 57=>v=.pointer (some (ad1.add l)) | 58=>v=.slice A1 n c1 | 60=>v=.pointer (some ⟨w.heap.size+1,1,none⟩) | 61=>v=.slice (some ad2) gs.length c2 | 62=>v=.int .i64 k | 63=>v=.pointer (some (ad2.add k)) | 64=>v=.slice (some ad12) (fcA gs k).length c02 | 65=>v=.int .i64 l | 66=>v=.pointer (some (ad12.add l)) | 67=>v=.slice A12 n2 c12 | 69=>v=.int .i64 (cmpA (leastA (lpA fs k l)) (leastA (lpA gs k l))) | 70=>v=.bool (decide (¬ (leastA (lpA fs k l))=(leastA (lpA gs k l)))) | 59=>∃A' c',v=.slice A' n c'∧n≤c'∧RI W A' (leastA (lpA fs k l)) | 68=>∃A' c',v=.slice A' n2 c'∧n2≤c'∧RI W A' (leastA (lpA gs k l)) | _=>True
theorem S11.below {w:World} {fs gs:Fs} {ad ad2 ad1 ad12:Addr} {A1 A12:Option Addr} {c c2 c0 c02 c1 c12 k l n n2:Nat} {W W1:World} (hb:Below W.heap.size W W1):∀d v,S11 w fs gs ad ad2 ad1 ad12 A1 A12 c c2 c0 c02 c1 c12 k l n n2 d W v→S11 w fs gs ad ad2 ad1 ad12 A1 A12 c c2 c0 c02 c1 c12 k l n n2 d W1 v:=by
 intro d v h
 unfold S11 at h ⊢
 split at h
 all_goals first | exact h | (obtain⟨A',c',h1,h2,h3⟩:=h;exact⟨A',c',h1,h2,h3.below hb⟩)
set_option maxRecDepth 100000 in
set_option maxHeartbeats 4000000 in
theorem like_any (N M:Int) (A A2:Option Addr) (c c2:Nat) (fs gs:Fs) (w:World) (hF:RF w A fs) (hc:fs.length≤c) (hG:RF w A2 gs) (hc2:gs.length≤c2) (hS:Sm fs) (hS2:Sm gs) :
  Calls Try.prog 47 #[.agg #[.int .i64 N,.slice A fs.length c],.agg #[.int .i64 M,.slice A2 gs.length c2]] w fun e w'=>(∃b:Bool,e=.returned (.bool b)∧(b=true↔LikeP N M fs gs))∧Below w.heap.size w w':=by
 obtain⟨W1,hW1⟩:∃W1,W1=(w.alloc (.cells #[.int .i64 N,.slice A fs.length c] 26)).alloc (.cells #[.int .i64 M,.slice A2 gs.length c2] 26):=⟨_,rfl⟩
 have HOB:Hid (Obs [.cells #[.int .i64 N,.slice A fs.length c] 26,.cells #[.int .i64 M,.slice A2 gs.length c2] 26] w W1):=by rw[hW1];exact Obs.two w _ _
 have HF:=Lib.hid hF
 have HG:=Lib.hid hG
 have HS:=Lib.hid hS
 have HS2:=Lib.hid hS2
 have hsz:=hS.1
 have hsz2:=hS2.1
 clear hF hG hS hS2 hc hc2
 go_enter Try.func47,Try.ntmps47
 go_upto_region 1 with fail
 rw[←hW1]
 clear hW1
 have m00:W1.cell? ⟨w.heap.size,0,none⟩=some (.int .i64 N):=HOB.out.cell 0 0 rfl rfl
 have m01:W1.cell? ⟨w.heap.size,1,none⟩=some (.slice A fs.length c):=HOB.out.cell 0 1 rfl rfl
 have m10:W1.cell? ⟨w.heap.size+1,0,none⟩=some (.int .i64 M):=HOB.out.cell 1 0 rfl rfl
 have m11:W1.cell? ⟨w.heap.size+1,1,none⟩=some (.slice A2 gs.length c2):=HOB.out.cell 1 1 rfl rfl
 by_cases hNM:N=M
 ·by_cases hlen:fs.length=gs.length
  ·have HNM:=Lib.hid hNM
   have hl2:(fs.length:Int)=(gs.length:Int):=by omega
   have HLN:=Lib.hid hlen
   clear hlen
   go_upto_region 3 with fail
   clear m00 m01 m10 m11
   go_cut [5] from 7 (fun s5 wc=>s5=.int .i64 0∧W1=wc)
   case first=>
    go_wp2
    go_meet
    case rel=>exact⟨rfl,rfl⟩
   case rest=>
   obtain⟨rfl,rfl⟩:=hcut
   clear hl2 hNM
   go_wp2
   go_loopw [5] (fun s5 wr=>∃k:Nat,k≤fs.length∧s5=.int .i64 k∧Hid (Obs [.cells #[.int .i64 N,.slice A fs.length c] 26,.cells #[.int .i64 M,.slice A2 gs.length c2] 26] w wr)∧Hid (∀f,f<k→FaceLike fs gs f)) (fun v _=>fs.length - (intOf v).toNat)
   case atStart=>exact⟨0,by omega,rfl,HOB,fun f hf=>by omega⟩
   case round=>
    clear HOB
    rename World=>wr
    obtain⟨k,hk,rfl,HOB,HAL⟩:=hrel
    have m00:wr.cell? ⟨w.heap.size,0,none⟩=some (.int .i64 N):=HOB.out.cell 0 0 rfl rfl
    have m01:wr.cell? ⟨w.heap.size,1,none⟩=some (.slice A fs.length c):=HOB.out.cell 0 1 rfl rfl
    have m10:wr.cell? ⟨w.heap.size+1,0,none⟩=some (.int .i64 M):=HOB.out.cell 1 0 rfl rfl
    have m11:wr.cell? ⟨w.heap.size+1,1,none⟩=some (.slice A2 gs.length c2):=HOB.out.cell 1 1 rfl rfl
    by_cases hlt:k<fs.length
    ·have hkz:(k:Int)<(fs.length:Int):=by omega
     have hkg:k<gs.length:=by have:=HLN.out;omega
     have hkz2:(k:Int)<(gs.length:Int):=by omega
     obtain⟨ad,A0,c0,rfl,hc0,hl0,hr0⟩:=HF.out.at hlt
     obtain⟨ad2,A02,c02,rfl,hc02,hl02,hr02⟩:=HG.out.at hkg
     have HC0:Hid (∀W,Below w.heap.size w W→W.cell? (ad.add k)=some (.slice A0 (fcA fs k).length c0)):=fun W h=>pw_cell_below h hc0
     have HC02:Hid (∀W,Below w.heap.size w W→W.cell? (ad2.add k)=some (.slice A02 (fcA gs k).length c02)):=fun W h=>pw_cell_below h hc02
     have HR0:=Lib.hid hr0
     have HR02:=Lib.hid hr02
     clear hc0 hc02 hr0 hr02
     go_upto_region 6 with fail
     clear m00 m01 m10 m11
     by_cases hfl:(fcA fs k).length=(fcA gs k).length
     ·have HF2:Hid (((fcA fs k).length:Int)=((fcA gs k).length:Int)):=by show((fcA fs k).length:Int)=_;omega
      have HFL:=Lib.hid hfl
      clear hfl
      refine wp_region_inv' (by kernel_rfl) (by kernel_rfl) (fun listed aa wy=>∃t:Nat→Value,aa={ tmps:=#[.agg #[.int .i64 N,.slice (some ad) fs.length c],.agg #[.int .i64 M,.slice (some ad2) gs.length c2],.pointer (some ⟨w.heap.size,0,none⟩),.pointer (some ⟨w.heap.size+1,0,none⟩),u4,.int .i64 k,u6,u7,u8,u9,u10,u11,u12,u13,u14,u15,u16,u17,u18,u19,u20,.int .i64 k,.pointer (some ⟨w.heap.size,1,none⟩),.slice (some ad) fs.length c,.int .i64 fs.length,.bool true,u26,u27,t 28,t 29,t 30,t 31,t 32,t 33,t 34,t 35,t 36,t 37,t 38,t 39,t 40,u41,u42,u43,u44,u45,u46,u47,u48,u49,u50,u51,u52,u53,u54,u55,u56,u57,u58,u59,u60,u61,u62,u63,u64,u65,u66,u67,u68,u69,u70],defers:=[] }∧IR (fun wz=>Obs [.cells #[.int .i64 N,.slice (some ad) fs.length c] 26,.cells #[.int .i64 M,.slice (some ad2) gs.length c2] 26] w wz) (fun d (_:World) v=>match d with | 28=>v=.pointer (some ⟨w.heap.size,1,none⟩) | 29=>v=.slice (some ad) fs.length c | 30=>v=.int .i64 k | 31=>v=.pointer (some (ad.add k)) | 32=>v=.slice A0 (fcA fs k).length c0 | 33=>v=.int .i64 (fcA fs k).length | 34=>v=.pointer (some ⟨w.heap.size+1,1,none⟩) | 35=>v=.slice (some ad2) gs.length c2 | 36=>v=.int .i64 k | 37=>v=.pointer (some (ad2.add k)) | 38=>v=.slice A02 (fcA gs k).length c02 | 39=>v=.int .i64 (fcA gs k).length | 40=>v=.bool false | _=>True) [(0,28),(1,29),(2,30),(3,31),(4,32),(5,33),(6,34),(7,35),(8,36),(9,37),(10,38),(11,39),(12,40)] listed t wy) ⟨(fun d=>match d with | 28=>u28 | 29=>u29 | 30=>u30 | 31=>u31 | 32=>u32 | 33=>u33 | 34=>u34 | 35=>u35 | 36=>u36 | 37=>u37 | 38=>u38 | 39=>u39 | 40=>u40 | _=>undef),rfl,IR.start _ (HOB.out.grown (grown_drew _)) _⟩ ?_ ?_
      rotate_left
      ·rintro listed hCl ix hix aa wy ⟨t,rfl,hR⟩ hr
       match ix,hix,hr with
       | 0,_,hr=>
        as_aux_lemma=>
        refine wpOp_step rfl (fun K' hK=>?_)
        go_simp
        exact hK _ _ ⟨upd t 28 (.pointer (some ⟨w.heap.size,1,none⟩)),rfl,hR.yields hR.fin (fun _ _ h=>h) (by rfl) rfl⟩
       | 1,_,hr=>
        as_aux_lemma=>
        refine wpOp_step rfl (fun K' hK=>?_)
        have e1:t 28=.pointer (some ⟨w.heap.size,1,none⟩):=hR.val (0,28) (by simp) (dep_of hr 0 (by kernel_rfl))
        have f0:wy.cell? ⟨w.heap.size,1,none⟩=some (.slice (some ad) fs.length c):=(hR.fin).cell 0 1 rfl rfl
        go_simp
        exact hK _ _ ⟨upd t 29 (.slice (some ad) fs.length c),by simp[upd,e1],hR.yields hR.fin (fun _ _ h=>h) (by rfl) rfl⟩
       | 2,_,hr=>
        as_aux_lemma=>
        refine wpOp_step rfl (fun K' hK=>?_)
        go_simp
        exact hK _ _ ⟨upd t 30 (.int .i64 k),rfl,hR.yields hR.fin (fun _ _ h=>h) (by rfl) rfl⟩
       | 3,_,hr=>
        as_aux_lemma=>
        refine wpOp_step rfl (fun K' hK=>?_)
        have e1:t 29=.slice (some ad) fs.length c:=hR.val (1,29) (by simp) (dep_of hr 1 (by kernel_rfl))
        have e2:t 30=.int .i64 k:=hR.val (2,30) (by simp) (dep_of hr 2 (by kernel_rfl))
        go_simp
        exact hK _ _ ⟨upd t 31 (.pointer (some (ad.add k))),by simp[upd,e1,e2],hR.yields hR.fin (fun _ _ h=>h) (by rfl) rfl⟩
       | 4,_,hr=>
        as_aux_lemma=>
        refine wpOp_step rfl (fun K' hK=>?_)
        have e1:t 31=.pointer (some (ad.add k)):=hR.val (3,31) (by simp) (dep_of hr 3 (by kernel_rfl))
        have f0:=HC0.out _ (hR.fin).below
        go_simp
        exact hK _ _ ⟨upd t 32 (.slice A0 (fcA fs k).length c0),by simp[upd,e1],hR.yields hR.fin (fun _ _ h=>h) (by rfl) rfl⟩
       | 5,_,hr=>
        as_aux_lemma=>
        refine wpOp_step rfl (fun K' hK=>?_)
        have e1:t 32=.slice A0 (fcA fs k).length c0:=hR.val (4,32) (by simp) (dep_of hr 4 (by kernel_rfl))
        go_simp
        exact hK _ _ ⟨upd t 33 (.int .i64 (fcA fs k).length),by simp[upd,e1],hR.yields hR.fin (fun _ _ h=>h) (by rfl) rfl⟩
       | 6,_,hr=>
        as_aux_lemma=>
        refine wpOp_step rfl (fun K' hK=>?_)
        go_simp
        exact hK _ _ ⟨upd t 34 (.pointer (some ⟨w.heap.size+1,1,none⟩)),rfl,hR.yields hR.fin (fun _ _ h=>h) (by rfl) rfl⟩
       | 7,_,hr=>
        as_aux_lemma=>
        refine wpOp_step rfl (fun K' hK=>?_)
        have e1:t 34=.pointer (some ⟨w.heap.size+1,1,none⟩):=hR.val (6,34) (by simp) (dep_of hr 6 (by kernel_rfl))
        have f0:wy.cell? ⟨w.heap.size+1,1,none⟩=some (.slice (some ad2) gs.length c2):=(hR.fin).cell 1 1 rfl rfl
        go_simp
        exact hK _ _ ⟨upd t 35 (.slice (some ad2) gs.length c2),by simp[upd,e1],hR.yields hR.fin (fun _ _ h=>h) (by rfl) rfl⟩
       | 8,_,hr=>
        as_aux_lemma=>
        refine wpOp_step rfl (fun K' hK=>?_)
        go_simp
        exact hK _ _ ⟨upd t 36 (.int .i64 k),rfl,hR.yields hR.fin (fun _ _ h=>h) (by rfl) rfl⟩
       | 9,_,hr=>
        as_aux_lemma=>
        refine wpOp_step rfl (fun K' hK=>?_)
        have e1:t 35=.slice (some ad2) gs.length c2:=hR.val (7,35) (by simp) (dep_of hr 7 (by kernel_rfl))
        have e2:t 36=.int .i64 k:=hR.val (8,36) (by simp) (dep_of hr 8 (by kernel_rfl))
        go_simp
        exact hK _ _ ⟨upd t 37 (.pointer (some (ad2.add k))),by simp[upd,e1,e2],hR.yields hR.fin (fun _ _ h=>h) (by rfl) rfl⟩
       | 10,_,hr=>
        as_aux_lemma=>
        refine wpOp_step rfl (fun K' hK=>?_)
        have e1:t 37=.pointer (some (ad2.add k)):=hR.val (9,37) (by simp) (dep_of hr 9 (by kernel_rfl))
        have f0:=HC02.out _ (hR.fin).below
        go_simp
        exact hK _ _ ⟨upd t 38 (.slice A02 (fcA gs k).length c02),by simp[upd,e1],hR.yields hR.fin (fun _ _ h=>h) (by rfl) rfl⟩
       | 11,_,hr=>
        as_aux_lemma=>
        refine wpOp_step rfl (fun K' hK=>?_)
        have e1:t 38=.slice A02 (fcA gs k).length c02:=hR.val (10,38) (by simp) (dep_of hr 10 (by kernel_rfl))
        go_simp
        exact hK _ _ ⟨upd t 39 (.int .i64 (fcA gs k).length),by simp[upd,e1],hR.yields hR.fin (fun _ _ h=>h) (by rfl) rfl⟩
       | 12,_,hr=>
        as_aux_lemma=>
        refine wpOp_step rfl (fun K' hK=>?_)
        have e1:t 33=.int .i64 (fcA fs k).length:=hR.val (5,33) (by simp) (dep_of hr 5 (by kernel_rfl))
        have e2:t 39=.int .i64 (fcA gs k).length:=hR.val (11,39) (by simp) (dep_of hr 11 (by kernel_rfl))
        have hf2:=HF2.out
        go_simp
        exact hK _ _ ⟨upd t 40 (.bool false),by simp[upd,e1,e2,hf2],hR.yields hR.fin (fun _ _ h=>h) (by rfl) rfl⟩
       | nx+13,hix,_=>exact absurd (show nx+13<13 from hix) (by omega)
      rintro listed a2 W6 ⟨t,rfl,hR⟩ hl
      have hO6:=hR.fin
      have e40:t 40=.bool false:=hR.val (12,40) (by simp) (hl 12 (by decide))
      clear hR hl
      rw[e40]
      clear e40
      generalize t 28=u28
      generalize t 29=u29
      generalize t 30=u30
      generalize t 31=u31
      generalize t 32=u32
      generalize t 33=u33
      generalize t 34=u34
      generalize t 35=u35
      generalize t 36=u36
      generalize t 37=u37
      generalize t 38=u38
      generalize t 39=u39
      clear HOB
      have HOB:=Lib.hid hO6
      clear hO6 HF2
      go_upto_region 8 with fail
      go_cut [6] from 21 to 70 (fun s6 wc=>s6=.int .i64 0∧W6=wc)
      case first=>
       go_wp2
       go_meet
       case rel=>exact⟨rfl,rfl⟩
      case rest=>
      obtain⟨rfl,rfl⟩:=hcut
      go_wp2
      go_loopw [6] (fun s6 wi=>∃l:Nat,l≤(fcA fs k).length∧s6=.int .i64 l∧Hid (Obs [.cells #[.int .i64 N,.slice (some ad) fs.length c] 26,.cells #[.int .i64 M,.slice (some ad2) gs.length c2] 26] w wi)∧Hid (∀j,j<l→leastA (lpA fs k j)=leastA (lpA gs k j))) (fun v _=>(fcA fs k).length - (intOf v).toNat)
      case atStart=>exact⟨0,by omega,rfl,HOB,fun f hf=>by omega⟩
      case round=>
       clear HOB
       rename World=>wi
       obtain⟨l,hl,rfl,HOB,HLL⟩:=hrel
       have m00:wi.cell? ⟨w.heap.size,0,none⟩=some (.int .i64 N):=HOB.out.cell 0 0 rfl rfl
       have m01:wi.cell? ⟨w.heap.size,1,none⟩=some (.slice (some ad) fs.length c):=HOB.out.cell 0 1 rfl rfl
       have m10:wi.cell? ⟨w.heap.size+1,0,none⟩=some (.int .i64 M):=HOB.out.cell 1 0 rfl rfl
       have m11:wi.cell? ⟨w.heap.size+1,1,none⟩=some (.slice (some ad2) gs.length c2):=HOB.out.cell 1 1 rfl rfl
       have f1:=HC0.out _ HOB.out.below
       by_cases hlt2:l<(fcA fs k).length
       ·have hlz:(l:Int)<((fcA fs k).length:Int):=by omega
        have hl2:l<(fcA gs k).length:=by have:=HFL.out;omega
        obtain⟨ad1,A1,c1,rfl,hc1,hl1,hr1⟩:=HR0.out.atP hlt2
        obtain⟨ad12,A12,c12,rfl,hc12,hl12,hr12⟩:=HR02.out.atP hl2
        obtain⟨n,hn⟩:∃n,n=(lpA fs k l).length:=⟨_,rfl⟩
        obtain⟨n2,hn2⟩:∃n,n=(lpA gs k l).length:=⟨_,rfl⟩
        rw[←hn] at hc1 hl1
        rw[←hn2] at hc12 hl12
        have HC1:Hid (∀W,Below w.heap.size w W→W.cell? (ad1.add l)=some (.slice A1 n c1)):=fun W h=>pw_cell_below h hc1
        have HC12:Hid (∀W,Below w.heap.size w W→W.cell? (ad12.add l)=some (.slice A12 n2 c12)):=fun W h=>pw_cell_below h hc12
        have HR1:=Lib.hid hr1
        have HR12:=Lib.hid hr12
        have HN1:=Lib.hid hn
        have HN12:=Lib.hid hn2
        have HL1:=Lib.hid hl1
        have HL12:=Lib.hid hl12
        clear hr1 hr12 hc1 hc12 hn hn2 hl1 hl12
        go_upto_region 11 with fail
        clear m00 m01 m10 m11
        clear f1
        refine wp_region_inv' (by kernel_rfl) (by kernel_rfl) (fun listed aa wy=>∃t:Nat→Value,aa={ tmps:=#[.agg #[.int .i64 N,.slice (some ad) fs.length c],.agg #[.int .i64 M,.slice (some ad2) gs.length c2],.pointer (some ⟨w.heap.size,0,none⟩),.pointer (some ⟨w.heap.size+1,0,none⟩),u4,.int .i64 k,.int .i64 l,u7,u8,u9,u10,u11,u12,u13,u14,u15,u16,u17,u18,u19,u20,u21,u22,u23,u24,u25,u26,u27,u28,u29,u30,u31,u32,u33,u34,u35,u36,u37,u38,u39,u40,.int .i64 l,.pointer (some ⟨w.heap.size,1,none⟩),.slice (some ad) fs.length c,.int .i64 k,.pointer (some (ad.add k)),.slice (some ad1) (fcA fs k).length c0,.int .i64 (fcA fs k).length,.bool true,u49,u50,t 51,t 52,t 53,t 54,t 55,t 56,t 57,t 58,t 59,t 60,t 61,t 62,t 63,t 64,t 65,t 66,t 67,t 68,t 69,t 70],defers:=[] }∧IR (fun wz=>Obs [.cells #[.int .i64 N,.slice (some ad) fs.length c] 26,.cells #[.int .i64 M,.slice (some ad2) gs.length c2] 26] w wz) (S11 w fs gs ad ad2 ad1 ad12 A1 A12 c c2 c0 c02 c1 c12 k l n n2) [(0,51),(1,52),(2,53),(3,54),(4,55),(5,56),(6,57),(7,58),(8,59),(9,60),(10,61),(11,62),(12,63),(13,64),(14,65),(15,66),(16,67),(17,68),(18,69),(19,70)] listed t wy) ⟨(fun d=>match d with | 51=>u51 | 52=>u52 | 53=>u53 | 54=>u54 | 55=>u55 | 56=>u56 | 57=>u57 | 58=>u58 | 59=>u59 | 60=>u60 | 61=>u61 | 62=>u62 | 63=>u63 | 64=>u64 | 65=>u65 | 66=>u66 | 67=>u67 | 68=>u68 | 69=>u69 | 70=>u70 | _=>undef),rfl,IR.start _ (HOB.out.grown (grown_drew _)) _⟩ ?_ ?_
        rotate_left
        ·rintro listed hCl ix hix aa wy ⟨t,rfl,hR⟩ hr
         match ix,hix,hr with
         | 0,_,hr=>
          as_aux_lemma=>
          refine wpOp_step rfl (fun K' hK=>?_)
          go_simp
          exact hK _ _ ⟨upd t 51 (.pointer (some ⟨w.heap.size,1,none⟩)),rfl,hR.yields hR.fin (fun _ _ h=>h) (by rfl) rfl⟩
         | 1,_,hr=>
          as_aux_lemma=>
          refine wpOp_step rfl (fun K' hK=>?_)
          have e1:t 51=.pointer (some ⟨w.heap.size,1,none⟩):=hR.val (0,51) (by simp) (dep_of hr 0 (by kernel_rfl))
          have f0:wy.cell? ⟨w.heap.size,1,none⟩=some (.slice (some ad) fs.length c):=(hR.fin).cell 0 1 rfl rfl
          go_simp
          exact hK _ _ ⟨upd t 52 (.slice (some ad) fs.length c),by simp[upd,e1],hR.yields hR.fin (fun _ _ h=>h) (by rfl) rfl⟩
         | 2,_,hr=>
          as_aux_lemma=>
          refine wpOp_step rfl (fun K' hK=>?_)
          go_simp
          exact hK _ _ ⟨upd t 53 (.int .i64 k),rfl,hR.yields hR.fin (fun _ _ h=>h) (by rfl) rfl⟩
         | 3,_,hr=>
          as_aux_lemma=>
          refine wpOp_step rfl (fun K' hK=>?_)
          have e1:t 52=.slice (some ad) fs.length c:=hR.val (1,52) (by simp) (dep_of hr 1 (by kernel_rfl))
          have e2:t 53=.int .i64 k:=hR.val (2,53) (by simp) (dep_of hr 2 (by kernel_rfl))
          go_simp
          exact hK _ _ ⟨upd t 54 (.pointer (some (ad.add k))),by simp[upd,e1,e2],hR.yields hR.fin (fun _ _ h=>h) (by rfl) rfl⟩
         | 4,_,hr=>
          as_aux_lemma=>
          refine wpOp_step rfl (fun K' hK=>?_)
          have e1:t 54=.pointer (some (ad.add k)):=hR.val (3,54) (by simp) (dep_of hr 3 (by kernel_rfl))
          have f0:=HC0.out _ (hR.fin).below
          go_simp
          exact hK _ _ ⟨upd t 55 (.slice (some ad1) (fcA fs k).length c0),by simp[upd,e1],hR.yields hR.fin (fun _ _ h=>h) (by rfl) rfl⟩
         | 5,_,hr=>
          as_aux_lemma=>
          refine wpOp_step rfl (fun K' hK=>?_)
          go_simp
          exact hK _ _ ⟨upd t 56 (.int .i64 l),rfl,hR.yields hR.fin (fun _ _ h=>h) (by rfl) rfl⟩
         | 6,_,hr=>
          as_aux_lemma=>
          refine wpOp_step rfl (fun K' hK=>?_)
          have e1:t 55=.slice (some ad1) (fcA fs k).length c0:=hR.val (4,55) (by simp) (dep_of hr 4 (by kernel_rfl))
          have e2:t 56=.int .i64 l:=hR.val (5,56) (by simp) (dep_of hr 5 (by kernel_rfl))
          go_simp
          exact hK _ _ ⟨upd t 57 (.pointer (some (ad1.add l))),by simp[upd,e1,e2],hR.yields hR.fin (fun _ _ h=>h) (by rfl) rfl⟩
         | 7,_,hr=>
          as_aux_lemma=>
          refine wpOp_step rfl (fun K' hK=>?_)
          have e1:t 57=.pointer (some (ad1.add l)):=hR.val (6,57) (by simp) (dep_of hr 6 (by kernel_rfl))
          have f0:=HC1.out _ (hR.fin).below
          go_simp
          exact hK _ _ ⟨upd t 58 (.slice A1 n c1),by simp[upd,e1],hR.yields hR.fin (fun _ _ h=>h) (by rfl) rfl⟩
         | 8,_,hr=>
          as_aux_lemma=>
          refine wpOp_step rfl (fun K' hK=>?_)
          have e1:t 58=.slice A1 n c1:=hR.val (7,58) (by simp) (dep_of hr 7 (by kernel_rfl))
          have hI2:=hR.fin
          go_simp
          refine(least_any A1 n c1 (lpA fs k l) wy HN1.out (RI.below HR1.out hI2.below) HL1.out (by rw[HN1.out];have:=HS.out.2.2 k l;omega)).mono ?_
          rintro e W' ⟨⟨A',c',rfl,h1,h2⟩,hbl⟩
          exact hK _ _ ⟨upd t 59 (.slice A' n c'),by simp[upd,e1],hR.yields (hI2.call hbl) (S11.below hbl) ⟨A',c',rfl,h1,h2⟩ rfl⟩
         | 9,_,hr=>
          as_aux_lemma=>
          refine wpOp_step rfl (fun K' hK=>?_)
          go_simp
          exact hK _ _ ⟨upd t 60 (.pointer (some ⟨w.heap.size+1,1,none⟩)),rfl,hR.yields hR.fin (fun _ _ h=>h) (by rfl) rfl⟩
         | 10,_,hr=>
          as_aux_lemma=>
          refine wpOp_step rfl (fun K' hK=>?_)
          have e1:t 60=.pointer (some ⟨w.heap.size+1,1,none⟩):=hR.val (9,60) (by simp) (dep_of hr 9 (by kernel_rfl))
          have f0:wy.cell? ⟨w.heap.size+1,1,none⟩=some (.slice (some ad2) gs.length c2):=(hR.fin).cell 1 1 rfl rfl
          go_simp
          exact hK _ _ ⟨upd t 61 (.slice (some ad2) gs.length c2),by simp[upd,e1],hR.yields hR.fin (fun _ _ h=>h) (by rfl) rfl⟩
         | 11,_,hr=>
          as_aux_lemma=>
          refine wpOp_step rfl (fun K' hK=>?_)
          go_simp
          exact hK _ _ ⟨upd t 62 (.int .i64 k),rfl,hR.yields hR.fin (fun _ _ h=>h) (by rfl) rfl⟩
         | 12,_,hr=>
          as_aux_lemma=>
          refine wpOp_step rfl (fun K' hK=>?_)
          have e1:t 61=.slice (some ad2) gs.length c2:=hR.val (10,61) (by simp) (dep_of hr 10 (by kernel_rfl))
          have e2:t 62=.int .i64 k:=hR.val (11,62) (by simp) (dep_of hr 11 (by kernel_rfl))
          go_simp
          exact hK _ _ ⟨upd t 63 (.pointer (some (ad2.add k))),by simp[upd,e1,e2],hR.yields hR.fin (fun _ _ h=>h) (by rfl) rfl⟩
         | 13,_,hr=>
          as_aux_lemma=>
          refine wpOp_step rfl (fun K' hK=>?_)
          have e1:t 63=.pointer (some (ad2.add k)):=hR.val (12,63) (by simp) (dep_of hr 12 (by kernel_rfl))
          have f0:=HC02.out _ (hR.fin).below
          go_simp
          exact hK _ _ ⟨upd t 64 (.slice (some ad12) (fcA gs k).length c02),by simp[upd,e1],hR.yields hR.fin (fun _ _ h=>h) (by rfl) rfl⟩
         | 14,_,hr=>
          as_aux_lemma=>
          refine wpOp_step rfl (fun K' hK=>?_)
          go_simp
          exact hK _ _ ⟨upd t 65 (.int .i64 l),rfl,hR.yields hR.fin (fun _ _ h=>h) (by rfl) rfl⟩
         | 15,_,hr=>
          as_aux_lemma=>
          refine wpOp_step rfl (fun K' hK=>?_)
          have e1:t 64=.slice (some ad12) (fcA gs k).length c02:=hR.val (13,64) (by simp) (dep_of hr 13 (by kernel_rfl))
          have e2:t 65=.int .i64 l:=hR.val (14,65) (by simp) (dep_of hr 14 (by kernel_rfl))
          go_simp
          exact hK _ _ ⟨upd t 66 (.pointer (some (ad12.add l))),by simp[upd,e1,e2],hR.yields hR.fin (fun _ _ h=>h) (by rfl) rfl⟩
         | 16,_,hr=>
          as_aux_lemma=>
          refine wpOp_step rfl (fun K' hK=>?_)
          have e1:t 66=.pointer (some (ad12.add l)):=hR.val (15,66) (by simp) (dep_of hr 15 (by kernel_rfl))
          have f0:=HC12.out _ (hR.fin).below
          go_simp
          exact hK _ _ ⟨upd t 67 (.slice A12 n2 c12),by simp[upd,e1],hR.yields hR.fin (fun _ _ h=>h) (by rfl) rfl⟩
         | 17,_,hr=>
          as_aux_lemma=>
          refine wpOp_step rfl (fun K' hK=>?_)
          have e1:t 67=.slice A12 n2 c12:=hR.val (16,67) (by simp) (dep_of hr 16 (by kernel_rfl))
          have hI2:=hR.fin
          go_simp
          refine(least_any A12 n2 c12 (lpA gs k l) wy HN12.out (RI.below HR12.out hI2.below) HL12.out (by rw[HN12.out];have:=HS2.out.2.2 k l;omega)).mono ?_
          rintro e W' ⟨⟨A',c',rfl,h1,h2⟩,hbl⟩
          exact hK _ _ ⟨upd t 68 (.slice A' n2 c'),by simp[upd,e1],hR.yields (hI2.call hbl) (S11.below hbl) ⟨A',c',rfl,h1,h2⟩ rfl⟩
         | 18,_,hr=>
          as_aux_lemma=>
          refine wpOp_step rfl (fun K' hK=>?_)
          have hI2:=hR.fin
          obtain⟨A3,c3,e3,h31,h32⟩:∃A' c',t 59=.slice A' n c'∧n≤c'∧RI wy A' (leastA (lpA fs k l)):=hR.val (8,59) (by simp) (dep_of hr 8 (by kernel_rfl))
          obtain⟨A4,c4,e4,h41,h42⟩:∃A' c',t 68=.slice A' n2 c'∧n2≤c'∧RI wy A' (leastA (lpA gs k l)):=hR.val (17,68) (by simp) (dep_of hr 17 (by kernel_rfl))
          go_simp
          refine(cmp_any A3 A4 n c3 n2 c4 _ _ wy (by rw[leastA_len,HN1.out]) (by rw[leastA_len,HN12.out]) h32 h31 h42 h41 (by rw[leastA_len];have:=HS.out.2.2 k l;omega)).mono ?_
          rintro e W' ⟨rfl,hbl⟩
          exact hK _ _ ⟨upd t 69 (.int .i64 (cmpA (leastA (lpA fs k l)) (leastA (lpA gs k l)))),by simp[upd,e3,e4],hR.yields (hI2.call hbl) (S11.below hbl) rfl rfl⟩
         | 19,_,hr=>
          as_aux_lemma=>
          refine wpOp_step rfl (fun K' hK=>?_)
          have e1:t 69=.int .i64 (cmpA (leastA (lpA fs k l)) (leastA (lpA gs k l))):=hR.val (18,69) (by simp) (dep_of hr 18 (by kernel_rfl))
          go_simp
          exact hK _ _ ⟨upd t 70 (.bool (decide (¬ (leastA (lpA fs k l))=(leastA (lpA gs k l))))),by simp[upd,e1,cmpA_ne],hR.yields hR.fin (fun _ _ h=>h) (by rfl) rfl⟩
         | nx+20,hix,_=>exact absurd (show nx+20<20 from hix) (by omega)
        rintro listed a2 W11 ⟨t,rfl,hR⟩ hl
        have hO11:=hR.fin
        have e70:t 70=.bool (decide (¬ (leastA (lpA fs k l))=(leastA (lpA gs k l)))):=hR.val (19,70) (by simp) (hl 19 (by decide))
        clear hR hl
        rw[e70]
        clear e70
        generalize t 51=u51
        generalize t 52=u52
        generalize t 53=u53
        generalize t 54=u54
        generalize t 55=u55
        generalize t 56=u56
        generalize t 57=u57
        generalize t 58=u58
        generalize t 59=u59
        generalize t 60=u60
        generalize t 61=u61
        generalize t 62=u62
        generalize t 63=u63
        generalize t 64=u64
        generalize t 65=u65
        generalize t 66=u66
        generalize t 67=u67
        generalize t 68=u68
        generalize t 69=u69
        clear HOB
        have HOB:=Lib.hid hO11
        clear hO11
        by_cases hq:leastA (lpA fs k l)=leastA (lpA gs k l)
        ·have hs0:=HS.out.2.1 k
         have HQ:=Lib.hid hq
         rw[show decide (¬ leastA (lpA fs k l)=leastA (lpA gs k l))=false by simpa using hq]
         clear hq
         go_wp2
         go_roundw
         case rel=>exact⟨l+1,by omega,by go_num,HOB,fun j hj=>by
          rcases Nat.lt_or_ge j l with h | h
          ·exact HLL.out j h
          ·obtain rfl:j=l:=by omega
           exact HQ.out⟩
         case measure=>simp[intOf];omega
        ·have HQ:=Lib.hid hq
         rw[show decide (¬ leastA (lpA fs k l)=leastA (lpA gs k l))=true by simpa using hq]
         clear hq
         go_wp2
         go_ret
         exact⟨⟨false,rfl,by simp;exact fun h=>HQ.out ((h.2.2 k hlt).2 l hlt2)⟩,HOB.out.below⟩
       ·obtain rfl:l=(fcA fs k).length:=by omega
        go_wp2
        go_roundw
        case rel=>exact⟨k+1,by omega,by go_num,HOB,fun f hf=>by
         rcases Nat.lt_or_ge f k with h | h
         ·exact HAL.out f h
         ·obtain rfl:f=k:=by omega
          exact⟨HFL.out,HLL.out⟩⟩
        case measure=>simp[intOf];omega
     ·have HF2:Hid (¬ ((fcA fs k).length:Int)=((fcA gs k).length:Int)):=fun h=>hfl (by omega)
      have HFL:=Lib.hid hfl
      refine wp_region_inv' (by kernel_rfl) (by kernel_rfl) (fun listed aa wy=>∃t:Nat→Value,aa={ tmps:=#[.agg #[.int .i64 N,.slice (some ad) fs.length c],.agg #[.int .i64 M,.slice (some ad2) gs.length c2],.pointer (some ⟨w.heap.size,0,none⟩),.pointer (some ⟨w.heap.size+1,0,none⟩),u4,.int .i64 k,u6,u7,u8,u9,u10,u11,u12,u13,u14,u15,u16,u17,u18,u19,u20,.int .i64 k,.pointer (some ⟨w.heap.size,1,none⟩),.slice (some ad) fs.length c,.int .i64 fs.length,.bool true,u26,u27,t 28,t 29,t 30,t 31,t 32,t 33,t 34,t 35,t 36,t 37,t 38,t 39,t 40,u41,u42,u43,u44,u45,u46,u47,u48,u49,u50,u51,u52,u53,u54,u55,u56,u57,u58,u59,u60,u61,u62,u63,u64,u65,u66,u67,u68,u69,u70],defers:=[] }∧IR (fun wz=>Obs [.cells #[.int .i64 N,.slice (some ad) fs.length c] 26,.cells #[.int .i64 M,.slice (some ad2) gs.length c2] 26] w wz) (fun d (_:World) v=>match d with | 28=>v=.pointer (some ⟨w.heap.size,1,none⟩) | 29=>v=.slice (some ad) fs.length c | 30=>v=.int .i64 k | 31=>v=.pointer (some (ad.add k)) | 32=>v=.slice A0 (fcA fs k).length c0 | 33=>v=.int .i64 (fcA fs k).length | 34=>v=.pointer (some ⟨w.heap.size+1,1,none⟩) | 35=>v=.slice (some ad2) gs.length c2 | 36=>v=.int .i64 k | 37=>v=.pointer (some (ad2.add k)) | 38=>v=.slice A02 (fcA gs k).length c02 | 39=>v=.int .i64 (fcA gs k).length | 40=>v=.bool true | _=>True) [(0,28),(1,29),(2,30),(3,31),(4,32),(5,33),(6,34),(7,35),(8,36),(9,37),(10,38),(11,39),(12,40)] listed t wy) ⟨(fun d=>match d with | 28=>u28 | 29=>u29 | 30=>u30 | 31=>u31 | 32=>u32 | 33=>u33 | 34=>u34 | 35=>u35 | 36=>u36 | 37=>u37 | 38=>u38 | 39=>u39 | 40=>u40 | _=>undef),rfl,IR.start _ (HOB.out.grown (grown_drew _)) _⟩ ?_ ?_
      rotate_left
      ·rintro listed hCl ix hix aa wy ⟨t,rfl,hR⟩ hr
       match ix,hix,hr with
       | 0,_,hr=>
        as_aux_lemma=>
        refine wpOp_step rfl (fun K' hK=>?_)
        go_simp
        exact hK _ _ ⟨upd t 28 (.pointer (some ⟨w.heap.size,1,none⟩)),rfl,hR.yields hR.fin (fun _ _ h=>h) (by rfl) rfl⟩
       | 1,_,hr=>
        as_aux_lemma=>
        refine wpOp_step rfl (fun K' hK=>?_)
        have e1:t 28=.pointer (some ⟨w.heap.size,1,none⟩):=hR.val (0,28) (by simp) (dep_of hr 0 (by kernel_rfl))
        have f0:wy.cell? ⟨w.heap.size,1,none⟩=some (.slice (some ad) fs.length c):=(hR.fin).cell 0 1 rfl rfl
        go_simp
        exact hK _ _ ⟨upd t 29 (.slice (some ad) fs.length c),by simp[upd,e1],hR.yields hR.fin (fun _ _ h=>h) (by rfl) rfl⟩
       | 2,_,hr=>
        as_aux_lemma=>
        refine wpOp_step rfl (fun K' hK=>?_)
        go_simp
        exact hK _ _ ⟨upd t 30 (.int .i64 k),rfl,hR.yields hR.fin (fun _ _ h=>h) (by rfl) rfl⟩
       | 3,_,hr=>
        as_aux_lemma=>
        refine wpOp_step rfl (fun K' hK=>?_)
        have e1:t 29=.slice (some ad) fs.length c:=hR.val (1,29) (by simp) (dep_of hr 1 (by kernel_rfl))
        have e2:t 30=.int .i64 k:=hR.val (2,30) (by simp) (dep_of hr 2 (by kernel_rfl))
        go_simp
        exact hK _ _ ⟨upd t 31 (.pointer (some (ad.add k))),by simp[upd,e1,e2],hR.yields hR.fin (fun _ _ h=>h) (by rfl) rfl⟩
       | 4,_,hr=>
        as_aux_lemma=>
        refine wpOp_step rfl (fun K' hK=>?_)
        have e1:t 31=.pointer (some (ad.add k)):=hR.val (3,31) (by simp) (dep_of hr 3 (by kernel_rfl))
        have f0:=HC0.out _ (hR.fin).below
        go_simp
        exact hK _ _ ⟨upd t 32 (.slice A0 (fcA fs k).length c0),by simp[upd,e1],hR.yields hR.fin (fun _ _ h=>h) (by rfl) rfl⟩
       | 5,_,hr=>
        as_aux_lemma=>
        refine wpOp_step rfl (fun K' hK=>?_)
        have e1:t 32=.slice A0 (fcA fs k).length c0:=hR.val (4,32) (by simp) (dep_of hr 4 (by kernel_rfl))
        go_simp
        exact hK _ _ ⟨upd t 33 (.int .i64 (fcA fs k).length),by simp[upd,e1],hR.yields hR.fin (fun _ _ h=>h) (by rfl) rfl⟩
       | 6,_,hr=>
        as_aux_lemma=>
        refine wpOp_step rfl (fun K' hK=>?_)
        go_simp
        exact hK _ _ ⟨upd t 34 (.pointer (some ⟨w.heap.size+1,1,none⟩)),rfl,hR.yields hR.fin (fun _ _ h=>h) (by rfl) rfl⟩
       | 7,_,hr=>
        as_aux_lemma=>
        refine wpOp_step rfl (fun K' hK=>?_)
        have e1:t 34=.pointer (some ⟨w.heap.size+1,1,none⟩):=hR.val (6,34) (by simp) (dep_of hr 6 (by kernel_rfl))
        have f0:wy.cell? ⟨w.heap.size+1,1,none⟩=some (.slice (some ad2) gs.length c2):=(hR.fin).cell 1 1 rfl rfl
        go_simp
        exact hK _ _ ⟨upd t 35 (.slice (some ad2) gs.length c2),by simp[upd,e1],hR.yields hR.fin (fun _ _ h=>h) (by rfl) rfl⟩
       | 8,_,hr=>
        as_aux_lemma=>
        refine wpOp_step rfl (fun K' hK=>?_)
        go_simp
        exact hK _ _ ⟨upd t 36 (.int .i64 k),rfl,hR.yields hR.fin (fun _ _ h=>h) (by rfl) rfl⟩
       | 9,_,hr=>
        as_aux_lemma=>
        refine wpOp_step rfl (fun K' hK=>?_)
        have e1:t 35=.slice (some ad2) gs.length c2:=hR.val (7,35) (by simp) (dep_of hr 7 (by kernel_rfl))
        have e2:t 36=.int .i64 k:=hR.val (8,36) (by simp) (dep_of hr 8 (by kernel_rfl))
        go_simp
        exact hK _ _ ⟨upd t 37 (.pointer (some (ad2.add k))),by simp[upd,e1,e2],hR.yields hR.fin (fun _ _ h=>h) (by rfl) rfl⟩
       | 10,_,hr=>
        as_aux_lemma=>
        refine wpOp_step rfl (fun K' hK=>?_)
        have e1:t 37=.pointer (some (ad2.add k)):=hR.val (9,37) (by simp) (dep_of hr 9 (by kernel_rfl))
        have f0:=HC02.out _ (hR.fin).below
        go_simp
        exact hK _ _ ⟨upd t 38 (.slice A02 (fcA gs k).length c02),by simp[upd,e1],hR.yields hR.fin (fun _ _ h=>h) (by rfl) rfl⟩
       | 11,_,hr=>
        as_aux_lemma=>
        refine wpOp_step rfl (fun K' hK=>?_)
        have e1:t 38=.slice A02 (fcA gs k).length c02:=hR.val (10,38) (by simp) (dep_of hr 10 (by kernel_rfl))
        go_simp
        exact hK _ _ ⟨upd t 39 (.int .i64 (fcA gs k).length),by simp[upd,e1],hR.yields hR.fin (fun _ _ h=>h) (by rfl) rfl⟩
       | 12,_,hr=>
        as_aux_lemma=>
        refine wpOp_step rfl (fun K' hK=>?_)
        have e1:t 33=.int .i64 (fcA fs k).length:=hR.val (5,33) (by simp) (dep_of hr 5 (by kernel_rfl))
        have e2:t 39=.int .i64 (fcA gs k).length:=hR.val (11,39) (by simp) (dep_of hr 11 (by kernel_rfl))
        have hf2:=HF2.out
        go_simp
        exact hK _ _ ⟨upd t 40 (.bool true),by simp[upd,e1,e2,hf2],hR.yields hR.fin (fun _ _ h=>h) (by rfl) rfl⟩
       | nx+13,hix,_=>exact absurd (show nx+13<13 from hix) (by omega)
      rintro listed a2 W6 ⟨t,rfl,hR⟩ hl
      have hO6:=hR.fin
      have e40:t 40=.bool true:=hR.val (12,40) (by simp) (hl 12 (by decide))
      clear hR hl
      rw[e40]
      clear e40
      generalize t 28=u28
      generalize t 29=u29
      generalize t 30=u30
      generalize t 31=u31
      generalize t 32=u32
      generalize t 33=u33
      generalize t 34=u34
      generalize t 35=u35
      generalize t 36=u36
      generalize t 37=u37
      generalize t 38=u38
      generalize t 39=u39
      have HOB:=Lib.hid hO6
      go_wp2
      go_ret
      exact⟨⟨false,rfl,by simp;exact fun h=>HFL.out (h.2.2 k hlt).1⟩,HOB.out.below⟩
    ·obtain rfl:k=fs.length:=by omega
     go_wp2
     go_ret
     exact⟨⟨true,rfl,by simp;exact⟨HNM.out,HLN.out,HAL.out⟩⟩,HOB.out.below⟩
  ·have HLN:=Lib.hid hlen
   have hl2:¬ (fs.length:Int)=(gs.length:Int):=by omega
   clear hlen
   go_wp2
   go_ret
   exact⟨⟨false,rfl,by simp;exact fun h=>HLN.out h.2.1⟩,HOB.out.below⟩
 ·have HNM:=Lib.hid hNM
  have hN2:¬ N=M:=hNM
  go_wp2
  go_ret
  exact⟨⟨false,rfl,by simp;exact fun h=>HNM.out h.1⟩,HOB.out.below⟩
end Go.Proofs.Ytealnhaffphamaa

namespace Go.Proofs.Ytealnhaffphamaa
open Go.RowKit Go.Shelf Go.Proofs.YtealnhaffphamaaW.PrintWords
def Got (B:Nat) (N:Int) (fs:Fs) (v:Value) (W:World):Prop:=∃A c vf vl,v=.agg #[.int .i64 N,.slice A fs.length c]∧fs.length≤c∧MW B (.slice A fs.length c) fs fs.length vf vl W
theorem Got.rf {B:Nat} {N:Int} {fs:Fs} {v:Value} {W:World} (h:Got B N fs v W):∃A c,v=.agg #[.int .i64 N,.slice A fs.length c]∧fs.length≤c∧RF W A fs:=by
 obtain⟨A,c,vf,vl,h1,h2,h3⟩:=h
 obtain⟨A',c',e1,e2,e3⟩:=h3.reads
 injection e1 with ea en ec
 subst ea ec
 exact⟨A,c,h1,h2,e3⟩
theorem copy_got {w w':World} {v:Value} {fs:Fs} (h:∃vf vl,MW w.heap.size v fs fs.length vf vl w'):∃A c,v=.slice A fs.length c∧fs.length≤c∧∃vf vl,MW w.heap.size (.slice A fs.length c) fs fs.length vf vl w':=by
 obtain⟨vf,vl,h⟩:=h
 obtain⟨A,c,e1,e2,e3⟩:=h.reads
 subst e1
 exact⟨A,c,rfl,e2,vf,vl,h⟩
def Sgiven (w:World) (A:Option Addr) (c:Nat) (N:Int) (fs:Fs) (d:Nat) (W:World) (v:Value):Prop:=match d with | 3=>v=.pointer (some ⟨w.heap.size,0,none⟩) | 4=>v=.int .i64 N | 5=>v=.pointer (some ⟨w.heap.size,1,none⟩) | 6=>v=.slice A fs.length c | 7=>∃A' c' vf vl,v=.slice A' (cpA fs 1000 1000 5000).length c'∧(cpA fs 1000 1000 5000).length≤c'∧MW (w.heap.size+2) (.slice A' (cpA fs 1000 1000 5000).length c') (cpA fs 1000 1000 5000) (cpA fs 1000 1000 5000).length vf vl W | 8=>∃A' c' vf vl,v=.agg #[.int .i64 N,.slice A' (cpA fs 1000 1000 5000).length c']∧(cpA fs 1000 1000 5000).length≤c'∧MW (w.heap.size+2) (.slice A' (cpA fs 1000 1000 5000).length c') (cpA fs 1000 1000 5000) (cpA fs 1000 1000 5000).length vf vl W | _=>True
theorem Sgiven.below {w:World} {A:Option Addr} {c:Nat} {N:Int} {fs:Fs} {W W1:World} (hb:Below W.heap.size W W1):∀d v,Sgiven w A c N fs d W v→Sgiven w A c N fs d W1 v:=by
 intro d v h
 unfold Sgiven at h ⊢
 split at h
 all_goals first | exact h | (obtain⟨A',c',vf,vl,h1,h2,h3⟩:=h;exact⟨A',c',vf,vl,h1,h2,h3.belowW hb⟩)
set_option maxRecDepth 100000 in
set_option maxHeartbeats 2000000 in
theorem given_any (N:Int) (A:Option Addr) (c:Nat) (fs:Fs) (w:World) (hF:RF w A fs) (hc:fs.length≤c) :
  Calls Try.prog 11 #[.agg #[.int .i64 N,.slice A fs.length c]] w fun e w'=>(∃v,e=.returned v∧Got w.heap.size N (cpA fs 1000 1000 5000) v w')∧Below w.heap.size w w':=by
 obtain⟨W1,hW1⟩:∃W1,W1=(w.alloc (.cells #[.int .i64 N,.slice A fs.length c] 26)).alloc (.cells #[.int .i64 0,.slice none 0 0] 30):=⟨_,rfl⟩
 have HOB:Hid (Obs [.cells #[.int .i64 N,.slice A fs.length c] 26,.cells #[.int .i64 0,.slice none 0 0] 30] w W1):=by rw[hW1];exact Obs.two w _ _
 have HF:=Lib.hid hF
 have HC:=Lib.hid hc
 clear hF hc
 go_enter Try.func11,Try.ntmps11
 go_upto_region 1 with fail
 rw[←hW1]
 clear hW1
 refine wp_region_inv' (by kernel_rfl) (by kernel_rfl) (fun listed aa wy=>∃t:Nat→Value,aa={ tmps:=#[.agg #[.int .i64 N,.slice A fs.length c],.pointer (some ⟨w.heap.size,0,none⟩),.pointer (some ⟨w.heap.size+1,0,none⟩),t 3,t 4,t 5,t 6,t 7,t 8],defers:=[] }∧IRE (fun wz=>Obs [.cells #[.int .i64 N,.slice A fs.length c] 26,.cells #[.int .i64 0,.slice none 0 0] 30] w wz) 6 (fun _ wz=>∃A' c' vf vl,Blk wz (w.heap.size+1) (.cells #[.int .i64 N,.slice A' (cpA fs 1000 1000 5000).length c'] 30)∧(cpA fs 1000 1000 5000).length≤c'∧MW (w.heap.size+2) (.slice A' (cpA fs 1000 1000 5000).length c') (cpA fs 1000 1000 5000) (cpA fs 1000 1000 5000).length vf vl wz∧Below w.heap.size w wz) (fun _=>True) (Sgiven w A c N fs) [(0,3),(1,4),(2,5),(3,6),(4,7),(5,8)] listed t wy) ⟨(fun d=>match d with | 3=>undef | 4=>undef | 5=>undef | 6=>undef | 7=>undef | 8=>undef | _=>undef),rfl,IRE.start _ trivial (HOB.out.grown (grown_drew _)) _⟩ ?_ ?_
 rotate_left
 ·rintro listed hCl ix hix aa wy ⟨t,rfl,hR⟩ hr
  match ix,hix,hr with
  | 0,_,hr=>
   as_aux_lemma=>
   refine wpOp_step rfl (fun K' hK=>?_)
   go_simp
   exact hK _ _ ⟨upd t 3 (.pointer (some ⟨w.heap.size,0,none⟩)),rfl,hR.yields hCl hr (by decide) (by kernel_rfl) hR.fin (fun h=>h) (fun _ _ h=>h) (by rfl) rfl⟩
  | 1,_,hr=>
   as_aux_lemma=>
   refine wpOp_step rfl (fun K' hK=>?_)
   have e1:t 3=.pointer (some ⟨w.heap.size,0,none⟩):=hR.val hCl hr (by kernel_rfl) (0,3) (by simp) (dep_of hr 0 (by kernel_rfl))
   have f0:wy.cell? ⟨w.heap.size,0,none⟩=some (.int .i64 N):=((hR.bef hCl hr (by kernel_rfl))).cell 0 0 rfl rfl
   go_simp
   exact hK _ _ ⟨upd t 4 (.int .i64 N),by first | (simp[upd,e1];done) | (simp[upd,e1];rfl),hR.yields hCl hr (by decide) (by kernel_rfl) hR.fin (fun h=>h) (fun _ _ h=>h) (by rfl) rfl⟩
  | 2,_,hr=>
   as_aux_lemma=>
   refine wpOp_step rfl (fun K' hK=>?_)
   go_simp
   exact hK _ _ ⟨upd t 5 (.pointer (some ⟨w.heap.size,1,none⟩)),rfl,hR.yields hCl hr (by decide) (by kernel_rfl) hR.fin (fun h=>h) (fun _ _ h=>h) (by rfl) rfl⟩
  | 3,_,hr=>
   as_aux_lemma=>
   refine wpOp_step rfl (fun K' hK=>?_)
   have e1:t 5=.pointer (some ⟨w.heap.size,1,none⟩):=hR.val hCl hr (by kernel_rfl) (2,5) (by simp) (dep_of hr 2 (by kernel_rfl))
   have f0:wy.cell? ⟨w.heap.size,1,none⟩=some (.slice A fs.length c):=((hR.bef hCl hr (by kernel_rfl))).cell 0 1 rfl rfl
   go_simp
   exact hK _ _ ⟨upd t 6 (.slice A fs.length c),by first | (simp[upd,e1];done) | (simp[upd,e1];rfl),hR.yields hCl hr (by decide) (by kernel_rfl) hR.fin (fun h=>h) (fun _ _ h=>h) (by rfl) rfl⟩
  | 4,_,hr=>
   as_aux_lemma=>
   refine wpOp_step rfl (fun K' hK=>?_)
   have e1:t 6=.slice A fs.length c:=hR.val hCl hr (by kernel_rfl) (3,6) (by simp) (dep_of hr 3 (by kernel_rfl))
   have hI2:=(hR.bef hCl hr (by kernel_rfl))
   go_simp
   refine(copy_any A c fs 1000 1000 5000 wy (HF.out.below hI2.below) HC.out (by omega) (by omega) (by omega)).mono ?_
   rintro e W' ⟨⟨v,vf,vl,rfl,hM⟩,hbl⟩
   obtain⟨A',c',rfl,h1,vf,vl,h2⟩:=copy_got ⟨vf,vl,hM⟩
   exact hK _ _ ⟨upd t 7 (.slice A' (cpA fs 1000 1000 5000).length c'),by first | (simp[upd,e1];done) | (simp[upd,e1];rfl),hR.yields hCl hr (by decide) (by kernel_rfl) trivial (fun h=>h.call hbl) (Sgiven.below hbl) ⟨A',c',vf,vl,rfl,h1,h2.lower (by have:=hI2.size;simpa using this)⟩ rfl⟩
  | 5,_,hr=>
   as_aux_lemma=>
   refine wpOp_step rfl (fun K' hK=>?_)
   have e1:t 4=.int .i64 N:=hR.val hCl hr (by kernel_rfl) (1,4) (by simp) (dep_of hr 1 (by kernel_rfl))
   obtain⟨A',c',vf,vl,e9,h1,h2⟩:∃A' c' vf vl,t 7=.slice A' (cpA fs 1000 1000 5000).length c'∧(cpA fs 1000 1000 5000).length≤c'∧MW (w.heap.size+2) (.slice A' (cpA fs 1000 1000 5000).length c') (cpA fs 1000 1000 5000) (cpA fs 1000 1000 5000).length vf vl wy:=hR.val hCl hr (by kernel_rfl) (4,7) (by simp) (dep_of hr 4 (by kernel_rfl))
   go_simp
   exact hK _ _ ⟨upd t 8 (.agg #[.int .i64 N,.slice A' (cpA fs 1000 1000 5000).length c']),by simp[upd,e1,e9],hR.yields hCl hr (by decide) (by kernel_rfl) trivial (fun h=>h) (fun _ _ h=>h) ⟨A',c',vf,vl,rfl,h1,h2⟩ rfl⟩
  | 6,_,hr=>
   as_aux_lemma=>
   refine wpOp_step rfl (fun K' hK=>?_)
   obtain⟨A',c',vf,vl,e9,h1,h2⟩:∃A' c' vf vl,t 8=.agg #[.int .i64 N,.slice A' (cpA fs 1000 1000 5000).length c']∧(cpA fs 1000 1000 5000).length≤c'∧MW (w.heap.size+2) (.slice A' (cpA fs 1000 1000 5000).length c') (cpA fs 1000 1000 5000) (cpA fs 1000 1000 5000).length vf vl wy:=(hR.atEnd hr).2 (5,8) (by simp) (dep_of hr 5 (by kernel_rfl))
   have hI2:=(hR.atEnd hr).1
   have m10:wy.cell? ⟨w.heap.size+1,0,none⟩=some (.int .i64 0):=hI2.cell 1 0 rfl rfl
   have z10:wy.frozen? ⟨w.heap.size+1,0,none⟩=false:=hI2.frz 1 0 rfl
   have m11:wy.cell? ⟨w.heap.size+1,1,none⟩=some (.slice none 0 0):=hI2.cell 1 1 rfl rfl
   have z11:wy.frozen? ⟨w.heap.size+1,1,none⟩=false:=hI2.frz 1 1 rfl
   have hE:=hR.ends hr (W1:=(wy.setCell ⟨w.heap.size+1,0,none⟩ (.int .i64 N)).setCell ⟨w.heap.size+1,1,none⟩ (.slice A' (cpA fs 1000 1000 5000).length c')) trivial ⟨A',c',vf,vl,(hI2.ret 1 (.int .i64 N) (.slice A' (cpA fs 1000 1000 5000).length c') rfl).1,h1,h2.back (r:=w.heap.size+1) (by omega) _ _,(hI2.ret 1 (.int .i64 N) (.slice A' (cpA fs 1000 1000 5000).length c') rfl).2⟩
   clear h1 h2
   go_simp
   exact hK _ _ ⟨t,by simp[e9],hE⟩
  | nx+7,hix,_=>exact absurd (show nx+7<7 from hix) (by omega)
 rintro listed a2 W2 ⟨t,rfl,hR⟩ hl
 obtain⟨A',c',vf,vl,hBl,h1,h2,h3⟩:=hR.new (hl 6 (by decide))
 clear hR hl
 generalize t 3=u3
 generalize t 4=u4
 generalize t 5=u5
 generalize t 6=u6
 generalize t 7=u7
 generalize t 8=u8
 have e00:=(blk_cells hBl).1 0 _ rfl
 have e01:=(blk_cells hBl).1 1 _ rfl
 clear hBl
 go_wp2
 refine bodyPost_ret (v:=.agg #[.int .i64 N,.slice A' (cpA fs 1000 1000 5000).length c']) (by simp[results,Try.f11,go_sem,e00,e01]) rfl ?_
 exact⟨⟨_,rfl,A',c',vf,vl,rfl,h1,h2.lower (by omega)⟩,h3⟩
def Slown (w:World) (A:Option Addr) (c:Nat) (N:Int) (fs:Fs) (d:Nat) (W:World) (v:Value):Prop:=match d with | 3=>v=.pointer (some ⟨w.heap.size,0,none⟩) | 4=>v=.int .i64 N | 5=>v=.pointer (some ⟨w.heap.size,1,none⟩) | 6=>v=.slice A fs.length c | 7=>∃A' c' vf vl,v=.slice A' (cpA fs 1000 1000 5000).length c'∧(cpA fs 1000 1000 5000).length≤c'∧MW (w.heap.size+2) (.slice A' (cpA fs 1000 1000 5000).length c') (cpA fs 1000 1000 5000) (cpA fs 1000 1000 5000).length vf vl W | 8=>∃A' c' vf vl,v=.agg #[.int .i64 N,.slice A' (cpA fs 1000 1000 5000).length c']∧(cpA fs 1000 1000 5000).length≤c'∧MW (w.heap.size+2) (.slice A' (cpA fs 1000 1000 5000).length c') (cpA fs 1000 1000 5000) (cpA fs 1000 1000 5000).length vf vl W | _=>True
theorem Slown.below {w:World} {A:Option Addr} {c:Nat} {N:Int} {fs:Fs} {W W1:World} (hb:Below W.heap.size W W1):∀d v,Slown w A c N fs d W v→Slown w A c N fs d W1 v:=by
 intro d v h
 unfold Slown at h ⊢
 split at h
 all_goals first | exact h | (obtain⟨A',c',vf,vl,h1,h2,h3⟩:=h;exact⟨A',c',vf,vl,h1,h2,h3.belowW hb⟩)
set_option maxRecDepth 100000 in
set_option maxHeartbeats 2000000 in
theorem lown_any (N:Int) (A:Option Addr) (c:Nat) (fs:Fs) (w:World) (hF:RF w A fs) (hc:fs.length≤c) :
  Calls Try.prog 22 #[.agg #[.int .i64 N,.slice A fs.length c]] w fun e w'=>(∃v,e=.returned v∧Got w.heap.size N (cpA fs 1000 1000 5000) v w')∧Below w.heap.size w w':=by
 obtain⟨W1,hW1⟩:∃W1,W1=(w.alloc (.cells #[.int .i64 N,.slice A fs.length c] 30)).alloc (.cells #[.int .i64 0,.slice none 0 0] 26):=⟨_,rfl⟩
 have HOB:Hid (Obs [.cells #[.int .i64 N,.slice A fs.length c] 30,.cells #[.int .i64 0,.slice none 0 0] 26] w W1):=by rw[hW1];exact Obs.two w _ _
 have HF:=Lib.hid hF
 have HC:=Lib.hid hc
 clear hF hc
 go_enter Try.func22,Try.ntmps22
 go_upto_region 1 with fail
 rw[←hW1]
 clear hW1
 refine wp_region_inv' (by kernel_rfl) (by kernel_rfl) (fun listed aa wy=>∃t:Nat→Value,aa={ tmps:=#[.agg #[.int .i64 N,.slice A fs.length c],.pointer (some ⟨w.heap.size,0,none⟩),.pointer (some ⟨w.heap.size+1,0,none⟩),t 3,t 4,t 5,t 6,t 7,t 8],defers:=[] }∧IRE (fun wz=>Obs [.cells #[.int .i64 N,.slice A fs.length c] 30,.cells #[.int .i64 0,.slice none 0 0] 26] w wz) 6 (fun _ wz=>∃A' c' vf vl,Blk wz (w.heap.size+1) (.cells #[.int .i64 N,.slice A' (cpA fs 1000 1000 5000).length c'] 26)∧(cpA fs 1000 1000 5000).length≤c'∧MW (w.heap.size+2) (.slice A' (cpA fs 1000 1000 5000).length c') (cpA fs 1000 1000 5000) (cpA fs 1000 1000 5000).length vf vl wz∧Below w.heap.size w wz) (fun _=>True) (Slown w A c N fs) [(0,3),(1,4),(2,5),(3,6),(4,7),(5,8)] listed t wy) ⟨(fun d=>match d with | 3=>undef | 4=>undef | 5=>undef | 6=>undef | 7=>undef | 8=>undef | _=>undef),rfl,IRE.start _ trivial (HOB.out.grown (grown_drew _)) _⟩ ?_ ?_
 rotate_left
 ·rintro listed hCl ix hix aa wy ⟨t,rfl,hR⟩ hr
  match ix,hix,hr with
  | 0,_,hr=>
   as_aux_lemma=>
   refine wpOp_step rfl (fun K' hK=>?_)
   go_simp
   exact hK _ _ ⟨upd t 3 (.pointer (some ⟨w.heap.size,0,none⟩)),rfl,hR.yields hCl hr (by decide) (by kernel_rfl) hR.fin (fun h=>h) (fun _ _ h=>h) (by rfl) rfl⟩
  | 1,_,hr=>
   as_aux_lemma=>
   refine wpOp_step rfl (fun K' hK=>?_)
   have e1:t 3=.pointer (some ⟨w.heap.size,0,none⟩):=hR.val hCl hr (by kernel_rfl) (0,3) (by simp) (dep_of hr 0 (by kernel_rfl))
   have f0:wy.cell? ⟨w.heap.size,0,none⟩=some (.int .i64 N):=((hR.bef hCl hr (by kernel_rfl))).cell 0 0 rfl rfl
   go_simp
   exact hK _ _ ⟨upd t 4 (.int .i64 N),by first | (simp[upd,e1];done) | (simp[upd,e1];rfl),hR.yields hCl hr (by decide) (by kernel_rfl) hR.fin (fun h=>h) (fun _ _ h=>h) (by rfl) rfl⟩
  | 2,_,hr=>
   as_aux_lemma=>
   refine wpOp_step rfl (fun K' hK=>?_)
   go_simp
   exact hK _ _ ⟨upd t 5 (.pointer (some ⟨w.heap.size,1,none⟩)),rfl,hR.yields hCl hr (by decide) (by kernel_rfl) hR.fin (fun h=>h) (fun _ _ h=>h) (by rfl) rfl⟩
  | 3,_,hr=>
   as_aux_lemma=>
   refine wpOp_step rfl (fun K' hK=>?_)
   have e1:t 5=.pointer (some ⟨w.heap.size,1,none⟩):=hR.val hCl hr (by kernel_rfl) (2,5) (by simp) (dep_of hr 2 (by kernel_rfl))
   have f0:wy.cell? ⟨w.heap.size,1,none⟩=some (.slice A fs.length c):=((hR.bef hCl hr (by kernel_rfl))).cell 0 1 rfl rfl
   go_simp
   exact hK _ _ ⟨upd t 6 (.slice A fs.length c),by first | (simp[upd,e1];done) | (simp[upd,e1];rfl),hR.yields hCl hr (by decide) (by kernel_rfl) hR.fin (fun h=>h) (fun _ _ h=>h) (by rfl) rfl⟩
  | 4,_,hr=>
   as_aux_lemma=>
   refine wpOp_step rfl (fun K' hK=>?_)
   have e1:t 6=.slice A fs.length c:=hR.val hCl hr (by kernel_rfl) (3,6) (by simp) (dep_of hr 3 (by kernel_rfl))
   have hI2:=(hR.bef hCl hr (by kernel_rfl))
   go_simp
   refine(copy_any A c fs 1000 1000 5000 wy (HF.out.below hI2.below) HC.out (by omega) (by omega) (by omega)).mono ?_
   rintro e W' ⟨⟨v,vf,vl,rfl,hM⟩,hbl⟩
   obtain⟨A',c',rfl,h1,vf,vl,h2⟩:=copy_got ⟨vf,vl,hM⟩
   exact hK _ _ ⟨upd t 7 (.slice A' (cpA fs 1000 1000 5000).length c'),by first | (simp[upd,e1];done) | (simp[upd,e1];rfl),hR.yields hCl hr (by decide) (by kernel_rfl) trivial (fun h=>h.call hbl) (Slown.below hbl) ⟨A',c',vf,vl,rfl,h1,h2.lower (by have:=hI2.size;simpa using this)⟩ rfl⟩
  | 5,_,hr=>
   as_aux_lemma=>
   refine wpOp_step rfl (fun K' hK=>?_)
   have e1:t 4=.int .i64 N:=hR.val hCl hr (by kernel_rfl) (1,4) (by simp) (dep_of hr 1 (by kernel_rfl))
   obtain⟨A',c',vf,vl,e9,h1,h2⟩:∃A' c' vf vl,t 7=.slice A' (cpA fs 1000 1000 5000).length c'∧(cpA fs 1000 1000 5000).length≤c'∧MW (w.heap.size+2) (.slice A' (cpA fs 1000 1000 5000).length c') (cpA fs 1000 1000 5000) (cpA fs 1000 1000 5000).length vf vl wy:=hR.val hCl hr (by kernel_rfl) (4,7) (by simp) (dep_of hr 4 (by kernel_rfl))
   go_simp
   exact hK _ _ ⟨upd t 8 (.agg #[.int .i64 N,.slice A' (cpA fs 1000 1000 5000).length c']),by simp[upd,e1,e9],hR.yields hCl hr (by decide) (by kernel_rfl) trivial (fun h=>h) (fun _ _ h=>h) ⟨A',c',vf,vl,rfl,h1,h2⟩ rfl⟩
  | 6,_,hr=>
   as_aux_lemma=>
   refine wpOp_step rfl (fun K' hK=>?_)
   obtain⟨A',c',vf,vl,e9,h1,h2⟩:∃A' c' vf vl,t 8=.agg #[.int .i64 N,.slice A' (cpA fs 1000 1000 5000).length c']∧(cpA fs 1000 1000 5000).length≤c'∧MW (w.heap.size+2) (.slice A' (cpA fs 1000 1000 5000).length c') (cpA fs 1000 1000 5000) (cpA fs 1000 1000 5000).length vf vl wy:=(hR.atEnd hr).2 (5,8) (by simp) (dep_of hr 5 (by kernel_rfl))
   have hI2:=(hR.atEnd hr).1
   have m10:wy.cell? ⟨w.heap.size+1,0,none⟩=some (.int .i64 0):=hI2.cell 1 0 rfl rfl
   have z10:wy.frozen? ⟨w.heap.size+1,0,none⟩=false:=hI2.frz 1 0 rfl
   have m11:wy.cell? ⟨w.heap.size+1,1,none⟩=some (.slice none 0 0):=hI2.cell 1 1 rfl rfl
   have z11:wy.frozen? ⟨w.heap.size+1,1,none⟩=false:=hI2.frz 1 1 rfl
   have hE:=hR.ends hr (W1:=(wy.setCell ⟨w.heap.size+1,0,none⟩ (.int .i64 N)).setCell ⟨w.heap.size+1,1,none⟩ (.slice A' (cpA fs 1000 1000 5000).length c')) trivial ⟨A',c',vf,vl,(hI2.ret 1 (.int .i64 N) (.slice A' (cpA fs 1000 1000 5000).length c') rfl).1,h1,h2.back (r:=w.heap.size+1) (by omega) _ _,(hI2.ret 1 (.int .i64 N) (.slice A' (cpA fs 1000 1000 5000).length c') rfl).2⟩
   clear h1 h2
   go_simp
   exact hK _ _ ⟨t,by simp[e9],hE⟩
  | nx+7,hix,_=>exact absurd (show nx+7<7 from hix) (by omega)
 rintro listed a2 W2 ⟨t,rfl,hR⟩ hl
 obtain⟨A',c',vf,vl,hBl,h1,h2,h3⟩:=hR.new (hl 6 (by decide))
 clear hR hl
 generalize t 3=u3
 generalize t 4=u4
 generalize t 5=u5
 generalize t 6=u6
 generalize t 7=u7
 generalize t 8=u8
 have e00:=(blk_cells hBl).1 0 _ rfl
 have e01:=(blk_cells hBl).1 1 _ rfl
 clear hBl
 go_wp2
 refine bodyPost_ret (v:=.agg #[.int .i64 N,.slice A' (cpA fs 1000 1000 5000).length c']) (by simp[results,Try.f22,go_sem,e00,e01]) rfl ?_
 exact⟨⟨_,rfl,A',c',vf,vl,rfl,h1,h2.lower (by omega)⟩,h3⟩
end Go.Proofs.Ytealnhaffphamaa

namespace Go.Proofs.Ytealnhaffphamaa
open Go.RowKit Go.Shelf Go.Proofs.YtealnhaffphamaaW.PrintWords
def FitP (N:Int) (fs:Fs) (e want:Int) (M:Int) (gs:Fs):Prop:=if want=0 then e=0∧LikeP N M (cpA fs 1000 1000 5000) gs else e=want∧N=0∧fs.length=0
def S3 (w:World) (A A2:Option Addr) (c c2:Nat) (N M:Int) (fs gs:Fs) (e:Int) (d:Nat) (W:World) (v:Value):Prop:=match d with | 25=>v=.int .i64 e | 26=>v=.bool true | 27=>v=.bool true | 28=>v=.agg #[.int .i64 N,.slice A fs.length c] | 30=>v=.agg #[.int .i64 M,.slice A2 gs.length c2] | 29=>Got w.heap.size N (cpA fs 1000 1000 5000) v W | 31=>∃b:Bool,v=.bool b∧(b=true↔LikeP N M (cpA fs 1000 1000 5000) gs) | 32=>∃b:Bool,v=.bool b∧(b=true↔LikeP N M (cpA fs 1000 1000 5000) gs) | 8=>∃b:Bool,v=.bool b∧(b=true↔LikeP N M (cpA fs 1000 1000 5000) gs) | _=>True
theorem Got.below {B:Nat} {N:Int} {fs:Fs} {v:Value} {W W1:World} (h:Got B N fs v W) (hb:Below W.heap.size W W1):Got B N fs v W1:=by
 obtain⟨A,c,vf,vl,h1,h2,h3⟩:=h
 exact⟨A,c,vf,vl,h1,h2,h3.belowW hb⟩
theorem S3.below {w:World} {A A2:Option Addr} {c c2:Nat} {N M:Int} {fs gs:Fs} {e:Int} {W W1:World} (hb:Below W.heap.size W W1):∀d v,S3 w A A2 c c2 N M fs gs e d W v→S3 w A A2 c c2 N M fs gs e d W1 v:=by
 intro d v h
 unfold S3 at h ⊢
 split at h
 all_goals first | exact h | exact Got.below h hb
end Go.Proofs.Ytealnhaffphamaa
