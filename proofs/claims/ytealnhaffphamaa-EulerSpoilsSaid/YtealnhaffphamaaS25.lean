/- Contracts of the functions that the statement reaches, and plain lemmas: part 25 of 31. -/
import Derived.Test.YtealnhaffphamaaS06
import Derived.Test.YtealnhaffphamaaS20
import Derived.Test.YtealnhaffphamaaS23
import Derived.Test.YtealnhaffphamaaS24
set_option linter.unusedVariables false
set_option linter.unusedSimpArgs false

namespace Go.Proofs.Ytealnhaffphamaa
open Go.RowKit Go.Shelf Go.Proofs.YtealnhaffphamaaW.PrintWords
open Classical
def S8 (B O:Nat) (fs:Fs) (fn gn g cV g1 cF g2 cG:Nat) (AU:Option Addr) (nU cU:Nat) (vf:Nat→Value) (vl:Nat→Nat→Value) (d:Nat) (W:World) (v:Value):Prop:=match d with | 45=>v=.pointer (some ⟨O,1,none⟩) | 46=>v=.slice (some ⟨g,0,none⟩) fs.length cV | 47=>v=.int .i64 fn | 48=>v=.pointer (some ⟨O,1,none⟩) | 49=>v=.slice (some ⟨g,0,none⟩) fs.length cV | 50=>v=.int .i64 fn | 51=>v=.pointer (some ⟨g,fn,none⟩) | 52=>v=.slice (some ⟨g1,0,none⟩) ((fcA fs fn).length) cF | 53=>v=.pointer (some ⟨O,1,none⟩) | 54=>v=.slice (some ⟨g,0,none⟩) fs.length cV | 55=>v=.int .i64 gn | 56=>v=.pointer (some ⟨g,gn,none⟩) | 57=>v=.slice (some ⟨g2,0,none⟩) 1 cG | 58=>v=.pointer (some ⟨g2,0,none⟩) | 59=>v=.slice AU nU cU | 62=>v=.pointer (some ⟨g,fn,none⟩) | 60=>∃m,v=.slice (some ⟨m,0,none⟩) 1 1∧O≤m∧Blk W m (.cells #[(.slice AU nU cU)] 36) | 61=>∃q cap,v=.slice (some ⟨q,0,none⟩) ((fcA fs fn).length+1) cap∧MQ B (.slice (some ⟨g,0,none⟩) fs.length cV) fs vf vl fn v (fcA fs fn ++ [lpA fs gn 0]) (fun l=>if l=(fcA fs fn).length then(.slice AU nU cU) else vl fn l) W | _=>True
theorem S8.grown {B O:Nat} {fs:Fs} {fn gn g cV g1 cF g2 cG:Nat} {AU:Option Addr} {nU cU:Nat} {vf:Nat→Value} {vl:Nat→Nat→Value} {W W1:World} (hg:W.grownBy W1 none):∀d v,S8 B O fs fn gn g cV g1 cF g2 cG AU nU cU vf vl d W v→S8 B O fs fn gn g cV g1 cF g2 cG AU nU cU vf vl d W1 v:=by
 intro d v h
 unfold S8 at h ⊢
 split at h
 all_goals first | exact h | (obtain⟨q,cap,h1,h2⟩:=h;exact⟨q,cap,h1,h2.grown hg⟩) | (obtain⟨m,h1,h2,h3⟩:=h;exact⟨m,h1,h2,h3.kept hg (by simp)⟩)
theorem S8.turned {B O:Nat} {fs:Fs} {fn gn g cV g1 cF g2 cG:Nat} {AU:Option Addr} {nU cU:Nat} {vf:Nat→Value} {vl:Nat→Nat→Value} {W W1:World} {row:Option Nat} (hg:W.grownBy W1 row) (hr:∀k,row=some k→k<O):∀d v,d≠61→S8 B O fs fn gn g cV g1 cF g2 cG AU nU cU vf vl d W v→S8 B O fs fn gn g cV g1 cF g2 cG AU nU cU vf vl d W1 v:=by
 intro d v hd h
 unfold S8 at h ⊢
 split at h
 all_goals first | exact h | exact absurd rfl hd | (obtain⟨m,h1,h2,h3⟩:=h;exact⟨m,h1,h2,h3.kept hg (fun e=>by have:=hr _ e.symm;omega)⟩)
set_option maxRecDepth 100000 in
set_option maxHeartbeats 4000000 in
theorem dropFace_any (N:Int) (A:Option Addr) (c:Nat) (fs:Fs) (f g:Int) (w:World) (hF:RF w A fs) (hc:fs.length≤c) (hSm:Sm fs) (hI:NI fs) (hcap:(plsA fs).length≤100000) :
  Calls Try.prog 26 #[.agg #[.int .i64 N,.slice A fs.length c],.int .i64 f,.int .i64 g] w fun e w'=>OpOut (dfE N fs f g) e w'∧Below w.heap.size w w':=by
 obtain⟨W1,hW1⟩:∃W1,W1=(w.alloc (.cells #[.int .i64 N,.slice A fs.length c] 30)).alloc (.cells #[.int .i64 0,.slice none 0 0] 30):=⟨_,rfl⟩
 have HOB:Hid (Obs [.cells #[.int .i64 N,.slice A fs.length c] 30,.cells #[.int .i64 0,.slice none 0 0] 30] w W1):=by rw[hW1];exact Obs.two w _ _
 have HR:=Lib.hid (right_at (N:=N) (c:=c) hF HOB.out.below hSm hI hcap)
 have HF:=Lib.hid hF
 have HS:=Lib.hid hSm
 have HC:=Lib.hid hc
 clear hF hSm hI hcap hc
 go_enter Try.func26,Try.ntmps26
 go_wp2_with fail
 rw[←hW1]
 clear hW1
 ((with_reducible refine(HR.out).mono ?_);rintro e W2 ⟨⟨b,rfl,hb⟩,-,hbl⟩)
 have HOB2:=Lib.hid (HOB.out.call hbl)
 have HBI:=Lib.hid hb
 clear HR hb hbl HOB
 have m00:W2.cell? ⟨w.heap.size,0,none⟩=some (.int .i64 N):=HOB2.out.cell 0 0 rfl rfl
 have m01:W2.cell? ⟨w.heap.size,1,none⟩=some (.slice A fs.length c):=HOB2.out.cell 0 1 rfl rfl
 have m10:W2.cell? ⟨w.heap.size+1,0,none⟩=some (.int .i64 0):=HOB2.out.cell 1 0 rfl rfl
 have z10:W2.frozen? ⟨w.heap.size+1,0,none⟩=false:=HOB2.out.frz 1 0 rfl
 have m11:W2.cell? ⟨w.heap.size+1,1,none⟩=some (.slice none 0 0):=HOB2.out.cell 1 1 rfl rfl
 have z11:W2.frozen? ⟨w.heap.size+1,1,none⟩=false:=HOB2.out.frz 1 1 rfl
 cases b
 ·have HE:Hid (dfE N fs f g=.error 140):=by
   show _=_
   unfold dfE
   rw[if_pos (fun h=>by simpa using HBI.out.2 h)]
  go_wp2
  obtain⟨hx,hxB⟩:=HOB2.out.ret 1 (.int .i64 0) (.slice none 0 0) rfl
  have e00:=(blk_cells hx).1 0 _ rfl
  have e01:=(blk_cells hx).1 1 _ rfl
  refine bodyPost_ret (v:=.tuple #[.agg #[.int .i64 0,.slice none 0 0],.int .i64 140]) (by simp[results,Try.f26,go_sem,e00,e01]) rfl ?_
  exact⟨by rw[HE.out];rfl,hxB⟩
 ·have HRP:Hid (RightP N fs):=HBI.out.1 rfl
  clear HBI
  by_cases h1:0≤f∧0≤g∧f<fs.length∧g<fs.length
  ·have h2:¬ min f g<0:=by omega
   have h3:¬ max f g≥(fs.length:Int):=by omega
   obtain⟨fn,rfl⟩:=Int.eq_ofNat_of_zero_le h1.1
   obtain⟨gn,rfl⟩:=Int.eq_ofNat_of_zero_le h1.2.1
   have hfn:fn<fs.length:=by omega
   have hgn:gn<fs.length:=by omega
   clear h1
   have hfz:(fn:Int)<(fs.length:Int):=by omega
   have hgz:(gn:Int)<(fs.length:Int):=by omega
   obtain⟨adF,AG,cG0,rfl,hcG,hcG2,-⟩:=HF.out.at hgn
   have hcG:=pw_cell_below HOB2.out.below hcG
   by_cases h7:fn=gn∨1<(fcA fs gn).length
   ·have HE:Hid (dfE N fs fn gn=.error 7):=by
     show _=_
     unfold dfE
     rw[if_neg (fun h=>h HRP.out),if_neg (fun h=>h ⟨by omega,by omega,by omega,by omega⟩),if_pos (by rcases h7 with h7 | h7;exact .inl (by rw[h7]);exact .inr (by simpa using h7))]
    by_cases h8:(fn:Int)=(gn:Int)
    ·clear h7
     go_wp2
     obtain⟨hx,hxB⟩:=HOB2.out.ret 1 (.int .i64 0) (.slice none 0 0) rfl
     have e00:=(blk_cells hx).1 0 _ rfl
     have e01:=(blk_cells hx).1 1 _ rfl
     refine bodyPost_ret (v:=.tuple #[.agg #[.int .i64 0,.slice none 0 0],.int .i64 7]) (by simp[results,Try.f26,go_sem,e00,e01]) rfl ?_
     exact⟨by rw[HE.out];rfl,hxB⟩
    ·have h9:((fcA fs gn).length:Int) > 1:=by omega
     clear h7
     go_wp2
     obtain⟨hx,hxB⟩:=HOB2.out.ret 1 (.int .i64 0) (.slice none 0 0) rfl
     have e00:=(blk_cells hx).1 0 _ rfl
     have e01:=(blk_cells hx).1 1 _ rfl
     refine bodyPost_ret (v:=.tuple #[.agg #[.int .i64 0,.slice none 0 0],.int .i64 7]) (by simp[results,Try.f26,go_sem,e00,e01]) rfl ?_
     exact⟨by rw[HE.out];rfl,hxB⟩
   ·have h8:¬ (fn:Int)=(gn:Int):=by omega
    have h9:¬ ((fcA fs gn).length:Int) > 1:=by omega
    have hne:fn≠gn:=by omega
    have hl1:(fcA fs gn).length=1:=by have:=(HRP.out.1.2.2.2.2.2.2 gn hgn).1;omega
    clear h7
    have HCP:=Lib.hid (copied_any N (some adF) c fs W2 (HF.out.below HOB2.out.below) HS.out)
    go_upto_region 7 with fail
    go_cut [8] from 9 (fun s8 W5=>∃(O g cV B:Nat) (vf:Nat→Value) (vl:Nat→Nat→Value),s8=.pointer (some ⟨O,0,none⟩)∧Hid (Obs [.cells #[.int .i64 N,.slice (some adF) fs.length c] 30,.cells #[.int .i64 0,.slice none 0 0] 30] w W5)∧Hid (Blk W5 O (.cells #[.int .i64 N,.slice (some ⟨g,0,none⟩) fs.length cV] 30))∧Hid (MW B (.slice (some ⟨g,0,none⟩) fs.length cV) fs fs.length vf vl W5)∧Hid (MD fs fs.length vl)∧Hid (MX fs fs.length vl)∧Hid (W2.heap.size≤B)∧Hid (w.heap.size+2≤B)∧Hid (B≤O)∧Hid (∀r,MB (.slice (some ⟨g,0,none⟩) fs.length cV) fs fs.length vf vl r→r<O)∧Hid (Below w.heap.size w W5))
    case first=>
     go_wp2_with ((with_reducible refine(HCP.out).mono ?_);rintro e W4 ⟨⟨v,vf,vl,rfl,hM,hMD,hMX⟩,hbl⟩;obtain⟨g,cV,rfl,hg1,hg2⟩:=hM.own.form (by omega))
     go_meet
     case rel=>
      have hg3:W4.grownBy (W4.alloc (.cells #[.int .i64 N,.slice (some ⟨g,0,none⟩) fs.length cV] 30)) none:=World.grownBy_alloc _ _ _
      exact⟨W4.heap.size,g,cV,W2.heap.size,vf,vl,rfl,(HOB2.out.call hbl).grown hg3,blk_new W4 _,hM.kept hg3 (fun r e=>by cases e),hMD,hMX,Nat.le_refl _,HOB2.out.size,hbl.size,fun r hr=>(hM.lt hr).2,((HOB2.out.call hbl).grown hg3).below⟩
    case rest=>
     obtain⟨O,g,cV,B,vf,vl,rfl,HOB5,HOUT,HM5,HMD,HMX,HWB,HB0,HBO,HOM,HBL5⟩:=hcut
     clear HCP
     rename World=>W5
     clear hcG hcG2 h2 h3 h8 h9
     clear m00 m01 m10 z10 m11 z11
     obtain⟨g1,cF,hvf,hg4,hg5⟩:=(HM5.out.face fn hfn).own.form (by have:=(HRP.out.1.2.2.2.2.2.2 fn hfn).1;omega)
     obtain⟨g2,cG,hvg,hg6,hg7⟩:=(HM5.out.face gn hgn).own.form (by omega)
     rw[hl1] at hvg
     obtain⟨⟨AU,nU,cU⟩,huL⟩:=slice_of_own ((HM5.out.face gn hgn).ownL 0 (by omega))
     have huL:Value.slice AU nU cU=vl gn 0:=huL.symm
     have HVF:=Lib.hid hvf
     have HVG:=Lib.hid hvg
     have HG1:Hid (g1<O∧B≤g1):=⟨HOM.out g1 (.inr ⟨fn,hfn,.inl (by rw[hvf];rfl)⟩),hg4⟩
     have HGO:Hid (g<O∧B≤g):=⟨HOM.out g (.inl rfl),(HM5.out.lt (.inl rfl)).1⟩
     have HCF:Hid (∀W,MW B (.slice (some ⟨g,0,none⟩) fs.length cV) fs fs.length vf vl W→W.cell? ⟨g,fn,none⟩=some (.slice (some ⟨g1,0,none⟩) ((fcA fs fn).length) cF)):=fun W h=>by
      have q0:=World.ownsRow.cellAt h.own fn (by omega)
      rw[List.getElem?_map,List.getElem?_range hfn] at q0
      simp only[Option.map_some,HVF.out] at q0
      exact q0
     have HCG:Hid (∀W,MW B (.slice (some ⟨g,0,none⟩) fs.length cV) fs fs.length vf vl W→W.cell? ⟨g,gn,none⟩=some (.slice (some ⟨g2,0,none⟩) 1 cG)):=fun W h=>by
      have q0:=World.ownsRow.cellAt h.own gn (by omega)
      rw[List.getElem?_map,List.getElem?_range hgn] at q0
      simp only[Option.map_some,HVG.out] at q0
      exact q0
     have HCL:Hid (∀W,MW B (.slice (some ⟨g,0,none⟩) fs.length cV) fs fs.length vf vl W→W.cell? ⟨g2,0,none⟩=some (.slice AU nU cU)):=fun W h=>by
      have h2:=(h.face gn hgn).own
      rw[HVG.out,hl1] at h2
      have q0:=World.ownsRow.cellAt h2 0 (by omega)
      rw[q0,show(Value.slice AU nU cU)=vl gn 0 from huL]
      rfl
     have HUO:Hid (∀W,MW B (.slice (some ⟨g,0,none⟩) fs.length cV) fs fs.length vf vl W→W.ownsRow B 3 1 (.slice AU nU cU) (lpA fs gn 0).length (intsV (lpA fs gn 0))):=fun W h=>by
      rw[huL]
      exact(h.face gn hgn).ownL 0 (by omega)
     clear hvf hvg huL hg4 hg5 hg6 hg7
     go_upto_region 8 with fail
     refine wp_region_inv' (by kernel_rfl) (by kernel_rfl) (fun listed aa wy=>∃t:Nat→Value,aa={ tmps:=#[.agg #[.int .i64 N,.slice (some adF) fs.length c],.int .i64 fn,.int .i64 gn,.pointer (some ⟨w.heap.size,0,none⟩),undef,undef,.pointer (some ⟨w.heap.size+1,0,none⟩),.int .i64 0,.pointer (some ⟨O,0,none⟩),u9,u10,u11,u12,u13,u14,u15,u16,u17,u18,u19,u20,u21,u22,u23,u24,u25,u26,u27,u28,u29,u30,u31,u32,u33,u34,u35,u36,u37,u38,u39,u40,u41,u42,u43,u44,t 45,t 46,t 47,t 48,t 49,t 50,t 51,t 52,t 53,t 54,t 55,t 56,t 57,t 58,t 59,t 60,t 61,t 62,u63,u64,u65,u66,u67,u68,u69,u70,u71],defers:=[] }∧IRK (fun wz=>MW B (.slice (some ⟨g,0,none⟩) fs.length cV) fs fs.length vf vl wz) 16 18 (fun _ wz=>∃vf' vl',MW B (.slice (some ⟨g,0,none⟩) fs.length cV) (fs.set fn (fcA fs fn ++ [lpA fs gn 0])) (fs.set fn (fcA fs fn ++ [lpA fs gn 0])).length vf' vl' wz) (fun wz=>Obs [.cells #[.int .i64 N,.slice (some adF) fs.length c] 30,.cells #[.int .i64 0,.slice none 0 0] 30] w wz∧Blk wz O (.cells #[.int .i64 N,.slice (some ⟨g,0,none⟩) fs.length cV] 30)∧B≤wz.heap.size) (S8 B O fs fn gn g cV g1 cF g2 cG AU nU cU vf vl) [(0,45),(1,46),(2,47),(3,48),(4,49),(5,50),(6,51),(7,52),(8,53),(9,54),(10,55),(11,56),(12,57),(13,58),(14,59),(15,60),(16,61),(17,62)] listed t wy) ⟨(fun d=>match d with | 45=>u45 | 46=>u46 | 47=>u47 | 48=>u48 | 49=>u49 | 50=>u50 | 51=>u51 | 52=>u52 | 53=>u53 | 54=>u54 | 55=>u55 | 56=>u56 | 57=>u57 | 58=>u58 | 59=>u59 | 60=>u60 | 61=>u61 | 62=>u62 | _=>undef),rfl,IRK.start _ ⟨HOB5.out.grown (grown_drew _),HOUT.out.kept (grown_drew _) (by simp),by have:=HBO.out;have:=HOUT.out.lt;simp;omega⟩ (HM5.out.kept (grown_drew _) (fun r e=>by cases e)) _⟩ ?_ ?_
     rotate_left
     ·rintro listed hCl ix hix aa wy ⟨t,rfl,hR⟩ hr
      match ix,hix,hr with
      | 0,_,hr=>
       as_aux_lemma=>
       refine wpOp_step rfl (fun K' hK=>?_)
       go_simp
       exact hK _ _ ⟨upd t 45 (.pointer (some ⟨O,1,none⟩)),rfl,hR.yields hCl hr (by decide) (by decide) (by kernel_rfl) hR.fin (fun h=>h) (fun _ _ h=>h) (by rfl) rfl⟩
      | 1,_,hr=>
       as_aux_lemma=>
       refine wpOp_step rfl (fun K' hK=>?_)
       have e1:t 45=.pointer (some ⟨O,1,none⟩):=hR.val hCl hr (by kernel_rfl) (0,45) (by simp) (dep_of hr 0 (by kernel_rfl))
       have f0:=(blk_cells hR.fin.2.1).1 1 _ rfl
       go_simp
       exact hK _ _ ⟨upd t 46 (.slice (some ⟨g,0,none⟩) fs.length cV),by simp[upd,e1],hR.yields hCl hr (by decide) (by decide) (by kernel_rfl) hR.fin (fun h=>h) (fun _ _ h=>h) (by rfl) rfl⟩
      | 2,_,hr=>
       as_aux_lemma=>
       refine wpOp_step rfl (fun K' hK=>?_)
       go_simp
       exact hK _ _ ⟨upd t 47 (.int .i64 fn),rfl,hR.yields hCl hr (by decide) (by decide) (by kernel_rfl) hR.fin (fun h=>h) (fun _ _ h=>h) (by rfl) rfl⟩
      | 3,_,hr=>
       as_aux_lemma=>
       refine wpOp_step rfl (fun K' hK=>?_)
       go_simp
       exact hK _ _ ⟨upd t 48 (.pointer (some ⟨O,1,none⟩)),rfl,hR.yields hCl hr (by decide) (by decide) (by kernel_rfl) hR.fin (fun h=>h) (fun _ _ h=>h) (by rfl) rfl⟩
      | 4,_,hr=>
       as_aux_lemma=>
       refine wpOp_step rfl (fun K' hK=>?_)
       have e1:t 48=.pointer (some ⟨O,1,none⟩):=hR.val hCl hr (by kernel_rfl) (3,48) (by simp) (dep_of hr 3 (by kernel_rfl))
       have f0:=(blk_cells hR.fin.2.1).1 1 _ rfl
       go_simp
       exact hK _ _ ⟨upd t 49 (.slice (some ⟨g,0,none⟩) fs.length cV),by simp[upd,e1],hR.yields hCl hr (by decide) (by decide) (by kernel_rfl) hR.fin (fun h=>h) (fun _ _ h=>h) (by rfl) rfl⟩
      | 5,_,hr=>
       as_aux_lemma=>
       refine wpOp_step rfl (fun K' hK=>?_)
       go_simp
       exact hK _ _ ⟨upd t 50 (.int .i64 fn),rfl,hR.yields hCl hr (by decide) (by decide) (by kernel_rfl) hR.fin (fun h=>h) (fun _ _ h=>h) (by rfl) rfl⟩
      | 6,_,hr=>
       as_aux_lemma=>
       refine wpOp_step rfl (fun K' hK=>?_)
       have e1:t 49=.slice (some ⟨g,0,none⟩) fs.length cV:=hR.val hCl hr (by kernel_rfl) (4,49) (by simp) (dep_of hr 4 (by kernel_rfl))
       have e2:t 50=.int .i64 fn:=hR.val hCl hr (by kernel_rfl) (5,50) (by simp) (dep_of hr 5 (by kernel_rfl))
       go_simp
       exact hK _ _ ⟨upd t 51 (.pointer (some ⟨g,fn,none⟩)),by simp[upd,e1,e2],hR.yields hCl hr (by decide) (by decide) (by kernel_rfl) hR.fin (fun h=>h) (fun _ _ h=>h) (by rfl) rfl⟩
      | 7,_,hr=>
       as_aux_lemma=>
       refine wpOp_step rfl (fun K' hK=>?_)
       have e1:t 51=.pointer (some ⟨g,fn,none⟩):=hR.val hCl hr (by kernel_rfl) (6,51) (by simp) (dep_of hr 6 (by kernel_rfl))
       have f0:=HCF.out _ (hR.old (hCl.not hr 9 (by kernel_rfl)))
       go_simp
       exact hK _ _ ⟨upd t 52 (.slice (some ⟨g1,0,none⟩) ((fcA fs fn).length) cF),by simp[upd,e1],hR.yields hCl hr (by decide) (by decide) (by kernel_rfl) hR.fin (fun h=>h) (fun _ _ h=>h) (by rfl) rfl⟩
      | 8,_,hr=>
       as_aux_lemma=>
       refine wpOp_step rfl (fun K' hK=>?_)
       go_simp
       exact hK _ _ ⟨upd t 53 (.pointer (some ⟨O,1,none⟩)),rfl,hR.yields hCl hr (by decide) (by decide) (by kernel_rfl) hR.fin (fun h=>h) (fun _ _ h=>h) (by rfl) rfl⟩
      | 9,_,hr=>
       as_aux_lemma=>
       refine wpOp_step rfl (fun K' hK=>?_)
       have e1:t 53=.pointer (some ⟨O,1,none⟩):=hR.val hCl hr (by kernel_rfl) (8,53) (by simp) (dep_of hr 8 (by kernel_rfl))
       have f0:=(blk_cells hR.fin.2.1).1 1 _ rfl
       go_simp
       exact hK _ _ ⟨upd t 54 (.slice (some ⟨g,0,none⟩) fs.length cV),by simp[upd,e1],hR.yields hCl hr (by decide) (by decide) (by kernel_rfl) hR.fin (fun h=>h) (fun _ _ h=>h) (by rfl) rfl⟩
      | 10,_,hr=>
       as_aux_lemma=>
       refine wpOp_step rfl (fun K' hK=>?_)
       go_simp
       exact hK _ _ ⟨upd t 55 (.int .i64 gn),rfl,hR.yields hCl hr (by decide) (by decide) (by kernel_rfl) hR.fin (fun h=>h) (fun _ _ h=>h) (by rfl) rfl⟩
      | 11,_,hr=>
       as_aux_lemma=>
       refine wpOp_step rfl (fun K' hK=>?_)
       have e1:t 54=.slice (some ⟨g,0,none⟩) fs.length cV:=hR.val hCl hr (by kernel_rfl) (9,54) (by simp) (dep_of hr 9 (by kernel_rfl))
       have e2:t 55=.int .i64 gn:=hR.val hCl hr (by kernel_rfl) (10,55) (by simp) (dep_of hr 10 (by kernel_rfl))
       go_simp
       exact hK _ _ ⟨upd t 56 (.pointer (some ⟨g,gn,none⟩)),by simp[upd,e1,e2],hR.yields hCl hr (by decide) (by decide) (by kernel_rfl) hR.fin (fun h=>h) (fun _ _ h=>h) (by rfl) rfl⟩
      | 12,_,hr=>
       as_aux_lemma=>
       refine wpOp_step rfl (fun K' hK=>?_)
       have e1:t 56=.pointer (some ⟨g,gn,none⟩):=hR.val hCl hr (by kernel_rfl) (11,56) (by simp) (dep_of hr 11 (by kernel_rfl))
       have f0:=HCG.out _ (hR.old (hCl.not hr 9 (by kernel_rfl)))
       go_simp
       exact hK _ _ ⟨upd t 57 (.slice (some ⟨g2,0,none⟩) 1 cG),by simp[upd,e1],hR.yields hCl hr (by decide) (by decide) (by kernel_rfl) hR.fin (fun h=>h) (fun _ _ h=>h) (by rfl) rfl⟩
      | 13,_,hr=>
       as_aux_lemma=>
       refine wpOp_step rfl (fun K' hK=>?_)
       have e1:t 57=.slice (some ⟨g2,0,none⟩) 1 cG:=hR.val hCl hr (by kernel_rfl) (12,57) (by simp) (dep_of hr 12 (by kernel_rfl))
       go_simp
       exact hK _ _ ⟨upd t 58 (.pointer (some ⟨g2,0,none⟩)),by simp[upd,e1],hR.yields hCl hr (by decide) (by decide) (by kernel_rfl) hR.fin (fun h=>h) (fun _ _ h=>h) (by rfl) rfl⟩
      | 14,_,hr=>
       as_aux_lemma=>
       refine wpOp_step rfl (fun K' hK=>?_)
       have e1:t 58=.pointer (some ⟨g2,0,none⟩):=hR.val hCl hr (by kernel_rfl) (13,58) (by simp) (dep_of hr 13 (by kernel_rfl))
       have f0:=HCL.out _ (hR.old (hCl.not hr 9 (by kernel_rfl)))
       go_simp
       exact hK _ _ ⟨upd t 59 (.slice AU nU cU),by simp[upd,e1],hR.yields hCl hr (by decide) (by decide) (by kernel_rfl) hR.fin (fun h=>h) (fun _ _ h=>h) (by rfl) rfl⟩
      | 15,_,hr=>
       as_aux_lemma=>
       refine wpOp_step rfl (fun K' hK=>?_)
       have e1:t 59=.slice AU nU cU:=hR.val hCl hr (by kernel_rfl) (14,59) (by simp) (dep_of hr 14 (by kernel_rfl))
       have hI2:=hR.fin
       have hJ:=(hR.old (hCl.not hr 9 (by kernel_rfl)))
       go_simp
       have hg:=World.grownBy_alloc wy (.cells #[(.slice AU nU cU)] 36) none
       exact hK _ _ ⟨upd t 60 (.slice (some ⟨wy.heap.size,0,none⟩) 1 1),by simp[upd,e1],hR.yields hCl hr (by decide) (by decide) (by kernel_rfl) ⟨hI2.1.grown hg,hI2.2.1.kept hg (by simp),Nat.le_trans hI2.2.2 hg.size⟩ (fun h=>h.kept hg (fun r e=>by cases e)) (S8.grown hg) ⟨_,rfl,Nat.le_of_lt hI2.2.1.lt,blk_new wy _⟩ rfl⟩
      | 16,_,hr=>
       as_aux_lemma=>
       refine wpOp_step rfl (fun K' hK=>?_)
       have e1:t 52=.slice (some ⟨g1,0,none⟩) ((fcA fs fn).length) cF:=hR.val hCl hr (by kernel_rfl) (7,52) (by simp) (dep_of hr 7 (by kernel_rfl))
       obtain⟨m,e2,hm,hbl⟩:∃m,t 60=.slice (some ⟨m,0,none⟩) 1 1∧O≤m∧Blk wy m (.cells #[(.slice AU nU cU)] 36):=hR.val hCl hr (by kernel_rfl) (15,60) (by simp) (dep_of hr 15 (by kernel_rfl))
       have hJ:=hR.old (getD_tf (ready_spec.1 hr).2.1).1
       have hI2:=hR.fin
       have hFW:=hJ.face fn hfn
       have hown:=hFW.own
       rw[HVF.out] at hown
       refine step_append rfl (.tmp 52) (.tmp 60) _ rfl B 36 Try.underlying37 infoL (.slice (some ⟨g1,0,none⟩) ((fcA fs fn).length) cF) _ _ e1 hown (.slice AU nU cU) rfl m e2 hbl (by have:=HS.out.2.1 fn;omega) hI2.2.2 ?_
       intro q cap w1 hown1 hgrow hloc hqlt
       have hro:∀k,(Value.ownBlock (.slice (some ⟨g1,0,none⟩) ((fcA fs fn).length) cF))=some k→k<O∧B≤k:=fun k e=>by cases e;exact⟨HG1.out.1,HG1.out.2⟩
       have hFW2:=FW.append hFW (HUO.out _ hJ) hown1 (by rw[HVF.out];exact hgrow)
       have hMQ:=hJ.pend hfn (u:=.slice (some ⟨q,0,none⟩) ((fcA fs fn).length+1) cap) (by rw[HVF.out];exact hgrow) hFW2 (by rw[HVF.out];rcases hloc with z | z;exact .inl z.symm;exact .inr (.inl (by rw[z];rfl)))
       refine hK _ _ ⟨upd t 61 (.slice (some ⟨q,0,none⟩) ((fcA fs fn).length+1) cap),rfl,hR.turns hCl hr (by decide) (by kernel_rfl) ⟨hI2.1.kept hgrow (fun k e=>by have:=(hro k e).2;have:=HB0.out;simp;omega),hI2.2.1.kept hgrow (fun e=>by have:=(hro _ e.symm).1;omega),Nat.le_trans hI2.2.2 hgrow.size⟩ (S8.turned hgrow (fun k e=>(hro k e).1)) ⟨q,cap,rfl,hMQ⟩ rfl⟩
      | 17,_,hr=>
       as_aux_lemma=>
       refine wpOp_step rfl (fun K' hK=>?_)
       have e1:t 46=.slice (some ⟨g,0,none⟩) fs.length cV:=hR.val hCl hr (by kernel_rfl) (1,46) (by simp) (dep_of hr 1 (by kernel_rfl))
       have e2:t 47=.int .i64 fn:=hR.val hCl hr (by kernel_rfl) (2,47) (by simp) (dep_of hr 2 (by kernel_rfl))
       go_simp
       exact hK _ _ ⟨upd t 62 (.pointer (some ⟨g,fn,none⟩)),by simp[upd,e1,e2],hR.yields hCl hr (by decide) (by decide) (by kernel_rfl) hR.fin (fun h=>h) (fun _ _ h=>h) (by rfl) rfl⟩
      | 18,_,hr=>
       as_aux_lemma=>
       refine wpOp_step rfl (fun K' hK=>?_)
       have e1:t 62=.pointer (some ⟨g,fn,none⟩):=hR.vls (getD_tf (ready_spec.1 hr).2.1).1 (17,62) (by simp) (dep_of hr 17 (by kernel_rfl))
       obtain⟨q,cap,e2,hMQ⟩:∃q cap,t 61=.slice (some ⟨q,0,none⟩) ((fcA fs fn).length+1) cap∧MQ B (.slice (some ⟨g,0,none⟩) fs.length cV) fs vf vl fn (t 61) (fcA fs fn ++ [lpA fs gn 0]) (fun l=>if l=(fcA fs fn).length then(.slice AU nU cU) else vl fn l) wy:=hR.vls (getD_tf (ready_spec.1 hr).2.1).1 (16,61) (by simp) (dep_of hr 16 (by kernel_rfl))
       have hI2:=hR.fin
       have hfr:=(World.ownsRow.frozenAt hMQ.own fn:wy.frozen? ⟨g,fn,none⟩=false)
       have hce:=(World.ownsRow.cellAt hMQ.own fn (by omega):wy.cell? ⟨g,fn,none⟩=_)
       rw[List.getElem?_map,List.getElem?_range hfn] at hce
       simp only[Option.map_some] at hce
       have hst:=hMQ.store rfl
       rw[e2] at hst
       have hE:=hR.ends hr (W1:=wy.setCell ⟨g,fn,none⟩ (.slice (some ⟨q,0,none⟩) ((fcA fs fn).length+1) cap)) (.inl (dep_of hr 16 (by kernel_rfl))) (by decide) ⟨hI2.1.kept (grown_set _ _ _ _) (fun r e=>by cases e;have:=HGO.out.2;have:=HB0.out;simp;omega),hI2.2.1.kept (grown_set _ _ _ _) (fun e=>by injection e with e;have:=HGO.out.1;omega),by simp;exact hI2.2.2⟩ ⟨_,_,hst⟩
       clear hst hMQ hI2
       go_simp
       exact hK _ _ ⟨t,by simp[e1,e2],hE⟩
      | nx+19,hix,_=>exact absurd (show nx+19<19 from hix) (by omega)
     rintro listed a2 W9 ⟨t,rfl,hR⟩ hl
     obtain⟨vf2,vl2,hM9⟩:=hR.new (hl 18 (by decide))
     have hI9:=hR.fin
     clear hR hl
     generalize t 45=u45
     generalize t 46=u46
     generalize t 47=u47
     generalize t 48=u48
     generalize t 49=u49
     generalize t 50=u50
     generalize t 51=u51
     generalize t 52=u52
     generalize t 53=u53
     generalize t 54=u54
     generalize t 55=u55
     generalize t 56=u56
     generalize t 57=u57
     generalize t 58=u58
     generalize t 59=u59
     generalize t 60=u60
     generalize t 61=u61
     generalize t 62=u62
     obtain⟨hO9,hB9,hS9⟩:=hI9
     have hlen:(fs.set fn (fcA fs fn ++ [lpA fs gn 0])).length=fs.length:=List.length_set
     obtain⟨xs,hxs⟩:=slices_of (k:=fs.length) (lv:=vf2) (fun j hj=>slice_of_own (hM9.face j (by rw[hlen];exact hj)).own)
     have hown9:=hM9.own
     rw[hlen,hxs] at hown9
     have HWT:=Lib.hid (withoutF_any hown9 hgn (by have:=HS.out.1;omega))
     have HM9:=Lib.hid hM9
     have HOB9:=Lib.hid hO9
     have HOUT9:=Lib.hid hB9
     have HXS:=Lib.hid hxs
     have n0:=(blk_cells HOUT9.out).1 1 _ rfl
     clear hM9 hO9 hB9 hxs hown9
     go_wp2_with fail
     ((with_reducible refine(HWT.out).mono ?_);rintro e W10 ⟨rfl,hown10,hg10⟩)
     clear n0
     have hM10:MW B (.slice (some ⟨g,0,none⟩) ((fs.length - 1)) cV) ((fs.set fn (fcA fs fn ++ [lpA fs gn 0])).eraseIdx gn) ((fs.set fn (fcA fs fn ++ [lpA fs gn 0])).eraseIdx gn).length _ _ W10:=HM9.out.dropF (g:=g) (by rw[hlen];exact hgn) rfl (by rw[hlen,HXS.out,map_eraseIdx];exact hown10) hg10
     have hOB10:=HOB9.out.kept hg10 (fun r e=>by cases e;have:=HGO.out.2;have:=HB0.out;simp;omega)
     have hOUT10:=HOUT9.out.kept hg10 (fun e=>by injection e with e;have:=HGO.out.1;omega)
     clear HM9 HOB9 HOUT9 HWT hown10 hg10
     have n1:=(blk_cells hOUT10).2 1
     have n3:=(blk_cells hOUT10).1 1 _ rfl
     have hB0:=HB0.out
     have n2:=hOUT10.lt
     go_upto_region 10 with fail
     have hM11:=hM10.setO hOUT10 1 (.slice (some ⟨g,0,none⟩) ((fs.length - 1)) cV)
     have hOB11:=hOB10.kept (grown_set W10 O 1 (.slice (some ⟨g,0,none⟩) ((fs.length - 1)) cV)) (fun r e=>by cases e;have:=HB0.out;have:=HBO.out;simp;omega)
     have hOUT11:=blk_set (o:=1) (x:=.slice (some ⟨g,0,none⟩) ((fs.length - 1)) cV) hOUT10
     clear hM10 hOUT10 hOB10 n1 n2 n3
     generalize W10.setCell ⟨O,1,none⟩ (.slice (some ⟨g,0,none⟩) ((fs.length - 1)) cV)=W11 at hM11 hOB11 hOUT11 ⊢
     have HOB10:=Lib.hid hOB11
     have HM10:=Lib.hid hM11
     have HOUT10:=Lib.hid hOUT11
     clear hOB11 hM11 hOUT11
     have HFT:=Lib.hid (fit_own (N) HM10.out (df_fine HRP.out fn gn))
     have m0:=(blk_cells HOUT10.out).1 0 _ rfl
     have m1:=(blk_cells HOUT10.out).1 1 _ rfl
     go_wp2_with fail
     ((with_reducible refine(HFT.out).mono ?_);rintro e W12 ⟨⟨bb,rfl,hbb⟩,hbl⟩)
     have HBB:=Lib.hid hbb
     have HOB12:=Lib.hid (HOB10.out.call hbl)
     have HM12:=Lib.hid (HM10.out.belowW hbl)
     clear HFT hbb hbl HOB10 HM10 HOUT10 m0 m1
     have m10:W12.cell? ⟨w.heap.size+1,0,none⟩=some (.int .i64 0):=HOB12.out.cell 1 0 rfl rfl
     have z10:W12.frozen? ⟨w.heap.size+1,0,none⟩=false:=HOB12.out.frz 1 0 rfl
     have m11:W12.cell? ⟨w.heap.size+1,1,none⟩=some (.slice none 0 0):=HOB12.out.cell 1 1 rfl rfl
     have z11:W12.frozen? ⟨w.heap.size+1,1,none⟩=false:=HOB12.out.frz 1 1 rfl
     have HE:Hid (dfE N fs fn gn=fitE N ((fs.set fn (fcA fs fn ++ [lpA fs gn 0])).eraseIdx gn)):=df_ok HRP.out hfn hgn hne (by omega)
     cases bb
     ·go_wp2
      obtain⟨hx,hxB⟩:=HOB12.out.ret 1 (.int .i64 0) (.slice none 0 0) rfl
      have e00:=(blk_cells hx).1 0 _ rfl
      have e01:=(blk_cells hx).1 1 _ rfl
      refine bodyPost_ret (v:=.tuple #[.agg #[.int .i64 0,.slice none 0 0],.int .i64 2]) (by simp[results,Try.f26,go_sem,e00,e01]) rfl ?_
      exact⟨opOut_fit (b:=false) HE.out (by simpa using HBB.out) (HM12.out.back (r:=w.heap.size+1) (by omega) (.int .i64 0) (.slice none 0 0)) rfl,hxB⟩
     ·go_wp2
      obtain⟨hx,hxB⟩:=HOB12.out.ret 1 (.int .i64 (N)) (.slice (some ⟨g,0,none⟩) ((fs.length - 1)) cV) rfl
      have e00:=(blk_cells hx).1 0 _ rfl
      have e01:=(blk_cells hx).1 1 _ rfl
      refine bodyPost_ret (v:=.tuple #[.agg #[.int .i64 (N),.slice (some ⟨g,0,none⟩) ((fs.length - 1)) cV],.int .i64 0]) (by simp[results,Try.f26,go_sem,e00,e01]) rfl ?_
      exact⟨opOut_fit (b:=true) HE.out (by simpa using HBB.out) (HM12.out.back (r:=w.heap.size+1) (by omega) (.int .i64 (N)) (.slice (some ⟨g,0,none⟩) ((fs.length - 1)) cV)) rfl,hxB⟩
  ·have HE:Hid (dfE N fs f g=.error 1):=by
    show _=_
    unfold dfE
    rw[if_neg (fun h=>h HRP.out),if_pos h1]
   by_cases h2:min f g<0
   ·clear h1
    go_wp2
    obtain⟨hx,hxB⟩:=HOB2.out.ret 1 (.int .i64 0) (.slice none 0 0) rfl
    have e00:=(blk_cells hx).1 0 _ rfl
    have e01:=(blk_cells hx).1 1 _ rfl
    refine bodyPost_ret (v:=.tuple #[.agg #[.int .i64 0,.slice none 0 0],.int .i64 1]) (by simp[results,Try.f26,go_sem,e00,e01]) rfl ?_
    exact⟨by rw[HE.out];rfl,hxB⟩
   ·have h3:max f g≥(fs.length:Int):=by omega
    clear h1
    go_wp2
    obtain⟨hx,hxB⟩:=HOB2.out.ret 1 (.int .i64 0) (.slice none 0 0) rfl
    have e00:=(blk_cells hx).1 0 _ rfl
    have e01:=(blk_cells hx).1 1 _ rfl
    refine bodyPost_ret (v:=.tuple #[.agg #[.int .i64 0,.slice none 0 0],.int .i64 1]) (by simp[results,Try.f26,go_sem,e00,e01]) rfl ?_
    exact⟨by rw[HE.out];rfl,hxB⟩
end Go.Proofs.Ytealnhaffphamaa

namespace Go.Proofs.Ytealnhaffphamaa
open Go.RowKit Go.Shelf Go.Proofs.YtealnhaffphamaaW.PrintWords
theorem own_lit {B:Nat} {e:TypeId} (W:World) (vs:List Value) {n:Nat} (hn:n=vs.length) (hB:B≤W.heap.size) (h:n≤1000000):(W.alloc (.cells vs.toArray e)).ownsRow B e 1 (.slice (some ⟨W.heap.size,0,none⟩) n n) n vs:=
 ⟨by omega,.inr ⟨W.heap.size,n,vs.toArray,rfl,hB,blk_new W _,by omega,by simp only[maxLen];omega,by simp[hn],by simp[hn]⟩⟩
theorem FW.lit1 {base:Nat} {u:Value} {x:List Int} (W:World) (hB:base≤W.heap.size) (h:W.ownsRow base 3 1 u x.length (intsV x)):FW base (.slice (some ⟨W.heap.size,0,none⟩) 1 1) [x] 1 (fun _=>u) (W.alloc (.cells #[u] 36)):=
 ⟨own_lit W [u] rfl hB (by omega),fun l hl=>by
  obtain rfl:l=0:=by omega
  exact own_keptB h (World.grownBy_alloc W _ none) (fun b e=>by cases e)⟩
theorem MW.lit1 {base:Nat} {u:Value} {ls:List (List Int)} {lv:Nat→Value} (W:World) (hB:base≤W.heap.size) (h:FW base u ls ls.length lv W):MW base (.slice (some ⟨W.heap.size,0,none⟩) 1 1) [ls] 1 (fun _=>u) (fun _=>lv) (W.alloc (.cells #[u] 37)):=
 ⟨own_lit W [u] rfl hB (by omega),fun f hf=>by
  obtain rfl:f=0:=by omega
  exact h.kept (World.grownBy_alloc W _ none) (fun b e=>by cases e),fun f hf f' hf' hne=>by omega⟩
theorem MW.lit2 {base:Nat} {u v:Value} {ls ms:List (List Int)} {lv mv:Nat→Value} (W:World) (hB:base≤W.heap.size) (h:FW base u ls ls.length lv W) (k:FW base v ms ms.length mv W) (hd:Ap u v) :
  MW base (.slice (some ⟨W.heap.size,0,none⟩) 2 2) [ls,ms] 2 (fun f=>if f=0 then u else v) (fun f=>if f=0 then lv else mv) (W.alloc (.cells #[u,v] 37)):=
 ⟨own_lit W [u,v] rfl hB (by omega),fun f hf=>by
  rcases(show f=0∨f=1 by omega) with rfl | rfl
  ·exact h.kept (World.grownBy_alloc W _ none) (fun b e=>by cases e)
  ·exact k.kept (World.grownBy_alloc W _ none) (fun b e=>by cases e),fun f hf f' hf' hne=>by
  rcases(show f=0∧f'=1∨f=1∧f'=0 by omega) with⟨rfl,rfl⟩ | ⟨rfl,rfl⟩
  ·exact hd
  ·exact hd.symm⟩
theorem below_alloc' {w W:World} (h:Below w.heap.size w W) (o:Obj):Below w.heap.size w (W.alloc o):=h.alloc h.size o
theorem below_new (W:World) (o:Obj):Below W.heap.size W (W.alloc o):=(Below.refl _ W).alloc (Nat.le_refl _) o
theorem Blk.bel {W W':World} {b:Nat} {o:Obj} (h:Blk W b o) (hb:Below W.heap.size W W'):Blk W' b o:=h.below hb h.lt
theorem lit_mw (W:World) (x:List Int) {n:Nat} (hn:n=x.length) (hle:n≤1000) :
  (∃vf vl,MW W.heap.size (.slice (some ⟨W.heap.size+1+1,0,none⟩) 1 1) [[x]] 1 vf vl (((W.alloc (.cells (intsV x).toArray 3)).alloc (.cells #[.slice (some ⟨W.heap.size,0,none⟩) n n] 36)).alloc (.cells #[.slice (some ⟨W.heap.size+1,0,none⟩) 1 1] 37)))∧Below W.heap.size W (((W.alloc (.cells (intsV x).toArray 3)).alloc (.cells #[.slice (some ⟨W.heap.size,0,none⟩) n n] 36)).alloc (.cells #[.slice (some ⟨W.heap.size+1,0,none⟩) 1 1] 37)):=by
 refine⟨?_,below_alloc' (below_alloc' (below_new W _) _) _⟩
 have h1:=own_lit (B:=W.heap.size) (e:=3) W (intsV x) (n:=n) (by rw[intsV_len];exact hn) (Nat.le_refl _) (by omega)
 rw[hn] at h1
 have h2:=FW.lit1 (base:=W.heap.size) _ (by simp) h1
 rw[World.size_alloc] at h2
 have h3:=MW.lit1 (base:=W.heap.size) _ (by simp;omega) (show FW W.heap.size _ [x] [x].length _ _ from h2)
 rw[World.size_alloc,World.size_alloc] at h3
 rw[hn]
 exact⟨_,_,h3⟩
theorem lit_one (W:World) (x:List Int) {n:Nat} (hn:n=x.length) (hle:n≤1000):RF (((W.alloc (.cells (intsV x).toArray 3)).alloc (.cells #[.slice (some ⟨W.heap.size,0,none⟩) n n] 36)).alloc (.cells #[.slice (some ⟨W.heap.size+1,0,none⟩) 1 1] 37)) (some ⟨W.heap.size+1+1,0,none⟩) [[x]]∧Below W.heap.size W (((W.alloc (.cells (intsV x).toArray 3)).alloc (.cells #[.slice (some ⟨W.heap.size,0,none⟩) n n] 36)).alloc (.cells #[.slice (some ⟨W.heap.size+1,0,none⟩) 1 1] 37)):=by
 obtain⟨⟨vf,vl,h⟩,hb⟩:=lit_mw W x hn hle
 obtain⟨A,c,e1,e2,e3⟩:=(show MW W.heap.size _ [[x]] [[x]].length vf vl _ from h).reads
 injection e1 with ea en ec
 rw[←ea] at e3
 exact⟨e3,hb⟩
def nodeB (fs:Fs) (ds:List PV):List PV→Bool
 | []=>false
 | x :: rest=>(decide ((lpA fs x.f x.l).length=1) && rest.isEmpty) || (decide ((lpA fs x.f x.l).length≠1) && decide (iterP fs ds (pl3 x) (rest.length+1)=pl3 x) && (List.range rest.length).all fun j=>decide (iterP fs ds (pl3 x) (j+1)≠pl3 x))
theorem nodeB_ok {fs:Fs} {ds l:List PV} (h:nodeB fs ds l=true):NodeOk fs ds l:=by
 cases l with
 | nil=>simp[nodeB] at h
 | cons x rest=>
  simp only[nodeB,Bool.or_eq_true,Bool.and_eq_true,decide_eq_true_eq,List.isEmpty_iff,List.all_eq_true,List.mem_range] at h
  refine⟨x,rest,rfl,fun h1=>?_,fun h1=>?_⟩
  ·rcases h with h | h
   ·exact h.2
   ·exact absurd h1 h.1.1
  ·rcases h with h | h
   ·exact absurd h.1 h1
   ·refine⟨h.1.2,fun j hj hlt=>?_⟩
    have:=h.2 (j - 1) (by simp at hlt;omega)
    rwa [show j - 1+1=j by omega] at this
def edB (fs:Fs):Bool:=decide ((dartsA fs (plsA fs)).Pairwise (fun x y=>¬ (x.v=y.v∧x.a=y.a))) && (dartsA fs (plsA fs)).all (fun x=>decide (x.v≠x.a) && hasE (dartsA fs (plsA fs)) x.a x.v)
theorem edB_ok {fs:Fs} (h:edB fs=true):EdOk fs:=by
 simp only[edB,Bool.and_eq_true,decide_eq_true_eq,List.all_eq_true] at h
 exact⟨⟨h.1,fun x hx=>(h.2 x hx).1⟩,fun x hx=>(h.2 x hx).2⟩
def wholeB (N:Int) (fs:Fs):Bool:=decide (1≤N∧N≤200∧1≤fs.length∧fs.length≤400∧fs.flatten.length≤400∧fs.flatten.flatten.length≤2000) && fs.all (fun f=>!f.isEmpty) && fs.flatten.all (fun l=>!l.isEmpty)
theorem wholeB_ok {N:Int} {fs:Fs} (h:wholeB N fs=true):Whole N fs:=by
 rw[whole_iff]
 simp only[wholeB,Bool.and_eq_true,decide_eq_true_eq,List.all_eq_true,Bool.not_eq_true'] at h
 obtain⟨⟨⟨h1,h2,h3,h4,h5,h6⟩,h7⟩,h8⟩:=h
 exact⟨h1,h2,h3,h4,h5,h6,fun f hf e=>by have:=h7 f hf;rw[e] at this;simp at this,fun l hl e=>by have:=h8 l hl;rw[e] at this;simp at this⟩
def rightB (N:Int) (fs:Fs):Bool:=wholeB N fs && (plsA fs).all (fun x=>decide (0≤x.v∧x.v<N)) && edB fs && (List.range N.toNat).all fun i=>nodeB fs (dartsA fs (plsA fs)) (rowsA (plsA fs) i)
theorem rightB_ok {N:Int} {fs:Fs} (h:rightB N fs=true):RightP N fs:=by
 simp only[rightB,Bool.and_eq_true,List.all_eq_true,decide_eq_true_eq,List.mem_range] at h
 obtain⟨⟨⟨h1,h2⟩,h3⟩,h4⟩:=h
 exact⟨wholeB_ok h1,h2,edB_ok h3,fun i hi=>nodeB_ok (h4 i (by omega))⟩
def fM:Fs:=[[[0]]]
def fA:Fs:=[[[0,1]]]
def fB:Fs:=[[[0,2,0,1]]]
def f2:Fs:=[[[0,1,2]],[[0,2,1]]]
def fT:Fs:=[[[0,1,2],[0,2,1]]]
theorem rM:RightP 1 fM:=rightB_ok (by decide)
theorem rA:RightP 2 fA:=rightB_ok (by decide)
theorem rB:RightP 3 fB:=rightB_ok (by decide)
theorem r2:RightP 3 f2:=rightB_ok (by decide)
theorem rT:RightP 3 fT:=rightB_ok (by decide)
theorem anM:anE 1 fM 0 0 0=.ok (2,fA):=by
 have h:=anE_ok (f:=0) (l:=0) (i:=0) rM (by unfold HasP;decide)
 have e:setL fM 0 0 (anL 1 (lpA fM 0 0) 0)=fA:=by decide
 rw[e] at h
 refine h.trans ?_
 unfold fitE
 rw[if_pos (show RightP (1+1) fA from rA)];rfl
theorem anA:anE 2 fA 0 0 0=.ok (3,fB):=by
 have h:=anE_ok (f:=0) (l:=0) (i:=0) rA (by unfold HasP;decide)
 have e:setL fA 0 0 (anL 2 (lpA fA 0 0) 0)=fB:=by decide
 rw[e] at h
 refine h.trans ?_
 unfold fitE
 rw[if_pos (show RightP (2+1) fB from rB)];rfl
theorem df2:dfE 3 f2 0 1=.ok (3,fT):=by
 have h:=df_ok (f:=0) (g:=1) r2 (by decide) (by decide) (by decide) (by decide)
 have e:((f2.set 0 (fcA f2 0 ++ [lpA f2 1 0])).eraseIdx 1)=fT:=by decide
 rw[e] at h
 refine h.trans ?_
 unfold fitE
 rw[if_pos rT]
open Classical in
theorem shOne {fs:Fs} (h:fs.length=1):(shA fs).length=1:=by
 unfold shA
 rw[h]
 show(if ∃g,g<0∧Conn fs g 0 then([]:List (List Int)) else[] ++ [compA fs 0]).length=1
 rw[if_neg (fun⟨g,hg,_⟩=>by omega)]
 rfl
open Classical in
theorem sh2:(shA f2).length=1:=by
 have hc:Conn f2 0 1:=.one ⟨pvA f2 0 0 0,dart_of (fs:=f2) (p:=(0,0,0)) ⟨by decide,by decide,by decide⟩ (by decide),rfl,by decide⟩
 unfold shA
 rw[show f2.length=2 from rfl]
 simp only[shUp]
 rw[if_neg (show ¬ ∃g,g<0∧Conn f2 g 0 from fun⟨g,hg,_⟩=>by omega),if_pos (show ∃g,g<0+1∧Conn f2 g (0+1) from⟨0,by omega,hc⟩)]
 rfl
theorem ctM:ctV 1 fM=.agg #[.int .i64 1,.int .i64 0,.int .i64 1,.int .i64 0,.int .i64 1,.int .i64 0]:=by
 unfold ctV hdN
 rw[shOne rfl,show edN fM=0 by decide]
 rfl
theorem ct2:ctV 3 f2=.agg #[.int .i64 3,.int .i64 3,.int .i64 2,.int .i64 0,.int .i64 1,.int .i64 0]:=by
 unfold ctV hdN
 rw[sh2,show edN f2=3 by decide]
 rfl
theorem ctT:ctV 3 fT=.agg #[.int .i64 3,.int .i64 3,.int .i64 1,.int .i64 1,.int .i64 1,.int .i64 1]:=by
 unfold ctV hdN
 rw[shOne rfl,show edN fT=3 by decide]
 rfl
theorem likeP_refl (N:Int) (fs:Fs):LikeP N N fs fs:=⟨rfl,rfl,fun f _=>⟨rfl,fun l _=>rfl⟩⟩
theorem cpM:cpA fM 1000 1000 5000=fM:=by decide
theorem cpAA:cpA fA 1000 1000 5000=fA:=by decide
theorem cpB:cpA fB 1000 1000 5000=fB:=by decide
theorem not_right_nil (N:Int):¬ RightP N []:=fun h=>by have:=h.1.2.2.1;simp at this
theorem fine_of {N:Int} {fs:Fs} (h:RightP N fs):Sm fs∧NI fs∧(plsA fs).length≤100000:=⟨h.fine.sm (by omega),h.fine.ni,h.fine.cap (by omega)⟩
set_option maxRecDepth 100000 in
theorem new_any (w:World):Calls Try.prog 20 #[] w fun e w'=>(∃A c,e=.returned (.agg #[.int .i64 1,.slice A fM.length c])∧fM.length≤c∧RF w' A fM)∧Below w.heap.size w w':=by
 obtain⟨W1,hW1⟩:∃W1,W1=w.alloc (.cells #[.int .i64 0,.slice none 0 0] 30):=⟨_,rfl⟩
 have hB:Below w.heap.size w W1∧Blk W1 w.heap.size (.cells #[.int .i64 0,.slice none 0 0] 30)∧W1.heap.size=w.heap.size+1:=by rw[hW1];exact⟨below_new _ _,blk_new _ _,by simp⟩
 go_enter Try.func20,Try.ntmps20
 go_upto_region 1 with fail
 rw[←hW1]
 clear hW1
 obtain⟨h1,h2,h3⟩:=hB
 obtain⟨⟨vf,vl,hM⟩,hb⟩:=(show(∃vf vl,MW W1.heap.size (.slice (some ⟨W1.heap.size+1+1,0,none⟩) 1 1) fM fM.length vf vl (((W1.alloc (.cells #[.int .i64 0] 3)).alloc (.cells #[.slice (some ⟨W1.heap.size,0,none⟩) 1 1] 36)).alloc (.cells #[.slice (some ⟨W1.heap.size+1,0,none⟩) 1 1] 37)))∧Below W1.heap.size W1 (((W1.alloc (.cells #[.int .i64 0] 3)).alloc (.cells #[.slice (some ⟨W1.heap.size,0,none⟩) 1 1] 36)).alloc (.cells #[.slice (some ⟨W1.heap.size+1,0,none⟩) 1 1] 37)) from lit_mw W1 [0] (n:=1) rfl (by omega))
 have hx:=h2.bel hb
 have m0:=(blk_cells hx).1 0 _ rfl
 have m1:=(blk_cells hx).1 1 _ rfl
 have n0:=(blk_cells hx).2 0
 have n1:=(blk_cells hx).2 1
 have HM:=Lib.hid (hM.back (r:=w.heap.size) (by omega) (.int .i64 1) (.slice (some ⟨W1.heap.size+1+1,0,none⟩) 1 1))
 have HX:=Lib.hid (blk_set2 (u:=.int .i64 1) (v:=.slice (some ⟨W1.heap.size+1+1,0,none⟩) 1 1) hx)
 have HB:=Lib.hid (((h1.trans (hb.mono h1.size)).setCell (p:=⟨w.heap.size,0,none⟩) (Nat.le_refl _) (.int .i64 1)).setCell (p:=⟨w.heap.size,1,none⟩) (Nat.le_refl _) (.slice (some ⟨W1.heap.size+1+1,0,none⟩) 1 1))
 have hs:w.heap.size<W1.heap.size:=by omega
 clear hx hM hb h1 h2 h3
 go_wp2
 have e00:=(blk_cells HX.out).1 0 _ rfl
 have e01:=(blk_cells HX.out).1 1 _ rfl
 obtain⟨A,c,e1,e2,e3⟩:=HM.out.reads
 injection e1 with ea en ec
 rw[←ea] at e3
 refine bodyPost_ret (v:=.agg #[.int .i64 1,.slice (some ⟨W1.heap.size+1+1,0,none⟩) 1 1]) (by simp[results,Try.f20,go_sem,e00,e01]) rfl ?_
 exact⟨⟨_,1,rfl,by decide,e3⟩,HB.out⟩
set_option maxRecDepth 100000 in
theorem rnew_any (w:World):Calls Try.prog 21 #[] w fun e w'=>(∃A c,e=.returned (.agg #[.int .i64 1,.slice A fM.length c])∧fM.length≤c∧RF w' A fM)∧Below w.heap.size w w':=by
 obtain⟨W1,hW1⟩:∃W1,W1=w.alloc (.cells #[.int .i64 0,.slice none 0 0] 26):=⟨_,rfl⟩
 have hB:Below w.heap.size w W1∧Blk W1 w.heap.size (.cells #[.int .i64 0,.slice none 0 0] 26)∧W1.heap.size=w.heap.size+1:=by rw[hW1];exact⟨below_new _ _,blk_new _ _,by simp⟩
 go_enter Try.func21,Try.ntmps21
 go_upto_region 1 with fail
 rw[←hW1]
 clear hW1
 obtain⟨h1,h2,h3⟩:=hB
 obtain⟨⟨vf,vl,hM⟩,hb⟩:=(show(∃vf vl,MW W1.heap.size (.slice (some ⟨W1.heap.size+1+1,0,none⟩) 1 1) fM fM.length vf vl (((W1.alloc (.cells #[.int .i64 0] 3)).alloc (.cells #[.slice (some ⟨W1.heap.size,0,none⟩) 1 1] 36)).alloc (.cells #[.slice (some ⟨W1.heap.size+1,0,none⟩) 1 1] 37)))∧Below W1.heap.size W1 (((W1.alloc (.cells #[.int .i64 0] 3)).alloc (.cells #[.slice (some ⟨W1.heap.size,0,none⟩) 1 1] 36)).alloc (.cells #[.slice (some ⟨W1.heap.size+1,0,none⟩) 1 1] 37)) from lit_mw W1 [0] (n:=1) rfl (by omega))
 have hx:=h2.bel hb
 have m0:=(blk_cells hx).1 0 _ rfl
 have m1:=(blk_cells hx).1 1 _ rfl
 have n0:=(blk_cells hx).2 0
 have n1:=(blk_cells hx).2 1
 have HM:=Lib.hid (hM.back (r:=w.heap.size) (by omega) (.int .i64 1) (.slice (some ⟨W1.heap.size+1+1,0,none⟩) 1 1))
 have HX:=Lib.hid (blk_set2 (u:=.int .i64 1) (v:=.slice (some ⟨W1.heap.size+1+1,0,none⟩) 1 1) hx)
 have HB:=Lib.hid (((h1.trans (hb.mono h1.size)).setCell (p:=⟨w.heap.size,0,none⟩) (Nat.le_refl _) (.int .i64 1)).setCell (p:=⟨w.heap.size,1,none⟩) (Nat.le_refl _) (.slice (some ⟨W1.heap.size+1+1,0,none⟩) 1 1))
 have hs:w.heap.size<W1.heap.size:=by omega
 clear hx hM hb h1 h2 h3
 go_wp2
 have e00:=(blk_cells HX.out).1 0 _ rfl
 have e01:=(blk_cells HX.out).1 1 _ rfl
 obtain⟨A,c,e1,e2,e3⟩:=HM.out.reads
 injection e1 with ea en ec
 rw[←ea] at e3
 refine bodyPost_ret (v:=.agg #[.int .i64 1,.slice (some ⟨W1.heap.size+1+1,0,none⟩) 1 1]) (by simp[results,Try.f21,go_sem,e00,e01]) rfl ?_
 exact⟨⟨_,1,rfl,by decide,e3⟩,HB.out⟩
end Go.Proofs.Ytealnhaffphamaa
