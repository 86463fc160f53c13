/- Contracts of the functions that the statement reaches, and plain lemmas: part 24 of 31. -/
import Derived.Test.YtealnhaffphamaaS20
import Derived.Test.YtealnhaffphamaaS06
set_option linter.unusedVariables false
set_option linter.unusedSimpArgs false

namespace Go.Proofs.Ytealnhaffphamaa
open Go.RowKit Go.Shelf Go.Proofs.YtealnhaffphamaaW.PrintWords
open Classical
def Ob (m p:Obj) (w W:World):Prop:=(Blk W w.heap.size m∧Blk W (w.heap.size+1) p∧Blk W (w.heap.size+1+1) (.cells #[.int .i64 0,.slice none 0 0] 30))∧Below w.heap.size w W∧w.heap.size+3≤W.heap.size
theorem Ob.kept {m p:Obj} {w W W':World} {row:Option Nat} (h:Ob m p w W) (hg:W.grownBy W' row) (hr:∀k,row=some k→w.heap.size+3≤k):Ob m p w W':=
 ⟨⟨h.1.1.kept hg (fun e=>by have:=hr _ e.symm;omega),h.1.2.1.kept hg (fun e=>by have:=hr _ e.symm;omega),h.1.2.2.kept hg (fun e=>by have:=hr _ e.symm;omega)⟩,h.2.1.grown hg (by have:=h.2.2;omega) (fun k e=>by have:=hr k e;omega),Nat.le_trans h.2.2 hg.size⟩
theorem Ob.call {m p:Obj} {w W W':World} (h:Ob m p w W) (hb:Below W.heap.size W W'):Ob m p w W':=h.kept (row:=none) (grown_of_below hb none) (fun k e=>by cases e)
theorem Ob.new (w:World) (m p:Obj):Ob m p w (((w.alloc m).alloc p).alloc (.cells #[.int .i64 0,.slice none 0 0] 30)):=by
 refine⟨⟨((blk_new w _).alloc).alloc,?_,?_⟩,(((Below.refl _ w).alloc (Nat.le_refl _) _).alloc (by simp) _).alloc (by simp;omega) _,by simp⟩
 ·have h:=blk_new (w.alloc m) p
  rw[World.size_alloc] at h
  exact h.alloc
 ·have h:=blk_new ((w.alloc m).alloc p) (.cells #[.int .i64 0,.slice none 0 0] 30)
  rw[World.size_alloc,World.size_alloc] at h
  exact h
theorem Ob.ret {m p:Obj} {w W:World} (h:Ob m p w W) (x y:Value):(Blk ((W.setCell ⟨w.heap.size+1+1,0,none⟩ x).setCell ⟨w.heap.size+1+1,1,none⟩ y) (w.heap.size+1+1) (.cells #[x,y] 30))∧Below w.heap.size w ((W.setCell ⟨w.heap.size+1+1,0,none⟩ x).setCell ⟨w.heap.size+1+1,1,none⟩ y):=
 ⟨blk_set2 h.1.2.2,(h.2.1.setCell (p:=⟨_,0,none⟩) (by show w.heap.size≤w.heap.size+1+1;omega) _).setCell (p:=⟨_,1,none⟩) (by show w.heap.size≤w.heap.size+1+1;omega) _⟩
def S7 (N:Int) (O b n pn:Nat) (xp:Int) (w:World) (d:Nat) (W:World) (v:Value):Prop:=match d with | 8=>∃m,v=.slice (some ⟨m,0,none⟩) 2 2∧O<m∧Blk W m (.cells #[.int .i64 N,.int .i64 xp] 3) | 39=>∃m,v=.slice (some ⟨m,0,none⟩) 2 2∧O<m∧Blk W m (.cells #[.int .i64 N,.int .i64 xp] 3) | 32=>v=.pointer (some ⟨O,0,none⟩) | 33=>v=.int .i64 N | 34=>v=.slice (some ⟨b,0,none⟩) n n | 35=>v=.pointer (some ⟨w.heap.size+1,2,none⟩) | 36=>v=.int .i64 pn | 37=>v=.pointer (some ⟨b,pn,none⟩) | 38=>v=.int .i64 xp | _=>True
theorem S7.grown {N:Int} {O b n pn:Nat} {xp:Int} {w W W1:World} (hg:W.grownBy W1 none):∀d v,S7 N O b n pn xp w d W v→S7 N O b n pn xp w d W1 v:=by
 intro d v h
 unfold S7 at h ⊢
 split at h
 all_goals first | exact h | (obtain⟨m,h1,h2,h3⟩:=h;exact⟨m,h1,h2,h3.kept hg (by simp)⟩)
def S10 (k O B n m g g1 fn ln pn p1:Nat) (fs:Fs) (cV cF:Nat) (w:World) (NL:List Int) (b:Nat) (d:Nat) (W:World) (v:Value):Prop:=match d with | 58=>∃q cap,v=.slice (some ⟨q,0,none⟩) (n+k) cap∧W.ownsRow B 3 1 (.slice (some ⟨q,0,none⟩) (n+k) cap) (n+k) (intsV NL) | 45=>v=.pointer (some ⟨O,1,none⟩) | 46=>v=.slice (some ⟨g,0,none⟩) fs.length cV | 47=>v=.pointer (some ⟨w.heap.size+1,0,none⟩) | 48=>v=.int .i64 fn | 49=>v=.pointer (some ⟨g,fn,none⟩) | 50=>v=.slice (some ⟨g1,0,none⟩) (fcA fs fn).length cF | 51=>v=.pointer (some ⟨w.heap.size+1,1,none⟩) | 52=>v=.int .i64 ln | 53=>v=.slice (some ⟨b,0,none⟩) n n | 54=>v=.pointer (some ⟨w.heap.size+1,2,none⟩) | 55=>v=.int .i64 pn | 56=>v=.int .i64 p1 | 57=>v=.slice (some ⟨m,0,none⟩) k k | 59=>v=.pointer (some ⟨g1,ln,none⟩) | _=>True
theorem S10.grown {k O B n m g g1 fn ln pn p1:Nat} {fs:Fs} {cV cF:Nat} {w:World} {NL:List Int} {b:Nat} {W W1:World} (hg:W.grownBy W1 none):∀d v,S10 k O B n m g g1 fn ln pn p1 fs cV cF w NL b d W v→S10 k O B n m g g1 fn ln pn p1 fs cV cF w NL b d W1 v:=by
 intro d v h
 unfold S10 at h ⊢
 split at h
 all_goals first | exact h | (obtain⟨q,cap,h1,h2⟩:=h;exact⟨q,cap,h1,own_keptB h2 hg (fun r e=>by cases e)⟩)
set_option maxRecDepth 100000 in
set_option maxHeartbeats 4000000 in
theorem addNode_any (N:Int) (A:Option Addr) (c:Nat) (fs:Fs) (f l i:Int) (w:World) (hF:RF w A fs) (hc:fs.length≤c) (hSm:Sm fs) (hI:NI fs) (hcap:(plsA fs).length≤100000) :
  Calls Try.prog 17 #[.agg #[.int .i64 N,.slice A fs.length c],.agg #[.int .i64 f,.int .i64 l,.int .i64 i]] w fun e w'=>OpOut (anE N fs f l i) e w'∧Below w.heap.size w w':=by
 obtain⟨W1,hW1⟩:∃W1,W1=((w.alloc (.cells #[.int .i64 N,.slice A fs.length c] 30)).alloc (.cells #[.int .i64 f,.int .i64 l,.int .i64 i] 45)).alloc (.cells #[.int .i64 0,.slice none 0 0] 30):=⟨_,rfl⟩
 have HOB:Hid (Ob (.cells #[.int .i64 N,.slice A fs.length c] 30) (.cells #[.int .i64 f,.int .i64 l,.int .i64 i] 45) w W1):=by rw[hW1];exact Ob.new w _ _
 have HR:=Lib.hid (right_at (N:=N) (c:=c) hF HOB.out.2.1 hSm hI hcap)
 have HF:=Lib.hid hF
 have HS:=Lib.hid hSm
 have HI:=Lib.hid hI
 have HCAP:=Lib.hid hcap
 have HC:=Lib.hid hc
 clear hF hSm hI hcap hc
 go_enter Try.func17,Try.ntmps17
 go_wp2_with fail
 rw[←hW1]
 clear hW1
 ((with_reducible refine(HR.out).mono ?_);rintro e W2 ⟨⟨b,rfl,hb⟩,-,hbl⟩)
 have HOB2:=Lib.hid (HOB.out.call hbl)
 have HBI:=Lib.hid hb
 clear HR hb hbl HOB
 have m0:=(blk_cells HOB2.out.1.1).1 0 _ rfl
 have m1:=(blk_cells HOB2.out.1.1).1 1 _ rfl
 have p0:=(blk_cells HOB2.out.1.2.1).1 0 _ rfl
 have p1:=(blk_cells HOB2.out.1.2.1).1 1 _ rfl
 have p2:=(blk_cells HOB2.out.1.2.1).1 2 _ rfl
 have r0:=(blk_cells HOB2.out.1.2.2).1 0 _ rfl
 have r1:=(blk_cells HOB2.out.1.2.2).1 1 _ rfl
 have r2:=(blk_cells HOB2.out.1.2.2).2 0
 have r3:=(blk_cells HOB2.out.1.2.2).2 1
 cases b
 ·have HE:Hid (anE N fs f l i=.error 140):=by
   show _=_
   unfold anE
   rw[if_pos (fun h=>by simpa using HBI.out.2 h)]
  go_wp2
  obtain⟨hx,hxB⟩:=HOB2.out.ret (.int .i64 0) (.slice none 0 0)
  have e00:=(blk_cells hx).1 0 _ rfl
  have e01:=(blk_cells hx).1 1 _ rfl
  refine bodyPost_ret (v:=.tuple #[.agg #[.int .i64 0,.slice none 0 0],.int .i64 140]) (by simp[results,Try.f17,go_sem,e00,e01]) rfl ?_
  exact⟨by rw[HE.out];rfl,hxB⟩
 ·have HRP:Hid (RightP N fs):=HBI.out.1 rfl
  clear HBI
  have HH:=Lib.hid (has_any N A c fs f l i W2 (HF.out.below HOB2.out.2.1) HC.out)
  go_wp2_with fail
  ((with_reducible refine(HH.out).mono ?_);rintro e W3 ⟨⟨b,rfl,hb⟩,hbl⟩)
  have HOB3:=Lib.hid (HOB2.out.call hbl)
  have HBI:=Lib.hid hb
  clear HH hb hbl HOB2 m0 m1 p0 p1 p2 r0 r1 r2 r3
  have m0:=(blk_cells HOB3.out.1.1).1 0 _ rfl
  have m1:=(blk_cells HOB3.out.1.1).1 1 _ rfl
  have r0:=(blk_cells HOB3.out.1.2.2).1 0 _ rfl
  have r1:=(blk_cells HOB3.out.1.2.2).1 1 _ rfl
  have r2:=(blk_cells HOB3.out.1.2.2).2 0
  have r3:=(blk_cells HOB3.out.1.2.2).2 1
  cases b
  ·have HE:Hid (anE N fs f l i=.error 1):=by
    show _=_
    unfold anE
    rw[if_neg (fun h=>h HRP.out),if_pos (fun h=>by simpa using HBI.out.2 h)]
   go_wp2
   obtain⟨hx,hxB⟩:=HOB3.out.ret (.int .i64 0) (.slice none 0 0)
   have e00:=(blk_cells hx).1 0 _ rfl
   have e01:=(blk_cells hx).1 1 _ rfl
   refine bodyPost_ret (v:=.tuple #[.agg #[.int .i64 0,.slice none 0 0],.int .i64 1]) (by simp[results,Try.f17,go_sem,e00,e01]) rfl ?_
   exact⟨by rw[HE.out];rfl,hxB⟩
  ·have HHP:Hid (HasP fs f l i):=HBI.out.1 rfl
   clear HBI
   have HCP:=Lib.hid (copied_any N A c fs W3 (HF.out.below HOB3.out.2.1) HS.out)
   go_wp2_with fail
   ((with_reducible refine(HCP.out).mono ?_);rintro e W4 ⟨⟨v,vf,vl,rfl,hM,hMD,hMX⟩,hbl⟩)
   obtain⟨hf0,hfz,hl0,hlz,hi0,hiz⟩:=HHP.out
   obtain⟨fn,rfl⟩:=Int.eq_ofNat_of_zero_le hf0
   obtain⟨ln,rfl⟩:=Int.eq_ofNat_of_zero_le hl0
   obtain⟨pn,rfl⟩:=Int.eq_ofNat_of_zero_le hi0
   rw[Int.toNat_natCast] at hlz hiz
   rw[Int.toNat_natCast] at hiz
   have hfn:fn<fs.length:=by omega
   have hln:ln<(fcA fs fn).length:=by omega
   obtain⟨g,cV,rfl,hg1,hg2⟩:=hM.own.form (by omega)
   have HOB4:=Lib.hid (HOB3.out.call hbl)
   have HM:=Lib.hid hM
   have HMX:=Lib.hid hMX
   have hB0:w.heap.size+3≤W3.heap.size:=HOB3.out.2.2
   obtain⟨B,hB⟩:∃B,W3.heap.size=B:=⟨_,rfl⟩
   rw[hB] at HM hB0
   have hBW:B≤W4.heap.size:=by rw[←hB];exact hbl.size
   clear HCP hbl hM hMD hMX HOB3 m0 m1 r0 r1 r2 r3
   go_upto_region 6 with fail
   have hg3:W4.grownBy (W4.alloc (.cells #[.int .i64 N,.slice (some ⟨g,0,none⟩) fs.length cV] 30)) none:=World.grownBy_alloc _ _ _
   have hOut:=blk_new W4 (.cells #[.int .i64 N,.slice (some ⟨g,0,none⟩) fs.length cV] 30)
   have HOB5:=Lib.hid (HOB4.out.kept hg3 (fun r e=>by cases e))
   have HM5:=Lib.hid (HM.out.kept hg3 (fun r e=>by cases e))
   have hOM:Hid (∀r,MB (.slice (some ⟨g,0,none⟩) fs.length cV) fs fs.length vf vl r→r<W4.heap.size):=fun r hr=>(HM.out.lt hr).2
   generalize W4.alloc (.cells #[.int .i64 N,.slice (some ⟨g,0,none⟩) fs.length cV] 30)=W5 at hg3 hOut HOB5 HM5 ⊢
   obtain⟨O,hO⟩:∃O,W4.heap.size=O:=⟨_,rfl⟩
   rw[hO] at hOut hOM hBW ⊢
   have HOUT:=Lib.hid hOut
   clear hg3 hOut HOB4 HM hO
   obtain⟨g1,cF,hvf,hg4,hg5⟩:=(HM5.out.face fn hfn).own.form (by omega)
   obtain⟨b,hvl⟩:=HMX.out fn hfn ln hln
   obtain⟨n,hn⟩:∃n,n=(lpA fs fn ln).length:=⟨_,rfl⟩
   have hvl:vl fn ln=.slice (some ⟨b,0,none⟩) n n:=by rw[hn];exact hvl
   have q0:=World.ownsRow.cellAt HM5.out.own fn (by omega)
   have q1:=World.ownsRow.cellAt (by have h:=(HM5.out.face fn hfn).own;rw[hvf] at h;exact h) ln (by omega)
   rw[List.getElem?_map,List.getElem?_range hfn] at q0
   rw[List.getElem?_map,List.getElem?_range hln] at q1
   simp only[Option.map_some,hvf,hvl] at q0 q1
   have m0:=(blk_cells HOUT.out).1 0 _ rfl
   have m1:=(blk_cells HOUT.out).1 1 _ rfl
   have p0:=(blk_cells HOB5.out.1.2.1).1 0 _ rfl
   have p1:=(blk_cells HOB5.out.1.2.1).1 1 _ rfl
   have p2:=(blk_cells HOB5.out.1.2.1).1 2 _ rfl
   have HN:=Lib.hid hn
   have HVF:=Lib.hid hvf
   have HVL:=Lib.hid hvl
   clear hn hvf hvl
   refine wp_region_inv' (by kernel_rfl) (by kernel_rfl) (fun listed aa wy=>∃t:Nat→Value,aa={ tmps:=#[.agg #[.int .i64 N,.slice A fs.length c],.agg #[.int .i64 fn,.int .i64 ln,.int .i64 pn],.pointer (some ⟨w.heap.size,0,none⟩),.pointer (some ⟨w.heap.size+1,0,none⟩),.pointer (some ⟨w.heap.size+1+1,0,none⟩),.int .i64 0,.pointer (some ⟨O,0,none⟩),t 7,undef,.bool false,.agg #[.int .i64 N,.slice A fs.length c],.bool true,.bool false,undef,.bool false,.agg #[.int .i64 N,.slice A fs.length c],.agg #[.int .i64 fn,.int .i64 ln,.int .i64 pn],.bool true,.bool false,undef,.agg #[.int .i64 N,.slice A fs.length c],.agg #[.int .i64 N,.slice (some ⟨g,0,none⟩) fs.length cV],t 22,t 23,t 24,t 25,t 26,t 27,t 28,t 29,t 30,t 31,undef,undef,undef,undef,undef,undef,undef,undef,undef,undef,undef,undef,undef,undef,undef,undef,undef,undef,undef,undef,undef,undef,undef,undef,undef,undef,undef,undef,undef,undef,undef,undef,undef,undef,undef,undef],defers:=[] }∧IR (fun wz=>wz=W5.drew) (fun d (_:World) v=>match d with | 22=>v=.pointer (some ⟨O,1,none⟩) | 23=>v=.slice (some ⟨g,0,none⟩) fs.length cV | 24=>v=.pointer (some ⟨w.heap.size+1,0,none⟩) | 25=>v=.int .i64 fn | 26=>v=.pointer (some ⟨g,fn,none⟩) | 27=>v=.slice (some ⟨g1,0,none⟩) (fcA fs fn).length cF | 28=>v=.pointer (some ⟨w.heap.size+1,1,none⟩) | 29=>v=.int .i64 ln | 30=>v=.pointer (some ⟨g1,ln,none⟩) | 31=>v=.slice (some ⟨b,0,none⟩) n n | 7=>v=.slice (some ⟨b,0,none⟩) n n | _=>True) [(0,22),(1,23),(2,24),(3,25),(4,26),(5,27),(6,28),(7,29),(8,30),(9,31),(10,7)] listed t wy) ⟨(fun d=>match d with | 7=>undef | 22=>undef | 23=>undef | 24=>undef | 25=>undef | 26=>undef | 27=>undef | 28=>undef | 29=>undef | 30=>undef | 31=>undef | _=>undef),rfl,IR.start _ (by rfl) _⟩ ?_ ?_
   rotate_left
   ·rintro listed hCl ix hix aa wy ⟨t,rfl,hR⟩ hr
    match ix,hix,hr with
    | 0,_,hr=>
     as_aux_lemma=>
     refine wpOp_step rfl (fun K' hK=>?_)
     go_simp
     exact hK _ _ ⟨upd t 22 (.pointer (some ⟨O,1,none⟩)),rfl,hR.yields hR.fin (fun _ _ h=>h) rfl rfl⟩
    | 1,_,hr=>
     as_aux_lemma=>
     refine wpOp_step rfl (fun K' hK=>?_)
     have e1:t 22=.pointer (some ⟨O,1,none⟩):=hR.val (0,22) (by simp) (dep_of hr 0 (by kernel_rfl))
     obtain rfl:wy=W5.drew:=hR.fin
     go_simp
     exact hK _ _ ⟨upd t 23 (.slice (some ⟨g,0,none⟩) fs.length cV),by simp[upd,e1],hR.yields hR.fin (fun _ _ h=>h) rfl rfl⟩
    | 2,_,hr=>
     as_aux_lemma=>
     refine wpOp_step rfl (fun K' hK=>?_)
     go_simp
     exact hK _ _ ⟨upd t 24 (.pointer (some ⟨w.heap.size+1,0,none⟩)),rfl,hR.yields hR.fin (fun _ _ h=>h) rfl rfl⟩
    | 3,_,hr=>
     as_aux_lemma=>
     refine wpOp_step rfl (fun K' hK=>?_)
     have e1:t 24=.pointer (some ⟨w.heap.size+1,0,none⟩):=hR.val (2,24) (by simp) (dep_of hr 2 (by kernel_rfl))
     obtain rfl:wy=W5.drew:=hR.fin
     go_simp
     exact hK _ _ ⟨upd t 25 (.int .i64 fn),by simp[upd,e1],hR.yields hR.fin (fun _ _ h=>h) rfl rfl⟩
    | 4,_,hr=>
     as_aux_lemma=>
     refine wpOp_step rfl (fun K' hK=>?_)
     have e1:t 23=.slice (some ⟨g,0,none⟩) fs.length cV:=hR.val (1,23) (by simp) (dep_of hr 1 (by kernel_rfl))
     have e2:t 25=.int .i64 fn:=hR.val (3,25) (by simp) (dep_of hr 3 (by kernel_rfl))
     go_simp
     exact hK _ _ ⟨upd t 26 (.pointer (some ⟨g,fn,none⟩)),by simp[upd,e1,e2],hR.yields hR.fin (fun _ _ h=>h) rfl rfl⟩
    | 5,_,hr=>
     as_aux_lemma=>
     refine wpOp_step rfl (fun K' hK=>?_)
     have e1:t 26=.pointer (some ⟨g,fn,none⟩):=hR.val (4,26) (by simp) (dep_of hr 4 (by kernel_rfl))
     obtain rfl:wy=W5.drew:=hR.fin
     go_simp
     exact hK _ _ ⟨upd t 27 (.slice (some ⟨g1,0,none⟩) (fcA fs fn).length cF),by simp[upd,e1],hR.yields hR.fin (fun _ _ h=>h) rfl rfl⟩
    | 6,_,hr=>
     as_aux_lemma=>
     refine wpOp_step rfl (fun K' hK=>?_)
     go_simp
     exact hK _ _ ⟨upd t 28 (.pointer (some ⟨w.heap.size+1,1,none⟩)),rfl,hR.yields hR.fin (fun _ _ h=>h) rfl rfl⟩
    | 7,_,hr=>
     as_aux_lemma=>
     refine wpOp_step rfl (fun K' hK=>?_)
     have e1:t 28=.pointer (some ⟨w.heap.size+1,1,none⟩):=hR.val (6,28) (by simp) (dep_of hr 6 (by kernel_rfl))
     obtain rfl:wy=W5.drew:=hR.fin
     go_simp
     exact hK _ _ ⟨upd t 29 (.int .i64 ln),by simp[upd,e1],hR.yields hR.fin (fun _ _ h=>h) rfl rfl⟩
    | 8,_,hr=>
     as_aux_lemma=>
     refine wpOp_step rfl (fun K' hK=>?_)
     have e1:t 27=.slice (some ⟨g1,0,none⟩) (fcA fs fn).length cF:=hR.val (5,27) (by simp) (dep_of hr 5 (by kernel_rfl))
     have e2:t 29=.int .i64 ln:=hR.val (7,29) (by simp) (dep_of hr 7 (by kernel_rfl))
     go_simp
     exact hK _ _ ⟨upd t 30 (.pointer (some ⟨g1,ln,none⟩)),by simp[upd,e1,e2],hR.yields hR.fin (fun _ _ h=>h) rfl rfl⟩
    | 9,_,hr=>
     as_aux_lemma=>
     refine wpOp_step rfl (fun K' hK=>?_)
     have e1:t 30=.pointer (some ⟨g1,ln,none⟩):=hR.val (8,30) (by simp) (dep_of hr 8 (by kernel_rfl))
     obtain rfl:wy=W5.drew:=hR.fin
     go_simp
     exact hK _ _ ⟨upd t 31 (.slice (some ⟨b,0,none⟩) n n),by simp[upd,e1],hR.yields hR.fin (fun _ _ h=>h) rfl rfl⟩
    | 10,_,hr=>
     as_aux_lemma=>
     refine wpOp_step rfl (fun K' hK=>?_)
     have e1:t 31=.slice (some ⟨b,0,none⟩) n n:=hR.val (9,31) (by simp) (dep_of hr 9 (by kernel_rfl))
     go_simp
     exact hK _ _ ⟨upd t 7 (.slice (some ⟨b,0,none⟩) n n),by simp[upd,e1],hR.yields hR.fin (fun _ _ h=>h) rfl rfl⟩
    | nx+11,hix,_=>exact absurd (show nx+11<11 from hix) (by omega)
   rintro listed a2 W2 ⟨t,rfl,hR⟩ hl
   obtain rfl:W2=W5.drew:=hR.fin
   have e7:t 7=.slice (some ⟨b,0,none⟩) n n:=hR.val (10,7) (by simp) (hl 10 (by decide))
   have e22:t 22=.pointer (some ⟨O,1,none⟩):=hR.val (0,22) (by simp) (hl 0 (by decide))
   have e23:t 23=.slice (some ⟨g,0,none⟩) fs.length cV:=hR.val (1,23) (by simp) (hl 1 (by decide))
   have e24:t 24=.pointer (some ⟨w.heap.size+1,0,none⟩):=hR.val (2,24) (by simp) (hl 2 (by decide))
   have e25:t 25=.int .i64 fn:=hR.val (3,25) (by simp) (hl 3 (by decide))
   have e26:t 26=.pointer (some ⟨g,fn,none⟩):=hR.val (4,26) (by simp) (hl 4 (by decide))
   have e27:t 27=.slice (some ⟨g1,0,none⟩) (fcA fs fn).length cF:=hR.val (5,27) (by simp) (hl 5 (by decide))
   have e28:t 28=.pointer (some ⟨w.heap.size+1,1,none⟩):=hR.val (6,28) (by simp) (hl 6 (by decide))
   have e29:t 29=.int .i64 ln:=hR.val (7,29) (by simp) (hl 7 (by decide))
   have e30:t 30=.pointer (some ⟨g1,ln,none⟩):=hR.val (8,30) (by simp) (hl 8 (by decide))
   have e31:t 31=.slice (some ⟨b,0,none⟩) n n:=hR.val (9,31) (by simp) (hl 9 (by decide))
   clear hR hl
   rw[e7,e22,e23,e24,e25,e26,e27,e28,e29,e30,e31]
   clear e7 e22 e23 e24 e25 e26 e27 e28 e29 e30 e31
   clear q0 q1 m0 m1 p0 p1 p2
   have HOB6:=Lib.hid (HOB5.out.kept ((grown_drew W5).trans (grown_drew _)) (fun r e=>by cases e))
   have HOUT6:=Lib.hid (HOUT.out.kept ((grown_drew W5).trans (grown_drew _)) (by simp))
   have HM6:=Lib.hid (HM5.out.kept ((grown_drew W5).trans (grown_drew _)) (fun r e=>by cases e))
   have hpn:pn<n:=by rw[HN.out];omega
   have hpz:(pn:Int)<(n:Int):=by omega
   obtain⟨xp,hxp⟩:∃xp,xp=(lpA fs fn ln).getD pn 0:=⟨_,rfl⟩
   have HXP:Hid (∀W,MW B (.slice (some ⟨g,0,none⟩) fs.length cV) fs fs.length vf vl W→W.cell? ⟨b,pn,none⟩=some (.int .i64 xp)):=fun W h=>by
    have h2:=(h.face fn hfn).ownL ln hln
    rw[HVL.out] at h2
    have h3:=World.ownsRow.cellAt (by rw[show(lA (fcA fs fn) ln).length=n from HN.out.symm] at h2;exact h2) pn (by omega)
    have hpn2:pn<(lA (fcA fs fn) ln).length:=by rw[show(lA (fcA fs fn) ln).length=n from HN.out.symm];exact hpn
    rw[h3,hxp]
    simp[intsV,lpA,List.getD_eq_getElem?_getD,hpn2]
   have HXPE:=Lib.hid hxp
   clear hxp
   go_upto_region 7 with fail
   refine wp_region_inv' (by kernel_rfl) (by kernel_rfl) (fun listed aa wy=>∃t:Nat→Value,aa={ tmps:=#[.agg #[.int .i64 N,.slice A fs.length c],.agg #[.int .i64 fn,.int .i64 ln,.int .i64 pn],.pointer (some ⟨w.heap.size,0,none⟩),.pointer (some ⟨w.heap.size+1,0,none⟩),.pointer (some ⟨w.heap.size+1+1,0,none⟩),.int .i64 0,.pointer (some ⟨O,0,none⟩),.slice (some ⟨b,0,none⟩) n n,t 8,.bool false,.agg #[.int .i64 N,.slice A fs.length c],.bool true,.bool false,undef,.bool false,.agg #[.int .i64 N,.slice A fs.length c],.agg #[.int .i64 fn,.int .i64 ln,.int .i64 pn],.bool true,.bool false,undef,.agg #[.int .i64 N,.slice A fs.length c],.agg #[.int .i64 N,.slice (some ⟨g,0,none⟩) fs.length cV],.pointer (some ⟨O,1,none⟩),.slice (some ⟨g,0,none⟩) fs.length cV,.pointer (some ⟨w.heap.size+1,0,none⟩),.int .i64 fn,.pointer (some ⟨g,fn,none⟩),.slice (some ⟨g1,0,none⟩) (fcA fs fn).length cF,.pointer (some ⟨w.heap.size+1,1,none⟩),.int .i64 ln,.pointer (some ⟨g1,ln,none⟩),.slice (some ⟨b,0,none⟩) n n,t 32,t 33,t 34,t 35,t 36,t 37,t 38,t 39,undef,undef,undef,undef,undef,undef,undef,undef,undef,undef,undef,undef,undef,undef,undef,undef,undef,undef,undef,undef,undef,undef,undef,undef,undef,undef,undef,undef],defers:=[] }∧IR (fun wz=>Ob (.cells #[.int .i64 N,.slice A fs.length c] 30) (.cells #[.int .i64 fn,.int .i64 ln,.int .i64 pn] 45) w wz∧Blk wz O (.cells #[.int .i64 N,.slice (some ⟨g,0,none⟩) fs.length cV] 30)∧MW B (.slice (some ⟨g,0,none⟩) fs.length cV) fs fs.length vf vl wz) (S7 N O b n pn xp w) [(0,32),(1,33),(2,34),(3,35),(4,36),(5,37),(6,38),(7,39),(8,8)] listed t wy) ⟨(fun d=>match d with | 8=>undef | 32=>undef | 33=>undef | 34=>undef | 35=>undef | 36=>undef | 37=>undef | 38=>undef | 39=>undef | _=>undef),rfl,IR.start _ ⟨HOB6.out,HOUT6.out,HM6.out⟩ _⟩ ?_ ?_
   rotate_left
   ·rintro listed hCl ix hix aa wy ⟨t,rfl,hR⟩ hr
    match ix,hix,hr with
    | 0,_,hr=>
     as_aux_lemma=>
     refine wpOp_step rfl (fun K' hK=>?_)
     go_simp
     exact hK _ _ ⟨upd t 32 (.pointer (some ⟨O,0,none⟩)),rfl,hR.yields hR.fin (fun _ _ h=>h) rfl rfl⟩
    | 1,_,hr=>
     as_aux_lemma=>
     refine wpOp_step rfl (fun K' hK=>?_)
     have e1:t 32=.pointer (some ⟨O,0,none⟩):=hR.val (0,32) (by simp) (dep_of hr 0 (by kernel_rfl))
     have f0:=(blk_cells hR.fin.2.1).1 0 _ rfl
     go_simp
     exact hK _ _ ⟨upd t 33 (.int .i64 N),by simp[upd,e1],hR.yields hR.fin (fun _ _ h=>h) rfl rfl⟩
    | 2,_,hr=>
     as_aux_lemma=>
     refine wpOp_step rfl (fun K' hK=>?_)
     go_simp
     exact hK _ _ ⟨upd t 34 (.slice (some ⟨b,0,none⟩) n n),rfl,hR.yields hR.fin (fun _ _ h=>h) rfl rfl⟩
    | 3,_,hr=>
     as_aux_lemma=>
     refine wpOp_step rfl (fun K' hK=>?_)
     go_simp
     exact hK _ _ ⟨upd t 35 (.pointer (some ⟨w.heap.size+1,2,none⟩)),rfl,hR.yields hR.fin (fun _ _ h=>h) rfl rfl⟩
    | 4,_,hr=>
     as_aux_lemma=>
     refine wpOp_step rfl (fun K' hK=>?_)
     have e1:t 35=.pointer (some ⟨w.heap.size+1,2,none⟩):=hR.val (3,35) (by simp) (dep_of hr 3 (by kernel_rfl))
     have f0:=(blk_cells hR.fin.1.1.2.1).1 2 _ rfl
     go_simp
     exact hK _ _ ⟨upd t 36 (.int .i64 pn),by simp[upd,e1],hR.yields hR.fin (fun _ _ h=>h) rfl rfl⟩
    | 5,_,hr=>
     as_aux_lemma=>
     refine wpOp_step rfl (fun K' hK=>?_)
     have e1:t 34=.slice (some ⟨b,0,none⟩) n n:=hR.val (2,34) (by simp) (dep_of hr 2 (by kernel_rfl))
     have e2:t 36=.int .i64 pn:=hR.val (4,36) (by simp) (dep_of hr 4 (by kernel_rfl))
     go_simp
     exact hK _ _ ⟨upd t 37 (.pointer (some ⟨b,pn,none⟩)),by simp[upd,e1,e2],hR.yields hR.fin (fun _ _ h=>h) rfl rfl⟩
    | 6,_,hr=>
     as_aux_lemma=>
     refine wpOp_step rfl (fun K' hK=>?_)
     have e1:t 37=.pointer (some ⟨b,pn,none⟩):=hR.val (5,37) (by simp) (dep_of hr 5 (by kernel_rfl))
     have f0:=HXP.out _ hR.fin.2.2
     go_simp
     exact hK _ _ ⟨upd t 38 (.int .i64 xp),by simp[upd,e1],hR.yields hR.fin (fun _ _ h=>h) rfl rfl⟩
    | 7,_,hr=>
     as_aux_lemma=>
     refine wpOp_step rfl (fun K' hK=>?_)
     have e1:t 33=.int .i64 N:=hR.val (1,33) (by simp) (dep_of hr 1 (by kernel_rfl))
     have e2:t 38=.int .i64 xp:=hR.val (6,38) (by simp) (dep_of hr 6 (by kernel_rfl))
     have hg:=World.grownBy_alloc wy (.cells #[.int .i64 N,.int .i64 xp] 3) none
     have hI2:=hR.fin
     go_simp
     exact hK _ _ ⟨upd t 39 (.slice (some ⟨wy.heap.size,0,none⟩) 2 2),by simp[upd,e1,e2],hR.yields ⟨hI2.1.kept hg (fun r e=>by cases e),hI2.2.1.kept hg (by simp),hI2.2.2.kept hg (fun r e=>by cases e)⟩ (S7.grown hg) ⟨_,rfl,hI2.2.1.lt,blk_new wy _⟩ rfl⟩
    | 8,_,hr=>
     as_aux_lemma=>
     refine wpOp_step rfl (fun K' hK=>?_)
     obtain⟨m,e1,h1,h2⟩:∃m,t 39=.slice (some ⟨m,0,none⟩) 2 2∧O<m∧Blk wy m (.cells #[.int .i64 N,.int .i64 xp] 3):=hR.val (7,39) (by simp) (dep_of hr 7 (by kernel_rfl))
     go_simp
     exact hK _ _ ⟨upd t 8 (.slice (some ⟨m,0,none⟩) 2 2),by simp[upd,e1],hR.yields hR.fin (fun _ _ h=>h) ⟨m,rfl,h1,h2⟩ rfl⟩
    | nx+9,hix,_=>exact absurd (show nx+9<9 from hix) (by omega)
   rintro listed a2 W7 ⟨t,rfl,hR⟩ hl
   obtain⟨m,e8,hm1,hm2⟩:∃m,t 8=.slice (some ⟨m,0,none⟩) 2 2∧O<m∧Blk W7 m (.cells #[.int .i64 N,.int .i64 xp] 3):=hR.val (8,8) (by simp) (hl 8 (by decide))
   have hI2:=hR.fin
   clear hR hl
   rw[e8]
   clear e8
   generalize t 32=u32
   generalize t 33=u33
   generalize t 34=u34
   generalize t 35=u35
   generalize t 36=u36
   generalize t 37=u37
   generalize t 38=u38
   generalize t 39=u39
   have HOB8:=Lib.hid hI2.1
   have HOUT8:=Lib.hid hI2.2.1
   have HM8:=Lib.hid hI2.2.2
   have HMC8:=Lib.hid hm2
   clear hI2 hm2
   have HCF:Hid (∀W,MW B (.slice (some ⟨g,0,none⟩) fs.length cV) fs fs.length vf vl W→W.cell? ⟨g,fn,none⟩=some (.slice (some ⟨g1,0,none⟩) (fcA fs fn).length cF)):=fun W h=>by
    have q0:=World.ownsRow.cellAt h.own fn (by omega)
    rw[List.getElem?_map,List.getElem?_range hfn] at q0
    simp only[Option.map_some,HVF.out] at q0
    exact q0
   obtain⟨p1,hp1⟩:∃p1:Nat,p1=pn+1:=⟨_,rfl⟩
   have hs1:=HS.out.2.2 fn ln
   rw[←HN.out] at hs1
   have hwp:IntKind.i64.wrap ((pn:Int)+1)=(p1:Int):=by rw[IntKind.wrap_i64];omega
   have HP1:=Lib.hid hp1
   have hp1n:p1≤n:=by omega
   clear hp1
   have HXC:Hid (∀W,MW B (.slice (some ⟨g,0,none⟩) fs.length cV) fs fs.length vf vl W→∀j u,(intsV (lpA fs fn ln))[j]?=some u→W.cell? ⟨b,j,none⟩=some u):=fun W h j u hj=>by
    have h2:=(h.face fn hfn).ownL ln hln
    rw[HVL.out] at h2
    have hlt:=(List.getElem?_eq_some_iff.1 hj).1
    rw[intsV_len] at hlt
    have h3:=World.ownsRow.cellAt (by rw[show(lA (fcA fs fn) ln).length=n from HN.out.symm] at h2;exact h2) j (by rw[HN.out];omega)
    rw[h3];exact hj
   have HC1:Hid (∀W,MW B (.slice (some ⟨g,0,none⟩) fs.length cV) fs fs.length vf vl W→W.cell? ⟨g1,ln,none⟩=some (.slice (some ⟨b,0,none⟩) n n)∧W.frozen? ⟨g1,ln,none⟩=false):=fun W h=>by
    have h2:=(h.face fn hfn).own
    rw[HVF.out] at h2
    have q1:=World.ownsRow.cellAt h2 ln (by omega)
    rw[List.getElem?_map,List.getElem?_range hln] at q1
    simp only[Option.map_some,HVL.out] at q1
    exact⟨q1,World.ownsRow.frozenAt h2 ln⟩
   have HG1:Hid (g1<O):=hOM.out g1 (.inr ⟨fn,hfn,.inl (by rw[HVF.out];rfl)⟩)
   by_cases hn1:n=1
   ·subst hn1
    go_upto_region 10 with fail
    refine wp_region_inv' (by kernel_rfl) (by kernel_rfl) (fun listed aa wy=>∃t:Nat→Value,aa={ tmps:=#[.agg #[.int .i64 N,.slice A fs.length c],.agg #[.int .i64 fn,.int .i64 ln,.int .i64 pn],.pointer (some ⟨w.heap.size,0,none⟩),.pointer (some ⟨w.heap.size+1,0,none⟩),.pointer (some ⟨w.heap.size+1+1,0,none⟩),.int .i64 0,.pointer (some ⟨O,0,none⟩),.slice (some ⟨b,0,none⟩) 1 1,.slice (some ⟨m,0,none⟩) 1 1,.bool false,.agg #[.int .i64 N,.slice A fs.length c],.bool true,.bool false,undef,.bool false,.agg #[.int .i64 N,.slice A fs.length c],.agg #[.int .i64 fn,.int .i64 ln,.int .i64 pn],.bool true,.bool false,undef,.agg #[.int .i64 N,.slice A fs.length c],.agg #[.int .i64 N,.slice (some ⟨g,0,none⟩) fs.length cV],.pointer (some ⟨O,1,none⟩),.slice (some ⟨g,0,none⟩) fs.length cV,.pointer (some ⟨w.heap.size+1,0,none⟩),.int .i64 fn,.pointer (some ⟨g,fn,none⟩),.slice (some ⟨g1,0,none⟩) (fcA fs fn).length cF,.pointer (some ⟨w.heap.size+1,1,none⟩),.int .i64 ln,.pointer (some ⟨g1,ln,none⟩),.slice (some ⟨b,0,none⟩) 1 1,u32,u33,u34,u35,u36,u37,u38,u39,.slice (some ⟨b,0,none⟩) 1 1,.int .i64 1,.bool true,.slice (some ⟨m,0,none⟩) 2 2,.slice (some ⟨m,0,none⟩) 1 1,t 45,t 46,t 47,t 48,t 49,t 50,t 51,t 52,t 53,t 54,t 55,t 56,t 57,t 58,t 59,undef,undef,undef,undef,undef,undef,undef,undef],defers:=[] }∧IRE (fun wz=>MW B (.slice (some ⟨g,0,none⟩) fs.length cV) fs fs.length vf vl wz∧Blk wz m (.cells #[.int .i64 N,.int .i64 xp] 3)) 15 (fun _ wz=>∃vl',MW B (.slice (some ⟨g,0,none⟩) fs.length cV) (setL fs fn ln ((lpA fs fn ln).take p1 ++ [N] ++ (lpA fs fn ln).drop p1)) (setL fs fn ln ((lpA fs fn ln).take p1 ++ [N] ++ (lpA fs fn ln).drop p1)).length vf vl' wz) (fun wz=>Ob (.cells #[.int .i64 N,.slice A fs.length c] 30) (.cells #[.int .i64 fn,.int .i64 ln,.int .i64 pn] 45) w wz∧Blk wz O (.cells #[.int .i64 N,.slice (some ⟨g,0,none⟩) fs.length cV] 30)) (S10 1 O B 1 m g g1 fn ln pn p1 fs cV cF w ((lpA fs fn ln).take p1 ++ [N] ++ (lpA fs fn ln).drop p1) b) [(0,45),(1,46),(2,47),(3,48),(4,49),(5,50),(6,51),(7,52),(8,53),(9,54),(10,55),(11,56),(12,57),(13,58),(14,59)] listed t wy) ⟨(fun d=>match d with | 45=>undef | 46=>undef | 47=>undef | 48=>undef | 49=>undef | 50=>undef | 51=>undef | 52=>undef | 53=>undef | 54=>undef | 55=>undef | 56=>undef | 57=>undef | 58=>undef | 59=>undef | _=>undef),rfl,IRE.start _ ⟨HOB8.out.kept (grown_drew W7) (fun r e=>by cases e),HOUT8.out.kept (grown_drew W7) (by simp)⟩ ⟨HM8.out.kept (grown_drew W7) (fun r e=>by cases e),HMC8.out.kept (grown_drew W7) (by simp)⟩ _⟩ ?_ ?_
    rotate_left
    ·rintro listed hCl ix hix aa wy ⟨t,rfl,hR⟩ hr
     match ix,hix,hr with
     | 0,_,hr=>
      as_aux_lemma=>
      refine wpOp_step rfl (fun K' hK=>?_)
      go_simp
      exact hK _ _ ⟨upd t 45 (.pointer (some ⟨O,1,none⟩)),rfl,hR.yields hCl hr (by decide) (by kernel_rfl) hR.fin (fun h=>h) (fun _ _ h=>h) rfl rfl⟩
     | 1,_,hr=>
      as_aux_lemma=>
      refine wpOp_step rfl (fun K' hK=>?_)
      have e1:t 45=.pointer (some ⟨O,1,none⟩):=hR.val hCl hr (by kernel_rfl) (0,45) (by simp) (dep_of hr 0 (by kernel_rfl))
      have f0:=(blk_cells hR.fin.2).1 1 _ rfl
      go_simp
      exact hK _ _ ⟨upd t 46 (.slice (some ⟨g,0,none⟩) fs.length cV),by simp[upd,e1],hR.yields hCl hr (by decide) (by kernel_rfl) hR.fin (fun h=>h) (fun _ _ h=>h) rfl rfl⟩
     | 2,_,hr=>
      as_aux_lemma=>
      refine wpOp_step rfl (fun K' hK=>?_)
      go_simp
      exact hK _ _ ⟨upd t 47 (.pointer (some ⟨w.heap.size+1,0,none⟩)),rfl,hR.yields hCl hr (by decide) (by kernel_rfl) hR.fin (fun h=>h) (fun _ _ h=>h) rfl rfl⟩
     | 3,_,hr=>
      as_aux_lemma=>
      refine wpOp_step rfl (fun K' hK=>?_)
      have e1:t 47=.pointer (some ⟨w.heap.size+1,0,none⟩):=hR.val hCl hr (by kernel_rfl) (2,47) (by simp) (dep_of hr 2 (by kernel_rfl))
      have f0:=(blk_cells hR.fin.1.1.2.1).1 0 _ rfl
      go_simp
      exact hK _ _ ⟨upd t 48 (.int .i64 fn),by simp[upd,e1],hR.yields hCl hr (by decide) (by kernel_rfl) hR.fin (fun h=>h) (fun _ _ h=>h) rfl rfl⟩
     | 4,_,hr=>
      as_aux_lemma=>
      refine wpOp_step rfl (fun K' hK=>?_)
      have e1:t 46=.slice (some ⟨g,0,none⟩) fs.length cV:=hR.val hCl hr (by kernel_rfl) (1,46) (by simp) (dep_of hr 1 (by kernel_rfl))
      have e2:t 48=.int .i64 fn:=hR.val hCl hr (by kernel_rfl) (3,48) (by simp) (dep_of hr 3 (by kernel_rfl))
      go_simp
      exact hK _ _ ⟨upd t 49 (.pointer (some ⟨g,fn,none⟩)),by simp[upd,e1,e2],hR.yields hCl hr (by decide) (by kernel_rfl) hR.fin (fun h=>h) (fun _ _ h=>h) rfl rfl⟩
     | 5,_,hr=>
      as_aux_lemma=>
      refine wpOp_step rfl (fun K' hK=>?_)
      have e1:t 49=.pointer (some ⟨g,fn,none⟩):=hR.val hCl hr (by kernel_rfl) (4,49) (by simp) (dep_of hr 4 (by kernel_rfl))
      have f0:=HCF.out _ (hR.bef hCl hr (by kernel_rfl)).1
      go_simp
      exact hK _ _ ⟨upd t 50 (.slice (some ⟨g1,0,none⟩) (fcA fs fn).length cF),by simp[upd,e1],hR.yields hCl hr (by decide) (by kernel_rfl) hR.fin (fun h=>h) (fun _ _ h=>h) rfl rfl⟩
     | 6,_,hr=>
      as_aux_lemma=>
      refine wpOp_step rfl (fun K' hK=>?_)
      go_simp
      exact hK _ _ ⟨upd t 51 (.pointer (some ⟨w.heap.size+1,1,none⟩)),rfl,hR.yields hCl hr (by decide) (by kernel_rfl) hR.fin (fun h=>h) (fun _ _ h=>h) rfl rfl⟩
     | 7,_,hr=>
      as_aux_lemma=>
      refine wpOp_step rfl (fun K' hK=>?_)
      have e1:t 51=.pointer (some ⟨w.heap.size+1,1,none⟩):=hR.val hCl hr (by kernel_rfl) (6,51) (by simp) (dep_of hr 6 (by kernel_rfl))
      have f0:=(blk_cells hR.fin.1.1.2.1).1 1 _ rfl
      go_simp
      exact hK _ _ ⟨upd t 52 (.int .i64 ln),by simp[upd,e1],hR.yields hCl hr (by decide) (by kernel_rfl) hR.fin (fun h=>h) (fun _ _ h=>h) rfl rfl⟩
     | 8,_,hr=>
      as_aux_lemma=>
      refine wpOp_step rfl (fun K' hK=>?_)
      go_simp
      exact hK _ _ ⟨upd t 53 (.slice (some ⟨b,0,none⟩) 1 1),rfl,hR.yields hCl hr (by decide) (by kernel_rfl) hR.fin (fun h=>h) (fun _ _ h=>h) rfl rfl⟩
     | 9,_,hr=>
      as_aux_lemma=>
      refine wpOp_step rfl (fun K' hK=>?_)
      go_simp
      exact hK _ _ ⟨upd t 54 (.pointer (some ⟨w.heap.size+1,2,none⟩)),rfl,hR.yields hCl hr (by decide) (by kernel_rfl) hR.fin (fun h=>h) (fun _ _ h=>h) rfl rfl⟩
     | 10,_,hr=>
      as_aux_lemma=>
      refine wpOp_step rfl (fun K' hK=>?_)
      have e1:t 54=.pointer (some ⟨w.heap.size+1,2,none⟩):=hR.val hCl hr (by kernel_rfl) (9,54) (by simp) (dep_of hr 9 (by kernel_rfl))
      have f0:=(blk_cells hR.fin.1.1.2.1).1 2 _ rfl
      go_simp
      exact hK _ _ ⟨upd t 55 (.int .i64 pn),by simp[upd,e1],hR.yields hCl hr (by decide) (by kernel_rfl) hR.fin (fun h=>h) (fun _ _ h=>h) rfl rfl⟩
     | 11,_,hr=>
      as_aux_lemma=>
      refine wpOp_step rfl (fun K' hK=>?_)
      have e1:t 55=.int .i64 pn:=hR.val hCl hr (by kernel_rfl) (10,55) (by simp) (dep_of hr 10 (by kernel_rfl))
      go_simp
      exact hK _ _ ⟨upd t 56 (.int .i64 p1),by simp[upd,e1],hR.yields hCl hr (by decide) (by kernel_rfl) hR.fin (fun h=>h) (fun _ _ h=>h) rfl rfl⟩
     | 12,_,hr=>
      as_aux_lemma=>
      refine wpOp_step rfl (fun K' hK=>?_)
      go_simp
      exact hK _ _ ⟨upd t 57 (.slice (some ⟨m,0,none⟩) 1 1),rfl,hR.yields hCl hr (by decide) (by kernel_rfl) hR.fin (fun h=>h) (fun _ _ h=>h) rfl rfl⟩
     | 13,_,hr=>
      as_aux_lemma=>
      refine wpOp_step rfl (fun K' hK=>?_)
      have e1:t 53=.slice (some ⟨b,0,none⟩) 1 1:=hR.val hCl hr (by kernel_rfl) (8,53) (by simp) (dep_of hr 8 (by kernel_rfl))
      have e2:t 56=.int .i64 p1:=hR.val hCl hr (by kernel_rfl) (11,56) (by simp) (dep_of hr 11 (by kernel_rfl))
      have e3:t 57=.slice (some ⟨m,0,none⟩) 1 1:=hR.val hCl hr (by kernel_rfl) (12,57) (by simp) (dep_of hr 12 (by kernel_rfl))
      have hI2:=hR.fin
      have hJ:=hR.bef hCl hr (by kernel_rfl)
      go_simp
      refine(insert_any b 1 p1 1 m 1 (lpA fs fn ln) [N] wy HN.out rfl (by decide) hp1n (by omega) (HXC.out _ hJ.1) (fun j u hj=>(blk_cells hJ.2).1 j u (by cases j with | zero=>simpa [intsV] using hj | succ j=>simp[intsV] at hj))).mono ?_
      rintro e W' ⟨⟨cap,rfl,hown⟩,hbl⟩
      have hg:=grown_of_below hbl none
      have hBw:B≤wy.heap.size:=Nat.le_trans hBW (Nat.le_of_lt hI2.2.lt)
      exact hK _ _ ⟨upd t 58 (.slice (some ⟨wy.heap.size,0,none⟩) (1+1) cap),by simp[upd,e1,e2,e3],hR.yields hCl hr (by decide) (by kernel_rfl) ⟨hI2.1.kept hg (fun r e=>by cases e),hI2.2.kept hg (by simp)⟩ (fun h=>⟨h.1.kept hg (fun r e=>by cases e),h.2.kept hg (by simp)⟩) (S10.grown hg) ⟨_,cap,rfl,own_weaken hown hBw⟩ rfl⟩
     | 14,_,hr=>
      as_aux_lemma=>
      refine wpOp_step rfl (fun K' hK=>?_)
      have e1:t 50=.slice (some ⟨g1,0,none⟩) (fcA fs fn).length cF:=hR.val hCl hr (by kernel_rfl) (5,50) (by simp) (dep_of hr 5 (by kernel_rfl))
      have e2:t 52=.int .i64 ln:=hR.val hCl hr (by kernel_rfl) (7,52) (by simp) (dep_of hr 7 (by kernel_rfl))
      go_simp
      exact hK _ _ ⟨upd t 59 (.pointer (some ⟨g1,ln,none⟩)),by simp[upd,e1,e2],hR.yields hCl hr (by decide) (by kernel_rfl) hR.fin (fun h=>h) (fun _ _ h=>h) rfl rfl⟩
     | 15,_,hr=>
      as_aux_lemma=>
      refine wpOp_step rfl (fun K' hK=>?_)
      have e1:t 59=.pointer (some ⟨g1,ln,none⟩):=(hR.atEnd hr).2 (14,59) (by simp) (dep_of hr 14 (by kernel_rfl))
      obtain⟨q,cap,e3,hown⟩:∃q cap,t 58=(.slice (some ⟨q,0,none⟩) (1+1) cap)∧wy.ownsRow B 3 1 (.slice (some ⟨q,0,none⟩) (1+1) cap) (1+1) (intsV ((lpA fs fn ln).take p1 ++ [N] ++ (lpA fs fn ln).drop p1)):=(hR.atEnd hr).2 (13,58) (by simp) (dep_of hr 13 (by kernel_rfl))
      have hI2:=hR.fin
      have hJ:=(hR.atEnd hr).1
      obtain⟨c0,c1⟩:=HC1.out _ hJ.1
      have hlen:(((lpA fs fn ln).take p1 ++ [N] ++ (lpA fs fn ln).drop p1)).length=1+1:=by have h1:=hp1n;have h0:=HN.out;simp;omega
      have hput:=hJ.1.put hfn hln (x:=((lpA fs fn ln).take p1 ++ [N] ++ (lpA fs fn ln).drop p1)) (by rw[hlen];exact hown) HVF.out
      have hE:=hR.ends hr (W1:=wy.setCell ⟨g1,ln,none⟩ (.slice (some ⟨q,0,none⟩) (1+1) cap)) ⟨hI2.1.kept (grown_set _ _ _ _) (fun r e=>by cases e;omega),hI2.2.kept (grown_set _ _ _ _) (fun e=>by injection e with e;have:=HG1.out;omega)⟩ ⟨_,hput⟩
      clear hput hown hJ hI2 hlen
      go_simp
      exact hK _ _ ⟨t,by simp[e1,e3],hE⟩
     | nx+16,hix,_=>exact absurd (show nx+16<16 from hix) (by omega)
    rintro listed a2 W10 ⟨t,rfl,hR⟩ hl
    obtain⟨vl',hM10⟩:=hR.new (hl 15 (by decide))
    have hI10:=hR.fin
    clear hR hl
    generalize t 45=u45
    generalize t 46=u46
    generalize t 47=u47
    generalize t 48=u48
    generalize t 49=u49
    generalize t 50=u50
    generalize t 51=u51
    generalize t 52=u52
    generalize t 53=u53
    generalize t 54=u54
    generalize t 55=u55
    generalize t 56=u56
    generalize t 57=u57
    generalize t 58=u58
    generalize t 59=u59
    have HOB10:=Lib.hid hI10.1
    have HOUT10:=Lib.hid hI10.2
    have HM10:=Lib.hid hM10
    have hN:=HRP.out.1.2.1
    have hN0:=HRP.out.1.1
    have hwn:IntKind.i64.wrap (N+1)=N+1:=by rw[IntKind.wrap_i64];omega
    have m0:=(blk_cells HOUT10.out).1 0 _ rfl
    have m1:=(blk_cells HOUT10.out).1 1 _ rfl
    have m2:=(blk_cells HOUT10.out).2 0
    have hO10:=HOUT10.out.lt
    clear hM10 hI10
    go_upto_region 12 with fail
    have hOB11:=HOB10.out.kept (grown_set W10 O 0 (.int .i64 (N+1))) (fun r e=>by cases e;omega)
    have hM11:=HM10.out.setO HOUT10.out 0 (.int .i64 (N+1))
    have hOUT11:=blk_set (o:=0) (x:=.int .i64 (N+1)) HOUT10.out
    clear HOB10 HM10 HOUT10 m0 m1 m2 hO10
    generalize W10.setCell ⟨O,0,none⟩ (.int .i64 (N+1))=W11 at hOB11 hM11 hOUT11 ⊢
    have HOB10:=Lib.hid hOB11
    have HM10:=Lib.hid hM11
    have HOUT10:=Lib.hid hOUT11
    clear hOB11 hM11 hOUT11
    have hNL:((lpA fs fn ln).take p1 ++ [N] ++ (lpA fs fn ln).drop p1)=anL N (lpA fs fn ln) pn:=by rw[HP1.out];unfold anL;rw[if_pos (by have:=HN.out;omega)]
    rw[hNL] at HM10
    clear hNL
    have HFT:=Lib.hid (fit_own (N+1) HM10.out (anL_fine HRP.out fn ln pn))
    have m0:=(blk_cells HOUT10.out).1 0 _ rfl
    have m1:=(blk_cells HOUT10.out).1 1 _ rfl
    go_wp2_with fail
    ((with_reducible refine(HFT.out).mono ?_);rintro e W12 ⟨⟨bb,rfl,hbb⟩,hbl⟩)
    have HBB:=Lib.hid hbb
    have HOB12:=Lib.hid (HOB10.out.call hbl)
    have HM12:=Lib.hid (HM10.out.belowW hbl)
    clear HFT hbb hbl HOB10 HM10 HOUT10 m0 m1
    have r0:=(blk_cells HOB12.out.1.2.2).1 0 _ rfl
    have r1:=(blk_cells HOB12.out.1.2.2).1 1 _ rfl
    have r2:=(blk_cells HOB12.out.1.2.2).2 0
    have r3:=(blk_cells HOB12.out.1.2.2).2 1
    have HE:Hid (anE N fs fn ln pn=fitE (N+1) (setL fs fn ln (anL N (lpA fs fn ln) pn))):=anE_ok HRP.out HHP.out
    cases bb
    ·go_wp2
     obtain⟨hx,hxB⟩:=HOB12.out.ret (.int .i64 0) (.slice none 0 0)
     have e00:=(blk_cells hx).1 0 _ rfl
     have e01:=(blk_cells hx).1 1 _ rfl
     refine bodyPost_ret (v:=.tuple #[.agg #[.int .i64 0,.slice none 0 0],.int .i64 2]) (by simp[results,Try.f17,go_sem,e00,e01]) rfl ?_
     exact⟨opOut_fit (b:=false) HE.out (by simpa using HBB.out) (HM12.out.back (r:=w.heap.size+1+1) (by omega) (.int .i64 0) (.slice none 0 0)) rfl,hxB⟩
    ·go_wp2
     obtain⟨hx,hxB⟩:=HOB12.out.ret (.int .i64 (N+1)) (.slice (some ⟨g,0,none⟩) fs.length cV)
     have e00:=(blk_cells hx).1 0 _ rfl
     have e01:=(blk_cells hx).1 1 _ rfl
     refine bodyPost_ret (v:=.tuple #[.agg #[.int .i64 (N+1),.slice (some ⟨g,0,none⟩) fs.length cV],.int .i64 0]) (by simp[results,Try.f17,go_sem,e00,e01]) rfl ?_
     exact⟨opOut_fit (b:=true) HE.out (by simpa using HBB.out) (HM12.out.back (r:=w.heap.size+1+1) (by omega) (.int .i64 (N+1)) (.slice (some ⟨g,0,none⟩) fs.length cV)) rfl,hxB⟩
   ·have hn1z:((n:Int) == 1)=false:=beq_eq_false_iff_ne.2 (by omega)
    go_upto_region 10 with fail
    (try rw[hn1z])
    refine wp_region_inv' (by kernel_rfl) (by kernel_rfl) (fun listed aa wy=>∃t:Nat→Value,aa={ tmps:=#[.agg #[.int .i64 N,.slice A fs.length c],.agg #[.int .i64 fn,.int .i64 ln,.int .i64 pn],.pointer (some ⟨w.heap.size,0,none⟩),.pointer (some ⟨w.heap.size+1,0,none⟩),.pointer (some ⟨w.heap.size+1+1,0,none⟩),.int .i64 0,.pointer (some ⟨O,0,none⟩),.slice (some ⟨b,0,none⟩) n n,.slice (some ⟨m,0,none⟩) 2 2,.bool false,.agg #[.int .i64 N,.slice A fs.length c],.bool true,.bool false,undef,.bool false,.agg #[.int .i64 N,.slice A fs.length c],.agg #[.int .i64 fn,.int .i64 ln,.int .i64 pn],.bool true,.bool false,undef,.agg #[.int .i64 N,.slice A fs.length c],.agg #[.int .i64 N,.slice (some ⟨g,0,none⟩) fs.length cV],.pointer (some ⟨O,1,none⟩),.slice (some ⟨g,0,none⟩) fs.length cV,.pointer (some ⟨w.heap.size+1,0,none⟩),.int .i64 fn,.pointer (some ⟨g,fn,none⟩),.slice (some ⟨g1,0,none⟩) (fcA fs fn).length cF,.pointer (some ⟨w.heap.size+1,1,none⟩),.int .i64 ln,.pointer (some ⟨g1,ln,none⟩),.slice (some ⟨b,0,none⟩) n n,u32,u33,u34,u35,u36,u37,u38,u39,.slice (some ⟨b,0,none⟩) n n,.int .i64 n,.bool false,undef,undef,t 45,t 46,t 47,t 48,t 49,t 50,t 51,t 52,t 53,t 54,t 55,t 56,t 57,t 58,t 59,undef,undef,undef,undef,undef,undef,undef,undef],defers:=[] }∧IRE (fun wz=>MW B (.slice (some ⟨g,0,none⟩) fs.length cV) fs fs.length vf vl wz∧Blk wz m (.cells #[.int .i64 N,.int .i64 xp] 3)) 15 (fun _ wz=>∃vl',MW B (.slice (some ⟨g,0,none⟩) fs.length cV) (setL fs fn ln ((lpA fs fn ln).take p1 ++ [N,xp] ++ (lpA fs fn ln).drop p1)) (setL fs fn ln ((lpA fs fn ln).take p1 ++ [N,xp] ++ (lpA fs fn ln).drop p1)).length vf vl' wz) (fun wz=>Ob (.cells #[.int .i64 N,.slice A fs.length c] 30) (.cells #[.int .i64 fn,.int .i64 ln,.int .i64 pn] 45) w wz∧Blk wz O (.cells #[.int .i64 N,.slice (some ⟨g,0,none⟩) fs.length cV] 30)) (S10 2 O B n m g g1 fn ln pn p1 fs cV cF w ((lpA fs fn ln).take p1 ++ [N,xp] ++ (lpA fs fn ln).drop p1) b) [(0,45),(1,46),(2,47),(3,48),(4,49),(5,50),(6,51),(7,52),(8,53),(9,54),(10,55),(11,56),(12,57),(13,58),(14,59)] listed t wy) ⟨(fun d=>match d with | 45=>undef | 46=>undef | 47=>undef | 48=>undef | 49=>undef | 50=>undef | 51=>undef | 52=>undef | 53=>undef | 54=>undef | 55=>undef | 56=>undef | 57=>undef | 58=>undef | 59=>undef | _=>undef),rfl,IRE.start _ ⟨HOB8.out.kept (grown_drew W7) (fun r e=>by cases e),HOUT8.out.kept (grown_drew W7) (by simp)⟩ ⟨HM8.out.kept (grown_drew W7) (fun r e=>by cases e),HMC8.out.kept (grown_drew W7) (by simp)⟩ _⟩ ?_ ?_
    rotate_left
    ·rintro listed hCl ix hix aa wy ⟨t,rfl,hR⟩ hr
     match ix,hix,hr with
     | 0,_,hr=>
      as_aux_lemma=>
      refine wpOp_step rfl (fun K' hK=>?_)
      go_simp
      exact hK _ _ ⟨upd t 45 (.pointer (some ⟨O,1,none⟩)),rfl,hR.yields hCl hr (by decide) (by kernel_rfl) hR.fin (fun h=>h) (fun _ _ h=>h) rfl rfl⟩
     | 1,_,hr=>
      as_aux_lemma=>
      refine wpOp_step rfl (fun K' hK=>?_)
      have e1:t 45=.pointer (some ⟨O,1,none⟩):=hR.val hCl hr (by kernel_rfl) (0,45) (by simp) (dep_of hr 0 (by kernel_rfl))
      have f0:=(blk_cells hR.fin.2).1 1 _ rfl
      go_simp
      exact hK _ _ ⟨upd t 46 (.slice (some ⟨g,0,none⟩) fs.length cV),by simp[upd,e1],hR.yields hCl hr (by decide) (by kernel_rfl) hR.fin (fun h=>h) (fun _ _ h=>h) rfl rfl⟩
     | 2,_,hr=>
      as_aux_lemma=>
      refine wpOp_step rfl (fun K' hK=>?_)
      go_simp
      exact hK _ _ ⟨upd t 47 (.pointer (some ⟨w.heap.size+1,0,none⟩)),rfl,hR.yields hCl hr (by decide) (by kernel_rfl) hR.fin (fun h=>h) (fun _ _ h=>h) rfl rfl⟩
     | 3,_,hr=>
      as_aux_lemma=>
      refine wpOp_step rfl (fun K' hK=>?_)
      have e1:t 47=.pointer (some ⟨w.heap.size+1,0,none⟩):=hR.val hCl hr (by kernel_rfl) (2,47) (by simp) (dep_of hr 2 (by kernel_rfl))
      have f0:=(blk_cells hR.fin.1.1.2.1).1 0 _ rfl
      go_simp
      exact hK _ _ ⟨upd t 48 (.int .i64 fn),by simp[upd,e1],hR.yields hCl hr (by decide) (by kernel_rfl) hR.fin (fun h=>h) (fun _ _ h=>h) rfl rfl⟩
     | 4,_,hr=>
      as_aux_lemma=>
      refine wpOp_step rfl (fun K' hK=>?_)
      have e1:t 46=.slice (some ⟨g,0,none⟩) fs.length cV:=hR.val hCl hr (by kernel_rfl) (1,46) (by simp) (dep_of hr 1 (by kernel_rfl))
      have e2:t 48=.int .i64 fn:=hR.val hCl hr (by kernel_rfl) (3,48) (by simp) (dep_of hr 3 (by kernel_rfl))
      go_simp
      exact hK _ _ ⟨upd t 49 (.pointer (some ⟨g,fn,none⟩)),by simp[upd,e1,e2],hR.yields hCl hr (by decide) (by kernel_rfl) hR.fin (fun h=>h) (fun _ _ h=>h) rfl rfl⟩
     | 5,_,hr=>
      as_aux_lemma=>
      refine wpOp_step rfl (fun K' hK=>?_)
      have e1:t 49=.pointer (some ⟨g,fn,none⟩):=hR.val hCl hr (by kernel_rfl) (4,49) (by simp) (dep_of hr 4 (by kernel_rfl))
      have f0:=HCF.out _ (hR.bef hCl hr (by kernel_rfl)).1
      go_simp
      exact hK _ _ ⟨upd t 50 (.slice (some ⟨g1,0,none⟩) (fcA fs fn).length cF),by simp[upd,e1],hR.yields hCl hr (by decide) (by kernel_rfl) hR.fin (fun h=>h) (fun _ _ h=>h) rfl rfl⟩
     | 6,_,hr=>
      as_aux_lemma=>
      refine wpOp_step rfl (fun K' hK=>?_)
      go_simp
      exact hK _ _ ⟨upd t 51 (.pointer (some ⟨w.heap.size+1,1,none⟩)),rfl,hR.yields hCl hr (by decide) (by kernel_rfl) hR.fin (fun h=>h) (fun _ _ h=>h) rfl rfl⟩
     | 7,_,hr=>
      as_aux_lemma=>
      refine wpOp_step rfl (fun K' hK=>?_)
      have e1:t 51=.pointer (some ⟨w.heap.size+1,1,none⟩):=hR.val hCl hr (by kernel_rfl) (6,51) (by simp) (dep_of hr 6 (by kernel_rfl))
      have f0:=(blk_cells hR.fin.1.1.2.1).1 1 _ rfl
      go_simp
      exact hK _ _ ⟨upd t 52 (.int .i64 ln),by simp[upd,e1],hR.yields hCl hr (by decide) (by kernel_rfl) hR.fin (fun h=>h) (fun _ _ h=>h) rfl rfl⟩
     | 8,_,hr=>
      as_aux_lemma=>
      refine wpOp_step rfl (fun K' hK=>?_)
      go_simp
      exact hK _ _ ⟨upd t 53 (.slice (some ⟨b,0,none⟩) n n),rfl,hR.yields hCl hr (by decide) (by kernel_rfl) hR.fin (fun h=>h) (fun _ _ h=>h) rfl rfl⟩
     | 9,_,hr=>
      as_aux_lemma=>
      refine wpOp_step rfl (fun K' hK=>?_)
      go_simp
      exact hK _ _ ⟨upd t 54 (.pointer (some ⟨w.heap.size+1,2,none⟩)),rfl,hR.yields hCl hr (by decide) (by kernel_rfl) hR.fin (fun h=>h) (fun _ _ h=>h) rfl rfl⟩
     | 10,_,hr=>
      as_aux_lemma=>
      refine wpOp_step rfl (fun K' hK=>?_)
      have e1:t 54=.pointer (some ⟨w.heap.size+1,2,none⟩):=hR.val hCl hr (by kernel_rfl) (9,54) (by simp) (dep_of hr 9 (by kernel_rfl))
      have f0:=(blk_cells hR.fin.1.1.2.1).1 2 _ rfl
      go_simp
      exact hK _ _ ⟨upd t 55 (.int .i64 pn),by simp[upd,e1],hR.yields hCl hr (by decide) (by kernel_rfl) hR.fin (fun h=>h) (fun _ _ h=>h) rfl rfl⟩
     | 11,_,hr=>
      as_aux_lemma=>
      refine wpOp_step rfl (fun K' hK=>?_)
      have e1:t 55=.int .i64 pn:=hR.val hCl hr (by kernel_rfl) (10,55) (by simp) (dep_of hr 10 (by kernel_rfl))
      go_simp
      exact hK _ _ ⟨upd t 56 (.int .i64 p1),by simp[upd,e1],hR.yields hCl hr (by decide) (by kernel_rfl) hR.fin (fun h=>h) (fun _ _ h=>h) rfl rfl⟩
     | 12,_,hr=>
      as_aux_lemma=>
      refine wpOp_step rfl (fun K' hK=>?_)
      go_simp
      exact hK _ _ ⟨upd t 57 (.slice (some ⟨m,0,none⟩) 2 2),rfl,hR.yields hCl hr (by decide) (by kernel_rfl) hR.fin (fun h=>h) (fun _ _ h=>h) rfl rfl⟩
     | 13,_,hr=>
      as_aux_lemma=>
      refine wpOp_step rfl (fun K' hK=>?_)
      have e1:t 53=.slice (some ⟨b,0,none⟩) n n:=hR.val hCl hr (by kernel_rfl) (8,53) (by simp) (dep_of hr 8 (by kernel_rfl))
      have e2:t 56=.int .i64 p1:=hR.val hCl hr (by kernel_rfl) (11,56) (by simp) (dep_of hr 11 (by kernel_rfl))
      have e3:t 57=.slice (some ⟨m,0,none⟩) 2 2:=hR.val hCl hr (by kernel_rfl) (12,57) (by simp) (dep_of hr 12 (by kernel_rfl))
      have hI2:=hR.fin
      have hJ:=hR.bef hCl hr (by kernel_rfl)
      go_simp
      refine(insert_any b n p1 2 m 2 (lpA fs fn ln) [N,xp] wy HN.out rfl (by decide) hp1n (by omega) (HXC.out _ hJ.1) (fun j u hj=>(blk_cells hJ.2).1 j u (by simpa [intsV] using hj))).mono ?_
      rintro e W' ⟨⟨cap,rfl,hown⟩,hbl⟩
      have hg:=grown_of_below hbl none
      have hBw:B≤wy.heap.size:=Nat.le_trans hBW (Nat.le_of_lt hI2.2.lt)
      exact hK _ _ ⟨upd t 58 (.slice (some ⟨wy.heap.size,0,none⟩) (n+2) cap),by simp[upd,e1,e2,e3],hR.yields hCl hr (by decide) (by kernel_rfl) ⟨hI2.1.kept hg (fun r e=>by cases e),hI2.2.kept hg (by simp)⟩ (fun h=>⟨h.1.kept hg (fun r e=>by cases e),h.2.kept hg (by simp)⟩) (S10.grown hg) ⟨_,cap,rfl,own_weaken hown hBw⟩ rfl⟩
     | 14,_,hr=>
      as_aux_lemma=>
      refine wpOp_step rfl (fun K' hK=>?_)
      have e1:t 50=.slice (some ⟨g1,0,none⟩) (fcA fs fn).length cF:=hR.val hCl hr (by kernel_rfl) (5,50) (by simp) (dep_of hr 5 (by kernel_rfl))
      have e2:t 52=.int .i64 ln:=hR.val hCl hr (by kernel_rfl) (7,52) (by simp) (dep_of hr 7 (by kernel_rfl))
      go_simp
      exact hK _ _ ⟨upd t 59 (.pointer (some ⟨g1,ln,none⟩)),by simp[upd,e1,e2],hR.yields hCl hr (by decide) (by kernel_rfl) hR.fin (fun h=>h) (fun _ _ h=>h) rfl rfl⟩
     | 15,_,hr=>
      as_aux_lemma=>
      refine wpOp_step rfl (fun K' hK=>?_)
      have e1:t 59=.pointer (some ⟨g1,ln,none⟩):=(hR.atEnd hr).2 (14,59) (by simp) (dep_of hr 14 (by kernel_rfl))
      obtain⟨q,cap,e3,hown⟩:∃q cap,t 58=(.slice (some ⟨q,0,none⟩) (n+2) cap)∧wy.ownsRow B 3 1 (.slice (some ⟨q,0,none⟩) (n+2) cap) (n+2) (intsV ((lpA fs fn ln).take p1 ++ [N,xp] ++ (lpA fs fn ln).drop p1)):=(hR.atEnd hr).2 (13,58) (by simp) (dep_of hr 13 (by kernel_rfl))
      have hI2:=hR.fin
      have hJ:=(hR.atEnd hr).1
      obtain⟨c0,c1⟩:=HC1.out _ hJ.1
      have hlen:(((lpA fs fn ln).take p1 ++ [N,xp] ++ (lpA fs fn ln).drop p1)).length=n+2:=by have h1:=hp1n;have h0:=HN.out;simp;omega
      have hput:=hJ.1.put hfn hln (x:=((lpA fs fn ln).take p1 ++ [N,xp] ++ (lpA fs fn ln).drop p1)) (by rw[hlen];exact hown) HVF.out
      have hE:=hR.ends hr (W1:=wy.setCell ⟨g1,ln,none⟩ (.slice (some ⟨q,0,none⟩) (n+2) cap)) ⟨hI2.1.kept (grown_set _ _ _ _) (fun r e=>by cases e;omega),hI2.2.kept (grown_set _ _ _ _) (fun e=>by injection e with e;have:=HG1.out;omega)⟩ ⟨_,hput⟩
      clear hput hown hJ hI2 hlen
      go_simp
      exact hK _ _ ⟨t,by simp[e1,e3],hE⟩
     | nx+16,hix,_=>exact absurd (show nx+16<16 from hix) (by omega)
    rintro listed a2 W10 ⟨t,rfl,hR⟩ hl
    obtain⟨vl',hM10⟩:=hR.new (hl 15 (by decide))
    have hI10:=hR.fin
    clear hR hl
    generalize t 45=u45
    generalize t 46=u46
    generalize t 47=u47
    generalize t 48=u48
    generalize t 49=u49
    generalize t 50=u50
    generalize t 51=u51
    generalize t 52=u52
    generalize t 53=u53
    generalize t 54=u54
    generalize t 55=u55
    generalize t 56=u56
    generalize t 57=u57
    generalize t 58=u58
    generalize t 59=u59
    have HOB10:=Lib.hid hI10.1
    have HOUT10:=Lib.hid hI10.2
    have HM10:=Lib.hid hM10
    have hN:=HRP.out.1.2.1
    have hN0:=HRP.out.1.1
    have hwn:IntKind.i64.wrap (N+1)=N+1:=by rw[IntKind.wrap_i64];omega
    have m0:=(blk_cells HOUT10.out).1 0 _ rfl
    have m1:=(blk_cells HOUT10.out).1 1 _ rfl
    have m2:=(blk_cells HOUT10.out).2 0
    have hO10:=HOUT10.out.lt
    clear hM10 hI10
    go_upto_region 12 with fail
    have hOB11:=HOB10.out.kept (grown_set W10 O 0 (.int .i64 (N+1))) (fun r e=>by cases e;omega)
    have hM11:=HM10.out.setO HOUT10.out 0 (.int .i64 (N+1))
    have hOUT11:=blk_set (o:=0) (x:=.int .i64 (N+1)) HOUT10.out
    clear HOB10 HM10 HOUT10 m0 m1 m2 hO10
    generalize W10.setCell ⟨O,0,none⟩ (.int .i64 (N+1))=W11 at hOB11 hM11 hOUT11 ⊢
    have HOB10:=Lib.hid hOB11
    have HM10:=Lib.hid hM11
    have HOUT10:=Lib.hid hOUT11
    clear hOB11 hM11 hOUT11
    have hNL:((lpA fs fn ln).take p1 ++ [N,xp] ++ (lpA fs fn ln).drop p1)=anL N (lpA fs fn ln) pn:=by rw[HP1.out,HXPE.out];unfold anL;rw[if_neg (by have:=HN.out;omega)]
    rw[hNL] at HM10
    clear hNL
    have HFT:=Lib.hid (fit_own (N+1) HM10.out (anL_fine HRP.out fn ln pn))
    have m0:=(blk_cells HOUT10.out).1 0 _ rfl
    have m1:=(blk_cells HOUT10.out).1 1 _ rfl
    go_wp2_with fail
    ((with_reducible refine(HFT.out).mono ?_);rintro e W12 ⟨⟨bb,rfl,hbb⟩,hbl⟩)
    have HBB:=Lib.hid hbb
    have HOB12:=Lib.hid (HOB10.out.call hbl)
    have HM12:=Lib.hid (HM10.out.belowW hbl)
    clear HFT hbb hbl HOB10 HM10 HOUT10 m0 m1
    have r0:=(blk_cells HOB12.out.1.2.2).1 0 _ rfl
    have r1:=(blk_cells HOB12.out.1.2.2).1 1 _ rfl
    have r2:=(blk_cells HOB12.out.1.2.2).2 0
    have r3:=(blk_cells HOB12.out.1.2.2).2 1
    have HE:Hid (anE N fs fn ln pn=fitE (N+1) (setL fs fn ln (anL N (lpA fs fn ln) pn))):=anE_ok HRP.out HHP.out
    cases bb
    ·go_wp2
     obtain⟨hx,hxB⟩:=HOB12.out.ret (.int .i64 0) (.slice none 0 0)
     have e00:=(blk_cells hx).1 0 _ rfl
     have e01:=(blk_cells hx).1 1 _ rfl
     refine bodyPost_ret (v:=.tuple #[.agg #[.int .i64 0,.slice none 0 0],.int .i64 2]) (by simp[results,Try.f17,go_sem,e00,e01]) rfl ?_
     exact⟨opOut_fit (b:=false) HE.out (by simpa using HBB.out) (HM12.out.back (r:=w.heap.size+1+1) (by omega) (.int .i64 0) (.slice none 0 0)) rfl,hxB⟩
    ·go_wp2
     obtain⟨hx,hxB⟩:=HOB12.out.ret (.int .i64 (N+1)) (.slice (some ⟨g,0,none⟩) fs.length cV)
     have e00:=(blk_cells hx).1 0 _ rfl
     have e01:=(blk_cells hx).1 1 _ rfl
     refine bodyPost_ret (v:=.tuple #[.agg #[.int .i64 (N+1),.slice (some ⟨g,0,none⟩) fs.length cV],.int .i64 0]) (by simp[results,Try.f17,go_sem,e00,e01]) rfl ?_
     exact⟨opOut_fit (b:=true) HE.out (by simpa using HBB.out) (HM12.out.back (r:=w.heap.size+1+1) (by omega) (.int .i64 (N+1)) (.slice (some ⟨g,0,none⟩) fs.length cV)) rfl,hxB⟩
end Go.Proofs.Ytealnhaffphamaa
