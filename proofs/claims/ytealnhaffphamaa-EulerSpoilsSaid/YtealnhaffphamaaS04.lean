/- Contracts of the functions that the statement reaches, and plain lemmas: part 4 of 31. -/
import Derived.Test.YtealnhaffphamaaS03
import Derived.WalkMore
set_option linter.unusedVariables false
set_option linter.unusedSimpArgs false

namespace Go.Proofs.Ytealnhaffphamaa
open Go.RowKit Go.Shelf Go.Proofs.YtealnhaffphamaaW.PrintWords
attribute [local go_sem] Oper.semAt_some
theorem info45:(Try.prog.info? 45).map (fun i=>(i.zero,i.size,i.bytes))=some (some (.agg #[.int .i64 0,.int .i64 0,.int .i64 0]),3,24):=by kernel_rfl
theorem info103:(Try.prog.info? 103).map (fun i=>(i.zero,i.size,i.bytes))=some (some (.slice none 0 0),1,24):=by kernel_rfl
def RB (N:Int) (A:Option Addr) (fs:Fs) (c:Nat) (w:World) (W:World):Prop:=(Blk W w.heap.size (.cells #[.int .i64 N,.slice A fs.length c] 30)∧Boxed W (w.heap.size+1) 4 (.bool false))∧Below w.heap.size w W
theorem RB.kept {N:Int} {A:Option Addr} {fs:Fs} {c:Nat} {w W W':World} {row:Option Nat} (h:RB N A fs c w W) (hg:W.grownBy W' row) (hr:∀k,row=some k→w.heap.size+1<k):RB N A fs c w W':=
 ⟨⟨h.1.1.kept hg (fun e=>by have:=hr _ e.symm;omega),h.1.2.kept hg (fun e=>by have:=hr _ e.symm;omega)⟩,h.2.grown hg h.2.size (fun k e=>by have:=hr _ e;omega)⟩
theorem RB.call {N:Int} {A:Option Addr} {fs:Fs} {c:Nat} {w W W':World} (h:RB N A fs c w W) (hb:Below W.heap.size W W'):RB N A fs c w W':=h.kept (row:=none) (grown_of_below hb none) (fun k e=>by cases e)
theorem RB.facts {N:Int} {A:Option Addr} {fs:Fs} {c:Nat} {w W:World} (h:RB N A fs c w W):(W.cell? ⟨w.heap.size,0,none⟩=some (.int .i64 N)∧W.cell? ⟨w.heap.size,1,none⟩=some (.slice A fs.length c))∧(W.cell? ⟨w.heap.size+1,0,none⟩=some (.bool false)∧W.frozen? ⟨w.heap.size+1,0,none⟩=false)∧w.heap.size+1<W.heap.size:=
 ⟨⟨(blk_cells h.1.1).1 0 _ rfl,(blk_cells h.1.1).1 1 _ rfl⟩,⟨h.1.2.cell,h.1.2.frozen⟩,h.1.2.lt⟩
theorem AtW.turned {ga base N:Nat} {rows:Nat→List PV} {vs:Nat→Value} {W W':World} {row:Option Nat} (h:AtW ga base N rows vs N W) (hg:W.grownBy W' row) (hr:∀r,row=some r→base≤r∧∃o:Obj,W.heap[r]?=some o∧o.isCells=false):AtW ga base N rows vs N W':=
 h.kept hg (fun k e=>⟨by have:=(hr k e).1;have:=h.low;omega,fun i hi _ ho=>by
  obtain⟨_,o,h1,h2⟩:=hr k e
  obtain⟨cells,hc⟩:=own_typed (h.own i hi (by omega)) k ho
  rw[hc] at h1
  cases h1;cases h2⟩)
def RG (N:Int) (A:Option Addr) (fs:Fs) (c:Nat) (w:World) (G base M:Nat) (pre:List PV) (W:World):Prop:=RB N A fs c w W∧Boxed W (G+1) 111 (.slice (some ⟨G,0,none⟩) M M)∧∃vs,AtW G base M (rowsA pre) vs M W
theorem RG.turned {N:Int} {A:Option Addr} {fs:Fs} {c:Nat} {w:World} {G base M:Nat} {pre:List PV} {W W':World} {row:Option Nat} (h:RG N A fs c w G base M pre W) (hb:w.heap.size+1<base∧G+1<base) (hg:W.grownBy W' row) (hr:∀r,row=some r→base≤r∧∃o:Obj,W.heap[r]?=some o∧o.isCells=false):RG N A fs c w G base M pre W':=by
 obtain⟨h1,h2,vs,h3⟩:=h
 exact⟨h1.kept hg (fun k e=>by have:=(hr k e).1;omega),h2.kept hg (fun e=>by have:=(hr _ e.symm).1;omega),vs,h3.turned hg hr⟩
theorem RG.grown {N:Int} {A:Option Addr} {fs:Fs} {c:Nat} {w:World} {G base M:Nat} {pre:List PV} {W W':World} (h:RG N A fs c w G base M pre W) (hg:W.grownBy W' none):RG N A fs c w G base M pre W':=by
 obtain⟨h1,h2,vs,h3⟩:=h
 exact⟨h1.kept hg (fun k e=>by cases e),h2.kept hg (by simp),vs,h3.grown hg⟩
def S9 (G base M:Nat) (rows:Nat→List PV) (vs:Nat→Value) (B5 n0:Nat) (x:PV) (xn:Nat) (d:Nat) (W:World) (v:Value):Prop:=match d with
 | 36=>v=.slice (some ⟨G,0,none⟩) M M
 | 37=>v=.pointer (some ⟨B5,0,none⟩)
 | 38=>v=.int .i64 xn
 | 39=>v=.slice (some ⟨G,0,none⟩) M M
 | 40=>v=.pointer (some ⟨B5,0,none⟩)
 | 41=>v=.int .i64 xn
 | 42=>v=.pointer (some ⟨G,xn,none⟩)
 | 43=>v=vs xn
 | 44=>v=.agg #[.int .i64 x.f,.int .i64 x.l,.int .i64 x.i]
 | 45=>∃b,v=.slice (some ⟨b,0,none⟩) 1 1∧n0≤b∧Blk W b (.cells #[.int .i64 x.f,.int .i64 x.l,.int .i64 x.i] 45)
 | 46=>∃g cap,v=.slice (some ⟨g,0,none⟩) ((rows xn).length+1) cap∧W.ownsRow base 45 3 v ((rows xn).length+1) (flatP (rows xn ++ [x]))∧AtW G base M rows vs xn W∧∀i,i<M→i≠xn→(vs i).ownBlock=none∨(vs i).ownBlock≠v.ownBlock
 | 47=>v=.pointer (some ⟨G,xn,none⟩)
 | _=>True
theorem S9.grown {G base M:Nat} {rows:Nat→List PV} {vs:Nat→Value} {B5 n0:Nat} {x:PV} {xn:Nat} {W W1:World} (hg:W.grownBy W1 none):∀d v,S9 G base M rows vs B5 n0 x xn d W v→S9 G base M rows vs B5 n0 x xn d W1 v:=by
 intro d v h
 unfold S9 at h ⊢
 split at h
 all_goals first
  | exact h
  | (obtain⟨b,h1,h2,h3⟩:=h;exact⟨b,h1,h2,h3.kept hg (by simp)⟩)
  | (obtain⟨g,cap,h1,h2,h3,h4⟩:=h;exact⟨g,cap,h1,h2.kept hg (by rw[h1];simp[Value.ownBlock]),h3.grown hg,h4⟩)
theorem S9.turned {G base M:Nat} {rows:Nat→List PV} {vs:Nat→Value} {B5 n0:Nat} {x:PV} {xn:Nat} {W W1:World} {row:Option Nat} (hg:W.grownBy W1 row) (hr:∀k,row=some k→k<n0):∀d v,d≠46→S9 G base M rows vs B5 n0 x xn d W v→S9 G base M rows vs B5 n0 x xn d W1 v:=by
 intro d v hd h
 unfold S9 at h ⊢
 split at h
 all_goals first
  | exact h
  | (obtain⟨b,h1,h2,h3⟩:=h;exact⟨b,h1,h2,h3.kept hg (fun e=>by have:=hr b e.symm;omega)⟩)
  | exact absurd rfl hd
def RN (N:Int) (A:Option Addr) (fs:Fs) (c:Nat) (w:World) (G base M:Nat) (ds:List PV) (k Dd:Nat) (vs:Nat→Value) (W:World):Prop:=RB N A fs c w W∧Boxed W (G+1) 111 (.slice (some ⟨G,0,none⟩) M M)∧AtW G base M (rowsA (plsA fs)) vs M W∧EM W k ds∧W.heap[Dd]?=some (.deferred (some []))
section
variable {N:Int} {A:Option Addr} {fs:Fs} {c:Nat} {w:World} {G base M:Nat} {ds:List PV} {k Dd:Nat} {vs:Nat→Value} {W W':World}
theorem RN.kept {row:Option Nat} (h:RN N A fs c w G base M ds k Dd vs W) (hg:W.grownBy W' row) (hr:∀r,row=some r→w.heap.size+1<r∧r≠G∧r≠G+1∧r≠k∧r≠Dd∧∀i,i<M→(vs i).ownBlock≠some r):RN N A fs c w G base M ds k Dd vs W':=
 ⟨h.1.kept hg (fun r e=>(hr r e).1),h.2.1.kept hg (fun e=>(hr _ e.symm).2.2.1 rfl),h.2.2.1.kept hg (fun r e=>⟨(hr r e).2.1,fun i hi _=>(hr r e).2.2.2.2.2 i hi⟩),h.2.2.2.1.kept hg (fun e=>(hr _ e.symm).2.2.2.1 rfl),(hg.block Dd (Array.getElem?_eq_some_iff.1 h.2.2.2.2).1 (fun e=>(hr _ e.symm).2.2.2.2.1 rfl)).trans h.2.2.2.2⟩
theorem RN.grown (h:RN N A fs c w G base M ds k Dd vs W) (hg:W.grownBy W' none):RN N A fs c w G base M ds k Dd vs W':=h.kept hg (fun r e=>by cases e)
theorem RN.ret (h:RN N A fs c w G base M ds k Dd vs W) (hd:w.heap.size+1<Dd) (b:Bool):Boxed (W.setCell ⟨w.heap.size+1,0,none⟩ (.bool b)) (w.heap.size+1) 4 (.bool b)∧(W.setCell ⟨w.heap.size+1,0,none⟩ (.bool b)).heap[Dd]?=some (.deferred (some []))∧Below w.heap.size w (W.setCell ⟨w.heap.size+1,0,none⟩ (.bool b)):=
 ⟨h.1.1.2.set _,by rw[Below.heap_setCell _ _ _ _ (by show Dd≠w.heap.size+1;omega)];exact h.2.2.2.2,h.1.2.setCell (p:=⟨_,0,none⟩) (by show w.heap.size≤w.heap.size+1;omega) _⟩
end
theorem blk_set3 {W:World} {b:Nat} {x y z u v q:Value} {t:TypeId} (h:Blk W b (.cells #[x,y,z] t)):Blk (((W.setCell ⟨b,0,none⟩ u).setCell ⟨b,1,none⟩ v).setCell ⟨b,2,none⟩ q) b (.cells #[u,v,q] t)∧W.grownBy (((W.setCell ⟨b,0,none⟩ u).setCell ⟨b,1,none⟩ v).setCell ⟨b,2,none⟩ q) (some b):=by
 have hs:∀(W:World) (o:Nat) (u:Value),W.grownBy (W.setCell ⟨b,o,none⟩ u) (some b):=fun W o u=>⟨rfl,rfl,rfl,(KeepsWalks.setCell W _ _).size,fun k _ hk=>Below.heap_setCell _ _ _ k (fun e=>hk (by rw[e]))⟩
 exact⟨blk_set (blk_set (blk_set h)),((hs W 0 u).trans (hs _ 1 v)).trans (hs _ 2 q)⟩
theorem node_cons {fs:Fs} {ds:List PV} {x:PV} {rest:List PV}:NodeOk fs ds (x :: rest)↔(((lpA fs x.f x.l).length=1→rest=[])∧((lpA fs x.f x.l).length≠1→iterP fs ds (pl3 x) (x :: rest).length=pl3 x∧∀j,0<j→j<(x :: rest).length→iterP fs ds (pl3 x) j≠pl3 x)):=
 ⟨fun⟨y,r,e,h⟩=>by cases e;exact h,fun h=>⟨x,rest,rfl,h⟩⟩
def S25 (k B pi n pa q:Nat) (ad2:Addr) (c2:Nat) (xa xv:Int) (y:PV) (d:Nat) (W:World) (v:Value):Prop:=match d with | 14=>∃b,v=.pointer (some ⟨b,0,none⟩)∧B+1<b∧Blk W b (.cells #[.int .i64 0,.int .i64 0,.int .i64 0] 45) | 86=>v=.map (some k) | 87=>v=.slice (some ad2) n c2 | 88=>v=.pointer (some ⟨B+1,2,none⟩) | 89=>v=.int .i64 pi | 90=>v=.int .i64 q | 91=>v=.slice (some ad2) n c2 | 92=>v=.int .i64 n | 93=>v=.int .i64 pa | 94=>v=.pointer (some (ad2.add pa)) | 95=>v=.int .i64 xa | 96=>v=.slice (some ad2) n c2 | 97=>v=.pointer (some ⟨B+1,2,none⟩) | 98=>v=.int .i64 pi | 99=>v=.pointer (some (ad2.add pi)) | 100=>v=.int .i64 xv | 101=>v=.agg #[.int .i64 xa,.int .i64 xv] | 102=>v=.agg #[.int .i64 y.f,.int .i64 y.l,.int .i64 y.i] | _=>True
theorem S25.grown {k B pi n pa q:Nat} {ad2:Addr} {c2:Nat} {xa xv:Int} {y:PV} {W W1:World} (hg:W.grownBy W1 none):∀d v,S25 k B pi n pa q ad2 c2 xa xv y d W v→S25 k B pi n pa q ad2 c2 xa xv y d W1 v:=by
 intro d v h
 unfold S25 at h ⊢
 split at h
 all_goals first | exact h | (obtain⟨b,h1,h2,h3⟩:=h;exact⟨b,h1,h2,h3.kept hg (by simp)⟩)
set_option maxRecDepth 100000 in
set_option maxHeartbeats 4000000 in
theorem right_any (N:Int) (A:Option Addr) (c:Nat) (fs:Fs) (w:World) (hF:RF w A fs) (hSm:Sm fs) (hI:NI fs) (hcap:(plsA fs).length≤100000) :
  Calls Try.prog 42 #[.agg #[.int .i64 N,.slice A fs.length c]] w fun e w'=>(∃b,e=.returned (.bool b)∧(b=true↔RightP N fs))∧Below w.heap.size w w':=by
 have HF:=Lib.hid hF
 have HS:=Lib.hid hSm
 have HI:=Lib.hid hI
 have hN:=hSm.1
 have HCAP:=Lib.hid hcap
 clear hF hSm hI hcap
 refine(callsIn_wide (n:=9)).1 ?_
 refine callsIn_of_wp_marks Try.func42 rfl trivial ?_ rfl
 simp only[Try.ntmps42,List.size_toArray,List.length_cons,List.length_nil,Nat.reduceAdd,Nat.reduceSub,Array.replicate_succ,Array.replicate_zero,List.push_toArray,List.append_toArray,List.nil_append,List.cons_append]
 refine wpIn_wide.2 ?_
 go_wp2
 have hB:RB N A fs c w ((w.alloc (.cells #[.int .i64 N,.slice A fs.length c] 30)).alloc (.cells #[.bool false] 4)):=
  ⟨⟨(blk_new w _).alloc,by have h:=Boxed.new (w.alloc (.cells #[.int .i64 N,.slice A fs.length c] 30)) 4 (.bool false);simpa using h⟩,((Below.refl _ w).alloc (Nat.le_refl _) _).alloc (by simp) _⟩
 generalize (w.alloc (.cells #[.int .i64 N,.slice A fs.length c] 30)).alloc (.cells #[.bool false] 4)=W1 at hB ⊢
 go_step3
 obtain⟨⟨m0,m1⟩,-⟩:=hB.facts
 have HB:=Lib.hid hB
 have HW:=Lib.hid (whole_any N A c fs W1 (HF.out.below hB.2) HS.out)
 clear hB
 go_wp2_with fail
 ((with_reducible refine(HW.out).mono ?_);rintro e W2 ⟨⟨b,rfl,hb⟩,hbl⟩)
 have HB2:=Lib.hid (HB.out.call hbl)
 have Hb:=Lib.hid hb
 clear HB HW hbl m0 m1 hb
 obtain⟨⟨m0,m1⟩,⟨k0,k1⟩,k2⟩:=HB2.out.facts
 have k2a:w.heap.size<W2.heap.size:=by omega
 have k2b:w.heap.size<W2.heap.size+1:=by omega
 cases b
 ·go_wp2
  rw[Exit.noGoto_ret]
  have hx:(W2.setCell ⟨w.heap.size+1,0,none⟩ (.bool false)).cell? ⟨w.heap.size+1,0,none⟩=some (.bool false):=(HB2.out.1.2.set _).cell
  refine⟨.bool false,?_,⟨false,rfl,by simp,fun h=>by simpa using Hb.out.2 h.1⟩,HB2.out.2.setCell (p:=⟨_,0,none⟩) (by show w.heap.size≤w.heap.size+1;omega) _⟩
  simp[results,Try.f42,go_sem,hx]
 ·have HWh:=Lib.hid (Hb.out.1 rfl)
  clear Hb
  obtain⟨M,hM⟩:∃M:Nat,N=M:=⟨N.toNat,by have:=HWh.out.1;omega⟩
  subst hM
  have hM1:1≤M:=by have:=HWh.out.1;omega
  have hM2:M≤200:=by have:=HWh.out.2.1;omega
  have hmk:=run_make_row' (P:=Try.prog) 111 103 (.slice none 0 0) 24 Try.underlying111 info103 rfl .i64 .i64 M (by omega) (by omega)
  go_wp2_with fail
  obtain⟨G,hG⟩:∃G,W2.heap.size=G:=⟨_,rfl⟩
  rw[hG] at k2 k2a k2b ⊢
  have hr1:W2.grownBy (W2.alloc (.cells (madeCells #[.slice none 0 0] M) 103)) none:=World.grownBy_alloc _ _ _
  have hr2:(W2.alloc (.cells (madeCells #[.slice none 0 0] M) 103)).grownBy ((W2.alloc (.cells (madeCells #[.slice none 0 0] M) 103)).alloc (.cells #[.slice (some ⟨G,0,none⟩) M M] 111)) none:=World.grownBy_alloc _ _ _
  have hr3:((W2.alloc (.cells (madeCells #[.slice none 0 0] M) 103)).alloc (.cells #[.slice (some ⟨G,0,none⟩) M M] 111)).grownBy (((W2.alloc (.cells (madeCells #[.slice none 0 0] M) 103)).alloc (.cells #[.slice (some ⟨G,0,none⟩) M M] 111)).alloc (.cells #[.int .i64 M,.slice A fs.length c] 30)) none:=World.grownBy_alloc _ _ _
  have hRB:RB M A fs c w (((W2.alloc (.cells (madeCells #[.slice none 0 0] M) 103)).alloc (.cells #[.slice (some ⟨G,0,none⟩) M M] 111)).alloc (.cells #[.int .i64 M,.slice A fs.length c] 30)):=((HB2.out.kept hr1 (fun k e=>by cases e)).kept hr2 (fun k e=>by cases e)).kept hr3 (fun k e=>by cases e)
  have hbx:Boxed (((W2.alloc (.cells (madeCells #[.slice none 0 0] M) 103)).alloc (.cells #[.slice (some ⟨G,0,none⟩) M M] 111)).alloc (.cells #[.int .i64 M,.slice A fs.length c] 30)) (G+1) 111 (.slice (some ⟨G,0,none⟩) M M):=by
   have h:=Boxed.new (W2.alloc (.cells (madeCells #[.slice none 0 0] M) 103)) 111 (.slice (some ⟨G,0,none⟩) M M)
   rw[World.size_alloc,hG] at h
   exact h.alloc _
  have hrow:(((W2.alloc (.cells (madeCells #[.slice none 0 0] M) 103)).alloc (.cells #[.slice (some ⟨G,0,none⟩) M M] 111)).alloc (.cells #[.int .i64 M,.slice A fs.length c] 30)).rowIs G 103 M (fun _=>.slice none 0 0):=by
   have h:=World.rowIs_made W2 (.slice none 0 0) M 103
   rw[hG] at h
   exact(h.alloc _).alloc _
  have hP:Blk (((W2.alloc (.cells (madeCells #[.slice none 0 0] M) 103)).alloc (.cells #[.slice (some ⟨G,0,none⟩) M M] 111)).alloc (.cells #[.int .i64 M,.slice A fs.length c] 30)) (G+1+1) (.cells #[.int .i64 M,.slice A fs.length c] 30):=by
   have h:=blk_new ((W2.alloc (.cells (madeCells #[.slice none 0 0] M) 103)).alloc (.cells #[.slice (some ⟨G,0,none⟩) M M] 111)) (.cells #[.int .i64 M,.slice A fs.length c] 30)
   simp only[World.size_alloc,hG] at h
   exact h
  have hsz:(((W2.alloc (.cells (madeCells #[.slice none 0 0] M) 103)).alloc (.cells #[.slice (some ⟨G,0,none⟩) M M] 111)).alloc (.cells #[.int .i64 M,.slice A fs.length c] 30)).heap.size=G+1+1+1:=by simp[hG]
  have hsz2:((W2.alloc (.cells (madeCells #[.slice none 0 0] M) 103)).alloc (.cells #[.slice (some ⟨G,0,none⟩) M M] 111)).heap.size=G+1+1:=by simp[hG]
  clear hr1 hr2 hr3 hmk
  generalize (W2.alloc (.cells (madeCells #[.slice none 0 0] M) 103)).alloc (.cells #[.slice (some ⟨G,0,none⟩) M M] 111)=We at hRB hbx hrow hP hsz hsz2 ⊢
  refine(places_any M A fs.length c We).mono ?_
  rintro e w1 ⟨rfl,rfl⟩
  clear HB2 hG m0 m1 k0 k1
  go_wp2
  generalize We.alloc (.cells #[.int .i64 M,.slice A fs.length c] 30)=W0 at hRB hbx hrow hP hsz ⊢
  clear We hsz2
  have hRG:RG M A fs c w G W0.heap.size M [] W0:=⟨hRB,hbx,_,hrow,fun i hi _=>World.ownsRow_nil _ _ _ _,fun i hi j hj h=>.inl rfl,by omega,fun i hi k hk=>by simp[Value.ownBlock] at hk,Nat.le_refl _⟩
  have hb2:w.heap.size+1<W0.heap.size∧G+1<W0.heap.size:=by omega
  clear hRB hbx hrow
  refine(wpIn_wide (n:=9)).1 ?_
  refine wpIn_rangeFunc_ownH rfl (by decide) (gf:=86) (lb:=#[.pointer (some ⟨G+1+1,0,none⟩)]) rfl trivial (enters_of Try.func86 (by kernel_rfl) rfl)
   (places_stops 8 (G+1+1) M A c fs w W0 HF.out HS.out hRG.1.2 (by omega) ((blk_cells hP).1 0 _ rfl) ((blk_cells hP).1 1 _ rfl)) belowK_t (belowK_b (by omega)) (Below.refl _ _) (fun _=>rfl)
   (fun pre W=>RG M A fs c w G W0.heap.size M (valsP pre) W∧W0.heap.size≤W.heap.size∧∀x∈valsP pre,0≤x.v∧x.v<M)
   (fun c pre W=>(c=.ret∧∃x∈valsP pre,¬ (0≤x.v∧x.v<M))∧Boxed W (w.heap.size+1) 4 (.bool false)∧Below w.heap.size w W)
   ?ownI ?ownIx ⟨hRG,Nat.le_refl _,by simp[valsP]⟩
   (fun x a' W=>∃B4 B5,W0.heap.size≤B4∧B4≠B5∧W0.heap.size≤B5∧Blk W B4 (.cells #[.int .i64 (x.1.f:Nat),.int .i64 (x.1.l:Nat),.int .i64 (x.1.i:Nat)] 45)∧Blk W B5 (.cells #[.int .i64 x.1.v,.int .i64 x.1.b,.int .i64 x.1.a] 107)∧(W0.heap.size≤W.heap.size∧∀i,i<M→∀v,W.cell? ⟨G,i,none⟩=some v→v.ownBlock≠some B4∧v.ownBlock≠some B5)∧a'={ tmps:=#[.agg #[.int .i64 M,.slice A fs.length c],.pointer (some ⟨w.heap.size,0,none⟩),.pointer (some ⟨w.heap.size+1,0,none⟩),.pointer (some ⟨G+1,0,none⟩),.pointer (some ⟨B4,0,none⟩),.pointer (some ⟨B5,0,none⟩),undef,undef,undef,undef,undef,undef,undef,undef,undef,undef,.agg #[.int .i64 M,.slice A fs.length c],.bool true,.bool false,.pointer (some ⟨w.heap.size,0,none⟩),.int .i64 M,.slice (some ⟨G,0,none⟩) M M,.agg #[.int .i64 M,.slice A fs.length c],.func (.func 86) #[] #[.pointer (some ⟨G+1+1,0,none⟩)],.agg #[.int .i64 (x.1.f:Nat),.int .i64 (x.1.l:Nat),.int .i64 (x.1.i:Nat)],.agg #[.int .i64 x.1.v,.int .i64 x.1.b,.int .i64 x.1.a],undef,undef,undef,undef,undef,undef,undef,undef,undef,undef,undef,undef,undef,undef,undef,undef,undef,undef,undef,undef,undef,undef,undef,undef,undef,undef,undef,undef,undef,undef,undef,undef,undef,undef,undef,undef,undef,undef,undef,undef,undef,undef,undef,undef,undef,undef,undef,undef,undef,undef,undef,undef,undef,undef,undef,undef,undef,undef,undef,undef,undef,undef,undef,undef,undef,undef,undef,undef,undef,undef,undef,undef,undef,undef,undef,undef,undef,undef,undef,undef,undef,undef,undef,undef,undef,undef,undef,undef,undef,undef,undef,undef,undef,undef,undef,undef,undef,undef,undef,undef,undef,undef,undef,undef,undef,undef,undef,undef,undef,undef],defers:=[] })
   ?ownA ?assign ?body ?done ?stop
  case ownI=>
   intro pre X Y row hs hg hr
   exact⟨hs.1.turned hb2 hg hr,Nat.le_trans hs.2.1 hg.size,hs.2.2⟩
  case ownIx=>
   intro c pre X Y row hs hg hr
   exact⟨hs.1,hs.2.1.kept hg (fun e=>by have:=(hr _ e.symm).1;omega),hs.2.2.grown hg hs.2.2.size (fun k e=>by have:=(hr k e).1;omega)⟩
  case ownA=>
   intro x a' _ X Y row hs hg hr
   obtain⟨B4,B5,h1,h2,h3,h4,h5,⟨h6,h7⟩,h8⟩:=hs
   refine⟨B4,B5,h1,h2,h3,h4.kept hg (fun e=>?_),h5.kept hg (fun e=>?_),⟨Nat.le_trans h6 hg.size,fun i hi v hv=>h7 i hi v ?_⟩,h8⟩
   ·obtain⟨_,o,ho,hc⟩:=hr _ e.symm
    rw[show X.heap[B4]?=_ from h4] at ho;cases ho;cases hc
   ·obtain⟨_,o,ho,hc⟩:=hr _ e.symm
    rw[show X.heap[B5]?=_ from h5] at ho;cases ho;cases hc
   ·rw[←hg.cell_far ⟨G,i,none⟩ (show G<X.heap.size by omega) (fun e=>by have h:W0.heap.size≤G:=(hr G e.symm).1;omega)];exact hv
  case assign=>
   rintro l pre ⟨⟨xf,xl,xi,xv,xb,xa⟩,hx⟩ W K ⟨hI,hL,hA⟩ hK
   dsimp only[encsP,encP,enc3] at *
   gi_wp2
   have h1:W.grownBy (W.alloc (.cells #[.int .i64 xf,.int .i64 xl,.int .i64 xi] 45)) none:=World.grownBy_alloc _ _ _
   have h2:(W.alloc (.cells #[.int .i64 xf,.int .i64 xl,.int .i64 xi] 45)).grownBy ((W.alloc (.cells #[.int .i64 xf,.int .i64 xl,.int .i64 xi] 45)).alloc (.cells #[.int .i64 xv,.int .i64 xb,.int .i64 xa] 107)) none:=World.grownBy_alloc _ _ _
   have hI2:=(hI.grown h1).grown h2
   refine hK _ _ (((KeepsOthers.alloc _ _).trans (KeepsOthers.alloc _ _)).from _) (((Below.refl _ W).alloc hI.1.2.size _).alloc (by have:=hI.1.2.size;simp;omega) _) ⟨hI2,by simp;omega,hA⟩ ⟨W.heap.size,W.heap.size+1,hL,by omega,by omega,(blk_new W _).alloc,by have h:=blk_new (W.alloc (.cells #[.int .i64 xf,.int .i64 xl,.int .i64 xi] 45)) (.cells #[.int .i64 xv,.int .i64 xb,.int .i64 xa] 107);simpa using h,⟨by simp;omega,fun i hi v hv=>?_⟩,rfl⟩
   obtain⟨_,_,vs,hAt⟩:=hI
   have hc:=((hAt.grown h1).grown h2).blk.cell hi
   rw[hc] at hv
   have ev:vs i=v:=Option.some.inj hv
   constructor
   ·intro e;rw[←ev] at e;have:=(hAt.old i hi _ e).2;omega
   ·intro e;rw[←ev] at e;have:=(hAt.old i hi _ e).2;omega
  case body=>
   rintro l pre ⟨⟨xf,xl,xi,xv,xb,xa⟩,hx⟩ a' W hl' _ ⟨hI,hL,hA⟩ ⟨B4,B5,hB4,hB45,hB5,bl4,bl5,⟨_,hfree⟩,rfl⟩ hlt
   dsimp only at bl4 bl5 ⊢
   obtain⟨⟨m0,m1⟩,⟨k0,k1⟩,k2⟩:=hI.1.facts
   have v0:=(blk_cells bl5).1 0 _ rfl
   by_cases z1:xv<0
   ·gi_wp2
    refine⟨(KeepsOthers.setCell _ _ _).from _,⟨rfl,⟨xf,xl,xi,xv,xb,xa⟩,by simp[valsP],by dsimp only;omega⟩,hI.1.1.2.set _,hI.1.2.setCell (p:=⟨_,0,none⟩) (by show w.heap.size≤w.heap.size+1;omega) _⟩
   ·by_cases z2:(M:Int)≤xv
    ·gi_wp2
     refine⟨(KeepsOthers.setCell _ _ _).from _,⟨rfl,⟨xf,xl,xi,xv,xb,xa⟩,by simp[valsP],by dsimp only;omega⟩,hI.1.1.2.set _,hI.1.2.setCell (p:=⟨_,0,none⟩) (by show w.heap.size≤w.heap.size+1;omega) _⟩
    ·obtain⟨xn,hxn⟩:∃xn:Nat,xv=xn:=⟨xv.toNat,by omega⟩
     subst hxn
     have hnM:xn<M:=by omega
     have hz2:¬ (M:Int)≤(xn:Int):=by omega
     have hnz:(xn:Int)<(M:Int):=by omega
     clear z1 z2
     have hz1:¬ (xn:Int)<0:=by omega
     gi_upto_region 9 with fail
     obtain⟨hRB,hb3,vs,hAt⟩:=hI
     have hvB:=hfree xn hnM (vs xn) (hAt.cell hnM).1
     have hvo:=hAt.old xn hnM
     have HST:Hid ((RB M A fs c w W.drew∧Boxed W.drew (G+1) 111 (.slice (some ⟨G,0,none⟩) M M))∧(Blk W.drew B4 (.cells #[.int .i64 xf,.int .i64 xl,.int .i64 xi] 45)∧Blk W.drew B5 (.cells #[.int .i64 xn,.int .i64 xb,.int .i64 xa] 107))∧KeepsFrom W0.heap.size W W.drew∧Below w.heap.size W W.drew∧W.heap.size≤W.drew.heap.size):=
      ⟨⟨hRB.kept (grown_drew W) (fun k e=>by cases e),hb3.kept (grown_drew W) (by simp)⟩,⟨bl4.kept (grown_drew W) (by simp),bl5.kept (grown_drew W) (by simp)⟩,(KeepsOthers.drew W).from _,(Below.refl _ W).drew,Nat.le_refl _⟩
     have HAT:=Lib.hid (hAt.grown (grown_drew W))
     have HVB:=Lib.hid hvB
     have HVO:=Lib.hid hvo
     have HRL:Hid ((rowsA (valsP pre) xn).length≤200000):=by
      have h1:=List.length_filter_le (fun x:PV=>x.v == (xn:Int)) (valsP pre)
      have h2:(valsP pre).length=pre.length:=by simp[valsP]
      have h3:=HCAP.out
      show(rowsA (valsP pre) xn).length≤200000
      unfold rowsA;omega
     have HALL:=Lib.hid hA
     have HFR:=Lib.hid hfree
     clear hRB hb3 hAt hvB hvo bl4 bl5 m0 m1 k0 k1 k2 v0 hA hfree hlt
     obtain⟨i0,hi0,hzz0,hzz1,hzz2⟩:=info_parts info45
     refine wpIn_region_inv' (by kernel_rfl) (by kernel_rfl) (fun listed aa wy=>∃t:Nat→Value,aa={ tmps:=#[.agg #[.int .i64 M,.slice A fs.length c],.pointer (some ⟨w.heap.size,0,none⟩),.pointer (some ⟨w.heap.size+1,0,none⟩),.pointer (some ⟨G+1,0,none⟩),.pointer (some ⟨B4,0,none⟩),.pointer (some ⟨B5,0,none⟩),undef,undef,undef,undef,undef,undef,undef,undef,undef,undef,.agg #[.int .i64 M,.slice A fs.length c],.bool true,.bool false,.pointer (some ⟨w.heap.size,0,none⟩),.int .i64 M,.slice (some ⟨G,0,none⟩) M M,.agg #[.int .i64 M,.slice A fs.length c],.func (.func 86) #[] #[.pointer (some ⟨G+1+1,0,none⟩)],.agg #[.int .i64 xf,.int .i64 xl,.int .i64 xi],.agg #[.int .i64 xn,.int .i64 xb,.int .i64 xa],.pointer (some ⟨B5,0,none⟩),.int .i64 xn,.bool false,.bool false,.pointer (some ⟨B5,0,none⟩),.int .i64 xn,.pointer (some ⟨w.heap.size,0,none⟩),.int .i64 M,.bool false,.bool false,t 36,t 37,t 38,t 39,t 40,t 41,t 42,t 43,t 44,t 45,t 46,t 47,undef,undef,undef,undef,undef,undef,undef,undef,undef,undef,undef,undef,undef,undef,undef,undef,undef,undef,undef,undef,undef,undef,undef,undef,undef,undef,undef,undef,undef,undef,undef,undef,undef,undef,undef,undef,undef,undef,undef,undef,undef,undef,undef,undef,undef,undef,undef,undef,undef,undef,undef,undef,undef,undef,undef,undef,undef,undef,undef,undef,undef,undef,undef,undef,undef,undef,undef,undef,undef,undef,undef,undef,undef,undef,undef,undef,undef,undef,undef,undef,undef,undef,undef,undef,undef,undef,undef,undef],defers:=[] }∧IRK (fun wz=>AtW G W0.heap.size M (rowsA (valsP pre)) vs M wz) 10 12 (fun _ wz=>∃vs',AtW G W0.heap.size M (rowsA (valsP pre ++ [⟨xf,xl,xi,(xn:Int),xb,xa⟩])) vs' M wz) (fun wz=>(RB M A fs c w wz∧Boxed wz (G+1) 111 (.slice (some ⟨G,0,none⟩) M M))∧(Blk wz B4 (.cells #[.int .i64 xf,.int .i64 xl,.int .i64 xi] 45)∧Blk wz B5 (.cells #[.int .i64 xn,.int .i64 xb,.int .i64 xa] 107))∧KeepsFrom W0.heap.size W wz∧Below w.heap.size W wz∧W.heap.size≤wz.heap.size) (S9 G W0.heap.size M (rowsA (valsP pre)) vs B5 W.heap.size ⟨xf,xl,xi,(xn:Int),xb,xa⟩ xn) [(0,36),(1,37),(2,38),(3,39),(4,40),(5,41),(6,42),(7,43),(8,44),(9,45),(10,46),(11,47)] listed t wy) ⟨(fun d=>match d with | 36=>undef | 37=>undef | 38=>undef | 39=>undef | 40=>undef | 41=>undef | 42=>undef | 43=>undef | 44=>undef | 45=>undef | 46=>undef | 47=>undef | _=>undef),rfl,IRK.start _ HST.out HAT.out _⟩ ?_ ?_
     rotate_left
     ·rintro listed hCl ix hix aa wy ⟨t,rfl,hR⟩ hr
      match ix,hix,hr with
      | 0,_,hr=>
       as_aux_lemma=>
       refine wpOpIn_step rfl (fun K' hK=>?_)
       have f0:=hR.fin.1.2.cell
       go_simp
       exact hK _ _ ⟨upd t 36 (.slice (some ⟨G,0,none⟩) M M),rfl,hR.yields hCl hr (by decide) (by decide) (by kernel_rfl) hR.fin (fun h=>h) (fun _ _ h=>h) rfl rfl⟩
      | 1,_,hr=>
       as_aux_lemma=>
       refine wpOpIn_step rfl (fun K' hK=>?_)
       go_simp
       exact hK _ _ ⟨upd t 37 (.pointer (some ⟨B5,0,none⟩)),rfl,hR.yields hCl hr (by decide) (by decide) (by kernel_rfl) hR.fin (fun h=>h) (fun _ _ h=>h) rfl rfl⟩
      | 2,_,hr=>
       as_aux_lemma=>
       refine wpOpIn_step rfl (fun K' hK=>?_)
       have e1:t 37=.pointer (some ⟨B5,0,none⟩):=hR.val hCl hr (by kernel_rfl) (1,37) (by simp) (dep_of hr 1 (by kernel_rfl))
       have f0:=(blk_cells hR.fin.2.1.2).1 0 _ rfl
       go_simp
       exact hK _ _ ⟨upd t 38 (.int .i64 xn),by simp[upd,e1],hR.yields hCl hr (by decide) (by decide) (by kernel_rfl) hR.fin (fun h=>h) (fun _ _ h=>h) rfl rfl⟩
      | 3,_,hr=>
       as_aux_lemma=>
       refine wpOpIn_step rfl (fun K' hK=>?_)
       have f0:=hR.fin.1.2.cell
       go_simp
       exact hK _ _ ⟨upd t 39 (.slice (some ⟨G,0,none⟩) M M),rfl,hR.yields hCl hr (by decide) (by decide) (by kernel_rfl) hR.fin (fun h=>h) (fun _ _ h=>h) rfl rfl⟩
      | 4,_,hr=>
       as_aux_lemma=>
       refine wpOpIn_step rfl (fun K' hK=>?_)
       go_simp
       exact hK _ _ ⟨upd t 40 (.pointer (some ⟨B5,0,none⟩)),rfl,hR.yields hCl hr (by decide) (by decide) (by kernel_rfl) hR.fin (fun h=>h) (fun _ _ h=>h) rfl rfl⟩
      | 5,_,hr=>
       as_aux_lemma=>
       refine wpOpIn_step rfl (fun K' hK=>?_)
       have e1:t 40=.pointer (some ⟨B5,0,none⟩):=hR.val hCl hr (by kernel_rfl) (4,40) (by simp) (dep_of hr 4 (by kernel_rfl))
       have f0:=(blk_cells hR.fin.2.1.2).1 0 _ rfl
       go_simp
       exact hK _ _ ⟨upd t 41 (.int .i64 xn),by simp[upd,e1],hR.yields hCl hr (by decide) (by decide) (by kernel_rfl) hR.fin (fun h=>h) (fun _ _ h=>h) rfl rfl⟩
      | 6,_,hr=>
       as_aux_lemma=>
       refine wpOpIn_step rfl (fun K' hK=>?_)
       have e1:t 39=.slice (some ⟨G,0,none⟩) M M:=hR.val hCl hr (by kernel_rfl) (3,39) (by simp) (dep_of hr 3 (by kernel_rfl))
       have e2:t 41=.int .i64 xn:=hR.val hCl hr (by kernel_rfl) (5,41) (by simp) (dep_of hr 5 (by kernel_rfl))
       go_simp
       exact hK _ _ ⟨upd t 42 (.pointer (some ⟨G,xn,none⟩)),by simp[upd,e1,e2],hR.yields hCl hr (by decide) (by decide) (by kernel_rfl) hR.fin (fun h=>h) (fun _ _ h=>h) rfl rfl⟩
      | 7,_,hr=>
       as_aux_lemma=>
       refine wpOpIn_step rfl (fun K' hK=>?_)
       have e1:t 42=.pointer (some ⟨G,xn,none⟩):=hR.val hCl hr (by kernel_rfl) (6,42) (by simp) (dep_of hr 6 (by kernel_rfl))
       have f0:=((hR.old (hCl.not hr 9 (by kernel_rfl))).cell hnM).1
       go_simp
       exact hK _ _ ⟨upd t 43 (vs xn),by simp[upd,e1],hR.yields hCl hr (by decide) (by decide) (by kernel_rfl) hR.fin (fun h=>h) (fun _ _ h=>h) rfl rfl⟩
      | 8,_,hr=>
       as_aux_lemma=>
       refine wpOpIn_step rfl (fun K' hK=>?_)
       have f0:=(blk_cells hR.fin.2.1.1).1 0 _ rfl
       have f1:=(blk_cells hR.fin.2.1.1).1 1 _ rfl
       have f2:=(blk_cells hR.fin.2.1.1).1 2 _ rfl
       go_simp
       exact hK _ _ ⟨upd t 44 (.agg #[.int .i64 xf,.int .i64 xl,.int .i64 xi]),rfl,hR.yields hCl hr (by decide) (by decide) (by kernel_rfl) hR.fin (fun h=>h) (fun _ _ h=>h) rfl rfl⟩
      | 9,_,hr=>
       as_aux_lemma=>
       refine wpOpIn_step rfl (fun K' hK=>?_)
       have e1:t 44=.agg #[.int .i64 xf,.int .i64 xl,.int .i64 xi]:=hR.val hCl hr (by kernel_rfl) (8,44) (by simp) (dep_of hr 8 (by kernel_rfl))
       have hg:=World.grownBy_alloc wy (.cells #[.int .i64 xf,.int .i64 xl,.int .i64 xi] 45) none
       have hI2:=hR.fin
       go_simp
       exact hK _ _ ⟨upd t 45 (.slice (some ⟨wy.heap.size,0,none⟩) 1 1),by simp[upd,e1],hR.yields hCl hr (by decide) (by decide) (by kernel_rfl) ⟨⟨hI2.1.1.kept hg (fun k e=>by cases e),hI2.1.2.kept hg (by simp)⟩,⟨hI2.2.1.1.kept hg (by simp),hI2.2.1.2.kept hg (by simp)⟩,hI2.2.2.1.trans ((KeepsOthers.alloc _ _).from _),hI2.2.2.2.1.alloc (by have:=hI2.2.2.2.2;have:=hI2.1.1.2.size;omega) _,by have:=hI2.2.2.2.2;simp;omega⟩ (fun h=>h.grown hg) (S9.grown hg) ⟨_,rfl,hI2.2.2.2.2,blk_new wy _⟩ rfl⟩
      | 10,_,hr=>
       as_aux_lemma=>
       refine wpOpIn_step rfl (fun K' hK=>?_)
       have e1:t 43=vs xn:=hR.val hCl hr (by kernel_rfl) (7,43) (by simp) (dep_of hr 7 (by kernel_rfl))
       obtain⟨b,e2,hb,hbl⟩:∃b,t 45=.slice (some ⟨b,0,none⟩) 1 1∧W.heap.size≤b∧Blk wy b (.cells #[.int .i64 xf,.int .i64 xl,.int .i64 xi] 45):=hR.val hCl hr (by kernel_rfl) (9,45) (by simp) (dep_of hr 9 (by kernel_rfl))
       have hO:=hR.old (getD_tf (ready_spec.1 hr).2.1).1
       have hI2:=hR.fin
       refine stepIn_append rfl (.tmp 43) (.tmp 45) _ rfl W0.heap.size 45 i0 (.agg #[.int .i64 0,.int .i64 0,.int .i64 0]) 3 24 Try.underlying103 hi0 hzz0 hzz1 hzz2 rfl (by decide) (vs xn) _ _ e1 (hO.own xn hnM (by omega)) ⟨b,0,none⟩ 1 1 [.int .i64 xf,.int .i64 xl,.int .i64 xi] e2 rfl (blk_news hbl) (by simp[Value.oneCell']) (by omega) (by have:=HRL.out;simp only[maxLen];omega) (by have:=HRL.out;omega) hO.bas ?_
       intro g cap w1 hown1 hgrow hloc hglt
       have hrow:∀k,(vs xn).ownBlock=some k→W0.heap.size≤k∧k<W.heap.size:=fun k e=>HVO.out k e
       have hat1:=hO.appended hnM hgrow
       refine hK _ _ ⟨upd t 46 (.slice (some ⟨g,0,none⟩) ((rowsA (valsP pre) xn).length+1) cap),rfl,hR.turns hCl hr (by decide) (by kernel_rfl) ⟨⟨hI2.1.1.kept hgrow (fun k e=>by have:=hrow k e;omega),hI2.1.2.kept hgrow (fun e=>by have:=hrow _ e.symm;omega)⟩,⟨hI2.2.1.1.kept hgrow (fun e=>HVB.out.1 e.symm),hI2.2.1.2.kept hgrow (fun e=>HVB.out.2 e.symm)⟩,hI2.2.2.1.trans ((KeepsOthers.of_grownBy hgrow (fun j o e ho=>by obtain⟨cells,hc⟩:=own_typed (hO.own xn hnM (by omega)) j e;rw[hc] at ho;cases ho;rfl)).from _),hI2.2.2.2.1.trans ((Below.refl _ wy).grown hgrow (by have:=hI2.1.1.2.size;omega) (fun k e=>by have:=hrow k e;have:=hI2.1.1.2.size;omega)),Nat.le_trans hI2.2.2.2.2 hgrow.size⟩ (S9.turned hgrow (fun k e=>(hrow k e).2)) ⟨g,cap,rfl,by rw[flatP_snoc];exact hown1,hat1,fun i hi hix=>?_⟩ rfl⟩
       rcases hloc with hloc | hloc
       ·rcases hO.dis i hi xn hnM hix with q | q
        ·exact .inl q
        ·exact .inr (fun e=>q (e.trans (show Value.ownBlock (.slice (some ⟨g,0,none⟩) ((rowsA (valsP pre) xn).length+1) cap)=(vs xn).ownBlock from hloc.symm)))
       ·refine .inr (fun e=>?_)
        have:=(hO.old i hi g e).2
        omega
      | 11,_,hr=>
       as_aux_lemma=>
       refine wpOpIn_step rfl (fun K' hK=>?_)
       have e1:t 36=.slice (some ⟨G,0,none⟩) M M:=hR.val hCl hr (by kernel_rfl) (0,36) (by simp) (dep_of hr 0 (by kernel_rfl))
       have e2:t 38=.int .i64 xn:=hR.val hCl hr (by kernel_rfl) (2,38) (by simp) (dep_of hr 2 (by kernel_rfl))
       go_simp
       exact hK _ _ ⟨upd t 47 (.pointer (some ⟨G,xn,none⟩)),by simp[upd,e1,e2],hR.yields hCl hr (by decide) (by decide) (by kernel_rfl) hR.fin (fun h=>h) (fun _ _ h=>h) rfl rfl⟩
      | 12,_,hr=>
       as_aux_lemma=>
       refine wpOpIn_step rfl (fun K' hK=>?_)
       have e1:t 47=.pointer (some ⟨G,xn,none⟩):=hR.val hCl hr (by kernel_rfl) (11,47) (by simp) (dep_of hr 11 (by kernel_rfl))
       obtain⟨g,cap,e2,hown1,hat1,hdis⟩:S9 G W0.heap.size M (rowsA (valsP pre)) vs B5 W.heap.size ⟨xf,xl,xi,(xn:Int),xb,xa⟩ xn 46 wy (t 46):=hR.val hCl hr (by kernel_rfl) (10,46) (by simp) (dep_of hr 10 (by kernel_rfl))
       have hI2:=hR.fin
       obtain⟨c0,c1⟩:=hat1.cell hnM
       have hg:wy.grownBy (wy.setCell ⟨G,xn,none⟩ (t 46)) (some G):=⟨rfl,rfl,rfl,(KeepsWalks.setCell wy _ _).size,fun k _ hk=>Below.heap_setCell _ _ _ k (fun e=>hk (by rw[e]))⟩
       have hrw:(rowsA (valsP pre ++ [(⟨xf,xl,xi,(xn:Int),xb,xa⟩:PV)]) xn)=rowsA (valsP pre) xn ++ [(⟨xf,xl,xi,(xn:Int),xb,xa⟩:PV)]:=by rw[rowsA_snoc];simp
       have hC:=hat1.stored (u:=t 46) (rows':=rowsA (valsP pre ++ [(⟨xf,xl,xi,(xn:Int),xb,xa⟩:PV)])) hnM (by rw[hrw,List.length_append];exact hown1) (fun i hi hix=>by rw[rowsA_snoc,if_neg (show ¬ ((xn:Int)=(i:Int)) by omega)];simp) hdis
       have hE:=hR.ends hr (.inl (dep_of hr 10 (by kernel_rfl))) (by decide) (W1:=wy.setCell ⟨G,xn,none⟩ (t 46)) ⟨⟨hI2.1.1.kept hg (fun k e=>by cases e;omega),hI2.1.2.kept hg (by simp)⟩,⟨hI2.2.1.1.kept hg (fun e=>by cases e;omega),hI2.2.1.2.kept hg (fun e=>by cases e;omega)⟩,hI2.2.2.1.trans ((KeepsOthers.setCell _ _ _).from _),hI2.2.2.2.1.trans ((Below.refl _ wy).setCell (p:=⟨G,xn,none⟩) (by show w.heap.size≤G;omega) _),Nat.le_trans hI2.2.2.2.2 hg.size⟩ ⟨_,hC⟩
       rw[e2] at hE
       clear hC hdis hown1 hat1 hg hI2 hrw
       go_simp
       exact hK _ _ ⟨t,by simp[e1,e2],hE⟩
      | nx+13,hix,_=>exact absurd (show nx+13<13 from hix) (by omega)
     rintro listed a2 W9 ⟨t,rfl,hR⟩ hl
     obtain⟨vs',hC⟩:=hR.new (hl 12 (by decide))
     have hI2:=hR.fin
     clear hR hl
     gi_wp2
     rw[hsz] at hI2 hC hL
     refine⟨hI2.2.2.1,hI2.2.2.2.1,⟨hI2.1.1,hI2.1.2,vs',by rw[valsP_snoc];exact hC⟩,Nat.le_trans hL hI2.2.2.2.2,?_⟩
     rw[valsP_snoc]
     intro y hy
     rcases List.mem_append.1 hy with hy | hy
     ·exact HALL.out y hy
     ·rw[List.mem_singleton.1 hy];exact⟨by dsimp only;omega,hnz⟩
  case stop=>
   rintro Dd cc pre W hD hSp ⟨⟨rfl,hne⟩,bx2,hBw⟩ hK
   have c2:=bx2.cell
   refine wpIn_wide.2 ?_
   go_wp2
   rw[Exit.noGoto_ret]
   refine⟨by simp,.inl ⟨_,_,rfl,run_takeDeferred hK,?_⟩⟩
   have k2:=cell_kept bx2.cell (grownBy_putObj' _ Dd (.deferred none)) (fun r e=>by cases e;exact⟨_,hK,rfl⟩)
   refine⟨.bool false,?_,⟨false,rfl,⟨by simp,fun h=>?_⟩⟩,hBw.trans (belowK_b (w:=w) (Nat.le_refl _) W Dd _ _ (by omega) hK rfl rfl)⟩
   ·simp[results,Try.f42,go_sem,k2]
   ·obtain⟨x,hx,hnx⟩:=hne
    exact absurd (h.2.1 x (hSp.subset hx)) hnx
  case done=>
   rintro Dd ys W hD hSy ⟨hRG,hL,hA⟩ hK
   have hSy:valsP ys=plsA fs:=hSy
   rw[hSy] at hRG hA
   obtain⟨hRB,hb3,vs,hAt⟩:=hRG
   have HRB:=Lib.hid hRB
   have HED:=Lib.hid (edges_any M A c fs W (HF.out.below hRB.2) HS.out HI.out HCAP.out)
   obtain⟨⟨m0,m1⟩,⟨k0,k1⟩,k2⟩:=HRB.out.facts
   have HALL:=Lib.hid hA
   have HAT:=Lib.hid hAt
   have HB3:=Lib.hid hb3
   have HK:=Lib.hid hK
   clear hRB hb3 hAt hA hK hP hRG
   go_wp2_with fail
   ((with_reducible refine(HED.out).mono ?_);rintro e W3 ⟨⟨m,b,rfl,hbi,hbm⟩,hbl⟩)
   have hg3:W.grownBy W3 none:=grown_of_below hbl none
   have HBI:=Lib.hid hbi
   have HBM:=Lib.hid hbm
   have HRB3:=Lib.hid (HRB.out.kept hg3 (fun k e=>by cases e))
   have HKE:=Lib.hid (HAT.out.grown hg3)
   have HB33:=Lib.hid (HB3.out.kept hg3 (by simp))
   have HK3:Hid (W3.heap[Dd]?=some (.deferred (some []))):=(hg3.block Dd (Array.getElem?_eq_some_iff.1 HK.out).1 (by simp)).trans HK.out
   have hds:Dd<W.heap.size:=(Array.getElem?_eq_some_iff.1 HK.out).1
   have hbl0:=hbl.size
   clear HRB HED m0 m1 k0 k1 k2 HAT HB3 HK hbl hbi hbm hg3
   obtain⟨⟨m0,m1⟩,⟨k0,k1⟩,k2⟩:=HRB3.out.facts
   cases b
   ·go_wp2
    rw[Exit.noGoto_ret]
    have hx2:=HRB3.out.1.2.set (.bool false)
    have hxK:(W3.setCell ⟨w.heap.size+1,0,none⟩ (.bool false)).heap[Dd]?=some (.deferred (some [])):=by rw[Below.heap_setCell _ _ _ _ (by show Dd≠w.heap.size+1;omega)];exact HK3.out
    refine⟨by simp,.inl ⟨_,_,rfl,run_takeDeferred hxK,?_⟩⟩
    have kx:=cell_kept hx2.cell (grownBy_putObj' _ Dd (.deferred none)) (fun r e=>by cases e;exact⟨_,hxK,rfl⟩)
    refine⟨.bool false,?_,⟨false,rfl,by simp,fun h=>by simpa using HBI.out.2 h.2.2.1⟩,(HRB3.out.2.setCell (p:=⟨_,0,none⟩) (by show w.heap.size≤w.heap.size+1;omega) _).trans (belowK_b (w:=w) (Nat.le_refl _) _ Dd _ _ (by omega) hxK rfl rfl)⟩
    simp[results,Try.f42,go_sem,kx]
   ·obtain⟨k,hkm,hkl,hem⟩:=HBM.out rfl
    subst hkm
    have HOK:=Lib.hid (HBI.out.1 rfl)
    have hkW:W.heap.size≤k:=hkl
    have HRN:Hid (RN M A fs c w G W0.heap.size M (dartsA fs (plsA fs)) k Dd vs W3):=⟨HRB3.out,HB33.out,HKE.out,hem,HK3.out⟩
    have c3:=HB33.out.cell
    clear HRB3 HB33 HKE HK3 HBI HBM hem hkl
    go_wp2
    go_step3
    go_wp2
    have hDd:w.heap.size+1<Dd:=by omega
    have hG1:w.heap.size+1<G:=by omega
    have hGD:G+1<Dd:=by omega
    have hW3:Hid (W.heap.size≤W3.heap.size):=hbl0
    clear m0 m1 k0 k1 k2 c3
    go_loopw [57] (fun s57 wr=>∃v:Nat,v≤M∧s57=.int .i64 v∧Hid (RN M A fs c w G W0.heap.size M (dartsA fs (plsA fs)) k Dd vs wr)∧Hid (∀i,i<v→NodeOk fs (dartsA fs (plsA fs)) (rowsA (plsA fs) i))) (fun v _=>M - (intOf v).toNat)
    case atStart=>exact⟨0,by omega,rfl,HRN,fun i h=>by omega⟩
    case round=>
     clear HRN
     rename World=>wr
     obtain⟨v,hv,rfl,HRN,HND⟩:=hrel
     obtain⟨⟨m0,m1⟩,⟨k0,k1⟩,k2⟩:=HRN.out.1.facts
     by_cases hvM:v<M
     ·have hvz:(v:Int)<(M:Int):=by omega
      obtain⟨cv,-⟩:=HRN.out.2.2.1.cell hvM
      have hown:=HRN.out.2.2.1.own v hvM (by omega)
      cases hrows:rowsA (plsA fs) v with
      | nil=>
       obtain⟨a0,cap0,e0⟩:=own_slice hown
       rw[hrows] at e0
       rw[e0] at cv
       have HNO:Hid (¬ RightP M fs):=fun h=>by
        obtain⟨y,rest,e,_⟩:=h.2.2.2 v (by omega)
        rw[hrows] at e;cases e
       clear hown hrows e0
       go_wp2
       rw[Exit.noGoto_ret]
       obtain⟨hx2,hxK,hxB⟩:=HRN.out.ret (by omega) false
       refine⟨by simp,.inl ⟨_,_,rfl,run_takeDeferred hxK,?_⟩⟩
       have kx:=cell_kept hx2.cell (grownBy_putObj' _ Dd (.deferred none)) (fun r e=>by cases e;exact⟨_,hxK,rfl⟩)
       refine⟨.bool false,?_,⟨false,rfl,by simpa using HNO.out⟩,hxB.trans (belowK_b (w:=w) (Nat.le_refl _) _ Dd _ _ (by omega) hxK rfl rfl)⟩
       simp[results,Try.f42,go_sem,kx]
      | cons x rest=>
       rw[hrows] at hown
       obtain⟨g,cap,e0,hgb,hglt⟩:=hown.form (by simp)
       rw[e0] at cv hown
       have hcl:=fun j u h=>hown.cells (g:=g) rfl j u h
       have q0:wr.cell? ⟨g,0,none⟩=some (.int .i64 x.f):=by have h:=hcl 0 (.int .i64 x.f) (by simp[flatP]);rwa [add_plain] at h
       have q1:wr.cell? ⟨g,1,none⟩=some (.int .i64 x.l):=by have h:=hcl 1 (.int .i64 x.l) (by simp[flatP]);rwa [add_plain] at h
       have q2:wr.cell? ⟨g,2,none⟩=some (.int .i64 x.i):=by have h:=hcl 2 (.int .i64 x.i) (by simp[flatP]);rwa [add_plain] at h
       have hx:x∈plsA fs:=(List.mem_filter.1 (show x∈rowsA (plsA fs) v by rw[hrows];exact List.mem_cons_self)).1
       have HX:=Lib.hid hx
       have HROWS:=Lib.hid hrows
       obtain⟨len,hlen⟩:∃len,len=rest.length+1:=⟨_,rfl⟩
       have hlen1:((x :: rest).length)=len:=by rw[hlen];simp
       rw[hlen1] at cv
       have HLEN:=Lib.hid hlen1
       have hlenz:¬ (len:Int)=0:=by omega
       have hlenp:(0:Int)<(len:Int):=by omega
       have hlenc:len≤100000:=by
        rw[←hlen1,←hrows]
        exact Nat.le_trans (List.length_filter_le _ _) HCAP.out
       clear hown hcl hrows hx hlen hlen1 e0
       obtain⟨B,hB⟩:∃B,wr.heap.size=B:=⟨_,rfl⟩
       have hRN2:=(HRN.out.grown (World.grownBy_alloc wr (.cells #[.int .i64 x.f,.int .i64 x.l,.int .i64 x.i] 45) none)).grown (World.grownBy_alloc (wr.alloc (.cells #[.int .i64 x.f,.int .i64 x.l,.int .i64 x.i] 45)) (.cells #[.int .i64 x.f,.int .i64 x.l,.int .i64 x.i] 45) none)
       have hp10:Blk ((wr.alloc (.cells #[.int .i64 x.f,.int .i64 x.l,.int .i64 x.i] 45)).alloc (.cells #[.int .i64 x.f,.int .i64 x.l,.int .i64 x.i] 45)) B (.cells #[.int .i64 x.f,.int .i64 x.l,.int .i64 x.i] 45):=by rw[←hB];exact(blk_new wr _).alloc
       have hp11:Blk ((wr.alloc (.cells #[.int .i64 x.f,.int .i64 x.l,.int .i64 x.i] 45)).alloc (.cells #[.int .i64 x.f,.int .i64 x.l,.int .i64 x.i] 45)) (B+1) (.cells #[.int .i64 x.f,.int .i64 x.l,.int .i64 x.i] 45):=by have h:=blk_new (wr.alloc (.cells #[.int .i64 x.f,.int .i64 x.l,.int .i64 x.i] 45)) (.cells #[.int .i64 x.f,.int .i64 x.l,.int .i64 x.i] 45);rw[World.size_alloc,hB] at h;exact h
       have hGB:G+1<B:=by rw[←hB];exact HRN.out.2.1.lt
       have hkB:k<B:=by rw[←hB];exact HRN.out.2.2.2.1.lt
       have hDB:Dd<B:=by rw[←hB];exact(Array.getElem?_eq_some_iff.1 HRN.out.2.2.2.2).1
       have hvo:Hid (∀i,i<M→∀j,(vs i).ownBlock=some j→j<B):=fun i hi j hj=>by rw[←hB];exact(HRN.out.2.2.1.old i hi j hj).2
       go_wp2
       (try rw[hB])
       generalize (wr.alloc (.cells #[.int .i64 x.f,.int .i64 x.l,.int .i64 x.i] 45)).alloc (.cells #[.int .i64 x.f,.int .i64 x.l,.int .i64 x.i] 45)=W4 at hRN2 hp10 hp11 ⊢
       have HRN2:=Lib.hid hRN2
       have HP10:=Lib.hid hp10
       have HP11:=Lib.hid hp11
       clear hRN2 hp10 hp11 m0 m1 k0 k1 k2 cv q0 q1 q2
       have HNO:Hid (¬ NodeOk fs (dartsA fs (plsA fs)) (x :: rest)→¬ RightP M fs):=fun hn h=>hn (by have h2:=h.2.2.2 v (by omega);rwa [HROWS.out] at h2)
       have HYE:Hid (NodeOk fs (dartsA fs (plsA fs)) (x :: rest)→∀i,i<v+1→NodeOk fs (dartsA fs (plsA fs)) (rowsA (plsA fs) i)):=fun hn i hi=>by
        by_cases e:i=v
        ·rw[e,HROWS.out];exact hn
        ·exact HND.out i (by omega)
       have HSZ:Hid (w.heap.size+1<Dd∧w.heap.size+1<G∧G+1<Dd∧G+1<B∧k<B∧Dd<B):=⟨hDd,hG1,hGD,hGB,hkB,hDB⟩
       have hvw:IntKind.i64.wrap ((v:Int)+1)=(v:Int)+1:=by rw[IntKind.wrap_i64];omega
       go_loopw [12] (fun s12 wi=>∃k' pf pl pi:Nat,s12=.int .i64 k'∧k'≤len∧Hid (iterP fs (dartsA fs (plsA fs)) (pl3 x) k'=(pf,pl,pi)∧IsP fs (pf,pl,pi)∧(0<k'→(lpA fs pf pl).length≠1∧(lpA fs x.f x.l).length≠1)∧∀j,0<j→j≤k'→iterP fs (dartsA fs (plsA fs)) (pl3 x) j≠pl3 x)∧Hid (RN M A fs c w G W0.heap.size M (dartsA fs (plsA fs)) k Dd vs wi)∧Hid (Blk wi B (.cells #[.int .i64 x.f,.int .i64 x.l,.int .i64 x.i] 45))∧Hid (Blk wi (B+1) (.cells #[.int .i64 pf,.int .i64 pl,.int .i64 pi] 45))) (fun v _=>len+1 - (intOf v).toNat)
       case atStart=>exact⟨0,x.f,x.l,x.i,rfl,by omega,⟨rfl,(isP_of HX.out).1,fun h=>by omega,fun j h1 h2=>by omega⟩,HRN2,HP10,HP11⟩
       case round=>
        clear HRN2 HP10 HP11 HRN HND
        rename World=>wi
        obtain⟨k',pf,pl,pi,rfl,hkl,HIT,HRN,HP10,HP11⟩:=hrel
        obtain⟨⟨m0,m1⟩,⟨k0,k1⟩,k2⟩:=HRN.out.1.facts
        have hIP:=HIT.out.2.1
        obtain⟨ad,A0,c1,rfl,hc0,hl0,hr0⟩:=HF.out.at hIP.1
        obtain⟨ad1,A2,c2,rfl,hc1,hl1,hr1⟩:=hr0.atP hIP.2.1
        have hipi:pi<(lpA fs pf pl).length:=hIP.2.2
        obtain⟨ad2,rfl,hx2⟩:=hr1.at hipi
        have hc0:=pw_cell_below HRN.out.1.2 hc0
        have hc1:=pw_cell_below HRN.out.1.2 hc1
        have hn1:=HS.out.2.2 pf pl
        obtain⟨n,hn⟩:∃n,n=(lpA fs pf pl).length:=⟨_,rfl⟩
        rw[←hn] at hc1 hl1 hipi hn1
        have HNL:=Lib.hid hn
        have hfz:(pf:Int)<(fs.length:Int):=by have h:pf<fs.length:=hIP.1;omega
        have hlz:(pl:Int)<((fcA fs pf).length:Int):=by have h:pl<(fcA fs pf).length:=hIP.2.1;omega
        have hiz:(pi:Int)<(n:Int):=by omega
        have hn0:=hr0.len
        have HR1:=Lib.hid hr1
        have b0:=(blk_cells HP11.out).1 0 _ rfl
        have b1:=(blk_cells HP11.out).1 1 _ rfl
        have hkw:IntKind.i64.wrap ((k':Int)+1)=(k':Int)+1:=by rw[IntKind.wrap_i64];omega
        clear hr0 hr1 hn hx2 hIP
        have hlenb:((len:Int) == 0)=false:=beq_eq_false_iff_ne.2 hlenz
        go_upto_region 21 with fail
        (try rw[hlenb])
        refine wp_region_inv' (by kernel_rfl) (by kernel_rfl) (fun listed aa wy=>∃t:Nat→Value,aa={ tmps:=#[.agg #[.int .i64 M,.slice (some ad) fs.length c],.pointer (some ⟨w.heap.size,0,none⟩),.pointer (some ⟨w.heap.size+1,0,none⟩),.pointer (some ⟨G+1,0,none⟩),undef,undef,.map (some k),.bool true,undef,.slice (some ⟨g,0,none⟩) len cap,.pointer (some ⟨B,0,none⟩),.pointer (some ⟨B+1,0,none⟩),.int .i64 ((k':Int)+1),t 13,u14,u15,.agg #[.int .i64 M,.slice (some ad) fs.length c],.bool true,.bool false,.pointer (some ⟨w.heap.size,0,none⟩),.int .i64 M,.slice (some ⟨G,0,none⟩) M M,.agg #[.int .i64 M,.slice (some ad) fs.length c],.func (.func 86) #[] #[.pointer (some ⟨G+1+1,0,none⟩)],undef,undef,undef,undef,undef,undef,undef,undef,undef,undef,undef,undef,undef,undef,undef,undef,undef,undef,undef,undef,undef,undef,undef,undef,.tuple #[.map (some k),.bool true],.agg #[.int .i64 M,.slice (some ad) fs.length c],.tuple #[.map (some k),.bool true],.map (some k),.bool true,.bool true,.bool false,.slice (some ⟨G,0,none⟩) M M,.int .i64 M,.int .i64 v,.bool true,.pointer (some ⟨G,v,none⟩),.slice (some ⟨g,0,none⟩) len cap,.slice (some ⟨g,0,none⟩) len cap,.int .i64 len,.bool false,.slice (some ⟨g,0,none⟩) len cap,.pointer (some ⟨g,0,none⟩),.agg #[.int .i64 x.f,.int .i64 x.l,.int .i64 x.i],.agg #[.int .i64 x.f,.int .i64 x.l,.int .i64 x.i],.int .i64 k',.int .i64 ((k':Int)+1),t 70,t 71,t 72,t 73,t 74,t 75,t 76,t 77,t 78,t 79,u80,u81,u82,u83,u84,u85,u86,u87,u88,u89,u90,u91,u92,u93,u94,u95,u96,u97,u98,u99,u100,u101,u102,u103,u104,u105,u106,u107,u108,u109,u110,u111,u112,u113,u114,u115,u116,u117,u118,u119,u120,u121,u122,u123,u124,u125,u126,u127,u128,u129,u130,u131,u132,u133,u134,u135],defers:=[{ target:=Target.collected Dd,args:=#[] }] }∧IR (fun wz=>wz=wi.drew) (fun d (_:World) v=>match d with | 70=>v=.pointer (some ⟨w.heap.size,1,none⟩) | 71=>v=.slice (some ad) fs.length c | 72=>v=.pointer (some ⟨B+1,0,none⟩) | 73=>v=.int .i64 pf | 74=>v=.pointer (some (ad.add pf)) | 75=>v=.slice (some ad1) (fcA fs pf).length c1 | 76=>v=.pointer (some ⟨B+1,1,none⟩) | 77=>v=.int .i64 pl | 78=>v=.pointer (some (ad1.add pl)) | 79=>v=.slice (some ad2) n c2 | 13=>v=.slice (some ad2) n c2 | _=>True) [(0,70),(1,71),(2,72),(3,73),(4,74),(5,75),(6,76),(7,77),(8,78),(9,79),(10,13)] listed t wy) ⟨(fun d=>match d with | 13=>u13 | 70=>u70 | 71=>u71 | 72=>u72 | 73=>u73 | 74=>u74 | 75=>u75 | 76=>u76 | 77=>u77 | 78=>u78 | 79=>u79 | _=>undef),rfl,IR.start _ (by rfl) _⟩ ?_ ?_
        rotate_left
        ·rintro listed hCl ix hix aa wy ⟨t,rfl,hR⟩ hr
         match ix,hix,hr with
         | 0,_,hr=>
          as_aux_lemma=>
          refine wpOp_step rfl (fun K' hK=>?_)
          go_simp
          exact hK _ _ ⟨upd t 70 (.pointer (some ⟨w.heap.size,1,none⟩)),rfl,hR.yields hR.fin (fun _ _ h=>h) rfl rfl⟩
         | 1,_,hr=>
          as_aux_lemma=>
          refine wpOp_step rfl (fun K' hK=>?_)
          have e1:t 70=.pointer (some ⟨w.heap.size,1,none⟩):=hR.val (0,70) (by simp) (dep_of hr 0 (by kernel_rfl))
          obtain rfl:wy=wi.drew:=hR.fin
          go_simp
          exact hK _ _ ⟨upd t 71 (.slice (some ad) fs.length c),by simp[upd,e1],hR.yields hR.fin (fun _ _ h=>h) rfl rfl⟩
         | 2,_,hr=>
          as_aux_lemma=>
          refine wpOp_step rfl (fun K' hK=>?_)
          go_simp
          exact hK _ _ ⟨upd t 72 (.pointer (some ⟨B+1,0,none⟩)),rfl,hR.yields hR.fin (fun _ _ h=>h) rfl rfl⟩
         | 3,_,hr=>
          as_aux_lemma=>
          refine wpOp_step rfl (fun K' hK=>?_)
          have e1:t 72=.pointer (some ⟨B+1,0,none⟩):=hR.val (2,72) (by simp) (dep_of hr 2 (by kernel_rfl))
          obtain rfl:wy=wi.drew:=hR.fin
          go_simp
          exact hK _ _ ⟨upd t 73 (.int .i64 pf),by simp[upd,e1],hR.yields hR.fin (fun _ _ h=>h) rfl rfl⟩
         | 4,_,hr=>
          as_aux_lemma=>
          refine wpOp_step rfl (fun K' hK=>?_)
          have e1:t 71=.slice (some ad) fs.length c:=hR.val (1,71) (by simp) (dep_of hr 1 (by kernel_rfl))
          have e2:t 73=.int .i64 pf:=hR.val (3,73) (by simp) (dep_of hr 3 (by kernel_rfl))
          go_simp
          exact hK _ _ ⟨upd t 74 (.pointer (some (ad.add pf))),by simp[upd,e1,e2],hR.yields hR.fin (fun _ _ h=>h) rfl rfl⟩
         | 5,_,hr=>
          as_aux_lemma=>
          refine wpOp_step rfl (fun K' hK=>?_)
          have e1:t 74=.pointer (some (ad.add pf)):=hR.val (4,74) (by simp) (dep_of hr 4 (by kernel_rfl))
          obtain rfl:wy=wi.drew:=hR.fin
          go_simp
          exact hK _ _ ⟨upd t 75 (.slice (some ad1) (fcA fs pf).length c1),by simp[upd,e1],hR.yields hR.fin (fun _ _ h=>h) rfl rfl⟩
         | 6,_,hr=>
          as_aux_lemma=>
          refine wpOp_step rfl (fun K' hK=>?_)
          go_simp
          exact hK _ _ ⟨upd t 76 (.pointer (some ⟨B+1,1,none⟩)),rfl,hR.yields hR.fin (fun _ _ h=>h) rfl rfl⟩
         | 7,_,hr=>
          as_aux_lemma=>
          refine wpOp_step rfl (fun K' hK=>?_)
          have e1:t 76=.pointer (some ⟨B+1,1,none⟩):=hR.val (6,76) (by simp) (dep_of hr 6 (by kernel_rfl))
          obtain rfl:wy=wi.drew:=hR.fin
          go_simp
          exact hK _ _ ⟨upd t 77 (.int .i64 pl),by simp[upd,e1],hR.yields hR.fin (fun _ _ h=>h) rfl rfl⟩
         | 8,_,hr=>
          as_aux_lemma=>
          refine wpOp_step rfl (fun K' hK=>?_)
          have e1:t 75=.slice (some ad1) (fcA fs pf).length c1:=hR.val (5,75) (by simp) (dep_of hr 5 (by kernel_rfl))
          have e2:t 77=.int .i64 pl:=hR.val (7,77) (by simp) (dep_of hr 7 (by kernel_rfl))
          go_simp
          exact hK _ _ ⟨upd t 78 (.pointer (some (ad1.add pl))),by simp[upd,e1,e2],hR.yields hR.fin (fun _ _ h=>h) rfl rfl⟩
         | 9,_,hr=>
          as_aux_lemma=>
          refine wpOp_step rfl (fun K' hK=>?_)
          have e1:t 78=.pointer (some (ad1.add pl)):=hR.val (8,78) (by simp) (dep_of hr 8 (by kernel_rfl))
          obtain rfl:wy=wi.drew:=hR.fin
          go_simp
          exact hK _ _ ⟨upd t 79 (.slice (some ad2) n c2),by simp[upd,e1],hR.yields hR.fin (fun _ _ h=>h) rfl rfl⟩
         | 10,_,hr=>
          as_aux_lemma=>
          refine wpOp_step rfl (fun K' hK=>?_)
          have e1:t 79=.slice (some ad2) n c2:=hR.val (9,79) (by simp) (dep_of hr 9 (by kernel_rfl))
          go_simp
          exact hK _ _ ⟨upd t 13 (.slice (some ad2) n c2),by simp[upd,e1],hR.yields hR.fin (fun _ _ h=>h) rfl rfl⟩
         | nx+11,hix,_=>exact absurd (show nx+11<11 from hix) (by omega)
        rintro listed a2 W2 ⟨t,rfl,hR⟩ hl
        obtain rfl:W2=wi.drew:=hR.fin
        have e13:t 13=.slice (some ad2) n c2:=hR.val (10,13) (by simp) (hl 10 (by decide))
        have e70:t 70=.pointer (some ⟨w.heap.size,1,none⟩):=hR.val (0,70) (by simp) (hl 0 (by decide))
        have e71:t 71=.slice (some ad) fs.length c:=hR.val (1,71) (by simp) (hl 1 (by decide))
        have e72:t 72=.pointer (some ⟨B+1,0,none⟩):=hR.val (2,72) (by simp) (hl 2 (by decide))
        have e73:t 73=.int .i64 pf:=hR.val (3,73) (by simp) (hl 3 (by decide))
        have e74:t 74=.pointer (some (ad.add pf)):=hR.val (4,74) (by simp) (hl 4 (by decide))
        have e75:t 75=.slice (some ad1) (fcA fs pf).length c1:=hR.val (5,75) (by simp) (hl 5 (by decide))
        have e76:t 76=.pointer (some ⟨B+1,1,none⟩):=hR.val (6,76) (by simp) (hl 6 (by decide))
        have e77:t 77=.int .i64 pl:=hR.val (7,77) (by simp) (hl 7 (by decide))
        have e78:t 78=.pointer (some (ad1.add pl)):=hR.val (8,78) (by simp) (hl 8 (by decide))
        have e79:t 79=.slice (some ad2) n c2:=hR.val (9,79) (by simp) (hl 9 (by decide))
        clear hR hl
        rw[e13,e70,e71,e72,e73,e74,e75,e76,e77,e78,e79]
        clear e13 e70 e71 e72 e73 e74 e75 e76 e77 e78 e79
        have HRN:=Lib.hid (HRN.out.grown (grown_drew wi))
        have HP10:=Lib.hid (HP10.out.kept (grown_drew wi) (by simp))
        have HP11:=Lib.hid (HP11.out.kept (grown_drew wi) (by simp))
        clear m0 m1 k0 k1 k2 hc0 hc1 b0 b1
        generalize wi.drew=wj at HRN HP10 HP11 ⊢
        obtain⟨⟨m0,m1⟩,⟨k0,k1⟩,k2⟩:=HRN.out.1.facts
        by_cases hn1:n=1
        ·have HK0:Hid ((lpA fs x.f x.l).length=1):=by
          by_cases hk0:0<k'
          ·exact absurd (HNL.out.symm.trans hn1) (HIT.out.2.2.1 hk0).1
          ·obtain rfl:k'=0:=by omega
           have e:=HIT.out.1
           have e1:x.f=pf:=congrArg (fun p=>p.1) e
           have e2:x.l=pl:=congrArg (fun p=>p.2.1) e
           show _=_
           rw[e1,e2];exact HNL.out.symm.trans hn1
         subst hn1
         by_cases hl1:1<len
         ·have hl1z:(1:Int)<(len:Int):=by omega
          have HNR:Hid (¬ RightP M fs):=HNO.out (fun h=>by
           have h2:=(node_cons.1 h).1 HK0.out
           have h3:=HLEN.out
           rw[h2] at h3;simp at h3;omega)
          go_wp2
          (try rw[Exit.noGoto_ret])
          obtain⟨hx2,hxK,hxB⟩:=HRN.out.ret HSZ.out.1 false
          refine⟨by simp,.inl ⟨_,_,rfl,run_takeDeferred hxK,?_⟩⟩
          have kx:=cell_kept hx2.cell (grownBy_putObj' _ Dd (.deferred none)) (fun r e=>by cases e;exact⟨_,hxK,rfl⟩)
          refine⟨.bool false,?_,⟨false,rfl,by simpa using HNR.out⟩,hxB.trans (belowK_b (w:=w) (Nat.le_refl _) _ Dd _ _ (by have:=HSZ.out;omega) hxK rfl rfl)⟩
          simp[results,Try.f42,go_sem,kx]
         ·have hl1z:¬ (1:Int)<(len:Int):=by omega
          have HND2:=Lib.hid (HYE.out (node_cons.2 ⟨fun _=>by
           have h3:=HLEN.out
           cases rest with
           | nil=>rfl
           | cons a r=>simp at h3;omega,fun h=>absurd HK0.out h⟩))
          go_wp2
          go_roundw
          case rel=>exact⟨v+1,by omega,by go_num,HRN,HND2⟩
          case measure=>simp[intOf];omega
        ·have hn1z:((n:Int) == 1)=false:=beq_eq_false_iff_ne.2 (by omega)
         have HX1:Hid ((lpA fs x.f x.l).length≠1):=by
          by_cases hk0:0<k'
          ·exact(HIT.out.2.2.1 hk0).2
          ·obtain rfl:k'=0:=by omega
           have e:=HIT.out.1
           have e1:x.f=pf:=congrArg (fun p=>p.1) e
           have e2:x.l=pl:=congrArg (fun p=>p.2.1) e
           show _≠_
           rw[e1,e2];exact fun h=>hn1 (HNL.out.trans h)
         have HP1:Hid ((lpA fs pf pl).length≠1):=fun h=>hn1 (HNL.out.trans h)
         obtain⟨y,hyd⟩:∃y,y=oppP (dartsA fs (plsA fs)) (pvA fs pf pl pi):=⟨_,rfl⟩
         obtain⟨q,hq⟩:∃q:Nat,q=pi+1:=⟨_,rfl⟩
         obtain⟨pa,hpa⟩:∃pa:Nat,pa=q % n:=⟨_,rfl⟩
         have hpan:pa<n:=by rw[hpa];exact Nat.mod_lt _ (by omega)
         obtain⟨xa,hxa⟩:∃xa,xa=(pvA fs pf pl pi).a:=⟨_,rfl⟩
         obtain⟨xv,hxv⟩:∃xv,xv=(pvA fs pf pl pi).v:=⟨_,rfl⟩
         have HY:Hid (y∈dartsA fs (plsA fs)∧y.v=xa∧y.a=xv):=by
          rw[hyd,hxa,hxv];exact oppP_spec HOK.out (dart_of HIT.out.2.1 HP1.out)
         have HSTEP:Hid (iterP fs (dartsA fs (plsA fs)) (pl3 x) (k'+1)=(y.f,y.l,(y.i+1) % (lpA fs y.f y.l).length)):=by
          show stepP fs (dartsA fs (plsA fs)) (iterP fs (dartsA fs (plsA fs)) (pl3 x) k')=_
          rw[HIT.out.1,hyd];rfl
         have HIN:Hid (IsP fs (y.f,y.l,(y.i+1) % (lpA fs y.f y.l).length)∧(lpA fs y.f y.l).length≠1):=by
          rw[hyd];exact stepP_is HOK.out HIT.out.2.1 HP1.out
         have HXV:Hid (w.cell? (ad2.add pi)=some (.int .i64 xv)):=by
          obtain⟨ad',e,h⟩:=HR1.out.at (i:=pi) (by rw[←HNL.out];exact hipi)
          cases e;rw[hxv];exact h
         have HXA:Hid (w.cell? (ad2.add pa)=some (.int .i64 xa)):=by
          obtain⟨ad',e,h⟩:=HR1.out.at (i:=pa) (by rw[←HNL.out];exact hpan)
          cases e;show _=_;rw[h,hxa,hpa,hq,HNL.out];rfl
         have hpaz:(pa:Int)<(n:Int):=by omega
         have hwp:IntKind.i64.wrap ((pi:Int)+1)=(q:Int):=by rw[IntKind.wrap_i64];omega
         have hm1:Int.tmod (q:Int) (n:Int)=(pa:Int):=by rw[hpa];rfl
         have hm1e:(q:Int) % (n:Int)=(pa:Int):=by rw[hpa];rfl
         have hnz:¬ (n:Int)=0:=by omega
         have hnn:¬ n=0:=by omega
         clear hyd hxa hxv hpa hq
         go_upto_region 25 with fail
         (try rw[hn1z])
         refine wp_region_inv' (by kernel_rfl) (by kernel_rfl) (fun listed aa wy=>∃t:Nat→Value,aa={ tmps:=#[.agg #[.int .i64 M,.slice (some ad) fs.length c],.pointer (some ⟨w.heap.size,0,none⟩),.pointer (some ⟨w.heap.size+1,0,none⟩),.pointer (some ⟨G+1,0,none⟩),undef,undef,.map (some k),.bool true,undef,.slice (some ⟨g,0,none⟩) len cap,.pointer (some ⟨B,0,none⟩),.pointer (some ⟨B+1,0,none⟩),.int .i64 ((k':Int)+1),.slice (some ad2) n c2,t 14,u15,.agg #[.int .i64 M,.slice (some ad) fs.length c],.bool true,.bool false,.pointer (some ⟨w.heap.size,0,none⟩),.int .i64 M,.slice (some ⟨G,0,none⟩) M M,.agg #[.int .i64 M,.slice (some ad) fs.length c],.func (.func 86) #[] #[.pointer (some ⟨G+1+1,0,none⟩)],undef,undef,undef,undef,undef,undef,undef,undef,undef,undef,undef,undef,undef,undef,undef,undef,undef,undef,undef,undef,undef,undef,undef,undef,.tuple #[.map (some k),.bool true],.agg #[.int .i64 M,.slice (some ad) fs.length c],.tuple #[.map (some k),.bool true],.map (some k),.bool true,.bool true,.bool false,.slice (some ⟨G,0,none⟩) M M,.int .i64 M,.int .i64 v,.bool true,.pointer (some ⟨G,v,none⟩),.slice (some ⟨g,0,none⟩) len cap,.slice (some ⟨g,0,none⟩) len cap,.int .i64 len,.bool false,.slice (some ⟨g,0,none⟩) len cap,.pointer (some ⟨g,0,none⟩),.agg #[.int .i64 x.f,.int .i64 x.l,.int .i64 x.i],.agg #[.int .i64 x.f,.int .i64 x.l,.int .i64 x.i],.int .i64 k',.int .i64 ((k':Int)+1),.pointer (some ⟨w.heap.size,1,none⟩),.slice (some ad) fs.length c,.pointer (some ⟨B+1,0,none⟩),.int .i64 pf,.pointer (some (ad.add pf)),.slice (some ad1) (fcA fs pf).length c1,.pointer (some ⟨B+1,1,none⟩),.int .i64 pl,.pointer (some (ad1.add pl)),.slice (some ad2) n c2,.slice (some ad2) n c2,.int .i64 n,.bool false,u83,u84,u85,t 86,t 87,t 88,t 89,t 90,t 91,t 92,t 93,t 94,t 95,t 96,t 97,t 98,t 99,t 100,t 101,t 102,u103,u104,u105,u106,u107,u108,u109,u110,u111,u112,u113,u114,u115,u116,u117,u118,u119,u120,u121,u122,u123,u124,u125,u126,u127,u128,u129,u130,u131,u132,u133,u134,u135],defers:=[{ target:=Target.collected Dd,args:=#[] }] }∧IRK (fun _=>True) 999 18 (fun t W=>∃b,t 14=.pointer (some ⟨b,0,none⟩)∧B+1<b∧Blk W b (.cells #[.int .i64 y.f,.int .i64 y.l,.int .i64 y.i] 45)) (fun wz=>RN M (some ad) fs c w G W0.heap.size M (dartsA fs (plsA fs)) k Dd vs wz∧Blk wz B (.cells #[.int .i64 x.f,.int .i64 x.l,.int .i64 x.i] 45)∧Blk wz (B+1) (.cells #[.int .i64 pf,.int .i64 pl,.int .i64 pi] 45)) (S25 k B pi n pa q ad2 c2 xa xv y) [(0,86),(1,87),(2,88),(3,89),(4,90),(5,91),(6,92),(7,93),(8,94),(9,95),(10,96),(11,97),(12,98),(13,99),(14,100),(15,101),(16,102),(17,14)] listed t wy) ⟨(fun d=>match d with | 14=>u14 | 86=>u86 | 87=>u87 | 88=>u88 | 89=>u89 | 90=>u90 | 91=>u91 | 92=>u92 | 93=>u93 | 94=>u94 | 95=>u95 | 96=>u96 | 97=>u97 | 98=>u98 | 99=>u99 | 100=>u100 | 101=>u101 | 102=>u102 | _=>undef),rfl,IRK.start _ ⟨HRN.out.grown (grown_drew wj),HP10.out.kept (grown_drew wj) (by simp),HP11.out.kept (grown_drew wj) (by simp)⟩ trivial _⟩ ?_ ?_
         rotate_left
         ·rintro listed hCl ix hix aa wy ⟨t,rfl,hR⟩ hr
          match ix,hix,hr with
          | 0,_,hr=>
           as_aux_lemma=>
           refine wpOp_step rfl (fun K' hK=>?_)
           go_simp
           exact hK _ _ ⟨upd t 86 (.map (some k)),rfl,hR.yields hCl hr (by decide) (by decide) (by kernel_rfl) hR.fin (fun h=>h) (fun _ _ h=>h) rfl rfl⟩
          | 1,_,hr=>
           as_aux_lemma=>
           refine wpOp_step rfl (fun K' hK=>?_)
           go_simp
           exact hK _ _ ⟨upd t 87 (.slice (some ad2) n c2),rfl,hR.yields hCl hr (by decide) (by decide) (by kernel_rfl) hR.fin (fun h=>h) (fun _ _ h=>h) rfl rfl⟩
          | 2,_,hr=>
           as_aux_lemma=>
           refine wpOp_step rfl (fun K' hK=>?_)
           go_simp
           exact hK _ _ ⟨upd t 88 (.pointer (some ⟨B+1,2,none⟩)),rfl,hR.yields hCl hr (by decide) (by decide) (by kernel_rfl) hR.fin (fun h=>h) (fun _ _ h=>h) rfl rfl⟩
          | 3,_,hr=>
           as_aux_lemma=>
           refine wpOp_step rfl (fun K' hK=>?_)
           have e1:t 88=.pointer (some ⟨B+1,2,none⟩):=hR.val hCl hr (by kernel_rfl) (2,88) (by simp) (dep_of hr 2 (by kernel_rfl))
           have f0:=(blk_cells hR.fin.2.2).1 2 _ rfl
           go_simp
           exact hK _ _ ⟨upd t 89 (.int .i64 pi),by simp[upd,e1],hR.yields hCl hr (by decide) (by decide) (by kernel_rfl) hR.fin (fun h=>h) (fun _ _ h=>h) rfl rfl⟩
          | 4,_,hr=>
           as_aux_lemma=>
           refine wpOp_step rfl (fun K' hK=>?_)
           have e1:t 89=.int .i64 pi:=hR.val hCl hr (by kernel_rfl) (3,89) (by simp) (dep_of hr 3 (by kernel_rfl))
           go_simp
           exact hK _ _ ⟨upd t 90 (.int .i64 q),by simp[upd,e1],hR.yields hCl hr (by decide) (by decide) (by kernel_rfl) hR.fin (fun h=>h) (fun _ _ h=>h) rfl rfl⟩
          | 5,_,hr=>
           as_aux_lemma=>
           refine wpOp_step rfl (fun K' hK=>?_)
           go_simp
           exact hK _ _ ⟨upd t 91 (.slice (some ad2) n c2),rfl,hR.yields hCl hr (by decide) (by decide) (by kernel_rfl) hR.fin (fun h=>h) (fun _ _ h=>h) rfl rfl⟩
          | 6,_,hr=>
           as_aux_lemma=>
           refine wpOp_step rfl (fun K' hK=>?_)
           have e1:t 91=.slice (some ad2) n c2:=hR.val hCl hr (by kernel_rfl) (5,91) (by simp) (dep_of hr 5 (by kernel_rfl))
           go_simp
           exact hK _ _ ⟨upd t 92 (.int .i64 n),by simp[upd,e1],hR.yields hCl hr (by decide) (by decide) (by kernel_rfl) hR.fin (fun h=>h) (fun _ _ h=>h) rfl rfl⟩
          | 7,_,hr=>
           as_aux_lemma=>
           refine wpOp_step rfl (fun K' hK=>?_)
           have e1:t 90=.int .i64 q:=hR.val hCl hr (by kernel_rfl) (4,90) (by simp) (dep_of hr 4 (by kernel_rfl))
           have e2:t 92=.int .i64 n:=hR.val hCl hr (by kernel_rfl) (6,92) (by simp) (dep_of hr 6 (by kernel_rfl))
           go_simp
           exact hK _ _ ⟨upd t 93 (.int .i64 pa),by simp[upd,e1,e2],hR.yields hCl hr (by decide) (by decide) (by kernel_rfl) hR.fin (fun h=>h) (fun _ _ h=>h) rfl rfl⟩
          | 8,_,hr=>
           as_aux_lemma=>
           refine wpOp_step rfl (fun K' hK=>?_)
           have e1:t 87=.slice (some ad2) n c2:=hR.val hCl hr (by kernel_rfl) (1,87) (by simp) (dep_of hr 1 (by kernel_rfl))
           have e2:t 93=.int .i64 pa:=hR.val hCl hr (by kernel_rfl) (7,93) (by simp) (dep_of hr 7 (by kernel_rfl))
           go_simp
           exact hK _ _ ⟨upd t 94 (.pointer (some (ad2.add pa))),by simp[upd,e1,e2],hR.yields hCl hr (by decide) (by decide) (by kernel_rfl) hR.fin (fun h=>h) (fun _ _ h=>h) rfl rfl⟩
          | 9,_,hr=>
           as_aux_lemma=>
           refine wpOp_step rfl (fun K' hK=>?_)
           have e1:t 94=.pointer (some (ad2.add pa)):=hR.val hCl hr (by kernel_rfl) (8,94) (by simp) (dep_of hr 8 (by kernel_rfl))
           have f0:=pw_cell_below hR.fin.1.1.2 HXA.out
           go_simp
           exact hK _ _ ⟨upd t 95 (.int .i64 xa),by simp[upd,e1],hR.yields hCl hr (by decide) (by decide) (by kernel_rfl) hR.fin (fun h=>h) (fun _ _ h=>h) rfl rfl⟩
          | 10,_,hr=>
           as_aux_lemma=>
           refine wpOp_step rfl (fun K' hK=>?_)
           go_simp
           exact hK _ _ ⟨upd t 96 (.slice (some ad2) n c2),rfl,hR.yields hCl hr (by decide) (by decide) (by kernel_rfl) hR.fin (fun h=>h) (fun _ _ h=>h) rfl rfl⟩
          | 11,_,hr=>
           as_aux_lemma=>
           refine wpOp_step rfl (fun K' hK=>?_)
           go_simp
           exact hK _ _ ⟨upd t 97 (.pointer (some ⟨B+1,2,none⟩)),rfl,hR.yields hCl hr (by decide) (by decide) (by kernel_rfl) hR.fin (fun h=>h) (fun _ _ h=>h) rfl rfl⟩
          | 12,_,hr=>
           as_aux_lemma=>
           refine wpOp_step rfl (fun K' hK=>?_)
           have e1:t 97=.pointer (some ⟨B+1,2,none⟩):=hR.val hCl hr (by kernel_rfl) (11,97) (by simp) (dep_of hr 11 (by kernel_rfl))
           have f0:=(blk_cells hR.fin.2.2).1 2 _ rfl
           go_simp
           exact hK _ _ ⟨upd t 98 (.int .i64 pi),by simp[upd,e1],hR.yields hCl hr (by decide) (by decide) (by kernel_rfl) hR.fin (fun h=>h) (fun _ _ h=>h) rfl rfl⟩
          | 13,_,hr=>
           as_aux_lemma=>
           refine wpOp_step rfl (fun K' hK=>?_)
           have e1:t 96=.slice (some ad2) n c2:=hR.val hCl hr (by kernel_rfl) (10,96) (by simp) (dep_of hr 10 (by kernel_rfl))
           have e2:t 98=.int .i64 pi:=hR.val hCl hr (by kernel_rfl) (12,98) (by simp) (dep_of hr 12 (by kernel_rfl))
           go_simp
           exact hK _ _ ⟨upd t 99 (.pointer (some (ad2.add pi))),by simp[upd,e1,e2],hR.yields hCl hr (by decide) (by decide) (by kernel_rfl) hR.fin (fun h=>h) (fun _ _ h=>h) rfl rfl⟩
          | 14,_,hr=>
           as_aux_lemma=>
           refine wpOp_step rfl (fun K' hK=>?_)
           have e1:t 99=.pointer (some (ad2.add pi)):=hR.val hCl hr (by kernel_rfl) (13,99) (by simp) (dep_of hr 13 (by kernel_rfl))
           have f0:=pw_cell_below hR.fin.1.1.2 HXV.out
           go_simp
           exact hK _ _ ⟨upd t 100 (.int .i64 xv),by simp[upd,e1],hR.yields hCl hr (by decide) (by decide) (by kernel_rfl) hR.fin (fun h=>h) (fun _ _ h=>h) rfl rfl⟩
          | 15,_,hr=>
           as_aux_lemma=>
           refine wpOp_step rfl (fun K' hK=>?_)
           have e1:t 95=.int .i64 xa:=hR.val hCl hr (by kernel_rfl) (9,95) (by simp) (dep_of hr 9 (by kernel_rfl))
           have e2:t 100=.int .i64 xv:=hR.val hCl hr (by kernel_rfl) (14,100) (by simp) (dep_of hr 14 (by kernel_rfl))
           go_simp
           exact hK _ _ ⟨upd t 101 (.agg #[.int .i64 xa,.int .i64 xv]),by simp[upd,e1,e2],hR.yields hCl hr (by decide) (by decide) (by kernel_rfl) hR.fin (fun h=>h) (fun _ _ h=>h) rfl rfl⟩
          | 16,_,hr=>
           as_aux_lemma=>
           refine wpOp_step rfl (fun K' hK=>?_)
           have e1:t 86=.map (some k):=hR.val hCl hr (by kernel_rfl) (0,86) (by simp) (dep_of hr 0 (by kernel_rfl))
           have e2:t 101=.agg #[.int .i64 xa,.int .i64 xv]:=hR.val hCl hr (by kernel_rfl) (15,101) (by simp) (dep_of hr 15 (by kernel_rfl))
           have hE:=hR.fin.1.2.2.2.1.get HY.out.1
           rw[HY.out.2.1,HY.out.2.2] at hE
           go_simp
           exact hK _ _ ⟨upd t 102 (.agg #[.int .i64 y.f,.int .i64 y.l,.int .i64 y.i]),by simp[upd,e1,e2],hR.yields hCl hr (by decide) (by decide) (by kernel_rfl) hR.fin (fun h=>h) (fun _ _ h=>h) rfl rfl⟩
          | 17,_,hr=>
           as_aux_lemma=>
           refine wpOp_step rfl (fun K' hK=>?_)
           have hg:=World.grownBy_alloc wy (.cells #[.int .i64 0,.int .i64 0,.int .i64 0] 45) none
           have hI2:=hR.fin
           go_simp
           exact hK _ _ ⟨upd t 14 (.pointer (some ⟨wy.heap.size,0,none⟩)),rfl,hR.yields hCl hr (by decide) (by decide) (by kernel_rfl) ⟨hI2.1.grown hg,hI2.2.1.kept hg (by simp),hI2.2.2.kept hg (by simp)⟩ (fun h=>h) (S25.grown hg) ⟨_,rfl,hI2.2.2.lt,blk_new wy _⟩ rfl⟩
          | 18,_,hr=>
           as_aux_lemma=>
           refine wpOp_step rfl (fun K' hK=>?_)
           have e1:t 102=.agg #[.int .i64 y.f,.int .i64 y.l,.int .i64 y.i]:=hR.val hCl hr (by kernel_rfl) (16,102) (by simp) (dep_of hr 16 (by kernel_rfl))
           obtain⟨b,e2,hb,hbl⟩:∃b,t 14=.pointer (some ⟨b,0,none⟩)∧B+1<b∧Blk wy b (.cells #[.int .i64 0,.int .i64 0,.int .i64 0] 45):=hR.val hCl hr (by kernel_rfl) (17,14) (by simp) (dep_of hr 17 (by kernel_rfl))
           have hI2:=hR.fin
           obtain⟨c0,c1⟩:=blk_cells hbl
           have c00:=c0 0 _ rfl
           have c01:=c0 1 _ rfl
           have c02:=c0 2 _ rfl
           have c10:=c1 0
           have c11:=c1 1
           have c12:=c1 2
           obtain⟨hs,hg⟩:=blk_set3 (u:=.int .i64 y.f) (v:=.int .i64 y.l) (q:=.int .i64 y.i) hbl
           have hE:=hR.ends hr (.inr trivial) (by decide) (W1:=((wy.setCell ⟨b,0,none⟩ (.int .i64 y.f)).setCell ⟨b,1,none⟩ (.int .i64 y.l)).setCell ⟨b,2,none⟩ (.int .i64 y.i)) ⟨hI2.1.kept hg (fun r e=>by cases e;have:=HSZ.out;exact⟨by omega,by omega,by omega,by omega,by omega,fun i hi e=>by have:=hvo.out i hi _ e;omega⟩),hI2.2.1.kept hg (fun e=>by cases e;omega),hI2.2.2.kept hg (fun e=>by cases e;omega)⟩ ⟨b,e2,hb,hs⟩
           clear hs hg hbl hI2
           go_simp
           exact hK _ _ ⟨t,by simp[e1,e2],hE⟩
          | nx+19,hix,_=>exact absurd (show nx+19<19 from hix) (by omega)
         rintro listed a2 W2 ⟨t,rfl,hR⟩ hl
         obtain⟨b,e14,hb,hbl⟩:=hR.new (hl 18 (by decide))
         have hI2:=hR.fin
         clear hR hl
         rw[e14]
         clear e14
         generalize t 86=u86
         generalize t 87=u87
         generalize t 88=u88
         generalize t 89=u89
         generalize t 90=u90
         generalize t 91=u91
         generalize t 92=u92
         generalize t 93=u93
         generalize t 94=u94
         generalize t 95=u95
         generalize t 96=u96
         generalize t 97=u97
         generalize t 98=u98
         generalize t 99=u99
         generalize t 100=u100
         generalize t 101=u101
         generalize t 102=u102
         have HRN:=Lib.hid hI2.1
         have HP10:=Lib.hid hI2.2.1
         have HP11:=Lib.hid hI2.2.2
         have HPB:=Lib.hid hbl
         clear hI2 hbl m0 m1 k0 k1 k2
         rename World=>WB
         obtain⟨⟨m0,m1⟩,⟨k0,k1⟩,k2⟩:=HRN.out.1.facts
         have hIY:=(isP_of (List.mem_filter.1 HY.out.1).1).1
         obtain⟨ad',A3,c3,e,hc3,hl3,hr3⟩:=HF.out.at hIY.1
         cases e
         obtain⟨ad3,A5,c5,rfl,hc5,hl5,hr5⟩:=hr3.atP hIY.2.1
         have hyin:y.i<(lpA fs y.f y.l).length:=hIY.2.2
         obtain⟨ny,hny⟩:∃ny,ny=(lpA fs y.f y.l).length:=⟨_,rfl⟩
         have hny1:=HS.out.2.2 y.f y.l
         have hc3:w.cell? (ad.add y.f)=some (.slice (some ad3) (fcA fs y.f).length c3):=hc3
         have hc5:w.cell? (ad3.add y.l)=some (.slice A5 (lpA fs y.f y.l).length c5):=hc5
         have hl5:(lpA fs y.f y.l).length≤c5:=hl5
         rw[←hny] at hc5 hl5 hyin hny1
         have hc3:=pw_cell_below HRN.out.1.2 hc3
         have hc5:=pw_cell_below HRN.out.1.2 hc5
         have hyfz:(y.f:Int)<(fs.length:Int):=by have h:y.f<fs.length:=hIY.1;omega
         have hylz:(y.l:Int)<((fcA fs y.f).length:Int):=by have h:y.l<(fcA fs y.f).length:=hIY.2.1;omega
         have d0:=(blk_cells HPB.out).1 0 _ rfl
         have d1:=(blk_cells HPB.out).1 1 _ rfl
         obtain⟨q2,hq2⟩:∃q2:Nat,q2=y.i+1:=⟨_,rfl⟩
         obtain⟨ya,hya⟩:∃ya:Nat,ya=q2 % ny:=⟨_,rfl⟩
         have HSTEP:Hid (iterP fs (dartsA fs (plsA fs)) (pl3 x) (k'+1)=(y.f,y.l,ya)):=by
          rw[hya,hq2,hny];exact HSTEP
         have HIN:Hid (IsP fs (y.f,y.l,ya)∧(lpA fs y.f y.l).length≠1):=by
          rw[hya,hq2,hny];exact HIN
         have hwq:IntKind.i64.wrap ((y.i:Int)+1)=(q2:Int):=by rw[IntKind.wrap_i64];omega
         have hm2:Int.tmod (q2:Int) (ny:Int)=(ya:Int):=by rw[hya];rfl
         have hm2e:(q2:Int) % (ny:Int)=(ya:Int):=by rw[hya];rfl
         have hnyz:¬ (ny:Int)=0:=by omega
         have hnyn:¬ ny=0:=by omega
         clear hIY hr3 hr5 hny hya hq2
         go_upto_region 26 with fail
         refine wp_region_inv' (by kernel_rfl) (by kernel_rfl) (fun listed aa wy=>∃t:Nat→Value,aa={ tmps:=#[.agg #[.int .i64 M,.slice (some ad) fs.length c],.pointer (some ⟨w.heap.size,0,none⟩),.pointer (some ⟨w.heap.size+1,0,none⟩),.pointer (some ⟨G+1,0,none⟩),undef,undef,.map (some k),.bool true,undef,.slice (some ⟨g,0,none⟩) len cap,.pointer (some ⟨B,0,none⟩),.pointer (some ⟨B+1,0,none⟩),.int .i64 ((k':Int)+1),.slice (some ad2) n c2,.pointer (some ⟨b,0,none⟩),t 15,.agg #[.int .i64 M,.slice (some ad) fs.length c],.bool true,.bool false,.pointer (some ⟨w.heap.size,0,none⟩),.int .i64 M,.slice (some ⟨G,0,none⟩) M M,.agg #[.int .i64 M,.slice (some ad) fs.length c],.func (.func 86) #[] #[.pointer (some ⟨G+1+1,0,none⟩)],undef,undef,undef,undef,undef,undef,undef,undef,undef,undef,undef,undef,undef,undef,undef,undef,undef,undef,undef,undef,undef,undef,undef,undef,.tuple #[.map (some k),.bool true],.agg #[.int .i64 M,.slice (some ad) fs.length c],.tuple #[.map (some k),.bool true],.map (some k),.bool true,.bool true,.bool false,.slice (some ⟨G,0,none⟩) M M,.int .i64 M,.int .i64 v,.bool true,.pointer (some ⟨G,v,none⟩),.slice (some ⟨g,0,none⟩) len cap,.slice (some ⟨g,0,none⟩) len cap,.int .i64 len,.bool false,.slice (some ⟨g,0,none⟩) len cap,.pointer (some ⟨g,0,none⟩),.agg #[.int .i64 x.f,.int .i64 x.l,.int .i64 x.i],.agg #[.int .i64 x.f,.int .i64 x.l,.int .i64 x.i],.int .i64 k',.int .i64 ((k':Int)+1),.pointer (some ⟨w.heap.size,1,none⟩),.slice (some ad) fs.length c,.pointer (some ⟨B+1,0,none⟩),.int .i64 pf,.pointer (some (ad.add pf)),.slice (some ad1) (fcA fs pf).length c1,.pointer (some ⟨B+1,1,none⟩),.int .i64 pl,.pointer (some (ad1.add pl)),.slice (some ad2) n c2,.slice (some ad2) n c2,.int .i64 n,.bool false,u83,u84,u85,u86,u87,u88,u89,u90,u91,u92,u93,u94,u95,u96,u97,u98,u99,u100,u101,u102,t 103,t 104,t 105,t 106,t 107,t 108,t 109,t 110,t 111,t 112,u113,u114,u115,u116,u117,u118,u119,u120,u121,u122,u123,u124,u125,u126,u127,u128,u129,u130,u131,u132,u133,u134,u135],defers:=[{ target:=Target.collected Dd,args:=#[] }] }∧IR (fun wz=>wz=WB.drew) (fun d (_:World) v=>match d with | 103=>v=.pointer (some ⟨w.heap.size,1,none⟩) | 104=>v=.slice (some ad) fs.length c | 105=>v=.pointer (some ⟨b,0,none⟩) | 106=>v=.int .i64 y.f | 107=>v=.pointer (some (ad.add y.f)) | 108=>v=.slice (some ad3) (fcA fs y.f).length c3 | 109=>v=.pointer (some ⟨b,1,none⟩) | 110=>v=.int .i64 y.l | 111=>v=.pointer (some (ad3.add y.l)) | 112=>v=.slice A5 ny c5 | 15=>v=.slice A5 ny c5 | _=>True) [(0,103),(1,104),(2,105),(3,106),(4,107),(5,108),(6,109),(7,110),(8,111),(9,112),(10,15)] listed t wy) ⟨(fun d=>match d with | 15=>u15 | 103=>u103 | 104=>u104 | 105=>u105 | 106=>u106 | 107=>u107 | 108=>u108 | 109=>u109 | 110=>u110 | 111=>u111 | 112=>u112 | _=>undef),rfl,IR.start _ (by rfl) _⟩ ?_ ?_
         rotate_left
         ·rintro listed hCl ix hix aa wy ⟨t,rfl,hR⟩ hr
          match ix,hix,hr with
          | 0,_,hr=>
           as_aux_lemma=>
           refine wpOp_step rfl (fun K' hK=>?_)
           go_simp
           exact hK _ _ ⟨upd t 103 (.pointer (some ⟨w.heap.size,1,none⟩)),rfl,hR.yields hR.fin (fun _ _ h=>h) rfl rfl⟩
          | 1,_,hr=>
           as_aux_lemma=>
           refine wpOp_step rfl (fun K' hK=>?_)
           have e1:t 103=.pointer (some ⟨w.heap.size,1,none⟩):=hR.val (0,103) (by simp) (dep_of hr 0 (by kernel_rfl))
           obtain rfl:wy=WB.drew:=hR.fin
           go_simp
           exact hK _ _ ⟨upd t 104 (.slice (some ad) fs.length c),by simp[upd,e1],hR.yields hR.fin (fun _ _ h=>h) rfl rfl⟩
          | 2,_,hr=>
           as_aux_lemma=>
           refine wpOp_step rfl (fun K' hK=>?_)
           go_simp
           exact hK _ _ ⟨upd t 105 (.pointer (some ⟨b,0,none⟩)),rfl,hR.yields hR.fin (fun _ _ h=>h) rfl rfl⟩
          | 3,_,hr=>
           as_aux_lemma=>
           refine wpOp_step rfl (fun K' hK=>?_)
           have e1:t 105=.pointer (some ⟨b,0,none⟩):=hR.val (2,105) (by simp) (dep_of hr 2 (by kernel_rfl))
           obtain rfl:wy=WB.drew:=hR.fin
           go_simp
           exact hK _ _ ⟨upd t 106 (.int .i64 y.f),by simp[upd,e1],hR.yields hR.fin (fun _ _ h=>h) rfl rfl⟩
          | 4,_,hr=>
           as_aux_lemma=>
           refine wpOp_step rfl (fun K' hK=>?_)
           have e1:t 104=.slice (some ad) fs.length c:=hR.val (1,104) (by simp) (dep_of hr 1 (by kernel_rfl))
           have e2:t 106=.int .i64 y.f:=hR.val (3,106) (by simp) (dep_of hr 3 (by kernel_rfl))
           go_simp
           exact hK _ _ ⟨upd t 107 (.pointer (some (ad.add y.f))),by simp[upd,e1,e2],hR.yields hR.fin (fun _ _ h=>h) rfl rfl⟩
          | 5,_,hr=>
           as_aux_lemma=>
           refine wpOp_step rfl (fun K' hK=>?_)
           have e1:t 107=.pointer (some (ad.add y.f)):=hR.val (4,107) (by simp) (dep_of hr 4 (by kernel_rfl))
           obtain rfl:wy=WB.drew:=hR.fin
           go_simp
           exact hK _ _ ⟨upd t 108 (.slice (some ad3) (fcA fs y.f).length c3),by simp[upd,e1],hR.yields hR.fin (fun _ _ h=>h) rfl rfl⟩
          | 6,_,hr=>
           as_aux_lemma=>
           refine wpOp_step rfl (fun K' hK=>?_)
           go_simp
           exact hK _ _ ⟨upd t 109 (.pointer (some ⟨b,1,none⟩)),rfl,hR.yields hR.fin (fun _ _ h=>h) rfl rfl⟩
          | 7,_,hr=>
           as_aux_lemma=>
           refine wpOp_step rfl (fun K' hK=>?_)
           have e1:t 109=.pointer (some ⟨b,1,none⟩):=hR.val (6,109) (by simp) (dep_of hr 6 (by kernel_rfl))
           obtain rfl:wy=WB.drew:=hR.fin
           go_simp
           exact hK _ _ ⟨upd t 110 (.int .i64 y.l),by simp[upd,e1],hR.yields hR.fin (fun _ _ h=>h) rfl rfl⟩
          | 8,_,hr=>
           as_aux_lemma=>
           refine wpOp_step rfl (fun K' hK=>?_)
           have e1:t 108=.slice (some ad3) (fcA fs y.f).length c3:=hR.val (5,108) (by simp) (dep_of hr 5 (by kernel_rfl))
           have e2:t 110=.int .i64 y.l:=hR.val (7,110) (by simp) (dep_of hr 7 (by kernel_rfl))
           go_simp
           exact hK _ _ ⟨upd t 111 (.pointer (some (ad3.add y.l))),by simp[upd,e1,e2],hR.yields hR.fin (fun _ _ h=>h) rfl rfl⟩
          | 9,_,hr=>
           as_aux_lemma=>
           refine wpOp_step rfl (fun K' hK=>?_)
           have e1:t 111=.pointer (some (ad3.add y.l)):=hR.val (8,111) (by simp) (dep_of hr 8 (by kernel_rfl))
           obtain rfl:wy=WB.drew:=hR.fin
           go_simp
           exact hK _ _ ⟨upd t 112 (.slice A5 ny c5),by simp[upd,e1],hR.yields hR.fin (fun _ _ h=>h) rfl rfl⟩
          | 10,_,hr=>
           as_aux_lemma=>
           refine wpOp_step rfl (fun K' hK=>?_)
           have e1:t 112=.slice A5 ny c5:=hR.val (9,112) (by simp) (dep_of hr 9 (by kernel_rfl))
           go_simp
           exact hK _ _ ⟨upd t 15 (.slice A5 ny c5),by simp[upd,e1],hR.yields hR.fin (fun _ _ h=>h) rfl rfl⟩
          | nx+11,hix,_=>exact absurd (show nx+11<11 from hix) (by omega)
         rintro listed a2 W2 ⟨t,rfl,hR⟩ hl
         obtain rfl:W2=WB.drew:=hR.fin
         have e15:t 15=.slice A5 ny c5:=hR.val (10,15) (by simp) (hl 10 (by decide))
         have e103:t 103=.pointer (some ⟨w.heap.size,1,none⟩):=hR.val (0,103) (by simp) (hl 0 (by decide))
         have e104:t 104=.slice (some ad) fs.length c:=hR.val (1,104) (by simp) (hl 1 (by decide))
         have e105:t 105=.pointer (some ⟨b,0,none⟩):=hR.val (2,105) (by simp) (hl 2 (by decide))
         have e106:t 106=.int .i64 y.f:=hR.val (3,106) (by simp) (hl 3 (by decide))
         have e107:t 107=.pointer (some (ad.add y.f)):=hR.val (4,107) (by simp) (hl 4 (by decide))
         have e108:t 108=.slice (some ad3) (fcA fs y.f).length c3:=hR.val (5,108) (by simp) (hl 5 (by decide))
         have e109:t 109=.pointer (some ⟨b,1,none⟩):=hR.val (6,109) (by simp) (hl 6 (by decide))
         have e110:t 110=.int .i64 y.l:=hR.val (7,110) (by simp) (hl 7 (by decide))
         have e111:t 111=.pointer (some (ad3.add y.l)):=hR.val (8,111) (by simp) (hl 8 (by decide))
         have e112:t 112=.slice A5 ny c5:=hR.val (9,112) (by simp) (hl 9 (by decide))
         clear hR hl
         rw[e15]
         clear e15 e103 e104 e105 e106 e107 e108 e109 e110 e111 e112
         generalize t 103=u103
         generalize t 104=u104
         generalize t 105=u105
         generalize t 106=u106
         generalize t 107=u107
         generalize t 108=u108
         generalize t 109=u109
         generalize t 110=u110
         generalize t 111=u111
         generalize t 112=u112
         clear m0 m1 k0 k1 k2 d0 d1 hc3 hc5
         have HRN:=Lib.hid (HRN.out.grown (grown_drew WB))
         have HP10:=Lib.hid (HP10.out.kept (grown_drew WB) (by simp))
         have HP11:=Lib.hid (HP11.out.kept (grown_drew WB) (by simp))
         have HPB:=Lib.hid (HPB.out.kept (grown_drew WB) (by simp))
         generalize WB.drew=W3 at HRN HP10 HP11 HPB ⊢
         go_upto_region 27 with fail
         refine wp_region_inv' (by kernel_rfl) (by kernel_rfl) (fun listed aa wy=>∃t:Nat→Value,aa={ tmps:=#[.agg #[.int .i64 M,.slice (some ad) fs.length c],.pointer (some ⟨w.heap.size,0,none⟩),.pointer (some ⟨w.heap.size+1,0,none⟩),.pointer (some ⟨G+1,0,none⟩),undef,undef,.map (some k),.bool true,undef,.slice (some ⟨g,0,none⟩) len cap,.pointer (some ⟨B,0,none⟩),.pointer (some ⟨B+1,0,none⟩),.int .i64 ((k':Int)+1),.slice (some ad2) n c2,.pointer (some ⟨b,0,none⟩),.slice A5 ny c5,.agg #[.int .i64 M,.slice (some ad) fs.length c],.bool true,.bool false,.pointer (some ⟨w.heap.size,0,none⟩),.int .i64 M,.slice (some ⟨G,0,none⟩) M M,.agg #[.int .i64 M,.slice (some ad) fs.length c],.func (.func 86) #[] #[.pointer (some ⟨G+1+1,0,none⟩)],undef,undef,undef,undef,undef,undef,undef,undef,undef,undef,undef,undef,undef,undef,undef,undef,undef,undef,undef,undef,undef,undef,undef,undef,.tuple #[.map (some k),.bool true],.agg #[.int .i64 M,.slice (some ad) fs.length c],.tuple #[.map (some k),.bool true],.map (some k),.bool true,.bool true,.bool false,.slice (some ⟨G,0,none⟩) M M,.int .i64 M,.int .i64 v,.bool true,.pointer (some ⟨G,v,none⟩),.slice (some ⟨g,0,none⟩) len cap,.slice (some ⟨g,0,none⟩) len cap,.int .i64 len,.bool false,.slice (some ⟨g,0,none⟩) len cap,.pointer (some ⟨g,0,none⟩),.agg #[.int .i64 x.f,.int .i64 x.l,.int .i64 x.i],.agg #[.int .i64 x.f,.int .i64 x.l,.int .i64 x.i],.int .i64 k',.int .i64 ((k':Int)+1),.pointer (some ⟨w.heap.size,1,none⟩),.slice (some ad) fs.length c,.pointer (some ⟨B+1,0,none⟩),.int .i64 pf,.pointer (some (ad.add pf)),.slice (some ad1) (fcA fs pf).length c1,.pointer (some ⟨B+1,1,none⟩),.int .i64 pl,.pointer (some (ad1.add pl)),.slice (some ad2) n c2,.slice (some ad2) n c2,.int .i64 n,.bool false,u83,u84,u85,u86,u87,u88,u89,u90,u91,u92,u93,u94,u95,u96,u97,u98,u99,u100,u101,u102,u103,u104,u105,u106,u107,u108,u109,u110,u111,u112,t 113,t 114,t 115,t 116,t 117,t 118,t 119,t 120,t 121,t 122,t 123,u124,u125,u126,u127,u128,u129,u130,u131,u132,u133,u134,u135],defers:=[{ target:=Target.collected Dd,args:=#[] }] }∧IRK (fun _=>True) 999 11 (fun _ W=>Blk W (B+1) (.cells #[.int .i64 y.f,.int .i64 y.l,.int .i64 ya] 45)) (fun wz=>RN M (some ad) fs c w G W0.heap.size M (dartsA fs (plsA fs)) k Dd vs wz∧Blk wz B (.cells #[.int .i64 x.f,.int .i64 x.l,.int .i64 x.i] 45)∧Blk wz b (.cells #[.int .i64 y.f,.int .i64 y.l,.int .i64 y.i] 45)∧∃p q r,Blk wz (B+1) (.cells #[p,q,r] 45)) (fun d (_:World) v=>match d with | 113=>v=.pointer (some ⟨b,0,none⟩) | 114=>v=.int .i64 y.f | 115=>v=.pointer (some ⟨b,1,none⟩) | 116=>v=.int .i64 y.l | 117=>v=.pointer (some ⟨b,2,none⟩) | 118=>v=.int .i64 y.i | 119=>v=.int .i64 q2 | 120=>v=.slice A5 ny c5 | 121=>v=.int .i64 ny | 122=>v=.int .i64 ya | 123=>v=.agg #[.int .i64 y.f,.int .i64 y.l,.int .i64 ya] | _=>True) [(0,113),(1,114),(2,115),(3,116),(4,117),(5,118),(6,119),(7,120),(8,121),(9,122),(10,123)] listed t wy) ⟨(fun d=>match d with | 113=>u113 | 114=>u114 | 115=>u115 | 116=>u116 | 117=>u117 | 118=>u118 | 119=>u119 | 120=>u120 | 121=>u121 | 122=>u122 | 123=>u123 | _=>undef),rfl,IRK.start _ ⟨HRN.out.grown (grown_drew W3),HP10.out.kept (grown_drew W3) (by simp),HPB.out.kept (grown_drew W3) (by simp),_,_,_,HP11.out.kept (grown_drew W3) (by simp)⟩ trivial _⟩ ?_ ?_
         rotate_left
         ·rintro listed hCl ix hix aa wy ⟨t,rfl,hR⟩ hr
          match ix,hix,hr with
          | 0,_,hr=>
           as_aux_lemma=>
           refine wpOp_step rfl (fun K' hK=>?_)
           go_simp
           exact hK _ _ ⟨upd t 113 (.pointer (some ⟨b,0,none⟩)),rfl,hR.yields hCl hr (by decide) (by decide) (by kernel_rfl) hR.fin (fun h=>h) (fun _ _ h=>h) rfl rfl⟩
          | 1,_,hr=>
           as_aux_lemma=>
           refine wpOp_step rfl (fun K' hK=>?_)
           have e1:t 113=.pointer (some ⟨b,0,none⟩):=hR.val hCl hr (by kernel_rfl) (0,113) (by simp) (dep_of hr 0 (by kernel_rfl))
           have f0:=(blk_cells hR.fin.2.2.1).1 0 _ rfl
           go_simp
           exact hK _ _ ⟨upd t 114 (.int .i64 y.f),by simp[upd,e1],hR.yields hCl hr (by decide) (by decide) (by kernel_rfl) hR.fin (fun h=>h) (fun _ _ h=>h) rfl rfl⟩
          | 2,_,hr=>
           as_aux_lemma=>
           refine wpOp_step rfl (fun K' hK=>?_)
           go_simp
           exact hK _ _ ⟨upd t 115 (.pointer (some ⟨b,1,none⟩)),rfl,hR.yields hCl hr (by decide) (by decide) (by kernel_rfl) hR.fin (fun h=>h) (fun _ _ h=>h) rfl rfl⟩
          | 3,_,hr=>
           as_aux_lemma=>
           refine wpOp_step rfl (fun K' hK=>?_)
           have e1:t 115=.pointer (some ⟨b,1,none⟩):=hR.val hCl hr (by kernel_rfl) (2,115) (by simp) (dep_of hr 2 (by kernel_rfl))
           have f0:=(blk_cells hR.fin.2.2.1).1 1 _ rfl
           go_simp
           exact hK _ _ ⟨upd t 116 (.int .i64 y.l),by simp[upd,e1],hR.yields hCl hr (by decide) (by decide) (by kernel_rfl) hR.fin (fun h=>h) (fun _ _ h=>h) rfl rfl⟩
          | 4,_,hr=>
           as_aux_lemma=>
           refine wpOp_step rfl (fun K' hK=>?_)
           go_simp
           exact hK _ _ ⟨upd t 117 (.pointer (some ⟨b,2,none⟩)),rfl,hR.yields hCl hr (by decide) (by decide) (by kernel_rfl) hR.fin (fun h=>h) (fun _ _ h=>h) rfl rfl⟩
          | 5,_,hr=>
           as_aux_lemma=>
           refine wpOp_step rfl (fun K' hK=>?_)
           have e1:t 117=.pointer (some ⟨b,2,none⟩):=hR.val hCl hr (by kernel_rfl) (4,117) (by simp) (dep_of hr 4 (by kernel_rfl))
           have f0:=(blk_cells hR.fin.2.2.1).1 2 _ rfl
           go_simp
           exact hK _ _ ⟨upd t 118 (.int .i64 y.i),by simp[upd,e1],hR.yields hCl hr (by decide) (by decide) (by kernel_rfl) hR.fin (fun h=>h) (fun _ _ h=>h) rfl rfl⟩
          | 6,_,hr=>
           as_aux_lemma=>
           refine wpOp_step rfl (fun K' hK=>?_)
           have e1:t 118=.int .i64 y.i:=hR.val hCl hr (by kernel_rfl) (5,118) (by simp) (dep_of hr 5 (by kernel_rfl))
           go_simp
           exact hK _ _ ⟨upd t 119 (.int .i64 q2),by simp[upd,e1],hR.yields hCl hr (by decide) (by decide) (by kernel_rfl) hR.fin (fun h=>h) (fun _ _ h=>h) rfl rfl⟩
          | 7,_,hr=>
           as_aux_lemma=>
           refine wpOp_step rfl (fun K' hK=>?_)
           go_simp
           exact hK _ _ ⟨upd t 120 (.slice A5 ny c5),rfl,hR.yields hCl hr (by decide) (by decide) (by kernel_rfl) hR.fin (fun h=>h) (fun _ _ h=>h) rfl rfl⟩
          | 8,_,hr=>
           as_aux_lemma=>
           refine wpOp_step rfl (fun K' hK=>?_)
           have e1:t 120=.slice A5 ny c5:=hR.val hCl hr (by kernel_rfl) (7,120) (by simp) (dep_of hr 7 (by kernel_rfl))
           go_simp
           exact hK _ _ ⟨upd t 121 (.int .i64 ny),by simp[upd,e1],hR.yields hCl hr (by decide) (by decide) (by kernel_rfl) hR.fin (fun h=>h) (fun _ _ h=>h) rfl rfl⟩
          | 9,_,hr=>
           as_aux_lemma=>
           refine wpOp_step rfl (fun K' hK=>?_)
           have e1:t 119=.int .i64 q2:=hR.val hCl hr (by kernel_rfl) (6,119) (by simp) (dep_of hr 6 (by kernel_rfl))
           have e2:t 121=.int .i64 ny:=hR.val hCl hr (by kernel_rfl) (8,121) (by simp) (dep_of hr 8 (by kernel_rfl))
           go_simp
           exact hK _ _ ⟨upd t 122 (.int .i64 ya),by simp[upd,e1,e2],hR.yields hCl hr (by decide) (by decide) (by kernel_rfl) hR.fin (fun h=>h) (fun _ _ h=>h) rfl rfl⟩
          | 10,_,hr=>
           as_aux_lemma=>
           refine wpOp_step rfl (fun K' hK=>?_)
           have e1:t 114=.int .i64 y.f:=hR.val hCl hr (by kernel_rfl) (1,114) (by simp) (dep_of hr 1 (by kernel_rfl))
           have e2:t 116=.int .i64 y.l:=hR.val hCl hr (by kernel_rfl) (3,116) (by simp) (dep_of hr 3 (by kernel_rfl))
           have e3:t 122=.int .i64 ya:=hR.val hCl hr (by kernel_rfl) (9,122) (by simp) (dep_of hr 9 (by kernel_rfl))
           go_simp
           exact hK _ _ ⟨upd t 123 (.agg #[.int .i64 y.f,.int .i64 y.l,.int .i64 ya]),by simp[upd,e1,e2,e3],hR.yields hCl hr (by decide) (by decide) (by kernel_rfl) hR.fin (fun h=>h) (fun _ _ h=>h) rfl rfl⟩
          | 11,_,hr=>
           as_aux_lemma=>
           refine wpOp_step rfl (fun K' hK=>?_)
           have e1:t 123=.agg #[.int .i64 y.f,.int .i64 y.l,.int .i64 ya]:=hR.val hCl hr (by kernel_rfl) (10,123) (by simp) (dep_of hr 10 (by kernel_rfl))
           obtain⟨p,q,r,hbl⟩:=hR.fin.2.2.2
           have hI2:=hR.fin
           obtain⟨c0,c1⟩:=blk_cells hbl
           have c00:=c0 0 _ rfl
           have c01:=c0 1 _ rfl
           have c02:=c0 2 _ rfl
           have c10:=c1 0
           have c11:=c1 1
           have c12:=c1 2
           obtain⟨hs,hg⟩:=blk_set3 (u:=.int .i64 y.f) (v:=.int .i64 y.l) (q:=.int .i64 ya) hbl
           have hE:=hR.ends hr (.inr trivial) (by decide) (W1:=((wy.setCell ⟨B+1,0,none⟩ (.int .i64 y.f)).setCell ⟨B+1,1,none⟩ (.int .i64 y.l)).setCell ⟨B+1,2,none⟩ (.int .i64 ya)) ⟨hI2.1.kept hg (fun r e=>by cases e;have:=HSZ.out;exact⟨by omega,by omega,by omega,by omega,by omega,fun i hi e=>by have:=hvo.out i hi _ e;omega⟩),hI2.2.1.kept hg (fun e=>by cases e),hI2.2.2.1.kept hg (fun e=>by cases e;omega),_,_,_,hs⟩ hs
           clear hs hg hbl hI2
           go_simp
           exact hK _ _ ⟨t,by simp[e1],hE⟩
          | nx+12,hix,_=>exact absurd (show nx+12<12 from hix) (by omega)
         rintro listed a2 W2 ⟨t,rfl,hR⟩ hl
         have hI2:=hR.fin
         have hC:=hR.new (hl 11 (by decide))
         clear hR hl
         generalize t 113=u113
         generalize t 114=u114
         generalize t 115=u115
         generalize t 116=u116
         generalize t 117=u117
         generalize t 118=u118
         generalize t 119=u119
         generalize t 120=u120
         generalize t 121=u121
         generalize t 122=u122
         generalize t 123=u123
         have HRN:=Lib.hid hI2.1
         have HP10:=Lib.hid hI2.2.1
         have HP11:=Lib.hid hC
         clear hI2 hC HPB
         obtain⟨⟨m0,m1⟩,⟨k0,k1⟩,k2⟩:=HRN.out.1.facts
         have b0:=(blk_cells HP11.out).1 0 _ rfl
         have b1:=(blk_cells HP11.out).1 1 _ rfl
         have b2:=(blk_cells HP11.out).1 2 _ rfl
         have d0:=(blk_cells HP10.out).1 0 _ rfl
         have d1:=(blk_cells HP10.out).1 1 _ rfl
         have d2:=(blk_cells HP10.out).1 2 _ rfl
         by_cases heq:y.f=x.f∧y.l=x.l∧ya=x.i
         ·obtain⟨he1,he2,he3⟩:=heq
          have HST:Hid (iterP fs (dartsA fs (plsA fs)) (pl3 x) (k'+1)=pl3 x):=by
           show _=(x.f,x.l,x.i)
           rw[←he1,←he2,←he3];exact HSTEP.out
          by_cases hkk:k'+1=len
          ·have hkkz:(k':Int)+1=(len:Int):=by omega
           have HND2:=Lib.hid (HYE.out (node_cons.2 ⟨fun h=>absurd h HX1.out,fun _=>by
            rw[HLEN.out]
            refine⟨by rw[←hkk];exact HST.out,fun j h1 h2=>HIT.out.2.2.2 j h1 (by omega)⟩⟩))
           clear hkk
           go_wp2_with fail
           go_roundw
           case rel=>exact⟨v+1,by omega,by go_num,HRN,HND2⟩
           case measure=>simp[intOf];omega
          ·have hkkz:¬ (k':Int)+1=(len:Int):=by omega
           have HNR:Hid (¬ RightP M fs):=HNO.out (fun h=>by
            obtain⟨h1,h2⟩:=(node_cons.1 h).2 HX1.out
            rw[HLEN.out] at h1 h2
            by_cases hlt:k'+1<len
            ·exact h2 (k'+1) (by omega) hlt HST.out
            ·exact HIT.out.2.2.2 len (by omega) (by omega) h1)
           go_wp2_with fail
           (try rw[Exit.noGoto_ret])
           obtain⟨hx2,hxK,hxB⟩:=HRN.out.ret HSZ.out.1 false
           refine⟨by simp,.inl ⟨_,_,rfl,run_takeDeferred hxK,?_⟩⟩
           have kx:=cell_kept hx2.cell (grownBy_putObj' _ Dd (.deferred none)) (fun r e=>by cases e;exact⟨_,hxK,rfl⟩)
           refine⟨.bool false,?_,⟨false,rfl,by simpa using HNR.out⟩,hxB.trans (belowK_b (w:=w) (Nat.le_refl _) _ Dd _ _ (by have:=HSZ.out;omega) hxK rfl rfl)⟩
           simp[results,Try.f42,go_sem,kx]
         ·have HNE:Hid (¬ iterP fs (dartsA fs (plsA fs)) (pl3 x) (k'+1)=pl3 x):=fun h=>by
           rw[HSTEP.out] at h
           exact heq ⟨congrArg (fun p=>p.1) h,congrArg (fun p=>p.2.1) h,congrArg (fun p=>p.2.2) h⟩
          by_cases hkk:k'+1≤len
          ·have hkkz:¬ (len:Int)<(k':Int)+1:=by omega
           go_wp2_with fail
           all_goals
            go_roundw
            case rel=>refine⟨k'+1,by omega,hkk,y.f,y.l,ya,⟨HSTEP.out,HIN.out.1,fun _=>⟨HIN.out.2,HX1.out⟩,fun j h1 h2=>by
             by_cases e:j=k'+1
             ·rw[e];exact HNE.out
             ·exact HIT.out.2.2.2 j h1 (by omega)⟩,by have h:=HRN;rw[hsz] at h;exact h,HP11⟩
            case measure=>simp[intOf];omega
          ·have hkkz:(len:Int)<(k':Int)+1:=by omega
           have HNR:Hid (¬ RightP M fs):=HNO.out (fun h=>by
            obtain⟨h1,h2⟩:=(node_cons.1 h).2 HX1.out
            rw[HLEN.out] at h1 h2
            exact HIT.out.2.2.2 len (by omega) (by omega) h1)
           go_wp2_with fail
           all_goals
            (try rw[Exit.noGoto_ret])
            obtain⟨hx2,hxK,hxB⟩:=HRN.out.ret HSZ.out.1 false
            refine⟨by simp,.inl ⟨_,_,rfl,run_takeDeferred hxK,?_⟩⟩
            have kx:=cell_kept hx2.cell (grownBy_putObj' _ Dd (.deferred none)) (fun r e=>by cases e;exact⟨_,hxK,rfl⟩)
            refine⟨.bool false,?_,⟨false,rfl,by simpa using HNR.out⟩,hxB.trans (belowK_b (w:=w) (Nat.le_refl _) _ Dd _ _ (by have:=HSZ.out;omega) hxK rfl rfl)⟩
            simp[results,Try.f42,go_sem,kx]
     ·have hvz:¬ (v:Int)<(M:Int):=by omega
      have hvM2:M=v:=by omega
      subst hvM2
      have HYES:Hid (RightP M fs):=⟨HWh.out,HALL.out,HOK.out,fun i hi=>HND.out i (by omega)⟩
      go_wp2
      (try rw[Exit.noGoto_ret])
      obtain⟨hx2,hxK,hxB⟩:=HRN.out.ret (by omega) true
      refine⟨by simp,.inl ⟨_,_,rfl,run_takeDeferred hxK,?_⟩⟩
      have kx:=cell_kept hx2.cell (grownBy_putObj' _ Dd (.deferred none)) (fun r e=>by cases e;exact⟨_,hxK,rfl⟩)
      refine⟨.bool true,?_,⟨true,rfl,⟨fun _=>HYES.out,fun _=>rfl⟩⟩,hxB.trans (belowK_b (w:=w) (Nat.le_refl _) _ Dd _ _ (by omega) hxK rfl rfl)⟩
      simp[results,Try.f42,go_sem,kx]
end Go.Proofs.Ytealnhaffphamaa
