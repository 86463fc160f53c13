/- Contracts of the functions that the statement reaches, and plain lemmas: part 28 of 31. -/
import Derived.Test.YtealnhaffphamaaS25
set_option linter.unusedVariables false
set_option linter.unusedSimpArgs false

namespace Go.Proofs.Ytealnhaffphamaa
open Go.RowKit Go.Shelf Go.Proofs.YtealnhaffphamaaW.PrintWords
theorem lit_two (W:World) :
  RF (((((W.alloc (.cells #[.int .i64 0,.int .i64 1,.int .i64 2] 3)).alloc (.cells #[.slice (some ⟨W.heap.size,0,none⟩) 3 3] 36)).alloc (.cells #[.int .i64 0,.int .i64 2,.int .i64 1] 3)).alloc (.cells #[.slice (some ⟨W.heap.size+1+1,0,none⟩) 3 3] 36)).alloc (.cells #[.slice (some ⟨W.heap.size+1,0,none⟩) 1 1,.slice (some ⟨W.heap.size+1+1+1,0,none⟩) 1 1] 37)) (some ⟨W.heap.size+1+1+1+1,0,none⟩) f2 ∧
  Below W.heap.size W (((((W.alloc (.cells #[.int .i64 0,.int .i64 1,.int .i64 2] 3)).alloc (.cells #[.slice (some ⟨W.heap.size,0,none⟩) 3 3] 36)).alloc (.cells #[.int .i64 0,.int .i64 2,.int .i64 1] 3)).alloc (.cells #[.slice (some ⟨W.heap.size+1+1,0,none⟩) 3 3] 36)).alloc (.cells #[.slice (some ⟨W.heap.size+1,0,none⟩) 1 1,.slice (some ⟨W.heap.size+1+1+1,0,none⟩) 1 1] 37)):=by
 refine⟨?_,below_alloc' (below_alloc' (below_alloc' (below_alloc' (below_new W _) _) _) _) _⟩
 have h1:=own_lit (B:=W.heap.size) (e:=3) W (intsV [0,1,2]) (n:=3) rfl (Nat.le_refl _) (by omega)
 have h2:=FW.lit1 (base:=W.heap.size) (x:=[0,1,2]) _ (by simp) h1
 rw[World.size_alloc] at h2
 have h3:=own_lit (B:=W.heap.size) (e:=3) ((W.alloc (.cells #[.int .i64 0,.int .i64 1,.int .i64 2] 3)).alloc (.cells #[.slice (some ⟨W.heap.size,0,none⟩) 3 3] 36)) (intsV [0,2,1]) (n:=3) rfl (by simp;omega) (by omega)
 have h4:=FW.lit1 (base:=W.heap.size) (x:=[0,2,1]) _ (by simp;omega) h3
 simp only[World.size_alloc] at h4
 have h5:=h2.kept ((World.grownBy_alloc _ (.cells #[.int .i64 0,.int .i64 2,.int .i64 1] 3) none).trans (World.grownBy_alloc _ (.cells #[.slice (some ⟨W.heap.size+1+1,0,none⟩) 3 3] 36) none)) (fun b e=>by cases e)
 have h6:=MW.lit2 (base:=W.heap.size) _ (by simp;omega) (show FW W.heap.size _ [[0,1,2]] ([[0,1,2]]:List (List Int)).length _ _ from h5) (show FW W.heap.size _ [[0,2,1]] ([[0,2,1]]:List (List Int)).length _ _ from h4) (.inr (by show some (W.heap.size+1)≠some (W.heap.size+1+1+1);simp))
 simp only[World.size_alloc] at h6
 obtain⟨A,c,e1,e2,e3⟩:=(show MW W.heap.size _ f2 f2.length _ _ _ from h6).reads
 injection e1 with ea en ec
 rw[←ea] at e3
 exact e3
theorem six_eq0:∀W:World,(Op.equalIn 10000 53 (.agg #[.int .i64 1,.int .i64 0,.int .i64 1,.int .i64 0,.int .i64 1,.int .i64 0]) (.agg #[.int .i64 1,.int .i64 0,.int .i64 1,.int .i64 0,.int .i64 1,.int .i64 0])).run Try.prog W=.ok true W:=fun W=>by kernel_rfl
theorem six_eq1:∀W:World,(Op.equalIn 10000 53 (.agg #[.int .i64 3,.int .i64 3,.int .i64 2,.int .i64 0,.int .i64 1,.int .i64 0]) (.agg #[.int .i64 3,.int .i64 3,.int .i64 2,.int .i64 0,.int .i64 1,.int .i64 0])).run Try.prog W=.ok true W:=fun W=>by kernel_rfl
theorem six_eq2:∀W:World,(Op.equalIn 10000 53 (.agg #[.int .i64 3,.int .i64 3,.int .i64 1,.int .i64 1,.int .i64 1,.int .i64 1]) (.agg #[.int .i64 3,.int .i64 3,.int .i64 1,.int .i64 1,.int .i64 1,.int .i64 1])).run Try.prog W=.ok true W:=fun W=>by kernel_rfl
set_option maxRecDepth 100000 in
set_option maxHeartbeats 8000000 in
theorem awake_any (w:World):Calls Try.prog 16 #[] w fun e w'=>e=.returned (.bool true)∧Below w.heap.size w w':=by
 go_enter Try.func16,Try.ntmps16
 have HB:Hid (Below w.heap.size w w):=Below.refl _ _
 have HC:=Lib.hid (new_any w)
 go_wp2_with fail
 ((with_reducible refine(HC.out).mono ?_);rintro e Wc1 ⟨⟨A1,c1,rfl,hl1,hr1⟩,hb⟩)
 clear HC
 have HB:Hid (Below w.heap.size w Wc1):=(HB.out).trans (hb.mono HB.out.size)
 have RM:Hid (RF Wc1 A1 fM):=hr1
 clear hb
 go_upto_region 2 with fail
 have hb:=below_new Wc1 (.cells #[.int .i64 1,.slice A1 fM.length c1] 30)
 have hbn:=blk_new Wc1 (.cells #[.int .i64 1,.slice A1 fM.length c1] 30)
 obtain⟨bM,hbM⟩:∃b,Wc1.heap.size=b:=⟨_,rfl⟩
 have HB:Hid (Below w.heap.size w (Wc1.alloc (.cells #[.int .i64 1,.slice A1 fM.length c1] 30))):=(HB.out).trans (hb.mono HB.out.size)
 have RM:Hid (RF (Wc1.alloc (.cells #[.int .i64 1,.slice A1 fM.length c1] 30)) A1 fM):=(RM.out).below hb
 rw[hbM] at hbn ⊢
 have BM:Hid (Blk (Wc1.alloc (.cells #[.int .i64 1,.slice A1 fM.length c1] 30)) bM (.cells #[.int .i64 1,.slice A1 fM.length c1] 30)):=hbn
 clear hb hbn hbM
 generalize Wc1.alloc (.cells #[.int .i64 1,.slice A1 fM.length c1] 30)=W1 at HB RM BM ⊢
 clear hr1
 have qbM0:=(blk_cells BM.out).1 0 _ rfl
 have qbM1:=(blk_cells BM.out).1 1 _ rfl
 have HC:=Lib.hid (addNode_any 1 A1 c1 fM 0 0 0 W1 RM.out hl1 (fine_of rM).1 (fine_of rM).2.1 (fine_of rM).2.2)
 go_wp2_with fail
 ((with_reducible refine(HC.out).mono ?_);rintro e Wc2 ⟨h,hb⟩)
 rw[anM] at h
 obtain⟨A2,c2,rfl,hl2,hr2⟩:=h
 clear HC
 have HB:Hid (Below w.heap.size w Wc2):=(HB.out).trans (hb.mono HB.out.size)
 have RM:Hid (RF Wc2 A1 fM):=(RM.out).below hb
 have BM:Hid (Blk Wc2 bM (.cells #[.int .i64 1,.slice A1 fM.length c1] 30)):=(BM.out).bel hb
 have RA:Hid (RF Wc2 A2 fA):=hr2
 clear hb
 go_upto_region 3 with fail
 have hb:=below_new Wc2 (.cells #[.int .i64 2,.slice A2 fA.length c2] 30)
 have hbn:=blk_new Wc2 (.cells #[.int .i64 2,.slice A2 fA.length c2] 30)
 obtain⟨bA,hbA⟩:∃b,Wc2.heap.size=b:=⟨_,rfl⟩
 have HB:Hid (Below w.heap.size w (Wc2.alloc (.cells #[.int .i64 2,.slice A2 fA.length c2] 30))):=(HB.out).trans (hb.mono HB.out.size)
 have RM:Hid (RF (Wc2.alloc (.cells #[.int .i64 2,.slice A2 fA.length c2] 30)) A1 fM):=(RM.out).below hb
 have BM:Hid (Blk (Wc2.alloc (.cells #[.int .i64 2,.slice A2 fA.length c2] 30)) bM (.cells #[.int .i64 1,.slice A1 fM.length c1] 30)):=(BM.out).bel hb
 have RA:Hid (RF (Wc2.alloc (.cells #[.int .i64 2,.slice A2 fA.length c2] 30)) A2 fA):=(RA.out).below hb
 rw[hbA] at hbn ⊢
 have BA:Hid (Blk (Wc2.alloc (.cells #[.int .i64 2,.slice A2 fA.length c2] 30)) bA (.cells #[.int .i64 2,.slice A2 fA.length c2] 30)):=hbn
 clear hb hbn hbA
 generalize Wc2.alloc (.cells #[.int .i64 2,.slice A2 fA.length c2] 30)=W2 at HB RM BM RA BA ⊢
 clear hr2 qbM0 qbM1
 have qbA0:=(blk_cells BA.out).1 0 _ rfl
 have qbA1:=(blk_cells BA.out).1 1 _ rfl
 have HC:=Lib.hid (addNode_any 2 A2 c2 fA 0 0 0 W2 RA.out hl2 (fine_of rA).1 (fine_of rA).2.1 (fine_of rA).2.2)
 go_wp2_with fail
 ((with_reducible refine(HC.out).mono ?_);rintro e Wc3 ⟨h,hb⟩)
 rw[anA] at h
 obtain⟨A3,c3,rfl,hl3,hr3⟩:=h
 clear HC
 have HB:Hid (Below w.heap.size w Wc3):=(HB.out).trans (hb.mono HB.out.size)
 have RM:Hid (RF Wc3 A1 fM):=(RM.out).below hb
 have BM:Hid (Blk Wc3 bM (.cells #[.int .i64 1,.slice A1 fM.length c1] 30)):=(BM.out).bel hb
 have RA:Hid (RF Wc3 A2 fA):=(RA.out).below hb
 have BA:Hid (Blk Wc3 bA (.cells #[.int .i64 2,.slice A2 fA.length c2] 30)):=(BA.out).bel hb
 have RB:Hid (RF Wc3 A3 fB):=hr3
 clear hb
 go_upto_region 4 with fail
 have hb:=below_new Wc3 (.cells #[.int .i64 3,.slice A3 fB.length c3] 30)
 have hbn:=blk_new Wc3 (.cells #[.int .i64 3,.slice A3 fB.length c3] 30)
 obtain⟨bB,hbB⟩:∃b,Wc3.heap.size=b:=⟨_,rfl⟩
 have HB:Hid (Below w.heap.size w (Wc3.alloc (.cells #[.int .i64 3,.slice A3 fB.length c3] 30))):=(HB.out).trans (hb.mono HB.out.size)
 have RM:Hid (RF (Wc3.alloc (.cells #[.int .i64 3,.slice A3 fB.length c3] 30)) A1 fM):=(RM.out).below hb
 have BM:Hid (Blk (Wc3.alloc (.cells #[.int .i64 3,.slice A3 fB.length c3] 30)) bM (.cells #[.int .i64 1,.slice A1 fM.length c1] 30)):=(BM.out).bel hb
 have RA:Hid (RF (Wc3.alloc (.cells #[.int .i64 3,.slice A3 fB.length c3] 30)) A2 fA):=(RA.out).below hb
 have BA:Hid (Blk (Wc3.alloc (.cells #[.int .i64 3,.slice A3 fB.length c3] 30)) bA (.cells #[.int .i64 2,.slice A2 fA.length c2] 30)):=(BA.out).bel hb
 have RB:Hid (RF (Wc3.alloc (.cells #[.int .i64 3,.slice A3 fB.length c3] 30)) A3 fB):=(RB.out).below hb
 rw[hbB] at hbn ⊢
 have BB:Hid (Blk (Wc3.alloc (.cells #[.int .i64 3,.slice A3 fB.length c3] 30)) bB (.cells #[.int .i64 3,.slice A3 fB.length c3] 30)):=hbn
 clear hb hbn hbB
 generalize Wc3.alloc (.cells #[.int .i64 3,.slice A3 fB.length c3] 30)=W3 at HB RM BM RA BA RB BB ⊢
 clear hr3 qbA0 qbA1
 have qbM0:=(blk_cells BM.out).1 0 _ rfl
 have qbM1:=(blk_cells BM.out).1 1 _ rfl
 have HC:=Lib.hid (counts_any 1 A1 c1 fM W3 RM.out (fine_of rM).1 (fine_of rM).2.1 (fine_of rM).2.2)
 go_wp2_with fail
 ((with_reducible refine(HC.out).mono ?_);rintro e Wc4 ⟨⟨h,-⟩,hb⟩)
 obtain rfl:=h rM
 rw[ctM]
 clear HC
 have HB:Hid (Below w.heap.size w Wc4):=(HB.out).trans (hb.mono HB.out.size)
 have RM:Hid (RF Wc4 A1 fM):=(RM.out).below hb
 have BM:Hid (Blk Wc4 bM (.cells #[.int .i64 1,.slice A1 fM.length c1] 30)):=(BM.out).bel hb
 have RA:Hid (RF Wc4 A2 fA):=(RA.out).below hb
 have BA:Hid (Blk Wc4 bA (.cells #[.int .i64 2,.slice A2 fA.length c2] 30)):=(BA.out).bel hb
 have RB:Hid (RF Wc4 A3 fB):=(RB.out).below hb
 have BB:Hid (Blk Wc4 bB (.cells #[.int .i64 3,.slice A3 fB.length c3] 30)):=(BB.out).bel hb
 clear hb
 go_upto_region 5 with fail
 have hb:=below_new Wc4 (.cells #[.int .i64 1,.int .i64 0,.int .i64 1,.int .i64 0,.int .i64 1,.int .i64 0] 53)
 have hbn:=blk_new Wc4 (.cells #[.int .i64 1,.int .i64 0,.int .i64 1,.int .i64 0,.int .i64 1,.int .i64 0] 53)
 obtain⟨bC,hbC⟩:∃b,Wc4.heap.size=b:=⟨_,rfl⟩
 have HB:Hid (Below w.heap.size w (Wc4.alloc (.cells #[.int .i64 1,.int .i64 0,.int .i64 1,.int .i64 0,.int .i64 1,.int .i64 0] 53))):=(HB.out).trans (hb.mono HB.out.size)
 have RM:Hid (RF (Wc4.alloc (.cells #[.int .i64 1,.int .i64 0,.int .i64 1,.int .i64 0,.int .i64 1,.int .i64 0] 53)) A1 fM):=(RM.out).below hb
 have BM:Hid (Blk (Wc4.alloc (.cells #[.int .i64 1,.int .i64 0,.int .i64 1,.int .i64 0,.int .i64 1,.int .i64 0] 53)) bM (.cells #[.int .i64 1,.slice A1 fM.length c1] 30)):=(BM.out).bel hb
 have RA:Hid (RF (Wc4.alloc (.cells #[.int .i64 1,.int .i64 0,.int .i64 1,.int .i64 0,.int .i64 1,.int .i64 0] 53)) A2 fA):=(RA.out).below hb
 have BA:Hid (Blk (Wc4.alloc (.cells #[.int .i64 1,.int .i64 0,.int .i64 1,.int .i64 0,.int .i64 1,.int .i64 0] 53)) bA (.cells #[.int .i64 2,.slice A2 fA.length c2] 30)):=(BA.out).bel hb
 have RB:Hid (RF (Wc4.alloc (.cells #[.int .i64 1,.int .i64 0,.int .i64 1,.int .i64 0,.int .i64 1,.int .i64 0] 53)) A3 fB):=(RB.out).below hb
 have BB:Hid (Blk (Wc4.alloc (.cells #[.int .i64 1,.int .i64 0,.int .i64 1,.int .i64 0,.int .i64 1,.int .i64 0] 53)) bB (.cells #[.int .i64 3,.slice A3 fB.length c3] 30)):=(BB.out).bel hb
 rw[hbC] at hbn ⊢
 have BC:Hid (Blk (Wc4.alloc (.cells #[.int .i64 1,.int .i64 0,.int .i64 1,.int .i64 0,.int .i64 1,.int .i64 0] 53)) bC (.cells #[.int .i64 1,.int .i64 0,.int .i64 1,.int .i64 0,.int .i64 1,.int .i64 0] 53)):=hbn
 clear hb hbn hbC
 generalize Wc4.alloc (.cells #[.int .i64 1,.int .i64 0,.int .i64 1,.int .i64 0,.int .i64 1,.int .i64 0] 53)=W4 at HB RM BM RA BA RB BB BC ⊢
 clear qbM0 qbM1
 go_upto_region 6 with fail
 obtain⟨hr4,hb⟩:=lit_two W4
 have HB:Hid (Below w.heap.size w (((((W4.alloc (.cells #[.int .i64 0,.int .i64 1,.int .i64 2] 3)).alloc (.cells #[.slice (some ⟨W4.heap.size,0,none⟩) 3 3] 36)).alloc (.cells #[.int .i64 0,.int .i64 2,.int .i64 1] 3)).alloc (.cells #[.slice (some ⟨W4.heap.size+1+1,0,none⟩) 3 3] 36)).alloc (.cells #[.slice (some ⟨W4.heap.size+1,0,none⟩) 1 1,.slice (some ⟨W4.heap.size+1+1+1,0,none⟩) 1 1] 37))):=(HB.out).trans (hb.mono HB.out.size)
 have RM:Hid (RF (((((W4.alloc (.cells #[.int .i64 0,.int .i64 1,.int .i64 2] 3)).alloc (.cells #[.slice (some ⟨W4.heap.size,0,none⟩) 3 3] 36)).alloc (.cells #[.int .i64 0,.int .i64 2,.int .i64 1] 3)).alloc (.cells #[.slice (some ⟨W4.heap.size+1+1,0,none⟩) 3 3] 36)).alloc (.cells #[.slice (some ⟨W4.heap.size+1,0,none⟩) 1 1,.slice (some ⟨W4.heap.size+1+1+1,0,none⟩) 1 1] 37)) A1 fM):=(RM.out).below hb
 have BM:Hid (Blk (((((W4.alloc (.cells #[.int .i64 0,.int .i64 1,.int .i64 2] 3)).alloc (.cells #[.slice (some ⟨W4.heap.size,0,none⟩) 3 3] 36)).alloc (.cells #[.int .i64 0,.int .i64 2,.int .i64 1] 3)).alloc (.cells #[.slice (some ⟨W4.heap.size+1+1,0,none⟩) 3 3] 36)).alloc (.cells #[.slice (some ⟨W4.heap.size+1,0,none⟩) 1 1,.slice (some ⟨W4.heap.size+1+1+1,0,none⟩) 1 1] 37)) bM (.cells #[.int .i64 1,.slice A1 fM.length c1] 30)):=(BM.out).bel hb
 have RA:Hid (RF (((((W4.alloc (.cells #[.int .i64 0,.int .i64 1,.int .i64 2] 3)).alloc (.cells #[.slice (some ⟨W4.heap.size,0,none⟩) 3 3] 36)).alloc (.cells #[.int .i64 0,.int .i64 2,.int .i64 1] 3)).alloc (.cells #[.slice (some ⟨W4.heap.size+1+1,0,none⟩) 3 3] 36)).alloc (.cells #[.slice (some ⟨W4.heap.size+1,0,none⟩) 1 1,.slice (some ⟨W4.heap.size+1+1+1,0,none⟩) 1 1] 37)) A2 fA):=(RA.out).below hb
 have BA:Hid (Blk (((((W4.alloc (.cells #[.int .i64 0,.int .i64 1,.int .i64 2] 3)).alloc (.cells #[.slice (some ⟨W4.heap.size,0,none⟩) 3 3] 36)).alloc (.cells #[.int .i64 0,.int .i64 2,.int .i64 1] 3)).alloc (.cells #[.slice (some ⟨W4.heap.size+1+1,0,none⟩) 3 3] 36)).alloc (.cells #[.slice (some ⟨W4.heap.size+1,0,none⟩) 1 1,.slice (some ⟨W4.heap.size+1+1+1,0,none⟩) 1 1] 37)) bA (.cells #[.int .i64 2,.slice A2 fA.length c2] 30)):=(BA.out).bel hb
 have RB:Hid (RF (((((W4.alloc (.cells #[.int .i64 0,.int .i64 1,.int .i64 2] 3)).alloc (.cells #[.slice (some ⟨W4.heap.size,0,none⟩) 3 3] 36)).alloc (.cells #[.int .i64 0,.int .i64 2,.int .i64 1] 3)).alloc (.cells #[.slice (some ⟨W4.heap.size+1+1,0,none⟩) 3 3] 36)).alloc (.cells #[.slice (some ⟨W4.heap.size+1,0,none⟩) 1 1,.slice (some ⟨W4.heap.size+1+1+1,0,none⟩) 1 1] 37)) A3 fB):=(RB.out).below hb
 have BB:Hid (Blk (((((W4.alloc (.cells #[.int .i64 0,.int .i64 1,.int .i64 2] 3)).alloc (.cells #[.slice (some ⟨W4.heap.size,0,none⟩) 3 3] 36)).alloc (.cells #[.int .i64 0,.int .i64 2,.int .i64 1] 3)).alloc (.cells #[.slice (some ⟨W4.heap.size+1+1,0,none⟩) 3 3] 36)).alloc (.cells #[.slice (some ⟨W4.heap.size+1,0,none⟩) 1 1,.slice (some ⟨W4.heap.size+1+1+1,0,none⟩) 1 1] 37)) bB (.cells #[.int .i64 3,.slice A3 fB.length c3] 30)):=(BB.out).bel hb
 have BC:Hid (Blk (((((W4.alloc (.cells #[.int .i64 0,.int .i64 1,.int .i64 2] 3)).alloc (.cells #[.slice (some ⟨W4.heap.size,0,none⟩) 3 3] 36)).alloc (.cells #[.int .i64 0,.int .i64 2,.int .i64 1] 3)).alloc (.cells #[.slice (some ⟨W4.heap.size+1+1,0,none⟩) 3 3] 36)).alloc (.cells #[.slice (some ⟨W4.heap.size+1,0,none⟩) 1 1,.slice (some ⟨W4.heap.size+1+1+1,0,none⟩) 1 1] 37)) bC (.cells #[.int .i64 1,.int .i64 0,.int .i64 1,.int .i64 0,.int .i64 1,.int .i64 0] 53)):=(BC.out).bel hb
 clear hb
 obtain⟨x4,hx4⟩:∃b,W4.heap.size+1+1+1+1=b:=⟨_,rfl⟩
 rw[hx4] at hr4 ⊢
 have R2:Hid (RF (((((W4.alloc (.cells #[.int .i64 0,.int .i64 1,.int .i64 2] 3)).alloc (.cells #[.slice (some ⟨W4.heap.size,0,none⟩) 3 3] 36)).alloc (.cells #[.int .i64 0,.int .i64 2,.int .i64 1] 3)).alloc (.cells #[.slice (some ⟨W4.heap.size+1+1,0,none⟩) 3 3] 36)).alloc (.cells #[.slice (some ⟨W4.heap.size+1,0,none⟩) 1 1,.slice (some ⟨W4.heap.size+1+1+1,0,none⟩) 1 1] 37)) (some ⟨x4,0,none⟩) f2):=hr4
 have hb:=below_new (((((W4.alloc (.cells #[.int .i64 0,.int .i64 1,.int .i64 2] 3)).alloc (.cells #[.slice (some ⟨W4.heap.size,0,none⟩) 3 3] 36)).alloc (.cells #[.int .i64 0,.int .i64 2,.int .i64 1] 3)).alloc (.cells #[.slice (some ⟨W4.heap.size+1+1,0,none⟩) 3 3] 36)).alloc (.cells #[.slice (some ⟨W4.heap.size+1,0,none⟩) 1 1,.slice (some ⟨W4.heap.size+1+1+1,0,none⟩) 1 1] 37)) (.cells #[.int .i64 3,.slice (some ⟨x4,0,none⟩) 2 2] 30)
 have hbn:=blk_new (((((W4.alloc (.cells #[.int .i64 0,.int .i64 1,.int .i64 2] 3)).alloc (.cells #[.slice (some ⟨W4.heap.size,0,none⟩) 3 3] 36)).alloc (.cells #[.int .i64 0,.int .i64 2,.int .i64 1] 3)).alloc (.cells #[.slice (some ⟨W4.heap.size+1+1,0,none⟩) 3 3] 36)).alloc (.cells #[.slice (some ⟨W4.heap.size+1,0,none⟩) 1 1,.slice (some ⟨W4.heap.size+1+1+1,0,none⟩) 1 1] 37)) (.cells #[.int .i64 3,.slice (some ⟨x4,0,none⟩) 2 2] 30)
 simp only[World.size_alloc] at hbn
 obtain⟨b2,hb2⟩:∃b,W4.heap.size+1+1+1+1+1=b:=⟨_,rfl⟩
 have hb3:x4+1=b2:=by rw[←hx4];exact hb2
 rw[hb2] at hbn
 have HB:Hid (Below w.heap.size w ((((((W4.alloc (.cells #[.int .i64 0,.int .i64 1,.int .i64 2] 3)).alloc (.cells #[.slice (some ⟨W4.heap.size,0,none⟩) 3 3] 36)).alloc (.cells #[.int .i64 0,.int .i64 2,.int .i64 1] 3)).alloc (.cells #[.slice (some ⟨W4.heap.size+1+1,0,none⟩) 3 3] 36)).alloc (.cells #[.slice (some ⟨W4.heap.size+1,0,none⟩) 1 1,.slice (some ⟨W4.heap.size+1+1+1,0,none⟩) 1 1] 37)).alloc (.cells #[.int .i64 3,.slice (some ⟨x4,0,none⟩) 2 2] 30))):=(HB.out).trans (hb.mono HB.out.size)
 have RM:Hid (RF ((((((W4.alloc (.cells #[.int .i64 0,.int .i64 1,.int .i64 2] 3)).alloc (.cells #[.slice (some ⟨W4.heap.size,0,none⟩) 3 3] 36)).alloc (.cells #[.int .i64 0,.int .i64 2,.int .i64 1] 3)).alloc (.cells #[.slice (some ⟨W4.heap.size+1+1,0,none⟩) 3 3] 36)).alloc (.cells #[.slice (some ⟨W4.heap.size+1,0,none⟩) 1 1,.slice (some ⟨W4.heap.size+1+1+1,0,none⟩) 1 1] 37)).alloc (.cells #[.int .i64 3,.slice (some ⟨x4,0,none⟩) 2 2] 30)) A1 fM):=(RM.out).below hb
 have BM:Hid (Blk ((((((W4.alloc (.cells #[.int .i64 0,.int .i64 1,.int .i64 2] 3)).alloc (.cells #[.slice (some ⟨W4.heap.size,0,none⟩) 3 3] 36)).alloc (.cells #[.int .i64 0,.int .i64 2,.int .i64 1] 3)).alloc (.cells #[.slice (some ⟨W4.heap.size+1+1,0,none⟩) 3 3] 36)).alloc (.cells #[.slice (some ⟨W4.heap.size+1,0,none⟩) 1 1,.slice (some ⟨W4.heap.size+1+1+1,0,none⟩) 1 1] 37)).alloc (.cells #[.int .i64 3,.slice (some ⟨x4,0,none⟩) 2 2] 30)) bM (.cells #[.int .i64 1,.slice A1 fM.length c1] 30)):=(BM.out).bel hb
 have RA:Hid (RF ((((((W4.alloc (.cells #[.int .i64 0,.int .i64 1,.int .i64 2] 3)).alloc (.cells #[.slice (some ⟨W4.heap.size,0,none⟩) 3 3] 36)).alloc (.cells #[.int .i64 0,.int .i64 2,.int .i64 1] 3)).alloc (.cells #[.slice (some ⟨W4.heap.size+1+1,0,none⟩) 3 3] 36)).alloc (.cells #[.slice (some ⟨W4.heap.size+1,0,none⟩) 1 1,.slice (some ⟨W4.heap.size+1+1+1,0,none⟩) 1 1] 37)).alloc (.cells #[.int .i64 3,.slice (some ⟨x4,0,none⟩) 2 2] 30)) A2 fA):=(RA.out).below hb
 have BA:Hid (Blk ((((((W4.alloc (.cells #[.int .i64 0,.int .i64 1,.int .i64 2] 3)).alloc (.cells #[.slice (some ⟨W4.heap.size,0,none⟩) 3 3] 36)).alloc (.cells #[.int .i64 0,.int .i64 2,.int .i64 1] 3)).alloc (.cells #[.slice (some ⟨W4.heap.size+1+1,0,none⟩) 3 3] 36)).alloc (.cells #[.slice (some ⟨W4.heap.size+1,0,none⟩) 1 1,.slice (some ⟨W4.heap.size+1+1+1,0,none⟩) 1 1] 37)).alloc (.cells #[.int .i64 3,.slice (some ⟨x4,0,none⟩) 2 2] 30)) bA (.cells #[.int .i64 2,.slice A2 fA.length c2] 30)):=(BA.out).bel hb
 have RB:Hid (RF ((((((W4.alloc (.cells #[.int .i64 0,.int .i64 1,.int .i64 2] 3)).alloc (.cells #[.slice (some ⟨W4.heap.size,0,none⟩) 3 3] 36)).alloc (.cells #[.int .i64 0,.int .i64 2,.int .i64 1] 3)).alloc (.cells #[.slice (some ⟨W4.heap.size+1+1,0,none⟩) 3 3] 36)).alloc (.cells #[.slice (some ⟨W4.heap.size+1,0,none⟩) 1 1,.slice (some ⟨W4.heap.size+1+1+1,0,none⟩) 1 1] 37)).alloc (.cells #[.int .i64 3,.slice (some ⟨x4,0,none⟩) 2 2] 30)) A3 fB):=(RB.out).below hb
 have BB:Hid (Blk ((((((W4.alloc (.cells #[.int .i64 0,.int .i64 1,.int .i64 2] 3)).alloc (.cells #[.slice (some ⟨W4.heap.size,0,none⟩) 3 3] 36)).alloc (.cells #[.int .i64 0,.int .i64 2,.int .i64 1] 3)).alloc (.cells #[.slice (some ⟨W4.heap.size+1+1,0,none⟩) 3 3] 36)).alloc (.cells #[.slice (some ⟨W4.heap.size+1,0,none⟩) 1 1,.slice (some ⟨W4.heap.size+1+1+1,0,none⟩) 1 1] 37)).alloc (.cells #[.int .i64 3,.slice (some ⟨x4,0,none⟩) 2 2] 30)) bB (.cells #[.int .i64 3,.slice A3 fB.length c3] 30)):=(BB.out).bel hb
 have BC:Hid (Blk ((((((W4.alloc (.cells #[.int .i64 0,.int .i64 1,.int .i64 2] 3)).alloc (.cells #[.slice (some ⟨W4.heap.size,0,none⟩) 3 3] 36)).alloc (.cells #[.int .i64 0,.int .i64 2,.int .i64 1] 3)).alloc (.cells #[.slice (some ⟨W4.heap.size+1+1,0,none⟩) 3 3] 36)).alloc (.cells #[.slice (some ⟨W4.heap.size+1,0,none⟩) 1 1,.slice (some ⟨W4.heap.size+1+1+1,0,none⟩) 1 1] 37)).alloc (.cells #[.int .i64 3,.slice (some ⟨x4,0,none⟩) 2 2] 30)) bC (.cells #[.int .i64 1,.int .i64 0,.int .i64 1,.int .i64 0,.int .i64 1,.int .i64 0] 53)):=(BC.out).bel hb
 have R2:Hid (RF ((((((W4.alloc (.cells #[.int .i64 0,.int .i64 1,.int .i64 2] 3)).alloc (.cells #[.slice (some ⟨W4.heap.size,0,none⟩) 3 3] 36)).alloc (.cells #[.int .i64 0,.int .i64 2,.int .i64 1] 3)).alloc (.cells #[.slice (some ⟨W4.heap.size+1+1,0,none⟩) 3 3] 36)).alloc (.cells #[.slice (some ⟨W4.heap.size+1,0,none⟩) 1 1,.slice (some ⟨W4.heap.size+1+1+1,0,none⟩) 1 1] 37)).alloc (.cells #[.int .i64 3,.slice (some ⟨x4,0,none⟩) 2 2] 30)) (some ⟨x4,0,none⟩) f2):=(R2.out).below hb
 have B2:Hid (Blk ((((((W4.alloc (.cells #[.int .i64 0,.int .i64 1,.int .i64 2] 3)).alloc (.cells #[.slice (some ⟨W4.heap.size,0,none⟩) 3 3] 36)).alloc (.cells #[.int .i64 0,.int .i64 2,.int .i64 1] 3)).alloc (.cells #[.slice (some ⟨W4.heap.size+1+1,0,none⟩) 3 3] 36)).alloc (.cells #[.slice (some ⟨W4.heap.size+1,0,none⟩) 1 1,.slice (some ⟨W4.heap.size+1+1+1,0,none⟩) 1 1] 37)).alloc (.cells #[.int .i64 3,.slice (some ⟨x4,0,none⟩) 2 2] 30)) b2 (.cells #[.int .i64 3,.slice (some ⟨x4,0,none⟩) 2 2] 30)):=hbn
 clear hb hbn hr4
 try rw[hb2]
 try rw[hb3]
 clear hx4 hb2 hb3
 generalize (((((W4.alloc (.cells #[.int .i64 0,.int .i64 1,.int .i64 2] 3)).alloc (.cells #[.slice (some ⟨W4.heap.size,0,none⟩) 3 3] 36)).alloc (.cells #[.int .i64 0,.int .i64 2,.int .i64 1] 3)).alloc (.cells #[.slice (some ⟨W4.heap.size+1+1,0,none⟩) 3 3] 36)).alloc (.cells #[.slice (some ⟨W4.heap.size+1,0,none⟩) 1 1,.slice (some ⟨W4.heap.size+1+1+1,0,none⟩) 1 1] 37)).alloc (.cells #[.int .i64 3,.slice (some ⟨x4,0,none⟩) 2 2] 30)=W5 at HB RM BM RA BA RB BB BC R2 B2 ⊢
 have qb20:=(blk_cells B2.out).1 0 _ rfl
 have qb21:=(blk_cells B2.out).1 1 _ rfl
 have HC:=Lib.hid ((show Calls Try.prog 23 #[.agg #[.int .i64 3,.slice (some ⟨x4,0,none⟩) 2 2]] W5 _ from counts_any 3 (some ⟨x4,0,none⟩) 2 f2 W5 R2.out (fine_of r2).1 (fine_of r2).2.1 (fine_of r2).2.2))
 go_wp2_with fail
 ((with_reducible refine(HC.out).mono ?_);rintro e Wc6 ⟨⟨h,-⟩,hb⟩)
 obtain rfl:=h r2
 rw[ct2]
 clear HC
 have HB:Hid (Below w.heap.size w Wc6):=(HB.out).trans (hb.mono HB.out.size)
 have RM:Hid (RF Wc6 A1 fM):=(RM.out).below hb
 have BM:Hid (Blk Wc6 bM (.cells #[.int .i64 1,.slice A1 fM.length c1] 30)):=(BM.out).bel hb
 have RA:Hid (RF Wc6 A2 fA):=(RA.out).below hb
 have BA:Hid (Blk Wc6 bA (.cells #[.int .i64 2,.slice A2 fA.length c2] 30)):=(BA.out).bel hb
 have RB:Hid (RF Wc6 A3 fB):=(RB.out).below hb
 have BB:Hid (Blk Wc6 bB (.cells #[.int .i64 3,.slice A3 fB.length c3] 30)):=(BB.out).bel hb
 have BC:Hid (Blk Wc6 bC (.cells #[.int .i64 1,.int .i64 0,.int .i64 1,.int .i64 0,.int .i64 1,.int .i64 0] 53)):=(BC.out).bel hb
 have R2:Hid (RF Wc6 (some ⟨x4,0,none⟩) f2):=(R2.out).below hb
 have B2:Hid (Blk Wc6 b2 (.cells #[.int .i64 3,.slice (some ⟨x4,0,none⟩) 2 2] 30)):=(B2.out).bel hb
 clear hb
 go_upto_region 7 with fail
 have hb:=below_new Wc6 (.cells #[.int .i64 3,.int .i64 3,.int .i64 2,.int .i64 0,.int .i64 1,.int .i64 0] 53)
 have hbn:=blk_new Wc6 (.cells #[.int .i64 3,.int .i64 3,.int .i64 2,.int .i64 0,.int .i64 1,.int .i64 0] 53)
 obtain⟨bD,hbD⟩:∃b,Wc6.heap.size=b:=⟨_,rfl⟩
 have HB:Hid (Below w.heap.size w (Wc6.alloc (.cells #[.int .i64 3,.int .i64 3,.int .i64 2,.int .i64 0,.int .i64 1,.int .i64 0] 53))):=(HB.out).trans (hb.mono HB.out.size)
 have RM:Hid (RF (Wc6.alloc (.cells #[.int .i64 3,.int .i64 3,.int .i64 2,.int .i64 0,.int .i64 1,.int .i64 0] 53)) A1 fM):=(RM.out).below hb
 have BM:Hid (Blk (Wc6.alloc (.cells #[.int .i64 3,.int .i64 3,.int .i64 2,.int .i64 0,.int .i64 1,.int .i64 0] 53)) bM (.cells #[.int .i64 1,.slice A1 fM.length c1] 30)):=(BM.out).bel hb
 have RA:Hid (RF (Wc6.alloc (.cells #[.int .i64 3,.int .i64 3,.int .i64 2,.int .i64 0,.int .i64 1,.int .i64 0] 53)) A2 fA):=(RA.out).below hb
 have BA:Hid (Blk (Wc6.alloc (.cells #[.int .i64 3,.int .i64 3,.int .i64 2,.int .i64 0,.int .i64 1,.int .i64 0] 53)) bA (.cells #[.int .i64 2,.slice A2 fA.length c2] 30)):=(BA.out).bel hb
 have RB:Hid (RF (Wc6.alloc (.cells #[.int .i64 3,.int .i64 3,.int .i64 2,.int .i64 0,.int .i64 1,.int .i64 0] 53)) A3 fB):=(RB.out).below hb
 have BB:Hid (Blk (Wc6.alloc (.cells #[.int .i64 3,.int .i64 3,.int .i64 2,.int .i64 0,.int .i64 1,.int .i64 0] 53)) bB (.cells #[.int .i64 3,.slice A3 fB.length c3] 30)):=(BB.out).bel hb
 have BC:Hid (Blk (Wc6.alloc (.cells #[.int .i64 3,.int .i64 3,.int .i64 2,.int .i64 0,.int .i64 1,.int .i64 0] 53)) bC (.cells #[.int .i64 1,.int .i64 0,.int .i64 1,.int .i64 0,.int .i64 1,.int .i64 0] 53)):=(BC.out).bel hb
 have R2:Hid (RF (Wc6.alloc (.cells #[.int .i64 3,.int .i64 3,.int .i64 2,.int .i64 0,.int .i64 1,.int .i64 0] 53)) (some ⟨x4,0,none⟩) f2):=(R2.out).below hb
 have B2:Hid (Blk (Wc6.alloc (.cells #[.int .i64 3,.int .i64 3,.int .i64 2,.int .i64 0,.int .i64 1,.int .i64 0] 53)) b2 (.cells #[.int .i64 3,.slice (some ⟨x4,0,none⟩) 2 2] 30)):=(B2.out).bel hb
 rw[hbD] at hbn ⊢
 have BD:Hid (Blk (Wc6.alloc (.cells #[.int .i64 3,.int .i64 3,.int .i64 2,.int .i64 0,.int .i64 1,.int .i64 0] 53)) bD (.cells #[.int .i64 3,.int .i64 3,.int .i64 2,.int .i64 0,.int .i64 1,.int .i64 0] 53)):=hbn
 clear hb hbn hbD
 generalize Wc6.alloc (.cells #[.int .i64 3,.int .i64 3,.int .i64 2,.int .i64 0,.int .i64 1,.int .i64 0] 53)=W6 at HB RM BM RA BA RB BB BC R2 B2 BD ⊢
 clear qb20 qb21
 have qb20:=(blk_cells B2.out).1 0 _ rfl
 have qb21:=(blk_cells B2.out).1 1 _ rfl
 have HC:=Lib.hid ((show Calls Try.prog 26 #[.agg #[.int .i64 3,.slice (some ⟨x4,0,none⟩) 2 2],.int .i64 0,.int .i64 1] W6 _ from dropFace_any 3 (some ⟨x4,0,none⟩) 2 f2 0 1 W6 R2.out (by decide) (fine_of r2).1 (fine_of r2).2.1 (fine_of r2).2.2))
 go_wp2_with fail
 ((with_reducible refine(HC.out).mono ?_);rintro e Wc7 ⟨h,hb⟩)
 rw[df2] at h
 obtain⟨A5,c5,rfl,hl5,hr5⟩:=h
 clear HC
 have HB:Hid (Below w.heap.size w Wc7):=(HB.out).trans (hb.mono HB.out.size)
 have RM:Hid (RF Wc7 A1 fM):=(RM.out).below hb
 have BM:Hid (Blk Wc7 bM (.cells #[.int .i64 1,.slice A1 fM.length c1] 30)):=(BM.out).bel hb
 have RA:Hid (RF Wc7 A2 fA):=(RA.out).below hb
 have BA:Hid (Blk Wc7 bA (.cells #[.int .i64 2,.slice A2 fA.length c2] 30)):=(BA.out).bel hb
 have RB:Hid (RF Wc7 A3 fB):=(RB.out).below hb
 have BB:Hid (Blk Wc7 bB (.cells #[.int .i64 3,.slice A3 fB.length c3] 30)):=(BB.out).bel hb
 have BC:Hid (Blk Wc7 bC (.cells #[.int .i64 1,.int .i64 0,.int .i64 1,.int .i64 0,.int .i64 1,.int .i64 0] 53)):=(BC.out).bel hb
 have BD:Hid (Blk Wc7 bD (.cells #[.int .i64 3,.int .i64 3,.int .i64 2,.int .i64 0,.int .i64 1,.int .i64 0] 53)):=(BD.out).bel hb
 have RT:Hid (RF Wc7 A5 fT):=hr5
 clear hb
 go_upto_region 8 with fail
 have hb:=below_new Wc7 (.cells #[.int .i64 3,.slice A5 fT.length c5] 30)
 have hbn:=blk_new Wc7 (.cells #[.int .i64 3,.slice A5 fT.length c5] 30)
 obtain⟨bT,hbT⟩:∃b,Wc7.heap.size=b:=⟨_,rfl⟩
 have HB:Hid (Below w.heap.size w (Wc7.alloc (.cells #[.int .i64 3,.slice A5 fT.length c5] 30))):=(HB.out).trans (hb.mono HB.out.size)
 have RM:Hid (RF (Wc7.alloc (.cells #[.int .i64 3,.slice A5 fT.length c5] 30)) A1 fM):=(RM.out).below hb
 have BM:Hid (Blk (Wc7.alloc (.cells #[.int .i64 3,.slice A5 fT.length c5] 30)) bM (.cells #[.int .i64 1,.slice A1 fM.length c1] 30)):=(BM.out).bel hb
 have RA:Hid (RF (Wc7.alloc (.cells #[.int .i64 3,.slice A5 fT.length c5] 30)) A2 fA):=(RA.out).below hb
 have BA:Hid (Blk (Wc7.alloc (.cells #[.int .i64 3,.slice A5 fT.length c5] 30)) bA (.cells #[.int .i64 2,.slice A2 fA.length c2] 30)):=(BA.out).bel hb
 have RB:Hid (RF (Wc7.alloc (.cells #[.int .i64 3,.slice A5 fT.length c5] 30)) A3 fB):=(RB.out).below hb
 have BB:Hid (Blk (Wc7.alloc (.cells #[.int .i64 3,.slice A5 fT.length c5] 30)) bB (.cells #[.int .i64 3,.slice A3 fB.length c3] 30)):=(BB.out).bel hb
 have BC:Hid (Blk (Wc7.alloc (.cells #[.int .i64 3,.slice A5 fT.length c5] 30)) bC (.cells #[.int .i64 1,.int .i64 0,.int .i64 1,.int .i64 0,.int .i64 1,.int .i64 0] 53)):=(BC.out).bel hb
 have BD:Hid (Blk (Wc7.alloc (.cells #[.int .i64 3,.slice A5 fT.length c5] 30)) bD (.cells #[.int .i64 3,.int .i64 3,.int .i64 2,.int .i64 0,.int .i64 1,.int .i64 0] 53)):=(BD.out).bel hb
 have RT:Hid (RF (Wc7.alloc (.cells #[.int .i64 3,.slice A5 fT.length c5] 30)) A5 fT):=(RT.out).below hb
 rw[hbT] at hbn ⊢
 have BT:Hid (Blk (Wc7.alloc (.cells #[.int .i64 3,.slice A5 fT.length c5] 30)) bT (.cells #[.int .i64 3,.slice A5 fT.length c5] 30)):=hbn
 clear hb hbn hbT
 generalize Wc7.alloc (.cells #[.int .i64 3,.slice A5 fT.length c5] 30)=W7 at HB RM BM RA BA RB BB BC BD RT BT ⊢
 clear hr5 qb20 qb21
 have qbT0:=(blk_cells BT.out).1 0 _ rfl
 have qbT1:=(blk_cells BT.out).1 1 _ rfl
 have HC:=Lib.hid (counts_any 3 A5 c5 fT W7 RT.out (fine_of rT).1 (fine_of rT).2.1 (fine_of rT).2.2)
 go_wp2_with fail
 ((with_reducible refine(HC.out).mono ?_);rintro e Wc8 ⟨⟨h,-⟩,hb⟩)
 obtain rfl:=h rT
 rw[ctT]
 clear HC
 have HB:Hid (Below w.heap.size w Wc8):=(HB.out).trans (hb.mono HB.out.size)
 have RM:Hid (RF Wc8 A1 fM):=(RM.out).below hb
 have BM:Hid (Blk Wc8 bM (.cells #[.int .i64 1,.slice A1 fM.length c1] 30)):=(BM.out).bel hb
 have RA:Hid (RF Wc8 A2 fA):=(RA.out).below hb
 have BA:Hid (Blk Wc8 bA (.cells #[.int .i64 2,.slice A2 fA.length c2] 30)):=(BA.out).bel hb
 have RB:Hid (RF Wc8 A3 fB):=(RB.out).below hb
 have BB:Hid (Blk Wc8 bB (.cells #[.int .i64 3,.slice A3 fB.length c3] 30)):=(BB.out).bel hb
 have BC:Hid (Blk Wc8 bC (.cells #[.int .i64 1,.int .i64 0,.int .i64 1,.int .i64 0,.int .i64 1,.int .i64 0] 53)):=(BC.out).bel hb
 have BD:Hid (Blk Wc8 bD (.cells #[.int .i64 3,.int .i64 3,.int .i64 2,.int .i64 0,.int .i64 1,.int .i64 0] 53)):=(BD.out).bel hb
 clear hb
 go_upto_region 9 with fail
 have hb:=below_new Wc8 (.cells #[.int .i64 3,.int .i64 3,.int .i64 1,.int .i64 1,.int .i64 1,.int .i64 1] 53)
 have hbn:=blk_new Wc8 (.cells #[.int .i64 3,.int .i64 3,.int .i64 1,.int .i64 1,.int .i64 1,.int .i64 1] 53)
 obtain⟨bN,hbN⟩:∃b,Wc8.heap.size=b:=⟨_,rfl⟩
 have HB:Hid (Below w.heap.size w (Wc8.alloc (.cells #[.int .i64 3,.int .i64 3,.int .i64 1,.int .i64 1,.int .i64 1,.int .i64 1] 53))):=(HB.out).trans (hb.mono HB.out.size)
 have RM:Hid (RF (Wc8.alloc (.cells #[.int .i64 3,.int .i64 3,.int .i64 1,.int .i64 1,.int .i64 1,.int .i64 1] 53)) A1 fM):=(RM.out).below hb
 have BM:Hid (Blk (Wc8.alloc (.cells #[.int .i64 3,.int .i64 3,.int .i64 1,.int .i64 1,.int .i64 1,.int .i64 1] 53)) bM (.cells #[.int .i64 1,.slice A1 fM.length c1] 30)):=(BM.out).bel hb
 have RA:Hid (RF (Wc8.alloc (.cells #[.int .i64 3,.int .i64 3,.int .i64 1,.int .i64 1,.int .i64 1,.int .i64 1] 53)) A2 fA):=(RA.out).below hb
 have BA:Hid (Blk (Wc8.alloc (.cells #[.int .i64 3,.int .i64 3,.int .i64 1,.int .i64 1,.int .i64 1,.int .i64 1] 53)) bA (.cells #[.int .i64 2,.slice A2 fA.length c2] 30)):=(BA.out).bel hb
 have RB:Hid (RF (Wc8.alloc (.cells #[.int .i64 3,.int .i64 3,.int .i64 1,.int .i64 1,.int .i64 1,.int .i64 1] 53)) A3 fB):=(RB.out).below hb
 have BB:Hid (Blk (Wc8.alloc (.cells #[.int .i64 3,.int .i64 3,.int .i64 1,.int .i64 1,.int .i64 1,.int .i64 1] 53)) bB (.cells #[.int .i64 3,.slice A3 fB.length c3] 30)):=(BB.out).bel hb
 have BC:Hid (Blk (Wc8.alloc (.cells #[.int .i64 3,.int .i64 3,.int .i64 1,.int .i64 1,.int .i64 1,.int .i64 1] 53)) bC (.cells #[.int .i64 1,.int .i64 0,.int .i64 1,.int .i64 0,.int .i64 1,.int .i64 0] 53)):=(BC.out).bel hb
 have BD:Hid (Blk (Wc8.alloc (.cells #[.int .i64 3,.int .i64 3,.int .i64 1,.int .i64 1,.int .i64 1,.int .i64 1] 53)) bD (.cells #[.int .i64 3,.int .i64 3,.int .i64 2,.int .i64 0,.int .i64 1,.int .i64 0] 53)):=(BD.out).bel hb
 rw[hbN] at hbn ⊢
 have BN:Hid (Blk (Wc8.alloc (.cells #[.int .i64 3,.int .i64 3,.int .i64 1,.int .i64 1,.int .i64 1,.int .i64 1] 53)) bN (.cells #[.int .i64 3,.int .i64 3,.int .i64 1,.int .i64 1,.int .i64 1,.int .i64 1] 53)):=hbn
 clear hb hbn hbN
 generalize Wc8.alloc (.cells #[.int .i64 3,.int .i64 3,.int .i64 1,.int .i64 1,.int .i64 1,.int .i64 1] 53)=W8 at HB RM BM RA BA RB BB BC BD BN ⊢
 clear qbT0 qbT1
 have qbM0:=(blk_cells BM.out).1 0 _ rfl
 have qbM1:=(blk_cells BM.out).1 1 _ rfl
 clear qbM0 qbM1
 have heq0:=six_eq0
 have heq1:=six_eq1
 have heq2:=six_eq2
 simp only[List.append_eq,List.cons_append,List.nil_append]
 have qbM0:=(blk_cells BM.out).1 0 _ rfl
 have qbM1:=(blk_cells BM.out).1 1 _ rfl
 have qbA0:=(blk_cells BA.out).1 0 _ rfl
 have qbA1:=(blk_cells BA.out).1 1 _ rfl
 have qbB0:=(blk_cells BB.out).1 0 _ rfl
 have qbB1:=(blk_cells BB.out).1 1 _ rfl
 have qbC0:=(blk_cells BC.out).1 0 _ rfl
 have qbC1:=(blk_cells BC.out).1 1 _ rfl
 have qbC2:=(blk_cells BC.out).1 2 _ rfl
 have qbC3:=(blk_cells BC.out).1 3 _ rfl
 have qbC4:=(blk_cells BC.out).1 4 _ rfl
 have qbC5:=(blk_cells BC.out).1 5 _ rfl
 have qbD0:=(blk_cells BD.out).1 0 _ rfl
 have qbD1:=(blk_cells BD.out).1 1 _ rfl
 have qbD2:=(blk_cells BD.out).1 2 _ rfl
 have qbD3:=(blk_cells BD.out).1 3 _ rfl
 have qbD4:=(blk_cells BD.out).1 4 _ rfl
 have qbD5:=(blk_cells BD.out).1 5 _ rfl
 have qbN0:=(blk_cells BN.out).1 0 _ rfl
 have qbN1:=(blk_cells BN.out).1 1 _ rfl
 have qbN2:=(blk_cells BN.out).1 2 _ rfl
 have qbN3:=(blk_cells BN.out).1 3 _ rfl
 have qbN4:=(blk_cells BN.out).1 4 _ rfl
 have qbN5:=(blk_cells BN.out).1 5 _ rfl
 have HC:=Lib.hid (lown_any 1 A1 c1 fM W8 RM.out hl1)
 go_wp2_with fail
 ((with_reducible refine(HC.out).mono ?_);rintro e Wc9 ⟨⟨v,rfl,hG⟩,hb⟩)
 rw[cpM] at hG
 obtain⟨Ag1,cg1,rfl,hlg1,hrg1⟩:=hG.rf
 clear hG
 clear qbM0 qbM1 qbA0 qbA1 qbB0 qbB1 qbC0 qbC1 qbC2 qbC3 qbC4 qbC5 qbD0 qbD1 qbD2 qbD3 qbD4 qbD5 qbN0 qbN1 qbN2 qbN3 qbN4 qbN5
 clear HC
 have HB:Hid (Below w.heap.size w Wc9):=(HB.out).trans (hb.mono HB.out.size)
 have BM:Hid (Blk Wc9 bM (.cells #[.int .i64 1,.slice A1 fM.length c1] 30)):=(BM.out).bel hb
 have RA:Hid (RF Wc9 A2 fA):=(RA.out).below hb
 have BA:Hid (Blk Wc9 bA (.cells #[.int .i64 2,.slice A2 fA.length c2] 30)):=(BA.out).bel hb
 have RB:Hid (RF Wc9 A3 fB):=(RB.out).below hb
 have BB:Hid (Blk Wc9 bB (.cells #[.int .i64 3,.slice A3 fB.length c3] 30)):=(BB.out).bel hb
 have BC:Hid (Blk Wc9 bC (.cells #[.int .i64 1,.int .i64 0,.int .i64 1,.int .i64 0,.int .i64 1,.int .i64 0] 53)):=(BC.out).bel hb
 have BD:Hid (Blk Wc9 bD (.cells #[.int .i64 3,.int .i64 3,.int .i64 2,.int .i64 0,.int .i64 1,.int .i64 0] 53)):=(BD.out).bel hb
 have BN:Hid (Blk Wc9 bN (.cells #[.int .i64 3,.int .i64 3,.int .i64 1,.int .i64 1,.int .i64 1,.int .i64 1] 53)):=(BN.out).bel hb
 have Rg1:Hid (RF Wc9 Ag1 fM):=hrg1
 clear hb
 clear hrg1
 have qbM0:=(blk_cells BM.out).1 0 _ rfl
 have qbM1:=(blk_cells BM.out).1 1 _ rfl
 have qbA0:=(blk_cells BA.out).1 0 _ rfl
 have qbA1:=(blk_cells BA.out).1 1 _ rfl
 have qbB0:=(blk_cells BB.out).1 0 _ rfl
 have qbB1:=(blk_cells BB.out).1 1 _ rfl
 have qbC0:=(blk_cells BC.out).1 0 _ rfl
 have qbC1:=(blk_cells BC.out).1 1 _ rfl
 have qbC2:=(blk_cells BC.out).1 2 _ rfl
 have qbC3:=(blk_cells BC.out).1 3 _ rfl
 have qbC4:=(blk_cells BC.out).1 4 _ rfl
 have qbC5:=(blk_cells BC.out).1 5 _ rfl
 have qbD0:=(blk_cells BD.out).1 0 _ rfl
 have qbD1:=(blk_cells BD.out).1 1 _ rfl
 have qbD2:=(blk_cells BD.out).1 2 _ rfl
 have qbD3:=(blk_cells BD.out).1 3 _ rfl
 have qbD4:=(blk_cells BD.out).1 4 _ rfl
 have qbD5:=(blk_cells BD.out).1 5 _ rfl
 have qbN0:=(blk_cells BN.out).1 0 _ rfl
 have qbN1:=(blk_cells BN.out).1 1 _ rfl
 have qbN2:=(blk_cells BN.out).1 2 _ rfl
 have qbN3:=(blk_cells BN.out).1 3 _ rfl
 have qbN4:=(blk_cells BN.out).1 4 _ rfl
 have qbN5:=(blk_cells BN.out).1 5 _ rfl
 have HC:=Lib.hid (rnew_any Wc9)
 go_wp2_with fail
 ((with_reducible refine(HC.out).mono ?_);rintro e Wc10 ⟨⟨Ag2,cg2,rfl,hlg2,hrg2⟩,hb⟩)
 clear qbM0 qbM1 qbA0 qbA1 qbB0 qbB1 qbC0 qbC1 qbC2 qbC3 qbC4 qbC5 qbD0 qbD1 qbD2 qbD3 qbD4 qbD5 qbN0 qbN1 qbN2 qbN3 qbN4 qbN5
 clear HC
 have HB:Hid (Below w.heap.size w Wc10):=(HB.out).trans (hb.mono HB.out.size)
 have BM:Hid (Blk Wc10 bM (.cells #[.int .i64 1,.slice A1 fM.length c1] 30)):=(BM.out).bel hb
 have RA:Hid (RF Wc10 A2 fA):=(RA.out).below hb
 have BA:Hid (Blk Wc10 bA (.cells #[.int .i64 2,.slice A2 fA.length c2] 30)):=(BA.out).bel hb
 have RB:Hid (RF Wc10 A3 fB):=(RB.out).below hb
 have BB:Hid (Blk Wc10 bB (.cells #[.int .i64 3,.slice A3 fB.length c3] 30)):=(BB.out).bel hb
 have BC:Hid (Blk Wc10 bC (.cells #[.int .i64 1,.int .i64 0,.int .i64 1,.int .i64 0,.int .i64 1,.int .i64 0] 53)):=(BC.out).bel hb
 have BD:Hid (Blk Wc10 bD (.cells #[.int .i64 3,.int .i64 3,.int .i64 2,.int .i64 0,.int .i64 1,.int .i64 0] 53)):=(BD.out).bel hb
 have BN:Hid (Blk Wc10 bN (.cells #[.int .i64 3,.int .i64 3,.int .i64 1,.int .i64 1,.int .i64 1,.int .i64 1] 53)):=(BN.out).bel hb
 have Rg1:Hid (RF Wc10 Ag1 fM):=(Rg1.out).below hb
 have Rg2:Hid (RF Wc10 Ag2 fM):=hrg2
 clear hb
 clear hrg2
 have qbM0:=(blk_cells BM.out).1 0 _ rfl
 have qbM1:=(blk_cells BM.out).1 1 _ rfl
 have qbA0:=(blk_cells BA.out).1 0 _ rfl
 have qbA1:=(blk_cells BA.out).1 1 _ rfl
 have qbB0:=(blk_cells BB.out).1 0 _ rfl
 have qbB1:=(blk_cells BB.out).1 1 _ rfl
 have qbC0:=(blk_cells BC.out).1 0 _ rfl
 have qbC1:=(blk_cells BC.out).1 1 _ rfl
 have qbC2:=(blk_cells BC.out).1 2 _ rfl
 have qbC3:=(blk_cells BC.out).1 3 _ rfl
 have qbC4:=(blk_cells BC.out).1 4 _ rfl
 have qbC5:=(blk_cells BC.out).1 5 _ rfl
 have qbD0:=(blk_cells BD.out).1 0 _ rfl
 have qbD1:=(blk_cells BD.out).1 1 _ rfl
 have qbD2:=(blk_cells BD.out).1 2 _ rfl
 have qbD3:=(blk_cells BD.out).1 3 _ rfl
 have qbD4:=(blk_cells BD.out).1 4 _ rfl
 have qbD5:=(blk_cells BD.out).1 5 _ rfl
 have qbN0:=(blk_cells BN.out).1 0 _ rfl
 have qbN1:=(blk_cells BN.out).1 1 _ rfl
 have qbN2:=(blk_cells BN.out).1 2 _ rfl
 have qbN3:=(blk_cells BN.out).1 3 _ rfl
 have qbN4:=(blk_cells BN.out).1 4 _ rfl
 have qbN5:=(blk_cells BN.out).1 5 _ rfl
 have HC:=Lib.hid (like_any 1 1 Ag1 Ag2 cg1 cg2 fM fM Wc10 Rg1.out hlg1 Rg2.out hlg2 (fine_of rM).1 (fine_of rM).1)
 go_wp2_with fail
 ((with_reducible refine(HC.out).mono ?_);rintro e Wc11 ⟨⟨b,rfl,hlk⟩,hb⟩)
 obtain rfl:b=true:=hlk.2 (likeP_refl _ _)
 clear hlk
 clear qbM0 qbM1 qbA0 qbA1 qbB0 qbB1 qbC0 qbC1 qbC2 qbC3 qbC4 qbC5 qbD0 qbD1 qbD2 qbD3 qbD4 qbD5 qbN0 qbN1 qbN2 qbN3 qbN4 qbN5
 clear HC
 have HB:Hid (Below w.heap.size w Wc11):=(HB.out).trans (hb.mono HB.out.size)
 have BM:Hid (Blk Wc11 bM (.cells #[.int .i64 1,.slice A1 fM.length c1] 30)):=(BM.out).bel hb
 have RA:Hid (RF Wc11 A2 fA):=(RA.out).below hb
 have BA:Hid (Blk Wc11 bA (.cells #[.int .i64 2,.slice A2 fA.length c2] 30)):=(BA.out).bel hb
 have RB:Hid (RF Wc11 A3 fB):=(RB.out).below hb
 have BB:Hid (Blk Wc11 bB (.cells #[.int .i64 3,.slice A3 fB.length c3] 30)):=(BB.out).bel hb
 have BC:Hid (Blk Wc11 bC (.cells #[.int .i64 1,.int .i64 0,.int .i64 1,.int .i64 0,.int .i64 1,.int .i64 0] 53)):=(BC.out).bel hb
 have BD:Hid (Blk Wc11 bD (.cells #[.int .i64 3,.int .i64 3,.int .i64 2,.int .i64 0,.int .i64 1,.int .i64 0] 53)):=(BD.out).bel hb
 have BN:Hid (Blk Wc11 bN (.cells #[.int .i64 3,.int .i64 3,.int .i64 1,.int .i64 1,.int .i64 1,.int .i64 1] 53)):=(BN.out).bel hb
 clear hb
 have qbM0:=(blk_cells BM.out).1 0 _ rfl
 have qbM1:=(blk_cells BM.out).1 1 _ rfl
 have qbA0:=(blk_cells BA.out).1 0 _ rfl
 have qbA1:=(blk_cells BA.out).1 1 _ rfl
 have qbB0:=(blk_cells BB.out).1 0 _ rfl
 have qbB1:=(blk_cells BB.out).1 1 _ rfl
 have qbC0:=(blk_cells BC.out).1 0 _ rfl
 have qbC1:=(blk_cells BC.out).1 1 _ rfl
 have qbC2:=(blk_cells BC.out).1 2 _ rfl
 have qbC3:=(blk_cells BC.out).1 3 _ rfl
 have qbC4:=(blk_cells BC.out).1 4 _ rfl
 have qbC5:=(blk_cells BC.out).1 5 _ rfl
 have qbD0:=(blk_cells BD.out).1 0 _ rfl
 have qbD1:=(blk_cells BD.out).1 1 _ rfl
 have qbD2:=(blk_cells BD.out).1 2 _ rfl
 have qbD3:=(blk_cells BD.out).1 3 _ rfl
 have qbD4:=(blk_cells BD.out).1 4 _ rfl
 have qbD5:=(blk_cells BD.out).1 5 _ rfl
 have qbN0:=(blk_cells BN.out).1 0 _ rfl
 have qbN1:=(blk_cells BN.out).1 1 _ rfl
 have qbN2:=(blk_cells BN.out).1 2 _ rfl
 have qbN3:=(blk_cells BN.out).1 3 _ rfl
 have qbN4:=(blk_cells BN.out).1 4 _ rfl
 have qbN5:=(blk_cells BN.out).1 5 _ rfl
 have HC:=Lib.hid (lown_any 2 A2 c2 fA Wc11 RA.out hl2)
 go_wp2_with fail
 ((with_reducible refine(HC.out).mono ?_);rintro e Wc12 ⟨⟨v,rfl,hG⟩,hb⟩)
 rw[cpAA] at hG
 obtain⟨Ag3,cg3,rfl,hlg3,hrg3⟩:=hG.rf
 clear hG
 clear qbM0 qbM1 qbA0 qbA1 qbB0 qbB1 qbC0 qbC1 qbC2 qbC3 qbC4 qbC5 qbD0 qbD1 qbD2 qbD3 qbD4 qbD5 qbN0 qbN1 qbN2 qbN3 qbN4 qbN5
 clear HC
 have HB:Hid (Below w.heap.size w Wc12):=(HB.out).trans (hb.mono HB.out.size)
 have BM:Hid (Blk Wc12 bM (.cells #[.int .i64 1,.slice A1 fM.length c1] 30)):=(BM.out).bel hb
 have BA:Hid (Blk Wc12 bA (.cells #[.int .i64 2,.slice A2 fA.length c2] 30)):=(BA.out).bel hb
 have RB:Hid (RF Wc12 A3 fB):=(RB.out).below hb
 have BB:Hid (Blk Wc12 bB (.cells #[.int .i64 3,.slice A3 fB.length c3] 30)):=(BB.out).bel hb
 have BC:Hid (Blk Wc12 bC (.cells #[.int .i64 1,.int .i64 0,.int .i64 1,.int .i64 0,.int .i64 1,.int .i64 0] 53)):=(BC.out).bel hb
 have BD:Hid (Blk Wc12 bD (.cells #[.int .i64 3,.int .i64 3,.int .i64 2,.int .i64 0,.int .i64 1,.int .i64 0] 53)):=(BD.out).bel hb
 have BN:Hid (Blk Wc12 bN (.cells #[.int .i64 3,.int .i64 3,.int .i64 1,.int .i64 1,.int .i64 1,.int .i64 1] 53)):=(BN.out).bel hb
 have Rg3:Hid (RF Wc12 Ag3 fA):=hrg3
 clear hb
 clear hrg3
 have qbM0:=(blk_cells BM.out).1 0 _ rfl
 have qbM1:=(blk_cells BM.out).1 1 _ rfl
 have qbA0:=(blk_cells BA.out).1 0 _ rfl
 have qbA1:=(blk_cells BA.out).1 1 _ rfl
 have qbB0:=(blk_cells BB.out).1 0 _ rfl
 have qbB1:=(blk_cells BB.out).1 1 _ rfl
 have qbC0:=(blk_cells BC.out).1 0 _ rfl
 have qbC1:=(blk_cells BC.out).1 1 _ rfl
 have qbC2:=(blk_cells BC.out).1 2 _ rfl
 have qbC3:=(blk_cells BC.out).1 3 _ rfl
 have qbC4:=(blk_cells BC.out).1 4 _ rfl
 have qbC5:=(blk_cells BC.out).1 5 _ rfl
 have qbD0:=(blk_cells BD.out).1 0 _ rfl
 have qbD1:=(blk_cells BD.out).1 1 _ rfl
 have qbD2:=(blk_cells BD.out).1 2 _ rfl
 have qbD3:=(blk_cells BD.out).1 3 _ rfl
 have qbD4:=(blk_cells BD.out).1 4 _ rfl
 have qbD5:=(blk_cells BD.out).1 5 _ rfl
 have qbN0:=(blk_cells BN.out).1 0 _ rfl
 have qbN1:=(blk_cells BN.out).1 1 _ rfl
 have qbN2:=(blk_cells BN.out).1 2 _ rfl
 have qbN3:=(blk_cells BN.out).1 3 _ rfl
 have qbN4:=(blk_cells BN.out).1 4 _ rfl
 have qbN5:=(blk_cells BN.out).1 5 _ rfl
 obtain⟨hr9,hb⟩:RF (((Wc12.alloc (.cells #[.int .i64 0,.int .i64 1] 3)).alloc (.cells #[.slice (some ⟨Wc12.heap.size,0,none⟩) 2 2] 36)).alloc (.cells #[.slice (some ⟨Wc12.heap.size+1,0,none⟩) 1 1] 37)) (some ⟨Wc12.heap.size+1+1,0,none⟩) fA∧Below Wc12.heap.size Wc12 (((Wc12.alloc (.cells #[.int .i64 0,.int .i64 1] 3)).alloc (.cells #[.slice (some ⟨Wc12.heap.size,0,none⟩) 2 2] 36)).alloc (.cells #[.slice (some ⟨Wc12.heap.size+1,0,none⟩) 1 1] 37)):=lit_one Wc12 [0,1] (n:=2) rfl (by omega)
 have HB:Hid (Below w.heap.size w (((Wc12.alloc (.cells #[.int .i64 0,.int .i64 1] 3)).alloc (.cells #[.slice (some ⟨Wc12.heap.size,0,none⟩) 2 2] 36)).alloc (.cells #[.slice (some ⟨Wc12.heap.size+1,0,none⟩) 1 1] 37))):=(HB.out).trans (hb.mono HB.out.size)
 have BM:Hid (Blk (((Wc12.alloc (.cells #[.int .i64 0,.int .i64 1] 3)).alloc (.cells #[.slice (some ⟨Wc12.heap.size,0,none⟩) 2 2] 36)).alloc (.cells #[.slice (some ⟨Wc12.heap.size+1,0,none⟩) 1 1] 37)) bM (.cells #[.int .i64 1,.slice A1 fM.length c1] 30)):=(BM.out).bel hb
 have BA:Hid (Blk (((Wc12.alloc (.cells #[.int .i64 0,.int .i64 1] 3)).alloc (.cells #[.slice (some ⟨Wc12.heap.size,0,none⟩) 2 2] 36)).alloc (.cells #[.slice (some ⟨Wc12.heap.size+1,0,none⟩) 1 1] 37)) bA (.cells #[.int .i64 2,.slice A2 fA.length c2] 30)):=(BA.out).bel hb
 have RB:Hid (RF (((Wc12.alloc (.cells #[.int .i64 0,.int .i64 1] 3)).alloc (.cells #[.slice (some ⟨Wc12.heap.size,0,none⟩) 2 2] 36)).alloc (.cells #[.slice (some ⟨Wc12.heap.size+1,0,none⟩) 1 1] 37)) A3 fB):=(RB.out).below hb
 have BB:Hid (Blk (((Wc12.alloc (.cells #[.int .i64 0,.int .i64 1] 3)).alloc (.cells #[.slice (some ⟨Wc12.heap.size,0,none⟩) 2 2] 36)).alloc (.cells #[.slice (some ⟨Wc12.heap.size+1,0,none⟩) 1 1] 37)) bB (.cells #[.int .i64 3,.slice A3 fB.length c3] 30)):=(BB.out).bel hb
 have BC:Hid (Blk (((Wc12.alloc (.cells #[.int .i64 0,.int .i64 1] 3)).alloc (.cells #[.slice (some ⟨Wc12.heap.size,0,none⟩) 2 2] 36)).alloc (.cells #[.slice (some ⟨Wc12.heap.size+1,0,none⟩) 1 1] 37)) bC (.cells #[.int .i64 1,.int .i64 0,.int .i64 1,.int .i64 0,.int .i64 1,.int .i64 0] 53)):=(BC.out).bel hb
 have BD:Hid (Blk (((Wc12.alloc (.cells #[.int .i64 0,.int .i64 1] 3)).alloc (.cells #[.slice (some ⟨Wc12.heap.size,0,none⟩) 2 2] 36)).alloc (.cells #[.slice (some ⟨Wc12.heap.size+1,0,none⟩) 1 1] 37)) bD (.cells #[.int .i64 3,.int .i64 3,.int .i64 2,.int .i64 0,.int .i64 1,.int .i64 0] 53)):=(BD.out).bel hb
 have BN:Hid (Blk (((Wc12.alloc (.cells #[.int .i64 0,.int .i64 1] 3)).alloc (.cells #[.slice (some ⟨Wc12.heap.size,0,none⟩) 2 2] 36)).alloc (.cells #[.slice (some ⟨Wc12.heap.size+1,0,none⟩) 1 1] 37)) bN (.cells #[.int .i64 3,.int .i64 3,.int .i64 1,.int .i64 1,.int .i64 1,.int .i64 1] 53)):=(BN.out).bel hb
 have Rg3:Hid (RF (((Wc12.alloc (.cells #[.int .i64 0,.int .i64 1] 3)).alloc (.cells #[.slice (some ⟨Wc12.heap.size,0,none⟩) 2 2] 36)).alloc (.cells #[.slice (some ⟨Wc12.heap.size+1,0,none⟩) 1 1] 37)) Ag3 fA):=(Rg3.out).below hb
 have R9:Hid (RF (((Wc12.alloc (.cells #[.int .i64 0,.int .i64 1] 3)).alloc (.cells #[.slice (some ⟨Wc12.heap.size,0,none⟩) 2 2] 36)).alloc (.cells #[.slice (some ⟨Wc12.heap.size+1,0,none⟩) 1 1] 37)) (some ⟨Wc12.heap.size+1+1,0,none⟩) fA):=hr9
 have HC:=Lib.hid (show Calls Try.prog 47 #[.agg #[.int .i64 2,.slice Ag3 fA.length cg3],.agg #[.int .i64 2,.slice (some ⟨Wc12.heap.size+1+1,0,none⟩) 1 1]] (((Wc12.alloc (.cells #[.int .i64 0,.int .i64 1] 3)).alloc (.cells #[.slice (some ⟨Wc12.heap.size,0,none⟩) 2 2] 36)).alloc (.cells #[.slice (some ⟨Wc12.heap.size+1,0,none⟩) 1 1] 37)) _ from like_any 2 2 Ag3 (some ⟨Wc12.heap.size+1+1,0,none⟩) cg3 1 fA fA (((Wc12.alloc (.cells #[.int .i64 0,.int .i64 1] 3)).alloc (.cells #[.slice (some ⟨Wc12.heap.size,0,none⟩) 2 2] 36)).alloc (.cells #[.slice (some ⟨Wc12.heap.size+1,0,none⟩) 1 1] 37)) Rg3.out hlg3 R9.out (by decide) (fine_of rA).1 (fine_of rA).1)
 go_wp2_with fail
 ((with_reducible refine(HC.out).mono ?_);rintro e Wd13 ⟨⟨b,rfl,hlk⟩,hb⟩)
 obtain rfl:b=true:=hlk.2 (likeP_refl _ _)
 clear hlk HC
 clear qbM0 qbM1 qbA0 qbA1 qbB0 qbB1 qbC0 qbC1 qbC2 qbC3 qbC4 qbC5 qbD0 qbD1 qbD2 qbD3 qbD4 qbD5 qbN0 qbN1 qbN2 qbN3 qbN4 qbN5
 have HB:Hid (Below w.heap.size w Wd13):=(HB.out).trans (hb.mono HB.out.size)
 have BM:Hid (Blk Wd13 bM (.cells #[.int .i64 1,.slice A1 fM.length c1] 30)):=(BM.out).bel hb
 have BA:Hid (Blk Wd13 bA (.cells #[.int .i64 2,.slice A2 fA.length c2] 30)):=(BA.out).bel hb
 have RB:Hid (RF Wd13 A3 fB):=(RB.out).below hb
 have BB:Hid (Blk Wd13 bB (.cells #[.int .i64 3,.slice A3 fB.length c3] 30)):=(BB.out).bel hb
 have BC:Hid (Blk Wd13 bC (.cells #[.int .i64 1,.int .i64 0,.int .i64 1,.int .i64 0,.int .i64 1,.int .i64 0] 53)):=(BC.out).bel hb
 have BD:Hid (Blk Wd13 bD (.cells #[.int .i64 3,.int .i64 3,.int .i64 2,.int .i64 0,.int .i64 1,.int .i64 0] 53)):=(BD.out).bel hb
 have BN:Hid (Blk Wd13 bN (.cells #[.int .i64 3,.int .i64 3,.int .i64 1,.int .i64 1,.int .i64 1,.int .i64 1] 53)):=(BN.out).bel hb
 have R9:Hid (RF Wd13 (some ⟨Wc12.heap.size+1+1,0,none⟩) fA):=(R9.out).below hb
 clear hb hr9
 clear R9
 have qbM0:=(blk_cells BM.out).1 0 _ rfl
 have qbM1:=(blk_cells BM.out).1 1 _ rfl
 have qbA0:=(blk_cells BA.out).1 0 _ rfl
 have qbA1:=(blk_cells BA.out).1 1 _ rfl
 have qbB0:=(blk_cells BB.out).1 0 _ rfl
 have qbB1:=(blk_cells BB.out).1 1 _ rfl
 have qbC0:=(blk_cells BC.out).1 0 _ rfl
 have qbC1:=(blk_cells BC.out).1 1 _ rfl
 have qbC2:=(blk_cells BC.out).1 2 _ rfl
 have qbC3:=(blk_cells BC.out).1 3 _ rfl
 have qbC4:=(blk_cells BC.out).1 4 _ rfl
 have qbC5:=(blk_cells BC.out).1 5 _ rfl
 have qbD0:=(blk_cells BD.out).1 0 _ rfl
 have qbD1:=(blk_cells BD.out).1 1 _ rfl
 have qbD2:=(blk_cells BD.out).1 2 _ rfl
 have qbD3:=(blk_cells BD.out).1 3 _ rfl
 have qbD4:=(blk_cells BD.out).1 4 _ rfl
 have qbD5:=(blk_cells BD.out).1 5 _ rfl
 have qbN0:=(blk_cells BN.out).1 0 _ rfl
 have qbN1:=(blk_cells BN.out).1 1 _ rfl
 have qbN2:=(blk_cells BN.out).1 2 _ rfl
 have qbN3:=(blk_cells BN.out).1 3 _ rfl
 have qbN4:=(blk_cells BN.out).1 4 _ rfl
 have qbN5:=(blk_cells BN.out).1 5 _ rfl
 have HC:=Lib.hid (lown_any 3 A3 c3 fB Wd13 RB.out hl3)
 go_wp2_with fail
 ((with_reducible refine(HC.out).mono ?_);rintro e Wc14 ⟨⟨v,rfl,hG⟩,hb⟩)
 rw[cpB] at hG
 obtain⟨Ag4,cg4,rfl,hlg4,hrg4⟩:=hG.rf
 clear hG
 clear qbM0 qbM1 qbA0 qbA1 qbB0 qbB1 qbC0 qbC1 qbC2 qbC3 qbC4 qbC5 qbD0 qbD1 qbD2 qbD3 qbD4 qbD5 qbN0 qbN1 qbN2 qbN3 qbN4 qbN5
 clear HC
 have HB:Hid (Below w.heap.size w Wc14):=(HB.out).trans (hb.mono HB.out.size)
 have BM:Hid (Blk Wc14 bM (.cells #[.int .i64 1,.slice A1 fM.length c1] 30)):=(BM.out).bel hb
 have BA:Hid (Blk Wc14 bA (.cells #[.int .i64 2,.slice A2 fA.length c2] 30)):=(BA.out).bel hb
 have BB:Hid (Blk Wc14 bB (.cells #[.int .i64 3,.slice A3 fB.length c3] 30)):=(BB.out).bel hb
 have BC:Hid (Blk Wc14 bC (.cells #[.int .i64 1,.int .i64 0,.int .i64 1,.int .i64 0,.int .i64 1,.int .i64 0] 53)):=(BC.out).bel hb
 have BD:Hid (Blk Wc14 bD (.cells #[.int .i64 3,.int .i64 3,.int .i64 2,.int .i64 0,.int .i64 1,.int .i64 0] 53)):=(BD.out).bel hb
 have BN:Hid (Blk Wc14 bN (.cells #[.int .i64 3,.int .i64 3,.int .i64 1,.int .i64 1,.int .i64 1,.int .i64 1] 53)):=(BN.out).bel hb
 have Rg4:Hid (RF Wc14 Ag4 fB):=hrg4
 clear hb
 clear hrg4
 have qbM0:=(blk_cells BM.out).1 0 _ rfl
 have qbM1:=(blk_cells BM.out).1 1 _ rfl
 have qbA0:=(blk_cells BA.out).1 0 _ rfl
 have qbA1:=(blk_cells BA.out).1 1 _ rfl
 have qbB0:=(blk_cells BB.out).1 0 _ rfl
 have qbB1:=(blk_cells BB.out).1 1 _ rfl
 have qbC0:=(blk_cells BC.out).1 0 _ rfl
 have qbC1:=(blk_cells BC.out).1 1 _ rfl
 have qbC2:=(blk_cells BC.out).1 2 _ rfl
 have qbC3:=(blk_cells BC.out).1 3 _ rfl
 have qbC4:=(blk_cells BC.out).1 4 _ rfl
 have qbC5:=(blk_cells BC.out).1 5 _ rfl
 have qbD0:=(blk_cells BD.out).1 0 _ rfl
 have qbD1:=(blk_cells BD.out).1 1 _ rfl
 have qbD2:=(blk_cells BD.out).1 2 _ rfl
 have qbD3:=(blk_cells BD.out).1 3 _ rfl
 have qbD4:=(blk_cells BD.out).1 4 _ rfl
 have qbD5:=(blk_cells BD.out).1 5 _ rfl
 have qbN0:=(blk_cells BN.out).1 0 _ rfl
 have qbN1:=(blk_cells BN.out).1 1 _ rfl
 have qbN2:=(blk_cells BN.out).1 2 _ rfl
 have qbN3:=(blk_cells BN.out).1 3 _ rfl
 have qbN4:=(blk_cells BN.out).1 4 _ rfl
 have qbN5:=(blk_cells BN.out).1 5 _ rfl
 obtain⟨hr9,hb⟩:RF (((Wc14.alloc (.cells #[.int .i64 0,.int .i64 2,.int .i64 0,.int .i64 1] 3)).alloc (.cells #[.slice (some ⟨Wc14.heap.size,0,none⟩) 4 4] 36)).alloc (.cells #[.slice (some ⟨Wc14.heap.size+1,0,none⟩) 1 1] 37)) (some ⟨Wc14.heap.size+1+1,0,none⟩) fB∧Below Wc14.heap.size Wc14 (((Wc14.alloc (.cells #[.int .i64 0,.int .i64 2,.int .i64 0,.int .i64 1] 3)).alloc (.cells #[.slice (some ⟨Wc14.heap.size,0,none⟩) 4 4] 36)).alloc (.cells #[.slice (some ⟨Wc14.heap.size+1,0,none⟩) 1 1] 37)):=lit_one Wc14 [0,2,0,1] (n:=4) rfl (by omega)
 have HB:Hid (Below w.heap.size w (((Wc14.alloc (.cells #[.int .i64 0,.int .i64 2,.int .i64 0,.int .i64 1] 3)).alloc (.cells #[.slice (some ⟨Wc14.heap.size,0,none⟩) 4 4] 36)).alloc (.cells #[.slice (some ⟨Wc14.heap.size+1,0,none⟩) 1 1] 37))):=(HB.out).trans (hb.mono HB.out.size)
 have BM:Hid (Blk (((Wc14.alloc (.cells #[.int .i64 0,.int .i64 2,.int .i64 0,.int .i64 1] 3)).alloc (.cells #[.slice (some ⟨Wc14.heap.size,0,none⟩) 4 4] 36)).alloc (.cells #[.slice (some ⟨Wc14.heap.size+1,0,none⟩) 1 1] 37)) bM (.cells #[.int .i64 1,.slice A1 fM.length c1] 30)):=(BM.out).bel hb
 have BA:Hid (Blk (((Wc14.alloc (.cells #[.int .i64 0,.int .i64 2,.int .i64 0,.int .i64 1] 3)).alloc (.cells #[.slice (some ⟨Wc14.heap.size,0,none⟩) 4 4] 36)).alloc (.cells #[.slice (some ⟨Wc14.heap.size+1,0,none⟩) 1 1] 37)) bA (.cells #[.int .i64 2,.slice A2 fA.length c2] 30)):=(BA.out).bel hb
 have BB:Hid (Blk (((Wc14.alloc (.cells #[.int .i64 0,.int .i64 2,.int .i64 0,.int .i64 1] 3)).alloc (.cells #[.slice (some ⟨Wc14.heap.size,0,none⟩) 4 4] 36)).alloc (.cells #[.slice (some ⟨Wc14.heap.size+1,0,none⟩) 1 1] 37)) bB (.cells #[.int .i64 3,.slice A3 fB.length c3] 30)):=(BB.out).bel hb
 have BC:Hid (Blk (((Wc14.alloc (.cells #[.int .i64 0,.int .i64 2,.int .i64 0,.int .i64 1] 3)).alloc (.cells #[.slice (some ⟨Wc14.heap.size,0,none⟩) 4 4] 36)).alloc (.cells #[.slice (some ⟨Wc14.heap.size+1,0,none⟩) 1 1] 37)) bC (.cells #[.int .i64 1,.int .i64 0,.int .i64 1,.int .i64 0,.int .i64 1,.int .i64 0] 53)):=(BC.out).bel hb
 have BD:Hid (Blk (((Wc14.alloc (.cells #[.int .i64 0,.int .i64 2,.int .i64 0,.int .i64 1] 3)).alloc (.cells #[.slice (some ⟨Wc14.heap.size,0,none⟩) 4 4] 36)).alloc (.cells #[.slice (some ⟨Wc14.heap.size+1,0,none⟩) 1 1] 37)) bD (.cells #[.int .i64 3,.int .i64 3,.int .i64 2,.int .i64 0,.int .i64 1,.int .i64 0] 53)):=(BD.out).bel hb
 have BN:Hid (Blk (((Wc14.alloc (.cells #[.int .i64 0,.int .i64 2,.int .i64 0,.int .i64 1] 3)).alloc (.cells #[.slice (some ⟨Wc14.heap.size,0,none⟩) 4 4] 36)).alloc (.cells #[.slice (some ⟨Wc14.heap.size+1,0,none⟩) 1 1] 37)) bN (.cells #[.int .i64 3,.int .i64 3,.int .i64 1,.int .i64 1,.int .i64 1,.int .i64 1] 53)):=(BN.out).bel hb
 have Rg4:Hid (RF (((Wc14.alloc (.cells #[.int .i64 0,.int .i64 2,.int .i64 0,.int .i64 1] 3)).alloc (.cells #[.slice (some ⟨Wc14.heap.size,0,none⟩) 4 4] 36)).alloc (.cells #[.slice (some ⟨Wc14.heap.size+1,0,none⟩) 1 1] 37)) Ag4 fB):=(Rg4.out).below hb
 have R9:Hid (RF (((Wc14.alloc (.cells #[.int .i64 0,.int .i64 2,.int .i64 0,.int .i64 1] 3)).alloc (.cells #[.slice (some ⟨Wc14.heap.size,0,none⟩) 4 4] 36)).alloc (.cells #[.slice (some ⟨Wc14.heap.size+1,0,none⟩) 1 1] 37)) (some ⟨Wc14.heap.size+1+1,0,none⟩) fB):=hr9
 have HC:=Lib.hid (show Calls Try.prog 47 #[.agg #[.int .i64 3,.slice Ag4 fB.length cg4],.agg #[.int .i64 3,.slice (some ⟨Wc14.heap.size+1+1,0,none⟩) 1 1]] (((Wc14.alloc (.cells #[.int .i64 0,.int .i64 2,.int .i64 0,.int .i64 1] 3)).alloc (.cells #[.slice (some ⟨Wc14.heap.size,0,none⟩) 4 4] 36)).alloc (.cells #[.slice (some ⟨Wc14.heap.size+1,0,none⟩) 1 1] 37)) _ from like_any 3 3 Ag4 (some ⟨Wc14.heap.size+1+1,0,none⟩) cg4 1 fB fB (((Wc14.alloc (.cells #[.int .i64 0,.int .i64 2,.int .i64 0,.int .i64 1] 3)).alloc (.cells #[.slice (some ⟨Wc14.heap.size,0,none⟩) 4 4] 36)).alloc (.cells #[.slice (some ⟨Wc14.heap.size+1,0,none⟩) 1 1] 37)) Rg4.out hlg4 R9.out (by decide) (fine_of rB).1 (fine_of rB).1)
 go_wp2_with fail
 ((with_reducible refine(HC.out).mono ?_);rintro e Wd15 ⟨⟨b,rfl,hlk⟩,hb⟩)
 obtain rfl:b=true:=hlk.2 (likeP_refl _ _)
 clear hlk HC
 clear qbM0 qbM1 qbA0 qbA1 qbB0 qbB1 qbC0 qbC1 qbC2 qbC3 qbC4 qbC5 qbD0 qbD1 qbD2 qbD3 qbD4 qbD5 qbN0 qbN1 qbN2 qbN3 qbN4 qbN5
 have HB:Hid (Below w.heap.size w Wd15):=(HB.out).trans (hb.mono HB.out.size)
 have BM:Hid (Blk Wd15 bM (.cells #[.int .i64 1,.slice A1 fM.length c1] 30)):=(BM.out).bel hb
 have BA:Hid (Blk Wd15 bA (.cells #[.int .i64 2,.slice A2 fA.length c2] 30)):=(BA.out).bel hb
 have BB:Hid (Blk Wd15 bB (.cells #[.int .i64 3,.slice A3 fB.length c3] 30)):=(BB.out).bel hb
 have BC:Hid (Blk Wd15 bC (.cells #[.int .i64 1,.int .i64 0,.int .i64 1,.int .i64 0,.int .i64 1,.int .i64 0] 53)):=(BC.out).bel hb
 have BD:Hid (Blk Wd15 bD (.cells #[.int .i64 3,.int .i64 3,.int .i64 2,.int .i64 0,.int .i64 1,.int .i64 0] 53)):=(BD.out).bel hb
 have BN:Hid (Blk Wd15 bN (.cells #[.int .i64 3,.int .i64 3,.int .i64 1,.int .i64 1,.int .i64 1,.int .i64 1] 53)):=(BN.out).bel hb
 clear hb hr9
 clear R9
 have qbM0:=(blk_cells BM.out).1 0 _ rfl
 have qbM1:=(blk_cells BM.out).1 1 _ rfl
 have qbA0:=(blk_cells BA.out).1 0 _ rfl
 have qbA1:=(blk_cells BA.out).1 1 _ rfl
 have qbB0:=(blk_cells BB.out).1 0 _ rfl
 have qbB1:=(blk_cells BB.out).1 1 _ rfl
 have qbC0:=(blk_cells BC.out).1 0 _ rfl
 have qbC1:=(blk_cells BC.out).1 1 _ rfl
 have qbC2:=(blk_cells BC.out).1 2 _ rfl
 have qbC3:=(blk_cells BC.out).1 3 _ rfl
 have qbC4:=(blk_cells BC.out).1 4 _ rfl
 have qbC5:=(blk_cells BC.out).1 5 _ rfl
 have qbD0:=(blk_cells BD.out).1 0 _ rfl
 have qbD1:=(blk_cells BD.out).1 1 _ rfl
 have qbD2:=(blk_cells BD.out).1 2 _ rfl
 have qbD3:=(blk_cells BD.out).1 3 _ rfl
 have qbD4:=(blk_cells BD.out).1 4 _ rfl
 have qbD5:=(blk_cells BD.out).1 5 _ rfl
 have qbN0:=(blk_cells BN.out).1 0 _ rfl
 have qbN1:=(blk_cells BN.out).1 1 _ rfl
 have qbN2:=(blk_cells BN.out).1 2 _ rfl
 have qbN3:=(blk_cells BN.out).1 3 _ rfl
 have qbN4:=(blk_cells BN.out).1 4 _ rfl
 have qbN5:=(blk_cells BN.out).1 5 _ rfl
 have HC:=Lib.hid (show Calls Try.prog 10 #[.agg #[.int .i64 0,.slice none 0 0]] Wd15 _ from check_any 0 none 0 [] Wd15 ⟨rfl,by decide,fun h=>by simp at h⟩ ⟨by simp,fun f=>by simp[fcA],fun f l=>by simp[lpA,lA,fcA]⟩ (fun x hx=>by simp[plsA,upA] at hx) (by simp[plsA,upA]))
 go_wp2_with fail
 ((with_reducible refine(HC.out).mono ?_);rintro e We ⟨⟨b,rfl,hck⟩,hb⟩)
 obtain rfl:b=false:=by cases b;rfl;exact absurd (hck.1 rfl) (not_right_nil 0)
 clear hck HC
 clear qbM0 qbM1 qbA0 qbA1 qbB0 qbB1 qbC0 qbC1 qbC2 qbC3 qbC4 qbC5 qbD0 qbD1 qbD2 qbD3 qbD4 qbD5 qbN0 qbN1 qbN2 qbN3 qbN4 qbN5
 have HB:Hid (Below w.heap.size w We):=(HB.out).trans (hb.mono HB.out.size)
 clear hb
 go_wp2
 go_ret
 exact⟨rfl,HB.out⟩
end Go.Proofs.Ytealnhaffphamaa
