/- Contracts of the functions that the statement reaches, and plain lemmas: part 26 of 31. -/
import Derived.Test.YtealnhaffphamaaS23
import Derived.Test.YtealnhaffphamaaS25
set_option linter.unusedVariables false
set_option linter.unusedSimpArgs false

namespace Go.Proofs.Ytealnhaffphamaa
open Go.RowKit Go.Shelf Go.Proofs.YtealnhaffphamaaW.PrintWords
open Classical
theorem done_ne (N:Int) (fs:Fs):doneE N fs≠.error 0:=by
 unfold doneE
 split <;> (intro h;first | (injection h with h;omega) | cases h)
theorem ran_ne (N:Int) (fs:Fs) (f l i:Int):ranE N fs f l i≠.error 0:=by
 unfold ranE
 split
 ·intro h;injection h with h;omega
 ·exact done_ne _ _
theorem rdf_ne (N:Int) (fs:Fs) (f g:Int):rdfE N fs f g≠.error 0:=by
 unfold rdfE
 split
 ·intro h;injection h with h;omega
 ·split
  ·intro h;injection h with h;omega
  ·exact done_ne _ _
theorem raf_ne (N:Int) (fs:Fs) (f g:Int):rafE N fs f g≠.error 0:=by
 unfold rafE
 split
 ·intro h;injection h with h;omega
 ·split
  ·intro h;injection h with h;omega
  ·exact done_ne _ _
theorem rae_ne (N:Int) (fs:Fs) (f1 l1 i1 f2 l2 i2:Int):raeE N fs f1 l1 i1 f2 l2 i2≠.error 0:=by
 unfold raeE
 split
 ·intro h;injection h with h;omega
 ·split
  ·intro h;injection h with h;omega
  ·exact done_ne _ _
theorem rde_ne (N:Int) (fs:Fs) (v u:Int):rdeE N fs v u≠.error 0:=by
 unfold rdeE
 split
 ·intro h;injection h with h;omega
 ·split
  ·split
   ·intro h;injection h with h;omega
   ·exact done_ne _ _
  ·intro h;injection h with h;omega
theorem rdn_ne (N:Int) (fs:Fs) (v:Int):rdnE N fs v≠.error 0:=by
 unfold rdnE
 split
 ·intro h;injection h with h;omega
 ·split
  ·exact done_ne _ _
  ·intro h;injection h with h;omega
def StepO (e:Ending) (w:World):Prop:=∃r,OpT r e w∧(∀N' fs',r=.ok (N',fs')→RightP N' fs')∧r≠.error 0
theorem StepO.form {e:Ending} {W:World} (h:StepO e W):∃(N:Int) (A:Option Addr) (n c:Nat) (z:Int),e=.returned (.tuple #[.agg #[.int .i64 N,.slice A n c],.int .i64 z])∧StepO (.returned (.tuple #[.agg #[.int .i64 N,.slice A n c],.int .i64 z])) W:=by
 obtain⟨r,h1,h2⟩:=h
 obtain⟨N,A,n,c,z,e1,h3⟩:=h1.form
 exact⟨N,A,n,c,z,e1,r,h3,h2⟩
theorem StepO.keep {e:Ending} {W W':World} (h:StepO e W) (hk:Keep3 W W'):StepO e W':=by
 obtain⟨r,h1,h2⟩:=h
 exact⟨r,h1.keep hk,h2⟩
def RBx (b:Nat) (W:World):Prop:=∃x y,Blk W b (.cells #[x,y] 26)
theorem not3:¬ Ty3 26:=by unfold Ty3;decide
theorem RBx.call {b:Nat} {W W':World} (h:RBx b W) (hb:Below W.heap.size W W'):RBx b W':=by
 obtain⟨x,y,h⟩:=h
 exact⟨x,y,h.bel hb⟩
theorem RBx.sets {b:Nat} {W:World} (h:RBx b W) (x y:Value):Blk ((W.setCell ⟨b,0,none⟩ x).setCell ⟨b,1,none⟩ y) b (.cells #[x,y] 26)∧Keep3 W ((W.setCell ⟨b,0,none⟩ x).setCell ⟨b,1,none⟩ y):=by
 obtain⟨x0,y0,h⟩:=h
 have h1:=blk_set (o:=0) (x:=x) h
 exact⟨blk_set (o:=1) (x:=y) h1,(Keep3.set h not3).trans (Keep3.set h1 not3)⟩
theorem below_sets {w W:World} {b:Nat} (h:Below w.heap.size w W) (hb:w.heap.size≤b) (x y:Value):Below w.heap.size w ((W.setCell ⟨b,0,none⟩ x).setCell ⟨b,1,none⟩ y):=
 (h.grown (grown_set _ b 0 x) h.size (fun k e=>by cases e;exact hb)).grown (grown_set _ b 1 y) (Nat.le_trans h.size (grown_set _ b 0 x).size) (fun k e=>by cases e;exact hb)
set_option maxRecDepth 100000 in
set_option maxHeartbeats 8000000 in
theorem step_any (N:Int) (A:Option Addr) (c:Nat) (fs:Fs) (d a b e f:Int) (w:World) (hT:RFT w A fs) (hc:fs.length≤c) (hR:RightP N fs) :
  Calls Try.prog 41 #[.agg #[.int .i64 N,.slice A fs.length c],.agg #[.int .i64 d,.int .i64 a,.int .i64 b,.int .i64 e,.int .i64 f]] w fun x w'=>StepO x w'∧Below w.heap.size w w':=by
 obtain⟨ad0,rfl⟩:∃ad,A=some ad:=by obtain⟨ad,_,_,h,_⟩:=hT.rf.at (f:=0) (by have:=hR.1.2.2.1;omega);exact⟨ad,h⟩
 obtain⟨W1,hW1⟩:∃W1,W1=((w.alloc (.cells #[.int .i64 N,.slice (some ad0) fs.length c] 26)).alloc (.cells #[.int .i64 d,.int .i64 a,.int .i64 b,.int .i64 e,.int .i64 f] 80)).alloc (.cells #[.int .i64 0,.slice none 0 0] 26):=⟨_,rfl⟩
 have hOB:Obs [.cells #[.int .i64 N,.slice (some ad0) fs.length c] 26,.cells #[.int .i64 d,.int .i64 a,.int .i64 b,.int .i64 e,.int .i64 f] 80,.cells #[.int .i64 0,.slice none 0 0] 26] w W1:=by rw[hW1];exact Obs.three w _ _ _
 have HO0:Hid (Obs [.cells #[.int .i64 N,.slice (some ad0) fs.length c] 26,.cells #[.int .i64 d,.int .i64 a,.int .i64 b,.int .i64 e,.int .i64 f] 80] w W1):=⟨fun i o h=>hOB.blk i o (by rcases i with _ | _ | i;exact h;exact h;simp at h),hOB.below,by have:=hOB.size;simp at this ⊢;omega⟩
 have HR0:Hid (RBx (w.heap.size+1+1) W1):=⟨_,_,hOB.blk 2 _ rfl⟩
 clear hOB
 have HF:=Lib.hid hT
 have HR:=Lib.hid hR
 have HC:=Lib.hid hc
 clear hT hR hc
 obtain⟨n,hn⟩:∃n:Nat,(n:Int)=N∧1≤n∧n≤200:=⟨N.toNat,by have:=(right_surf HR.out).1;have h1:=this.1;have h2:=this.2.1;omega⟩
 have HN:=Lib.hid hn
 clear hn
 have HZ:=Lib.hid (right_surf HR.out).1
 have hl0:0<fs.length:=by have:=HR.out.1.2.2.1;omega
 have HL:Hid (0<fs.length∧fs.length≤400∧∀g,g<fs.length→0<(fcA fs g).length∧(fcA fs g).length≤2000∧∀l,l<(fcA fs g).length→0<(lpA fs g l).length):=⟨hl0,HZ.out.2.2.1,fun g hg=>⟨(HZ.out.2.2.2.2.2.1 g hg).1,HR.out.fine.face.1,(HZ.out.2.2.2.2.2.1 g hg).2⟩⟩
 clear hl0
 obtain⟨u,hu⟩:∃u:Int,IntKind.u64.wrap d=u:=⟨_,rfl⟩
 have hun:0≤u:=by rw[←hu,IntKind.wrap_u64];omega
 obtain⟨k,hk⟩:∃k:Nat,u.tmod 8=(k:Int)∧k<8:=⟨(u % 8).toNat,by rw[Int.tmod_eq_emod_of_nonneg hun];omega⟩
 obtain⟨hk,hk8⟩:=hk
 clear hun
 have HE:Hid (∀W,Obs [.cells #[.int .i64 N,.slice (some ad0) fs.length c] 26,.cells #[.int .i64 d,.int .i64 a,.int .i64 b,.int .i64 e,.int .i64 f] 80] w W→RBx (w.heap.size+1+1) W→(Hid (Obs [.cells #[.int .i64 N,.slice (some ad0) fs.length c] 26,.cells #[.int .i64 d,.int .i64 a,.int .i64 b,.int .i64 e,.int .i64 f] 80] w W)∧Hid (RBx (w.heap.size+1+1) W)∧W.cell? ⟨w.heap.size,0,none⟩=some (.int .i64 N)∧W.cell? ⟨w.heap.size,1,none⟩=some (.slice (some ad0) fs.length c)∧W.cell? ⟨w.heap.size+1,0,none⟩=some (.int .i64 d)∧W.cell? ⟨w.heap.size+1,1,none⟩=some (.int .i64 a)∧W.cell? ⟨w.heap.size+1,2,none⟩=some (.int .i64 b)∧W.cell? ⟨w.heap.size+1,3,none⟩=some (.int .i64 e)∧W.cell? ⟨w.heap.size+1,4,none⟩=some (.int .i64 f)∧W.frozen? ⟨w.heap.size+1+1,0,none⟩=false∧W.frozen? ⟨w.heap.size+1+1,1,none⟩=false∧W.cell? ⟨w.heap.size+1+1,0,none⟩=some (clO W ⟨w.heap.size+1+1,0,none⟩)∧W.cell? ⟨w.heap.size+1+1,1,none⟩=some (clO W ⟨w.heap.size+1+1,1,none⟩))):=fun W h hb=>by
  obtain⟨x,y,hb⟩:=hb
  exact⟨h,⟨x,y,hb⟩,h.cell 0 0 rfl rfl,h.cell 0 1 rfl rfl,h.cell 1 0 rfl rfl,h.cell 1 1 rfl rfl,h.cell 1 2 rfl rfl,h.cell 1 3 rfl rfl,h.cell 1 4 rfl rfl,(blk_cells hb).2 0,(blk_cells hb).2 1,clO_of ((blk_cells hb).1 0 _ rfl),clO_of ((blk_cells hb).1 1 _ rfl)⟩
 have HKB:Hid (∀W W',(Hid (Obs [.cells #[.int .i64 N,.slice (some ad0) fs.length c] 26,.cells #[.int .i64 d,.int .i64 a,.int .i64 b,.int .i64 e,.int .i64 f] 80] w W)∧Hid (RBx (w.heap.size+1+1) W)∧W.cell? ⟨w.heap.size,0,none⟩=some (.int .i64 N)∧W.cell? ⟨w.heap.size,1,none⟩=some (.slice (some ad0) fs.length c)∧W.cell? ⟨w.heap.size+1,0,none⟩=some (.int .i64 d)∧W.cell? ⟨w.heap.size+1,1,none⟩=some (.int .i64 a)∧W.cell? ⟨w.heap.size+1,2,none⟩=some (.int .i64 b)∧W.cell? ⟨w.heap.size+1,3,none⟩=some (.int .i64 e)∧W.cell? ⟨w.heap.size+1,4,none⟩=some (.int .i64 f)∧W.frozen? ⟨w.heap.size+1+1,0,none⟩=false∧W.frozen? ⟨w.heap.size+1+1,1,none⟩=false∧W.cell? ⟨w.heap.size+1+1,0,none⟩=some (clO W ⟨w.heap.size+1+1,0,none⟩)∧W.cell? ⟨w.heap.size+1+1,1,none⟩=some (clO W ⟨w.heap.size+1+1,1,none⟩))→Below W.heap.size W W'→(Hid (Obs [.cells #[.int .i64 N,.slice (some ad0) fs.length c] 26,.cells #[.int .i64 d,.int .i64 a,.int .i64 b,.int .i64 e,.int .i64 f] 80] w W')∧Hid (RBx (w.heap.size+1+1) W')∧W'.cell? ⟨w.heap.size,0,none⟩=some (.int .i64 N)∧W'.cell? ⟨w.heap.size,1,none⟩=some (.slice (some ad0) fs.length c)∧W'.cell? ⟨w.heap.size+1,0,none⟩=some (.int .i64 d)∧W'.cell? ⟨w.heap.size+1,1,none⟩=some (.int .i64 a)∧W'.cell? ⟨w.heap.size+1,2,none⟩=some (.int .i64 b)∧W'.cell? ⟨w.heap.size+1,3,none⟩=some (.int .i64 e)∧W'.cell? ⟨w.heap.size+1,4,none⟩=some (.int .i64 f)∧W'.frozen? ⟨w.heap.size+1+1,0,none⟩=false∧W'.frozen? ⟨w.heap.size+1+1,1,none⟩=false∧W'.cell? ⟨w.heap.size+1+1,0,none⟩=some (clO W' ⟨w.heap.size+1+1,0,none⟩)∧W'.cell? ⟨w.heap.size+1+1,1,none⟩=some (clO W' ⟨w.heap.size+1+1,1,none⟩))):=fun W W' h hb=>HE.out W' (h.1.out.call hb) (h.2.1.out.call hb)
 have HKS:Hid (∀W x y,(Hid (Obs [.cells #[.int .i64 N,.slice (some ad0) fs.length c] 26,.cells #[.int .i64 d,.int .i64 a,.int .i64 b,.int .i64 e,.int .i64 f] 80] w W)∧Hid (RBx (w.heap.size+1+1) W)∧W.cell? ⟨w.heap.size,0,none⟩=some (.int .i64 N)∧W.cell? ⟨w.heap.size,1,none⟩=some (.slice (some ad0) fs.length c)∧W.cell? ⟨w.heap.size+1,0,none⟩=some (.int .i64 d)∧W.cell? ⟨w.heap.size+1,1,none⟩=some (.int .i64 a)∧W.cell? ⟨w.heap.size+1,2,none⟩=some (.int .i64 b)∧W.cell? ⟨w.heap.size+1,3,none⟩=some (.int .i64 e)∧W.cell? ⟨w.heap.size+1,4,none⟩=some (.int .i64 f)∧W.frozen? ⟨w.heap.size+1+1,0,none⟩=false∧W.frozen? ⟨w.heap.size+1+1,1,none⟩=false∧W.cell? ⟨w.heap.size+1+1,0,none⟩=some (clO W ⟨w.heap.size+1+1,0,none⟩)∧W.cell? ⟨w.heap.size+1+1,1,none⟩=some (clO W ⟨w.heap.size+1+1,1,none⟩))→(Hid (Obs [.cells #[.int .i64 N,.slice (some ad0) fs.length c] 26,.cells #[.int .i64 d,.int .i64 a,.int .i64 b,.int .i64 e,.int .i64 f] 80] w ((W.setCell ⟨w.heap.size+1+1,0,none⟩ x).setCell ⟨w.heap.size+1+1,1,none⟩ y))∧Hid (RBx (w.heap.size+1+1) ((W.setCell ⟨w.heap.size+1+1,0,none⟩ x).setCell ⟨w.heap.size+1+1,1,none⟩ y))∧((W.setCell ⟨w.heap.size+1+1,0,none⟩ x).setCell ⟨w.heap.size+1+1,1,none⟩ y).cell? ⟨w.heap.size,0,none⟩=some (.int .i64 N)∧((W.setCell ⟨w.heap.size+1+1,0,none⟩ x).setCell ⟨w.heap.size+1+1,1,none⟩ y).cell? ⟨w.heap.size,1,none⟩=some (.slice (some ad0) fs.length c)∧((W.setCell ⟨w.heap.size+1+1,0,none⟩ x).setCell ⟨w.heap.size+1+1,1,none⟩ y).cell? ⟨w.heap.size+1,0,none⟩=some (.int .i64 d)∧((W.setCell ⟨w.heap.size+1+1,0,none⟩ x).setCell ⟨w.heap.size+1+1,1,none⟩ y).cell? ⟨w.heap.size+1,1,none⟩=some (.int .i64 a)∧((W.setCell ⟨w.heap.size+1+1,0,none⟩ x).setCell ⟨w.heap.size+1+1,1,none⟩ y).cell? ⟨w.heap.size+1,2,none⟩=some (.int .i64 b)∧((W.setCell ⟨w.heap.size+1+1,0,none⟩ x).setCell ⟨w.heap.size+1+1,1,none⟩ y).cell? ⟨w.heap.size+1,3,none⟩=some (.int .i64 e)∧((W.setCell ⟨w.heap.size+1+1,0,none⟩ x).setCell ⟨w.heap.size+1+1,1,none⟩ y).cell? ⟨w.heap.size+1,4,none⟩=some (.int .i64 f)∧((W.setCell ⟨w.heap.size+1+1,0,none⟩ x).setCell ⟨w.heap.size+1+1,1,none⟩ y).frozen? ⟨w.heap.size+1+1,0,none⟩=false∧((W.setCell ⟨w.heap.size+1+1,0,none⟩ x).setCell ⟨w.heap.size+1+1,1,none⟩ y).frozen? ⟨w.heap.size+1+1,1,none⟩=false∧((W.setCell ⟨w.heap.size+1+1,0,none⟩ x).setCell ⟨w.heap.size+1+1,1,none⟩ y).cell? ⟨w.heap.size+1+1,0,none⟩=some (clO ((W.setCell ⟨w.heap.size+1+1,0,none⟩ x).setCell ⟨w.heap.size+1+1,1,none⟩ y) ⟨w.heap.size+1+1,0,none⟩)∧((W.setCell ⟨w.heap.size+1+1,0,none⟩ x).setCell ⟨w.heap.size+1+1,1,none⟩ y).cell? ⟨w.heap.size+1+1,1,none⟩=some (clO ((W.setCell ⟨w.heap.size+1+1,0,none⟩ x).setCell ⟨w.heap.size+1+1,1,none⟩ y) ⟨w.heap.size+1+1,1,none⟩))):=fun W x y h=>HE.out _ ((h.1.out.kept (grown_set _ _ 0 x) (fun k e=>by cases e;simp)).kept (grown_set _ _ 1 y) (fun k e=>by cases e;simp)) ⟨x,y,(h.2.1.out.sets x y).1⟩
 have HS1:Hid ((Hid (Obs [.cells #[.int .i64 N,.slice (some ad0) fs.length c] 26,.cells #[.int .i64 d,.int .i64 a,.int .i64 b,.int .i64 e,.int .i64 f] 80] w W1)∧Hid (RBx (w.heap.size+1+1) W1)∧W1.cell? ⟨w.heap.size,0,none⟩=some (.int .i64 N)∧W1.cell? ⟨w.heap.size,1,none⟩=some (.slice (some ad0) fs.length c)∧W1.cell? ⟨w.heap.size+1,0,none⟩=some (.int .i64 d)∧W1.cell? ⟨w.heap.size+1,1,none⟩=some (.int .i64 a)∧W1.cell? ⟨w.heap.size+1,2,none⟩=some (.int .i64 b)∧W1.cell? ⟨w.heap.size+1,3,none⟩=some (.int .i64 e)∧W1.cell? ⟨w.heap.size+1,4,none⟩=some (.int .i64 f)∧W1.frozen? ⟨w.heap.size+1+1,0,none⟩=false∧W1.frozen? ⟨w.heap.size+1+1,1,none⟩=false∧W1.cell? ⟨w.heap.size+1+1,0,none⟩=some (clO W1 ⟨w.heap.size+1+1,0,none⟩)∧W1.cell? ⟨w.heap.size+1+1,1,none⟩=some (clO W1 ⟨w.heap.size+1+1,1,none⟩))):=HE.out W1 HO0.out HR0.out
 go_enter Try.func41,Try.ntmps41
 go_upto_region 1 with fail
 rw[←hW1]
 clear hW1
 have m00:W1.cell? ⟨w.heap.size,0,none⟩=some (.int .i64 N):=HO0.out.cell 0 0 rfl rfl
 have m01:W1.cell? ⟨w.heap.size,1,none⟩=some (.slice (some ad0) fs.length c):=HO0.out.cell 0 1 rfl rfl
 have m10:W1.cell? ⟨w.heap.size+1,0,none⟩=some (.int .i64 d):=HO0.out.cell 1 0 rfl rfl
 have m11:W1.cell? ⟨w.heap.size+1,1,none⟩=some (.int .i64 a):=HO0.out.cell 1 1 rfl rfl
 have m12:W1.cell? ⟨w.heap.size+1,2,none⟩=some (.int .i64 b):=HO0.out.cell 1 2 rfl rfl
 have m13:W1.cell? ⟨w.heap.size+1,3,none⟩=some (.int .i64 e):=HO0.out.cell 1 3 rfl rfl
 have m14:W1.cell? ⟨w.heap.size+1,4,none⟩=some (.int .i64 f):=HO0.out.cell 1 4 rfl rfl
 rcases k with _ | _ | _ | _ | _ | _ | _ | _ | k
 ·have hk:u.tmod 8=0:=hk
  clear hk8
  go_upto_region 3 with fail
  clear m00 m01 m10 m11 m12 m13 m14 hk hu
  obtain⟨q1,hq1⟩:∃q,q=arA a fs.length:=⟨_,rfl⟩
  obtain⟨q2,hq2⟩:∃q,q=arA b (fcA fs q1).length:=⟨_,rfl⟩
  obtain⟨q3,hq3⟩:∃q,q=arA e (lpA fs q1 q2).length:=⟨_,rfl⟩
  have HC1:Hid (∀W,Hid (Obs [.cells #[.int .i64 N,.slice (some ad0) fs.length c] 26,.cells #[.int .i64 d,.int .i64 a,.int .i64 b,.int .i64 e,.int .i64 f] 80] w W)→Calls Try.prog 13 #[.agg #[.int .i64 N,.slice (some ad0) fs.length c],.int .i64 a,.int .i64 b,.int .i64 e] W fun e w'=>e=.returned (.agg #[.int .i64 q1,.int .i64 q2,.int .i64 q3])∧Below W.heap.size W w'):=fun W h=>(somewhere_any N a b e (some ad0) c fs W (HF.out.rf.below h.out.below) (HR.out.fine.sm (by omega)) HL.out.1 (fun g hg=>⟨(HL.out.2.2 g hg).1,(HL.out.2.2 g hg).2.2⟩)).mono fun x w' ⟨⟨f',l',i',q1',q2',q3',q4'⟩,q5'⟩=>⟨by rw[q1',q2',hq3,hq2,hq1,q4',q3',q2'],q5'⟩
  have HC2:Hid (∀W,Hid (Obs [.cells #[.int .i64 N,.slice (some ad0) fs.length c] 26,.cells #[.int .i64 d,.int .i64 a,.int .i64 b,.int .i64 e,.int .i64 f] 80] w W)→Calls Try.prog 34 #[.agg #[.int .i64 N,.slice (some ad0) fs.length c],.agg #[.int .i64 q1,.int .i64 q2,.int .i64 q3]] W fun e w'=>StepO e w'∧Below W.heap.size W w'):=fun W h=>((raddNode_any N (some ad0) c fs q1 q2 q3 W (HF.out.rf.below h.out.below) HC.out HR.out).mono fun e w' q=>⟨⟨_,q.1,fun N' fs' he=>st_ran HR.out he,ran_ne _ _ _ _ _⟩,q.2⟩)
  clear hq1 hq2 hq3
  go_region_held3 (fun W=>(Hid (Obs [.cells #[.int .i64 N,.slice (some ad0) fs.length c] 26,.cells #[.int .i64 d,.int .i64 a,.int .i64 b,.int .i64 e,.int .i64 f] 80] w W)∧Hid (RBx (w.heap.size+1+1) W)∧W.cell? ⟨w.heap.size,0,none⟩=some (.int .i64 N)∧W.cell? ⟨w.heap.size,1,none⟩=some (.slice (some ad0) fs.length c)∧W.cell? ⟨w.heap.size+1,0,none⟩=some (.int .i64 d)∧W.cell? ⟨w.heap.size+1,1,none⟩=some (.int .i64 a)∧W.cell? ⟨w.heap.size+1,2,none⟩=some (.int .i64 b)∧W.cell? ⟨w.heap.size+1,3,none⟩=some (.int .i64 e)∧W.cell? ⟨w.heap.size+1,4,none⟩=some (.int .i64 f)∧W.frozen? ⟨w.heap.size+1+1,0,none⟩=false∧W.frozen? ⟨w.heap.size+1+1,1,none⟩=false∧W.cell? ⟨w.heap.size+1+1,0,none⟩=some (clO W ⟨w.heap.size+1+1,0,none⟩)∧W.cell? ⟨w.heap.size+1+1,1,none⟩=some (clO W ⟨w.heap.size+1+1,1,none⟩))) ((first | (with_reducible exact HKS.out _ _ _ (by assumption)) | (with_reducible exact HKB.out _ _ (by assumption) hb1) | (with_reducible exact HKB.out _ _ HS1.out (Below.refl _ _).drew))) ((first | (go_at_call 13;(with_reducible refine(HC1.out _ (And.left (by assumption))).mono ?_);rintro e w1 ⟨rfl,hb1⟩) | (go_at_call 34;(with_reducible refine(HC2.out _ (And.left (by assumption))).mono ?_);rintro e W9 ⟨hop,hb1⟩;obtain⟨n9,A9,m9,c9,z9,rfl,hop⟩:=StepO.form hop;have HS9:=Lib.hid (HKB.out _ _ (by assumption) hb1))))
  have HSO:=Lib.hid hop
  clear hop hb1
  go_wp2
  obtain⟨hx,hk3⟩:=HS9.out.2.1.out.sets (.int .i64 n9) (.slice A9 m9 c9)
  have e00:=(blk_cells hx).1 0 _ rfl
  have e01:=(blk_cells hx).1 1 _ rfl
  refine bodyPost_ret (v:=.tuple #[.agg #[.int .i64 n9,.slice A9 m9 c9],.int .i64 z9]) (by simp[results,Try.f41,go_sem,e00,e01]) rfl ?_
  exact⟨HSO.out.keep hk3,below_sets HS9.out.1.out.below (by omega) _ _⟩
 ·have hk:u.tmod 8=1:=hk
  clear hk8
  go_upto_region 5 with fail
  clear m00 m01 m10 m11 m12 m13 m14 hk hu
  obtain⟨q1,hq1⟩:∃q,q=arA a n:=⟨_,rfl⟩
  have HC1:Hid (∀W,Hid (Obs [.cells #[.int .i64 N,.slice (some ad0) fs.length c] 26,.cells #[.int .i64 d,.int .i64 a,.int .i64 b,.int .i64 e,.int .i64 f] 80] w W)→Calls Try.prog 14 #[.int .i64 a,.int .i64 N] W fun e w'=>e=.returned (.int .i64 q1)∧Below W.heap.size W w'):=fun W h=>by rw[hq1,←HN.out.1];exact around_any a n HN.out.2.1 (by have:=HN.out;omega) W
  have HC2:Hid (∀W,Hid (Obs [.cells #[.int .i64 N,.slice (some ad0) fs.length c] 26,.cells #[.int .i64 d,.int .i64 a,.int .i64 b,.int .i64 e,.int .i64 f] 80] w W)→Calls Try.prog 36 #[.agg #[.int .i64 N,.slice (some ad0) fs.length c],.int .i64 q1] W fun e w'=>StepO e w'∧Below W.heap.size W w'):=fun W h=>((rdropNode_any N (some ad0) c fs q1 W (HF.out.rf.below h.out.below) HC.out HR.out).mono fun e w' q=>⟨⟨_,q.1,fun N' fs' he=>st_rdn HR.out he,rdn_ne _ _ _⟩,q.2⟩)
  clear hq1
  go_region_held3 (fun W=>(Hid (Obs [.cells #[.int .i64 N,.slice (some ad0) fs.length c] 26,.cells #[.int .i64 d,.int .i64 a,.int .i64 b,.int .i64 e,.int .i64 f] 80] w W)∧Hid (RBx (w.heap.size+1+1) W)∧W.cell? ⟨w.heap.size,0,none⟩=some (.int .i64 N)∧W.cell? ⟨w.heap.size,1,none⟩=some (.slice (some ad0) fs.length c)∧W.cell? ⟨w.heap.size+1,0,none⟩=some (.int .i64 d)∧W.cell? ⟨w.heap.size+1,1,none⟩=some (.int .i64 a)∧W.cell? ⟨w.heap.size+1,2,none⟩=some (.int .i64 b)∧W.cell? ⟨w.heap.size+1,3,none⟩=some (.int .i64 e)∧W.cell? ⟨w.heap.size+1,4,none⟩=some (.int .i64 f)∧W.frozen? ⟨w.heap.size+1+1,0,none⟩=false∧W.frozen? ⟨w.heap.size+1+1,1,none⟩=false∧W.cell? ⟨w.heap.size+1+1,0,none⟩=some (clO W ⟨w.heap.size+1+1,0,none⟩)∧W.cell? ⟨w.heap.size+1+1,1,none⟩=some (clO W ⟨w.heap.size+1+1,1,none⟩))) ((first | (with_reducible exact HKS.out _ _ _ (by assumption)) | (with_reducible exact HKB.out _ _ (by assumption) hb1) | (with_reducible exact HKB.out _ _ HS1.out (Below.refl _ _).drew))) ((first | (go_at_call 14;(with_reducible refine(HC1.out _ (And.left (by assumption))).mono ?_);rintro e w1 ⟨rfl,hb1⟩) | (go_at_call 36;(with_reducible refine(HC2.out _ (And.left (by assumption))).mono ?_);rintro e W9 ⟨hop,hb1⟩;obtain⟨n9,A9,m9,c9,z9,rfl,hop⟩:=StepO.form hop;have HS9:=Lib.hid (HKB.out _ _ (by assumption) hb1))))
  have HSO:=Lib.hid hop
  clear hop hb1
  go_wp2
  obtain⟨hx,hk3⟩:=HS9.out.2.1.out.sets (.int .i64 n9) (.slice A9 m9 c9)
  have e00:=(blk_cells hx).1 0 _ rfl
  have e01:=(blk_cells hx).1 1 _ rfl
  refine bodyPost_ret (v:=.tuple #[.agg #[.int .i64 n9,.slice A9 m9 c9],.int .i64 z9]) (by simp[results,Try.f41,go_sem,e00,e01]) rfl ?_
  exact⟨HSO.out.keep hk3,below_sets HS9.out.1.out.below (by omega) _ _⟩
 ·have hk:u.tmod 8=2:=hk
  clear hk8
  obtain⟨q1,hq1⟩:∃q,q=arA a fs.length:=⟨_,rfl⟩
  obtain⟨q2,hq2⟩:∃q,q=arA b (fcA fs q1).length:=⟨_,rfl⟩
  obtain⟨q3,hq3⟩:∃q,q=arA e (lpA fs q1 q2).length:=⟨_,rfl⟩
  have HC0:Hid (∀W,Hid (Obs [.cells #[.int .i64 N,.slice (some ad0) fs.length c] 26,.cells #[.int .i64 d,.int .i64 a,.int .i64 b,.int .i64 e,.int .i64 f] 80] w W)→Calls Try.prog 13 #[.agg #[.int .i64 N,.slice (some ad0) fs.length c],.int .i64 a,.int .i64 b,.int .i64 e] W fun e w'=>e=.returned (.agg #[.int .i64 q1,.int .i64 q2,.int .i64 q3])∧Below W.heap.size W w'):=fun W h=>(somewhere_any N a b e (some ad0) c fs W (HF.out.rf.below h.out.below) (HR.out.fine.sm (by omega)) HL.out.1 (fun g hg=>⟨(HL.out.2.2 g hg).1,(HL.out.2.2 g hg).2.2⟩)).mono fun x w' ⟨⟨f',l',i',q1',q2',q3',q4'⟩,q5'⟩=>⟨by rw[q1',q2',hq3,hq2,hq1,q4',q3',q2'],q5'⟩
  have HQ:Hid (q1<fs.length):=by show q1<_;rw[hq1];exact arA_lt a HL.out.1
  clear hq1 hq2 hq3
  go_upto_region 8 with((with_reducible refine(HC0.out _ HS1.out.1).mono ?_);rintro e W2 ⟨rfl,hb1⟩)
  clear m00 m01 m10 m11 m12 m13 m14 hk hu HC0
  have HS2:Hid ((Hid (Obs [.cells #[.int .i64 N,.slice (some ad0) fs.length c] 26,.cells #[.int .i64 d,.int .i64 a,.int .i64 b,.int .i64 e,.int .i64 f] 80] w (W2.alloc (.cells #[.int .i64 q1,.int .i64 q2,.int .i64 q3] 34)))∧Hid (RBx (w.heap.size+1+1) (W2.alloc (.cells #[.int .i64 q1,.int .i64 q2,.int .i64 q3] 34)))∧(W2.alloc (.cells #[.int .i64 q1,.int .i64 q2,.int .i64 q3] 34)).cell? ⟨w.heap.size,0,none⟩=some (.int .i64 N)∧(W2.alloc (.cells #[.int .i64 q1,.int .i64 q2,.int .i64 q3] 34)).cell? ⟨w.heap.size,1,none⟩=some (.slice (some ad0) fs.length c)∧(W2.alloc (.cells #[.int .i64 q1,.int .i64 q2,.int .i64 q3] 34)).cell? ⟨w.heap.size+1,0,none⟩=some (.int .i64 d)∧(W2.alloc (.cells #[.int .i64 q1,.int .i64 q2,.int .i64 q3] 34)).cell? ⟨w.heap.size+1,1,none⟩=some (.int .i64 a)∧(W2.alloc (.cells #[.int .i64 q1,.int .i64 q2,.int .i64 q3] 34)).cell? ⟨w.heap.size+1,2,none⟩=some (.int .i64 b)∧(W2.alloc (.cells #[.int .i64 q1,.int .i64 q2,.int .i64 q3] 34)).cell? ⟨w.heap.size+1,3,none⟩=some (.int .i64 e)∧(W2.alloc (.cells #[.int .i64 q1,.int .i64 q2,.int .i64 q3] 34)).cell? ⟨w.heap.size+1,4,none⟩=some (.int .i64 f)∧(W2.alloc (.cells #[.int .i64 q1,.int .i64 q2,.int .i64 q3] 34)).frozen? ⟨w.heap.size+1+1,0,none⟩=false∧(W2.alloc (.cells #[.int .i64 q1,.int .i64 q2,.int .i64 q3] 34)).frozen? ⟨w.heap.size+1+1,1,none⟩=false∧(W2.alloc (.cells #[.int .i64 q1,.int .i64 q2,.int .i64 q3] 34)).cell? ⟨w.heap.size+1+1,0,none⟩=some (clO (W2.alloc (.cells #[.int .i64 q1,.int .i64 q2,.int .i64 q3] 34)) ⟨w.heap.size+1+1,0,none⟩)∧(W2.alloc (.cells #[.int .i64 q1,.int .i64 q2,.int .i64 q3] 34)).cell? ⟨w.heap.size+1+1,1,none⟩=some (clO (W2.alloc (.cells #[.int .i64 q1,.int .i64 q2,.int .i64 q3] 34)) ⟨w.heap.size+1+1,1,none⟩))):=HKB.out _ _ (HKB.out _ _ HS1.out hb1) (below_new W2 _)
  have HPB:Hid (Blk (W2.alloc (.cells #[.int .i64 q1,.int .i64 q2,.int .i64 q3] 34)) W2.heap.size (.cells #[.int .i64 q1,.int .i64 q2,.int .i64 q3] 34)∧w.heap.size+1+1<W2.heap.size):=⟨blk_new W2 _,by obtain⟨x,y,h⟩:=(HKB.out _ _ HS1.out hb1).2.1.out;exact h.lt⟩
  clear HS1 hb1
  generalize W2.heap.size=P at HPB ⊢
  generalize W2.alloc (.cells #[.int .i64 q1,.int .i64 q2,.int .i64 q3] 34)=W3 at HS2 HPB ⊢
  have z1:(q1:Int)<(fs.length:Int):=by have:=HQ.out;omega
  obtain⟨ad0',A0,c0,e0,hc0,hl0,hr0⟩:=HF.out.rf.at HQ.out
  cases e0
  have HC0:=Lib.hid hc0
  clear hc0 hl0 hr0
  obtain⟨q4,hq4⟩:∃q,q=arA f (fcA fs q1).length:=⟨_,rfl⟩
  have HX2:Hid (∀W,(Hid (Obs [.cells #[.int .i64 N,.slice (some ad0) fs.length c] 26,.cells #[.int .i64 d,.int .i64 a,.int .i64 b,.int .i64 e,.int .i64 f] 80] w W)∧Hid (RBx (w.heap.size+1+1) W)∧W.cell? ⟨w.heap.size,0,none⟩=some (.int .i64 N)∧W.cell? ⟨w.heap.size,1,none⟩=some (.slice (some ad0) fs.length c)∧W.cell? ⟨w.heap.size+1,0,none⟩=some (.int .i64 d)∧W.cell? ⟨w.heap.size+1,1,none⟩=some (.int .i64 a)∧W.cell? ⟨w.heap.size+1,2,none⟩=some (.int .i64 b)∧W.cell? ⟨w.heap.size+1,3,none⟩=some (.int .i64 e)∧W.cell? ⟨w.heap.size+1,4,none⟩=some (.int .i64 f)∧W.frozen? ⟨w.heap.size+1+1,0,none⟩=false∧W.frozen? ⟨w.heap.size+1+1,1,none⟩=false∧W.cell? ⟨w.heap.size+1+1,0,none⟩=some (clO W ⟨w.heap.size+1+1,0,none⟩)∧W.cell? ⟨w.heap.size+1+1,1,none⟩=some (clO W ⟨w.heap.size+1+1,1,none⟩))→Blk W P (.cells #[.int .i64 q1,.int .i64 q2,.int .i64 q3] 34)→(Hid (Obs [.cells #[.int .i64 N,.slice (some ad0) fs.length c] 26,.cells #[.int .i64 d,.int .i64 a,.int .i64 b,.int .i64 e,.int .i64 f] 80] w W)∧Hid (RBx (w.heap.size+1+1) W)∧W.cell? ⟨w.heap.size,0,none⟩=some (.int .i64 N)∧W.cell? ⟨w.heap.size,1,none⟩=some (.slice (some ad0) fs.length c)∧W.cell? ⟨w.heap.size+1,0,none⟩=some (.int .i64 d)∧W.cell? ⟨w.heap.size+1,1,none⟩=some (.int .i64 a)∧W.cell? ⟨w.heap.size+1,2,none⟩=some (.int .i64 b)∧W.cell? ⟨w.heap.size+1,3,none⟩=some (.int .i64 e)∧W.cell? ⟨w.heap.size+1,4,none⟩=some (.int .i64 f)∧W.frozen? ⟨w.heap.size+1+1,0,none⟩=false∧W.frozen? ⟨w.heap.size+1+1,1,none⟩=false∧W.cell? ⟨w.heap.size+1+1,0,none⟩=some (clO W ⟨w.heap.size+1+1,0,none⟩)∧W.cell? ⟨w.heap.size+1+1,1,none⟩=some (clO W ⟨w.heap.size+1+1,1,none⟩)∧Hid (Blk W P (.cells #[.int .i64 q1,.int .i64 q2,.int .i64 q3] 34))∧W.cell? ⟨P,0,none⟩=some (.int .i64 q1)∧W.cell? ⟨P,1,none⟩=some (.int .i64 q2)∧W.cell? ⟨P,2,none⟩=some (.int .i64 q3)∧W.cell? (ad0.add q1)=some (.slice A0 (fcA fs q1).length c0))):=fun W h hp=>⟨h.1,h.2.1,h.2.2.1,h.2.2.2.1,h.2.2.2.2.1,h.2.2.2.2.2.1,h.2.2.2.2.2.2.1,h.2.2.2.2.2.2.2.1,h.2.2.2.2.2.2.2.2.1,h.2.2.2.2.2.2.2.2.2.1,h.2.2.2.2.2.2.2.2.2.2.1,h.2.2.2.2.2.2.2.2.2.2.2.1,h.2.2.2.2.2.2.2.2.2.2.2.2,hp,(blk_cells hp).1 0 _ rfl,(blk_cells hp).1 1 _ rfl,(blk_cells hp).1 2 _ rfl,pw_cell_below h.1.out.below HC0.out⟩
  have HX1:Hid (∀W,(Hid (Obs [.cells #[.int .i64 N,.slice (some ad0) fs.length c] 26,.cells #[.int .i64 d,.int .i64 a,.int .i64 b,.int .i64 e,.int .i64 f] 80] w W)∧Hid (RBx (w.heap.size+1+1) W)∧W.cell? ⟨w.heap.size,0,none⟩=some (.int .i64 N)∧W.cell? ⟨w.heap.size,1,none⟩=some (.slice (some ad0) fs.length c)∧W.cell? ⟨w.heap.size+1,0,none⟩=some (.int .i64 d)∧W.cell? ⟨w.heap.size+1,1,none⟩=some (.int .i64 a)∧W.cell? ⟨w.heap.size+1,2,none⟩=some (.int .i64 b)∧W.cell? ⟨w.heap.size+1,3,none⟩=some (.int .i64 e)∧W.cell? ⟨w.heap.size+1,4,none⟩=some (.int .i64 f)∧W.frozen? ⟨w.heap.size+1+1,0,none⟩=false∧W.frozen? ⟨w.heap.size+1+1,1,none⟩=false∧W.cell? ⟨w.heap.size+1+1,0,none⟩=some (clO W ⟨w.heap.size+1+1,0,none⟩)∧W.cell? ⟨w.heap.size+1+1,1,none⟩=some (clO W ⟨w.heap.size+1+1,1,none⟩)∧Hid (Blk W P (.cells #[.int .i64 q1,.int .i64 q2,.int .i64 q3] 34))∧W.cell? ⟨P,0,none⟩=some (.int .i64 q1)∧W.cell? ⟨P,1,none⟩=some (.int .i64 q2)∧W.cell? ⟨P,2,none⟩=some (.int .i64 q3)∧W.cell? (ad0.add q1)=some (.slice A0 (fcA fs q1).length c0))→(Hid (Obs [.cells #[.int .i64 N,.slice (some ad0) fs.length c] 26,.cells #[.int .i64 d,.int .i64 a,.int .i64 b,.int .i64 e,.int .i64 f] 80] w W)∧Hid (RBx (w.heap.size+1+1) W)∧W.cell? ⟨w.heap.size,0,none⟩=some (.int .i64 N)∧W.cell? ⟨w.heap.size,1,none⟩=some (.slice (some ad0) fs.length c)∧W.cell? ⟨w.heap.size+1,0,none⟩=some (.int .i64 d)∧W.cell? ⟨w.heap.size+1,1,none⟩=some (.int .i64 a)∧W.cell? ⟨w.heap.size+1,2,none⟩=some (.int .i64 b)∧W.cell? ⟨w.heap.size+1,3,none⟩=some (.int .i64 e)∧W.cell? ⟨w.heap.size+1,4,none⟩=some (.int .i64 f)∧W.frozen? ⟨w.heap.size+1+1,0,none⟩=false∧W.frozen? ⟨w.heap.size+1+1,1,none⟩=false∧W.cell? ⟨w.heap.size+1+1,0,none⟩=some (clO W ⟨w.heap.size+1+1,0,none⟩)∧W.cell? ⟨w.heap.size+1+1,1,none⟩=some (clO W ⟨w.heap.size+1+1,1,none⟩))∧Blk W P (.cells #[.int .i64 q1,.int .i64 q2,.int .i64 q3] 34)):=fun W h=>⟨⟨h.1,h.2.1,h.2.2.1,h.2.2.2.1,h.2.2.2.2.1,h.2.2.2.2.2.1,h.2.2.2.2.2.2.1,h.2.2.2.2.2.2.2.1,h.2.2.2.2.2.2.2.2.1,h.2.2.2.2.2.2.2.2.2.1,h.2.2.2.2.2.2.2.2.2.2.1,h.2.2.2.2.2.2.2.2.2.2.2.1,h.2.2.2.2.2.2.2.2.2.2.2.2.1⟩,(h.2.2.2.2.2.2.2.2.2.2.2.2.2.1).out⟩
  have HYB:Hid (∀W W',(Hid (Obs [.cells #[.int .i64 N,.slice (some ad0) fs.length c] 26,.cells #[.int .i64 d,.int .i64 a,.int .i64 b,.int .i64 e,.int .i64 f] 80] w W)∧Hid (RBx (w.heap.size+1+1) W)∧W.cell? ⟨w.heap.size,0,none⟩=some (.int .i64 N)∧W.cell? ⟨w.heap.size,1,none⟩=some (.slice (some ad0) fs.length c)∧W.cell? ⟨w.heap.size+1,0,none⟩=some (.int .i64 d)∧W.cell? ⟨w.heap.size+1,1,none⟩=some (.int .i64 a)∧W.cell? ⟨w.heap.size+1,2,none⟩=some (.int .i64 b)∧W.cell? ⟨w.heap.size+1,3,none⟩=some (.int .i64 e)∧W.cell? ⟨w.heap.size+1,4,none⟩=some (.int .i64 f)∧W.frozen? ⟨w.heap.size+1+1,0,none⟩=false∧W.frozen? ⟨w.heap.size+1+1,1,none⟩=false∧W.cell? ⟨w.heap.size+1+1,0,none⟩=some (clO W ⟨w.heap.size+1+1,0,none⟩)∧W.cell? ⟨w.heap.size+1+1,1,none⟩=some (clO W ⟨w.heap.size+1+1,1,none⟩)∧Hid (Blk W P (.cells #[.int .i64 q1,.int .i64 q2,.int .i64 q3] 34))∧W.cell? ⟨P,0,none⟩=some (.int .i64 q1)∧W.cell? ⟨P,1,none⟩=some (.int .i64 q2)∧W.cell? ⟨P,2,none⟩=some (.int .i64 q3)∧W.cell? (ad0.add q1)=some (.slice A0 (fcA fs q1).length c0))→Below W.heap.size W W'→(Hid (Obs [.cells #[.int .i64 N,.slice (some ad0) fs.length c] 26,.cells #[.int .i64 d,.int .i64 a,.int .i64 b,.int .i64 e,.int .i64 f] 80] w W')∧Hid (RBx (w.heap.size+1+1) W')∧W'.cell? ⟨w.heap.size,0,none⟩=some (.int .i64 N)∧W'.cell? ⟨w.heap.size,1,none⟩=some (.slice (some ad0) fs.length c)∧W'.cell? ⟨w.heap.size+1,0,none⟩=some (.int .i64 d)∧W'.cell? ⟨w.heap.size+1,1,none⟩=some (.int .i64 a)∧W'.cell? ⟨w.heap.size+1,2,none⟩=some (.int .i64 b)∧W'.cell? ⟨w.heap.size+1,3,none⟩=some (.int .i64 e)∧W'.cell? ⟨w.heap.size+1,4,none⟩=some (.int .i64 f)∧W'.frozen? ⟨w.heap.size+1+1,0,none⟩=false∧W'.frozen? ⟨w.heap.size+1+1,1,none⟩=false∧W'.cell? ⟨w.heap.size+1+1,0,none⟩=some (clO W' ⟨w.heap.size+1+1,0,none⟩)∧W'.cell? ⟨w.heap.size+1+1,1,none⟩=some (clO W' ⟨w.heap.size+1+1,1,none⟩)∧Hid (Blk W' P (.cells #[.int .i64 q1,.int .i64 q2,.int .i64 q3] 34))∧W'.cell? ⟨P,0,none⟩=some (.int .i64 q1)∧W'.cell? ⟨P,1,none⟩=some (.int .i64 q2)∧W'.cell? ⟨P,2,none⟩=some (.int .i64 q3)∧W'.cell? (ad0.add q1)=some (.slice A0 (fcA fs q1).length c0))):=fun W W' h hb=>HX2.out _ (HKB.out _ _ (HX1.out _ h).1 hb) ((HX1.out _ h).2.bel hb)
  have HYS:Hid (∀W x y,(Hid (Obs [.cells #[.int .i64 N,.slice (some ad0) fs.length c] 26,.cells #[.int .i64 d,.int .i64 a,.int .i64 b,.int .i64 e,.int .i64 f] 80] w W)∧Hid (RBx (w.heap.size+1+1) W)∧W.cell? ⟨w.heap.size,0,none⟩=some (.int .i64 N)∧W.cell? ⟨w.heap.size,1,none⟩=some (.slice (some ad0) fs.length c)∧W.cell? ⟨w.heap.size+1,0,none⟩=some (.int .i64 d)∧W.cell? ⟨w.heap.size+1,1,none⟩=some (.int .i64 a)∧W.cell? ⟨w.heap.size+1,2,none⟩=some (.int .i64 b)∧W.cell? ⟨w.heap.size+1,3,none⟩=some (.int .i64 e)∧W.cell? ⟨w.heap.size+1,4,none⟩=some (.int .i64 f)∧W.frozen? ⟨w.heap.size+1+1,0,none⟩=false∧W.frozen? ⟨w.heap.size+1+1,1,none⟩=false∧W.cell? ⟨w.heap.size+1+1,0,none⟩=some (clO W ⟨w.heap.size+1+1,0,none⟩)∧W.cell? ⟨w.heap.size+1+1,1,none⟩=some (clO W ⟨w.heap.size+1+1,1,none⟩)∧Hid (Blk W P (.cells #[.int .i64 q1,.int .i64 q2,.int .i64 q3] 34))∧W.cell? ⟨P,0,none⟩=some (.int .i64 q1)∧W.cell? ⟨P,1,none⟩=some (.int .i64 q2)∧W.cell? ⟨P,2,none⟩=some (.int .i64 q3)∧W.cell? (ad0.add q1)=some (.slice A0 (fcA fs q1).length c0))→(Hid (Obs [.cells #[.int .i64 N,.slice (some ad0) fs.length c] 26,.cells #[.int .i64 d,.int .i64 a,.int .i64 b,.int .i64 e,.int .i64 f] 80] w ((W.setCell ⟨w.heap.size+1+1,0,none⟩ x).setCell ⟨w.heap.size+1+1,1,none⟩ y))∧Hid (RBx (w.heap.size+1+1) ((W.setCell ⟨w.heap.size+1+1,0,none⟩ x).setCell ⟨w.heap.size+1+1,1,none⟩ y))∧((W.setCell ⟨w.heap.size+1+1,0,none⟩ x).setCell ⟨w.heap.size+1+1,1,none⟩ y).cell? ⟨w.heap.size,0,none⟩=some (.int .i64 N)∧((W.setCell ⟨w.heap.size+1+1,0,none⟩ x).setCell ⟨w.heap.size+1+1,1,none⟩ y).cell? ⟨w.heap.size,1,none⟩=some (.slice (some ad0) fs.length c)∧((W.setCell ⟨w.heap.size+1+1,0,none⟩ x).setCell ⟨w.heap.size+1+1,1,none⟩ y).cell? ⟨w.heap.size+1,0,none⟩=some (.int .i64 d)∧((W.setCell ⟨w.heap.size+1+1,0,none⟩ x).setCell ⟨w.heap.size+1+1,1,none⟩ y).cell? ⟨w.heap.size+1,1,none⟩=some (.int .i64 a)∧((W.setCell ⟨w.heap.size+1+1,0,none⟩ x).setCell ⟨w.heap.size+1+1,1,none⟩ y).cell? ⟨w.heap.size+1,2,none⟩=some (.int .i64 b)∧((W.setCell ⟨w.heap.size+1+1,0,none⟩ x).setCell ⟨w.heap.size+1+1,1,none⟩ y).cell? ⟨w.heap.size+1,3,none⟩=some (.int .i64 e)∧((W.setCell ⟨w.heap.size+1+1,0,none⟩ x).setCell ⟨w.heap.size+1+1,1,none⟩ y).cell? ⟨w.heap.size+1,4,none⟩=some (.int .i64 f)∧((W.setCell ⟨w.heap.size+1+1,0,none⟩ x).setCell ⟨w.heap.size+1+1,1,none⟩ y).frozen? ⟨w.heap.size+1+1,0,none⟩=false∧((W.setCell ⟨w.heap.size+1+1,0,none⟩ x).setCell ⟨w.heap.size+1+1,1,none⟩ y).frozen? ⟨w.heap.size+1+1,1,none⟩=false∧((W.setCell ⟨w.heap.size+1+1,0,none⟩ x).setCell ⟨w.heap.size+1+1,1,none⟩ y).cell? ⟨w.heap.size+1+1,0,none⟩=some (clO ((W.setCell ⟨w.heap.size+1+1,0,none⟩ x).setCell ⟨w.heap.size+1+1,1,none⟩ y) ⟨w.heap.size+1+1,0,none⟩)∧((W.setCell ⟨w.heap.size+1+1,0,none⟩ x).setCell ⟨w.heap.size+1+1,1,none⟩ y).cell? ⟨w.heap.size+1+1,1,none⟩=some (clO ((W.setCell ⟨w.heap.size+1+1,0,none⟩ x).setCell ⟨w.heap.size+1+1,1,none⟩ y) ⟨w.heap.size+1+1,1,none⟩)∧Hid (Blk ((W.setCell ⟨w.heap.size+1+1,0,none⟩ x).setCell ⟨w.heap.size+1+1,1,none⟩ y) P (.cells #[.int .i64 q1,.int .i64 q2,.int .i64 q3] 34))∧((W.setCell ⟨w.heap.size+1+1,0,none⟩ x).setCell ⟨w.heap.size+1+1,1,none⟩ y).cell? ⟨P,0,none⟩=some (.int .i64 q1)∧((W.setCell ⟨w.heap.size+1+1,0,none⟩ x).setCell ⟨w.heap.size+1+1,1,none⟩ y).cell? ⟨P,1,none⟩=some (.int .i64 q2)∧((W.setCell ⟨w.heap.size+1+1,0,none⟩ x).setCell ⟨w.heap.size+1+1,1,none⟩ y).cell? ⟨P,2,none⟩=some (.int .i64 q3)∧((W.setCell ⟨w.heap.size+1+1,0,none⟩ x).setCell ⟨w.heap.size+1+1,1,none⟩ y).cell? (ad0.add q1)=some (.slice A0 (fcA fs q1).length c0))):=fun W x y h=>HX2.out _ (HKS.out _ x y (HX1.out _ h).1) (((HX1.out _ h).2.kept (grown_set _ _ 0 x) (fun e=>by cases e;exact absurd HPB.out.2 (by omega))).kept (grown_set _ _ 1 y) (fun e=>by cases e;exact absurd HPB.out.2 (by omega)))
  have HS3:Hid ((Hid (Obs [.cells #[.int .i64 N,.slice (some ad0) fs.length c] 26,.cells #[.int .i64 d,.int .i64 a,.int .i64 b,.int .i64 e,.int .i64 f] 80] w W3)∧Hid (RBx (w.heap.size+1+1) W3)∧W3.cell? ⟨w.heap.size,0,none⟩=some (.int .i64 N)∧W3.cell? ⟨w.heap.size,1,none⟩=some (.slice (some ad0) fs.length c)∧W3.cell? ⟨w.heap.size+1,0,none⟩=some (.int .i64 d)∧W3.cell? ⟨w.heap.size+1,1,none⟩=some (.int .i64 a)∧W3.cell? ⟨w.heap.size+1,2,none⟩=some (.int .i64 b)∧W3.cell? ⟨w.heap.size+1,3,none⟩=some (.int .i64 e)∧W3.cell? ⟨w.heap.size+1,4,none⟩=some (.int .i64 f)∧W3.frozen? ⟨w.heap.size+1+1,0,none⟩=false∧W3.frozen? ⟨w.heap.size+1+1,1,none⟩=false∧W3.cell? ⟨w.heap.size+1+1,0,none⟩=some (clO W3 ⟨w.heap.size+1+1,0,none⟩)∧W3.cell? ⟨w.heap.size+1+1,1,none⟩=some (clO W3 ⟨w.heap.size+1+1,1,none⟩)∧Hid (Blk W3 P (.cells #[.int .i64 q1,.int .i64 q2,.int .i64 q3] 34))∧W3.cell? ⟨P,0,none⟩=some (.int .i64 q1)∧W3.cell? ⟨P,1,none⟩=some (.int .i64 q2)∧W3.cell? ⟨P,2,none⟩=some (.int .i64 q3)∧W3.cell? (ad0.add q1)=some (.slice A0 (fcA fs q1).length c0))):=HX2.out _ HS2.out HPB.out.1
  have HC1:Hid (∀W,Hid (Obs [.cells #[.int .i64 N,.slice (some ad0) fs.length c] 26,.cells #[.int .i64 d,.int .i64 a,.int .i64 b,.int .i64 e,.int .i64 f] 80] w W)→Calls Try.prog 14 #[.int .i64 f,.int .i64 (fcA fs q1).length] W fun e w'=>e=.returned (.int .i64 q4)∧Below W.heap.size W w'):=fun W h=>by rw[hq4];exact around_any f _ (HL.out.2.2 q1 HQ.out).1 (by have:=(HL.out.2.2 q1 HQ.out).2.1;omega) W
  have HC2:Hid (∀W,Hid (Obs [.cells #[.int .i64 N,.slice (some ad0) fs.length c] 26,.cells #[.int .i64 d,.int .i64 a,.int .i64 b,.int .i64 e,.int .i64 f] 80] w W)→Calls Try.prog 37 #[.agg #[.int .i64 N,.slice (some ad0) fs.length c],.agg #[.int .i64 q1,.int .i64 q2,.int .i64 q3],.agg #[.int .i64 q1,.int .i64 q4,.int .i64 0]] W fun e w'=>StepO e w'∧Below W.heap.size W w'):=fun W h=>((raddEdge_any N (some ad0) c fs q1 q2 q3 q1 q4 0 W (HF.out.rf.below h.out.below) HC.out HR.out).mono fun e w' q=>⟨⟨_,q.1,fun N' fs' he=>st_rae HR.out he,rae_ne _ _ _ _ _ _ _ _⟩,q.2⟩)
  clear hq4
  go_region_held3 (fun W=>(Hid (Obs [.cells #[.int .i64 N,.slice (some ad0) fs.length c] 26,.cells #[.int .i64 d,.int .i64 a,.int .i64 b,.int .i64 e,.int .i64 f] 80] w W)∧Hid (RBx (w.heap.size+1+1) W)∧W.cell? ⟨w.heap.size,0,none⟩=some (.int .i64 N)∧W.cell? ⟨w.heap.size,1,none⟩=some (.slice (some ad0) fs.length c)∧W.cell? ⟨w.heap.size+1,0,none⟩=some (.int .i64 d)∧W.cell? ⟨w.heap.size+1,1,none⟩=some (.int .i64 a)∧W.cell? ⟨w.heap.size+1,2,none⟩=some (.int .i64 b)∧W.cell? ⟨w.heap.size+1,3,none⟩=some (.int .i64 e)∧W.cell? ⟨w.heap.size+1,4,none⟩=some (.int .i64 f)∧W.frozen? ⟨w.heap.size+1+1,0,none⟩=false∧W.frozen? ⟨w.heap.size+1+1,1,none⟩=false∧W.cell? ⟨w.heap.size+1+1,0,none⟩=some (clO W ⟨w.heap.size+1+1,0,none⟩)∧W.cell? ⟨w.heap.size+1+1,1,none⟩=some (clO W ⟨w.heap.size+1+1,1,none⟩)∧Hid (Blk W P (.cells #[.int .i64 q1,.int .i64 q2,.int .i64 q3] 34))∧W.cell? ⟨P,0,none⟩=some (.int .i64 q1)∧W.cell? ⟨P,1,none⟩=some (.int .i64 q2)∧W.cell? ⟨P,2,none⟩=some (.int .i64 q3)∧W.cell? (ad0.add q1)=some (.slice A0 (fcA fs q1).length c0))) ((first | (with_reducible exact HYS.out _ _ _ (by assumption)) | (with_reducible exact HYB.out _ _ (by assumption) hb1) | (with_reducible exact HYB.out _ _ HS3.out (Below.refl _ _).drew))) ((first | (go_at_call 14;(with_reducible refine(HC1.out _ (And.left (by assumption))).mono ?_);rintro e w1 ⟨rfl,hb1⟩) | (go_at_call 37;(with_reducible refine(HC2.out _ (And.left (by assumption))).mono ?_);rintro e W9 ⟨hop,hb1⟩;obtain⟨n9,A9,m9,c9,z9,rfl,hop⟩:=StepO.form hop;have HS9:=Lib.hid (HKB.out _ _ (HX1.out _ (by assumption)).1 hb1))))
  have HSO:=Lib.hid hop
  clear hop hb1
  go_wp2
  obtain⟨hx,hk3⟩:=HS9.out.2.1.out.sets (.int .i64 n9) (.slice A9 m9 c9)
  have e00:=(blk_cells hx).1 0 _ rfl
  have e01:=(blk_cells hx).1 1 _ rfl
  refine bodyPost_ret (v:=.tuple #[.agg #[.int .i64 n9,.slice A9 m9 c9],.int .i64 z9]) (by simp[results,Try.f41,go_sem,e00,e01]) rfl ?_
  exact⟨HSO.out.keep hk3,below_sets HS9.out.1.out.below (by omega) _ _⟩
 ·have hk:u.tmod 8=3:=hk
  clear hk8
  have HEG:=Lib.hid (edgesR_any N (some ad0) c fs W1 (HF.out.rf.below HS1.out.1.out.below) HC.out (HR.out.fine.sm (by omega)) (HR.out.fine.cap (by omega)))
  have hdl:(dartsA fs (plsA fs)).length≤100000:=by have:=List.length_filter_le (dartB fs) (plsA fs);have h2:=HR.out.fine.cap (by omega);unfold dartsA;omega
  obtain⟨ds,hds⟩:∃ds,ds=dartsA fs (plsA fs):=⟨_,rfl⟩
  rw[←hds] at HEG hdl
  have HDL:=Lib.hid hdl
  clear hds hdl
  go_upto_region 11 with((with_reducible refine(HEG.out).mono ?_);rintro e W2 ⟨v2,rfl,hre,hb1⟩)
  clear m00 m01 m10 m11 m12 m13 m14 hk hu HEG
  have HS2:Hid ((Hid (Obs [.cells #[.int .i64 N,.slice (some ad0) fs.length c] 26,.cells #[.int .i64 d,.int .i64 a,.int .i64 b,.int .i64 e,.int .i64 f] 80] w W2)∧Hid (RBx (w.heap.size+1+1) W2)∧W2.cell? ⟨w.heap.size,0,none⟩=some (.int .i64 N)∧W2.cell? ⟨w.heap.size,1,none⟩=some (.slice (some ad0) fs.length c)∧W2.cell? ⟨w.heap.size+1,0,none⟩=some (.int .i64 d)∧W2.cell? ⟨w.heap.size+1,1,none⟩=some (.int .i64 a)∧W2.cell? ⟨w.heap.size+1,2,none⟩=some (.int .i64 b)∧W2.cell? ⟨w.heap.size+1,3,none⟩=some (.int .i64 e)∧W2.cell? ⟨w.heap.size+1,4,none⟩=some (.int .i64 f)∧W2.frozen? ⟨w.heap.size+1+1,0,none⟩=false∧W2.frozen? ⟨w.heap.size+1+1,1,none⟩=false∧W2.cell? ⟨w.heap.size+1+1,0,none⟩=some (clO W2 ⟨w.heap.size+1+1,0,none⟩)∧W2.cell? ⟨w.heap.size+1+1,1,none⟩=some (clO W2 ⟨w.heap.size+1+1,1,none⟩))):=HKB.out _ _ HS1.out hb1
  clear HS1 hb1
  obtain⟨A5,c5,rfl,hc5,hed⟩:=hre
  have HED:=Lib.hid hed
  clear hed hc5
  by_cases h0:ds.length=0
  ·have h1:(ds.length:Int)=0:=by omega
   have HSO:Hid (StepO (.returned (.tuple #[.agg #[.int .i64 N,.slice (some ad0) fs.length c],.int .i64 0])) W2):=⟨.ok (N,fs),⟨some ad0,c,rfl,HC.out,fun W' hk=>(HF.out.keep ((Keep3.below (by exact HS2.out.1.out.below)).trans hk)).rf⟩,fun N' fs' he=>by cases he;exact HR.out,by intro h;cases h⟩
   have m00:W2.cell? ⟨w.heap.size,0,none⟩=some (.int .i64 N):=HS2.out.1.out.cell 0 0 rfl rfl
   have m01:W2.cell? ⟨w.heap.size,1,none⟩=some (.slice (some ad0) fs.length c):=HS2.out.1.out.cell 0 1 rfl rfl
   have m10:W2.cell? ⟨w.heap.size+1,0,none⟩=some (.int .i64 d):=HS2.out.1.out.cell 1 0 rfl rfl
   have m11:W2.cell? ⟨w.heap.size+1,1,none⟩=some (.int .i64 a):=HS2.out.1.out.cell 1 1 rfl rfl
   have m12:W2.cell? ⟨w.heap.size+1,2,none⟩=some (.int .i64 b):=HS2.out.1.out.cell 1 2 rfl rfl
   have m13:W2.cell? ⟨w.heap.size+1,3,none⟩=some (.int .i64 e):=HS2.out.1.out.cell 1 3 rfl rfl
   have m14:W2.cell? ⟨w.heap.size+1,4,none⟩=some (.int .i64 f):=HS2.out.1.out.cell 1 4 rfl rfl
   obtain⟨-,-,-,-,-,-,-,-,-,r0,r1,r2,r3⟩:=HS2.out
   go_wp2
   obtain⟨hx,hk3⟩:=HS2.out.2.1.out.sets (.int .i64 N) (.slice (some ad0) fs.length c)
   have e00:=(blk_cells hx).1 0 _ rfl
   have e01:=(blk_cells hx).1 1 _ rfl
   refine bodyPost_ret (v:=.tuple #[.agg #[.int .i64 N,.slice (some ad0) fs.length c],.int .i64 0]) (by simp[results,Try.f41,go_sem,e00,e01]) rfl ?_
   exact⟨HSO.out.keep hk3,below_sets HS2.out.1.out.below (by omega) _ _⟩
  ·have h1:¬ (ds.length:Int)=0:=by omega
   obtain⟨q,hq⟩:∃q,q=arA a ds.length:=⟨_,rfl⟩
   have HQ:Hid (q<ds.length):=by show q<_;rw[hq];exact arA_lt a (by omega)
   have HC1:=Lib.hid (around_any a ds.length (by omega) (by have:=HDL.out;omega) W2)
   rw[←hq] at HC1
   clear hq
   obtain⟨x,hx⟩:∃x,ds[q]?=some x:=⟨_,List.getElem?_eq_getElem HQ.out⟩
   obtain⟨g5,rfl,hcx⟩:=HED.out q x hx
   have HCX:=Lib.hid hcx
   clear hcx hx HED h0
   have m00:W2.cell? ⟨w.heap.size,0,none⟩=some (.int .i64 N):=HS2.out.1.out.cell 0 0 rfl rfl
   have m01:W2.cell? ⟨w.heap.size,1,none⟩=some (.slice (some ad0) fs.length c):=HS2.out.1.out.cell 0 1 rfl rfl
   have m10:W2.cell? ⟨w.heap.size+1,0,none⟩=some (.int .i64 d):=HS2.out.1.out.cell 1 0 rfl rfl
   have m11:W2.cell? ⟨w.heap.size+1,1,none⟩=some (.int .i64 a):=HS2.out.1.out.cell 1 1 rfl rfl
   have m12:W2.cell? ⟨w.heap.size+1,2,none⟩=some (.int .i64 b):=HS2.out.1.out.cell 1 2 rfl rfl
   have m13:W2.cell? ⟨w.heap.size+1,3,none⟩=some (.int .i64 e):=HS2.out.1.out.cell 1 3 rfl rfl
   have m14:W2.cell? ⟨w.heap.size+1,4,none⟩=some (.int .i64 f):=HS2.out.1.out.cell 1 4 rfl rfl
   go_upto_region 13 with fail
   go_wp2_with fail
   ((with_reducible refine(HC1.out).mono ?_);rintro e W3 ⟨rfl,hb1⟩)
   clear m00 m01 m10 m11 m12 m13 m14 HC1
   have HS3:Hid ((Hid (Obs [.cells #[.int .i64 N,.slice (some ad0) fs.length c] 26,.cells #[.int .i64 d,.int .i64 a,.int .i64 b,.int .i64 e,.int .i64 f] 80] w W3)∧Hid (RBx (w.heap.size+1+1) W3)∧W3.cell? ⟨w.heap.size,0,none⟩=some (.int .i64 N)∧W3.cell? ⟨w.heap.size,1,none⟩=some (.slice (some ad0) fs.length c)∧W3.cell? ⟨w.heap.size+1,0,none⟩=some (.int .i64 d)∧W3.cell? ⟨w.heap.size+1,1,none⟩=some (.int .i64 a)∧W3.cell? ⟨w.heap.size+1,2,none⟩=some (.int .i64 b)∧W3.cell? ⟨w.heap.size+1,3,none⟩=some (.int .i64 e)∧W3.cell? ⟨w.heap.size+1,4,none⟩=some (.int .i64 f)∧W3.frozen? ⟨w.heap.size+1+1,0,none⟩=false∧W3.frozen? ⟨w.heap.size+1+1,1,none⟩=false∧W3.cell? ⟨w.heap.size+1+1,0,none⟩=some (clO W3 ⟨w.heap.size+1+1,0,none⟩)∧W3.cell? ⟨w.heap.size+1+1,1,none⟩=some (clO W3 ⟨w.heap.size+1+1,1,none⟩))):=HKB.out _ _ HS2.out hb1
   have d0:W3.cell? ⟨g5,q * 5,none⟩=some (.int .i64 x.v):=pw_cell_below hb1 (HCX.out 0 _ rfl)
   have d1:W3.cell? ⟨g5,q * 5+1,none⟩=some (.int .i64 x.a):=pw_cell_below hb1 (HCX.out 1 _ rfl)
   have d2:W3.cell? ⟨g5,q * 5+2,none⟩=some (.int .i64 (x.f:Nat)):=pw_cell_below hb1 (HCX.out 2 _ rfl)
   have d3:W3.cell? ⟨g5,q * 5+3,none⟩=some (.int .i64 (x.l:Nat)):=pw_cell_below hb1 (HCX.out 3 _ rfl)
   have d4:W3.cell? ⟨g5,q * 5+4,none⟩=some (.int .i64 (x.i:Nat)):=pw_cell_below hb1 (HCX.out 4 _ rfl)
   clear HS2 HCX hb1
   have z1:(q:Int)<(ds.length:Int):=by have:=HQ.out;omega
   go_upto_region 14 with fail
   clear d0 d1 d2 d3 d4 z1
   have HS4:Hid ((Hid (Obs [.cells #[.int .i64 N,.slice (some ad0) fs.length c] 26,.cells #[.int .i64 d,.int .i64 a,.int .i64 b,.int .i64 e,.int .i64 f] 80] w (W3.alloc (.cells #[.int .i64 x.v,.int .i64 x.a,.int .i64 (x.f:Nat),.int .i64 (x.l:Nat),.int .i64 (x.i:Nat)] 76)))∧Hid (RBx (w.heap.size+1+1) (W3.alloc (.cells #[.int .i64 x.v,.int .i64 x.a,.int .i64 (x.f:Nat),.int .i64 (x.l:Nat),.int .i64 (x.i:Nat)] 76)))∧(W3.alloc (.cells #[.int .i64 x.v,.int .i64 x.a,.int .i64 (x.f:Nat),.int .i64 (x.l:Nat),.int .i64 (x.i:Nat)] 76)).cell? ⟨w.heap.size,0,none⟩=some (.int .i64 N)∧(W3.alloc (.cells #[.int .i64 x.v,.int .i64 x.a,.int .i64 (x.f:Nat),.int .i64 (x.l:Nat),.int .i64 (x.i:Nat)] 76)).cell? ⟨w.heap.size,1,none⟩=some (.slice (some ad0) fs.length c)∧(W3.alloc (.cells #[.int .i64 x.v,.int .i64 x.a,.int .i64 (x.f:Nat),.int .i64 (x.l:Nat),.int .i64 (x.i:Nat)] 76)).cell? ⟨w.heap.size+1,0,none⟩=some (.int .i64 d)∧(W3.alloc (.cells #[.int .i64 x.v,.int .i64 x.a,.int .i64 (x.f:Nat),.int .i64 (x.l:Nat),.int .i64 (x.i:Nat)] 76)).cell? ⟨w.heap.size+1,1,none⟩=some (.int .i64 a)∧(W3.alloc (.cells #[.int .i64 x.v,.int .i64 x.a,.int .i64 (x.f:Nat),.int .i64 (x.l:Nat),.int .i64 (x.i:Nat)] 76)).cell? ⟨w.heap.size+1,2,none⟩=some (.int .i64 b)∧(W3.alloc (.cells #[.int .i64 x.v,.int .i64 x.a,.int .i64 (x.f:Nat),.int .i64 (x.l:Nat),.int .i64 (x.i:Nat)] 76)).cell? ⟨w.heap.size+1,3,none⟩=some (.int .i64 e)∧(W3.alloc (.cells #[.int .i64 x.v,.int .i64 x.a,.int .i64 (x.f:Nat),.int .i64 (x.l:Nat),.int .i64 (x.i:Nat)] 76)).cell? ⟨w.heap.size+1,4,none⟩=some (.int .i64 f)∧(W3.alloc (.cells #[.int .i64 x.v,.int .i64 x.a,.int .i64 (x.f:Nat),.int .i64 (x.l:Nat),.int .i64 (x.i:Nat)] 76)).frozen? ⟨w.heap.size+1+1,0,none⟩=false∧(W3.alloc (.cells #[.int .i64 x.v,.int .i64 x.a,.int .i64 (x.f:Nat),.int .i64 (x.l:Nat),.int .i64 (x.i:Nat)] 76)).frozen? ⟨w.heap.size+1+1,1,none⟩=false∧(W3.alloc (.cells #[.int .i64 x.v,.int .i64 x.a,.int .i64 (x.f:Nat),.int .i64 (x.l:Nat),.int .i64 (x.i:Nat)] 76)).cell? ⟨w.heap.size+1+1,0,none⟩=some (clO (W3.alloc (.cells #[.int .i64 x.v,.int .i64 x.a,.int .i64 (x.f:Nat),.int .i64 (x.l:Nat),.int .i64 (x.i:Nat)] 76)) ⟨w.heap.size+1+1,0,none⟩)∧(W3.alloc (.cells #[.int .i64 x.v,.int .i64 x.a,.int .i64 (x.f:Nat),.int .i64 (x.l:Nat),.int .i64 (x.i:Nat)] 76)).cell? ⟨w.heap.size+1+1,1,none⟩=some (clO (W3.alloc (.cells #[.int .i64 x.v,.int .i64 x.a,.int .i64 (x.f:Nat),.int .i64 (x.l:Nat),.int .i64 (x.i:Nat)] 76)) ⟨w.heap.size+1+1,1,none⟩))):=HKB.out _ _ HS3.out (below_new W3 _)
   have HXB:Hid (Blk (W3.alloc (.cells #[.int .i64 x.v,.int .i64 x.a,.int .i64 (x.f:Nat),.int .i64 (x.l:Nat),.int .i64 (x.i:Nat)] 76)) W3.heap.size (.cells #[.int .i64 x.v,.int .i64 x.a,.int .i64 (x.f:Nat),.int .i64 (x.l:Nat),.int .i64 (x.i:Nat)] 76)):=blk_new W3 _
   clear HS3
   generalize W3.heap.size=P at HXB ⊢
   generalize W3.alloc (.cells #[.int .i64 x.v,.int .i64 x.a,.int .i64 (x.f:Nat),.int .i64 (x.l:Nat),.int .i64 (x.i:Nat)] 76)=W4 at HS4 HXB ⊢
   have HC2:=Lib.hid (rdropEdge_any N (some ad0) c fs x.v x.a W4 (HF.out.rf.below HS4.out.1.out.below) HC.out HR.out)
   have m00:W4.cell? ⟨w.heap.size,0,none⟩=some (.int .i64 N):=HS4.out.1.out.cell 0 0 rfl rfl
   have m01:W4.cell? ⟨w.heap.size,1,none⟩=some (.slice (some ad0) fs.length c):=HS4.out.1.out.cell 0 1 rfl rfl
   have m10:W4.cell? ⟨w.heap.size+1,0,none⟩=some (.int .i64 d):=HS4.out.1.out.cell 1 0 rfl rfl
   have m11:W4.cell? ⟨w.heap.size+1,1,none⟩=some (.int .i64 a):=HS4.out.1.out.cell 1 1 rfl rfl
   have m12:W4.cell? ⟨w.heap.size+1,2,none⟩=some (.int .i64 b):=HS4.out.1.out.cell 1 2 rfl rfl
   have m13:W4.cell? ⟨w.heap.size+1,3,none⟩=some (.int .i64 e):=HS4.out.1.out.cell 1 3 rfl rfl
   have m14:W4.cell? ⟨w.heap.size+1,4,none⟩=some (.int .i64 f):=HS4.out.1.out.cell 1 4 rfl rfl
   have x0:W4.cell? ⟨P,0,none⟩=some (.int .i64 x.v):=(blk_cells HXB.out).1 0 _ rfl
   have x1:W4.cell? ⟨P,1,none⟩=some (.int .i64 x.a):=(blk_cells HXB.out).1 1 _ rfl
   go_wp2_with fail
   ((with_reducible refine(HC2.out).mono ?_);rintro e W9 ⟨hop,hb1⟩)
   clear m00 m01 m10 m11 m12 m13 m14 x0 x1 HC2
   obtain⟨n9,A9,m9,c9,z9,rfl,hop⟩:=OpT.form hop
   have HS9:Hid ((Hid (Obs [.cells #[.int .i64 N,.slice (some ad0) fs.length c] 26,.cells #[.int .i64 d,.int .i64 a,.int .i64 b,.int .i64 e,.int .i64 f] 80] w W9)∧Hid (RBx (w.heap.size+1+1) W9)∧W9.cell? ⟨w.heap.size,0,none⟩=some (.int .i64 N)∧W9.cell? ⟨w.heap.size,1,none⟩=some (.slice (some ad0) fs.length c)∧W9.cell? ⟨w.heap.size+1,0,none⟩=some (.int .i64 d)∧W9.cell? ⟨w.heap.size+1,1,none⟩=some (.int .i64 a)∧W9.cell? ⟨w.heap.size+1,2,none⟩=some (.int .i64 b)∧W9.cell? ⟨w.heap.size+1,3,none⟩=some (.int .i64 e)∧W9.cell? ⟨w.heap.size+1,4,none⟩=some (.int .i64 f)∧W9.frozen? ⟨w.heap.size+1+1,0,none⟩=false∧W9.frozen? ⟨w.heap.size+1+1,1,none⟩=false∧W9.cell? ⟨w.heap.size+1+1,0,none⟩=some (clO W9 ⟨w.heap.size+1+1,0,none⟩)∧W9.cell? ⟨w.heap.size+1+1,1,none⟩=some (clO W9 ⟨w.heap.size+1+1,1,none⟩))):=HKB.out _ _ HS4.out hb1
   have HSO:Hid (StepO (.returned (.tuple #[.agg #[.int .i64 n9,.slice A9 m9 c9],.int .i64 z9])) W9):=⟨_,hop,fun N' fs' he=>st_rde HR.out he,rde_ne _ _ _ _⟩
   clear hop hb1 HS4 HXB
   obtain⟨-,-,-,-,-,-,-,-,-,r0,r1,r2,r3⟩:=HS9.out
   go_wp2
   obtain⟨hx,hk3⟩:=HS9.out.2.1.out.sets (.int .i64 n9) (.slice A9 m9 c9)
   have e00:=(blk_cells hx).1 0 _ rfl
   have e01:=(blk_cells hx).1 1 _ rfl
   refine bodyPost_ret (v:=.tuple #[.agg #[.int .i64 n9,.slice A9 m9 c9],.int .i64 z9]) (by simp[results,Try.f41,go_sem,e00,e01]) rfl ?_
   exact⟨HSO.out.keep hk3,below_sets HS9.out.1.out.below (by omega) _ _⟩
 ·have hk:u.tmod 8=4:=hk
  clear hk8
  go_upto_region 16 with fail
  clear m00 m01 m10 m11 m12 m13 m14 hk hu
  obtain⟨q1,hq1⟩:∃q,q=arA a fs.length:=⟨_,rfl⟩
  obtain⟨q2,hq2⟩:∃q,q=arA b fs.length:=⟨_,rfl⟩
  have HC1:Hid (∀W,Hid (Obs [.cells #[.int .i64 N,.slice (some ad0) fs.length c] 26,.cells #[.int .i64 d,.int .i64 a,.int .i64 b,.int .i64 e,.int .i64 f] 80] w W)→Calls Try.prog 14 #[.int .i64 a,.int .i64 fs.length] W fun e w'=>e=.returned (.int .i64 q1)∧Below W.heap.size W w'):=fun W h=>by rw[hq1];exact around_any a _ HL.out.1 (by have:=HL.out;omega) W
  have HC2:Hid (∀W,Hid (Obs [.cells #[.int .i64 N,.slice (some ad0) fs.length c] 26,.cells #[.int .i64 d,.int .i64 a,.int .i64 b,.int .i64 e,.int .i64 f] 80] w W)→Calls Try.prog 14 #[.int .i64 b,.int .i64 fs.length] W fun e w'=>e=.returned (.int .i64 q2)∧Below W.heap.size W w'):=fun W h=>by rw[hq2];exact around_any b _ HL.out.1 (by have:=HL.out;omega) W
  have HC3:Hid (∀W,Hid (Obs [.cells #[.int .i64 N,.slice (some ad0) fs.length c] 26,.cells #[.int .i64 d,.int .i64 a,.int .i64 b,.int .i64 e,.int .i64 f] 80] w W)→Calls Try.prog 27 #[.agg #[.int .i64 N,.slice (some ad0) fs.length c],.int .i64 q1,.int .i64 q2] W fun e w'=>StepO e w'∧Below W.heap.size W w'):=fun W h=>((rdropFace_any N (some ad0) c fs q1 q2 W (HF.out.rf.below h.out.below) HC.out HR.out).mono fun e w' q=>⟨⟨_,q.1,fun N' fs' he=>st_rdf HR.out he,rdf_ne _ _ _ _⟩,q.2⟩)
  clear hq1 hq2
  go_region_held3 (fun W=>(Hid (Obs [.cells #[.int .i64 N,.slice (some ad0) fs.length c] 26,.cells #[.int .i64 d,.int .i64 a,.int .i64 b,.int .i64 e,.int .i64 f] 80] w W)∧Hid (RBx (w.heap.size+1+1) W)∧W.cell? ⟨w.heap.size,0,none⟩=some (.int .i64 N)∧W.cell? ⟨w.heap.size,1,none⟩=some (.slice (some ad0) fs.length c)∧W.cell? ⟨w.heap.size+1,0,none⟩=some (.int .i64 d)∧W.cell? ⟨w.heap.size+1,1,none⟩=some (.int .i64 a)∧W.cell? ⟨w.heap.size+1,2,none⟩=some (.int .i64 b)∧W.cell? ⟨w.heap.size+1,3,none⟩=some (.int .i64 e)∧W.cell? ⟨w.heap.size+1,4,none⟩=some (.int .i64 f)∧W.frozen? ⟨w.heap.size+1+1,0,none⟩=false∧W.frozen? ⟨w.heap.size+1+1,1,none⟩=false∧W.cell? ⟨w.heap.size+1+1,0,none⟩=some (clO W ⟨w.heap.size+1+1,0,none⟩)∧W.cell? ⟨w.heap.size+1+1,1,none⟩=some (clO W ⟨w.heap.size+1+1,1,none⟩))) ((first | (with_reducible exact HKS.out _ _ _ (by assumption)) | (with_reducible exact HKB.out _ _ (by assumption) hb1) | (with_reducible exact HKB.out _ _ HS1.out (Below.refl _ _).drew))) ((first | (go_at_call 14;(with_reducible refine(HC1.out _ (And.left (by assumption))).mono ?_);rintro e w1 ⟨rfl,hb1⟩) | (go_at_call 14;(with_reducible refine(HC2.out _ (And.left (by assumption))).mono ?_);rintro e w1 ⟨rfl,hb1⟩) | (go_at_call 27;(with_reducible refine(HC3.out _ (And.left (by assumption))).mono ?_);rintro e W9 ⟨hop,hb1⟩;obtain⟨n9,A9,m9,c9,z9,rfl,hop⟩:=StepO.form hop;have HS9:=Lib.hid (HKB.out _ _ (by assumption) hb1))))
  have HSO:=Lib.hid hop
  clear hop hb1
  go_wp2
  obtain⟨hx,hk3⟩:=HS9.out.2.1.out.sets (.int .i64 n9) (.slice A9 m9 c9)
  have e00:=(blk_cells hx).1 0 _ rfl
  have e01:=(blk_cells hx).1 1 _ rfl
  refine bodyPost_ret (v:=.tuple #[.agg #[.int .i64 n9,.slice A9 m9 c9],.int .i64 z9]) (by simp[results,Try.f41,go_sem,e00,e01]) rfl ?_
  exact⟨HSO.out.keep hk3,below_sets HS9.out.1.out.below (by omega) _ _⟩
 ·have hk:u.tmod 8=5:=hk
  clear hk8
  have HC0:=Lib.hid (around_any a fs.length HL.out.1 (by have:=HL.out;omega) W1)
  go_upto_region 19 with((with_reducible refine(HC0.out).mono ?_);rintro e W2 ⟨rfl,hb1⟩)
  clear m00 m01 m10 m11 m12 m13 m14 hk hu HC0
  have HS2:Hid ((Hid (Obs [.cells #[.int .i64 N,.slice (some ad0) fs.length c] 26,.cells #[.int .i64 d,.int .i64 a,.int .i64 b,.int .i64 e,.int .i64 f] 80] w W2)∧Hid (RBx (w.heap.size+1+1) W2)∧W2.cell? ⟨w.heap.size,0,none⟩=some (.int .i64 N)∧W2.cell? ⟨w.heap.size,1,none⟩=some (.slice (some ad0) fs.length c)∧W2.cell? ⟨w.heap.size+1,0,none⟩=some (.int .i64 d)∧W2.cell? ⟨w.heap.size+1,1,none⟩=some (.int .i64 a)∧W2.cell? ⟨w.heap.size+1,2,none⟩=some (.int .i64 b)∧W2.cell? ⟨w.heap.size+1,3,none⟩=some (.int .i64 e)∧W2.cell? ⟨w.heap.size+1,4,none⟩=some (.int .i64 f)∧W2.frozen? ⟨w.heap.size+1+1,0,none⟩=false∧W2.frozen? ⟨w.heap.size+1+1,1,none⟩=false∧W2.cell? ⟨w.heap.size+1+1,0,none⟩=some (clO W2 ⟨w.heap.size+1+1,0,none⟩)∧W2.cell? ⟨w.heap.size+1+1,1,none⟩=some (clO W2 ⟨w.heap.size+1+1,1,none⟩))):=HKB.out _ _ HS1.out hb1
  clear HS1 hb1
  obtain⟨q1,hq1⟩:∃q,q=arA a fs.length:=⟨_,rfl⟩
  rw[←hq1]
  have HQ:Hid (q1<fs.length):=by show q1<_;rw[hq1];exact arA_lt a HL.out.1
  clear hq1
  have z1:(q1:Int)<(fs.length:Int):=by have:=HQ.out;omega
  obtain⟨ad0',A0,c0,e0,hc0,hl0,hr0⟩:=HF.out.rf.at HQ.out
  cases e0
  have HC0:=Lib.hid hc0
  clear hc0 hl0 hr0
  obtain⟨q2,hq2⟩:∃q,q=arA b (fcA fs q1).length:=⟨_,rfl⟩
  have HX2:Hid (∀W,(Hid (Obs [.cells #[.int .i64 N,.slice (some ad0) fs.length c] 26,.cells #[.int .i64 d,.int .i64 a,.int .i64 b,.int .i64 e,.int .i64 f] 80] w W)∧Hid (RBx (w.heap.size+1+1) W)∧W.cell? ⟨w.heap.size,0,none⟩=some (.int .i64 N)∧W.cell? ⟨w.heap.size,1,none⟩=some (.slice (some ad0) fs.length c)∧W.cell? ⟨w.heap.size+1,0,none⟩=some (.int .i64 d)∧W.cell? ⟨w.heap.size+1,1,none⟩=some (.int .i64 a)∧W.cell? ⟨w.heap.size+1,2,none⟩=some (.int .i64 b)∧W.cell? ⟨w.heap.size+1,3,none⟩=some (.int .i64 e)∧W.cell? ⟨w.heap.size+1,4,none⟩=some (.int .i64 f)∧W.frozen? ⟨w.heap.size+1+1,0,none⟩=false∧W.frozen? ⟨w.heap.size+1+1,1,none⟩=false∧W.cell? ⟨w.heap.size+1+1,0,none⟩=some (clO W ⟨w.heap.size+1+1,0,none⟩)∧W.cell? ⟨w.heap.size+1+1,1,none⟩=some (clO W ⟨w.heap.size+1+1,1,none⟩))→(Hid (Obs [.cells #[.int .i64 N,.slice (some ad0) fs.length c] 26,.cells #[.int .i64 d,.int .i64 a,.int .i64 b,.int .i64 e,.int .i64 f] 80] w W)∧Hid (RBx (w.heap.size+1+1) W)∧W.cell? ⟨w.heap.size,0,none⟩=some (.int .i64 N)∧W.cell? ⟨w.heap.size,1,none⟩=some (.slice (some ad0) fs.length c)∧W.cell? ⟨w.heap.size+1,0,none⟩=some (.int .i64 d)∧W.cell? ⟨w.heap.size+1,1,none⟩=some (.int .i64 a)∧W.cell? ⟨w.heap.size+1,2,none⟩=some (.int .i64 b)∧W.cell? ⟨w.heap.size+1,3,none⟩=some (.int .i64 e)∧W.cell? ⟨w.heap.size+1,4,none⟩=some (.int .i64 f)∧W.frozen? ⟨w.heap.size+1+1,0,none⟩=false∧W.frozen? ⟨w.heap.size+1+1,1,none⟩=false∧W.cell? ⟨w.heap.size+1+1,0,none⟩=some (clO W ⟨w.heap.size+1+1,0,none⟩)∧W.cell? ⟨w.heap.size+1+1,1,none⟩=some (clO W ⟨w.heap.size+1+1,1,none⟩)∧W.cell? (ad0.add q1)=some (.slice A0 (fcA fs q1).length c0))):=fun W h=>⟨h.1,h.2.1,h.2.2.1,h.2.2.2.1,h.2.2.2.2.1,h.2.2.2.2.2.1,h.2.2.2.2.2.2.1,h.2.2.2.2.2.2.2.1,h.2.2.2.2.2.2.2.2.1,h.2.2.2.2.2.2.2.2.2.1,h.2.2.2.2.2.2.2.2.2.2.1,h.2.2.2.2.2.2.2.2.2.2.2.1,h.2.2.2.2.2.2.2.2.2.2.2.2,pw_cell_below h.1.out.below HC0.out⟩
  have HX1:Hid (∀W,(Hid (Obs [.cells #[.int .i64 N,.slice (some ad0) fs.length c] 26,.cells #[.int .i64 d,.int .i64 a,.int .i64 b,.int .i64 e,.int .i64 f] 80] w W)∧Hid (RBx (w.heap.size+1+1) W)∧W.cell? ⟨w.heap.size,0,none⟩=some (.int .i64 N)∧W.cell? ⟨w.heap.size,1,none⟩=some (.slice (some ad0) fs.length c)∧W.cell? ⟨w.heap.size+1,0,none⟩=some (.int .i64 d)∧W.cell? ⟨w.heap.size+1,1,none⟩=some (.int .i64 a)∧W.cell? ⟨w.heap.size+1,2,none⟩=some (.int .i64 b)∧W.cell? ⟨w.heap.size+1,3,none⟩=some (.int .i64 e)∧W.cell? ⟨w.heap.size+1,4,none⟩=some (.int .i64 f)∧W.frozen? ⟨w.heap.size+1+1,0,none⟩=false∧W.frozen? ⟨w.heap.size+1+1,1,none⟩=false∧W.cell? ⟨w.heap.size+1+1,0,none⟩=some (clO W ⟨w.heap.size+1+1,0,none⟩)∧W.cell? ⟨w.heap.size+1+1,1,none⟩=some (clO W ⟨w.heap.size+1+1,1,none⟩)∧W.cell? (ad0.add q1)=some (.slice A0 (fcA fs q1).length c0))→(Hid (Obs [.cells #[.int .i64 N,.slice (some ad0) fs.length c] 26,.cells #[.int .i64 d,.int .i64 a,.int .i64 b,.int .i64 e,.int .i64 f] 80] w W)∧Hid (RBx (w.heap.size+1+1) W)∧W.cell? ⟨w.heap.size,0,none⟩=some (.int .i64 N)∧W.cell? ⟨w.heap.size,1,none⟩=some (.slice (some ad0) fs.length c)∧W.cell? ⟨w.heap.size+1,0,none⟩=some (.int .i64 d)∧W.cell? ⟨w.heap.size+1,1,none⟩=some (.int .i64 a)∧W.cell? ⟨w.heap.size+1,2,none⟩=some (.int .i64 b)∧W.cell? ⟨w.heap.size+1,3,none⟩=some (.int .i64 e)∧W.cell? ⟨w.heap.size+1,4,none⟩=some (.int .i64 f)∧W.frozen? ⟨w.heap.size+1+1,0,none⟩=false∧W.frozen? ⟨w.heap.size+1+1,1,none⟩=false∧W.cell? ⟨w.heap.size+1+1,0,none⟩=some (clO W ⟨w.heap.size+1+1,0,none⟩)∧W.cell? ⟨w.heap.size+1+1,1,none⟩=some (clO W ⟨w.heap.size+1+1,1,none⟩))):=fun W h=>⟨h.1,h.2.1,h.2.2.1,h.2.2.2.1,h.2.2.2.2.1,h.2.2.2.2.2.1,h.2.2.2.2.2.2.1,h.2.2.2.2.2.2.2.1,h.2.2.2.2.2.2.2.2.1,h.2.2.2.2.2.2.2.2.2.1,h.2.2.2.2.2.2.2.2.2.2.1,h.2.2.2.2.2.2.2.2.2.2.2.1,h.2.2.2.2.2.2.2.2.2.2.2.2.1⟩
  have HC1:Hid (∀W,Hid (Obs [.cells #[.int .i64 N,.slice (some ad0) fs.length c] 26,.cells #[.int .i64 d,.int .i64 a,.int .i64 b,.int .i64 e,.int .i64 f] 80] w W)→Calls Try.prog 14 #[.int .i64 b,.int .i64 (fcA fs q1).length] W fun e w'=>e=.returned (.int .i64 q2)∧Below W.heap.size W w'):=fun W h=>by rw[hq2];exact around_any b _ (HL.out.2.2 q1 HQ.out).1 (by have:=(HL.out.2.2 q1 HQ.out).2.1;omega) W
  have HC2:Hid (∀W,Hid (Obs [.cells #[.int .i64 N,.slice (some ad0) fs.length c] 26,.cells #[.int .i64 d,.int .i64 a,.int .i64 b,.int .i64 e,.int .i64 f] 80] w W)→Calls Try.prog 29 #[.agg #[.int .i64 N,.slice (some ad0) fs.length c],.int .i64 q1,.int .i64 q2] W fun e w'=>StepO e w'∧Below W.heap.size W w'):=fun W h=>((raddFace_any N (some ad0) c fs q1 q2 W (HF.out.rf.below h.out.below) HC.out HR.out).mono fun e w' q=>⟨⟨_,q.1,fun N' fs' he=>st_raf HR.out he,raf_ne _ _ _ _⟩,q.2⟩)
  clear hq2
  go_region_held3 (fun W=>(Hid (Obs [.cells #[.int .i64 N,.slice (some ad0) fs.length c] 26,.cells #[.int .i64 d,.int .i64 a,.int .i64 b,.int .i64 e,.int .i64 f] 80] w W)∧Hid (RBx (w.heap.size+1+1) W)∧W.cell? ⟨w.heap.size,0,none⟩=some (.int .i64 N)∧W.cell? ⟨w.heap.size,1,none⟩=some (.slice (some ad0) fs.length c)∧W.cell? ⟨w.heap.size+1,0,none⟩=some (.int .i64 d)∧W.cell? ⟨w.heap.size+1,1,none⟩=some (.int .i64 a)∧W.cell? ⟨w.heap.size+1,2,none⟩=some (.int .i64 b)∧W.cell? ⟨w.heap.size+1,3,none⟩=some (.int .i64 e)∧W.cell? ⟨w.heap.size+1,4,none⟩=some (.int .i64 f)∧W.frozen? ⟨w.heap.size+1+1,0,none⟩=false∧W.frozen? ⟨w.heap.size+1+1,1,none⟩=false∧W.cell? ⟨w.heap.size+1+1,0,none⟩=some (clO W ⟨w.heap.size+1+1,0,none⟩)∧W.cell? ⟨w.heap.size+1+1,1,none⟩=some (clO W ⟨w.heap.size+1+1,1,none⟩)∧W.cell? (ad0.add q1)=some (.slice A0 (fcA fs q1).length c0))) ((first | (with_reducible exact HX2.out _ (HKS.out _ _ _ (HX1.out _ (by assumption)))) | (with_reducible exact HX2.out _ (HKB.out _ _ (HX1.out _ (by assumption)) hb1)) | (with_reducible exact HX2.out _ (HKB.out _ _ HS2.out (Below.refl _ _).drew)))) ((first | (go_at_call 14;(with_reducible refine(HC1.out _ (And.left (by assumption))).mono ?_);rintro e w1 ⟨rfl,hb1⟩) | (go_at_call 29;(with_reducible refine(HC2.out _ (And.left (by assumption))).mono ?_);rintro e W9 ⟨hop,hb1⟩;obtain⟨n9,A9,m9,c9,z9,rfl,hop⟩:=StepO.form hop;have HS9:=Lib.hid (HKB.out _ _ (HX1.out _ (by assumption)) hb1))))
  have HSO:=Lib.hid hop
  clear hop hb1
  go_wp2
  obtain⟨hx,hk3⟩:=HS9.out.2.1.out.sets (.int .i64 n9) (.slice A9 m9 c9)
  have e00:=(blk_cells hx).1 0 _ rfl
  have e01:=(blk_cells hx).1 1 _ rfl
  refine bodyPost_ret (v:=.tuple #[.agg #[.int .i64 n9,.slice A9 m9 c9],.int .i64 z9]) (by simp[results,Try.f41,go_sem,e00,e01]) rfl ?_
  exact⟨HSO.out.keep hk3,below_sets HS9.out.1.out.below (by omega) _ _⟩
 ·have hk:u.tmod 8=6:=hk
  clear hk8
  go_upto_region 21 with fail
  clear m00 m01 m10 m11 m12 m13 m14 hk hu
  have HC1:Hid (∀W,Hid (Obs [.cells #[.int .i64 N,.slice (some ad0) fs.length c] 26,.cells #[.int .i64 d,.int .i64 a,.int .i64 b,.int .i64 e,.int .i64 f] 80] w W)→Calls Try.prog 21 #[] W fun e w'=>(∃A c,e=.returned (.agg #[.int .i64 1,.slice A fM.length c])∧fM.length≤c∧RF w' A fM)∧Below W.heap.size W w'):=fun W h=>rnew_any W
  have HC2:Hid (∀W A2 c2,Hid (Obs [.cells #[.int .i64 N,.slice (some ad0) fs.length c] 26,.cells #[.int .i64 d,.int .i64 a,.int .i64 b,.int .i64 e,.int .i64 f] 80] w W)→RF W A2 fM→fM.length≤c2→Calls Try.prog 30 #[.agg #[.int .i64 N,.slice (some ad0) fs.length c],.agg #[.int .i64 1,.slice A2 fM.length c2]] W fun e w'=>StepO e w'∧Below W.heap.size W w'):=fun W A2 c2 h h2 h3=>((rboth_any N 1 (some ad0) A2 c c2 fs fM W (HF.out.rf.below h.out.below) HC.out HR.out h2 h3 rM).mono fun e w' q=>⟨⟨_,q.1,fun N' fs' he=>st_rbo HR.out rM he,done_ne _ _⟩,q.2⟩)
  go_region_held3 (fun W=>(Hid (Obs [.cells #[.int .i64 N,.slice (some ad0) fs.length c] 26,.cells #[.int .i64 d,.int .i64 a,.int .i64 b,.int .i64 e,.int .i64 f] 80] w W)∧Hid (RBx (w.heap.size+1+1) W)∧W.cell? ⟨w.heap.size,0,none⟩=some (.int .i64 N)∧W.cell? ⟨w.heap.size,1,none⟩=some (.slice (some ad0) fs.length c)∧W.cell? ⟨w.heap.size+1,0,none⟩=some (.int .i64 d)∧W.cell? ⟨w.heap.size+1,1,none⟩=some (.int .i64 a)∧W.cell? ⟨w.heap.size+1,2,none⟩=some (.int .i64 b)∧W.cell? ⟨w.heap.size+1,3,none⟩=some (.int .i64 e)∧W.cell? ⟨w.heap.size+1,4,none⟩=some (.int .i64 f)∧W.frozen? ⟨w.heap.size+1+1,0,none⟩=false∧W.frozen? ⟨w.heap.size+1+1,1,none⟩=false∧W.cell? ⟨w.heap.size+1+1,0,none⟩=some (clO W ⟨w.heap.size+1+1,0,none⟩)∧W.cell? ⟨w.heap.size+1+1,1,none⟩=some (clO W ⟨w.heap.size+1+1,1,none⟩))) ((first | (with_reducible exact HKS.out _ _ _ (by assumption)) | (with_reducible exact HKB.out _ _ (by assumption) hb1) | (with_reducible exact HKB.out _ _ HS1.out (Below.refl _ _).drew))) ((first | (go_at_call 21;(with_reducible refine(HC1.out _ (And.left (by assumption))).mono ?_);rintro e w1 ⟨⟨A2,c2,rfl,hc2,hr2⟩,hb1⟩) | (go_at_call 30;(with_reducible refine(HC2.out _ _ _ (And.left (by assumption)) hr2 hc2).mono ?_);rintro e W9 ⟨hop,hb1⟩;obtain⟨n9,A9,m9,c9,z9,rfl,hop⟩:=StepO.form hop;have HS9:=Lib.hid (HKB.out _ _ (by assumption) hb1))))
  have HSO:=Lib.hid hop
  clear hop hb1
  go_wp2
  obtain⟨hx,hk3⟩:=HS9.out.2.1.out.sets (.int .i64 n9) (.slice A9 m9 c9)
  have e00:=(blk_cells hx).1 0 _ rfl
  have e01:=(blk_cells hx).1 1 _ rfl
  refine bodyPost_ret (v:=.tuple #[.agg #[.int .i64 n9,.slice A9 m9 c9],.int .i64 z9]) (by simp[results,Try.f41,go_sem,e00,e01]) rfl ?_
  exact⟨HSO.out.keep hk3,below_sets HS9.out.1.out.below (by omega) _ _⟩
 ·have hk:u.tmod 8=7:=hk
  clear hk8
  have HC1:=Lib.hid (rturn_any N (some ad0) c fs W1 (HF.out.rf.below HS1.out.1.out.below) HC.out HR.out)
  go_upto_region 22 with fail
  go_wp2_with fail
  ((with_reducible refine(HC1.out).mono ?_);rintro e W9 ⟨⟨A9,c9,rfl,hc9,hr9⟩,hb1⟩)
  clear m00 m01 m10 m11 m12 m13 m14 hk hu HC1
  have HS9:=Lib.hid (HKB.out _ _ HS1.out hb1)
  have HSO:Hid (StepO (.returned (.tuple #[.agg #[.int .i64 N,.slice A9 (turL fs).length c9],.int .i64 0])) W9):=⟨.ok (N,turL fs),⟨A9,c9,rfl,hc9,hr9⟩,fun N' fs' he=>by cases he;exact st_rtu HR.out,by intro h;cases h⟩
  clear hc9 hr9
  generalize (turL fs).length=m9 at HSO ⊢
  obtain⟨-,-,-,-,-,-,-,-,-,r0,r1,r2,r3⟩:=HS9.out
  go_wp2
  obtain⟨hx,hk3⟩:=HS9.out.2.1.out.sets (.int .i64 N) (.slice A9 m9 c9)
  have e00:=(blk_cells hx).1 0 _ rfl
  have e01:=(blk_cells hx).1 1 _ rfl
  refine bodyPost_ret (v:=.tuple #[.agg #[.int .i64 N,.slice A9 m9 c9],.int .i64 0]) (by simp[results,Try.f41,go_sem,e00,e01]) rfl ?_
  exact⟨HSO.out.keep hk3,below_sets HS9.out.1.out.below (by omega) _ _⟩
 ·omega
end Go.Proofs.Ytealnhaffphamaa
