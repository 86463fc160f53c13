/- Contracts of the functions that the statement reaches, and plain lemmas: part 27 of 31. -/
import Derived.Test.YtealnhaffphamaaS26
set_option linter.unusedVariables false
set_option linter.unusedSimpArgs false

namespace Go.Proofs.Ytealnhaffphamaa
open Go.RowKit Go.Shelf Go.Proofs.YtealnhaffphamaaW.PrintWords
open Classical
structure OpN where
 d:Int
 a:Int
 b:Int
 e:Int
 f:Int
def opC (q:OpN):List Value:=[.int .i64 q.d,.int .i64 q.a,.int .i64 q.b,.int .i64 q.e,.int .i64 q.f]
theorem add_form (a:Addr) {n:Nat} (h:n≠0):a.add n=⟨a.block,a.off+n,none⟩:=by
 unfold Addr.add
 simp[h]
theorem op_cells {W:World} {ad:Addr} {q:OpN} (h:∀j u,(opC q)[j]?=some u→W.cell? (ad.add j)=some u) :
  W.cell? ad=some (.int .i64 q.d)∧W.cell? ⟨ad.block,ad.off+1,none⟩=some (.int .i64 q.a)∧W.cell? ⟨ad.block,ad.off+2,none⟩=some (.int .i64 q.b)∧W.cell? ⟨ad.block,ad.off+3,none⟩=some (.int .i64 q.e)∧W.cell? ⟨ad.block,ad.off+4,none⟩=some (.int .i64 q.f):=by
 have h0:=h 0 _ rfl
 have h1:=h 1 _ rfl
 have h2:=h 2 _ rfl
 have h3:=h 3 _ rfl
 have h4:=h 4 _ rfl
 rw[add_form ad (by omega)] at h1 h2 h3 h4
 exact⟨by simpa [Addr.add] using h0,h1,h2,h3,h4⟩
def RO5 (W:World) (A:Option Addr) (ops:List OpN):Prop:=∀(i:Nat) (q:OpN),ops[i]?=some q→∃ad,A=some ad∧∀j u,(opC q)[j]?=some u→W.cell? ((ad.add (i * 5)).add j)=some u
def StepsO (most:Int) (e:Ending) (w:World):Prop:=∃N A fs c,e=.returned (.agg #[.int .i64 N,.slice A (List.length fs) c])∧fs.length≤c∧RFT w A fs∧RightP N fs∧N≤most
def BoxM (most:Int) (P:Nat) (W:World):Prop:=∃N A fs c,Blk W P (.cells #[.int .i64 N,.slice A (List.length fs) c] 26)∧fs.length≤c∧RFT W A fs∧RightP N fs∧N≤most
set_option maxRecDepth 100000 in
theorem rnew_T (w:World):Calls Try.prog 21 #[] w fun e w'=>(∃A c,e=.returned (.agg #[.int .i64 1,.slice A fM.length c])∧fM.length≤c∧RFT w' A fM)∧Below w.heap.size w w':=by
 obtain⟨W1,hW1⟩:∃W1,W1=w.alloc (.cells #[.int .i64 0,.slice none 0 0] 26):=⟨_,rfl⟩
 have hB:Below w.heap.size w W1∧Blk W1 w.heap.size (.cells #[.int .i64 0,.slice none 0 0] 26)∧W1.heap.size=w.heap.size+1:=by rw[hW1];exact⟨below_new _ _,blk_new _ _,by simp⟩
 go_enter Try.func21,Try.ntmps21
 go_upto_region 1 with fail
 rw[←hW1]
 clear hW1
 obtain⟨h1,h2,h3⟩:=hB
 obtain⟨⟨vf,vl,hM⟩,hb⟩:=(show(∃vf vl,MW W1.heap.size (.slice (some ⟨W1.heap.size+1+1,0,none⟩) 1 1) fM fM.length vf vl (((W1.alloc (.cells #[.int .i64 0] 3)).alloc (.cells #[.slice (some ⟨W1.heap.size,0,none⟩) 1 1] 36)).alloc (.cells #[.slice (some ⟨W1.heap.size+1,0,none⟩) 1 1] 37)))∧Below W1.heap.size W1 (((W1.alloc (.cells #[.int .i64 0] 3)).alloc (.cells #[.slice (some ⟨W1.heap.size,0,none⟩) 1 1] 36)).alloc (.cells #[.slice (some ⟨W1.heap.size+1,0,none⟩) 1 1] 37)) from lit_mw W1 [0] (n:=1) rfl (by omega))
 have hx:=h2.bel hb
 have m0:=(blk_cells hx).1 0 _ rfl
 have m1:=(blk_cells hx).1 1 _ rfl
 have n0:=(blk_cells hx).2 0
 have n1:=(blk_cells hx).2 1
 have HM:=Lib.hid (hM.back (r:=w.heap.size) (by omega) (.int .i64 1) (.slice (some ⟨W1.heap.size+1+1,0,none⟩) 1 1))
 have HX:=Lib.hid (blk_set2 (u:=.int .i64 1) (v:=.slice (some ⟨W1.heap.size+1+1,0,none⟩) 1 1) hx)
 have HB:=Lib.hid (((h1.trans (hb.mono h1.size)).setCell (p:=⟨w.heap.size,0,none⟩) (Nat.le_refl _) (.int .i64 1)).setCell (p:=⟨w.heap.size,1,none⟩) (Nat.le_refl _) (.slice (some ⟨W1.heap.size+1+1,0,none⟩) 1 1))
 have hs:w.heap.size<W1.heap.size:=by omega
 clear hx hM hb h1 h2 h3
 go_wp2
 have e00:=(blk_cells HX.out).1 0 _ rfl
 have e01:=(blk_cells HX.out).1 1 _ rfl
 obtain⟨A,c,e1,e2,e3⟩:=(MR.of HM.out).readsT
 injection e1 with ea en ec
 rw[←ea] at e3
 refine bodyPost_ret (v:=.agg #[.int .i64 1,.slice (some ⟨W1.heap.size+1+1,0,none⟩) 1 1]) (by simp[results,Try.f21,go_sem,e00,e01]) rfl ?_
 exact⟨⟨_,1,rfl,by decide,e3⟩,HB.out⟩
set_option maxRecDepth 100000 in
set_option maxHeartbeats 4000000 in
theorem steps_any (A:Option Addr) (c:Nat) (ops:List OpN) (most:Int) (w:World) (hO:RO5 w A ops) (hl:ops.length≤9223372036854775807) (hm:1≤most) :
  Calls Try.prog 9 #[.slice A ops.length c,.int .i64 most] w fun e w'=>StepsO most e w'∧Below w.heap.size w w':=by
 obtain⟨W1,hW1⟩:∃W1,W1=w.alloc (.cells #[.int .i64 0,.slice none 0 0] 26):=⟨_,rfl⟩
 have hOB:Obs [.cells #[.int .i64 0,.slice none 0 0] 26] w W1:=by rw[hW1];exact Obs.one w _
 have HB1:=Lib.hid hOB.below
 have HR1:Hid (RBx w.heap.size W1):=⟨_,_,hOB.blk 0 _ rfl⟩
 clear hOB
 have HO:=Lib.hid hO
 have HL:=Lib.hid (And.intro hl hm)
 clear hO hl hm
 have HNW:=Lib.hid (rnew_T W1)
 go_enter Try.func9,Try.ntmps9
 go_upto_region 1 with fail
 rw[←hW1]
 clear hW1
 go_upto_region 2 with((with_reducible refine(HNW.out).mono ?_);rintro e W2 ⟨⟨A2,c2,rfl,hc2,hr2⟩,hb1⟩)
 have HBM:Hid (BoxM most W2.heap.size (W2.alloc (.cells #[.int .i64 1,.slice A2 fM.length c2] 26))∧w.heap.size<W2.heap.size):=⟨⟨1,A2,fM,c2,blk_new W2 _,hc2,hr2.call (below_new W2 _),rM,HL.out.2⟩,Nat.lt_of_lt_of_le (by obtain⟨x,y,h⟩:=HR1.out;exact h.lt) hb1.size⟩
 have HB2:Hid (Below w.heap.size w (W2.alloc (.cells #[.int .i64 1,.slice A2 fM.length c2] 26))):=below_alloc' (HB1.out.trans (hb1.mono HB1.out.size)) _
 have HR2:Hid (RBx w.heap.size (W2.alloc (.cells #[.int .i64 1,.slice A2 fM.length c2] 26))):=(HR1.out.call hb1).call (below_new W2 _)
 clear HNW HB1 HR1 hc2 hr2 hb1
 generalize W2.heap.size=P at HBM ⊢
 generalize W2.alloc (.cells #[.int .i64 1,.slice A2 fM.length c2] 26)=W3 at HBM HB2 HR2 ⊢
 have HPR:Hid (w.heap.size<P):=HBM.out.2
 have HBM2:=Lib.hid HBM.out.1
 clear HBM
 go_wp2
 go_loopw [6] (fun s6 wr=>∃i:Nat,i≤ops.length∧s6=.int .i64 i∧Hid (Below w.heap.size w wr)∧Hid (RBx w.heap.size wr)∧Hid (BoxM most P wr)) (fun s _=>ops.length - (intOf s).toNat)
 case atStart=>exact⟨0,by omega,rfl,HB2,HR2,HBM2⟩
 case round=>
  clear HB2 HR2 HBM2
  obtain⟨i,hi,rfl,HB,HRB,HBM⟩:=hrel
  obtain⟨N,A3,fs,c3,hblk,hc3,hrf,hRP,hNm⟩:=HBM.out
  clear HBM
  have HM:Hid (Blk wr P (.cells #[.int .i64 N,.slice A3 fs.length c3] 26)∧fs.length≤c3∧RFT wr A3 fs∧RightP N fs∧N≤most):=⟨hblk,hc3,hrf,hRP,hNm⟩
  clear hblk hc3 hrf hRP hNm
  by_cases hlt:i<ops.length∧i<40
  ·have z1:(i:Int)<(ops.length:Int):=by omega
   have z2:(i:Int)<40:=by omega
   obtain⟨q,hq⟩:∃q,ops[i]?=some q:=⟨_,List.getElem?_eq_getElem hlt.1⟩
   obtain⟨ad,rfl,hcell⟩:=HO.out i q hq
   have HCL:=Lib.hid hcell
   clear hcell hq
   have HE:Hid (∀W,(Below w.heap.size w W∧RBx w.heap.size W∧Blk W P (.cells #[.int .i64 N,.slice A3 fs.length c3] 26)∧RFT W A3 fs)→(Hid ((Below w.heap.size w W∧RBx w.heap.size W∧Blk W P (.cells #[.int .i64 N,.slice A3 fs.length c3] 26)∧RFT W A3 fs))∧W.cell? ⟨P,0,none⟩=some (.int .i64 N)∧W.cell? ⟨P,1,none⟩=some (.slice A3 fs.length c3)∧W.cell? (ad.add (i * 5))=some (.int .i64 q.d)∧W.cell? ⟨(ad.add (i * 5)).block,(ad.add (i * 5)).off+1,none⟩=some (.int .i64 q.a)∧W.cell? ⟨(ad.add (i * 5)).block,(ad.add (i * 5)).off+2,none⟩=some (.int .i64 q.b)∧W.cell? ⟨(ad.add (i * 5)).block,(ad.add (i * 5)).off+3,none⟩=some (.int .i64 q.e)∧W.cell? ⟨(ad.add (i * 5)).block,(ad.add (i * 5)).off+4,none⟩=some (.int .i64 q.f))):=fun W h=>⟨h,(blk_cells h.2.2.1).1 0 _ rfl,(blk_cells h.2.2.1).1 1 _ rfl,op_cells (fun j u hj=>pw_cell_below h.1 (HCL.out j u hj))⟩
   have HKB:Hid (∀W W',(Hid ((Below w.heap.size w W∧RBx w.heap.size W∧Blk W P (.cells #[.int .i64 N,.slice A3 fs.length c3] 26)∧RFT W A3 fs))∧W.cell? ⟨P,0,none⟩=some (.int .i64 N)∧W.cell? ⟨P,1,none⟩=some (.slice A3 fs.length c3)∧W.cell? (ad.add (i * 5))=some (.int .i64 q.d)∧W.cell? ⟨(ad.add (i * 5)).block,(ad.add (i * 5)).off+1,none⟩=some (.int .i64 q.a)∧W.cell? ⟨(ad.add (i * 5)).block,(ad.add (i * 5)).off+2,none⟩=some (.int .i64 q.b)∧W.cell? ⟨(ad.add (i * 5)).block,(ad.add (i * 5)).off+3,none⟩=some (.int .i64 q.e)∧W.cell? ⟨(ad.add (i * 5)).block,(ad.add (i * 5)).off+4,none⟩=some (.int .i64 q.f))→Below W.heap.size W W'→(Hid ((Below w.heap.size w W'∧RBx w.heap.size W'∧Blk W' P (.cells #[.int .i64 N,.slice A3 fs.length c3] 26)∧RFT W' A3 fs))∧W'.cell? ⟨P,0,none⟩=some (.int .i64 N)∧W'.cell? ⟨P,1,none⟩=some (.slice A3 fs.length c3)∧W'.cell? (ad.add (i * 5))=some (.int .i64 q.d)∧W'.cell? ⟨(ad.add (i * 5)).block,(ad.add (i * 5)).off+1,none⟩=some (.int .i64 q.a)∧W'.cell? ⟨(ad.add (i * 5)).block,(ad.add (i * 5)).off+2,none⟩=some (.int .i64 q.b)∧W'.cell? ⟨(ad.add (i * 5)).block,(ad.add (i * 5)).off+3,none⟩=some (.int .i64 q.e)∧W'.cell? ⟨(ad.add (i * 5)).block,(ad.add (i * 5)).off+4,none⟩=some (.int .i64 q.f))):=fun W W' h hb=>HE.out W' ⟨h.1.out.1.trans (hb.mono h.1.out.1.size),h.1.out.2.1.call hb,h.1.out.2.2.1.bel hb,h.1.out.2.2.2.call hb⟩
   have HS1:Hid ((Hid ((Below w.heap.size w wr∧RBx w.heap.size wr∧Blk wr P (.cells #[.int .i64 N,.slice A3 fs.length c3] 26)∧RFT wr A3 fs))∧wr.cell? ⟨P,0,none⟩=some (.int .i64 N)∧wr.cell? ⟨P,1,none⟩=some (.slice A3 fs.length c3)∧wr.cell? (ad.add (i * 5))=some (.int .i64 q.d)∧wr.cell? ⟨(ad.add (i * 5)).block,(ad.add (i * 5)).off+1,none⟩=some (.int .i64 q.a)∧wr.cell? ⟨(ad.add (i * 5)).block,(ad.add (i * 5)).off+2,none⟩=some (.int .i64 q.b)∧wr.cell? ⟨(ad.add (i * 5)).block,(ad.add (i * 5)).off+3,none⟩=some (.int .i64 q.e)∧wr.cell? ⟨(ad.add (i * 5)).block,(ad.add (i * 5)).off+4,none⟩=some (.int .i64 q.f))):=HE.out wr ⟨HB.out,HRB.out,HM.out.1,HM.out.2.2.1⟩
   have HC1:Hid (∀W,(Hid ((Below w.heap.size w W∧RBx w.heap.size W∧Blk W P (.cells #[.int .i64 N,.slice A3 fs.length c3] 26)∧RFT W A3 fs))∧W.cell? ⟨P,0,none⟩=some (.int .i64 N)∧W.cell? ⟨P,1,none⟩=some (.slice A3 fs.length c3)∧W.cell? (ad.add (i * 5))=some (.int .i64 q.d)∧W.cell? ⟨(ad.add (i * 5)).block,(ad.add (i * 5)).off+1,none⟩=some (.int .i64 q.a)∧W.cell? ⟨(ad.add (i * 5)).block,(ad.add (i * 5)).off+2,none⟩=some (.int .i64 q.b)∧W.cell? ⟨(ad.add (i * 5)).block,(ad.add (i * 5)).off+3,none⟩=some (.int .i64 q.e)∧W.cell? ⟨(ad.add (i * 5)).block,(ad.add (i * 5)).off+4,none⟩=some (.int .i64 q.f))→Calls Try.prog 41 #[.agg #[.int .i64 N,.slice A3 fs.length c3],.agg #[.int .i64 q.d,.int .i64 q.a,.int .i64 q.b,.int .i64 q.e,.int .i64 q.f]] W fun e w'=>StepO e w'∧Below W.heap.size W w'):=fun W h=>step_any N A3 c3 fs q.d q.a q.b q.e q.f W h.1.out.2.2.2 HM.out.2.1 HM.out.2.2.2.1
   have HPQ:Hid (P<wr.heap.size):=HM.out.1.lt
   have HKQ:Hid (∀W v0 v1,(Hid ((Below w.heap.size w W∧RBx w.heap.size W∧Blk W P (.cells #[.int .i64 N,.slice A3 fs.length c3] 26)∧RFT W A3 fs))∧W.cell? ⟨P,0,none⟩=some (.int .i64 N)∧W.cell? ⟨P,1,none⟩=some (.slice A3 fs.length c3)∧W.cell? (ad.add (i * 5))=some (.int .i64 q.d)∧W.cell? ⟨(ad.add (i * 5)).block,(ad.add (i * 5)).off+1,none⟩=some (.int .i64 q.a)∧W.cell? ⟨(ad.add (i * 5)).block,(ad.add (i * 5)).off+2,none⟩=some (.int .i64 q.b)∧W.cell? ⟨(ad.add (i * 5)).block,(ad.add (i * 5)).off+3,none⟩=some (.int .i64 q.e)∧W.cell? ⟨(ad.add (i * 5)).block,(ad.add (i * 5)).off+4,none⟩=some (.int .i64 q.f))→Blk W wr.heap.size (.cells #[.int .i64 0,.slice none 0 0] 26)→(Hid ((Below w.heap.size w ((W.setCell ⟨wr.heap.size,0,none⟩ v0).setCell ⟨wr.heap.size,1,none⟩ v1)∧RBx w.heap.size ((W.setCell ⟨wr.heap.size,0,none⟩ v0).setCell ⟨wr.heap.size,1,none⟩ v1)∧Blk ((W.setCell ⟨wr.heap.size,0,none⟩ v0).setCell ⟨wr.heap.size,1,none⟩ v1) P (.cells #[.int .i64 N,.slice A3 fs.length c3] 26)∧RFT ((W.setCell ⟨wr.heap.size,0,none⟩ v0).setCell ⟨wr.heap.size,1,none⟩ v1) A3 fs))∧((W.setCell ⟨wr.heap.size,0,none⟩ v0).setCell ⟨wr.heap.size,1,none⟩ v1).cell? ⟨P,0,none⟩=some (.int .i64 N)∧((W.setCell ⟨wr.heap.size,0,none⟩ v0).setCell ⟨wr.heap.size,1,none⟩ v1).cell? ⟨P,1,none⟩=some (.slice A3 fs.length c3)∧((W.setCell ⟨wr.heap.size,0,none⟩ v0).setCell ⟨wr.heap.size,1,none⟩ v1).cell? (ad.add (i * 5))=some (.int .i64 q.d)∧((W.setCell ⟨wr.heap.size,0,none⟩ v0).setCell ⟨wr.heap.size,1,none⟩ v1).cell? ⟨(ad.add (i * 5)).block,(ad.add (i * 5)).off+1,none⟩=some (.int .i64 q.a)∧((W.setCell ⟨wr.heap.size,0,none⟩ v0).setCell ⟨wr.heap.size,1,none⟩ v1).cell? ⟨(ad.add (i * 5)).block,(ad.add (i * 5)).off+2,none⟩=some (.int .i64 q.b)∧((W.setCell ⟨wr.heap.size,0,none⟩ v0).setCell ⟨wr.heap.size,1,none⟩ v1).cell? ⟨(ad.add (i * 5)).block,(ad.add (i * 5)).off+3,none⟩=some (.int .i64 q.e)∧((W.setCell ⟨wr.heap.size,0,none⟩ v0).setCell ⟨wr.heap.size,1,none⟩ v1).cell? ⟨(ad.add (i * 5)).block,(ad.add (i * 5)).off+4,none⟩=some (.int .i64 q.f))):=fun W v0 v1 h hz=>by
    have hs:=RBx.sets ⟨_,_,hz⟩ v0 v1
    have hg:=grown_set W wr.heap.size 0 v0
    have hg2:=grown_set (W.setCell ⟨wr.heap.size,0,none⟩ v0) wr.heap.size 1 v1
    obtain⟨x,y,hr⟩:=h.1.out.2.1
    exact HE.out _ ⟨below_sets h.1.out.1 (by have:=HPR.out;have:=HPQ.out;omega) v0 v1,⟨x,y,(hr.kept hg (fun e=>by injection e with e;have:=HPR.out;have:=HPQ.out;omega)).kept hg2 (fun e=>by injection e with e;have:=HPR.out;have:=HPQ.out;omega)⟩,(h.1.out.2.2.1.kept hg (fun e=>by injection e with e;have:=HPQ.out;omega)).kept hg2 (fun e=>by injection e with e;have:=HPQ.out;omega),h.1.out.2.2.2.keep hs.2⟩
   go_upto_region 5 with fail
   go_cut [7,8] from 10 to 37 (fun s7 s8 Wr=>∃(Q n9:Nat) (N9 z9:Int) (A9:Option Addr) (c9:Nat),s7=.pointer (some ⟨Q,0,none⟩)∧s8=.int .i64 z9∧Hid (StepO (.returned (.tuple #[.agg #[.int .i64 N9,.slice A9 n9 c9],.int .i64 z9])) Wr)∧Hid (Blk Wr Q (.cells #[.int .i64 N9,.slice A9 n9 c9] 26))∧Hid ((Below w.heap.size w Wr∧RBx w.heap.size Wr∧Blk Wr P (.cells #[.int .i64 N,.slice A3 fs.length c3] 26)∧RFT Wr A3 fs))∧Hid (P<Q))
   case first=>
    go_region_held3 (fun W=>(Hid ((Below w.heap.size w W∧RBx w.heap.size W∧Blk W P (.cells #[.int .i64 N,.slice A3 fs.length c3] 26)∧RFT W A3 fs))∧W.cell? ⟨P,0,none⟩=some (.int .i64 N)∧W.cell? ⟨P,1,none⟩=some (.slice A3 fs.length c3)∧W.cell? (ad.add (i * 5))=some (.int .i64 q.d)∧W.cell? ⟨(ad.add (i * 5)).block,(ad.add (i * 5)).off+1,none⟩=some (.int .i64 q.a)∧W.cell? ⟨(ad.add (i * 5)).block,(ad.add (i * 5)).off+2,none⟩=some (.int .i64 q.b)∧W.cell? ⟨(ad.add (i * 5)).block,(ad.add (i * 5)).off+3,none⟩=some (.int .i64 q.e)∧W.cell? ⟨(ad.add (i * 5)).block,(ad.add (i * 5)).off+4,none⟩=some (.int .i64 q.f))) ((first | (with_reducible exact HKB.out _ _ (by assumption) hb1) | (with_reducible exact HKQ.out _ _ _ HS9.out hz) | (with_reducible exact HKB.out _ _ HS9.out (below_new _ _)) | (with_reducible exact HKB.out _ _ (by assumption) (below_new _ _)) | (with_reducible exact HKB.out _ _ HS1.out (Below.refl _ _).drew))) ((go_at_call 41;(with_reducible refine(HC1.out _ (by assumption)).mono ?_);rintro e W9 ⟨hop,hb1⟩;obtain⟨n9,A9,m9,c9,z9,rfl,hop⟩:=StepO.form hop;have HS9:=Lib.hid (HKB.out _ _ (by assumption) hb1);try(have hz:Blk W9 wr.heap.size (.cells #[.int .i64 0,.slice none 0 0] 26):=(blk_new wr.drew (.cells #[.int .i64 0,.slice none 0 0] 26)).bel hb1;have y0:=(blk_cells hz).1 0 _ rfl;have y1:=(blk_cells hz).1 1 _ rfl;have y2:=(blk_cells hz).2 0;have y3:=(blk_cells hz).2 1)))
    all_goals
     go_wp2
     go_meet
     case rel=>
      have hS:=HS9.out
      first
       | exact⟨_,_,_,_,_,_,rfl,rfl,hop.keep (Keep3.below (below_new _ _)),blk_new W9 _,(HKB.out _ _ hS (below_new W9 _)).1.out,Nat.lt_of_lt_of_le HPQ.out (by have:=hb1.size;simpa using this)⟩
       | exact⟨_,_,_,_,_,_,rfl,rfl,hop.keep (RBx.sets ⟨_,_,hz⟩ _ _).2,(RBx.sets ⟨_,_,hz⟩ _ _).1,(HKQ.out _ _ _ hS hz).1.out,HPQ.out⟩
   case rest=>
    obtain⟨Q,n9,N9,z9,A9,c9,rfl,rfl,HSO,HQB,HJ,HPQ2⟩:=hcut
    rename World=>W5
    clear HE HKB HS1 HC1 HKQ HPQ HCL
    have y0:W5.cell? ⟨Q,0,none⟩=some (.int .i64 N9):=(blk_cells HQB.out).1 0 _ rfl
    have y1:W5.cell? ⟨Q,1,none⟩=some (.slice A9 n9 c9):=(blk_cells HQB.out).1 1 _ rfl
    have p0:=(blk_cells HJ.out.2.2.1).1 0 _ rfl
    have p1:=(blk_cells HJ.out.2.2.1).1 1 _ rfl
    have p2:=(blk_cells HJ.out.2.2.1).2 0
    have p3:=(blk_cells HJ.out.2.2.1).2 1
    have hw:IntKind.i64.wrap ((i:Int)+1)=((i+1:Nat):Int):=by rw[IntKind.wrap_i64];omega
    have HSAME:Hid (BoxM most P W5):=⟨N,A3,fs,c3,HJ.out.2.2.1,HM.out.2.1,HJ.out.2.2.2,HM.out.2.2.2.1,HM.out.2.2.2.2⟩
    by_cases hz9:z9=0
    ·subst hz9
     by_cases hn9:N9≤most
     ·have HBX:Hid (BoxM most P ((W5.setCell ⟨P,0,none⟩ (.int .i64 N9)).setCell ⟨P,1,none⟩ (.slice A9 n9 c9))):=by
       obtain⟨r,hop,hgood,hne⟩:=HSO.out
       obtain⟨hb2,hk⟩:=RBx.sets ⟨_,_,HJ.out.2.2.1⟩ (.int .i64 N9) (.slice A9 n9 c9)
       rcases r with z | ⟨N',fs'⟩
       ·have h1:=hop
        injection h1 with h1
        injection h1 with h1
        exact absurd (by simp at h1;rw[h1.2]) hne
       ·obtain⟨A',c',h1,h2,h3⟩:=hop
        injection h1 with h1
        simp at h1
        obtain⟨rfl,rfl,rfl,rfl⟩:=h1
        exact⟨_,_,_,_,hb2,h2,h3.keep hk,hgood _ _ rfl,hn9⟩
      have HBB:Hid (Below w.heap.size w ((W5.setCell ⟨P,0,none⟩ (.int .i64 N9)).setCell ⟨P,1,none⟩ (.slice A9 n9 c9))):=below_sets HJ.out.1 (by have:=HPR.out;omega) _ _
      have HRR:Hid (RBx w.heap.size ((W5.setCell ⟨P,0,none⟩ (.int .i64 N9)).setCell ⟨P,1,none⟩ (.slice A9 n9 c9))):=by
       obtain⟨x,y,hr⟩:=HJ.out.2.1
       exact⟨x,y,(hr.kept (grown_set W5 P 0 _) (fun e=>by injection e with e;have:=HPR.out;omega)).kept (grown_set _ P 1 _) (fun e=>by injection e with e;have:=HPR.out;omega)⟩
      go_wp2
      go_round
      case rel=>exact⟨i+1,by omega,by go_num,HBB,HRR,HBX⟩
      case measure=>simp[intOf];omega
     ·go_wp2
      go_round
      case rel=>exact⟨i+1,by omega,by go_num,HJ.out.1,HJ.out.2.1,HSAME⟩
      case measure=>simp[intOf];omega
    ·have hz1:(z9 == 0)=false:=by simpa using hz9
     go_wp2
     go_round
     case rel=>exact⟨i+1,by omega,by go_num,HJ.out.1,HJ.out.2.1,HSAME⟩
     case measure=>simp[intOf];omega
  ·have p0:wr.cell? ⟨P,0,none⟩=some (.int .i64 N):=(blk_cells HM.out.1).1 0 _ rfl
   have p1:wr.cell? ⟨P,1,none⟩=some (.slice A3 fs.length c3):=(blk_cells HM.out.1).1 1 _ rfl
   have HRS:=Lib.hid (HRB.out.sets (.int .i64 N) (.slice A3 fs.length c3))
   obtain⟨x,y,hr⟩:=HRB.out
   have r0:=(blk_cells hr).1 0 _ rfl
   have r1:=(blk_cells hr).1 1 _ rfl
   have r2:=(blk_cells hr).2 0
   have r3:=(blk_cells hr).2 1
   clear hr
   by_cases hlt1:i<ops.length
   ·have z1:(i:Int)<(ops.length:Int):=by omega
    have z2:¬ (i:Int)<40:=by omega
    clear hlt hlt1 hi
    go_wp2
    have e00:=(blk_cells HRS.out.1).1 0 _ rfl
    have e01:=(blk_cells HRS.out.1).1 1 _ rfl
    refine bodyPost_ret (v:=.agg #[.int .i64 N,.slice A3 fs.length c3]) (by simp[results,Try.f9,go_sem,e00,e01]) rfl ?_
    exact⟨⟨N,A3,fs,c3,rfl,HM.out.2.1,HM.out.2.2.1.keep HRS.out.2,HM.out.2.2.2.1,HM.out.2.2.2.2⟩,below_sets HB.out (Nat.le_refl _) _ _⟩
   ·have z1:¬ (i:Int)<(ops.length:Int):=by omega
    clear hlt hlt1 hi
    go_wp2
    have e00:=(blk_cells HRS.out.1).1 0 _ rfl
    have e01:=(blk_cells HRS.out.1).1 1 _ rfl
    refine bodyPost_ret (v:=.agg #[.int .i64 N,.slice A3 fs.length c3]) (by simp[results,Try.f9,go_sem,e00,e01]) rfl ?_
    exact⟨⟨N,A3,fs,c3,rfl,HM.out.2.1,HM.out.2.2.1.keep HRS.out.2,HM.out.2.2.2.1,HM.out.2.2.2.2⟩,below_sets HB.out (Nat.le_refl _) _ _⟩
end Go.Proofs.Ytealnhaffphamaa
