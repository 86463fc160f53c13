/- Contracts of the functions that the statement reaches, and plain lemmas: part 21 of 31. -/
import Derived.Test.YtealnhaffphamaaS17
import Derived.Deep.CutRange
import Derived.StillTailTactics
import Derived.Test.YtealnhaffphamaaS15
import Derived.Deep.QuietTactic
import Derived.BigQuiet
set_option linter.unusedVariables false
set_option linter.unusedSimpArgs false

namespace Go.Proofs.Ytealnhaffphamaa
open Go.RowKit Go.Shelf Go.Proofs.YtealnhaffphamaaW.PrintWords
def turL (fs:Fs):Fs:=fs.map (List.map List.reverse)
theorem turL_lens (fs:Fs):(turL fs).length=fs.length∧(∀f,(fcA (turL fs) f).length=(fcA fs f).length)∧(∀f l,(lpA (turL fs) f l).length=(lpA fs f l).length)∧∀f l i,f<fs.length→l<(fcA fs f).length→i<(lpA fs f l).length→(lpA (turL fs) f l).getD i 0=(lpA fs f l).getD ((lpA fs f l).length - 1 - i) 0:=by
 obtain⟨h1,h2,h3⟩:=map_lens List.reverse (fun l=>List.length_reverse) fs
 refine⟨h1,h2,fun f l=>by unfold turL;rw[h3];simp,fun f l i _ _ hi=>?_⟩
 unfold turL
 rw[h3,List.getD_eq_getElem?_getD,List.getElem?_reverse hi,List.getD_eq_getElem?_getD]
set_option maxRecDepth 100000 in
set_option maxHeartbeats 4000000 in
theorem rturn_any (N:Int) (A:Option Addr) (c:Nat) (fs:Fs) (w:World) (hF:RF w A fs) (hc:fs.length≤c) (hR:RightP N fs) :
  Calls Try.prog 33 #[.agg #[.int .i64 N,.slice A fs.length c]] w fun e w'=>(∃A c,e=.returned (.agg #[.int .i64 N,.slice A (turL fs).length c])∧(turL fs).length≤c∧RFT w' A (turL fs))∧Below w.heap.size w w':=by
 obtain⟨W1,hW1⟩:∃W1,W1=(w.alloc (.cells #[.int .i64 N,.slice A fs.length c] 26)).alloc (.cells #[.int .i64 0,.slice none 0 0] 26):=⟨_,rfl⟩
 have HOB:Hid (Obs [.cells #[.int .i64 N,.slice A fs.length c] 26,.cells #[.int .i64 0,.slice none 0 0] 26] w W1):=by rw[hW1];exact Obs.two w _ _
 have HF:=Lib.hid hF
 have HR:=Lib.hid hR
 have HC:=Lib.hid hc
 clear hF hR hc
 go_enter Try.func33,Try.ntmps33
 go_upto_region 1 with fail
 rw[←hW1]
 clear hW1
 have HOW:=Lib.hid (rown_right N A c fs W1 (HF.out.below HOB.out.below) HC.out HR.out)
 have m00:W1.cell? ⟨w.heap.size,0,none⟩=some (.int .i64 N):=HOB.out.cell 0 0 rfl rfl
 have m01:W1.cell? ⟨w.heap.size,1,none⟩=some (.slice A fs.length c):=HOB.out.cell 0 1 rfl rfl
 go_upto_region 2 with((with_reducible refine(HOW.out).mono ?_);rintro e W4 ⟨⟨g,cV,vf,vl,rfl,hM,hMD⟩,hbl⟩)
 clear m00 m01 HOW
 have HMD:=Lib.hid hMD
 clear hMD
 have HRW:Hid (RW [.cells #[.int .i64 N,.slice A fs.length c] 26,.cells #[.int .i64 0,.slice none 0 0] 26] w W1.heap.size W4.heap.size g cV N fs vf vl (W4.alloc (.cells #[.int .i64 N,.slice (some ⟨g,0,none⟩) fs.length cV] 26))):=by
  have hg3:W4.grownBy (W4.alloc (.cells #[.int .i64 N,.slice (some ⟨g,0,none⟩) fs.length cV] 26)) none:=World.grownBy_alloc _ _ _
  exact⟨(HOB.out.call hbl).grown hg3,blk_new W4 _,hM.kept hg3 (fun r e=>by cases e),⟨HOB.out.size,hbl.size⟩,fun r hr=>(hM.lt hr).2⟩
 clear hM hbl HOB
 generalize W4.heap.size=O at HRW ⊢
 generalize W1.heap.size=B at HRW
 generalize W4.alloc (.cells #[.int .i64 N,.slice (some ⟨g,0,none⟩) fs.length cV] 26)=W5 at HRW ⊢
 have HAP:Hid (0<fs.length∧∀f,f<fs.length→(0<(fcA fs f).length∧(fcA fs f).length≤100000)∧∀l,l<(fcA fs f).length→0<(lpA fs f l).length∧(lpA fs f l).length≤100000):=by
  have hF:=HR.out.fine
  refine⟨by have:=HR.out.1.2.2.1;omega,fun f hf=>?_⟩
  obtain⟨a,b⟩:=HR.out.1.2.2.2.2.2.2 f hf
  exact⟨⟨a,by have:=(hF.face (f:=f)).1;omega⟩,fun l hl=>⟨b l hl,by have:=(hF.loop f l).1;omega⟩⟩
 obtain⟨ad0,A0',c0',rfl,-⟩:=HF.out.at HAP.out.1
 obtain⟨n,hn⟩:∃n,n=fs.length:=⟨_,rfl⟩
 have HN:=Lib.hid hn
 obtain⟨h,hh⟩:∃h:Nat→Nat→Nat→Int,h=fun f l i=>(lpA fs f l).getD ((lpA fs f l).length - 1 - i) 0:=⟨_,rfl⟩
 have HH:Hid (∀f l i,h f l i=(lpA fs f l).getD ((lpA fs f l).length - 1 - i) 0):=fun f l i=>by rw[hh]
 have hn1:n≤100000:=by have:=HR.out.fine.faces;omega
 have HLOW:Hid (w.heap.size+2≤B∧B≤O):=HRW.out.low
 have HTOP:Hid (∀f l b,f<n→l<(fcA fs f).length→(vl f l).ownBlock=some b→B≤b∧b<O):=fun f l b hf hl q=>⟨(HRW.out.mw.lt (b:=b) (.inr ⟨f,by omega,.inr ⟨l,hl,q⟩⟩)).1,HRW.out.top b (.inr ⟨f,by omega,.inr ⟨l,hl,q⟩⟩)⟩
 have HM:Hid (MJ B (.slice (some ⟨g,0,none⟩) n cV) n h fs (Pre3 0 0 0) vf vl W5):=by
  have h1:=HN.out
  subst h1
  exact MJ.start HRW.out.mw HMD.out pre_zero
 have HOB:=Lib.hid HRW.out.obs
 have HOUT:=Lib.hid HRW.out.out
 clear HRW HMD hh
 rw[←hn] at HOB HOUT ⊢
 clear hn
 go_wp2
 go_loopw [4] (fun s4 wr=>∃f:Nat,f≤n∧s4=.int .i64 f∧Hid (Obs [.cells #[.int .i64 N,.slice (some ad0) n c] 26,.cells #[.int .i64 0,.slice none 0 0] 26] w wr)∧Hid (Blk wr O (.cells #[.int .i64 N,.slice (some ⟨g,0,none⟩) n cV] 26))∧Hid (MJ B (.slice (some ⟨g,0,none⟩) n cV) n h fs (Pre3 f 0 0) vf vl wr)) (fun s _=>n - (intOf s).toNat)
 case atStart=>exact⟨0,by omega,rfl,HOB,HOUT,HM⟩
 case round=>
  clear HOB HOUT HM
  rename World=>wr
  obtain⟨f,hf,rfl,HOB,HOUT,HM⟩:=hrel
  by_cases hlt:f<n
  ·have hfz:(f:Int)<(n:Int):=by omega
   have hq:=HAP.out.2 f (by rw[←HN.out];exact hlt)
   obtain⟨g1,c1,hvf⟩:=HM.out.form hlt hq.1.1
   have HVF:=Lib.hid hvf
   obtain⟨ad1',A1,cA,e1,hc1,hl1,hr1⟩:=HF.out.at (show f<fs.length by rw[←HN.out];exact hlt)
   cases e1
   have HC1:=Lib.hid hc1
   have HR1:=Lib.hid hr1
   obtain⟨nF,hnF⟩:∃nF,nF=(fcA fs f).length:=⟨_,rfl⟩
   have HNF:Hid (nF=(fcA fs f).length):=hnF
   have hnF1:nF≤100000:=by omega
   have HLN:Hid (∀l,l<nF→0<(lpA fs f l).length∧(lpA fs f l).length≤100000):=fun l hl=>hq.2 l (by omega)
   rw[←hnF] at HVF HC1
   have HVF2:Hid (vf f=.slice (some ⟨g1,0,none⟩) (fcA fs f).length c1):=hvf
   clear hq hvf hnF hc1 hl1 hr1
   have n1:=(blk_cells HOUT.out).1 1 _ rfl
   go_wp2
   clear n1
   go_loopw [5] (fun s5 wi=>∃l:Nat,l≤nF∧s5=.int .i64 l∧Hid (Obs [.cells #[.int .i64 N,.slice (some ad0) n c] 26,.cells #[.int .i64 0,.slice none 0 0] 26] w wi)∧Hid (Blk wi O (.cells #[.int .i64 N,.slice (some ⟨g,0,none⟩) n cV] 26))∧Hid (MJ B (.slice (some ⟨g,0,none⟩) n cV) n h fs (Pre3 f l 0) vf vl wi)) (fun s _=>nF - (intOf s).toNat)
   case atStart=>exact⟨0,by omega,rfl,HOB,HOUT,HM⟩
   case round=>
    clear HOB HOUT HM
    rename World=>wi
    obtain⟨l,hl,rfl,HOB,HOUT,HM⟩:=hrel
    have n1:=(blk_cells HOUT.out).1 1 _ rfl
    have k0:wi.cell? ⟨g,f,none⟩=some (.slice (some ⟨g1,0,none⟩) nF c1):=by rw[HM.out.face hlt,HVF.out]
    by_cases hlt2:l<nF
    ·have hlz:(l:Int)<(nF:Int):=by omega
     have hll:l<(fcA fs f).length:=by rw[←HNF.out];exact hlt2
     obtain⟨b,c2,hvl,-⟩:=HM.out.rform hlt hll (HLN.out l hlt2).1
     have HVL:=Lib.hid hvl
     obtain⟨ad1,A2,cB,rfl,hc2,hl2,hr2⟩:=HR1.out.atP hll
     obtain⟨nl,hnl⟩:∃nl,nl=(lpA fs f l).length:=⟨_,rfl⟩
     have HNL:Hid (nl=(lpA fs f l).length):=hnl
     have hnl1:nl≤100000:=by rw[hnl];exact(HLN.out l hlt2).2
     have k1:wi.cell? ⟨g1,l,none⟩=some (.slice (some ⟨b,0,none⟩) nl c2):=by rw[HM.out.loop hlt hll HVF2.out,hvl,hnl]
     have k2:=pw_cell_below HOB.out.below HC1.out
     have k3:=pw_cell_below HOB.out.below hc2
     rw[←hnl] at k3
     have HR2:=Lib.hid hr2
     clear hvl hnl hc2 hl2 hr2
     have m00:wi.cell? ⟨w.heap.size,0,none⟩=some (.int .i64 N):=HOB.out.cell 0 0 rfl rfl
     have m01:wi.cell? ⟨w.heap.size,1,none⟩=some (.slice (some ad0) n c):=HOB.out.cell 0 1 rfl rfl
     go_wp2
     clear m00 m01 k0 k1 k2 k3 n1
     go_loopw [8] (fun s8 wj=>∃i:Nat,i≤nl∧s8=.int .i64 i∧Hid (Obs [.cells #[.int .i64 N,.slice (some ad0) n c] 26,.cells #[.int .i64 0,.slice none 0 0] 26] w wj)∧Hid (Blk wj O (.cells #[.int .i64 N,.slice (some ⟨g,0,none⟩) n cV] 26))∧Hid (MJ B (.slice (some ⟨g,0,none⟩) n cV) n h fs (Pre3 f l i) vf vl wj)) (fun s _=>nl - (intOf s).toNat)
     case atStart=>exact⟨0,by omega,rfl,HOB,HOUT,HM⟩
     case round=>
      clear HOB HOUT HM
      rename World=>wj
      obtain⟨i,hi,rfl,HOB,HOUT,HM⟩:=hrel
      by_cases hlt3:i<nl
      ·have hiz:(i:Int)<(nl:Int):=by omega
       have hil:i<(lpA fs f l).length:=by rw[←HNL.out];exact hlt3
       obtain⟨k2,k3⟩:=HM.out.num hlt hll hil HVL.out pre_no
       obtain⟨p,hp⟩:∃p,p=nl - 1 - i:=⟨_,rfl⟩
       obtain⟨q,hq⟩:∃q,q=nl - 1:=⟨_,rfl⟩
       obtain⟨ad2,rfl,hk⟩:=HR2.out.at (i:=p) (by have:=HNL.out;omega)
       have k4:=pw_cell_below HOB.out.below hk
       have hw1:IntKind.i64.wrap ((nl:Int) - 1)=(q:Int):=by rw[IntKind.wrap_i64];omega
       have hw2:IntKind.i64.wrap ((q:Int) - (i:Int))=(p:Int):=by rw[IntKind.wrap_i64];omega
       have hpz:(p:Int)<(nl:Int):=by omega
       have hX:h f l i=(lpA fs f l).getD p 0:=by rw[HH.out,hp,HNL.out]
       have hHB:=HTOP.out f l b hlt hll (by rw[HVL.out];rfl)
       have hP:=HM.out.put hlt hll hil HVL.out
       rw[hX] at hP
       have HP:=Lib.hid hP
       have HHB:Hid (B≤b∧b<O):=hHB
       clear HM hX hP hHB hp hq hk
       generalize (lpA fs f l).getD i 0=x at k2
       generalize (lpA fs f l).getD p 0=y at k4 HP
       go_wp2
       go_roundw
       case rel=>exact⟨i+1,by omega,by go_num,HOB.out.kept (grown_set _ _ _ _) (fun k e=>by cases e;have:=HHB.out;have:=HLOW.out;simp;omega),HOUT.out.kept (grown_set _ _ _ _) (fun e=>by injection e with e;have:=HHB.out;omega),HP.out.next⟩
       case measure=>simp[intOf];omega
      ·have HE:Hid (i=(lpA fs f l).length):=by have:=HNL.out;show i=_;omega
       have hM:=HM.out
       rw[HE.out] at hM
       have HM2:=Lib.hid hM.nextL
       clear hM HM HE
       go_wp2
       go_roundw
       case rel=>exact⟨l+1,by omega,by go_num,HOB,HOUT,HM2⟩
       case measure=>simp[intOf];omega
    ·have HE:Hid (l=(fcA fs f).length):=by have:=HNF.out;show l=_;omega
     have hM:=HM.out
     rw[HE.out] at hM
     have HM2:=Lib.hid hM.nextF
     clear hM HM HE
     go_wp2
     go_roundw
     case rel=>exact⟨f+1,by omega,by go_num,HOB,HOUT,HM2⟩
     case measure=>simp[intOf];omega
  ·have HE:Hid (f=fs.length):=by have:=HN.out;show f=_;omega
   have hM:=HM.out
   rw[HE.out] at hM
   obtain⟨q1,q2,q3,q4⟩:=turL_lens fs
   obtain⟨a,b,-⟩:=hM.fin q1 q2 q3 (fun f l i hf hl hi=>by rw[q4 f l i hf hl hi,HH.out])
   have HM2:=Lib.hid b
   have n0:=(blk_cells HOUT.out).1 0 _ rfl
   have n1:=(blk_cells HOUT.out).1 1 _ rfl
   clear hM HM HE a b q1 q2 q3 q4
   have m10:wr.cell? ⟨w.heap.size+1,0,none⟩=some (.int .i64 0):=HOB.out.cell 1 0 rfl rfl
   have z10:wr.frozen? ⟨w.heap.size+1,0,none⟩=false:=HOB.out.frz 1 0 rfl
   have m11:wr.cell? ⟨w.heap.size+1,1,none⟩=some (.slice none 0 0):=HOB.out.cell 1 1 rfl rfl
   have z11:wr.frozen? ⟨w.heap.size+1,1,none⟩=false:=HOB.out.frz 1 1 rfl
   go_wp2
   obtain⟨hx,hxB⟩:=HOB.out.ret 1 (.int .i64 N) (.slice (some ⟨g,0,none⟩) n cV) rfl
   have e00:=(blk_cells hx).1 0 _ rfl
   have e01:=(blk_cells hx).1 1 _ rfl
   refine bodyPost_ret (v:=.agg #[.int .i64 N,.slice (some ⟨g,0,none⟩) n cV]) (by simp[results,Try.f33,go_sem,e00,e01]) rfl ?_
   have hm:=HM2.out.back (r:=w.heap.size+1) (by have:=HLOW.out;omega) (.int .i64 N) (.slice (some ⟨g,0,none⟩) n cV)
   obtain⟨A9,c9,e9,h9,hr9⟩:=(MR.of hm).readsT
   injection e9 with ea eb ec
   subst ea ec
   exact⟨⟨_,_,by rw[eb],h9,hr9⟩,hxB⟩
end Go.Proofs.Ytealnhaffphamaa

namespace Go.Proofs.Ytealnhaffphamaa
open Go.RowKit Go.Shelf Go.Proofs.YtealnhaffphamaaW.PrintWords
open Classical
noncomputable def rboE (N:Int) (fs:Fs) (M:Int) (gs:Fs):Except Int (Int × Fs):=doneE (N+M) (fs ++ shAll N gs)
theorem shAll_lens (N:Int) (fs:Fs):(shAll N fs).length=fs.length∧(∀f,(fcA (shAll N fs) f).length=(fcA fs f).length)∧(∀f l,(lpA (shAll N fs) f l).length=(lpA fs f l).length)∧∀f l i,f<fs.length→l<(fcA fs f).length→i<(lpA fs f l).length→(lpA (shAll N fs) f l).getD i 0=(lpA fs f l).getD i 0+N:=by
 obtain⟨h1,h2,h3⟩:=map_lens (List.map (fun x=>x+N)) (fun l=>List.length_map _) fs
 refine⟨h1,h2,fun f l=>by unfold shAll;rw[h3];simp,fun f l i _ _ hi=>?_⟩
 unfold shAll
 rw[h3,List.getD_eq_getElem?_getD,List.getElem?_map,List.getElem?_eq_getElem hi,List.getD_eq_getElem?_getD,List.getElem?_eq_getElem hi];rfl
theorem bo_fine {N M:Int} {fs gs:Fs} (h:RightP N fs) (h2:RightP M gs):Sm (fs ++ shAll N gs):=by
 obtain⟨q1,q2,q3,_⟩:=shAll_lens N gs
 have hF:=h.fine.sm (by omega)
 have hG:=h2.fine.sm (by omega)
 have hf:=h.fine.faces
 have hg:=h2.fine.faces
 have hfc:∀f,fcA (fs ++ shAll N gs) f=fcA fs f∨∃f',fcA (fs ++ shAll N gs) f=fcA (shAll N gs) f':=fun f=>by
  by_cases e:f<fs.length
  ·exact .inl (by simp[fcA,List.getD_eq_getElem?_getD,List.getElem?_append_left e])
  ·exact .inr ⟨f - fs.length,by simp[fcA,List.getD_eq_getElem?_getD,List.getElem?_append_right (Nat.le_of_not_lt e)]⟩
 refine⟨by rw[List.length_append,q1];omega,fun f=>?_,fun f l=>?_⟩
 ·rcases hfc f with e | ⟨f',e⟩
  ·rw[e];exact hF.2.1 f
  ·rw[e,q2];exact hG.2.1 f'
 ·unfold lpA
  rcases hfc f with e | ⟨f',e⟩
  ·rw[e];exact hF.2.2 f l
  ·rw[e]
   have:=hG.2.2 f' l
   rw[←q3] at this
   exact this
theorem MW.not_rmodel {base:Nat} {v:Value} {fs:Fs} {vf:Nat→Value} {vl:Nat→Nat→Value} {W:World} {k:Nat} (h:MW base v fs k vf vl W) {O:Nat} {cs:Array Value} (hO:Blk W O (.cells cs 26)):¬ MB v fs k vf vl O:=by
 intro hb
 obtain⟨cells,t,hc,ht⟩:=h.typed hb
 unfold Blk at hO
 rw[hO] at hc
 injection hc with hc
 injection hc with _ hc
 subst hc
 revert ht;decide
def Rp2 (B:Nat) (N:Int) (fs:Fs) (s:Nat) (W:World) (t:Nat→Value):Prop:=∃A c vf vl,t s=.agg #[.int .i64 N,.slice A fs.length c]∧MW B (.slice A fs.length c) fs fs.length vf vl W∧MD fs fs.length vl
def RpB (B:Nat) (N M:Int) (fs gs:Fs) (W:World) (t:Nat→Value):Prop:=∃A c vf vl A2 c2 wf wl,t 14=.agg #[.int .i64 N,.slice A fs.length c]∧MW B (.slice A fs.length c) fs fs.length vf vl W∧t 16=.agg #[.int .i64 M,.slice A2 gs.length c2]∧MW B (.slice A2 gs.length c2) gs gs.length wf wl W∧MD gs gs.length wl∧∀b,MB (.slice A fs.length c) fs fs.length vf vl b→¬ MB (.slice A2 gs.length c2) gs gs.length wf wl b
def RxA (B s:Nat) (W:World) (t:Nat→Value):Prop:=∃O,t s=.pointer (some ⟨O,0,none⟩)∧B≤O∧∃x y,Blk W O (.cells #[x,y] 26)
def RxN (_:World) (t:Nat→Value):Prop:=∃O O',t 6=.pointer (some ⟨O,0,none⟩)∧t 7=.pointer (some ⟨O',0,none⟩)∧O≠O'
def RxS (N:Int) (n s r:Nat) (W:World) (t:Nat→Value):Prop:=∃O A c,t s=.pointer (some ⟨O,0,none⟩)∧t r=.agg #[.int .i64 N,.slice A n c]∧Blk W O (.cells #[.int .i64 N,.slice A n c] 26)
section
variable {B n s r:Nat} {N M:Int} {fs gs:Fs} {W W1:World} {t t':Nat→Value}
theorem Rp2.mono (h:Rp2 B N fs s W t) (e:t' s=t s) (hg:W.grownBy W1 none):Rp2 B N fs s W1 t':=by
 obtain⟨A,c,vf,vl,h1,h2,h3⟩:=h
 exact⟨A,c,vf,vl,e.trans h1,h2.kept hg (fun r e=>by cases e),h3⟩
theorem RpB.mono (h:RpB B N M fs gs W t) (e:t' 14=t 14) (e2:t' 16=t 16) (hg:W.grownBy W1 none):RpB B N M fs gs W1 t':=by
 obtain⟨A,c,vf,vl,A2,c2,wf,wl,h1,h2,h3,h4,h5⟩:=h
 exact⟨A,c,vf,vl,A2,c2,wf,wl,e.trans h1,h2.kept hg (fun r e=>by cases e),e2.trans h3,h4.kept hg (fun r e=>by cases e),h5⟩
theorem RxA.mono (h:RxA B s W t) (e:t' s=t s) (hg:W.grownBy W1 none):RxA B s W1 t':=by
 obtain⟨O,h1,h2,x,y,h3⟩:=h
 exact⟨O,e.trans h1,h2,x,y,h3.kept hg (by simp)⟩
theorem RxS.mono (h:RxS N n s r W t) (e:t' s=t s) (e2:t' r=t r) (hg:W.grownBy W1 none):RxS N n s r W1 t':=by
 obtain⟨O,A,c,h1,h2,h3⟩:=h
 exact⟨O,A,c,e.trans h1,e2.trans h2,h3.kept hg (by simp)⟩
theorem rset2_grown (W:World) (O:Nat) (x y:Value):W.grownBy ((W.setCell ⟨O,0,none⟩ x).setCell ⟨O,1,none⟩ y) (some O):=(grown_set _ _ _ _).trans (grown_set _ _ _ _)
theorem MW.rset2 {base k:Nat} {v:Value} {vf:Nat→Value} {vl:Nat→Nat→Value} {O:Nat} {cs:Array Value} (h:MW base v fs k vf vl W) (hO:Blk W O (.cells cs 26)) (x y:Value):MW base v fs k vf vl ((W.setCell ⟨O,0,none⟩ x).setCell ⟨O,1,none⟩ y):=
 h.kept (rset2_grown _ _ _ _) (fun r e q=>by cases e;exact h.not_rmodel hO q)
theorem Rp2.set (h:Rp2 B N fs s W t) {O:Nat} {cs:Array Value} (hO:Blk W O (.cells cs 26)) (x y:Value):Rp2 B N fs s ((W.setCell ⟨O,0,none⟩ x).setCell ⟨O,1,none⟩ y) t:=by
 obtain⟨A,c,vf,vl,h1,h2,h3⟩:=h
 exact⟨A,c,vf,vl,h1,h2.rset2 hO x y,h3⟩
theorem RpB.set (h:RpB B N M fs gs W t) {O:Nat} {cs:Array Value} (hO:Blk W O (.cells cs 26)) (x y:Value):RpB B N M fs gs ((W.setCell ⟨O,0,none⟩ x).setCell ⟨O,1,none⟩ y) t:=by
 obtain⟨A,c,vf,vl,A2,c2,wf,wl,h1,h2,h3,h4,h5⟩:=h
 exact⟨A,c,vf,vl,A2,c2,wf,wl,h1,h2.rset2 hO x y,h3,h4.rset2 hO x y,h5⟩
theorem RxA.set (h:RxA B s W t) {O:Nat} {u v:Value} (hO:Blk W O (.cells #[u,v] 26)) (x y:Value):RxA B s ((W.setCell ⟨O,0,none⟩ x).setCell ⟨O,1,none⟩ y) t:=by
 obtain⟨O',h1,h2,x',y',h3⟩:=h
 by_cases e:O'=O
 ·subst e;exact⟨O',h1,h2,x,y,blk_set2 hO⟩
 ·exact⟨O',h1,h2,x',y',h3.kept (rset2_grown _ _ _ _) (fun q=>e (by injection q))⟩
theorem RxS.set (h:RxS N n s r W t) {O:Nat} (hO:∀O',t s=.pointer (some ⟨O',0,none⟩)→O'≠O) (x y:Value):RxS N n s r ((W.setCell ⟨O,0,none⟩ x).setCell ⟨O,1,none⟩ y) t:=by
 obtain⟨O',A,c,h1,h2,h3⟩:=h
 exact⟨O',A,c,h1,h2,h3.kept (rset2_grown _ _ _ _) (fun q=>hO O' h1 (by injection q))⟩
def LRo (B:Nat) (N M:Int) (fs gs:Fs) (X Y:Value):List (List Nat × (World→(Nat→Value)→Prop)):=
 [([0],fun _ t=>t 13=X),([2],fun _ t=>t 15=Y),([1],Rp2 B N fs 14),([3],Rp2 B M gs 16),([1,3],RpB B N M fs gs),([4],RxA B 6),([5],RxA B 7),([4,5],RxN),([1,4,6],RxS N fs.length 6 14),([3,5,7],RxS M gs.length 7 16)]
theorem LRo.grows {B:Nat} {N M:Int} {fs gs:Fs} {X Y:Value} {I:World→Prop} {listed:Array Bool} {t:Nat→Value} {i d:Nat} {v:Value} (h:IRT I (LRo B N M fs gs X Y) listed t W) (hI:I W1) (hg:W.grownBy W1 none)
  (hid:(i=0∧d=13)∨(i=2∧d=15)∨(i=1∧d=14)∨(i=3∧d=16)∨(i=4∧d=6)∨(i=5∧d=7)) (hn:∀x∈LRo B N M fs gs X Y,i∈x.1→(∀j∈x.1,j≠i→listed.getD j false=true)→x.2 W1 (upd t d v)):IRT I (LRo B N M fs gs X Y) (listed.setIfInBounds i true) (upd t d v) W1:=by
 refine h.step hI (fun x hx hni hl hf=>?_) hn
 simp only[LRo,List.mem_cons,List.not_mem_nil,or_false] at hx
 rcases hx with rfl | rfl | rfl | rfl | rfl | rfl | rfl | rfl | rfl | rfl <;> simp only[List.mem_cons,List.not_mem_nil,or_false,not_or] at hni
 ·show upd t d v 13=X
  rw[upd_other _ _ (by omega)];exact hf
 ·show upd t d v 15=Y
  rw[upd_other _ _ (by omega)];exact hf
 ·exact Rp2.mono hf (upd_other _ _ (by omega)) hg
 ·exact Rp2.mono hf (upd_other _ _ (by omega)) hg
 ·exact RpB.mono hf (upd_other _ _ (by omega)) (upd_other _ _ (by omega)) hg
 ·exact RxA.mono hf (upd_other _ _ (by omega)) hg
 ·exact RxA.mono hf (upd_other _ _ (by omega)) hg
 ·obtain⟨O,O',h1,h2,h3⟩:=hf
  exact⟨O,O',(upd_other _ _ (by omega)).trans h1,(upd_other _ _ (by omega)).trans h2,h3⟩
 ·exact RxS.mono hf (upd_other _ _ (by omega)) (upd_other _ _ (by omega)) hg
 ·exact RxS.mono hf (upd_other _ _ (by omega)) (upd_other _ _ (by omega)) hg
end
set_option maxRecDepth 100000 in
set_option maxHeartbeats 8000000 in
theorem rboth_any (N M:Int) (A A2:Option Addr) (c c2:Nat) (fs gs:Fs) (w:World) (hF:RF w A fs) (hc:fs.length≤c) (hR:RightP N fs) (hG:RF w A2 gs) (hc2:gs.length≤c2) (hR2:RightP M gs) :
  Calls Try.prog 30 #[.agg #[.int .i64 N,.slice A fs.length c],.agg #[.int .i64 M,.slice A2 gs.length c2]] w fun e w'=>OpT (rboE N fs M gs) e w'∧Below w.heap.size w w':=by
 obtain⟨W1,hW1⟩:∃W1,W1=((w.alloc (.cells #[.int .i64 N,.slice A fs.length c] 26)).alloc (.cells #[.int .i64 M,.slice A2 gs.length c2] 26)).alloc (.cells #[.int .i64 0,.slice none 0 0] 26):=⟨_,rfl⟩
 have HOB:Hid (Obs [.cells #[.int .i64 N,.slice A fs.length c] 26,.cells #[.int .i64 M,.slice A2 gs.length c2] 26,.cells #[.int .i64 0,.slice none 0 0] 26] w W1):=by rw[hW1];exact Obs.three w _ _ _
 have HF:=Lib.hid hF
 have HG:=Lib.hid hG
 have HRC:Hid (fs.length≤c∧RightP N fs):=⟨hc,hR⟩
 have HRC2:Hid (gs.length≤c2∧RightP M gs):=⟨hc2,hR2⟩
 clear hF hc hR hG hc2 hR2
 go_enter Try.func30,Try.ntmps30
 go_upto_region 1 with fail
 rw[←hW1]
 clear hW1
 refine wp_region_inv' (by kernel_rfl) (by kernel_rfl) (fun listed aa wy=>∃t:Nat→Value,aa={ tmps:=#[.agg #[.int .i64 N,.slice A fs.length c],.agg #[.int .i64 M,.slice A2 gs.length c2],.pointer (some ⟨w.heap.size,0,none⟩),.pointer (some ⟨w.heap.size+1,0,none⟩),.pointer (some ⟨w.heap.size+1+1,0,none⟩),.int .i64 0,t 6,t 7,undef,undef,undef,undef,undef,t 13,t 14,t 15,t 16,undef,undef,undef,undef,undef,undef,undef,undef,undef,undef,undef,undef,undef,undef,undef,undef,undef,undef,undef,undef,undef,undef,undef,undef,undef,undef,undef,undef,undef,undef,undef,undef,undef,undef,undef,undef,undef,undef,undef,undef,undef,undef,undef,undef,undef,undef,undef,undef,undef,undef,undef,undef,undef,undef,undef,undef,undef,undef],defers:=[] }∧IRT (fun wz=>Obs [.cells #[.int .i64 N,.slice A fs.length c] 26,.cells #[.int .i64 M,.slice A2 gs.length c2] 26,.cells #[.int .i64 0,.slice none 0 0] 26] w wz) (LRo (w.heap.size+3) N M fs gs (.agg #[.int .i64 N,.slice A fs.length c]) (.agg #[.int .i64 M,.slice A2 gs.length c2])) listed t wy) ⟨(fun d=>match d with | 6=>undef | 7=>undef | 13=>undef | 14=>undef | 15=>undef | 16=>undef | _=>undef),rfl,IRT.start _ (HOB.out.grown (grown_drew _)) (by rfl) _⟩ ?_ ?_
 rotate_left
 ·rintro listed hCl ix hix aa wy ⟨t,rfl,hR⟩ hr
  match ix,hix,hr with
  | 0,_,hr=>
   as_aux_lemma=>
   refine wpOp_step rfl (fun K' hK=>?_)
   have hI2:=hR.fin
   have f0:wy.cell? ⟨w.heap.size,0,none⟩=some (.int .i64 N):=hI2.cell 0 0 rfl rfl
   have f1:wy.cell? ⟨w.heap.size,1,none⟩=some (.slice A fs.length c):=hI2.cell 0 1 rfl rfl
   go_simp
   exact hK _ _ ⟨upd t 13 (.agg #[.int .i64 N,.slice A fs.length c]),rfl,LRo.grows hR hI2 (World.grownBy.refl _ _) (by omega) (fun x hx hi hl=>by
    simp only[LRo,List.mem_cons,List.not_mem_nil,or_false] at hx
    rcases hx with rfl | rfl | rfl | rfl | rfl | rfl | rfl | rfl | rfl | rfl <;> simp at hi
    exact upd_same _ _ _)⟩
  | 1,_,hr=>
   as_aux_lemma=>
   refine wpOp_step rfl (fun K' hK=>?_)
   have hI2:=hR.fin
   have e1:t 13=.agg #[.int .i64 N,.slice A fs.length c]:=hR.fact ([0],fun _ t=>t 13=.agg #[.int .i64 N,.slice A fs.length c]) (by simp[LRo]) (fun j hj=>by rw[List.mem_singleton.1 hj];exact dep_of hr 0 (by kernel_rfl))
   go_simp
   refine(rown_right N A c fs wy (HF.out.below hI2.below) HRC.out.1 HRC.out.2).mono ?_
   rintro e W' ⟨⟨g,c',vf,vl,rfl,hM,hMD⟩,hbl⟩
   obtain⟨A',hA'⟩:∃A':Option Addr,A'=some ⟨g,0,none⟩:=⟨_,rfl⟩
   rw[←hA'] at hM ⊢
   clear hA'
   have hlo:w.heap.size+3≤wy.heap.size:=hI2.size
   have hcp:Rp2 (w.heap.size+3) N fs 14 W' (upd t 14 (.agg #[.int .i64 N,.slice A' fs.length c'])):=⟨A',c',vf,vl,upd_same _ _ _,hM.lower hlo,hMD⟩
   refine hK _ _ ⟨upd t 14 (.agg #[.int .i64 N,.slice A' fs.length c']),by simp[upd,e1],LRo.grows hR (hI2.call hbl) (grown_of_below hbl none) (by omega) (fun x hx hi hl=>?_)⟩
   simp only[LRo,List.mem_cons,List.not_mem_nil,or_false] at hx
   rcases hx with rfl | rfl | rfl | rfl | rfl | rfl | rfl | rfl | rfl | rfl <;> simp at hi
   ·exact hcp
   ·obtain⟨A3,c3,xf,xl,k1,k2,k3⟩:Rp2 (w.heap.size+3) M gs 16 wy t:=hR.fact ([3],Rp2 (w.heap.size+3) M gs 16) (by simp[LRo]) (fun j hj=>by rw[List.mem_singleton.1 hj];exact hl 3 (by simp) (by decide))
    exact⟨A',c',vf,vl,A3,c3,xf,xl,upd_same _ _ _,hM.lower hlo,(upd_other _ _ (by decide)).trans k1,k2.belowW hbl,k3,fun b q q2=>by have:=(k2.lt q2).2;have:=(hM.lt q).1;omega⟩
   ·exact absurd (hl 6 (by simp) (by decide)) (by rw[hCl.not hr 9 (by kernel_rfl)];decide)
  | 2,_,hr=>
   as_aux_lemma=>
   refine wpOp_step rfl (fun K' hK=>?_)
   have hI2:=hR.fin
   have f0:wy.cell? ⟨w.heap.size+1,0,none⟩=some (.int .i64 M):=hI2.cell 1 0 rfl rfl
   have f1:wy.cell? ⟨w.heap.size+1,1,none⟩=some (.slice A2 gs.length c2):=hI2.cell 1 1 rfl rfl
   go_simp
   exact hK _ _ ⟨upd t 15 (.agg #[.int .i64 M,.slice A2 gs.length c2]),rfl,LRo.grows hR hI2 (World.grownBy.refl _ _) (by omega) (fun x hx hi hl=>by
    simp only[LRo,List.mem_cons,List.not_mem_nil,or_false] at hx
    rcases hx with rfl | rfl | rfl | rfl | rfl | rfl | rfl | rfl | rfl | rfl <;> simp at hi
    exact upd_same _ _ _)⟩
  | 3,_,hr=>
   as_aux_lemma=>
   refine wpOp_step rfl (fun K' hK=>?_)
   have hI2:=hR.fin
   have e1:t 15=.agg #[.int .i64 M,.slice A2 gs.length c2]:=hR.fact ([2],fun _ t=>t 15=.agg #[.int .i64 M,.slice A2 gs.length c2]) (by simp[LRo]) (fun j hj=>by rw[List.mem_singleton.1 hj];exact dep_of hr 2 (by kernel_rfl))
   go_simp
   refine(rown_right M A2 c2 gs wy (HG.out.below hI2.below) HRC2.out.1 HRC2.out.2).mono ?_
   rintro e W' ⟨⟨g,c',vf,vl,rfl,hM,hMD⟩,hbl⟩
   obtain⟨A',hA'⟩:∃A':Option Addr,A'=some ⟨g,0,none⟩:=⟨_,rfl⟩
   rw[←hA'] at hM ⊢
   clear hA'
   have hlo:w.heap.size+3≤wy.heap.size:=hI2.size
   have hcp:Rp2 (w.heap.size+3) M gs 16 W' (upd t 16 (.agg #[.int .i64 M,.slice A' gs.length c'])):=⟨A',c',vf,vl,upd_same _ _ _,hM.lower hlo,hMD⟩
   refine hK _ _ ⟨upd t 16 (.agg #[.int .i64 M,.slice A' gs.length c']),by simp[upd,e1],LRo.grows hR (hI2.call hbl) (grown_of_below hbl none) (by omega) (fun x hx hi hl=>?_)⟩
   simp only[LRo,List.mem_cons,List.not_mem_nil,or_false] at hx
   rcases hx with rfl | rfl | rfl | rfl | rfl | rfl | rfl | rfl | rfl | rfl <;> simp at hi
   ·exact hcp
   ·obtain⟨A3,c3,xf,xl,k1,k2,k3⟩:Rp2 (w.heap.size+3) N fs 14 wy t:=hR.fact ([1],Rp2 (w.heap.size+3) N fs 14) (by simp[LRo]) (fun j hj=>by rw[List.mem_singleton.1 hj];exact hl 1 (by simp) (by decide))
    exact⟨A3,c3,xf,xl,A',c',vf,vl,(upd_other _ _ (by decide)).trans k1,k2.belowW hbl,upd_same _ _ _,hM.lower hlo,hMD,fun b q q2=>by have:=(k2.lt q).2;have:=(hM.lt q2).1;omega⟩
   ·exact absurd (hl 7 (by simp) (by decide)) (by rw[hCl.not hr 9 (by kernel_rfl)];decide)
  | 4,_,hr=>
   as_aux_lemma=>
   refine wpOp_step rfl (fun K' hK=>?_)
   have hI2:=hR.fin
   go_simp
   have hg:=World.grownBy_alloc wy (.cells #[.int .i64 0,.slice none 0 0] 26) none
   refine hK _ _ ⟨upd t 6 (.pointer (some ⟨wy.heap.size,0,none⟩)),rfl,LRo.grows hR (hI2.grown hg) hg (by omega) (fun x hx hi hl=>?_)⟩
   simp only[LRo,List.mem_cons,List.not_mem_nil,or_false] at hx
   rcases hx with rfl | rfl | rfl | rfl | rfl | rfl | rfl | rfl | rfl | rfl <;> simp at hi
   ·exact⟨wy.heap.size,upd_same _ _ _,hI2.size,_,_,blk_new wy _⟩
   ·obtain⟨O,k1,k2,x',y',k3⟩:RxA (w.heap.size+3) 7 wy t:=hR.fact ([5],RxA (w.heap.size+3) 7) (by simp[LRo]) (fun j hj=>by rw[List.mem_singleton.1 hj];exact hl 5 (by simp) (by decide))
    exact⟨wy.heap.size,O,upd_same _ _ _,(upd_other _ _ (by decide)).trans k1,by have:=k3.lt;omega⟩
   ·exact absurd (hl 6 (by simp) (by decide)) (by rw[hCl.not hr 9 (by kernel_rfl)];decide)
  | 5,_,hr=>
   as_aux_lemma=>
   refine wpOp_step rfl (fun K' hK=>?_)
   have hI2:=hR.fin
   go_simp
   have hg:=World.grownBy_alloc wy (.cells #[.int .i64 0,.slice none 0 0] 26) none
   refine hK _ _ ⟨upd t 7 (.pointer (some ⟨wy.heap.size,0,none⟩)),rfl,LRo.grows hR (hI2.grown hg) hg (by omega) (fun x hx hi hl=>?_)⟩
   simp only[LRo,List.mem_cons,List.not_mem_nil,or_false] at hx
   rcases hx with rfl | rfl | rfl | rfl | rfl | rfl | rfl | rfl | rfl | rfl <;> simp at hi
   ·exact⟨wy.heap.size,upd_same _ _ _,hI2.size,_,_,blk_new wy _⟩
   ·obtain⟨O,k1,k2,x',y',k3⟩:RxA (w.heap.size+3) 6 wy t:=hR.fact ([4],RxA (w.heap.size+3) 6) (by simp[LRo]) (fun j hj=>by rw[List.mem_singleton.1 hj];exact hl 4 (by simp) (by decide))
    exact⟨O,wy.heap.size,(upd_other _ _ (by decide)).trans k1,upd_same _ _ _,by have:=k3.lt;omega⟩
   ·exact absurd (hl 7 (by simp) (by decide)) (by rw[hCl.not hr 9 (by kernel_rfl)];decide)
  | 6,_,hr=>
   as_aux_lemma=>
   refine wpOp_step rfl (fun K' hK=>?_)
   have hI2:=hR.fin
   obtain⟨O,k1,k2,x',y',k3⟩:RxA (w.heap.size+3) 6 wy t:=hR.fact ([4],RxA (w.heap.size+3) 6) (by simp[LRo]) (fun j hj=>by rw[List.mem_singleton.1 hj];exact dep_of hr 4 (by kernel_rfl))
   obtain⟨A',c',vf,vl,m1,m2,m3⟩:Rp2 (w.heap.size+3) N fs 14 wy t:=hR.fact ([1],Rp2 (w.heap.size+3) N fs 14) (by simp[LRo]) (fun j hj=>by rw[List.mem_singleton.1 hj];exact dep_of hr 1 (by kernel_rfl))
   have z0:=(blk_cells k3).1 0 _ rfl
   have z1:=(blk_cells k3).1 1 _ rfl
   have z2:=(blk_cells k3).2 0
   have z3:=(blk_cells k3).2 1
   have z4:=k3.lt
   go_simp
   refine hK _ _ ⟨t,by simp[k1,m1],hR.step (hI2.kept (rset2_grown _ _ _ _) (fun q e=>by cases e;exact k2)) (fun x hx hni hl hf=>?_) (fun x hx hi hl=>?_)⟩
   ·simp only[LRo,List.mem_cons,List.not_mem_nil,or_false] at hx
    rcases hx with rfl | rfl | rfl | rfl | rfl | rfl | rfl | rfl | rfl | rfl <;> simp only[List.mem_cons,List.not_mem_nil,or_false,not_or] at hni
    ·exact hf
    ·exact hf
    ·exact Rp2.set hf k3 _ _
    ·exact Rp2.set hf k3 _ _
    ·exact RpB.set hf k3 _ _
    ·exact RxA.set hf k3 _ _
    ·exact RxA.set hf k3 _ _
    ·exact hf
    ·exact(hni.2.2 trivial).elim
    ·exact RxS.set hf (fun O' q e=>by
      obtain⟨P,P',p1,p2,p3⟩:RxN wy t:=hR.fact ([4,5],RxN) (by simp[LRo]) (fun j hj=>by rcases List.mem_cons.1 hj with rfl | hj;exact dep_of hr 4 (by kernel_rfl);rw[List.mem_singleton.1 hj];exact hl 5 (by simp))
      rw[p1] at k1;rw[p2] at q;cases q;cases k1;exact p3 e.symm) _ _
   ·simp only[LRo,List.mem_cons,List.not_mem_nil,or_false] at hx
    rcases hx with rfl | rfl | rfl | rfl | rfl | rfl | rfl | rfl | rfl | rfl <;> simp at hi
    exact⟨O,A',c',k1,m1,blk_set2 k3⟩
  | 7,_,hr=>
   as_aux_lemma=>
   refine wpOp_step rfl (fun K' hK=>?_)
   have hI2:=hR.fin
   obtain⟨O,k1,k2,x',y',k3⟩:RxA (w.heap.size+3) 7 wy t:=hR.fact ([5],RxA (w.heap.size+3) 7) (by simp[LRo]) (fun j hj=>by rw[List.mem_singleton.1 hj];exact dep_of hr 5 (by kernel_rfl))
   obtain⟨A',c',vf,vl,m1,m2,m3⟩:Rp2 (w.heap.size+3) M gs 16 wy t:=hR.fact ([3],Rp2 (w.heap.size+3) M gs 16) (by simp[LRo]) (fun j hj=>by rw[List.mem_singleton.1 hj];exact dep_of hr 3 (by kernel_rfl))
   have z0:=(blk_cells k3).1 0 _ rfl
   have z1:=(blk_cells k3).1 1 _ rfl
   have z2:=(blk_cells k3).2 0
   have z3:=(blk_cells k3).2 1
   have z4:=k3.lt
   go_simp
   refine hK _ _ ⟨t,by simp[k1,m1],hR.step (hI2.kept (rset2_grown _ _ _ _) (fun q e=>by cases e;exact k2)) (fun x hx hni hl hf=>?_) (fun x hx hi hl=>?_)⟩
   ·simp only[LRo,List.mem_cons,List.not_mem_nil,or_false] at hx
    rcases hx with rfl | rfl | rfl | rfl | rfl | rfl | rfl | rfl | rfl | rfl <;> simp only[List.mem_cons,List.not_mem_nil,or_false,not_or] at hni
    ·exact hf
    ·exact hf
    ·exact Rp2.set hf k3 _ _
    ·exact Rp2.set hf k3 _ _
    ·exact RpB.set hf k3 _ _
    ·exact RxA.set hf k3 _ _
    ·exact RxA.set hf k3 _ _
    ·exact hf
    ·exact RxS.set hf (fun O' q e=>by
      obtain⟨P,P',p1,p2,p3⟩:RxN wy t:=hR.fact ([4,5],RxN) (by simp[LRo]) (fun j hj=>by rcases List.mem_cons.1 hj with rfl | hj;exact hl 4 (by simp);rw[List.mem_singleton.1 hj];exact dep_of hr 5 (by kernel_rfl))
      rw[p1] at q;rw[p2] at k1;cases q;cases k1;exact p3 e) _ _
    ·exact(hni.2.2 trivial).elim
   ·simp only[LRo,List.mem_cons,List.not_mem_nil,or_false] at hx
    rcases hx with rfl | rfl | rfl | rfl | rfl | rfl | rfl | rfl | rfl | rfl <;> simp at hi
    exact⟨O,A',c',k1,m1,blk_set2 k3⟩
  | nx+8,hix,_=>exact absurd (show nx+8<8 from hix) (by omega)
 rintro listed a2 W3 ⟨t,rfl,hR⟩ hl
 have hall:∀j,j<8→listed.getD j false=true:=fun j hj=>hl j hj
 have hO3:=hR.fin
 obtain⟨A1,c1,vf,vl,A3,c3,wf,wl,m1,m2,m3,m4,m5,m7⟩:RpB (w.heap.size+3) N M fs gs W3 t:=hR.fact ([1,3],RpB (w.heap.size+3) N M fs gs) (by simp[LRo]) (fun j hj=>hall j (by simp at hj;omega))
 obtain⟨O,O',p1,p2,p3⟩:RxN W3 t:=hR.fact ([4,5],RxN) (by simp[LRo]) (fun j hj=>hall j (by simp at hj;omega))
 obtain⟨Oa,Aa,ca,q1,q2,q3⟩:RxS N fs.length 6 14 W3 t:=hR.fact ([1,4,6],RxS N fs.length 6 14) (by simp[LRo]) (fun j hj=>hall j (by simp at hj;omega))
 obtain⟨Ob',Ab,cb,r1,r2,r3⟩:RxS M gs.length 7 16 W3 t:=hR.fact ([3,5,7],RxS M gs.length 7 16) (by simp[LRo]) (fun j hj=>hall j (by simp at hj;omega))
 obtain⟨_,k1,k2,_,_,_⟩:RxA (w.heap.size+3) 6 W3 t:=hR.fact ([4],RxA (w.heap.size+3) 6) (by simp[LRo]) (fun j hj=>hall j (by simp at hj;omega))
 obtain⟨_,l1,l2,_,_,_⟩:RxA (w.heap.size+3) 7 W3 t:=hR.fact ([5],RxA (w.heap.size+3) 7) (by simp[LRo]) (fun j hj=>hall j (by simp at hj;omega))
 rw[p1] at q1 k1
 rw[p2] at r1 l1
 rw[m1] at q2
 rw[m3] at r2
 cases q1
 cases k1
 cases r1
 cases l1
 cases q2
 cases r2
 clear hR hl hall
 rw[p1,p2]
 clear p1 p2 m1 m3
 generalize t 13=u13
 generalize t 14=u14
 generalize t 15=u15
 generalize t 16=u16
 have hg0:=(HRC2.out.2.1).2.2.1
 obtain⟨g,cg,hsv,hgB,hgl0⟩:=m4.own.form (by omega)
 injection hsv with hsa _ hsc
 subst hsa hsc
 have HRP:=Lib.hid HRC.out.2
 have HRP2:=Lib.hid HRC2.out.2
 have HK2:Hid ((w.heap.size+3)≤O∧(w.heap.size+3)≤O'∧O≠O'):=⟨k2,l2,p3⟩
 obtain⟨n,hn⟩:∃n,n=gs.length:=⟨_,rfl⟩
 have HN:=Lib.hid hn
 obtain⟨h,hh⟩:∃h:Nat→Nat→Nat→Int,h=fun f l i=>(lpA gs f l).getD i 0+N:=⟨_,rfl⟩
 have HH:Hid (∀f l i,h f l i=(lpA gs f l).getD i 0+N):=fun f l i=>by rw[hh]
 have hn1:n≤100000:=by have:=HRP2.out.fine.faces;omega
 have HAP:Hid (∀f,f<gs.length→(0<(fcA gs f).length∧(fcA gs f).length≤100000)∧∀l,l<(fcA gs f).length→0<(lpA gs f l).length∧(lpA gs f l).length≤100000):=fun f hf=>by
  have hF:=HRP2.out.fine
  obtain⟨a,b⟩:=HRP2.out.1.2.2.2.2.2.2 f hf
  exact⟨⟨a,by have:=(hF.face (f:=f)).1;omega⟩,fun l hl=>⟨b l hl,by have:=(hF.loop f l).1;omega⟩⟩
 have HTOP:Hid (∀f l b,f<n→l<(fcA gs f).length→(wl f l).ownBlock=some b→(w.heap.size+3)≤b∧b≠O∧b≠O'∧¬ MB (.slice A1 fs.length c1) fs fs.length vf vl b):=fun f l b hf hl q=>by
  have hL:=(m4.face f (by omega)).ownL l hl
  exact⟨(m4.lt (b:=b) (.inr ⟨f,by omega,.inr ⟨l,hl,q⟩⟩)).1,fun e=>own_no_blk hL q3 (by decide) (e ▸ q),fun e=>own_no_blk hL r3 (by decide) (e ▸ q),fun z=>m7 b z (.inr ⟨f,by omega,.inr ⟨l,hl,q⟩⟩)⟩
 have HDJ:Hid ((∀i,i<fs.length→∀j,j<gs.length→Ap (vf i) (wf j))∧∀b,Value.ownBlock (.slice A1 fs.length c1)=some b→b≠g∧∀j,j<gs.length→(wf j).ownBlock≠some b):=by
  refine⟨fun i hi j hj=>?_,fun b hb=>⟨fun e=>m7 b (.inl hb) (.inl (by rw[e];rfl)),fun j hj e=>m7 b (.inl hb) (.inr ⟨j,hj,.inl e⟩)⟩⟩
  cases hq:(vf i).ownBlock with
  | none=>exact .inl hq
  | some b=>exact .inr (fun e=>m7 b (.inr ⟨i,hi,.inl hq⟩) (.inr ⟨j,hj,.inl (e.symm.trans hq)⟩))
 have HM:Hid (MJ (w.heap.size+3) (.slice (some ⟨g,0,none⟩) n c3) n h gs (Pre3 0 0 0) wf wl W3):=by
  have h1:=HN.out
  subst h1
  exact MJ.start m4 m5 pre_zero
 have HK:Hid (Obs [.cells #[.int .i64 N,.slice A fs.length c] 26,.cells #[.int .i64 M,.slice A2 gs.length c2] 26,.cells #[.int .i64 0,.slice none 0 0] 26] w W3∧MW (w.heap.size+3) (.slice A1 fs.length c1) fs fs.length vf vl W3∧Blk W3 O (.cells #[.int .i64 N,.slice A1 fs.length c1] 26)∧Blk W3 O' (.cells #[.int .i64 M,.slice (some ⟨g,0,none⟩) n c3] 26)):=⟨hO3,m2,q3,by rw[hn];exact r3⟩
 clear m2 m4 m5 m7 hO3 q3 r3 k2 l2 p3 hh
 rw[←hn]
 clear hn
 go_wp2
 go_loopw [8] (fun s8 wr=>∃f:Nat,f≤n∧s8=.int .i64 f∧Hid (Obs [.cells #[.int .i64 N,.slice A fs.length c] 26,.cells #[.int .i64 M,.slice A2 gs.length c2] 26,.cells #[.int .i64 0,.slice none 0 0] 26] w wr∧MW (w.heap.size+3) (.slice A1 fs.length c1) fs fs.length vf vl wr∧Blk wr O (.cells #[.int .i64 N,.slice A1 fs.length c1] 26)∧Blk wr O' (.cells #[.int .i64 M,.slice (some ⟨g,0,none⟩) n c3] 26))∧Hid (MJ (w.heap.size+3) (.slice (some ⟨g,0,none⟩) n c3) n h gs (Pre3 f 0 0) wf wl wr)) (fun s _=>n - (intOf s).toNat)
 case atStart=>exact⟨0,by omega,rfl,HK,HM⟩
 case round=>
  clear HK HM
  rename World=>wr
  obtain⟨f,hf,rfl,HK,HM⟩:=hrel
  have n1:=(blk_cells HK.out.2.2.2).1 1 _ rfl
  by_cases hlt:f<n
  ·have hfz:(f:Int)<(n:Int):=by omega
   have hq:=HAP.out f (by rw[←HN.out];exact hlt)
   obtain⟨g1,c1f,hvf⟩:=HM.out.form hlt hq.1.1
   have HVF:=Lib.hid hvf
   obtain⟨nF,hnF⟩:∃nF,nF=(fcA gs f).length:=⟨_,rfl⟩
   have HNF:Hid (nF=(fcA gs f).length):=hnF
   have hnF1:nF≤100000:=by omega
   have HLN:Hid (∀l,l<nF→0<(lpA gs f l).length∧(lpA gs f l).length≤100000):=fun l hl=>hq.2 l (by omega)
   rw[←hnF] at HVF
   have HVF2:Hid (wf f=.slice (some ⟨g1,0,none⟩) (fcA gs f).length c1f):=hvf
   clear hq hvf hnF
   go_wp2
   clear n1
   go_loopw [9] (fun s9 wi=>∃l:Nat,l≤nF∧s9=.int .i64 l∧Hid (Obs [.cells #[.int .i64 N,.slice A fs.length c] 26,.cells #[.int .i64 M,.slice A2 gs.length c2] 26,.cells #[.int .i64 0,.slice none 0 0] 26] w wi∧MW (w.heap.size+3) (.slice A1 fs.length c1) fs fs.length vf vl wi∧Blk wi O (.cells #[.int .i64 N,.slice A1 fs.length c1] 26)∧Blk wi O' (.cells #[.int .i64 M,.slice (some ⟨g,0,none⟩) n c3] 26))∧Hid (MJ (w.heap.size+3) (.slice (some ⟨g,0,none⟩) n c3) n h gs (Pre3 f l 0) wf wl wi)) (fun s _=>nF - (intOf s).toNat)
   case atStart=>exact⟨0,by omega,rfl,HK,HM⟩
   case round=>
    clear HK HM
    rename World=>wi
    obtain⟨l,hl,rfl,HK,HM⟩:=hrel
    have n1:=(blk_cells HK.out.2.2.2).1 1 _ rfl
    have k0:wi.cell? ⟨g,f,none⟩=some (.slice (some ⟨g1,0,none⟩) nF c1f):=by rw[HM.out.face hlt,HVF.out]
    by_cases hlt2:l<nF
    ·have hlz:(l:Int)<(nF:Int):=by omega
     have hll:l<(fcA gs f).length:=by rw[←HNF.out];exact hlt2
     obtain⟨b,cb,hvl,-⟩:=HM.out.rform hlt hll (HLN.out l hlt2).1
     have HVL:=Lib.hid hvl
     obtain⟨nl,hnl⟩:∃nl,nl=(lpA gs f l).length:=⟨_,rfl⟩
     have HNL:Hid (nl=(lpA gs f l).length):=hnl
     have hnl1:nl≤100000:=by rw[hnl];exact(HLN.out l hlt2).2
     have k1:wi.cell? ⟨g1,l,none⟩=some (.slice (some ⟨b,0,none⟩) nl cb):=by rw[HM.out.loop hlt hll HVF2.out,hvl,hnl]
     clear hvl hnl
     go_wp2
     clear k0 k1 n1
     go_loopw [11] (fun s11 wj=>∃i:Nat,i≤nl∧s11=.int .i64 i∧Hid (Obs [.cells #[.int .i64 N,.slice A fs.length c] 26,.cells #[.int .i64 M,.slice A2 gs.length c2] 26,.cells #[.int .i64 0,.slice none 0 0] 26] w wj∧MW (w.heap.size+3) (.slice A1 fs.length c1) fs fs.length vf vl wj∧Blk wj O (.cells #[.int .i64 N,.slice A1 fs.length c1] 26)∧Blk wj O' (.cells #[.int .i64 M,.slice (some ⟨g,0,none⟩) n c3] 26))∧Hid (MJ (w.heap.size+3) (.slice (some ⟨g,0,none⟩) n c3) n h gs (Pre3 f l i) wf wl wj)) (fun s _=>nl - (intOf s).toNat)
     case atStart=>exact⟨0,by omega,rfl,HK,HM⟩
     case round=>
      clear HK HM
      rename World=>wj
      obtain⟨i,hi,rfl,HK,HM⟩:=hrel
      by_cases hlt3:i<nl
      ·have hiz:(i:Int)<(nl:Int):=by omega
       have hil:i<(lpA gs f l).length:=by rw[←HNL.out];exact hlt3
       obtain⟨k2,k3⟩:=HM.out.num hlt hll hil HVL.out pre_no
       have m00:wj.cell? ⟨w.heap.size,0,none⟩=some (.int .i64 N):=HK.out.1.cell 0 0 rfl rfl
       have hxr:0≤(lpA gs f l).getD i 0∧(lpA gs f l).getD i 0<M:=HRP2.out.2.1 (pvA gs f l i) (mem_pls.2 ⟨f,l,i,by rw[←HN.out];exact hlt,hll,hil,rfl⟩)
       have hw:IntKind.i64.wrap ((lpA gs f l).getD i 0+N)=(lpA gs f l).getD i 0+N:=by rw[IntKind.wrap_i64];have:=HRP.out.1.1;have:=HRP.out.1.2.1;have:=HRP2.out.1.2.1;omega
       have HHB:=Lib.hid (HTOP.out f l b hlt hll (by rw[HVL.out];rfl))
       have hP:=(HM.out.grown (grown_drew _)).put hlt hll hil HVL.out
       rw[HH.out] at hP
       have HP:=Lib.hid hP
       have HK3:=Lib.hid (show(Obs [.cells #[.int .i64 N,.slice A fs.length c] 26,.cells #[.int .i64 M,.slice A2 gs.length c2] 26,.cells #[.int .i64 0,.slice none 0 0] 26] w wj.drew∧MW (w.heap.size+3) (.slice A1 fs.length c1) fs fs.length vf vl wj.drew∧Blk wj.drew O (.cells #[.int .i64 N,.slice A1 fs.length c1] 26)∧Blk wj.drew O' (.cells #[.int .i64 M,.slice (some ⟨g,0,none⟩) n c3] 26)) from⟨HK.out.1.grown (grown_drew _),HK.out.2.1.kept (grown_drew _) (fun r e=>by cases e),HK.out.2.2.1.kept (grown_drew _) (by simp),HK.out.2.2.2.kept (grown_drew _) (by simp)⟩)
       clear HM hP HK hxr
       generalize (lpA gs f l).getD i 0=x at k2 hw HP
       go_upto_region 12 with fail
       go_still_tail 10,(by kernel_rfl)
       have k4:wj.drew.cell? ⟨b,i,none⟩=some (.int .i64 x):=k2
       have k5:wj.drew.frozen? ⟨b,i,none⟩=false:=k3
       change wpList _ _ _ _ _ wj.drew
       clear k2 k3 m00
       generalize wj.drew=w2 at HP HK3 k4 k5 ⊢
       go_wp2
       go_roundw
       case rel=>exact⟨i+1,by omega,by go_num,⟨HK3.out.1.kept (grown_set _ _ _ _) (fun k e=>by cases e;have:=HHB.out.1;simp;omega),HK3.out.2.1.kept (grown_set _ _ _ _) (fun r e q=>by cases e;exact HHB.out.2.2.2 q),HK3.out.2.2.1.kept (grown_set _ _ _ _) (fun e=>by injection e with e;exact HHB.out.2.1 e.symm),HK3.out.2.2.2.kept (grown_set _ _ _ _) (fun e=>by injection e with e;exact HHB.out.2.2.1 e.symm)⟩,HP.out.next⟩
       case measure=>simp[intOf];omega
      ·have HE:Hid (i=(lpA gs f l).length):=by have:=HNL.out;show i=_;omega
       have hM:=HM.out
       rw[HE.out] at hM
       have HM2:=Lib.hid hM.nextL
       clear hM HM HE
       go_wp2
       go_roundw
       case rel=>exact⟨l+1,by omega,by go_num,HK,HM2⟩
       case measure=>simp[intOf];omega
    ·have HE:Hid (l=(fcA gs f).length):=by have:=HNF.out;show l=_;omega
     have hM:=HM.out
     rw[HE.out] at hM
     have HM2:=Lib.hid hM.nextF
     clear hM HM HE
     go_wp2
     go_roundw
     case rel=>exact⟨f+1,by omega,by go_num,HK,HM2⟩
     case measure=>simp[intOf];omega
  ·have HE:Hid (f=gs.length):=by have:=HN.out;show f=_;omega
   have hM:=HM.out
   rw[HE.out] at hM
   obtain⟨q1,q2,q3,q4⟩:=shAll_lens N gs
   obtain⟨a,b,-⟩:=hM.fin q1 q2 q3 (fun f l i hf hl hi=>by rw[q4 f l i hf hl hi,HH.out])
   have HG2:=Lib.hid (MR.of b)
   have HQ1:Hid (n=(shAll N gs).length∧n=gs.length):=⟨a,HN.out⟩
   clear hM HM HE a b q1 q2 q3 q4
   have HF2:=Lib.hid (MR.of HK.out.2.1)
   have HNW:Hid (∀(j:Nat) (u:Value),((List.range n).map wf)[j]?=some u→wr.cell? ((⟨g,0,none⟩:Addr).add j)=some u):=by
    have h:=HG2.out.own
    rw[←HQ1.out.1] at h
    exact World.ownsRow.cells h rfl
   have HON:Hid (∀u∈(List.range n).map wf,u.oneCell'=true):=fun u hu=>by
    obtain⟨j,hj,rfl⟩:=List.mem_map.1 hu
    obtain⟨x,hx⟩:=slice_of_own (HG2.out.face j (by rw[←HQ1.out.1];exact List.mem_range.1 hj)).own
    rw[hx];exact encS_one x
   have hfl:=HRP.out.fine.faces
   have HSZ:Hid ((w.heap.size+3)≤wr.heap.size):=HK.out.1.size
   have n2:=(blk_cells HK.out.2.2.1).1 1 _ rfl
   obtain⟨iF,hiF,hiF0,hiF1,hiF2⟩:=info_parts infoF
   go_upto_region 15 with(at_builtin;refine wpList_append_own_at _ rfl _ _ _ rfl (w.heap.size+3) 37 iF (.slice none 0 0) 1 24 Try.underlying24 hiF hiF0 hiF1 hiF2 rfl (by omega) (.slice A1 fs.length c1) fs.length _ rfl HF2.out.own ⟨g,0,none⟩ n c3 ((List.range n).map wf) rfl (by simp) HNW.out HON.out (by simp only[maxLen];omega) (by omega) HSZ.out ?_;intro v4 W4 hown4 hg4 _ _;obtain⟨A4,n4,c4,rfl⟩:=own_slice3 hown4;have hout4:=HK.out.2.2.1.kept hg4 (fun e=>own_no_blk HF2.out.own HK.out.2.2.1 (by decide) e.symm);have o1:=(blk_cells hout4).1 1 _ rfl;have o2:=(blk_cells hout4).2 1)
   have hob4:=HK.out.1.kept hg4 (fun k e=>by have:=own_base HF2.out.own k e;simpa using this)
   have hM4:=HF2.out.join HG2.out (fun i hi j hj=>HDJ.out.1 i hi j (by rw[←HQ1.out.1,HQ1.out.2] at hj;exact hj)) (fun b hb j hj=>(HDJ.out.2 b hb).2 j (by rw[←HQ1.out.1,HQ1.out.2] at hj;exact hj)) (by rw[←HQ1.out.1];exact hown4) hg4
   have HRO:=Lib.hid (ro_new (os:=[.cells #[.int .i64 N,.slice A fs.length c] 26,.cells #[.int .i64 M,.slice A2 gs.length c2] 26,.cells #[.int .i64 0,.slice none 0 0] 26]) hob4 hout4 hM4 ⟨by simp,HK2.out.1⟩)
   clear n1 n2 o1 o2 hout4 hob4 hM4 hown4 hg4 HNW HON HF2 HG2 HK HSZ
   generalize W4.setCell _ _=W5 at HRO ⊢
   have n0:=(blk_cells HRO.out.out).1 0 _ rfl
   have n1:=(blk_cells HRO.out.out).2 0
   have m00:W5.cell? ⟨w.heap.size,0,none⟩=some (.int .i64 N):=HRO.out.obs.cell 0 0 rfl rfl
   have m10:W5.cell? ⟨w.heap.size+1,0,none⟩=some (.int .i64 M):=HRO.out.obs.cell 1 0 rfl rfl
   have hNM:IntKind.i64.wrap (N+M)=N+M:=by rw[IntKind.wrap_i64];have:=HRP.out.1.1;have:=HRP.out.1.2.1;have:=HRP2.out.1.1;have:=HRP2.out.1.2.1;omega
   go_upto_region 16 with fail
   have HRO2:=Lib.hid (HRO.out.setN (N+M))
   clear n0 n1 m00 m10 HRO
   generalize W5.setCell _ _=W6 at HRO2 ⊢
   have HDN:=Lib.hid (HRO2.out.calls (bo_fine HRP.out HRP2.out))
   have n0:=(blk_cells HRO2.out.out).1 0 _ rfl
   have n1:=(blk_cells HRO2.out.out).1 1 _ rfl
   go_wp2_with fail
   ((with_reducible refine(HDN.out).mono ?_);rintro e W20 ⟨⟨bb,rfl,hbb⟩,hbl⟩)
   have HBB2:=Lib.hid hbb
   have HRO20:=Lib.hid (HRO2.out.call hbl)
   have HOB20:=Lib.hid HRO20.out.obs
   clear HDN hbb hbl HRO2 n0 n1
   have m20:W20.cell? ⟨w.heap.size+1+1,0,none⟩=some (.int .i64 0):=HOB20.out.cell 2 0 rfl rfl
   have z20:W20.frozen? ⟨w.heap.size+1+1,0,none⟩=false:=HOB20.out.frz 2 0 rfl
   have m21:W20.cell? ⟨w.heap.size+1+1,1,none⟩=some (.slice none 0 0):=HOB20.out.cell 2 1 rfl rfl
   have z21:W20.frozen? ⟨w.heap.size+1+1,1,none⟩=false:=HOB20.out.frz 2 1 rfl
   have HE:Hid (rboE N fs M gs=doneE (N+M) (fs ++ (shAll N gs))):=rfl
   cases bb
   ·go_wp2
    obtain⟨hx,hxB⟩:=HOB20.out.ret 2 (.int .i64 0) (.slice none 0 0) rfl
    have e00:=(blk_cells hx).1 0 _ rfl
    have e01:=(blk_cells hx).1 1 _ rfl
    refine bodyPost_ret (v:=.tuple #[.agg #[.int .i64 0,.slice none 0 0],.int .i64 2]) (by simp[results,Try.f30,go_sem,e00,e01]) rfl ?_
    exact⟨HRO20.out.done (b:=false) 2 rfl (.int .i64 0) (.slice none 0 0) HE.out (by simpa using HBB2.out) rfl,hxB⟩
   ·go_wp2
    obtain⟨hx,hxB⟩:=HOB20.out.ret 2 (.int .i64 (N+M)) (.slice A4 n4 c4) rfl
    have e00:=(blk_cells hx).1 0 _ rfl
    have e01:=(blk_cells hx).1 1 _ rfl
    refine bodyPost_ret (v:=.tuple #[.agg #[.int .i64 (N+M),.slice A4 n4 c4],.int .i64 0]) (by simp[results,Try.f30,go_sem,e00,e01]) rfl ?_
    exact⟨HRO20.out.done (b:=true) 2 rfl (.int .i64 (N+M)) (.slice A4 n4 c4) HE.out (by simpa using HBB2.out) rfl,hxB⟩
end Go.Proofs.Ytealnhaffphamaa

namespace Go.Proofs.Ytealnhaffphamaa
open Go.RowKit Go.Shelf Go.Proofs.YtealnhaffphamaaW.PrintWords
def subV (a b z:Int):Int:=if z=a then b else z
def mrgU (a b:Int) (i:Nat) (g:List Int):List Int:=(g.take i).map (subV a b) ++ g.drop i
def mrgL (g:List Int) (x y:Nat):List Int:=g.map (subV (g.getD x 0) (g.getD y 0))
theorem mrgU_zero (a b:Int) (g:List Int):mrgU a b 0 g=g:=by simp[mrgU]
theorem mrgU_len (a b:Int) (i:Nat) (g:List Int):(mrgU a b i g).length=g.length:=by unfold mrgU;simp only[List.length_append,List.length_map,List.length_take,List.length_drop];omega
theorem mrgU_all (a b:Int) (g:List Int):mrgU a b g.length g=g.map (subV a b):=by simp[mrgU]
theorem mrgU_at {a b:Int} {i:Nat} {g:List Int} (h:i<g.length):(mrgU a b i g)[i]?=g[i]?:=by
 unfold mrgU
 rw[List.getElem?_append_right (by simp;omega)]
 simp only[List.length_map,List.length_take,List.getElem?_drop]
 congr 1;omega
theorem mrgU_succ {a b:Int} {i:Nat} {g:List Int} (h:i<g.length):mrgU a b (i+1) g=(mrgU a b i g).set i (subV a b (g.getD i 0)):=by
 refine List.ext_getElem? (fun j=>?_)
 rw[List.getElem?_set,mrgU_len]
 have hd:g.getD i 0=g[i]:=by rw[List.getD_eq_getElem?_getD,List.getElem?_eq_getElem h];rfl
 unfold mrgU
 by_cases e:i=j
 ·subst e
  rw[if_pos rfl,if_pos h,List.getElem?_append_left (by simp;omega),List.getElem?_map,List.getElem?_take,if_pos (by omega),List.getElem?_eq_getElem h,hd];rfl
 ·rw[if_neg e]
  rcases Nat.lt_or_ge j i with q | q
  ·rw[List.getElem?_append_left (by simp;omega),List.getElem?_append_left (by simp;omega),List.getElem?_map,List.getElem?_map,List.getElem?_take,List.getElem?_take,if_pos (by omega),if_pos q]
  ·rw[List.getElem?_append_right (by simp;omega),List.getElem?_append_right (by simp;omega)]
   simp only[List.length_map,List.length_take,List.getElem?_drop]
   congr 1;omega
def Ib (W:World) (G:Nat) (g:List Int):Prop:=Blk W G (.cells (intsV g).toArray 3)
theorem Ib.cell {W:World} {G:Nat} {g:List Int} (h:Ib W G g) {i:Nat} {x:Int} (hx:g[i]?=some x):W.cell? ⟨G,i,none⟩=some (.int .i64 x)∧W.frozen? ⟨G,i,none⟩=false:=
 ⟨(blk_cells h).1 i _ (by simp[intsV,hx]),(blk_cells h).2 i⟩
theorem Ib.set {W:World} {G:Nat} {g:List Int} (h:Ib W G g) (i:Nat) (x:Int):Ib (W.setCell ⟨G,i,none⟩ (.int .i64 x)) G (g.set i x):=by
 have h1:=blk_set (o:=i) (x:=.int .i64 x) h
 unfold Ib
 have e:(intsV g).toArray.setIfInBounds i (.int .i64 x)=(intsV (g.set i x)).toArray:=by
  simp[intsV,List.map_set]
 rw[e] at h1
 exact h1
def MrgP (G:Nat) (g:List Int) (x y:Nat) (w:World) (e:Ending) (w':World):Prop:=e=.returned (.tuple #[])∧Ib w' G (mrgL g x y)∧w.grownBy w' (some G)
set_option maxHeartbeats 1000000 in
theorem merge_any (G:Nat) (g:List Int) (c x y:Nat) (w:World) (hG:Ib w G g) (hx:x<g.length) (hy:y<g.length) (hl:g.length≤1000000) :
  Calls Try.prog 46 #[.slice (some ⟨G,0,none⟩) g.length c,.int .i64 x,.int .i64 y] w (MrgP G g x y w):=by
 obtain⟨a,ha⟩:∃a,g[x]?=some a:=⟨_,List.getElem?_eq_getElem hx⟩
 obtain⟨b,hb⟩:∃b,g[y]?=some b:=⟨_,List.getElem?_eq_getElem hy⟩
 have c0:=(hG.cell ha).1
 have c1:=(hG.cell hb).1
 have hxz:(x:Int)<(g.length:Int):=by omega
 have hyz:(y:Int)<(g.length:Int):=by omega
 have HG:=Lib.hid hG
 have HA:Hid (g.getD x 0=a∧g.getD y 0=b):=⟨by rw[List.getD_eq_getElem?_getD,ha];rfl,by rw[List.getD_eq_getElem?_getD,hb];rfl⟩
 clear hG ha hb
 go_enter Try.func46,Try.ntmps46
 go_wp2_with fail
 go_quiet (fail)
 rename_i nq
 have HG1:Hid (Ib (w.drewN nq) G g∧w.grownBy (w.drewN nq) (some G)):=⟨HG.out.kept (grown_of_below (Drawn0.below ⟨⟨nq,rfl⟩⟩) none) (by simp),grown_of_below (Drawn0.below ⟨⟨nq,rfl⟩⟩) _⟩
 clear HG c0 c1
 generalize w.drewN nq=w1 at HG1 ⊢
 go_wp2
 go_loopw [8] (fun s8 wr=>∃i:Nat,i≤g.length∧s8=.int .i64 i∧Hid (Ib wr G (mrgU a b i g)∧w.grownBy wr (some G))) (fun v _=>g.length - (intOf v).toNat)
 case atStart=>exact⟨0,by omega,rfl,by rw[mrgU_zero];exact HG1⟩
 case round=>
  clear HG1
  rename World=>wr
  obtain⟨i,hi,rfl,HI⟩:=hrel
  by_cases hlt:i<g.length
  ·have hlz:(i:Int)<(g.length:Int):=by omega
   obtain⟨z,hz⟩:∃z,g[i]?=some z:=⟨_,List.getElem?_eq_getElem hlt⟩
   obtain⟨c0,c1⟩:=HI.out.1.cell ((mrgU_at hlt).trans hz)
   have HZ:Hid (mrgU a b (i+1) g=(mrgU a b i g).set i (subV a b z)):=by show _=_;rw[mrgU_succ hlt,List.getD_eq_getElem?_getD,hz];rfl
   have HZ2:Hid ((mrgU a b i g)[i]?=some z):=(mrgU_at hlt).trans hz
   clear hz
   by_cases hza:z=a
   ·have HZA:=Lib.hid hza
    rw[hza] at c0
    clear hza
    go_wp2
    go_roundw
    case rel=>
     refine⟨i+1,by omega,by go_num,?_,HI.out.2.trans (grown_set _ _ _ _)⟩
     rw[HZ.out,HZA.out]
     unfold subV
     rw[if_pos rfl]
     exact HI.out.1.set i b
    case measure=>simp[intOf];omega
   ·have HZA:=Lib.hid hza
    go_wp2
    go_roundw
    case rel=>
     refine⟨i+1,by omega,by go_num,?_,HI.out.2⟩
     have e:(mrgU a b i g).set i z=mrgU a b i g:=by
      refine List.ext_getElem? (fun j=>?_)
      rw[List.getElem?_set]
      by_cases q:i=j
      ·subst q;rw[if_pos rfl,if_pos (by rw[mrgU_len];exact hlt),HZ2.out]
      ·rw[if_neg q]
     rw[HZ.out]
     unfold subV
     rw[if_neg HZA.out,e]
     exact HI.out.1
    case measure=>simp[intOf];omega
  ·obtain rfl:i=g.length:=by omega
   have HE:Hid (mrgU a b g.length g=mrgL g x y):=by show _=_;rw[mrgU_all,mrgL,HA.out.1,HA.out.2]
   go_wp2
   go_end0
   exact⟨rfl,by rw[←HE.out];exact HI.out.1,HI.out.2⟩
end Go.Proofs.Ytealnhaffphamaa
