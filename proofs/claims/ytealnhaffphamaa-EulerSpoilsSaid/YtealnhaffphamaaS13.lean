/- Contracts of the functions that the statement reaches, and plain lemmas: part 13 of 31. -/
import Derived.Test.YtealnhaffphamaaS12
import Derived.Deep.CutRange
import Derived.Laws.EntriesVeiled
set_option linter.unusedVariables false
set_option linter.unusedSimpArgs false

namespace Go.Proofs.Ytealnhaffphamaa
open Go.RowKit Go.Shelf Go.Proofs.YtealnhaffphamaaW.PrintWords
theorem own_ne_blk {W:World} {base e size n b:Nat} {v:Value} {xs:List Value} {cs:Array Value} {t:TypeId} (ho:W.ownsRow base e size v n xs) (hb:Blk W b (.cells cs t)) (hne:t≠e):v.ownBlock≠some b:=by
 intro q
 obtain⟨c,hc⟩:=own_typed ho b q
 unfold Blk at hb
 rw[hb] at hc
 injection hc with hc
 injection hc with _ hc
 exact hne hc
theorem own_ne_er {W:World} {base e size n k r:Nat} {v:Value} {xs:List Value} {ds:List PV} {todo:Int→Int→Bool} {cnt:Nat} (ho:W.ownsRow base e size v n xs) (h:ER W k r ds todo cnt):some r≠v.ownBlock:=by
 obtain⟨D,left,h1,_⟩:=h
 exact row_ne_iter ho h1
structure NearI (ds:List PV) (nl:List (List Int)) (F:Nat) (todo:Int→Int→Bool) (cnt:Nat):Prop where
 len:nl.length=F
 mem:∀f,∀z:Int,z∈lA nl f↔∃x∈ds,todo x.v x.a=false∧x.f=f∧((oppP ds x).f:Int)=z
 cap:∀f,(lA nl f).length+cnt≤ds.length
theorem NearI.start {ds:List PV} (F:Nat):NearI ds (List.replicate F []) F (hasE ds) ds.length:=by
 have e:∀f,lA (List.replicate F []) f=[]:=by
  intro f
  unfold lA
  rw[List.getD_eq_getElem?_getD,List.getElem?_replicate]
  split <;> rfl
 refine⟨by simp,fun f z=>?_,fun f=>by rw[e];simp⟩
 rw[e]
 simp only[List.not_mem_nil,false_iff]
 rintro⟨x,hx,h,_⟩
 rw[hasE_of hx] at h;cases h
theorem NearI.step {ds:List PV} {nl:List (List Int)} {F cnt cnt':Nat} {todo:Int→Int→Bool} (h:NearI ds nl F todo cnt) (hds:EdUp ds) {x:PV} (hx:x∈ds) (hF:x.f<F) (hlt:cnt'<cnt) :
  NearI ds (nl.set x.f (lA nl x.f ++ [((oppP ds x).f:Int)])) F (fun v z=>todo v z && !(v == x.v && z == x.a)) cnt':=by
 have huni:∀y∈ds,y.v=x.v→y.a=x.a→y=x:=by
  intro y hy e1 e2
  obtain⟨i,hi,rfl⟩:=List.getElem_of_mem hy
  obtain⟨j,hj,rfl⟩:=List.getElem_of_mem hx
  have hp:=List.pairwise_iff_getElem.1 hds.1
  rcases Nat.lt_trichotomy i j with q | q | q
  ·exact absurd ⟨e1,e2⟩ (hp i j hi hj q)
  ·subst q;rfl
  ·exact absurd ⟨e1.symm,e2.symm⟩ (hp j i hj hi q)
 refine⟨by simp[h.len],fun f z=>?_,fun f=>?_⟩
 ·rw[lA_set (by rw[h.len];exact hF)]
  by_cases e:f=x.f
  ·rw[if_pos e,List.mem_append,List.mem_singleton,h.mem]
   constructor
   ·rintro(⟨y,hy,h1,h2,h3⟩ | rfl)
    ·exact⟨y,hy,by simp[h1],by rw[e,h2],h3⟩
    ·exact⟨x,hx,by simp,e.symm,rfl⟩
   ·rintro⟨y,hy,h1,h2,h3⟩
    by_cases q:y=x
    ·subst q;exact .inr h3.symm
    ·refine .inl ⟨y,hy,?_,by rw[h2,e],h3⟩
     have:(y.v == x.v && y.a == x.a)=false:=by
      rw[Bool.eq_false_iff]
      intro q2
      simp only[Bool.and_eq_true,beq_iff_eq] at q2
      exact q (huni y hy q2.1 q2.2)
     simpa [this] using h1
  ·rw[if_neg e,h.mem]
   constructor
   ·rintro⟨y,hy,h1,h2,h3⟩
    exact⟨y,hy,by simp[h1],h2,h3⟩
   ·rintro⟨y,hy,h1,h2,h3⟩
    refine⟨y,hy,?_,h2,h3⟩
    have:(y.v == x.v && y.a == x.a)=false:=by
     rw[Bool.eq_false_iff]
     intro q2
     simp only[Bool.and_eq_true,beq_iff_eq] at q2
     exact e (h2.symm.trans (by rw[huni y hy q2.1 q2.2]))
    simpa [this] using h1
 ·rw[lA_set (by rw[h.len];exact hF)]
  split
  ·have:=h.cap x.f;simp;omega
  ·have:=h.cap f;omega
theorem NearI.done {ds:List PV} {nl:List (List Int)} {F cnt:Nat} {todo:Int→Int→Bool} (h:NearI ds nl F todo cnt) (hall:∀x∈ds,todo x.v x.a=false):NearI ds nl F (fun _ _=>false) 0:=by
 refine⟨h.len,fun f z=>?_,fun f=>by have:=h.cap f;omega⟩
 rw[h.mem]
 constructor
 ·rintro⟨x,hx,_,h2,h3⟩;exact⟨x,hx,rfl,h2,h3⟩
 ·rintro⟨x,hx,_,h2,h3⟩;exact⟨x,hx,hall x hx,h2,h3⟩
theorem infoB:(Try.prog.info? 4).map (fun i=>(i.zero,i.size,i.bytes))=some (some (.bool false),1,1):=by kernel_rfl
theorem made_met {W:World} {F base g:Nat} (h:W.ownsRow base 4 1 (.slice (some ⟨g,0,none⟩) F F) F (madeCells (Value.bool false).cells (F * 1)).toList):Blk W g (.cells (mb F fun _=>false) 4):=by
 rcases h.2 with⟨h0,_⟩ | ⟨g',cap',cur,he,hb,hh,h1,h2,h3,h4⟩
 ·cases h0
 ·injection he with he hn hc
  injection he with he
  injection he with he _ _
  subst he hc
  unfold Blk
  rw[hh]
  congr 1
  congr 1
  refine Array.ext' ?_
  rw[List.take_of_length_le (by rw[Array.length_toList,h3];omega)] at h4
  rw[h4,Nat.mul_one,show(Value.bool false).cells=#[.bool false] from rfl,toList_madeCells_one]
  simp[mb,List.map_const']
def S6 (fs:Fs) (G2 eb NB k:Nat) (ds:List PV) (x:PV) (AR:Option Addr) (nR cR B:Nat) (nl:List (List Int)) (lv:Nat→Value) (O:Nat) (d:Nat) (W:World) (v:Value):Prop:=match d with | 29=>v=.slice (some ⟨NB,0,none⟩) fs.length fs.length | 30=>v=.pointer (some ⟨eb+1,0,none⟩) | 31=>v=.int .i64 x.f | 32=>v=.slice (some ⟨NB,0,none⟩) fs.length fs.length | 33=>v=.pointer (some ⟨eb+1,0,none⟩) | 34=>v=.int .i64 x.f | 35=>v=.pointer (some ⟨NB,x.f,none⟩) | 36=>v=.slice AR nR cR | 37=>v=.map (some k) | 38=>v=.pointer (some ⟨eb,1,none⟩) | 39=>v=.int .i64 x.a | 40=>v=.pointer (some ⟨eb,0,none⟩) | 41=>v=.int .i64 x.v | 42=>v=.agg #[.int .i64 x.a,.int .i64 x.v] | 43=>v=.agg #[.int .i64 (oppP ds x).f,.int .i64 (oppP ds x).l,.int .i64 (oppP ds x).i] | 44=>v=.int .i64 (oppP ds x).f | 47=>v=.pointer (some ⟨NB,x.f,none⟩) | 45=>∃m,v=.slice (some ⟨m,0,none⟩) 1 1∧O≤m∧Blk W m (.cells #[.int .i64 (oppP ds x).f] 3) | 46=>FQ B (.slice (some ⟨NB,0,none⟩) fs.length fs.length) nl fs.length lv x.f v (lA nl x.f ++ [((oppP ds x).f:Int)]) W | _=>True
theorem S6.grown {fs:Fs} {G2 eb NB k:Nat} {ds:List PV} {x:PV} {AR:Option Addr} {nR cR B:Nat} {nl:List (List Int)} {lv:Nat→Value} {O:Nat} {W W1:World} (hg:W.grownBy W1 none):∀d v,S6 fs G2 eb NB k ds x AR nR cR B nl lv O d W v→S6 fs G2 eb NB k ds x AR nR cR B nl lv O d W1 v:=by
 intro d v h
 unfold S6 at h ⊢
 split at h
 all_goals first | exact h | exact FQ.grown h hg | (obtain⟨m,h1,h2,h3⟩:=h;exact⟨m,h1,h2,h3.kept hg (by simp)⟩)
theorem S6.turned {fs:Fs} {G2 eb NB k:Nat} {ds:List PV} {x:PV} {AR:Option Addr} {nR cR B:Nat} {nl:List (List Int)} {lv:Nat→Value} {O:Nat} {W W1:World} {row:Option Nat} (hg:W.grownBy W1 row) (hr:∀k,row=some k→k<O):∀d v,d≠46→S6 fs G2 eb NB k ds x AR nR cR B nl lv O d W v→S6 fs G2 eb NB k ds x AR nR cR B nl lv O d W1 v:=by
 intro d v hd h
 unfold S6 at h ⊢
 split at h
 all_goals first | exact h | exact absurd rfl hd | (obtain⟨m,h1,h2,h3⟩:=h;exact⟨m,h1,h2,h3.kept hg (fun e=>by have:=hr _ e.symm;omega)⟩)
def shellF (nr:Nat→List Nat) (F:Nat):Nat→List (List Nat) × (Nat→Bool)
 | 0=>([],fun _=>false)
 | f+1=>if (growF nr F f (shellF nr F f).2).1=[] then((shellF nr F f).1,(growF nr F f (shellF nr F f).2).2) else((shellF nr F f).1 ++ [(growF nr F f (shellF nr F f).2).1],(growF nr F f (shellF nr F f).2).2)
theorem shellF_len (nr:Nat→List Nat) (F f:Nat):(shellF nr F f).1.length≤f:=by
 induction f with
 | zero=>simp[shellF]
 | succ f ih=>
  simp only[shellF]
  split
  ·show(shellF nr F f).1.length≤f+1;omega
  ·simp;omega
def sortI (l:List Int):List Int:=l.mergeSort fun x y=>decide (x≤y)
set_option maxRecDepth 100000 in
set_option maxHeartbeats 8000000 in
theorem shells_any (N:Int) (A:Option Addr) (c:Nat) (fs:Fs) (w:World) (hF:RF w A fs) (hR:RightP N fs) :
  Calls Try.prog 54 #[.agg #[.int .i64 N,.slice A fs.length c]] w fun e w'=>(∃v nl lv,e=.returned v∧FW w.heap.size v ((shellF (nrA nl) fs.length fs.length).1.map fun l=>sortI (natsI l)) ((shellF (nrA nl) fs.length fs.length).1.map fun l=>sortI (natsI l)).length lv w'∧NearI (dartsA fs (plsA fs)) nl fs.length (fun _ _=>false) 0)∧Below w.heap.size w w':=by
 obtain⟨W1,hW1⟩:∃W1,W1=w.alloc (.cells #[.int .i64 N,.slice A fs.length c] 30):=⟨_,rfl⟩
 have HOB:Hid (Obs [.cells #[.int .i64 N,.slice A fs.length c] 30] w W1):=by rw[hW1];exact Obs.one w _
 have hfi:=hR.fine
 have HED:=Lib.hid (edges_any N A c fs W1 (hF.below HOB.out.below) (hfi.sm (by omega)) hfi.ni (hfi.cap (by omega)))
 have HRP:=Lib.hid hR
 have hFn:=hfi.faces
 have hF0:=hR.1.2.2.1
 have HDL:Hid ((dartsA fs (plsA fs)).length≤2000):=by show(dartsA fs (plsA fs)).length≤2000;have h1:=List.length_filter_le (dartB fs) (plsA fs);have h2:=hfi.nodes;rw[←pls_len] at h2;unfold dartsA;omega
 clear hF hR hfi
 go_enter Try.func54,Try.ntmps54
 go_upto_region 1 with fail
 rw[←hW1]
 clear hW1
 have m00:W1.cell? ⟨w.heap.size,0,none⟩=some (.int .i64 N):=HOB.out.cell 0 0 rfl rfl
 have m01:W1.cell? ⟨w.heap.size,1,none⟩=some (.slice A fs.length c):=HOB.out.cell 0 1 rfl rfl
 obtain⟨ds,hds⟩:∃ds,ds=dartsA fs (plsA fs):=⟨_,rfl⟩
 have HDS:=Lib.hid hds
 rw[←hds] at HED HDL
 clear hds
 go_wp2_with fail
 ((with_reducible refine(HED.out).mono ?_);rintro e W2 ⟨⟨m,b,rfl,hb,hm⟩,hbl⟩)
 obtain rfl:b=true:=hb.2 HRP.out.2.2.1
 obtain⟨k,rfl,hk1,hk2⟩:=hm rfl
 have HOB2:=Lib.hid (HOB.out.call hbl)
 have HEM:=Lib.hid hk2
 have hkl:=hk2.lt
 clear hb hm hk2 hbl HED HOB m00 m01
 go_upto_region 2 with fail
 obtain⟨B,hB⟩:∃B,W2.heap.size=B:=⟨_,rfl⟩
 have HKB:Hid (k<B):=by rw[←hB];exact hkl
 have HWB:Hid (w.heap.size+1≤B):=by rw[←hB];exact HOB2.out.size
 have m00:W2.cell? ⟨w.heap.size,0,none⟩=some (.int .i64 N):=HOB2.out.cell 0 0 rfl rfl
 have m01:W2.cell? ⟨w.heap.size,1,none⟩=some (.slice A fs.length c):=HOB2.out.cell 0 1 rfl rfl
 go_cut [5] from 13 (fun s5 W3=>∃G2 NB:Nat,s5=.pointer (some ⟨G2,0,none⟩)∧Hid (Obs [.cells #[.int .i64 N,.slice A fs.length c] 30] w W3)∧Hid (EM W3 k ds)∧Hid (Blk W3 G2 (.cells #[.slice (some ⟨NB,0,none⟩) fs.length fs.length] 37))∧Hid (FW B (.slice (some ⟨NB,0,none⟩) fs.length fs.length) (List.replicate fs.length []) fs.length (fun _=>.slice none 0 0) W3)∧Hid (B≤W3.heap.size))
 case first=>
  obtain⟨iL,hiL,hiL0,hiL1,hiL2⟩:=info_parts infoL
  go_wp2_with (at_make;refine wpList_make_full _ rfl _ _ 37 rfl B 36 iL (.slice none 0 0) 1 Try.underlying37 hiL hiL0 hiL1 .i64 .i64 _ _ fs.length rfl rfl rfl rfl (by rw[hiL2];omega) (by simp only[maxLen];omega) (Nat.le_of_eq hB.symm) ?_;intro w3 hown3 hg3)
  rw[made_nils,hB] at hown3
  have hg4:w3.grownBy (w3.alloc (.cells #[.slice (some ⟨B,0,none⟩) fs.length fs.length] 37)) none:=World.grownBy_alloc _ _ _
  go_meet
  case rel=>
   exact⟨w3.heap.size,B,rfl,(HOB2.out.grown hg3).grown hg4,(HEM.out.kept hg3 (by simp)).kept hg4 (by simp),blk_new w3 _,(FW.madeO hown3).kept hg4 (fun r e=>by cases e),by have:=hg3.size;have:=hg4.size;show B≤_;omega⟩
 case rest=>
 obtain⟨G2,NB,rfl,HOB,HEM3,HG2,HFW,HBS⟩:=hcut
 rename World=>W3
 clear HEM HOB2 hB m00 m01 hkl
 have HFD:Hid (FD fs.length (fun _=>Value.slice none 0 0)):=FD.nils _
 go_wp2_with (at_range;refine wpList_range_em _ rfl _ rfl k ds rfl HEM3.out ?_;intro w4 hER hg4 hs4)
 go_frame
 have hG2r:=HG2.out.lt
 obtain⟨r,hr⟩:∃r,W3.heap.size=r:=⟨_,rfl⟩
 rw[hr] at hER hs4 hG2r ⊢
 have HBr:Hid (B≤r):=by rw[←hr];exact HBS.out
 have HER:=Lib.hid hER
 have HSI:Hid (Obs [.cells #[.int .i64 N,.slice A fs.length c] 30] w w4∧Blk w4 G2 (.cells #[.slice (some ⟨NB,0,none⟩) fs.length fs.length] 37)):=⟨HOB.out.grown hg4,HG2.out.kept hg4 (by simp)⟩
 have HFW4:Hid (FW B (.slice (some ⟨NB,0,none⟩) fs.length fs.length) (List.replicate fs.length []) fs.length (fun _=>.slice none 0 0) w4∧FD fs.length (fun _=>Value.slice none 0 0)):=⟨HFW.out.kept hg4 (fun r e=>by cases e),HFD.out⟩
 have HBS4:Hid (B≤w4.heap.size):=Nat.le_trans HBS.out hg4.size
 clear hER hg4 hs4 HOB HG2 HFW HFD HBS HEM3 hr
 go_loopw [24] (fun _ wr=>∃(todo:Int→Int→Bool) (cnt:Nat) (nl:List (List Int)) (lv:Nat→Value),Hid (ER wr k r ds todo cnt)∧Hid (NearI ds nl fs.length todo cnt)∧Hid (FW B (.slice (some ⟨NB,0,none⟩) fs.length fs.length) nl fs.length lv wr∧FD fs.length lv)∧Hid (Obs [.cells #[.int .i64 N,.slice A fs.length c] 30] w wr∧Blk wr G2 (.cells #[.slice (some ⟨NB,0,none⟩) fs.length fs.length] 37))∧Hid (B≤wr.heap.size)) (fun _ wr=>wr.rangeLeft k r)
 case atStart=>exact⟨_,_,_,_,HER,NearI.start _,HFW4,HSI,HBS4⟩
 case round=>
  clear HER HFW4 HSI HBS4
  rename World=>wr
  obtain⟨todo,cnt,nl,lv,HER,HNI,HFW,HSI,HBS⟩:=hrel
  go_wp2_with (at_next;refine wpList_next_em _ rfl _ rfl k r ds todo cnt rfl HER.out ?_ ?_)
  ·intro hall
   have HND:Hid (NearI ds nl fs.length (fun _ _=>false) 0):=HNI.out.done (fun x hx=>by
    obtain⟨D,-,hI,-⟩:=HER.out.em
    exact hall _ _ (hI x hx).1 (hI x hx).2)
   have HFWr:Hid (FW B (.slice (some ⟨NB,0,none⟩) fs.length fs.length) nl fs.length lv wr):=HFW.out.1
   have m00:wr.cell? ⟨w.heap.size,0,none⟩=some (.int .i64 N):=HSI.out.1.cell 0 0 rfl rfl
   have m01:wr.cell? ⟨w.heap.size,1,none⟩=some (.slice A fs.length c):=HSI.out.1.cell 0 1 rfl rfl
   clear hall HER HNI HFW
   obtain⟨iB,hiB,hiB0,hiB1,hiB2⟩:=info_parts infoB
   obtain⟨M,hM⟩:∃M,wr.heap.size=M:=⟨_,rfl⟩
   go_upto_region 7 with fail
   go_cut [8] from 13 (fun s8 W7=>∃g1:Nat,s8=.pointer (some ⟨g1,0,none⟩)∧Hid (Obs [.cells #[.int .i64 N,.slice A fs.length c] 30] w W7∧Blk W7 G2 (.cells #[.slice (some ⟨NB,0,none⟩) fs.length fs.length] 37))∧Hid (FW B (.slice (some ⟨NB,0,none⟩) fs.length fs.length) nl fs.length lv W7)∧Hid (Blk W7 g1 (.cells #[.slice (some ⟨M,0,none⟩) fs.length fs.length] 81))∧Hid (Blk W7 M (.cells (mb fs.length fun _=>false) 4)))
   case first=>
    go_wp2_with (at_make;refine wpList_make_full _ rfl _ _ 81 rfl M 4 iB (.bool false) 1 Try.underlying81 hiB hiB0 hiB1 .i64 .i64 _ _ fs.length rfl rfl rfl rfl (by rw[hiB2];omega) (by simp only[maxLen];omega) (Nat.le_of_eq hM.symm) ?_;intro w3 hown3 hg3)
    rw[hM] at hown3
    have hg4:w3.grownBy (w3.alloc (.cells #[.slice (some ⟨M,0,none⟩) fs.length fs.length] 81)) none:=World.grownBy_alloc _ _ _
    go_meet
    case rel=>
     exact⟨w3.heap.size,rfl,⟨(HSI.out.1.grown hg3).grown hg4,(HSI.out.2.kept hg3 (by simp)).kept hg4 (by simp)⟩,(HFWr.out.kept hg3 (fun r e=>by cases e)).kept hg4 (fun r e=>by cases e),blk_new w3 _,(made_met hown3).kept hg4 (by simp)⟩
   case rest=>
   obtain⟨g1,rfl,HSI7,HFW7,HB7,HM7⟩:=hcut
   rename World=>W7
   have HB0M:Hid (w.heap.size+1≤M):=by rw[←hM];exact HSI.out.1.size
   clear HSI HFWr m00 m01 hM hiB hiB0 hiB1 hiB2
   go_upto_region 10 with fail
   have hga:W7.grownBy (W7.alloc (.cells #[.func (.func 80) #[] #[.pointer (some ⟨g1,0,none⟩),.pointer (some ⟨G2,0,none⟩),.pointer (some ⟨W7.heap.size,0,none⟩)]] 115)) none:=World.grownBy_alloc _ _ _
   have hb3:=blk_new W7 (.cells #[.func (.func 80) #[] #[.pointer (some ⟨g1,0,none⟩),.pointer (some ⟨G2,0,none⟩),.pointer (some ⟨W7.heap.size,0,none⟩)]] 115)
   obtain⟨g3,hg3⟩:∃g3,W7.heap.size=g3:=⟨_,rfl⟩
   rw[hg3] at hga hb3 ⊢
   have HGS:Hid (GS g1 G2 g3 M fs.length B (.slice (some ⟨NB,0,none⟩) fs.length fs.length) nl lv (shellF (nrA nl) fs.length 0).2 (W7.alloc (.cells #[.func (.func 80) #[] #[.pointer (some ⟨g1,0,none⟩),.pointer (some ⟨G2,0,none⟩),.pointer (some ⟨g3,0,none⟩)]] 115))):=⟨HB7.out.kept hga (by simp),HSI7.out.2.kept hga (by simp),hb3,HM7.out.kept hga (by simp),HFW7.out.kept hga (fun r e=>by cases e)⟩
   have hob:=HSI7.out.1.grown hga
   clear hga hb3 hg3 HB7 HM7 HFW7 HSI7
   generalize W7.alloc (.cells #[.func (.func 80) #[] #[.pointer (some ⟨g1,0,none⟩),.pointer (some ⟨G2,0,none⟩),.pointer (some ⟨g3,0,none⟩)]] 115)=W8 at HGS hob ⊢
   have HOB:=Lib.hid hob
   have HLOW:=Lib.hid HGS.out.low
   obtain⟨B8,hB8⟩:∃B8,W8.heap.size=B8:=⟨_,rfl⟩
   rw[hB8] at HLOW
   have HB8:Hid (B8≤W8.heap.size):=Nat.le_of_eq hB8.symm
   have HWB8:Hid (w.heap.size+1≤B8):=by rw[←hB8];exact hob.size
   clear hob hB8
   have m00:W8.cell? ⟨w.heap.size,0,none⟩=some (.int .i64 N):=HOB.out.cell 0 0 rfl rfl
   have m01:W8.cell? ⟨w.heap.size,1,none⟩=some (.slice A fs.length c):=HOB.out.cell 0 1 rfl rfl
   have hnr:∀f,∀x∈lA nl f,0≤x∧x<(fs.length:Int):=fun f z hz=>by
    obtain⟨x,hx,_,_,h3⟩:=(HND.out.mem f z).1 hz
    have hop:=oppP_spec HRP.out.2.2.1 (x:=x) (by rw[←HDS.out];exact hx)
    rw[←HDS.out] at hop
    have hm:oppP ds x∈plsA fs:=by have h:=hop.1;rw[HDS.out] at h ⊢;exact(List.mem_filter.1 h).1
    have:=(isP_of hm).1.1
    have h4:(oppP ds x).f<fs.length:=this
    omega
   have hln:∀f,(lA nl f).length≤100000:=fun f=>by have:=HND.out.cap f;have:=HDL.out;omega
   have HGA:=Lib.hid (grow_any g1 G2 g3 M fs.length B (.slice (some ⟨NB,0,none⟩) fs.length fs.length) nl lv (by omega) HND.out.len hnr hln fs.length)
   have hltn:∀f,∀g∈nrA nl f,g<fs.length:=by
    intro f g hg
    simp only[nrA,List.mem_map] at hg
    obtain⟨x,hx,rfl⟩:=hg
    have:=hnr f x hx
    omega
   have HLTN:=Lib.hid hltn
   clear hnr hln hltn
   go_upto_region 11 with fail
   go_wp2
   go_loopw [10,56] (fun s10 s56 wr=>∃(f:Nat) (lo:Nat→Value),f≤fs.length∧s56=.int .i64 f∧Hid (GS g1 G2 g3 M fs.length B (.slice (some ⟨NB,0,none⟩) fs.length fs.length) nl lv (shellF (nrA nl) fs.length f).2 wr)∧Hid (FW B8 s10 ((shellF (nrA nl) fs.length f).1.map fun l=>sortI (natsI l)) ((shellF (nrA nl) fs.length f).1.map fun l=>sortI (natsI l)).length lo wr)∧Hid (Below w.heap.size w wr)∧Hid (B8≤wr.heap.size)) (fun _ v _=>fs.length - (intOf v).toNat)
   case atStart=>exact⟨0,fun _=>undef,by omega,rfl,HGS,FW.nil _ _,HOB.out.below,HB8⟩
   case round=>
    clear HGS HOB HB8 m00 m01
    rename World=>wr
    obtain⟨f,lo,hf,rfl,HGS,HFW,HBL,HBS⟩:=hrel
    by_cases hlt:f<fs.length
    ·have hltz:(f:Int)<(fs.length:Int):=by omega
     obtain⟨m,hm⟩:∃m,m=(shellF (nrA nl) fs.length f).2:=⟨_,rfl⟩
     have HM0:=Lib.hid hm
     rw[←hm] at HGS
     clear hm
     have HCALL:=Lib.hid (HGA.out f m wr hlt (unmet_top _ _) HGS.out)
     have hgok:=grow_ok fs.length (nrA nl) HLTN.out fs.length f m hlt
     have hcnt:=hgok.count
     have htop:=unmet_top fs.length m
     have c6:wr.cell? ⟨g3,0,none⟩=some (.func (.func 80) #[] #[.pointer (some ⟨g1,0,none⟩),.pointer (some ⟨G2,0,none⟩),.pointer (some ⟨g3,0,none⟩)]):=(blk_cells HGS.out.b3).1 0 _ rfl
     obtain⟨l,hl⟩:∃l,l=(growF (nrA nl) fs.length f m).1:=⟨_,rfl⟩
     have HL:=Lib.hid hl
     rw[←hl] at HCALL hcnt
     clear hl hgok
     go_wp2_with fail
     ((with_reducible refine(HCALL.out).mono ?_);rintro e w5 ⟨hG5,hg5,v,rfl,hown,hnil⟩)
     have hFW5:FW B8 u10 ((shellF (nrA nl) fs.length f).1.map fun l=>sortI (natsI l)) ((shellF (nrA nl) fs.length f).1.map fun l=>sortI (natsI l)).length lo w5:=HFW.out.kept hg5 (fun q e=>by
      cases e
      intro hF
      have h1:=(HFW.out.lt hF).1
      have h2:=HLOW.out M (.inr (.inr (.inr (.inl rfl))))
      omega)
     have HGS5:=Lib.hid hG5
     have HFW5:=Lib.hid hFW5
     have HBL5:Hid (Below w.heap.size w w5):=HBL.out.grown hg5 HBL.out.size (fun q e=>by cases e;have h0:=HGS.out.bm;have hb0:=HB0M.out;omega)
     have HBS5:Hid (B8≤w5.heap.size):=Nat.le_trans HBS.out hg5.size
     have HOW:=Lib.hid (own_weaken hown HBS.out)
     have HNIL:=Lib.hid hnil
     have HFL:Hid (∀q,FB u10 ((shellF (nrA nl) fs.length f).1.map fun l=>sortI (natsI l)).length lo q→q<wr.heap.size):=fun q h=>(HFW.out.lt h).2
     have HVN:Hid (∀q,v.ownBlock=some q→wr.heap.size≤q):=fun q e=>own_base hown q e
     have HB8W:Hid (B8≤wr.heap.size):=HBS.out
     clear HCALL HFW HBL HBS hG5 hg5 hFW5 hown hnil c6
     cases hmf:m f with
     | true=>
      obtain rfl:=HNIL.out hmf
      have HLE:Hid (l=[]):=by show l=[];rw[HL.out,growF_met hmf]
      have HST:Hid (shellF (nrA nl) fs.length (f+1)=((shellF (nrA nl) fs.length f).1,(growF (nrA nl) fs.length f m).2)):=by
       show shellF _ _ _=_
       simp only[shellF]
       rw[←HM0.out,←HL.out,HLE.out]
       rfl
      clear hmf
      go_wp2
      go_roundw
      case rel=>exact⟨f+1,lo,by omega,by go_num,by rw[HST.out];exact HGS5.out,by rw[HST.out];exact HFW5.out,HBL5.out,HBS5.out⟩
      case measure=>simp[intOf];omega
     | false=>
      have hl0:0<l.length:=by
       rw[HL.out]
       obtain⟨k0,hk0⟩:∃k0,fs.length=k0+1:=⟨fs.length - 1,by omega⟩
       rw[hk0,growF_new hmf,growL_acc]
       simp
      have HST:Hid (shellF (nrA nl) fs.length (f+1)=((shellF (nrA nl) fs.length f).1 ++ [l],(growF (nrA nl) fs.length f m).2)):=by
       show shellF _ _ _=_
       simp only[shellF]
       rw[←HM0.out,←HL.out,if_neg (fun e=>by rw[e] at hl0;simp at hl0)]
      obtain⟨vb,cv,rfl,hvb1,hvb2⟩:=HOW.out.form hl0
      clear hmf
      have hH:Sort.Holds (Value.int .i64) w5 vb 0 (natsI l).toArray:=by
       rcases HOW.out.2 with⟨h0,_⟩ | ⟨g',cap',cur,he,hbase,hb,h1,h2,h3,h4⟩
       ·cases h0
       ·cases he
        exact holdsV (Value.int .i64) hb (by rw[natsI_len];simpa [intsV] using h4)
      have hS0:=Try.slices_Sort_int vb 0 cv (natsI l) w5 hH hvb2 (by rw[natsI_len];omega)
      rw[natsI_len] at hS0
      have HS0:=Lib.hid hS0
      clear hH hS0
      have hll:(sortI (natsI l)).length=l.length:=by unfold sortI;rw[List.length_mergeSort,natsI_len]
      have hslen:=shellF_len (nrA nl) fs.length f
      obtain⟨iL,hiL,hiL0,hiL1,hiL2⟩:=info_parts infoL
      go_upto_region 17 with((with_reducible refine(HS0.out).mono ?_);rintro e w6 ⟨rfl,nn,os,rfl⟩)
      have hgs:w5.grownBy (Sort.grow (Sort.putRow (Value.int .i64) (Sort.ahead w5 nn) vb 0 ((natsI l).mergeSort fun x y=>decide (x≤y)).toArray) os) (some vb):=grownV _ _
      have how:=ownV (m:=l.length) (q:=nn) (os:=os) (Value.int .i64) (ts:=(natsI l).mergeSort fun x y=>decide (x≤y)) HOW.out hll (Nat.le_refl _)
      rw[List.take_of_length_le (show((natsI l).mergeSort fun x y=>decide (x≤y)).length≤l.length from Nat.le_of_eq hll)] at how
      generalize Sort.grow (Sort.putRow (Value.int .i64) (Sort.ahead w5 nn) vb 0 ((natsI l).mergeSort fun x y=>decide (x≤y)).toArray) os=w6 at hgs how ⊢
      have hvw:=HVN.out vb rfl
      have hb8w:=HB8W.out
      have hga:=World.grownBy_alloc w6 (.cells #[.slice (some ⟨vb,0,none⟩) l.length cv] 36) none
      have HGS6:=Lib.hid ((HGS5.out.kept hgs (fun q e=>by
       cases e
       have h2:=fun q=>HLOW.out vb q
       refine⟨fun q=>?_,fun q=>?_,fun q=>?_,fun q=>?_,fun q=>?_⟩
       ·have:=h2 (.inl q);omega
       ·have:=h2 (.inr (.inl q));omega
       ·have:=h2 (.inr (.inr (.inl q)));omega
       ·have:=h2 (.inr (.inr (.inr (.inl q))));omega
       ·have:=h2 (.inr (.inr (.inr (.inr q))));omega)).grown hga)
      have HFW6:=Lib.hid ((HFW5.out.kept hgs (fun q e=>by
       cases e
       intro hF
       have:=HFL.out vb hF
       omega)).kept hga (fun q e=>by cases e))
      have HOW6:Hid ((w6.alloc (.cells #[.slice (some ⟨vb,0,none⟩) l.length cv] 36)).ownsRow B8 3 1 (.slice (some ⟨vb,0,none⟩) l.length cv) (sortI (natsI l)).length (intsV (sortI (natsI l)))):=own_keptB (by rw[hll];exact how) hga (fun q e=>by cases e)
      have HBL6:=Lib.hid ((HBL5.out.grown hgs HBL5.out.size (fun q e=>by cases e;have:=HBL5.out.size;have:=HWB8.out;omega)).grown hga (Nat.le_trans HBL5.out.size hgs.size) (fun q e=>by cases e))
      have HBS6:Hid (B8≤(w6.alloc (.cells #[.slice (some ⟨vb,0,none⟩) l.length cv] 36)).heap.size):=Nat.le_trans (Nat.le_trans HBS5.out hgs.size) hga.size
      have hlslen:((shellF (nrA nl) fs.length f).1.map fun l=>sortI (natsI l)).length≤f:=by rw[List.length_map];exact hslen
      clear hgs how hga HGS5 HFW5 HBL5 HBS5 HS0 HOW HNIL
      go_wp2_with (at_builtin;refine wpList_append_own _ rfl _ _ 37 rfl B8 36 iL (.slice none 0 0) 1 24 Try.underlying37 hiL hiL0 hiL1 hiL2 rfl (by decide) _ _ _ rfl HFW6.out.own ⟨w6.heap.size,0,none⟩ 1 1 [.slice (some ⟨vb,0,none⟩) l.length cv] rfl rfl (cell_one_new _ _ _) (by simp[Value.oneCell']) (by simp only[maxLen];omega) (by omega) HBS6.out ?_;intro v' w7 hown7 hg7 _)
      have HLS:Hid (((shellF (nrA nl) fs.length (f+1)).1.map fun l=>sortI (natsI l))=((shellF (nrA nl) fs.length f).1.map fun l=>sortI (natsI l)) ++ [sortI (natsI l)]):=by show((shellF (nrA nl) fs.length (f+1)).1.map fun l=>sortI (natsI l))=_;rw[HST.out];simp
      go_roundw
      case rel=>
       have hrb:∀q,u10.ownBlock=some q→B8≤q∧q<wr.heap.size:=fun q e=>⟨(HFW6.out.lt (.inl e)).1,HFL.out q (.inl e)⟩
       refine⟨f+1,_,by omega,by go_num,?_,by rw[HLS.out];exact FW.append HFW6.out HOW6.out hown7 hg7,HBL6.out.grown hg7 HBL6.out.size (fun q e=>by have:=(hrb q e).1;have:=HWB8.out;omega),Nat.le_trans HBS6.out hg7.size⟩
       rw[HST.out]
       exact HGS6.out.kept hg7 (fun q e=>by
        have h1:=(hrb q e).1
        have h2:=fun z=>HLOW.out q z
        refine⟨fun z=>?_,fun z=>?_,fun z=>?_,fun z=>?_,fun z=>?_⟩
        ·have:=h2 (.inl z);omega
        ·have:=h2 (.inr (.inl z));omega
        ·have:=h2 (.inr (.inr (.inl z)));omega
        ·have:=h2 (.inr (.inr (.inr (.inl z))));omega
        ·have:=h2 (.inr (.inr (.inr (.inr z))));omega)
      case measure=>simp[intOf];omega
    ·obtain rfl:f=fs.length:=by omega
     obtain⟨AV,cV,hu⟩:=own_slice HFW.out.own
     subst hu
     go_wp2
     go_ret
     exact⟨⟨_,nl,lo,rfl,HFW.out.lower (by have:=HWB8.out;omega),by rw[←HDS.out];exact HND.out⟩,HBL.out⟩
  ·intro x hx w2 cnt2 ht hER2 hlt hg2 hs2 hen
   obtain⟨todo2,hER2,ht1⟩:∃t,ER w2 k r ds t cnt2∧∀v z,t v z=(todo v z && !(v == x.v && z == x.a)):=⟨_,hER2,fun v z=>by simp⟩
   have ht2:todo2=(fun v z=>todo v z && !(v == x.v && z == x.a)):=funext fun v=>funext fun z=>ht1 v z
   have hxm:x∈plsA fs:=by have h:=hx;rw[HDS.out] at h;exact(List.mem_filter.1 h).1
   have hxf:x.f<fs.length:=(isP_of hxm).1.1
   have HXF:=Lib.hid hxf
   have hxz:(x.f:Int)<(fs.length:Int):=by omega
   have hNI2:NearI ds (nl.set x.f (lA nl x.f ++ [((oppP ds x).f:Int)])) fs.length todo2 cnt2:=by rw[ht2];exact HNI.out.step (by rw[HDS.out];exact HRP.out.2.2.1.1) hx hxf hlt
   have HNI2:=Lib.hid hNI2
   have HOP:Hid (∀W,EM W k ds→(Instr.lookup 88 (.map (some k)) (.agg #[.int .i64 x.a,.int .i64 x.v]) false).run Try.prog W=.ok (.agg #[.int .i64 (oppP ds x).f,.int .i64 (oppP ds x).l,.int .i64 (oppP ds x).i]) W):=fun W h=>by
    have hop:=oppP_spec HRP.out.2.2.1 (x:=x) (by rw[←HDS.out];exact hx)
    rw[←HDS.out] at hop
    have h2:=h.get hop.1
    rw[hop.2.1,hop.2.2] at h2
    exact h2
   obtain⟨⟨AR,nR,cR⟩,hlr⟩:=slice_of_own (HFW.out.1.ownL x.f hxf)
   simp only[encS] at hlr
   have HLR:=Lib.hid hlr
   have hFW2:FW B (.slice (some ⟨NB,0,none⟩) fs.length fs.length) nl fs.length lv w2:=HFW.out.1.kept hg2 (fun q e=>by
    cases e
    rintro(q | ⟨l,hl,q⟩)
    ·exact own_ne_er HFW.out.1.own HER.out q.symm
    ·exact own_ne_er (HFW.out.1.ownL l hl) HER.out q.symm)
   have hSI2:Obs [.cells #[.int .i64 N,.slice A fs.length c] 30] w w2∧Blk w2 G2 (.cells #[.slice (some ⟨NB,0,none⟩) fs.length fs.length] 37):=⟨HSI.out.1.kept hg2 (fun q e=>by cases e;have:=HWB.out;have:=HBr.out;simp;omega),HSI.out.2.kept hg2 (fun e=>by injection e with e;omega)⟩
   have HER0:=HER
   have HCAP:Hid (ds.length≤2000):=HDL
   have HNO:Hid True:=trivial
   have HFDo:Hid (FD fs.length lv):=HFW.out.2
   clear HER ht hx hxm hlr ht1 ht2 hs2
   go_upto_region 6 with fail
   have hga:w2.grownBy ((w2.alloc (.cells #[.int .i64 x.v,.int .i64 x.a] 95)).alloc (.cells #[.int .i64 x.f,.int .i64 x.l,.int .i64 x.i] 45)) none:=(World.grownBy_alloc w2 _ none).trans (World.grownBy_alloc _ _ none)
   have HEB:Hid (Blk ((w2.alloc (.cells #[.int .i64 x.v,.int .i64 x.a] 95)).alloc (.cells #[.int .i64 x.f,.int .i64 x.l,.int .i64 x.i] 45)) w2.heap.size (.cells #[.int .i64 x.v,.int .i64 x.a] 95)):=(blk_new w2 _).alloc
   have HPB:Hid (Blk ((w2.alloc (.cells #[.int .i64 x.v,.int .i64 x.a] 95)).alloc (.cells #[.int .i64 x.f,.int .i64 x.l,.int .i64 x.i] 45)) (w2.heap.size+1) (.cells #[.int .i64 x.f,.int .i64 x.l,.int .i64 x.i] 45)):=by
    have h:=blk_new (w2.alloc (.cells #[.int .i64 x.v,.int .i64 x.a] 95)) (.cells #[.int .i64 x.f,.int .i64 x.l,.int .i64 x.i] 45)
    rw[World.size_alloc] at h
    exact h
   have HRO:Hid (∀q,(lv x.f).ownBlock=some q→q<w2.heap.size+1+1):=fun q e=>by have:=World.ownsRow.lt (hFW2.ownL x.f HXF.out) q e;omega
   have HOB:=Lib.hid (hSI2.1.grown hga)
   have HG2:=Lib.hid (hSI2.2.kept hga (by simp))
   have HER:=Lib.hid (hER2.kept hga (by simp) (by simp))
   have HFW1:=Lib.hid (hFW2.kept hga (fun q e=>by cases e))
   have HBS1:Hid (B≤((w2.alloc (.cells #[.int .i64 x.v,.int .i64 x.a] 95)).alloc (.cells #[.int .i64 x.f,.int .i64 x.l,.int .i64 x.i] 45)).heap.size):=Nat.le_trans (Nat.le_trans HBS.out hg2.size) hga.size
   have HCR:Hid (∀W,FW B (.slice (some ⟨NB,0,none⟩) fs.length fs.length) nl fs.length lv W→W.cell? ⟨NB,x.f,none⟩=some (.slice AR nR cR)):=fun W h=>by
    have q0:=World.ownsRow.cellAt h.own x.f (by have:=HXF.out;omega)
    rw[List.getElem?_map,List.getElem?_range HXF.out] at q0
    simp only[Option.map_some,HLR.out] at q0
    exact q0
   clear hER2 hFW2 hSI2 hg2 hen hga HFW HSI HBS hNI2
   have HFW:=HFW1
   have HBS:=HBS1
   have HFD:=HFDo
   clear HFW1 HBS1 HFDo
   generalize (w2.alloc (.cells #[.int .i64 x.v,.int .i64 x.a] 95)).alloc (.cells #[.int .i64 x.f,.int .i64 x.l,.int .i64 x.i] 45)=W5 at HEB HPB HOB HG2 HER HFW HBS ⊢
   generalize w2.heap.size=eb at HEB HPB HRO ⊢
   refine wp_region_inv' (by kernel_rfl) (by kernel_rfl) (fun listed aa wy=>∃t:Nat→Value,aa={ tmps:=#[.agg #[.int .i64 N,.slice A fs.length c],.pointer (some ⟨w.heap.size,0,none⟩),.slice none 0 0,.map (some k),.bool true,.pointer (some ⟨G2,0,none⟩),.pointer (some ⟨eb,0,none⟩),.pointer (some ⟨eb+1,0,none⟩),undef,undef,undef,undef,undef,u13,u14,u15,u16,u17,u18,u19,u20,u21,.map (some k),.pointer (some ⟨r,0,none⟩),.tuple #[.bool true,.agg #[.int .i64 x.v,.int .i64 x.a],.agg #[.int .i64 x.f,.int .i64 x.l,.int .i64 x.i]],.bool true,.tuple #[.agg #[.int .i64 x.v,.int .i64 x.a],.agg #[.int .i64 x.f,.int .i64 x.l,.int .i64 x.i]],.agg #[.int .i64 x.v,.int .i64 x.a],.agg #[.int .i64 x.f,.int .i64 x.l,.int .i64 x.i],t 29,t 30,t 31,t 32,t 33,t 34,t 35,t 36,t 37,t 38,t 39,t 40,t 41,t 42,t 43,t 44,t 45,t 46,t 47,u48,u49,u50,u51,u52,u53,u54,u55,u56,u57,u58,u59,u60,u61,u62,u63,u64,u65,u66,u67,u68,u69,u70,u71],defers:=[] }∧IRK (fun wz=>FW B (.slice (some ⟨NB,0,none⟩) fs.length fs.length) nl fs.length lv wz) 17 19 (fun _ wz=>∃lv',FW B (.slice (some ⟨NB,0,none⟩) fs.length fs.length) (nl.set x.f (lA nl x.f ++ [((oppP ds x).f:Int)])) fs.length lv' wz∧FD fs.length lv') (fun wz=>(Obs [.cells #[.int .i64 N,.slice A fs.length c] 30] w wz∧Blk wz G2 (.cells #[.slice (some ⟨NB,0,none⟩) fs.length fs.length] 37))∧ER wz k r ds todo2 cnt2∧Blk wz eb (.cells #[.int .i64 x.v,.int .i64 x.a] 95)∧Blk wz (eb+1) (.cells #[.int .i64 x.f,.int .i64 x.l,.int .i64 x.i] 45)∧B≤wz.heap.size) (S6 fs G2 eb NB k ds x AR nR cR B nl lv (eb+1+1)) [(0,29),(1,30),(2,31),(3,32),(4,33),(5,34),(6,35),(7,36),(8,37),(9,38),(10,39),(11,40),(12,41),(13,42),(14,43),(15,44),(16,45),(17,46),(18,47)] listed t wy) ⟨(fun d=>match d with | 29=>u29 | 30=>u30 | 31=>u31 | 32=>u32 | 33=>u33 | 34=>u34 | 35=>u35 | 36=>u36 | 37=>u37 | 38=>u38 | 39=>u39 | 40=>u40 | 41=>u41 | 42=>u42 | 43=>u43 | 44=>u44 | 45=>u45 | 46=>u46 | 47=>u47 | _=>undef),rfl,IRK.start _ ⟨⟨HOB.out.grown (grown_drew _),HG2.out.kept (grown_drew _) (by simp)⟩,HER.out.kept (grown_drew _) (by simp) (by simp),HEB.out.kept (grown_drew _) (by simp),HPB.out.kept (grown_drew _) (by simp),HBS.out⟩ (HFW.out.kept (grown_drew _) (fun r e=>by cases e)) _⟩ ?_ ?_
   rotate_left
   ·rintro listed hCl ix hix aa wy ⟨t,rfl,hR⟩ hr
    match ix,hix,hr with
    | 0,_,hr=>
     as_aux_lemma=>
     refine wpOp_step rfl (fun K' hK=>?_)
     have f0:=(blk_cells hR.fin.1.2).1 0 _ rfl
     go_simp
     exact hK _ _ ⟨upd t 29 (.slice (some ⟨NB,0,none⟩) fs.length fs.length),rfl,hR.yields hCl hr (by decide) (by decide) (by kernel_rfl) hR.fin (fun h=>h) (fun _ _ h=>h) (by rfl) rfl⟩
    | 1,_,hr=>
     as_aux_lemma=>
     refine wpOp_step rfl (fun K' hK=>?_)
     go_simp
     exact hK _ _ ⟨upd t 30 (.pointer (some ⟨eb+1,0,none⟩)),rfl,hR.yields hCl hr (by decide) (by decide) (by kernel_rfl) hR.fin (fun h=>h) (fun _ _ h=>h) (by rfl) rfl⟩
    | 2,_,hr=>
     as_aux_lemma=>
     refine wpOp_step rfl (fun K' hK=>?_)
     have e1:t 30=.pointer (some ⟨eb+1,0,none⟩):=hR.val hCl hr (by kernel_rfl) (1,30) (by simp) (dep_of hr 1 (by kernel_rfl))
     have f0:=(blk_cells hR.fin.2.2.2.1).1 0 _ rfl
     go_simp
     exact hK _ _ ⟨upd t 31 (.int .i64 x.f),by first | (simp[upd,e1];done) | (simp[upd,e1];rfl),hR.yields hCl hr (by decide) (by decide) (by kernel_rfl) hR.fin (fun h=>h) (fun _ _ h=>h) (by rfl) rfl⟩
    | 3,_,hr=>
     as_aux_lemma=>
     refine wpOp_step rfl (fun K' hK=>?_)
     have f0:=(blk_cells hR.fin.1.2).1 0 _ rfl
     go_simp
     exact hK _ _ ⟨upd t 32 (.slice (some ⟨NB,0,none⟩) fs.length fs.length),rfl,hR.yields hCl hr (by decide) (by decide) (by kernel_rfl) hR.fin (fun h=>h) (fun _ _ h=>h) (by rfl) rfl⟩
    | 4,_,hr=>
     as_aux_lemma=>
     refine wpOp_step rfl (fun K' hK=>?_)
     go_simp
     exact hK _ _ ⟨upd t 33 (.pointer (some ⟨eb+1,0,none⟩)),rfl,hR.yields hCl hr (by decide) (by decide) (by kernel_rfl) hR.fin (fun h=>h) (fun _ _ h=>h) (by rfl) rfl⟩
    | 5,_,hr=>
     as_aux_lemma=>
     refine wpOp_step rfl (fun K' hK=>?_)
     have e1:t 33=.pointer (some ⟨eb+1,0,none⟩):=hR.val hCl hr (by kernel_rfl) (4,33) (by simp) (dep_of hr 4 (by kernel_rfl))
     have f0:=(blk_cells hR.fin.2.2.2.1).1 0 _ rfl
     go_simp
     exact hK _ _ ⟨upd t 34 (.int .i64 x.f),by first | (simp[upd,e1];done) | (simp[upd,e1];rfl),hR.yields hCl hr (by decide) (by decide) (by kernel_rfl) hR.fin (fun h=>h) (fun _ _ h=>h) (by rfl) rfl⟩
    | 6,_,hr=>
     as_aux_lemma=>
     refine wpOp_step rfl (fun K' hK=>?_)
     have e1:t 32=.slice (some ⟨NB,0,none⟩) fs.length fs.length:=hR.val hCl hr (by kernel_rfl) (3,32) (by simp) (dep_of hr 3 (by kernel_rfl))
     have e2:t 34=.int .i64 x.f:=hR.val hCl hr (by kernel_rfl) (5,34) (by simp) (dep_of hr 5 (by kernel_rfl))
     go_simp
     exact hK _ _ ⟨upd t 35 (.pointer (some ⟨NB,x.f,none⟩)),by first | (simp[upd,e1,e2];done) | (simp[upd,e1,e2];rfl),hR.yields hCl hr (by decide) (by decide) (by kernel_rfl) hR.fin (fun h=>h) (fun _ _ h=>h) (by rfl) rfl⟩
    | 7,_,hr=>
     as_aux_lemma=>
     refine wpOp_step rfl (fun K' hK=>?_)
     have e1:t 35=.pointer (some ⟨NB,x.f,none⟩):=hR.val hCl hr (by kernel_rfl) (6,35) (by simp) (dep_of hr 6 (by kernel_rfl))
     have f0:=HCR.out _ (hR.old (hCl.not hr 9 (by kernel_rfl)))
     go_simp
     exact hK _ _ ⟨upd t 36 (.slice AR nR cR),by first | (simp[upd,e1];done) | (simp[upd,e1];rfl),hR.yields hCl hr (by decide) (by decide) (by kernel_rfl) hR.fin (fun h=>h) (fun _ _ h=>h) (by rfl) rfl⟩
    | 8,_,hr=>
     as_aux_lemma=>
     refine wpOp_step rfl (fun K' hK=>?_)
     go_simp
     exact hK _ _ ⟨upd t 37 (.map (some k)),rfl,hR.yields hCl hr (by decide) (by decide) (by kernel_rfl) hR.fin (fun h=>h) (fun _ _ h=>h) (by rfl) rfl⟩
    | 9,_,hr=>
     as_aux_lemma=>
     refine wpOp_step rfl (fun K' hK=>?_)
     go_simp
     exact hK _ _ ⟨upd t 38 (.pointer (some ⟨eb,1,none⟩)),rfl,hR.yields hCl hr (by decide) (by decide) (by kernel_rfl) hR.fin (fun h=>h) (fun _ _ h=>h) (by rfl) rfl⟩
    | 10,_,hr=>
     as_aux_lemma=>
     refine wpOp_step rfl (fun K' hK=>?_)
     have e1:t 38=.pointer (some ⟨eb,1,none⟩):=hR.val hCl hr (by kernel_rfl) (9,38) (by simp) (dep_of hr 9 (by kernel_rfl))
     have f0:=(blk_cells hR.fin.2.2.1).1 1 _ rfl
     go_simp
     exact hK _ _ ⟨upd t 39 (.int .i64 x.a),by first | (simp[upd,e1];done) | (simp[upd,e1];rfl),hR.yields hCl hr (by decide) (by decide) (by kernel_rfl) hR.fin (fun h=>h) (fun _ _ h=>h) (by rfl) rfl⟩
    | 11,_,hr=>
     as_aux_lemma=>
     refine wpOp_step rfl (fun K' hK=>?_)
     go_simp
     exact hK _ _ ⟨upd t 40 (.pointer (some ⟨eb,0,none⟩)),rfl,hR.yields hCl hr (by decide) (by decide) (by kernel_rfl) hR.fin (fun h=>h) (fun _ _ h=>h) (by rfl) rfl⟩
    | 12,_,hr=>
     as_aux_lemma=>
     refine wpOp_step rfl (fun K' hK=>?_)
     have e1:t 40=.pointer (some ⟨eb,0,none⟩):=hR.val hCl hr (by kernel_rfl) (11,40) (by simp) (dep_of hr 11 (by kernel_rfl))
     have f0:=(blk_cells hR.fin.2.2.1).1 0 _ rfl
     go_simp
     exact hK _ _ ⟨upd t 41 (.int .i64 x.v),by first | (simp[upd,e1];done) | (simp[upd,e1];rfl),hR.yields hCl hr (by decide) (by decide) (by kernel_rfl) hR.fin (fun h=>h) (fun _ _ h=>h) (by rfl) rfl⟩
    | 13,_,hr=>
     as_aux_lemma=>
     refine wpOp_step rfl (fun K' hK=>?_)
     have e1:t 39=.int .i64 x.a:=hR.val hCl hr (by kernel_rfl) (10,39) (by simp) (dep_of hr 10 (by kernel_rfl))
     have e2:t 41=.int .i64 x.v:=hR.val hCl hr (by kernel_rfl) (12,41) (by simp) (dep_of hr 12 (by kernel_rfl))
     go_simp
     exact hK _ _ ⟨upd t 42 (.agg #[.int .i64 x.a,.int .i64 x.v]),by first | (simp[upd,e1,e2];done) | (simp[upd,e1,e2];rfl),hR.yields hCl hr (by decide) (by decide) (by kernel_rfl) hR.fin (fun h=>h) (fun _ _ h=>h) (by rfl) rfl⟩
    | 14,_,hr=>
     as_aux_lemma=>
     refine wpOp_step rfl (fun K' hK=>?_)
     have e1:t 37=.map (some k):=hR.val hCl hr (by kernel_rfl) (8,37) (by simp) (dep_of hr 8 (by kernel_rfl))
     have e2:t 42=.agg #[.int .i64 x.a,.int .i64 x.v]:=hR.val hCl hr (by kernel_rfl) (13,42) (by simp) (dep_of hr 13 (by kernel_rfl))
     have f0:=HOP.out _ hR.fin.2.1.em
     go_simp
     exact hK _ _ ⟨upd t 43 (.agg #[.int .i64 (oppP ds x).f,.int .i64 (oppP ds x).l,.int .i64 (oppP ds x).i]),by first | (simp[upd,e1,e2];done) | (simp[upd,e1,e2];rfl),hR.yields hCl hr (by decide) (by decide) (by kernel_rfl) hR.fin (fun h=>h) (fun _ _ h=>h) (by rfl) rfl⟩
    | 15,_,hr=>
     as_aux_lemma=>
     refine wpOp_step rfl (fun K' hK=>?_)
     have e1:t 43=.agg #[.int .i64 (oppP ds x).f,.int .i64 (oppP ds x).l,.int .i64 (oppP ds x).i]:=hR.val hCl hr (by kernel_rfl) (14,43) (by simp) (dep_of hr 14 (by kernel_rfl))
     go_simp
     exact hK _ _ ⟨upd t 44 (.int .i64 (oppP ds x).f),by first | (simp[upd,e1];done) | (simp[upd,e1];rfl),hR.yields hCl hr (by decide) (by decide) (by kernel_rfl) hR.fin (fun h=>h) (fun _ _ h=>h) (by rfl) rfl⟩
    | 16,_,hr=>
     as_aux_lemma=>
     refine wpOp_step rfl (fun K' hK=>?_)
     have e1:t 44=.int .i64 (oppP ds x).f:=hR.val hCl hr (by kernel_rfl) (15,44) (by simp) (dep_of hr 15 (by kernel_rfl))
     have hI2:=hR.fin
     have hJ:=(hR.old (hCl.not hr 9 (by kernel_rfl)))
     go_simp
     have hg:=World.grownBy_alloc wy (.cells #[.int .i64 (oppP ds x).f] 3) none
     exact hK _ _ ⟨upd t 45 (.slice (some ⟨wy.heap.size,0,none⟩) 1 1),by first | (simp[upd,e1];done) | (simp[upd,e1];rfl),hR.yields hCl hr (by decide) (by decide) (by kernel_rfl) ⟨⟨hI2.1.1.grown hg,hI2.1.2.kept hg (by simp)⟩,hI2.2.1.kept hg (by simp) (by simp),hI2.2.2.1.kept hg (by simp),hI2.2.2.2.1.kept hg (by simp),Nat.le_trans hI2.2.2.2.2 hg.size⟩ (fun h=>h.kept hg (fun r e=>by cases e)) (S6.grown hg) ⟨_,rfl,Nat.succ_le_of_lt hI2.2.2.2.1.lt,blk_new wy _⟩ rfl⟩
    | 17,_,hr=>
     as_aux_lemma=>
     refine wpOp_step rfl (fun K' hK=>?_)
     have e1:t 36=.slice AR nR cR:=hR.val hCl hr (by kernel_rfl) (7,36) (by simp) (dep_of hr 7 (by kernel_rfl))
     obtain⟨m,e2,hm,hbl⟩:∃m,t 45=.slice (some ⟨m,0,none⟩) 1 1∧eb+1+1≤m∧Blk wy m (.cells #[.int .i64 (oppP ds x).f] 3):=hR.val hCl hr (by kernel_rfl) (16,45) (by simp) (dep_of hr 16 (by kernel_rfl))
     have hJ:=hR.old (getD_tf (ready_spec.1 hr).2.1).1
     have hI2:=hR.fin
     have hown:=hJ.ownL x.f HXF.out
     have hlr:=HLR.out
     rw[hlr] at hown
     refine step_append_int rfl (.tmp 36) (.tmp 45) rfl B (.slice AR nR cR) (lA nl x.f) _ e1 hown m e2 hbl (by have:=HNI.out.cap x.f;have:=HCAP.out;omega) hI2.2.2.2.2 ?_
     intro v1 w1 hown1 hgrow hloc
     have hro:∀q,Value.ownBlock (.slice AR nR cR)=some q→q<eb+1+1∧B≤q:=fun q e=>by have h1:=World.ownsRow.lt hown q e;exact⟨HRO.out q (by rw[hlr];exact e),h1.1⟩
     have hgr2:wy.grownBy w1 (lv x.f).ownBlock:=by rw[hlr];exact hgrow
     have hFQ:=hJ.pendL HFD.out HXF.out hgr2 hown1 (by rw[hlr];exact hloc)
     refine hK _ _ ⟨upd t 46 v1,rfl,hR.turns hCl hr (by decide) (by kernel_rfl) ⟨⟨hI2.1.1.kept hgrow (fun q e=>by have:=(hro q e).2;have:=HWB.out;simp;omega),hI2.1.2.kept hgrow (fun e=>own_ne_blk hown hI2.1.2 (by decide) e.symm)⟩,hI2.2.1.kept hgrow (fun e=>by have:=(hro _ e.symm).2;have:=HKB.out;omega) (own_ne_er hown hI2.2.1),hI2.2.2.1.kept hgrow (fun e=>own_ne_blk hown hI2.2.2.1 (by decide) e.symm),hI2.2.2.2.1.kept hgrow (fun e=>own_ne_blk hown hI2.2.2.2.1 (by decide) e.symm),Nat.le_trans hI2.2.2.2.2 hgrow.size⟩ (S6.turned hgrow (fun q e=>(hro q e).1)) hFQ rfl⟩
    | 18,_,hr=>
     as_aux_lemma=>
     refine wpOp_step rfl (fun K' hK=>?_)
     have e1:t 29=.slice (some ⟨NB,0,none⟩) fs.length fs.length:=hR.val hCl hr (by kernel_rfl) (0,29) (by simp) (dep_of hr 0 (by kernel_rfl))
     have e2:t 31=.int .i64 x.f:=hR.val hCl hr (by kernel_rfl) (2,31) (by simp) (dep_of hr 2 (by kernel_rfl))
     go_simp
     exact hK _ _ ⟨upd t 47 (.pointer (some ⟨NB,x.f,none⟩)),by first | (simp[upd,e1,e2];done) | (simp[upd,e1,e2];rfl),hR.yields hCl hr (by decide) (by decide) (by kernel_rfl) hR.fin (fun h=>h) (fun _ _ h=>h) (by rfl) rfl⟩
    | 19,_,hr=>
     as_aux_lemma=>
     refine wpOp_step rfl (fun K' hK=>?_)
     have e1:t 47=.pointer (some ⟨NB,x.f,none⟩):=hR.vls (getD_tf (ready_spec.1 hr).2.1).1 (18,47) (by simp) (dep_of hr 18 (by kernel_rfl))
     have hFQ:FQ B (.slice (some ⟨NB,0,none⟩) fs.length fs.length) nl fs.length lv x.f (t 46) (lA nl x.f ++ [((oppP ds x).f:Int)]) wy:=hR.vls (getD_tf (ready_spec.1 hr).2.1).1 (17,46) (by simp) (dep_of hr 17 (by kernel_rfl))
     have hI2:=hR.fin
     have hfr:=(World.ownsRow.frozenAt hFQ.own x.f:wy.frozen? ⟨NB,x.f,none⟩=false)
     have hce:=(World.ownsRow.cellAt hFQ.own x.f (by have:=HXF.out;omega):wy.cell? ⟨NB,x.f,none⟩=_)
     rw[List.getElem?_map,List.getElem?_range HXF.out] at hce
     simp only[Option.map_some] at hce
     obtain⟨⟨A9,n9,c9⟩,h9⟩:=slice_of_own hFQ.new
     simp only[encS] at h9
     obtain⟨hst,hsd⟩:=hFQ.store HNI.out.len.symm HXF.out rfl
     rw[h9] at hst hsd
     have hNB:=(World.ownsRow.lt hFQ.own NB rfl).1
     have hE:=hR.ends hr (W1:=wy.setCell ⟨NB,x.f,none⟩ (.slice A9 n9 c9)) (.inl (dep_of hr 17 (by kernel_rfl))) (by decide) ⟨⟨hI2.1.1.kept (grown_set _ _ _ _) (fun q e=>by cases e;have:=HWB.out;simp;omega),hI2.1.2.kept (grown_set _ _ _ _) (fun e=>own_ne_blk hFQ.own hI2.1.2 (by decide) e.symm)⟩,hI2.2.1.kept (grown_set _ _ _ _) (fun e=>by injection e with e;have:=HKB.out;omega) (own_ne_er hFQ.own hI2.2.1),hI2.2.2.1.kept (grown_set _ _ _ _) (fun e=>own_ne_blk hFQ.own hI2.2.2.1 (by decide) e.symm),hI2.2.2.2.1.kept (grown_set _ _ _ _) (fun e=>own_ne_blk hFQ.own hI2.2.2.2.1 (by decide) e.symm),by simp;exact hI2.2.2.2.2⟩ ⟨_,hst,hsd⟩
     clear hst hsd hFQ hI2
     go_simp
     exact hK _ _ ⟨t,by simp[e1,h9],hE⟩
    | nx+20,hix,_=>exact absurd (show nx+20<20 from hix) (by omega)
   rintro listed a2 W6 ⟨t,rfl,hR⟩ hl
   obtain⟨lv2,hFW6,hFD6⟩:=hR.new (hl 19 (by decide))
   obtain⟨hSI6,hER6,-,-,hB6⟩:=hR.fin
   clear hR hl
   generalize t 29=u29
   generalize t 30=u30
   generalize t 31=u31
   generalize t 32=u32
   generalize t 33=u33
   generalize t 34=u34
   generalize t 35=u35
   generalize t 36=u36
   generalize t 37=u37
   generalize t 38=u38
   generalize t 39=u39
   generalize t 40=u40
   generalize t 41=u41
   generalize t 42=u42
   generalize t 43=u43
   generalize t 44=u44
   generalize t 45=u45
   generalize t 46=u46
   generalize t 47=u47
   go_wp2
   go_roundw
   case rel=>exact⟨todo2,cnt2,_,lv2,hER6,HNI2.out,⟨hFW6,hFD6⟩,hSI6,hB6⟩
   case measure=>rw[hER6.left_eq,HER0.out.left_eq];exact hlt
end Go.Proofs.Ytealnhaffphamaa

namespace Go.Proofs.Ytealnhaffphamaa
open Go.RowKit Go.Proofs.YtealnhaffphamaaW.PrintWords
open Classical
def NearR (fs:Fs) (f g:Nat):Prop:=∃x∈dartsA fs (plsA fs),x.f=f∧(oppP (dartsA fs (plsA fs)) x).f=g
inductive Conn (fs:Fs):Nat→Nat→Prop
 | refl (f:Nat):Conn fs f f
 | step {f g h:Nat} (hg:NearR fs f g) (hh:Conn fs g h):Conn fs f h
theorem Conn.trans {fs:Fs} {a b c:Nat} (h1:Conn fs a b) (h2:Conn fs b c):Conn fs a c:=by
 induction h1 with
 | refl=>exact h2
 | step hg _ ih=>exact .step hg (ih h2)
theorem oppP_uniq {fs:Fs} (h:EdOk fs) {x y:PV} (hx:x∈dartsA fs (plsA fs)) (hy:y∈dartsA fs (plsA fs)) (e1:y.v=x.v) (e2:y.a=x.a):y=x:=by
 obtain⟨i,hi,rfl⟩:=List.getElem_of_mem hy
 obtain⟨j,hj,rfl⟩:=List.getElem_of_mem hx
 have hp:=List.pairwise_iff_getElem.1 h.1.1
 rcases Nat.lt_trichotomy i j with q | q | q
 ·exact absurd ⟨e1,e2⟩ (hp i j hi hj q)
 ·subst q;rfl
 ·exact absurd ⟨e1.symm,e2.symm⟩ (hp j i hj hi q)
theorem oppP_opp {fs:Fs} (h:EdOk fs) {x:PV} (hx:x∈dartsA fs (plsA fs)):oppP (dartsA fs (plsA fs)) (oppP (dartsA fs (plsA fs)) x)=x:=by
 obtain⟨h1,h2,h3⟩:=oppP_spec h hx
 obtain⟨h4,h5,h6⟩:=oppP_spec h h1
 exact oppP_uniq h hx h4 (h5.trans h3) (h6.trans h2)
theorem NearR.symm {fs:Fs} (h:EdOk fs) {f g:Nat} (hn:NearR fs f g):NearR fs g f:=by
 obtain⟨x,hx,rfl,rfl⟩:=hn
 exact⟨_,(oppP_spec h hx).1,rfl,by rw[oppP_opp h hx]⟩
theorem Conn.one {fs:Fs} {f g:Nat} (h:NearR fs f g):Conn fs f g:=.step h (.refl g)
theorem Conn.symm {fs:Fs} (h:EdOk fs) {f g:Nat} (hc:Conn fs f g):Conn fs g f:=by
 induction hc with
 | refl=>exact .refl _
 | step hg _ ih=>exact ih.trans (.one (hg.symm h))
noncomputable def compA (fs:Fs) (f:Nat):List Int:=natsI ((List.range fs.length).filter fun g=>decide (Conn fs f g))
noncomputable def shUp (fs:Fs):Nat→List (List Int)
 | 0=>[]
 | f+1=>if ∃g,g<f∧Conn fs g f then shUp fs f else shUp fs f ++ [compA fs f]
noncomputable def shA (fs:Fs):List (List Int):=shUp fs fs.length
theorem near_of {fs:Fs} {nl:List (List Int)} {F:Nat} (h:NearI (dartsA fs (plsA fs)) nl F (fun _ _=>false) 0) (f g:Nat):g∈nrA nl f↔NearR fs f g:=by
 simp only[nrA,List.mem_map]
 constructor
 ·rintro⟨z,hz,rfl⟩
  obtain⟨x,hx,_,h2,h3⟩:=(h.mem f z).1 hz
  exact⟨x,hx,h2,by rw[←h3];rfl⟩
 ·rintro⟨x,hx,h2,rfl⟩
  exact⟨_,(h.mem f _).2 ⟨x,hx,rfl,h2,rfl⟩,rfl⟩
theorem reach_conn {fs:Fs} {nr:Nat→List Nat} (h:∀f g,g∈nr f↔NearR fs f g) (f g:Nat):Reach nr f g↔Conn fs f g:=by
 constructor
 ·intro hr
  induction hr with
  | refl=>exact .refl _
  | step hg _ ih=>exact .step ((h _ _).1 hg) ih
 ·intro hr
  induction hr with
  | refl=>exact .refl _
  | step hg _ ih=>exact .step ((h _ _).2 hg) ih
theorem near_lt {fs:Fs} (h:EdOk fs) {f g:Nat} (hn:NearR fs f g):g<fs.length:=by
 obtain⟨x,hx,_,rfl⟩:=hn
 exact(isP_of (List.mem_filter.1 (oppP_spec h hx).1).1).1.1
theorem conn_lt {fs:Fs} (h:EdOk fs) {f g:Nat} (hf:f<fs.length) (hc:Conn fs f g):g<fs.length:=by
 induction hc with
 | refl=>exact hf
 | step hg _ ih=>exact ih (near_lt h hg)
theorem sorted_natsI (F:Nat) (p:Nat→Bool):(natsI ((List.range F).filter p)).Pairwise (fun a b=>a≤b):=by
 unfold natsI
 rw[List.pairwise_map]
 refine List.Pairwise.imp ?_ (List.Pairwise.filter _ List.pairwise_lt_range)
 intro a b h
 omega
theorem sort_eq {l:List Nat} {F:Nat} {p:Nat→Bool} (hn:l.Nodup) (hm:∀g,g∈l↔g<F∧p g=true):sortI (natsI l)=natsI ((List.range F).filter p):=by
 refine List.Perm.eq_of_pairwise (le:=fun a b=>a≤b) (fun a b _ _ h1 h2=>by omega) ?_ (sorted_natsI F p) ?_
 ·have:=List.pairwise_mergeSort (le:=fun(x y:Int)=>decide (x≤y)) (fun a b c h1 h2=>by simp at h1 h2 ⊢;omega) (fun a b=>by simp;omega) (natsI l)
  exact this.imp (fun h=>by simpa using h)
 ·refine(List.mergeSort_perm _ _).trans ?_
  unfold natsI
  refine List.Perm.map _ ?_
  rw[List.perm_ext_iff_of_nodup hn (List.Pairwise.filter _ List.nodup_range)]
  intro g
  rw[hm];simp
theorem shell_spec {fs:Fs} (h:EdOk fs) {nr:Nat→List Nat} (hnr:∀f g,g∈nr f↔NearR fs f g):∀f,f≤fs.length →
  (∀g,(shellF nr fs.length f).2 g=true↔∃e,e<f∧Conn fs e g)∧((shellF nr fs.length f).1.map fun l=>sortI (natsI l))=shUp fs f:=by
 have hlt:∀f,∀g∈nr f,g<fs.length:=fun f g hg=>near_lt h ((hnr f g).1 hg)
 intro f
 induction f with
 | zero=>intro _;exact⟨fun g=>by simp[shellF],by simp[shellF,shUp]⟩
 | succ f ih=>
  intro hf
  obtain⟨i1,i2⟩:=ih (by omega)
  obtain⟨m,hm⟩:∃m,m=(shellF nr fs.length f).2:=⟨_,rfl⟩
  have hok:=grow_ok fs.length nr hlt fs.length f m (by omega)
  obtain⟨c1,c2⟩:=grow_closed fs.length nr hlt fs.length f m (by omega) (unmet_top _ _)
  have hre:=grow_reach nr fs.length f m
  simp only[shellF,shUp]
  rw[←hm] at i1 ⊢
  cases hmf:m f with
  | true=>
   have hex:∃g,g<f∧Conn fs g f:=(i1 f).1 hmf
   rw[if_pos hex]
   have e1:growF nr fs.length f m=([],m):=growF_met hmf
   rw[e1,if_pos rfl]
   refine⟨fun g=>?_,i2⟩
   show m g=true↔_
   rw[i1]
   constructor
   ·rintro⟨e,he,hc⟩;exact⟨e,by omega,hc⟩
   ·rintro⟨e,he,hc⟩
    rcases Nat.lt_or_ge e f with q | q
    ·exact⟨e,q,hc⟩
    ·obtain rfl:e=f:=by omega
     obtain⟨e',he',hc'⟩:=hex
     exact⟨e',he',hc'.trans hc⟩
  | false=>
   have hex:¬ ∃g,g<f∧Conn fs g f:=fun q=>by have:=(i1 f).2 q;rw[hmf] at this;cases this
   rw[if_neg hex]
   have hmem:∀g,g∈(growF nr fs.length f m).1↔Conn fs f g:=by
    intro g
    constructor
    ·intro hg;exact(reach_conn hnr f g).1 (hre g hg)
    ·intro hg
     have hnm:∀y,Conn fs f y→m y=false:=by
      intro y hy
      cases hmy:m y with
      | false=>rfl
      | true=>
       exfalso
       obtain⟨e,he,hc⟩:=(i1 y).1 hmy
       exact hex ⟨e,he,hc.trans (hy.symm h)⟩
     have hin:∀y,Conn fs f y→(growF nr fs.length f m).2 y=true→y∈(growF nr fs.length f m).1:=by
      intro y hy h2
      rw[hok.met,hnm y hy] at h2
      simpa using h2
     have hall:∀a b,Conn fs a b→Conn fs f a→a∈(growF nr fs.length f m).1→b∈(growF nr fs.length f m).1:=by
      intro a b hab
      induction hab with
      | refl=>intro _ h3;exact h3
      | @step a g' b hg' hh ih2=>
       intro ha h3
       have hcg:Conn fs f g':=ha.trans (.one hg')
       exact ih2 hcg (hin g' hcg (c2 _ h3 _ ((hnr _ _).2 hg')))
     exact hall f g hg (.refl f) (hin f (.refl f) c1)
   have hne:(growF nr fs.length f m).1≠[]:=fun q=>by
    have:=(hmem f).2 (.refl f)
    rw[q] at this;simp at this
   rw[if_neg hne]
   refine⟨fun g=>?_,?_⟩
   ·show(growF nr fs.length f m).2 g=true↔_
    rw[hok.met]
    simp only[Bool.or_eq_true,List.contains_iff_mem]
    rw[i1,hmem]
    constructor
    ·rintro(⟨e,he,hc⟩ | hc)
     ·exact⟨e,by omega,hc⟩
     ·exact⟨f,by omega,hc⟩
    ·rintro⟨e,he,hc⟩
     rcases Nat.lt_or_ge e f with q | q
     ·exact .inl ⟨e,q,hc⟩
     ·obtain rfl:e=f:=by omega
      exact .inr hc
   ·rw[List.map_append,i2]
    congr 1
    show[sortI (natsI (growF nr fs.length f m).1)]=[compA fs f]
    rw[sort_eq hok.nodup (F:=fs.length) (p:=fun g=>decide (Conn fs f g)) (fun g=>by
     rw[hmem]
     constructor
     ·intro hc;exact⟨conn_lt h (by omega) hc,by simpa using hc⟩
     ·rintro⟨_,hc⟩;simpa using hc)]
    rfl
theorem shells_are (N:Int) (A:Option Addr) (c:Nat) (fs:Fs) (w:World) (hF:RF w A fs) (hR:RightP N fs) :
  Calls Try.prog 54 #[.agg #[.int .i64 N,.slice A fs.length c]] w fun e w'=>(∃v lv,e=.returned v∧FW w.heap.size v (shA fs) (shA fs).length lv w')∧Below w.heap.size w w':=by
 refine(shells_any N A c fs w hF hR).mono ?_
 rintro e w' ⟨⟨v,nl,lv,rfl,h1,h2⟩,h3⟩
 have h4:=(shell_spec hR.2.2.1 (near_of h2) fs.length (Nat.le_refl _)).2
 rw[h4] at h1
 exact⟨⟨v,lv,rfl,h1⟩,h3⟩
end Go.Proofs.Ytealnhaffphamaa
